/- The document's house: a new one; a module is laid in. -/
import Derived.Test.YtkdbjfncchmmpaaGreatMg6
set_option linter.unusedSimpArgs false
set_option linter.unusedVariables false
set_option maxHeartbeats 4000000
set_option maxRecDepth 1000000
open List renaming replicate→al,getElem?_eq_getElem→fr,getElem?_eq_some_iff→fQ,length_append→ff,length_singleton→gM,length_map→fa,length_nil→gf,getD→dz,length_cons→hk,getElem_mem→iX,all_eq_true→jq,getElem?_append_right→mx,zipWith→iy,mem_range→j1,getElem?_cons_zero→mY,append_assoc→k',range→i7,nil_append→lQ,getElem?_append_left→o4,cons_append→m3,getElem?_eq_none→o3,length_eq_zero_iff→pR,getElem?_cons_succ→pS,append_nil→n3,mem_cons→n0,length_take→pN,mem_map→o8,all_cons→pO,getD_cons_zero→sE,drop_length→sw,drop_eq_getElem_cons→va,getElem?_set→tQ,set_cons_zero→vR
open Nat renaming reduceAdd→aq,reduceSub→ar,reduceLeDiff→bW,le_refl→b4,le_trans→e7,zero_add→hH,le_of_eq→qA,one_ne_zero→sd,reduceLT→tG
open Go.IntKind renaming i64→j,wrap→kK
open Option renaming some→o,none→ad,bind_some→c2,map_some→hF,getD_some→rf
open Go.Proofs.Tryz renaming prog→ap
open Bool renaming false→T,true→O,false_eq_true→l9,and_true→pZ
open Int renaming reduceEq→cC,eq_ofNat_of_zero_le→lE,natCast_zero→k6,toNat_natCast→mE
open Go renaming TypeId→a6,Oper→bh,Program→cT,Value→b1,FuncId→c',World→dy,IntKind→gx,lone→e3,Code→fK
open Option.some renaming injEq→hZ,inj→kx
open Prod.mk renaming injEq→kh
open Go.Frame renaming enter→j0
open Go.Region renaming binds→kR
open Iff renaming rfl→nF
namespace Go.Proofs.YtkdbjfncchmmpaaGreat
open Go
variable{M:List bx}{i K fU:Nat}{es:List (List E)}{row:List E}{cN:a0}{ca:bK}{t:e5}{fg:ag}{y:iR}{m:E}{xs:List iR}
section
variable{h F aj:ag}{ae ai aJ aG:Nat->Prop}{L cF:List b6}{X Y c1 qz:b6}{c:hL}{ms:dj}{S:bK}{a1:List (List av)}
theorem aK.cut{α:Type}{M:α->List b6}{Q:α->Prop}(s:aK aj aJ aG h L)(i:Nat)(af:L[i]? =o X)(c:∀ae ai,X.A h ae ai->∃a,Q a/\(cf (M a)).A h ae ai):∃a,Q a/\aK aj aJ aG h (M a++L.eraseIdx i):=by obtain⟨ae,ai,x,gr,a,b⟩:=s;obtain⟨ez,eA,dX,ec,b3,z,r⟩:=(cf.front af).1 x;obtain⟨w,q,y⟩:=c ez eA b3;exact⟨w,q,ae,ai,cf.app.2 ⟨ez,eA,dX,ec,y,z,r⟩,gr,a,b⟩
theorem aK.shut{M:List b6}(s:aK aj aJ aG h (M++L.eraseIdx i))(af:i<L.length)(c:∀h ae ai,(cf M).A h ae ai->X.A h ae ai):aK aj aJ aG h (L.set i X):=by obtain⟨ae,ai,x,gr,a,b⟩:=s;obtain⟨ez,eA,dX,ec,b3,z,r⟩:=cf.app.1 x;exact⟨ae,ai,cf.back af ⟨ez,eA,dX,ec,c _ _ _ b3,z,r⟩,gr,a,b⟩
theorem aK.atp{k D:Nat}(s:aK aj aJ aG h L)(Z:L[k]? =o X)(aa:D<(L.eraseIdx k).length)(c:∀h ae ai,X.A h ae ai->qz.A h ae ai):aK aj aJ aG h ((L.eraseIdx k).set D qz):=by
 have dv:(L.eraseIdx k)[D]? =o (L.eraseIdx k)[D]:=fr aa;generalize (L.eraseIdx k)[D]=Y at dv;have bg:aK aj aJ aG h (Y::qz::(L.eraseIdx k).eraseIdx D):=by obtain⟨ae,ai,x,r⟩:=s;exact⟨ae,ai,yX (rD (λ_ _ _ y=>c _ _ _ y) (λ_ _ _ y=>(cf.front dv).1 y) ((cf.front Z).1 x)),r⟩
 obtain⟨ae,ai,x,r⟩:=bg.drop;exact⟨ae,ai,cf.back aa x,r⟩
abbrev Sn:List (E×E):=[(.e2,.e2),(.e2,.e2),(.e2,.e2),(.e2,.e2)]
abbrev So:List (List av):=[[],[],[],[]]
theorem atq{adZ ad0:b6}(J:adZ.A h (λ_=>False) (λ_=>False))(R:ad0.A h (λ_=>False) (λ_=>False)):(it adZ ad0).A h (λ_=>False) (λ_=>False):=⟨_,_,_,_,J,R,λ_=>by simp,λ_=>by simp,λ_ h=>h.elim,λ_ h=>h.elim⟩
theorem ad1:∀{L:List b6},(∀X∈L,X.A h (λ_=>False) (λ_=>False))->(cf L).A h (λ_=>False) (λ_=>False)
 |[],_=>⟨trivial,λ_ h=>h,λ_ h=>h⟩
 |X::L,aw=>atq (aw X (by simp)) (ad1 λY DJ=>aw Y (by simp[DJ]))
theorem atr{e:a6}:(ju e .aA []).A h (λ_=>False) (λ_=>False):=.inl ⟨⟨rfl,rfl⟩,λ_ h=>h,λ_ h=>h⟩
theorem LL:(rT .aA []).A h (λ_=>False) (λ_=>False):=⟨[],rfl,.inl ⟨⟨rfl,rfl⟩,λ_ h=>h,λ_ h=>h⟩⟩
theorem LM{v:E}:(ng (.e2,v) ad).A h (λ_=>False) (λ_=>False):=⟨rfl,λ_ h=>h,λ_ h=>h⟩
theorem ats(s:aK aj aJ aG h L)(l:Nat):∃F c,aQ ap W 25 [] h=o (.inl (.ptr c.ab 0 0),F)/\aK aj aJ aG F (jM c wx (Dd l) So::bi c.h6 x2::L):=by
 have bg:aK aj aJ aG _ (bi h.n x2::L):=s.add (aB.push h _) acQ (λk Z=>qA Z.symm) (λ_ h=>h.elim);have aV:=bg.push (al 12 [.int j 0]);have br:=aV.push [.ptr h.n 0 0::acS (h.n+1)];have bz:=br.add (aB.refl _) (X:=cf (ju hP .aA []::(iy ng Sn wx++iy rT [.aA,.aA,.aA,.aA] So))) (ad1 λX jg=>by
  simp only[List.zipWith_cons_cons,List.zipWith_nil_left,m3,lQ,n0,List.not_mem_nil,or_false]at jg;rcases jg with rfl|rfl|rfl|rfl|rfl|rfl|rfl|rfl|rfl
  ·exact atr
  ·exact LM
  ·exact LM
  ·exact LM
  ·exact LM
  ·exact LL
  ·exact LL
  ·exact LL
  ·exact LL) (λ_ h=>h.elim) (λ_ h=>h.elim)
 have b8:aK aj aJ aG (((h.push [[E.aA,E.aA]]).push (al 12 [E.int j 0])).push [.ptr h.n 0 0::acS (h.n+1)]) (jM ⟨h.n+1+1,h.n,h.n+1,Sn⟩ wx (Dd l) So::bi h.n x2::L):=by obtain⟨ae,ai,x,r⟩:=bz;refine⟨ae,ai,?_,r⟩;have b3:=rD (λ_ _ _ y=>y) (λ_ _ _ y=>yX y) (yX x);have dH:=E7 (rD (λ_ _ _ y=>y) (λ_ _ _ y=>E7 y) b3);exact rD (λ_ _ _ y=>⟨(.aA,[aU,aU,aU,aU],[.aA,.aA,.aA,.aA]),⟨rfl,⟨_,_,rfl,e6,_,_,rfl,e6,_,_,rfl,e6,_,_,rfl,e6,rfl⟩,rfl⟩,y⟩) (λ_ _ _ y=>y) dH
 refine⟨_,⟨h.n+1+1,h.n,h.n+1,Sn⟩,?_,b8⟩;have mk:∀J:ag,Nt ob [.int j 0] (.int j 12) (.int j 12) J=o (.bn J.n 0 12 ob,J.push (al 12 [.int j 0])):=λJ=>rfl;refine a2 amF rfl ?_;unfold Yj;simp only[ak,aq,ar,al,bW,mk]
abbrev Dl(c:hL)(ms:dj)(S:bK)(a1:List (List av))(a:E×List (List E)×List E):List b6:=aY c.ab [jL c a.1 a.2.1 a.2.2]::aY c.ku (S.cells.map λx=>[.int j x])::ju hP a.1 (S.log.map g0)::(iy ng c.jn ms++iy rT a.2.2 a1)
theorem ad2(s:aK aj aJ aG h L)(i:Nat)(af:L[i]? =o (jM c ms S a1))(aD:ms.length=4)(dx:S.kept.length=4):∃a:E×List (List E)×List E,(l6 h c a.1 a.2.1 a.2.2 ms/\c8 S.kept a.2.1/\c.jn.length=ms.length/\a.2.2.length=a1.length)/\aK aj aJ aG h (Dl c ms S a1 a++L.eraseIdx i):=s.cut i af λae ai x=>by obtain⟨bF,dk,U,f,Z,J,ah,_,y⟩:=Bq x aD dx;exact⟨(bF,dk,U),⟨f,Z,J,ah⟩,y⟩
theorem ad3{a:E×List (List E)×List E}(s:aK aj aJ aG h (Dl c ms S a1 a++L.eraseIdx i))(af:i<L.length)(J:c.jn.length=ms.length)(R:c8 S.kept a.2.1)(ah:a.2.2.length=a1.length):aK aj aJ aG h (L.set i (jM c ms S a1)):=s.shut af λ_ _ _ y=>⟨a,⟨J,R,ah⟩,y⟩
def hL.put(c:hL)(p:Nat)(q:E×E):hL:={c with jn:=c.jn.set p q}
theorem l6.att{bF:E}{dk:List (List E)}{U:List E}(f:l6 h c bF dk U ms){p:Nat}(aH:p<4)(q:E×E):dh (jL c bF dk U) (3+p) [q.1]=jL (c.put p q) bF dk U:=by
 obtain⟨ab,h6,ku,jn⟩:=c;obtain⟨a,b,d,e,rfl⟩:=zz f.dP
 match p,aH with
 |0,_=>simp[dh,hL.put]
 |1,_=>simp[dh,hL.put]
 |2,_=>simp[dh,hL.put]
 |3,_=>simp[dh,hL.put]
theorem ad4{α β LK:Type}{f:α->β->LK}:∀{l:List α} {m:List β} {p:Nat} {a:α} {b:β},(iy f l m).set p (f a b)=iy f (l.set p a) (m.set p b)
 |[],m,p,a,b=>by simp
 |x::l,[],p,a,b=>by cases p<;>simp
 |x::l,y::m,0,a,b=>rfl
 |x::l,y::m,p+1,a,b=>by simp[ad4]
theorem H1(s:aK aj aJ aG h L)(i:Nat)(af:L[i]? =o (jM c ms S a1))(aD:ms.length=4)(dx:S.kept.length=4){v:E}{p:Nat}(aH:p<4)(m:∀h,iP h v M)(c5:M.length<=100000)(aC:∀x∈M,x.size<=100000):∃F ej,aQ ap W 44 [.ptr c.ab 0 0,.int j (p:Int),.agg [v]] h=o (.inl (.int j (e1 M).1),F)/\ej.ab=c.ab/\ej.h6=c.h6/\ej.ku=c.ku/\aK aj aJ aG F (L.set i (if(e1 M).1=0 then jM ej (ms.set p (o M)) {S with kept:=S.kept.set p cv} a1 else jM ej ms S a1)):=by
 have bg:=s.push [[v]];have bt:=(m h).one;have aP:=(bg.cell 0 rfl).1;have pt:=aoR (h:=h.push [[v]]) v M m c5 aC;have aV:aK aj aJ aG _ (aY (h.n+1) [[.int j (e1 M).1,.int j (e1 M).2]]::aY h.n [[v]]::L):=bg.push [[.int j (e1 M).1,.int j (e1 M).2]];have bu:=(aV.cell 0 rfl).1;have cd:=(aV.cell 1 rfl).1;have d1:decide ((p:Int)<0)=T:=decide_eq_false (by omega);have d2:decide (4<=(p:Int))=T:=decide_eq_false (by omega);have h':i<L.length:=(fQ.1 af).1;by_cases aN:(e1 M).1=0
 ·have d3:decide ((e1 M).1=0)=O:=decide_eq_true aN;obtain⟨bj,ad5,⟨cn,xe,rfl,hN,vD⟩⟩:=aow (h:=(h.push [[v]]).push [[.int j (e1 M).1,.int j (e1 M).2]]) v M m c5 aC;have py:=(iP.of (h:=h) hN vD).one;have br:aK aj aJ aG _ (aY (h.n+1+1) [[cn]]::aY (h.n+1) [[.int j (e1 M).1,.int j (e1 M).2]]::aY h.n [[v]]::L):=aV.push [[cn]];obtain⟨a,⟨f,Z,J,ah⟩,bz⟩:=ad2 br (i+1+1+1) af aD dx;have hlen:=f.len;have bY:=lc (n:=1) (x:=.ptr (h.n+1+1) 0 0) (off:=3+p) (i:=0) f.cell rfl rfl rfl (by omega);rw[show(E.ptr (h.n+1+1) 0 0).cells=[(E.ptr (h.n+1+1) 0 0,cn).1] from rfl,f.att aH (.ptr (h.n+1+1) 0 0,cn),vR]at bY;have b8:=bz.set 0 rfl [jL (c.put p (.ptr (h.n+1+1) 0 0,cn)) a.1 a.2.1 a.2.2];have f5:l6 (((h.push [[v]]).push [[.int j (e1 M).1,.int j (e1 M).2]]).push [[cn]]) c a.1 a.2.1 a.2.2 ms:=f;have cU:=lc (n:=3) (x:=.agg aU) (off:=7+p*3) (i:=0) (b8.cell 0 rfl).1 rfl rfl rfl (by simp only[hk,ff,fa,hL.put,List.length_set,f.dP];obtain⟨_,_,_,_,_,_,_,_,_,_,_,_,wk⟩:=Dk f.dx f.eb;rw[wk];simp;omega);have bS:dh (jL (c.put p (.ptr (h.n+1+1) 0 0,cn)) a.1 a.2.1 a.2.2) (7+p*3) (E.agg aU).cells=jL (c.put p (.ptr (h.n+1+1) 0 0,cn)) a.1 (a.2.1.set p aU) a.2.2:=by
   obtain⟨ab,h6,ku,jn⟩:=c;obtain⟨mH,cL,c3,hY,rfl⟩:=zz f.dP;obtain⟨_,_,_,_,_,_,_,_,_,_,_,_,wk⟩:=Dk f.dx f.eb;rw[wk]
   match p,aH with
   |0,_=>simp[dh,hL.put,E.cells]
   |1,_=>simp[dh,hL.put,E.cells]
   |2,_=>simp[dh,hL.put,E.cells]
   |3,_=>simp[dh,hL.put,E.cells]
  rw[bS,vR]at cU;have cM:=b8.set 0 rfl [jL (c.put p (.ptr (h.n+1+1) 0 0,cn)) a.1 (a.2.1.set p aU) a.2.2];have fg:(Dl c ms S a1 a).length=3+(4+a1.length):=by simp only[hk,ff,List.length_zipWith,J,aD,ah,Nat.min_self];omega
  generalize axK:((((h.push [[v]]).push [[.int j (e1 M).1,.int j (e1 M).2]]).push [[cn]]).set c.ab (o [jL (c.put p (.ptr (h.n+1+1) 0 0,cn)) a.1 a.2.1 a.2.2])).set c.ab (o [jL (c.put p (.ptr (h.n+1+1) 0 0,cn)) a.1 (a.2.1.set p aU) a.2.2])=Sp at*;have cM:aK aj aJ aG Sp ((aY c.ab [jL (c.put p (.ptr (h.n+1+1) 0 0,cn)) a.1 (a.2.1.set p aU) a.2.2]::aY c.ku (S.cells.map λx=>[.int j x])::ju hP a.1 (S.log.map g0)::(iy ng c.jn ms++iy rT a.2.2 a1))++(aY (h.n+1+1) [[cn]]::(aY (h.n+1) [[.int j (e1 M).1,.int j (e1 M).2]]::aY h.n [[v]]::L.eraseIdx i))):=cM;generalize q':(aY (h.n+1) [[.int j (e1 M).1,.int j (e1 M).2]]::aY h.n [[v]]::L.eraseIdx i)=B at cM;have sO:(iy ng c.jn ms).length=4:=by simp[J,aD]
  have eM:aK aj aJ aG Sp ((aY c.ab [jL (c.put p (.ptr (h.n+1+1) 0 0,cn)) a.1 (a.2.1.set p aU) a.2.2]::aY c.ku (S.cells.map λx=>[.int j x])::ju hP a.1 (S.log.map g0)::(iy ng (c.jn.set p (.ptr (h.n+1+1) 0 0,cn)) (ms.set p (o M))++iy rT a.2.2 a1))++B):=by
   generalize zh:(aY c.ab [jL (c.put p (.ptr (h.n+1+1) 0 0,cn)) a.1 (a.2.1.set p aU) a.2.2]::aY c.ku (S.cells.map λx=>[.int j x])::ju hP a.1 (S.log.map g0)::(iy ng c.jn ms++iy rT a.2.2 a1))=A at cM;have QN:A.length=3+(4+a1.length):=by rw[<-zh,<-fg];simp
   have t:=cM.atp (k:=A.length) (D:=3+p) (qz:=ng (.ptr (h.n+1+1) 0 0,cn) (o M)) (by rw[mx (b4 _),Nat.sub_self];rfl) (by rw[List.length_eraseIdx];split<;>simp<;>omega) λ_ _ _ y=>⟨(h.n+1+1,xe),⟨rfl,hN,vD⟩,y⟩;rw[List.eraseIdx_append_of_length_le (b4 _),Nat.sub_self,List.eraseIdx_cons_zero,List.set_append_left _ _ (by omega),<-zh]at t;rw[show 3+p=p+1+1+1 by omega,List.set_cons_succ,List.set_cons_succ,List.set_cons_succ,List.set_append_left _ _ (by omega),ad4]at t;exact t
  rw[<-q']at eM;have g8:=ad3 (L:=aY (h.n+1) [[.int j (e1 M).1,.int j (e1 M).2]]::aY h.n [[v]]::L) (i:=i+1+1) (c:=c.put p (.ptr (h.n+1+1) 0 0,cn)) (ms:=ms.set p (o M)) (S:={S with kept:=S.kept.set p cv}) (a:=(a.1,a.2.1.set p aU,a.2.2)) eM (by simp only[hk];omega) (by simp[hL.put,J]) (Z.set e6 p) ah;have atu:∀q:gx,dO ad (o (4,1)) (.ptr c.ab 0 3) (.int q (p:Int))=o (.ptr c.ab 0 (3+p)):=λq=>by simp[dO,aH]
  have atv:∀q:gx,dO ad (o (4,3)) (.ptr c.ab 0 7) (.int q (p:Int))=o (.ptr c.ab 0 (7+p*3)):=λq=>by simp[dO,aH]
  have f1:b5 3 (.ptr c.ab 0 0)=o (.ptr c.ab 0 3):=rfl;have f2:b5 7 (.ptr c.ab 0 0)=o (.ptr c.ab 0 7):=rfl;refine⟨Sp,c.put p (.ptr (h.n+1+1) 0 0,cn),?_,rfl,rfl,rfl,?_⟩
  rotate_left
  ·rw[if_pos aN];exact g8.drop.drop
  rw[aN]at pt bu cd ad5 bY cU ⊢;refine a2 JF rfl ?_;unfold Fx;simp only[ak,aq,ar,al,bJ,bt,aP,pt,bu,cd,d1,d2,ad5,py,atu,atv,f1,f2,bY,cU]
 ·have d3:decide ((e1 M).1=0)=T:=decide_eq_false aN;refine⟨_,c,?_,rfl,rfl,rfl,by rw[if_neg aN,acR af];exact aV.drop.drop⟩;refine a2 JF rfl ?_;unfold Fx;simp only[ak,aq,ar,al,bJ,bt,aP,pt,bu,d1,d2,d3]
end
open Go Go.RowKit
section
variable{P:cT}{W:h8}{f:c'}{n aL:Nat}{bb:List Nat}{h F R ah:ag}{V ga:List E}{args:List E}{all:Array bh}
theorem cc.ad6{m:eh}{w:dy}(hw:cc P m h w){b:Nat}(ab:h.cell b=o es):∃a9,Ext m h a9 (h.set b ad)/\cc P a9 (h.set b ad) w:=by obtain⟨cs,aP,_⟩:=hw.live b es ab;obtain⟨a9,x,y,_⟩:=hw.still ab aP;exact⟨a9,x,y⟩
theorem nI.atw(dg:l' P W){fn:Func}{rs:List n5}{id:Nat}{c C cF:fK}{ad7 ad8:List be}{v:E}{cg dw:Nat}(an:c= .seq (.seq (.region id all O) C) cF)(p:nI P W f n bb args h (.halt [.code c]) V R)(bl:P.funcs[f]? =o fn)(kH:pX P bb fn.results.toList=o rs)(vJ:((i7 all.size).all λD=>(all.getD D default).after.all λe=> !kR .any e||decide (e.on<D))=O)(pr:bb.Nodup/\∀D s,bb[D]? =o s->(D<aL↔s<W.aL f))(m0:ye (W.e9 f) all=O)(atx:g5 P (W.a' f) (W.cz f) n bb C []=o ad7)(aty:iz (W.cz f) (W.e9 f) C=O)(atz:g5 P (W.a' f) (W.cz f) n bb cF []=o ad8)(atA:iz (W.cz f) (W.e9 f) cF=O)(J:∀L,lq all (λ_ _=>False) (md all) L->∃(dq:Nat->Nat->Prop) (pl:List (Nat×List Nat)) (bN:List ay) (GH oq vm:List E) (q' tR hi:ag) (ad9 xe:List (List E)),lq all dq (md all) L/\ta all pl (λ_=>T) dq/\nx P (W.a' f) n bb all [] (jf O all pl)=o bN/\bB (aQ P W) aL [.ops bN,.halt [.code C,.code cF]] V [] R=o (.halt [.code C,.code cF],GH,q')/\bB (aQ P W) aL [.bP ad7,.halt [.code cF]] GH [] q'=o (.halt [.code cF],oq,tR)/\bB (aQ P W) aL [.bP ad8,.halt []] oq [] tR=o (.ret,vm,hi)/\hi.cell cg=o ad9/\(hi.set cg ad).cell dw=o xe/\(hi.set cg ad).set dw ad=ah/\(iF vm ah rs).map iV=o v):AC P f args h (.inl v,ah):=by
 intro m w bA hw fl cs;obtain⟨fc,t2,ad',atB,fW,cx,cL,cY,b3,dH,f',aR,hI,ha,jw⟩:=p m w bA hw fl cs;subst an;obtain⟨L,gC,bM,bL,de,fv⟩:=Yq (P:=P) (all:=all) (id:=id) (b:=fc) (a:=aR) (K:=[.code C,.code cF]) (cs:=cs) (w:=cY) dg (λD aa e he ab=>by rw[jq]at vJ;have:=vJ D (j1.2 aa);rw[Array.all_eq_true']at this;have:=this e he;simpa[ab]using this);obtain⟨dq,pl,bN,GH,oq,vm,q',tR,hi,ad9,xe,au,ax,bc,bY,cU,lB,km,om,oo,C1⟩:=J L bM;obtain⟨dF,aH,uE⟩:=Yp (K:=[.code C,.code cF]) dg ax m0 pr bc bY cx;obtain⟨hY,ht,fs,jy,kI,bp,nu,mc,su⟩:=aH cL gC aR fc cs L au (de _ _ dH) hI ha;obtain⟨axL,atC,atD⟩:=v7 dg pr atx aty cU uE;obtain⟨dP,gH,eD,fR,hl,cA,lS,kj,nc⟩:=atC hY ht bp fc cs jy nu mc;obtain⟨axM,atE,atF⟩:=v7 dg pr atz atA lB atD;obtain⟨rK,fI,jr,jR,xb,et,todo,Nb,zA,CW⟩:=atE dP gH cA fc cs fR lS kj;obtain⟨xK,cE,c6⟩:=jR.ad6 km;obtain⟨AW,eb,dx⟩:=c6.ad6 om;rw[oo]at eb dx;rw[fW]at zA;obtain⟨u,xU,Sq⟩:=yq dx ((Nb.ext cE).ext eb) (PB (h:=ah) kH atF C1);have Sr:cL.base=m.base:=b3.base;have aea:hY.base=cL.base:=fs.base;have atG:dP.base=hY.base:=eD.base;have kI:Below m.base gC ht:=by rw[<-Sr];exact kI
 have hl:Below m.base ht gH:=by rw[<-Sr,<-aea];exact hl
 have xb:Below m.base gH fI:=by rw[<-Sr,<-aea,<-atG];exact xb
 have st:Steps P (e3 (j0 P f bA.toArray .normal) cs w) (e3 {fc.at et todo with mode:=.returning} cs fI):=jw.trans ((Steps.one step_seq).trans ((Steps.one step_seq).trans (bL.trans (su.trans (nc.trans CW)))));exact⟨.returned u,fI,_,⟨AW,((((b3.trans fs).trans eD).trans jr).trans cE).trans eb,dx,(((f'.trans (fv _)).trans kI).trans hl).trans xb,u,rfl,Sq⟩,st,ad',rfl,zA,atB,_,by simp[Frame.at,ad',bl],xU⟩
end
abbrev jN:c':=65
noncomputable def Dm:fK:=Tryz.f65.body.getD .skip
noncomputable abbrev zB:fK:=gK Dm
noncomputable abbrev Br:fK:=gK zB
noncomputable abbrev sF:fK:=gK Br
theorem LN:(ap).funcs[jN]? =o Tryz.f65:=Tryz.func65
theorem aeb:Tryz.f65.body=o Dm:=rfl
theorem aec:Tryz.f65.ntmps=51:=rfl
theorem aed:Dm= .seq (ep Dm) zB:=rfl
theorem LE:zB= .seq (ep zB) Br:=rfl
theorem atH:Br= .seq (ep Br) sF:=rfl
abbrev vq:List Nat:=[0,1,2,3,5,8,9,11,17,25,26,28]
theorem aee:pX ap vq Tryz.f65.results.toList=o [.cell O 5 5]:=by kernel_rfl
theorem Dn:tj 4 51 (W.aL jN) 12 vq=O:=by kernel_rfl
theorem aef:g5 ap (W.a' jN) (W.cz jN) 51 vq (ep Dm) []=o N4:=by kernel_rfl
theorem aeg:g5 ap (W.a' jN) (W.cz jN) 51 vq (ep zB) []=o N5:=by kernel_rfl
theorem atI:g5 ap (W.a' jN) (W.cz jN) 51 vq (ep Br) []=o Vs:=by kernel_rfl
theorem atJ:g5 ap (W.a' jN) (W.cz jN) 51 vq (gK (ep sF)) []=o N':=by kernel_rfl
theorem atK:g5 ap (W.a' jN) (W.cz jN) 51 vq (gK sF) []=o Oc:=by kernel_rfl
theorem aeh:iz (W.cz jN) (W.e9 jN) (ep Dm)=O:=by kernel_rfl
theorem aei:iz (W.cz jN) (W.e9 jN) (ep zB)=O:=by kernel_rfl
theorem atL:iz (W.cz jN) (W.e9 jN) (ep Br)=O:=by kernel_rfl
theorem atM:iz (W.cz jN) (W.e9 jN) (gK (ep sF))=O:=by kernel_rfl
theorem atN:iz (W.cz jN) (W.e9 jN) (gK sF)=O:=by kernel_rfl
noncomputable abbrev sP:Array bh:=mj (ep (ep sF))
theorem atO:sF= .seq (.seq (.region 4 sP O) (gK (ep sF))) (gK sF):=rfl
theorem atP:((i7 sP.size).all λD=>(sP.getD D default).after.all λe=> !kR .any e||decide (e.on<D))=O:=by kernel_rfl
theorem atQ:ye (W.e9 jN) sP=O:=by kernel_rfl
def Ss:List (Nat×List Nat):=[(0,[]),(1,[]),(2,[]),(3,[])]
def St:List (Nat×List Nat):=[(0,[]),(2,[]),(1,[]),(3,[])]
theorem atS:wR [(1,2)] sP Ss=O:=by kernel_rfl
theorem atT:wR [(2,1)] sP St=O:=by kernel_rfl
theorem atU:nx ap (W.a' jN) 51 vq sP [] (jf O sP Ss)=o N7:=by kernel_rfl
theorem atV:nx ap (W.a' jN) 51 vq sP [] (jf O sP St)=o N9:=by kernel_rfl
theorem atW:sP.size=4:=by kernel_rfl
theorem aej(x y z u:E):g6 51 vq [] ([x,y,z,u]++al (51 - [x,y,z,u].length) .az) ([x,y,z,u]++al (vq.length - [x,y,z,u].length) .az) []:=by
 refine⟨by simp,rfl,rfl,λD s aa=>?_,λD s aa=>by simp at aa⟩
 match D,aa with
 |0,aa|1,aa|2,aa|3,aa|4,aa|5,aa|6,aa|7,aa|8,aa|9,aa|10,aa|11,aa=>obtain rfl:=kx aa;exact⟨by decide,rfl⟩
 |D+12,aa=>simp at aa
section
variable{h:ag}
abbrev tZ:List E:=[.int j 0,.int j 0,.int j 0,.int j 0,.aA]
theorem aek{args:List E}{F:ag}{v:E}(U:IB args h=o (v,F))(ia:AC ap jN args h (.inl v,F)):aQ ap W jN args h=o (.inl v,F):=by unfold aQ;rw[ak9];simp only[IC,U];rw[if_pos ia]
theorem atX{ab:Nat}{x:List E}(aw:x.length=9/\x.all E.one=O){n c:Int}(an:c≠0):aQ ap W jN [.ptr ab 0 0,.agg x,.int j n,.int j c] h=o (.inl (.agg [.int j c,.int j 0,.int j 0,.int j 0,.aA]),(h.push [x]).push [[.int j c,.int j 0,.int j 0,.int j 0,.aA]]):=by refine aek (by simp only[IB];rw[if_pos an]) ?_;have d:decide (c=0)=T:=decide_eq_false an;have d':=nI.start (W:=W) (h:=h) LN aeb aec (aej (.ptr ab 0 0) (.agg x) (.int j n) (.int j c));have dA:=d'.next (aL:=12) (x:=.halt [.code zB]) (ga:=[.ptr ab 0 0,.agg x,.int j n,.int j c,.ptr h.n 0 0,.ptr (h.n+1) 0 0,.az,.az,.az,.az,.az,.az]) (ah:=(h.push [x]).push [tZ]) dg aed (lk Dn) aef aeh (by unfold N4;have ab:= @Eh (aQ (ap) W) 12;simp only[ak,aq,ar,al,aw.1,aw.2]);have ft:=dA.next (aL:=12) (x:=.ret) (ga:=[.ptr ab 0 0,.agg x,.int j n,.int j c,.ptr h.n 0 0,.ptr (h.n+1) 0 0,.az,.bool O,.az,.az,.az,.az]) (ah:=(h.push [x]).push [[.int j c,.int j 0,.int j 0,.int j 0,.aA]]) dg LE (lk Dn) aeg aei (by unfold N5;simp only[ak,aq,bW,d]);exact ft.ret LN aee (by simp only[ak,aq])
def jU(I:Option Nat)(h:ag):ag:=match I with
 |none=>h
 |some b=>h.set b ad
theorem Su{I:Option Nat}:(jU I h).n=h.n:=by cases I<;>rfl
structure ael(h:ag)(s:E)(k:Nat)(I:Option Nat)(rows:List (List E)):Prop where
 len:rows.length=k
 one:s.one=O/\hX s=o k/\∀q,j3 q (o bG) s=O
 lt:∀b,I=o b->b<h.n
 app:∀X:ag,(∀D,D<h.n->X.cell D=h.cell D)->∀(jF:Nat) (r:List E),X.cell jF=o [r]->r.all E.one=O->eU O bG s (.bn jF 0 1 bG) X=o (.bn X.n 0 (k+1) bG,(jU I X).push (rows++[r]))
theorem atY{ae ai:Nat->Prop}{v:E}{l:List av}(x:(h4 v l).A h ae ai)(am:l.length<=1000000):∃I rows,ael h v l.length I rows:=by
 have lb:=LB x;obtain⟨rows,U,x⟩:=x;have hlen:=U.len;have aX:∀(s:E) (X:ag) (jF:Nat) (r:List E),X.cell jF=o [r]->eU O bG s (.bn jF 0 1 bG) X=jX O bG s [r] X:=λs X jF r aN=>by
  have he:iT X bG (.bn jF 0 1 bG)=o [r]:=by simp[iT,aN]
  simp only[eU,he,c2,gM];rw[if_neg (by decide)]
 rcases x with⟨⟨rfl,rfl⟩,au,ax⟩|⟨⟨b,es⟩,⟨rfl,J,R⟩,aR,a5,bp,cA⟩
 ·have s6:l=[]:=pR.1 (by simpa using hlen.symm);subst s6;refine⟨ad,[],rfl,⟨rfl,rfl,λ_=>rfl⟩,λ_ e=>(by cases e),λX jg jF r aN ao=>?_⟩;have ao:([r].all λx=>x.all E.one)=O:=by simp only[pO,List.all_nil,pZ];exact ao
  rw[aX _ _ _ _ aN];simp only[jX];rw[if_pos ⟨by simp,by simp,ao⟩];rfl
 ·simp only at J R aR bp cA;refine⟨o b,es.take l.length,by rw[pN,Nat.min_eq_left (by omega)],⟨lb.one,lb.len,lb.fits⟩,λ_ e=>(by cases e;exact bp),λX jg jF r aN ao=>?_⟩;have ao:([r].all λx=>x.all E.one)=O:=by simp only[pO,List.all_nil,pZ];exact ao
  rw[aX _ _ _ _ aN];simp only[jX];rw[if_pos ⟨by simp,by simp,ao⟩,if_pos ⟨trivial,trivial,by omega⟩,jg b bp,cA,c2,if_pos J,hlen];rfl
theorem atZ{H:ag}{ab bH:Nat}{I:Option Nat}{rows:List (List E)}{cF dq:Option (List (List E))}{z v:List E}(J:ab<H.n)(R:bH<H.n)(ah:∀b,I=o b->b<H.n):(((((((jU I ((H.push [[.bool O]]).push [z])).push (rows++[z])).set ab cF).set (H.n+1+1) (o (rows++[v]))).set bH dq).set H.n ad).set (H.n+1) ad)=((((((jU I ((H.push [[.bool T]]).push [v])).push (rows++[v])).set ab cF).set bH dq).set H.n ad).set (H.n+1) ad):=by
 cases I with
 |none=>
   simp only[jU,ag.push,ag.set,ag.mk.injEq,true_and,and_true];funext D;by_cases au:D=H.n+1
   ·simp[au]
   ·by_cases ax:D=H.n
    ·simp[ax]
    ·by_cases bc:D=bH
     ·subst bc;simp[au,ax]
     ·by_cases bY:D=H.n+1+1
      ·subst bY;simp[bc,show ¬H.n+1+1=ab by omega]
      ·simp[au,ax,bc,bY]
 |some b=>
   have k9:=ah b rfl;simp only[jU,ag.push,ag.set,ag.mk.injEq,true_and,and_true];funext D;by_cases au:D=H.n+1
   ·simp[au]
   ·by_cases ax:D=H.n
    ·simp[ax]
    ·by_cases bc:D=bH
     ·subst bc;simp[au,ax]
     ·by_cases bY:D=H.n+1+1
      ·subst bY;simp[bc,show ¬H.n+1+1=ab by omega]
      ·simp[au,ax,bc,bY]
abbrev rU(h:ag)(x:List E)(n:Int):ag:=((((h.push [x]).push [tZ]).push [[.int j 4,.int j n,.aA]]).push [[.bool T]]).push [[.int j 4,.int j n,.aA]]
abbrev rV(n:Int):List E:=[.int j 0,.int j 0,.int j 4,.int j n,.aA]
def Bs(h:ag)(x:List E)(n:Int)(ab:Nat)(I:Option Nat)(rows:List (List E))(row:List E):ag:=(((((jU I (rU h x n)).push (rows++[[.int j 4,.int j n,.aA]])).set ab (o [row])).set (h.n+1) (o [rV n])).set (h.n+1+1+1) ad).set (h.n+1+1+1+1) ad
theorem at0{v:E}(af:i<row.length):dh row i [v]=row.set i v:=by unfold dh;rw[List.set_eq_take_append_cons_drop,if_pos af];simp
theorem at1{ab:Nat}{x:List E}{s:E}{D k:Nat}{I:Option Nat}{rows:List (List E)}{n:Int}(aw:x.length=9/\x.all E.one=O)(xh:x[1]? =o (.int j (D:Int)))(aa:D<4)(hE:ab<h.n)(an:h.cell ab=o [row])(gP:row.length=23)(aC:row[19+D]? =o s)(x6:ael h s k I rows)(Z:k<=1000000)(aF:∀b,I=o b->b<h.n/\b≠ab):aQ ap W jN [.ptr ab 0 0,.agg x,.int j n,.int j 0] h=o (.inl (.agg (rV n)),Bs h x n ab I rows (row.set (19+D) (.bn (h.n+1+1+1+1+1) 0 (k+1) bG))):=by
 have pl:∀{X:ag} {es:List (List E)} {i:Nat},i<X.n->(X.push es).cell i=X.cell i:=λaf=>tk (Nat.ne_of_lt af);have au:=x6.app (rU h x n) (λi af=>by unfold rU;rw[pl (by simp only[ey];omega),pl (by simp only[ey];omega),pl (by simp only[ey];omega),pl (by simp only[ey];omega),pl af]) (h.n+1+1+1+1) [.int j 4,.int j n,.aA] iG rfl;refine aek ?_ ?_
 ·simp only[IB,xh,an,mE,aC,c2,ne_eq,not_true_eq_false,if_false];show Option.map _ (eU O bG s (.bn (h.n+1+1+1+1) 0 1 bG) (rU h x n))=_;rw[au];rfl
 have d:decide ((0:Int)=0)=O:=rfl;have axN:= @Eh (aQ (ap) W) 12;have d':=nI.start (W:=W) (h:=h) LN aeb aec (aej (.ptr ab 0 0) (.agg x) (.int j n) (.int j 0));have dA:=d'.next (aL:=12) (x:=.halt [.code zB]) (ga:=[.ptr ab 0 0,.agg x,.int j n,.int j 0,.ptr h.n 0 0,.ptr (h.n+1) 0 0,.az,.az,.az,.az,.az,.az]) (ah:=(h.push [x]).push [tZ]) dg aed (lk Dn) aef aeh (by unfold N4;simp only[ak,aq,ar,al,aw.1,aw.2]);have ft:=dA.next (aL:=12) (x:=.halt [.code Br]) (ga:=[.ptr ab 0 0,.agg x,.int j n,.int j 0,.ptr h.n 0 0,.ptr (h.n+1) 0 0,.az,.bool T,.az,.az,.az,.az]) (ah:=(h.push [x]).push [tZ]) dg LE (lk Dn) aeg aei (by unfold N5;simp only[ak,aq,bW]);have iM:=ft.next (aL:=12) (x:=.halt [.code sF]) (ga:=[.ptr ab 0 0,.agg x,.int j n,.int j 0,.ptr h.n 0 0,.ptr (h.n+1) 0 0,.ptr (h.n+1+1) 0 0,.bool T,.az,.az,.az,.az]) (ah:=((h.push [x]).push [tZ]).push [[.int j 4,.int j n,.aA]]) dg atH (lk Dn) atI atL (by unfold Vs;simp only[ak,aq,bW]);generalize Dp:((h.push [x]).push [tZ]).push [[.int j 4,.int j n,.aA]]=eO at*;have ll:eO.n=h.n+1+1+1:=by rw[<-Dp];rfl
 have hy:eO.cell h.n=o [x]:=by rw[<-Dp,pl (by simp only[ey];omega),pl (by simp only[ey];omega),iG]
 have cE:eO.cell (h.n+1)=o [tZ]:=by rw[<-Dp,pl (by simp only[ey];omega)];exact iG
 have c6:eO.cell (h.n+1+1)=o [[.int j 4,.int j n,.aA]]:=by rw[<-Dp];exact iG
 have fe:∀i,i<h.n->eO.cell i=h.cell i:=λi af=>by rw[<-Dp,pl (by simp only[ey];omega),pl (by simp only[ey];omega),pl af]
 have eb:eO.cell ab=o [row]:=(fe ab hE).trans an;have x7:∀(b:Bool) (z:List E) (i:Nat),i<eO.n->((eO.push [[.bool b]]).push [z]).cell i=eO.cell i:=λb z i af=>by rw[pl (by simp only[ey];omega),pl af]
 have zi:∀(b:Bool) (i:Nat),i<eO.n->(eO.push [[.bool b]]).cell i=eO.cell i:=λb i af=>pl af;have aem:∀(b:Bool) (z:List E),z.all E.one=O->eU O bG s (.bn (eO.n+1) 0 1 bG) ((eO.push [[.bool b]]).push [z])=o (.bn (eO.n+1+1) 0 (k+1) bG,(jU I ((eO.push [[.bool b]]).push [z])).push (rows++[z])):=λb z aN=>
  x6.app ((eO.push [[.bool b]]).push [z]) (λi af=>by rw[x7 b z i (by omega),fe i af]) (eO.n+1) z iG aN
 have aen:∀(b:Bool) (z:List E) (i:Nat),i<eO.n->I≠o i->((jU I ((eO.push [[.bool b]]).push [z])).push (rows++[z])).cell i=eO.cell i:=λb z i af at2=>by
  have:(jU I ((eO.push [[.bool b]]).push [z])).n=eO.n+1+1:=Su;rw[pl (by omega)];cases I with
  |none=>exact x7 b z i af
  |some q=>simp only[jU,ag.set];rw[if_neg (λe=>at2 (by rw[e]))];exact x7 b z i af
 have on:∀i,h.n<=i->I≠o i:=λi af e=>by have:=(aF i e).1;omega
 have nM:I≠o ab:=λe=>(aF ab e).2 rfl;have aeo:b5 19 (.ptr ab 0 0)=o (.ptr ab 0 19):=rfl;have bV:∀q:gx,dO ad (o (4,1)) (.ptr ab 0 19) (.int q (D:Int))=o (.ptr ab 0 (19+D)):=λq=>by simp[dO,aa]
 have i6:∀(X:ag),X.cell ab=o [row]->cS T 1 X (.ptr ab 0 (19+D))=o s:=λX jg=>by rw[fL,jg,c2,mY,c2,gi];exact aC
 have t':∀(X:ag),X.cell h.n=o [x]->cS T 1 X (.ptr h.n 0 1)=o (.int j (D:Int)):=λX jg=>by rw[fL,jg,c2,mY,c2,gi];exact xh
 have aep:b5 1 (.ptr h.n 0 0)=o (.ptr h.n 0 1):=rfl;have bF:∀(X:ag),X.cell (h.n+1+1)=o [[.int j 4,.int j n,.aA]]->cS O 3 X (.ptr (h.n+1+1) 0 0)=o (.agg [.int j 4,.int j n,.aA]):=λX jg=>by rw[fL,jg,c2,mY,c2];rfl
 have st:∀(X:ag),X.cell ab=o [row]->eQ 1 X (.ptr ab 0 (19+D)) (.bn (eO.n+1+1) 0 (k+1) bG)=o (X.set ab (o [row.set (19+D) (.bn (eO.n+1+1) 0 (k+1) bG)])):=λX jg=>by rw[lc (n:=1) (x:=.bn (eO.n+1+1) 0 (k+1) bG) (es:=[row]) (e:=row) (i:=0) jg rfl rfl rfl (by omega)];rw[show(E.bn (eO.n+1+1) 0 (k+1) bG).cells=[.bn (eO.n+1+1) 0 (k+1) bG] from rfl,at0 (by omega)];rfl
 have kf:∀(oq:List E) (tR:ag),oq.length=12->oq[5]? =o (.ptr (h.n+1) 0 0)->oq[6]? =o (.ptr (h.n+1+1) 0 0)->tR.cell (h.n+1)=o [tZ]->tR.cell (h.n+1+1)=o [[.int j 4,.int j n,.aA]]->bB (aQ ap W) 12 [.bP Oc,.halt []] oq [] tR=o (.ret,oq,tR.set (h.n+1) (o [rV n])):=λoq tR am bo b9 aP bu=>by
  match oq,am with
  |[iq,dL,cn,hB,du,b7,dd,eB,fi,gJ,fz,hs],_=>
    obtain rfl:b7= .ptr (h.n+1) 0 0:=by simpa using bo
    obtain rfl:dd= .ptr (h.n+1+1) 0 0:=by simpa using b9
    unfold Oc;simp only[ak,aq,aP,bF tR bu]
 refine nI.atw (aL:=12) (cg:=h.n+1+1+1) (dw:=h.n+1+1+1+1) dg atO iM LN aee atP (lk Dn) atQ atJ atM atK atN λL c5=>?_;have eJ:(md sP).size=sP.size:=by simp
 have yF:∀(b:Bool) (z:List E),((jU I ((eO.push [[.bool b]]).push [z])).push (rows++[z])).cell eO.n=o [[.bool b]]/\((jU I ((eO.push [[.bool b]]).push [z])).push (rows++[z])).cell (eO.n+1)=o [z]/\((jU I ((eO.push [[.bool b]]).push [z])).push (rows++[z])).cell (eO.n+1+1)=o (rows++[z]):=λb z=>by
  have aE:(jU I ((eO.push [[.bool b]]).push [z])).n=eO.n+1+1:=Su;have g:∀i,h.n<=i->(jU I ((eO.push [[.bool b]]).push [z])).cell i=((eO.push [[.bool b]]).push [z]).cell i:=λi af=>by
   cases I with
   |none=>rfl
   |some q=>exact eu λe=>on i af (by rw[e])
  refine⟨?_,?_,?_⟩
  ·rw[pl (by omega),g _ (by omega),pl (by simp only[ey];omega),iG]
  ·rw[pl (by omega),g _ (by omega)];exact iG
  ·rw[<-aE];exact iG
 have mT:ab≠h.n+1:=by omega
 have LO:Bs h x n ab I rows (row.set (19+D) (.bn (h.n+1+1+1+1+1) 0 (k+1) bG))=(((((jU I ((eO.push [[.bool T]]).push [[.int j 4,.int j n,.aA]])).push (rows++[[.int j 4,.int j n,.aA]])).set ab (o [row.set (19+D) (.bn (eO.n+1+1) 0 (k+1) bG)])).set (h.n+1) (o [rV n])).set eO.n ad).set (eO.n+1) ad:=by unfold Bs rU;rw[ll,Dp]
 have axO:(iF [.ptr ab 0 0,.agg x,.int j n,.int j 0,.ptr h.n 0 0,.ptr (h.n+1) 0 0] (Bs h x n ab I rows (row.set (19+D) (.bn (h.n+1+1+1+1+1) 0 (k+1) bG))) [.cell O 5 5]).map iV=o (.agg (rV n)):=by
  have:(Bs h x n ab I rows (row.set (19+D) (.bn (h.n+1+1+1+1+1) 0 (k+1) bG))).cell (h.n+1)=o [rV n]:=by rw[LO,eu (by omega),eu (by omega),k1]
  simp only[ak,aq,this]
 have cut:∀(vm:List E) (X:ag),vm.length=12->vm[5]? =o (.ptr (h.n+1) 0 0)->X.cell (h.n+1)=o [rV n]->(iF vm X [.cell O 5 5]).map iV=o (.agg (rV n)):=λvm X am bo jg=>by
  match vm,am with
  |[iq,dL,cn,hB,du,b7,dd,eB,fi,gJ,fz,hs],_=>
    obtain rfl:b7= .ptr (h.n+1) 0 0:=by simpa using bo
    simp only[ak,aq,jg]
 have aeq:(Bs h x n ab I rows (row.set (19+D) (.bn (h.n+1+1+1+1+1) 0 (k+1) bG))).cell (h.n+1)=o [rV n]:=by rw[LO,eu (by omega),eu (by omega),k1]
 rcases DZ (x:=1) (y:=2) (by decide) (by rw[atW];decide) c5 eJ (pW _) (pW _)with bt|bt
 ·have bM:=t' _ ((zi T h.n (by omega)).trans hy);have bL:=i6 _ ((zi T ab (by omega)).trans eb);have de:=bF _ ((zi T (h.n+1+1) (by omega)).trans c6);have bH:=t' _ ((x7 T [.int j 4,.int j n,.aA] h.n (by omega)).trans hy);have bR:=i6 _ ((x7 T [.int j 4,.int j n,.aA] ab (by omega)).trans eb);have hz:=bF _ ((x7 T [.int j 4,.int j n,.aA] (h.n+1+1) (by omega)).trans c6);have aR:=aem T [.int j 4,.int j n,.aA] rfl;have da:=aen T [.int j 4,.int j n,.aA];have jr:=t' _ ((da h.n (by omega) (on _ (b4 _))).trans hy);have jR:=st _ ((da ab (by omega) nM).trans eb);obtain⟨eD,fR,_⟩:=yF T [.int j 4,.int j n,.aA];refine⟨_,Ss,N7,[.ptr ab 0 0,.agg x,.int j n,.int j 0,.ptr h.n 0 0,.ptr (h.n+1) 0 0,.ptr (h.n+1+1) 0 0,.bool T,.bool T,.az,.az,.az],[.ptr ab 0 0,.agg x,.int j n,.int j 0,.ptr h.n 0 0,.ptr (h.n+1) 0 0,.ptr (h.n+1+1) 0 0,.bool T,.bool T,.az,.az,.az],[.ptr ab 0 0,.agg x,.int j n,.int j 0,.ptr h.n 0 0,.ptr (h.n+1) 0 0,.ptr (h.n+1+1) 0 0,.bool T,.bool T,.az,.az,.az],eO.push [[.bool T]],(((jU I ((eO.push [[.bool T]]).push [[.int j 4,.int j n,.aA]])).push (rows++[[.int j 4,.int j n,.aA]])).set ab (o [row.set (19+D) (.bn (eO.n+1+1) 0 (k+1) bG)])),(((jU I ((eO.push [[.bool T]]).push [[.int j 4,.int j n,.aA]])).push (rows++[[.int j 4,.int j n,.aA]])).set ab (o [row.set (19+D) (.bn (eO.n+1+1) 0 (k+1) bG)])).set (h.n+1) (o [rV n]),[[.bool T]],[[.int j 4,.int j n,.aA]],bt.mono (λi D aa=>by simp only[List.mem_singleton,kh]at aa;exact .inr aa),z3 atS,atU,?_,?_,kf [.ptr ab 0 0,.agg x,.int j n,.int j 0,.ptr h.n 0 0,.ptr (h.n+1) 0 0,.ptr (h.n+1+1) 0 0,.bool T,.bool T,.az,.az,.az] (((jU I ((eO.push [[.bool T]]).push [[.int j 4,.int j n,.aA]])).push (rows++[[.int j 4,.int j n,.aA]])).set ab (o [row.set (19+D) (.bn (eO.n+1+1) 0 (k+1) bG)])) rfl rfl rfl ((eu (by omega)).trans ((da _ (by omega) (on _ (by omega))).trans cE)) ((eu (by omega)).trans ((da _ (by omega) (on _ (by omega))).trans c6)),?_,?_,?_,cut _ _ rfl rfl aeq⟩
  ·unfold N7;simp only[ak]
  ·unfold N';simp only[ak,aq,al,aeo,aep,bV,bM,bL,de,bH,bR,aR,jr,jR]
  ·rw[<-ll,eu (by omega),eu (by omega)];exact eD
  ·rw[<-ll,eu (by omega),eu (by omega),eu (by omega)];exact fR
  ·rw[LO,<-ll]
 ·have bM:=t' _ ((zi O h.n (by omega)).trans hy);have bL:=i6 _ ((zi O ab (by omega)).trans eb);have de:=bF _ ((zi O (h.n+1+1) (by omega)).trans c6);have bH:=t' _ ((x7 O aU h.n (by omega)).trans hy);have bR:=i6 _ ((x7 O aU ab (by omega)).trans eb);have hz:=bF _ ((x7 O aU (h.n+1+1) (by omega)).trans c6);have aR:=aem O aU rfl;have da:=aen O aU;have jr:=t' _ ((da h.n (by omega) (on _ (b4 _))).trans hy);have jR:=st _ ((da ab (by omega) nM).trans eb);obtain⟨eD,fR,hl⟩:=yF O aU;have aer:rows.length=k:=x6.len;have at3:∀q:gx,dO (o bG) ad (.bn (eO.n+1+1) 0 (k+1) bG) (.int q (k:Int))=o (.ptr (eO.n+1+1) k 0):=λq=>by rw[vO rfl (Nat.lt_succ_self _),hH]
  have eN:=x6.one.2.1;have fn:=x6.one.2.2;have w:eQ 3 ((((jU I ((eO.push [[.bool O]]).push [aU])).push (rows++[aU])).set ab (o [row.set (19+D) (.bn (eO.n+1+1) 0 (k+1) bG)]))) (.ptr (eO.n+1+1) k 0) (.agg [.int j 4,.int j n,.aA])=o (((((jU I ((eO.push [[.bool O]]).push [aU])).push (rows++[aU])).set ab (o [row.set (19+D) (.bn (eO.n+1+1) 0 (k+1) bG)]))).set (eO.n+1+1) (o (rows++[[.int j 4,.int j n,.aA]]))):=by rw[lc (n:=3) (x:=.agg [.int j 4,.int j n,.aA]) (es:=rows++[aU]) (e:=aU) (i:=k) ((eu (by omega)).trans hl) (by rw[<-aer];simp) rfl rfl (by simp)];rw[<-aer];simp[dh,E.cells]
  refine⟨_,St,N9,[.ptr ab 0 0,.agg x,.int j n,.int j 0,.ptr h.n 0 0,.ptr (h.n+1) 0 0,.ptr (h.n+1+1) 0 0,.bool T,.bool O,.az,.az,.az],[.ptr ab 0 0,.agg x,.int j n,.int j 0,.ptr h.n 0 0,.ptr (h.n+1) 0 0,.ptr (h.n+1+1) 0 0,.bool T,.bool O,.agg [.int j 4,.int j n,.aA],.int j (k:Int),.bn (eO.n+1+1) 0 (k+1) bG],[.ptr ab 0 0,.agg x,.int j n,.int j 0,.ptr h.n 0 0,.ptr (h.n+1) 0 0,.ptr (h.n+1+1) 0 0,.bool T,.bool O,.agg [.int j 4,.int j n,.aA],.int j (k:Int),.bn (eO.n+1+1) 0 (k+1) bG],eO.push [[.bool O]],((((jU I ((eO.push [[.bool O]]).push [aU])).push (rows++[aU])).set ab (o [row.set (19+D) (.bn (eO.n+1+1) 0 (k+1) bG)])).set (eO.n+1+1) (o (rows++[[.int j 4,.int j n,.aA]]))),((((jU I ((eO.push [[.bool O]]).push [aU])).push (rows++[aU])).set ab (o [row.set (19+D) (.bn (eO.n+1+1) 0 (k+1) bG)])).set (eO.n+1+1) (o (rows++[[.int j 4,.int j n,.aA]]))).set (h.n+1) (o [rV n]),[[.bool O]],[aU],bt.mono (λi D aa=>by simp only[List.mem_singleton,kh]at aa;exact .inr aa),z3 atT,atV,?_,?_,kf [.ptr ab 0 0,.agg x,.int j n,.int j 0,.ptr h.n 0 0,.ptr (h.n+1) 0 0,.ptr (h.n+1+1) 0 0,.bool T,.bool O,.agg [.int j 4,.int j n,.aA],.int j (k:Int),.bn (eO.n+1+1) 0 (k+1) bG] (((((jU I ((eO.push [[.bool O]]).push [aU])).push (rows++[aU])).set ab (o [row.set (19+D) (.bn (eO.n+1+1) 0 (k+1) bG)]))).set (eO.n+1+1) (o (rows++[[.int j 4,.int j n,.aA]]))) rfl rfl rfl ((eu (by omega)).trans ((eu (by omega)).trans ((da _ (by omega) (on _ (by omega))).trans cE))) ((eu (by omega)).trans ((eu (by omega)).trans ((da _ (by omega) (on _ (by omega))).trans c6))),?_,?_,?_,cut _ _ rfl rfl aeq⟩
  ·unfold N9;simp only[ak]
  ·unfold N';simp only[ak,aq,al,aeo,aep,bV,bM,bL,de,bH,bR,hz,aR,jR,eN,fn,at3,w]
  ·rw[<-ll,eu (by omega),eu (by omega),eu (by omega)];exact eD
  ·rw[<-ll,eu (by omega),eu (by omega),eu (by omega),eu (by omega)];exact fR
  ·rw[LO,<-ll];exact atZ (by omega) (by omega) λb e=>by have:=(aF b e).1;omega
variable{aj:ag}{aJ aG:Nat->Prop}{L:List b6}{c:hL}{ms:dj}{S:bK}{a1:List (List av)}
theorem aK.none(s:aK aj aJ aG h L)(i:Nat){b:Nat}{es:List (List E)}(af:L[i]? =o (aY b es)):aK aj aJ aG (h.set b .none) (L.eraseIdx i):=by obtain⟨ae,ai,x,gr,a,aO⟩:=s;obtain⟨ez,eA,dX,ec,⟨aR,a5,bp,cA⟩,z,dt,gs,p4,p5⟩:=(cf.front af).1 x;have aP:lW ez eA h (h.set b .none):=⟨b4 _,b4 _,λk _ Z=>eu λe=>Z ((aR k).2 e),λ_ _ _=>rfl⟩;have bu:lW ae ai h (h.set b .none):=⟨b4 _,b4 _,λk _ Z=>eu λe=>Z ((dt k).2 (.inl ((aR k).2 e))),λ_ _ _=>rfl⟩;exact⟨dX,ec,(cf (L.eraseIdx i)).g2 z aP (λk Z J=>p4 k J Z) (λD aa J=>p5 D J aa),gr.then bu a aO,λk Z=>a k ((dt k).2 (.inr Z)),λD aa=>aO D ((gs D).2 (.inr aa))⟩
theorem LP{bF:E}{dk:List (List E)}{U:List E}(dP:c.jn.length=4)(dx:dk.length=4)(eb:∀r∈dk,r.length=3)(D:Nat):(jL c bF dk U)[19+D]? =U[D]?/\(∀v,(jL c bF dk U).set (19+D) v=jL c bF dk (U.set D v))/\(jL c bF dk U).length=19+U.length:=by
 obtain⟨ab,h6,ku,jn⟩:=c;obtain⟨_,_,_,_,rfl⟩:=zz dP;obtain⟨_,_,_,_,_,_,_,_,_,_,_,_,rfl⟩:=Dk dx eb;refine⟨?_,λv=>?_,?_⟩
 ·rw[Nat.add_comm];rfl
 ·rw[Nat.add_comm];rfl
 ·simp;omega
theorem at4(s:aK aj aJ aG h L)(i:Nat)(af:L[i]? =o (jM c ms S a1))(aD:ms.length=4)(dx:S.kept.length=4)(bC:a1.length=4){D:Nat}(aa:D<4)(hlen:(a1.getD D []).length<=1000000){x:List E}(aw:x.length=9/\x.all E.one=O)(xh:x[1]? =o (.int j (D:Int)))(n:Int):∃F,aQ ap W jN [.ptr c.ab 0 0,.agg x,.int j n,.int j 0] h=o (.inl (.agg (rV n)),F)/\aK aj aJ aG F (L.set i (jM c ms S (a1.set D (a1.getD D []++[ly n])))):=by
 have h':i<L.length:=(fQ.1 af).1;obtain⟨ae,ai,y⟩:=s.get i af;obtain⟨bF,dk,U,f,Z,hm,am,t,_⟩:=Bq y aD dx;obtain⟨w,hw,aN⟩:=Df am (p:=D) (by omega);have sO:∀U:List E,(iy ng c.jn ms).length=4:=λ_=>by simp[hm,aD]
 obtain⟨ez,eA,c9⟩:=t.get (3+(4+D)) (X:=h4 w (a1.getD D [])) (by rw[show 3+(4+D)=(4+D)+1+1+1 by omega,pS,pS,pS,mx (by rw[sO U];omega),sO U,Nat.add_sub_cancel_left];exact aN);obtain⟨I,rows,x6⟩:=atY c9 hlen;obtain⟨bH,bR,hz⟩:=LP (bF:=bF) (U:=U) f.dP f.dx f.eb D;rw[bC]at am;have b8:aK aj aJ aG (rU h x n) (aY (h.n+1+1+1+1) [[.int j 4,.int j n,.aA]]::aY (h.n+1+1+1) [[.bool T]]::aY (h.n+1+1) [[.int j 4,.int j n,.aA]]::aY (h.n+1) [tZ]::aY h.n [x]::L):=((((s.push [x]).push [tZ]).push [[.int j 4,.int j n,.aA]]).push [[.bool T]]).push [[.int j 4,.int j n,.aA]];have lS:=(b8.cell 0 rfl).1;obtain⟨a,⟨f5,LQ,Sv,A5⟩,cM⟩:=ad2 b8 (i+1+1+1+1+1) af aD dx;have pl:∀{X:ag} {es:List (List E)} {i:Nat},i<X.n->(X.push es).cell i=X.cell i:=λaf=>tk (Nat.ne_of_lt af);have fe:∀k,k<h.n->(rU h x n).cell k=h.cell k:=λk Z=>by unfold rU;rw[pl (by simp only[ey];omega),pl (by simp only[ey];omega),pl (by simp only[ey];omega),pl (by simp only[ey];omega),pl Z]
 have Ht:jL c bF dk U=jL c a.1 a.2.1 a.2.2:=by have au:=f5.cell;rw[fe c.ab f.lt,f.cell]at au;simpa using au
 obtain⟨bM,bL,de⟩:=LP (bF:=a.1) (U:=a.2.2) f5.dP f5.dx f5.eb D;have LR:a.2.2[D]? =o w:=by rw[<-bM,<-Ht,bH,hw]
 obtain⟨ba,k0,yw⟩:=Df A5 (p:=D) (by omega);obtain rfl:w=ba:=by rw[LR]at k0;exact kx k0
 have at5:((Dl c ms S a1 a)++(aY (h.n+1+1+1+1) [[.int j 4,.int j n,.aA]]::aY (h.n+1+1+1) [[.bool T]]::aY (h.n+1+1) [[.int j 4,.int j n,.aA]]::aY (h.n+1) [tZ]::aY h.n [x]::L).eraseIdx (i+1+1+1+1+1))[3+(4+D)]? =o (h4 w (a1.getD D [])):=by rw[o4 (by simp only[hk,ff,List.length_zipWith,Sv,aD,A5,bC];omega)];rw[show 3+(4+D)=(4+D)+1+1+1 by omega,pS,pS,pS,mx (by rw[sO U];omega),sO U,Nat.add_sub_cancel_left];exact yw
 obtain⟨b9,lB,eM⟩:=cM.app (3+(4+D)) at5 lS (y:=ly n) (zl n) hlen;have km:=x6.app (rU h x n) fe (h.n+1+1+1+1) [.int j 4,.int j n,.aA] lS rfl;rw[lB]at km;have om:b9=(jU I (rU h x n)).push (rows++[[.int j 4,.int j n,.aA]]):=by simpa using km
 generalize a1.getD D []=l at*;have fg:(Dl c ms S a1 a).length=11:=by simp only[hk,ff,List.length_zipWith,Sv,aD,A5,bC];rfl
 rw[List.set_append_left _ _ (by omega)]at eM;have F8:(Dl c ms S a1 a).set (3+(4+D)) (h4 (.bn (rU h x n).n 0 (l.length+1) bG) (l++[ly n]))=aY c.ab [jL c a.1 a.2.1 a.2.2]::aY c.ku (S.cells.map λx=>[.int j x])::ju hP a.1 (S.log.map g0)::(iy ng c.jn ms++iy rT (a.2.2.set D (.bn (rU h x n).n 0 (l.length+1) bG)) (a1.set D (l++[ly n]))):=by rw[show 3+(4+D)=(4+D)+1+1+1 by omega,List.set_cons_succ,List.set_cons_succ,List.set_cons_succ,List.set_append_right _ _ (by rw[sO U];omega),sO U,Nat.add_sub_cancel_left,ads]
 rw[F8]at eM;have jI:=(eM.cell 0 rfl).1;have aF:∀b,I=o b->b<h.n/\b≠c.ab:=λb e=>⟨x6.lt b e,λax=>by subst e;rw[om,ax,pl (by rw[Su];exact f5.lt)]at jI;simp only[jU,k1]at jI;cases jI⟩;have run:=at1 (h:=h) (ab:=c.ab) (x:=x) (row:=jL c bF dk U) (s:=w) (k:=l.length) (n:=n) aw xh aa f.lt f.cell (by rw[hz,am]) (by rw[bH,hw]) x6 hlen aF;refine⟨_,run,?_⟩;have g8:=eM.set 0 rfl [jL c a.1 a.2.1 (a.2.2.set D (.bn (rU h x n).n 0 (l.length+1) bG))];have kP:=ad3 (L:=aY (h.n+1+1+1+1) [[.int j 4,.int j n,.aA]]::aY (h.n+1+1+1) [[.bool T]]::aY (h.n+1+1) [[.int j 4,.int j n,.aA]]::aY (h.n+1) [tZ]::aY h.n [x]::L) (i:=i+1+1+1+1+1) (c:=c) (ms:=ms) (S:=S) (a1:=a1.set D (l++[ly n])) (a:=(a.1,a.2.1,a.2.2.set D (.bn (rU h x n).n 0 (l.length+1) bG))) g8 (by simp only[hk];omega) Sv LQ (by simp[A5]);have zu:=(((kP.set 3 rfl [rV n]).none 1 rfl).none 0 rfl).drop.drop.drop;rw[om]at zu;unfold Bs;rw[Ht,bL];exact zu
end
abbrev iI(c:hL)(e:Nat)(ms:dj)(S:bK)(a1:List (List av))(aI:Nat):List b6:=[aY e [[.ptr c.ab 0 0,.int j (S.left:Int),.int j (aI:Int)]],jM c ms S a1,bi c.h6 S.G]
structure jO(ms:dj)(S:bK):Prop where
 dP:ms.length=4
 g:vY ms
 st:S.Good
 a':S.a'<=1000000
section
variable{h F aj:ag}{ae ai aJ aG:Nat->Prop}{L:List b6}{c:hL}{ms:dj}{S:bK}{a1:List (List av)}{e aI:Nat}
theorem aes(n k:Int):aQ ap W 138 [.int j n,.int j k] h=o (.inl (.bU [.agg (if k=0 then[.int j 4,.int j n,.aA]else aU),.int j k]),h):=by
 by_cases Z:k=0
 ·have d:decide (k=0)=O:=decide_eq_true Z;subst Z;refine a2 adx rfl ?_;unfold R7;simp only[ak,aq,ar,al,bW];exact dI (aB.push _ _) rfl
 ·have d:decide (k=0)=T:=decide_eq_false Z;rw[if_neg Z];refine a2 adx rfl ?_;unfold R7;simp only[ak,aq,ar,al,bW,d];exact dI (aB.push _ _) rfl
theorem h7(k:Int):aQ ap W 135 [.int j k] h=o (.inl (.bU [.agg aU,.int j k]),h):=by refine a2 atd rfl ?_;unfold adz;simp only[ak,aq,ar,al];exact dI (aB.push _ _) rfl
abbrev qm:List E:=[.int j 0,.int j 0,.int j 0,.int j 0,.int j 0,.int j 0]
theorem Sw{D k:Nat}(s:aK aj aJ aG h L)(af:L[i]? =o (aY e [.ptr c.ab 0 0::row]))(aa:L[D]? =o (jM c ms S a1))(Z:L[k]? =o (bi c.h6 S.G))(I:jO ms S){v:av}{r:List E}(U:bT v r)(q:Nat)(aW:q<64):∃F,aQ ap W 137 [.ptr e 0 0,.agg r,.int j (q:Int)] h=o (.inl (.bU [.agg (if fS (S.G.dn v.n) q then cQ (S.G.target v.n).1 else qm),.int j (if fS (S.G.dn v.n) q then 0 else 9)]),F)/\aB h F:=by
 obtain⟨w,rfl,aF⟩:=U.iQ;have bg:=s.push [[.int j v.kind,.int j v.n,w]];have aV:=bg.push [qm];obtain⟨bF,dk,U,f,_⟩:=lL aV (D+1+1) aa I.dP I.st.kept;have cp:=(aV.cell (i+1+1) af).1;have ib:cS T 1 ((h.push [[.int j v.kind,.int j v.n,w]]).push [qm]) (.ptr e 0 0)=o (.ptr c.ab 0 0):=by rw[fL,cp];rfl
 have aP:=(aV.cell 1 rfl).1;obtain⟨ez,eA,g⟩:=aV.get (k+1+1) Z;have fm:=W8 g I.st.wf v.n;have lp:=ati g I.st.wf v.n;have ll:=O1 (h:=(h.push [[.int j v.kind,.int j v.n,w]]).push [qm]) (S.G.dn v.n) q aW;have eN:=f.nh (n:=1);have br:=aV.push [qm];have at6:=(br.cell (i+1+1+1) af).1;have zp:cS T 1 (((h.push [[.int j v.kind,.int j v.n,w]]).push [qm]).push [qm]) (.ptr e 0 0)=o (.ptr c.ab 0 0):=by rw[fL,at6];rfl
 have DW:=(br.cell 2 rfl).1;have Sx:=(f.push (aB.push _ [qm])).nh (n:=1);have aet:b5 0 (.ptr e 0 0)=o (.ptr e 0 0):=rfl;have fV:b5 0 (.ptr c.ab 0 0)=o (.ptr c.ab 0 0):=rfl;cases ab:fS (S.G.dn v.n) q with
 |true=>rw[ab]at ll;refine⟨_,?_,((aB.push h [[.int j v.kind,.int j v.n,w]]).trans (aB.push _ [qm])).trans (aB.push _ [cQ (S.G.target v.n).1]) |>.set (b:=h.n+1) (es:=o [cQ (S.G.target v.n).1]) (Nat.le_succ _)⟩;refine a2 ady rfl ?_;unfold R8;simp only[ak,aq,ar,al,bJ,aF,ib,aP,fm,lp,ll,eN,aet,fV,zp,DW,Sx,cQ]
 |false=>rw[ab]at ll;refine⟨_,?_,(aB.push h [[.int j v.kind,.int j v.n,w]]).trans (aB.push _ [qm])⟩;refine a2 ady rfl ?_;unfold R8;simp only[ak,aq,ar,al,bJ,aF,ib,aP,fm,lp,ll,eN,aet,fV,zp,DW,Sx,cQ]
abbrev Dq:c':=119
def ua(h:ag)(ae ai:Nat->Prop)(c:hL)(e:Nat)(ms:dj)(a1:List (List av))(aI:Nat)(a:List E)(q:bK×av×Int):Prop:=∃F bj,aQ ap W Dq a h=o (.inl (.bU [.agg bj,.int j q.2.2]),F)/\bT q.2.1 bj/\gw h ae ai F (cf (iI c e ms q.1 a1 aI))
variable{p k n:Int}{c9 bF:E}{rows:List (List E)}{a b:av}
abbrev fd(op k n:Int)(c9:E):List E:=[.int j op,.int j k,.int j n,c9]
structure at7(bF:E)(a b:av)(cJ ub:List E):Prop where
 i0:∀q:gx,dO (o bG) ad bF (.int q 0)=o (.ip cJ 0)
 i1:∀q:gx,dO (o bG) ad bF (.int q 1)=o (.ip ub 0)
 a:bT a cJ
 b:bT b ub
theorem LS(am:hn bG bF rows)(U:c8 [a,b] rows):∃cJ ub,rows=[cJ,ub]/\at7 bF a b cJ ub:=by obtain⟨cJ,_,rfl,J,ub,_,rfl,R,rfl⟩:=U;exact⟨cJ,ub,rfl,λq=>am.bV q 0 cJ rfl,λq=>am.bV q 1 ub rfl,J,R⟩
theorem wD(am:hn bG bF rows)(U:c8 [a] rows):∃cJ,rows=[cJ]/\(∀q:gx,dO (o bG) ad bF (.int q 0)=o (.ip cJ 0))/\bT a cJ:=by obtain⟨cJ,_,rfl,J,rfl⟩:=U;exact⟨cJ,rfl,λq=>am.bV q 0 cJ rfl,J⟩
theorem q7(x:(cf (iI c e ms S a1 aI)).A h ae ai)(uc:List E):aK h ae ai ((h.push [uc]).push [aU]) (aY (h.n+1) [aU]::aY h.n [uc]::iI c e ms S a1 aI):=((aK.start x).push [uc]).push [aU]
theorem at8(x:(cf (iI c e ms S a1 aI)).A h ae ai)(I:jO ms S)(dR:c9.one=O)(am:hn bG bF rows)(U:c8 [a,b] rows):ua h ae ai c e ms a1 aI [.ptr e 0 0,.int j p,.agg (fd 6 k n c9),bF] (gZ p 6 k n [a,b] S):=by
 rw[abz];obtain⟨cJ,ub,rfl,t⟩:=LS am U;obtain⟨kF,rfl,gb⟩:=t.a.iQ;obtain⟨cr,rfl,nM⟩:=t.b.iQ;have i0:=t.i0;have i1:=t.i1;have aV:=q7 x (fd 6 k n c9);obtain⟨_,_,_,f,_⟩:=lL aV 3 rfl I.dP I.st.kept;have eN:=f.nh (n:=1);have cp:=(aV.cell 2 rfl).1;have aP:=(aV.cell 1 rfl).1;have bu:=(aV.cell 0 rfl).1;have fV:b5 0 (.ptr c.ab 0 0)=o (.ptr c.ab 0 0):=rfl;by_cases aX:a.kind=1
 ·have gp:decide (a.kind=1)=O:=decide_eq_true aX;by_cases ab:b.kind=1
  ·have Sy:decide (b.kind=1)=O:=decide_eq_true ab;rw[if_neg (by simp[aX,ab])];refine⟨_,_,?_,we _,(aV.set 0 rfl [[.int j 1,.int j (yH k a.n b.n),.aA]]).drop.drop⟩;refine a2 hU rfl ?_;unfold hM;simp only[ak,aq,ar,al,bW,bJ,dR,cp,aP,bu,eN,fV,i0,i1,gp,Sy,cC,atk];rfl
  ·have Sy:decide (b.kind=1)=T:=decide_eq_false ab;rw[if_pos (.inr ab)];refine⟨_,_,?_,e6,aV.drop.drop⟩;refine a2 hU rfl ?_;unfold hM;simp only[ak,aq,ar,al,bW,bJ,dR,cp,aP,bu,eN,fV,i0,i1,gp,Sy,cC,h7];rfl
 ·have gp:decide (a.kind=1)=T:=decide_eq_false aX;rw[if_pos (.inl aX)];refine⟨_,_,?_,e6,aV.drop.drop⟩;refine a2 hU rfl ?_;unfold hM;simp only[ak,aq,ar,al,bW,bJ,dR,cp,aP,bu,eN,fV,i0,i1,gp,cC,h7];rfl
end
section
variable{h F aj:ag}{ae ai aJ aG:Nat->Prop}{L:List b6}{c:hL}{ms:dj}{S:bK}{a1:List (List av)}{e aI P:Nat}
variable{p k n:Int}{c9 bF:E}{rows:List (List E)}{a b:av}
theorem at9:kK j 0=0:=rfl
theorem at':kK j 1=1:=rfl
theorem aua(x:(cf (iI c e ms S a1 aI)).A h ae ai)(I:jO ms S)(dR:c9.one=O)(am:hn bG bF rows)(aC:fo bG bF rows)(U:c8 [a,b] rows):ua h ae ai c e ms a1 aI [.ptr e 0 0,.int j p,.agg (fd 8 k n c9),bF] (gZ p 8 k n [a,b] S):=by
 rw[abA];have n4:=U;obtain⟨cJ,ub,rfl,t⟩:=LS am U;obtain⟨kF,rfl,gb⟩:=t.a.iQ;obtain⟨cr,rfl,nM⟩:=t.b.iQ;have i0:=t.i0;have i1:=t.i1;have aV:=q7 x (fd 8 k n c9);obtain⟨q8,dk,sQ,f,Z⟩:=lL aV 3 rfl I.dP I.st.kept;have eN:=f.nh (n:=1);have cp:=(aV.cell 2 rfl).1;have aP:=(aV.cell 1 rfl).1;have bu:=(aV.cell 0 rfl).1;have fV:b5 0 (.ptr c.ab 0 0)=o (.ptr c.ab 0 0):=rfl;have Bt:bT (.mk 2 0 [a,b]) [.int j 2,.int j 0,bF]:=⟨_,_,rfl,aC,U⟩;have GV:bF.one=O:=by rcases aC with⟨_,rfl⟩|⟨id,rfl⟩<;>rfl
 have mB:bF.cells=[bF]:=by rcases aC with⟨_,rfl⟩|⟨id,rfl⟩<;>rfl
 have br:=aV.push [[.int j 2,.int j 0,bF]];have cd:=(br.cell 1 rfl).1;have dU:=(br.cell 2 rfl).1;have gg:=(br.cell 0 rfl).1;have mm:=Kn (h:=((h.push [fd 8 k n c9]).push [aU]).push [[.int j 2,.int j 0,bF]]) Bt;by_cases aN:(av.mk 2 0 [a,b]).code=0
 ·rw[if_neg (λh=>h aN)];have je:decide ((av.mk 2 0 [a,b]).code=0)=O:=decide_eq_true aN;refine⟨_,_,?_,Bt,(br.set 1 rfl [[.int j 2,.int j 0,bF]]).drop.drop.drop⟩;refine a2 hU rfl ?_;unfold hM;simp only[ak,aq,ar,al,bW,bJ,dR,cp,aP,bu,eN,fV,i0,cC,h7,mm,GV,mB,je,cd,dU];rfl
 ·rw[if_pos aN];have je:decide ((av.mk 2 0 [a,b]).code=0)=T:=decide_eq_false aN;refine⟨_,_,?_,e6,(br.set 1 rfl [aU]).drop.drop.drop⟩;refine a2 hU rfl ?_;unfold hM;simp only[ak,aq,ar,al,bW,bJ,dR,cp,aP,bu,eN,fV,i0,cC,h7,mm,GV,mB,je,cd,dU];rfl
theorem aub(x:(cf (iI c e ms S a1 aI)).A h ae ai)(I:jO ms S)(dR:c9.one=O)(am:hn bG bF rows)(aC:fo bG bF rows)(U:c8 [a] rows):ua h ae ai c e ms a1 aI [.ptr e 0 0,.int j p,.agg (fd 11 k n c9),bF] (gZ p 11 k n [a] S):=by
 rw[abB];have n4:=U;obtain⟨cJ,rfl,i0,fE⟩:=wD am U;obtain⟨kF,rfl,gb⟩:=fE.iQ;have aV:=q7 x (fd 11 k n c9);obtain⟨q8,dk,sQ,f,Z⟩:=lL aV 3 rfl I.dP I.st.kept;have eN:=f.nh (n:=1);have cp:=(aV.cell 2 rfl).1;have aP:=(aV.cell 1 rfl).1;have bu:=(aV.cell 0 rfl).1;have fV:b5 0 (.ptr c.ab 0 0)=o (.ptr c.ab 0 0):=rfl;have Bt:bT (.mk 3 p [a]) [.int j 3,.int j p,bF]:=⟨_,_,rfl,aC,U⟩;have GV:bF.one=O:=by rcases aC with⟨_,rfl⟩|⟨id,rfl⟩<;>rfl
 have mB:bF.cells=[bF]:=by rcases aC with⟨_,rfl⟩|⟨id,rfl⟩<;>rfl
 have br:=aV.push [[.int j 3,.int j p,bF]];have cd:=(br.cell 1 rfl).1;have dU:=(br.cell 2 rfl).1;have gg:=(br.cell 0 rfl).1;have mm:=Kn (h:=((h.push [fd 11 k n c9]).push [aU]).push [[.int j 3,.int j p,bF]]) Bt;by_cases aN:(av.mk 3 p [a]).code=0
 ·rw[if_neg (λh=>h aN)];have je:decide ((av.mk 3 p [a]).code=0)=O:=decide_eq_true aN;refine⟨_,_,?_,Bt,(br.set 1 rfl [[.int j 3,.int j p,bF]]).drop.drop.drop⟩;refine a2 hU rfl ?_;unfold hM;simp only[ak,aq,ar,al,bW,bJ,dR,cp,aP,bu,eN,fV,i0,cC,h7,mm,GV,mB,je,cd];rfl
 ·rw[if_pos aN];have je:decide ((av.mk 3 p [a]).code=0)=T:=decide_eq_false aN;refine⟨_,_,?_,e6,(br.set 1 rfl [aU]).drop.drop.drop⟩;refine a2 hU rfl ?_;unfold hM;simp only[ak,aq,ar,al,bW,bJ,dR,cp,aP,bu,eN,fV,i0,cC,h7,mm,GV,mB,je,cd];rfl
theorem auc(x:(cf (iI c e ms S a1 aI)).A h ae ai)(I:jO ms S)(dR:c9.one=O)(am:hn bG bF rows)(U:c8 [a] rows)(an:a.code=0):ua h ae ai c e ms a1 aI [.ptr e 0 0,.int j p,.agg (fd 9 k n c9),bF] (gZ p 9 k n [a] S):=by
 rw[abx];obtain⟨cJ,rfl,i0,fE⟩:=wD am U;obtain⟨kF,rfl,gb⟩:=fE.iQ;have aV:=q7 x (fd 9 k n c9);obtain⟨q8,dk,sQ,f,Z⟩:=lL aV 3 rfl I.dP I.st.kept;have eN:=f.nh (n:=1);have cp:=(aV.cell 2 rfl).1;have aP:=(aV.cell 1 rfl).1;have bu:=(aV.cell 0 rfl).1;have fV:b5 0 (.ptr c.ab 0 0)=o (.ptr c.ab 0 0):=rfl;by_cases aX:a.kind=2
 ·rw[if_neg (λh=>h aX)];have gp:decide (a.kind=2)=O:=decide_eq_true aX;obtain⟨b3,fs,uV⟩:=(Ex an).1 aX;have aN:a.l[0]? =o (a.l.getD 0 cv):=by rw[uV];rfl
  obtain⟨Bu,vj,dA,ft,iM,kZ⟩:=fE.part aN;obtain rfl:kF=Bu:=kx dA;have ft:∀q:gx,dO (o bG) ad kF (.int q 0)=o (.ip vj 0):=ft;have bt:=kZ.cD;refine⟨_,_,?_,kZ,(aV.set 0 rfl [vj]).drop.drop⟩;refine a2 hU rfl ?_;unfold hM;simp only[ak,aq,ar,al,bW,bJ,dR,cp,aP,bu,eN,fV,i0,cC,h7,gp,ft,iM,bt,Int.reduceSub,at9];rfl
 ·rw[if_pos aX];have gp:decide (a.kind=2)=T:=decide_eq_false aX;refine⟨_,_,?_,e6,aV.drop.drop⟩;refine a2 hU rfl ?_;unfold hM;simp only[ak,aq,ar,al,bW,bJ,dR,cp,aP,bu,eN,fV,i0,cC,h7,gp];rfl
theorem aud(x:(cf (iI c e ms S a1 aI)).A h ae ai)(I:jO ms S)(dR:c9.one=O)(am:hn bG bF rows)(U:c8 [a] rows)(an:a.code=0):ua h ae ai c e ms a1 aI [.ptr e 0 0,.int j p,.agg (fd 10 k n c9),bF] (gZ p 10 k n [a] S):=by
 rw[aby];obtain⟨cJ,rfl,i0,fE⟩:=wD am U;obtain⟨kF,rfl,gb⟩:=fE.iQ;have aV:=q7 x (fd 10 k n c9);obtain⟨q8,dk,sQ,f,Z⟩:=lL aV 3 rfl I.dP I.st.kept;have eN:=f.nh (n:=1);have cp:=(aV.cell 2 rfl).1;have aP:=(aV.cell 1 rfl).1;have bu:=(aV.cell 0 rfl).1;have fV:b5 0 (.ptr c.ab 0 0)=o (.ptr c.ab 0 0):=rfl;by_cases aX:a.kind=2
 ·rw[if_neg (λh=>h aX)];have gp:decide (a.kind=2)=O:=decide_eq_true aX;obtain⟨b3,fs,uV⟩:=(Ex an).1 aX;have aN:a.l[1]? =o (a.l.getD 1 cv):=by rw[uV];rfl
  obtain⟨Bu,vj,dA,ft,iM,kZ⟩:=fE.part aN;obtain rfl:kF=Bu:=kx dA;have ft:∀q:gx,dO (o bG) ad kF (.int q 1)=o (.ip vj 0):=ft;have bt:=kZ.cD;refine⟨_,_,?_,kZ,(aV.set 0 rfl [vj]).drop.drop⟩;refine a2 hU rfl ?_;unfold hM;simp only[ak,aq,ar,al,bW,bJ,dR,cp,aP,bu,eN,fV,i0,cC,h7,gp,ft,iM,bt,Int.reduceSub,at'];rfl
 ·rw[if_pos aX];have gp:decide (a.kind=2)=T:=decide_eq_false aX;refine⟨_,_,?_,e6,aV.drop.drop⟩;refine a2 hU rfl ?_;unfold hM;simp only[ak,aq,ar,al,bW,bJ,dR,cp,aP,bu,eN,fV,i0,cC,h7,gp];rfl
theorem aue(x:(cf (iI c e ms S a1 aI)).A h ae ai)(I:jO ms S)(dR:c9.one=O)(am:hn bG bF rows)(U:c8 [a] rows)(an:a.code=0):ua h ae ai c e ms a1 aI [.ptr e 0 0,.int j p,.agg (fd 12 k n c9),bF] (gZ p 12 k n [a] S):=by
 rw[abC];obtain⟨cJ,rfl,i0,fE⟩:=wD am U;obtain⟨kF,rfl,gb⟩:=fE.iQ;have aV:=q7 x (fd 12 k n c9);obtain⟨q8,dk,sQ,f,Z⟩:=lL aV 3 rfl I.dP I.st.kept;have eN:=f.nh (n:=1);have cp:=(aV.cell 2 rfl).1;have aP:=(aV.cell 1 rfl).1;have bu:=(aV.cell 0 rfl).1;have fV:b5 0 (.ptr c.ab 0 0)=o (.ptr c.ab 0 0):=rfl;by_cases aX:a.kind=3
 ·rw[if_neg (λh=>h aX)];have gp:decide (a.kind=3)=O:=decide_eq_true aX;by_cases aE:a.n=p
  ·rw[if_neg (λh=>h aE)];have Sz:decide (a.n=p)=O:=decide_eq_true aE;obtain⟨b3,uV⟩:=(Ex an).2 aX;have aN:a.l[0]? =o (a.l.getD 0 cv):=by rw[uV];rfl
   obtain⟨Bu,vj,dA,ft,iM,kZ⟩:=fE.part aN;obtain rfl:kF=Bu:=kx dA;have ft:∀q:gx,dO (o bG) ad kF (.int q 0)=o (.ip vj 0):=ft;have bt:=kZ.cD;refine⟨_,_,?_,kZ,(aV.set 0 rfl [vj]).drop.drop⟩;refine a2 hU rfl ?_;unfold hM;simp only[ak,aq,ar,al,bW,bJ,dR,cp,aP,bu,eN,fV,i0,cC,h7,gp,Sz,ft,iM,bt];rfl
  ·rw[if_pos aE];have Sz:decide (a.n=p)=T:=decide_eq_false aE;refine⟨_,_,?_,e6,aV.drop.drop⟩;refine a2 hU rfl ?_;unfold hM;simp only[ak,aq,ar,al,bW,bJ,dR,cp,aP,bu,eN,fV,i0,cC,h7,gp,Sz];rfl
 ·rw[if_pos aX];have gp:decide (a.kind=3)=T:=decide_eq_false aX;refine⟨_,_,?_,e6,aV.drop.drop⟩;refine a2 hU rfl ?_;unfold hM;simp only[ak,aq,ar,al,bW,bJ,dR,cp,aP,bu,eN,fV,i0,cC,h7,gp];rfl
theorem auf(x:(cf (iI c e ms S a1 aI)).A h ae ai)(I:jO ms S)(dR:c9.one=O)(am:hn bG bF rows)(U:c8 [a] rows):ua h ae ai c e ms a1 aI [.ptr e 0 0,.int j p,.agg (fd 13 k n c9),bF] (gZ p 13 k n [a] S):=by
 rw[abs];obtain⟨cJ,rfl,i0,fE⟩:=wD am U;obtain⟨kF,rfl,gb⟩:=fE.iQ;have aV:=q7 x (fd 13 k n c9);obtain⟨q8,dk,sQ,f,Z⟩:=lL aV 3 rfl I.dP I.st.kept;have eN:=f.nh (n:=1);have cp:=(aV.cell 2 rfl).1;have aP:=(aV.cell 1 rfl).1;have bu:=(aV.cell 0 rfl).1;have fV:b5 0 (.ptr c.ab 0 0)=o (.ptr c.ab 0 0):=rfl;by_cases aX:a.kind=4
 ·have gp:decide (a.kind=4)=O:=decide_eq_true aX;rw[if_neg (λh=>h aX)];obtain⟨ah,bc,eF⟩:=Sw (i:=2) (D:=3) (k:=4) aV rfl rfl rfl I fE 0 (by decide);have bc:aQ ap W 137 [.ptr e 0 0,.agg [.int j a.kind,.int j a.n,kF],.int j 0] ((h.push [fd 13 k n c9]).push [aU])=o (.inl (.bU [.agg (if fS (S.G.dn a.n) 0 then cQ (S.G.target a.n).1 else qm),.int j (if fS (S.G.dn a.n) 0 then 0 else 9)]),ah):=bc;have br:=aV.hb eF;by_cases ab:fS (S.G.dn a.n) 0=O
  ·rw[if_neg (by rw[ab];decide)];rw[if_pos ab,if_pos ab]at bc;have bz:=br.push [cQ (S.G.target a.n).1];have d1:=(bz.cell 1 rfl).1;have d2:=(bz.cell 2 rfl).1;have d3:=(bz.cell 3 rfl).1;have d0:=(bz.cell 0 rfl).1;have CL:=(lL bz 4 rfl I.dP I.st.kept).choose_spec.choose_spec.choose_spec.1;by_cases aH:0<=(S.G.target a.n).1.bI
   ·rw[if_pos aH];have qn:decide (0<=(S.G.target a.n).1.bI)=O:=decide_eq_true aH;refine⟨_,_,?_,e6,(bz.set 1 rfl [aU]).drop.drop.drop⟩;unfold cQ at*;refine a2 hU rfl ?_;unfold hM;simp only[ak,aq,ar,al,bW,bJ,dR,cp,aP,bu,eN,fV,i0,cC,h7,gp,bc,d0,d1,d3,qn];rfl
   ·rw[if_neg aH];have qn:decide (0<=(S.G.target a.n).1.bI)=T:=decide_eq_false aH;have an:=K9 I.st.wf ab aH;obtain⟨aug,bo,b9,bs,⟨nr,SA⟩,et,py,zo,gW,SB,iD,cM⟩:=adY bz 4 rfl (by have:=I.a';unfold bK.a' at this;omega) ⟨p,(S.G.target a.n).1.cell,1,a.n⟩;rw[i4]at et;have SC:(S.G.target a.n).1.cell.toNat<S.cells.length:=by rw[I.st.cells];omega
    have bV:∀Bl:gx,dO (o ob) ad (.bn c.ku 0 12 ob) (.int Bl (S.G.target a.n).1.cell)=o (.ptr c.ku (S.G.target a.n).1.cell.toNat 0):=λBl=>by obtain⟨D,aa⟩:=lE an.1;rw[aa,vO rfl (by omega),hH,mE]
    have hR:=(cM.cell 0 rfl).1;have cg:=(cM.cell 1 rfl).1;have dw:=(cM.cell 2 rfl).1;have fW:=(cM.cell 3 rfl).1;have f6:=(lL cM 4 rfl I.dP I.st.kept).choose_spec.choose_spec.choose_spec.1;have F':=f6.cells (n:=1);have auh:=f6.nh (n:=1);have f1:b5 1 (.ptr c.ab 0 0)=o (.ptr c.ab 0 1):=rfl;have f2:b5 2 (.ptr c.ab 0 0)=o (.ptr c.ab 0 2):=rfl;have Bu:=atn cM 4 rfl (n:=1) (S.G.target a.n).1.cell.toNat SC;refine⟨_,_,?_,we _,(cM.set 1 rfl [[.int j 1,.int j (S.cells.getD (S.G.target a.n).1.cell.toNat 0),.aA]]).drop.drop.drop⟩;unfold cQ g0 at*;refine a2 hU rfl ?_;unfold hM;simp only[ak,aq,ar,al,bW,bJ,dR,cp,aP,bu,eN,fV,i0,cC,h7,gp,bc,d0,d1,d3,qn,nr,SA,et,gW,SB,bV,hR,cg,fW,F',f1,f2,Bu];rfl
  ·rw[if_pos (by simpa using ab)];rw[if_neg ab,if_neg ab]at bc;have bz:=br.push [qm];have d1:=(bz.cell 1 rfl).1;have d2:=(bz.cell 2 rfl).1;have d0:=(bz.cell 0 rfl).1;refine⟨_,_,?_,e6,(bz.set 1 rfl [aU]).drop.drop.drop⟩;refine a2 hU rfl ?_;unfold hM;simp only[ak,aq,ar,al,bW,bJ,dR,cp,aP,bu,eN,fV,i0,cC,h7,gp,bc,d0,d1];rfl
 ·have gp:decide (a.kind=4)=T:=decide_eq_false aX;rw[if_pos aX];refine⟨_,_,?_,e6,aV.drop.drop⟩;refine a2 hU rfl ?_;unfold hM;simp only[ak,aq,ar,al,bW,bJ,dR,cp,aP,bu,eN,fV,i0,cC,h7,gp];rfl
theorem aui(x:(cf (iI c e ms S a1 aI)).A h ae ai)(I:jO ms S)(dR:c9.one=O)(am:hn bG bF rows)(U:c8 [a,b] rows):ua h ae ai c e ms a1 aI [.ptr e 0 0,.int j p,.agg (fd 14 k n c9),bF] (gZ p 14 k n [a,b] S):=by
 rw[abt];obtain⟨cJ,ub,rfl,t⟩:=LS am U;obtain⟨kF,rfl,gb⟩:=t.a.iQ;obtain⟨cr,rfl,nM⟩:=t.b.iQ;have i0:=t.i0;have i1:=t.i1;have aV:=q7 x (fd 14 k n c9);obtain⟨q8,dk,sQ,f,Z⟩:=lL aV 3 rfl I.dP I.st.kept;have eN:=f.nh (n:=1);have cp:=(aV.cell 2 rfl).1;have aP:=(aV.cell 1 rfl).1;have bu:=(aV.cell 0 rfl).1;have fV:b5 0 (.ptr c.ab 0 0)=o (.ptr c.ab 0 0):=rfl;by_cases aX:a.kind=4
 ·have gp:decide (a.kind=4)=O:=decide_eq_true aX;by_cases mT:b.kind=1
  ·have GW:decide (b.kind=1)=O:=decide_eq_true mT;rw[if_neg (by simp[aX,mT])];obtain⟨ah,bc,eF⟩:=Sw (i:=2) (D:=3) (k:=4) aV rfl rfl rfl I t.a 1 (by decide);have bc:aQ ap W 137 [.ptr e 0 0,.agg [.int j a.kind,.int j a.n,kF],.int j 1] ((h.push [fd 14 k n c9]).push [aU])=o (.inl (.bU [.agg (if fS (S.G.dn a.n) 1 then cQ (S.G.target a.n).1 else qm),.int j (if fS (S.G.dn a.n) 1 then 0 else 9)]),ah):=bc;have br:=aV.hb eF;by_cases ab:fS (S.G.dn a.n) 1=O
   ·rw[if_neg (by rw[ab];decide)];rw[if_pos ab,if_pos ab]at bc;have bz:=br.push [cQ (S.G.target a.n).1];have d1:=(bz.cell 1 rfl).1;have d2:=(bz.cell 2 rfl).1;have d3:=(bz.cell 3 rfl).1;have d0:=(bz.cell 0 rfl).1;have CL:=(lL bz 4 rfl I.dP I.st.kept).choose_spec.choose_spec.choose_spec.1;by_cases aH:0<=(S.G.target a.n).1.bI
    ·rw[if_pos aH];have qn:decide (0<=(S.G.target a.n).1.bI)=O:=decide_eq_true aH;refine⟨_,_,?_,e6,(bz.set 1 rfl [aU]).drop.drop.drop⟩;unfold cQ at*;refine a2 hU rfl ?_;unfold hM;simp only[ak,aq,ar,al,bW,bJ,dR,cp,aP,bu,eN,fV,i0,cC,h7,gp,GW,i1,bc,d0,d1,d3,qn];rfl
    ·rw[if_neg aH];have qn:decide (0<=(S.G.target a.n).1.bI)=T:=decide_eq_false aH;have an:=K9 I.st.wf ab aH;obtain⟨aug,bo,b9,bs,⟨nr,SA⟩,et,py,zo,gW,SB,iD,cM⟩:=adY bz 4 rfl (by have:=I.a';unfold bK.a' at this;omega) ⟨p,(S.G.target a.n).1.cell,2,a.n⟩;rw[i4]at et;have SC:(S.G.target a.n).1.cell.toNat<S.cells.length:=by rw[I.st.cells];omega
     have bV:∀Bl:gx,dO (o ob) ad (.bn c.ku 0 12 ob) (.int Bl (S.G.target a.n).1.cell)=o (.ptr c.ku (S.G.target a.n).1.cell.toNat 0):=λBl=>by obtain⟨D,aa⟩:=lE an.1;rw[aa,vO rfl (by omega),hH,mE]
     have hR:=(cM.cell 0 rfl).1;have cg:=(cM.cell 1 rfl).1;have dw:=(cM.cell 2 rfl).1;have fW:=(cM.cell 3 rfl).1;have f6:=(lL cM 4 rfl I.dP I.st.kept).choose_spec.choose_spec.choose_spec.1;have F':=f6.cells (n:=1);have auh:=f6.nh (n:=1);have f1:b5 1 (.ptr c.ab 0 0)=o (.ptr c.ab 0 1):=rfl;have f2:b5 2 (.ptr c.ab 0 0)=o (.ptr c.ab 0 2):=rfl;obtain⟨c4,auj,eM⟩:=ato cM 4 rfl (S.G.target a.n).1.cell.toNat SC b.n;have rn:=(eM.cell 1 rfl).1;have da:=(eM.cell 2 rfl).1;refine⟨_,_,?_,t.b,(eM.set 1 rfl [[.int j b.kind,.int j b.n,cr]]).drop.drop.drop⟩;unfold cQ g0 at*;refine a2 hU rfl ?_;unfold hM;simp only[ak,aq,ar,al,bW,bJ,dR,cp,aP,bu,eN,fV,i0,cC,h7,gp,GW,i1,nM,bc,d0,d1,d3,qn,nr,SA,et,gW,SB,bV,hR,fW,F',f1,f2,auj,rn];rfl
   ·rw[if_pos (by simpa using ab)];rw[if_neg ab,if_neg ab]at bc;have bz:=br.push [qm];have d1:=(bz.cell 1 rfl).1;have d2:=(bz.cell 2 rfl).1;have d0:=(bz.cell 0 rfl).1;refine⟨_,_,?_,e6,(bz.set 1 rfl [aU]).drop.drop.drop⟩;refine a2 hU rfl ?_;unfold hM;simp only[ak,aq,ar,al,bW,bJ,dR,cp,aP,bu,eN,fV,i0,cC,h7,gp,GW,i1,bc,d0,d1];rfl
  ·have GW:decide (b.kind=1)=T:=decide_eq_false mT;rw[if_pos (.inr mT)];refine⟨_,_,?_,e6,aV.drop.drop⟩;refine a2 hU rfl ?_;unfold hM;simp only[ak,aq,ar,al,bW,bJ,dR,cp,aP,bu,eN,fV,i0,cC,h7,gp,GW,i1];rfl
 ·have gp:decide (a.kind=4)=T:=decide_eq_false aX;rw[if_pos (.inl aX)];refine⟨_,_,?_,e6,aV.drop.drop⟩;refine a2 hU rfl ?_;unfold hM;simp only[ak,aq,ar,al,bW,bJ,dR,cp,aP,bu,eN,fV,i0,cC,h7,gp];rfl
theorem auk(x:(cf (iI c e ms S a1 aI)).A h ae ai)(I:jO ms S)(dR:c9.one=O)(am:hn bG bF rows)(U:c8 [a] rows):ua h ae ai c e ms a1 aI [.ptr e 0 0,.int j p,.agg (fd 15 k n c9),bF] (gZ p 15 k n [a] S):=by
 rw[abN];obtain⟨cJ,rfl,i0,fE⟩:=wD am U;obtain⟨kF,rfl,gb⟩:=fE.iQ;have aV:=q7 x (fd 15 k n c9);obtain⟨q8,dk,sQ,f,Z⟩:=lL aV 3 rfl I.dP I.st.kept;have eN:=f.nh (n:=1);have cp:=(aV.cell 2 rfl).1;have aP:=(aV.cell 1 rfl).1;have bu:=(aV.cell 0 rfl).1;have fV:b5 0 (.ptr c.ab 0 0)=o (.ptr c.ab 0 0):=rfl;by_cases aX:a.kind=4
 ·have gp:decide (a.kind=4)=O:=decide_eq_true aX;rw[if_neg (λh=>h aX)];obtain⟨ah,bc,br⟩:=aV.call (cF:=λah=>aQ ap W 85 [.ptr c.h6 0 0,.int j a.n,.int j k,.int j (-1)] ((h.push [fd 15 k n c9]).push [aU])=o (.inl (.bU [.int j (S.G.derive a.n k (-1)).2.1,.int j (S.G.derive a.n k (-1)).2.2]),ah)) 4 rfl (Y:=bi c.h6 (S.G.derive a.n k (-1)).1) λae ai g=>QS g I.st.wf a.n k (-1);have d1:=(br.cell 0 rfl).1;unfold Ad;generalize S.G.derive a.n k (-1)=q at*;obtain⟨cN,m,iw⟩:=q;simp only at bc ⊢;have ce:=aes (h:=ah) m iw;by_cases aN:iw=0
  ·rw[if_pos aN]at ce;subst aN;refine⟨_,_,?_,zl m,(br.set 0 rfl [[.int j 4,.int j m,.aA]]).drop.drop⟩;refine a2 hU rfl ?_;unfold hM;simp only[ak,aq,ar,al,bW,bJ,dR,cp,aP,bu,eN,fV,i0,cC,h7,gp,bc,d1,ce];rfl
  ·rw[if_neg aN]at ce;rw[if_pos aN];refine⟨_,_,?_,e6,(br.set 0 rfl [aU]).drop.drop⟩;refine a2 hU rfl ?_;unfold hM;simp only[ak,aq,ar,al,bW,bJ,dR,cp,aP,bu,eN,fV,i0,cC,h7,gp,bc,d1,ce];rfl
 ·have gp:decide (a.kind=4)=T:=decide_eq_false aX;rw[if_pos aX];refine⟨_,_,?_,e6,aV.drop.drop⟩;refine a2 hU rfl ?_;unfold hM;simp only[ak,aq,ar,al,bW,bJ,dR,cp,aP,bu,eN,fV,i0,cC,h7,gp];rfl
theorem aul(x:(cf (iI c e ms S a1 aI)).A h ae ai)(I:jO ms S)(dR:c9.one=O)(am:hn bG bF rows)(U:c8 [a] rows):ua h ae ai c e ms a1 aI [.ptr e 0 0,.int j p,.agg (fd 17 k n c9),bF] (gZ p 17 k n [a] S):=by
 rw[abO];obtain⟨cJ,rfl,i0,fE⟩:=wD am U;obtain⟨kF,rfl,gb⟩:=fE.iQ;have aV:=q7 x (fd 17 k n c9);obtain⟨q8,dk,sQ,f,Z⟩:=lL aV 3 rfl I.dP I.st.kept;have eN:=f.nh (n:=1);have cp:=(aV.cell 2 rfl).1;have aP:=(aV.cell 1 rfl).1;have bu:=(aV.cell 0 rfl).1;have fV:b5 0 (.ptr c.ab 0 0)=o (.ptr c.ab 0 0):=rfl;by_cases aX:a.kind=5
 ·have gp:decide (a.kind=5)=O:=decide_eq_true aX;rw[if_neg (λh=>h aX)];obtain⟨ah,bc,br⟩:=aV.call (cF:=λah=>aQ ap W 67 [.ptr c.h6 0 0,.int j a.n] ((h.push [fd 17 k n c9]).push [aU])=o (.inl (.int j (S.G.cut a.n).2),ah)) 4 rfl (Y:=bi c.h6 (S.G.cut a.n).1) λae ai g=>Xf g a.n;have d1:=(br.cell 0 rfl).1;refine⟨_,_,?_,e6,(br.set 0 rfl [aU]).drop.drop⟩;refine a2 hU rfl ?_;unfold hM;simp only[ak,aq,ar,al,bW,bJ,dR,cp,aP,bu,eN,fV,i0,cC,h7,gp,bc,d1];rfl
 ·have gp:decide (a.kind=5)=T:=decide_eq_false aX;rw[if_pos aX];refine⟨_,_,?_,e6,aV.drop.drop⟩;refine a2 hU rfl ?_;unfold hM;simp only[ak,aq,ar,al,bW,bJ,dR,cp,aP,bu,eN,fV,i0,cC,h7,gp];rfl
theorem aum(x:(cf (iI c e ms S a1 aI)).A h ae ai)(I:jO ms S)(dR:c9.one=O)(am:hn bG bF rows)(U:c8 [a] rows)(aH:p=(P:Int))(fT:P<4):ua h ae ai c e ms a1 aI [.ptr e 0 0,.int j p,.agg (fd 20 k n c9),bF] (gZ p 20 k n [a] S):=by
 rw[abP];obtain⟨cJ,rfl,i0,fE⟩:=wD am U;obtain⟨kF,rfl,gb⟩:=fE.iQ;have aV:=q7 x (fd 20 k n c9);obtain⟨q8,dk,sQ,f,Z⟩:=lL aV 3 rfl I.dP I.st.kept;have eN:=f.nh (n:=1);have cp:=(aV.cell 2 rfl).1;have aP:=(aV.cell 1 rfl).1;have bu:=(aV.cell 0 rfl).1;have fV:b5 0 (.ptr c.ab 0 0)=o (.ptr c.ab 0 0):=rfl;subst aH;obtain⟨gD,lb,v9⟩:=Z.get (i:=P) (x:=S.kept.getD P cv) (by rw[dz,fr (by rw[I.st.kept];exact fT)];rfl);have tU:=f.Sm lb;have D1:=v9.cD;have f7:b5 7 (.ptr c.ab 0 0)=o (.ptr c.ab 0 7):=rfl;have bV:∀q:gx,dO ad (o (4,3)) (.ptr c.ab 0 7) (.int q (P:Int))=o (.ptr c.ab 0 (7+P*3)):=λq=>by simp[dO,fT]
 have br:=aV.push [gD];obtain⟨aD,bY,bz⟩:=atm br 4 rfl I.dP I.st.kept fT fE;have d0:=(br.cell 0 rfl).1;have hR:aD.cell (h.n+1+1)=o [gD]:=(bz.cell 0 rfl).1;have cg:aD.cell (h.n+1)=o [aU]:=(bz.cell 1 rfl).1;have cd:=(br.cell 3 rfl).1;have dU:=(br.cell 2 rfl).1;have Sx:=(f.push (aB.push _ [gD])).nh (n:=1);rw[mE];refine⟨_,_,?_,v9,(bz.set 1 rfl [gD]).drop.drop.drop⟩;refine a2 hU rfl ?_;unfold hM;simp only[ak,aq,ar,al,bW,bJ,dR,cp,aP,bu,eN,fV,i0,cC,h7,tU,D1,f7,bV,bY,hR,cg,cd];rfl
theorem aun(x:(cf (iI c e ms S a1 aI)).A h ae ai)(I:jO ms S)(dR:c9.one=O)(am:hn bG bF rows)(U:c8 [a] rows):ua h ae ai c e ms a1 aI [.ptr e 0 0,.int j p,.agg (fd 16 k n c9),bF] (gZ p 16 k n [a] S):=by
 rw[abv];obtain⟨cJ,rfl,i0,fE⟩:=wD am U;obtain⟨kF,rfl,gb⟩:=fE.iQ;have aV:=q7 x (fd 16 k n c9);obtain⟨q8,dk,sQ,f,Z⟩:=lL aV 3 rfl I.dP I.st.kept;have eN:=f.nh (n:=1);have cp:=(aV.cell 2 rfl).1;have aP:=(aV.cell 1 rfl).1;have bu:=(aV.cell 0 rfl).1;have fV:b5 0 (.ptr c.ab 0 0)=o (.ptr c.ab 0 0):=rfl;by_cases aX:a.kind=4
 ·have gp:decide (a.kind=4)=O:=decide_eq_true aX;rw[if_neg (λh=>h aX)];obtain⟨ah,bc,br⟩:=aV.call (cF:=λah=>aQ ap W 68 [.ptr c.h6 0 0] ((h.push [fd 16 k n c9]).push [aU])=o (.inl (.bU [.int j S.G.gate.2.1,.int j S.G.gate.2.2]),ah)) 4 rfl (Y:=bi c.h6 S.G.gate.1) λae ai g=>Xc g I.st.wf;have d1:=(br.cell 0 rfl).1;by_cases a8:S.G.gate.2.2=0
  ·rw[if_neg (λh=>h a8)];have xO:decide (S.G.gate.2.2=0)=O:=decide_eq_true a8;obtain⟨aD,bY,bz⟩:=br.call (cF:=λaD=>aQ ap W 85 [.ptr c.h6 0 0,.int j a.n,.int j 15,.int j S.G.gate.2.1] ah=o (.inl (.bU [.int j (S.G.gate.1.derive a.n 15 S.G.gate.2.1).2.1,.int j (S.G.gate.1.derive a.n 15 S.G.gate.2.1).2.2]),aD)) 4 rfl (Y:=bi c.h6 (S.G.gate.1.derive a.n 15 S.G.gate.2.1).1) λae ai g=>QS g I.st.wf.gate a.n 15 S.G.gate.2.1;generalize S.G.gate.1.derive a.n 15 S.G.gate.2.1=q at*;obtain⟨cN,m,iw⟩:=q;simp only at bY bz ⊢;have ce:=aes (h:=aD) m iw;by_cases aN:iw=0
   ·rw[if_pos aN]at ce;subst aN;rw[if_neg (λh=>h rfl)];have b8:=bz.push [[.int j 4,.int j m,.aA]];have cM:=b8.hb (aB.fresh _ 2);have kC:=(b8.cell 0 rfl).1;have bM:=(b8.cell 1 rfl).1;have eM:=cM.set 1 rfl [[.int j 2,.int j 0,.b0 (o aD.ids) bG [[.int j 4,.int j m,.aA],[.int j 5,.int j S.G.gate.2.1,.aA]]]];refine⟨_,_,?_,KZ (id:=o aD.ids) (es:=[[.int j 4,.int j m,.aA],[.int j 5,.int j S.G.gate.2.1,.aA]]) ⟨_,_,rfl,zl m,_,_,rfl,aa5 S.G.gate.2.1,rfl⟩,eM.drop.drop.drop⟩;refine a2 hU rfl ?_;unfold hM;simp only[ak,aq,ar,al,bW,tG,bJ,dR,cp,aP,bu,eN,fV,i0,cC,h7,gp,bc,d1,xO,bY,ce,kC,bM];rfl
   ·rw[if_neg aN]at ce;have je:decide (iw=0)=T:=decide_eq_false aN;rw[if_pos aN];have b8:=bz.push [aU];have kC:=(b8.cell 0 rfl).1;have bM:=(b8.cell 1 rfl).1;refine⟨_,_,?_,e6,(b8.set 1 rfl [aU]).drop.drop.drop⟩;refine a2 hU rfl ?_;unfold hM;simp only[ak,aq,ar,al,bW,tG,bJ,dR,cp,aP,bu,eN,fV,i0,cC,h7,gp,bc,d1,xO,bY,ce,kC,bM,je];rfl
  ·rw[if_pos a8];have xO:decide (S.G.gate.2.2=0)=T:=decide_eq_false a8;refine⟨_,_,?_,e6,(br.set 0 rfl [aU]).drop.drop⟩;refine a2 hU rfl ?_;unfold hM;simp only[ak,aq,ar,al,bW,bJ,dR,cp,aP,bu,eN,fV,i0,cC,h7,gp,bc,d1,xO];rfl
 ·have gp:decide (a.kind=4)=T:=decide_eq_false aX;rw[if_pos aX];refine⟨_,_,?_,e6,aV.drop.drop⟩;refine a2 hU rfl ?_;unfold hM;simp only[ak,aq,ar,al,bW,bJ,dR,cp,aP,bu,eN,fV,i0,cC,h7,gp];rfl
end
abbrev GX:c':=95
abbrev SD:c':=54
def Bv(f:c')(h:ag)(ae ai:Nat->Prop)(c:hL)(e:Nat)(ms:dj)(a1:List (List av))(aI:Nat)(a:List E)(q:bK×av×Int):Prop:=∃F bj,aQ ap W f a h=o (.inl (.bU [.agg bj,.int j q.2.2]),F)/\bT q.2.1 bj/\gw h ae ai F (cf (iI c e ms q.1 a1 aI))
structure GY(ms:dj)(S:bK)(p:Int)(x:bx)(arg:av)(names:List av):Prop where
 auo:x.fault (gS ms p).length names.length=0
 arg:arg.code=0
 iH:∀v∈names,v.code=0
 len:names.length+S.left<=100000
 d':0<=p
 kZ:p<4
def Bw(ms:dj)(c:hL)(e:Nat)(a1:List (List av))(N:Nat):Prop:=∀(S:bK) (p:Int) (x:bx) (arg:av) (names:List av) (aI:Nat) (h:ag) (ae ai:Nat->Prop) (r cJ:List E) (aL:E) (rows:List (List E)),S.left<=N->jO ms S->GY ms S p x arg names->aI<=20->gR x r->bT arg cJ->fo bG aL rows->c8 names rows->(cf (iI c e ms S a1 aI)).A h ae ai->Bv GX h ae ai c e ms a1 aI [.ptr e 0 0,.int j p,.agg r,.agg cJ,aL] (ea ms N p x arg names aI S)
def sR(ms:dj)(N:Nat)(p f:Int)(arg:av)(aI:Nat)(S:bK):bK×av×Int:=if aI=20 then S.no 4 else ea ms N p (gY ms p f) arg [] (aI+1) S
section
variable{h F aj:ag}{ae ai aJ aG:Nat->Prop}{L:List b6}{c:hL}{ms:dj}{S:bK}{a1:List (List av)}{e aI P N:Nat}
theorem SE{b p:Nat}(q:gx)(aH:p<4):dO ad (o (4,1)) (.ptr b 0 3) (.int q (p:Int))=o (.ptr b 0 (3+p)):=by simp[dO,aH]
theorem aup(aZ:Bw ms c e a1 N)(eK:S.left<=N)(I:jO ms S)(fT:P<4)(j9:ms[P]? =o (o M))(eg:K<M.length)(kr:aI<=20)(am:S.left<=100000){arg:av}(an:arg.code=0){cJ:List E}(fE:bT arg cJ)(x:(cf (iI c e ms S a1 aI)).A h ae ai):Bv SD h ae ai c e ms a1 aI [.ptr e 0 0,.int j (P:Int),.int j (K:Int),.agg cJ] (sR ms N P K arg aI S):=by
 obtain⟨kF,rfl,gb⟩:=fE.iQ;have aV:=q7 x [.int j arg.kind,.int j arg.n,kF];have cp:=(aV.cell 2 rfl).1;have aP:=(aV.cell 1 rfl).1;have bu:=(aV.cell 0 rfl).1;unfold sR;by_cases m6:aI=20
 ·rw[if_pos m6];have d:decide ((aI:Int)=20)=O:=decide_eq_true (by omega);refine⟨_,_,?_,e6,aV.drop.drop⟩;refine a2 adM rfl ?_;unfold Sb;simp only[ak,aq,ar,al,gb,cp,bu,d];rfl
 ·rw[if_neg m6];have d:decide ((aI:Int)=20)=T:=decide_eq_false (by omega);have cY:=eL (n:=(aI:Int)+1) (by omega) (by omega);have gC:=eL (n:=(aI:Int)+1 - 1) (by omega) (by omega);have vr:gS ms (P:Int)=M:=by simp[gS,dz,j9]
  have aw:gY ms (P:Int) (K:Int)=M[K]:=by simp[gY,vr,dz,eg]
  have br:=aV.set 2 rfl [[.ptr c.ab 0 0,.int j (S.left:Int),.int j ((aI:Int)+1)]];obtain⟨q8,dk,n4,f,Z⟩:=lL br 3 rfl I.dP I.st.kept;obtain⟨q,v,es,cL,c3,hY,dP,rK⟩:=f.mod P M j9;obtain⟨tT,b3,dH⟩:=rK.get (i:=K) (x:=M[K]) (fr eg);have l7:=f.l7 (n:=1) cL;have auq:∀q:gx,dO (o fp) ad v (.int q (K:Int))=o (.ip tT 0):=λq=>dP.ed.bV q K tT b3;have t':=gX dH.one.2;have ud:cS T 1 (((h.push [[.int j arg.kind,.int j arg.n,kF]]).push [aU]).set e (o [[.ptr c.ab 0 0,.int j (S.left:Int),.int j ((aI:Int)+1)]])) (.ptr q 0 0)=o v:=by rw[fL,c3];rfl
  have hR:=(br.cell 2 rfl).1;have cg:=(br.cell 1 rfl).1;have f3:b5 3 (.ptr c.ab 0 0)=o (.ptr c.ab 0 3):=rfl;have bV:=λq=>SE (b:=c.ab) q fT;have fit:GY ms S P M[K] arg []:=⟨by rw[<-aw,vr];rw[<-vr];exact Le I.g (by rw[vr];simpa using eg),an,by simp,by simpa using am,by omega,by omega⟩;obtain⟨aD,⟨bj,bY,du⟩,bz⟩:=br.ww (A:=[aY (h.n+1) [aU],aY h.n [[.int j arg.kind,.int j arg.n,kF]]]) (M:=iI c e ms S a1 (aI+1)) (B:=[]) (cF:=λaD=>∃bj,aQ ap W GX [.ptr e 0 0,.int j (P:Int),.agg tT,.agg [.int j arg.kind,.int j arg.n,kF],.aA] (((h.push [[.int j arg.kind,.int j arg.n,kF]]).push [aU]).set e (o [[.ptr c.ab 0 0,.int j (S.left:Int),.int j ((aI:Int)+1)]]))=o (.inl (.bU [.agg bj,.int j (ea ms N P M[K] arg [] (aI+1) S).2.2]),aD)/\bT (ea ms N P M[K] arg [] (aI+1) S).2.1 bj) (q1:=iI c e ms (ea ms N P M[K] arg [] (aI+1) S).1 a1 (aI+1)) λae ai y=>by obtain⟨aD,bj,aR,a5,bp⟩:=aZ S P M[K] arg [] (aI+1) _ ae ai tT _ .aA [] eK I fit (by omega) dH fE (.inl ⟨rfl,rfl⟩) rfl y;exact⟨aD,⟨bj,aR,a5⟩,bp⟩
  rw[aw];have rW:=oa ms N P M[K] arg [] (aI+1) S I.st an (by simp);generalize ea ms N P M[K] arg [] (aI+1) S=Q at*;obtain⟨ca,bs,dQ⟩:=Q;simp only at bY du bz rW ⊢;have bz:aK h ae ai aD (aY (h.n+1) [aU]::aY h.n [[.int j arg.kind,.int j arg.n,kF]]::iI c e ms ca a1 (aI+1)):=bz;have b8:=bz.push [bj];have t5:=bz.push [aU];have ss:=(t5.cell 3 rfl).1;have fR:=(t5.cell 2 rfl).1;rw[show(((aI+1:Nat):Int))=(aI:Int)+1 by omega]at ss;obtain⟨aur,aus,aut,f5,LQ⟩:=lL t5 4 rfl I.dP rW.1.cG.kept;obtain⟨ek,auu,gk,LU,auv,_⟩:=f5.mod P M j9;obtain⟨rfl,rfl⟩:q=ek/\v=auu:=by rw[cL]at LU;simp only[hZ,kh,E.ptr.injEq,and_true]at LU;exact LU
  have auw:=f5.l7 (n:=1) LU;have auy:cS T 1 (aD.push [aU]) (.ptr q 0 0)=o v:=by rw[fL,auv];rfl
  have rn:=(b8.cell 3 rfl).1;have da:=(b8.cell 2 rfl).1;have ch:=(b8.cell 1 rfl).1;have cM:=b8.set 3 rfl [[.ptr c.ab 0 0,.int j (ca.left:Int),.int j (aI:Int)]];have eM:=cM.set 1 rfl [bj];have hy:=(cM.cell 0 rfl).1;have cE:=(cM.cell 1 rfl).1;have c6:=(eM.cell 1 rfl).1;have auz:=du.cD;refine⟨_,_,?_,du,eM.drop.drop.drop⟩;have ht:kK j ((aI:Int)+1 - 1)=(aI:Int):=by rw[gC];omega
  have l4:(((aI+1:Nat):Int))=(aI:Int)+1:=by omega
  rw[l4]at rn;refine a2 adM rfl ?_;unfold Sb;simp only[ak,aq,ar,al,bJ,gb,cp,bu,d,cY,l7,auq,t',ud,cg,f3,bV,bY,auw,auy,rn,ht,hy,cE,auz,ss,fR]
theorem jO.auA(I:jO ms S)(hw:cN.dE):jO ms {S with G:=cN}:=⟨I.dP,I.g,I.st.with hw,I.a'⟩
theorem jO.of(I:jO ms S)(g:ca.Good)(hm:ca.a'<=S.a'):jO ms ca:=⟨I.dP,I.g,g,e7 hm I.a'⟩
variable{k n:Int}{c9 bF:E}{rows:List (List E)}{a b:av}
theorem SF{A:List b6}{H:ag}(s:aK aj aJ aG H (A++iI c e ms S a1 aI))(aZ:Bw ms c e a1 N)(eK:S.left<=N)(I:jO ms S)(fT:P<4)(j9:ms[P]? =o (o M))(eg:K<M.length)(kr:aI<=20)(am:S.left<=100000){arg:av}(an:arg.code=0){cJ:List E}(fE:bT arg cJ):∃F bj,aQ ap W SD [.ptr e 0 0,.int j (P:Int),.int j (K:Int),.agg cJ] H=o (.inl (.bU [.agg bj,.int j (sR ms N P K arg aI S).2.2]),F)/\bT (sR ms N P K arg aI S).2.1 bj/\aK aj aJ aG F (A++iI c e ms (sR ms N P K arg aI S).1 a1 aI):=by
 have ew:aK aj aJ aG H (A++iI c e ms S a1 aI++[]):=by rw[n3];exact s
 obtain⟨aD,⟨bj,bY,du⟩,bz⟩:=ew.ww (cF:=λaD=>∃bj,aQ ap W SD [.ptr e 0 0,.int j (P:Int),.int j (K:Int),.agg cJ] H=o (.inl (.bU [.agg bj,.int j (sR ms N P K arg aI S).2.2]),aD)/\bT (sR ms N P K arg aI S).2.1 bj) (q1:=iI c e ms (sR ms N P K arg aI S).1 a1 aI) λae ai y=>by obtain⟨aD,bj,aR,a5,bp⟩:=aup aZ eK I fT j9 eg kr am an fE y;exact⟨aD,⟨bj,aR,a5⟩,bp⟩
 rw[n3]at bz;exact⟨aD,bj,bY,du,bz⟩
theorem auB(x:(cf (iI c e ms S a1 aI)).A h ae ai)(I:jO ms S)(dR:c9.one=O)(am:hn bG bF rows)(U:c8 [a] rows)(aZ:Bw ms c e a1 N)(eK:S.left<=N)(fT:P<4)(j9:ms[P]? =o (o M))(eg:K<M.length)(kr:aI<=20)(hle:S.left<=100000)(an:a.code=0):Bv Dq h ae ai c e ms a1 aI [.ptr e 0 0,.int j (P:Int),.agg (fd 18 (K:Int) n c9),bF] (sR ms N P K a aI S):=by obtain⟨cJ,rfl,i0,fE⟩:=wD am U;obtain⟨kF,rfl,gb⟩:=fE.iQ;have aV:=q7 x (fd 18 (K:Int) n c9);obtain⟨q8,dk,sQ,f,Z⟩:=lL aV 3 rfl I.dP I.st.kept;have eN:=f.nh (n:=1);have cp:=(aV.cell 2 rfl).1;have aP:=(aV.cell 1 rfl).1;have bu:=(aV.cell 0 rfl).1;have fV:b5 0 (.ptr c.ab 0 0)=o (.ptr c.ab 0 0):=rfl;obtain⟨ah,hz,bc,hB,br⟩:=SF (A:=[aY (h.n+1) [aU],aY h.n [fd 18 (K:Int) n c9]]) aV aZ eK I fT j9 eg kr hle an fE;have d1:=(br.cell 0 rfl).1;have dW:=hB.cD;generalize sR ms N P K a aI S=Q at*;have bz:=br.set 0 rfl [hz];refine⟨_,_,?_,hB,bz.drop.drop⟩;refine a2 hU rfl ?_;unfold hM;simp only[ak,aq,ar,al,bW,bJ,dR,cp,aP,bu,eN,fV,i0,cC,h7,bc,d1,dW]
def zC(ms:dj)(N:Nat)(a b:av)(aI:Nat)(S:bK):bK×av×Int:=match hO ms a b aI S with
 |(lY,q,c)=>if c≠0 then lY.no c else match ea ms N q.bI (gY ms q.bI q.func) q.arg [] (aI+1) lY with
   |(n8,v,c)=>if c≠0 then n8.no c else m5 q.eW v n8
theorem auC{aT:List Int}{v:av}:m5 aT v S=({S with G:=(fC aT S.G v).1},(fC aT S.G v).2.1,(fC aT S.G v).2.2):=by
 have aN:=anE (aT:=aT) (x:=v) (G:=S.G);unfold m5;generalize fC aT S.G v=q at aN ⊢;obtain⟨cN,y,k⟩:=q;simp only at aN ⊢;by_cases Z:k=0
 ·rw[if_neg (λh=>h Z),Z];rfl
 ·rw[if_pos Z,aN Z];rfl
theorem aeu{H:ag}(s:aK aj aJ aG H L){G:a0}(af:L[i]? =o (bi c.h6 G))(hw:G.dE){dS:E}{aT:List Int}(a8:hn 3 dS (gl aT))(Z:aT.length<=1000000){x:av}{r:List E}(aw:bT x r):∃F bj,aQ ap W 140 [.ptr c.h6 0 0,.agg r,dS] H=o (.inl (.bU [.agg bj,.int j (fC aT G x).2.2]),F)/\bT (fC aT G x).2.1 bj/\aK aj aJ aG F (L.set i (bi c.h6 (fC aT G x).1)):=by obtain⟨F,⟨bj,au,ax⟩,ew⟩:=s.call (cF:=λF=>∃bj,aQ ap W 140 [.ptr c.h6 0 0,.agg r,dS] H=o (.inl (.bU [.agg bj,.int j (fC aT G x).2.2]),F)/\bT (fC aT G x).2.1 bj) i af (Y:=bi c.h6 (fC aT G x).1) λae ai g=>apN a8 Z g hw aw;exact⟨F,bj,au,ax,ew⟩
end
section
variable{h F aj:ag}{ae ai aJ aG:Nat->Prop}{L:List b6}{c:hL}{ms:dj}{S:bK}{a1:List (List av)}{e aI P N:Nat}
variable{p k n:Int}{c9 bF:E}{rows:List (List E)}{a b:av}
abbrev GZ:tm:=⟨0,0,cv,[]⟩
theorem auD(h:a.kind≠4):hO ms a b aI S=(S,GZ,2):=by unfold hO;exact if_pos h
theorem auE(h:a.kind=4)(ab:fS (S.G.dn a.n) 3=T):hO ms a b aI S=(S,GZ,9):=by unfold hO;exact(if_neg (λe=>e h)).trans (if_pos ab)
theorem auF(h:a.kind=4)(ab:fS (S.G.dn a.n) 3=O)(a3:(S.G.target a.n).1=t)(aH:t.bI<0):hO ms a b aI S=(S,GZ,2):=by subst a3;unfold hO;exact(if_neg (λe=>e h)).trans ((if_neg (by simp[ab])).trans (if_pos aH))
theorem aev(h:a.kind=4)(ab:fS (S.G.dn a.n) 3=O)(a3:(S.G.target a.n).1=t)(aH:¬t.bI<0)(aE:(ms.getD t.bI.toNat ad).isNone\/((gS ms t.bI).length:Int)<=t.func\/t.func<0):hO ms a b aI S=(S,GZ,8):=by subst a3;unfold hO;exact(if_neg (λe=>e h)).trans ((if_neg (by simp[ab])).trans ((if_neg aH).trans (if_pos aE)))
theorem auG(h:a.kind=4)(ab:fS (S.G.dn a.n) 3=O)(a3:(S.G.target a.n).1=t)(aH:¬t.bI<0)(aE:¬((ms.getD t.bI.toNat ad).isNone\/((gS ms t.bI).length:Int)<=t.func\/t.func<0))(bl:aI=20):hO ms a b aI S=(S,GZ,4):=by subst a3;unfold hO;exact(if_neg (λe=>e h)).trans ((if_neg (by simp[ab])).trans ((if_neg aH).trans ((if_neg aE).trans (if_pos bl))))
theorem auH(h:a.kind=4)(ab:fS (S.G.dn a.n) 3=O)(a3:(S.G.target a.n).1=t)(aH:¬t.bI<0)(aE:¬((ms.getD t.bI.toNat ad).isNone\/((gS ms t.bI).length:Int)<=t.func\/t.func<0))(bl:¬aI=20):hO ms a b aI S=({S with G:=(fC (S.G.oJ a.n) S.G b).1},⟨t.bI,t.func,(fC (S.G.oJ a.n) S.G b).2.1,S.G.oJ a.n⟩,(fC (S.G.oJ a.n) S.G b).2.2):=by subst a3;unfold hO;exact(if_neg (λe=>e h)).trans ((if_neg (by simp[ab])).trans ((if_neg aH).trans ((if_neg aE).trans (if_neg bl))))
theorem Bx{q:tm}{ue:Int}(h:hO ms a b aI S=(ca,q,ue))(Z:ue≠0):zC ms N a b aI S=ca.no ue:=by unfold zC;rw[h];exact if_pos Z
theorem auI{n8:bK}{q:tm}{v:av}{ue:Int}(h:hO ms a b aI S=(ca,q,0))(R:ea ms N q.bI (gY ms q.bI q.func) q.arg [] (aI+1) ca=(n8,v,ue))(Z:ue≠0):zC ms N a b aI S=n8.no ue:=by unfold zC;rw[h];simp only;rw[if_neg (λe=>e rfl),R];exact if_pos Z
theorem auJ{n8:bK}{q:tm}{v:av}(h:hO ms a b aI S=(ca,q,0))(R:ea ms N q.bI (gY ms q.bI q.func) q.arg [] (aI+1) ca=(n8,v,0)):zC ms N a b aI S=m5 q.eW v n8:=by unfold zC;rw[h];simp only;rw[if_neg (λe=>e rfl),R];exact if_neg (λe=>e rfl)
theorem auK(x:(cf (iI c e ms S a1 aI)).A h ae ai)(I:jO ms S)(dR:c9.one=O)(am:hn bG bF rows)(U:c8 [a,b] rows)(aZ:Bw ms c e a1 N)(eK:S.left<=N)(kr:aI<=20)(hle:S.left<=100000):Bv Dq h ae ai c e ms a1 aI [.ptr e 0 0,.int j p,.agg (fd 19 k n c9),bF] (zC ms N a b aI S):=by
 obtain⟨cJ,ub,rfl,t⟩:=LS am U;obtain⟨kF,rfl,gb⟩:=t.a.iQ;obtain⟨cr,rfl,nM⟩:=t.b.iQ;have i0:=t.i0;have i1:=t.i1;have aV:=q7 x (fd 19 k n c9);obtain⟨q8,dk,sQ,f,Z⟩:=lL aV 3 rfl I.dP I.st.kept;have eN:=f.nh (n:=1);have cp:=(aV.cell 2 rfl).1;have aP:=(aV.cell 1 rfl).1;have bu:=(aV.cell 0 rfl).1;have fV:b5 0 (.ptr c.ab 0 0)=o (.ptr c.ab 0 0):=rfl;by_cases aX:a.kind=4
 rotate_left
 ·have gp:decide (a.kind=4)=T:=decide_eq_false aX;rw[Bx (auD aX) (by decide)];refine⟨_,_,?_,e6,aV.drop.drop⟩;refine a2 hU rfl ?_;unfold hM;simp only[ak,aq,ar,al,bW,bJ,dR,cp,aP,bu,eN,fV,i0,cC,h7,gp];rfl
 have gp:decide (a.kind=4)=O:=decide_eq_true aX;obtain⟨ah,bc,eF⟩:=Sw (i:=2) (D:=3) (k:=4) aV rfl rfl rfl I t.a 3 (by decide);have bc:aQ ap W 137 [.ptr e 0 0,.agg [.int j a.kind,.int j a.n,kF],.int j 3] ((h.push [fd 19 k n c9]).push [aU])=o (.inl (.bU [.agg (if fS (S.G.dn a.n) 3 then cQ (S.G.target a.n).1 else qm),.int j (if fS (S.G.dn a.n) 3 then 0 else 9)]),ah):=bc;have br:=aV.hb eF;by_cases ab:fS (S.G.dn a.n) 3=O
 rotate_left
 ·rw[Bx (auE aX (by simpa using ab)) (by decide)];rw[if_neg ab,if_neg ab]at bc;have bz:=br.push [qm];have d1:=(bz.cell 1 rfl).1;have d2:=(bz.cell 2 rfl).1;have d0:=(bz.cell 0 rfl).1;refine⟨_,_,?_,e6,(bz.set 1 rfl [aU]).drop.drop.drop⟩;refine a2 hU rfl ?_;unfold hM;simp only[ak,aq,ar,al,bW,bJ,dR,cp,aP,bu,eN,fV,i0,cC,h7,gp,bc,d0,d1];rfl
 rw[if_pos ab,if_pos ab]at bc;obtain⟨_,_,a3⟩:=a0.Qf I.st.wf (abG ab);generalize g4:(S.G.target a.n).1=eT at*;obtain⟨t1,t2,t3,t4,t5,t6⟩:=eT;simp only[cQ]at a3 bc;have bz:=br.push [[.int j t1,.int j t2,.int j t3,.int j t4,.int j t5,.int j t6]];have d0:=(bz.cell 0 rfl).1;have d1:=(bz.cell 1 rfl).1;have d2:=(bz.cell 2 rfl).1;have d3:=(bz.cell 3 rfl).1;by_cases aH:t5<0
 ·rw[Bx (auF aX ab g4 aH) (by decide)];have qn:decide (t5<0)=O:=decide_eq_true aH;refine⟨_,_,?_,e6,(bz.set 1 rfl [aU]).drop.drop.drop⟩;refine a2 hU rfl ?_;unfold hM;simp only[ak,aq,ar,al,bW,bJ,dR,cp,aP,bu,eN,fV,i0,cC,h7,gp,bc,d0,d1,qn];rfl
 have qn:decide (t5<0)=T:=decide_eq_false aH;obtain⟨D,rfl⟩:=lE (a:=t5) (by omega);obtain⟨K,rfl⟩:=lE (a:=t6) (by omega);have aa:D<4:=by omega
 obtain⟨axP,axQ,axR,f4,axS⟩:=lL bz 4 rfl I.dP I.st.kept;obtain⟨M,j9⟩:∃M,ms[D]? =o M:=⟨ms[D]'(by rw[I.dP];exact aa),fr _⟩;have m1:ms.getD (D:Int).toNat ad=M:=by rw[mE,dz,j9];rfl
 have f3:b5 3 (.ptr c.ab 0 0)=o (.ptr c.ab 0 3):=rfl;have bV:=λq=>SE (b:=c.ab) q aa;cases M with
 |none=>obtain⟨iq,cL⟩:=f4.Sl D j9;have l7:=f4.l7 (n:=1) cL;rw[Bx (aev aX ab g4 aH (.inl (by simp only;rw[m1];rfl))) (by decide)];refine⟨_,_,?_,e6,(bz.set 1 rfl [aU]).drop.drop.drop⟩;refine a2 hU rfl ?_;unfold hM;simp only[ak,aq,ar,al,bW,bJ,dR,cp,aP,bu,eN,fV,i0,cC,h7,gp,bc,d0,d1,d3,qn,f3,bV,l7];rfl
 |some M=>
 obtain⟨q,v,es,cL,c3,hY,dP,rK⟩:=f4.mod D M j9;have l7:=f4.l7 (n:=1) cL;have ud:cS T 1 (ah.push [[.int j t1,.int j t2,.int j t3,.int j t4,.int j D,.int j K]]) (.ptr q 0 0)=o v:=by rw[fL,c3];rfl
 have vr:gS ms (D:Int)=M:=by simp[gS,dz,j9]
 have wE:hX v=o M.length:=by rw[<-rK.len];exact dP.ed.len
 have wF:=dP.ed.fits;by_cases eg:(M.length:Int)<=(K:Int)
 ·rw[Bx (aev aX ab g4 aH (.inr (.inl (by simp only;rw[vr];exact eg)))) (by decide)];have Dr:decide ((M.length:Int)<=(K:Int))=O:=decide_eq_true eg;refine⟨_,_,?_,e6,(bz.set 1 rfl [aU]).drop.drop.drop⟩;refine a2 hU rfl ?_;unfold hM;simp only[ak,aq,ar,al,bW,bJ,dR,cp,aP,bu,eN,fV,i0,cC,h7,gp,bc,d0,d1,d3,qn,f3,bV,l7,ud,wE,wF,Dr];rfl
 have aE:¬((ms.getD (⟨t1,t2,t3,t4,(D:Int),(K:Int)⟩:e5).bI.toNat ad).isNone\/((gS ms (⟨t1,t2,t3,t4,(D:Int),(K:Int)⟩:e5).bI).length:Int)<=(⟨t1,t2,t3,t4,(D:Int),(K:Int)⟩:e5).func\/(⟨t1,t2,t3,t4,(D:Int),(K:Int)⟩:e5).func<0):=by simp only;rw[m1,vr];simp only[Option.isNone_some,l9,false_or];omega
 have Dr:decide ((M.length:Int)<=(K:Int))=T:=decide_eq_false eg;by_cases m6:aI=20
 ·rw[Bx (auG aX ab g4 aH aE m6) (by decide)];have d20:decide ((aI:Int)=20)=O:=decide_eq_true (by omega);refine⟨_,_,?_,e6,(bz.set 1 rfl [aU]).drop.drop.drop⟩;refine a2 hU rfl ?_;unfold hM;simp only[ak,aq,ar,al,bW,bJ,dR,cp,aP,bu,eN,fV,i0,cC,h7,gp,bc,d0,d1,d3,qn,f3,bV,l7,ud,wE,wF,Dr,d20];rfl
 have xV:=auH (b:=b) aX ab g4 aH aE m6;have d20:decide ((aI:Int)=20)=T:=decide_eq_false (by omega);obtain⟨tw,tx,kk⟩:=bz.get 5 rfl;have Bn:=ath kk I.st.wf a.n;have aew:=uH 3 (gl (S.G.oJ a.n));have Ao:=N0 I.st.wf (i:=a.n);obtain⟨bo,hD,cU,b7,b8⟩:=aeu bz (i:=5) rfl I.st.wf aew (by omega) t.b;have LR:=NU (aT:=S.G.oJ a.n) (x:=b) I.st.wf;have SG:=NZ (aT:=S.G.oJ a.n) (G:=S.G) (x:=b);generalize S.G.oJ a.n=aT at*;generalize fC aT S.G b=Q at*;obtain⟨cN,y,ue⟩:=Q;simp only at cU b7 b8 LR SG xV;have cM:=b8.push [hD];have kj:=(cM.cell 0 rfl).1;have nc:=(cM.cell 2 rfl).1;have By:=(cM.cell 1 rfl).1;have g':=b7.cD;by_cases vN:ue=0
 rotate_left
 ·rw[Bx xV vN];have auL:decide (ue=0)=T:=decide_eq_false vN;refine⟨_,_,?_,e6,(cM.set 2 rfl [aU]).drop.drop.drop.drop⟩;refine a2 hU rfl ?_;unfold hM;simp only[ak,aq,ar,al,bW,bJ,dR,cp,aP,bu,eN,fV,i0,i1,cC,h7,gp,bc,d0,d1,d3,qn,f3,bV,l7,ud,wE,wF,Dr,d20,Bn,cU,g',kj,nc,By,auL];rfl
 subst vN;have qD:jO ms {S with G:=cN}:=I.auA LR;have auM:K<M.length:=by omega
 obtain⟨c4,qg,km,eB,eM⟩:=SF (A:=[aY bo.n [hD],aY ah.n [[.int j t1,.int j t2,.int j t3,.int j t4,.int j D,.int j K]],aY (h.n+1) [aU],aY h.n [fd 19 k n c9]]) (S:={S with G:=cN}) cM aZ eK qD aa j9 auM kr hle (SG rfl) b7;have aex:=oa ms N D (gY ms D K) y [] (aI+1) {S with G:=cN} qD.st (SG rfl) (by simp);unfold sR at km eB eM;rw[if_neg m6]at km eB eM;generalize cy:ea ms N D (gY ms D K) y [] (aI+1) {S with G:=cN}=Q at*;obtain⟨auN,bs,r'⟩:=Q;simp only at km eB eM aex;have eM:aK h ae ai c4 (aY bo.n [hD]::aY ah.n [[.int j t1,.int j t2,.int j t3,.int j t4,.int j D,.int j K]]::aY (h.n+1) [aU]::aY h.n [fd 19 k n c9]::iI c e ms auN a1 aI):=eM;have g8:=eM.push [qg];have nf:=(g8.cell 0 rfl).1;have fs:=(g8.cell 3 rfl).1;have nt:=eB.cD;by_cases DN:r'=0
 rotate_left
 ·rw[auI xV cy DN];have auO:decide (r'=0)=T:=decide_eq_false DN;refine⟨_,_,?_,e6,(g8.set 3 rfl [aU]).drop.drop.drop.drop.drop⟩;refine a2 hU rfl ?_;unfold hM;simp only[ak,aq,ar,al,bW,bJ,dR,cp,aP,bu,eN,fV,i0,i1,cC,h7,gp,bc,d0,d1,d3,qn,f3,bV,l7,ud,wE,wF,Dr,d20,Bn,cU,g',kj,nc,By,km,nt,nf,fs,auO];rfl
 subst DN;rw[auJ xV cy,auC];obtain⟨ru,GB,oo,gJ,kP⟩:=aeu g8 (i:=7) rfl aex.1.cG.wf aew (by omega) eB;have M7:=gJ.cD;have auP:=(kP.cell 3 rfl).1;refine⟨_,_,?_,gJ,(kP.set 3 rfl [GB]).drop.drop.drop.drop.drop⟩;refine a2 hU rfl ?_;unfold hM;simp only[ak,aq,ar,al,bW,bJ,dR,cp,aP,bu,eN,fV,i0,i1,cC,h7,gp,bc,d0,d1,d3,qn,f3,bV,l7,ud,wE,wF,Dr,d20,Bn,cU,g',kj,nc,By,km,nt,nf,fs,oo,M7,auP]
end
section
variable{h F aj:ag}{ae ai aJ aG:Nat->Prop}{L:List b6}{c:hL}{ms:dj}{S:bK}{a1:List (List av)}{e aI P N:Nat}
variable{p op k n:Int}{c9 bF aL:E}{rows es:List (List E)}{a b arg:av}{cJ:List E}{names:List av}
theorem auQ{e:a6}{v:E}{rows:List (List E)}(x:(ju e v rows).A h ae ai)(J:row.all E.one=O)(am:rows.length<=1000000):∃bs F,eU T e v (.b0 ad e [row]) h=o (bs,F)/\gw h ae ai F (ju e bs (rows++[row])):=by
 have kW:([row].all λx=>x.all E.one)=O:=by simpa using J
 rcases x with⟨⟨rfl,rfl⟩,au,ax⟩|⟨id,⟨di,rfl⟩,aR,a5,bp,cA⟩
 ·refine⟨.b0 (o h.ids) e [row],h.fresh 1,?_,⟨λ_=>False,λD=>D=h.ids,.inr ⟨h.ids,⟨by simp,rfl⟩,λ_ h=>h,λ_=>nF,by simp[ag.fresh],by simp[ag.fresh]⟩,(aB.fresh h 1).uJ _ _,λ_ h=>h.elim,λD aa=>.inr (by omega)⟩⟩;simp only[eU,iT,if_true,c2,gM,sd,if_false,jX];rw[if_pos ⟨by omega,by omega,kW⟩];rfl
 ·refine⟨.b0 (o id) e (rows++[row]),h.grow id (rows.length+1),?_,⟨λ_=>False,λD=>D=id,.inr ⟨id,⟨by simp,rfl⟩,λ_ h=>h,λ_=>nF,by simp[ag.grow];omega,by simp[ag.grow]⟩,⟨b4 _,by simp[ag.grow],λ_ _ _=>rfl,λD aa gs=>?_⟩,λ_ h=>h.elim,λD aa=>.inl ((a5 D).2 aa)⟩⟩
  ·simp only[eU,iT,if_true,c2,gM,sd,if_false,jX];rw[if_pos ⟨by omega,by omega,kW⟩,cA];simp only[true_and,am,if_true]
  ·rw[NF λe=>gs ((a5 D).2 e)]
theorem auR(s:aK aj aJ aG h L)(i:Nat){e:a6}{v:E}{rows:List (List E)}(af:L[i]? =o (ju e v rows))(J:row.all E.one=O)(am:rows.length<=1000000):∃F bs,eU T e v (.b0 ad e [row]) h=o (bs,F)/\aK aj aJ aG F (L.set i (ju e bs (rows++[row]))):=by
 obtain⟨F,bs,au,ew⟩:=s.y4 (cF:=λJ (bs:E)=>eU T e v (.b0 ad e [row]) h=o (bs,J)) i af (Y:=λbs=>ju e bs (rows++[row])) λae ai x=>by obtain⟨bs,J,aR,a5⟩:=auQ x J am;exact⟨J,bs,aR,a5⟩
 exact⟨F,bs,au,ew⟩
theorem Ds{A:List b6}{H:ag}(s:aK aj aJ aG H (A++iI c e ms S a1 aI))(aZ:Bw ms c e a1 N)(eK:S.left<=N)(I:jO ms S){x:bx}(fit:GY ms S p x arg names)(kr:aI<=20){r:List E}(uc:gR x r)(fE:bT arg cJ)(aC:fo bG aL rows)(U:c8 names rows):∃F bj,aQ ap W GX [.ptr e 0 0,.int j p,.agg r,.agg cJ,aL] H=o (.inl (.bU [.agg bj,.int j (ea ms N p x arg names aI S).2.2]),F)/\bT (ea ms N p x arg names aI S).2.1 bj/\aK aj aJ aG F (A++iI c e ms (ea ms N p x arg names aI S).1 a1 aI):=by
 have ew:aK aj aJ aG H (A++iI c e ms S a1 aI++[]):=by rw[n3];exact s
 obtain⟨aD,⟨bj,bY,du⟩,bz⟩:=ew.ww (cF:=λaD=>∃bj,aQ ap W GX [.ptr e 0 0,.int j p,.agg r,.agg cJ,aL] H=o (.inl (.bU [.agg bj,.int j (ea ms N p x arg names aI S).2.2]),aD)/\bT (ea ms N p x arg names aI S).2.1 bj) (q1:=iI c e ms (ea ms N p x arg names aI S).1 a1 aI) λae ai y=>by obtain⟨aD,bj,aR,a5,bp⟩:=aZ S p x arg names aI H ae ai r cJ aL rows eK I fit kr uc fE aC U y;exact⟨aD,⟨bj,aR,a5⟩,bp⟩
 rw[n3]at bz;exact⟨aD,bj,bY,du,bz⟩
abbrev wG(jE jW kt:Nat)(uc cJ:List E)(c:hL)(e:Nat)(ms:dj)(S:bK)(a1:List (List av))(aI:Nat):List b6:=[aY kt [aU],aY jW [cJ],aY jE [uc]]++iI c e ms S a1 aI
theorem auS(aZ:Bw ms c e a1 N)(kr:aI<=20){X:List bx}(aw:fo fp c9 es)(jg:gE X es)(aey:X.length<=1000)(bl:∀y∈X,y.fault (gS ms p).length names.length=0)(rt:0<=p)(aez:p<4)(aeA:arg.code=0)(aeB:∀v∈names,v.code=0)(fE:bT arg cJ)(aC:fo bG aL rows)(U:c8 names rows)(jE jW kt:Nat)(gJ fz hs hS j8 qW tI xJ wc tJ tK tL LV LW LX LY LZ L0:E):∀(l pre:List bx) (F:ag) (S:bK) (acc:E) (gu:List (List E)) (bA:List av) (fi oS qV L1 G0:E),X=pre++l->S.left<=N->jO ms S->names.length+S.left<=100000->c8 bA gu->bA.length=pre.length->aK aj aJ aG F (ju bG acc gu::wG jE jW kt (fd op k n c9) cJ c e ms S a1 aI)->((jB (λy S=>ea ms N p y arg names aI S) l S bA).2.2=0/\∃gF l3 C8 sz sA sB x8 x9,(∀K,bB (aQ ap W) 33 (.e' Bo::.bP []::.cm 1::K) [.ptr e 0 0,.int j p,.agg (fd op k n c9),.agg cJ,aL,.ptr jE 0 0,.ptr jW 0 0,.ptr kt 0 0,fi,gJ,fz,hs,hS,j8,acc,.int j (pre.length:Int),oS,qV,qW,tI,xJ,wc,tJ,tK,tL,LV,LW,LX,LY,LZ,L0,L1,G0] [] F=bB (aQ ap W) 33 K [.ptr e 0 0,.int j p,.agg (fd op k n c9),.agg cJ,aL,.ptr jE 0 0,.ptr jW 0 0,.ptr kt 0 0,fi,gJ,fz,hs,hS,j8,l3,sz,sA,sB,qW,tI,xJ,wc,tJ,tK,tL,LV,LW,LX,LY,LZ,L0,x8,x9] [] gF)/\c8 (jB (λy S=>ea ms N p y arg names aI S) l S bA).2.1 C8/\aK aj aJ aG gF (ju bG l3 C8::wG jE jW kt (fd op k n c9) cJ c e ms (jB (λy S=>ea ms N p y arg names aI S) l S bA).1 a1 aI))\/((jB (λy S=>ea ms N p y arg names aI S) l S bA).2.2≠0/\∃gF l3 C8 sz sA sB x8 x9,(∀K,bB (aQ ap W) 33 (.e' Bo::.bP []::.cm 1::K) [.ptr e 0 0,.int j p,.agg (fd op k n c9),.agg cJ,aL,.ptr jE 0 0,.ptr jW 0 0,.ptr kt 0 0,fi,gJ,fz,hs,hS,j8,acc,.int j (pre.length:Int),oS,qV,qW,tI,xJ,wc,tJ,tK,tL,LV,LW,LX,LY,LZ,L0,L1,G0] [] F=o (.ret,[.ptr e 0 0,.int j p,.agg (fd op k n c9),.agg cJ,aL,.ptr jE 0 0,.ptr jW 0 0,.ptr kt 0 0,.int j (jB (λy S=>ea ms N p y arg names aI S) l S bA).2.2,gJ,fz,hs,hS,j8,l3,sz,sA,sB,qW,tI,xJ,wc,tJ,tK,tL,LV,LW,LX,LY,LZ,L0,x8,x9],gF))/\aK aj aJ aG gF (ju bG l3 C8::wG jE jW kt (fd op k n c9) cJ c e ms (jB (λy S=>ea ms N p y arg names aI S) l S bA).1 a1 aI)):=by
 intro l;induction l with
 |nil=>
   intro pre F S acc gu bA fi oS qV L1 G0 Dt eK I hlen fl zV s;have G1:hX c9=o X.length:=by rw[<-jg.len];exact aw.ed.len
   have G2:=aw.ed.fits;have d1:decide ((pre.length:Int)<(X.length:Int))=T:=decide_eq_false (by rw[Dt];simp);have gg:=(s.cell 3 rfl).1;refine .inl ⟨rfl,F,acc,gu,.int j (pre.length:Int),oS,qV,.bool T,G0,λK=>?_,fl,s⟩;rw[cV Bo.eq_1];simp only[ak,aq,ar,al,cb,G1,G2,d1,gg]
 |cons y l auT=>
   intro pre F S acc gu bA fi oS qV L1 G0 Dt eK I hlen fl zV s;have G1:hX c9=o X.length:=by rw[<-jg.len];exact aw.ed.len
   have G2:=aw.ed.fits;have jZ:pre.length<X.length:=by rw[Dt];simp
   have d1:decide ((pre.length:Int)<(X.length:Int))=O:=decide_eq_true (by omega);have gg:=(s.cell 3 rfl).1;have ic:=(s.cell 2 rfl).1;have bE:X[pre.length]? =o y:=by rw[Dt];simp
   have QQ:y∈X:=by rw[Dt];simp
   obtain⟨aeC,bM,bL⟩:=jg.get bE;have bV:∀q:gx,dO (o fp) ad c9 (.int q (pre.length:Int))=o (.ip aeC 0):=λq=>aw.ed.bV q pre.length aeC bM;have t':=gX bL.one.2;have cY:=eL (n:=(pre.length:Int)+1) (by omega) (by omega);have e8:((pre++[y]).length:Int)=(pre.length:Int)+1:=by simp
   have mq:=gX fE.cD.1;have fit:GY ms S p y arg names:=⟨bl y QQ,aeA,aeB,hlen,rt,aez⟩;obtain⟨R,bR,ax,cn,aV⟩:=Ds (A:=[ju bG acc gu,aY kt [aU],aY jW [cJ],aY jE [fd op k n c9]]) s aZ eK I fit kr bL fE aC U;have mr:=oa ms N p y arg names aI S I.st aeA aeB;have auU:jB (λy S=>ea ms N p y arg names aI S) (y::l) S bA=(match ea ms N p y arg names aI S with|(ca,v,c)=>if c≠0 then(ca,[],c)else jB (λy S=>ea ms N p y arg names aI S) l ca (bA++[v])):=rfl;rw[auU];generalize ea ms N p y arg names aI S=Q at*;obtain⟨lY,bs,bu⟩:=Q;simp only at ax cn aV mr ⊢;have br:=aV.push [bR];have t3:=aV.push [aU];have kj:=(t3.cell 4 rfl).1;have nc:=(t3.cell 3 rfl).1;have zD:=(br.cell 2 rfl).1;have bq:=cn.cD;have gb:=fE.cD;by_cases an:bu=0
   ·subst an;rw[if_neg (λh=>h rfl)];have TM:=mr.1.left;simp only at TM;have axT:gu.length=pre.length:=by rw[<-zV];exact fl.len
    obtain⟨aD,ko,pz,bz⟩:=auR br 1 rfl (row:=bR) bq.2 (by omega);have bz:aK aj aJ aG aD (aY R.n [bR]::ju bG ko (gu++[bR])::wG jE jW kt (fd op k n c9) cJ c e ms lY a1 aI):=bz;have oy:=auT (pre++[y]) aD lY ko (gu++[bR]) (bA++[bs]) fi (.ptr R.n 0 0) (.int j 0) (.bool O) (.bool T) (by simp[Dt]) (by omega) (I.of mr.1.cG (by have:=mr.1.a';simp only at this;omega)) (by omega) (fl.append cn) (by simp[zV]) bz.drop;rcases oy with⟨aN,c4,SH,SI,sz,sA,sB,x8,x9,qg,SJ,eM⟩|⟨aN,c4,SH,SI,sz,sA,sB,x8,x9,qg,eM⟩
    ·refine .inl ⟨aN,c4,SH,SI,sz,sA,sB,x8,x9,λK=>?_,SJ,eM⟩;rw[<-qg K,e8]
     conv=>lhs;rw[cV Bo.eq_1]
     simp only[ak,aq,ar,al,cb,bJ,G1,G2,d1,gg,ic,bV,t',mq,ax,kj,nc,bq,pz,cY]
    ·refine .inr ⟨aN,c4,SH,SI,sz,sA,sB,x8,x9,λK=>?_,eM⟩;rw[<-qg K,e8]
     conv=>lhs;rw[cV Bo.eq_1]
     simp only[ak,aq,ar,al,cb,bJ,G1,G2,d1,gg,ic,bV,t',mq,ax,kj,nc,bq,pz,cY]
   ·rw[if_pos an];have Du:decide (bu=0)=T:=decide_eq_false an;have bz:=(br.set 2 rfl [aU]).drop;refine .inr ⟨an,_,acc,gu,.int j (pre.length:Int),.ptr R.n 0 0,.int j bu,.bool O,.bool O,λK=>?_,bz⟩;rw[cV Bo.eq_1];simp only[ak,aq,ar,al,cb,bJ,G1,G2,d1,gg,ic,bV,t',mq,ax,kj,nc,bq,Du,zD]
end
section
variable{h F aj:ag}{ae ai aJ aG:Nat->Prop}{L:List b6}{c:hL}{ms:dj}{S:bK}{a1:List (List av)}{e aI P N:Nat}
variable{p op k n:Int}{c9 bF aL:E}{rows es:List (List E)}{a b arg:av}{cJ:List E}{names:List av}
theorem aeD{h:ag}{ae ai:Nat->Prop}{e:a6}{v:E}{rows:List (List E)}(x:(ju e v rows).A h ae ai):fo e v rows:=by
 rcases x with⟨⟨rfl,rfl⟩,_⟩|⟨id,⟨_,rfl⟩,_⟩
 ·exact .inl ⟨rfl,rfl⟩
 ·exact .inr ⟨_,rfl⟩
theorem auV{x:bx}{bA:List av}(h0:¬(x.op=1\/x.op=2\/x.op=3\/x.op=4\/x.op=21))(g':x.op≠5)(nt:x.op≠7)(tV:x.op≠18)(wm:x.op≠19)(aH:0<=fM x.op)(am:(bA.length:Int)=fM x.op)(an:∀v∈bA,v.code=0)(rt:0<=p)(aez:p<4)(y:(cf (iI c e ms S a1 aI)).A h ae ai)(I:jO ms S)(dR:c9.one=O)(aC:fo bG bF rows)(U:c8 bA rows):Bv Dq h ae ai c e ms a1 aI [.ptr e 0 0,.int j p,.agg (fd x.op x.k x.n c9),bF] (gZ p x.op x.k x.n bA S):=by
 have J:=Rm aH;have af:=aC.ed;generalize x.op=op at*;generalize x.k=k at*;generalize x.n=n at*;have two:fM op=2->∃a b,bA=[a,b]:=λh=>Gv (by omega);have one:fM op=1->∃a,bA=[a]:=λh=>by
  have:bA.length=1:=by omega
  match bA,this with
  |[a],_=>exact⟨a,rfl⟩
 obtain⟨P,rfl⟩:=lE rt;rcases(by omega:op=6\/op=8\/op=9\/op=10\/op=11\/op=12\/op=13\/op=14\/op=15\/op=16\/op=17\/op=20)with rfl|rfl|rfl|rfl|rfl|rfl|rfl|rfl|rfl|rfl|rfl|rfl
 ·obtain⟨a,b,rfl⟩:=two (by decide);exact at8 y I dR af U
 ·obtain⟨a,b,rfl⟩:=two (by decide);exact aua y I dR af aC U
 ·obtain⟨a,rfl⟩:=one (by decide);exact auc y I dR af U (an a (by simp))
 ·obtain⟨a,rfl⟩:=one (by decide);exact aud y I dR af U (an a (by simp))
 ·obtain⟨a,rfl⟩:=one (by decide);exact aub y I dR af aC U
 ·obtain⟨a,rfl⟩:=one (by decide);exact aue y I dR af U (an a (by simp))
 ·obtain⟨a,rfl⟩:=one (by decide);exact auf y I dR af U
 ·obtain⟨a,b,rfl⟩:=two (by decide);exact aui y I dR af U
 ·obtain⟨a,rfl⟩:=one (by decide);exact auk y I dR af U
 ·obtain⟨a,rfl⟩:=one (by decide);exact aun y I dR af U
 ·obtain⟨a,rfl⟩:=one (by decide);exact aul y I dR af U
 ·obtain⟨a,rfl⟩:=one (by decide);exact aum y I dR af U rfl (by omega)
theorem auW{h:ag}(aC:fo bG aL rows)(J:∀r∈rows,r.all E.one=O)(am:rows.length<=1000000){r:List E}(ao:r.all E.one=O):∃u bs J R,eU T bG .aA aL h=o (u,J)/\eU T bG u (.b0 ad bG [r]) J=o (bs,R)/\J.cell=h.cell/\aB h R/\fo bG bs (rows++[r]):=by
 obtain⟨u,kW,au,aR,da,cE,fm⟩:=I9 (uF h h bG) (aB.refl h) (x:=aL) (rows:=rows) (by
  rcases aC with⟨a,b⟩|b
  ·exact .inl ⟨b,a⟩
  ·exact .inr b) J (by simp) am
 have hG:([r].all λx=>x.all E.one)=O:=by simpa using ao
 rw[lQ]at aR;rcases aR with⟨rfl,rfl⟩|⟨id,cg,dw,fW,qE,rfl⟩
 ·refine⟨.aA,.b0 (o kW.ids) bG [r],kW,kW.fresh 1,au,?_,cE,da.trans (aB.fresh _ 1),.inr ⟨_,rfl⟩⟩;simp only[eU,iT,if_true,c2,gM,sd,if_false,jX];rw[if_pos ⟨by omega,by omega,hG⟩];rfl
 ·refine⟨_,.b0 (o id) bG (rows++[r]),kW,kW.grow id (rows.length+1),au,?_,cE,da.grow dw,.inr ⟨_,rfl⟩⟩;simp only[eU,iT,if_true,c2,gM,sd,if_false,jX];rw[if_pos ⟨by omega,by omega,hG⟩,qE];simp only[true_and,am,if_true]
theorem c8.aeE:∀{l:List av} {es:List (List E)},c8 l es->∀r∈es,r.all E.one=O
 |[],es,h,r,ao=>by simp only[c8]at h;subst h;simp at ao
 |x::l,es,h,r,ao=>by
   simp only[c8]at h;obtain⟨q,rs,rfl,J,R⟩:=h;rcases n0.1 ao with rfl|ao
   ·exact J.cD.2
   ·exact c8.aeE R r ao
theorem auX(I:jO ms S):jO ms S.tick:=⟨I.dP,I.g,I.st.tick,by have:=I.a';unfold bK.a' bK.tick at*;simp only at*;omega⟩
theorem auY:∀N,Bw ms c e a1 N:=by
 intro N;induction N with
 |zero=>
   intro S p x arg names aI h ae ai r cJ aL rows eK I fit kr uc fE aC U y;obtain⟨c9,es,rfl,aw,jg⟩:=uc.row;have aN:S.left=0:=by omega
   have dR:c9.one=O:=by rcases aw with⟨_,rfl⟩|⟨id,rfl⟩<;>rfl
   have gb:=fE.cD;have aV:=(((aK.start y).push [fd x.op x.k x.n c9]).push [cJ]).push [aU];have cp:=(aV.cell 3 rfl).1;have jI:=(aV.cell 0 rfl).1;have jJ:decide ((S.left:Int)=0)=O:=decide_eq_true (by omega);refine⟨_,_,?_,e6,aV.drop.drop.drop⟩;refine a2 q6 rfl ?_;unfold ql;simp only[ak,aq,ar,al,bW,gb,dR,cp,jJ];rfl
 |succ N aZ=>
 intro S p x arg names aI h ae ai r cJ aL rows eK I fit kr uc fE aC U y;obtain⟨c9,es,rfl,aw,jg⟩:=uc.row;have dR:c9.one=O:=by rcases aw with⟨_,rfl⟩|⟨id,rfl⟩<;>rfl
 have sS:=uc.one;have gb:=fE.cD;have aV:=(((aK.start y).push [fd x.op x.k x.n c9]).push [cJ]).push [aU];have cp:=(aV.cell 3 rfl).1;have jI:=(aV.cell 0 rfl).1;have gg:=(aV.cell 2 rfl).1;have ic:=(aV.cell 1 rfl).1;rw[ea];by_cases aN:S.left=0
 ·rw[if_pos aN];have jJ:decide ((S.left:Int)=0)=O:=decide_eq_true (by omega);refine⟨_,_,?_,e6,aV.drop.drop.drop⟩;refine a2 q6 rfl ?_;unfold ql;simp only[ak,aq,ar,al,bW,gb,dR,cp,jJ];rfl
 rw[if_neg aN];have jJ:decide ((S.left:Int)=0)=T:=decide_eq_false (by omega);have oj:=fit.len;have cY:=eL (n:=(S.left:Int) - 1) (by omega) (by omega);have auZ:(S.tick.left:Int)=(S.left:Int) - 1:=by unfold bK.tick;simp only;omega
 have br:aK h ae ai ((((h.push [fd x.op x.k x.n c9]).push [cJ]).push [aU]).set e (o [[.ptr c.ab 0 0,.int j ((S.left:Int) - 1),.int j (aI:Int)]])) (wG h.n (h.n+1) (h.n+1+1) (fd x.op x.k x.n c9) cJ c e ms S.tick a1 aI):=by unfold wG iI;rw[auZ];exact aV.set 3 rfl [[.ptr c.ab 0 0,.int j ((S.left:Int) - 1),.int j (aI:Int)]]
 generalize m7:(((h.push [fd x.op x.k x.n c9]).push [cJ]).push [aU]).set e (o [[.ptr c.ab 0 0,.int j ((S.left:Int) - 1),.int j (aI:Int)]])=H at*;have kt:=(br.cell 0 rfl).1;have jW:=(br.cell 1 rfl).1;have jE:=(br.cell 2 rfl).1;have hR:=(br.cell 3 rfl).1;obtain⟨f1,f2,f3,f4,f5⟩:=Im fit.auo;have h0:=Rm f1;have uf:=auX I;have pQ:S.tick.left<=N:=by unfold bK.tick;simp only;omega
 have SK:names.length+S.tick.left<=100000:=by unfold bK.tick;simp only;omega
 by_cases sH:(x.op=1\/x.op=2\/x.op=3\/x.op=4\/x.op=21)
 ·rcases sH with J|J|J|J|J
  ·have n4:kl p x arg names S.tick=o (cv):=by unfold kl;rw[if_pos J]
   rw[n4];have nO:decide (x.op=1)=O:=decide_eq_true (by omega);refine⟨_,_,?_,e6,(br.set 0 rfl [aU]).drop.drop.drop⟩;refine a2 q6 rfl ?_;unfold ql;simp only[ak,aq,ar,al,bW,gb,sS,cp,jJ,cY,m7,hR,jE,jW,kt,nO];rfl
  ·have n4:kl p x arg names S.tick=o (lx x.n):=by unfold kl;rw[if_neg (by omega),if_pos J]
   rw[n4];have nO:decide (x.op=1)=T:=decide_eq_false (by omega);have oX:decide (x.op=2)=O:=decide_eq_true (by omega);refine⟨_,_,?_,we _,(br.set 0 rfl [[.int j 1,.int j x.n,.aA]]).drop.drop.drop⟩;refine a2 q6 rfl ?_;unfold ql;simp only[ak,aq,ar,al,bW,gb,sS,cp,jJ,cY,m7,hR,jE,jW,kt,nO,oX];rfl
  ·have n4:kl p x arg names S.tick=o (arg):=by unfold kl;rw[if_neg (by omega),if_neg (by omega),if_pos J]
   rw[n4];have nO:decide (x.op=1)=T:=decide_eq_false (by omega);have oX:decide (x.op=2)=T:=decide_eq_false (by omega);have qo:decide (x.op=3)=O:=decide_eq_true (by omega);have mq:=gX gb.1;refine⟨_,_,?_,fE,(br.set 0 rfl [cJ]).drop.drop.drop⟩;refine a2 q6 rfl ?_;unfold ql;simp only[ak,aq,ar,al,bW,gb,sS,cp,jJ,cY,m7,hR,jE,jW,kt,nO,oX,qo,mq];rfl
  ·have n4:kl p x arg names S.tick=o (names.getD (names.length - 1 - x.k.toNat) cv):=by unfold kl;rw[if_neg (by omega),if_neg (by omega),if_neg (by omega),if_pos J]
   rw[n4];have nO:decide (x.op=1)=T:=decide_eq_false (by omega);have oX:decide (x.op=2)=T:=decide_eq_false (by omega);have qo:decide (x.op=3)=T:=decide_eq_false (by omega);have rX:decide (x.op=4)=O:=decide_eq_true (by omega);have Z:=abY (by rw[<-J];exact f3);have eN:=aC.ed.len;rw[U.len]at eN;have fn:=aC.ed.fits;have gC:=eL (n:=(names.length:Int) - 1) (by omega) (by omega);have ht:kK j ((names.length:Int) - 1 - x.k)=((names.length - 1 - x.k.toNat:Nat):Int):=by rw[eL (by omega) (by omega)];omega
   have aa:names.length - 1 - x.k.toNat<names.length:=by omega
   obtain⟨SL,gm,fA⟩:=U.get (i:=names.length - 1 - x.k.toNat) (x:=names.getD (names.length - 1 - x.k.toNat) cv) (by rw[dz,fr aa];rfl);have au0:∀q:gx,dO (o bG) ad aL (.int q ((names.length - 1 - x.k.toNat:Nat):Int))=o (.ip SL 0):=λq=>aC.ed.bV q _ SL gm;have au1:=gX fA.cD.1;have au2:=fA.cD;refine⟨_,_,?_,fA,(br.set 0 rfl [SL]).drop.drop.drop⟩;refine a2 q6 rfl ?_;unfold ql;simp only[ak,aq,ar,al,bW,gb,sS,cp,jJ,cY,m7,hR,jE,jW,kt,nO,oX,qo,rX,eN,fn,gC,ht,au0,au1,au2];rfl
  ·have n4:kl p x arg names S.tick=o (S.tick.kept.getD p.toNat cv):=by unfold kl;rw[if_neg (by omega),if_neg (by omega),if_neg (by omega),if_neg (by omega),if_pos J]
   rw[n4];have nO:decide (x.op=1)=T:=decide_eq_false (by omega);have oX:decide (x.op=2)=T:=decide_eq_false (by omega);have qo:decide (x.op=3)=T:=decide_eq_false (by omega);have rX:decide (x.op=4)=T:=decide_eq_false (by omega);have ug:decide (x.op=21)=O:=decide_eq_true (by omega);obtain⟨P,rfl⟩:=lE fit.d';have fT:P<4:=by have:=fit.kZ;omega
   obtain⟨q8,dk,sQ,f,Z⟩:=lL br 4 rfl uf.dP uf.st.kept;obtain⟨gD,lb,v9⟩:=Z.get (i:=P) (x:=S.tick.kept.getD P cv) (by rw[dz,fr (by rw[uf.st.kept];exact fT)];rfl);have tU:=f.Sm lb;have D1:=v9.cD;have f7:b5 7 (.ptr c.ab 0 0)=o (.ptr c.ab 0 7):=rfl;have au3:∀q:gx,dO ad (o (4,3)) (.ptr c.ab 0 7) (.int q (P:Int))=o (.ptr c.ab 0 (7+P*3)):=λq=>by simp[dO,fT]
   rw[mE];refine⟨_,_,?_,v9,(br.set 0 rfl [gD]).drop.drop.drop⟩;refine a2 q6 rfl ?_;unfold ql;simp only[ak,aq,ar,al,bW,gb,sS,cp,jJ,cY,m7,hR,jE,jW,kt,nO,oX,qo,rX,ug,tU,D1,f7,au3];rfl
 have au4:kl p x arg names S.tick=ad:=zs.2 sH;rw[au4];simp only;have G3:∀{y:bx} {ca:bK} {iH:List av},y.fault (gS ms p).length iH.length=0->(∀v∈iH,v.code=0)->iH.length+ca.left<=100000->GY ms ca p y arg iH:=λJ R ah=>⟨J,fit.arg,R,ah,fit.d',fit.kZ⟩;have axU:∀s,j3 s (o fp) c9=O:=aw.ed.fits;by_cases g':x.op=5
 ·rw[if_pos g'];have hlen:x.l.length=2:=by rw[g']at f2;simp[fM]at f2;omega
  obtain⟨a,b,rj⟩:=Gv hlen;rw[g']at f5;rw[rj]at f5 jg ⊢;obtain⟨xQ,f6⟩:=Ab f5;obtain⟨bk,_⟩:=Ab f6;rw[if_neg (by omega)]at xQ;rw[if_pos (by omega)]at bk;simp only[sE,List.getD_cons_succ];obtain⟨G4,SM,G5⟩:=jg.get (i:=0) (x:=a) rfl;obtain⟨G6,SN,G7⟩:=jg.get (i:=1) (x:=b) rfl;have Bz:∀q:gx,dO (o fp) ad c9 (.int q 0)=o (.ip G4 0):=λq=>aw.ed.bV q 0 G4 SM;have vh:∀q:gx,dO (o fp) ad c9 (.int q 1)=o (.ip G6 0):=λq=>aw.ed.bV q 1 G6 SN;have mq:=gX G5.one.2;have vg:=gX G7.one.2;have BA:=gX gb.1;obtain⟨aD,jV,bY,du,bz⟩:=Ds (A:=[aY (h.n+1+1) [aU],aY (h.n+1) [cJ],aY h.n [fd x.op x.k x.n c9]]) br aZ pQ uf (G3 xQ fit.iH SK) kr G5 fE aC U;have rW:=oa ms N p a arg names aI S.tick uf.st fit.arg fit.iH;generalize ea ms N p a arg names aI S.tick=Q at*;obtain⟨sT,v,dx⟩:=Q;simp only at bY du bz rW ⊢;have bz:aK h ae ai aD (wG h.n (h.n+1) (h.n+1+1) (fd x.op x.k x.n c9) cJ c e ms sT a1 aI):=bz;have b8:=bz.push [jV];have t5:=bz.push [aU];have kj:=(t5.cell 3 rfl).1;have nc:=(t5.cell 2 rfl).1;have zD:=(b8.cell 1 rfl).1;have nf:=(b8.cell 0 rfl).1;have mc:=(b8.cell 3 rfl).1;have su:=(b8.cell 2 rfl).1;have e4:=du.cD;have au5:=gX e4.1;have nO:decide (x.op=1)=T:=decide_eq_false (by omega);have oX:decide (x.op=2)=T:=decide_eq_false (by omega);have qo:decide (x.op=3)=T:=decide_eq_false (by omega);have rX:decide (x.op=4)=T:=decide_eq_false (by omega);have ug:decide (x.op=21)=T:=decide_eq_false (by omega);have wH:decide (x.op=5)=O:=decide_eq_true (by omega);by_cases x':dx=0
  rotate_left
  ·rw[if_pos x'];have SO:decide (dx=0)=T:=decide_eq_false x';refine⟨_,_,?_,e6,(b8.set 1 rfl [aU]).drop.drop.drop.drop⟩;refine a2 q6 rfl ?_;unfold ql;simp only[ak,aq,ar,al,bW,bJ,gb,sS,cp,jJ,cY,m7,hR,jE,jW,kt,nO,oX,qo,rX,ug,wH,Bz,mq,BA,bY,kj,nc,zD,e4,SO];rfl
  subst x';rw[if_neg (λh=>h rfl)];have aeF:=rW.1.val rfl;have SP:=rW.1.left;have SQ:=rW.1.a';simp only at aeF SP SQ;have C7:=U.len;obtain⟨u,mL,b9,c4,lB,km,iD,xU,au6⟩:=auW (h:=aD.push [jV]) aC U.aeE (by have:=fit.len;omega) e4.2;have eM:=b8.hb xU;obtain⟨hh,hf,om,fi,g8⟩:=Ds (A:=[aY aD.n [jV],aY (h.n+1+1) [aU],aY (h.n+1) [cJ],aY h.n [fd x.op x.k x.n c9]]) eM aZ (by omega) (uf.of rW.1.cG (by omega)) (G3 (iH:=names++[v]) (by rw[ff];exact bk) (λw hw=>by
   rcases List.mem_append.1 hw with h|h
   ·exact fit.iH w h
   ·simp only[List.mem_singleton]at h;rw[h];exact aeF) (by have:=rW.2 rfl;simp only at this;rw[ff,gM];omega)) kr G7 fE au6 (U.append du)
  have axV:=(eM.cell 1 rfl).1;have ha:=(eM.cell 3 rfl).1;have jw:=(eM.cell 2 rfl).1;have G8:=(g8.cell 1 rfl).1;have w9:=fi.cD;generalize ea ms N p b arg (names++[v]) aI sT=Q at*;refine⟨_,_,?_,fi,(g8.set 1 rfl [hf]).drop.drop.drop.drop⟩;refine a2 q6 rfl ?_;unfold ql;simp only[ak,aq,ar,al,bW,bJ,gb,sS,cp,jJ,cY,m7,hR,jE,jW,kt,nO,oX,qo,rX,ug,wH,Bz,vh,mq,vg,BA,bY,kj,nc,nf,e4,au5,lB,km,iD,om,ha,jw,G8,w9]
 rw[if_neg g'];by_cases nt:x.op=7
 ·rw[if_pos nt];have hlen:x.l.length=3:=by rw[nt]at f2;simp[fM]at f2;omega
  obtain⟨a,b,d,rj⟩:=ab0 hlen;have wl:=jp g' f5;rw[rj]at wl jg ⊢;have xQ:=wl a (by simp);have bk:=wl b (by simp);have uu:=wl d (by simp);simp only[sE,List.getD_cons_succ];obtain⟨G4,SM,G5⟩:=jg.get (i:=0) (x:=a) rfl;obtain⟨G6,SN,G7⟩:=jg.get (i:=1) (x:=b) rfl;obtain⟨aeG,au7,aeH⟩:=jg.get (i:=2) (x:=d) rfl;have Bz:∀q:gx,dO (o fp) ad c9 (.int q 0)=o (.ip G4 0):=λq=>aw.ed.bV q 0 G4 SM;have vh:∀q:gx,dO (o fp) ad c9 (.int q 1)=o (.ip G6 0):=λq=>aw.ed.bV q 1 G6 SN;have id:∀q:gx,dO (o fp) ad c9 (.int q 2)=o (.ip aeG 0):=λq=>aw.ed.bV q 2 aeG au7;have mq:=gX G5.one.2;have vg:=gX G7.one.2;have i6:=gX aeH.one.2;have BA:=gX gb.1;obtain⟨aD,jV,bY,du,bz⟩:=Ds (A:=[aY (h.n+1+1) [aU],aY (h.n+1) [cJ],aY h.n [fd x.op x.k x.n c9]]) br aZ pQ uf (G3 xQ fit.iH SK) kr G5 fE aC U;have rW:=oa ms N p a arg names aI S.tick uf.st fit.arg fit.iH;generalize ea ms N p a arg names aI S.tick=Q at*;obtain⟨sT,v,dx⟩:=Q;simp only at bY du bz rW ⊢;obtain⟨SR,rfl,py⟩:=du.iQ;have bz:aK h ae ai aD (wG h.n (h.n+1) (h.n+1+1) (fd x.op x.k x.n c9) cJ c e ms sT a1 aI):=bz;have b8:=bz.push [[.int j v.kind,.int j v.n,SR]];have t5:=bz.push [aU];have kj:=(t5.cell 3 rfl).1;have nc:=(t5.cell 2 rfl).1;have zD:=(b8.cell 1 rfl).1;have nf:=(b8.cell 0 rfl).1;have mc:=(b8.cell 3 rfl).1;have su:=(b8.cell 2 rfl).1;have nO:decide (x.op=1)=T:=decide_eq_false (by omega);have oX:decide (x.op=2)=T:=decide_eq_false (by omega);have qo:decide (x.op=3)=T:=decide_eq_false (by omega);have rX:decide (x.op=4)=T:=decide_eq_false (by omega);have ug:decide (x.op=21)=T:=decide_eq_false (by omega);have wH:decide (x.op=5)=T:=decide_eq_false (by omega);have BB:decide (x.op=7)=O:=decide_eq_true (by omega);by_cases x':dx=0
  rotate_left
  ·rw[if_pos x'];have SO:decide (dx=0)=T:=decide_eq_false x';refine⟨_,_,?_,e6,(b8.set 1 rfl [aU]).drop.drop.drop.drop⟩;refine a2 q6 rfl ?_;unfold ql;simp only[ak,aq,ar,al,bW,bJ,gb,sS,cp,jJ,cY,m7,hR,jE,jW,kt,nO,oX,qo,rX,ug,wH,BB,Bz,mq,BA,bY,kj,nc,py,zD,nf,mc,SO];rfl
  subst x';rw[if_neg (λh=>h rfl)];by_cases nV:v.kind=1
  rotate_left
  ·rw[if_pos nV];have L2:decide (v.kind=1)=T:=decide_eq_false nV;refine⟨_,_,?_,e6,(b8.set 1 rfl [aU]).drop.drop.drop.drop⟩;refine a2 q6 rfl ?_;unfold ql;simp only[ak,aq,ar,al,bW,bJ,gb,sS,cp,jJ,cY,m7,hR,jE,jW,kt,nO,oX,qo,rX,ug,wH,BB,Bz,mq,BA,bY,kj,nc,py,zD,nf,mc,L2];rfl
  rw[if_neg (λh=>h nV)];have L2:decide (v.kind=1)=O:=decide_eq_true nV;have SP:=rW.1.left;have SQ:=rW.1.a';simp only at SP SQ;have aeI:jO ms sT:=uf.of rW.1.cG (by omega);by_cases L3:v.n=0
  ·rw[if_neg (λh=>h L3)];have SS:decide (v.n=0)=O:=decide_eq_true L3;obtain⟨hh,hf,om,fi,g8⟩:=Ds (A:=[aY aD.n [[.int j v.kind,.int j v.n,SR]],aY (h.n+1+1) [aU],aY (h.n+1) [cJ],aY h.n [fd x.op x.k x.n c9]]) b8 aZ (by omega) aeI (G3 uu fit.iH (by omega)) kr aeH fE aC U;have G8:=(g8.cell 1 rfl).1;have w9:=fi.cD;generalize ea ms N p d arg names aI sT=Q at*;refine⟨_,_,?_,fi,(g8.set 1 rfl [hf]).drop.drop.drop.drop⟩;refine a2 q6 rfl ?_;unfold ql;simp only[ak,aq,ar,al,bW,bJ,gb,sS,cp,jJ,cY,m7,hR,jE,jW,kt,nO,oX,qo,rX,ug,wH,BB,Bz,mq,BA,bY,kj,nc,py,zD,nf,mc,su,L2,SS,id,i6,om,G8,w9]
  ·rw[if_pos L3];have SS:decide (v.n=0)=T:=decide_eq_false L3;obtain⟨hh,hf,om,fi,g8⟩:=Ds (A:=[aY aD.n [[.int j v.kind,.int j v.n,SR]],aY (h.n+1+1) [aU],aY (h.n+1) [cJ],aY h.n [fd x.op x.k x.n c9]]) b8 aZ (by omega) aeI (G3 bk fit.iH (by omega)) kr G7 fE aC U;have G8:=(g8.cell 1 rfl).1;have w9:=fi.cD;generalize ea ms N p b arg names aI sT=Q at*;refine⟨_,_,?_,fi,(g8.set 1 rfl [hf]).drop.drop.drop.drop⟩;refine a2 q6 rfl ?_;unfold ql;simp only[ak,aq,ar,al,bW,bJ,gb,sS,cp,jJ,cY,m7,hR,jE,jW,kt,nO,oX,qo,rX,ug,wH,BB,Bz,mq,BA,bY,kj,nc,py,zD,nf,mc,su,L2,SS,vh,vg,om,G8,w9]
 rw[if_neg nt];have wl:=jp g' f5;have nO:decide (x.op=1)=T:=decide_eq_false (by omega);have oX:decide (x.op=2)=T:=decide_eq_false (by omega);have qo:decide (x.op=3)=T:=decide_eq_false (by omega);have rX:decide (x.op=4)=T:=decide_eq_false (by omega);have ug:decide (x.op=21)=T:=decide_eq_false (by omega);have wH:decide (x.op=5)=T:=decide_eq_false (by omega);have BB:decide (x.op=7)=T:=decide_eq_false (by omega);have aey:x.l.length<=1000:=by
  have:fM x.op<=1000:=by unfold fM;repeat' split<;>omega
  omega
 have Gm:aK h ae ai H (ju bG .aA []::wG h.n (h.n+1) (h.n+1+1) (fd x.op x.k x.n c9) cJ c e ms S.tick a1 aI):=br.add (aB.refl _) (.inl ⟨⟨rfl,rfl⟩,λ_ h=>h,λ_ h=>h⟩) (λ_ h=>h.elim) (λ_ h=>h.elim);have e':=auS (c:=c) (e:=e) (a1:=a1) (aI:=aI) (op:=x.op) (k:=x.k) (n:=x.n) aZ kr aw jg aey wl fit.d' fit.kZ fit.arg fit.iH fE aC U h.n (h.n+1) (h.n+1+1) .az .az .az .az .az (.bool T) (.int j x.op) (.bool T) (.bool T) (.bool T) (.bool T) (.bool T) (.bool T) .az (.bool T) .az .az .az x.l [] H S.tick .aA [] [] (.int j 0) .az .az .az .az rfl pQ uf SK rfl rfl Gm;have aeJ:=Iw (f:=λy S=>ea ms N p y arg names aI S) (λy S h=>oa ms N p y arg names aI S h fit.arg fit.iH) x.l S.tick [] uf.st (by simp);have hlen:=Ro (f:=λy S=>ea ms N p y arg names aI S) x.l S.tick [];simp only[gf,k6]at e';generalize jB (λy S=>ea ms N p y arg names aI S) x.l S.tick []=Q at*;obtain⟨sT,bA,dx⟩:=Q;simp only at e' aeJ hlen ⊢;obtain⟨da,ch,eF,kk⟩:=aeJ;rcases e' with⟨rfl,aD,acc,gu,sz,sA,sB,x8,x9,jV,du,bz⟩|⟨x',aD,acc,gu,sz,sA,sB,x8,x9,jV,bz⟩
 rotate_left
 ·rw[if_pos x'];have Dv:=(bz.cell 1 rfl).1;refine⟨_,_,?_,e6,bz.drop.drop.drop.drop⟩;refine a2 q6 rfl ?_;unfold ql;simp only[ak,aq,ar,al,bW,gb,sS,cp,jJ,cY,m7,hR,jE,jW,kt,nO,oX,qo,rX,ug,wH,BB];rw[jV];simp only[ak,aq,Dv];rfl
 rw[if_neg (λh=>h rfl)];have hlen:=hlen rfl;simp only[gf,hH]at hlen kk;have Fz:=(kk trivial).1;have e4:jO ms sT:=uf.of da ch;have SU:fo bG acc gu:=by obtain⟨ez,eA,z⟩:=bz.get 0 rfl;exact aeD z
 have Dv:=(bz.cell 1 rfl).1;have n2:=(bz.cell 3 rfl).1;suffices key:∀Q:bK×av×Int,(∀ae ai,(cf (iI c e ms sT a1 aI)).A aD ae ai->Bv Dq aD ae ai c e ms a1 aI [.ptr e 0 0,.int j p,.agg (fd x.op x.k x.n c9),acc] Q)->Bv GX h ae ai c e ms a1 aI [.ptr e 0 0,.int j p,.agg [.int j x.op,.int j x.k,.int j x.n,c9],.agg cJ,aL] Q by
  by_cases tV:x.op=18
  ·rw[if_pos tV];have pb:fM x.op=1:=by rw[tV];rfl
   have au8:bA.length=1:=by omega
   obtain⟨a,rfl⟩:∃a,bA=[a]:=by
    match bA,au8 with
    |[a],_=>exact⟨a,rfl⟩
   have Z:=abX (by rw[<-tV];exact f3);obtain⟨P,rfl⟩:=lE fit.d';have fT:P<4:=by have:=fit.kZ;omega
   obtain⟨K,eg⟩:=lE Z.1;obtain⟨M,j9⟩:∃M,ms[P]? =o M:=⟨ms[P]'(by rw[I.dP];exact fT),fr _⟩;have m1:ms.getD (P:Int).toNat ad=M:=by rw[mE,dz,j9];rfl
   cases M with
   |none=>
     have:(gS ms (P:Int)).length=0:=by unfold gS;rw[m1];rfl
     omega
   |some M=>
     have vr:gS ms (P:Int)=M:=by unfold gS;rw[m1];rfl
     have:=key (sR ms N P K a aI sT) λae ai z=>by rw[tV,eg];exact auB z e4 dR SU.ed du aZ (by omega) fT j9 (by rw[vr]at Z;omega) kr (by omega) (Fz a (by simp))
     rw[<-eg]at this;exact this
  rw[if_neg tV];by_cases wm:x.op=19
  ·rw[if_pos wm];have pb:fM x.op=2:=by rw[wm];rfl
   obtain⟨a,b,rfl⟩:=Gv (show bA.length=2 by omega);exact key (zC ms N a b aI sT) λae ai z=>by rw[wm];exact auK z e4 dR SU.ed du aZ (by omega) kr (by omega)
  rw[if_neg wm];exact key _ λae ai z=>auV sH g' nt tV wm f1 (by omega) Fz fit.d' fit.kZ z e4 dR SU du
 intro Q a7;obtain⟨hh,⟨hf,om,fi⟩,g8⟩:=bz.ww (A:=[ju bG acc gu,aY (h.n+1+1) [aU],aY (h.n+1) [cJ],aY h.n [fd x.op x.k x.n c9]]) (M:=iI c e ms sT a1 aI) (B:=[]) (q1:=iI c e ms Q.1 a1 aI) (cF:=λhh=>∃hf,aQ ap W Dq [.ptr e 0 0,.int j p,.agg (fd x.op x.k x.n c9),acc] aD=o (.inl (.bU [.agg hf,.int j Q.2.2]),hh)/\bT Q.2.1 hf) λae ai z=>by obtain⟨hh,hf,aR,a5,bp⟩:=a7 ae ai z;exact⟨hh,⟨hf,aR,a5⟩,bp⟩
 have g8:aK h ae ai hh (ju bG acc gu::wG h.n (h.n+1) (h.n+1+1) (fd x.op x.k x.n c9) cJ c e ms Q.1 a1 aI):=g8;have By:=(g8.cell 1 rfl).1;have w9:=fi.cD;refine⟨_,_,?_,fi,(g8.set 1 rfl [hf]).drop.drop.drop.drop⟩;refine a2 q6 rfl ?_;unfold ql;simp only[ak,aq,ar,al,bW,gb,sS,cp,jJ,cY,m7,hR,jE,jW,kt,nO,oX,qo,rX,ug,wH,BB];rw[jV];simp only[ak,aq,bJ,n2,om,By,w9]
end
abbrev L4:c':=18
structure SV(ms:dj)(S:bK):Prop where
 dP:ms.length=4
 g:vY ms
 st:S.Good
 log:S.log.length<=900000
section
variable{h F aj:ag}{ae ai aJ aG:Nat->Prop}{L cF:List b6}{c:hL}{ms:dj}{S:bK}{a1:List (List av)}{fuel:Nat}{p f:Int}{arg:av}{cJ:List E}
abbrev hV(c:hL)(ms:dj)(S:bK)(a1:List (List av)):List b6:=[jM c ms S a1,bi c.h6 S.G]
def aeK(h:ag)(ae ai:Nat->Prop)(c:hL)(ms:dj)(a1:List (List av))(a:List E)(q:bK×av×Int×Int):Prop:=∃F bj,aQ ap W L4 a h=o (.inl (.bU [.agg bj,.int j q.2.2.1,.int j q.2.2.2]),F)/\bT q.2.1 bj/\gw h ae ai F (cf (hV c ms q.1 a1))
theorem au9(x:(cf (hV c ms S a1)).A h ae ai)(fE:bT arg cJ){jo:Int}(ab:jo<0\/2000<jo\/p<0\/4<=p):aeK h ae ai c ms a1 [.ptr c.ab 0 0,.int j p,.int j f,.agg cJ,.int j jo] (S,cv,0,1):=by
 have gb:=fE.cD;have aV:aK h ae ai _ (aY (h.n+1) [aU]::aY h.n [cJ]::hV c ms S a1):=((aK.start x).push [cJ]).push [aU];have cp:=(aV.cell 0 rfl).1;refine⟨_,_,?_,e6,aV.drop.drop⟩;by_cases J:jo<0
 ·have d1:decide (jo<0)=O:=decide_eq_true J;refine a2 wC rfl ?_;unfold vp;simp only[ak,aq,ar,al,gb,cp,d1]
 have d1:decide (jo<0)=T:=decide_eq_false J;by_cases R:2000<jo
 ·have d2:decide (2000<jo)=O:=decide_eq_true R;refine a2 wC rfl ?_;unfold vp;simp only[ak,aq,ar,al,gb,cp,d1,d2]
 have d2:decide (2000<jo)=T:=decide_eq_false R;by_cases ah:p<0
 ·have d3:decide (p<0)=O:=decide_eq_true ah;refine a2 wC rfl ?_;unfold vp;simp only[ak,aq,ar,al,gb,cp,d1,d2,d3]
 have d3:decide (p<0)=T:=decide_eq_false ah;have d4:decide (4<=p)=O:=decide_eq_true (by omega);refine a2 wC rfl ?_;unfold vp;simp only[ak,aq,ar,al,gb,cp,d1,d2,d3,d4]
theorem au'(x:(cf (hV c ms S a1)).A h ae ai)(I:SV ms S)(fE:bT arg cJ)(jo:Int):aeK h ae ai c ms a1 [.ptr c.ab 0 0,.int j p,.int j f,.agg cJ,.int j jo] (ci ms p f arg jo S):=by
 unfold ci;by_cases ab:jo<0\/2000<jo\/p<0\/4<=p
 ·rw[if_pos ab];exact au9 x fE ab
 rw[if_neg ab];have d1:decide (jo<0)=T:=decide_eq_false (by omega);have d2:decide (2000<jo)=T:=decide_eq_false (by omega);have d3:decide (p<0)=T:=decide_eq_false (by omega);have d4:decide (4<=p)=T:=decide_eq_false (by omega);have gb:=fE.cD;have mq:=gX gb.1;have aV:aK h ae ai _ (aY (h.n+1) [aU]::aY h.n [cJ]::hV c ms S a1):=((aK.start x).push [cJ]).push [aU];have cp:=(aV.cell 0 rfl).1;have aP:=(aV.cell 1 rfl).1;obtain⟨P,rfl⟩:=lE (a:=p) (by omega);obtain⟨N,rfl⟩:=lE (a:=jo) (by omega);have fT:P<4:=by omega
 obtain⟨q8,dk,n4,f0,Z⟩:=lL aV 2 rfl I.dP I.st.kept;obtain⟨M,j9⟩:∃M,ms[P]? =o M:=⟨ms[P]'(by rw[I.dP];exact fT),fr _⟩;have m1:ms.getD (P:Int).toNat ad=M:=by rw[mE,dz,j9];rfl
 have f3:b5 3 (.ptr c.ab 0 0)=o (.ptr c.ab 0 3):=rfl;have bV:=λq=>SE (b:=c.ab) q fT;rw[m1];cases M with
 |none=>obtain⟨iq,cL⟩:=f0.Sl P j9;have l7:=f0.l7 (n:=1) cL;rw[if_pos (.inl rfl)];refine⟨_,_,?_,e6,aV.drop.drop⟩;refine a2 wC rfl ?_;unfold vp;simp only[ak,aq,ar,al,bJ,gb,cp,aP,d1,d2,d3,d4,f3,bV,l7]
 |some M=>
 obtain⟨q,v,es,cL,c3,hY,dP,rK⟩:=f0.mod P M j9;have l7:=f0.l7 (n:=1) cL;have ud:cS T 1 ((h.push [cJ]).push [aU]) (.ptr q 0 0)=o v:=by rw[fL,c3];rfl
 have vr:gS ms (P:Int)=M:=by simp[gS,dz,j9]
 have wE:hX v=o M.length:=by rw[<-rK.len];exact dP.ed.len
 have wF:=dP.ed.fits;rw[vr];by_cases b9:f<0
 ·have d6:decide (f<0)=O:=decide_eq_true b9;rw[if_pos (.inr (.inl b9))];refine⟨_,_,?_,e6,aV.drop.drop⟩;refine a2 wC rfl ?_;unfold vp;simp only[ak,aq,ar,al,bJ,gb,cp,aP,d1,d2,d3,d4,d6,f3,bV,l7]
 have d6:decide (f<0)=T:=decide_eq_false b9;by_cases c4:(M.length:Int)<=f
 ·have d7:decide ((M.length:Int)<=f)=O:=decide_eq_true c4;rw[if_pos (.inr (.inr c4))];refine⟨_,_,?_,e6,aV.drop.drop⟩;refine a2 wC rfl ?_;unfold vp;simp only[ak,aq,ar,al,bJ,gb,cp,aP,d1,d2,d3,d4,d6,d7,f3,bV,l7,ud,wE,wF]
 have d7:decide ((M.length:Int)<=f)=T:=decide_eq_false c4;rw[if_neg (by simp only[Option.isNone_some,l9,false_or];omega)];have mm:=Kn (h:=(h.push [cJ]).push [aU]) fE;by_cases an:arg.code=0
 rotate_left
 ·rw[if_pos an];have Du:decide (arg.code=0)=T:=decide_eq_false an;refine⟨_,_,?_,e6,aV.drop.drop⟩;refine a2 wC rfl ?_;unfold vp;simp only[ak,aq,ar,al,bW,bJ,gb,mq,cp,aP,d1,d2,d3,d4,d6,d7,f3,bV,l7,ud,wE,wF,mm,Du]
 rw[if_neg (λh=>h an)];have Du:decide (arg.code=0)=O:=decide_eq_true an;obtain⟨K,rfl⟩:=lE (a:=f) (by omega);have bq:jO ms {S with left:=N}:=⟨I.dP,I.g,⟨I.st.wf,I.st.cells,I.st.kept,I.st.qK⟩,by have:=I.log;unfold bK.a';simp only;omega⟩;have br:aK h ae ai _ (aY (h.n+1+1) [[.ptr c.ab 0 0,.int j (N:Int),.int j 0]]::aY (h.n+1) [aU]::aY h.n [cJ]::hV c ms S a1):=aV.push [[.ptr c.ab 0 0,.int j (N:Int),.int j 0]];have bz:aK h ae ai (((h.push [cJ]).push [aU]).push [[.ptr c.ab 0 0,.int j (N:Int),.int j 0]]) ([aY (h.n+1) [aU],aY h.n [cJ]]++iI c (h.n+1+1) ms {S with left:=N} a1 0):=br.imp λ_ _ _ y=>aK.perm (List.Perm.symm (List.perm_middle (l₁:=[aY (h.n+1) [aU],aY h.n [cJ]]))) y;obtain⟨bo,hD,cU,b7,b8⟩:=SF (N:=N) bz (auY N) (b4 _) bq fT j9 (K:=K) (by omega) (by omega) (by simp only;omega) an fE;have aeL:=oa ms N P (gY ms P K) arg [] (0+1) {S with left:=N} bq.st an (by simp);unfold sR at cU b7 b8;rw[if_neg (by omega)]at cU b7 b8;rw[mE];change ∃F bj,_/\_/\_;generalize ea ms N P (gY ms P K) arg [] (0+1) {S with left:=N}=Q at*;obtain⟨zE,w,gW⟩:=Q;simp only at cU b7 b8 aeL ⊢;have hle:=aeL.1.left;simp only at hle;have cM:aK h ae ai bo (aY (h.n+1) [aU]::aY h.n [cJ]::aY (h.n+1+1) [[.ptr c.ab 0 0,.int j (zE.left:Int),.int j ((0:Nat):Int)]]::hV c ms zE a1):=b8;have eM:=cM.push [hD];have nf:=(eM.cell 0 rfl).1;have fs:=(eM.cell 1 rfl).1;have kI:=(eM.cell 3 rfl).1;have g':=b7.cD;have fI:=eL (n:=(N:Int) - (zE.left:Int)) (by omega) (by omega);have kf:∀lD,gw h ae ai ((bo.push [hD]).set (h.n+1) (o [lD])) (cf (hV c ms {zE with left:=S.left} a1)):=λlD=>(eM.set 1 rfl [lD]).drop.drop.drop.drop;by_cases G9:gW=0
 ·have SW:decide (gW=0)=O:=decide_eq_true G9;have SX:((bo.push [hD]).set (h.n+1) (o [hD])).cell (h.n+1+1)=o [[.ptr c.ab 0 0,.int j (zE.left:Int),.int j ((0:Nat):Int)]]:=((eM.set 1 rfl [hD]).cell 3 rfl).1;have ava:=gX g'.1;refine⟨_,hD,?_,by rw[if_pos G9];exact b7,kf hD⟩;rw[G9]at cU SW ⊢;refine a2 wC rfl ?_;unfold vp;simp only[ak,aq,ar,al,bW,bJ,gb,mq,cp,aP,d1,d2,d3,d4,d6,d7,f3,bV,l7,ud,wE,wF,mm,Du,cU,g',nf,fs,kI,SX,ava,fI]
 ·have SW:decide (gW=0)=T:=decide_eq_false G9;have SX:((bo.push [hD]).set (h.n+1) (o [aU])).cell (h.n+1+1)=o [[.ptr c.ab 0 0,.int j (zE.left:Int),.int j ((0:Nat):Int)]]:=((eM.set 1 rfl [aU]).cell 3 rfl).1;refine⟨_,aU,?_,by rw[if_neg G9];exact e6,kf aU⟩;refine a2 wC rfl ?_;unfold vp;simp only[ak,aq,ar,al,bW,bJ,gb,mq,cp,aP,d1,d2,d3,d4,d6,d7,f3,bV,l7,ud,wE,wF,mm,Du,cU,g',nf,fs,kI,SX,fI,SW]
theorem avb(s:aK aj aJ aG h L)(af:L[i]? =o (jM c ms S a1))(aa:L[i+1]? =o (bi c.h6 S.G))(I:SV ms S)(fE:bT arg cJ)(jo:Int):∃F bj,aQ ap W L4 [.ptr c.ab 0 0,.int j p,.int j f,.agg cJ,.int j jo] h=o (.inl (.bU [.agg bj,.int j (ci ms p f arg jo S).2.2.1,.int j (ci ms p f arg jo S).2.2.2]),F)/\bT (ci ms p f arg jo S).2.1 bj/\aK aj aJ aG F ((L.set i (jM c ms (ci ms p f arg jo S).1 a1)).set (i+1) (bi c.h6 (ci ms p f arg jo S).1.G)):=by
 have am:i+1<L.length:=(fQ.1 aa).1;have au:L=L.take i++hV c ms S a1++L.drop (i+2):=by have aR:L[i]'(by omega)=jM c ms S a1:=(fQ.1 af).2;have a5:L[i+1]=bi c.h6 S.G:=(fQ.1 aa).2;have:=List.take_append_drop i L;rw[va (by omega),aR,va am,a5]at this;rw[k'];exact this.symm
 have ew:aK aj aJ aG h (L.take i++hV c ms S a1++L.drop (i+2)):=by rw[<-au];exact s
 obtain⟨F,⟨bj,aR,a5⟩,aV⟩:=ew.ww (cF:=λF=>∃bj,aQ ap W L4 [.ptr c.ab 0 0,.int j p,.int j f,.agg cJ,.int j jo] h=o (.inl (.bU [.agg bj,.int j (ci ms p f arg jo S).2.2.1,.int j (ci ms p f arg jo S).2.2.2]),F)/\bT (ci ms p f arg jo S).2.1 bj) (q1:=hV c ms (ci ms p f arg jo S).1 a1) λae ai x=>by obtain⟨F,bj,cg,dw,fW⟩:=au' (p:=p) (f:=f) x I fE jo;exact⟨F,⟨bj,cg,dw⟩,fW⟩
 refine⟨F,bj,aR,a5,?_⟩;have ax:(L.set i (jM c ms (ci ms p f arg jo S).1 a1)).set (i+1) (bi c.h6 (ci ms p f arg jo S).1.G)=L.take i++hV c ms (ci ms p f arg jo S).1 a1++L.drop (i+2):=by
  unfold hV;generalize jM c ms (ci ms p f arg jo S).1 a1=X;generalize bi c.h6 (ci ms p f arg jo S).1.G=Y;rw[k'];refine List.ext_getElem? λD=>?_;rw[tQ,tQ,List.length_set];by_cases J:i+1=D
  ·subst J;rw[if_pos rfl,if_pos am,mx (by rw[pN];omega),pN,Nat.min_eq_left (by omega),show i+1 - i=1 by omega];rfl
  ·rw[if_neg J];by_cases R:i=D
   ·subst R;rw[if_pos rfl,if_pos (by omega),mx (by rw[pN];omega),pN,Nat.min_eq_left (by omega),Nat.sub_self];rfl
   ·rw[if_neg R];by_cases ah:D<i
    ·rw[o4 (by rw[pN];omega),List.getElem?_take,if_pos ah]
    ·rw[mx (by rw[pN];omega),pN,Nat.min_eq_left (by omega),mx (by simp only[hk,gf];omega),List.getElem?_drop];have:i+2+(D - i - [X,Y].length)=D:=by simp only[hk,gf];omega
     rw[this]
 rw[ax];exact aV
end
section
variable{h F aj:ag}{ae ai aJ aG:Nat->Prop}{L:List b6}{c:rS}{H:dp}
abbrev zF(fU:Nat)(y:iR)(m:E)(c:rS)(H:dp):List b6:=[aY (fU+1) [cP 0 0 aU],aY fU [eE y m],d9 c.ab c.aO H.a1,hQ c.aO c.ck c.cr H.ms H.S.kept,bi c.ck H.S.G,h3 c.cr H.S.cells H.S.log]
theorem vs(s:aK aj aJ aG fg (zF fU y m c H))(q:List E):fg.cell (fU+1)=o [cP 0 0 aU]/\fg.cell fU=o [eE y m]/\aK aj aJ aG (fg.set (fU+1) (o [q])) (mO c H):=⟨(s.cell 0 rfl).1,(s.cell 1 rfl).1,(s.set 0 rfl [q]).drop.drop⟩
theorem L5(s:aK aj aJ aG fg (zF fU y m c H))(I:j' H){cF:ag->Prop}(iw:∀ae ai,eX fg ae ai c.ck H.S.G->∃F,cF F/\fN fg ae ai c.ck F cN):cS T 1 fg (.ptr c.ab 0 0)=o (.ptr c.aO 0 0)/\cS T 1 fg (.ptr c.aO 0 0)=o (.ptr c.ck 0 0)/\∃F,cF F/\aK aj aJ aG F (zF fU y m c (H.graph cN)):=by obtain⟨bA,U⟩:=wB s 2 rfl;have cX:=(K0 s (vh:=3) rfl I.len).1 1;obtain⟨F,r,ew⟩:=s.call (cF:=cF) (Y:=bi c.ck cN) 4 rfl iw;exact⟨U.box 1,cX,F,r,ew⟩
theorem aeM(s:aK aj aJ aG fg (zF fU y m c H))(I:j' H){p:Int}(aH:iS p=O)(n k:Int):∃F r,aQ ap W 59 [.ptr c.ab 0 0,.int j p,.int j n,.int j k] fg=o (.inl (.agg r),F)/\ka (H.ou p n k).2 r/\aK aj aJ aG F (zF fU y m c (H.ou p n k).1):=by
 unfold dp.ou;by_cases Z:k≠0
 ·rw[if_pos Z];obtain⟨F,e,ew⟩:=s.call (cF:=λF=>aQ ap W 59 [.ptr c.ab 0 0,.int j p,.int j n,.int j k] fg=o (.inl (.agg (cP k 0 aU)),F)) 2 rfl λae ai x=>as5 x Z p n;exact⟨F,_,e,ka.no,ew⟩
 ·rw[if_neg Z];have Z:=Classical.not_not.1 Z;subst Z;obtain⟨F,e,ew⟩:=s.call (cF:=λF=>aQ ap W 59 [.ptr c.ab 0 0,.int j p,.int j n,.int j 0] fg=o (.inl (.agg (cP 0 0 [.int j 4,.int j n,.aA])),F)) 2 rfl λae ai x=>as6 x I.cG.a1 I.a1 (tX.1 aH) n;exact⟨F,_,e,⟨_,rfl,zl n⟩,ew⟩
theorem ka.all{e:nN}{r:List E}(h:ka e r):r.length=5/\r.all E.one=O:=by obtain⟨q,rfl,aW⟩:=h;obtain⟨bM,bL⟩:=aW.cD;refine⟨by simp[bM],?_⟩;simp only[pO,bL,pZ];rfl
theorem avc(x:(cf (mO c H)).A h ae ai)(I:j' H)(y:iR)(de:fo fp m es)(fv:gE y.m es)(c5:y.m.length<=100000)(aC:∀x∈y.m,x.size<=100000):∃F,(∃r,aQ ap W 26 [.ptr c.ab 0 0,.agg (eE y m)] h=o (.inl (.agg r),F)/\ka (H.step y).2 r)/\gw h ae ai F (cf (mO c (H.step y).1)):=by
 have gG:aK h ae ai h (mO c H):=aK.start x;have bg:=gG.push [eE y m];have aV:aK h ae ai _ (zF h.n y m c H):=bg.push [cP 0 0 aU];have hm:m.one=O:=(iP.of (h:=h) de fv).one;have aP:((h.push [eE y m]).push [cP 0 0 aU]).cell h.n=o [eE y m]:=(aV.cell 1 rfl).1;have lJ:∀x,((h.push [eE y m]).push [cP 0 0 aU]).set (h.n+1) (o x)=(h.push [eE y m]).push x:=λx=>i9;have lK:∀x,((h.push [eE y m]).push x).cell (h.n+1)=o x:=λx=>iG (h:=h.push [eE y m]);unfold dp.step;by_cases cE:y.kind=1
 ·have d1:decide (y.kind=1)=O:=decide_eq_true cE;rw[if_pos cE];obtain⟨bo,cU,b8⟩:=aV.ww (A:=[aY (h.n+1) [cP 0 0 aU],aY h.n [eE y m]]) (M:=mO c H) (B:=[]) (q1:=mO c (H.load y.p y.m).1) (cF:=λF=>aQ ap W 56 [.ptr c.ab 0 0,.int j y.p,.agg [m]] _=o (.inl (.int j (H.load y.p y.m).2),F)) λae ai x=>as' x I y.p de fv c5 aC;have b8:aK h ae ai bo (zF h.n y m c (H.load y.p y.m).1):=b8;obtain⟨cg,dw,cM⟩:=vs b8 (cP (H.load y.p y.m).2 0 aU);refine⟨_,⟨_,?_,ka.no⟩,cM⟩;have lm:gO O 1 (eE y m) 8=o (.agg [m]):=rfl;simp only[eE]at aP lJ lK cU lm;refine a2 wA rfl ?_;unfold vo;simp only[ak,aq,ar,al,bW,eE,hm,d1,aP,lK,lJ,lm,cU,cg]
 have d1:decide (y.kind=1)=T:=decide_eq_false cE;rw[if_neg cE];by_cases vt:y.kind=2\/y.kind=3
 ·rw[if_pos vt];cases aH:iS y.p with
  |false=>
    have cM:=(vs aV (cP 1 0 aU)).2.2;refine⟨_,⟨_,?_,ka.no⟩,cM⟩;simp only[eE]at aP lJ lK;rcases vt with c6|eb
    ·have d2:decide (y.kind=2)=O:=decide_eq_true c6;refine a2 wA rfl ?_;unfold vo;simp only[ak,aq,ar,al,bW,eE,qj,aH,hm,d1,d2,aP,lK,lJ]
    ·have d2:decide (y.kind=2)=T:=decide_eq_false (by omega);have d3:decide (y.kind=3)=O:=decide_eq_true eb;refine a2 wA rfl ?_;unfold vo;simp only[ak,aq,ar,al,bW,eE,qj,aH,hm,d1,d2,d3,aP,lK,lJ]
  |true=>
    rw[if_neg (by decide)];by_cases c6:y.kind=2
    ·have d2:decide (y.kind=2)=O:=decide_eq_true c6;rw[if_pos c6];obtain⟨cK,cX,ah,bc,br⟩:=L5 aV I (λae ai g=>aps g I.cG.st.wf y.k y.r y.g);have fk:j' (H.graph (H.S.G.j5 y.k y.r y.g).1):=⟨I.cG.graph (I.cG.st.wf.j5 _ _ _),I.log,I.a1⟩;obtain⟨bo,hD,cU,b7,b8⟩:=aeM br fk aH (H.S.G.j5 y.k y.r y.g).2.1 (H.S.G.j5 y.k y.r y.g).2.2;obtain⟨aR,a5,_⟩:=vs br hD;obtain⟨cg,dw,cM⟩:=vs b8 hD;obtain⟨eD,fR⟩:=b7.all;refine⟨_,⟨_,?_,b7⟩,cM⟩;simp only[eE]at aP lJ lK cK cX bc a5;refine a2 wA rfl ?_;unfold vo;simp only[ak,aq,ar,al,bW,eE,qj,aH,hm,d1,d2,aP,lK,lJ,cK,cX,bc,a5,cU,cg,eD,fR]
    ·have d2:decide (y.kind=2)=T:=decide_eq_false c6;have d3:decide (y.kind=3)=O:=decide_eq_true (vt.resolve_left c6);rw[if_neg c6];obtain⟨cK,cX,ah,bc,br⟩:=L5 aV I (λae ai g=>apu g I.cG.st.wf y.q y.k y.r y.g);have fk:j' (H.graph (H.S.G.j6 y.q y.k y.r y.g).1):=⟨I.cG.graph (I.cG.st.wf.j6 _ _ _ _),I.log,I.a1⟩;obtain⟨bo,hD,cU,b7,b8⟩:=aeM br fk aH (H.S.G.j6 y.q y.k y.r y.g).2.1 (H.S.G.j6 y.q y.k y.r y.g).2.2;obtain⟨aR,a5,_⟩:=vs br hD;obtain⟨cg,dw,cM⟩:=vs b8 hD;obtain⟨eD,fR⟩:=b7.all;refine⟨_,⟨_,?_,b7⟩,cM⟩;simp only[eE]at aP lJ lK cK cX bc a5;refine a2 wA rfl ?_;unfold vo;simp only[ak,aq,ar,al,bW,eE,qj,aH,hm,d1,d2,d3,aP,lK,lJ,cK,cX,bc,a5,cU,cg,eD,fR]
 rw[if_neg vt];have d2:decide (y.kind=2)=T:=decide_eq_false λh=>vt (.inl h);have d3:decide (y.kind=3)=T:=decide_eq_false λh=>vt (.inr h);by_cases dx:y.kind=4
 ·have d4:decide (y.kind=4)=O:=decide_eq_true dx;rw[if_pos dx];obtain⟨bo,⟨hD,cU,b7⟩,b8⟩:=aV.ww (A:=[aY (h.n+1) [cP 0 0 aU],aY h.n [eE y m]]) (M:=mO c H) (B:=[]) (q1:=mO c (H.call y).1) (cF:=λF=>∃r,aQ ap W 61 [.ptr c.ab 0 0,.agg (eE y m)] _=o (.inl (.agg r),F)/\ka (H.call y).2 r) λae ai x=>atc x I y hm;have b8:aK h ae ai bo (zF h.n y m c (H.call y).1):=b8;obtain⟨cg,dw,cM⟩:=vs b8 hD;obtain⟨eD,fR⟩:=b7.all;refine⟨_,⟨_,?_,b7⟩,cM⟩;simp only[eE]at aP lJ lK cU;refine a2 wA rfl ?_;unfold vo;simp only[ak,aq,ar,al,bW,eE,hm,d1,d2,d3,d4,aP,lK,lJ,cU,cg,eD,fR]
 have d4:decide (y.kind=4)=T:=decide_eq_false dx;rw[if_neg dx];by_cases gW:y.kind=5
 ·have d5:decide (y.kind=5)=O:=decide_eq_true gW;rw[if_pos gW];obtain⟨cK,cX,ah,bc,br⟩:=L5 aV I (λae ai g=>Xe g y.g);obtain⟨cg,dw,cM⟩:=vs br (cP (H.S.G.cut y.g).2 0 aU);refine⟨_,⟨_,?_,ka.no⟩,cM⟩;simp only[eE]at aP lJ lK cK cX bc;refine a2 wA rfl ?_;unfold vo;simp only[ak,aq,ar,al,bW,eE,hm,d1,d2,d3,d4,d5,aP,lK,lJ,cK,cX,bc,cg]
 have d5:decide (y.kind=5)=T:=decide_eq_false gW;rw[if_neg gW];by_cases iD:y.kind=6
 ·have d6:decide (y.kind=6)=O:=decide_eq_true iD;rw[if_pos iD];obtain⟨cK,cX,ah,bc,br⟩:=L5 aV I (λae ai g=>Xb g I.cG.st.wf);by_cases aN:H.S.G.gate.2.2=0
  ·have je:decide (H.S.G.gate.2.2=0)=O:=decide_eq_true aN;obtain⟨cg,dw,cM⟩:=vs br (cP 0 0 [.int j 1,.int j H.S.G.gate.2.1,.aA]);refine⟨_,⟨cP 0 0 [.int j 1,.int j H.S.G.gate.2.1,.aA],?_,?_⟩,cM⟩
   rotate_left
   ·simp only[if_neg (λh:H.S.G.gate.2.2≠0=>h aN)];exact⟨_,rfl,we _⟩
   simp only[eE]at aP lJ lK cK cX bc;refine a2 wA rfl ?_;unfold vo;simp only[ak,aq,ar,al,bW,eE,hm,d1,d2,d3,d4,d5,d6,aP,lK,lJ,cK,cX,bc,cg,je]
  ·have je:decide (H.S.G.gate.2.2=0)=T:=decide_eq_false aN;obtain⟨cg,dw,cM⟩:=vs br (cP H.S.G.gate.2.2 0 aU);refine⟨_,⟨cP H.S.G.gate.2.2 0 aU,?_,?_⟩,cM⟩
   rotate_left
   ·simp only[if_pos (show H.S.G.gate.2.2≠0 from aN)];exact ka.no
   simp only[eE]at aP lJ lK cK cX bc;refine a2 wA rfl ?_;unfold vo;simp only[ak,aq,ar,al,bW,eE,hm,d1,d2,d3,d4,d5,d6,aP,lK,lJ,cK,cX,bc,cg,je]
 have d6:decide (y.kind=6)=T:=decide_eq_false iD;rw[if_neg iD];have cM:=(vs aV (cP 2 0 aU)).2.2;refine⟨_,⟨_,?_,ka.no⟩,cM⟩;simp only[eE]at aP lJ lK;refine a2 wA rfl ?_;unfold vo;simp only[ak,aq,ar,al,bW,eE,hm,d1,d2,d3,d4,d5,d6,aP,lK,lJ]
end
abbrev SY:c':=27
section
variable{h F aj:ag}{ae ai aJ aG:Nat->Prop}{L:List b6}{c:hL}{ms:dj}{S:bK}{a1:List (List av)}{H:dp}{y:iR}{m:E}{es:List (List E)}
theorem avd(s:aK aj aJ aG h L)(i:Nat)(af:L[i]? =o (jM c ms S a1))(aD:ms.length=4)(dx:S.kept.length=4)(bC:a1.length=4){D:Nat}(aa:D<4):∃w,(∀n,cS T n h (.ptr c.ab 0 (19+D))=o w)/\Dg h w (a1.getD D []):=by
 obtain⟨ae,ai,x⟩:=s.get i af;obtain⟨bF,dk,U,f,Z,hm,am,t,_⟩:=Bq x aD dx;obtain⟨w,hw,aN⟩:=Df am (p:=D) (by omega);have sO:(iy ng c.jn ms).length=4:=by simp[hm,aD]
 obtain⟨ez,eA,c9⟩:=t.get (3+(4+D)) (X:=h4 w (a1.getD D [])) (by rw[show 3+(4+D)=(4+D)+1+1+1 by omega,pS,pS,pS,mx (by rw[sO];omega),sO,Nat.add_sub_cancel_left];exact aN);refine⟨w,λn=>?_,LB c9⟩;rw[fL,f.cell,c2,mY,c2,gi,(LP f.dP f.dx f.eb D).1,hw]
abbrev eG(x:iR)(m:E):List E:=[.int j x.kind,.int j x.p,.int j x.q,.int j x.k,.int j x.h,.int j x.r,.int j x.g,.int j x.n,m]
def sU(h:ag)(ae ai:Nat->Prop)(c:hL)(a:List E)(q:dp×nN):Prop:=∃F ej r,aQ ap W SY a h=o (.inl (.agg r),F)/\ka q.2 r/\ej.ab=c.ab/\ej.h6=c.h6/\gw h ae ai F (cf (hV ej q.1.ms q.1.S q.1.a1))
abbrev sV(fU:Nat)(y:iR)(m:E)(c:hL)(H:dp):List b6:=aY (fU+1) [cP 0 0 aU]::aY fU [eG y m]::hV c H.ms H.S H.a1
theorem L6(s:aK aj aJ aG fg (sV fU y m c H))(I:j' H){cF:ag->Prop}(iw:∀ae ai,eX fg ae ai c.h6 H.S.G->∃F,cF F/\fN fg ae ai c.h6 F cN):cS T 1 fg (.ptr c.ab 0 0)=o (.ptr c.h6 0 0)/\∃F,cF F/\aK aj aJ aG F (sV fU y m c (H.graph cN)):=by obtain⟨bF,dk,U,f,_⟩:=lL s 2 rfl I.cG.ms I.cG.st.kept;obtain⟨F,r,ew⟩:=s.call (cF:=cF) 3 rfl (Y:=bi c.h6 cN) iw;exact⟨f.nh,F,r,ew⟩
theorem aeN(s:aK aj aJ aG fg (sV fU y m c H))(I:j' H)(hm:m.one=O)(aH:iS y.p=O)(n k:Int):∃F r,aQ ap W jN [.ptr c.ab 0 0,.agg (eE y m),.int j n,.int j k] fg=o (.inl (.agg r),F)/\ka (H.ou y.p n k).2 r/\aK aj aJ aG F (sV fU y m c (H.ou y.p n k).1):=by
 have aw:(eE y m).length=9/\(eE y m).all E.one=O:=⟨rfl,by simp only[eE,pO,hm];rfl⟩;unfold dp.ou;by_cases Z:k=0
 ·subst Z;rw[if_neg (λh=>h rfl)];obtain⟨d',dA⟩:=tX.1 aH;obtain⟨D,aa⟩:=lE d';obtain⟨F,e,ew⟩:=at4 s 2 rfl I.cG.ms I.cG.st.kept I.cG.a1 (D:=D) (by omega) (by
   have am:=I.a1;by_cases ef:D<H.a1.length
   ·have:H.a1.getD D []∈H.a1:=by rw[dz,fr ef,rf];exact iX _
    have:=am _ this;omega
   ·rw[dz,o3 (by omega)];simp) aw (by rw[<-aa];rfl) n
  refine⟨F,rV n,e,⟨_,rfl,zl n⟩,?_⟩;have ax:y.p.toNat=D:=by rw[aa];rfl
  unfold dp.hand;rw[ax];exact ew
 ·rw[if_pos Z];refine⟨_,[.int j k,.int j 0,.int j 0,.int j 0,.aA],atX aw Z,ka.no,?_⟩;exact((s.push [eE y m]).push [[.int j k,.int j 0,.int j 0,.int j 0,.aA]]).drop.drop
theorem aeO{arg:av}{cJ:List E}{eO:ag}(I:j' H)(fE:bT arg cJ)(s:aK aj aJ aG eO (aY (fU+1+1) [cJ]::sV fU y m c H)):∃bo hD,aQ ap W L4 [.ptr c.ab 0 0,.int j y.p,.int j y.k,.agg cJ,.int j 2000] eO=o (.inl (.bU [.agg hD,.int j (ci H.ms y.p y.k arg 2000 H.S).2.2.1,.int j (ci H.ms y.p y.k arg 2000 H.S).2.2.2]),bo)/\bT (ci H.ms y.p y.k arg 2000 H.S).2.1 hD/\(bo.push [hD]).cell (fU+1)=o [cP 0 0 aU]/\gw aj aJ aG ((bo.push [hD]).set (fU+1) (o [cP (ci H.ms y.p y.k arg 2000 H.S).2.2.2 (ci H.ms y.p y.k arg 2000 H.S).2.2.1 hD])) (cf (hV c H.ms (ci H.ms y.p y.k arg 2000 H.S).1 H.a1)):=by have ave:SV H.ms H.S:=⟨I.cG.ms,I.cG.ok.cG,I.cG.st,by have:=I.log;omega⟩;obtain⟨bo,hD,cU,b7,b8⟩:=avb (i:=3) (p:=y.p) (f:=y.k) s rfl rfl ave fE 2000;have b8:aK aj aJ aG bo (aY (fU+1+1) [cJ]::aY (fU+1) [cP 0 0 aU]::aY fU [eG y m]::hV c H.ms (ci H.ms y.p y.k arg 2000 H.S).1 H.a1):=b8;have cM:=b8.push [hD];exact⟨bo,hD,cU,b7,(cM.cell 2 rfl).1,(cM.set 2 rfl _).drop.drop.drop.drop⟩
theorem avf(x:(cf (hV c H.ms H.S H.a1)).A h ae ai)(hm:m.one=O)(dx:y.kind=4)(bC:0<=y.h)(aH:iS y.p=T):sU h ae ai c [.ptr c.ab 0 0,.agg (eG y m)] (H,.no 8):=by
 have br:aK h ae ai (((h.push [eG y m]).push [cP 0 0 aU]).push [[.int j 1,.int j y.n,.aA]]) (aY (h.n+1+1) [[.int j 1,.int j y.n,.aA]]::aY (h.n+1) [cP 0 0 aU]::aY h.n [eG y m]::hV c H.ms H.S H.a1):=(((aK.start x).push [eG y m]).push [cP 0 0 aU]).push [[.int j 1,.int j y.n,.aA]];have aP:((h.push [eG y m]).push [cP 0 0 aU]).cell h.n=o [eG y m]:=qG;have cg:=(br.cell 2 rfl).1;have dw:=(br.cell 1 rfl).1;have fW:=(br.cell 0 rfl).1;have d1:decide (y.kind=1)=T:=decide_eq_false (by omega);have d2:decide (y.kind=2)=T:=decide_eq_false (by omega);have d3:decide (y.kind=3)=T:=decide_eq_false (by omega);have d4:decide (y.kind=4)=O:=decide_eq_true dx;have qk:decide (0<=y.h)=O:=decide_eq_true bC;refine⟨_,c,_,?_,ka.no,rfl,rfl,(br.set 1 rfl [cP 8 0 aU]).drop.drop.drop⟩;unfold iS at aH;by_cases d':0<=y.p
 ·have dV:decide (0<=y.p)=O:=decide_eq_true d';have au:decide (y.p<4)=T:=by rw[dV]at aH;simpa using aH
  refine a2 kQ rfl ?_;unfold kE;simp only[ak,aq,ar,al,bW,bJ,hm,aP,cg,dw,fW,d1,d2,d3,d4,qk,dV,au]
 ·have dV:decide (0<=y.p)=T:=decide_eq_false d';refine a2 kQ rfl ?_;unfold kE;simp only[ak,aq,ar,al,bW,bJ,hm,aP,cg,dw,fW,d1,d2,d3,d4,qk,dV]
theorem avg(x:(cf (hV c H.ms H.S H.a1)).A h ae ai)(I:j' H)(hm:m.one=O)(dx:y.kind=4)(bC:¬0<=y.h):sU h ae ai c [.ptr c.ab 0 0,.agg (eG y m)] ({H with S:=(ci H.ms y.p y.k (lx y.n) 2000 H.S).1},⟨(ci H.ms y.p y.k (lx y.n) 2000 H.S).2.2.2,(ci H.ms y.p y.k (lx y.n) 2000 H.S).2.2.1,(ci H.ms y.p y.k (lx y.n) 2000 H.S).2.1⟩):=by
 have br:aK h ae ai (((h.push [eG y m]).push [cP 0 0 aU]).push [[.int j 1,.int j y.n,.aA]]) (aY (h.n+1+1) [[.int j 1,.int j y.n,.aA]]::aY (h.n+1) [cP 0 0 aU]::aY h.n [eG y m]::hV c H.ms H.S H.a1):=(((aK.start x).push [eG y m]).push [cP 0 0 aU]).push [[.int j 1,.int j y.n,.aA]];have aP:((h.push [eG y m]).push [cP 0 0 aU]).cell h.n=o [eG y m]:=qG;have cg:=(br.cell 2 rfl).1;have fW:=(br.cell 0 rfl).1;have d1:decide (y.kind=1)=T:=decide_eq_false (by omega);have d2:decide (y.kind=2)=T:=decide_eq_false (by omega);have d3:decide (y.kind=3)=T:=decide_eq_false (by omega);have d4:decide (y.kind=4)=O:=decide_eq_true dx;have qk:decide (0<=y.h)=T:=decide_eq_false bC;obtain⟨bo,hD,cU,b7,t3,t4⟩:=aeO (fU:=h.n) (y:=y) (m:=m) I (we y.n) br;generalize ci H.ms y.p y.k (lx y.n) 2000 H.S=Q at*;obtain⟨zE,Bt,zo,gW⟩:=Q;simp only at cU b7 t3 t4 ⊢;refine⟨_,c,_,?_,⟨hD,rfl,b7⟩,rfl,rfl,t4⟩;obtain⟨zA,rfl,BC⟩:=b7.iQ;have nf:∀z,(bo.push z).cell bo.n=o z:=λz=>iG;cases dV:decide (0<=y.p)with
 |false=>refine a2 kQ rfl ?_;unfold kE;simp only[ak,aq,ar,al,bW,bJ,hm,dV,aP,cg,fW,d1,d2,d3,d4,qk,cU,BC,t3,nf]
 |true=>
   cases au:decide (y.p<4)with
   |false=>refine a2 kQ rfl ?_;unfold kE;simp only[ak,aq,ar,al,bW,bJ,hm,dV,au,aP,cg,fW,d1,d2,d3,d4,qk,cU,BC,t3,nf]
   |true=>refine a2 kQ rfl ?_;unfold kE;simp only[ak,aq,ar,al,bW,bJ,hm,dV,au,aP,cg,fW,d1,d2,d3,d4,qk,cU,BC,t3,nf]
theorem avh(bC:0<=y.h)(hle:((H.hand y.p).length:Int)<=y.h):H.call y=(H,.no 8):=by unfold dp.call;exact if_pos ⟨bC,.inr hle⟩
theorem avi(bC:0<=y.h)(aH:iS y.p=O)(hle:¬((H.hand y.p).length:Int)<=y.h):H.call y=({H with S:=(ci H.ms y.p y.k ((H.hand y.p).getD y.h.toNat cv) 2000 H.S).1},⟨(ci H.ms y.p y.k ((H.hand y.p).getD y.h.toNat cv) 2000 H.S).2.2.2,(ci H.ms y.p y.k ((H.hand y.p).getD y.h.toNat cv) 2000 H.S).2.2.1,(ci H.ms y.p y.k ((H.hand y.p).getD y.h.toNat cv) 2000 H.S).2.1⟩):=by
 unfold dp.call;rw[if_neg (λh=>by
  rcases h.2 with h|h
  ·rw[aH]at h;cases h
  ·exact hle h),if_pos bC]
theorem avj(x:(cf (hV c H.ms H.S H.a1)).A h ae ai)(I:j' H)(hm:m.one=O)(dx:y.kind=4)(bC:0<=y.h)(aH:iS y.p=O):sU h ae ai c [.ptr c.ab 0 0,.agg (eG y m)] (H.call y):=by
 have br:aK h ae ai (((h.push [eG y m]).push [cP 0 0 aU]).push [[.int j 1,.int j y.n,.aA]]) (aY (h.n+1+1) [[.int j 1,.int j y.n,.aA]]::aY (h.n+1) [cP 0 0 aU]::aY h.n [eG y m]::hV c H.ms H.S H.a1):=(((aK.start x).push [eG y m]).push [cP 0 0 aU]).push [[.int j 1,.int j y.n,.aA]];have aP:((h.push [eG y m]).push [cP 0 0 aU]).cell h.n=o [eG y m]:=qG;have cg:=(br.cell 2 rfl).1;have dw:=(br.cell 1 rfl).1;have fW:=(br.cell 0 rfl).1;have d1:decide (y.kind=1)=T:=decide_eq_false (by omega);have d2:decide (y.kind=2)=T:=decide_eq_false (by omega);have d3:decide (y.kind=3)=T:=decide_eq_false (by omega);have d4:decide (y.kind=4)=O:=decide_eq_true dx;have qk:decide (0<=y.h)=O:=decide_eq_true bC;obtain⟨d',dA⟩:=tX.1 aH;have dV:decide (0<=y.p)=O:=decide_eq_true d';have au:decide (y.p<4)=O:=decide_eq_true dA;obtain⟨D,aa⟩:=lE d';have ax:y.p.toNat=D:=by rw[aa];rfl
 obtain⟨w,lw,hw⟩:=avd br 3 rfl I.cG.ms I.cG.st.kept I.cG.a1 (D:=D) (by omega);have G':=lw 1;have bV:∀q:gx,dO ad (o (4,1)) (.ptr c.ab 0 19) (.int q y.p)=o (.ptr c.ab 0 (19+D)):=λq=>by rw[aa];simp[dO];omega
 have f19:b5 19 (.ptr c.ab 0 0)=o (.ptr c.ab 0 19):=rfl;have qT:=hw.len;have wf:=hw.fits;have el:H.a1.getD D []=H.hand y.p:=by unfold dp.hand;rw[ax]
 rw[el]at qT hw;have Gl:=avh (H:=H) bC;have gQ:=avi (H:=H) bC aH;generalize H.hand y.p=l at qT hw Gl gQ;by_cases hle:(l.length:Int)<=y.h
 ·have jJ:decide ((l.length:Int)<=y.h)=O:=decide_eq_true hle;rw[Gl hle];refine⟨_,c,_,?_,ka.no,rfl,rfl,(br.set 1 rfl [cP 8 0 aU]).drop.drop.drop⟩;refine a2 kQ rfl ?_;unfold kE;simp only[ak,aq,ar,al,bW,bJ,hm,aP,cg,dw,fW,d1,d2,d3,d4,qk,dV,au,G',bV,f19,qT,wf,jJ]
 ·have jJ:decide ((l.length:Int)<=y.h)=T:=decide_eq_false hle;rw[gQ hle];obtain⟨i,af⟩:=lE bC;have h':i<l.length:=by omega
  obtain⟨p,cJ,i1,gt,iu⟩:=hw.bV j i (l.getD i cv) (by rw[dz,fr h'];rfl);rw[<-af]at i1;have bc:y.h.toNat=i:=by rw[af];rfl
  rw[bc];have gb:=iu.cD;have mq:=gX gb.1;have bz:aK h ae ai (((h.push [eG y m]).push [cP 0 0 aU]).push [cJ]) (aY (h.n+1+1) [cJ]::aY (h.n+1) [cP 0 0 aU]::aY h.n [eG y m]::hV c H.ms H.S H.a1):=(((aK.start x).push [eG y m]).push [cP 0 0 aU]).push [cJ];have aR:=(bz.cell 2 rfl).1;have bp:=(bz.cell 0 rfl).1;obtain⟨bo,hD,cU,b7,t3,t4⟩:=aeO (fU:=h.n) (y:=y) (m:=m) I iu bz;generalize ci H.ms y.p y.k (l.getD i cv) 2000 H.S=Q at*;obtain⟨zE,Bt,zo,gW⟩:=Q;simp only at cU b7 t3 t4 ⊢;refine⟨_,c,_,?_,⟨hD,rfl,b7⟩,rfl,rfl,t4⟩;obtain⟨zA,rfl,BC⟩:=b7.iQ;have nf:∀z,(bo.push z).cell bo.n=o z:=λz=>iG;refine a2 kQ rfl ?_;unfold kE;simp only[ak,aq,ar,al,bW,bJ,hm,aP,cg,dw,fW,d1,d2,d3,d4,qk,dV,au,G',bV,f19,qT,wf,jJ,i1,gt,gb,mq,aR,bp,cU,BC,t3,nf]
theorem avk(s:aK aj aJ aG h L)(i:Nat)(af:L[i]? =o (jM c H.ms H.S H.a1))(I:j' H)(p:Int){v:E}(kg:∀h,iP h v M)(c5:M.length<=100000)(aC:∀x∈M,x.size<=100000):∃F ej,aQ ap W 44 [.ptr c.ab 0 0,.int j p,.agg [v]] h=o (.inl (.int j (H.load p M).2),F)/\ej.ab=c.ab/\ej.h6=c.h6/\aK aj aJ aG F (L.set i (jM ej (H.load p M).1.ms (H.load p M).1.S (H.load p M).1.a1)):=by
 have bt:=(kg h).one;unfold dp.load;cases aH:iS p with
 |false=>
   have bg:=s.push [[v]];refine⟨_,c,?_,rfl,rfl,by rw[if_pos rfl,acR af];exact bg.drop⟩;unfold iS at aH;by_cases d':p<0
   ·have dV:decide (p<0)=O:=decide_eq_true d';refine a2 JF rfl ?_;unfold Fx;simp only[ak,aq,ar,al,bt,dV]
   ·have dV:decide (p<0)=T:=decide_eq_false d';have au:decide (4<=p)=O:=decide_eq_true (by rw[decide_eq_true (show 0<=p by omega),Bool.true_and,decide_eq_false_iff_not]at aH;omega);refine a2 JF rfl ?_;unfold Fx;simp only[ak,aq,ar,al,bt,dV,au]
 |true=>
   obtain⟨d',dA⟩:=tX.1 aH;obtain⟨D,rfl⟩:=lE d';obtain⟨F,ej,e,bM,bL,_,ew⟩:=H1 s i af I.cG.ms I.cG.st.kept (v:=v) (M:=M) (p:=D) (by omega) kg c5 aC;rw[if_neg (by decide),mE];by_cases aN:(e1 M).1=0
   ·rw[if_pos aN]at ew;rw[aN]at e;exact⟨F,ej,by rw[if_neg (λh=>h aN)];exact e,bM,bL,by rw[if_neg (λh=>h aN)];exact ew⟩
   ·rw[if_neg aN]at ew;exact⟨F,ej,by rw[if_pos aN];exact e,bM,bL,by rw[if_pos aN];exact ew⟩
theorem avl(x:(cf (hV c H.ms H.S H.a1)).A h ae ai)(I:j' H)(cE:y.kind=1)(de:fo fp m es)(fv:gE y.m es)(c5:y.m.length<=100000)(aC:∀x∈y.m,x.size<=100000):sU h ae ai c [.ptr c.ab 0 0,.agg (eG y m)] ((H.load y.p y.m).1,.no (H.load y.p y.m).2):=by
 have hm:m.one=O:=(iP.of (h:=h) de fv).one;have aV:aK h ae ai ((h.push [eG y m]).push [cP 0 0 aU]) (sV h.n y m c H):=((aK.start x).push [eG y m]).push [cP 0 0 aU];have aP:((h.push [eG y m]).push [cP 0 0 aU]).cell h.n=o [eG y m]:=qG;have d1:decide (y.kind=1)=O:=decide_eq_true cE;obtain⟨bo,ej,cU,da,ch,b8⟩:=avk aV 2 rfl I y.p (λh=>iP.of (h:=h) de fv) c5 aC;have cg:=(b8.cell 0 rfl).1;have lm:gO O 1 (eG y m) 8=o (.agg [m]):=rfl;have cM:aK h ae ai bo (aY (h.n+1) [cP 0 0 aU]::aY h.n [eG y m]::hV ej (H.load y.p y.m).1.ms (H.load y.p y.m).1.S (H.load y.p y.m).1.a1):=by
  have Bn:(H.load y.p y.m).1.S.G=H.S.G:=by
   unfold dp.load;split
   ·rfl
   ·split<;>rfl
  unfold hV;rw[ch,Bn];exact b8
 refine⟨_,ej,_,?_,ka.no,da,ch,(cM.set 0 rfl [cP (H.load y.p y.m).2 0 aU]).drop.drop⟩;generalize (H.load y.p y.m).2=zO at*;cases dV:decide (0<=y.p)with
 |false=>refine a2 kQ rfl ?_;unfold kE;simp only[ak,aq,ar,al,bW,bJ,hm,dV,aP,lm,d1,cU,cg]
 |true=>
   cases au:decide (y.p<4)with
   |false=>refine a2 kQ rfl ?_;unfold kE;simp only[ak,aq,ar,al,bW,bJ,hm,dV,au,aP,lm,d1,cU,cg]
   |true=>refine a2 kQ rfl ?_;unfold kE;simp only[ak,aq,ar,al,bW,bJ,hm,dV,au,aP,lm,d1,cU,cg]
theorem avm(x:(cf (hV c H.ms H.S H.a1)).A h ae ai)(hm:m.one=O)(c6:y.kind=2)(aH:iS y.p=T):sU h ae ai c [.ptr c.ab 0 0,.agg (eG y m)] (H,.no 1):=by
 have aV:aK h ae ai ((h.push [eG y m]).push [cP 0 0 aU]) (sV h.n y m c H):=((aK.start x).push [eG y m]).push [cP 0 0 aU];have aP:((h.push [eG y m]).push [cP 0 0 aU]).cell h.n=o [eG y m]:=qG;have d1:decide (y.kind=1)=T:=decide_eq_false (by omega);have d2:decide (y.kind=2)=O:=decide_eq_true c6;have cg:=(aV.cell 0 rfl).1;refine⟨_,c,_,?_,ka.no,rfl,rfl,(aV.set 0 rfl [cP 1 0 aU]).drop.drop⟩;unfold iS at aH;by_cases d':0<=y.p
 ·have dV:decide (0<=y.p)=O:=decide_eq_true d';have au:decide (y.p<4)=T:=by rw[dV]at aH;simpa using aH
  refine a2 kQ rfl ?_;unfold kE;simp only[ak,aq,ar,al,bW,bJ,hm,aP,cg,d1,d2,dV,au]
 ·have dV:decide (0<=y.p)=T:=decide_eq_false d';refine a2 kQ rfl ?_;unfold kE;simp only[ak,aq,ar,al,bW,bJ,hm,aP,cg,d1,d2,dV]
theorem avn(x:(cf (hV c H.ms H.S H.a1)).A h ae ai)(I:j' H)(hm:m.one=O)(c6:y.kind=2)(aH:iS y.p=O):sU h ae ai c [.ptr c.ab 0 0,.agg (eG y m)] ((H.graph (H.S.G.j5 y.k y.r y.g).1).ou y.p (H.S.G.j5 y.k y.r y.g).2.1 (H.S.G.j5 y.k y.r y.g).2.2):=by have aV:aK h ae ai ((h.push [eG y m]).push [cP 0 0 aU]) (sV h.n y m c H):=((aK.start x).push [eG y m]).push [cP 0 0 aU];have aP:((h.push [eG y m]).push [cP 0 0 aU]).cell h.n=o [eG y m]:=qG;have d1:decide (y.kind=1)=T:=decide_eq_false (by omega);have d2:decide (y.kind=2)=O:=decide_eq_true c6;have d3:decide (y.kind=3)=T:=decide_eq_false (by omega);obtain⟨d',dA⟩:=tX.1 aH;have dV:decide (0<=y.p)=O:=decide_eq_true d';have au:decide (y.p<4)=O:=decide_eq_true dA;have f0:b5 0 (.ptr c.ab 0 0)=o (.ptr c.ab 0 0):=rfl;obtain⟨cK,ah,bc,br⟩:=L6 aV I (λae ai g=>apt g I.cG.st.wf y.k y.r y.g);have fk:j' (H.graph (H.S.G.j5 y.k y.r y.g).1):=⟨I.cG.graph (I.cG.st.wf.j5 _ _ _),I.log,I.a1⟩;have a5:ah.cell h.n=o [eG y m]:=(br.cell 1 rfl).1;have zg:gO O 9 (eG y m) 0=o (.agg (eG y m)):=rfl;obtain⟨bo,hD,cU,b7,b8⟩:=aeN br fk hm aH (H.S.G.j5 y.k y.r y.g).2.1 (H.S.G.j5 y.k y.r y.g).2.2;have cU:aQ ap W jN [.ptr c.ab 0 0,.agg (eG y m),.int j (H.S.G.j5 y.k y.r y.g).2.1,.int j (H.S.G.j5 y.k y.r y.g).2.2] ah=o (.inl (.agg hD),bo):=cU;have cg:=(b8.cell 0 rfl).1;obtain⟨eD,fR⟩:=b7.all;refine⟨_,c,hD,?_,b7,rfl,rfl,(b8.set 0 rfl [hD]).drop.drop⟩;refine a2 kQ rfl ?_;unfold kE;simp only[ak,aq,ar,al,bW,bJ,hm,aP,d1,d2,d3,dV,au,f0,cK,bc,a5,zg,cU,cg,eD,fR]
theorem avo(x:(cf (hV c H.ms H.S H.a1)).A h ae ai)(hm:m.one=O)(eb:y.kind=3)(aH:iS y.p=T):sU h ae ai c [.ptr c.ab 0 0,.agg (eG y m)] (H,.no 1):=by
 have aV:aK h ae ai ((h.push [eG y m]).push [cP 0 0 aU]) (sV h.n y m c H):=((aK.start x).push [eG y m]).push [cP 0 0 aU];have aP:((h.push [eG y m]).push [cP 0 0 aU]).cell h.n=o [eG y m]:=qG;have d1:decide (y.kind=1)=T:=decide_eq_false (by omega);have d2:decide (y.kind=2)=T:=decide_eq_false (by omega);have d3:decide (y.kind=3)=O:=decide_eq_true eb;have cg:=(aV.cell 0 rfl).1;refine⟨_,c,_,?_,ka.no,rfl,rfl,(aV.set 0 rfl [cP 1 0 aU]).drop.drop⟩;unfold iS at aH;by_cases d':0<=y.p
 ·have dV:decide (0<=y.p)=O:=decide_eq_true d';have au:decide (y.p<4)=T:=by rw[dV]at aH;simpa using aH
  refine a2 kQ rfl ?_;unfold kE;simp only[ak,aq,ar,al,bW,bJ,hm,aP,cg,d1,d2,d3,dV,au]
 ·have dV:decide (0<=y.p)=T:=decide_eq_false d';refine a2 kQ rfl ?_;unfold kE;simp only[ak,aq,ar,al,bW,bJ,hm,aP,cg,d1,d2,d3,dV]
theorem avp(x:(cf (hV c H.ms H.S H.a1)).A h ae ai)(I:j' H)(hm:m.one=O)(eb:y.kind=3)(aH:iS y.p=O):sU h ae ai c [.ptr c.ab 0 0,.agg (eG y m)] ((H.graph (H.S.G.j6 y.q y.k y.r y.g).1).ou y.p (H.S.G.j6 y.q y.k y.r y.g).2.1 (H.S.G.j6 y.q y.k y.r y.g).2.2):=by have aV:aK h ae ai ((h.push [eG y m]).push [cP 0 0 aU]) (sV h.n y m c H):=((aK.start x).push [eG y m]).push [cP 0 0 aU];have aP:((h.push [eG y m]).push [cP 0 0 aU]).cell h.n=o [eG y m]:=qG;have d1:decide (y.kind=1)=T:=decide_eq_false (by omega);have d2:decide (y.kind=2)=T:=decide_eq_false (by omega);have d3:decide (y.kind=3)=O:=decide_eq_true eb;obtain⟨d',dA⟩:=tX.1 aH;have dV:decide (0<=y.p)=O:=decide_eq_true d';have au:decide (y.p<4)=O:=decide_eq_true dA;have f0:b5 0 (.ptr c.ab 0 0)=o (.ptr c.ab 0 0):=rfl;obtain⟨cK,ah,bc,br⟩:=L6 aV I (λae ai g=>apv g I.cG.st.wf y.q y.k y.r y.g);have fk:j' (H.graph (H.S.G.j6 y.q y.k y.r y.g).1):=⟨I.cG.graph (I.cG.st.wf.j6 _ _ _ _),I.log,I.a1⟩;have a5:ah.cell h.n=o [eG y m]:=(br.cell 1 rfl).1;have zg:gO O 9 (eG y m) 0=o (.agg (eG y m)):=rfl;obtain⟨bo,hD,cU,b7,b8⟩:=aeN br fk hm aH (H.S.G.j6 y.q y.k y.r y.g).2.1 (H.S.G.j6 y.q y.k y.r y.g).2.2;have cU:aQ ap W jN [.ptr c.ab 0 0,.agg (eG y m),.int j (H.S.G.j6 y.q y.k y.r y.g).2.1,.int j (H.S.G.j6 y.q y.k y.r y.g).2.2] ah=o (.inl (.agg hD),bo):=cU;have cg:=(b8.cell 0 rfl).1;obtain⟨eD,fR⟩:=b7.all;refine⟨_,c,hD,?_,b7,rfl,rfl,(b8.set 0 rfl [hD]).drop.drop⟩;refine a2 kQ rfl ?_;unfold kE;simp only[ak,aq,ar,al,bW,bJ,hm,aP,d1,d2,d3,dV,au,f0,cK,bc,a5,zg,cU,cg,eD,fR]
theorem avq(x:(cf (hV c H.ms H.S H.a1)).A h ae ai)(I:j' H)(hm:m.one=O)(gW:y.kind=5):sU h ae ai c [.ptr c.ab 0 0,.agg (eG y m)] (H.graph (H.S.G.cut y.g).1,.no (H.S.G.cut y.g).2):=by
 have aV:aK h ae ai ((h.push [eG y m]).push [cP 0 0 aU]) (sV h.n y m c H):=((aK.start x).push [eG y m]).push [cP 0 0 aU];have aP:((h.push [eG y m]).push [cP 0 0 aU]).cell h.n=o [eG y m]:=qG;have d1:decide (y.kind=1)=T:=decide_eq_false (by omega);have d2:decide (y.kind=2)=T:=decide_eq_false (by omega);have d3:decide (y.kind=3)=T:=decide_eq_false (by omega);have d4:decide (y.kind=4)=T:=decide_eq_false (by omega);have d5:decide (y.kind=5)=O:=decide_eq_true gW;have f0:b5 0 (.ptr c.ab 0 0)=o (.ptr c.ab 0 0):=rfl;obtain⟨cK,ah,bc,br⟩:=L6 aV I (λae ai g=>Xf g y.g);have cg:=(br.cell 0 rfl).1;refine⟨_,c,_,?_,ka.no,rfl,rfl,(br.set 0 rfl [cP (H.S.G.cut y.g).2 0 aU]).drop.drop⟩;cases dV:decide (0<=y.p)with
 |false=>refine a2 kQ rfl ?_;unfold kE;simp only[ak,aq,ar,al,bW,bJ,hm,dV,aP,d1,d2,d3,d4,d5,f0,cK,bc,cg]
 |true=>
   cases au:decide (y.p<4)with
   |false=>refine a2 kQ rfl ?_;unfold kE;simp only[ak,aq,ar,al,bW,bJ,hm,dV,au,aP,d1,d2,d3,d4,d5,f0,cK,bc,cg]
   |true=>refine a2 kQ rfl ?_;unfold kE;simp only[ak,aq,ar,al,bW,bJ,hm,dV,au,aP,d1,d2,d3,d4,d5,f0,cK,bc,cg]
theorem avr(x:(cf (hV c H.ms H.S H.a1)).A h ae ai)(I:j' H)(hm:m.one=O)(iD:y.kind=6):sU h ae ai c [.ptr c.ab 0 0,.agg (eG y m)] (H.graph H.S.G.gate.1,if H.S.G.gate.2.2≠0 then .no H.S.G.gate.2.2 else .ok (lx H.S.G.gate.2.1)):=by
 have aV:aK h ae ai ((h.push [eG y m]).push [cP 0 0 aU]) (sV h.n y m c H):=((aK.start x).push [eG y m]).push [cP 0 0 aU];have aP:((h.push [eG y m]).push [cP 0 0 aU]).cell h.n=o [eG y m]:=qG;have d1:decide (y.kind=1)=T:=decide_eq_false (by omega);have d2:decide (y.kind=2)=T:=decide_eq_false (by omega);have d3:decide (y.kind=3)=T:=decide_eq_false (by omega);have d4:decide (y.kind=4)=T:=decide_eq_false (by omega);have d5:decide (y.kind=5)=T:=decide_eq_false (by omega);have d6:decide (y.kind=6)=O:=decide_eq_true iD;have f0:b5 0 (.ptr c.ab 0 0)=o (.ptr c.ab 0 0):=rfl;obtain⟨cK,ah,bc,br⟩:=L6 aV I (λae ai g=>Xc g I.cG.st.wf);have cg:=(br.cell 0 rfl).1;by_cases aN:H.S.G.gate.2.2=0
 ·have je:decide (H.S.G.gate.2.2=0)=O:=decide_eq_true aN;rw[if_neg (λh=>h aN)];refine⟨_,c,cP 0 0 [.int j 1,.int j H.S.G.gate.2.1,.aA],?_,⟨_,rfl,we _⟩,rfl,rfl,(br.set 0 rfl [cP 0 0 [.int j 1,.int j H.S.G.gate.2.1,.aA]]).drop.drop⟩;cases dV:decide (0<=y.p)with
  |false=>refine a2 kQ rfl ?_;unfold kE;simp only[ak,aq,ar,al,bW,bJ,hm,dV,aP,d1,d2,d3,d4,d5,d6,f0,cK,bc,cg,je]
  |true=>
    cases au:decide (y.p<4)with
    |false=>refine a2 kQ rfl ?_;unfold kE;simp only[ak,aq,ar,al,bW,bJ,hm,dV,au,aP,d1,d2,d3,d4,d5,d6,f0,cK,bc,cg,je]
    |true=>refine a2 kQ rfl ?_;unfold kE;simp only[ak,aq,ar,al,bW,bJ,hm,dV,au,aP,d1,d2,d3,d4,d5,d6,f0,cK,bc,cg,je]
 ·have je:decide (H.S.G.gate.2.2=0)=T:=decide_eq_false aN;rw[if_pos aN];refine⟨_,c,_,?_,ka.no,rfl,rfl,(br.set 0 rfl [cP H.S.G.gate.2.2 0 aU]).drop.drop⟩;cases dV:decide (0<=y.p)with
  |false=>refine a2 kQ rfl ?_;unfold kE;simp only[ak,aq,ar,al,bW,bJ,hm,dV,aP,d1,d2,d3,d4,d5,d6,f0,cK,bc,cg,je]
  |true=>
    cases au:decide (y.p<4)with
    |false=>refine a2 kQ rfl ?_;unfold kE;simp only[ak,aq,ar,al,bW,bJ,hm,dV,au,aP,d1,d2,d3,d4,d5,d6,f0,cK,bc,cg,je]
    |true=>refine a2 kQ rfl ?_;unfold kE;simp only[ak,aq,ar,al,bW,bJ,hm,dV,au,aP,d1,d2,d3,d4,d5,d6,f0,cK,bc,cg,je]
theorem avs(x:(cf (hV c H.ms H.S H.a1)).A h ae ai)(hm:m.one=O)(hy:y.kind<1\/6<y.kind):sU h ae ai c [.ptr c.ab 0 0,.agg (eG y m)] (H,.no 2):=by
 have aV:aK h ae ai ((h.push [eG y m]).push [cP 0 0 aU]) (sV h.n y m c H):=((aK.start x).push [eG y m]).push [cP 0 0 aU];have aP:((h.push [eG y m]).push [cP 0 0 aU]).cell h.n=o [eG y m]:=qG;have d1:decide (y.kind=1)=T:=decide_eq_false (by omega);have d2:decide (y.kind=2)=T:=decide_eq_false (by omega);have d3:decide (y.kind=3)=T:=decide_eq_false (by omega);have d4:decide (y.kind=4)=T:=decide_eq_false (by omega);have d5:decide (y.kind=5)=T:=decide_eq_false (by omega);have d6:decide (y.kind=6)=T:=decide_eq_false (by omega);have cg:=(aV.cell 0 rfl).1;refine⟨_,c,_,?_,ka.no,rfl,rfl,(aV.set 0 rfl [cP 2 0 aU]).drop.drop⟩;cases dV:decide (0<=y.p)with
 |false=>refine a2 kQ rfl ?_;unfold kE;simp only[ak,aq,ar,al,bW,bJ,hm,dV,aP,d1,d2,d3,d4,d5,d6,cg]
 |true=>
   cases au:decide (y.p<4)with
   |false=>refine a2 kQ rfl ?_;unfold kE;simp only[ak,aq,ar,al,bW,bJ,hm,dV,au,aP,d1,d2,d3,d4,d5,d6,cg]
   |true=>refine a2 kQ rfl ?_;unfold kE;simp only[ak,aq,ar,al,bW,bJ,hm,dV,au,aP,d1,d2,d3,d4,d5,d6,cg]
theorem avt(x:(cf (hV c H.ms H.S H.a1)).A h ae ai)(I:j' H)(de:fo fp m es)(fv:gE y.m es)(c5:y.m.length<=100000)(aC:∀x∈y.m,x.size<=100000):sU h ae ai c [.ptr c.ab 0 0,.agg (eE y m)] (H.step y):=by
 have hm:m.one=O:=(iP.of (h:=h) de fv).one;show sU h ae ai c [.ptr c.ab 0 0,.agg (eG y m)] (H.step y);unfold dp.step;by_cases cE:y.kind=1
 ·rw[if_pos cE];exact avl x I cE de fv c5 aC
 rw[if_neg cE];by_cases vt:y.kind=2\/y.kind=3
 ·rw[if_pos vt];cases aH:iS y.p with
  |false=>
    rw[if_pos rfl];rcases vt with c6|eb
    ·exact avm x hm c6 aH
    ·exact avo x hm eb aH
  |true=>
    rw[if_neg (by decide)];by_cases c6:y.kind=2
    ·rw[if_pos c6];exact avn x I hm c6 aH
    ·rw[if_neg c6];exact avp x I hm (vt.resolve_left c6) aH
 rw[if_neg vt];by_cases dx:y.kind=4
 ·rw[if_pos dx];by_cases bC:0<=y.h
  ·cases aH:iS y.p with
   |false=>unfold dp.call;rw[if_pos ⟨bC,.inl aH⟩];exact avf x hm dx bC aH
   |true=>exact avj x I hm dx bC aH
  ·unfold dp.call;rw[if_neg (λh=>bC h.1),if_neg bC];exact avg x I hm dx bC
 rw[if_neg dx];by_cases gW:y.kind=5
 ·rw[if_pos gW];exact avq x I hm gW
 rw[if_neg gW];by_cases iD:y.kind=6
 ·rw[if_pos iD];exact avr x I hm iD
 rw[if_neg iD];exact avs x hm (by omega)
end
abbrev Ha:a6:=82
section
variable{h F aj:ag}{ae ai aJ aG:Nat->Prop}{L:List b6}{c:rS}{H:dp}{ab aO:Nat}{a1:List (List av)}
theorem avu:(h4 .aA []).A h (λ_=>False) (λ_=>False):=⟨[],rfl,.inl ⟨⟨rfl,rfl⟩,λ_ h=>h,λ_ h=>h⟩⟩
theorem cf.aeP:∀n:Nat,(cf (iy h4 (al n .aA) (al n []))).A h (λ_=>False) (λ_=>False)
 |0=>⟨trivial,λ_ h=>h,λ_ h=>h⟩
 |n+1=>⟨λ_=>False,λ_=>False,λ_=>False,λ_=>False,avu,cf.aeP n,λk=>by simp,λD=>by simp,λ_ h=>h.elim,λ_ h=>h.elim⟩
theorem avv{b:Nat}(ab:b=h.n):(d9 b aO [[],[],[],[]]).A (h.push [[.ptr aO 0 0,.aA,.aA,.aA,.aA]]) (λk=>k=b) (λ_=>False):=by subst ab;exact⟨[.aA,.aA,.aA,.aA],rfl,λk=>k=h.n,λ_=>False,λ_=>False,λ_=>False,⟨λ_=>nF,λ_ h=>h,Nat.lt_succ_self _,iG⟩,cf.aeP 4,λk=>by simp,λD=>by simp,λ_ _ h=>h,λ_ h=>h.elim⟩
theorem aeQ(s:aK aj aJ aG h L):∃F c,aQ ap W 24 [] h=o (.inl (.ptr c.ab 0 0),F)/\aK aj aJ aG F (mO c wz++L):=by obtain⟨J,aO,ck,cr,au,bg⟩:=asW s;have aV:=bg.add (X:=d9 J.n aO [[],[],[],[]]) (F:=J.push [[.ptr aO 0 0,.aA,.aA,.aA,.aA]]) (ez:=λk=>k=J.n) (eA:=λ_=>False) (aB.push _ _) (avv rfl) (λk Z=>qA Z.symm) (λ_ h=>h.elim);refine⟨_,⟨J.n,aO,ck,cr⟩,?_,aV⟩;refine a2 as0 rfl ?_;unfold acX;simp only[ak,aq,ar,al,bW,au]
theorem avw(b:Nat)(n:Nat){l:List av}{rows:List (List E)}(am:c8 l rows)(he:iT h bG (.bn b 0 n bG)=o rows)(aE:l.length<=1000000):∃es,aQ ap W 69 [.bn b 0 n bG] h=o (.inl (.b0 ad bG es),h)/\c8 l es:=by
 have hlen:=am.len;have Eg:∀m,iT (h.fresh m) bG (.bn b 0 n bG)=o rows:=λm=>he;have aF:∀r∈rows,r.all E.one=O:=by
  intro r ao;obtain⟨i,af⟩:=List.mem_iff_getElem?.1 ao;have J:i<l.length:=by rw[<-hlen];exact(fQ.1 af).1
  obtain⟨bj,bM,bL⟩:=am.get (fr J);rw[af]at bM;injection bM with bM;rw[bM];exact bL.cD.2
 have au:eU T bG (.b0 (o h.ids) bG []) (.bn b 0 n bG) (h.fresh 0)=o (.b0 (o h.ids) bG rows,if rows.length=0 then h.fresh 0 else(h.fresh 0).grow h.ids rows.length):=by
  simp only[eU,Eg,c2];by_cases aN:rows.length=0
  ·simp[sY,pR.1 aN]
  ·rw[if_neg aN,if_neg aN];unfold jX;rw[if_pos ⟨by omega,by omega,by rw[jq];exact aF⟩];simp[Ij]
 have a8:aB h (if rows.length=0 then h.fresh 0 else(h.fresh 0).grow h.ids rows.length):=by
  split
  ·exact aB.fresh h 0
  ·exact(aB.fresh h 0).grow (b4 _)
 obtain⟨es,cY,gC⟩:=Je am;have hw:c7 (.b0 (o h.ids) bG rows)=o (.b0 ad bG es):=by simp only[c7,cY,hF]
 refine⟨es,?_,gC⟩;refine a2 adh rfl ?_;unfold R2;simp only[ak,aq,ar,al,au,dI a8 hw]
theorem avx:aQ ap W 69 [.aA] h=o (.inl .aA,h):=by refine a2 adh rfl ?_;unfold R2;simp only[ak,aq,ar,al];exact dI (aB.refl h) rfl
def dp.sW(H:dp)(p:Int):List av:=if iS p then H.hand p else[]
def dp.vu(H:dp)(p:Int):av:=if iS p then H.S.kept.getD p.toNat cv else cv
theorem aeR(s:aK aj aJ aG h L)(i:Nat)(af:L[i]? =o (d9 ab aO H.a1))(aD:H.a1.length=4)(hlen:∀l∈H.a1,l.length<=90000)(p:Int):∃v es,aQ ap W 28 [.ptr ab 0 0,.int j p] h=o (.inl v,h)/\fo bG v es/\c8 (H.sW p) es:=by
 unfold dp.sW;cases aH:iS p with
 |false=>refine⟨.aA,[],?_,.inl ⟨rfl,rfl⟩,by simp[c8]⟩;refine a2 R0 rfl ?_;unfold Ly;simp only[ak,aq,ar,al,qj,aH];exact dI (aB.refl h) rfl
 |true=>
   obtain⟨d',dA⟩:=tX.1 aH;obtain⟨bA,U⟩:=wB s i af;obtain⟨w,hw,bC⟩:=U.v p.toNat (by omega);have i6:=U.i6 hw;have bV:=λq=>R4 (b:=ab) q d' dA;have f1:b5 1 (.ptr ab 0 0)=o (.ptr ab 0 1):=rfl;have am:(H.hand p).length<=1000000:=by
    have:H.hand p∈H.a1:=by unfold dp.hand;rw[dz,fr (by omega),rf];exact iX _
    have:=hlen _ this;omega
   have bC:Dg h w (H.hand p):=bC;rw[if_pos rfl];rcases bC.sx with⟨au,rfl⟩|⟨b,rows,rfl,ax,bc⟩
   ·refine⟨.aA,[],?_,.inl ⟨rfl,rfl⟩,by rw[au];simp[c8]⟩;refine a2 R0 rfl ?_;unfold Ly;simp only[ak,aq,ar,al,qj,aH,f1,bV,i6,avx];exact dI (aB.refl h) rfl
   ·obtain⟨es,bY,cU⟩:=avw b _ ax bc am;obtain⟨gk,cY,gC⟩:=Je cU;refine⟨.b0 ad bG gk,gk,?_,.inr ⟨_,rfl⟩,gC⟩;have pw:c7 (.b0 ad bG es)=o (.b0 ad bG gk):=by simp only[c7,cY,hF]
    refine a2 R0 rfl ?_;unfold Ly;simp only[ak,aq,ar,al,qj,aH,f1,bV,i6,bY];exact dI (aB.refl h) pw
theorem avy(s:aK aj aJ aG h L)(i D:Nat)(af:L[i]? =o (d9 ab aO a1)){ck cr:Nat}(aa:L[D]? =o (hQ aO ck cr H.ms H.S.kept))(g:H.Good)(p:Int):∃r,aQ ap W 29 [.ptr ab 0 0,.int j p] h=o (.inl (.agg r),h)/\bT (H.vu p) r:=by
 unfold dp.vu;have bg:=s.push [aU];have d':(h.push [aU]).cell h.n=o [aU]:=iG;have dA:∀x,(h.push [aU]).set h.n (o x)=h.push x:=λx=>i9;have ft:∀x,(h.push [x]).cell h.n=o [x]:=λx=>iG;cases aH:iS p with
 |false=>refine⟨aU,?_,e6⟩;refine a2 adg rfl ?_;unfold R1;simp only[ak,aq,ar,al,qj,aH,d',dA];exact dI (aB.push h _) rfl
 |true=>
   obtain⟨kC,bM⟩:=tX.1 aH;obtain⟨bA,U⟩:=wB bg (i+1) af;have vg:=U.box 1;have am:H.ms.length=H.S.kept.length:=g.ms.trans g.st.kept.symm;obtain⟨ez,eA,b3⟩:=bg.get (D+1) aa;obtain⟨row,cg,dw,fW,qE,jE,jW⟩:=KU b3 am;obtain⟨aP,bu,r,cd,dU,gg⟩:=jW p.toNat (by rw[g.ms];omega);have tU:cS O 3 (h.push [aU]) (.ptr aO 0 (2+p.toNat*5+2))=o (.agg r):=by rw[fL,cg];exact cd
   have bV:∀q,dO ad (o (4,5)) (.ptr aO 0 2) (.int q p)=o (.ptr aO 0 (2+p.toNat*5)):=λq=>by obtain⟨m,rfl⟩:=lE kC;rw[mE];exact adu q (by omega)
   have f2:b5 2 (.ptr aO 0 0)=o (.ptr aO 0 2):=rfl;have avz:∀k,b5 2 (.ptr aO 0 k)=o (.ptr aO 0 (k+2)):=λ_=>rfl;have qf:(H.S.kept.getD p.toNat cv).code=0:=uO g.st.qK _;have eJ:(H.S.kept.getD p.toNat cv).size<=100000:=by have:=(xp qf).1;omega
   obtain⟨bj,bt,bq⟩:=RI _ _ (b4 _) eJ r (h.push [aU]) dU;obtain⟨bR,cY,gC⟩:=E6 bq;obtain⟨eD,fR⟩:=dU.cD;obtain⟨hl,lS⟩:=bq.cD;rw[if_pos rfl];refine⟨bR,?_,gC⟩;have pw:c7 (.agg bj)=o (.agg bR):=by simp only[c7,cY,hF]
   refine a2 adg rfl ?_;unfold R1;simp only[ak,aq,ar,al,qj,aH,d',dA,ft,vg,f2,avz,bV,tU,bt,hl,lS];exact dI (aB.push h _) pw
def uh:List iR->List (List E)->Prop
 |[],es=>es=[]
 |x::xs,es=>∃m ms rs,es=eE x m::rs/\fo fp m ms/\gE x.m ms/\uh xs rs
theorem uh.len:∀{xs:List iR} {es:List (List E)},uh xs es->es.length=xs.length
 |[],es,h=>by simp only[uh]at h;subst h;rfl
 |x::xs,es,h=>by obtain⟨m,ms,rs,rfl,_,_,R⟩:=h;simp[R.len]
theorem uh.get:∀{xs:List iR} {es:List (List E)} {i:Nat} {x:iR},uh xs es->xs[i]? =o x->∃m ms,es[i]? =o (eE x m)/\fo fp m ms/\gE x.m ms
 |[],es,i,x,h,af=>by simp at af
 |y::xs,es,i,x,h,af=>by
   obtain⟨m,ms,rs,rfl,J,R,ah⟩:=h;cases i with
   |zero=>
    obtain rfl:y=x:=by simpa using af
    exact⟨m,ms,rfl,J,R⟩
   |succ i=>exact ah.get (by simpa using af)
def Dw(xs:List iR)(cZ:Nat):Bool:=(xs.take cZ).any (λx=>rq x.m)||decide (cZ<xs.length)
theorem avA{cZ:Nat}(h:Dw xs cZ=T):xs.length<=cZ/\∀x∈xs,x.m.length<=100000/\∀e∈x.m,e.size<=100000:=by
 unfold Dw at h;simp only[Bool.or_eq_false_iff,decide_eq_false_iff_not,Nat.not_lt]at h;obtain⟨J,R⟩:=h;rw[List.take_of_length_le R]at J;refine⟨R,λx aw=>?_⟩;have a8:rq x.m=T:=by
  cases a8:rq x.m with
  |false=>rfl
  |true=>have:xs.any (λx=>rq x.m)=O:=List.any_eq_true.2 ⟨x,aw,a8⟩;rw[this]at J;cases J
 obtain⟨bM,bL⟩:=aoX a8;exact⟨by omega,λe he=>by have:=bL e he;omega⟩
theorem avB{bF:E}{rows:List (List E)}(aC:fo Ha bF rows)(am:uh xs rows)(rg:xs.length<=9223372036854775807){cZ:Nat}(hm:cZ<=1000)(K:List i'):∀(d k:Nat) (F:ag) (du b7:E),k+d=cZ->aB h F->(((xs.take cZ).drop k).any (λx=>rq x.m)=O->∃V,bB (aQ ap W) 6 (.e' x4::.bP []::.cm 0::K) [bF,.int j (cZ:Int),.bool T,.int j (k:Int),du,b7] [] F=o (.ret,V,F)/\V.getD 2 .az= .bool O)/\(((xs.take cZ).drop k).any (λx=>rq x.m)=T->∃ht gH fI,bB (aQ ap W) 6 (.e' x4::.bP []::.cm 0::K) [bF,.int j (cZ:Int),.bool T,.int j (k:Int),du,b7] [] F=bB (aQ ap W) 6 K [bF,.int j (cZ:Int),.bool T,ht,gH,fI] [] F):=by
 have oj:=am.len;have end_:∀(k:Nat) (F:ag) (du b7:E),(xs.length<=k\/cZ<=k)->∃ht gH fI,bB (aQ ap W) 6 (.e' x4::.bP []::.cm 0::K) [bF,.int j (cZ:Int),.bool T,.int j (k:Int),du,b7] [] F=bB (aQ ap W) 6 K [bF,.int j (cZ:Int),.bool T,ht,gH,fI] [] F:=by
  intro k F du b7 Z;by_cases J:k<xs.length
  ·have d1:decide ((k:Int)<(xs.length:Int))=O:=decide_eq_true (by omega);have d2:decide ((k:Int)<(cZ:Int))=T:=decide_eq_false (by omega);refine⟨.int j (k:Int),.bool T,b7,?_⟩;rw[cV x4.eq_1];simp only[ak,aq,ar,al,cb,aC.ed.len,aC.ed.fits,oj,d1,d2]
  ·have d1:decide ((k:Int)<(xs.length:Int))=T:=decide_eq_false (by omega);refine⟨.int j (k:Int),.bool T,b7,?_⟩;rw[cV x4.eq_1];simp only[ak,aq,ar,al,cb,aC.ed.len,aC.ed.fits,oj,d1]
 intro d;induction d with
 |zero=>intro k F du b7 Z a8;refine⟨λh=>?_,λ_=>end_ k F du b7 (.inr (by omega))⟩;rw[List.drop_eq_nil_of_le (by simp;omega)]at h;cases h
 |succ d aZ=>
   intro k F du b7 Z a8;by_cases J:k<xs.length
   ·have d1:decide ((k:Int)<(xs.length:Int))=O:=decide_eq_true (by omega);have d2:decide ((k:Int)<(cZ:Int))=O:=decide_eq_true (by omega);have aw:xs[k]? =o xs[k]:=fr J;have sl:k<(xs.take cZ).length:=by simp;omega
    have avC:(xs.take cZ).drop k=xs[k]::(xs.take cZ).drop (k+1):=by rw[va sl];simp
    rw[avC,List.any_cons];generalize xs[k]=x at aw;obtain⟨m,ms,bM,de,fv⟩:=am.get aw;have bV:=aC.ed.bV j k _ bM;have kg:∀h,iP h m x.m:=λh=>iP.of de fv;have pA:=aop (h:=F) m x.m (kg F);have axW:=(kg F).one;have f8:b5 8 (.ip (eE x m) 0)=o (.ip (eE x m) 8):=rfl;have lm:gO O 1 (eE x m) 8=o (.agg [m]):=rfl;have w:=eL (n:=(k:Int)+1) (by omega) (by omega);obtain⟨i1,gt⟩:=aZ (k+1) F (.bool O) (.bool (rq x.m)) (by omega) a8;have e8:((k+1:Nat):Int)=(k:Int)+1:=by omega
    cases aeS:rq x.m with
    |true=>rw[aeS]at pA;refine⟨λ_=>⟨[bF,.int j (cZ:Int),.bool O,.int j (k:Int),.bool O,.bool O],?_,rfl⟩,λh=>by simp at h⟩;rw[cV x4.eq_1];simp only[ak,aq,ar,al,cb,bJ,aC.ed.len,aC.ed.fits,oj,d1,d2,bV,f8,lm,pA]
    |false=>
      rw[aeS]at pA i1 gt;rw[Bool.false_or];refine⟨λh=>?_,λh=>?_⟩
      ·obtain⟨V,bH,bR⟩:=i1 h;refine⟨V,?_,bR⟩;rw[<-bH,e8]
       conv=>lhs;rw[cV x4.eq_1]
       simp only[ak,aq,ar,al,cb,bJ,aC.ed.len,aC.ed.fits,oj,d1,d2,bV,f8,lm,pA,w]
      ·obtain⟨ht,gH,fI,bH⟩:=gt h;refine⟨ht,gH,fI,?_⟩;rw[<-bH,e8]
       conv=>lhs;rw[cV x4.eq_1]
       simp only[ak,aq,ar,al,cb,bJ,aC.ed.len,aC.ed.fits,oj,d1,d2,bV,f8,lm,pA,w]
   ·refine⟨λh=>?_,λ_=>end_ k F du b7 (.inl (by omega))⟩;rw[List.drop_eq_nil_of_le (by simp;omega)]at h;cases h
theorem avD{bF:E}{rows:List (List E)}(aC:fo Ha bF rows)(am:uh xs rows)(rg:xs.length<=9223372036854775807)(cZ:Nat)(hm:cZ<=1000):aQ ap W 23 [bF,.int j (cZ:Int)] h=o (.inl (.bool (Dw xs cZ)),h):=by
 obtain⟨i1,gt⟩:=avB (h:=h) aC am rg hm [.bP [.ops [bd,Lz,cW,(.i .l CT),jv],.ret]] cZ 0 h .az .az (hH _) (aB.refl h);rw[List.drop_zero]at i1 gt;simp only[k6]at i1 gt;have oj:=am.len;unfold Dw;cases a8:(xs.take cZ).any (λx=>rq x.m)with
 |true=>obtain⟨V,bH,bR⟩:=i1 a8;refine a2 adq rfl ?_;unfold R3;simp only[ak,aq,ar,al];rw[bH];simp only[ak,bR]
 |false=>
   obtain⟨ht,gH,fI,bH⟩:=gt a8;refine a2 adq rfl ?_;unfold R3;simp only[ak,aq,ar,al];rw[bH];simp only[ak,aC.ed.len,aC.ed.fits,oj];have e:decide ((cZ:Int)<(xs.length:Int))=decide (cZ<xs.length):=by rw[decide_eq_decide];omega
   simp only[e]
end
structure vv(n:Nat)(H:dp):Prop where
 cG:H.Good
 log:H.S.log.length<=2000*n
 a1:∀l∈H.a1,l.length<=1000+n
theorem vv.ok{n:Nat}{H:dp}(I:vv n H)(aE:n<=400):j' H:=⟨I.cG,by have:=I.log;omega,λl am=>by have:=I.a1 l am;omega⟩
theorem vv.step{n:Nat}{H:dp}(I:vv n H)(x:iR):vv (n+1) (H.step x).1:=by
 have s:=I.cG.step x;refine⟨s.cG,by have:=s.log;have:=I.log;omega,λl am=>?_⟩;rcases s.hand l am with J|⟨b2,J,R⟩
 ·omega
 ·have:=I.a1 b2 J;omega
theorem SZ:vv 0 wz:=⟨asY,by simp[wz,Dd],λl am=>by
 have:l=[]:=by simpa[wz]using am
 rw[this];simp⟩
def L7:List bx:=[.mk 13 0 0 [.mk 3 0 0 []]]
def mT:iR:=⟨1,1,0,0,0,0,0,0,L7⟩
def nU:iR:=⟨2,1,0,3,0,1, -1,0,[]⟩
def ut:iR:=⟨4,1,0,0,0,0,0,0,[]⟩
def S0:dp:=(wz.step mT).1
def S1:dp:=(S0.step nU).1
def S2:dp:=(S1.step ut).1
theorem avE:S2.sW 1=[ly 0]:=by rfl
section
variable{h F aj:ag}{ae ai aJ aG:Nat->Prop}{L A B:List b6}{c:rS}{H:dp}
theorem L8(s:aK aj aJ aG h (A++mO c H++B))(I:j' H)(y:iR)(de:fo fp m es)(fv:gE y.m es)(c5:y.m.length<=100000)(aC:∀x∈y.m,x.size<=100000):∃F r,aQ ap W 26 [.ptr c.ab 0 0,.agg (eE y m)] h=o (.inl (.agg r),F)/\ka (H.step y).2 r/\aK aj aJ aG F (A++mO c (H.step y).1++B):=by obtain⟨F,⟨r,e,v⟩,ew⟩:=s.ww (q1:=mO c (H.step y).1) λae ai x=>avc x I y de fv c5 aC;exact⟨F,r,e,v,ew⟩
theorem avF:aQ ap W 22 [] h=o (.inl (.bool O),h):=by
 have gG:aK h (λ_=>False) (λ_=>False) h []:=aK.start (cf.nil _ _ _ (λ_ h=>h) (λ_ h=>h));obtain⟨J,c,au,bg⟩:=aeQ gG;have ch:aB J ((J.fresh 1).fresh 1):=(aB.fresh J 1).trans (aB.fresh _ 1);have aV:=bg.hb ch;have b3:gE L7 [[.int j 13,.int j 0,.int j 0,.b0 (o J.ids) fp [[.int j 3,.int j 0,.int j 0,.aA]]]]:=⟨_,_,rfl,⟨_,_,rfl,.inr ⟨_,rfl⟩,⟨_,[],rfl,⟨_,_,rfl,.inl ⟨rfl,rfl⟩,rfl⟩,rfl⟩⟩,rfl⟩;have cg:∀x∈L7,x.size<=100000:=λx aw=>by
  have:x= .mk 13 0 0 [.mk 3 0 0 []]:=by simpa[L7]using aw
  rw[this];decide
 obtain⟨ah,hz,bc,hB,br⟩:=L8 (A:=[]) (B:=[]) (c:=c) aV (SZ.ok (by decide)) mT (m:=.b0 (o (J.ids+1)) fp [[.int j 13,.int j 0,.int j 0,.b0 (o J.ids) fp [[.int j 3,.int j 0,.int j 0,.aA]]]]) (.inr ⟨_,rfl⟩) b3 (by decide) cg;obtain⟨de,rfl,ht⟩:=hB;have bz:=br.push [cP 0 0 de];have bt:vv 1 S0:=SZ.step mT;obtain⟨bo,hD,cU,b7,b8⟩:=L8 (A:=[aY ah.n [cP 0 0 de]]) (B:=[]) (c:=c) (H:=S0) bz (bt.ok (by decide)) nU (m:=.aA) (.inl ⟨rfl,rfl⟩) rfl (by decide) (λx aw=>by cases aw);obtain⟨n2,rfl,fI⟩:=b7;have cM:=b8.push [cP 0 0 n2];have bq:vv 2 S1:=bt.step nU;obtain⟨c4,qg,km,eB,eM⟩:=L8 (A:=[aY bo.n [cP 0 0 n2],aY ah.n [cP 0 0 de]]) (B:=[]) (c:=c) (H:=S1) cM (bq.ok (by decide)) ut (m:=.aA) (.inl ⟨rfl,rfl⟩) rfl (by decide) (λx aw=>by cases aw);obtain⟨Dv,rfl,l2⟩:=eB;have g8:aK h (λ_=>False) (λ_=>False) _ (aY c4.n [cP 0 2 Dv]::aY bo.n [cP 0 0 n2]::aY ah.n [cP 0 0 de]::mO c S2):=eM.push [cP 0 2 Dv];have dW:vv 3 S2:=bq.step ut;have cp:=(g8.cell 0 rfl).1;have aP:=(g8.cell 1 rfl).1;have bu:=(g8.cell 2 rfl).1;obtain⟨U,ke,oo,sx,p'⟩:=aeR g8 3 rfl dW.cG.a1 (λl am=>by have:=dW.a1 l am;omega) 1;rw[avE]at p';have hlen:ke.length=1:=p'.len;have vM:=sx.ed.len;have xD:=sx.ed.fits;rw[hlen]at vM;have avG:bT (ly 0) n2:=fI;have avH:bT (lx 0) Dv:=l2;obtain⟨xb,rfl,avI⟩:=ht.iQ;obtain⟨zA,rfl,BC⟩:=avG.iQ;obtain⟨sk,rfl,avJ⟩:=avH.iQ;have bc:aQ ap W 26 [.ptr c.ab 0 0,.agg [.int j 1,.int j 1,.int j 0,.int j 0,.int j 0,.int j 0,.int j 0,.int j 0,.b0 (o (J.ids+1)) fp [[.int j 13,.int j 0,.int j 0,.b0 (o J.ids) fp [[.int j 3,.int j 0,.int j 0,.aA]]]]]] ((J.fresh 1).fresh 1)=o (.inl (.agg [.int j 0,.int j 0,.int j 0,.int j 0,xb]),ah):=bc;have cU:aQ ap W 26 [.ptr c.ab 0 0,.agg [.int j 2,.int j 1,.int j 0,.int j 3,.int j 0,.int j 1,.int j (-1),.int j 0,.aA]] (ah.push [[.int j 0,.int j 0,.int j 0,.int j 0,xb]])=o (.inl (.agg [.int j 0,.int j 0,.int j 4,.int j 0,zA]),bo):=cU;have km:aQ ap W 26 [.ptr c.ab 0 0,.agg [.int j 4,.int j 1,.int j 0,.int j 0,.int j 0,.int j 0,.int j 0,.int j 0,.aA]] (bo.push [[.int j 0,.int j 0,.int j 4,.int j 0,zA]])=o (.inl (.agg [.int j 0,.int j 2,.int j 1,.int j 0,sk]),c4):=km;have Sq:=g8.acT;have cp:(c4.push [[.int j 0,.int j 2,.int j 1,.int j 0,sk]]).cell c4.n=o [[.int j 0,.int j 2,.int j 1,.int j 0,sk]]:=cp;have aP:(c4.push [[.int j 0,.int j 2,.int j 1,.int j 0,sk]]).cell bo.n=o [[.int j 0,.int j 0,.int j 4,.int j 0,zA]]:=aP;have bu:(c4.push [[.int j 0,.int j 2,.int j 1,.int j 0,sk]]).cell ah.n=o [[.int j 0,.int j 0,.int j 0,.int j 0,xb]]:=bu;have oo:aQ ap W 28 [.ptr c.ab 0 0,.int j 1] (c4.push [[.int j 0,.int j 2,.int j 1,.int j 0,sk]])=_:=oo;clear bg aV br bz b8 cM eM g8;refine a2 as2 rfl ?_;unfold adi;simp only[ak,aq,ar,al,bW,au,bc,avI,BC,avJ,cU,km,cp,aP,bu,oo,vM,xD,eq_self];exact dI Sq rfl
end
structure aeT where
 (bI cell dn:Int)
structure avK where
 H:dp
 axX:List aeT
 axY:List (Int×Int)
 (code at_ n:Int)
section
variable{h F aj:ag}{ae ai aJ aG:Nat->Prop}{L:List b6}{c:rS}{H:dp}
theorem avL{l:List av}(am:∀v∈l,∃n:Int,v=ly n/\0<=n):∀x∈l,∀(y:av) (q ek:List E) (h:ag),bT x q->bT y ek->aQ ap W 19 [.agg q,.agg ek] h=o (.inl (.bool (rr x y)),h):=by intro x aw y q ek h aW nq;obtain⟨n,rfl,_⟩:=am x aw;exact Ko _ (ly n) (b4 _) (RS n) y q ek h aW nq
theorem avM(g:H.Good)(p:Int):∀v∈H.sW p,∃n:Int,v=ly n/\0<=n:=by
 unfold dp.sW;split
 ·exact g.hand
 ·intro v U;cases U
theorem avN(I:j' H)(p:Int):(H.sW p).length<=90000:=by
 unfold dp.sW;split
 ·unfold dp.hand;by_cases aH:p.toNat<H.a1.length
  ·rw[dz,fr aH];exact I.a1 _ (iX aH)
  ·rw[dz,o3 (by omega)];simp
 ·simp
theorem avO(g:H.Good)(p:Int):(H.vu p).code=0:=by
 unfold dp.vu;split
 ·exact uO g.st.qK _
 ·exact vW
section
variable{bF axZ:E}{aw jW kt ab7:Nat}{aC aT:List E}
end
end
section
variable{h F aj:ag}{ae ai aJ aG:Nat->Prop}{L:List b6}{c:rS}{H:dp}
theorem aeU{log:List nA}:∀r∈log.map g0,r.all E.one=O/\r.all uG=O:=λr ao=>by obtain⟨e,_,rfl⟩:=o8.1 ao;exact⟨rfl,rfl⟩
theorem avP(id:Option Nat)(rows:List (List E))(bl:∀r∈rows,r.all E.one=O/\r.all uG=O)(am:rows.length<=1000000):aQ ap W 52 [.b0 id hP rows] h=o (.inl (.b0 ad hP rows),h):=by
 refine a2 Yf rfl ?_;unfold Py;have au:eU T hP (.b0 (o h.ids) hP []) (.b0 id hP rows) (h.fresh 0)=o (.b0 (o h.ids) hP rows,if rows.length=0 then h.fresh 0 else(h.fresh 0).grow h.ids rows.length):=by
  simp only[eU,iT,if_true,c2];by_cases aN:rows.length=0
  ·simp[sY,pR.1 aN]
  ·rw[if_neg aN,if_neg aN];unfold jX;rw[if_pos ⟨by omega,by omega,by rw[jq];exact λr ao=>(bl r ao).1⟩];simp[Ij]
 have a8:aB h (if rows.length=0 then h.fresh 0 else(h.fresh 0).grow h.ids rows.length):=by
  split
  ·exact aB.fresh h 0
  ·exact(aB.fresh h 0).grow (b4 _)
 have hw:c7 (.b0 (o h.ids) hP rows)=o (.b0 ad hP rows):=by simp only[c7,Aa λr ao=>(bl r ao).2,hF]
 simp only[ak,aq,ar,al,au,dI a8 hw]
theorem avQ:aQ ap W 52 [.aA] h=o (.inl .aA,h):=by refine a2 Yf rfl ?_;unfold Py;simp only[ak,aq,ar,al];exact dI (aB.refl h) rfl
theorem avR(s:aK aj aJ aG h L)(i:Nat){cr:Nat}{cells:List Int}{log:List nA}(af:L[i]? =o (h3 cr cells log))(an:cells.length=12)(aE:log.length<=1000000):aQ ap W 17 [.ptr cr 0 0] h=o (.inl (i2 hP (log.map g0)),h):=by
 obtain⟨ae,ai,x⟩:=s.get i af;obtain⟨v,bg⟩:=KV x;have avS:=(bg.cell 0 rfl).1;have avT:=(Gb (v:=v) an (D:=0) (by decide)).2.1;have i6:∀n,cS T n h (.ptr cr 0 12)=o v:=λn=>by rw[fL,avS];exact avT
 have f12:b5 12 (.ptr cr 0 0)=o (.ptr cr 0 12):=rfl;obtain⟨ez,eA,b3⟩:=bg.get 1 rfl;rcases b3 with⟨⟨au,rfl⟩,_⟩|⟨id,⟨au,rfl⟩,_⟩
 ·rw[au];refine a2 Ye rfl ?_;unfold Px;simp only[ak,aq,ar,al,f12,i6,avQ];exact dI (aB.refl h) rfl
 ·have kV:=avP (h:=h) (o id) (log.map g0) aeU (by simpa using aE);have hw:c7 (.b0 ad hP (log.map g0))=o (i2 hP (log.map g0)):=by simp only[c7,Aa λr ao=>(aeU r ao).2,hF,i2,if_neg au]
  refine a2 Ye rfl ?_;unfold Px;simp only[ak,aq,ar,al,f12,i6,kV,dI (aB.refl h) hw]
theorem avU(s:aK aj aJ aG h L)(i:Nat){cr:Nat}{cells:List Int}{log:List nA}(af:L[i]? =o (h3 cr cells log))(an:cells.length=12):aQ ap W 21 [.ptr cr 0 0] h=o (.inl (.b0 ad ob (cells.map λx=>[.int j x])),h):=by obtain⟨ae,ai,x⟩:=s.get i af;obtain⟨v,bg⟩:=KV x;exact apr (bg.cell 0 rfl).1 an
structure aeV(h:ag)(c:rS)(H:dp):Prop where
 vg:cS T 1 h (.ptr c.ab 0 0)=o (.ptr c.aO 0 0)
 avV:cS T 1 h (.ptr c.aO 0 0)=o (.ptr c.ck 0 0)
 lw:cS T 1 h (.ptr c.aO 0 1)=o (.ptr c.cr 0 0)
 no:aQ ap W 15 [.ptr c.ck 0 0] h=o (.inl (i2 iN (H.S.G.nodes.map cQ)),h)
 ce:aQ ap W 21 [.ptr c.cr 0 0] h=o (.inl (.b0 ad ob (H.S.cells.map λx=>[.int j x])),h)
 ih:aQ ap W 17 [.ptr c.cr 0 0] h=o (.inl (i2 hP (H.S.log.map g0)),h)
theorem avW(s:aK aj aJ aG h L)(i:Nat)(I:j' H)(J:L[i]? =o (d9 c.ab c.aO H.a1))(R:L[i+1]? =o (hQ c.aO c.ck c.cr H.ms H.S.kept))(ah:L[i+1+1]? =o (bi c.ck H.S.G))(aD:L[i+1+1+1]? =o (h3 c.cr H.S.cells H.S.log)):aeV h c H:=by obtain⟨bA,U⟩:=wB s i J;have aeW:=K0 s R I.len;obtain⟨ae,ai,g⟩:=s.get _ ah;exact⟨U.box 1,aeW.1 1,aeW.2 1,alS g I.cG.st.wf,avU s _ aD I.cG.st.cells,avR s _ aD I.cG.st.cells (by have:=I.log;omega)⟩
variable{bF:E}{qE jE ax0:Nat}{aC aT:List E}
end
structure avX extends rS where
 wt:Nat
section
variable{h F aj:ag}{ae ai aJ aG:Nat->Prop}{L:List b6}{b ab:Nat}{yV:List aeT}{ax1:List (Int×Int)}{iv at_ n:Int}
end
theorem avY:(ap).underlying 72=o (.slice 82):=by kernel_rfl
theorem avZ:E5 ap 82=o [3,3,3,3,3,3,3,2,80]:=by kernel_rfl
theorem av0:(ap).underlying 2=o (.int j):=by kernel_rfl
theorem av1{α:Type}{l:List α}(h:l.length=9):∃a b c d e f g i D,l=[a,b,c,d,e,f,g,i,D]:=by
 match l,h with
 |[a,b,c,d,e,f,g,i,D],_=>exact⟨a,b,c,d,e,f,g,i,D,rfl⟩
theorem av2{n:Nat}{r:List E}(h:m8 ap n 82 r):∃(x:iR) (m:E) (ms:List (List E)),r=eE x m/\fo fp m ms/\gE x.m ms:=by obtain⟨c3,rfl,parts,rfl,am,bl⟩:=Pe avZ h;obtain⟨d',ja,_,hR⟩:=bl 0 _ rfl;obtain⟨dA,aR,_,cg⟩:=bl 1 _ rfl;obtain⟨ft,a5,_,dw⟩:=bl 2 _ rfl;obtain⟨iM,bp,_,fW⟩:=bl 3 _ rfl;obtain⟨kZ,cA,_,qE⟩:=bl 4 _ rfl;obtain⟨w',et,_,jE⟩:=bl 5 _ rfl;obtain⟨hp,i3,_,jW⟩:=bl 6 _ rfl;obtain⟨hq,tv,_,kt⟩:=bl 7 _ rfl;obtain⟨BZ,uU,_,Rt⟩:=bl 8 _ rfl;obtain⟨ss,rfl,_⟩:=uW Bm hR;obtain⟨eD,rfl,_⟩:=uW Bm cg;obtain⟨fR,rfl,_⟩:=uW Bm dw;obtain⟨hl,rfl,_⟩:=uW Bm fW;obtain⟨lS,rfl,_⟩:=uW Bm qE;obtain⟨kj,rfl,_⟩:=uW Bm jE;obtain⟨nc,rfl,_⟩:=uW Bm jW;obtain⟨By,rfl,_⟩:=uW av0 kt;obtain⟨M,v,es,rfl,U,j9⟩:=aof Rt;obtain⟨cp,aP,bu,cd,dU,gg,ic,jI,arV,rfl⟩:=av1 am;obtain rfl:=kx ja;obtain rfl:=kx aR;obtain rfl:=kx a5;obtain rfl:=kx bp;obtain rfl:=kx cA;obtain rfl:=kx et;obtain rfl:=kx i3;obtain rfl:=kx tv;obtain rfl:=kx uU;exact⟨⟨ss,eD,fR,hl,lS,kj,nc,By,M⟩,v,es,by simp only[List.flatten_cons,List.flatten_nil,n3,m3,lQ];rfl,U,j9⟩
theorem aeX:∀{es:List (List E)},(∀r∈es,∃(x:iR) (m:E) (ms:List (List E)),r=eE x m/\fo fp m ms/\gE x.m ms)->∃xs,uh xs es
 |[],_=>⟨[],rfl⟩
 |r::es,h=>by obtain⟨x,m,ms,rfl,J,R⟩:=h r (by simp);obtain⟨xs,aw⟩:=aeX λq aW=>h q (List.mem_cons_of_mem _ aW);exact⟨x::xs,m,ms,es,rfl,J,R,aw⟩
theorem av3{n:Nat}{yZ:E}(h:m8 ap n 72 [yZ]):∃(es:List (List E)) (xs:List iR),fo Ha yZ es/\uh xs es/\xs.length<=9223372036854775807:=by
 obtain⟨m,v,es,rfl,e,U,hlen,ao⟩:=Pd avY h;obtain rfl:yZ=v:=by simpa using e
 obtain⟨xs,aw⟩:=aeX (es:=es) λr hG=>av2 (ao r hG).2;refine⟨es,xs,U.Cy,aw,?_⟩;rw[<-aw.len];unfold maxLen at hlen;omega
def aeY:List a6:=[3,2,109,78,80,82,72]
theorem av4:Pa ap aeY=O:=by kernel_rfl
abbrev aeZ:=List (iR×nN)
section
variable{d:aeZ}{own:Int->Int}
end
section
variable{d:aeZ}{own:Int->Int}{H:dp}
end
def L9:List be:=[.ops [.i (.v 2) (.box 5 (.v 0)),.i (.v 3) (.box 5 (.v 1)),Jk],.ops [rF,aM,qR,aM,Y8,cl,P5,oM,Y9,Cn,Y',Co,cl,Za,.g (.l 1) O .l Sj,Zb,.g (.l 3) O .l Sj,.g (.l 4) O .l (.call (.c (.fn 19 [] [])) [.l 2,.l 0]),Co,jl],.ret]
theorem S3:cq ap W 13 2 5 [0,1,2,3,4] L9 [(.v 4)] O:=by refine⟨_,_,Tryz.func13,rfl,rfl,?_,?_,?_,?_,?_⟩<;>kernel_rfl
def L':List be:=[.ops [cR,bd,S4,IU],.cond (.v 5) [] [.exit 0],.block 1 [.ops [bd,cR,ae0,lC,cW,cR,ae0,lC,.i (.v 6) (.yy .agg (o [.int j,.int j,.int j,.int j]) T .neq (.l 4) (.l 0))],.cond (.v 6) [mg,.ret] []],yQ]
def ae1:List be:=[mg,.ops [bd,S4,cW,S4,IV],.cond (.v 4) [mg,.ret] [],p8,.block 0 [.loop L'],yR,.ret]
theorem av5:cq ap W 16 2 7 [0,1,4,5,10,14,25] ae1 [(.v 2)] O:=by refine⟨_,_,Tryz.func16,rfl,rfl,?_,?_,?_,?_,?_⟩<;>kernel_rfl
section
variable{h F aj:ag}{ae ai aJ aG:Nat->Prop}{L:List b6}{c:avX}{dC:avK}
theorem av6{a b:nN}{r s:List E}(ao:ka a r)(aC:ka b s)(aN:a.v.size<=100000):aQ ap W 13 [.agg r,.agg s] h=o (.inl (.bool (decide (a.code=b.code)&&(decide (a.fuel=b.fuel)&&rr a.v b.v))),h):=by
 obtain⟨bM,rfl,cY⟩:=ao;obtain⟨bL,rfl,gC⟩:=aC;have dm:=λh=>Ko _ a.v (b4 _) aN b.v bM bL h cY gC;obtain⟨jr,rfl,bt⟩:=cY.iQ;obtain⟨jR,rfl,bq⟩:=gC.iQ;have cK:gO O 3 (cP a.code a.fuel [.int j a.v.kind,.int j a.v.n,jr]) 2=o (.agg [.int j a.v.kind,.int j a.v.n,jr]):=rfl;have cX:gO O 3 (cP b.code b.fuel [.int j b.v.kind,.int j b.v.n,jR]) 2=o (.agg [.int j b.v.kind,.int j b.v.n,jR]):=rfl;have ch:∀x y,aB h ((h.push x).push y):=λx y=>(aB.push _ _).trans (aB.push _ _);simp only[cP]at cK cX ⊢;cases d1:decide (a.code=b.code)with
 |false=>refine a2 S3 rfl ?_;unfold L9;simp only[ak,aq,ar,al,bt,bq,d1];exact dI (ch _ _) rfl
 |true=>
   cases d2:decide (a.fuel=b.fuel)with
   |false=>refine a2 S3 rfl ?_;unfold L9;simp only[ak,aq,ar,al,bt,bq,d1,d2];exact dI (ch _ _) rfl
   |true=>refine a2 S3 rfl ?_;unfold L9;simp only[ak,aq,ar,al,bJ,bt,bq,d1,d2,cK,cX,dm];exact dI (ch _ _) rfl
end
section
variable{h F aj:ag}{ae ai aJ aG:Nat->Prop}{L:List b6}
theorem av7(n:nA):pH [.int j,.int j,.int j,.int j] (g0 n) (g0 n)=o O:=by unfold g0;simp only[pH,if_true,hF,pZ,beq_self_eq_true]
theorem av8(n:nA)(eI:jP)(gQ:Bool):oG eI (o [.int j,.int j,.int j,.int j]) gQ .neq (.agg (g0 n)) (.agg (g0 n))=o (.bool T):=by simp only[oG,c2,av7,hF,Bool.not_true]
theorem av9{es:List nA}{v w:E}(U:hn hP v (es.map g0))(hw:hn hP w (es.map g0))(am:es.length<=1000000):aQ ap W 16 [v,w] h=o (.inl (.bool O),h):=by
 have e':∀(l pre:List nA) (du b7 dd:E),es=pre++l->∃ht fI jm,∀K,bB (aQ ap W) 7 (.e' L'::.bP []::.cm 0::K) [v,w,.bool T,.int j (pre.length:Int),du,b7,dd] [] h=bB (aQ ap W) 7 K [v,w,.bool T,ht,du,fI,jm] [] h:=by
  intro l;induction l with
  |nil=>intro pre du b7 dd e;have d1:decide ((pre.length:Int)<(es.length:Int))=T:=decide_eq_false (by rw[e];simp);refine⟨.int j (pre.length:Int),.bool T,dd,λK=>?_⟩;rw[cV L'.eq_1];simp only[ak,aq,ar,al,cb,U.len,U.fits,fa,d1]
  |cons x l aZ=>
    intro pre du b7 dd e;have jZ:pre.length<es.length:=by rw[e];simp
    have d1:decide ((pre.length:Int)<(es.length:Int))=O:=decide_eq_true (by omega);have bV:=U.bV j pre.length (g0 x) (by rw[e];simp);have Nn:=hw.bV j pre.length (g0 x) (by rw[e];simp);have mq:gO O 4 (g0 x) 0=o (.agg (g0 x)):=gX rfl;have cY:=eL (n:=(pre.length:Int)+1) (by omega) (by omega);have e8:((pre++[x]).length:Int)=(pre.length:Int)+1:=by simp
    obtain⟨ht,fI,jm,r⟩:=aZ (pre++[x]) du (.bool O) (.bool T) (by simp[e]);refine⟨ht,fI,jm,λK=>?_⟩;rw[<-r K,e8]
    conv=>lhs;rw[cV L'.eq_1]
    simp only[ak,aq,ar,al,cb,U.len,U.fits,fa,d1,bV,Nn,mq,av8,cY]
 obtain⟨ht,fI,jm,r⟩:=e' es [] (.bool T) .az .az rfl;have aW:decide ((es.length:Int)=(es.length:Int))=O:=decide_eq_true rfl;simp only[gf,k6]at r;refine a2 av5 rfl ?_;unfold ae1;simp only[ak,aq,ar,al,U.len,U.fits,hw.len,hw.fits,fa];rw[r];simp only[ak]
end
section
variable{h F aj:ag}{ae ai aJ aG:Nat->Prop}{L:List b6}
theorem av'{v:E}{b:Nat}{cs:List Int}(U:hn ob v (cs.map λx=>[.int j x]))(ab:h.cell b=o (cs.map λx=>[.int j x]))(am:cs.length<=1000000)(K:List i'):∀(l pre:List Int) (du b7 dd:E),cs=pre++l->∃ht fI jm,bB (aQ ap W) 7 (.e' ii::.bP []::.cm 0::K) [v,.bn b 0 cs.length ob,.bool T,.int j (pre.length:Int),du,b7,dd] [] h=bB (aQ ap W) 7 K [v,.bn b 0 cs.length ob,.bool T,ht,du,fI,jm] [] h:=by
 intro l;induction l with
 |nil=>intro pre du b7 dd e;have d1:decide ((pre.length:Int)<(cs.length:Int))=T:=decide_eq_false (by rw[e];simp);refine⟨.int j (pre.length:Int),.bool T,dd,?_⟩;rw[cV ii.eq_1];simp only[ak,aq,ar,al,cb,U.len,U.fits,fa,d1]
 |cons x l aZ=>
   intro pre du b7 dd e;have d1:decide ((pre.length:Int)<(cs.length:Int))=O:=decide_eq_true (by rw[e];simp;omega);have aw:(cs.map λx=>[E.int j x])[pre.length]? =o [.int j x]:=by rw[e];simp
   have i1:=U.bV j pre.length _ aw;have jZ:pre.length<cs.length:=by rw[e];simp
   have gt:dO (o ob) ad (.bn b 0 cs.length ob) (.int j (pre.length:Int))=o (.ptr b pre.length 0):=by rw[vO rfl jZ,hH]
   have cX:cS T 1 h (.ptr b pre.length 0)=o (.int j x):=by rw[fL,ab,c2,aw];rfl
   have cY:=eL (n:=(pre.length:Int)+1) (by omega) (by omega);have e8:((pre++[x]).length:Int)=(pre.length:Int)+1:=by simp
   obtain⟨ht,fI,jm,bH⟩:=aZ (pre++[x]) du (.bool O) (.bool T) (by simp[e]);refine⟨ht,fI,jm,?_⟩;rw[<-bH,e8]
   conv=>lhs;rw[cV ii.eq_1]
   simp only[ak,aq,ar,al,cb,U.len,U.fits,fa,d1,i1,gt,cX,eq_self,cY]
theorem awa{v:E}{b:Nat}{cs:List Int}(U:hn ob v (cs.map λx=>[.int j x]))(ab:h.cell b=o (cs.map λx=>[.int j x]))(am:cs.length<=1000000):aQ ap W 20 [v,.bn b 0 cs.length ob] h=o (.inl (.bool O),h):=by obtain⟨ht,fI,jm,bH⟩:=av' (h:=h) U ab am [.bP [.ops [Jc],.ret]] cs [] (.bool T) .az .az rfl;simp only[gf,k6]at bH;have d1:decide ((cs.length:Int)=(cs.length:Int))=O:=decide_eq_true rfl;refine a2 amD rfl ?_;unfold Yh;simp only[ak,aq,ar,al,U.len,U.fits,fa];rw[bH];simp only[ak]
end
section
variable{h F aj:ag}{ae ai aJ aG:Nat->Prop}{L:List b6}{c:hL}{ms:dj}{S:bK}{a1:List (List av)}{ku:asR}
theorem awb(s:aK aj aJ aG h L)(i:Nat)(af:L[i]? =o (jM c ms S a1))(aD:ms.length=4)(dx:S.kept.length=4):∃bF dk U,l6 h c bF dk U ms/\c8 S.kept dk/\hn hP bF (S.log.map g0)/\h.cell c.ku=o (S.cells.map λx=>[.int j x]):=by obtain⟨ae,ai,x⟩:=s.get i af;obtain⟨bF,dk,U,f,Z,_,_,bg,_⟩:=Bq x aD dx;obtain⟨ez,eA,g⟩:=bg.get 2 rfl;exact⟨bF,dk,U,f,Z,(aeD g).ed,(bg.cell 1 rfl).1⟩
theorem awc{G:a0}{b:Nat}(g:eX h ae ai b G):∃aL,(∀n,cS T n h (.ptr b 0 0)=o aL)/\hn iN aL (G.nodes.map cQ):=by
 obtain⟨aL,dm,an,a8,_⟩:=g.ex;refine⟨aL,λn=>by rw[fL,an];rfl,?_⟩;rcases a8 with⟨e,rfl⟩|⟨id,_,_,_,_,rfl⟩
 ·rw[e];exact Ik _
 ·exact En _ _ _
end
section
variable{h F aj:ag}{ae ai aJ aG:Nat->Prop}{L A B:List b6}{c:rS}{gr:hL}{H:dp}
theorem awd{v:E}{l:List av}(x:(h4 v l).A h ae ai):oh h v l:=by
 have U:=LB x;refine⟨U.len,U.fits,U.one,λi y bE=>?_⟩;obtain⟨rows,am,x⟩:=x;have hlen:=am.len;rcases x with⟨⟨rfl,rfl⟩,_⟩|⟨⟨b,es⟩,⟨rfl,J,R⟩,_,_,ab,an⟩
 ·have:=pR.1 hlen.symm;subst this;simp at bE
 ·simp only at J R ab an;obtain⟨r,bM,bL⟩:=am.get bE;have af:i<rows.length:=(fQ.1 bM).1;refine⟨.ptr b (0+i) 0,r,vO rfl af,λF g=>?_,bL⟩;have ah:(es.take rows.length)[i]? =o r:=by rw[<-R];exact bM
  rw[List.getElem?_take,if_pos af]at ah;rw[fL,g.cell b ab,an,c2,hH,ah,c2];exact gX bL.cD.1
theorem awe(l b2:List av)(v w:E)(U:∀h,oh h v l)(hw:oh h w b2)(am:l.length<=100000)(an:∀x∈l,∀(y:av) (q ek:List E) (h:ag),bT x q->bT y ek->aQ ap W 19 [.agg q,.agg ek] h=o (.inl (.bool (rr x y)),h)):aQ ap W 30 [v,w] h=o (.inl (.bool (n7 l b2)),h):=by
 have p':=(U h).len;have mm:=(U h).fits;have qT:=hw.len;have wf:=hw.fits;cases a7:decide ((l.length:Int)=(b2.length:Int))
 ·rw[U' a7];refine l0 J5 rfl λQ cy=>?_;unfold FK;simp only[ak,aq,ar,al,p',mm,qT,wf,a7];exact cy _ _ _ rfl (by repeat (first|exact aB.refl _|refine aB.trans ?_ (aB.push _ _)|refine aB.trans ?_ (aB.fresh _ _))) rfl
 ·have oj:l.length=b2.length:=by have:=of_decide_eq_true a7;omega
  refine l0 J5 rfl λQ cy=>?_;unfold FK;simp only[ak,aq,ar,al,p',mm,qT,wf,a7];refine oe (λi V F=>∃du b7 dd,V=[v,w,.bool T,.int j (i:Nat),du,b7,dd]/\aB h F/\n7 (l.drop i) (b2.drop i)=n7 l b2) l.length ⟨_,_,_,rfl,aB.refl _,rfl⟩ ?_ ?_
  ·rintro i V F af ⟨du,b7,dd,rfl,g,aC⟩ next
   have bf:(i:Int)<(l.length:Int):=by omega
   have Qg:=eL (n:=(i:Int)+1) (by omega) (by omega);obtain⟨x,aw⟩:=qS af;obtain⟨y,bE⟩:=qS (l:=b2) (i:=i) (by omega);obtain⟨a,q,i1,gt,b3⟩:=(U F).bV i x aw;obtain⟨b,ek,gm,fA,fs⟩:=(hw.hb g).bV i y bE;have au:=an x (nb aw) y q ek F b3 fs;rw[ZF aw bE]at aC;cases ab:rr x y
   ·rw[ab]at au aC;rw[Bool.false_and]at aC;rw[cV AN.eq_1];simp only[ak,aq,ar,al,cb,p',mm,bf,i1,gt _ (aB.refl F),gm,fA _ (aB.refl F),au];exact cy _ _ _ rfl g (by rw[<-aC];rfl)
   ·rw[ab]at au aC;rw[Bool.true_and]at aC;rw[cV AN.eq_1];simp only[ak,aq,ar,al,cb,p',mm,bf,i1,gt _ (aB.refl F),gm,fA _ (aB.refl F),au,Qg];exact next _ _ ⟨_,_,_,rfl,g,aC⟩
  ·rintro V F ⟨du,b7,dd,rfl,g,aC⟩;have bf:¬((l.length:Int)<(l.length:Int)):=by omega
   rw[sw,oj,sw]at aC;rw[cV AN.eq_1];simp only[ak,aq,ar,al,cb,p',mm,bf];exact cy _ _ _ rfl g (by rw[<-aC];rfl)
theorem awf(s:aK aj aJ aG h L)(i:Nat){ms:dj}{S:bK}{a1:List (List av)}(af:L[i]? =o (jM gr ms S a1))(aD:ms.length=4)(dx:S.kept.length=4)(bC:a1.length=4){D:Nat}(aa:D<4):∃w,(∀n,cS T n h (.ptr gr.ab 0 (19+D))=o w)/\oh h w (a1.getD D []):=by
 obtain⟨ae,ai,x⟩:=s.get i af;obtain⟨bF,dk,U,f,Z,hm,am,t,_⟩:=Bq x aD dx;obtain⟨w,hw,aN⟩:=Df am (p:=D) (by omega);have sO:(iy ng gr.jn ms).length=4:=by simp[hm,aD]
 obtain⟨ez,eA,c9⟩:=t.get (3+(4+D)) (X:=h4 w (a1.getD D [])) (by rw[show 3+(4+D)=(4+D)+1+1+1 by omega,pS,pS,pS,mx (by rw[sO];omega),sO,Nat.add_sub_cancel_left];exact aN);refine⟨w,λn=>?_,awd c9⟩;rw[fL,f.cell,c2,mY,c2,gi,(LP f.dP f.dx f.eb D).1,hw]
theorem awg(s:aK aj aJ aG h (hV gr H.ms H.S H.a1++B))(I:j' H)(y:iR)(de:fo fp m es)(fv:gE y.m es)(c5:y.m.length<=100000)(aC:∀x∈y.m,x.size<=100000):∃F Ma r,aQ ap W SY [.ptr gr.ab 0 0,.agg (eE y m)] h=o (.inl (.agg r),F)/\ka (H.step y).2 r/\Ma.ab=gr.ab/\aK aj aJ aG F (hV Ma (H.step y).1.ms (H.step y).1.S (H.step y).1.a1++B):=by
 obtain⟨F,⟨r,e,v⟩,bg⟩:=aK.ww (A:=[]) (B:=B) (M:=hV gr H.ms H.S H.a1) (q1:=[uM λej:hL=>xn (ej.ab=gr.ab) (cf (hV ej (H.step y).1.ms (H.step y).1.S (H.step y).1.a1))]) (cF:=λF=>∃r,aQ ap W SY [.ptr gr.ab 0 0,.agg (eE y m)] h=o (.inl (.agg r),F)/\ka (H.step y).2 r) s λae ai x=>by obtain⟨F,ej,r,au,ax,bc,bY,cU⟩:=avt x I de fv c5 aC;exact⟨F,⟨r,au,ax⟩,gw.imp (λ_ _ _ z=>cf.one ⟨ej,bc,z⟩) cU⟩
 obtain⟨ej,q,aV⟩:=bg.cut 0 rfl (Q:=λej:hL=>ej.ab=gr.ab) (M:=λej=>hV ej (H.step y).1.ms (H.step y).1.S (H.step y).1.a1) λae ai x=>by obtain⟨ej,q,z⟩:=x;exact⟨ej,q,z⟩
 exact⟨F,ej,r,e,v,q,aV⟩
abbrev ae2(gr:hL)(c:rS)(H:dp):List b6:=hV gr H.ms H.S H.a1++mO c H
theorem awh{ah:ag}{C2:List b6}(br:aK aj aJ aG ah C2)(x y:List E):aK aj aJ aG ((((ah.push [cP 0 0 aU]).push [cP 0 0 aU]).set ah.n (o [x])).set (ah.n+1) (o [y])) (aY (ah.n+1) [y]::aY ah.n [x]::C2)/\((ah.push [cP 0 0 aU]).push [cP 0 0 aU]).cell ah.n=o [cP 0 0 aU]/\(((ah.push [cP 0 0 aU]).push [cP 0 0 aU]).set ah.n (o [x])).cell (ah.n+1)=o [cP 0 0 aU]:=by have bz:=(br.push [cP 0 0 aU]).push [cP 0 0 aU];have b8:=bz.set 1 rfl [x];exact⟨b8.set 0 rfl [y],(bz.cell 1 rfl).1,(b8.cell 0 rfl).1⟩
theorem awi{bF:E}{rows:List (List E)}(aC:hn Ha bF rows)(am:uh xs rows)(rg:xs.length<=150)(qB:∀x∈xs,x.m.length<=100000/\∀e∈x.m,e.size<=100000){ab:Nat}(fi gJ:E):∀(l pre:List iR) (F:ag) (H:dp) (gr:hL) (b7 dd eB fz hs hS j8 mK:E),xs=pre++l->vv pre.length H->gr.ab=ab->aK aj aJ aG F (ae2 gr c H)->∃gF gH fI jm l2 wI wJ wK wL rJ,(∀K,bB (aQ ap W) 15 (.e' Dj::.bP []::.cm 0::K) [bF,.bool T,.ptr c.ab 0 0,.ptr ab 0 0,.int j (pre.length:Int),b7,dd,eB,fi,gJ,fz,hs,hS,j8,mK] [] F=bB (aQ ap W) 15 K [bF,.bool T,.ptr c.ab 0 0,.ptr ab 0 0,gH,fI,jm,l2,fi,gJ,wI,wJ,wK,wL,rJ] [] gF)/\∃pV,aK aj aJ aG gF pV:=by
 have oj:rows.length=xs.length:=am.len;intro l;induction l with
 |nil=>intro pre F H gr b7 dd eB fz hs hS j8 mK e I q s;have d1:decide ((pre.length:Int)<(xs.length:Int))=T:=decide_eq_false (by rw[e];simp);refine⟨F,.int j (pre.length:Int),b7,dd,eB,.bool T,hs,hS,j8,mK,λK=>?_,_,s⟩;rw[cV Dj.eq_1];simp only[ak,aq,ar,al,cb,aC.len,aC.fits,oj,d1]
 |cons x l aZ=>
   intro pre F H gr b7 dd eB fz hs hS j8 mK e I q s;have jZ:pre.length<xs.length:=by rw[e];simp
   have d1:decide ((pre.length:Int)<(xs.length:Int))=O:=decide_eq_true (by omega);have af:xs[pre.length]? =o x:=by rw[e];simp
   have awj:x∈xs:=by rw[e];simp
   obtain⟨m,ms,aR,de,fv⟩:=am.get af;obtain⟨da,ch⟩:=qB x awj;have bV:=aC.bV j pre.length _ aR;have cY:=eL (n:=(pre.length:Int)+1) (by omega) (by omega);have e8:((pre++[x]).length:Int)=(pre.length:Int)+1:=by simp
   have awk:(pre++[x]).length=pre.length+1:=by simp
   have zg:gO O 9 (eE x m) 0=o (.agg (eE x m)):=rfl;have S5:(eE x m)[1]? =o (.int j x.p):=rfl;have bt:j' H:=I.ok (by omega);obtain⟨R,bH,ax,cn,aV⟩:=L8 (A:=hV gr H.ms H.S H.a1) (B:=[]) (c:=c) s bt x de fv da ch;have aV:aK aj aJ aG R (hV gr H.ms H.S H.a1++mO c (H.step x).1):=aV;obtain⟨aD,Ma,bR,bY,du,ek,bz⟩:=awg aV bt x de fv da ch;rw[q]at bY ek;have S6:vv (pre.length+1) (H.step x).1:=I.step x;have eH:=(I.cG.step x).size;generalize bS:H.step x=Q at*;obtain⟨nP,ax2⟩:=Q;simp only at ax cn bz bY du S6 eH;have bq:j' nP:=S6.ok (by omega);obtain⟨t1,t2⟩:=cn.all;obtain⟨jr,jR⟩:=du.all;obtain⟨cM,eD,fR⟩:=awh bz bH bR;generalize qe:(((aD.push [cP 0 0 aU]).push [cP 0 0 aU]).set aD.n (o [bH])).set (aD.n+1) (o [bR])=b9 at*;have bM:=(cM.cell 1 rfl).1;have bL:=(cM.cell 0 rfl).1;have cK:=gX t1;have cX:=gX jr;have Mb:=av6 (h:=b9) cn du eH;have ae3:∀z:Int,decide (z=z)=O:=λz=>decide_eq_true rfl;rw[ae3,ae3,Ip]at Mb;have t:aeV b9 c nP:=avW cM 4 bq rfl rfl rfl rfl;obtain⟨aur,aus,aut,f5,LQ,Bk,E1⟩:=awb cM 2 rfl bq.cG.ms bq.cG.st.kept;obtain⟨y2,y3,awl⟩:=cM.get 3 rfl;obtain⟨aL,eN,Ed⟩:=awc awl;have zf:=amj (h:=b9) nP.S.G.nodes nP.S.G.nodes _ _ (uH _ _) Ed (by have:=bq.cG.st.wf.p2;omega);have S7:=av9 (h:=b9) (uH hP (nP.S.log.map g0)) Bk (by have:=bq.log;omega);have Mc:=awa (h:=b9) (En ad ob (nP.S.cells.map λx=>[.int j x])) E1 (by rw[bq.cG.st.cells];omega);rw[bq.cG.st.cells]at Mc;simp only[decide_true]at zf;have f0:∀b,b5 0 (.ptr b 0 0)=o (.ptr b 0 0):=λ_=>rfl;have f1:∀b,b5 1 (.ptr b 0 0)=o (.ptr b 0 1):=λ_=>rfl;have f2:∀b,b5 2 (.ptr b 0 0)=o (.ptr b 0 2):=λ_=>rfl;have Md:=f5.nh (n:=1);have Me:=f5.cells (n:=1);have Mf:=f5.atl (n:=1);rw[ek]at Md Me Mf;have S8:=eN 1;have Cx:=t.vg;have S9:=t.lw;have iB:=t.avV;have pK:=t.ce;have lA:=t.ih;have KR:=t.no;obtain⟨SJ,awm,cE,c6,eb⟩:=aeR cM 4 rfl bq.cG.a1 bq.a1 x.p;obtain⟨hf,dx,gW⟩:=avy (H:=nP) cM 4 5 rfl rfl bq.cG x.p;have ue:=avO bq.cG x.p;have S':(nP.vu x.p).size<=100000:=by have:=(xp ue).1;omega
   have Ta:=c6.ed.len;have ae4:=c6.ed.fits;have oy:=λfI jm l2 wI wJ wK wL rJ=>aZ (pre++[x]) b9 nP Ma fI jm l2 wI wJ wK wL rJ (by simp[e]) (by rw[awk];exact S6) ek cM.drop.drop;cases aH:iS x.p with
   |false=>
     have iY:nP.sW x.p=[]:=by unfold dp.sW;rw[aH];rfl
     have Tb:nP.vu x.p=cv:=by unfold dp.vu;rw[aH];rfl
     rw[iY]at eb;rw[Tb]at gW S';have awn:awm.length=0:=by rw[eb.len];rfl
     rw[awn]at Ta;have je:decide ((0:Int)<((0:Nat):Int))=T:=rfl;have dm:=Ko _ cv (b4 _) S' cv hf aU b9 gW e6;rw[Ip]at dm;unfold iS at aH;by_cases d':x.p<0
     ·have dA:decide (x.p<0)=O:=decide_eq_true d';obtain⟨c4,gH,fI,jm,l2,wI,wJ,wK,wL,rJ,qg,Hb,eM⟩:=oy (.ptr aD.n 0 0) (.ptr (aD.n+1) 0 0) (.int j x.p) (.bool O) (.bool T) (.bool O) (.bool T) mK;refine⟨c4,gH,fI,jm,l2,wI,wJ,wK,wL,rJ,λK=>?_,Hb,eM⟩;rw[<-qg K,e8]
      conv=>lhs;rw[cV Dj.eq_1]
      simp only[ak,aq,ar,al,reduceCtorEq,cb,bJ,aC.len,aC.fits,oj,d1,bV,zg,S5,ax,bY,t1,t2,jr,jR,qe,bM,bL,eD,fR,cK,cX,Mb,f0,f1,f2,Cx,S9,iB,pK,lA,KR,Md,Me,Mf,S8,zf,S7,Mc,cY,dA,cE,Ta,ae4,dx,dm,je]
     ·have dA:decide (x.p<0)=T:=decide_eq_false d';have ft:decide (4<=x.p)=O:=decide_eq_true (by rw[decide_eq_true (show 0<=x.p by omega),Bool.true_and,decide_eq_false_iff_not]at aH;omega);obtain⟨c4,gH,fI,jm,l2,wI,wJ,wK,wL,rJ,qg,Hb,eM⟩:=oy (.ptr aD.n 0 0) (.ptr (aD.n+1) 0 0) (.int j x.p) (.bool O) (.bool T) (.bool O) (.bool T) mK;refine⟨c4,gH,fI,jm,l2,wI,wJ,wK,wL,rJ,λK=>?_,Hb,eM⟩;rw[<-qg K,e8]
      conv=>lhs;rw[cV Dj.eq_1]
      simp only[ak,aq,ar,al,reduceCtorEq,cb,bJ,aC.len,aC.fits,oj,d1,bV,zg,S5,ax,bY,t1,t2,jr,jR,qe,bM,bL,eD,fR,cK,cX,Mb,f0,f1,f2,Cx,S9,iB,pK,lA,KR,Md,Me,Mf,S8,zf,S7,Mc,cY,dA,ft,cE,Ta,ae4,dx,dm,je]
   |true=>
     obtain⟨d',ax3⟩:=tX.1 aH;obtain⟨D,aa⟩:=lE d';have EP:D<4:=by omega
     have ae5:x.p.toNat=D:=by rw[aa];rfl
     have dA:decide (x.p<0)=T:=decide_eq_false (by omega);have ft:decide (4<=x.p)=T:=decide_eq_false (by omega);have iY:nP.sW x.p=nP.a1.getD D []:=by unfold dp.sW dp.hand;rw[aH,ae5];rfl
     have Tb:nP.vu x.p=nP.S.kept.getD D cv:=by unfold dp.vu;rw[aH,ae5];rfl
     have jQ:=avM bq.cG x.p;have hlen:=avN bq x.p;obtain⟨w,lw,ae6⟩:=awf cM 2 rfl bq.cG.ms bq.cG.st.kept bq.cG.a1 EP;rw[<-iY]at ae6;have G':=lw 1;rw[ek]at G';have ae7:=awe (h:=b9) (nP.sW x.p) (nP.sW x.p) SJ w (λh=>oh.of c6 eb) ae6 (by omega) (avL jQ);rw[NO]at ae7;obtain⟨gD,lb,v9⟩:=LQ.get (i:=D) (x:=nP.S.kept.getD D cv) (by rw[dz,fr (by rw[bq.cG.st.kept];exact EP)];rfl);have tU:=f5.Sm lb;rw[ek]at tU;rw[<-Tb]at v9;have dm:=Ko _ (nP.vu x.p) (b4 _) S' (nP.vu x.p) hf gD b9 gW v9;rw[Ip]at dm;have f19:b5 19 (.ptr ab 0 0)=o (.ptr ab 0 19):=rfl;have f7:b5 7 (.ptr ab 0 0)=o (.ptr ab 0 7):=rfl;have awo:∀q:gx,dO ad (o (4,1)) (.ptr ab 0 19) (.int q x.p)=o (.ptr ab 0 (19+D)):=λq=>by rw[aa];simp[dO,EP]
     have awp:∀q:gx,dO ad (o (4,3)) (.ptr ab 0 7) (.int q x.p)=o (.ptr ab 0 (7+D*3)):=λq=>by rw[aa];simp[dO,EP]
     obtain⟨c4,gH,fI,jm,l2,wI,wJ,wK,wL,rJ,qg,Hb,eM⟩:=oy (.ptr aD.n 0 0) (.ptr (aD.n+1) 0 0) (.int j x.p) (.bool O) (.bool T) (.bool T) j8 (.bool T);refine⟨c4,gH,fI,jm,l2,wI,wJ,wK,wL,rJ,λK=>?_,Hb,eM⟩;rw[<-qg K,e8]
     conv=>lhs;rw[cV Dj.eq_1]
     simp only[ak,aq,ar,al,cb,bJ,aC.len,aC.fits,oj,d1,bV,zg,S5,ax,bY,t1,t2,jr,jR,qe,bM,bL,eD,fR,cK,cX,Mb,f0,f1,f2,Cx,S9,iB,pK,lA,KR,Md,Me,Mf,S8,zf,S7,Mc,dA,ft,f19,f7,awo,awp,G',tU,cE,ae7,dx,dm,cY]
theorem awq{bF:E}{rows:List (List E)}(aC:fo Ha bF rows)(am:uh xs rows)(rg:xs.length<=9223372036854775807):aQ ap W 5 [bF] h=o (.inl (.bool O),h):=by
 have gG:aK h (λ_=>False) (λ_=>False) h []:=aK.start (cf.nil _ _ _ (λ_ h=>h) (λ_ h=>h));have Mg:∀h:ag,aQ ap W 23 [bF,.int j 120] h=o (.inl (.bool (Dw xs 120)),h):=λh=>avD (h:=h) aC am rg 120 (by decide);have ab:=λ(h:ag)=>avF (h:=h);cases a8:Dw xs 120 with
 |true=>rw[a8]at Mg;refine a2 adU rfl ?_;unfold Sk;simp only[ak,aq,ar,al,bJ,ab,Mg]
 |false=>
   rw[a8]at Mg;obtain⟨da,ch⟩:=avA a8;obtain⟨R,c,ax,aV⟩:=aeQ gG;obtain⟨ah,gr,bc,br⟩:=ats aV 0;have br:aK h (λ_=>False) (λ_=>False) ah (ae2 gr c wz):=by have br:=br;rw[n3]at br;exact br
   obtain⟨aD,gH,fI,jm,l2,wI,wJ,wK,wL,rJ,jV,GK,bz⟩:=awi aC.ed am (by omega) ch (c:=c) (ab:=gr.ab) (.bool T) (.bool T) xs [] ah wz gr .az .az .az .az .az .az .az .az rfl SZ rfl br;simp only[gf,k6]at jV;have kk:=bz.acT;refine a2 adU rfl ?_;unfold Sk;simp only[ak,aq,ar,al,bJ,ab,Mg,ax,bc];rw[jV];simp only[ak];exact dI kk rfl
end
theorem awr{bF:E}{Tc:b1}(dC:dy)(t0:m8 ap fU 72 [bF])(rm:bX ap (uS dC) rA bF Tc):WW ap 5 #[Tc] dC:=by obtain⟨es,xs,aC,am,rg⟩:=av3 t0;exact al5 (bA:=[Tc]) (awq aC am rg) (dT.cons rm dT.nil)
end Go.Proofs.YtkdbjfncchmmpaaGreat
