/- Events side by side; a watch that runs a script. -/
import Derived.Test.YtkdbjfncchmmpaaGreatMw7
set_option linter.unusedSimpArgs false
set_option linter.unusedVariables false
set_option maxHeartbeats 4000000
set_option maxRecDepth 1000000
open List renaming replicate→ap,getElem?_eq_some_iff→fO,getD→cZ,length_nil→fG,length_map→fM,getElem?_append_right→l1,getElem?_append_left→l0,map_cons→kf,mem_of_getElem?→o6,mem_cons→mJ,length_take→pv,mem_append→qV,map_nil→pt,all_cons→qa,map_append→u5,foldl_cons→u3,mem_singleton→xq
open Nat renaming reduceAdd→ar,reduceSub→av,reduceLeDiff→bY,le_refl→b9,lt_succ_self→sR
open Go.IntKind renaming i64→j,wrap→kw
open Option renaming some→o,none→ag
open Go.Proofs.Tryz renaming prog→aq
open Bool renaming false→U,true→J,or_eq_true→o3
open Int renaming natCast_zero→j'
open Go renaming TypeId→a9,Value→b',World→dO,IntKind→gZ
open BitVec renaming ofInt→lY
namespace Go.Proofs.YtkdbjfncchmmpaaGreat
open Go
variable{r:List F}{v bn:F}{b:Nat}{xs:List fp}{S:List Bool}{p:Int}
abbrev ln:a9:=41
def qK(es:List jr)(rows:List (List F)):Prop:=rows.length=es.length/\∀(i:Nat) (e:jr),es[i]? =o e->∃r,rows[i]? =o r/\jR e r
theorem qK.snoc{es:List jr}{rows:List (List F)}(h:qK es rows){e:jr}(au:jR e r):qK (es++[e]) (rows++[r]):=by
 refine⟨by simp[h.1],λi x af=>?_⟩;by_cases ba:i<es.length
 ·rw[l0 ba]at af;obtain⟨q,I,R⟩:=h.2 i x af;exact⟨q,by rw[l0 (by rw[h.1];exact ba)];exact I,R⟩
 ·rw[l1 (by omega)]at af;have ak:i - es.length=0:=by have:=(fO.1 af).1;simpa using this
  rw[ak]at af;obtain rfl:e=x:=by simpa using af
  exact⟨r,by rw[l1 (by rw[h.1];omega),h.1,ak];rfl,au⟩
theorem qK.take{es:List jr}{rows:List (List F)}(h:qK es rows)(k:Nat):qK (es.take k) (rows.take k):=by
 refine⟨by rw[pv,pv,h.1],λi e af=>?_⟩;rw[List.getElem?_take]at af ⊢;split at af
 ·rename_i ab;rw[if_pos ab];exact h.2 i e af
 ·cases af
theorem mV.take:∀{xs:List fp} {es:List (List F)} (k:Nat),mV xs es->mV (xs.take k) (es.take k)
 |[],es,k,h=>by simp only[mV]at h;subst h;simp[mV]
 |x::xs,es,0,h=>by simp[mV]
 |x::xs,es,k+1,h=>by obtain⟨m,ms,rs,rfl,I,R,aj⟩:=h;exact⟨m,ms,rs.take k,rfl,I,R,aj.take k⟩
theorem amU{e:a9}{rows:List (List F)}(Z:e9 e v rows){k:Nat}(ab:k<=rows.length):∃a',ru v ag (o (.int j (k:Int)))=o a'/\gB e a' (rows.take k):=by
 rcases Z with⟨rfl,rfl⟩|⟨id,rfl⟩
 ·have:k=0:=by simpa using ab
  subst this;exact⟨.aJ,by simp[ru,vS,xd,hX,ti],BY e⟩
 ·refine⟨.b5 ag e (rows.take k),?_,BX _ _ _⟩;have:((k:Int)<=(rows.length:Int)):=by omega
  simp[ru,vS,xd,hX,ti,ab]
theorem amV{h:ai}{ah al:Nat->Prop}{e:a9}{rows:List (List F)}(x:(gc e v rows).A h ah al):e9 e v rows:=by
 rcases x with⟨⟨I,R⟩,_⟩|⟨id,⟨_,R⟩,_⟩
 ·exact .inl ⟨I,R⟩
 ·exact .inr ⟨o id,R⟩
def so:eE->List fp->List jr
 |_,[]=>[]
 |W,x::l=>(W.step x).2.1::so (W.step x).1 l
theorem WG:∀(l:List fp) (W:eE),(so W l).length=l.length
 |[],W=>rfl
 |x::l,W=>by simp[so,WG l]
theorem amW:∀(l:List fp) (W:eE),W.H.Good->∀e∈so W l,e.v.size<=100000
 |[],W,_,e,he=>by cases he
 |x::l,W,g,e,he=>by
   obtain⟨I,R⟩:=Wh W x;have s:=g.step x;rcases mJ.1 he with rfl|he
   ·rw[R];exact s.size
   ·exact amW l _ (by rw[I];exact s.cY) e he
section
variable{h E ak:ai}{ah al aO aL:Nat->Prop}{L:List cc}{c:Bn}{W:eE}
theorem amX{a b:jr}{s:List F}(au:jR a r)(aC:jR b s)(aB:a.v.size<=100000):aU aq aa 13 [.agg r,.agg s] h=o (.inl (.bool (decide (a.code=b.code)&&(decide (a.fuel=b.fuel)&&wh a.v b.v))),h):=by
 obtain⟨bR,rfl,cx⟩:=au;obtain⟨bQ,rfl,gn⟩:=aC;have dS:=λh=>asV _ a.v (b9 _) aB b.v bR bQ h cx gn;obtain⟨jw,rfl,bz⟩:=cx.i7;obtain⟨hD,rfl,bG⟩:=gn.i7;have cD:fZ J 3 (c3 a.code a.fuel [.int j a.v.kind,.int j a.v.n,jw]) 2=o (.agg [.int j a.v.kind,.int j a.v.n,jw]):=rfl;have c9:fZ J 3 (c3 b.code b.fuel [.int j b.v.kind,.int j b.v.n,hD]) 2=o (.agg [.int j b.v.kind,.int j b.v.n,hD]):=rfl;have cf:∀x y,aG h ((h.push x).push y):=λx y=>(aG.push _ _).trans (aG.push _ _);simp only[c3]at cD c9 ⊢;cases d1:decide (a.code=b.code)with
 |false=>refine a4 WC rfl ?_;unfold ON;simp only[ao,ar,av,ap,bz,bG,d1];exact dE (cf _ _) rfl
 |true=>
   cases d2:decide (a.fuel=b.fuel)with
   |false=>refine a4 WC rfl ?_;unfold ON;simp only[ao,ar,av,ap,bz,bG,d1,d2];exact dE (cf _ _) rfl
   |true=>refine a4 WC rfl ?_;unfold ON;simp only[ao,ar,av,ap,bN,bz,bG,d1,d2,cD,c9,dS];exact dE (cf _ _) rfl
theorem aCi{es:List jr}{w:F}{rows rc:List (List F)}(Z:gB ln v rows)(au:qK es rows)(hw:gB ln w rc)(hR:qK es rc)(am:es.length<=1000000)(aB:∀e∈es,e.v.size<=100000):aU aq aa 34 [v,w] h=o (.inl (.bool J),h):=by
 have eM:∀(l pre:List jr) (dL b4 cz:F),es=pre++l->∃iz gs hJ,∀K,bB (aU aq aa) 7 (.eM OO::.bP []::.cu 0::K) [v,w,.bool U,.int j (pre.length:Int),dL,b4,cz] [] h=bB (aU aq aa) 7 K [v,w,.bool U,iz,dL,gs,hJ] [] h:=by
  intro l;induction l with
  |nil=>intro pre dL b4 cz e;have d1:decide ((pre.length:Int)<(es.length:Int))=U:=decide_eq_false (by rw[e];simp);refine⟨.int j (pre.length:Int),.bool U,cz,λK=>?_⟩;rw[cy OO.eq_1];simp only[ao,ar,av,ap,b2,Z.len,Z.fits,au.1,d1]
  |cons x l aR=>
    intro pre dL b4 cz e;have iS:pre.length<es.length:=by rw[e];simp
    have d1:decide ((pre.length:Int)<(es.length:Int))=J:=decide_eq_true (by omega);have af:es[pre.length]? =o x:=by rw[e];simp
    obtain⟨bx,aP,a2⟩:=au.2 _ x af;obtain⟨bL,cg,c0⟩:=hR.2 _ x af;have bJ:=Z.bJ j pre.length _ aP;have q2:=hw.bJ j pre.length _ cg;have Bq:=amX (h:=h) a2 c0 (aB x (o6 af));rw[decide_eq_true rfl,decide_eq_true rfl,Qv]at Bq;have cx:=ew (n:=(pre.length:Int)+1) (by omega) (by omega);have ev:((pre++[x]).length:Int)=(pre.length:Int)+1:=by simp
    obtain⟨bR,rfl,ei⟩:=a2;obtain⟨jw,rfl,bz⟩:=ei.i7;obtain⟨bQ,rfl,fd⟩:=c0;obtain⟨hD,rfl,bG⟩:=fd.i7;have cD:∀u,fZ J 5 (c3 x.code x.fuel [.int j x.v.kind,.int j x.v.n,u]) 0=o (.agg (c3 x.code x.fuel [.int j x.v.kind,.int j x.v.n,u])):=λu=>gA rfl;obtain⟨iz,gs,hJ,r⟩:=aR (pre++[x]) dL (.bool J) (.bool U) (by simp[e]);refine⟨iz,gs,hJ,λK=>?_⟩;rw[<-r K,ev];simp only[c3]at bJ q2 Bq cD
    conv=>lhs;rw[cy OO.eq_1]
    simp only[ao,ar,av,ap,b2,bN,Z.len,Z.fits,au.1,d1,bJ,q2,cD,Bq,cx]
 obtain⟨iz,gs,hJ,r⟩:=eM es [] (.bool U) .aD .aD rfl;have aX:decide ((es.length:Int)=(es.length:Int))=J:=decide_eq_true rfl;simp only[fG,j']at r;refine a4 aCh rfl ?_;unfold amS;simp only[ao,ar,av,ap,Z.len,Z.fits,hw.len,hw.fits,au.1,hR.1];rw[r];simp only[ao]
theorem amY(s:aN ak aO aL h L)(i:Nat){hA:List (List F)}(af:L[i]? =o (gc ln v hA))(au:r.all F.one=J)(am:hA.length<=1000000):∃E a',eH U ln v (.b5 (o h.ids) ln [r]) (h.fresh 1)=o (a',E)/\aN ak aO aL E (L.set i (gc ln a' (hA++[r]))):=by
 obtain⟨E,a',e,ek⟩:=s.tO (cJ:=λI (a':F)=>eH U ln v (.b5 (o h.ids) ln [r]) (h.fresh 1)=o (a',I)) i af (Y:=λa'=>gc ln a' (hA++[r])) λah al x=>by obtain⟨a',I,aP,a2,bl,cr,_,ej⟩:=E2 x au am;exact⟨I,a',aP,cr⟩
 exact⟨E,a',e,ek⟩
theorem aCj{rows:List (List F)}(aC:gB vM bn rows)(am:mV xs rows)(om:xs.length<=150)(mZ:∀x∈xs,x.m.length<=100000/\∀e∈x.m,e.size<=100000){Br:Nat}(cI dz:F):∀(l pre:List fp) (mA:jF) (own:Int->Int) (E:ai) (W:eE) (kk:F) (es:List jr) (hA:List (List F)) (b4 cz c7 gy g5:F),xs=pre++l->es.length=pre.length->qK es hA->oV mA own W.H->FI mA W->w7 pre.length W->aN ak aO aL E (ob c W++[gc ln kk hA,a1 Br [[.int j 0,.int j 0]]])->∃cP xa Jv gs hJ iA jS FF w6,(∀K,bB (aU aq aa) 14 (.eM OP::.bP []::.cu 0::K) [bn,cI,.ptr Br 0 0,.ptr c.wt 0 0,kk,b4,cz,c7,dz,bn,.int j (xs.length:Int),.int j (pre.length:Int),gy,g5] [] E=bB (aU aq aa) 14 K [bn,cI,.ptr Br 0 0,.ptr c.wt 0 0,xa,gs,hJ,iA,dz,bn,.int j (xs.length:Int),jS,FF,w6] [] cP)/\qK (es++so W l) Jv/\∃wx,aN ak aO aL cP (ob c wx++[gc ln xa Jv,a1 Br [[.int j 0,.int j 0]]]):=by
 have jf:=am.len;intro l;induction l with
 |nil=>intro pre mA own E W kk es hA b4 cz c7 gy g5 e wB he a5 hw O s;have d1:decide ((pre.length:Int)<(xs.length:Int))=U:=decide_eq_false (by rw[e];simp);refine⟨E,kk,hA,b4,cz,c7,.int j (pre.length:Int),.bool U,g5,λK=>?_,by simpa[so]using he,W,s⟩;rw[cy OP.eq_1];simp only[ao,ar,av,ap,b2,d1]
 |cons x l aR=>
   intro pre mA own E W kk es hA b4 cz c7 gy g5 e wB he a5 hw O s;have iS:pre.length<xs.length:=by rw[e];simp
   have d1:decide ((pre.length:Int)<(xs.length:Int))=J:=decide_eq_true (by omega);have af:xs[pre.length]? =o x:=by rw[e];simp
   obtain⟨m,ms,bR,da,eS⟩:=am.get af;have bJ:=aC.bJ j pre.length _ bR;obtain⟨cS,cf⟩:=mZ x (o6 af);have cx:=ew (n:=(pre.length:Int)+1) (by omega) (by omega);have ev:((pre++[x]).length:Int)=(pre.length:Int)+1:=by simp
   have Jw:(pre++[x]).length=pre.length+1:=by simp
   have gQ:fZ J 9 (cU x m) 0=o (.agg (cU x m)):=gA rfl;have hm:m.one=J:=(iW.of (h:=E) da eS).one;have bd:=s.push [cU x m];obtain⟨R,bL,ay,b6,aY⟩:=Wk (A:=[a1 E.n [cU x m]]) (B:=[gc ln kk hA,a1 Br [[.int j 0,.int j 0]]]) (c:=c) bd O (by omega) x da eS cS cf;obtain⟨bQ,rfl,gn⟩:=b6;obtain⟨hD,rfl,OQ⟩:=gn.i7;have bG:=O.step x;obtain⟨pO,Cy,oc,lq⟩:=hw.step a5 x;have aCk:jR (W.step x).2.1 (c3 (W.step x).2.1.code (W.step x).2.1.fuel [.int j (W.step x).2.1.v.kind,.int j (W.step x).2.1.v.n,hD]):=⟨_,rfl,gn⟩;have aCl:(c3 (W.step x).2.1.code (W.step x).2.1.fuel [.int j (W.step x).2.1.v.kind,.int j (W.step x).2.1.v.n,hD]).all F.one=J:=by simp only[c3,qa,List.all_nil,OQ];rfl
   rw[Cy]at ay;have aY:aN ak aO aL R (a1 E.n [cU x m]::(ob c (W.step x).1++[gc ln kk hA,a1 Br [[.int j 0,.int j 0]]])):=aY;have aCm:so W (x::l)=(W.step x).2.1::so (W.step x).1 l:=rfl;rw[aCm];generalize (W.step x).1=mc at*;generalize (W.step x).2.1=lo at*;have bs:=(aY.drop.push [c3 lo.code lo.fuel [.int j lo.v.kind,.int j lo.v.n,hD]]).push [[.int j 0,.int j 0]];have aCn:hA.length=pre.length:=by rw[he.1,wB]
   obtain⟨aH,xa,nh,bE⟩:=amY bs 7 rfl aCl (by omega);have bE:aN ak aO aL aH ([a1 (R.push [c3 lo.code lo.fuel [.int j lo.v.kind,.int j lo.v.n,hD]]).n [[.int j 0,.int j 0]],a1 R.n [c3 lo.code lo.fuel [.int j lo.v.kind,.int j lo.v.n,hD]]]++(ob c mc++[gc ln xa (hA++[c3 lo.code lo.fuel [.int j lo.v.kind,.int j lo.v.n,hD]]),a1 Br [[.int j 0,.int j 0]]])):=bE;obtain⟨de,WH,WI,vE,s1,xH,WJ,Jf,Jg,sb,WK,aCo,eW⟩:=aR (pre++[x]) _ oc aH mc xa (es++[lo]) (hA++[c3 lo.code lo.fuel [.int j lo.v.kind,.int j lo.v.n,hD]]) (.ptr E.n 0 0) (.ptr R.n 0 0) (.ptr (R.n+1) 0 0) (.bool J) (.bool U) (by simp[e]) (by simp[wB]) (he.snoc aCk) lq pO (by rw[Jw];exact bG) bE.drop.drop;refine⟨de,WH,WI,vE,s1,xH,WJ,Jf,Jg,λK=>?_,by simpa using WK,aCo,eW⟩;rw[<-sb K,ev];have ll:∀z,(E.push z).cell E.n=o z:=λz=>hb;have e7:∀y z,(E.push y).set E.n (o z)=E.push z:=λy z=>nA;have dB:∀x y z,(((R.push x).push y).set R.n (o z))=(R.push z).push y:=λx y z=>by rw[amk (sR _),nA]
   have gm:∀x y z,(((R.push x).push y).set (R.n+1) (o z))=(R.push x).push z:=λx y z=>nA (h:=R.push x);have iu:∀x y,((R.push x).push y).cell R.n=o x:=λx y=>o9;have kj:∀x y,((R.push x).push y).cell (R.n+1)=o y:=λx y=>uZ;have iY:decide ((0:Int)=0)=J:=rfl;simp only[cU]at bJ gQ ay
   conv=>lhs;rw[cy OP.eq_1]
   simp only[ao,ar,av,ap,b2,bN,d1,bJ,gQ,hm,ll,e7,ay,dB,gm,iu,kj,OQ];simp only[v']at nh;rw[nh];simp only[ao,cx]
theorem aCp{rows:List (List F)}(aC:gB vM bn rows)(am:mV xs rows)(om:xs.length<=150)(mZ:∀x∈xs,x.m.length<=100000/\∀e∈x.m,e.size<=100000):∃E kk hA,aU aq aa 32 [bn] h=o (.inl (.bS [kk,.agg [.int j 0,.int j 0]]),E)/\e9 ln kk hA/\qK (so rp xs) hA/\aG h E:=by have fB:aN h (λ_=>False) (λ_=>False) h []:=aN.start (cm.nil _ _ _ (λ_ h=>h) (λ_ h=>h));have bd:=fB.push [[.int j 0,.int j 0]];obtain⟨R,c,ay,aY⟩:=Wj bd;have bs:aN h (λ_=>False) (λ_=>False) R (gc ln .aJ []::(ob c rp++[a1 h.n [[.int j 0,.int j 0]]])):=aY.add (aG.refl _) OG (λ_ h=>h.elim) (λ_ h=>h.elim);have bE:aN h (λ_=>False) (λ_=>False) R (ob c rp++[gc ln .aJ [],a1 h.n [[.int j 0,.int j 0]]]):=bs.imp λ_ _ _ x=>aN.perm (by have:List.Perm ([gc ln .aJ []]++ob c rp) (ob c rp++[gc ln .aJ []]):=List.perm_append_comm;have:=this.append_right [a1 h.n [[.int j 0,.int j 0]]];simpa using this) x;obtain⟨aj,kk,hA,gs,hJ,iA,jS,FF,w6,gE,he,wx,b3⟩:=aCj aC am om mZ (Br:=h.n) .aJ (.bool U) xs [] [] (λ_=>0) R rp .aJ [] [] .aD .aD .aD .aD .aD rfl rfl ⟨rfl,λi e h=>by simp at h⟩ amI amP OF bE;obtain⟨xK,xL,vs⟩:=b3.get 5 rfl;have tu:=amV vs;have yA:=(b3.cell 6 rfl).1;have pE:=b3.UP;have d1:decide ((200:Int)<(xs.length:Int))=U:=decide_eq_false (by omega);have jf:=am.len;refine⟨aj.set h.n (o [[.int j 0,.int j 0]]),kk,hA,?_,tu,he,pE.set (b9 _)⟩;simp only[fG,j']at gE;refine a4 amT rfl ?_;unfold WE;simp only[ao,ar,av,ap,bY,bN,aC.len,aC.fits,jf,d1,ay];rw[gE];simp only[ao,ar,yA]
end
section
variable{h E ak:ai}{ah al aO aL:Nat->Prop}{L A B:List cc}{c:vC}{hv:iC}{H:dh}
theorem aCq(s:aN ak aO aL h (ia hv H.ms H.S H.a7++B))(O:kK H)(y:fp){m:F}{es:List (List F)}(da:e9 gp m es)(eS:g3 y.m es)(c1:y.m.length<=100000)(aC:∀x∈y.m,x.size<=100000):∃E xb r,aU aq aa VP [.ptr hv.ad 0 0,.agg (cU y m)] h=o (.inl (.agg r),E)/\jR (H.step y).2 r/\xb.ad=hv.ad/\aN ak aO aL E (ia xb (H.step y).1.ms (H.step y).1.S (H.step y).1.a7++B):=by
 obtain⟨E,⟨r,e,v⟩,bd⟩:=aN.wX (A:=[]) (B:=B) (M:=ia hv H.ms H.S H.a7) (rh:=[u0 λeo:iC=>y9 (eo.ad=hv.ad) (cm (ia eo (H.step y).1.ms (H.step y).1.S (H.step y).1.a7))]) (cJ:=λE=>∃r,aU aq aa VP [.ptr hv.ad 0 0,.agg (cU y m)] h=o (.inl (.agg r),E)/\jR (H.step y).2 r) s λah al x=>by obtain⟨E,eo,r,aw,ay,be,b1,c4⟩:=aAv x O da eS c1 aC;exact⟨E,⟨r,aw,ay⟩,gJ.imp (λ_ _ _ z=>cm.one ⟨eo,be,z⟩) c4⟩
 obtain⟨eo,q,aY⟩:=bd.cut 0 rfl (Q:=λeo:iC=>eo.ad=hv.ad) (M:=λeo=>ia eo (H.step y).1.ms (H.step y).1.S (H.step y).1.a7) λah al x=>by obtain⟨eo,q,z⟩:=x;exact⟨eo,q,z⟩
 exact⟨E,eo,r,e,v,q,aY⟩
end
abbrev kM(S:List Bool):List F:=S.map F.bool
theorem WL(cw:S.length=4)(az:fx p=J):(kM S)[p.toNat]? =o (.bool (ic S p)):=by
 have:=nl.1 az;have ba:p.toNat<S.length:=by omega
 simp[ic,cZ,ba]
theorem WM(cw:S.length=4)(az:fx p=J)(h:ai)(b:Nat):KH 1 h b 0 p.toNat [.bool J] [kM S] (o (kM S))=o (h.set b (o [kM (nn S p)])):=by
 have bA:=nl.1 az;unfold nn
 match S,cw with
 |[a,gl,c,d],_=>
   have:p.toNat=0\/p.toNat=1\/p.toNat=2\/p.toNat=3:=by omega
   rcases this with e|e|e|e<;>rw[e]<;>rfl
theorem OR(az:fx p=J)(b:Nat)(q:gZ):dY ag (o (4,1)) (.ptr b 0 0) (.int q p)=o (.ptr b 0 p.toNat):=by have:=nl.1 az;simp[dY,this.1,this.2]
def uw(S:List Bool)(z:fp×jr):List Bool:=if z.1.kind=3/\z.2.code=0 then nP S (z.1.p,z.1.q)else S
theorem WN:∀(d:jF) (S:List Bool),d.foldl uw S=k6 (h3 d) S
 |[],S=>rfl
 |z::d,S=>by
   rw[u3,WN d];unfold uw;by_cases h:z.1.kind=3/\z.2.code=0
   ·rw[if_pos h];have:h3 (z::d)=(z.1.p,z.1.q)::h3 d:=by simp[h3,h.1,h.2]
    rw[this];rfl
   ·rw[if_neg h];have:h3 (z::d)=h3 d:=by unfold h3;rw[List.filter_cons_of_neg];simpa using h
    rw[this]
theorem amZ(d:jF)(S:List Bool):(d.foldl uw S).length=S.length:=by rw[WN,w']
structure vP(d:jF)(fJ cI:F)(rows hA:List (List F)):Prop where
 s:gB vM fJ rows
 st:mV (d.map (·.1)) rows
 e:gB ln cI hA
 kk:qK (d.map (·.2)) hA
 oA:d.length<=1000
 ok:Dw d
section
variable{h E ak:ai}{d:jF}{fJ cI:F}{rows hA:List (List F)}
theorem vP.lC(a:vP d fJ cI rows hA):rows.length=d.length:=by rw[a.st.len,fM]
theorem vP.el(a:vP d fJ cI rows hA):hA.length=d.length:=by rw[a.kk.1,fM]
theorem vP.get(a:vP d fJ cI rows hA){i:Nat}{z:fp×jr}(af:d[i]? =o z):∃m q,m.one=J/\(∀k:gZ,dY (o vM) ag fJ (.int k (i:Int))=o (.ip (cU z.1 m) 0))/\∀k:gZ,dY (o ln) ag cI (.int k (i:Int))=o (.ip (c3 z.2.code z.2.fuel q) 0):=by obtain⟨m,ms,bR,da,eS⟩:=a.st.get (i:=i) (x:=z.1) (by simp[af]);obtain⟨r,aw,q,rfl,_⟩:=a.kk.2 i z.2 (by simp[af]);exact⟨m,q,(iW.of (h:=rZ) da eS).one,λk=>a.s.bJ k i _ bR,λk=>a.e.bJ k i _ aw⟩
theorem aCr(a:vP d fJ cI rows hA)(nu:h.n<=b)(b6 eY b4 dz eD:F):∀(l pre:jF) (E:ai) (S:List Bool) (c7 dU e1:F),d=pre++l->S.length=4->E.cell b=o [kM S]->b<E.n->aG h E->∃cP hJ iA nO jS,(∀K,bB (aU aq aa) 12 (.eM Bm::.bP []::.cu 2::K) [fJ,cI,b6,eY,.ptr b 0 0,b4,.int j (pre.length:Int),c7,dz,eD,dU,e1] [] E=bB (aU aq aa) 12 K [fJ,cI,b6,eY,.ptr b 0 0,b4,hJ,iA,dz,eD,nO,jS] [] cP)/\cP.cell b=o [kM (l.foldl uw S)]/\b<cP.n/\aG h cP/\∀k,k<b->cP.cell k=E.cell k:=by
 intro l;induction l with
 |nil=>intro pre E S c7 dU e1 e cw an ba g;have d1:decide ((pre.length:Int)<(d.length:Int))=U:=decide_eq_false (by rw[e];simp);refine⟨E,.int j (pre.length:Int),c7,.bool U,e1,λK=>?_,an,ba,g,λ_ _=>rfl⟩;rw[cy Bm.eq_1];simp only[ao,ar,av,ap,b2,a.s.len,a.s.fits,a.lC,d1]
 |cons z l aR=>
   intro pre E S c7 dU e1 e cw an ba g;have iS:pre.length<d.length:=by rw[e];simp
   have af:d[pre.length]? =o z:=by rw[e];simp
   have d1:decide ((pre.length:Int)<(d.length:Int))=J:=decide_eq_true (by omega);obtain⟨m,q,hm,bJ,q2⟩:=a.get af;have aB:=a.ok z (o6 af);have cx:=ew (n:=(pre.length:Int)+1) (by have:=a.oA;omega) (by have:=a.oA;omega);have ev:((pre++[z]).length:Int)=(pre.length:Int)+1:=by simp
   have gQ:fZ J 9 (cU z.1 m) 0=o (.agg (cU z.1 m)):=gA rfl;have ll:∀z,(E.push z).cell E.n=o z:=λz=>hb;have e7:∀y z,(E.push y).set E.n (o z)=E.push z:=λy z=>nA;have yu:∀z,(E.push z).cell b=o [kM S]:=λz=>by rw[hp ba];exact an
   have am0:∀y z,((E.push y).set b z).cell E.n=o y:=λy z=>by rw[eN (by omega)];exact hb
   have pl:∀y k,k<b->(E.push y).cell k=E.cell k:=λy k ab=>hp (by omega);by_cases ab:z.1.kind=3/\z.2.code=0
   ·obtain⟨cF,cA⟩:=ab;obtain⟨az,aX⟩:=(aB cA).2 cF;have pM:=WL cw az;have OS:=WL cw aX;have Dx:=OR az b;have WO:=OR aX b;have JJ:=WM cw az;have UN:(nn S z.1.p).length=4:=by rw[Du];exact cw
    have am1:=WM UN aX;have Dy:decide (z.1.kind=3)=J:=decide_eq_true cF;have Jx:decide (z.2.code=0)=J:=decide_eq_true cA;have nK:uw S z=nP S (z.1.p,z.1.q):=by unfold uw;rw[if_pos ⟨cF,cA⟩]
    by_cases ga:(ic S z.1.p||ic S z.1.q)=J
    ·have WQ:uw S z=nn (nn S z.1.p) z.1.q:=by rw[nK];unfold nP;rw[if_pos ga]
     obtain⟨cP,hJ,iA,nO,jS,bx,aW,cD,cS,bz⟩:=aR (pre++[z]) ((E.push [cU z.1 m]).set b (o [kM (nn (nn S z.1.p) z.1.q)])) (nn (nn S z.1.p) z.1.q) (.ptr E.n 0 0) (.bool J) (.bool J) (by simp[e]) (by rw[Du,Du];exact cw) lc (by show b<E.n+1;omega) ((g.trans (aG.push _ _)).set nu);refine⟨cP,hJ,iA,nO,jS,λK=>?_,by rw[u3,WQ];exact aW,cD,cS,λk ab=>by rw[bz k ab,eN (by omega),pl _ _ ab]⟩;rw[<-bx K,ev];simp only[cU]at bJ gQ;cases WR:ic S z.1.p with
     |true=>
       rw[WR]at pM
       conv=>lhs;rw[cy Bm.eq_1]
       simp only[ao,ar,av,ap,b2,a.s.len,a.s.fits,a.lC,a.e.len,a.e.fits,a.el,d1,bJ,q2,gQ,hm,ll,e7,yu,am0,pM,Dx,WO,JJ,am1,Dy,Jx,cx];rfl
     |false=>
       have Aa:ic S z.1.q=J:=by rw[WR]at ga;exact ga
       rw[WR]at pM;rw[Aa]at OS
       conv=>lhs;rw[cy Bm.eq_1]
       simp only[ao,ar,av,ap,b2,a.s.len,a.s.fits,a.lC,a.e.len,a.e.fits,a.el,d1,bJ,q2,gQ,hm,ll,e7,yu,am0,pM,OS,Dx,WO,JJ,am1,Dy,Jx,cx];rfl
    ·have WQ:uw S z=S:=by rw[nK];unfold nP;rw[if_neg ga]
     obtain⟨cP,hJ,iA,nO,jS,bx,aW,cD,cS,bz⟩:=aR (pre++[z]) (E.push [cU z.1 m]) S (.ptr E.n 0 0) (.bool J) (.bool U) (by simp[e]) cw (yu _) (by show b<E.n+1;omega) (g.trans (aG.push _ _));refine⟨cP,hJ,iA,nO,jS,λK=>?_,by rw[u3,WQ];exact aW,cD,cS,λk ab=>by rw[bz k ab,pl _ _ ab]⟩;rw[<-bx K,ev];rw[o3,not_or,Bool.not_eq_true,Bool.not_eq_true]at ga;rw[ga.1]at pM;rw[ga.2]at OS;simp only[cU]at bJ gQ
     conv=>lhs;rw[cy Bm.eq_1]
     simp only[ao,ar,av,ap,b2,a.s.len,a.s.fits,a.lC,a.e.len,a.e.fits,a.el,d1,bJ,q2,gQ,hm,ll,e7,yu,pM,OS,Dx,WO,Dy,Jx,cx];rfl
   ·have nK:uw S z=S:=by unfold uw;rw[if_neg ab]
    obtain⟨cP,hJ,iA,nO,jS,bx,aW,cD,cS,bz⟩:=aR (pre++[z]) (E.push [cU z.1 m]) S (.ptr E.n 0 0) (.bool J) (.bool U) (by simp[e]) cw (yu _) (by show b<E.n+1;omega) (g.trans (aG.push _ _));refine⟨cP,hJ,iA,nO,jS,λK=>?_,by rw[u3,nK];exact aW,cD,cS,λk ab=>by rw[bz k ab,pl _ _ ab]⟩;rw[<-bx K,ev];simp only[cU]at bJ gQ;cases Dy:decide (z.1.kind=3)with
    |false=>
      conv=>lhs;rw[cy Bm.eq_1]
      simp only[ao,ar,av,ap,b2,a.s.len,a.s.fits,a.lC,a.e.len,a.e.fits,a.el,d1,bJ,gQ,hm,ll,e7,Dy,cx];rfl
    |true=>
      have Jx:decide (z.2.code=0)=U:=decide_eq_false λak=>ab ⟨of_decide_eq_true Dy,ak⟩
      conv=>lhs;rw[cy Bm.eq_1]
      simp only[ao,ar,av,ap,b2,a.s.len,a.s.fits,a.lC,a.e.len,a.e.fits,a.el,d1,bJ,q2,gQ,hm,ll,e7,Dy,Jx,cx];rfl
def FJ(d:jF):Nat->List Bool->List Bool
 |0,S=>S
 |k+1,S=>FJ d k (d.foldl uw S)
theorem WS(d:jF):∀(k:Nat) (S:List Bool),(FJ d k S).length=S.length
 |0,S=>rfl
 |k+1,S=>by show(FJ d k (d.foldl uw S)).length=_;rw[WS d k,amZ]
theorem aCs(a:vP d fJ cI rows hA)(nu:h.n<=b)(b6 eY dz:F):∀(k r:Nat) (E:ai) (S:List Bool) (cz c7 eD dU e1:F),r+k=4->S.length=4->E.cell b=o [kM S]->b<E.n->aG h E->∃cP gs hJ iA nf nO jS,(∀K,bB (aU aq aa) 12 (.eM Jd::.bP []::.cu 0::K) [fJ,cI,b6,eY,.ptr b 0 0,.int j (r:Int),cz,c7,dz,eD,dU,e1] [] E=bB (aU aq aa) 12 K [fJ,cI,b6,eY,.ptr b 0 0,gs,hJ,iA,dz,nf,nO,jS] [] cP)/\cP.cell b=o [kM (FJ d k S)]/\b<cP.n/\aG h cP/\∀k,k<b->cP.cell k=E.cell k:=by
 intro k;induction k with
 |zero=>intro r E S cz c7 eD dU e1 au cw an ba g;have d1:decide ((r:Int)<4)=U:=decide_eq_false (by omega);refine⟨E,.int j (r:Int),cz,c7,.bool U,dU,e1,λK=>?_,an,ba,g,λ_ _=>rfl⟩;rw[cy Jd.eq_1];simp only[ao,ar,av,ap,b2,d1]
 |succ k aR=>
   intro r E S cz c7 eD dU e1 au cw an ba g;have d1:decide ((r:Int)<4)=J:=decide_eq_true (by omega);have cx:=ew (n:=(r:Int)+1) (by omega) (by omega);obtain⟨I,s1,xH,AH,WJ,bx,aW,cD,cS,bz⟩:=aCr a nu b6 eY (.int j (r:Int)) dz (.bool J) d [] E S c7 dU e1 rfl cw an ba g;obtain⟨R,vE,r4,yp,VA,aCt,aCu,bL,bD,c9,cf,bG⟩:=aR (r+1) I (d.foldl uw S) s1 xH (.bool J) AH WJ (by omega) (by rw[amZ];exact cw) aW cD cS;refine⟨R,vE,r4,yp,VA,aCt,aCu,λK=>?_,bD,c9,cf,λk ab=>by rw[bG k ab,bz k ab]⟩;have aw:((r+1:Nat):Int)=(r:Int)+1:=by omega
   rw[<-bL K,aw];simp only[fG,j']at bx
   conv=>lhs;rw[cy Jd.eq_1]
   simp only[ao,ar,av,ap,b2,d1];rw[bx];simp only[ao,cx]
theorem WT(d:jF)(p:Int):FJ d 4 (pq p)=np (h3 d) p:=by unfold np;simp only[FJ,WN]
theorem aCv(a:vP d fJ cI rows hA)(p:Int):aU aq aa 75 [fJ,cI,.int j p] h=o (.inl (.agg (kM (np (h3 d) p))),h):=by
 have aX:aG h ((h.push [kM [U,U,U,U]]).push [kM [U,U,U,U]]):=(aG.push _ _).trans (aG.push _ _);have ki:∀(E:ai) (S:List Bool) (dz:F),S=pq p->E.cell (h.n+1)=o [kM S]->h.n+1<E.n->E.cell h.n=o [kM [U,U,U,U]]->aG h E->∃cP gs hJ iA nf nO jS,(∀K,bB (aU aq aa) 12 (.eM Jd::.bP []::.cu 0::K) [fJ,cI,.int j p,.ptr h.n 0 0,.ptr (h.n+1) 0 0,.int j 0,.aD,.aD,dz,.aD,.aD,.aD] [] E=bB (aU aq aa) 12 K [fJ,cI,.int j p,.ptr h.n 0 0,.ptr (h.n+1) 0 0,gs,hJ,iA,dz,nf,nO,jS] [] cP)/\cP.cell (h.n+1)=o [kM (np (h3 d) p)]/\aG h cP/\cP.cell h.n=o [kM [U,U,U,U]]:=λE S dz cw an ba aj g=>by subst cw;obtain⟨cP,gs,hJ,iA,nf,nO,jS,r,c,l,fH,O⟩:=aCs a (h:=h) (b:=h.n+1) (by omega) (.int j p) (.ptr h.n 0 0) dz 4 0 E (pq p) .aD .aD .aD .aD .aD rfl (Jr p) an ba g;exact⟨cP,gs,hJ,iA,nf,nO,jS,r,by rw[<-WT];exact c,fH,by rw[O _ (by omega)];exact aj⟩
 have jf:(np (h3 d) p).length=4:=by rw[<-WT,WS,Jr]
 have h':fZ J 4 (kM (np (h3 d) p)) 0=o (.agg (kM (np (h3 d) p))):=gA (by simp[jf]);have dB:∀x y,((h.push x).push y).cell (h.n+1)=o y:=λx y=>uZ;have en:∀x y,((h.push x).push y).cell h.n=o x:=λx y=>o9;by_cases az:fx p=J
 ·have bA:=nl.1 az;have d1:decide (0<=p)=J:=decide_eq_true bA.1;have d2:decide (p<4)=J:=decide_eq_true bA.2;have ip:=OR az (h.n+1);have st:=WM (S:=[U,U,U,U]) rfl az;have dj:pq p=nn [U,U,U,U] p:=by unfold pq;rw[if_pos az]
  obtain⟨R,gs,hJ,iA,nf,nO,jS,r,c,g,O⟩:=ki ((h.push [kM [U,U,U,U]]).push [kM (nn [U,U,U,U] p)]) _ (.bool J) dj.symm (dB _ _) (by show h.n+1<h.n+1+1;omega) (en _ _) ((aG.push _ _).trans (aG.push _ _));simp only[kM,kf,pt]at st r O dB en;generalize np (h3 d) p=T at*
  match T,jf with
  |[t0,t1,t2,t3],_=>simp only[kM,kf,pt]at c h';refine a4 V1 rfl ?_;unfold Ox;simp only[ao,ar,av,ap,d1,d2,ip,st,dB];rw[r];simp only[ao,ar,c,h',O];exact dE (g.set (by omega)) rfl
 ·have dj:pq p=[U,U,U,U]:=by unfold pq;rw[if_neg az]
  obtain⟨R,gs,hJ,iA,nf,nO,jS,r,c,g,O⟩:=ki ((h.push [kM [U,U,U,U]]).push [kM [U,U,U,U]]) _ (.bool U) dj.symm (dB _ _) (by show h.n+1<h.n+1+1;omega) (en _ _) aX;simp only[kM,kf,pt]at r O dB en;generalize np (h3 d) p=T at*
  match T,jf with
  |[t0,t1,t2,t3],_=>
    simp only[kM,kf,pt]at c h';cases d1:decide (0<=p)with
    |false=>refine a4 V1 rfl ?_;unfold Ox;simp only[ao,ar,av,ap,d1];rw[r];simp only[ao,ar,c,h',O];exact dE (g.set (by omega)) rfl
    |true=>have d2:decide (p<4)=U:=decide_eq_false λaH=>az (nl.2 ⟨of_decide_eq_true d1,aH⟩);refine a4 V1 rfl ?_;unfold Ox;simp only[ao,ar,av,ap,d1,d2];rw[r];simp only[ao,ar,c,h',O];exact dE (g.set (by omega)) rfl
end
def Dz(S:List Bool)(p cell right:Int)(z:fp×jr):Bool:=decide (z.1.kind=2)&&(decide (z.2.code=0)&&(decide (z.1.k=cell)&&(decide (mL z.1.r right=right)&&(ic S z.1.p||decide (z.1.p=p)))))
theorem aCw(d:jF)(p cell right:Int):Dv d p cell right=d.any (Dz (np (h3 d) p) p cell right):=rfl
section
variable{h E ak:ai}{d:jF}{fJ cI:F}{rows hA:List (List F)}
theorem aCx(a:vP d fJ cI rows hA)(cw:S.length=4)(p cell right:Int)(b4:F):∀(l pre:jF) (E:ai) (dz eD dU:F),d=pre++l->E.cell b=o [kM S]->b<E.n->aG h E->∃V cP,(∀K,bB (aU aq aa) 11 (.eM ys::.bP []::.cu 0::(.bP [.ops [Hs],.ret])::K) [fJ,cI,.int j p,.int j cell,.int j right,b4,.ptr b 0 0,.int j (pre.length:Int),dz,eD,dU] [] E=o (.ret,V,cP))/\V.getD 5 .aD= .bool (l.any (Dz S p cell right))/\aG h cP:=by
 intro l;induction l with
 |nil=>intro pre E dz eD dU e an ba g;have d1:decide ((pre.length:Int)<(d.length:Int))=U:=decide_eq_false (by rw[e];simp);refine⟨[fJ,cI,.int j p,.int j cell,.int j right,.bool U,.ptr b 0 0,.int j (pre.length:Int),dz,.bool U,dU],E,λK=>?_,rfl,g⟩;rw[cy ys.eq_1];simp only[ao,ar,av,ap,b2,a.s.len,a.s.fits,a.lC,d1]
 |cons z l aR=>
   intro pre E dz eD dU e an ba g;have iS:pre.length<d.length:=by rw[e];simp
   have af:d[pre.length]? =o z:=by rw[e];simp
   have d1:decide ((pre.length:Int)<(d.length:Int))=J:=decide_eq_true (by omega);obtain⟨m,q,hm,bJ,q2⟩:=a.get af;have aB:=a.ok z (o6 af);have cx:=ew (n:=(pre.length:Int)+1) (by have:=a.oA;omega) (by have:=a.oA;omega);have ev:((pre++[z]).length:Int)=(pre.length:Int)+1:=by simp
   have gQ:fZ J 9 (cU z.1 m) 0=o (.agg (cU z.1 m)):=gA rfl;have ll:∀z,(E.push z).cell E.n=o z:=λz=>hb;have e7:∀y z,(E.push y).set E.n (o z)=E.push z:=λy z=>nA;have yu:∀z,(E.push z).cell b=o [kM S]:=λz=>by rw[hp ba];exact an
   have OT:∀x y:Int,kw j ((lY j.bits x&&& lY j.bits y).toNat:Int)=mL x y:=λx y=>rfl;have cS:aG h (E.push [cU z.1 m]):=g.trans (aG.push _ _);obtain⟨V,cP,bx,bL,cf⟩:=aR (pre++[z]) (E.push [cU z.1 m]) (.ptr E.n 0 0) (.bool J) (.bool U) (by simp[e]) (yu _) (by show b<E.n+1;omega) cS;simp only[cU]at bJ gQ bx cS;rw[ev]at bx;have no:Dz S p cell right z=U->V.getD 5 .aD= .bool ((z::l).any (Dz S p cell right)):=λh=>by rw[bL,List.any_cons,h,Bool.false_or]
   have yes:Dz S p cell right z=J->(.bool J:F)= .bool ((z::l).any (Dz S p cell right)):=λh=>by rw[List.any_cons,h,Bool.true_or]
   unfold Dz at no yes;cases ay:decide (z.1.kind=2)with
   |false=>
     refine⟨V,cP,λK=>?_,no (by rw[ay];rfl),cf⟩;rw[<-bx K]
     conv=>lhs;rw[cy ys.eq_1]
     simp only[ao,ar,av,ap,b2,a.s.len,a.s.fits,a.lC,a.e.len,a.e.fits,a.el,d1,bJ,gQ,hm,ll,e7,ay,cx]
   |true=>
   cases dj:decide (z.2.code=0)with
   |false=>
     refine⟨V,cP,λK=>?_,no (by rw[ay,dj];rfl),cf⟩;rw[<-bx K]
     conv=>lhs;rw[cy ys.eq_1]
     simp only[ao,ar,av,ap,b2,a.s.len,a.s.fits,a.lC,a.e.len,a.e.fits,a.el,d1,bJ,q2,gQ,hm,ll,e7,ay,dj,cx]
   |true=>
   cases j6:decide (z.1.k=cell)with
   |false=>
     refine⟨V,cP,λK=>?_,no (by rw[ay,dj,j6];rfl),cf⟩;rw[<-bx K]
     conv=>lhs;rw[cy ys.eq_1]
     simp only[ao,ar,av,ap,b2,a.s.len,a.s.fits,a.lC,a.e.len,a.e.fits,a.el,d1,bJ,q2,gQ,hm,ll,e7,ay,dj,j6,cx]
   |true=>
   cases qb:decide (mL z.1.r right=right)with
   |false=>
     refine⟨V,cP,λK=>?_,no (by rw[ay,dj,j6,qb];rfl),cf⟩;rw[<-bx K]
     conv=>lhs;rw[cy ys.eq_1]
     simp only[ao,ar,av,ap,b2,a.s.len,a.s.fits,a.lC,a.e.len,a.e.fits,a.el,d1,bJ,q2,gQ,hm,ll,e7,ay,dj,j6,OT,qb,cx]
   |true=>
   have az:=(aB (of_decide_eq_true dj)).1 (of_decide_eq_true ay);have pM:=WL cw az;have Dx:=OR az b;cases CV:ic S z.1.p with
   |true=>
     rw[CV]at pM;refine⟨[fJ,cI,.int j p,.int j cell,.int j right,.bool J,.ptr b 0 0,.int j (pre.length:Int),.ptr E.n 0 0,.bool J,.bool J],_,λK=>?_,yes (by rw[ay,dj,j6,qb,CV];rfl),cS⟩
     conv=>lhs;rw[cy ys.eq_1]
     simp only[ao,ar,av,ap,b2,a.s.len,a.s.fits,a.lC,a.e.len,a.e.fits,a.el,d1,bJ,q2,gQ,hm,ll,e7,yu,ay,dj,j6,OT,qb,pM,Dx,cx]
   |false=>
     rw[CV]at pM;cases eq:decide (z.1.p=p)with
     |true=>
       refine⟨[fJ,cI,.int j p,.int j cell,.int j right,.bool J,.ptr b 0 0,.int j (pre.length:Int),.ptr E.n 0 0,.bool J,.bool J],_,λK=>?_,yes (by rw[ay,dj,j6,qb,CV,eq];rfl),cS⟩
       conv=>lhs;rw[cy ys.eq_1]
       simp only[ao,ar,av,ap,b2,a.s.len,a.s.fits,a.lC,a.e.len,a.e.fits,a.el,d1,bJ,q2,gQ,hm,ll,e7,yu,ay,dj,j6,OT,qb,pM,Dx,eq,cx]
     |false=>
       refine⟨V,cP,λK=>?_,no (by rw[ay,dj,j6,qb,CV,eq];rfl),cf⟩;rw[<-bx K]
       conv=>lhs;rw[cy ys.eq_1]
       simp only[ao,ar,av,ap,b2,a.s.len,a.s.fits,a.lC,a.e.len,a.e.fits,a.el,d1,bJ,q2,gQ,hm,ll,e7,yu,ay,dj,j6,OT,qb,pM,Dx,eq,cx]
theorem aCy(a:vP d fJ cI rows hA)(p cell right:Int):aU aq aa 38 [fJ,cI,.int j p,.int j cell,.int j right] h=o (.inl (.bool (Dv d p cell right)),h):=by
 have s6:=aCv (h:=h) a p;have jf:(np (h3 d) p).length=4:=by rw[<-WT,WS,Jr]
 have m:=λb4=>aCx (h:=h) a jf p cell right b4 (b:=h.n) d [] (h.push [kM (np (h3 d) p)]) .aD .aD .aD rfl hb (sR _) (aG.push _ _);rw[<-aCw]at m;obtain⟨V,cP,bx,bL,g⟩:=m (.bool U);generalize np (h3 d) p=T at*
 match T,jf with
 |[t0,t1,t2,t3],_=>simp only[kM,kf,pt,fG,j']at s6 bx;refine a4 aAZ rfl ?_;unfold alP;simp only[ao,ar,av,ap,bN,s6];rw[bx];simp only[ao,bL];exact dE g rfl
end
def vQ:dh->List fp->List jr
 |_,[]=>[]
 |H,x::l=>(H.step x).2::vQ (H.step x).1 l
theorem Jy:∀(l:List fp) (W:eE),so W l=vQ W.H l
 |[],W=>rfl
 |x::l,W=>by obtain⟨I,R⟩:=Wh W x;simp only[so,vQ,R,Jy l,I]
section
variable{h E ak:ai}{ah al aO aL:Nat->Prop}{L A B:List cc}{H:dh}
theorem aCz{rows:List (List F)}(aC:gB vM bn rows)(am:mV xs rows)(om:xs.length<=150)(mZ:∀x∈xs,x.m.length<=100000/\∀e∈x.m,e.size<=100000){ad:Nat}(cI b6:F):∀(l pre:List fp) (E:ai) (H:dh) (hv:iC) (kk:F) (hA:List (List F)) (es:List jr) (cz:F),xs=pre++l->yr pre.length H->hv.ad=ad->qK es hA->es.length=pre.length->aN ak aO aL E (ia hv H.ms H.S H.a7++gc ln kk hA::B)->∃cP xa Jv gs hJ,(∀K,bB (aU aq aa) 7 (.eM N2::.bP []::.cu 0::K) [bn,cI,b6,.ptr ad 0 0,kk,.int j (pre.length:Int),cz] [] E=bB (aU aq aa) 7 K [bn,cI,b6,.ptr ad 0 0,xa,gs,hJ] [] cP)/\qK (es++vQ H l) Jv/\∃xb k5,aN ak aO aL cP (ia xb (k5:dh).ms k5.S k5.a7++gc ln xa Jv::B):=by
 have jf:rows.length=xs.length:=am.len;intro l;induction l with
 |nil=>intro pre E H hv kk hA es cz e O q he wB s;have d1:decide ((pre.length:Int)<(xs.length:Int))=U:=decide_eq_false (by rw[e];simp);refine⟨E,kk,hA,.int j (pre.length:Int),.bool U,λK=>?_,by simpa[vQ]using he,hv,H,s⟩;rw[cy N2.eq_1];simp only[ao,ar,av,ap,b2,aC.len,aC.fits,jf,d1]
 |cons x l aR=>
   intro pre E H hv kk hA es cz e O q he wB s;have iS:pre.length<xs.length:=by rw[e];simp
   have d1:decide ((pre.length:Int)<(xs.length:Int))=J:=decide_eq_true (by omega);have af:xs[pre.length]? =o x:=by rw[e];simp
   obtain⟨m,ms,aP,da,eS⟩:=am.get af;obtain⟨cS,cf⟩:=mZ x (o6 af);have bJ:=aC.bJ j pre.length _ aP;have cx:=ew (n:=(pre.length:Int)+1) (by omega) (by omega);have ev:((pre++[x]).length:Int)=(pre.length:Int)+1:=by simp
   have Jw:(pre++[x]).length=pre.length+1:=by simp
   have AW:fZ J 9 (cU x m) 0=o (.agg (cU x m)):=rfl;have bz:kK H:=O.ok (by omega);obtain⟨aH,xb,bL,b1,dL,fk,bE⟩:=aCq s bz x da eS cS cf;rw[q]at b1 fk;have am2:yr (pre.length+1) (H.step x).1:=O.step x;have qb:vQ H (x::l)=(H.step x).2::vQ (H.step x).1 l:=rfl;rw[qb];have WU:=dL;obtain⟨bQ,rfl,Wd⟩:=dL;obtain⟨hD,rfl,OQ⟩:=Wd.i7;have aCn:hA.length=pre.length:=by rw[he.1,wB]
   obtain⟨bq,xa,nh,b3⟩:=amY bE 2 rfl WU.all.2 (by omega);have b3:aN ak aO aL bq (ia xb (H.step x).1.ms (H.step x).1.S (H.step x).1.a7++gc ln xa (hA++[c3 (H.step x).2.code (H.step x).2.fuel [.int j (H.step x).2.v.kind,.int j (H.step x).2.v.n,hD]])::B):=b3;generalize H.step x=Q at*;obtain⟨aCA,lo⟩:=Q;simp only at b1 WU am2 nh b3 ⊢;obtain⟨de,WH,WI,gs,hJ,sb,WK,WV,eW⟩:=aR (pre++[x]) bq aCA xb xa _ (es++[lo]) (.bool J) (by simp[e]) (by rw[Jw];exact am2) fk (he.snoc WU) (by simp[wB]) b3;refine⟨de,WH,WI,gs,hJ,λK=>?_,by simpa using WK,WV,eW⟩;rw[<-sb K,ev]
   conv=>lhs;rw[cy N2.eq_1]
   simp only[ao,ar,av,ap,b2,bN,aC.len,aC.fits,jf,d1,bJ,AW,b1,OQ];rw[nh];simp only[ao,cx]
theorem aCB(s:aN ak aO aL h L){rows:List (List F)}(aC:gB vM bn rows)(am:mV xs rows)(om:xs.length<=150)(mZ:∀x∈xs,x.m.length<=100000/\∀e∈x.m,e.size<=100000):∃E kk hA ad,aU aq aa 33 [bn] h=o (.inl (.bS [kk,.ptr ad 0 0]),E)/\e9 ln kk hA/\qK (vQ p0 xs) hA/\∃(xb:iC) (k5:dh),aN ak aO aL E (ia xb k5.ms k5.S k5.a7++gc ln kk hA::L):=by obtain⟨aj,hv,be,bs⟩:=ayy s 0;have bE:=bs.add (aG.refl _) (OG (e:=ln)) (λ_ h=>h.elim) (λ_ h=>h.elim);have b3:aN ak aO aL aj (ia hv p0.ms p0.S p0.a7++gc ln .aJ []::L):=bE.imp λ_ _ _ x=>r2 (λ_ _ _ y=>y) (λ_ _ _ y=>xI y) (xI x);obtain⟨cq,kk,hA,gs,hJ,xM,he,xb,k5,c2⟩:=aCz aC am om mZ (ad:=hv.ad) .aJ .e' xs [] aj p0 hv .aJ [] [] .aD rfl alj rfl ⟨rfl,λi e h=>by simp at h⟩ rfl b3;simp only[fG,j']at xM;obtain⟨xK,xL,vs⟩:=c2.get 2 rfl;refine⟨cq,kk,hA,hv.ad,?_,amV vs,by simpa using he,xb,k5,c2⟩;refine a4 ayk rfl ?_;unfold aj7;simp only[ao,ar,av,ap,bN,be];rw[xM];simp only[ao]
theorem aCC{rows:List (List F)}(aC:gB vM bn rows)(am:mV xs rows)(aF:200<xs.length):aU aq aa 32 [bn] h=o (.inl (.bS [.aJ,.agg [.int j 3,.int j (-1)]]),h.push [[.int j 3,.int j (-1)]]):=by have d1:decide ((200:Int)<(xs.length:Int))=J:=decide_eq_true (by omega);have jf:rows.length=xs.length:=am.len;refine a4 amT rfl ?_;unfold WE;simp only[ao,ar,av,ap,bY,aC.len,aC.fits,jf,d1]
theorem aCD{aj:ai}{E':List cc}(bs:aN ak aO aL aj E')(a b x y:List F):aN ak aO aL ((((aj.push [a]).push [b]).set aj.n (o [x])).set (aj.n+1) (o [y])) (a1 (aj.n+1) [y]::a1 aj.n [x]::E')/\((aj.push [a]).push [b]).cell aj.n=o [a]/\(((aj.push [a]).push [b]).set aj.n (o [x])).cell (aj.n+1)=o [b]:=by have bE:=(bs.push [a]).push [b];have b3:=bE.set 1 rfl [x];exact⟨b3.set 0 rfl [y],(bE.cell 1 rfl).1,(b3.cell 0 rfl).1⟩
theorem aCE{want:F}{rows Jz:List (List F)}(aC:e9 vM bn rows)(am:mV xs rows)(om:xs.length<=150)(mZ:∀x∈xs,x.m.length<=100000/\∀e∈x.m,e.size<=100000)(hw:e9 ln want Jz){ws:List jr}(WW:qK ws Jz){c:Bn}(p cell right:Int)(b4 cz gy g5 j5 ph:F):∀(l pre:List fp) (mA:jF) (own:Int->Int) (E:ai) (W:eE) (dU e1 nJ oL oM:F),xs=pre++l->mA.map (·.1)=pre->ws=mA.map (·.2)++so W l->Dw mA->oV mA own W.H->FI mA W->w7 pre.length W->aN ak aO aL E (ob c W++B)->∃cP nf nO jS pV pW AV,(∀K,bB (aU aq aa) 19 (.eM N3::.bP []::.cu 0::K) [bn,.int j p,.int j cell,.int j right,.bool U,b4,cz,want,.ptr c.wt 0 0,.int j (pre.length:Int),dU,e1,gy,g5,j5,ph,nJ,oL,oM] [] E=bB (aU aq aa) 19 K [bn,.int j p,.int j cell,.int j right,.bool U,b4,cz,want,.ptr c.wt 0 0,nf,nO,jS,gy,g5,j5,ph,pV,pW,AV] [] cP)/\∃q0,aN ak aO aL cP q0:=by
 have jf:rows.length=xs.length:=am.len;intro l;induction l with
 |nil=>intro pre mA own E W dU e1 nJ oL oM e JA n6 F' a5 MI O s;have d1:decide ((pre.length:Int)<(xs.length:Int))=U:=decide_eq_false (by rw[e];simp);refine⟨E,.int j (pre.length:Int),dU,e1,.bool U,oL,oM,λK=>?_,_,s⟩;rw[cy N3.eq_1];simp only[ao,ar,av,ap,b2,aC.dH.len,aC.dH.fits,jf,d1]
 |cons x l aR=>
   intro pre mA own E W dU e1 nJ oL oM e JA n6 F' a5 MI O s;have iS:pre.length<xs.length:=by rw[e];simp
   have d1:decide ((pre.length:Int)<(xs.length:Int))=J:=decide_eq_true (by omega);have af:xs[pre.length]? =o x:=by rw[e];simp
   obtain⟨m,ms,bR,da,eS⟩:=am.get af;obtain⟨cS,cf⟩:=mZ x (o6 af);have bJ:=aC.dH.bJ j pre.length _ bR;have cx:=ew (n:=(pre.length:Int)+1) (by omega) (by omega);have ev:((pre++[x]).length:Int)=(pre.length:Int)+1:=by simp
   have Jw:(pre++[x]).length=pre.length+1:=by simp
   have AW:fZ J 9 (cU x m) 0=o (.agg (cU x m)):=rfl;obtain⟨R,bx,ay,b6,aY⟩:=Wk (A:=[]) (B:=B) (c:=c) s O (by omega) x da eS cS cf;have aY:aN ak aO aL R (ob c (W.step x).1++B):=aY;have bG:w7 (pre.length+1) (W.step x).1:=O.step x;obtain⟨pO,Cy,oc,lq⟩:=MI.step a5 x;obtain⟨aEz,aCF⟩:=Wh W x;have DU:=aCa W.H x;have e4:=(O.h.cY.step x).size;have uR:mA.length=pre.length:=by rw[<-JA,fM]
   rw[<-aCF]at pO lq DU e4;have Iu:ws=(mA++[(x,(W.step x).2.1)]).map (·.2)++so (W.step x).1 l:=by rw[n6];simp[so]
   have aCG:ws[pre.length]? =o (W.step x).2.1:=by rw[n6,l1 (by simp[uR]),fM,uR,Nat.sub_self];rfl
   rw[Cy]at ay;simp only at ay;have WX:Dw (mA++[(x,(W.step x).2.1)]):=λz aB an=>by
    rcases qV.1 aB with h|h
    ·exact F' z h an
    ·simp only[xq]at h;subst h;exact DU an
   have hm:vN (W.step x).1.jE (W.step x).1.bX p cell right=Dv (mA++[(x,(W.step x).2.1)]) p cell right:=by rw[pO.jE,pO.bX];exact aCg WX p cell right
   have aEA:=bG.g;have aEB:=bG.l;generalize (W.step x).1=mc at*;generalize (W.step x).2.1=lo at*;obtain⟨mr,i1,am3⟩:=WW.2 _ _ aCG;obtain⟨t1,t2⟩:=b6.all;obtain⟨jw,hD⟩:=am3.all;have cD:=gA t1;have c9:=gA jw;have aCH:=hw.dH.bJ j pre.length _ i1;obtain⟨c2,ei,fd⟩:=aCD aY (c3 0 0 a3) [.int j 0,.int j 0] bx [.int j 0,.int j 0];generalize s4:(((R.push [c3 0 0 a3]).push [[.int j 0,.int j 0]]).set R.n (o [bx])).set (R.n+1) (o [[.int j 0,.int j 0]])=cq at*;have fU:=(c2.cell 1 rfl).1;have jV:=(c2.cell 0 rfl).1;have Bq:=amX (h:=cq) b6 am3 e4;have am4:∀z:Int,decide (z=z)=J:=λz=>decide_eq_true rfl;rw[am4,am4,Qv]at Bq;have Bo:=Ji c2 2 rfl (by omega) (by omega) p cell right;have aEC:Jz.length=xs.length:=by rw[WW.1,n6,e];simp[WG,uR]
   obtain⟨aCI,am5,aCJ⟩:=amU aC (k:=pre.length+1) (by omega);obtain⟨aCK,am6,aCL⟩:=amU hw (k:=pre.length+1) (by omega);have be:((pre.length+1:Nat):Int)=(pre.length:Int)+1:=by omega
   rw[be]at am5 am6;have a:vP (mA++[(x,lo)]) aCI aCK (rows.take (pre.length+1)) (Jz.take (pre.length+1)):=by
    refine⟨aCJ,?_,aCL,?_,by simp;omega,WX⟩
    ·have:=am.take (pre.length+1);have dj:xs.take (pre.length+1)=(mA++[(x,lo)]).map (·.1):=by rw[e,u5,JA,show pre++x::l=(pre++[x])++l by simp,List.take_left' (by simp)];rfl
     rw[dj]at this;exact this
    ·have:=WW.take (pre.length+1);have dj:ws.take (pre.length+1)=(mA++[(x,lo)]).map (·.2):=by rw[Iu,List.take_left' (by simp[uR])]
     rw[dj]at this;exact this
   have aCM:=aCy (h:=cq) a p cell right;rw[hm]at Bo;generalize Dv (mA++[(x,lo)]) p cell right=am7 at*;have dN:=aC.dH.fits;have FG:=hw.dH.fits;have il:(!(am7==am7))=U:=by simp
   obtain⟨de,nf,nO,jS,pV,pW,AV,sb,WV,eW⟩:=aR (pre++[x]) (mA++[(x,lo)]) oc cq mc (.ptr R.n 0 0) (.ptr (R.n+1) 0 0) (.bool J) (.bool U) (.bool U) (by simp[e]) (by simp[JA]) Iu WX lq pO (by rw[Jw];exact bG) c2.drop.drop;refine⟨de,nf,nO,jS,pV,pW,AV,λK=>?_,WV,eW⟩;rw[<-sb K,ev]
   conv=>lhs;rw[cy N3.eq_1]
   simp only[ao,ar,av,ap,b2,bN,aC.dH.len,aC.dH.fits,jf,d1,bJ,AW,ay,t1,t2,s4,ei,fd,fU,jV,cD,c9,aCH,Bq,cx,am5,am6,FG,Bo,aCM,il]
theorem aCN{rows:List (List F)}(aC:e9 vM bn rows)(am:mV xs rows)(om:xs.length<=9223372036854775807)(p cell right:Int):aU aq aa 6 [bn,.int j p,.int j cell,.int j right] h=o (.inl (.bool J),h):=by
 have fB:aN h (λ_=>False) (λ_=>False) h []:=aN.start (cm.nil _ _ _ (λ_ h=>h) (λ_ h=>h));have JB:∀h:ai,aU aq aa 23 [bn,.int j 120] h=o (.inl (.bool (FC xs 120)),h):=λh=>aAF (h:=h) aC am om 120 (by decide);have ad:=λ(h:ai)=>aBz (h:=h);have jf:rows.length=xs.length:=am.len;cases a5:FC xs 120 with
 |true=>
   rw[a5]at JB;by_cases aF:200<xs.length
   ·have d1:decide ((200:Int)<(xs.length:Int))=J:=decide_eq_true (by omega);have d2:decide ((xs.length:Int)<=200)=U:=decide_eq_false (by omega);have te:=λh=>aCC (h:=h) aC.dH am aF;have mT:∀(H:ai) z,(H.push z).cell H.n=o z:=λH z=>hb;have eG:∀(H:ai) y z,(H.push y).set H.n (o z)=H.push z:=λH y z=>nA;have aCO:rK .agg (o [.int j,.int j]) U .eql (.agg [.int j 3,.int j (-1)]) (.agg [.int j 3,.int j (-1)])=o (.bool J):=by rfl
    have qx:decide (((0:Nat):Int)=0)=J:=rfl;refine a4 Vf rfl ?_;unfold N4;simp only[ao,ar,av,ap,bY,bN,ad,JB,aC.dH.len,aC.dH.fits,jf,d1,d2,te,aCO,qx];exact dE ((aG.push _ _).trans (aG.push _ _)) rfl
   ·have d2:decide ((xs.length:Int)<=200)=J:=decide_eq_true (by omega);refine a4 Vf rfl ?_;unfold N4;simp only[ao,ar,av,ap,bN,ad,JB,aC.dH.len,aC.dH.fits,jf,d2]
 |false=>
   rw[a5]at JB;obtain⟨cS,cf⟩:=aAC a5;have d1:decide ((200:Int)<(xs.length:Int))=U:=decide_eq_false (by omega);obtain⟨R,kk,hA,ay,tu,am8,aCP⟩:=aCp (h:=h) aC.dH am (by omega) cf;have bd:aN h (λ_=>False) (λ_=>False) R []:=fB.h1 aCP;have aY:aN h (λ_=>False) (λ_=>False) (R.push [[.int j 0,.int j 0]]) [a1 R.n [[.int j 0,.int j 0]]]:=bd.push [[.int j 0,.int j 0]];obtain⟨aj,want,Jz,yF,be,hw,am9,aED,e2,bs⟩:=aCB aY aC.dH am (by omega) cf;have cl:=(bs.cell 3 rfl).1;have aCQ:qK (vQ p0 xs) hA:=by rw[Jy]at am8;exact am8
   have Bq:=aCi (h:=aj) tu.dH aCQ hw.dH am9 (by
    have:(vQ p0 xs).length=xs.length:=by rw[show vQ p0 xs=so rp xs from(Jy xs rp).symm,WG]
    omega) (λe he=>amW xs rp UQ e (by rw[Jy];exact he))
   obtain⟨aH,c,b1,bE⟩:=Wj bs;obtain⟨bq,nf,nO,jS,pV,pW,AV,hW,aEE,b3⟩:=aCE aC am (by omega) cf hw (ws:=vQ p0 xs) am9 (c:=c) p cell right kk (.ptr R.n 0 0) (.bool U) (.bool U) (.bool U) (.bool U) xs [] [] (λ_=>0) aH rp .aD .aD .aD .aD .aD rfl rfl (by rw[Jy];rfl) (λz aB=>by cases aB) amI amP OF bE;simp only[fG,j']at hW;have pE:=b3.UP;have mT:∀(H:ai) z,(H.push z).cell H.n=o z:=λH z=>hb;have eG:∀(H:ai) y z,(H.push y).set H.n (o z)=H.push z:=λH y z=>nA;refine a4 Vf rfl ?_;unfold N4;simp only[ao,ar,av,ap,bY,bN,ad,JB,aC.dH.len,aC.dH.fits,jf,d1,ay,mT,eG,be,cl,Bq,b1];rw[hW];simp only[ao];exact dE pE rfl
end
theorem aCR{fY:Nat}{WY:b'}(p cell right:Int)(W:dO)(t0:n1 aq fY 72 [bn])(sD:b8 aq (wy W) rZ bn WY)(_:zj p)(_:zj cell)(_:zj right):adn aq 6 #[WY,.int j p,.int j cell,.int j right] W:=by obtain⟨es,xs,aC,am,om⟩:=aBK t0;exact ard (bI:=[WY,.int j p,.int j cell,.int j right]) (aCN aC am om p cell right) (eb.cons sD (eb.cons (RG p) (eb.cons (RG cell) (eb.cons (RG right) eb.nil))))
end Go.Proofs.YtkdbjfncchmmpaaGreat
