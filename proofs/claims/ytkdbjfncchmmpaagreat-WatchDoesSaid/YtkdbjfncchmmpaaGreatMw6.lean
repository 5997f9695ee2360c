/- One step of the machine. -/
import Derived.Test.YtkdbjfncchmmpaaGreatMw5
set_option linter.unusedSimpArgs false
set_option linter.unusedVariables false
set_option maxHeartbeats 4000000
set_option maxRecDepth 1000000
open List renaming replicate→ap,getElem?_eq_some_iff→fO,getElem?_eq_getElem→fT,length_append→fz,length_singleton→hj,getD→cZ,length_nil→fG,length_map→fM,length_cons→ho,getElem?_append_right→l1,getElem_mem→jl,getElem?_append_left→l0,all_eq_true→jW,append_assoc→kS,zipWith→jh,getElem?_eq_none→mE,mem_range→kD,map_cons→kf,getElem?_cons_zero→oq,nil_append→l3,range→jG,mem_of_getElem?→o6,cons_append→nz,mem_cons→mJ,append_nil→ou,getElem?_set→pR,length_take→pv,length_eq_zero_iff→sy,getElem?_cons_succ→sz,mem_append→qV,map_nil→pt,all_cons→qa,getD_cons_zero→ua,getElem?_set_ne→uP,map_append→u5,set_cons_zero→we,mem_singleton→xq,getElem?_map→xl
open Nat renaming reduceAdd→ar,reduceSub→av,reduceLeDiff→bY,le_refl→b9,lt_of_lt_of_le→fS,le_trans→e6,zero_add→ir,lt_or_ge→oj,lt_succ_self→sR,le_of_eq→qU,reduceLT→vi
open Go.IntKind renaming i64→j,wrap→kw
open Option renaming some→o,none→ag,bind_some→du,map_some→i3,getD_some→qT
open Go.Proofs.Tryz renaming prog→aq
open Bool renaming false→U,true→J,and_eq_true→gv,false_eq_true→mF,and_true→rN
open Int renaming reduceEq→cN,natCast_zero→j',eq_ofNat_of_zero_le→ni,toNat_natCast→m9
open Go renaming TypeId→a9,Oper→bm,Program→c',Value→b',FuncId→di,World→dO,IntKind→gZ,Frame→g',lone→fr,Code→gu
open Option.some renaming injEq→iF,inj→k9
open Prod.mk renaming injEq→kW
open SizeOf renaming sizeOf→lz
open Go.Frame renaming enter→kC
open Go.Region renaming binds→lF
open Classical renaming not_not→rM
open Ne renaming symm→mG
open Iff renaming rfl→n0
namespace Go.Proofs.YtkdbjfncchmmpaaGreat
open Go
variable{cj:gt}{E:ai}{G:aI}{row:List F}
abbrev Uv:a9:=174
abbrev NC:a9:=184
abbrev Bb:di:=50
abbrev Uw:List F:=[.int j 0,.int j 0,.int j 0]
theorem awV{ms:dn}{p f:Int}{L:List bC}{ah:Nat}(c1:ms.getD p.toNat ag=o L)(bo:f=(ah:Int)):mm ms p f=cW (L.getD ah jK) 0++[⟨105,0,0⟩]:=by unfold mm gK hs;rw[c1,bo];rfl
theorem awW{L:List bC}{ah bU:Nat}{x:bv}(bo:ah<L.length)(aF:(cW (L.getD ah jK) 0++[(⟨105,0,0⟩:bv)])[bU]? =o x):∃row bn,(∀q,dY (o Uv) ag (mP L) (.int q (ah:Int))=o (.ip row 0))/\(∀k,fZ U k row 0=o bn)/\(∀q,dY (o NC) ag bn (.int q (bU:Int))=o (.ip (gX x) 0))/\fZ J 3 (gX x) 0=o (.agg (gX x)):=by
 have aw:L[ah]? =o L[ah]:=fT bo;have ay:L.getD ah jK=L[ah]:=by simp[cZ,bo]
 rw[ay]at aF;refine⟨[.b5 ag NC ((cW L[ah] 0++[(⟨105,0,0⟩:bv)]).map gX)],.b5 ag NC ((cW L[ah] 0++[(⟨105,0,0⟩:bv)]).map gX),λq=>?_,λk=>?_,λq=>?_,gA rfl⟩
 ·exact KF (q:=q) rfl (by rw[xl,aw];rfl)
 ·rw[pI];rfl
 ·exact KF (q:=q) rfl (by rw[xl,aF];rfl)
structure Ux(bA:ai)(c:i8)(n:gt)(P ah:Nat)(L:List bC):Prop where
 m:∀k:Nat,cR U k bA (.ptr c.bF 0 0)=o (.ptr c.a0 0 0)
 p:∀k:Nat,cR U k bA (.ptr n.bp n.below.length 0)=o (.int j (P:Int))
 fR:∀k:Nat,cR U k bA (.ptr c.a0 0 (2+P*5+1))=o (mP L)
 f:∀k:Nat,cR U k bA (.ptr n.bp n.below.length 1)=o (.int j (ah:Int))
 bU:∀k:Nat,cR U k bA (.ptr n.bp n.below.length 2)=o (.int j (n.top.bU:Int))
 bJ:∀q:gZ,dY ag (o (4,5)) (.ptr c.a0 0 2) (.int q (P:Int))=o (.ptr c.a0 0 (2+P*5))
section
variable{h E ak:ai}{ah al aO aL:Nat->Prop}{L:List cc}{c:i8}{i:Nat}{n:gt}
theorem Uy(s:aN ak aO aL h L)(a:fh c L i n)(O:iX c n){P K:Nat}{nk:List bC}(gd:n.top.bu=(P:Int))(dJ:n.top.f=(K:Int))(qH:P<4)(c1:c.ms.getD P ag=o nk):Ux h c n P K nk:=by obtain⟨hT,_,_⟩:=sa s a O.len;obtain⟨g2,dS,aZ,g,a8⟩:=qF s i a.m;have jC:=pS n.top g2 dS aZ g a8.aV.cV.1;obtain⟨bJ,fR,_⟩:=Nv s a O qH;rw[c1]at fR;exact⟨hT,λk=>by rw[<-gd];exact a8.rd k 0 _ jC.2.2.2.2.2.1,fR,λk=>by rw[<-dJ];exact a8.rd k 1 _ jC.2.2.2.2.2.2.1,λk=>a8.rd k 2 _ jC.2.2.2.2.2.2.2,bJ⟩
abbrev gt.at(n:gt)(k:Nat):gt:={n with top:={n.top with bU:=k}}
structure aiG(ak:ai)(aO aL:Nat->Prop)(h aj:ai)(c:i8)(L:List cc)(i:Nat)(n:gt)(P K:Nat)(nk:List bC)(x:bv):Prop where
 s:aN ak aO aL aj (a1 (h.n+1) [gX x]::a1 h.n [a3]::put c L i (n.at (n.top.bU+1)))
 a:fh c (a1 (h.n+1) [gX x]::a1 h.n [a3]::put c L i (n.at (n.top.bU+1))) (i+1+1) (n.at (n.top.bU+1))
 O:iX c (n.at (n.top.bU+1))
 ec:aU aq aa L1 [.ptr c.bF 0 0] (h.push [a3])=o (.inl (.ptr n.bp n.below.length 0),h.push [a3])
 aw:Ux (h.push [a3]) c n P K nk
 ay:Ux ((h.push [a3]).push [Uw]) c n P K nk
 be:∀k:Nat,cR U k ((h.push [a3]).push [gX x]) (.ptr n.bp n.below.length 2)=o (.int j (n.top.bU:Int))
 w:kw j ((n.top.bU:Int)+1)=((n.top.bU+1:Nat):Int)
 st:e0 1 ((h.push [a3]).push [gX x]) (.ptr n.bp n.below.length 2) (.int j ((n.top.bU+1:Nat):Int))=o aj
 uc:aj.cell (h.n+1)=o [gX x]
theorem ST(s:aN ak aO aL h L)(a:fh c L i n)(O:iX c n)(hm:zd c.ms){P K:Nat}{nk:List bC}(gd:n.top.bu=(P:Int))(dJ:n.top.f=(K:Int))(qH:P<4)(c1:c.ms.getD P ag=o nk)(ND:n.top.bU<(mm c.ms n.top.bu n.top.f).length)(x:bv):∃aj,aiG ak aO aL h aj c L i n P K nk x:=by have bd:=s.push [a3];have aP:=a.cons (a1 h.n [a3]);obtain⟨ec,_⟩:=oP bd aP O.below;have aw:=Uy bd aP O gd dJ qH c1;have aY:=bd.push [Uw];have a2:=aP.cons (a1 (h.push [a3]).n [Uw]);have ay:=Uy aY a2 O gd dJ qH c1;have bs:aN ak aO aL ((h.push [a3]).push [gX x]) (a1 (h.n+1) [gX x]::a1 h.n [a3]::L):=bd.push [gX x];have bl:=aP.cons (a1 (h.n+1) [gX x]);have be:=Uy bs bl O gd dJ qH c1;obtain⟨aH,b1,bE⟩:=TW bs (i+1+1) bl.m (n.top.bU+1);rw[bl.x1]at bE;have b3:aN ak aO aL aH (a1 (h.n+1) [gX x]::a1 h.n [a3]::put c L i (n.at (n.top.bU+1))):=bE;have b:=hm n.top.bu n.top.f;exact⟨aH,b3,((a.put _).cons _).cons _,⟨O.ms,O.S,O.below,O.dq,O.xA,O.log⟩,ec,aw,ay,be.bU,Cf (by omega) (by omega) (by omega),b1,(b3.cell 0 rfl).1⟩
theorem ud{A B:cc}:put c (A::B::L) (i+1+1) cj=A::B::put c L i cj:=rfl
structure ya(ak:ai)(aO aL:Nat->Prop)(h:ai)(c:i8)(L:List cc)(i:Nat)(n:gt)(x:bv):Prop where
 s:aN ak aO aL h L
 a:fh c L i n
 O:iX c n
 hm:zd c.ms
 ok:zc c.ms n.m
 get:(mm c.ms n.top.bu n.top.f).getD n.top.bU y'=x
theorem ya.pre{x:bv}(b:ya ak aO aL h c L i n x):∃(aj:ai) (P K:Nat) (nk:List bC) (row:List F) (bn:F),aiG ak aO aL h aj c L i n P K nk x/\(∀q,dY (o Uv) ag (mP nk) (.int q (K:Int))=o (.ip row 0))/\(∀k,fZ U k row 0=o bn)/\(∀q,dY (o NC) ag bn (.int q (n.top.bU:Int))=o (.ip (gX x) 0))/\fZ J 3 (gX x) 0=o (.agg (gX x)):=by
 have a5:=b.ok.cY.top;obtain⟨P,gd⟩:=ni a5.en;obtain⟨K,eB⟩:=ni a5.f0;have gd:n.top.bu=(P:Int):=gd;have eB:n.top.f=(K:Int):=eB;have C2:=a5.there;have NB:n.top.bu.toNat=P:=by rw[gd];rfl
 have qH:P<4:=by
  rcases oj P 4 with h|h
  ·exact h
  ·have C2:(c.ms.getD n.top.bu.toNat ag).isSome=J:=C2;rw[NB,cZ,mE (by rw[b.O.ms];exact h)]at C2;cases C2
 obtain⟨nk,c1⟩:=Option.isSome_iff_exists.1 C2;have c1:c.ms.getD n.top.bu.toNat ag=o nk:=c1;have ND:n.top.bU<(mm c.ms n.top.bu n.top.f).length:=b.ok.bU;have vg:n.top.f.toNat<(hs c.ms n.top.bu).length:=a5.f1;have awX:K<nk.length:=by
  have e:n.top.f.toNat=K:=by rw[eB];rfl
  rw[e]at vg;unfold hs at vg;rw[c1]at vg;exact vg
 obtain⟨aj,p⟩:=ST b.s b.a b.O b.hm gd eB qH (by rw[<-NB];exact c1) ND x;have aF:(cW (nk.getD K jK) 0++[(⟨105,0,0⟩:bv)])[n.top.bU]? =o x:=by rw[<-awV c1 eB];have:=b.get;rw[cZ,fT ND]at this;rw[fT ND];exact congrArg o this
 obtain⟨row,bn,bR,bQ,da,eS⟩:=awW awX aF;exact⟨aj,P,K,nk,row,bn,p,bR,bQ,da,eS⟩
theorem awY{k m:Int}(b:ya ak aO aL h c L i n ⟨100,k,m⟩):∃aM E,aU aq aa Bb [.ptr c.bF 0 0] h=o (aM,E)/\zH ak aO aL c L i (if n.S.left=0 then .fail n.S 12 else .go ⟨n.S.tick,(n.at (n.top.bU+1)).top,n.below⟩) aM E:=by
 obtain⟨aj,P,K,nk,row,bn,p,bR,bQ,da,eS⟩:=b.pre;have f0:cd 0 (.ptr c.bF 0 0)=o (.ptr c.bF 0 0):=rfl;have f1:cd 2 (.ptr c.a0 0 0)=o (.ptr c.a0 0 2):=rfl;have f2:cd 0 (.ptr n.bp n.below.length 0)=o (.ptr n.bp n.below.length 0):=rfl;have f3:cd 1 (.ptr c.a0 0 (2+P*5))=o (.ptr c.a0 0 (2+P*5+1)):=rfl;have f4:cd 1 (.ptr n.bp n.below.length 0)=o (.ptr n.bp n.below.length 1):=rfl;have f5:cd 2 (.ptr n.bp n.below.length 0)=o (.ptr n.bp n.below.length 2):=rfl;have f6:cd 2 (.ptr c.bF 0 0)=o (.ptr c.bF 0 2):=rfl;have f7:cd 7 (.ptr n.bp n.below.length 0)=o (.ptr n.bp n.below.length 7):=rfl;obtain⟨g2,dS,aZ,g,a8⟩:=qF p.s (i+1+1) p.a.m;have sF:∀k:Nat,cR U k aj (.ptr c.bF 0 2)=o (.int j (n.S.left:Int)):=λk=>by rw[gb,a8.m];rfl
 by_cases am:n.S.left=0
 ·rw[if_pos am];refine⟨_,_,?_,rfl,n.at (n.top.bU+1),rfl,p.s.drop.drop⟩;have d:decide ((n.S.left:Int)=0)=J:=decide_eq_true (by omega);refine a4 tU rfl ?_;unfold sW;simp only[ao,ar,av,ap,bN,cN,p.ec,p.aw.m,p.aw.p,p.aw.fR,p.aw.f,p.aw.bU,p.aw.bJ,p.ay.m,p.ay.p,p.ay.fR,p.ay.f,p.ay.bU,p.be,p.w,p.st,p.uc,bR,bQ,da,eS,f0,f1,f2,f3,f4,f5,f6,f7,sF,d,re]
 ·rw[if_neg am];have d:decide ((n.S.left:Int)=0)=U:=decide_eq_false (by omega);have ad:=b.ok.cY.dq;have ad:n.top.stack.length+n.S.left<=100000:=ad;have w:kw j ((n.S.left:Int) - 1)=((n.S.left - 1:Nat):Int):=Cf (by omega) (by omega) (by omega);obtain⟨aH,b1,bE⟩:=au0 p.s (i+1+1) p.a.m ((n.S.left - 1:Nat):Int);rw[p.a.x1,ud,iB]at bE;have b3:=bE.set 1 rfl [a3];have eg:=(bE.cell 1 rfl).1;have fV:=(b3.cell 1 rfl).1;refine⟨.inl (.bS [.agg a3,.bool U]),_,?_,a3,rfl,⟨rfl,rfl⟩,n.bp,b3.drop.drop⟩;refine a4 tU rfl ?_;unfold sW;simp only[ao,ar,av,ap,bN,cN,p.ec,p.aw.m,p.aw.p,p.aw.fR,p.aw.f,p.aw.bU,p.aw.bJ,p.ay.m,p.ay.p,p.ay.fR,p.ay.f,p.ay.bU,p.be,p.w,p.st,p.uc,bR,bQ,da,eS,f0,f1,f2,f3,f4,f5,f6,f7,sF,d,pX,w,b1,eg]
theorem awZ{k m:Int}(b:ya ak aO aL h c L i n ⟨101,k,m⟩){st:List ax}{v:ax}(bW:n.top.stack=st++[v]):∃aM E,aU aq aa Bb [.ptr c.bF 0 0] h=o (aM,E)/\zH ak aO aL c L i (.go ⟨n.S,{(n.at (n.top.bU+1)).top with stack:=st,names:=n.top.names++[v]},n.below⟩) aM E:=by
 obtain⟨aj,P,K,nk,row,bn,p,bR,bQ,da,eS⟩:=b.pre;have f0:cd 0 (.ptr c.bF 0 0)=o (.ptr c.bF 0 0):=rfl;have f1:cd 2 (.ptr c.a0 0 0)=o (.ptr c.a0 0 2):=rfl;have f2:cd 0 (.ptr n.bp n.below.length 0)=o (.ptr n.bp n.below.length 0):=rfl;have f3:cd 1 (.ptr c.a0 0 (2+P*5))=o (.ptr c.a0 0 (2+P*5+1)):=rfl;have f4:cd 1 (.ptr n.bp n.below.length 0)=o (.ptr n.bp n.below.length 1):=rfl;have f5:cd 2 (.ptr n.bp n.below.length 0)=o (.ptr n.bp n.below.length 2):=rfl;have f6:cd 2 (.ptr c.bF 0 0)=o (.ptr c.bF 0 2):=rfl;have f7:cd 7 (.ptr n.bp n.below.length 0)=o (.ptr n.bp n.below.length 7):=rfl;obtain⟨aH,r,b1,Z,bE,cr⟩:=vv p.s p.a p.O (st:=st) (v:=v) bW;rw[ud,iB]at bE;rw[ud,iB]at cr;have b3:aN ak aO aL ((aH.push [r]).push [a3]) (a1 (aH.n+1) [a3]::a1 aH.n [r]::a1 (h.n+1) [gX ⟨101,k,m⟩]::a1 h.n [a3]::put c L i ((n.at (n.top.bU+1)).dq st)):=(bE.push [r]).push [a3];have ej:=(cr.cons (a1 aH.n [r])).cons (a1 (aH.n+1) [a3]);obtain⟨g2,dS,aZ,g,a8⟩:=qF b3 (i+1+1+1+1) ej.m;have jC:=pS {(n.at (n.top.bU+1)).top with stack:=st} g2 dS aZ g a8.aV.cV.1;have xZ:=λk=>a8.rd k 7 _ jC.2.2.1;have d':=bE.push [r];have aw0:=cr.cons (a1 aH.n [r]);obtain⟨Fg,A2,nL,fH,Uz⟩:=qF d' (i+1+1+1) aw0.m;have aiH:=pS {(n.at (n.top.bU+1)).top with stack:=st} Fg A2 nL fH Uz.aV.cV.1;have vp:=λk=>Uz.rd k 7 _ aiH.2.2.1;clear jC aiH;have aB:=(b3.cell 0 rfl).1;obtain⟨bz,bG⟩:=Z.cV;have P7:nL=aZ:=by have e:=(aia (h:=aH.push [r]) (b:=n.bp) (i:=n.below.length) (off:=7) (k:=0) (g:=U) (es:=[a3]) Uz.auZ).symm.trans (xZ 0);rw[vp 0]at e;exact k9 e
 subst P7;obtain⟨q,cq,de,hu,cg,c0,fq,l5,hP⟩:=au3 b3 (i+1+1+1+1) ej.m Z (by have:=p.O.xA;simp only at this ⊢;omega) aB a8;rw[ej.x1,eZ,eZ,ud,iB]at hP;have kc:=hP.set 3 rfl [a3];have eg:=(d'.cell 0 rfl).1;have fV:=(b3.cell 1 rfl).1;have aw1:=(hP.cell 1 rfl).1;have aw2:=(hP.cell 3 rfl).1;have UA:=(kc.cell 3 rfl).1;have ff:=a8.aZ.2.2.1;have iP:=a8.aZ.1;have Gs:=a8.aZ.2.2.2.1;have aw3:dY (o bO) ag (.bw q 0 (n.top.names.length+1) bO) (.int j (n.top.names.length:Int))=o (.ptr q n.top.names.length 0):=by have:=Au (q:= j) (e:=bO) (el:=bO) (b:=q) (O:=0) (n:=n.top.names.length+1) (i:=n.top.names.length) rfl (by omega);rwa [ir]at this
 refine⟨.inl (.bS [.agg a3,.bool U]),_,?_,a3,rfl,⟨rfl,rfl⟩,n.bp,kc.drop.drop.drop.drop⟩;refine a4 tU rfl ?_;unfold sW;simp only[ao,ar,av,ap,bN,cN,p.ec,p.aw.m,p.aw.p,p.aw.fR,p.aw.f,p.aw.bU,p.aw.bJ,p.ay.m,p.ay.p,p.ay.fR,p.ay.f,p.ay.bU,p.be,p.w,p.st,p.uc,bR,bQ,da,eS,f0,f1,f2,f3,f4,f5,f6,f7,b1,bz,bG,eg,fV,xZ,vp,ff,Gs,aw3,cg,c0,fq,l5,aw2]
theorem aw4{k m:Int}(b:ya ak aO aL h c L i n ⟨102,k,m⟩){jg:List ax}{v:ax}(bW:n.top.names=jg++[v]):∃aM E,aU aq aa Bb [.ptr c.bF 0 0] h=o (aM,E)/\zH ak aO aL c L i (.go ⟨n.S,{(n.at (n.top.bU+1)).top with names:=jg},n.below⟩) aM E:=by
 obtain⟨aj,P,K,nk,row,bn,p,bR,bQ,da,eS⟩:=b.pre;have f0:cd 0 (.ptr c.bF 0 0)=o (.ptr c.bF 0 0):=rfl;have f1:cd 2 (.ptr c.a0 0 0)=o (.ptr c.a0 0 2):=rfl;have f2:cd 0 (.ptr n.bp n.below.length 0)=o (.ptr n.bp n.below.length 0):=rfl;have f3:cd 1 (.ptr c.a0 0 (2+P*5))=o (.ptr c.a0 0 (2+P*5+1)):=rfl;have f4:cd 1 (.ptr n.bp n.below.length 0)=o (.ptr n.bp n.below.length 1):=rfl;have f5:cd 2 (.ptr n.bp n.below.length 0)=o (.ptr n.bp n.below.length 2):=rfl;have f6:cd 2 (.ptr c.bF 0 0)=o (.ptr c.bF 0 2):=rfl;have f7:cd 7 (.ptr n.bp n.below.length 0)=o (.ptr n.bp n.below.length 7):=rfl;obtain⟨g2,dS,aZ,g,a8⟩:=qF p.s (i+1+1) p.a.m;have jC:=pS (n.at (n.top.bU+1)).top g2 dS aZ g a8.aV.cV.1;have xZ:=λk=>a8.rd k 7 _ jC.2.2.1;clear jC;obtain⟨nL,aH,cg,c0,fq,l5,bE⟩:=au1 p.s (i+1+1) p.a.m (jg:=jg) (v:=v) bW a8;rw[p.a.x1,ud,iB]at bE;have b3:=bE.set 1 rfl [a3];have eg:=(bE.cell 1 rfl).1;have fV:=(b3.cell 1 rfl).1;have ff:=a8.aZ.2.2.1;have hlen:(n.at (n.top.bU+1)).top.names.length=jg.length+1:=by show n.top.names.length=_;rw[bW];simp
 rw[hlen]at ff;have aA:=p.O.xA;rw[hlen]at aA;have iP:=a8.aZ.1;have Gs:=a8.aZ.2.2.2.1;have w:kw j (((jg.length+1:Nat):Int) - 1)=(jg.length:Int):=Cf (by omega) (by omega) (by omega);refine⟨.inl (.bS [.agg a3,.bool U]),_,?_,a3,rfl,⟨rfl,rfl⟩,n.bp,b3.drop.drop⟩;refine a4 tU rfl ?_;unfold sW;simp only[ao,ar,av,ap,bN,cN,p.ec,p.aw.m,p.aw.p,p.aw.fR,p.aw.f,p.aw.bU,p.aw.bJ,p.ay.m,p.ay.p,p.ay.fR,p.ay.f,p.ay.bU,p.be,p.w,p.st,p.uc,bR,bQ,da,eS,f0,f1,f2,f3,f4,f5,f6,f7,xZ,ff,Gs,w,cg,l5,eg]
theorem aw5{k m:Int}(b:ya ak aO aL h c L i n ⟨103,k,m⟩){st:List ax}{v:ax}(bW:n.top.stack=st++[v])(lH:0<=k):∃aM E,aU aq aa Bb [.ptr c.bF 0 0] h=o (aM,E)/\zH ak aO aL c L i (if v.kind≠1 then .fail n.S 2 else .go ⟨n.S,{(n.at (n.top.bU+1)).top with stack:=st,bU:=if v.n=0 then k.toNat else n.top.bU+1},n.below⟩) aM E:=by
 obtain⟨aj,P,K,nk,row,bn,p,bR,bQ,da,eS⟩:=b.pre;have f0:cd 0 (.ptr c.bF 0 0)=o (.ptr c.bF 0 0):=rfl;have f1:cd 2 (.ptr c.a0 0 0)=o (.ptr c.a0 0 2):=rfl;have f2:cd 0 (.ptr n.bp n.below.length 0)=o (.ptr n.bp n.below.length 0):=rfl;have f3:cd 1 (.ptr c.a0 0 (2+P*5))=o (.ptr c.a0 0 (2+P*5+1)):=rfl;have f4:cd 1 (.ptr n.bp n.below.length 0)=o (.ptr n.bp n.below.length 1):=rfl;have f5:cd 2 (.ptr n.bp n.below.length 0)=o (.ptr n.bp n.below.length 2):=rfl;have f6:cd 2 (.ptr c.bF 0 0)=o (.ptr c.bF 0 2):=rfl;have f7:cd 7 (.ptr n.bp n.below.length 0)=o (.ptr n.bp n.below.length 7):=rfl;obtain⟨aH,r,b1,Z,bE,cr⟩:=vv p.s p.a p.O (st:=st) (v:=v) bW;rw[ud,iB]at bE;rw[ud,iB]at cr;obtain⟨bz,bG⟩:=Z.cV;by_cases ab:v.kind=1
 ·rw[if_neg (by simpa using ab)];obtain⟨br,ev,hR⟩:=vq (h:=aH) Z ab;obtain⟨w,hw,_⟩:=hR.i7;have aA:Kt U 1 1 (.agg br)=o (.int j v.n):=by rw[hw];rfl
  obtain⟨et,e8⟩:=hR.cV;clear hw;by_cases aB:v.n=0
  ·rw[if_pos aB];have d:decide (v.n=0)=J:=decide_eq_true aB;have eg:=(bE.cell 0 rfl).1;obtain⟨bq,c4,b3⟩:=TW bE (i+1+1) cr.m k.toNat
   rw[Int.toNat_of_nonneg lH]at c4;rw[cr.x1,ud,iB]at b3;have c2:=b3.set 1 rfl [a3];have fV:=(b3.cell 1 rfl).1;have h9:=(c2.cell 1 rfl).1;refine⟨.inl (.bS [.agg a3,.bool U]),_,?_,a3,rfl,⟨rfl,rfl⟩,n.bp,c2.drop.drop⟩;refine a4 tU rfl ?_;unfold sW;simp only[ao,ar,av,ap,bN,cN,p.ec,p.aw.m,p.aw.p,p.aw.fR,p.aw.f,p.aw.bU,p.aw.bJ,p.ay.m,p.ay.p,p.ay.fR,p.ay.f,p.ay.bU,p.be,p.w,p.st,p.uc,bR,bQ,da,eS,f0,f1,f2,f3,f4,f5,f6,f7,b1,bz,bG,ev,aA,d,eg,c4,fV]
  ·rw[if_neg aB];have d:decide (v.n=0)=U:=decide_eq_false aB;have c2:=bE.set 1 rfl [a3];have fV:=(bE.cell 1 rfl).1;have h9:=(c2.cell 1 rfl).1;refine⟨.inl (.bS [.agg a3,.bool U]),_,?_,a3,rfl,⟨rfl,rfl⟩,n.bp,c2.drop.drop⟩;refine a4 tU rfl ?_;unfold sW;simp only[ao,ar,av,ap,bN,cN,p.ec,p.aw.m,p.aw.p,p.aw.fR,p.aw.f,p.aw.bU,p.aw.bJ,p.ay.m,p.ay.p,p.ay.fR,p.ay.f,p.ay.bU,p.be,p.w,p.st,p.uc,bR,bQ,da,eS,f0,f1,f2,f3,f4,f5,f6,f7,b1,bz,bG,ev,aA,d,fV]
 ·rw[if_pos ab];have ev:=vr (h:=aH) Z ab;refine⟨_,_,?_,rfl,(n.at (n.top.bU+1)).dq st,rfl,bE.drop.drop⟩;refine a4 tU rfl ?_;unfold sW;simp only[ao,ar,av,ap,bN,cN,p.ec,p.aw.m,p.aw.p,p.aw.fR,p.aw.f,p.aw.bU,p.aw.bJ,p.ay.m,p.ay.p,p.ay.fR,p.ay.f,p.ay.bU,p.be,p.w,p.st,p.uc,bR,bQ,da,eS,f0,f1,f2,f3,f4,f5,f6,f7,b1,bz,bG,ev]
theorem aw6{k m:Int}(b:ya ak aO aL h c L i n ⟨104,k,m⟩)(lH:0<=k):∃aM E,aU aq aa Bb [.ptr c.bF 0 0] h=o (aM,E)/\zH ak aO aL c L i (.go ⟨n.S,{(n.at (n.top.bU+1)).top with bU:=k.toNat},n.below⟩) aM E:=by
 obtain⟨aj,P,K,nk,row,bn,p,bR,bQ,da,eS⟩:=b.pre;have f0:cd 0 (.ptr c.bF 0 0)=o (.ptr c.bF 0 0):=rfl;have f1:cd 2 (.ptr c.a0 0 0)=o (.ptr c.a0 0 2):=rfl;have f2:cd 0 (.ptr n.bp n.below.length 0)=o (.ptr n.bp n.below.length 0):=rfl;have f3:cd 1 (.ptr c.a0 0 (2+P*5))=o (.ptr c.a0 0 (2+P*5+1)):=rfl;have f4:cd 1 (.ptr n.bp n.below.length 0)=o (.ptr n.bp n.below.length 1):=rfl;have f5:cd 2 (.ptr n.bp n.below.length 0)=o (.ptr n.bp n.below.length 2):=rfl;have f6:cd 2 (.ptr c.bF 0 0)=o (.ptr c.bF 0 2):=rfl;have f7:cd 7 (.ptr n.bp n.below.length 0)=o (.ptr n.bp n.below.length 7):=rfl;have eg:=(p.s.cell 0 rfl).1;obtain⟨bq,c4,b3⟩:=TW p.s (i+1+1) p.a.m k.toNat
 rw[Int.toNat_of_nonneg lH]at c4;rw[p.a.x1,ud,iB]at b3;have c2:=b3.set 1 rfl [a3];have fV:=(b3.cell 1 rfl).1;have h9:=(c2.cell 1 rfl).1;refine⟨.inl (.bS [.agg a3,.bool U]),_,?_,a3,rfl,⟨rfl,rfl⟩,n.bp,c2.drop.drop⟩;refine a4 tU rfl ?_;unfold sW;simp only[ao,ar,av,ap,bN,cN,p.ec,p.aw.m,p.aw.p,p.aw.fR,p.aw.f,p.aw.bU,p.aw.bJ,p.ay.m,p.ay.p,p.ay.fR,p.ay.f,p.ay.bU,p.be,p.w,p.st,p.uc,bR,bQ,da,eS,f0,f1,f2,f3,f4,f5,f6,f7,c4,fV]
theorem aw7{A B:cc}{h2:Nat}{S:bt}:pZ c (A::B::put c L i cj) (i+1+1) h2 S=A::B::pZ c L i h2 S:=by
 have:pZ c (put c L i cj) i h2 S=pZ c L i h2 S:=by unfold pZ;rw[iB]
 exact congrArg (λl=>A::B::l) this
theorem aw8{k m:Int}(b:ya ak aO aL h c L i n ⟨105,k,m⟩){st:List ax}{v:ax}(bW:n.top.stack=st++[v])(lS:∀bf,cH.back (n.at (n.top.bU+1)).m= .go bf->bf.top.stack.length<=100000):∃aM E,aU aq aa Bb [.ptr c.bF 0 0] h=o (aM,E)/\zH ak aO aL c L i (cH.back (n.at (n.top.bU+1)).m) aM E:=by
 obtain⟨aj,P,K,nk,row,bn,p,bR,bQ,da,eS⟩:=b.pre;have f0:cd 0 (.ptr c.bF 0 0)=o (.ptr c.bF 0 0):=rfl;have f1:cd 2 (.ptr c.a0 0 0)=o (.ptr c.a0 0 2):=rfl;have f2:cd 0 (.ptr n.bp n.below.length 0)=o (.ptr n.bp n.below.length 0):=rfl;have f3:cd 1 (.ptr c.a0 0 (2+P*5))=o (.ptr c.a0 0 (2+P*5+1)):=rfl;have f4:cd 1 (.ptr n.bp n.below.length 0)=o (.ptr n.bp n.below.length 1):=rfl;have f5:cd 2 (.ptr n.bp n.below.length 0)=o (.ptr n.bp n.below.length 2):=rfl;have f6:cd 2 (.ptr c.bF 0 0)=o (.ptr c.bF 0 2):=rfl;have f7:cd 7 (.ptr n.bp n.below.length 0)=o (.ptr n.bp n.below.length 7):=rfl;obtain⟨aM,aH,b1,oQ⟩:=awT p.s p.a p.O (st:=st) (v:=v) bW b.ok.cY.top.eU lS;generalize cH.back (n.at (n.top.bU+1)).m=q at*;cases q with
 |go bf=>obtain⟨r,rfl,⟨bz,bG⟩,h2,bE⟩:=oQ;rw[ud,iB]at bE;have b3:=bE.set 1 rfl [r];have eg:=(bE.cell 1 rfl).1;have fV:=(b3.cell 1 rfl).1;refine⟨.inl (.bS [.agg r,.bool U]),_,?_,r,rfl,⟨bz,bG⟩,h2,b3.drop.drop⟩;refine a4 tU rfl ?_;unfold sW;simp only[ao,ar,av,ap,bN,cN,p.ec,p.aw.m,p.aw.p,p.aw.fR,p.aw.f,p.aw.bU,p.aw.bJ,p.ay.m,p.ay.p,p.ay.fR,p.ay.f,p.ay.bU,p.be,p.w,p.st,p.uc,bR,bQ,da,eS,f0,f1,f2,f3,f4,f5,f6,f7,b1,bz,bG,eg]
 |fail S ee=>obtain⟨rfl,cj,pB,bE⟩:=oQ;rw[ud,iB]at bE;refine⟨_,_,?_,rfl,cj,pB,bE.drop.drop⟩;refine a4 tU rfl ?_;unfold sW;simp only[ao,ar,av,ap,bN,cN,p.ec,p.aw.m,p.aw.p,p.aw.fR,p.aw.f,p.aw.bU,p.aw.bJ,p.ay.m,p.ay.p,p.ay.fR,p.ay.f,p.ay.bU,p.be,p.w,p.st,p.uc,bR,bQ,da,eS,f0,f1,f2,f3,f4,f5,f6,f7,b1]
 |over S a'=>obtain⟨r,rfl,Z,h2,bE⟩:=oQ;rw[aw7]at bE;obtain⟨bz,bG⟩:=Z.cV;have b3:=bE.set 1 rfl [r];have eg:=(bE.cell 1 rfl).1;have fV:=(b3.cell 1 rfl).1;refine⟨.inl (.bS [.agg r,.bool J]),_,?_,r,rfl,Z,h2,b3.drop.drop⟩;refine a4 tU rfl ?_;unfold sW;simp only[ao,ar,av,ap,bN,cN,p.ec,p.aw.m,p.aw.p,p.aw.fR,p.aw.f,p.aw.bU,p.aw.bJ,p.ay.m,p.ay.p,p.ay.fR,p.ay.f,p.ay.bU,p.be,p.w,p.st,p.uc,bR,bQ,da,eS,f0,f1,f2,f3,f4,f5,f6,f7,b1,bz,bG,eg]
theorem aw9{x:bv}(b:ya ak aO aL h c L i n x)(iH:x.op<100):∃aM E,aU aq aa Bb [.ptr c.bF 0 0] h=o (aM,E)/\zH ak aO aL c L i (pa c.ms (n.at (n.top.bU+1)).m x) aM E:=by
 obtain⟨aj,P,K,nk,row,bn,p,bR,bQ,da,eS⟩:=b.pre;have f0:cd 0 (.ptr c.bF 0 0)=o (.ptr c.bF 0 0):=rfl;have f1:cd 2 (.ptr c.a0 0 0)=o (.ptr c.a0 0 2):=rfl;have f2:cd 0 (.ptr n.bp n.below.length 0)=o (.ptr n.bp n.below.length 0):=rfl;have f3:cd 1 (.ptr c.a0 0 (2+P*5))=o (.ptr c.a0 0 (2+P*5+1)):=rfl;have f4:cd 1 (.ptr n.bp n.below.length 0)=o (.ptr n.bp n.below.length 1):=rfl;have f5:cd 2 (.ptr n.bp n.below.length 0)=o (.ptr n.bp n.below.length 2):=rfl;have f6:cd 2 (.ptr c.bF 0 0)=o (.ptr c.bF 0 2):=rfl;have f7:cd 7 (.ptr n.bp n.below.length 0)=o (.ptr n.bp n.below.length 7):=rfl;have a5:=b.ok.cY.top;have aF:=b.ok.op;have nW:(mm c.ms n.m.top.bu n.m.top.f).getD n.m.top.bU y'=x:=b.get;rw[nW]at aF;obtain⟨aM,aH,b1,UB⟩:=awP p.s p.a p.O (x:=x) ⟨a5.en,a5.there,a5.f0,a5.f1,a5.arg,a5.names,a5.stack,a5.eU⟩ ⟨aF.kind,aF.one,aF.abS,aF.jump,aF.parts,aF.var⟩ iH;have d:∀D:Int,100<=D->decide (x.op=D)=U:=λD ae=>decide_eq_false (by omega);have d0:=d 100 (by decide);have d1:=d 101 (by decide);have d2:=d 102 (by decide);have d3:=d 103 (by decide);have d4:=d 104 (by decide);have d5:=d 105 (by decide);have cl:=(p.s.cell 0 rfl).1;generalize pa c.ms (n.at (n.top.bU+1)).m x=q at*;cases q with
 |go bf=>obtain⟨rfl,h2,bE⟩:=UB;rw[ud,iB]at bE;have b3:=bE.set 1 rfl [a3];have eg:=(bE.cell 1 rfl).1;have fV:=(b3.cell 1 rfl).1;refine⟨.inl (.bS [.agg a3,.bool U]),_,?_,a3,rfl,⟨rfl,rfl⟩,h2,b3.drop.drop⟩;refine a4 tU rfl ?_;unfold sW;simp only[ao,ar,av,ap,bN,p.ec,p.aw.m,p.aw.p,p.aw.fR,p.aw.f,p.aw.bU,p.aw.bJ,p.ay.m,p.ay.p,p.ay.fR,p.ay.f,p.ay.bU,p.be,p.w,p.st,p.uc,bR,bQ,da,eS,f0,f1,f2,f3,f4,f5,f6,f7,b1,eg,d0,d1,d2,d3,d4,d5]
 |fail S ee=>obtain⟨rfl,cj,pB,bE⟩:=UB;rw[ud,iB]at bE;refine⟨_,_,?_,rfl,cj,pB,bE.drop.drop⟩;refine a4 tU rfl ?_;unfold sW;simp only[ao,ar,av,ap,bN,p.ec,p.aw.m,p.aw.p,p.aw.fR,p.aw.f,p.aw.bU,p.aw.bJ,p.ay.m,p.ay.p,p.ay.fR,p.ay.f,p.ay.bU,p.be,p.w,p.st,p.uc,bR,bQ,da,eS,f0,f1,f2,f3,f4,f5,f6,f7,b1,d0,d1,d2,d3,d4,d5]
 |over S a'=>exact UB.elim
end
section
variable{h E ak:ai}{ah al aO aL:Nat->Prop}{L:List cc}{c:i8}{i:Nat}{n:gt}
theorem aw'{c:i8}{n:gt}(an:c.ms.length=4)(g:n.m.Good c.ms):iX c n:=by have cS:n.S.bh<=1000000:=g.bh;have cf:n.top.stack.length+n.S.left<=100000:=g.dq;have eQ:n.top.names.length+n.S.left<=100000:=g.xA;have lv:n.below.length+1<=20:=g.oA;unfold bt.bh at cS;exact⟨an,g.S,by omega,by omega,by omega,by omega⟩
theorem UC(s:aN ak aO aL h L)(a:fh c L i n)(an:c.ms.length=4)(hm:zd c.ms)(ok:zc c.ms n.m)(NF:∀bf,pb c.ms n.m= .go bf->bf.Good c.ms):∃aM E,aU aq aa Bb [.ptr c.bF 0 0] h=o (aM,E)/\zH ak aO aL c L i (pb c.ms n.m) aM E:=by
 have b:ya ak aO aL h c L i n ((mm c.ms n.top.bu n.top.f).getD n.top.bU y'):=⟨s,a,aw' an ok.cY,hm,ok,rfl⟩;have aF:=ok.op;have aF:Ei n.m ((mm c.ms n.top.bu n.top.f).getD n.top.bU y'):=aF;have aC:pb c.ms n.m=(let x:=(mm c.ms n.top.bu n.top.f).getD n.top.bU y'
  let m:cH:=(n.at (n.top.bU+1)).m;let t:=m.top
  if x.op=100 then(if m.S.left=0 then .fail m.S 12 else .go {m with S:=m.S.tick})
  else if x.op=101 then .go {m with top:={t with stack:=wl t.stack 1,names:=t.names++[(tG t.stack 1).getD 0 ce]}}
  else if x.op=102 then .go {m with top:={t with names:=t.names.dropLast}}
  else if x.op=103 then(let v:=(tG t.stack 1).getD 0 ce
   if v.kind≠1 then .fail m.S 2 else .go {m with top:={t with stack:=wl t.stack 1,bU:=if v.n=0 then x.k.toNat else t.bU}})
  else if x.op=104 then .go {m with top:={t with bU:=x.k.toNat}}
  else if x.op=105 then m.back
  else pa c.ms m x):=rfl
 rw[aC]at NF ⊢;generalize (mm c.ms n.top.bu n.top.f).getD n.top.bU y'=x at*;clear aC;obtain⟨op,k,m⟩:=x;simp only at NF ⊢;have aiI:=aF.kind;simp only at aiI;rcases aiI with ab|ab
 ·rw[if_neg (by omega),if_neg (by omega),if_neg (by omega),if_neg (by omega),if_neg (by omega),if_neg (by omega)];exact aw9 b (by show op<100;omega)
 ·have ops:op=100\/op=101\/op=102\/op=103\/op=104\/op=105:=by omega
  rcases ops with rfl|rfl|rfl|rfl|rfl|rfl
  ·rw[if_pos rfl];exact awY b
  ·obtain⟨st,v,bW⟩:=qI (l:=n.top.stack) (by have:=aF.one (.inl rfl);exact List.length_pos_iff.2 this);rw[if_neg (by decide),if_pos rfl];have:=awZ b bW;simp only[bW,x6,C1];exact this
  ·obtain⟨jg,v,bW⟩:=qI (l:=n.top.names) (by have:=aF.abS rfl;exact List.length_pos_iff.2 this);rw[if_neg (by decide),if_neg (by decide),if_pos rfl];have:=aw4 b bW;simp only[bW,List.dropLast_concat];exact this
  ·obtain⟨st,v,bW⟩:=qI (l:=n.top.stack) (by have:=aF.one (.inr (.inl rfl));exact List.length_pos_iff.2 this);rw[if_neg (by decide),if_neg (by decide),if_neg (by decide),if_pos rfl];have:=aw5 b bW (aF.jump (.inl rfl));simp only[bW,x6,C1,ua];exact this
  ·rw[if_neg (by decide),if_neg (by decide),if_neg (by decide),if_neg (by decide),if_pos rfl];exact aw6 b (aF.jump (.inr rfl))
  ·obtain⟨st,v,bW⟩:=qI (l:=n.top.stack) (by have:=aF.one (.inr (.inr rfl));exact List.length_pos_iff.2 this);simp only[cN,if_false,if_true]at NF ⊢;refine aw8 b bW λbf e=>?_;have g:=(NF bf e).dq;omega
end
theorem aiJ:∀(N:Nat) (x:ax),lz x<=N->x.size<=100000->∀(r:List F) (h:ai),bZ x r->∃br,aU aq aa 48 [.agg r] h=o (.inl (.agg br),h)/\bZ (id x) br:=by
 intro N;induction N with
 |zero=>intro x aF;have:=x.m';omega
 |succ N aR=>
   intro x aF fa r h he;obtain⟨v,es,rfl,eL,Z,aA,fv⟩:=he.facts;have hlen:=x.q5;suffices key:∃a',aU aq aa 48 [.agg [.int j x.kind,.int j x.n,v]] h=o (.inl a',h)/\∃br,a'= .agg br/\bZ (id x) br by obtain⟨_,e,br,rfl,R⟩:=key;exact⟨br,e,R⟩
   have rest:∀(Q:mi->Prop) (ak:ai) (h8 pT:F) (z:Int),ak=((h.push [[.int j x.kind,.int j x.n,v]]).push [[.int j 0,.int j 0,.aJ]]).push [[.int j x.kind,.int j z,.aJ]]->z=(id x).n->(∀V E v a',(jc V E [.cell J 3 2]).map ju=o v->aG h E->dl v=o a'->(∃br,a'= .agg br/\bZ (id x) br)->Q (o (.ret,V,E)))->Q (bB (aU aq aa) 9 (.eM Mh::.bP []::.cu 0::[.bP [.ops [tQ,Hb],.ret]]) [.agg [.int j x.kind,.int j x.n,v],.ptr h.n 0 0,.ptr (h.n+1) 0 0,.ptr (h.n+1+1) 0 0,h8,v,.int j es.length,.int j 0,pT] [] ak):=by
    intro Q ak h8 pT z ET aB cQ;subst ET;refine pN (λi V E=>∃h8 pT acc rows,V=[.agg [.int j x.kind,.int j x.n,v],.ptr h.n 0 0,.ptr (h.n+1) 0 0,.ptr (h.n+1+1) 0 0,h8,v,.int j es.length,.int j (i:Nat),pT]/\aG h E/\h.n+1+1<E.n/\E.cell h.n=o [[.int j x.kind,.int j x.n,v]]/\E.cell (h.n+1)=o [[.int j 0,.int j 0,.aJ]]/\E.cell (h.n+1+1)=o [[.int j x.kind,.int j z,acc]]/\Acc h E bO acc rows/\dk ((x.l.take i).map id) rows) x.l.length ⟨_,_,_,[],rfl,(by repeat (first|exact aG.refl _|refine aG.trans ?_ (aG.push _ _)|refine aG.trans ?_ (aG.fresh _ _))),by simp only[eC];omega,tF,wd,wc,wa _ _ _,rfl⟩ ?_ ?_
    ·rintro i V E af ⟨h8,pT,acc,rows,rfl,g,hm,aW,bD,cl,aV,au⟩ next
     have ba:(i:Int)<(es.length:Int):=by rw[aA];omega
     obtain⟨y,bH⟩:=tV af;obtain⟨q,i1,d1,cb⟩:=fv i y bH;have hw:=ew (n:=(i:Int)+1) (by omega) (by omega);obtain⟨fk,aw,dF⟩:=aR y (by have:=ax.nB (oK bH);omega) (by have:=ax.ql (oK bH);omega) q (E.push [q]) cb;obtain⟨dB,gm⟩:=cb.one
     replace aW:=(hp (es:=[q]) (show h.n<E.n by omega)).trans aW
     replace bD:=(hp (es:=[q]) (show h.n+1<E.n by omega)).trans bD
     replace cl:=(hp (es:=[q]) hm).trans cl
     obtain⟨bz,bG⟩:=dF.one;have hn:rows.length<=1000000:=by rw[au.len,fM,pv];omega
     obtain⟨k0,R,ay,aP,a2,bl,cr⟩:=y4 (show Acc h (E.push [q]) bO acc rows from aV) (g.trans (aG.push _ _)) (row:=fk) bz hn;simp only[v']at ay;have cg:(R.set (h.n+1+1) (o [[.int j x.kind,.int j z,k0]])).cell h.n=o [[.int j x.kind,.int j x.n,v]]:=by rw[eN (by omega),bl];exact aW
     have c0:(R.set (h.n+1+1) (o [[.int j x.kind,.int j z,k0]])).cell (h.n+1)=o [[.int j 0,.int j 0,.aJ]]:=by rw[eN (by omega),bl];exact bD
     have pU:k0.one=J:=by rcases aP with⟨_,rfl⟩|⟨id,_,_,_,_,rfl⟩<;>rfl
     have wP:k0.cells=[k0]:=by rcases aP with⟨_,rfl⟩|⟨id,_,_,_,_,rfl⟩<;>rfl
     rw[cy Mh.eq_1];simp only[ao,ar,av,ap,b2,cl,ba,i1,d1,aw,dB,gm,bz,bG,ay,bl,pU,wP,hw];refine next _ _ ⟨_,_,_,_,rfl,a2.set (by omega),by rw[nY,cr];show _<E.n+1;omega,cg,c0,lc,aP,?_⟩
     rw[Ce bH,u5];exact au.append dF
    ·rintro V E ⟨h8,pT,acc,rows,rfl,g,hm,aW,bD,cl,aV,au⟩;have ba:¬((x.l.length:Int)<(es.length:Int)):=by rw[aA];omega
     rw[List.take_length]at au;have pU:acc.one=J:=by rcases aV with⟨_,rfl⟩|⟨id,_,_,_,_,rfl⟩<;>rfl
     have TJ:e9 bO acc rows:=by
      rcases aV with⟨bR,bQ⟩|⟨id,_,_,_,_,bQ⟩
      ·exact .inl ⟨bR,bQ⟩
      ·exact .inr ⟨_,bQ⟩
     have vZ:bZ (id x) [.int j x.kind,.int j z,acc]:=by rw[aB];have:=bZ.mk (x:=id x) TJ (by rw[asQ];exact au);rw[asP]at this;exact this
     obtain⟨br,hw,hR⟩:=Lq vZ;have r6:dl (.agg [.int j x.kind,.int j z,acc])=o (.agg br):=by simp only[dl,hw,i3]
     rw[cy Mh.eq_1];simp only[ao,ar,av,ap,b2,bD,cl,ba,pU];exact cQ _ _ _ _ (by simp only[ao,ho,fG,i3,du,ua,List.getD_cons_succ]) (g.set (by omega)) r6 ⟨br,rfl,hR⟩
   refine RI ass rfl λQ cQ=>?_;unfold afj;simp only[ao,ar,av,ap,bY,Z,eL.len,eL.fits];exact rest _ _ _ _ x.n rfl rfl cQ
open Go Go.RowKit
abbrev kr:di:=12
abbrev s8:di:=49
noncomputable def Fh:gu:=Tryz.f12.body.getD .skip
noncomputable def ue:gu:=Tryz.f49.body.getD .skip
theorem UD:(aq).funcs[s8]? =o Tryz.f49:=Tryz.func49
theorem aiK:Tryz.f49.body=o ue:=rfl
theorem aiL:ue= .seq (eV ue) (hf ue):=rfl
theorem aiM:Tryz.f49.ntmps=27:=rfl
noncomputable def UE:bm:={dst:=o 8,op:=.call {callee:=.builtin .recover,args:= #[],argTypes:= #[]},type:=((nd (eV ue)).getD 0 default).type,pos:=((nd (eV ue)).getD 0 default).pos,after:= #[],guard:=ag}
noncomputable def UF:bm:={dst:=o 5,op:=.assign (.tmp 8),type:=((nd (eV ue)).getD 1 default).type,pos:=((nd (eV ue)).getD 1 default).pos,after:=((nd (eV ue)).getD 1 default).after,guard:=ag}
theorem axa:eV ue= .region 0 #[UE,UF] U:=rfl
abbrev UG:List Nat:=[0,1,2,3,4,5,6,7,10,17]
theorem aiN:hF aq (aa.bh s8) (aa.cM s8) 27 UG (hf ue) []=o SI:=by kernel_rfl
theorem aiO:i9 (aa.cM s8) (aa.fy s8) (hf ue)=J:=by kernel_rfl
theorem aiP:uW 5 27 (aa.aZ s8) 10 UG=J:=by kernel_rfl
theorem aiQ(a:Array b')(w:dO):∃v,(results Tryz.f49 a).run aq w= .ok v w:=⟨.tuple #[],by simp[results,Tryz.results49]⟩
theorem aiR:aeU aq (eV ue) 27 8 5:=by
 intro cK v cs hB w fa h;rw[axa];apply wpS_region;rcases h with I|⟨I,R,aj⟩
 ·simp[wpOpsS,go_sem,UE,UF,I,Act.put,Act.eval,fa]
 ·simp[wpOpsS,go_sem,UE,UF,I,Act.put,Act.eval,fa,R,aj]
theorem aiS(x y z u t e:F):hG 27 UG [] (fN (fN ([x,y,z,u,t]++ap (27 - [x,y,z,u,t].length) .aD) (o 8) e) (o 5) e) [x,y,z,u,t,e,.aD,.aD,.aD,.aD] []:=by
 refine⟨by simp[fN],rfl,rfl,λD s ae=>?_,λD s ae=>by simp at ae⟩
 match D,ae with
 |0,ae|1,ae|2,ae|3,ae|4,ae|5,ae|6,ae|7,ae|8,ae|9,ae=>obtain rfl:=k9 ae;exact⟨by decide,rfl⟩
 |D+10,ae=>simp at ae
theorem Fi:(aq).funcs[kr]? =o Tryz.f12:=Tryz.func12
theorem axb:Tryz.f12.body=o Fh:=rfl
theorem axc:Tryz.f12.ntmps=93:=rfl
noncomputable abbrev yb:gu:=hf Fh
noncomputable abbrev wU:gu:=hf yb
noncomputable abbrev zK:gu:=hf wU
noncomputable abbrev zL:gu:=hf zK
noncomputable abbrev sf:gu:=hf zL
noncomputable abbrev IB:gu:=hf sf
theorem axd:Fh= .seq (eV Fh) yb:=rfl
theorem NG:yb= .seq (eV yb) wU:=rfl
theorem aiT:wU= .seq (eV wU) zK:=rfl
theorem axe:zK= .seq (eV zK) zL:=rfl
theorem axf:zL= .seq (eV zL) sf:=rfl
theorem axg:sf= .seq (eV sf) IB:=rfl
abbrev uf:List Nat:=[0,1,2,3,4,8,9,10,11,12,13,14,15,16,17,33,62,84]
theorem wV:uW 5 93 (aa.aZ kr) 18 uf=J:=by kernel_rfl
theorem axh:hF aq (aa.bh kr) (aa.cM kr) 93 uf (eV Fh) []=o L5:=by kernel_rfl
theorem NH:hF aq (aa.bh kr) (aa.cM kr) 93 uf (eV yb) []=o AQ:=by kernel_rfl
theorem aiU:hF aq (aa.bh kr) (aa.cM kr) 93 uf (eV wU) []=o L7:=by kernel_rfl
theorem axi:hF aq (aa.bh kr) (aa.cM kr) 93 uf (eV zK) []=o L8:=by kernel_rfl
theorem axj:hF aq (aa.bh kr) (aa.cM kr) 93 uf (eV zL) []=o L9:=by kernel_rfl
theorem aiV:hF aq (aa.bh kr) (aa.cM kr) 93 uf IB []=o HB:=by kernel_rfl
theorem axk:i9 (aa.cM kr) (aa.fy kr) (eV Fh)=J:=by kernel_rfl
theorem NI:i9 (aa.cM kr) (aa.fy kr) (eV yb)=J:=by kernel_rfl
theorem aiW:i9 (aa.cM kr) (aa.fy kr) (eV wU)=J:=by kernel_rfl
theorem axl:i9 (aa.cM kr) (aa.fy kr) (eV zK)=J:=by kernel_rfl
theorem axm:i9 (aa.cM kr) (aa.fy kr) (eV zL)=J:=by kernel_rfl
theorem aiX:i9 (aa.cM kr) (aa.fy kr) IB=J:=by kernel_rfl
theorem IC:q3 aq uf Tryz.f12.results.toList=o [.cell J 3 7,.cell U 1 8,.cell U 1 9]:=by kernel_rfl
theorem axn(x y z u t:F):hG 93 uf [] ([x,y,z,u,t]++ap (93 - [x,y,z,u,t].length) .aD) ([x,y,z,u,t]++ap (uf.length - [x,y,z,u,t].length) .aD) []:=by
 refine⟨by simp,rfl,rfl,λD s ae=>?_,λD s ae=>by simp at ae⟩
 match D,ae with
 |0,ae|1,ae|2,ae|3,ae|4,ae|5,ae|6,ae|7,ae|8,ae|9,ae|10,ae|11,ae|12,ae|13,ae|14,ae|15,ae|16,ae|17,ae=>obtain rfl:=k9 ae;exact⟨by decide,rfl⟩
 |D+18,ae=>simp at ae
noncomputable def aiY:bm:={dst:=o 78,op:=.makeFunc (.func s8) #[] #[.tmp 9,.tmp 14,.tmp 10,.tmp 11,.tmp 12],type:=((nd (eV sf)).getD 0 default).type,pos:=((nd (eV sf)).getD 0 default).pos,after:= #[],guard:=ag}
noncomputable def aiZ:bm:={dst:=ag,op:=.defer {callee:=.value (.tmp 78),args:= #[],argTypes:= #[]},type:=((nd (eV sf)).getD 1 default).type,pos:=((nd (eV sf)).getD 1 default).pos,after:=((nd (eV sf)).getD 1 default).after,guard:=ag}
theorem axo:eV sf= .region 10 #[aiY,aiZ] U:=rfl
theorem ai0(fC:g')(a:Act)(cs:List g')(w:dO)(fa:a.tmps.size=93):Steps aq (fr (fC.at a [.code sf]) cs w) (fr (fC.at {a.put (o 78) (EK s8 (wI a [9,14,10,11,12]))with defers:=vd s8 (wI a [9,14,10,11,12])::a.defers} [.code IB]) cs w):=by
 have hw:(eV sf).wp aq (λe eR bj=>e= .normal/\bj=w/\eR={a.put (o 78) (EK s8 (wI a [9,14,10,11,12]))with defers:=vd s8 (wI a [9,14,10,11,12])::a.defers}) a w:=by have avM:∀(fn:Fn) (first cap:Array b') (w:dO),(Instr.makeFunc fn first cap).run aq w= .ok (.func fn first cap) w:=λ_ _ _ _=>rfl;rw[axo];apply wp_region;simp[wpOps,go_sem,aiY,aiZ,Act.put,Act.eval,fa,EK,vd,wI]
 obtain⟨e,eR,bj,⟨rfl,rfl,rfl⟩,Cv⟩:=hw fC [.code IB] cs
 conv=>lhs;rw[axg]
 exact .head step_seq Cv
theorem ai1:∀r∈Tryz.f12.results.toList,∃i ty,r= .cell i ty/\aa.fy kr i=J:=by
 have h:Tryz.f12.results.toList.all (λr=>match r with|.cell i _=>aa.fy kr i|_=>U)=J:=by kernel_rfl
 rw[jW]at h;intro r au;have:=h r au;cases r with
 |tmp i=>cases this
 |cell i ty=>exact⟨i,ty,rfl,this⟩
open Go Go.RowKit
theorem axp{ms:dn}(a5:xB ms){p f:Int}{v:ax}{S:bt}(cw:S.Good)(J4:S.bh<=1000000)(am:S.left<=2000)(Z:v.code=0)(az:0<=p)(a6:(ms.getD p.toNat ag).isSome)(bo:0<=f)(vg:f.toNat<(hs ms p).length){N:Nat}(e5:S.left<=N):lR ms ⟨S,⟨p,f,0,v,[],[],U,[]⟩,[]⟩ (match dp ms N p (gK ms p f) v [] 1 S with
   |(b0,w,c)=>if c≠0 then .fail b0 c else .over b0 w):=by
 have dm:(⟨S,⟨p,f,0,v,[],[],U,[]⟩,[]⟩:cH).Good ms:=⟨cw,⟨az,a6,bo,vg,Z,by simp,by simp,by simp⟩,J4,by simp only[fG];omega,by simp only[fG];omega,by simp⟩;have aj:=aiv a5 N (gK ms p f) ⟨S,⟨p,f,0,v,[],[],U,[]⟩,[]⟩ dm e5 (Ny a5 vg) ⟨[],[⟨105,0,0⟩],by simp[mm],rfl⟩;have s7:=pc ms N p (gK ms p f) v [] 1 S cw Z (by simp);simp only[fG,ir]at aj;rcases Ay:dp ms N p (gK ms p f) v [] 1 S with⟨na,eY,cl⟩;rw[Ay]at aj s7;unfold k4 at aj;simp only at aj ⊢;by_cases aB:cl=0
 ·rw[if_neg (by simpa using aB)]at aj ⊢;have ai2:iN ms (cH.after ⟨S,⟨p,f,0,v,[],[],U,[]⟩,[]⟩ na (cW (gK ms p f) 0).length [eY]) [⟨105,0,0⟩]:=⟨cW (gK ms p f) 0,[],by simp[mm,cH.after],by simp[cH.after]⟩;have x9:=Ui (c:=[]) (st:=[]) (v:=eY) ai2 rfl;have Nz:=iN.at ai2 (dm.A9 s7 aB) ⟨by simp,by simp[cH.after],by simp,by simp,by simp,by simp⟩;simp only[cH.after,mF,if_false,List.getLast?_nil,bt.ok]at x9;rw[if_neg (by simp)]at x9;exact aj _ (.over Nz x9)
 ·rw[if_pos aB]at aj ⊢;exact aj
theorem lR.ok{ms:dn}{m:cH}{r:rQ}(h:lR ms m r):zc ms m:=by cases h<;>assumption
theorem axq{h:ai}{a b c d e:F}{m:ey}{w:dO}{e7:List b'}(hw:cp aq m h w)(Z:eb aq m h [a,b,c,d,e] e7):CallsD aq s8 e7.toArray .returning w λe pg bj=>(∃v,e= .returned v)/\pg= .returning/\∃bf,Ext m h bf h/\cp aq bf h bj/\Below m.base w bj:=by refine aeV dx UD aiK aiL aiM aiQ aiR (ma aiP) aiN aiO (gI:=[a,b,c,d,e,.iZ,.aD,.aD,.bool U,.aD]) ?_ (aiS _ _ _ _ _ .iZ) hw Z (by simp) .iZ .returning λc an cs=>.inr ⟨arU c an cs,rfl,rfl⟩;unfold SI;have axr:rK .iface ag J .neq .iZ .iZ=o (.bool U):=rfl;simp only[ao,axr]
theorem axs{h:ai}{qz ID co zM i6 bF:Nat}{m:ey}{w:dO}{e7:List b'}{u:b'}{k fuel left:Int}{ei fd:F}{bz:List F}{bG et:F}(hw:cp aq m h w)(Z:eb aq m h [.ptr qz 0 0,.ptr ID 0 0,.ptr co 0 0,.ptr zM 0 0,.ptr i6 0 0] e7)(T5:b8 aq m h (.iface nc (.int j k)) u)(bo:h.cell qz=o [[.int j fuel]])(hm:h.cell ID=o [[.ptr bF 0 0]])(ad:h.cell bF=o [[ei,fd,.int j left]])(aK:h.cell co=o [bz])(am:bz.length=3)(bV:h.cell zM=o [[bG]])(an:h.cell i6=o [[et]])(fA:zM≠co)(kX:i6≠co)(mb:i6≠zM)(qr:kw j (fuel - left)=fuel - left):CallsD aq s8 e7.toArray (.panicking [{v:=u,recovered:=U}]) w λe pg bj=>(∃v,e= .returned v)/\pg= .panicking [{v:=u,recovered:=J}]/\∃bf,Ext m h bf (((h.set co (o [a3])).set zM (o [[.int j (fuel - left)]])).set i6 (o [[.int j k]]))/\cp aq bf (((h.set co (o [a3])).set zM (o [[.int j (fuel - left)]])).set i6 (o [[.int j k]])) bj/\Below m.base w bj:=by
 have tA:(h.set co (o [a3])).cell zM=o [[bG]]:=(eN fA).trans bV;have axt:((h.set co (o [a3])).set zM (o [[.int j (fuel - left)]])).cell i6=o [[et]]:=(eN mb).trans ((eN kX).trans an);refine aeV dx UD aiK aiL aiM aiQ aiR (ma aiP) aiN aiO (gI:=[.ptr qz 0 0,.ptr ID 0 0,.ptr co 0 0,.ptr zM 0 0,.ptr i6 0 0,.iface nc (.int j k),.int j k,.bool J,.bool J,.bool U]) ?_ (aiS _ _ _ _ _ (.iface nc (.int j k))) hw Z (by simp) T5 (.panicking [{v:=u,recovered:=J}]) λc an cs=>.inl (arV c an cs);unfold SI;have axu:rK .iface ag J .neq (.iface nc (.int j k)) .iZ=o (.bool J):=rfl;have axv:D1 nc J (.iface nc (.int j k))=o (.bS [.int j k,.bool J]):=by simp[D1]
 simp only[ao,ar,axu,axv,bo,hm,ad,aK,am,tA,axt,qr]
open Go Go.RowKit
abbrev ug(b bF:Nat)(code used:Int)(out:List F)(fuel:Int)(r:List F)(L:List cc):List cc:=a1 (b+1+1+1+1+1+1) [[.ptr bF 0 0]]::a1 (b+1+1+1+1) [[.int j code]]::a1 (b+1+1+1) [[.int j used]]::a1 (b+1+1) [out]::a1 (b+1) [[.int j fuel]]::a1 b [r]::L
abbrev yc(a0 b:Nat)(p f:Int)(r:List F)(fuel:Int)(x y z:F):List F:=[.ptr a0 0 0,.int j p,.int j f,.agg r,.int j fuel,.ptr b 0 0,.ptr (b+1) 0 0,.ptr (b+1+1) 0 0,.ptr (b+1+1+1) 0 0,.ptr (b+1+1+1+1) 0 0,.int j 0,.ptr (b+1+1+1+1+1+1) 0 0,x,y,.bool U,.bool U,.bool U,z]
def axw(ak:ai)(aO aL:Nat->Prop)(c:i8)(L:List cc)(b:Nat)(p f:Int)(r:List F)(fuel:Int)(q:rQ)(x:k8)(V:List F)(E:ai):Prop:=(∃x y z,V=yc c.a0 b p f r fuel x y z)/\match q with
 |.go _=>False
 |.over S v=>x= .ret/\∃h2 br,bZ v br/\aN ak aO aL E (ug b c.bF 0 (fuel - (S.left:Int)) br fuel r (pZ c L 0 h2 S))
 |.fail S k=>x= .panic (.iface nc (.int j k))/\∃cj:gt,cj.S=S/\aN ak aO aL E (ug b c.bF 0 0 a3 fuel r (put c L 0 cj))
section
variable{h E ak:ai}{ah al aO aL:Nat->Prop}{L:List cc}{c:i8}
theorem axx{C3 C4 C5 C6 C7 C8:cc}{h2:Nat}{S:bt}:pZ c (C3::C4::C5::C6::C7::C8::put c L 0 cj) (0+1+1+1+1+1+1) h2 S=C3::C4::C5::C6::C7::C8::pZ c L 0 h2 S:=by
 have:pZ c (put c L 0 cj) 0 h2 S=pZ c L 0 h2 S:=by unfold pZ;rw[iB]
 exact congrArg (λl=>C3::C4::C5::C6::C7::C8::l) this
theorem ai3{C3 C4 C5 C6 C7 C8:cc}{n:gt}:put c (C3::C4::C5::C6::C7::C8::put c L 0 n) (0+1+1+1+1+1+1) cj=C3::C4::C5::C6::C7::C8::put c L 0 cj:=by have:put c (put c L 0 n) 0 cj=put c L 0 cj:=iB;exact congrArg (λl=>C3::C4::C5::C6::C7::C8::l) this
theorem axy{i:Nat}(am:i+3<L.length)(cj:gt):fh c (put c L i cj) i cj:=by
 refine⟨?_,?_,?_,?_⟩<;>rw[vt]
 ·rw[if_pos (by omega),if_neg (by omega),if_neg (by omega),if_neg (by omega),if_pos rfl]
 ·rw[if_pos (by omega),if_neg (by omega),if_neg (by omega),if_pos rfl]
 ·rw[if_pos (by omega),if_neg (by omega),if_pos rfl]
 ·rw[if_pos (by omega),if_pos rfl]
theorem UH{b bF:Nat}{code used:Int}{out:List F}{fuel:Int}{r:List F}(am:3<L.length)(n:gt):fh c (ug b bF code used out fuel r (put c L 0 n)) (0+1+1+1+1+1+1) n:=((((((axy (i:=0) am n).cons (a1 b [r])).cons (a1 (b+1) [[.int j fuel]])).cons (a1 (b+1+1) [out])).cons (a1 (b+1+1+1) [[.int j used]])).cons (a1 (b+1+1+1+1) [[.int j code]])).cons (a1 (b+1+1+1+1+1+1) [[.ptr bF 0 0]])
def axz:rQ->Prop
 |.go _=>False
 |.over S v=>S.left<=2000/\v.size<=100000
 |.fail S _=>S.left<=2000
theorem ai4(c1:3<L.length)(an:c.ms.length=4)(hm:zd c.ms){b:Nat}{p f:Int}{r:List F}{fuel:Int}(aDW:0<=fuel/\fuel<=2000){m:cH}{q:rQ}(au:lR c.ms m q):axz q->∀(n:gt) (h:ai) (x y z:F),n.m=m->aN ak aO aL h (ug b c.bF 0 0 a3 fuel r (put c L 0 n))->∃e gI aj,bB (aU aq aa) 18 [.eM EO,.bP [],.cu 1,.bP [],.halt []] (yc c.a0 b p f r fuel x y z) [] h=o (e,gI,aj)/\axw ak aO aL c L b p f r fuel q e gI aj:=by
 induction au with
 |@go m bf q ok aC au aR=>
   intro aX n h x y z aA s;subst aA;have jB:=UH (c:=c) (b:=b) (bF:=c.bF) (code:=0) (used:=0) (out:=a3) (fuel:=fuel) (r:=r) c1 n;obtain⟨aM,I,aw,oQ⟩:=UC s jB an hm ok λai5 e=>by rw[aC]at e;cases e;exact au.ok.cY
   rw[aC]at oQ;obtain⟨bx,rfl,⟨bz,bG⟩,h2,bd⟩:=oQ;rw[ai3]at bd;have cB:=(s.cell 0 rfl).1;have aY:=bd.push [bx];obtain⟨e,gI,aj,be,et⟩:=aR aX ⟨h2,bf.S,bf.below,bf.top⟩ (I.push [bx]) (.ptr I.n 0 0) (.bool U) (.bool U) rfl aY.drop;refine⟨e,gI,aj,?_,et⟩;rw[<-be];rw[cy EO.eq_1];simp only[ao,ar,av,ap,b2,bN,cB,aw,bz,bG]
 |@over m S v ok aC=>
   intro aX n h x y z aA s;subst aA;have jB:=UH (c:=c) (b:=b) (bF:=c.bF) (code:=0) (used:=0) (out:=a3) (fuel:=fuel) (r:=r) c1 n;obtain⟨aM,I,aw,oQ⟩:=UC s jB an hm ok λai5 e=>by rw[aC]at e;cases e
   rw[aC]at oQ;obtain⟨bx,rfl,Z,h2,bd⟩:=oQ;rw[axx]at bd;obtain⟨Kp,uT⟩:=aX;obtain⟨bz,bG⟩:=Z.cV;have cB:=(s.cell 0 rfl).1;have aY:aN ak aO aL (I.push [bx]) (a1 I.n [bx]::ug b c.bF 0 0 a3 fuel r (pZ c L 0 h2 S)):=bd.push [bx];obtain⟨bL,ay,iq⟩:=aiJ _ v (b9 _) uT bx (I.push [bx]) Z;have iq:bZ v bL:=by rw[id_eq]at iq;exact iq
   obtain⟨et,e8⟩:=iq.cV;have ai6:(pZ c L 0 h2 S)[0]? =o (CS c.bF c.a0 h2 (S.left:Int)):=by unfold pZ;rw[List.getElem?_set_self (by rw[Nk];omega)]
   have ID:=(aY.cell 7 ai6).1;have AU:=(aY.cell 1 rfl).1;have qz:=(aY.cell 5 rfl).1;have co:=(aY.cell 4 rfl).1;have bs:=aY.set 4 rfl [bL];have bs:aN ak aO aL _ (a1 I.n [bx]::ug b c.bF 0 0 bL fuel r (pZ c L 0 h2 S)):=bs;have axA:=(bs.cell 7 ai6).1;have axB:=(bs.cell 1 rfl).1;have axC:=(bs.cell 5 rfl).1;have axD:=(bs.cell 3 rfl).1;have bE:=bs.set 3 rfl [[.int j (fuel - (S.left:Int))]];have bE:aN ak aO aL _ (a1 I.n [bx]::ug b c.bF 0 (fuel - (S.left:Int)) bL fuel r (pZ c L 0 h2 S)):=bE;have axE:=(bE.cell 2 rfl).1;have b3:=bE.set 2 rfl [[.int j 0]];have w:kw j (fuel - (S.left:Int))=fuel - (S.left:Int):=ew (by omega) (by omega);have f2:cd 2 (.ptr c.bF 0 0)=o (.ptr c.bF 0 2):=rfl;refine⟨.ret,yc c.a0 b p f r fuel (.ptr I.n 0 0) (.bool J) (.bool J),_,?_,⟨_,_,_,rfl⟩,rfl,h2,bL,iq,b3.drop⟩;rw[cy EO.eq_1];simp only[ao,ar,av,ap,b2,bN,cB,aw,bz,bG,et,e8,ay,ID,AU,qz,co,axA,axB,axC,axD,axE,w,f2]
 |@fail m S k ok aC=>
   intro aX n h x y z aA s;subst aA;have jB:=UH (c:=c) (b:=b) (bF:=c.bF) (code:=0) (used:=0) (out:=a3) (fuel:=fuel) (r:=r) c1 n;obtain⟨aM,I,aw,oQ⟩:=UC s jB an hm ok λai5 e=>by rw[aC]at e;cases e
   rw[aC]at oQ;obtain⟨rfl,cj,pB,bd⟩:=oQ;rw[ai3]at bd;have cB:=(s.cell 0 rfl).1;refine⟨.panic (.iface nc (.int j k)),yc c.a0 b p f r fuel x y z,_,?_,⟨_,_,_,rfl⟩,rfl,cj,pB,bd⟩;rw[cy EO.eq_1];simp only[ao,ar,av,ap,b2,bN,cB,aw]
end
open Go Go.RowKit
abbrev UI:List o8:=[.cell J 3 7,.cell U 1 8,.cell U 1 9]
noncomputable def Bc(V:List F)(h:ai):Option ((F⊕F)×ai):=((jc V h UI).map ju).map λv=>(.inl v,h)
noncomputable def zN(x:mi)(k:List F->ai->Option ((F⊕F)×ai)):Option ((F⊕F)×ai):=match x with
 |some (.halt _,V,h)=>k V h
 |some (.ret,V,h)=>Bc V h
 |_=>ag
noncomputable def NJ(args:List F)(h:ai)(x:mi):Option ((F⊕F)×ai):=match x with
 |some (.ret,V,cq)=>Bc V cq
 |some (.panic (.iface _ (.int _ k)),V,cq)=>match cq.cell (h.n+1+1+1+1+1),args with
   |some [[_,_,.int _ left]],[_,_,_,_,.int _ fuel]=>Bc V (((cq.set (h.n+1+1) (o [a3])).set (h.n+1+1+1) (o [[.int j (fuel - left)]])).set (h.n+1+1+1+1) (o [[.int j k]]))
   |_,_=>ag
 |_=>ag
noncomputable abbrev rj:=aU (aq) aa
noncomputable def Fj(args:List F)(h:ai):Option ((F⊕F)×ai):=zN (bB rj 18 [.bP L5,.halt [.code yb]] (args++ap (uf.length - args.length) .aD) [] h) λIE I=>
 zN (bB rj 18 [.bP AQ,.halt [.code wU]] IE [] I) λpm R=>
 zN (bB rj 18 [.bP L7,.halt [.code zK]] pm [] R) λwW aj=>
 zN (bB rj 18 [.bP L8,.halt [.code zL]] wW [] aj) λaxF aH=>
 zN (bB rj 18 [.bP L9,.halt [.code sf]] axF [] aH) λaxG bq=>
 NJ args h (bB rj 18 [.bP HB,.halt []] axG [] bq)
def ai7(ah al:Nat->Prop)(a0 cE cG:Nat)(ms:dn)(S:bt)(h:ai)(d:bt×ax×Int×Int)(q:(F⊕F)×ai):Prop:=∃br E,q=(.inl (.bS [.agg br,.int j d.2.2.1,.int j d.2.2.2]),E)/\bZ d.2.1 br/\gJ h ah al E (cm [ix a0 cE cG ms d.1.kept,gU cE d.1.G,iL cG d.1.cells d.1.log])
def NK(ah al:Nat->Prop)(a0 cE cG:Nat)(ms:dn)(S:bt)(h:ai)(args:List F)(d:bt×ax×Int×Int):Prop:=∃q,Fj args h=o q/\AC aq kr args h q/\ai7 ah al a0 cE cG ms S h d q
section
variable{h E ak:ai}{ah al aO aL:Nat->Prop}{L:List cc}{a0 cE cG:Nat}{ms:dn}{S:bt}{p f fuel:Int}{v:ax}{r:List F}
abbrev mw(b:Nat)(code used:Int)(out:List F)(fuel:Int)(r:List F)(L:List cc):List cc:=a1 (b+1+1+1+1) [[.int j code]]::a1 (b+1+1+1) [[.int j used]]::a1 (b+1+1) [out]::a1 (b+1) [[.int j fuel]]::a1 b [r]::L
abbrev vB(a0 b:Nat)(p f:Int)(r:List F)(fuel:Int)(c x y z:F):List F:=[.ptr a0 0 0,.int j p,.int j f,.agg r,.int j fuel,.ptr b 0 0,.ptr (b+1) 0 0,.ptr (b+1+1) 0 0,.ptr (b+1+1+1) 0 0,.ptr (b+1+1+1+1) 0 0,c,.aD,.aD,.aD,x,y,z,.aD]
abbrev lh(h:ai)(r:List F)(fuel:Int):ai:=((((h.push [r]).push [[.int j fuel]]).push [a3]).push [[.int j 0]]).push [[.int j 0]]
abbrev s9(a0:Nat)(p f:Int)(r:List F)(fuel:Int):List F:=[.ptr a0 0 0,.int j p,.int j f,.agg r,.int j fuel]
theorem IF(Z:bZ v r):bB rj 18 [.bP L5,.halt [.code yb]] (s9 a0 p f r fuel++ap (uf.length - (s9 a0 p f r fuel).length) .aD) [] h=o (.halt [.code yb],vB a0 h.n p f r fuel .aD .aD .aD .aD,lh h r fuel):=by obtain⟨bz,bG⟩:=Z.cV;unfold L5;simp only[ao,ar,av,ap,bz,bG]
theorem IG(s:aN ak aO aL h L):aN ak aO aL (lh h r fuel) (mw h.n 0 0 a3 fuel r L):=((((s.push [r]).push [[.int j fuel]]).push [a3]).push [[.int j 0]]).push [[.int j 0]]
theorem UJ{V:List F}{O u c:Nat}{br:List F}{used code:Int}(de:V.getD 7 .aD= .ptr O 0 0)(hu:V.getD 8 .aD= .ptr u 0 0)(rR:V.getD 9 .aD= .ptr c 0 0)(aK:E.cell O=o [br])(au:br.length=3)(bV:E.cell u=o [[.int j used]])(an:E.cell c=o [[.int j code]]):(jc V E UI).map ju=o (.bS [.agg br,.int j used,.int j code]):=by
 have aw:cR J 3 E (.ptr O 0 0)=o (.agg br):=by rw[gb,aK];exact gA au
 have ay:cR U 1 E (.ptr u 0 0)=o (.int j used):=by rw[gb,bV];rfl
 have be:cR U 1 E (.ptr c 0 0)=o (.int j code):=by rw[gb,an];rfl
 simp only[jc,de,hu,rR,aw,ay,be,du,i3,ju]
theorem NL(Z:bZ v r):oJ aq aa kr 93 uf (s9 a0 p f r fuel) h (.halt [.code yb]) (vB a0 h.n p f r fuel .aD .aD .aD .aD) (lh h r fuel):=(oJ.start Fi axb axc (axn _ _ _ _ _)).next (aZ:=18) dx axd (ma wV) axh axk (IF Z)
abbrev C9(h:ai)(r:List F)(fuel code:Int):ai:=(((lh h r fuel).set (h.n+1+1) (o [a3])).set (h.n+1+1+1) (o [[.int j 0]])).set (h.n+1+1+1+1) (o [[.int j code]])
theorem ai8(s:aN ak aO aL h L)(code:Int):aN ak aO aL (C9 h r fuel code) (mw h.n code 0 a3 fuel r L):=by have bd:aN ak aO aL (lh h r fuel) (mw h.n 0 0 a3 fuel r L):=IG s;have aY:aN ak aO aL _ (mw h.n 0 0 a3 fuel r L):=bd.set 2 rfl [a3];have bs:aN ak aO aL _ (mw h.n 0 0 a3 fuel r L):=aY.set 1 rfl [[.int j 0]];exact bs.set 0 rfl [[.int j code]]
theorem Fk{V:List F}(de:V.getD 7 .aD= .ptr (h.n+1+1) 0 0)(hu:V.getD 8 .aD= .ptr (h.n+1+1+1) 0 0)(rR:V.getD 9 .aD= .ptr (h.n+1+1+1+1) 0 0)(s:aN ak aO aL h L)(code:Int):(jc V (C9 h r fuel code) UI).map ju=o (.bS [.agg a3,.int j 0,.int j code]):=by have bd:aN ak aO aL (C9 h r fuel code) (mw h.n code 0 a3 fuel r L):=ai8 s code;exact UJ de hu rR (bd.cell 2 rfl).1 rfl (bd.cell 1 rfl).1 (bd.cell 0 rfl).1
theorem UK(x:(cm [ix a0 cE cG ms S.kept,gU cE S.G,iL cG S.cells S.log]).A h ah al)(code:Int):ai7 ah al a0 cE cG ms S h (S,ce,0,code) (.inl (.bS [.agg a3,.int j 0,.int j code]),C9 h r fuel code):=⟨a3,_,rfl,fD,(ai8 (aN.start x) code).drop.drop.drop.drop.drop⟩
theorem axH(Z:bZ v r)(x:(cm [ix a0 cE cG ms S.kept,gU cE S.G,iL cG S.cells S.log]).A h ah al)(au:fuel<0\/2000<fuel\/p<0\/4<=p):NK ah al a0 cE cG ms S h (s9 a0 p f r fuel) (S,ce,0,1):=by
 have bd:aN h ah al (lh h r fuel) (mw h.n 0 0 a3 fuel r _):=IG (aN.start x);have aW:=(bd.cell 0 rfl).1;have bD:=(bd.cell 1 rfl).1;have cl:=(bd.cell 2 rfl).1;have eg:=(bd.cell 3 rfl).1;have aY:aN h ah al _ (mw h.n 0 0 a3 fuel r _):=bd.set 2 rfl [a3];have d2:=(aY.cell 1 rfl).1;have bs:aN h ah al _ (mw h.n 0 0 a3 fuel r _):=aY.set 1 rfl [[.int j 0]];have ay:=(bs.cell 0 rfl).1;have run:bB rj 18 [.bP AQ,.halt [.code wU]] (vB a0 h.n p f r fuel .aD .aD .aD .aD) [] (lh h r fuel)=o (.ret,vB a0 h.n p f r fuel .aD (.bool J) .aD .aD,C9 h r fuel 1):=by
  unfold AQ;by_cases I:fuel<0
  ·have cF:decide (fuel<0)=J:=decide_eq_true I;simp only[ao,ar,cl,eg,d2,ay,cF]
  ·have cF:decide (fuel<0)=U:=decide_eq_false I;by_cases R:2000<fuel
   ·have cA:decide (2000<fuel)=J:=decide_eq_true R;simp only[ao,ar,cl,eg,d2,ay,cF,cA]
   ·have cA:decide (2000<fuel)=U:=decide_eq_false R;by_cases aj:p<0
    ·have dK:decide (p<0)=J:=decide_eq_true aj;simp only[ao,ar,cl,eg,d2,ay,cF,cA,dK]
    ·have dK:decide (p<0)=U:=decide_eq_false aj;have dR:decide (4<=p)=J:=decide_eq_true (by omega);simp only[ao,ar,cl,eg,d2,ay,cF,cA,dK,dR]
 refine⟨_,?_,((NL Z).next (aZ:=18) dx NG (ma wV) NH NI run).ret Fi IC (Fk rfl rfl rfl (aN.start x) 1),UK x 1⟩;unfold Fj;rw[IF Z];simp only[zN];rw[run];simp only[Bc];rw[Fk rfl rfl rfl (aN.start x) 1];rfl
theorem ai9{i:Nat}(s:aN ak aO aL h L){kept:List ax}(af:L[i]? =o (ix a0 cE cG ms kept))(am:ms.length=kept.length)(aH:ms.length=4){P:Nat}(az:P<4):(∀q:gZ,dY ag (o (4,5)) (.ptr a0 0 2) (.int q (P:Int))=o (.ptr a0 0 (2+P*5)))/\(∀k:Nat,cR U k h (.ptr a0 0 (2+P*5))=o (.bool (ms.getD P ag).isSome))/\(∀k:Nat,cR U k h (.ptr a0 0 (2+P*5+1))=o (rS (ms.getD P ag))):=by
 obtain⟨ah,al,x⟩:=s.get i af;obtain⟨row,aW,vx,_,_,_,iS⟩:=TO x am;obtain⟨bR,bQ,_⟩:=iS P (by rw[aH];exact az);refine⟨λq=>by simp[dY,az],λk=>?_,λk=>?_⟩
 ·rw[gb,aW,du,oq,du,pI,bR]
 ·rw[gb,aW,du,oq,du,pI,bQ]
theorem ai'(m:Option (List bC)):hX (rS m)=o (m.getD []).length/\∀s,kE s (o Uv) (rS m)=J:=by
 cases m with
 |none=>exact⟨rfl,λs=>rfl⟩
 |some L=>exact⟨(CZ L).1,λs=>(CZ L).2.1 s⟩
theorem axI(Z:bZ v r)(x:(cm [ix a0 cE cG ms S.kept,gU cE S.G,iL cG S.cells S.log]).A h ah al)(aH:ms.length=4)(cw:S.Good)(au:¬(fuel<0\/2000<fuel\/p<0\/4<=p))(aA:(ms.getD p.toNat ag).isNone\/f<0\/((hs ms p).length:Int)<=f):NK ah al a0 cE cG ms S h (s9 a0 p f r fuel) (S,ce,0,8):=by
 have bd:aN h ah al (lh h r fuel) (mw h.n 0 0 a3 fuel r [ix a0 cE cG ms S.kept,gU cE S.G,iL cG S.cells S.log]):=IG (aN.start x);have aW:=(bd.cell 0 rfl).1;have bD:=(bd.cell 1 rfl).1;have cl:=(bd.cell 2 rfl).1;have eg:=(bd.cell 3 rfl).1;have aY:aN h ah al _ (mw h.n 0 0 a3 fuel r _):=bd.set 2 rfl [a3];have d2:=(aY.cell 1 rfl).1;have bs:aN h ah al _ (mw h.n 0 0 a3 fuel r _):=aY.set 1 rfl [[.int j 0]];have ay:=(bs.cell 0 rfl).1;have cF:decide (fuel<0)=U:=decide_eq_false (by omega);have cA:decide (2000<fuel)=U:=decide_eq_false (by omega);have dK:decide (p<0)=U:=decide_eq_false (by omega);have dR:decide (4<=p)=U:=decide_eq_false (by omega);obtain⟨P,gd⟩:=ni (show 0<=p by omega);subst gd;obtain⟨bJ,iy,cg⟩:=ai9 bd (i:=5) (kept:=S.kept) rfl (aH.trans cw.kept.symm) aH (P:=P) (by omega);obtain⟨mh,qz⟩:=ai' (ms.getD P ag);have f2:cd 2 (.ptr a0 0 0)=o (.ptr a0 0 2):=rfl;have f0:cd 0 (.ptr a0 0 (2+P*5))=o (.ptr a0 0 (2+P*5)):=rfl;have f1:cd 1 (.ptr a0 0 (2+P*5))=o (.ptr a0 0 (2+P*5+1)):=rfl;have run:bB rj 18 [.bP AQ,.halt [.code wU]] (vB a0 h.n P f r fuel .aD .aD .aD .aD) [] (lh h r fuel)=o (.ret,vB a0 h.n P f r fuel .aD (.bool U) (.bool J) .aD,C9 h r fuel 8):=by
  unfold AQ;by_cases I:(ms.getD P ag).isSome=J
  ·by_cases R:f<0
   ·have hC:decide (f<0)=J:=decide_eq_true R;simp only[ao,ar,cl,eg,d2,ay,cF,cA,dK,dR,bJ,iy,f0,f2,I,hC]
   ·have hC:decide (f<0)=U:=decide_eq_false R;have iJ:decide ((((ms.getD P ag).getD []).length:Int)<=f)=J:=decide_eq_true (by
     rcases aA with aA|aA|aA
     ·rw[show((P:Nat):Int).toNat=P from rfl]at aA;cases hm:ms.getD P ag with
      |none=>rw[hm]at I;cases I
      |some l=>rw[hm]at aA;cases aA
     ·exact absurd aA R
     ·exact aA)
    simp only[ao,ar,cl,eg,d2,ay,cF,cA,dK,dR,bJ,iy,cg,f0,f1,f2,I,hC,mh,qz,iJ]
  ·have lJ:(ms.getD P ag).isSome=U:=by simpa using I
   simp only[ao,ar,cl,eg,d2,ay,cF,cA,dK,dR,bJ,iy,f0,f2,lJ]
 refine⟨_,?_,((NL Z).next (aZ:=18) dx NG (ma wV) NH NI run).ret Fi IC (Fk rfl rfl rfl (aN.start x) 8),UK x 8⟩;unfold Fj;rw[IF Z];simp only[zN];rw[run];simp only[Bc];rw[Fk rfl rfl rfl (aN.start x) 8];rfl
theorem aja(bd:aN ak aO aL (lh h r fuel) (mw h.n 0 0 a3 fuel r (ix a0 cE cG ms S.kept::L)))(aH:ms.length=4)(cw:S.Good)(au:¬(fuel<0\/2000<fuel\/p<0\/4<=p))(aA:¬((ms.getD p.toNat ag).isNone\/f<0\/((hs ms p).length:Int)<=f)):bB rj 18 [.bP AQ,.halt [.code wU]] (vB a0 h.n p f r fuel .aD .aD .aD .aD) [] (lh h r fuel)=o (.halt [.code wU],vB a0 h.n p f r fuel .aD (.bool U) (.bool U) .aD,lh h r fuel):=by
 have eg:=(bd.cell 3 rfl).1;have cF:decide (fuel<0)=U:=decide_eq_false (by omega);have cA:decide (2000<fuel)=U:=decide_eq_false (by omega);have dK:decide (p<0)=U:=decide_eq_false (by omega);have dR:decide (4<=p)=U:=decide_eq_false (by omega);obtain⟨P,gd⟩:=ni (show 0<=p by omega);subst gd;obtain⟨bJ,iy,cg⟩:=ai9 bd (i:=5) (kept:=S.kept) rfl (aH.trans cw.kept.symm) aH (P:=P) (by omega);obtain⟨mh,qz⟩:=ai' (ms.getD P ag);have f2:cd 2 (.ptr a0 0 0)=o (.ptr a0 0 2):=rfl;have f0:cd 0 (.ptr a0 0 (2+P*5))=o (.ptr a0 0 (2+P*5)):=rfl;have f1:cd 1 (.ptr a0 0 (2+P*5))=o (.ptr a0 0 (2+P*5+1)):=rfl;have ajb:¬(ms.getD P ag).isNone=J:=λe=>aA (.inl e);have I:(ms.getD P ag).isSome=J:=by cases hm:ms.getD P ag with
  |none=>rw[hm]at ajb;exact absurd rfl ajb
  |some l=>rfl
 have hC:decide (f<0)=U:=decide_eq_false λe=>aA (.inr (.inl e));have iJ:decide ((((ms.getD P ag).getD []).length:Int)<=f)=U:=decide_eq_false λe=>aA (.inr (.inr e));unfold AQ;simp only[ao,eg,cF,cA,dK,dR,bJ,iy,cg,f0,f1,f2,I,hC,mh,qz,iJ]
theorem ajc(bd:aN ak aO aL (lh h r fuel) (mw h.n 0 0 a3 fuel r L))(Z:bZ v r):bB rj 18 [.bP L7,.halt [.code zK]] (vB a0 h.n p f r fuel .aD (.bool U) (.bool U) .aD) [] (lh h r fuel)=if v.code=0 then o (.halt [.code zK],vB a0 h.n p f r fuel (.int j 0) (.bool U) (.bool U) (.bool U),lh h r fuel)else o (.ret,vB a0 h.n p f r fuel (.int j v.code) (.bool U) (.bool U) (.bool J),C9 h r fuel v.code):=by
 have aW:=(bd.cell 0 rfl).1;have bD:=(bd.cell 1 rfl).1;have cl:=(bd.cell 2 rfl).1;have fV:=(bd.cell 4 rfl).1;have aY:aN ak aO aL _ (mw h.n 0 0 a3 fuel r _):=bd.set 2 rfl [a3];have d2:=(aY.cell 1 rfl).1;have bs:aN ak aO aL _ (mw h.n 0 0 a3 fuel r _):=aY.set 1 rfl [[.int j 0]];have ay:=(bs.cell 0 rfl).1;have ca:=MG (h:=lh h r fuel) Z;obtain⟨bz,bG⟩:=Z.cV;unfold L7;by_cases aB:v.code=0
 ·have k:decide (v.code=0)=J:=decide_eq_true aB;rw[if_pos aB];rw[aB]at ca k;simp only[ao,ar,bN,cl,fV,d2,ay,bz,ca]
 ·have k:decide (v.code=0)=U:=decide_eq_false aB;rw[if_neg aB];simp only[ao,ar,bN,cl,fV,d2,ay,bz,ca,k]
end
open Go Go.RowKit
section
variable{h E ak:ai}{ah al aO aL:Nat->Prop}{L:List cc}{a0 cE cG:Nat}{ms:dn}{S:bt}{p f fuel:Int}{v:ax}{r:List F}
theorem axJ{bF bp:Nat}{left:Int}{top:jq}{a:List F}{g:F}(aV:bZ top.arg a)(a5:e9 3 g (eI top.eU))(aC:top.stack=[])(aA:top.names=[])(x:(cm (a1 bF [[.ptr a0 0 0,.bw bp 0 1 gr,.int j left]]::a1 bp [hI top a .aJ .aJ g]::L)).A h ah al):(cm (jO bF a0 bp left [] top::L)).A h ah al:=by refine r2 (λh ah al x=>?_) (λ_ _ _ y=>y) (G7 x);obtain⟨eJ,eK,dZ,eh,cb,dF,r⟩:=x;refine⟨⟨[],hI top a .aJ .aJ g,[]⟩,eJ,eK,dZ,eh,cb,⟨dZ,eh,λ_=>False,λ_=>False,dF,⟨λ_=>False,λ_=>False,λ_=>False,λ_=>False,ahw aV a5 aC aA,⟨trivial,λ_ h=>h,λ_ h=>h⟩,λk=>by simp,λD=>by simp,λ_ h=>h.elim,λ_ h=>h.elim⟩,λk=>by simp,λD=>by simp,λ_ _ h=>h,λ_ _ h=>h⟩,r⟩
abbrev Bd(p f:Int)(v:ax):jq:=⟨p,f,0,v,[],[],U,[]⟩
abbrev zO(h:ai)(a0:Nat)(r:List F)(fuel:Int):ai:=((lh h r fuel).push [[.ptr a0 0 0,.aJ,.int j fuel]]).push [[.ptr (h.n+1+1+1+1+1) 0 0]]
abbrev C'(h:ai):Nat:=h.n+1+1+1+1+1+1+1
abbrev Fl(h:ai)(a0:Nat)(p f:Int)(v:ax)(r bL:List F)(fuel:Int):ai:=((zO h a0 r fuel).push [hI (Bd p f v) bL .aJ .aJ .aJ]).set (h.n+1+1+1+1+1) (o [[.ptr a0 0 0,.bw (C' h) 0 1 gr,.int j fuel]])
theorem axK(bd:aN ak aO aL (lh h r fuel) (mw h.n 0 0 a3 fuel r L)):bB rj 18 [.bP L8,.halt [.code zL]] (vB a0 h.n p f r fuel (.int j 0) (.bool U) (.bool U) (.bool U)) [] (lh h r fuel)=o (.halt [.code zL],yc a0 h.n p f r fuel .aD .aD .aD,zO h a0 r fuel):=by have eg:=(bd.cell 3 rfl).1;have fV:((((lh h r fuel).push [[.ptr a0 0 0,.aJ,.int j fuel]]).push [[.e']]).cell (h.n+1+1+1+1+1+1))=o [[.e']]:=hb (h:=(lh h r fuel).push [[.ptr a0 0 0,.aJ,.int j fuel]]);have h9:∀x,(((lh h r fuel).push [[.ptr a0 0 0,.aJ,.int j fuel]]).push [[.e']]).set (h.n+1+1+1+1+1+1) (o x)=((lh h r fuel).push [[.ptr a0 0 0,.aJ,.int j fuel]]).push x:=λx=>nA (h:=(lh h r fuel).push [[.ptr a0 0 0,.aJ,.int j fuel]]);unfold L8;simp only[ao,ar,bY,eg,fV,h9]
theorem ajd(bd:aN ak aO aL (lh h r fuel) (mw h.n 0 0 a3 fuel r L)):aN ak aO aL (zO h a0 r fuel) (a1 (h.n+1+1+1+1+1+1) [[.ptr (h.n+1+1+1+1+1) 0 0]]::a1 (h.n+1+1+1+1+1) [[.ptr a0 0 0,.aJ,.int j fuel]]::mw h.n 0 0 a3 fuel r L):=(bd.push _).push _
theorem axL(bd:aN ak aO aL (lh h r fuel) (mw h.n 0 0 a3 fuel r L))(Z:bZ v r)(fQ:v.size<=100000):∃bL,bZ v bL/\bB rj 18 [.bP L9,.halt [.code sf]] (yc a0 h.n p f r fuel .aD .aD .aD) [] (zO h a0 r fuel)=o (.halt [.code sf],yc a0 h.n p f r fuel .aD .aD .aD,Fl h a0 p f v r bL fuel):=by
 obtain⟨bL,ay,iq⟩:=aiJ _ v (b9 _) fQ r (zO h a0 r fuel) Z;have iq:bZ v bL:=by rw[id_eq]at iq;exact iq
 refine⟨bL,iq,?_⟩;obtain⟨bz,bG⟩:=Z.cV;obtain⟨et,e8⟩:=iq.cV;have eW:aN ak aO aL (zO h a0 r fuel) (a1 (h.n+1+1+1+1+1+1) [[.ptr (h.n+1+1+1+1+1) 0 0]]::a1 (h.n+1+1+1+1+1) [[.ptr a0 0 0,.aJ,.int j fuel]]::mw h.n 0 0 a3 fuel r L):=ajd bd;have cB:=(eW.cell 0 rfl).1;have h9:=(eW.cell 6 rfl).1;have hP:=eW.push [hI (Bd p f v) bL .aJ .aJ .aJ];have d0:=(hP.cell 1 rfl).1;have d1:=(hP.cell 2 rfl).1;have f1:cd 1 (.ptr (h.n+1+1+1+1+1) 0 0)=o (.ptr (h.n+1+1+1+1+1) 0 1):=rfl;obtain⟨mT,fU,jV,rfl⟩:∃a b c,bL=[a,b,c]:=by match bL,et with|[a,b,c],_=>exact⟨a,b,c,rfl⟩
 simp only[qa,List.all_nil,rN,gv]at e8;obtain⟨ha,l4,j8⟩:=e8;have UL:(zO h a0 r fuel).n=C' h:=rfl;unfold Fl;generalize zO h a0 r fuel=aF at*;simp only[hI,j',nz,l3]at d0 d1 ⊢;unfold L9;simp only[ao,ar,ap,bY,bN,cB,h9,bz,ay,d0,d1,f1,ha,l4,j8,UL]
abbrev uh(h:ai):Nat:=h.n+1+1+1+1+1
abbrev NM(h:ai)(a0 cE cG:Nat)(ms:dn)(S:bt)(p f:Int)(v:ax):List cc:=[jO (uh h) a0 (C' h) (S.left:Int) [] (Bd p f v),ix a0 cE cG ms S.kept,gU cE S.G,iL cG S.cells S.log]
theorem axM{bL:List F}(bd:aN ak aO aL (lh h r fuel) (mw h.n 0 0 a3 fuel r [ix a0 cE cG ms S.kept,gU cE S.G,iL cG S.cells S.log]))(iq:bZ v bL)(bo:(S.left:Int)=fuel):aN ak aO aL (Fl h a0 p f v r bL fuel) (ug h.n (uh h) 0 0 a3 fuel r (NM h a0 cE cG ms S p f v)):=by have eW:aN ak aO aL (zO h a0 r fuel) (a1 (h.n+1+1+1+1+1+1) [[.ptr (h.n+1+1+1+1+1) 0 0]]::a1 (h.n+1+1+1+1+1) [[.ptr a0 0 0,.aJ,.int j fuel]]::mw h.n 0 0 a3 fuel r [ix a0 cE cG ms S.kept,gU cE S.G,iL cG S.cells S.log]):=ajd bd;have hP:=eW.push [hI (Bd p f v) bL .aJ .aJ .aJ];have kc:=hP.set 2 rfl [[.ptr a0 0 0,.bw (C' h) 0 1 gr,.int j fuel]];have vz:=kc.front 2 rfl;have vA:aN ak aO aL (Fl h a0 p f v r bL fuel) (jO (uh h) a0 (C' h) (S.left:Int) [] (Bd p f v)::([a1 (h.n+1+1+1+1+1+1) [[.ptr (uh h) 0 0]],a1 (h.n+1+1+1+1) [[.int j 0]],a1 (h.n+1+1+1) [[.int j 0]],a1 (h.n+1+1) [a3],a1 (h.n+1) [[.int j fuel]],a1 h.n [r]]++[ix a0 cE cG ms S.kept,gU cE S.G,iL cG S.cells S.log])):=vz.imp λ_ _ _ x=>axJ (top:=Bd p f v) iq (.inl ⟨rfl,rfl⟩) rfl rfl (by rw[bo];exact x);exact vA.imp λ_ _ _=>aN.perm List.perm_middle.symm
theorem axN(Z:bZ v r)(fQ:v.size<=100000)(x:(cm [ix a0 cE cG ms S.kept,gU cE S.G,iL cG S.cells S.log]).A h ah al)(aH:ms.length=4)(a5:xB ms)(hm:zd ms)(cw:S.Good)(Da:S.log.length<=900000)(au:¬(fuel<0\/2000<fuel\/p<0\/4<=p))(aA:¬((ms.getD p.toNat ag).isNone\/f<0\/((hs ms p).length:Int)<=f))(an:v.code=0):NK ah al a0 cE cG ms S h (s9 a0 p f r fuel) (match dp ms fuel.toNat p (gK ms p f) v [] 1 {S with left:=fuel.toNat}with
  |(b0,w,c)=>({b0 with left:=S.left},if c=0 then w else ce,fuel - (b0.left:Int),c)):=by
 have bd:aN h ah al (lh h r fuel) (mw h.n 0 0 a3 fuel r [ix a0 cE cG ms S.kept,gU cE S.G,iL cG S.cells S.log]):=IG (aN.start x);have qk:=aja (p:=p) (f:=f) bd aH cw au aA;have tD:=ajc (a0:=a0) (p:=p) (f:=f) bd Z;rw[if_pos an]at tD;have bx:=axK (a0:=a0) (p:=p) (f:=f) bd;obtain⟨bL,iq,aje⟩:=axL (a0:=a0) (p:=p) (f:=f) bd Z fQ;have P6:((fuel.toNat:Nat):Int)=fuel:=Int.toNat_of_nonneg (by omega);have hP:aN h ah al (Fl h a0 p f v r bL fuel) (ug h.n (uh h) 0 0 a3 fuel r (NM h a0 cE cG ms {S with left:=fuel.toNat} p f v)):=axM (S:={S with left:=fuel.toNat}) bd iq P6;have dB:=NL (a0:=a0) (p:=p) (f:=f) (fuel:=fuel) (h:=h) Z;have gm:=dB.next (aZ:=18) dx NG (ma wV) NH NI qk;have iu:=gm.next (aZ:=18) dx aiT (ma wV) aiU aiW tD;have kj:=iu.next (aZ:=18) dx axe (ma wV) axi axl bx;have sC:=kj.next (aZ:=18) dx axf (ma wV) axj axm aje;have cQ:∀q,NJ (s9 a0 p f r fuel) h (bB rj 18 [.bP HB,.halt []] (yc a0 h.n p f r fuel .aD .aD .aD) [] (Fl h a0 p f v r bL fuel))=o q->Fj (s9 a0 p f r fuel) h=o q:=λq aX=>by unfold Fj;rw[IF Z];simp only[zN];rw[qk];simp only;rw[tD];simp only;rw[bx];simp only;rw[aje];simp only;exact aX
 have NN:({S with left:=fuel.toNat}:bt).Good:=⟨cw.wf,cw.cells,cw.kept,cw.tH⟩;have q8:0<=p:=by omega
 have C2:(ms.getD p.toNat ag).isSome=J:=by
  cases hm:ms.getD p.toNat ag with
  |none=>rw[hm]at aA;exact absurd (.inl rfl) aA
  |some l=>rfl
 have axO:0<=f:=by
  rcases Int.lt_or_le f 0 with h|h
  ·exact absurd (.inr (.inl h)) aA
  ·exact h
 have vg:f.toNat<(hs ms p).length:=by
  rcases Int.lt_or_le f ((hs ms p).length:Int)with h|h
  ·omega
  ·exact absurd (.inr (.inr h)) aA
 have runs:=axp a5 (p:=p) (f:=f) (v:=v) (N:=fuel.toNat) NN (by unfold bt.bh;simp only;omega) (by simp only;omega) an q8 C2 axO vg (b9 _);have mu:=pc ms fuel.toNat p (gK ms p f) v [] 1 _ NN an (by simp);have hle:=Eh ms fuel.toNat p (gK ms p f) v [] 1 {S with left:=fuel.toNat};generalize dp ms fuel.toNat p (gK ms p f) v [] 1 {S with left:=fuel.toNat}=Db at runs mu hle ⊢;obtain⟨b0,w,c⟩:=Db;simp only at runs mu hle ⊢;have am:∀V E,bB rj 18 [.bP HB,.halt []] V [] E=bB rj 18 [.eM EO,.bP [],.cu 1,.bP [],.halt []] V [] E:=λV E=>by unfold HB;rw[Qe,Qf]
 rw[am]at cQ;have L0:∃qw,(aq).funcs[(s8:Nat)]? =o qw/\(qw.body.isNone=U/\(qw.name== "runtime.NumGoroutine")=U):=⟨_,UD,by kernel_rfl,by kernel_rfl⟩;have ne:∀{a b:Nat},a<b->¬(b=a):=λh e=>by omega
 by_cases aB:c=0
 ·subst aB;rw[if_neg (by simp)]at runs;obtain⟨e,gI,aj,be,⟨cb,fU,ei,rfl⟩,rfl,h2,br,k',kc⟩:=ai4 (c:=⟨uh h,a0,cE,cG,ms⟩) (L:=NM h a0 cE cG ms {S with left:=fuel.toNat} p f v) (b:=h.n) (p:=p) (f:=f) (r:=r) (fuel:=fuel) (show 3<4 by decide) aH hm (by omega) runs ⟨by omega,by have:=(B1 (mu.1.val rfl)).1;simp only at this;omega⟩ ⟨C' h,{S with left:=fuel.toNat},[],Bd p f v⟩ _ .aD .aD .aD rfl hP;have lr:=UJ (V:=yc a0 h.n p f r fuel cb fU ei) rfl rfl rfl (kc.cell 3 rfl).1 k'.cV.1 (kc.cell 2 rfl).1 (kc.cell 1 rfl).1;refine⟨_,cQ _ ?_,aeR (aZ:=18) (fX:=[9,14,10,11,12]) (vc:=[6,11,7,8,9]) dx sC Fi L0 (by decide) rfl (by decide) ai0 (ma wV) aiV aiX ((am _ _).trans be) ai1 (.ret λm w e7 hw Aq=>axq hw Aq) IC lr,br,aj,rfl,k',?_⟩
  ·rw[be];simp only[NJ,Bc];rw[lr];rfl
  ·exact kc.drop.drop.drop.drop.drop.drop.drop
 ·rw[if_pos aB]at runs;obtain⟨e,gI,aj,be,⟨cb,fU,ei,rfl⟩,rfl,cj,pB,kc⟩:=ai4 (c:=⟨uh h,a0,cE,cG,ms⟩) (L:=NM h a0 cE cG ms {S with left:=fuel.toNat} p f v) (b:=h.n) (p:=p) (f:=f) (r:=r) (fuel:=fuel) (show 3<4 by decide) aH hm (by omega) runs (show b0.left<=2000 by omega) ⟨C' h,{S with left:=fuel.toNat},[],Bd p f v⟩ _ .aD .aD .aD rfl hP;subst pB;have kc:aN h ah al aj (ug h.n (uh h) 0 0 a3 fuel r [jO (uh h) a0 cj.bp (cj.S.left:Int) cj.below cj.top,ix a0 cE cG ms cj.S.kept,gU cE cj.S.G,iL cG cj.S.cells cj.S.log]):=kc;have h5:=(kc.cell 0 rfl).1;have cF:=(kc.cell 1 rfl).1;have cA:=(kc.cell 2 rfl).1;have dK:=(kc.cell 3 rfl).1;have dR:=(kc.cell 4 rfl).1;obtain⟨g2,dS,aZ,g,a8⟩:=qF kc 6 rfl;have vz:aN h ah al _ (ug h.n (uh h) 0 0 a3 fuel r _):=kc.set 3 rfl [a3];have vA:aN h ah al _ (ug h.n (uh h) 0 (fuel - (cj.S.left:Int)) a3 fuel r _):=vz.set 2 rfl [[.int j (fuel - (cj.S.left:Int))]];have Dc:aN h ah al _ (ug h.n (uh h) c (fuel - (cj.S.left:Int)) a3 fuel r [jO (uh h) a0 cj.bp (cj.S.left:Int) cj.below cj.top,ix a0 cE cG ms cj.S.kept,gU cE cj.S.G,iL cG cj.S.cells cj.S.log]):=vA.set 1 rfl [[.int j c]];have lr:=UJ (V:=yc a0 h.n p f r fuel cb fU ei) rfl rfl rfl (Dc.cell 3 rfl).1 rfl (Dc.cell 2 rfl).1 (Dc.cell 1 rfl).1;refine⟨_,cQ _ ?_,aeR (aZ:=18) (fX:=[9,14,10,11,12]) (vc:=[6,11,7,8,9]) dx sC Fi L0 (by decide) rfl (by decide) ai0 (ma wV) aiV aiX ((am _ _).trans be) ai1 (.panic _ λm w e7 u hw Aq bV=>axs hw Aq bV dR h5 a8.m dK rfl cA cF (ne (by omega)) (ne (by omega)) (ne (by omega)) (ew (by omega) (by omega))) IC lr,a3,((aj.set (h.n+1+1) (o [a3])).set (h.n+1+1+1) (o [[.int j (fuel - (cj.S.left:Int))]])).set (h.n+1+1+1+1) (o [[.int j c]]),rfl,?_,?_⟩
  ·rw[be];simp only[NJ,a8.m,Bc];rw[lr];rfl
  ·simp only;rw[if_neg aB];exact fD
  ·exact Dc.drop.drop.drop.drop.drop.drop.drop
theorem ajf(Z:bZ v r)(fQ:v.size<=100000)(x:(cm [ix a0 cE cG ms S.kept,gU cE S.G,iL cG S.cells S.log]).A h ah al)(aH:ms.length=4)(a5:xB ms)(hm:zd ms)(cw:S.Good)(Da:S.log.length<=900000):NK ah al a0 cE cG ms S h (s9 a0 p f r fuel) (eu ms p f v fuel S):=by
 unfold eu;by_cases I:fuel<0\/2000<fuel\/p<0\/4<=p
 ·rw[if_pos I];exact axH Z x I
 rw[if_neg I];by_cases R:(ms.getD p.toNat ag).isNone\/f<0\/((hs ms p).length:Int)<=f
 ·rw[if_pos R];exact axI Z x aH cw I R
 rw[if_neg R];by_cases aj:v.code=0
 ·rw[if_neg (λe=>e aj)];exact axN Z fQ x aH a5 hm cw Da I R aj
 ·rw[if_pos aj];have bd:aN h ah al (lh h r fuel) (mw h.n 0 0 a3 fuel r [ix a0 cE cG ms S.kept,gU cE S.G,iL cG S.cells S.log]):=IG (aN.start x);have qk:=aja (p:=p) (f:=f) bd aH cw I R;have tD:=ajc (a0:=a0) (p:=p) (f:=f) bd Z;rw[if_neg aj]at tD;have dB:=NL (a0:=a0) (p:=p) (f:=f) (fuel:=fuel) (h:=h) Z;have gm:=dB.next (aZ:=18) dx NG (ma wV) NH NI qk;refine⟨_,?_,(gm.next (aZ:=18) dx aiT (ma wV) aiU aiW tD).ret Fi IC (Fk rfl rfl rfl (aN.start x) v.code),UK x v.code⟩;unfold Fj;rw[IF Z];simp only[zN];rw[qk];simp only;rw[tD];simp only[Bc];rw[Fk rfl rfl rfl (aN.start x) v.code];rfl
theorem axP(Z:bZ v r)(fQ:v.size<=100000)(x:(cm [ix a0 cE cG ms S.kept,gU cE S.G,iL cG S.cells S.log]).A h ah al)(aH:ms.length=4)(a5:xB ms)(hm:zd ms)(cw:S.Good)(Da:S.log.length<=900000):∃E,(∃br,aU aq aa kr (s9 a0 p f r fuel) h=o (.inl (.bS [.agg br,.int j (eu ms p f v fuel S).2.2.1,.int j (eu ms p f v fuel S).2.2.2]),E)/\bZ (eu ms p f v fuel S).2.1 br)/\gJ h ah al E (cm [ix a0 cE cG ms (eu ms p f v fuel S).1.kept,gU cE (eu ms p f v fuel S).1.G,iL cG (eu ms p f v fuel S).1.cells (eu ms p f v fuel S).1.log]):=by
 obtain⟨q,aX,ac,_⟩:=ajf (p:=p) (f:=f) (fuel:=fuel) Z fQ x aH a5 hm cw Da;have cY:QL (s9 a0 p f r fuel) h q:=by intro dZ eh aDX aDY aDZ UM lB gm f2 aD0 b6 bL nh iq axQ axR lq ww UN uI dF;injection nh with aw nh;injection nh with ay nh;injection nh with be nh;injection nh with b1 nh;injection nh with c4 nh;injection aw with aw;injection ay with _ ay;injection be with _ be;injection b1 with b1;injection c4 with _ c4;subst aw ay be b1 c4;obtain⟨bQ,uT,_,br,E,dB,gm,iu⟩:=ajf (p:=p) (f:=f) (fuel:=fuel) iq axQ dF axR lq ww UN uI;rw[aX]at uT;injection uT with uT;exact⟨br,E,uT.trans dB,gm,iu⟩
 have H:∃q,AC aq kr (s9 a0 p f r fuel) h q/\QL (s9 a0 p f r fuel) h q:=⟨q,ac,cY⟩;obtain⟨br,E,e,k',d⟩:=(Classical.choose_spec H).2 ah al a0 cE cG ms S p f fuel v r rfl Z fQ aH a5 hm cw Da x;refine⟨E,⟨br,?_,k'⟩,d⟩;unfold aU;rw[aql];show GI _ _=_;unfold GI;rw[dif_pos H,e]
end
section
variable{h E ak:ai}{ah al aO aL:Nat->Prop}{L A B:List cc}{X Y dd:cc}
theorem axS(y:Y.A h ah al):(ij (xy True) Y).A h ah al:=⟨λ_=>False,λ_=>False,ah,al,⟨trivial,λ_ h=>h,λ_ h=>h⟩,y,λk=>by simp,λD=>by simp,λ_ h=>h.elim,λ_ h=>h.elim⟩
theorem axT(x:(ij (xy True) Y).A h ah al):Y.A h ah al:=by
 obtain⟨eJ,eK,dZ,eh,⟨_,a,b⟩,y,dJ,g1,_,_⟩:=x;have aw:ah=dZ:=by funext k;exact propext ⟨λh=>((dJ k).1 h).resolve_left (a k),λh=>(dJ k).2 (.inr h)⟩
 have ay:al=eh:=by funext k;exact propext ⟨λh=>((g1 k).1 h).resolve_left (b k),λh=>(g1 k).2 (.inr h)⟩
 rw[aw,ay];exact y
theorem cm.app:∀{A B:List cc} {h:ai} {ah al:Nat->Prop},(cm (A++B)).A h ah al↔(ij (cm A) (cm B)).A h ah al
 |[],B,h,ah,al=>⟨axS,axT⟩
 |X::A,B,h,ah,al=>⟨λx=>G7 (r2 (λ_ _ _ y=>y) (λ_ _ _ y=>cm.app.1 y) x),λx=>r2 (λ_ _ _ y=>y) (λ_ _ _ y=>cm.app.2 y) (G5 x)⟩
theorem aN.wX{M rh:List cc}{cJ:ai->Prop}(s:aN ak aO aL h (A++M++B))(c:∀ah al,(cm M).A h ah al->∃E,cJ E/\gJ h ah al E (cm rh)):∃E,cJ E/\aN ak aO aL E (A++rh++B):=by
 have p:∀M:List cc,List.Perm (A++M++B) (M++(A++B)):=λM=>by have:=(List.perm_append_comm (l₁:=A) (l₂:=M)).append_right B;simpa[kS]using this
 obtain⟨ah,al,x,hv,a,b⟩:=s;have dF:=cm.app.1 (aN.perm (p M) x);obtain⟨E,r,d⟩:=adJ dF c;exact⟨E,r,gJ.chain hv a b (d.imp λ_ _ _ y=>aN.perm (p rh).symm (cm.app.2 y))⟩
structure aD2 where
 (a0 cE cG:Nat)
 ms:dn
end
theorem ajg:∀{ms:dn} {kept:List ax} {aQ:List (List F)} {p:Nat} {M:List bC} {v:ax} {r:List F},dk kept aQ->ms.length=kept.length->p<ms.length->bZ v r->∃r9,dk (kept.set p v) r9/\dy (oB ms aQ) (p*5) (.bool J::mP M::r)=oB (ms.set p (o M)) r9
 |[],kept,aQ,p,_,_,_,_,_,az,_=>by simp at az
 |m::ms,[],aQ,p,_,_,_,_,am,_,_=>by simp at am
 |m::ms,k::kept,aQ,p,M,v,r,h,am,az,Z=>by
   obtain⟨hi,rs,rfl,I,R⟩:=h;have aj:=I.cV.1;have aH:=Z.cV.1
   match hi,aj,r,aH with
   |[a,b,c],_,[x,y,z],_=>
     cases p with
     |zero=>exact⟨[x,y,z]::rs,⟨_,_,rfl,Z,R⟩,rfl⟩
     |succ p=>
       obtain⟨r9,bR,bQ⟩:=ajg (ms:=ms) (p:=p) (M:=M) R (by simpa using am) (by simpa using az) Z;refine⟨[a,b,c]::r9,⟨_,_,rfl,I,bR⟩,?_⟩;have:(p+1)*5=p*5+5:=by omega
       rw[this];unfold dy at bQ ⊢;simp only[oB,List.set_cons_succ,nz,l3,List.take_succ_cons,ho,fG];rw[show p*5+5+(0+1+1+1+1+1)=p*5+5+5 by omega];simp only[List.drop_succ_cons];rw[<-bQ];simp
section
variable{h E ak:ai}{ah al aO aL:Nat->Prop}{L:List cc}
theorem axV{b cE cG:Nat}{ms:dn}{kept:List ax}(s:aN ak aO aL h L)(i:Nat)(af:L[i]? =o (ix b cE cG ms kept))(am:ms.length=kept.length){p:Nat}(az:p<ms.length){M:List bC}{v:ax}{r:List F}(Z:bZ v r):∃E,e0 5 h (.ptr b 0 (2+p*5)) (.agg (.bool J::mP M::r))=o E/\aN ak aO aL E (L.set i (ix b cE cG (ms.set p (o M)) (kept.set p v))):=by
 refine s.call (cJ:=λE=>e0 5 h (.ptr b 0 (2+p*5)) (.agg (.bool J::mP M::r))=o E) i af λah al x=>?_;obtain⟨aQ,ab,aP,a2,bl,cr⟩:=x;obtain⟨r9,bR,bQ⟩:=ajg (M:=M) ab am az Z;have hlen:=H4 ab am;have aK:(F.bool J::mP M::r).all F.one=J:=by simp only[qa,(CZ M).2.2,Z.cV.2,rN];rfl
 refine⟨_,lu (es:=[oC cE cG ms aQ]) (e:=oC cE cG ms aQ) cr rfl aK (by simp[F.cells,Z.cV.1]) (by simp only[oC,ho,hlen];omega),ah,al,⟨r9,bR,aP,a2,bl,?_⟩,⟨b9 _,b9 _,λk _ jZ=>eN λe=>jZ ((aP k).2 e),λ_ _ _=>rfl⟩,λ_=>.inl,λ_=>.inl⟩;rw[lc,we];have:dy (oC cE cG ms aQ) (2+p*5) (.bool J::mP M::r)=oC cE cG (ms.set p (o M)) r9:=by unfold oC;rw[<-bQ];unfold dy;rw[show 2+p*5=p*5+1+1 by omega];simp only[List.take_succ_cons,nz];rw[show p*5+1+1+(F.bool J::mP M::r).length=p*5+(F.bool J::mP M::r).length+1+1 by omega];simp only[List.drop_succ_cons]
 simp only[F.cells,this]
abbrev yd:dn:=[ag,ag,ag,ag]
abbrev Dd:List ax:=[ce,ce,ce,ce]
abbrev wY:List Int:=[0,0,0,0,0,0,0,0,0,0,0,0]
abbrev gR:aI:=⟨[],[]⟩
def Fm(l:Nat):bt:=⟨gR,wY,[],Dd,l⟩
theorem axW(l:Nat):(Fm l).Good:=⟨abJ,rfl,rfl,λv Z=>by
 have:v=ce:=by simpa[Fm]using Z
 rw[this];exact za⟩
theorem ajh:(gU h.n gR).A (h.push [[.aJ,.aJ]]) (λk=>k=h.n) (λ_=>False):=auJ h
theorem axX{b:Nat}(ad:b=h.n):(iL b wY []).A (h.push [wY.map (F.int j)++[F.aJ]]) (λk=>k=b) (λ_=>False):=by subst ad;exact⟨.aJ,λk=>k=h.n,λ_=>False,λ_=>False,λ_=>False,⟨λ_=>n0,λ_ h=>h,sR _,hb⟩,.inl ⟨⟨rfl,rfl⟩,λ_ h=>h,λ_ h=>h⟩,λk=>by simp,λD=>by simp,λ_ _ h=>h,λ_ h=>h.elim⟩
theorem axY{b cE cG:Nat}(ad:b=h.n):(ix b cE cG yd Dd).A (h.push [oC cE cG yd [a3,a3,a3,a3]]) (λk=>k=b) (λ_=>False):=by subst ad;exact⟨[a3,a3,a3,a3],⟨_,_,rfl,fD,_,_,rfl,fD,_,_,rfl,fD,_,_,rfl,fD,rfl⟩,λ_=>n0,λ_ h=>h,sR _,hb⟩
theorem axZ(s:aN ak aO aL h L):∃E a0 cE cG,aU aq aa 39 [] h=o (.inl (.ptr a0 0 0),E)/\aN ak aO aL E (ix a0 cE cG yd Dd::gU cE gR::iL cG wY []::L):=by
 have bd:aN ak aO aL _ (gU h.n gR::L):=s.add (aG.push h _) ajh (λk ab=>qU ab.symm) (λ_ h=>h.elim);have aY:aN ak aO aL _ (iL (h.n+1) wY []::gU h.n gR::L):=bd.add (X:=iL (h.n+1) wY []) (E:=(h.push [[.aJ,.aJ]]).push [wY.map (F.int j)++[F.aJ]]) (eJ:=λk=>k=h.n+1) (eK:=λ_=>False) (aG.push _ _) (axX (h:=h.push [[.aJ,.aJ]]) rfl) (λk ab=>qU ab.symm) (λ_ h=>h.elim);have bs:aN ak aO aL _ (ix (h.n+1+1) h.n (h.n+1) yd Dd::iL (h.n+1) wY []::gU h.n gR::L):=aY.add (X:=ix (h.n+1+1) h.n (h.n+1) yd Dd) (E:=((h.push [[.aJ,.aJ]]).push [wY.map (F.int j)++[F.aJ]]).push [oC h.n (h.n+1) yd [a3,a3,a3,a3]]) (eJ:=λk=>k=h.n+1+1) (eK:=λ_=>False) (aG.push _ _) (axY (h:=(h.push [[.aJ,.aJ]]).push [wY.map (F.int j)++[F.aJ]]) rfl) (λk ab=>qU ab.symm) (λ_ h=>h.elim);have bE:=bs.imp λ_ _ _ x=>aN.perm (List.Perm.cons _ (List.Perm.swap _ _ _)) x;obtain⟨I,aw,rfl⟩:=auI (h:=h);have ay:aU aq aa 77 [] (h.push [[.aJ,.aJ]])=o (.inl (.ptr (h.n+1) 0 0),(h.push [[.aJ,.aJ]]).push [wY.map (F.int j)++[F.aJ]]):=by refine a4 arJ rfl ?_;unfold aez;simp only[ao,ar,av,ap]
 refine⟨_,h.n+1+1,h.n,h.n+1,?_,bE⟩;refine a4 arF rfl ?_;unfold adT;simp only[ao,ar,av,ap,bY,bN,aw,ay];rfl
variable{cE il i D:Nat}{G H:aI}
theorem UO{X:cc}(af:L[i]? =o X):L.set i X=L:=by
 have am:i<L.length:=(fO.1 af).1;have:X=L[i]:=by have:=(fO.1 af).2;exact this.symm
 rw[this];exact List.set_getElem_self am
end
abbrev aji(b:Nat):List F:=[.bw b 0 12 wm,.aJ,.e',.e',.e',.e',.int j 0,.int j 0,.aJ,.int j 0,.int j 0,.aJ,.int j 0,.int j 0,.aJ,.int j 0,.int j 0,.aJ,.aJ,.aJ,.aJ,.aJ]
section
variable{h E ak:ai}{ah al aO aL:Nat->Prop}{L:List cc}
end
theorem De:(aq).underlying 3=o (.int j):=by kernel_rfl
theorem ax0{ms:dn}{S:bt}(cw:S.Good){p f fuel:Int}{v:ax}:(eu ms p f v fuel S).1.Good/\(eu ms p f v fuel S).1.log.length<=S.log.length+2000/\((eu ms p f v fuel S).2.2.2=0->(eu ms p f v fuel S).2.1.code=0)/\(eu ms p f v fuel S).2.1.size<=100000:=by
 unfold eu;have z:ce.size<=100000:=by decide
 split
 ·exact⟨cw,by simp only;omega,λh=>by simp at h,z⟩
 ·split
  ·exact⟨cw,by simp only;omega,λh=>by simp at h,z⟩
  ·split
   ·rename_i I;exact⟨cw,by simp only;omega,λh=>absurd h I,z⟩
   ·rename_i I R aj;have NN:({S with left:=fuel.toNat}:bt).Good:=⟨cw.wf,cw.cells,cw.kept,cw.tH⟩;have mu:=pc ms fuel.toNat p (gK ms p f) v [] 1 _ NN (by simpa using aj) (by simp);generalize dp ms fuel.toNat p (gK ms p f) v [] 1 {S with left:=fuel.toNat}=q at mu;obtain⟨b0,w,c⟩:=q;have g:=mu.1.cY;have m:=mu.1.bh;unfold bt.bh at m;simp only at g m ⊢;refine⟨⟨g.wf,g.cells,g.kept,g.tH⟩,by omega,λan=>?_,?_⟩
    ·rw[if_pos an];exact mu.1.val an
    ·by_cases an:c=0
     ·rw[if_pos an];have:=(B1 (mu.1.val an)).1;simp only at this;omega
     ·rw[if_neg an];exact z
def ye(ms:dn):Prop:=∀M,o M∈ms->(fl M).1=0
theorem ye.fun{ms:dn}(h:ye ms){p:Int}:∀x∈hs ms p,x.fault (hs ms p).length 0=0/\x.size<=120:=by
 intro x aF;unfold hs at aF ⊢;cases hm:ms.getD p.toNat ag with
 |none=>rw[hm]at aF;simp at aF
 |some M=>
   rw[hm]at aF;have ga:o M∈ms:=by
    rw[cZ]at hm;cases a5:ms[p.toNat]? with
    |none=>rw[a5]at hm;simp at hm
    |some O=>rw[a5]at hm;simp only[qT]at hm;subst hm;exact o6 a5
   exact(TK (h M ga)).2.2 x aF
theorem ye.cY{ms:dn}(h:ye ms):xB ms:=λ_ x aF=>(h.fun x aF).1
theorem ye.sized{ms:dn}(h:ye ms):zd ms:=λp f=>by
 unfold mm;have I:=y5 _ (gK ms p f) (b9 _) 0;have R:(gK ms p f).size<=120:=by
  unfold gK;by_cases ab:f.toNat<(hs ms p).length
  ·have e:(hs ms p).getD f.toNat jK=(hs ms p)[f.toNat]:=by simp[cZ,ab]
   rw[e];exact(h.fun _ (jl ab)).2
  ·have e:(hs ms p).getD f.toNat jK=jK:=by simp[cZ,mE (Nat.le_of_not_lt ab)]
   rw[e];decide
 simp only[fz,hj];omega
section
variable{h:ai}
theorem aN.UP{L:List cc}(s:aN h (λ_=>False) (λ_=>False) E L):aG h E:=by obtain⟨_,_,_,c,_⟩:=s;exact⟨c.n,c.ids,λk ab=>c.cell k ab (λh=>h),λD ae=>c.hw D ae (λh=>h)⟩
end
structure fp where
 (kind p q k h r g n:Int)
 m:List bC
structure jr where
 (code fuel:Int)
 v:ax
structure dh where
 ms:dn
 S:bt
 a7:List (List ax)
def jr.no(c:Int):jr:=⟨c,0,ce⟩
def jr.ok(v:ax):jr:=⟨0,0,v⟩
def fx(p:Int):Bool:=decide (0<=p)&&decide (p<4)
theorem nl{p:Int}:fx p=J↔0<=p/\p<4:=by simp[fx]
def dh.hand(H:dh)(p:Int):List ax:=H.a7.getD p.toNat []
def dh.load(H:dh)(p:Int)(m:List bC):dh×Int:=
 if fx p=U then(H,1)
 else if(fl m).1≠0 then(H,(fl m).1)
 else({H with ms:=H.ms.set p.toNat (o m),S:={H.S with kept:=H.S.kept.set p.toNat ce}},0)
def dh.graph(H:dh)(G:aI):dh:={H with S:={H.S with G:=G}}
def dh.jD(H:dh)(p n c:Int):dh×jr:=
 if c≠0 then(H,.no c)else({H with a7:=H.a7.set p.toNat (H.hand p++[ge n])},.ok (ge n))
def dh.call(H:dh)(x:fp):dh×jr:=
 if 0<=x.h/\(fx x.p=U\/((H.hand x.p).length:Int)<=x.h)then(H,.no 8)
 else match eu H.ms x.p x.k (if 0<=x.h then(H.hand x.p).getD x.h.toNat ce else kG x.n) 2000 H.S with
  |(b0,v,n,c)=>({H with S:=b0},⟨c,n,v⟩)
def dh.step(H:dh)(x:fp):dh×jr:=
 if x.kind=1 then((H.load x.p x.m).1,.no (H.load x.p x.m).2)
 else if x.kind=2\/x.kind=3 then
  (if fx x.p=U then(H,.no 1)
  else if x.kind=2 then(H.graph (H.S.G.iv x.k x.r x.g).1).jD x.p (H.S.G.iv x.k x.r x.g).2.1 (H.S.G.iv x.k x.r x.g).2.2
  else(H.graph (H.S.G.ih x.q x.k x.r x.g).1).jD x.p (H.S.G.ih x.q x.k x.r x.g).2.1 (H.S.G.ih x.q x.k x.r x.g).2.2)
 else if x.kind=4 then H.call x
 else if x.kind=5 then(H.graph (H.S.G.cut x.g).1,.no (H.S.G.cut x.g).2)
 else if x.kind=6 then(H.graph H.S.G.gate.1,if H.S.G.gate.2.2≠0 then .no H.S.G.gate.2.2 else .ok (kG H.S.G.gate.2.1))
 else(H,.no 2)
def p0:dh:=⟨yd,Fm 0,[[],[],[],[]]⟩
structure dh.Good(H:dh):Prop where
 ms:H.ms.length=4
 ok:ye H.ms
 st:H.S.Good
 a7:H.a7.length=4
 cap:∀l∈H.a7,∀v∈l,∃n:Int,v=ge n/\0<=n
theorem UQ:p0.Good:=⟨rfl,λM kJ=>by simp[p0]at kJ,axW 0,rfl,λl am v Z=>by
 have:l=[]:=by simpa[p0]using am
 rw[this]at Z;cases Z⟩
theorem ye.set{ms:dn}(h:ye ms){p:Nat}{M:List bC}(aB:(fl M).1=0):ye (ms.set p (o M)):=by
 intro N e5;rcases List.mem_or_eq_of_mem_set e5 with I|I
 ·exact h N I
 ·injection I with I;rw[I];exact aB
theorem bt.Good.g9{S:bt}(h:S.Good){p:Nat}{v:ax}(Z:v.code=0):({S with kept:=S.kept.set p v}:bt).Good:=⟨h.wf,h.cells,by simpa using h.kept,λw hw=>by
  rcases List.mem_or_eq_of_mem_set hw with I|I
  ·exact h.tH w I
  ·rw[I];exact Z⟩
theorem dh.Good.hand{H:dh}(g:H.Good){p:Int}:∀v∈H.hand p,∃n:Int,v=ge n/\0<=n:=by
 intro v Z;unfold dh.hand at Z;by_cases az:p.toNat<H.a7.length
 ·rw[cZ,fT az]at Z;exact g.cap _ (jl az) v Z
 ·rw[cZ,mE (by omega)]at Z;cases Z
theorem dh.Good.graph{H:dh}(g:H.Good){G:aI}(dm:G.dg):(H.graph G).Good:=⟨g.ms,g.ok,⟨dm,g.st.cells,g.st.kept,g.st.tH⟩,g.a7,g.cap⟩
theorem dh.Good.jD{H:dh}(g:H.Good){p n c:Int}(aA:0<=n):(H.jD p n c).1.Good:=by
 unfold dh.jD;split
 ·exact g
 ·refine⟨g.ms,g.ok,g.st,by simpa using g.a7,λl am v Z=>?_⟩;rcases List.mem_or_eq_of_mem_set am with I|I
  ·exact g.cap l I v Z
  ·rw[I]at Z;rcases qV.1 Z with R|R
   ·exact g.hand v R
   ·exact⟨n,by simpa using R,aA⟩
theorem UR{n:bi}:0<=(G.add n).2.1:=by
 unfold aI.add;split
 ·exact Int.le_refl _
 ·split
  ·exact Int.le_refl _
  ·split
   ·exact Int.le_refl _
   ·exact Int.natCast_nonneg _
theorem ax1{c r g:Int}:0<=(G.iv c r g).2.1:=by
 unfold aI.iv;split
 ·exact UR
 ·exact Int.le_refl _
theorem ax2{p f r g:Int}:0<=(G.ih p f r g).2.1:=by
 unfold aI.ih;split
 ·exact UR
 ·exact Int.le_refl _
theorem ajj(n:Int):(ge n).size<=100000:=by simp[ge,ax.size,j2]
theorem ajk(n:Int):(kG n).size<=100000:=by simp[kG,ax.size,j2]
theorem dh.Good.arg{H:dh}(g:H.Good)(x:fp):(if 0<=x.h then(H.hand x.p).getD x.h.toNat ce else kG x.n).code=0/\(if 0<=x.h then(H.hand x.p).getD x.h.toNat ce else kG x.n).size<=100000:=by
 split
 ·by_cases af:x.h.toNat<(H.hand x.p).length
  ·have e:(H.hand x.p).getD x.h.toNat ce=(H.hand x.p)[x.h.toNat]:=by simp[cZ,af]
   rw[e];obtain⟨n,I,R⟩:=g.hand _ (jl af);rw[I];exact⟨KO R,ajj n⟩
  ·have e:(H.hand x.p).getD x.h.toNat ce=ce:=by simp[cZ,mE (Nat.le_of_not_lt af)]
   rw[e];exact⟨za,by decide⟩
 ·exact⟨GD _,ajk _⟩
structure NO(H:dh)(q:dh×jr):Prop where
 cY:q.1.Good
 log:q.1.S.log.length<=H.S.log.length+2000
 val:q.2.code=0->q.2.v.code=0
 size:q.2.v.size<=100000
 hand:∀l∈q.1.a7,l.length<=1000\/∃ch∈H.a7,l.length<=ch.length+1
theorem zP(c:Int):(jr.no c).v.size<=100000:=(by decide:ce.size<=100000)
theorem NO.same{H k5:dh}{e:jr}(g:k5.Good)(am:k5.S.log=H.S.log)(bA:k5.a7=H.a7)(I:e.code=0->e.v.code=0)(R:e.v.size<=100000):NO H (k5,e):=⟨g,by rw[am];exact Nat.le_add_right _ _,I,R,λl hm=>.inr ⟨l,by rw[<-bA];exact hm,Nat.le_succ _⟩⟩
theorem ajl{H k5:dh}(g:k5.Good)(am:k5.S.log=H.S.log)(bA:k5.a7=H.a7){p n c:Int}(aA:0<=n):NO H (k5.jD p n c):=by
 refine⟨g.jD aA,?_,?_,?_,?_⟩
 ·unfold dh.jD;split
  ·rw[am];exact Nat.le_add_right _ _
  ·show k5.S.log.length<=_;rw[am];exact Nat.le_add_right _ _
 ·unfold dh.jD;split
  ·rename_i h;exact λE=>absurd E h
  ·exact λ_=>KO aA
 ·unfold dh.jD;split
  ·exact zP _
  ·exact ajj _
 ·unfold dh.jD;split
  ·exact λl hm=>.inr ⟨l,by rw[<-bA];exact hm,Nat.le_succ _⟩
  ·intro l hm;rcases List.mem_or_eq_of_mem_set hm with I|I
   ·exact .inr ⟨l,by rw[<-bA];exact I,Nat.le_succ _⟩
   ·unfold dh.hand at I;by_cases az:p.toNat<k5.a7.length
    ·rw[cZ,fT az,qT]at I;exact .inr ⟨k5.a7[p.toNat],by rw[<-bA];exact jl az,by rw[I];simp⟩
    ·rw[cZ,mE (by omega),Option.getD_none]at I;exact .inl (by rw[I];simp)
theorem dh.Good.step{H:dh}(g:H.Good)(x:fp):NO H (H.step x):=by
 unfold dh.step;by_cases cF:x.kind=1
 ·rw[if_pos cF];unfold dh.load;by_cases I:fx x.p=U
  ·rw[if_pos I];exact .same g rfl rfl (λh=>absurd h (by simp[jr.no])) (zP _)
  ·rw[if_neg I];by_cases R:(fl x.m).1≠0
   ·rw[if_pos R];exact .same g rfl rfl (λh=>absurd h R) (zP _)
   ·rw[if_neg R];exact .same ⟨by simpa using g.ms,g.ok.set (rM.1 R),g.st.g9 za,g.a7,g.cap⟩ rfl rfl (λ_=>za) (zP _)
 rw[if_neg cF];by_cases cA:x.kind=2\/x.kind=3
 ·rw[if_pos cA];by_cases I:fx x.p=U
  ·rw[if_pos I];exact .same g rfl rfl (λh=>absurd h (by simp[jr.no])) (zP _)
  ·rw[if_neg I];split
   ·exact ajl (H:=H) (k5:=H.graph (H.S.G.iv x.k x.r x.g).1) (g.graph (g.st.wf.iv _ _ _)) rfl rfl ax1
   ·exact ajl (H:=H) (k5:=H.graph (H.S.G.ih x.q x.k x.r x.g).1) (g.graph (g.st.wf.ih _ _ _ _)) rfl rfl ax2
 rw[if_neg cA];by_cases dR:x.kind=4
 ·rw[if_pos dR];unfold dh.call;by_cases I:0<=x.h/\(fx x.p=U\/((H.hand x.p).length:Int)<=x.h)
  ·rw[if_pos I];exact .same g rfl rfl (λh=>absurd h (by simp[jr.no])) (zP _)
  ·rw[if_neg I];have:=ax0 (ms:=H.ms) (p:=x.p) (f:=x.k) (fuel:=2000) (v:=if 0<=x.h then(H.hand x.p).getD x.h.toNat ce else kG x.n) g.st;generalize eu H.ms x.p x.k (if 0<=x.h then(H.hand x.p).getD x.h.toNat ce else kG x.n) 2000 H.S=q at this;obtain⟨b0,v,n,c⟩:=q;obtain⟨R,aj,aH,bq⟩:=this;exact⟨⟨g.ms,g.ok,R,g.a7,g.cap⟩,aj,aH,bq,λl hm=>.inr ⟨l,hm,Nat.le_succ _⟩⟩
 rw[if_neg dR];by_cases hC:x.kind=5
 ·rw[if_pos hC];exact .same (g.graph (g.st.wf.cut _)) rfl rfl (λ_=>za) (zP _)
 rw[if_neg hC];by_cases iJ:x.kind=6
 ·rw[if_pos iJ];refine .same (g.graph g.st.wf.gate) rfl rfl ?_ ?_
  ·split
   ·rename_i h;exact λE=>absurd E h
   ·exact λ_=>GD _
  ·split
   ·exact zP _
   ·exact ajk _
 ·rw[if_neg iJ];exact .same g rfl rfl (λh=>absurd h (by simp[jr.no])) (zP _)
theorem ax3{H:dh}{x:fp}(aF:x.kind=1):H.step x=((H.load x.p x.m).1,.no (H.load x.p x.m).2):=by unfold dh.step;rw[if_pos aF]
theorem US{n:bi}(h:(G.add n).2.2≠0):(G.add n).1=G:=by
 unfold aI.add at h ⊢;split
 ·rfl
 ·split
  ·rfl
  ·split
   ·rfl
   ·rename_i I R aj;rw[if_neg I,if_neg R,if_neg aj]at h;exact absurd rfl h
theorem ax4{c r g:Int}(h:(G.iv c r g).2.2≠0):(G.iv c r g).1=G:=by
 unfold aI.iv at h ⊢;split
 ·rename_i I;rw[if_pos I]at h;exact US h
 ·rfl
theorem ax5{p f r g:Int}(h:(G.ih p f r g).2.2≠0):(G.ih p f r g).1=G:=by
 unfold aI.ih at h ⊢;split
 ·rename_i I;rw[if_pos I]at h;exact US h
 ·rfl
def ajm:List bb:=[Ep,.ops [.i .l (.call (.c (.fn 39 [] [])) []),.i .l (.build [.e',.aJ,.aJ,.aJ,.aJ] [(0,1),(1,4)] [(0,(.l 0))]),.i .l (.box 5 (.l 0)),B8],.ret]
theorem ax6:cv aq aa 24 0 1 [0] ajm [(.v 0)] U:=by refine⟨_,_,Tryz.func24,rfl,rfl,?_,?_,?_,?_,?_⟩<;>kernel_rfl
def ajn:List bb:=[.ops [Rk],.ops [bc,rU,cn,wo,ajo,GS,pK],.ret]
theorem ax7:cv aq aa 57 1 2 [0,2] ajn [(.v 1)] J:=by refine⟨_,_,Tryz.func57,rfl,rfl,?_,?_,?_,?_,?_⟩<;>kernel_rfl
def NP:List bb:=[aeH,.ops [dc,NQ,.i (.v 7) vh],.cond (.v 7) [LS,.ret] [],.ops [EJ,.i .l (.call (.c (.fn 40 [] [])) [.l 0]),cn,fs,ft,ajp,AB,ajq],.ops [NR,aT,FS],.cond (.v 8) [.ops [NR,aT,je],.ret] [],.ops [bc,ct,dC,aT,dc,hV,.i .l (.build [.bool U,.aJ,.int j 0,.int j 0,.aJ] [(0,1),(1,1),(2,3)] [(0,(.c (.bool J))),(1,(.l 0))]),.i .l (.lN (.l 3)),kI,.i .l (.fe ag (o (4,5)) (.l 0) (.l 4)),.i .n (.store 5 (.l 0) (.l 3))],u2,.ret]
theorem UT:cv aq aa 56 3 9 [0,1,2,5,6,7,8,11,19] NP [(.v 4)] U:=by refine⟨_,_,Tryz.func56,rfl,rfl,?_,?_,?_,?_,?_⟩<;>kernel_rfl
def UU:List bb:=[.ops [.i (.v 4) KX],.ops [c6,afY],.cond (.v 6) [.ops [c6,Az,ajr],.ret] [],.ops [hd,KY,xP,rb],.ops [bc,dc,xQ,g4,xD,aT,tR,aev,Sh,g4,QU,.ca [⟨ag,U,1,.l 6,(.l 5)⟩,⟨ag,J,3,.v 5,(.l 4)⟩],.i .l (.app J 35 (.l 5) (.l 0)),.i .l (.fe (o 35) ag (.l 0) (.l 4)),.i .l (.fe ag (o (4,1)) (.l 3) (.l 11)),.i .n (.store 3 (.l 1) (.l 7)),lT,.ca [⟨ag,J,3,.l 1,(.l 7)⟩]],.ops [tR,K0,ajr],.ret]
theorem ajs:cv aq aa 59 4 7 [0,1,2,3,8,9,11] UU [(.cell J 5 4)] U:=by refine⟨_,_,Tryz.func59,rfl,rfl,?_,?_,?_,?_,?_⟩<;>kernel_rfl
def IH:List bb:=[UW,.ops [.i .l (.db 7 (.v 2)),aT,AK,xO,wF],.ops [NS,aT,ajt],.cond (.v 8) [.ops [nF,aT,NQ,wq,cn,aju,ld,EW,ajv,Lb,ajw,ae6,ajx,ajy,ajz,ajA,.i (.v 9) ajB],.cond (.v 9) [.ops [ajC,n9],.ret] [],.ops [bc,nF,aT,xC,g4,xD,aT,NS,aT,ajD,jP,wF]] [],.ops [bc,ct,dC,aT,nF,aT,qA,aT,sT,.i .l (.call (.c (.fn 12 [] [])) [.l 5,.l 3,.l 1,.l 0,.c (.int j 2000)]),cn,fs,ft,.i .l (.ext (.l 2) 2),xP,.ca [⟨ag,U,1,.l 11,(.l 10)⟩,⟨ag,U,1,.l 9,(.l 8)⟩,⟨ag,U,1,.l 7,(.l 6)⟩,⟨ag,J,3,.v 4,(.l 5)⟩],.i .n (.store 3 (.v 5) (.l 2)),LD,nG],.ops [kH,ky,tR,ajE,n9],.ret]
theorem NT:cv aq aa 61 2 10 [0,1,3,4,5,6,7,8,14,31] IH [(.cell J 5 3)] U:=by refine⟨_,_,Tryz.func61,rfl,rfl,?_,?_,?_,?_,?_⟩<;>kernel_rfl
def wZ:List bb:=[UW,.ops [r3,aee],.block 0 [.ops [aef,AN],.cond (.v 11) [.ops [bc,nF,aT,.i .l (.db 8 (.v 2)),UX,.i .l (.call (.c (.fn 56 [] [])) [.l 4,.l 2,.l 0]),Az,n9],.ret] [.ops [aeg,zm],.cond (.v 12) [] [.ops [aeh,zm]],.cond (.v 12) [.ops [nF,aT,NQ,.i (.v 13) vh],.cond (.v 13) [.ops [ajF,n9],.ret] [],.ops [r3,aT,.i (.v 14) Mg],.cond (.v 14) [.ops [bc,ct,dC,aT,ct,dC,aT,qA,aT,II,aT,Fo,aT,.i .l (.call (.c (.fn 58 [] [])) [.l 6,.l 4,.l 2,.l 0]),cn,fs,ft,B6,d8],.ops [bc,nF,aT,fu,hV,ajG,n9],.ret] [],.ops [bc,ct,dC,aT,ct,dC,aT,tK,aT,qA,aT,II,aT,Fo,aT,.i .l (.call (.c (.fn 60 [] [])) [.l 8,.l 6,.l 4,.l 2,.l 0]),cn,fs,ft,LD,nG],.ops [bc,nF,aT,ky,kH,ajG,n9],.ret] [.ops [aej,EG],.cond (.v 15) [.ops [bc,IJ,.i .l (.call (.c (.fn 61 [] [])) [.l 1,.l 0]),n9],.ret] [.ops [.i .l (.bin (.int j) .eql (.v 10) (.c (.int j 5))),Cr],.cond (.v 16) [.ops [bc,ct,dC,aT,ct,dC,aT,Fo,aT,.i .l (.call (.c (.fn 62 [] [])) [.l 2,.l 0]),Az,n9],.ret] [.ops [ael,vb],.cond (.v 17) [.ops [bc,ct,dC,aT,ct,dC,aT,ad8,cn,fs,ft,.i (.v 8) xV,u'],.ops [qt,af0],.cond (.v 18) [.ops [qt,Az,n9],.ret] [],.ops [pL,AK,K0,n9],.ret] []]]]]],.ops [ajH,n9],.ret]
theorem yf:cv aq aa 26 2 19 [0,1,3,4,5,6,7,8,9,10,12,13,22,28,32,81,86,99,113] wZ [(.cell J 5 3)] U:=by refine⟨_,_,Tryz.func26,rfl,rfl,?_,?_,?_,?_,?_⟩<;>kernel_rfl
def NU:List bb:=[AD,.ops [dc,NQ,QZ],.cond (.v 3) [AD,.ret] [],.ops [bc,dc,xQ,g4,xD,aT,.i .l (.call (.c (.fn 69 [] [])) [.l 0]),jz],.ret]
theorem UY:cv aq aa 28 2 4 [0,1,4,7] NU [(.v 2)] J:=by refine⟨_,_,Tryz.func28,rfl,rfl,?_,?_,?_,?_,?_⟩<;>kernel_rfl
def UZ:List bb:=[AE,Rj,.cond (.v 2) [AE,.ret] [],.ops [.i .l (.lx U 35 [.int j 0,.int j 0,.aJ] 3 0 []),bc,.i .l (.app U 35 (.l 1) (.l 0)),pK],.ret]
theorem ajI:cv aq aa 69 1 3 [0,2,4] UZ [(.v 1)] J:=by refine⟨_,_,Tryz.func69,rfl,rfl,?_,?_,?_,?_,?_⟩<;>kernel_rfl
def zQ:List bb:=[.ops [c6,bc,zR,U0,cn,Rv,ES,.g (.l 2) J .l LQ,.i (.v 4) Ca],.cond (.v 4) [] [.exit 0],.block 1 [.ops [bc,c6,IK,.i .l (.db 8 (.l 0)),UX,.i (.v 5) (.call (.c (.fn 43 [] [])) [.l 0])],.cond (.v 5) [ER,.ret] []],wr]
def U1:List bb:=[pd,sL,.block 0 [.loop zQ],.ops [bc,zR,dc,.i .l E0,jz],.ret]
theorem ajJ:cv aq aa 23 2 6 [0,1,4,5,14,22] U1 [(.v 2)] J:=by refine⟨_,_,Tryz.func23,rfl,rfl,?_,?_,?_,?_,?_⟩<;>kernel_rfl
def nm(b a0:Nat)(a7:List (List ax)):cc:=u0 λbI:List F=>y9 (bI.length=a7.length) (ij (a1 b [.ptr a0 0 0::bI]) (cm (jh i5 bI a7)))
section
variable{h E ak:ai}{ah al aO aL:Nat->Prop}{L:List cc}{ad a0:Nat}{a7:List (List ax)}
theorem ajK(x:(nm ad a0 a7).A h ah al):∃bI,bI.length=a7.length/\aN h ah al h (a1 ad [.ptr a0 0 0::bI]::jh i5 bI a7):=by obtain⟨bI,am,x⟩:=x;exact⟨bI,am,aN.start x⟩
theorem ax8{bI:List F}(am:bI.length=a7.length)(s:aN ak aO aL h (a1 ad [.ptr a0 0 0::bI]::jh i5 bI a7)):gJ ak aO aL h (nm ad a0 a7):=gJ.imp (λ_ _ _ x=>⟨bI,am,x⟩) s
theorem IL{bI:List F}(am:bI.length=a7.length){p:Nat}(az:p<a7.length):∃v,bI[p]? =o v/\(jh i5 bI a7)[p]? =o (i5 v (a7.getD p [])):=by
 have Z:p<bI.length:=by omega
 refine⟨bI[p],fT Z,?_⟩;rw[List.getElem?_zipWith,fT Z,fT az];simp[cZ,az]
theorem ajL{bI:List F}{p:Nat}{v:F}{l:List ax}:(jh i5 bI a7).set p (i5 v l)=jh i5 (bI.set p v) (a7.set p l):=by
 refine List.ext_getElem? λD=>?_;by_cases e:p=D
 ·subst e;rw[List.getElem?_zipWith,pR,pR,pR];simp only[if_true,List.length_zipWith];by_cases I:p<bI.length
  ·by_cases R:p<a7.length
   ·simp[I,R,show p<min bI.length a7.length by omega]
   ·simp[I,R,show ¬p<min bI.length a7.length by omega]
  ·simp[I,show ¬p<min bI.length a7.length by omega]
 ·rw[uP e,List.getElem?_zipWith,List.getElem?_zipWith,uP e,uP e]
structure Fp(h:ai)(v:F)(l:List ax):Prop where
 one:v.one=J
 cells:v.cells=[v]
 len:hX v=o l.length
 fits:∀s,kE s (o bO) v=J
 bJ:∀(q:gZ) (i:Nat) (y:ax),l[i]? =o y->∃p r,dY (o bO) ag v (.int q (i:Int))=o p/\cR J 3 h p=o (.agg r)/\bZ y r
 lC:(l=[]/\v= .aJ)\/∃b rows,v= .bw b 0 l.length bO/\dk l rows/\js h bO v=o rows
theorem U2{v:F}{l:List ax}(x:(i5 v l).A h ah al):Fp h v l:=by
 obtain⟨aP,a2,bl,cr,ej⟩:=Cn x;refine⟨aP,a2,bl,cr,ej,?_⟩;obtain⟨rows,am,x⟩:=x;have hlen:=am.len;rcases x with⟨⟨rfl,rfl⟩,_⟩|⟨⟨b,es⟩,⟨rfl,I,R⟩,_,_,_,an⟩
 ·exact .inl ⟨sy.1 (by simpa using hlen.symm),rfl⟩
 ·simp only at I R an;refine .inr ⟨b,rows,by rw[hlen],am,?_⟩;simp only[js,if_true,an,du,ir,I,List.drop_zero];rw[<-R]
structure zS(h:ai)(ad a0:Nat)(a7:List (List ax))(bI:List F):Prop where
 c:h.cell ad=o [.ptr a0 0 0::bI]
 lt:ad<h.n
 len:bI.length=a7.length
 v:∀p:Nat,p<a7.length->∃v,bI[p]? =o v/\Fp h v (a7.getD p [])
theorem yg(s:aN ak aO aL h L)(i:Nat)(af:L[i]? =o (nm ad a0 a7)):∃bI,zS h ad a0 a7 bI:=by obtain⟨ah,al,x⟩:=s.get i af;obtain⟨bI,am,bd⟩:=ajK x;have c:=bd.cell 0 rfl;refine⟨bI,c.1,c.2,am,λp az=>?_⟩;obtain⟨v,I,R⟩:=IL am az;obtain⟨eJ,eK,cb⟩:=bd.get (p+1) R;exact⟨v,I,U2 cb⟩
theorem zS.push{bI:List F}{es:List (List F)}(v:zS h ad a0 a7 bI)(s:aN ak aO aL (h.push es) L)(i:Nat)(af:L[i]? =o (nm ad a0 a7)):zS (h.push es) ad a0 a7 bI:=by
 obtain⟨s',a'⟩:=yg s i af;have e:=a'.c;rw[hp v.lt,v.c]at e;obtain rfl:bI=s':=by simpa using e
 exact a'
theorem zS.box{bI:List F}(v:zS h ad a0 a7 bI)(n:Nat):cR U n h (.ptr ad 0 0)=o (.ptr a0 0 0):=by rw[gb,v.c];rfl
theorem zS.h'{bI:List F}(v:zS h ad a0 a7 bI){p:Nat}{w:F}(hw:bI[p]? =o w)(n:Nat):cR U n h (.ptr ad 0 (1+p))=o w:=by rw[gb,v.c];show(F.ptr a0 0 0::bI)[1+p]? =o w;rw[Nat.add_comm,sz];exact hw
theorem ajM{b p:Nat}(q:gZ)(az:p<4):dY ag (o (4,1)) (.ptr b 0 1) (.int q (p:Int))=o (.ptr b 0 (1+p)):=by simp[dY,az]
theorem ax9(fB:aN ak aO aL h L)(i:Nat)(af:L[i]? =o (nm ad a0 a7)){p:Nat}(az:p<a7.length){v:ax}{r:List F}(Z:bZ v r)(am:(a7.getD p []).length<=1000000){km:Nat}(aB:h.cell km=o [a3]){bI:List F}{w:F}(fQ:zS h ad a0 a7 bI)(hw:bI[p]? =o w):∃q I R aj,eH J bO w (.bw km 0 1 bO) h=o (.bw q 0 ((a7.getD p []).length+1) bO,I)/\e0 3 I (.ptr q (a7.getD p []).length 0) (.agg r)=o R/\e0 1 R (.ptr ad 0 (1+p)) (.bw q 0 ((a7.getD p []).length+1) bO)=o aj/\cR J 3 aj (.ptr q (a7.getD p []).length 0)=o (.agg r)/\aN ak aO aL aj (L.set i (nm ad a0 (a7.set p (a7.getD p []++[v])))):=by
 have BC:bZ ce a3:=fD;obtain⟨aj,⟨q,I,R⟩,⟨aw,ay,be,b1⟩,ek⟩:=fB.tO (cJ:=λaj (q:Nat×ai×ai)=>eH J bO w (.bw km 0 1 bO) h=o (.bw q.1 0 ((a7.getD p []).length+1) bO,q.2.1)/\e0 3 q.2.1 (.ptr q.1 (a7.getD p []).length 0) (.agg r)=o q.2.2/\e0 1 q.2.2 (.ptr ad 0 (1+p)) (.bw q.1 0 ((a7.getD p []).length+1) bO)=o aj/\cR J 3 aj (.ptr q.1 (a7.getD p []).length 0)=o (.agg r)) i af (Y:=λ_=>nm ad a0 (a7.set p (a7.getD p []++[v]))) λah al x=>by
  obtain⟨s',iI,s⟩:=ajK x;have cB:=s.cell 0 rfl;have kk:s'=bI:=by have:=fQ.c;rw[cB.1]at this;simpa using this
  subst kk;obtain⟨bj,lM,xp⟩:=IL iI az;rw[hw]at lM;injection lM with lM;subst lM;have fb:(a1 ad [.ptr a0 0 0::s']::jh i5 s' a7)[p+1]? =o (i5 w (a7.getD p [])):=xp;generalize a7.getD p []=l at*;obtain⟨I,aw,bd⟩:=s.app (p+1) fb aB BC am;have ba:p+1<(a1 ad [.ptr a0 0 0::s']::jh i5 s' a7).length:=(fO.1 fb).1;obtain⟨R,ay,aY⟩:=bd.call (cJ:=λR=>e0 3 I (.ptr h.n l.length 0) (.agg r)=o R) (X:=i5 (.bw h.n 0 (l.length+1) bO) (l++[ce])) (Y:=i5 (.bw h.n 0 (l.length+1) bO) ((l++[ce]).set l.length v)) (p+1) (by rw[pR];simp only[if_true,ba]) λah al x=>aht x (i:=l.length) (by simp) Z;rw[List.set_set,show(l++[ce]).set l.length v=l++[v] from RJ l [] ce v rfl]at aY;have aY:aN h ah al R (a1 ad [.ptr a0 0 0::s']::jh i5 (s'.set p (.bw h.n 0 (l.length+1) bO)) (a7.set p (l++[v]))):=by rw[<-ajL];exact aY
  have bD:=aY.cell 0 rfl;have bs:=aY.set 0 rfl [.ptr a0 0 0::s'.set p (.bw h.n 0 (l.length+1) bO)];have iS:p<s'.length:=by omega
  refine⟨_,(h.n,I,R),⟨aw,ay,lu bD.1 rfl rfl rfl (by simp;omega),?_⟩,?_⟩
  ·have dw:ad≠h.n:=by have:=cB.2;omega
   rw[gb,eN (mG dw),<-gb (agg:=J) (n:=3)];exact ahu ay
  ·refine ax8 (bI:=s'.set p (.bw h.n 0 (l.length+1) bO)) (by simp[iI]) ?_;have e:dy (F.ptr a0 0 0::s') (1+p) (F.bw h.n 0 (l.length+1) bO).cells= .ptr a0 0 0::s'.set p (.bw h.n 0 (l.length+1) bO):=by rw[Nat.add_comm];unfold dy;simp only[F.cells,List.take_succ_cons,hj,List.drop_succ_cons,nz];rw[List.set_eq_take_append_cons_drop,if_pos iS];simp
   simp only[we];rw[e];exact bs
 exact⟨q,I,R,aj,aw,ay,be,b1,ek⟩
end
structure vC where
 (ad a0 cE cG:Nat)
abbrev nN(c:vC)(H:dh):List cc:=[nm c.ad c.a0 H.a7,ix c.a0 c.cE c.cG H.ms H.S.kept,gU c.cE H.S.G,iL c.cG H.S.cells H.S.log]
structure kK(H:dh):Prop where
 cY:H.Good
 log:H.S.log.length<=800000
 a7:∀l∈H.a7,l.length<=90000
theorem kK.len{H:dh}(O:kK H):H.ms.length=H.S.kept.length:=O.cY.ms.trans O.cY.st.kept.symm
section
variable{h E ak:ai}{ah al aO aL:Nat->Prop}{L:List cc}{ad a0:Nat}{a7:List (List ax)}{c:vC}{H:dh}
theorem ta(p:Int):aU aq aa 57 [.int j p] h=o (.inl (.bool (fx p)),h):=by refine a4 ax7 rfl ?_;unfold ajn;unfold fx;cases I:decide (0<=p)<;>simp only[ao,ar,av,ap,I]
abbrev c3(c f:Int)(r:List F):List F:=.int j c::.int j f::r
theorem ax'(x:(nm ad a0 a7).A h ah al){k:Int}(ab:k≠0)(p n:Int):∃E,aU aq aa 59 [.ptr ad 0 0,.int j p,.int j n,.int j k] h=o (.inl (.agg (c3 k 0 a3)),E)/\gJ h ah al E (nm ad a0 a7):=by have fB:aN h ah al h [nm ad a0 a7]:=aN.start (cm.one x);have bd:=fB.push [c3 k 0 a3];have d1:decide (k=0)=U:=decide_eq_false ab;refine⟨_,?_,gJ.imp (λ_ _ _=>cm.Cj) bd.drop⟩;refine a4 ajs rfl ?_;unfold UU;simp only[ao,ar,av,ap,bY,d1]
theorem aya(x:(nm ad a0 a7).A h ah al)(aH:a7.length=4)(am:∀l∈a7,l.length<=90000){p:Int}(az:0<=p/\p<4)(n:Int):∃E,aU aq aa 59 [.ptr ad 0 0,.int j p,.int j n,.int j 0] h=o (.inl (.agg (c3 0 0 [.int j 4,.int j n,.aJ])),E)/\gJ h ah al E (nm ad a0 (a7.set p.toNat (a7.getD p.toNat []++[ge n]))):=by
 obtain⟨D,rfl⟩:∃D:Nat,p=(D:Int):=⟨p.toNat,by omega⟩;have ae:D<4:=by omega
 have fB:aN h ah al h [nm ad a0 a7]:=aN.start (cm.one x);have bd:=fB.push [c3 0 0 a3];have aY:=bd.push [[.int j 4,.int j n,.aJ]];have bs:=aY.push [a3];have cB:=(bs.cell 0 rfl).1;have aW:=(bs.cell 1 rfl).1;have bD:=(bs.cell 2 rfl).1;obtain⟨bI,iq⟩:=yg aY 2 rfl;have Z:=iq.push bs 3 rfl;obtain⟨w,hw,bA⟩:=Z.v D (by omega);have h':=Z.h' hw;have ayb:=iq.h' hw;have cg:=(aY.cell 0 rfl).1;have ayc:(a7.getD D []).length<=1000000:=by
  have:a7.getD D []∈a7:=by rw[cZ,fT (by omega),qT];exact jl _
  have:=am _ this;omega
 obtain⟨q,I,R,aj,aP,a2,bl,cr,bE⟩:=ax9 bs 3 rfl (p:=D) (by omega) (A3 n) ayc cB Z hw;have bE:aN h ah al aj [a1 (h.n+1+1) [a3],a1 (h.n+1) [[.int j 4,.int j n,.aJ]],a1 h.n [c3 0 0 a3],nm ad a0 (a7.set D (a7.getD D []++[ge n]))]:=bE;have aP:eH J bO w (.bw (h.n+1+1) 0 1 bO) _=_:=aP;have aw:=(bE.cell 1 rfl).1;have ay:=(bE.cell 2 rfl).1;have b3:=bE.set 2 rfl [c3 0 0 [.int j 4,.int j n,.aJ]];have f1:cd 1 (.ptr ad 0 0)=o (.ptr ad 0 1):=rfl;have bJ:∀q,dY ag (o (4,1)) (.ptr ad 0 1) (.int q (D:Int))=o (.ptr ad 0 (1+D)):=λq=>ajM q ae;have ayd:∀k,dY (o bO) ag (.bw q 0 ((a7.getD D []).length+1) bO) (.int k ((a7.getD D []).length:Int))=o (.ptr q (a7.getD D []).length 0):=λk=>by rw[Au rfl (sR _),ir]
 obtain⟨cD,c9,jx,ts⟩:=bA.fits |> λf=>And.intro bA.len (And.intro f (And.intro bA.one bA.cells));rw[m9];generalize a7.getD D []=l at*;refine⟨_,?_,gJ.imp (λ_ _ _=>cm.Cj) b3.drop.drop.drop⟩;have dB:∀x,(h.push [c3 0 0 a3]).push x=(h.push [c3 0 0 a3]).push x:=λ_=>rfl;refine a4 ajs rfl ?_;unfold UU;simp only[ao,ar,av,ap,bY,f1,bJ,ayd,h',ayb,cD,c9,aP,a2,bl,cr,aw,ay]
theorem aye{a0 p:Nat}(q:gZ)(az:p<4):dY ag (o (4,5)) (.ptr a0 0 2) (.int q (p:Int))=o (.ptr a0 0 (2+p*5)):=by simp[dY];omega
theorem ayf(x:(cm (nN c H)).A h ah al)(O:kK H)(p:Int){M:List bC}{v:F}{es:List (List F)}(da:e9 gp v es)(eS:g3 M es)(c1:M.length<=100000)(aC:∀x∈M,x.size<=100000):∃E,aU aq aa 56 [.ptr c.ad 0 0,.int j p,.agg [v]] h=o (.inl (.int j (H.load p M).2),E)/\gJ h ah al E (cm (nN c (H.load p M).1)):=by
 have fB:aN h ah al h (nN c H):=aN.start x;have bd:=fB.push [[v]];have kV:∀h,iW h v M:=λh=>iW.of da eS;have qD:=(kV h).one;have aW:=(bd.cell 0 rfl).1;unfold dh.load;cases az:fx p with
 |false=>refine⟨_,?_,bd.drop⟩;refine a4 UT rfl ?_;unfold NP;simp only[ao,ar,av,ap,ta,az,qD]
 |true=>
   obtain⟨en,dB⟩:=nl.1 az;rw[if_neg (by decide)];have mk:=λ(h:ai)=>aus (h:=h) da eS kV c1 aC;unfold B2 at mk;have aY:=bd.push [[.int j (fl M).1,.int j (fl M).2]];have bD:=(aY.cell 0 rfl).1;by_cases aB:(fl M).1=0
   ·have iY:decide ((fl M).1=0)=J:=decide_eq_true aB;rw[if_neg (λh=>h aB)];obtain⟨D,rfl⟩:∃D:Nat,p=(D:Int):=⟨p.toNat,by omega⟩;obtain⟨f1,f2,f3⟩:=CZ M;have f4:(mP M).cells=[mP M]:=by unfold mP;rfl
    have ae:D<4:=by omega
    obtain⟨bI,Z⟩:=yg aY 2 rfl;have AX:=Z.box 1;obtain⟨aj,be,bs⟩:=axV aY 3 rfl O.len (p:=D) (by rw[O.cY.ms];exact ae) (M:=M) fD;have bJ:∀q,dY ag (o (4,5)) (.ptr c.a0 0 2) (.int q (D:Int))=o (.ptr c.a0 0 (2+D*5)):=λq=>aye q ae;have cS:cd 2 (.ptr c.a0 0 0)=o (.ptr c.a0 0 2):=rfl;have sE:cd 0 (.ptr c.ad 0 0)=o (.ptr c.ad 0 0):=rfl;refine⟨aj,?_,bs.drop.drop⟩;rw[if_pos aB]at mk;rw[m9];generalize mP M=aD3 at*;refine a4 UT rfl ?_;unfold NP;simp only[ao,ar,av,ap,bY,bN,ta,az,qD,aW,mk,iY,AX,bJ,sE,cS,f3,f4,be]
   ·have iY:decide ((fl M).1=0)=U:=decide_eq_false aB;rw[if_pos aB];rw[if_neg aB]at mk;refine⟨_,?_,aY.drop.drop⟩;refine a4 UT rfl ?_;unfold NP;simp only[ao,ar,av,ap,bN,ta,az,qD,aW,mk,iY]
def cU(x:fp)(m:F):List F:=[.int j x.kind,.int j x.p,.int j x.q,.int j x.k,.int j x.h,.int j x.r,.int j x.g,.int j x.n,m]
def jR(e:jr)(r:List F):Prop:=∃q,r=c3 e.code e.fuel q/\bZ e.v q
theorem jR.no{c:Int}:jR (jr.no c) (c3 c 0 a3):=⟨a3,rfl,fD⟩
theorem U3{b:Nat}{p:Int}(q:gZ)(ak:0<=p)(I:p<4):dY ag (o (4,1)) (.ptr b 0 1) (.int q p)=o (.ptr b 0 (1+p.toNat)):=by obtain⟨D,rfl⟩:=ni ak;rw[m9];exact ajM q (by omega)
abbrev NV(fY:Nat)(y:fp)(m:F)(cX:List F)(c:vC)(H:dh):List cc:=[a1 (fY+1+1) [cX],a1 (fY+1) [c3 0 0 a3],a1 fY [cU y m],nm c.ad c.a0 H.a7,ix c.a0 c.cE c.cG H.ms H.S.kept,gU c.cE H.S.G,iL c.cG H.S.cells H.S.log]
structure ayg(ak:ai)(aO aL:Nat->Prop)(fY:Nat)(eA:ai)(y:fp)(m:F)(cX:List F)(c:vC)(H:dh)(b0:bt)(v:ax)(n k:Int)(bq:ai)(br:List F):Prop where
 e:aU aq aa kr (s9 c.a0 y.p y.k cX 2000) eA=o (.inl (.bS [.agg br,.int j n,.int j k]),bq)
 gh:bZ v br
 jI:eA.cell (fY+1+1)=o [cX]
 a2:eA.cell fY=o [cU y m]
 Be:cR U 1 eA (.ptr c.ad 0 0)=o (.ptr c.a0 0 0)
 iy:(bq.push [a3]).cell (fY+1+1)=o [cX]
 c0:(bq.push [a3]).cell fY=o [cU y m]
 a0:cR U 1 (bq.push [a3]) (.ptr c.ad 0 0)=o (.ptr c.a0 0 0)
 d1:(bq.push [br]).cell (fY+1)=o [c3 0 0 a3]
 s:aN ak aO aL ((bq.push [br]).set (fY+1) (o [c3 k n br])) (nN c {H with S:=b0})
theorem ajN{fY:Nat}{eA:ai}{y:fp}{m:F}{cX:List F}{arg:ax}(s:aN ak aO aL eA (NV fY y m cX c H))(O:kK H)(Z:bZ arg cX)(fa:arg.size<=100000):∃bq br,ayg ak aO aL fY eA y m cX c H (eu H.ms y.p y.k arg 2000 H.S).1 (eu H.ms y.p y.k arg 2000 H.S).2.1 (eu H.ms y.p y.k arg 2000 H.S).2.2.1 (eu H.ms y.p y.k arg 2000 H.S).2.2.2 bq br:=by
 obtain⟨bq,⟨br,c4,b4⟩,b3⟩:=s.wX (A:=[a1 (fY+1+1) [cX],a1 (fY+1) [c3 0 0 a3],a1 fY [cU y m],nm c.ad c.a0 H.a7]) (M:=[ix c.a0 c.cE c.cG H.ms H.S.kept,gU c.cE H.S.G,iL c.cG H.S.cells H.S.log]) (B:=[]) (rh:=[ix c.a0 c.cE c.cG H.ms (eu H.ms y.p y.k arg 2000 H.S).1.kept,gU c.cE (eu H.ms y.p y.k arg 2000 H.S).1.G,iL c.cG (eu H.ms y.p y.k arg 2000 H.S).1.cells (eu H.ms y.p y.k arg 2000 H.S).1.log])
  λah al x=>axP (p:=y.p) (f:=y.k) (fuel:=2000) Z fa x O.cY.ms O.cY.ok.cY O.cY.ok.sized O.cY.st (by have:=O.log;omega)
 have b3:aN ak aO aL bq (NV fY y m cX c {H with S:=(eu H.ms y.p y.k arg 2000 H.S).1}):=b3;obtain⟨bI,o0⟩:=yg s 3 rfl;have c2:=b3.push [a3];obtain⟨aD4,ayh⟩:=yg c2 4 rfl;have eW:=b3.push [br];have hP:=eW.set 2 rfl [c3 (eu H.ms y.p y.k arg 2000 H.S).2.2.2 (eu H.ms y.p y.k arg 2000 H.S).2.2.1 br];exact⟨bq,br,c4,b4,(s.cell 0 rfl).1,(s.cell 2 rfl).1,o0.box 1,(c2.cell 1 rfl).1,(c2.cell 3 rfl).1,ayh.box 1,(eW.cell 2 rfl).1,hP.drop.drop.drop.drop⟩
theorem ayi(x:(cm (nN c H)).A h ah al)(O:kK H)(y:fp){m:F}(hm:m.one=J):∃E,(∃r,aU aq aa 61 [.ptr c.ad 0 0,.agg (cU y m)] h=o (.inl (.agg r),E)/\jR (H.call y).2 r)/\gJ h ah al E (cm (nN c (H.call y).1)):=by
 have fB:aN h ah al h (nN c H):=aN.start x;have bd:=fB.push [cU y m];have aY:=bd.push [c3 0 0 a3];have bs:aN h ah al _ (NV h.n y m [.int j 1,.int j y.n,.aJ] c H):=aY.push [[.int j 1,.int j y.n,.aJ]];have cB:=(bs.cell 0 rfl).1;have aW:=(bs.cell 1 rfl).1;have bD:=(bs.cell 2 rfl).1;have d2:=(aY.cell 1 rfl).1;obtain⟨bI,Z⟩:=yg bs 3 rfl;have mx:∀x,(((h.push [cU y m]).push [c3 0 0 a3]).push [a3]).set (h.n+1+1) (o x)=((h.push [cU y m]).push [c3 0 0 a3]).push x:=λx=>nA;have my:(((h.push [cU y m]).push [c3 0 0 a3]).push [a3]).cell (h.n+1+1)=o [a3]:=hb (h:=(h.push [cU y m]).push [c3 0 0 a3]);have f4:∀b O k,cd O (.ptr b 0 k)=o (.ptr b 0 (k+O)):=λ_ _ _=>rfl;simp only[cU]at bD d2 mx my;unfold dh.call;by_cases an:0<=y.h/\(fx y.p=U\/((H.hand y.p).length:Int)<=y.h)
 ·rw[if_pos an];obtain⟨nR,ja⟩:=an;have rk:decide (0<=y.h)=J:=decide_eq_true nR;have bE:=bs.set 1 rfl [c3 8 0 a3];refine⟨_,⟨_,?_,jR.no⟩,bE.drop.drop.drop⟩;cases az:fx y.p with
  |false=>refine a4 NT rfl ?_;unfold IH;simp only[ao,ar,av,ap,bY,cU,ta,az,hm,rk,bD,d2,my,mx]
  |true=>obtain⟨en,dB⟩:=nl.1 az;have am:((H.hand y.p).length:Int)<=y.h:=ja.resolve_left (by simp[az]);have kq:decide (((H.hand y.p).length:Int)<=y.h)=J:=decide_eq_true am;obtain⟨w,hw,bA⟩:=Z.v y.p.toNat (by rw[O.cY.a7];omega);have h':=Z.h' hw;simp only[cU]at h';have bJ:=λq=>U3 (b:=c.ad) q en dB;have bA:Fp _ w (H.hand y.p):=bA;have cD:=bA.len;have c9:=bA.fits;refine a4 NT rfl ?_;unfold IH;simp only[ao,ar,av,ap,bY,cU,ta,az,hm,rk,bD,d2,my,mx,bJ,h',cD,c9,kq]
 ·rw[if_neg an];have gL:=O.cY.arg y;by_cases I:0<=y.h
  ·have az:fx y.p=J:=by
    cases az:fx y.p with
    |true=>rfl
    |false=>exact absurd ⟨I,.inl az⟩ an
   have am:¬((H.hand y.p).length:Int)<=y.h:=λh=>an ⟨I,.inr h⟩;obtain⟨en,dB⟩:=nl.1 az;have kq:decide (((H.hand y.p).length:Int)<=y.h)=U:=decide_eq_false am;have rk:decide (0<=y.h)=J:=decide_eq_true I;obtain⟨w,hw,bA⟩:=Z.v y.p.toNat (by rw[O.cY.a7];omega);have h':=Z.h' hw;simp only[cU]at h';have bJ:=λq=>U3 (b:=c.ad) q en dB;have bA:Fp _ w (H.hand y.p):=bA;have cD:=bA.len;have c9:=bA.fits;rw[if_pos I]at gL ⊢;have af:y.h.toNat<(H.hand y.p).length:=by omega
   have ui:(H.hand y.p)[y.h.toNat]? =o ((H.hand y.p).getD y.h.toNat ce):=by simp[cZ,af]
   generalize (H.hand y.p).getD y.h.toNat ce=arg at*;obtain⟨aD5,cX,i1,hh,gh⟩:=bA.bJ j _ _ ui;rw[Int.toNat_of_nonneg I]at i1;have ajO:=hh;simp only[cU]at ajO;have bE:aN h ah al _ (NV h.n y m cX c H):=aY.push [cX];obtain⟨bx,bL⟩:=gh.cV;have UM:((((h.push [cU y m]).push [c3 0 0 a3]).push [[.int j 1,.int j y.n,.aJ]]).set (h.n+1+1) (o [cX]))=((h.push [cU y m]).push [c3 0 0 a3]).push [cX]:=nA;simp only[cU]at UM;obtain⟨bq,br,e,a',jI,a2,Be,iy,c0,a0,d1,IM⟩:=ajN bE O gh gL.2;generalize eu H.ms y.p y.k arg 2000 H.S=q at*;obtain⟨b0,v,n,k⟩:=q;simp only at e a' jI a2 Be iy c0 a0 d1 IM ⊢;obtain⟨ei,fd⟩:=a'.cV;refine⟨_,⟨_,?_,⟨br,rfl,a'⟩⟩,IM⟩;simp only[cU]at e jI a2 Be iy c0;refine a4 NT rfl ?_;unfold IH;simp only[ao,ar,av,ap,bY,cU,ta,az,hm,rk,bD,d2,my,mx,bJ,h',cD,c9,kq,UM,i1,ajO,bx,bL,e,jI,a2,Be,iy,c0,a0,d1,ei,fd]
  ·rw[if_neg I]at gL ⊢;have rk:decide (0<=y.h)=U:=decide_eq_false I;obtain⟨bq,br,e,a',jI,a2,Be,iy,c0,a0,d1,IM⟩:=ajN bs O (x0 y.n) gL.2;generalize eu H.ms y.p y.k (kG y.n) 2000 H.S=q at*;obtain⟨b0,v,n,k⟩:=q;simp only at e a' jI a2 Be iy c0 a0 d1 IM ⊢;obtain⟨ei,fd⟩:=a'.cV;refine⟨_,⟨_,?_,⟨br,rfl,a'⟩⟩,IM⟩;simp only[cU]at e jI a2 Be iy c0;refine a4 NT rfl ?_;unfold IH;simp only[ao,ar,av,ap,bY,cU,ta,hm,rk,bD,d2,my,mx,e,jI,Be,iy,c0,a0,d1,ei,fd]
end
structure iC where
 (ad il lE:Nat)
 kd:List (F×F)
def oR(v:F×F):Option (List bC)->cc
 |none=>xy (v.1= .e')
 |some M=>u0 λq:Nat×List (List F)=>y9 (v.1= .ptr q.1 0 0/\e9 gp v.2 q.2/\g3 M q.2) (a1 q.1 [[v.2]])
abbrev tb(v:F)(l:List ax):cc:=i5 v l
abbrev ks(c:iC)(bn:F)(dP:List (List F))(Z:List F):List F:=.ptr c.il 0 0::.bw c.lE 0 12 wm::bn::(c.kd.map Prod.fst++dP.flatten++Z)
def kL(c:iC)(ms:dn)(S:bt)(a7:List (List ax)):cc:=u0 λq:F×List (List F)×List F=>
 y9 (c.kd.length=ms.length/\dk S.kept q.2.1/\q.2.2.length=a7.length) (cm (a1 c.ad [ks c q.1 q.2.1 q.2.2]::a1 c.lE (S.cells.map λx=>[.int j x])::gc iw q.1 (S.log.map hc)::(jh oR c.kd ms++jh tb q.2.2 a7)))
section
variable{h E ak:ai}{ah al aO aL:Nat->Prop}{L:List cc}{c:iC}{ms:dn}{S:bt}{a7:List (List ax)}
theorem U4(x:(kL c ms S a7).A h ah al):∃bn dP Z,c.kd.length=ms.length/\dk S.kept dP/\Z.length=a7.length/\aN h ah al h (a1 c.ad [ks c bn dP Z]::a1 c.lE (S.cells.map λx=>[.int j x])::gc iw bn (S.log.map hc)::(jh oR c.kd ms++jh tb Z a7)):=by obtain⟨⟨bn,dP,Z⟩,⟨I,R,aj⟩,x⟩:=x;exact⟨bn,dP,Z,I,R,aj,aN.start x⟩
theorem U5{bn:F}{dP:List (List F)}{Z:List F}(I:c.kd.length=ms.length)(R:dk S.kept dP)(aj:Z.length=a7.length)(s:aN ak aO aL h (a1 c.ad [ks c bn dP Z]::a1 c.lE (S.cells.map λx=>[.int j x])::gc iw bn (S.log.map hc)::(jh oR c.kd ms++jh tb Z a7))):gJ ak aO aL h (kL c ms S a7):=gJ.imp (λ_ _ _ x=>⟨(bn,dP,Z),⟨I,R,aj⟩,x⟩) s
end
def U6:List bb:=[.ops [Lw,rV],.ops [dc,.i (.v 4) n5],.cond (.v 4) [.ops [lU,dc,.i .n (.store 3 (.v 2) (.l 1)),jA],.ret] [],.ops [bc,KY,Hb,rV],.ret]
theorem ajP:cv aq aa 138 2 5 [0,1,4,5,7] U6 [(.cell J 3 2),(.v 3)] J:=by refine⟨_,_,Tryz.func138,rfl,rfl,?_,?_,?_,?_,?_⟩<;>kernel_rfl
def U7:List bb:=[.ops [Cp,Rh,pJ],.ops [bc,ct,dC,aT,ct,dC,aT,oH,aT,hd,.i .l (.call (.c (.fn 152 [] [])) [.l 3,.l 1]),.i .l (.call (.c (.fn 151 [] [])) [.l 0,.l 1]),.i (.v 7) vh],.cond (.v 7) [.ops [Rg,K8,.i (.v 5) (.a8 (.c (.int j 9)))],.ret] [],.ops [bc,ct,dC,aT,ct,dC,aT,oH,aT,.i .l (.call (.c (.fn 153 [] [])) [.l 2,.l 0]),cn,fs,ft,Sd,.ca [⟨ag,U,1,.l 10,(.l 9)⟩,⟨ag,U,1,.l 7,(.l 6)⟩,⟨ag,U,1,.l 5,(.l 4)⟩],.i .n (.store 6 (.v 6) (.l 1)),cn],.ops [.i .l (.load J 6 (.v 6)),K8,pJ],.ret]
theorem If:cv aq aa 137 3 8 [0,1,2,4,6,7,8,22] U7 [(.cell J 6 4),(.v 5)] U:=by refine⟨_,_,Tryz.func137,rfl,rfl,?_,?_,?_,?_,?_⟩<;>kernel_rfl
def ajQ:List bb:=[.ops [G9,AA],.ops [lU,bc,aey,jz],.ret]
theorem ayj:cv aq aa 135 1 3 [0,2,3] ajQ [(.cell J 3 1),(.v 2)] J:=by refine⟨_,_,Tryz.func135,rfl,rfl,?_,?_,?_,?_,?_⟩<;>kernel_rfl
def im:List bb:=[.ops [.i (.v 4) (.box 4 (.v 2)),xP,rW],.ops [.i (.v 7) (.a8 (.c (.fn 135 [] [])))],.ops [bc,ct,dC,aT,ct,dC,aT,kZ],.ops [tT,.i (.v 26) oD],.block 0 [.ops [.i .l (.bin (.int j) .eql (.v 26) (.c (.int j 6))),.i (.v 27) oF],.cond (.v 27) [.ops [c6,l',dC,aT,.i .l ajR,cn,SL,ajS,ajT,LJ,ajU,.i (.v 28) ajV],.cond (.v 28) [vD,.ret] [],.ops [oE,aT,c6,l',g4,aT,c6,NW,g4,aT,.i .l (.call (.c (.fn 136 [] [])) [.l 8,.l 4,.l 0]),AK,rb,rW],.ret] [.ops [.i .l (.bin (.int j) .eql (.v 26) (.c (.int j 8))),.i (.v 29) oF],.cond (.v 29) [] [.ops [.i .l (.bin (.int j) .eql (.v 26) (.c (.int j 11))),.i (.v 29) oF]],.cond (.v 29) [.ops [c6,LG,Hj,LM],.ops [tT,aT,.i (.v 30) (.bin (.int j) .eql (.l 0) (.c (.int j 11)))],.cond (.v 30) [.ops [dc,.i .l (.db 0 (.v 9)),.i .n (.store 1 (.l 0) (.c (.int j 3))),.i .l (.db 1 (.v 9)),lT]] [],.ops [Hk,S6,.i (.v 31) n5],.cond (.v 31) [.ops [kH,.i .l (.call (.l 0) [.c (.int j 3)]),fs,ft,sV,jM],.ret] [],.ops [Hk,rb,rW],.ret] [.ops [.i .l (.bin (.int j) .eql (.v 26) (.c (.int j 9))),.i (.v 32) oF],.cond (.v 32) [] [.ops [.i .l (.bin (.int j) .eql (.v 26) (.c (.int j 10))),.i (.v 32) oF]],.cond (.v 32) [.ops [c6,l',dC,aT,.i (.v 33) (.bin (.int j) .neq (.l 0) (.c (.int j 2)))],.cond (.v 33) [vD,.ret] [],.ops [c6,l',kI,aT,tT,aT,.i .l (.bin (.int j) .sub (.l 0) (.c (.int j 9))),.i .l (.fe (o 35) ag (.l 3) (.l 0)),jP,rb,rW],.ret] [.ops [.i .l (.bin (.int j) .eql (.v 26) (.c (.int j 12))),.i (.v 34) oF],.cond (.v 34) [.ops [c6,l',dC,aT,.i (.v 35) (.bin (.int j) .neq (.l 0) (.c (.int j 3)))],.cond (.v 35) [vD,.ret] [],.ops [c6,l',g4,aT,dc,.i (.v 36) afF],.cond (.v 36) [.ops [kH,.i .l (.call (.l 0) [.c (.int j 10)]),fs,ft,sV,jM],.ret] [],.ops [c6,l',kI,aT,l',jP,rb,rW],.ret] [.ops [.i .l (.bin (.int j) .eql (.v 26) (.c (.int j 13))),.i (.v 37) oF],.cond (.v 37) [.ops [c6,l',dC,aT,.i (.v 38) IN],.cond (.v 38) [vD,.ret] [],.ops [bc,c6,l',jP,.i .l (.call (.c (.fn 137 [] [])) [.l 3,.l 0,.c (.int j 0)]),cn,fs,ft,.i (.v 10) GV,.i .n (.store 6 (.v 10) (.l 1)),AN],.ops [xU,.i (.v 39) n5],.cond (.v 39) [.ops [kH,xU,NX,fs,ft,sV,jM],.ret] [],.ops [.i .l (.db 4 (.v 10)),aT,.i (.v 40) K9],.cond (.v 40) [vD,.ret] [],.ops [bc,ct,dC,aT,bc,ct,dC,aT,ct,kI,aT,dc,.i .l (.db 3 (.v 10)),aT,c6,l',g4,aT,.i .l (.build [.int j 0,.int j 0,.int j 0,.int j 0] [(0,1),(1,1),(2,1),(3,1)] [(0,(.l 6)),(1,(.l 4)),(2,(.c (.int j 1))),(3,(.l 0))]),LN,.ca [⟨ag,U,1,.l 17,(.l 16)⟩,⟨ag,U,1,.l 13,(.l 12)⟩,⟨ag,U,1,.l 10,(.l 9)⟩],ajW,.ca [⟨ag,U,1,.l 18,(.l 17)⟩],.i .l (.lN (.l 17)),kI,lT],.ops [bc,ct,dC,aT,ct,g4,aT,.i .l (.db 3 (.v 10)),aT,.i .l (.fe (o 2) ag (.l 2) (.l 0)),aT,AK,rb,rW],.ret] [.ops [.i .l (.bin (.int j) .eql (.v 26) (.c (.int j 14))),.i (.v 41) oF],.cond (.v 41) [.ops [c6,l',dC,aT,.i .l IN,cn,SL,ajS,ajT,LJ,ajU,.i (.v 42) ajV],.cond (.v 42) [vD,.ret] [],.ops [bc,c6,l',jP,.i .l (.call (.c (.fn 137 [] [])) [.l 3,.l 0,.c (.int j 1)]),cn,fs,ft,.i (.v 12) GV,.i .n (.store 6 (.v 12) (.l 1)),Cq],.ops [CF,.i (.v 43) n5],.cond (.v 43) [.ops [kH,CF,NX,fs,ft,sV,jM],.ret] [],.ops [.i .l (.db 4 (.v 12)),aT,.i (.v 44) K9],.cond (.v 44) [vD,.ret] [],.ops [bc,ct,dC,aT,bc,ct,dC,aT,ct,kI,aT,dc,.i .l (.db 3 (.v 12)),aT,c6,l',g4,aT,.i .l (.build [.int j 0,.int j 0,.int j 0,.int j 0] [(0,1),(1,1),(2,1),(3,1)] [(0,(.l 6)),(1,(.l 4)),(2,(.c (.int j 2))),(3,(.l 0))]),LN,.ca [⟨ag,U,1,.l 17,(.l 16)⟩,⟨ag,U,1,.l 13,(.l 12)⟩,⟨ag,U,1,.l 10,(.l 9)⟩],ajW,.ca [⟨ag,U,1,.l 18,(.l 17)⟩],.i .l (.lN (.l 17)),kI,lT],.ops [bc,ct,dC,aT,ct,g4,aT,.i .l (.db 3 (.v 12)),aT,c6,NW,g4,aT,.i .l (.fe (o 2) ag (.l 6) (.l 4)),ze],.ops [c6,NW,jP,rb,rW],.ret] [.ops [.i .l (.bin (.int j) .eql (.v 26) (.c (.int j 15))),.i (.v 45) oF],.cond (.v 45) [.ops [c6,l',dC,aT,.i (.v 46) IN],.cond (.v 46) [vD,.ret] [],.ops [pL,c6,l',g4,aT,oE,aT,.i .l (.call (.c (.fn 85 [] [])) [.l 6,.l 2,.l 0,.c (.int j (-1))]),cn,fs,ft,.i (.v 14) xV,EG],.ops [IP,NY,ajX,fs,ft,sV,jM],.ret] [.ops [.i .l (.bin (.int j) .eql (.v 26) (.c (.int j 16))),.i (.v 47) oF],.cond (.v 47) [.ops [c6,l',dC,aT,.i (.v 48) IN],.cond (.v 48) [vD,.ret] [],.ops [pL,ajY,cn,fs,ft,.i (.v 16) xV,vb],.ops [Fq,.i (.v 49) n5],.cond (.v 49) [ajZ,.ret] [],.ops [pL,c6,l',g4,aT,.i .l (.a8 (.v 16)),.i .l (.call (.c (.fn 85 [] [])) [.l 5,.l 1,.c (.int j 15),.l 0]),cn,fs,ft,.i (.v 18) xV,vb],.ops [.i .l (.a8 (.v 18)),Fq,ajX,cn,fs,ft,.i (.v 19) Fs,.i .n (.store 3 (.v 19) (.l 1)),vb],.ops [Fq,.i (.v 50) n5],.cond (.v 50) [ajZ,.ret] [],.ops [.i .l (.load J 3 (.v 19)),.i .l (.a8 (.v 16)),ad9,ad',LG,rb,rW],.ret] [.ops [.i .l (.bin (.int j) .eql (.v 26) (.c (.int j 17))),.i (.v 51) oF],.cond (.v 51) [.ops [c6,l',dC,aT,.i (.v 52) (.bin (.int j) .neq (.l 0) (.c (.int j 5)))],.cond (.v 52) [vD,.ret] [],.ops [pL,c6,l',g4,aT,.i .l (.call (.c (.fn 67 [] [])) [.l 4,.l 0])],.ops [lU,rb,rW],.ret] [.ops [.i .l (.bin (.int j) .eql (.v 26) (.c (.int j 18))),.i (.v 53) oF],.cond (.v 53) [.ops [bc,dc,oE,aT,c6,l',jP,.i .l (.call (.c (.fn 54 [] [])) [.l 6,.l 5,.l 3,.l 0]),fs,ft,sV,jM],.ret] [.ops [.i .l (.bin (.int j) .eql (.v 26) (.c (.int j 20))),.i (.v 54) oF],.cond (.v 54) [.ops [bc,ct,dC,aT,dc,xQ,wG,aj0,jP,.i (.v 20) Fs,.i .n (.store 3 (.v 20) (.l 0))],.ops [bc,ct,dC,aT,dc,c6,l',jP,zn,wG,.i .l (.fe ag (o (4,3)) (.l 0) (.l 5)),aeL],.ops [.i .l (.load J 3 (.v 20)),rb,rW],.ret] []]]]]]]]]]]],.ops [c6,l',dC,aT,.i (.v 55) IN],.cond (.v 55) [vD,.ret] [],.ops [bc,c6,l',jP,.i .l (.call (.c (.fn 137 [] [])) [.l 3,.l 0,.c (.int j 3)]),cn,fs,ft,.i (.v 21) GV,.i .n (.store 6 (.v 21) (.l 1)),NZ],.ops [N0,.i (.v 56) n5],.cond (.v 56) [U8,.ret] [],.ops [U9,aT,.i (.v 57) Mc],.cond (.v 57) [vD,.ret] [],.ops [bc,ct,dC,aT,U9,aT,xC,AO,xD,aT,aj1,cn,.g (.l 0) U .l (.db 5 (.v 21)),ld,EW,MS,MT,.g (.l 5) U .l oD,.g (.l 6) U .l (.db 4 (.v 21)),ae7,.g (.l 8) U .l (.lN (.l 2)),.g (.l 9) U .l (.db 3 (.l 0)),.g (.l 10) U .l aj2,.g (.l 11) U .l oD,.g (.l 12) U .l (.lN (.l 0)),.g (.l 13) U .l EX,.g (.l 14) U .l oD,.g (.l 15) U .l EV,.g (.l 16) U .l (.bin (.int j) .geq (.l 14) (.l 0)),.i (.v 58) (.pick (.l 17) (.c (.bool J)) (.l 0))],.cond (.v 58) [.ops [kH,.i .l (.call (.l 0) [.c (.int j 8)]),fs,ft,sV,jM],.ret] [],.ops [bc,ct,kI,aT,.i (.v 59) QX],.cond (.v 59) [.ops [kH,.i .l (.call (.l 0) [.c (.int j 4)]),fs,ft,sV,jM],.ret] [],.ops [pL,c6,l',g4,aT,.i .l (.call (.c (.fn 139 [] [])) [.l 4,.l 0]),U'],.ops [pL,c6,NW,jP,.i .l (.a8 (.v 23)),.i .l (.call (.c (.fn 140 [] [])) [.l 4,.l 1,.l 0]),cn,fs,ft,.i (.v 24) Fs,.i .n (.store 3 (.v 24) (.l 1)),NZ],.ops [N0,.i (.v 60) n5],.cond (.v 60) [U8,.ret] [],.ops [bc,U9,aT,.i .l (.db 5 (.v 21)),aT,.i .l (.load J 3 (.v 24)),.i .l (.call (.c (.fn 54 [] [])) [.l 5,.l 3,.l 1,.l 0]),cn,fs,ft,.i (.v 25) Fs,.i .n (.store 3 (.v 25) (.l 1)),NZ],.ops [N0,.i (.v 61) n5],.cond (.v 61) [U8,.ret] [],.ops [pL,.i .l (.load J 3 (.v 25)),.i .l (.a8 (.v 23)),.i .l (.call (.c (.fn 140 [] [])) [.l 2,.l 1,.l 0]),fs,ft,sV,jM],.ret]
theorem iD:cv aq aa 119 4 62 [0,1,2,3,6,8,9,10,11,12,13,14,15,16,17,18,19,20,21,22,23,24,25,26,27,28,37,38,51,68,75,81,87,94,108,114,124,135,141,155,163,203,216,230,238,283,289,310,316,327,350,361,367,379,391,418,432,440,474,483,504,521] im [(.cell J 3 5),(.v 6)] U:=by refine⟨_,_,Tryz.func119,rfl,rfl,?_,?_,?_,?_,?_⟩<;>kernel_rfl
def Va:List bb:=[.ops [.i (.v 4) L6,xP,rW],.ops [bc,ct,kI,aT,.i (.v 9) QX],.cond (.v 9) [.ops [lU,rb,.i (.v 6) (.a8 (.c (.int j 4)))],.ret] [],.ops [bc,ct,kI,aT,oG,zn,kI,lT],.ops [bc,dc,bc,ct,dC,aT,dc,xQ,AO,xD,aT,ct,dC,aT,hd,wO,mR,sT,.i .l (.call (.c (.fn 95 [] [])) [.l 17,.l 16,.l 1,.l 0,.c .aJ]),cn,fs,ft,Hm,.ca [⟨ag,U,1,.l 17,(.l 16)⟩,⟨ag,U,1,.l 12,(.l 11)⟩,⟨ag,U,1,.l 9,(.l 8)⟩,⟨ag,J,4,.l 6,(.l 5)⟩,⟨ag,J,3,.v 4,(.l 4)⟩],zs,kZ],aeu,.ops [Sm,pL,sV,jM],.ret]
theorem aj3:cv aq aa 54 4 10 [0,1,2,3,7,8,9,10,11,16] Va [(.cell J 3 5),(.v 6)] U:=by refine⟨_,_,Tryz.func54,rfl,rfl,?_,?_,?_,?_,?_⟩<;>kernel_rfl
def Df:List bb:=[.ops [NY,Dg,aT,qB,.i (.v 31) HK],.cond (.v 31) [] [.exit 1],.block 2 [.ops [bc,dc,Dg,aT,NY,wO,mR,tJ,fu,.i .l (.call (.c (.fn 95 [] [])) [.l 8,.l 7,.l 2,.l 1,.l 0]),cn,fs,ft,.i (.v 16) Fs,.ca [⟨ag,U,1,.l 10,(.l 9)⟩,⟨ag,J,4,.l 7,(.l 6)⟩,⟨ag,J,3,.v 6,(.l 5)⟩],.i .n (.store 3 (.v 16) (.l 1)),vb],.ops [Fq,.i (.v 32) n5],.cond (.v 32) [.ops [lU,Fq,zs,kZ],.ret] [],.ops [IP,.i .l (.load J 3 (.v 16)),aj4,af1,Hl]],.ops [NY,oG,EG]]
def rl:List bb:=[.ops [.i (.v 5) (.box 4 (.v 2)),.i (.v 6) L6,Hm,rX],.ops [bc,ct,g4,aT,.i (.v 18) SN],.cond (.v 18) [.ops [lU,wH,.i (.v 8) (.a8 (.c (.int j 12)))],.ret] [],.ops [bc,ct,g4,aT,nb,zn,g4,lT],.ops [Ss,.i (.v 19) oD],.block 0 [.ops [.i .l (.bin (.int j) .eql (.v 19) (.c (.int j 1))),LL],.cond (.v 20) [.ops [lU,wH,rX],.ret] [.ops [.i .l (.bin (.int j) .eql (.v 19) (.c (.int j 2))),.i (.v 21) oF],.cond (.v 21) [.ops [.i .l (.db 2 (.v 5)),aT,AK,wH,rX],.ret] [.ops [.i .l (.bin (.int j) .eql (.v 19) (.c (.int j 3))),NZ],.cond (.v 22) [.ops [tJ,wH,rX],.ret] [.ops [.i .l (.bin (.int j) .eql (.v 19) (.c (.int j 4))),U'],.cond (.v 23) [.ops [fu,fu,sS,nb,Rb,aT,aek,.i .l (.fe (o 35) ag (.l 6) (.l 0)),jP,wH,rX],.ret] [.ops [.i .l (.bin (.int j) .eql (.v 19) (.c (.int j 21))),.i (.v 24) oF],.cond (.v 24) [.ops [bc,ct,dC,aT,dc,xQ,wG,aj0,jP,wH,rX],.ret] [.ops [.i .l (.bin (.int j) .eql (.v 19) (.c (.int j 5))),.i (.v 25) oF],.cond (.v 25) [.ops [bc,dc,Dg,aT,Vb,mR,tJ,fu,IQ,cn,fs,ft,Hj,.ca [⟨ag,U,1,.l 9,(.l 8)⟩,⟨ag,J,4,.l 7,(.l 6)⟩,⟨ag,J,3,.v 6,(.l 5)⟩],aed,va],.ops [tS,.i (.v 26) n5],.cond (.v 26) [.ops [lU,tS,zs,kZ],.ret] [],.ops [.i (.v 11) (.a8 (.c .aJ))],.ops [xU,fu,Hk,aj4,.i .l (.app U 35 (.l 3) (.l 2)),.ca [⟨ag,J,3,.v 9,(.l 2)⟩],.i .l (.app U 35 (.l 0) (.l 1)),AN],.ops [bc,dc,Dg,aT,Vc,mR,tJ,xU,IQ,fs,ft,zs,kZ],.ret] [.ops [.i .l (.bin (.int j) .eql (.v 19) (.c (.int j 7))),.i (.v 27) oF],.cond (.v 27) [.ops [bc,dc,Dg,aT,Vb,mR,tJ,fu,IQ,cn,fs,ft,SG,.ca [⟨ag,U,1,.l 9,(.l 8)⟩,⟨ag,J,4,.l 7,(.l 6)⟩,⟨ag,J,3,.v 6,(.l 5)⟩],SH,Cq],.ops [CF,.i (.v 28) n5],.cond (.v 28) [.ops [lU,CF,zs,kZ],.ret] [],.ops [.i .l (.db 0 (.v 12)),aT,.i (.v 29) ajR],.cond (.v 29) [.ops [lU,wH,.i (.v 8) HJ],.ret] [],.ops [.i .l (.db 1 (.v 12)),aT,.i (.v 30) n5],.cond (.v 30) [.ops [bc,dc,Dg,aT,Vc,mR,tJ,fu,IQ,fs,ft,zs,kZ],.ret] [],.ops [bc,dc,Dg,aT,agk,mR,tJ,fu,IQ,fs,ft,zs,kZ],.ret] []]]]]]]],.ops [.i (.v 14) (.a8 (.c .aJ))],.ops [.i (.v 15) (.a8 (.c (.int j 0)))],.block 1 [.loop Df],.ops [bc,dc,.i .l (.load J 4 (.v 5)),IP,.i .l (.call (.c (.fn 119 [] [])) [.l 3,.l 2,.l 1,.l 0]),fs,ft,zs,kZ],.ret]
theorem sg:cv aq aa 95 5 33 [0,1,2,3,4,7,8,10,11,12,13,14,15,16,17,18,19,20,25,35,36,39,44,47,58,69,84,104,119,124,128,155,172] rl [(.cell J 3 7),(.v 8)] U:=by refine⟨_,_,Tryz.func95,rfl,rfl,?_,?_,?_,?_,?_⟩<;>kernel_rfl
def w0:List bb:=[.ops [.i (.v 5) L6,GJ,wv,rX],.ops [fu,qp,cn,.g (.l 0) U .l (.a8 (.v 4)),ae3,zr,cn,zg,HA,zr,cn,zg,LR,.i (.v 13) Rp],.cond (.v 13) [.ops [lU,GK,wv,.i (.v 8) HU],.ret] [],.ops [bc,dc,xQ,AO,xD,aT,aj1,cn,EN,HA,zr,cn,EN,La,ae4,ae5,.g (.l 4) U .l (.db 3 (.l 0)),.g (.l 5) U .l aj2,MU,.g (.l 7) U .l (.lN (.l 0)),.g (.l 8) U .l EX,.g (.l 9) U .l oD,.g (.l 10) U .l EV,.g (.l 11) U .l (.bin (.int j) .geq (.l 10) (.l 0)),.i (.v 14) (.pick (.l 12) (.c (.bool J)) (.l 0))],.cond (.v 14) [.ops [lU,GK,wv,.i (.v 8) (.a8 (.c (.int j 8)))],.ret] [],.ops [tR,S6,u'],.ops [qt,M1],.cond (.v 15) [.ops [lU,qt,.i .n (.store 3 (.v 6) (.l 1)),wv,kZ],.ret] [],.ops [bc,fu,.i .l (.build [.e',.int j 0,.int j 0] [(0,1),(1,1),(2,1)] [(0,(.l 1)),(1,(.l 0))]),.i .l (.box 3 (.l 0)),va],.ops [tS,dc,hd,tR,.i .l (.call (.c (.fn 54 [] [])) [.l 3,.l 2,.l 1,.l 0]),cn,fs,ft,.i (.v 11) Fs,.i .n (.store 3 (.v 11) (.l 1)),zm],.ops [N1,SF],.cond (.v 16) [.ops [lU,fu,tS,ct,g4,aT,L',N1,.i .n (.store 3 (.v 6) (.l 7)),.ca [⟨ag,U,1,.l 3,(.l 2)⟩],Vd,kZ],.ret] [],.ops [.i .l (.load J 3 (.v 11)),fu,tS,ct,g4,aT,L',.i .n (.store 3 (.v 6) (.l 6)),.ca [⟨ag,U,1,.l 2,(.l 1)⟩],nG,rX],.ret]
theorem yh:cv aq aa 18 5 17 [0,1,2,3,4,8,10,11,12,13,14,15,16,30,56,61,77] w0 [(.cell J 3 6),(.v 7),(.v 8)] U:=by refine⟨_,_,Tryz.func18,rfl,rfl,?_,?_,?_,?_,?_⟩<;>kernel_rfl
def lj:List bb:=[UW,.ops [nF,aT,rU,cn,SV,nH,.g (.l 2) J .l Ru,zt,je],.ops [r3,.i (.v 15) oD],.block 0 [.ops [.i .l (.bin (.int j) .eql (.v 15) (.c (.int j 1))),Cr],.cond (.v 16) [.ops [bc,nF,aT,.i .l (.db 8 (.v 2)),UX,.i .l (.call (.c (.fn 44 [] [])) [.l 4,.l 2,.l 0]),Az,n9],.ret] [.ops [.i .l (.bin (.int j) .eql (.v 15) (.c (.int j 2))),vb],.cond (.v 17) [] [.ops [.i .l (.bin (.int j) .eql (.v 15) (.c (.int j 3))),vb]],.cond (.v 17) [.ops [fu,.i (.v 18) vh],.cond (.v 18) [.ops [ajF,n9],.ret] [],.ops [r3,aT,.i (.v 19) (.bin (.int j) .eql (.l 0) (.c (.int j 3)))],.cond (.v 19) [.ops [bc,ct,dC,aT,tK,aT,qA,aT,II,aT,Fo,aT,.i .l (.call (.c (.fn 64 [] [])) [.l 8,.l 6,.l 4,.l 2,.l 0]),cn,fs,ft,AB,jM],.ops [bc,IJ,hV,ky,aj5,n9],.ret] [],.ops [bc,ct,dC,aT,qA,aT,II,aT,Fo,aT,.i .l (.call (.c (.fn 66 [] [])) [.l 6,.l 4,.l 2,.l 0]),cn,fs,ft,Vd,kZ],.ops [bc,IJ,kH,pL,aj5,n9],.ret] [.ops [.i .l (.bin (.int j) .eql (.v 15) (.c (.int j 4))),LL],.cond (.v 20) [.ops [.i .l (.db 7 (.v 2)),aT,AK,Hj,LM],.ops [NS,aT,.i (.v 21) K9],.cond (.v 21) [.ops [fu,wq,cn,aju,ld,EW,ajv,Lb,ajw,.g (.l 6) U .l (.db 19 (.l 0)),ajx,ajy,ajz,ajA,.i (.v 22) ajB],.cond (.v 22) [.ops [ajC,n9],.ret] [],.ops [bc,nF,aT,xC,GL,xD,aT,NS,aT,ajD,jP,LM]] [],.ops [bc,nF,aT,qA,aT,Hk,.i .l (.call (.c (.fn 18 [] [])) [.l 5,.l 3,.l 1,.l 0,.c (.int j 2000)]),cn,fs,ft,.i .l (.ext (.l 2) 2),aer,.i .n (.store 3 (.v 10) (.l 2)),.i (.v 11) xV,zm],.ops [N1,xU,.i .l (.load J 3 (.v 10)),ajE,n9],.ret] [.ops [.i .l (.bin (.int j) .eql (.v 15) (.c (.int j 5))),U'],.cond (.v 23) [.ops [bc,ct,dC,aT,Fo,aT,.i .l (.call (.c (.fn 67 [] [])) [.l 2,.l 0]),Az,n9],.ret] [.ops [.i .l (.bin (.int j) .eql (.v 15) (.c (.int j 6))),.i (.v 24) oF],.cond (.v 24) [.ops [bc,ct,dC,aT,ajY,cn,fs,ft,.i (.v 13) xV,Hl],.ops [IP,.i (.v 25) n5],.cond (.v 25) [.ops [IP,Az,n9],.ret] [],.ops [CF,AK,K0,n9],.ret] []]]]]],.ops [ajH,n9],.ret]
theorem ci:cv aq aa 27 2 26 [0,1,3,4,5,6,7,8,9,10,11,12,13,14,15,25,26,35,39,43,84,91,106,134,144,155] lj [(.cell J 5 3)] U:=by refine⟨_,_,Tryz.func27,rfl,rfl,?_,?_,?_,?_,?_⟩<;>kernel_rfl
def N2:List bb:=[.ops [hV,bc,zR,.i (.v 6) GU],.cond (.v 6) [] [.exit 0],.block 1 [.ops [fu,c6,bc,hV,IK,IS,.i .l (.call (.c (.fn 27 [] [])) [.l 4,.l 0]),aj6,.i .l (.app U 41 (.l 7) (.l 0)),je]],Cb]
def aj7:List bb:=[.ops [IT,.i (.v 2) (.a8 (.c .e'))],.ops [.i .l (.call (.c (.fn 25 [] [])) []),jA],aj8,xF,.block 0 [.loop N2],.ops [fu,c6,.i (.v 1) xV,jz],.ret]
theorem ayk:cv aq aa 33 1 7 [0,2,3,4,5,6,11] aj7 [(.v 1),(.v 2)] U:=by refine⟨_,_,Tryz.func33,rfl,rfl,?_,?_,?_,?_,?_⟩<;>kernel_rfl
def N3:List bb:=[.ops [qt,bc,zR,.i (.v 16) GU],.cond (.v 16) [] [.exit 0],.block 1 [.ops [pL,bc,qt,IK,IS,.i .l (.call (.c (.fn 36 [] [])) [.l 4,.l 0]),cn,fs,ft,.i (.v 10) KX,.i (.v 11) aj9,.i .n (.store 5 (.v 10) (.l 1)),.i .n (.store 2 (.v 11) (.l 0))],.ops [.i .l (.db 0 (.v 11)),aT,tP,cn,.g (.l 0) U .l (.load J 5 (.v 10)),aj',.g (.l 2) U .l (.a8 (.v 9)),.g (.l 3) U .l (.fe (o 41) ag (.l 1) (.l 0)),.g (.l 4) U .l (.load J 5 (.l 0)),.g (.l 5) U .l aka,.g (.l 6) U .l vh,.i (.v 17) Lc],.cond (.v 17) [EE,.ret] [],.ops [pL,dc,hd,c6,bc,qt,oG,.i .l (.yZ U (o 82) (.l 2) ag (o (.l 0))),kH,qt,oG,.i .l (.yZ U (o 41) (.l 2) ag (o (.l 0))),dc,hd,c6,.i .l (.call (.c (.fn 37 [] [])) [.l 14,.l 13,.l 12,.l 11]),.i .l (.call (.c (.fn 38 [] [])) [.l 8,.l 4,.l 3,.l 2,.l 1]),.i (.v 18) (.bin .bool .neq (.l 1) (.l 0))],.cond (.v 18) [EE,.ret] []],.ops [qt,oG,u']]
def N4:List bb:=[EE,.ops [.i .l (.call (.c (.fn 31 [] [])) []),.i (.v 12) vh],.cond (.v 12) [EE,.ret] [],.ops [bc,.i .l (.call (.c (.fn 23 [] [])) [.l 0,.c (.int j 120)]),cn,wo,.g (.l 1) J .l (.len U (o 82) (.l 0)),.g (.l 2) J .l (.bin (.int j) .leq (.l 0) (.c (.int j 200))),.i (.v 13) Ca],.cond (.v 13) [.ops [akb],.ret] [],.ops [bc,.i .l (.call (.c (.fn 32 [] [])) [.l 0]),cn,fs,ft,ajp,AB,ajq],.ops [bc,zR,.i (.v 14) akc],.cond (.v 14) [.ops [.i .l (.load J 2 (.v 6)),Tv,.i .l (.BN .agg (o [.int j,.int j]) U .eql (.l 1) (.l 0)),cn,agy,.g (.l 1) J .l (.len U (o 41) (.l 0)),akd,zt,je],.ret] [],.ops [bc,.i .l (.call (.c (.fn 33 [] [])) [.l 0]),cn,fs,ft,Vd,cn],.ops [NR,aT,tP,cn,.g (.l 0) U .l (.a8 (.v 5)),aj',.g (.l 2) U .l (.call (.c (.fn 34 [] [])) [.l 1,.l 0]),.g (.l 3) U .l vh,.i (.v 15) AF],.cond (.v 15) [EE,.ret] [],.ops [Ve,kZ],.ops [CE],.block 0 [.loop N3],.ops [akb],.ret]
theorem Vf:cv aq aa 6 4 19 [0,1,2,3,8,9,10,11,13,14,15,16,18,25,33,55,60,83,101] N4 [(.v 4)] J:=by refine⟨_,_,Tryz.func6,rfl,rfl,?_,?_,?_,?_,?_⟩<;>kernel_rfl
def N5:List bb:=[.ops [hV,fu,B',ake],.cond (.v 7) [] [.exit 0],.block 1 [.ops [bc,ct,dC,aT,fu,hV,Es,aT,ac5,g4,aT,jM],.ops [ky,ajt],.cond (.v 8) [.ops [c6,ky,B7,afl,jA]] []],Cb]
def akf:List bb:=[AD,GP,.ops [bc,dc,Rw,je],xF,.block 0 [.loop N5],wu,.ret]
theorem ayl:cv aq aa 139 2 9 [0,1,4,5,6,7,8,15,30] akf [(.v 2)] J:=by refine⟨_,_,Tryz.func139,rfl,rfl,?_,?_,?_,?_,?_⟩<;>kernel_rfl
def akg:List bb:=[.ops [acC,GR],.ops [bc,dc,Rw,je],.ops [fu,B',acD],.cond (.v 5) [.ops [Rg,K6,GR],.ret] [],.ops [bc,ct,dC,aT,fu,fu,B',nb,.i .l (.fe (o 3) ag (.l 3) (.l 0)),aT,.i .l (.fe (o 132) ag (.l 6) (.l 0)),Eo,K6,acE],.ret]
theorem aym:cv aq aa 153 2 6 [0,1,4,5,6,12] akg [(.cell J 6 2),(.v 3)] J:=by refine⟨_,_,Tryz.func153,rfl,rfl,?_,?_,?_,?_,?_⟩<;>kernel_rfl
section
variable{h:ai}{ah al:Nat->Prop}{b:Nat}{G:aI}
theorem ayn(g:fm h ah al b G)(ck:G.dg)(W:List Int)(w:F)(hw:gB 3 w (eI W))(RO:W.length<=1000)(G1:∀i∈W,G.has i=J)(cI:F):∀(l pre:List Int) (E:ai) (v cz t1 t2:F),W=pre++l->aG h E->Acc h E 3 v (eI (mN (pre.map G.at_)))->m7 J [.v 2] h (bB (aU aq aa) 9 [.eM N5,.bP [],.cu 0,.bP [.ops [c6,jz],.ret]] [.ptr b 0 0,cI,.aJ,v,w,.int j pre.length,cz,t1,t2] [] E)=o (.inl (hy 3 (eI (mN (W.map G.at_)))),h):=by
 intro l;induction l with
 |nil=>
   intro pre E v cz t1 t2 e a5 aV;rw[cy N5.eq_1];have ba:¬((pre.length:Int)<(W.length:Int)):=by rw[e];simp
   rw[ou]at e;rw[<-e]at aV;simp only[ao,ar,av,ap,b2,hw.len,hw.fits,fM,ba,dE a5 (BW aV (RB _))]
 |cons i l aR=>
   intro pre E v cz t1 t2 e a5 aV;have fH:=g.h1 a5;obtain⟨aZ,dS,I,R, -⟩:=fH.ex;rw[cy N5.eq_1];have ba:(pre.length:Int)<(W.length:Int):=by rw[e];simp;omega
   obtain⟨m,rfl,hm,ww⟩:=aI.GW (G1 i (by rw[e];simp));have fv:=hw.bJ j pre.length [.int j (m:Int)] (by rw[e];simp);have Cg:=R.dH.bJ j m _ ww;have Lo:G.at_ (m:Int)=G.nodes.getD m fL:=rfl;have qr:=ew (n:=(pre.length:Int)+1) (by omega) (by omega);have ay:((pre++[(m:Int)]).length:Int)=(pre.length:Int)+1:=by simp
   have Cd:(eI (mN (pre.map G.at_))).length<=1000000:=by
    have:=List.length_filter_le (λn:bi=>decide (0<=n.gate)) (pre.map G.at_);have R:pre.length<=W.length:=by rw[e];simp
    simp[mN]at this ⊢;omega
   by_cases ak:0<=(G.nodes.getD m fL).gate
   ·have lS:mN ((pre++[(m:Int)]).map G.at_)=mN (pre.map G.at_)++[(G.nodes.getD m fL).gate]:=by rw[u5,mN,List.filter_append,u5];simp only[kf,pt,Lo,List.filter_cons,ak,decide_true,if_true,List.filter_nil];rfl
    obtain⟨a',o5,aw,aP,a2,bl,cr⟩:=y4 aV a5 (row:=[.int j (G.nodes.getD m fL).gate]) rfl Cd;have:=aR (pre++[(m:Int)]) o5 a' (.int j (G.nodes.getD m fL).gate) (.bool J) (.bool J) (by simp[e]) a2 (by rw[lS,eI,u5];exact aP);rw[ay]at this;simp only[ao,ar,av,ap,b2,hw.len,hw.fits,fM,ba,fv,Cg,I,l9,ak,qr,aw,this]
   ·have lS:mN ((pre++[(m:Int)]).map G.at_)=mN (pre.map G.at_):=by rw[u5,mN,List.filter_append,u5];simp only[kf,pt,Lo,List.filter_cons,ak,decide_false,mF,if_false,List.filter_nil,ou];rfl
    have:=aR (pre++[(m:Int)]) E v (.int j (G.nodes.getD m fL).gate) (.bool J) (.bool U) (by simp[e]) a5 (by rw[lS];exact aV);rw[ay]at this;simp only[ao,ar,av,ap,b2,hw.len,hw.fits,fM,ba,fv,Cg,I,l9,ak,qr,this]
theorem ayo(g:fm h ah al b G)(ck:G.dg)(i:Int):aU aq aa 139 [.ptr b 0 0,.int j i] h=o (.inl (hy 3 (eI (G.kx i))),h):=by refine a4 ayl rfl ?_;unfold akf;have am:=uY 3 (eI (G.hM i));have zi:=ayn g ck (G.hM i) (hy 3 (eI (G.hM i))) am (by have:=aI.Lm ck i;omega) (aI.Lf i) (.int j i) (G.hM i) [] h .aJ .aD .aD .aD rfl (aG.refl h) (wa _ _ _);simp only[fG,j']at zi;rw[aI.zh]at zi;simp only[ao,ar,av,ap,Ln g ck];exact zi
theorem ayp(g:fm h ah al b G)(ck:G.dg)(i:Int):aU aq aa 153 [.ptr b 0 0,.int j i] h=o (.inl (.bS [.agg (dv (G.target i).1),.bool (G.target i).2]),h):=by
 refine a4 aym rfl ?_;unfold akg;have am:=uY 3 (eI (G.hM i));have hw:∀(n:bi) (x:Bool),dl (.bS [.agg (dv n),.bool x])=o (.bS [.agg (dv n),.bool x]):=λn x=>rfl;have ayq:=aG.push h [[F.int j 0,.int j 0,.int j 0,.int j 0,.int j 0,.int j 0]];have akh:=g.h1 ayq;obtain⟨aZ,dS,I,R, -⟩:=akh.ex;have pM:=Ln akh ck;have qq:∀n:bi,aG h (h.push [dv n]):=λn=>aG.push _ _;rcases List.eq_nil_or_concat (G.hM i)with aB|⟨pre,k,aB⟩
 ·have az:G.path i=[]:=by rw[<-aI.zh,aB];rfl
  have a6:G.target i=(fL,U):=by simp[aI.target,az]
  rw[a6];have hlen:(G.hM i).length=0:=by rw[aB];rfl
  simp only[ao,ar,av,ap,pM,am.len,am.fits,fM,hlen,j'];exact dE (qq fL) (hw fL U)
 ·rw[List.concat_eq_append]at aB;have ab:=aI.Lf i k (by rw[aB];simp);obtain⟨m,rfl,hm,ww⟩:=aI.GW ab;have a6:G.target i=(G.nodes.getD m fL,J):=by unfold aI.target;rw[<-aI.zh,aB,u5,List.map_singleton];have:G.at_ (m:Int)=G.nodes.getD m fL:=rfl;rw[this];generalize G.nodes.getD m fL=n;simp[List.getLastD_eq_getLast?]
  have aF:¬(((pre.length+1:Nat):Int)=0):=by omega
  have aC:kw j (((pre.length+1:Nat):Int) - 1)=(pre.length:Int):=by rw[ew]<;>(have:=aI.Lm ck i;rw[aB]at this;simp at this;omega)
  have fv:=am.bJ j pre.length [.int j (m:Int)] (by rw[aB];simp);have Cg:=R.dH.bJ j m _ ww;rw[a6];have hlen:(G.hM i).length=pre.length+1:=by rw[aB];simp
  simp only[ao,ar,av,ap,pM,I,am.len,am.fits,fM,hlen,aF,aC,fv,Cg,l9];exact dE (qq _) (hw _ J)
end
section
variable{h:ai}
theorem ayr(k x y:Int):aU aq aa 136 [.int j k,.int j x,.int j y] h=o (.inl (.int j (Ax k x y)),h):=by
 refine a4 arM rfl ?_;unfold aeF;unfold Ax;cases I:decide (k=1)with
 |true=>
   have cF:k=1:=by simpa using I
   rw[if_pos cF];simp only[ao,ar,av,ap,I]
 |false=>
   have cF:¬k=1:=by simpa using I
   rw[if_neg cF];cases R:decide (k=2)with
   |true=>
     have cA:k=2:=by simpa using R
     rw[if_pos cA];simp only[ao,ar,av,ap,I,R]
   |false=>
     have cA:¬k=2:=by simpa using R
     rw[if_neg cA];cases aj:decide (k=3)with
     |true=>
       have dK:k=3:=by simpa using aj
       rw[if_pos dK];simp only[ao,ar,av,ap,I,R,aj]
     |false=>
       have dK:¬k=3:=by simpa using aj
       rw[if_neg dK];cases aH:decide (k=4)with
       |true=>
         have dR:k=4:=by simpa using aH
         rw[if_pos dR];cases bq:decide (x<y)with
         |true=>rw[if_pos (by simpa using bq)];simp only[ao,ar,av,ap,I,R,aj,aH,bq]
         |false=>rw[if_neg (by simpa using bq)];simp only[ao,ar,av,ap,I,R,aj,aH,bq]
       |false=>
         have dR:¬k=4:=by simpa using aH
         rw[if_neg dR];cases cq:decide (k=5)with
         |true=>
           have hC:k=5:=by simpa using cq
           rw[if_pos hC];cases bq:decide (x=y)with
           |true=>rw[if_pos (by simpa using bq)];simp only[ao,ar,av,ap,I,R,aj,aH,bq,cq]
           |false=>rw[if_neg (by simpa using bq)];simp only[ao,ar,av,ap,I,R,aj,aH,bq,cq]
         |false=>
           have hC:¬k=5:=by simpa using cq
           rw[if_neg hC];simp only[ao,ar,av,ap,I,R,aj,aH,cq]
end
theorem Bf{α:Type}{l:List α}(h:l.length=4):∃a b c d,l=[a,b,c,d]:=by
 match l,h with
 |[a,b,c,d],_=>exact⟨a,b,c,d,rfl⟩
theorem IU{α:Type}{l:List α}(h:l.length=3):∃a b c,l=[a,b,c]:=by
 match l,h with
 |[a,b,c],_=>exact⟨a,b,c,rfl⟩
theorem Ft{dP:List (List F)}(h:dP.length=4)(aj:∀r∈dP,r.length=3):∃a b c d e f g i D k l m,dP=[[a,b,c],[d,e,f],[g,i,D],[k,l,m]]:=by obtain⟨x,y,z,w,rfl⟩:=Bf h;obtain⟨a,b,c,rfl⟩:=IU (aj x (by simp));obtain⟨d,e,f,rfl⟩:=IU (aj y (by simp));obtain⟨g,i,D,rfl⟩:=IU (aj z (by simp));obtain⟨k,l,m,rfl⟩:=IU (aj w (by simp));exact⟨a,b,c,d,e,f,g,i,D,k,l,m,rfl⟩
theorem dk.cV:∀{l:List ax} {es:List (List F)},dk l es->∀r∈es,r.length=3
 |[],es,h,r,au=>by simp only[dk]at h;subst h;simp at au
 |x::l,es,h,r,au=>by
   simp only[dk]at h;obtain⟨q,rs,rfl,I,R⟩:=h;rcases mJ.1 au with rfl|au
   ·exact I.cV.1
   ·exact dk.cV R r au
theorem dk.set:∀{l:List ax} {es:List (List F)} {v:ax} {r:List F},dk l es->bZ v r->∀n,dk (l.set n v) (es.set n r)
 |[],es,v,r,h,Z,n=>by simp only[dk]at h;subst h;simp[dk]
 |x::l,es,v,r,h,Z,n=>by
   simp only[dk]at h;obtain⟨q,rs,rfl,I,R⟩:=h;cases n with
   |zero=>exact⟨r,rs,rfl,Z,R⟩
   |succ n=>exact⟨q,rs.set n r,rfl,I,dk.set R Z n⟩
section
variable{h E ak:ai}{ah al aO aL:Nat->Prop}{L:List cc}{c:iC}{ms:dn}{S:bt}{a7:List (List ax)}
structure n'(h:ai)(c:iC)(bn:F)(dP:List (List F))(Z:List F)(ms:dn):Prop where
 cell:h.cell c.ad=o [ks c bn dP Z]
 lt:c.ad<h.n
 d':c.kd.length=4
 dR:dP.length=4
 dK:∀r∈dP,r.length=3
 Vg:∀p:Nat,ms[p]? =o ag->∃v,c.kd[p]? =o (.e',v)
 mod:∀(p:Nat) (M:List bC),ms[p]? =o (o M)->∃q v es,c.kd[p]? =o (.ptr q 0 0,v)/\h.cell q=o [[v]]/\q<h.n/\e9 gp v es/\g3 M es
theorem n'.push{bn:F}{dP:List (List F)}{Z:List F}(f:n' h c bn dP Z ms)(g:aG h E):n' E c bn dP Z ms:=⟨(g.cell _ f.lt).trans f.cell,fS f.lt g.n,f.d',f.dR,f.dK,f.Vg,λp M az=>by obtain⟨q,v,es,a,b,d,e⟩:=f.mod p M az;exact⟨q,v,es,a,(g.cell _ d).trans b,fS d g.n,e⟩⟩
theorem aki{α β N6:Type}{f:α->β->N6}{l:List α}{m:List β}{p:Nat}{b:β}(am:l.length=m.length)(az:m[p]? =o b){cJ:List N6}:∃a,l[p]? =o a/\(jh f l m++cJ)[p]? =o (f a b):=by have uM:=(fO.1 az).1;refine⟨l[p]'(by omega),fT _,?_⟩;rw[l0 (by simp;omega),List.getElem?_zipWith,az,fT (by omega)]
theorem IV{S:bt}(x:(kL c ms S a7).A h ah al)(aH:ms.length=4)(dR:S.kept.length=4):∃bn dP Z,n' h c bn dP Z ms/\dk S.kept dP/\c.kd.length=ms.length/\Z.length=a7.length/\aN h ah al h (a1 c.ad [ks c bn dP Z]::a1 c.lE (S.cells.map λx=>[.int j x])::gc iw bn (S.log.map hc)::(jh oR c.kd ms++jh tb Z a7))/\(cm (a1 c.ad [ks c bn dP Z]::a1 c.lE (S.cells.map λx=>[.int j x])::gc iw bn (S.log.map hc)::(jh oR c.kd ms++jh tb Z a7))).A h ah al:=by
 obtain⟨⟨bn,dP,Z⟩,⟨I,R,aj⟩,y⟩:=x;have s:=aN.start y;have cB:=s.cell 0 rfl;refine⟨bn,dP,Z,⟨cB.1,cB.2,I.trans aH,R.len.trans dR,R.cV,λp az=>?_,λp M az=>?_⟩,R,I,aj,s,y⟩
 ·obtain⟨a,aV,aB⟩:=aki (f:=oR) (cJ:=jh tb Z a7) I az;obtain⟨eJ,eK,e,_⟩:=s.get (3+p) (X:=oR a ag) (by rw[show 3+p=p+1+1+1 by omega];exact aB);exact⟨a.2,by rw[aV,<-e]⟩
 ·obtain⟨a,aV,aB⟩:=aki (f:=oR) (cJ:=jh tb Z a7) I az;obtain⟨eJ,eK,⟨q,es⟩,⟨aw,ay,be⟩,y⟩:=s.get (3+p) (X:=oR a (o M)) (by rw[show 3+p=p+1+1+1 by omega];exact aB);simp only at aw ay be;obtain⟨_,_,fU,jV⟩:=y;exact⟨q,a.2,es,by rw[aV,<-aw],jV,fU,ay,be⟩
theorem mz(s:aN ak aO aL h L)(i:Nat)(af:L[i]? =o (kL c ms S a7))(aH:ms.length=4)(dR:S.kept.length=4):∃bn dP Z,n' h c bn dP Z ms/\dk S.kept dP:=by obtain⟨ah,al,x⟩:=s.get i af;obtain⟨bn,dP,Z,a,b,_⟩:=IV x aH dR;exact⟨bn,dP,Z,a,b⟩
variable{bn:F}{dP:List (List F)}{Z:List F}
theorem n'.oS(f:n' h c bn dP Z ms){n:Nat}:cR U n h (.ptr c.ad 0 0)=o (.ptr c.il 0 0):=by rw[gb,f.cell];rfl
theorem n'.cells(f:n' h c bn dP Z ms){n:Nat}:cR U n h (.ptr c.ad 0 1)=o (.bw c.lE 0 12 wm):=by rw[gb,f.cell];rfl
theorem n'.mU(f:n' h c bn dP Z ms){n p:Nat}{v:F×F}(az:c.kd[p]? =o v):cR U n h (.ptr c.ad 0 (3+p))=o v.1:=by
 rw[gb,f.cell];obtain⟨ad,il,lE,kd⟩:=c;obtain⟨a,b,d,e,rfl⟩:=Bf f.d';simp only at az;have:p<4:=(fO.1 az).1
 match p,this with
 |0,_=>obtain rfl:=k9 az;rfl
 |1,_=>obtain rfl:=k9 az;rfl
 |2,_=>obtain rfl:=k9 az;rfl
 |3,_=>obtain rfl:=k9 az;rfl
theorem n'.akj(f:n' h c bn dP Z ms){p:Nat}{r:List F}(az:dP[p]? =o r):cR J 3 h (.ptr c.ad 0 (7+p*3))=o (.agg r):=by
 rw[gb,f.cell];obtain⟨ad,il,lE,kd⟩:=c;obtain⟨a,b,d,e,rfl⟩:=Bf f.d';have am:=f.dR;obtain⟨_,_,_,_,_,_,_,_,_,_,_,_,rfl⟩:=Ft f.dR f.dK;have:p<4:=(fO.1 az).1
 match p,this with
 |0,_=>obtain rfl:=k9 az;simp[fZ]
 |1,_=>obtain rfl:=k9 az;simp[fZ]
 |2,_=>obtain rfl:=k9 az;simp[fZ]
 |3,_=>obtain rfl:=k9 az;simp[fZ]
theorem n'.dq(f:n' h c bn dP Z ms){p:Nat}(az:p<4){r:List F}(au:r.length=3):dy (ks c bn dP Z) (7+p*3) r=ks c bn (dP.set p r) Z:=by
 obtain⟨ad,il,lE,kd⟩:=c;obtain⟨a,b,d,e,rfl⟩:=Bf f.d';obtain⟨_,_,_,_,_,_,_,_,_,_,_,_,rfl⟩:=Ft f.dR f.dK;obtain⟨_,_,_,rfl⟩:=IU au
 match p,az with
 |0,_=>simp[dy]
 |1,_=>simp[dy]
 |2,_=>simp[dy]
 |3,_=>simp[dy]
theorem n'.len(f:n' h c bn dP Z ms):19<=(ks c bn dP Z).length:=by obtain⟨ad,il,lE,kd⟩:=c;obtain⟨a,b,d,e,rfl⟩:=Bf f.d';obtain⟨_,_,_,_,_,_,_,_,_,_,_,_,rfl⟩:=Ft f.dR f.dK;simp
theorem ays(s:aN ak aO aL h L)(i:Nat)(af:L[i]? =o (kL c ms S a7))(aH:ms.length=4)(dR:S.kept.length=4){p:Nat}(az:p<4){v:ax}{r:List F}(au:bZ v r):∃E,e0 3 h (.ptr c.ad 0 (7+p*3)) (.agg r)=o E/\aN ak aO aL E (L.set i (kL c ms {S with kept:=S.kept.set p v} a7)):=by refine s.call (cJ:=λE=>e0 3 h (.ptr c.ad 0 (7+p*3)) (.agg r)=o E) i af λah al x=>?_;obtain⟨bn,dP,Z,f,ab,I,aj,s,_⟩:=IV x aH dR;have st:=lu (n:=3) (x:=.agg r) (off:=7+p*3) (i:=0) f.cell rfl (by exact au.cV.2) (by exact au.cV.1) (by have:=f.len;omega);rw[show(F.agg r).cells=r from rfl,f.dq az au.cV.1,we]at st;exact⟨_,st,U5 (S:={S with kept:=S.kept.set p v}) I (ab.set au p) aj (s.set 0 rfl _)⟩
theorem akk(s:aN ak aO aL h L)(i:Nat)(af:L[i]? =o (kL c ms S a7))(aA:S.log.length<=1000000)(e:lP):∃bn I R a',(cR U 1 h (.ptr c.ad 0 2)=o bn/\cR U 1 (h.fresh 1) (.ptr c.ad 0 2)=o bn)/\eH U iw bn (.b5 (o h.ids) iw [hc e]) (h.fresh 1)=o (a',I)/\a'.one=J/\I.n=h.n/\I.cell=h.cell/\e0 1 I (.ptr c.ad 0 2) a'=o R/\(∀k,k≠c.ad->R.cell k=h.cell k)/\aN ak aO aL R (L.set i (kL c ms {S with log:=S.log++[e]} a7)):=by
 obtain⟨R,⟨bn,I,a',a⟩,b⟩:=s.call (cJ:=λR=>∃bn I a',(cR U 1 h (.ptr c.ad 0 2)=o bn/\cR U 1 (h.fresh 1) (.ptr c.ad 0 2)=o bn)/\eH U iw bn (.b5 (o h.ids) iw [hc e]) (h.fresh 1)=o (a',I)/\a'.one=J/\I.n=h.n/\I.cell=h.cell/\e0 1 I (.ptr c.ad 0 2) a'=o R/\(∀k,k≠c.ad->R.cell k=h.cell k)) i af λah al x=>by
  obtain⟨bn,dP,Z,I,R,aj,s⟩:=U4 x;have cB:=s.cell 0 rfl;obtain⟨bq,a',⟨aw,bz,bG,fA,cF⟩,bd⟩:=s.tO (cJ:=λE a'=>eH U iw bn (.b5 (o h.ids) iw [hc e]) (h.fresh 1)=o (a',E)/\a'.one=J/\a'.cells=[a']/\E.n=h.n/\E.cell=h.cell) 2 rfl (Y:=λa'=>gc iw a' (S.log.map hc++[hc e])) λah al y=>by obtain⟨a',E,aP,a2,bl,cr,ej,jB⟩:=E2 y (row:=hc e) rfl (by simpa using aA);exact⟨E,a',⟨aP,a2,bl,ej,jB⟩,cr⟩
  have aW:=(bd.cell 0 rfl).1;have st:=lu (n:=1) (x:=a') (off:=2) (i:=0) aW rfl (by rw[bG];simpa using bz) (by rw[bG];rfl) (by simp);rw[bG,show dy (ks c bn dP Z) 2 [a']=ks c a' dP Z from rfl,we]at st;have aY:=bd.set 0 rfl [ks c a' dP Z];refine⟨_,⟨bn,bq,a',⟨by rw[gb,cB.1];rfl,by rw[gb,Qk,cB.1];rfl⟩,aw,bz,fA,cF,st,λk ab=>by rw[eN ab,cF]⟩,U5 (S:={S with log:=S.log++[e]}) (bn:=a') I R aj (by rw[u5];exact aY)⟩
 exact⟨bn,I,R,a',a.1,a.2.1,a.2.2.1,a.2.2.2.1,a.2.2.2.2.1,a.2.2.2.2.2.1,a.2.2.2.2.2.2,b⟩
theorem ayt(s:aN ak aO aL h L)(i:Nat)(af:L[i]? =o (kL c ms S a7)){n:Nat}(D:Nat)(ae:D<S.cells.length):cR U n h (.ptr c.lE D 0)=o (.int j (S.cells.getD D 0)):=by obtain⟨ah,al,x⟩:=s.get i af;obtain⟨bn,dP,Z,I,R,aj,s⟩:=U4 x;rw[gb,(s.cell 1 rfl).1];simp[cZ,ae,fZ]
theorem ayu(s:aN ak aO aL h L)(i:Nat)(af:L[i]? =o (kL c ms S a7))(D:Nat)(ae:D<S.cells.length)(z:Int):∃E,e0 1 h (.ptr c.lE D 0) (.int j z)=o E/\aN ak aO aL E (L.set i (kL c ms {S with cells:=S.cells.set D z} a7)):=by refine s.call (cJ:=λE=>e0 1 h (.ptr c.lE D 0) (.int j z)=o E) i af λah al x=>?_;obtain⟨bn,dP,Z,I,R,aj,s⟩:=U4 x;have st:=lu (n:=1) (x:=.int j z) (off:=0) (i:=D) (e:=[.int j (S.cells[D])]) (s.cell 1 rfl).1 (by simp[ae]) rfl rfl (by simp);rw[show dy [F.int j S.cells[D]] 0 (F.int j z).cells=[.int j z] from rfl]at st;refine⟨_,st,U5 (S:={S with cells:=S.cells.set D z}) (bn:=bn) (Z:=Z) I R aj ?_⟩;rw[List.map_set];exact s.set 1 rfl _
end
section
variable{h E ak:ai}{ah al aO aL:Nat->Prop}{L cJ:List cc}{X Y dd rH:cc}{c:iC}{ms:dn}{S:bt}{a7:List (List ax)}
theorem aN.cut{α:Type}{M:α->List cc}{Q:α->Prop}(s:aN ak aO aL h L)(i:Nat)(af:L[i]? =o X)(c:∀ah al,X.A h ah al->∃a,Q a/\(cm (M a)).A h ah al):∃a,Q a/\aN ak aO aL h (M a++L.eraseIdx i):=by obtain⟨ah,al,x,hv,a,b⟩:=s;obtain⟨eJ,eK,dZ,eh,cb,z,r⟩:=(cm.front af).1 x;obtain⟨w,q,y⟩:=c eJ eK cb;exact⟨w,q,ah,al,cm.app.2 ⟨eJ,eK,dZ,eh,y,z,r⟩,hv,a,b⟩
theorem aN.shut{M:List cc}{i:Nat}(s:aN ak aO aL h (M++L.eraseIdx i))(af:i<L.length)(c:∀h ah al,(cm M).A h ah al->X.A h ah al):aN ak aO aL h (L.set i X):=by obtain⟨ah,al,x,hv,a,b⟩:=s;obtain⟨eJ,eK,dZ,eh,cb,z,r⟩:=cm.app.1 x;exact⟨ah,al,cm.back af ⟨eJ,eK,dZ,eh,c _ _ _ cb,z,r⟩,hv,a,b⟩
theorem aN.ayv{k D:Nat}(s:aN ak aO aL h L)(ab:L[k]? =o X)(ae:D<(L.eraseIdx k).length)(c:∀h ah al,X.A h ah al->rH.A h ah al):aN ak aO aL h ((L.eraseIdx k).set D rH):=by
 have dM:(L.eraseIdx k)[D]? =o (L.eraseIdx k)[D]:=fT ae;generalize (L.eraseIdx k)[D]=Y at dM;have bd:aN ak aO aL h (Y::rH::(L.eraseIdx k).eraseIdx D):=by obtain⟨ah,al,x,r⟩:=s;exact⟨ah,al,xI (r2 (λ_ _ _ y=>c _ _ _ y) (λ_ _ _ y=>(cm.front dM).1 y) ((cm.front ab).1 x)),r⟩
 obtain⟨ah,al,x,r⟩:=bd.drop;exact⟨ah,al,cm.back ae x,r⟩
abbrev Vh:List (F×F):=[(.e',.e'),(.e',.e'),(.e',.e'),(.e',.e')]
abbrev Vi:List (List ax):=[[],[],[],[]]
theorem ayw{akl akm:cc}(I:akl.A h (λ_=>False) (λ_=>False))(R:akm.A h (λ_=>False) (λ_=>False)):(ij akl akm).A h (λ_=>False) (λ_=>False):=⟨_,_,_,_,I,R,λ_=>by simp,λ_=>by simp,λ_ h=>h.elim,λ_ h=>h.elim⟩
theorem akn:∀{L:List cc},(∀X∈L,X.A h (λ_=>False) (λ_=>False))->(cm L).A h (λ_=>False) (λ_=>False)
 |[],_=>⟨trivial,λ_ h=>h,λ_ h=>h⟩
 |X::L,aF=>ayw (aF X (by simp)) (akn λY FX=>aF Y (by simp[FX]))
theorem ayx{e:a9}:(gc e .aJ []).A h (λ_=>False) (λ_=>False):=.inl ⟨⟨rfl,rfl⟩,λ_ h=>h,λ_ h=>h⟩
theorem PP:(tb .aJ []).A h (λ_=>False) (λ_=>False):=⟨[],rfl,.inl ⟨⟨rfl,rfl⟩,λ_ h=>h,λ_ h=>h⟩⟩
theorem N7{v:F}:(oR (.e',v) ag).A h (λ_=>False) (λ_=>False):=⟨rfl,λ_ h=>h,λ_ h=>h⟩
theorem ayy(s:aN ak aO aL h L)(l:Nat):∃E c,aU aq aa 25 [] h=o (.inl (.ptr c.ad 0 0),E)/\aN ak aO aL E (kL c yd (Fm l) Vi::gU c.il gR::L):=by
 have bd:aN ak aO aL _ (gU h.n gR::L):=s.add (aG.push h _) ajh (λk ab=>qU ab.symm) (λ_ h=>h.elim);have aY:=bd.push (ap 12 [.int j 0]);have bs:=aY.push [.ptr h.n 0 0::aji (h.n+1)];have bE:=bs.add (aG.refl _) (X:=cm (gc iw .aJ []::(jh oR Vh yd++jh tb [.aJ,.aJ,.aJ,.aJ] Vi))) (akn λX jX=>by
  simp only[List.zipWith_cons_cons,List.zipWith_nil_left,nz,l3,mJ,List.not_mem_nil,or_false]at jX;rcases jX with rfl|rfl|rfl|rfl|rfl|rfl|rfl|rfl|rfl
  ·exact ayx
  ·exact N7
  ·exact N7
  ·exact N7
  ·exact N7
  ·exact PP
  ·exact PP
  ·exact PP
  ·exact PP) (λ_ h=>h.elim) (λ_ h=>h.elim)
 have b3:aN ak aO aL (((h.push [[F.aJ,F.aJ]]).push (ap 12 [F.int j 0])).push [.ptr h.n 0 0::aji (h.n+1)]) (kL ⟨h.n+1+1,h.n,h.n+1,Vh⟩ yd (Fm l) Vi::gU h.n gR::L):=by obtain⟨ah,al,x,r⟩:=bE;refine⟨ah,al,?_,r⟩;have cb:=r2 (λ_ _ _ y=>y) (λ_ _ _ y=>xI y) (xI x);have dF:=G7 (r2 (λ_ _ _ y=>y) (λ_ _ _ y=>G7 y) cb);exact r2 (λ_ _ _ y=>⟨(.aJ,[a3,a3,a3,a3],[.aJ,.aJ,.aJ,.aJ]),⟨rfl,⟨_,_,rfl,fD,_,_,rfl,fD,_,_,rfl,fD,_,_,rfl,fD,rfl⟩,rfl⟩,y⟩) (λ_ _ _ y=>y) dF
 refine⟨_,⟨h.n+1+1,h.n,h.n+1,Vh⟩,?_,b3⟩;have mk:∀I:ai,P3 wm [.int j 0] (.int j 12) (.int j 12) I=o (.bw I.n 0 12 wm,I.push (ap 12 [.int j 0])):=λI=>rfl;refine a4 arN rfl ?_;unfold aeG;simp only[ao,ar,av,ap,bY,mk]
abbrev Fu(c:iC)(ms:dn)(S:bt)(a7:List (List ax))(a:F×List (List F)×List F):List cc:=a1 c.ad [ks c a.1 a.2.1 a.2.2]::a1 c.lE (S.cells.map λx=>[.int j x])::gc iw a.1 (S.log.map hc)::(jh oR c.kd ms++jh tb a.2.2 a7)
theorem ako(s:aN ak aO aL h L)(i:Nat)(af:L[i]? =o (kL c ms S a7))(aH:ms.length=4)(dR:S.kept.length=4):∃a:F×List (List F)×List F,(n' h c a.1 a.2.1 a.2.2 ms/\dk S.kept a.2.1/\c.kd.length=ms.length/\a.2.2.length=a7.length)/\aN ak aO aL h (Fu c ms S a7 a++L.eraseIdx i):=s.cut i af λah al x=>by obtain⟨bn,dP,Z,f,ab,I,aj,_,y⟩:=IV x aH dR;exact⟨(bn,dP,Z),⟨f,ab,I,aj⟩,y⟩
theorem akp{a:F×List (List F)×List F}{i:Nat}(s:aN ak aO aL h (Fu c ms S a7 a++L.eraseIdx i))(af:i<L.length)(I:c.kd.length=ms.length)(R:dk S.kept a.2.1)(aj:a.2.2.length=a7.length):aN ak aO aL h (L.set i (kL c ms S a7)):=s.shut af λ_ _ _ y=>⟨a,⟨I,R,aj⟩,y⟩
def iC.put(c:iC)(p:Nat)(q:F×F):iC:={c with kd:=c.kd.set p q}
theorem n'.ayz{bn:F}{dP:List (List F)}{Z:List F}(f:n' h c bn dP Z ms){p:Nat}(az:p<4)(q:F×F):dy (ks c bn dP Z) (3+p) [q.1]=ks (c.put p q) bn dP Z:=by
 obtain⟨ad,il,lE,kd⟩:=c;obtain⟨a,b,d,e,rfl⟩:=Bf f.d'
 match p,az with
 |0,_=>simp[dy,iC.put]
 |1,_=>simp[dy,iC.put]
 |2,_=>simp[dy,iC.put]
 |3,_=>simp[dy,iC.put]
theorem akq{α β N6:Type}{f:α->β->N6}:∀{l:List α} {m:List β} {p:Nat} {a:α} {b:β},(jh f l m).set p (f a b)=jh f (l.set p a) (m.set p b)
 |[],m,p,a,b=>by simp
 |x::l,[],p,a,b=>by cases p<;>simp
 |x::l,y::m,0,a,b=>rfl
 |x::l,y::m,p+1,a,b=>by simp[akq]
theorem ayA(s:aN ak aO aL h L)(i:Nat)(af:L[i]? =o (kL c ms S a7))(aH:ms.length=4)(dR:S.kept.length=4){v:F}{M:List bC}{p:Nat}(az:p<4)(m:∀h,iW h v M)(c1:M.length<=100000)(aC:∀x∈M,x.size<=100000):∃E eo,aU aq aa 44 [.ptr c.ad 0 0,.int j (p:Int),.agg [v]] h=o (.inl (.int j (fl M).1),E)/\eo.ad=c.ad/\eo.il=c.il/\eo.lE=c.lE/\aN ak aO aL E (L.set i (if(fl M).1=0 then kL eo (ms.set p (o M)) {S with kept:=S.kept.set p ce} a7 else kL eo ms S a7)):=by
 have bd:=s.push [[v]];have bz:=(m h).one;have aW:=(bd.cell 0 rfl).1;have qz:=at2 (h:=h.push [[v]]) v M m c1 aC;have aY:aN ak aO aL _ (a1 (h.n+1) [[.int j (fl M).1,.int j (fl M).2]]::a1 h.n [[v]]::L):=bd.push [[.int j (fl M).1,.int j (fl M).2]];have bD:=(aY.cell 0 rfl).1;have cl:=(aY.cell 1 rfl).1;have d1:decide ((p:Int)<0)=U:=decide_eq_false (by omega);have d2:decide (4<=(p:Int))=U:=decide_eq_false (by omega);have it:i<L.length:=(fO.1 af).1;by_cases aB:(fl M).1=0
 ·have d3:decide ((fl M).1=0)=J:=decide_eq_true aB;obtain⟨br,akr,⟨b6,yX,rfl,iq,uI⟩⟩:=atH (h:=(h.push [[v]]).push [[.int j (fl M).1,.int j (fl M).2]]) v M m c1 aC;have qD:=(iW.of (h:=h) iq uI).one;have bs:aN ak aO aL _ (a1 (h.n+1+1) [[b6]]::a1 (h.n+1) [[.int j (fl M).1,.int j (fl M).2]]::a1 h.n [[v]]::L):=aY.push [[b6]];obtain⟨a,⟨f,ab,I,aj⟩,bE⟩:=ako bs (i+1+1+1) af aH dR;have hlen:=f.len;have b1:=lu (n:=1) (x:=.ptr (h.n+1+1) 0 0) (off:=3+p) (i:=0) f.cell rfl rfl rfl (by omega);rw[show(F.ptr (h.n+1+1) 0 0).cells=[(F.ptr (h.n+1+1) 0 0,b6).1] from rfl,f.ayz az (.ptr (h.n+1+1) 0 0,b6),we]at b1;have b3:=bE.set 0 rfl [ks (c.put p (.ptr (h.n+1+1) 0 0,b6)) a.1 a.2.1 a.2.2];have f5:n' (((h.push [[v]]).push [[.int j (fl M).1,.int j (fl M).2]]).push [[b6]]) c a.1 a.2.1 a.2.2 ms:=f;have c4:=lu (n:=3) (x:=.agg a3) (off:=7+p*3) (i:=0) (b3.cell 0 rfl).1 rfl rfl rfl (by simp only[ho,fz,fM,iC.put,List.length_set,f.d'];obtain⟨_,_,_,_,_,_,_,_,_,_,_,_,x5⟩:=Ft f.dR f.dK;rw[x5];simp;omega);have bW:dy (ks (c.put p (.ptr (h.n+1+1) 0 0,b6)) a.1 a.2.1 a.2.2) (7+p*3) (F.agg a3).cells=ks (c.put p (.ptr (h.n+1+1) 0 0,b6)) a.1 (a.2.1.set p a3) a.2.2:=by
   obtain⟨ad,il,lE,kd⟩:=c;obtain⟨nD,cO,c8,hK,rfl⟩:=Bf f.d';obtain⟨_,_,_,_,_,_,_,_,_,_,_,_,x5⟩:=Ft f.dR f.dK;rw[x5]
   match p,az with
   |0,_=>simp[dy,iC.put,F.cells]
   |1,_=>simp[dy,iC.put,F.cells]
   |2,_=>simp[dy,iC.put,F.cells]
   |3,_=>simp[dy,iC.put,F.cells]
  rw[bW,we]at c4;have c2:=b3.set 0 rfl [ks (c.put p (.ptr (h.n+1+1) 0 0,b6)) a.1 (a.2.1.set p a3) a.2.2];have eA:(Fu c ms S a7 a).length=3+(4+a7.length):=by simp only[ho,fz,List.length_zipWith,I,aH,aj,Nat.min_self];omega
  generalize aD6:((((h.push [[v]]).push [[.int j (fl M).1,.int j (fl M).2]]).push [[b6]]).set c.ad (o [ks (c.put p (.ptr (h.n+1+1) 0 0,b6)) a.1 a.2.1 a.2.2])).set c.ad (o [ks (c.put p (.ptr (h.n+1+1) 0 0,b6)) a.1 (a.2.1.set p a3) a.2.2])=Vj at*;have c2:aN ak aO aL Vj ((a1 c.ad [ks (c.put p (.ptr (h.n+1+1) 0 0,b6)) a.1 (a.2.1.set p a3) a.2.2]::a1 c.lE (S.cells.map λx=>[.int j x])::gc iw a.1 (S.log.map hc)::(jh oR c.kd ms++jh tb a.2.2 a7))++(a1 (h.n+1+1) [[b6]]::(a1 (h.n+1) [[.int j (fl M).1,.int j (fl M).2]]::a1 h.n [[v]]::L.eraseIdx i))):=c2;generalize sq:(a1 (h.n+1) [[.int j (fl M).1,.int j (fl M).2]]::a1 h.n [[v]]::L.eraseIdx i)=B at c2;have yi:(jh oR c.kd ms).length=4:=by simp[I,aH]
  have eW:aN ak aO aL Vj ((a1 c.ad [ks (c.put p (.ptr (h.n+1+1) 0 0,b6)) a.1 (a.2.1.set p a3) a.2.2]::a1 c.lE (S.cells.map λx=>[.int j x])::gc iw a.1 (S.log.map hc)::(jh oR (c.kd.set p (.ptr (h.n+1+1) 0 0,b6)) (ms.set p (o M))++jh tb a.2.2 a7))++B):=by
   generalize s0:(a1 c.ad [ks (c.put p (.ptr (h.n+1+1) 0 0,b6)) a.1 (a.2.1.set p a3) a.2.2]::a1 c.lE (S.cells.map λx=>[.int j x])::gc iw a.1 (S.log.map hc)::(jh oR c.kd ms++jh tb a.2.2 a7))=A at c2;have TI:A.length=3+(4+a7.length):=by rw[<-s0,<-eA];simp
   have t:=c2.ayv (k:=A.length) (D:=3+p) (rH:=oR (.ptr (h.n+1+1) 0 0,b6) (o M)) (by rw[l1 (b9 _),Nat.sub_self];rfl) (by rw[List.length_eraseIdx];split<;>simp<;>omega) λ_ _ _ y=>⟨(h.n+1+1,yX),⟨rfl,iq,uI⟩,y⟩;rw[List.eraseIdx_append_of_length_le (b9 _),Nat.sub_self,List.eraseIdx_cons_zero,List.set_append_left _ _ (by omega),<-s0]at t;rw[show 3+p=p+1+1+1 by omega,List.set_cons_succ,List.set_cons_succ,List.set_cons_succ,List.set_append_left _ _ (by omega),akq]at t;exact t
  rw[<-sq]at eW;have hP:=akp (L:=a1 (h.n+1) [[.int j (fl M).1,.int j (fl M).2]]::a1 h.n [[v]]::L) (i:=i+1+1) (c:=c.put p (.ptr (h.n+1+1) 0 0,b6)) (ms:=ms.set p (o M)) (S:={S with kept:=S.kept.set p ce}) (a:=(a.1,a.2.1.set p a3,a.2.2)) eW (by simp only[ho];omega) (by simp[iC.put,I]) (ab.set fD p) aj;have ayB:∀q:gZ,dY ag (o (4,1)) (.ptr c.ad 0 3) (.int q (p:Int))=o (.ptr c.ad 0 (3+p)):=λq=>by simp[dY,az]
  have ayC:∀q:gZ,dY ag (o (4,3)) (.ptr c.ad 0 7) (.int q (p:Int))=o (.ptr c.ad 0 (7+p*3)):=λq=>by simp[dY,az]
  have f1:cd 3 (.ptr c.ad 0 0)=o (.ptr c.ad 0 3):=rfl;have f2:cd 7 (.ptr c.ad 0 0)=o (.ptr c.ad 0 7):=rfl;refine⟨Vj,c.put p (.ptr (h.n+1+1) 0 0,b6),?_,rfl,rfl,rfl,?_⟩
  rotate_left
  ·rw[if_pos aB];exact hP.drop.drop
  rw[aB]at qz bD cl akr b1 c4 ⊢;refine a4 LU rfl ?_;unfold Hu;simp only[ao,ar,av,ap,bN,bz,aW,qz,bD,cl,d1,d2,akr,qD,ayB,ayC,f1,f2,b1,c4]
 ·have d3:decide ((fl M).1=0)=U:=decide_eq_false aB;refine⟨_,c,?_,rfl,rfl,rfl,by rw[if_neg aB,UO af];exact aY.drop.drop⟩;refine a4 LU rfl ?_;unfold Hu;simp only[ao,ar,av,ap,bN,bz,aW,qz,bD,d1,d2,d3]
end
open Go Go.RowKit
section
variable{P:c'}{aa:iQ}{f:di}{n aZ:Nat}{bk:List Nat}{h E R aj:ai}{V gI:List F}{args:List F}{all:Array bm}
theorem cp.aks{m:ey}{w:dO}(hw:cp P m h w){b:Nat}{es:List (List F)}(ad:h.cell b=o es):∃bf,Ext m h bf (h.set b ag)/\cp P bf (h.set b ag) w:=by obtain⟨cs,aW,_⟩:=hw.live b es ad;obtain⟨bf,x,y,_⟩:=hw.still ad aW;exact⟨bf,x,y⟩
theorem oJ.ayD(dx:m0 P aa){fn:Func}{rs:List o8}{id:Nat}{c C cJ:gu}{akt aku:List bb}{v:F}{cg c0:Nat}(an:c= .seq (.seq (.region id all J) C) cJ)(p:oJ P aa f n bk args h (.halt [.code c]) V R)(bo:P.funcs[f]? =o fn)(lr:q3 P bk fn.results.toList=o rs)(xo:((jG all.size).all λD=>(all.getD D default).after.all λe=> !lF .any e||decide (e.on<D))=J)(qv:bk.Nodup/\∀D s,bk[D]? =o s->(D<aZ↔s<aa.aZ f))(nV:z5 (aa.fy f) all=J)(ayE:hF P (aa.bh f) (aa.cM f) n bk C []=o akt)(ayF:i9 (aa.cM f) (aa.fy f) C=J)(ayG:hF P (aa.bh f) (aa.cM f) n bk cJ []=o aku)(ayH:i9 (aa.cM f) (aa.fy f) cJ=J)(I:∀L,mg all (λ_ _=>False) (m6 all) L->∃(dD:Nat->Nat->Prop) (pl:List (Nat×List Nat)) (bT:List aE) (IE pm wW:List F) (sq vu hS:ai) (akv yX:List (List F)),mg all dD (m6 all) L/\uO all pl (λ_=>U) dD/\oy P (aa.bh f) n bk all [] (jT J all pl)=o bT/\bB (aU P aa) aZ [.ops bT,.halt [.code C,.code cJ]] V [] R=o (.halt [.code C,.code cJ],IE,sq)/\bB (aU P aa) aZ [.bP akt,.halt [.code cJ]] IE [] sq=o (.halt [.code cJ],pm,vu)/\bB (aU P aa) aZ [.bP aku,.halt []] pm [] vu=o (.ret,wW,hS)/\hS.cell cg=o akv/\(hS.set cg ag).cell c0=o yX/\(hS.set cg ag).set c0 ag=aj/\(jc wW aj rs).map ju=o v):AC P f args h (.inl v,aj):=by
 intro m w bI hw fQ cs;obtain⟨fC,t2,akw,ayI,fq,cL,cO,cx,cb,dF,gH,aP,h7,hE,j4⟩:=p m w bI hw fQ cs;subst an;obtain⟨L,gn,bR,bQ,da,eS⟩:=aeP (P:=P) (all:=all) (id:=id) (b:=fC) (a:=aP) (K:=[.code C,.code cJ]) (cs:=cs) (w:=cx) dx (λD ae e he ad=>by rw[jW]at xo;have:=xo D (kD.2 ae);rw[Array.all_eq_true']at this;have:=this e he;simpa[ad]using this);obtain⟨dD,pl,bT,IE,pm,wW,sq,vu,hS,akv,yX,aw,ay,be,b1,c4,mn,j3,pj,qE,E9⟩:=I L bR;obtain⟨dQ,az,v9⟩:=aeO (K:=[.code C,.code cJ]) dx ay nV qv be b1 cL;obtain⟨hK,iz,fU,jV,ls,bl,ot,m5,r4⟩:=az cO gn aP fC cs L aw (da _ _ dF) h7 hE;obtain⟨aD7,ayJ,ayK⟩:=xR dx qv ayE ayF c4 v9;obtain⟨d',h8,ei,fd,ha,cr,l4,j8,n7⟩:=ayJ hK iz bl fC cs jV ot m5;obtain⟨aD8,ayL,ayM⟩:=xR dx qv ayG ayH mn ayK;obtain⟨sZ,gs,jw,hD,Al,ej,todo,PN,vE,s1⟩:=ayL d' h8 cr fC cs fd l4 j8;obtain⟨zy,cF,cA⟩:=hD.aks j3;obtain⟨CL,dK,dR⟩:=cA.aks pj;rw[qE]at dK dR;rw[fq]at vE;obtain⟨u,zI,ayN⟩:=Af dR ((PN.ext cF).ext dK) (St (h:=aj) lr ayM E9);have Vk:cO.base=m.base:=cb.base;have akx:hK.base=cO.base:=fU.base;have ayO:d'.base=hK.base:=ei.base;have ls:Below m.base gn iz:=by rw[<-Vk];exact ls
 have ha:Below m.base iz h8:=by rw[<-Vk,<-akx];exact ha
 have Al:Below m.base h8 gs:=by rw[<-Vk,<-akx,<-ayO];exact Al
 have st:Steps P (fr (kC P f bI.toArray .normal) cs w) (fr {fC.at ej todo with mode:=.returning} cs gs):=j4.trans ((Steps.one step_seq).trans ((Steps.one step_seq).trans (bQ.trans (r4.trans (n7.trans s1)))));exact⟨.returned u,gs,_,⟨CL,((((cb.trans fU).trans ei).trans jw).trans cF).trans dK,dR,(((gH.trans (eS _)).trans ls).trans ha).trans Al,u,rfl,ayN⟩,st,akw,rfl,vE,ayI,_,by simp[Frame.at,akw,bo],zI⟩
end
abbrev kt:di:=65
noncomputable def Fv:gu:=Tryz.f65.body.getD .skip
noncomputable abbrev Bg:gu:=hf Fv
noncomputable abbrev Bh:gu:=hf Bg
noncomputable abbrev rg:gu:=hf Bh
theorem N8:(aq).funcs[kt]? =o Tryz.f65:=Tryz.func65
theorem aky:Tryz.f65.body=o Fv:=rfl
theorem akz:Tryz.f65.ntmps=51:=rfl
theorem akA:Fv= .seq (eV Fv) Bg:=rfl
theorem akB:Bg= .seq (eV Bg) Bh:=rfl
theorem ayP:Bh= .seq (eV Bh) rg:=rfl
abbrev w1:List Nat:=[0,1,2,3,5,8,9,11,17,25,26,28]
theorem akC:q3 aq w1 Tryz.f65.results.toList=o [.cell J 5 5]:=by kernel_rfl
theorem Fw:uW 4 51 (aa.aZ kt) 12 w1=J:=by kernel_rfl
theorem akD:hF aq (aa.bh kt) (aa.cM kt) 51 w1 (eV Fv) []=o QN:=by kernel_rfl
theorem akE:hF aq (aa.bh kt) (aa.cM kt) 51 w1 (eV Bg) []=o QO:=by kernel_rfl
theorem ayQ:hF aq (aa.bh kt) (aa.cM kt) 51 w1 (eV Bh) []=o abV:=by kernel_rfl
theorem ayR:hF aq (aa.bh kt) (aa.cM kt) 51 w1 (hf (eV rg)) []=o QS:=by kernel_rfl
theorem ayS:hF aq (aa.bh kt) (aa.cM kt) 51 w1 (hf rg) []=o M2:=by kernel_rfl
theorem akF:i9 (aa.cM kt) (aa.fy kt) (eV Fv)=J:=by kernel_rfl
theorem akG:i9 (aa.cM kt) (aa.fy kt) (eV Bg)=J:=by kernel_rfl
theorem ayT:i9 (aa.cM kt) (aa.fy kt) (eV Bh)=J:=by kernel_rfl
theorem ayU:i9 (aa.cM kt) (aa.fy kt) (hf (eV rg))=J:=by kernel_rfl
theorem ayV:i9 (aa.cM kt) (aa.fy kt) (hf rg)=J:=by kernel_rfl
noncomputable abbrev uj:Array bm:=nd (eV (eV rg))
theorem ayW:rg= .seq (.seq (.region 4 uj J) (hf (eV rg))) (hf rg):=rfl
theorem ayX:((jG uj.size).all λD=>(uj.getD D default).after.all λe=> !lF .any e||decide (e.on<D))=J:=by kernel_rfl
theorem ayY:z5 (aa.fy kt) uj=J:=by kernel_rfl
def Vl:List (Nat×List Nat):=[(0,[]),(1,[]),(2,[]),(3,[])]
def Vm:List (Nat×List Nat):=[(0,[]),(2,[]),(1,[]),(3,[])]
theorem ayZ:yy [(1,2)] uj Vl=J:=by kernel_rfl
theorem ay0:yy [(2,1)] uj Vm=J:=by kernel_rfl
theorem ay1:oy aq (aa.bh kt) 51 w1 uj [] (jT J uj Vl)=o QQ:=by kernel_rfl
theorem ay2:oy aq (aa.bh kt) 51 w1 uj [] (jT J uj Vm)=o QR:=by kernel_rfl
theorem ay3:uj.size=4:=by kernel_rfl
theorem akH(x y z u:F):hG 51 w1 [] ([x,y,z,u]++ap (51 - [x,y,z,u].length) .aD) ([x,y,z,u]++ap (w1.length - [x,y,z,u].length) .aD) []:=by
 refine⟨by simp,rfl,rfl,λD s ae=>?_,λD s ae=>by simp at ae⟩
 match D,ae with
 |0,ae|1,ae|2,ae|3,ae|4,ae|5,ae|6,ae|7,ae|8,ae|9,ae|10,ae|11,ae=>obtain rfl:=k9 ae;exact⟨by decide,rfl⟩
 |D+12,ae=>simp at ae
section
variable{h:ai}
abbrev vF:List F:=[.int j 0,.int j 0,.int j 0,.int j 0,.aJ]
theorem akI{args:List F}{v:F}(Z:KV args h=o (v,E))(iT:AC aq kt args h (.inl v,E)):aU aq aa kt args h=o (.inl v,E):=by unfold aU;rw[aqm];simp only[KW,Z];rw[if_pos iT]
theorem ay4{ad:Nat}{x:List F}(aF:x.length=9/\x.all F.one=J){n c:Int}(an:c≠0):aU aq aa kt [.ptr ad 0 0,.agg x,.int j n,.int j c] h=o (.inl (.agg [.int j c,.int j 0,.int j 0,.int j 0,.aJ]),(h.push [x]).push [[.int j c,.int j 0,.int j 0,.int j 0,.aJ]]):=by refine akI (by simp only[KV];rw[if_pos an]) ?_;have d:decide (c=0)=U:=decide_eq_false an;have en:=oJ.start (aa:=aa) (h:=h) N8 aky akz (akH (.ptr ad 0 0) (.agg x) (.int j n) (.int j c));have dB:=en.next (aZ:=12) (x:=.halt [.code Bg]) (gI:=[.ptr ad 0 0,.agg x,.int j n,.int j c,.ptr h.n 0 0,.ptr (h.n+1) 0 0,.aD,.aD,.aD,.aD,.aD,.aD]) (aj:=(h.push [x]).push [vF]) dx akA (ma Fw) akD akF (by unfold QN;have ad:= @D9 (aU (aq) aa) 12;simp only[ao,ar,av,ap,aF.1,aF.2]);have gm:=dB.next (aZ:=12) (x:=.ret) (gI:=[.ptr ad 0 0,.agg x,.int j n,.int j c,.ptr h.n 0 0,.ptr (h.n+1) 0 0,.aD,.bool J,.aD,.aD,.aD,.aD]) (aj:=(h.push [x]).push [[.int j c,.int j 0,.int j 0,.int j 0,.aJ]]) dx akB (ma Fw) akE akG (by unfold QO;simp only[ao,ar,bY,d]);exact gm.ret N8 akC (by simp only[ao,ar])
def kz(O:Option Nat)(h:ai):ai:=match O with
 |none=>h
 |some b=>h.set b ag
theorem Vn{O:Option Nat}:(kz O h).n=h.n:=by cases O<;>rfl
structure akJ(h:ai)(s:F)(k:Nat)(O:Option Nat)(rows:List (List F)):Prop where
 len:rows.length=k
 one:s.one=J/\hX s=o k/\∀q,kE q (o bO) s=J
 lt:∀b,O=o b->b<h.n
 app:∀X:ai,(∀D,D<h.n->X.cell D=h.cell D)->∀(km:Nat) (r:List F),X.cell km=o [r]->r.all F.one=J->eH J bO s (.bw km 0 1 bO) X=o (.bw X.n 0 (k+1) bO,(kz O X).push (rows++[r]))
theorem ay5{ah al:Nat->Prop}{v:F}{l:List ax}(x:(i5 v l).A h ah al)(am:l.length<=1000000):∃O rows,akJ h v l.length O rows:=by
 have mH:=U2 x;obtain⟨rows,Z,x⟩:=x;have hlen:=Z.len;have aV:∀(s:F) (X:ai) (km:Nat) (r:List F),X.cell km=o [r]->eH J bO s (.bw km 0 1 bO) X=kA J bO s [r] X:=λs X km r aB=>by
  have he:js X bO (.bw km 0 1 bO)=o [r]:=by simp[js,aB]
  simp only[eH,he,du,hj];rw[if_neg (by decide)]
 rcases x with⟨⟨rfl,rfl⟩,aw,ay⟩|⟨⟨b,es⟩,⟨rfl,I,R⟩,aP,a2,bl,cr⟩
 ·have uH:l=[]:=sy.1 (by simpa using hlen.symm);subst uH;refine⟨ag,[],rfl,⟨rfl,rfl,λ_=>rfl⟩,λ_ e=>(by cases e),λX jX km r aB au=>?_⟩;have au:([r].all λx=>x.all F.one)=J:=by simp only[qa,List.all_nil,rN];exact au
  rw[aV _ _ _ _ aB];simp only[kA];rw[if_pos ⟨by simp,by simp,au⟩];rfl
 ·simp only at I R aP bl cr;refine⟨o b,es.take l.length,by rw[pv,Nat.min_eq_left (by omega)],⟨mH.one,mH.len,mH.fits⟩,λ_ e=>(by cases e;exact bl),λX jX km r aB au=>?_⟩;have au:([r].all λx=>x.all F.one)=J:=by simp only[qa,List.all_nil,rN];exact au
  rw[aV _ _ _ _ aB];simp only[kA];rw[if_pos ⟨by simp,by simp,au⟩,if_pos ⟨trivial,trivial,by omega⟩,jX b bl,cr,du,if_pos I,hlen];rfl
theorem ay6{H:ai}{ad bx:Nat}{O:Option Nat}{rows:List (List F)}{cJ dD:Option (List (List F))}{z v:List F}(I:ad<H.n)(R:bx<H.n)(aj:∀b,O=o b->b<H.n):(((((((kz O ((H.push [[.bool J]]).push [z])).push (rows++[z])).set ad cJ).set (H.n+1+1) (o (rows++[v]))).set bx dD).set H.n ag).set (H.n+1) ag)=((((((kz O ((H.push [[.bool U]]).push [v])).push (rows++[v])).set ad cJ).set bx dD).set H.n ag).set (H.n+1) ag):=by
 cases O with
 |none=>
   simp only[kz,ai.push,ai.set,ai.mk.injEq,true_and,and_true];funext D;by_cases aw:D=H.n+1
   ·simp[aw]
   ·by_cases ay:D=H.n
    ·simp[ay]
    ·by_cases be:D=bx
     ·subst be;simp[aw,ay]
     ·by_cases b1:D=H.n+1+1
      ·subst b1;simp[be,show ¬H.n+1+1=ad by omega]
      ·simp[aw,ay,be,b1]
 |some b=>
   have lZ:=aj b rfl;simp only[kz,ai.push,ai.set,ai.mk.injEq,true_and,and_true];funext D;by_cases aw:D=H.n+1
   ·simp[aw]
   ·by_cases ay:D=H.n
    ·simp[ay]
    ·by_cases be:D=bx
     ·subst be;simp[aw,ay]
     ·by_cases b1:D=H.n+1+1
      ·subst b1;simp[be,show ¬H.n+1+1=ad by omega]
      ·simp[aw,ay,be,b1]
abbrev tc(h:ai)(x:List F)(n:Int):ai:=((((h.push [x]).push [vF]).push [[.int j 4,.int j n,.aJ]]).push [[.bool U]]).push [[.int j 4,.int j n,.aJ]]
abbrev td(n:Int):List F:=[.int j 0,.int j 0,.int j 4,.int j n,.aJ]
def Dh(h:ai)(x:List F)(n:Int)(ad:Nat)(O:Option Nat)(rows:List (List F))(row:List F):ai:=(((((kz O (tc h x n)).push (rows++[[.int j 4,.int j n,.aJ]])).set ad (o [row])).set (h.n+1) (o [td n])).set (h.n+1+1+1) ag).set (h.n+1+1+1+1) ag
theorem ay7{i:Nat}{v:F}(af:i<row.length):dy row i [v]=row.set i v:=by unfold dy;rw[List.set_eq_take_append_cons_drop,if_pos af];simp
theorem ay8{ad:Nat}{x:List F}{s:F}{D k:Nat}{O:Option Nat}{rows:List (List F)}{n:Int}(aF:x.length=9/\x.all F.one=J)(y1:x[1]? =o (.int j (D:Int)))(ae:D<4)(ie:ad<h.n)(an:h.cell ad=o [row])(hn:row.length=23)(aC:row[19+D]? =o s)(zT:akJ h s k O rows)(ab:k<=1000000)(aK:∀b,O=o b->b<h.n/\b≠ad):aU aq aa kt [.ptr ad 0 0,.agg x,.int j n,.int j 0] h=o (.inl (.agg (td n)),Dh h x n ad O rows (row.set (19+D) (.bw (h.n+1+1+1+1+1) 0 (k+1) bO))):=by
 have pl:∀{X:ai} {es:List (List F)} {i:Nat},i<X.n->(X.push es).cell i=X.cell i:=λaf=>uX (Nat.ne_of_lt af);have aw:=zT.app (tc h x n) (λi af=>by unfold tc;rw[pl (by simp only[eC];omega),pl (by simp only[eC];omega),pl (by simp only[eC];omega),pl (by simp only[eC];omega),pl af]) (h.n+1+1+1+1) [.int j 4,.int j n,.aJ] hb rfl;refine akI ?_ ?_
 ·simp only[KV,y1,an,m9,aC,du,ne_eq,not_true_eq_false,if_false];show Option.map _ (eH J bO s (.bw (h.n+1+1+1+1) 0 1 bO) (tc h x n))=_;rw[aw];rfl
 have d:decide ((0:Int)=0)=J:=rfl;have aD9:= @D9 (aU (aq) aa) 12;have en:=oJ.start (aa:=aa) (h:=h) N8 aky akz (akH (.ptr ad 0 0) (.agg x) (.int j n) (.int j 0));have dB:=en.next (aZ:=12) (x:=.halt [.code Bg]) (gI:=[.ptr ad 0 0,.agg x,.int j n,.int j 0,.ptr h.n 0 0,.ptr (h.n+1) 0 0,.aD,.aD,.aD,.aD,.aD,.aD]) (aj:=(h.push [x]).push [vF]) dx akA (ma Fw) akD akF (by unfold QN;simp only[ao,ar,av,ap,aF.1,aF.2]);have gm:=dB.next (aZ:=12) (x:=.halt [.code Bh]) (gI:=[.ptr ad 0 0,.agg x,.int j n,.int j 0,.ptr h.n 0 0,.ptr (h.n+1) 0 0,.aD,.bool U,.aD,.aD,.aD,.aD]) (aj:=(h.push [x]).push [vF]) dx akB (ma Fw) akE akG (by unfold QO;simp only[ao,ar,bY]);have iu:=gm.next (aZ:=12) (x:=.halt [.code rg]) (gI:=[.ptr ad 0 0,.agg x,.int j n,.int j 0,.ptr h.n 0 0,.ptr (h.n+1) 0 0,.ptr (h.n+1+1) 0 0,.bool U,.aD,.aD,.aD,.aD]) (aj:=((h.push [x]).push [vF]).push [[.int j 4,.int j n,.aJ]]) dx ayP (ma Fw) ayQ ayT (by unfold abV;simp only[ao,ar,bY]);generalize Fx:((h.push [x]).push [vF]).push [[.int j 4,.int j n,.aJ]]=e2 at*;have mb:e2.n=h.n+1+1+1:=by rw[<-Fx];rfl
 have h5:e2.cell h.n=o [x]:=by rw[<-Fx,pl (by simp only[eC];omega),pl (by simp only[eC];omega),hb]
 have cF:e2.cell (h.n+1)=o [vF]:=by rw[<-Fx,pl (by simp only[eC];omega)];exact hb
 have cA:e2.cell (h.n+1+1)=o [[.int j 4,.int j n,.aJ]]:=by rw[<-Fx];exact hb
 have fF:∀i,i<h.n->e2.cell i=h.cell i:=λi af=>by rw[<-Fx,pl (by simp only[eC];omega),pl (by simp only[eC];omega),pl af]
 have dK:e2.cell ad=o [row]:=(fF ad ie).trans an;have zU:∀(b:Bool) (z:List F) (i:Nat),i<e2.n->((e2.push [[.bool b]]).push [z]).cell i=e2.cell i:=λb z i af=>by rw[pl (by simp only[eC];omega),pl af]
 have AZ:∀(b:Bool) (i:Nat),i<e2.n->(e2.push [[.bool b]]).cell i=e2.cell i:=λb i af=>pl af;have akK:∀(b:Bool) (z:List F),z.all F.one=J->eH J bO s (.bw (e2.n+1) 0 1 bO) ((e2.push [[.bool b]]).push [z])=o (.bw (e2.n+1+1) 0 (k+1) bO,(kz O ((e2.push [[.bool b]]).push [z])).push (rows++[z])):=λb z aB=>
  zT.app ((e2.push [[.bool b]]).push [z]) (λi af=>by rw[zU b z i (by omega),fF i af]) (e2.n+1) z hb aB
 have akL:∀(b:Bool) (z:List F) (i:Nat),i<e2.n->O≠o i->((kz O ((e2.push [[.bool b]]).push [z])).push (rows++[z])).cell i=e2.cell i:=λb z i af ay9=>by
  have:(kz O ((e2.push [[.bool b]]).push [z])).n=e2.n+1+1:=Vn;rw[pl (by omega)];cases O with
  |none=>exact zU b z i af
  |some q=>simp only[kz,ai.set];rw[if_neg (λe=>ay9 (by rw[e]))];exact zU b z i af
 have on:∀i,h.n<=i->O≠o i:=λi af e=>by have:=(aK i e).1;omega
 have oQ:O≠o ad:=λe=>(aK ad e).2 rfl;have akM:cd 19 (.ptr ad 0 0)=o (.ptr ad 0 19):=rfl;have bJ:∀q:gZ,dY ag (o (4,1)) (.ptr ad 0 19) (.int q (D:Int))=o (.ptr ad 0 (19+D)):=λq=>by simp[dY,ae]
 have h':∀(X:ai),X.cell ad=o [row]->cR U 1 X (.ptr ad 0 (19+D))=o s:=λX jX=>by rw[gb,jX,du,oq,du,pI];exact aC
 have vG:∀(X:ai),X.cell h.n=o [x]->cR U 1 X (.ptr h.n 0 1)=o (.int j (D:Int)):=λX jX=>by rw[gb,jX,du,oq,du,pI];exact y1
 have akN:cd 1 (.ptr h.n 0 0)=o (.ptr h.n 0 1):=rfl;have bn:∀(X:ai),X.cell (h.n+1+1)=o [[.int j 4,.int j n,.aJ]]->cR J 3 X (.ptr (h.n+1+1) 0 0)=o (.agg [.int j 4,.int j n,.aJ]):=λX jX=>by rw[gb,jX,du,oq,du];rfl
 have st:∀(X:ai),X.cell ad=o [row]->e0 1 X (.ptr ad 0 (19+D)) (.bw (e2.n+1+1) 0 (k+1) bO)=o (X.set ad (o [row.set (19+D) (.bw (e2.n+1+1) 0 (k+1) bO)])):=λX jX=>by rw[lu (n:=1) (x:=.bw (e2.n+1+1) 0 (k+1) bO) (es:=[row]) (e:=row) (i:=0) jX rfl rfl rfl (by omega)];rw[show(F.bw (e2.n+1+1) 0 (k+1) bO).cells=[.bw (e2.n+1+1) 0 (k+1) bO] from rfl,ay7 (by omega)];rfl
 have ki:∀(pm:List F) (vu:ai),pm.length=12->pm[5]? =o (.ptr (h.n+1) 0 0)->pm[6]? =o (.ptr (h.n+1+1) 0 0)->vu.cell (h.n+1)=o [vF]->vu.cell (h.n+1+1)=o [[.int j 4,.int j n,.aJ]]->bB (aU aq aa) 12 [.bP M2,.halt []] pm [] vu=o (.ret,pm,vu.set (h.n+1) (o [td n])):=λpm vu am bq cq aW bD=>by
  match pm,am with
  |[fJ,cI,b6,eY,dL,b4,cz,c7,dz,eD,dU,e1],_=>
    obtain rfl:b4= .ptr (h.n+1) 0 0:=by simpa using bq
    obtain rfl:cz= .ptr (h.n+1+1) 0 0:=by simpa using cq
    unfold M2;simp only[ao,ar,aW,bn vu bD]
 refine oJ.ayD (aZ:=12) (cg:=h.n+1+1+1) (c0:=h.n+1+1+1+1) dx ayW iu N8 akC ayX (ma Fw) ayY ayR ayU ayS ayV λL c1=>?_;have fa:(m6 uj).size=uj.size:=by simp
 have Av:∀(b:Bool) (z:List F),((kz O ((e2.push [[.bool b]]).push [z])).push (rows++[z])).cell e2.n=o [[.bool b]]/\((kz O ((e2.push [[.bool b]]).push [z])).push (rows++[z])).cell (e2.n+1)=o [z]/\((kz O ((e2.push [[.bool b]]).push [z])).push (rows++[z])).cell (e2.n+1+1)=o (rows++[z]):=λb z=>by
  have aA:(kz O ((e2.push [[.bool b]]).push [z])).n=e2.n+1+1:=Vn;have g:∀i,h.n<=i->(kz O ((e2.push [[.bool b]]).push [z])).cell i=((e2.push [[.bool b]]).push [z]).cell i:=λi af=>by
   cases O with
   |none=>rfl
   |some q=>exact eN λe=>on i af (by rw[e])
  refine⟨?_,?_,?_⟩
  ·rw[pl (by omega),g _ (by omega),pl (by simp only[eC];omega),hb]
  ·rw[pl (by omega),g _ (by omega)];exact hb
  ·rw[<-aA];exact hb
 have pu:ad≠h.n+1:=by omega
 have N9:Dh h x n ad O rows (row.set (19+D) (.bw (h.n+1+1+1+1+1) 0 (k+1) bO))=(((((kz O ((e2.push [[.bool U]]).push [[.int j 4,.int j n,.aJ]])).push (rows++[[.int j 4,.int j n,.aJ]])).set ad (o [row.set (19+D) (.bw (e2.n+1+1) 0 (k+1) bO)])).set (h.n+1) (o [td n])).set e2.n ag).set (e2.n+1) ag:=by unfold Dh tc;rw[mb,Fx]
 have aD':(jc [.ptr ad 0 0,.agg x,.int j n,.int j 0,.ptr h.n 0 0,.ptr (h.n+1) 0 0] (Dh h x n ad O rows (row.set (19+D) (.bw (h.n+1+1+1+1+1) 0 (k+1) bO))) [.cell J 5 5]).map ju=o (.agg (td n)):=by
  have:(Dh h x n ad O rows (row.set (19+D) (.bw (h.n+1+1+1+1+1) 0 (k+1) bO))).cell (h.n+1)=o [td n]:=by rw[N9,eN (by omega),eN (by omega),lc]
  simp only[ao,ar,this]
 have cut:∀(wW:List F) (X:ai),wW.length=12->wW[5]? =o (.ptr (h.n+1) 0 0)->X.cell (h.n+1)=o [td n]->(jc wW X [.cell J 5 5]).map ju=o (.agg (td n)):=λwW X am bq jX=>by
  match wW,am with
  |[fJ,cI,b6,eY,dL,b4,cz,c7,dz,eD,dU,e1],_=>
    obtain rfl:b4= .ptr (h.n+1) 0 0:=by simpa using bq
    simp only[ao,ar,jX]
 have akO:(Dh h x n ad O rows (row.set (19+D) (.bw (h.n+1+1+1+1+1) 0 (k+1) bO))).cell (h.n+1)=o [td n]:=by rw[N9,eN (by omega),eN (by omega),lc]
 rcases Gc (x:=1) (y:=2) (by decide) (by rw[ay3];decide) c1 fa (q1 _) (q1 _)with bz|bz
 ·have bR:=vG _ ((AZ U h.n (by omega)).trans h5);have bQ:=h' _ ((AZ U ad (by omega)).trans dK);have da:=bn _ ((AZ U (h.n+1+1) (by omega)).trans cA);have bx:=vG _ ((zU U [.int j 4,.int j n,.aJ] h.n (by omega)).trans h5);have bL:=h' _ ((zU U [.int j 4,.int j n,.aJ] ad (by omega)).trans dK);have gE:=bn _ ((zU U [.int j 4,.int j n,.aJ] (h.n+1+1) (by omega)).trans cA);have aP:=akK U [.int j 4,.int j n,.aJ] rfl;have cS:=akL U [.int j 4,.int j n,.aJ];have jw:=vG _ ((cS h.n (by omega) (on _ (b9 _))).trans h5);have hD:=st _ ((cS ad (by omega) oQ).trans dK);obtain⟨ei,fd,_⟩:=Av U [.int j 4,.int j n,.aJ];refine⟨_,Vl,QQ,[.ptr ad 0 0,.agg x,.int j n,.int j 0,.ptr h.n 0 0,.ptr (h.n+1) 0 0,.ptr (h.n+1+1) 0 0,.bool U,.bool U,.aD,.aD,.aD],[.ptr ad 0 0,.agg x,.int j n,.int j 0,.ptr h.n 0 0,.ptr (h.n+1) 0 0,.ptr (h.n+1+1) 0 0,.bool U,.bool U,.aD,.aD,.aD],[.ptr ad 0 0,.agg x,.int j n,.int j 0,.ptr h.n 0 0,.ptr (h.n+1) 0 0,.ptr (h.n+1+1) 0 0,.bool U,.bool U,.aD,.aD,.aD],e2.push [[.bool U]],(((kz O ((e2.push [[.bool U]]).push [[.int j 4,.int j n,.aJ]])).push (rows++[[.int j 4,.int j n,.aJ]])).set ad (o [row.set (19+D) (.bw (e2.n+1+1) 0 (k+1) bO)])),(((kz O ((e2.push [[.bool U]]).push [[.int j 4,.int j n,.aJ]])).push (rows++[[.int j 4,.int j n,.aJ]])).set ad (o [row.set (19+D) (.bw (e2.n+1+1) 0 (k+1) bO)])).set (h.n+1) (o [td n]),[[.bool U]],[[.int j 4,.int j n,.aJ]],bz.mono (λi D ae=>by simp only[xq,kW]at ae;exact .inr ae),BM ayZ,ay1,?_,?_,ki [.ptr ad 0 0,.agg x,.int j n,.int j 0,.ptr h.n 0 0,.ptr (h.n+1) 0 0,.ptr (h.n+1+1) 0 0,.bool U,.bool U,.aD,.aD,.aD] (((kz O ((e2.push [[.bool U]]).push [[.int j 4,.int j n,.aJ]])).push (rows++[[.int j 4,.int j n,.aJ]])).set ad (o [row.set (19+D) (.bw (e2.n+1+1) 0 (k+1) bO)])) rfl rfl rfl ((eN (by omega)).trans ((cS _ (by omega) (on _ (by omega))).trans cF)) ((eN (by omega)).trans ((cS _ (by omega) (on _ (by omega))).trans cA)),?_,?_,?_,cut _ _ rfl rfl akO⟩
  ·unfold QQ;simp only[ao]
  ·unfold QS;simp only[ao,ar,ap,akM,akN,bJ,bR,bQ,da,bx,bL,aP,jw,hD]
  ·rw[<-mb,eN (by omega),eN (by omega)];exact ei
  ·rw[<-mb,eN (by omega),eN (by omega),eN (by omega)];exact fd
  ·rw[N9,<-mb]
 ·have bR:=vG _ ((AZ J h.n (by omega)).trans h5);have bQ:=h' _ ((AZ J ad (by omega)).trans dK);have da:=bn _ ((AZ J (h.n+1+1) (by omega)).trans cA);have bx:=vG _ ((zU J a3 h.n (by omega)).trans h5);have bL:=h' _ ((zU J a3 ad (by omega)).trans dK);have gE:=bn _ ((zU J a3 (h.n+1+1) (by omega)).trans cA);have aP:=akK J a3 rfl;have cS:=akL J a3;have jw:=vG _ ((cS h.n (by omega) (on _ (b9 _))).trans h5);have hD:=st _ ((cS ad (by omega) oQ).trans dK);obtain⟨ei,fd,ha⟩:=Av J a3;have akP:rows.length=k:=zT.len;have ay':∀q:gZ,dY (o bO) ag (.bw (e2.n+1+1) 0 (k+1) bO) (.int q (k:Int))=o (.ptr (e2.n+1+1) k 0):=λq=>by rw[Au rfl (sR _),ir]
  have ff:=zT.one.2.1;have fn:=zT.one.2.2;have w:e0 3 ((((kz O ((e2.push [[.bool J]]).push [a3])).push (rows++[a3])).set ad (o [row.set (19+D) (.bw (e2.n+1+1) 0 (k+1) bO)]))) (.ptr (e2.n+1+1) k 0) (.agg [.int j 4,.int j n,.aJ])=o (((((kz O ((e2.push [[.bool J]]).push [a3])).push (rows++[a3])).set ad (o [row.set (19+D) (.bw (e2.n+1+1) 0 (k+1) bO)]))).set (e2.n+1+1) (o (rows++[[.int j 4,.int j n,.aJ]]))):=by rw[lu (n:=3) (x:=.agg [.int j 4,.int j n,.aJ]) (es:=rows++[a3]) (e:=a3) (i:=k) ((eN (by omega)).trans ha) (by rw[<-akP];simp) rfl rfl (by simp)];rw[<-akP];simp[dy,F.cells]
  refine⟨_,Vm,QR,[.ptr ad 0 0,.agg x,.int j n,.int j 0,.ptr h.n 0 0,.ptr (h.n+1) 0 0,.ptr (h.n+1+1) 0 0,.bool U,.bool J,.aD,.aD,.aD],[.ptr ad 0 0,.agg x,.int j n,.int j 0,.ptr h.n 0 0,.ptr (h.n+1) 0 0,.ptr (h.n+1+1) 0 0,.bool U,.bool J,.agg [.int j 4,.int j n,.aJ],.int j (k:Int),.bw (e2.n+1+1) 0 (k+1) bO],[.ptr ad 0 0,.agg x,.int j n,.int j 0,.ptr h.n 0 0,.ptr (h.n+1) 0 0,.ptr (h.n+1+1) 0 0,.bool U,.bool J,.agg [.int j 4,.int j n,.aJ],.int j (k:Int),.bw (e2.n+1+1) 0 (k+1) bO],e2.push [[.bool J]],((((kz O ((e2.push [[.bool J]]).push [a3])).push (rows++[a3])).set ad (o [row.set (19+D) (.bw (e2.n+1+1) 0 (k+1) bO)])).set (e2.n+1+1) (o (rows++[[.int j 4,.int j n,.aJ]]))),((((kz O ((e2.push [[.bool J]]).push [a3])).push (rows++[a3])).set ad (o [row.set (19+D) (.bw (e2.n+1+1) 0 (k+1) bO)])).set (e2.n+1+1) (o (rows++[[.int j 4,.int j n,.aJ]]))).set (h.n+1) (o [td n]),[[.bool J]],[a3],bz.mono (λi D ae=>by simp only[xq,kW]at ae;exact .inr ae),BM ay0,ay2,?_,?_,ki [.ptr ad 0 0,.agg x,.int j n,.int j 0,.ptr h.n 0 0,.ptr (h.n+1) 0 0,.ptr (h.n+1+1) 0 0,.bool U,.bool J,.agg [.int j 4,.int j n,.aJ],.int j (k:Int),.bw (e2.n+1+1) 0 (k+1) bO] (((((kz O ((e2.push [[.bool J]]).push [a3])).push (rows++[a3])).set ad (o [row.set (19+D) (.bw (e2.n+1+1) 0 (k+1) bO)]))).set (e2.n+1+1) (o (rows++[[.int j 4,.int j n,.aJ]]))) rfl rfl rfl ((eN (by omega)).trans ((eN (by omega)).trans ((cS _ (by omega) (on _ (by omega))).trans cF))) ((eN (by omega)).trans ((eN (by omega)).trans ((cS _ (by omega) (on _ (by omega))).trans cA))),?_,?_,?_,cut _ _ rfl rfl akO⟩
  ·unfold QR;simp only[ao]
  ·unfold QS;simp only[ao,ar,ap,akM,akN,bJ,bR,bQ,da,bx,bL,gE,aP,hD,ff,fn,ay',w]
  ·rw[<-mb,eN (by omega),eN (by omega),eN (by omega)];exact ei
  ·rw[<-mb,eN (by omega),eN (by omega),eN (by omega),eN (by omega)];exact fd
  ·rw[N9,<-mb];exact ay6 (by omega) (by omega) λb e=>by have:=(aK b e).1;omega
variable{ak:ai}{aO aL:Nat->Prop}{L:List cc}{c:iC}{ms:dn}{S:bt}{a7:List (List ax)}
theorem aN.none(s:aN ak aO aL h L)(i:Nat){b:Nat}{es:List (List F)}(af:L[i]? =o (a1 b es)):aN ak aO aL (h.set b .none) (L.eraseIdx i):=by obtain⟨ah,al,x,hv,a,a0⟩:=s;obtain⟨eJ,eK,dZ,eh,⟨aP,a2,bl,cr⟩,z,dJ,g1,q',ra⟩:=(cm.front af).1 x;have aW:mO eJ eK h (h.set b .none):=⟨b9 _,b9 _,λk _ ab=>eN λe=>ab ((aP k).2 e),λ_ _ _=>rfl⟩;have bD:mO ah al h (h.set b .none):=⟨b9 _,b9 _,λk _ ab=>eN λe=>ab ((dJ k).2 (.inl ((aP k).2 e))),λ_ _ _=>rfl⟩;exact⟨dZ,eh,(cm (L.eraseIdx i)).g9 z aW (λk ab I=>q' k I ab) (λD ae I=>ra D I ae),hv.then bD a a0,λk ab=>a k ((dJ k).2 (.inr ab)),λD ae=>a0 D ((g1 D).2 (.inr ae))⟩
theorem Vo{bn:F}{dP:List (List F)}{Z:List F}(d':c.kd.length=4)(dR:dP.length=4)(dK:∀r∈dP,r.length=3)(D:Nat):(ks c bn dP Z)[19+D]? =Z[D]?/\(∀v,(ks c bn dP Z).set (19+D) v=ks c bn dP (Z.set D v))/\(ks c bn dP Z).length=19+Z.length:=by
 obtain⟨ad,il,lE,kd⟩:=c;obtain⟨_,_,_,_,rfl⟩:=Bf d';obtain⟨_,_,_,_,_,_,_,_,_,_,_,_,rfl⟩:=Ft dR dK;refine⟨?_,λv=>?_,?_⟩
 ·rw[Nat.add_comm];rfl
 ·rw[Nat.add_comm];rfl
 ·simp;omega
theorem aza(s:aN ak aO aL h L)(i:Nat)(af:L[i]? =o (kL c ms S a7))(aH:ms.length=4)(dR:S.kept.length=4)(bA:a7.length=4){D:Nat}(ae:D<4)(hlen:(a7.getD D []).length<=1000000){x:List F}(aF:x.length=9/\x.all F.one=J)(y1:x[1]? =o (.int j (D:Int)))(n:Int):∃E,aU aq aa kt [.ptr c.ad 0 0,.agg x,.int j n,.int j 0] h=o (.inl (.agg (td n)),E)/\aN ak aO aL E (L.set i (kL c ms S (a7.set D (a7.getD D []++[ge n])))):=by
 have it:i<L.length:=(fO.1 af).1;obtain⟨ah,al,y⟩:=s.get i af;obtain⟨bn,dP,Z,f,ab,hm,am,t,_⟩:=IV y aH dR;obtain⟨w,hw,aB⟩:=IL am (p:=D) (by omega);have yi:∀Z:List F,(jh oR c.kd ms).length=4:=λ_=>by simp[hm,aH]
 obtain⟨eJ,eK,dt⟩:=t.get (3+(4+D)) (X:=i5 w (a7.getD D [])) (by rw[show 3+(4+D)=(4+D)+1+1+1 by omega,sz,sz,sz,l1 (by rw[yi Z];omega),yi Z,Nat.add_sub_cancel_left];exact aB);obtain⟨O,rows,zT⟩:=ay5 dt hlen;obtain⟨bx,bL,gE⟩:=Vo (bn:=bn) (Z:=Z) f.d' f.dR f.dK D;rw[bA]at am;have b3:aN ak aO aL (tc h x n) (a1 (h.n+1+1+1+1) [[.int j 4,.int j n,.aJ]]::a1 (h.n+1+1+1) [[.bool U]]::a1 (h.n+1+1) [[.int j 4,.int j n,.aJ]]::a1 (h.n+1) [vF]::a1 h.n [x]::L):=((((s.push [x]).push [vF]).push [[.int j 4,.int j n,.aJ]]).push [[.bool U]]).push [[.int j 4,.int j n,.aJ]];have l4:=(b3.cell 0 rfl).1;obtain⟨a,⟨f5,akQ,Vp,CU⟩,c2⟩:=ako b3 (i+1+1+1+1+1) af aH dR;have pl:∀{X:ai} {es:List (List F)} {i:Nat},i<X.n->(X.push es).cell i=X.cell i:=λaf=>uX (Nat.ne_of_lt af);have fF:∀k,k<h.n->(tc h x n).cell k=h.cell k:=λk ab=>by unfold tc;rw[pl (by simp only[eC];omega),pl (by simp only[eC];omega),pl (by simp only[eC];omega),pl (by simp only[eC];omega),pl ab]
 have qb:ks c bn dP Z=ks c a.1 a.2.1 a.2.2:=by have aw:=f5.cell;rw[fF c.ad f.lt,f.cell]at aw;simpa using aw
 obtain⟨bR,bQ,da⟩:=Vo (bn:=a.1) (Z:=a.2.2) f5.d' f5.dR f5.dK D;have N':a.2.2[D]? =o w:=by rw[<-bR,<-qb,bx,hw]
 obtain⟨bj,lM,xp⟩:=IL CU (p:=D) (by omega);obtain rfl:w=bj:=by rw[N']at lM;exact k9 lM
 have azb:((Fu c ms S a7 a)++(a1 (h.n+1+1+1+1) [[.int j 4,.int j n,.aJ]]::a1 (h.n+1+1+1) [[.bool U]]::a1 (h.n+1+1) [[.int j 4,.int j n,.aJ]]::a1 (h.n+1) [vF]::a1 h.n [x]::L).eraseIdx (i+1+1+1+1+1))[3+(4+D)]? =o (i5 w (a7.getD D [])):=by rw[l0 (by simp only[ho,fz,List.length_zipWith,Vp,aH,CU,bA];omega)];rw[show 3+(4+D)=(4+D)+1+1+1 by omega,sz,sz,sz,l1 (by rw[yi Z];omega),yi Z,Nat.add_sub_cancel_left];exact xp
 obtain⟨cq,mn,eW⟩:=c2.app (3+(4+D)) azb l4 (y:=ge n) (A3 n) hlen;have j3:=zT.app (tc h x n) fF (h.n+1+1+1+1) [.int j 4,.int j n,.aJ] l4 rfl;rw[mn]at j3;have pj:cq=(kz O (tc h x n)).push (rows++[[.int j 4,.int j n,.aJ]]):=by simpa using j3
 generalize a7.getD D []=l at*;have eA:(Fu c ms S a7 a).length=11:=by simp only[ho,fz,List.length_zipWith,Vp,aH,CU,bA];rfl
 rw[List.set_append_left _ _ (by omega)]at eW;have H2:(Fu c ms S a7 a).set (3+(4+D)) (i5 (.bw (tc h x n).n 0 (l.length+1) bO) (l++[ge n]))=a1 c.ad [ks c a.1 a.2.1 a.2.2]::a1 c.lE (S.cells.map λx=>[.int j x])::gc iw a.1 (S.log.map hc)::(jh oR c.kd ms++jh tb (a.2.2.set D (.bw (tc h x n).n 0 (l.length+1) bO)) (a7.set D (l++[ge n]))):=by rw[show 3+(4+D)=(4+D)+1+1+1 by omega,List.set_cons_succ,List.set_cons_succ,List.set_cons_succ,List.set_append_right _ _ (by rw[yi Z];omega),yi Z,Nat.add_sub_cancel_left,ajL]
 rw[H2]at eW;have jQ:=(eW.cell 0 rfl).1;have aK:∀b,O=o b->b<h.n/\b≠c.ad:=λb e=>⟨zT.lt b e,λay=>by subst e;rw[pj,ay,pl (by rw[Vn];exact f5.lt)]at jQ;simp only[kz,lc]at jQ;cases jQ⟩;have run:=ay8 (h:=h) (ad:=c.ad) (x:=x) (row:=ks c bn dP Z) (s:=w) (k:=l.length) (n:=n) aF y1 ae f.lt f.cell (by rw[gE,am]) (by rw[bx,hw]) zT hlen aK;refine⟨_,run,?_⟩;have hP:=eW.set 0 rfl [ks c a.1 a.2.1 (a.2.2.set D (.bw (tc h x n).n 0 (l.length+1) bO))];have kc:=akp (L:=a1 (h.n+1+1+1+1) [[.int j 4,.int j n,.aJ]]::a1 (h.n+1+1+1) [[.bool U]]::a1 (h.n+1+1) [[.int j 4,.int j n,.aJ]]::a1 (h.n+1) [vF]::a1 h.n [x]::L) (i:=i+1+1+1+1+1) (c:=c) (ms:=ms) (S:=S) (a7:=a7.set D (l++[ge n])) (a:=(a.1,a.2.1,a.2.2.set D (.bw (tc h x n).n 0 (l.length+1) bO))) hP (by simp only[ho];omega) Vp akQ (by simp[CU]);have vz:=(((kc.set 3 rfl [td n]).none 1 rfl).none 0 rfl).drop.drop.drop;rw[pj]at vz;unfold Dh;rw[qb,bQ];exact vz
end
abbrev ji(c:iC)(e:Nat)(ms:dn)(S:bt)(a7:List (List ax))(aM:Nat):List cc:=[a1 e [[.ptr c.ad 0 0,.int j (S.left:Int),.int j (aM:Int)]],kL c ms S a7,gU c.il S.G]
structure ku(ms:dn)(S:bt):Prop where
 d':ms.length=4
 g:xB ms
 st:S.Good
 bh:S.bh<=1000000
section
variable{h E ak:ai}{ah al aO aL:Nat->Prop}{L:List cc}{c:iC}{ms:dn}{S:bt}{a7:List (List ax)}{e aM:Nat}
theorem akR(n k:Int):aU aq aa 138 [.int j n,.int j k] h=o (.inl (.bS [.agg (if k=0 then[.int j 4,.int j n,.aJ]else a3),.int j k]),h):=by
 by_cases ab:k=0
 ·have d:decide (k=0)=J:=decide_eq_true ab;subst ab;refine a4 ajP rfl ?_;unfold U6;simp only[ao,ar,av,ap,bY];exact dE (aG.push _ _) rfl
 ·have d:decide (k=0)=U:=decide_eq_false ab;rw[if_neg ab];refine a4 ajP rfl ?_;unfold U6;simp only[ao,ar,av,ap,bY,d];exact dE (aG.push _ _) rfl
theorem iO(k:Int):aU aq aa 135 [.int j k] h=o (.inl (.bS [.agg a3,.int j k]),h):=by refine a4 ayj rfl ?_;unfold ajQ;simp only[ao,ar,av,ap];exact dE (aG.push _ _) rfl
abbrev rm:List F:=[.int j 0,.int j 0,.int j 0,.int j 0,.int j 0,.int j 0]
theorem Vq{i D k:Nat}(s:aN ak aO aL h L)(af:L[i]? =o (a1 e [.ptr c.ad 0 0::row]))(ae:L[D]? =o (kL c ms S a7))(ab:L[k]? =o (gU c.il S.G))(O:ku ms S){v:ax}{r:List F}(Z:bZ v r)(q:Nat)(aX:q<64):∃E,aU aq aa 137 [.ptr e 0 0,.agg r,.int j (q:Int)] h=o (.inl (.bS [.agg (if fK (S.G.c5 v.n) q then dv (S.G.target v.n).1 else rm),.int j (if fK (S.G.c5 v.n) q then 0 else 9)]),E)/\aG h E:=by
 obtain⟨w,rfl,aK⟩:=Z.i7;have bd:=s.push [[.int j v.kind,.int j v.n,w]];have aY:=bd.push [rm];obtain⟨bn,dP,Z,f,_⟩:=mz aY (D+1+1) ae O.d' O.st.kept;have cB:=(aY.cell (i+1+1) af).1;have hT:cR U 1 ((h.push [[.int j v.kind,.int j v.n,w]]).push [rm]) (.ptr e 0 0)=o (.ptr c.ad 0 0):=by rw[gb,cB];rfl
 have aW:=(aY.cell 1 rfl).1;obtain⟨eJ,eK,g⟩:=aY.get (k+1+1) ab;have fA:=adz g O.st.wf v.n;have kX:=ayp g O.st.wf v.n;have mb:=RN (h:=(h.push [[.int j v.kind,.int j v.n,w]]).push [rm]) (S.G.c5 v.n) q aX;have ff:=f.oS (n:=1);have bs:=aY.push [rm];have azc:=(bs.cell (i+1+1+1) af).1;have A7:cR U 1 (((h.push [[.int j v.kind,.int j v.n,w]]).push [rm]).push [rm]) (.ptr e 0 0)=o (.ptr c.ad 0 0):=by rw[gb,azc];rfl
 have Ga:=(bs.cell 2 rfl).1;have Vr:=(f.push (aG.push _ [rm])).oS (n:=1);have akS:cd 0 (.ptr e 0 0)=o (.ptr e 0 0):=rfl;have gC:cd 0 (.ptr c.ad 0 0)=o (.ptr c.ad 0 0):=rfl;cases ad:fK (S.G.c5 v.n) q with
 |true=>rw[ad]at mb;refine⟨_,?_,((aG.push h [[.int j v.kind,.int j v.n,w]]).trans (aG.push _ [rm])).trans (aG.push _ [dv (S.G.target v.n).1]) |>.set (b:=h.n+1) (es:=o [dv (S.G.target v.n).1]) (Nat.le_succ _)⟩;refine a4 If rfl ?_;unfold U7;simp only[ao,ar,av,ap,bN,aK,hT,aW,fA,kX,mb,ff,akS,gC,A7,Ga,Vr,dv]
 |false=>rw[ad]at mb;refine⟨_,?_,(aG.push h [[.int j v.kind,.int j v.n,w]]).trans (aG.push _ [rm])⟩;refine a4 If rfl ?_;unfold U7;simp only[ao,ar,av,ap,bN,aK,hT,aW,fA,kX,mb,ff,akS,gC,A7,Ga,Vr,dv]
abbrev Fy:di:=119
def vH(h:ai)(ah al:Nat->Prop)(c:iC)(e:Nat)(ms:dn)(a7:List (List ax))(aM:Nat)(a:List F)(q:bt×ax×Int):Prop:=∃E br,aU aq aa Fy a h=o (.inl (.bS [.agg br,.int j q.2.2]),E)/\bZ q.2.1 br/\gJ h ah al E (cm (ji c e ms q.1 a7 aM))
variable{p k n:Int}{dt bn:F}{rows:List (List F)}{a b:ax}
abbrev fE(op k n:Int)(dt:F):List F:=[.int j op,.int j k,.int j n,dt]
structure azd(bn:F)(a b:ax)(cX te:List F):Prop where
 i0:∀q:gZ,dY (o bO) ag bn (.int q 0)=o (.ip cX 0)
 i1:∀q:gZ,dY (o bO) ag bn (.int q 1)=o (.ip te 0)
 a:bZ a cX
 b:bZ b te
theorem Oa(am:gB bO bn rows)(Z:dk [a,b] rows):∃cX te,rows=[cX,te]/\azd bn a b cX te:=by obtain⟨cX,_,rfl,I,te,_,rfl,R,rfl⟩:=Z;exact⟨cX,te,rfl,λq=>am.bJ q 0 cX rfl,λq=>am.bJ q 1 te rfl,I,R⟩
theorem yj(am:gB bO bn rows)(Z:dk [a] rows):∃cX,rows=[cX]/\(∀q:gZ,dY (o bO) ag bn (.int q 0)=o (.ip cX 0))/\bZ a cX:=by obtain⟨cX,_,rfl,I,rfl⟩:=Z;exact⟨cX,rfl,λq=>am.bJ q 0 cX rfl,I⟩
theorem sh(x:(cm (ji c e ms S a7 aM)).A h ah al)(vI:List F):aN h ah al ((h.push [vI]).push [a3]) (a1 (h.n+1) [a3]::a1 h.n [vI]::ji c e ms S a7 aM):=((aN.start x).push [vI]).push [a3]
theorem aze(x:(cm (ji c e ms S a7 aM)).A h ah al)(O:ku ms S)(ef:dt.one=J)(am:gB bO bn rows)(Z:dk [a,b] rows):vH h ah al c e ms a7 aM [.ptr e 0 0,.int j p,.agg (fE 6 k n dt),bn] (gV p 6 k n [a,b] S):=by
 rw[ah5];obtain⟨cX,te,rfl,t⟩:=Oa am Z;obtain⟨lk,rfl,gL⟩:=t.a.i7;obtain⟨cG,rfl,oQ⟩:=t.b.i7;have i0:=t.i0;have i1:=t.i1;have aY:=sh x (fE 6 k n dt);obtain⟨_,_,_,f,_⟩:=mz aY 3 rfl O.d' O.st.kept;have ff:=f.oS (n:=1);have cB:=(aY.cell 2 rfl).1;have aW:=(aY.cell 1 rfl).1;have bD:=(aY.cell 0 rfl).1;have gC:cd 0 (.ptr c.ad 0 0)=o (.ptr c.ad 0 0):=rfl;by_cases aV:a.kind=1
 ·have gY:decide (a.kind=1)=J:=decide_eq_true aV;by_cases ad:b.kind=1
  ·have Vs:decide (b.kind=1)=J:=decide_eq_true ad;rw[if_neg (by simp[aV,ad])];refine⟨_,_,?_,x0 _,(aY.set 0 rfl [[.int j 1,.int j (Ax k a.n b.n),.aJ]]).drop.drop⟩;refine a4 iD rfl ?_;unfold im;simp only[ao,ar,av,ap,bY,bN,ef,cB,aW,bD,ff,gC,i0,i1,gY,Vs,cN,ayr];rfl
  ·have Vs:decide (b.kind=1)=U:=decide_eq_false ad;rw[if_pos (.inr ad)];refine⟨_,_,?_,fD,aY.drop.drop⟩;refine a4 iD rfl ?_;unfold im;simp only[ao,ar,av,ap,bY,bN,ef,cB,aW,bD,ff,gC,i0,i1,gY,Vs,cN,iO];rfl
 ·have gY:decide (a.kind=1)=U:=decide_eq_false aV;rw[if_pos (.inl aV)];refine⟨_,_,?_,fD,aY.drop.drop⟩;refine a4 iD rfl ?_;unfold im;simp only[ao,ar,av,ap,bY,bN,ef,cB,aW,bD,ff,gC,i0,i1,gY,cN,iO];rfl
end
section
variable{h E ak:ai}{ah al aO aL:Nat->Prop}{L:List cc}{c:iC}{ms:dn}{S:bt}{a7:List (List ax)}{e aM P:Nat}
variable{p k n:Int}{dt bn:F}{rows:List (List F)}{a b:ax}
theorem azf:kw j 0=0:=rfl
theorem azg:kw j 1=1:=rfl
theorem azh(x:(cm (ji c e ms S a7 aM)).A h ah al)(O:ku ms S)(ef:dt.one=J)(am:gB bO bn rows)(aC:e9 bO bn rows)(Z:dk [a,b] rows):vH h ah al c e ms a7 aM [.ptr e 0 0,.int j p,.agg (fE 8 k n dt),bn] (gV p 8 k n [a,b] S):=by
 rw[ah6];have o7:=Z;obtain⟨cX,te,rfl,t⟩:=Oa am Z;obtain⟨lk,rfl,gL⟩:=t.a.i7;obtain⟨cG,rfl,oQ⟩:=t.b.i7;have i0:=t.i0;have i1:=t.i1;have aY:=sh x (fE 8 k n dt);obtain⟨si,dP,uk,f,ab⟩:=mz aY 3 rfl O.d' O.st.kept;have ff:=f.oS (n:=1);have cB:=(aY.cell 2 rfl).1;have aW:=(aY.cell 1 rfl).1;have bD:=(aY.cell 0 rfl).1;have gC:cd 0 (.ptr c.ad 0 0)=o (.ptr c.ad 0 0):=rfl;have Di:bZ (.mk 2 0 [a,b]) [.int j 2,.int j 0,bn]:=⟨_,_,rfl,aC,Z⟩;have yk:bn.one=J:=by rcases aC with⟨_,rfl⟩|⟨id,rfl⟩<;>rfl
 have mh:bn.cells=[bn]:=by rcases aC with⟨_,rfl⟩|⟨id,rfl⟩<;>rfl
 have bs:=aY.push [[.int j 2,.int j 0,bn]];have cl:=(bs.cell 1 rfl).1;have eg:=(bs.cell 2 rfl).1;have fV:=(bs.cell 0 rfl).1;have qy:=MH (h:=((h.push [fE 8 k n dt]).push [a3]).push [[.int j 2,.int j 0,bn]]) Di;by_cases aB:(ax.mk 2 0 [a,b]).code=0
 ·rw[if_neg (λh=>h aB)];have iY:decide ((ax.mk 2 0 [a,b]).code=0)=J:=decide_eq_true aB;refine⟨_,_,?_,Di,(bs.set 1 rfl [[.int j 2,.int j 0,bn]]).drop.drop.drop⟩;refine a4 iD rfl ?_;unfold im;simp only[ao,ar,av,ap,bY,bN,ef,cB,aW,bD,ff,gC,i0,cN,iO,qy,yk,mh,iY,cl,eg];rfl
 ·rw[if_pos aB];have iY:decide ((ax.mk 2 0 [a,b]).code=0)=U:=decide_eq_false aB;refine⟨_,_,?_,fD,(bs.set 1 rfl [a3]).drop.drop.drop⟩;refine a4 iD rfl ?_;unfold im;simp only[ao,ar,av,ap,bY,bN,ef,cB,aW,bD,ff,gC,i0,cN,iO,qy,yk,mh,iY,cl,eg];rfl
theorem azi(x:(cm (ji c e ms S a7 aM)).A h ah al)(O:ku ms S)(ef:dt.one=J)(am:gB bO bn rows)(aC:e9 bO bn rows)(Z:dk [a] rows):vH h ah al c e ms a7 aM [.ptr e 0 0,.int j p,.agg (fE 11 k n dt),bn] (gV p 11 k n [a] S):=by
 rw[ah7];have o7:=Z;obtain⟨cX,rfl,i0,gh⟩:=yj am Z;obtain⟨lk,rfl,gL⟩:=gh.i7;have aY:=sh x (fE 11 k n dt);obtain⟨si,dP,uk,f,ab⟩:=mz aY 3 rfl O.d' O.st.kept;have ff:=f.oS (n:=1);have cB:=(aY.cell 2 rfl).1;have aW:=(aY.cell 1 rfl).1;have bD:=(aY.cell 0 rfl).1;have gC:cd 0 (.ptr c.ad 0 0)=o (.ptr c.ad 0 0):=rfl;have Di:bZ (.mk 3 p [a]) [.int j 3,.int j p,bn]:=⟨_,_,rfl,aC,Z⟩;have yk:bn.one=J:=by rcases aC with⟨_,rfl⟩|⟨id,rfl⟩<;>rfl
 have mh:bn.cells=[bn]:=by rcases aC with⟨_,rfl⟩|⟨id,rfl⟩<;>rfl
 have bs:=aY.push [[.int j 3,.int j p,bn]];have cl:=(bs.cell 1 rfl).1;have eg:=(bs.cell 2 rfl).1;have fV:=(bs.cell 0 rfl).1;have qy:=MH (h:=((h.push [fE 11 k n dt]).push [a3]).push [[.int j 3,.int j p,bn]]) Di;by_cases aB:(ax.mk 3 p [a]).code=0
 ·rw[if_neg (λh=>h aB)];have iY:decide ((ax.mk 3 p [a]).code=0)=J:=decide_eq_true aB;refine⟨_,_,?_,Di,(bs.set 1 rfl [[.int j 3,.int j p,bn]]).drop.drop.drop⟩;refine a4 iD rfl ?_;unfold im;simp only[ao,ar,av,ap,bY,bN,ef,cB,aW,bD,ff,gC,i0,cN,iO,qy,yk,mh,iY,cl];rfl
 ·rw[if_pos aB];have iY:decide ((ax.mk 3 p [a]).code=0)=U:=decide_eq_false aB;refine⟨_,_,?_,fD,(bs.set 1 rfl [a3]).drop.drop.drop⟩;refine a4 iD rfl ?_;unfold im;simp only[ao,ar,av,ap,bY,bN,ef,cB,aW,bD,ff,gC,i0,cN,iO,qy,yk,mh,iY,cl];rfl
theorem azj(x:(cm (ji c e ms S a7 aM)).A h ah al)(O:ku ms S)(ef:dt.one=J)(am:gB bO bn rows)(Z:dk [a] rows)(an:a.code=0):vH h ah al c e ms a7 aM [.ptr e 0 0,.int j p,.agg (fE 9 k n dt),bn] (gV p 9 k n [a] S):=by
 rw[ah3];obtain⟨cX,rfl,i0,gh⟩:=yj am Z;obtain⟨lk,rfl,gL⟩:=gh.i7;have aY:=sh x (fE 9 k n dt);obtain⟨si,dP,uk,f,ab⟩:=mz aY 3 rfl O.d' O.st.kept;have ff:=f.oS (n:=1);have cB:=(aY.cell 2 rfl).1;have aW:=(aY.cell 1 rfl).1;have bD:=(aY.cell 0 rfl).1;have gC:cd 0 (.ptr c.ad 0 0)=o (.ptr c.ad 0 0):=rfl;by_cases aV:a.kind=2
 ·rw[if_neg (λh=>h aV)];have gY:decide (a.kind=2)=J:=decide_eq_true aV;obtain⟨cb,fU,wA⟩:=(GF an).1 aV;have aB:a.l[0]? =o (a.l.getD 0 ce):=by rw[wA];rfl
  obtain⟨Dj,wT,dB,gm,iu,kj⟩:=gh.part aB;obtain rfl:lk=Dj:=k9 dB;have gm:∀q:gZ,dY (o bO) ag lk (.int q 0)=o (.ip wT 0):=gm;have bz:=kj.cV;refine⟨_,_,?_,kj,(aY.set 0 rfl [wT]).drop.drop⟩;refine a4 iD rfl ?_;unfold im;simp only[ao,ar,av,ap,bY,bN,ef,cB,aW,bD,ff,gC,i0,cN,iO,gY,gm,iu,bz,Int.reduceSub,azf];rfl
 ·rw[if_pos aV];have gY:decide (a.kind=2)=U:=decide_eq_false aV;refine⟨_,_,?_,fD,aY.drop.drop⟩;refine a4 iD rfl ?_;unfold im;simp only[ao,ar,av,ap,bY,bN,ef,cB,aW,bD,ff,gC,i0,cN,iO,gY];rfl
theorem azk(x:(cm (ji c e ms S a7 aM)).A h ah al)(O:ku ms S)(ef:dt.one=J)(am:gB bO bn rows)(Z:dk [a] rows)(an:a.code=0):vH h ah al c e ms a7 aM [.ptr e 0 0,.int j p,.agg (fE 10 k n dt),bn] (gV p 10 k n [a] S):=by
 rw[ah4];obtain⟨cX,rfl,i0,gh⟩:=yj am Z;obtain⟨lk,rfl,gL⟩:=gh.i7;have aY:=sh x (fE 10 k n dt);obtain⟨si,dP,uk,f,ab⟩:=mz aY 3 rfl O.d' O.st.kept;have ff:=f.oS (n:=1);have cB:=(aY.cell 2 rfl).1;have aW:=(aY.cell 1 rfl).1;have bD:=(aY.cell 0 rfl).1;have gC:cd 0 (.ptr c.ad 0 0)=o (.ptr c.ad 0 0):=rfl;by_cases aV:a.kind=2
 ·rw[if_neg (λh=>h aV)];have gY:decide (a.kind=2)=J:=decide_eq_true aV;obtain⟨cb,fU,wA⟩:=(GF an).1 aV;have aB:a.l[1]? =o (a.l.getD 1 ce):=by rw[wA];rfl
  obtain⟨Dj,wT,dB,gm,iu,kj⟩:=gh.part aB;obtain rfl:lk=Dj:=k9 dB;have gm:∀q:gZ,dY (o bO) ag lk (.int q 1)=o (.ip wT 0):=gm;have bz:=kj.cV;refine⟨_,_,?_,kj,(aY.set 0 rfl [wT]).drop.drop⟩;refine a4 iD rfl ?_;unfold im;simp only[ao,ar,av,ap,bY,bN,ef,cB,aW,bD,ff,gC,i0,cN,iO,gY,gm,iu,bz,Int.reduceSub,azg];rfl
 ·rw[if_pos aV];have gY:decide (a.kind=2)=U:=decide_eq_false aV;refine⟨_,_,?_,fD,aY.drop.drop⟩;refine a4 iD rfl ?_;unfold im;simp only[ao,ar,av,ap,bY,bN,ef,cB,aW,bD,ff,gC,i0,cN,iO,gY];rfl
theorem azl(x:(cm (ji c e ms S a7 aM)).A h ah al)(O:ku ms S)(ef:dt.one=J)(am:gB bO bn rows)(Z:dk [a] rows)(an:a.code=0):vH h ah al c e ms a7 aM [.ptr e 0 0,.int j p,.agg (fE 12 k n dt),bn] (gV p 12 k n [a] S):=by
 rw[ah8];obtain⟨cX,rfl,i0,gh⟩:=yj am Z;obtain⟨lk,rfl,gL⟩:=gh.i7;have aY:=sh x (fE 12 k n dt);obtain⟨si,dP,uk,f,ab⟩:=mz aY 3 rfl O.d' O.st.kept;have ff:=f.oS (n:=1);have cB:=(aY.cell 2 rfl).1;have aW:=(aY.cell 1 rfl).1;have bD:=(aY.cell 0 rfl).1;have gC:cd 0 (.ptr c.ad 0 0)=o (.ptr c.ad 0 0):=rfl;by_cases aV:a.kind=3
 ·rw[if_neg (λh=>h aV)];have gY:decide (a.kind=3)=J:=decide_eq_true aV;by_cases aA:a.n=p
  ·rw[if_neg (λh=>h aA)];have mA:decide (a.n=p)=J:=decide_eq_true aA;obtain⟨cb,wA⟩:=(GF an).2 aV;have aB:a.l[0]? =o (a.l.getD 0 ce):=by rw[wA];rfl
   obtain⟨Dj,wT,dB,gm,iu,kj⟩:=gh.part aB;obtain rfl:lk=Dj:=k9 dB;have gm:∀q:gZ,dY (o bO) ag lk (.int q 0)=o (.ip wT 0):=gm;have bz:=kj.cV;refine⟨_,_,?_,kj,(aY.set 0 rfl [wT]).drop.drop⟩;refine a4 iD rfl ?_;unfold im;simp only[ao,ar,av,ap,bY,bN,ef,cB,aW,bD,ff,gC,i0,cN,iO,gY,mA,gm,iu,bz];rfl
  ·rw[if_pos aA];have mA:decide (a.n=p)=U:=decide_eq_false aA;refine⟨_,_,?_,fD,aY.drop.drop⟩;refine a4 iD rfl ?_;unfold im;simp only[ao,ar,av,ap,bY,bN,ef,cB,aW,bD,ff,gC,i0,cN,iO,gY,mA];rfl
 ·rw[if_pos aV];have gY:decide (a.kind=3)=U:=decide_eq_false aV;refine⟨_,_,?_,fD,aY.drop.drop⟩;refine a4 iD rfl ?_;unfold im;simp only[ao,ar,av,ap,bY,bN,ef,cB,aW,bD,ff,gC,i0,cN,iO,gY];rfl
theorem azm(x:(cm (ji c e ms S a7 aM)).A h ah al)(O:ku ms S)(ef:dt.one=J)(am:gB bO bn rows)(Z:dk [a] rows):vH h ah al c e ms a7 aM [.ptr e 0 0,.int j p,.agg (fE 13 k n dt),bn] (gV p 13 k n [a] S):=by
 rw[ahY];obtain⟨cX,rfl,i0,gh⟩:=yj am Z;obtain⟨lk,rfl,gL⟩:=gh.i7;have aY:=sh x (fE 13 k n dt);obtain⟨si,dP,uk,f,ab⟩:=mz aY 3 rfl O.d' O.st.kept;have ff:=f.oS (n:=1);have cB:=(aY.cell 2 rfl).1;have aW:=(aY.cell 1 rfl).1;have bD:=(aY.cell 0 rfl).1;have gC:cd 0 (.ptr c.ad 0 0)=o (.ptr c.ad 0 0):=rfl;by_cases aV:a.kind=4
 ·have gY:decide (a.kind=4)=J:=decide_eq_true aV;rw[if_neg (λh=>h aV)];obtain⟨aj,be,eQ⟩:=Vq (i:=2) (D:=3) (k:=4) aY rfl rfl rfl O gh 0 (by decide);have be:aU aq aa 137 [.ptr e 0 0,.agg [.int j a.kind,.int j a.n,lk],.int j 0] ((h.push [fE 13 k n dt]).push [a3])=o (.inl (.bS [.agg (if fK (S.G.c5 a.n) 0 then dv (S.G.target a.n).1 else rm),.int j (if fK (S.G.c5 a.n) 0 then 0 else 9)]),aj):=be;have bs:=aY.h1 eQ;by_cases ad:fK (S.G.c5 a.n) 0=J
  ·rw[if_neg (by rw[ad];decide)];rw[if_pos ad,if_pos ad]at be;have bE:=bs.push [dv (S.G.target a.n).1];have d1:=(bE.cell 1 rfl).1;have d2:=(bE.cell 2 rfl).1;have d3:=(bE.cell 3 rfl).1;have d0:=(bE.cell 0 rfl).1;have EM:=(mz bE 4 rfl O.d' O.st.kept).choose_spec.choose_spec.choose_spec.1;by_cases az:0<=(S.G.target a.n).1.bu
   ·rw[if_pos az];have rn:decide (0<=(S.G.target a.n).1.bu)=J:=decide_eq_true az;refine⟨_,_,?_,fD,(bE.set 1 rfl [a3]).drop.drop.drop⟩;unfold dv at*;refine a4 iD rfl ?_;unfold im;simp only[ao,ar,av,ap,bY,bN,ef,cB,aW,bD,ff,gC,i0,cN,iO,gY,be,d0,d1,d3,rn];rfl
   ·rw[if_neg az];have rn:decide (0<=(S.G.target a.n).1.bu)=U:=decide_eq_false az;have an:=Ns O.st.wf ad az;obtain⟨azn,bq,cq,a',⟨nv,Vt⟩,ej,qD,A6,hC,Vu,iJ,c2⟩:=akk bE 4 rfl (by have:=O.bh;unfold bt.bh at this;omega) ⟨p,(S.G.target a.n).1.cell,1,a.n⟩;rw[v']at ej;have Vv:(S.G.target a.n).1.cell.toNat<S.cells.length:=by rw[O.st.cells];omega
    have bJ:∀Db:gZ,dY (o wm) ag (.bw c.lE 0 12 wm) (.int Db (S.G.target a.n).1.cell)=o (.ptr c.lE (S.G.target a.n).1.cell.toNat 0):=λDb=>by obtain⟨D,ae⟩:=ni an.1;rw[ae,Au rfl (by omega),ir,m9]
    have iy:=(c2.cell 0 rfl).1;have cg:=(c2.cell 1 rfl).1;have c0:=(c2.cell 2 rfl).1;have fq:=(c2.cell 3 rfl).1;have f6:=(mz c2 4 rfl O.d' O.st.kept).choose_spec.choose_spec.choose_spec.1;have A0:=f6.cells (n:=1);have azo:=f6.oS (n:=1);have f1:cd 1 (.ptr c.ad 0 0)=o (.ptr c.ad 0 1):=rfl;have f2:cd 2 (.ptr c.ad 0 0)=o (.ptr c.ad 0 2):=rfl;have Dj:=ayt c2 4 rfl (n:=1) (S.G.target a.n).1.cell.toNat Vv;refine⟨_,_,?_,x0 _,(c2.set 1 rfl [[.int j 1,.int j (S.cells.getD (S.G.target a.n).1.cell.toNat 0),.aJ]]).drop.drop.drop⟩;unfold dv hc at*;refine a4 iD rfl ?_;unfold im;simp only[ao,ar,av,ap,bY,bN,ef,cB,aW,bD,ff,gC,i0,cN,iO,gY,be,d0,d1,d3,rn,nv,Vt,ej,hC,Vu,bJ,iy,cg,fq,A0,f1,f2,Dj];rfl
  ·rw[if_pos (by simpa using ad)];rw[if_neg ad,if_neg ad]at be;have bE:=bs.push [rm];have d1:=(bE.cell 1 rfl).1;have d2:=(bE.cell 2 rfl).1;have d0:=(bE.cell 0 rfl).1;refine⟨_,_,?_,fD,(bE.set 1 rfl [a3]).drop.drop.drop⟩;refine a4 iD rfl ?_;unfold im;simp only[ao,ar,av,ap,bY,bN,ef,cB,aW,bD,ff,gC,i0,cN,iO,gY,be,d0,d1];rfl
 ·have gY:decide (a.kind=4)=U:=decide_eq_false aV;rw[if_pos aV];refine⟨_,_,?_,fD,aY.drop.drop⟩;refine a4 iD rfl ?_;unfold im;simp only[ao,ar,av,ap,bY,bN,ef,cB,aW,bD,ff,gC,i0,cN,iO,gY];rfl
theorem azp(x:(cm (ji c e ms S a7 aM)).A h ah al)(O:ku ms S)(ef:dt.one=J)(am:gB bO bn rows)(Z:dk [a,b] rows):vH h ah al c e ms a7 aM [.ptr e 0 0,.int j p,.agg (fE 14 k n dt),bn] (gV p 14 k n [a,b] S):=by
 rw[ahZ];obtain⟨cX,te,rfl,t⟩:=Oa am Z;obtain⟨lk,rfl,gL⟩:=t.a.i7;obtain⟨cG,rfl,oQ⟩:=t.b.i7;have i0:=t.i0;have i1:=t.i1;have aY:=sh x (fE 14 k n dt);obtain⟨si,dP,uk,f,ab⟩:=mz aY 3 rfl O.d' O.st.kept;have ff:=f.oS (n:=1);have cB:=(aY.cell 2 rfl).1;have aW:=(aY.cell 1 rfl).1;have bD:=(aY.cell 0 rfl).1;have gC:cd 0 (.ptr c.ad 0 0)=o (.ptr c.ad 0 0):=rfl;by_cases aV:a.kind=4
 ·have gY:decide (a.kind=4)=J:=decide_eq_true aV;by_cases pu:b.kind=1
  ·have IW:decide (b.kind=1)=J:=decide_eq_true pu;rw[if_neg (by simp[aV,pu])];obtain⟨aj,be,eQ⟩:=Vq (i:=2) (D:=3) (k:=4) aY rfl rfl rfl O t.a 1 (by decide);have be:aU aq aa 137 [.ptr e 0 0,.agg [.int j a.kind,.int j a.n,lk],.int j 1] ((h.push [fE 14 k n dt]).push [a3])=o (.inl (.bS [.agg (if fK (S.G.c5 a.n) 1 then dv (S.G.target a.n).1 else rm),.int j (if fK (S.G.c5 a.n) 1 then 0 else 9)]),aj):=be;have bs:=aY.h1 eQ;by_cases ad:fK (S.G.c5 a.n) 1=J
   ·rw[if_neg (by rw[ad];decide)];rw[if_pos ad,if_pos ad]at be;have bE:=bs.push [dv (S.G.target a.n).1];have d1:=(bE.cell 1 rfl).1;have d2:=(bE.cell 2 rfl).1;have d3:=(bE.cell 3 rfl).1;have d0:=(bE.cell 0 rfl).1;have EM:=(mz bE 4 rfl O.d' O.st.kept).choose_spec.choose_spec.choose_spec.1;by_cases az:0<=(S.G.target a.n).1.bu
    ·rw[if_pos az];have rn:decide (0<=(S.G.target a.n).1.bu)=J:=decide_eq_true az;refine⟨_,_,?_,fD,(bE.set 1 rfl [a3]).drop.drop.drop⟩;unfold dv at*;refine a4 iD rfl ?_;unfold im;simp only[ao,ar,av,ap,bY,bN,ef,cB,aW,bD,ff,gC,i0,cN,iO,gY,IW,i1,be,d0,d1,d3,rn];rfl
    ·rw[if_neg az];have rn:decide (0<=(S.G.target a.n).1.bu)=U:=decide_eq_false az;have an:=Ns O.st.wf ad az;obtain⟨azn,bq,cq,a',⟨nv,Vt⟩,ej,qD,A6,hC,Vu,iJ,c2⟩:=akk bE 4 rfl (by have:=O.bh;unfold bt.bh at this;omega) ⟨p,(S.G.target a.n).1.cell,2,a.n⟩;rw[v']at ej;have Vv:(S.G.target a.n).1.cell.toNat<S.cells.length:=by rw[O.st.cells];omega
     have bJ:∀Db:gZ,dY (o wm) ag (.bw c.lE 0 12 wm) (.int Db (S.G.target a.n).1.cell)=o (.ptr c.lE (S.G.target a.n).1.cell.toNat 0):=λDb=>by obtain⟨D,ae⟩:=ni an.1;rw[ae,Au rfl (by omega),ir,m9]
     have iy:=(c2.cell 0 rfl).1;have cg:=(c2.cell 1 rfl).1;have c0:=(c2.cell 2 rfl).1;have fq:=(c2.cell 3 rfl).1;have f6:=(mz c2 4 rfl O.d' O.st.kept).choose_spec.choose_spec.choose_spec.1;have A0:=f6.cells (n:=1);have azo:=f6.oS (n:=1);have f1:cd 1 (.ptr c.ad 0 0)=o (.ptr c.ad 0 1):=rfl;have f2:cd 2 (.ptr c.ad 0 0)=o (.ptr c.ad 0 2):=rfl;obtain⟨de,azq,eW⟩:=ayu c2 4 rfl (S.G.target a.n).1.cell.toNat Vv b.n;have sE:=(eW.cell 1 rfl).1;have cS:=(eW.cell 2 rfl).1;refine⟨_,_,?_,t.b,(eW.set 1 rfl [[.int j b.kind,.int j b.n,cG]]).drop.drop.drop⟩;unfold dv hc at*;refine a4 iD rfl ?_;unfold im;simp only[ao,ar,av,ap,bY,bN,ef,cB,aW,bD,ff,gC,i0,cN,iO,gY,IW,i1,oQ,be,d0,d1,d3,rn,nv,Vt,ej,hC,Vu,bJ,iy,fq,A0,f1,f2,azq,sE];rfl
   ·rw[if_pos (by simpa using ad)];rw[if_neg ad,if_neg ad]at be;have bE:=bs.push [rm];have d1:=(bE.cell 1 rfl).1;have d2:=(bE.cell 2 rfl).1;have d0:=(bE.cell 0 rfl).1;refine⟨_,_,?_,fD,(bE.set 1 rfl [a3]).drop.drop.drop⟩;refine a4 iD rfl ?_;unfold im;simp only[ao,ar,av,ap,bY,bN,ef,cB,aW,bD,ff,gC,i0,cN,iO,gY,IW,i1,be,d0,d1];rfl
  ·have IW:decide (b.kind=1)=U:=decide_eq_false pu;rw[if_pos (.inr pu)];refine⟨_,_,?_,fD,aY.drop.drop⟩;refine a4 iD rfl ?_;unfold im;simp only[ao,ar,av,ap,bY,bN,ef,cB,aW,bD,ff,gC,i0,cN,iO,gY,IW,i1];rfl
 ·have gY:decide (a.kind=4)=U:=decide_eq_false aV;rw[if_pos (.inl aV)];refine⟨_,_,?_,fD,aY.drop.drop⟩;refine a4 iD rfl ?_;unfold im;simp only[ao,ar,av,ap,bY,bN,ef,cB,aW,bD,ff,gC,i0,cN,iO,gY];rfl
theorem azr(x:(cm (ji c e ms S a7 aM)).A h ah al)(O:ku ms S)(ef:dt.one=J)(am:gB bO bn rows)(Z:dk [a] rows):vH h ah al c e ms a7 aM [.ptr e 0 0,.int j p,.agg (fE 15 k n dt),bn] (gV p 15 k n [a] S):=by
 rw[WP];obtain⟨cX,rfl,i0,gh⟩:=yj am Z;obtain⟨lk,rfl,gL⟩:=gh.i7;have aY:=sh x (fE 15 k n dt);obtain⟨si,dP,uk,f,ab⟩:=mz aY 3 rfl O.d' O.st.kept;have ff:=f.oS (n:=1);have cB:=(aY.cell 2 rfl).1;have aW:=(aY.cell 1 rfl).1;have bD:=(aY.cell 0 rfl).1;have gC:cd 0 (.ptr c.ad 0 0)=o (.ptr c.ad 0 0):=rfl;by_cases aV:a.kind=4
 ·have gY:decide (a.kind=4)=J:=decide_eq_true aV;rw[if_neg (λh=>h aV)];obtain⟨aj,be,bs⟩:=aY.call (cJ:=λaj=>aU aq aa 85 [.ptr c.il 0 0,.int j a.n,.int j k,.int j (-1)] ((h.push [fE 15 k n dt]).push [a3])=o (.inl (.bS [.int j (S.G.derive a.n k (-1)).2.1,.int j (S.G.derive a.n k (-1)).2.2]),aj)) 4 rfl (Y:=gU c.il (S.G.derive a.n k (-1)).1) λah al g=>TN g O.st.wf a.n k (-1);have d1:=(bs.cell 0 rfl).1;unfold xz;generalize S.G.derive a.n k (-1)=q at*;obtain⟨b7,m,i6⟩:=q;simp only at be ⊢;have sY:=akR (h:=aj) m i6;by_cases aB:i6=0
  ·rw[if_pos aB]at sY;subst aB;refine⟨_,_,?_,A3 m,(bs.set 0 rfl [[.int j 4,.int j m,.aJ]]).drop.drop⟩;refine a4 iD rfl ?_;unfold im;simp only[ao,ar,av,ap,bY,bN,ef,cB,aW,bD,ff,gC,i0,cN,iO,gY,be,d1,sY];rfl
  ·rw[if_neg aB]at sY;rw[if_pos aB];refine⟨_,_,?_,fD,(bs.set 0 rfl [a3]).drop.drop⟩;refine a4 iD rfl ?_;unfold im;simp only[ao,ar,av,ap,bY,bN,ef,cB,aW,bD,ff,gC,i0,cN,iO,gY,be,d1,sY];rfl
 ·have gY:decide (a.kind=4)=U:=decide_eq_false aV;rw[if_pos aV];refine⟨_,_,?_,fD,aY.drop.drop⟩;refine a4 iD rfl ?_;unfold im;simp only[ao,ar,av,ap,bY,bN,ef,cB,aW,bD,ff,gC,i0,cN,iO,gY];rfl
theorem azs(x:(cm (ji c e ms S a7 aM)).A h ah al)(O:ku ms S)(ef:dt.one=J)(am:gB bO bn rows)(Z:dk [a] rows):vH h ah al c e ms a7 aM [.ptr e 0 0,.int j p,.agg (fE 17 k n dt),bn] (gV p 17 k n [a] S):=by
 rw[aij];obtain⟨cX,rfl,i0,gh⟩:=yj am Z;obtain⟨lk,rfl,gL⟩:=gh.i7;have aY:=sh x (fE 17 k n dt);obtain⟨si,dP,uk,f,ab⟩:=mz aY 3 rfl O.d' O.st.kept;have ff:=f.oS (n:=1);have cB:=(aY.cell 2 rfl).1;have aW:=(aY.cell 1 rfl).1;have bD:=(aY.cell 0 rfl).1;have gC:cd 0 (.ptr c.ad 0 0)=o (.ptr c.ad 0 0):=rfl;by_cases aV:a.kind=5
 ·have gY:decide (a.kind=5)=J:=decide_eq_true aV;rw[if_neg (λh=>h aV)];obtain⟨aj,be,bs⟩:=aY.call (cJ:=λaj=>aU aq aa 67 [.ptr c.il 0 0,.int j a.n] ((h.push [fE 17 k n dt]).push [a3])=o (.inl (.int j (S.G.cut a.n).2),aj)) 4 rfl (Y:=gU c.il (S.G.cut a.n).1) λah al g=>adG g a.n;have d1:=(bs.cell 0 rfl).1;refine⟨_,_,?_,fD,(bs.set 0 rfl [a3]).drop.drop⟩;refine a4 iD rfl ?_;unfold im;simp only[ao,ar,av,ap,bY,bN,ef,cB,aW,bD,ff,gC,i0,cN,iO,gY,be,d1];rfl
 ·have gY:decide (a.kind=5)=U:=decide_eq_false aV;rw[if_pos aV];refine⟨_,_,?_,fD,aY.drop.drop⟩;refine a4 iD rfl ?_;unfold im;simp only[ao,ar,av,ap,bY,bN,ef,cB,aW,bD,ff,gC,i0,cN,iO,gY];rfl
theorem azt(x:(cm (ji c e ms S a7 aM)).A h ah al)(O:ku ms S)(ef:dt.one=J)(am:gB bO bn rows)(Z:dk [a] rows)(az:p=(P:Int))(gd:P<4):vH h ah al c e ms a7 aM [.ptr e 0 0,.int j p,.agg (fE 20 k n dt),bn] (gV p 20 k n [a] S):=by
 rw[aik];obtain⟨cX,rfl,i0,gh⟩:=yj am Z;obtain⟨lk,rfl,gL⟩:=gh.i7;have aY:=sh x (fE 20 k n dt);obtain⟨si,dP,uk,f,ab⟩:=mz aY 3 rfl O.d' O.st.kept;have ff:=f.oS (n:=1);have cB:=(aY.cell 2 rfl).1;have aW:=(aY.cell 1 rfl).1;have bD:=(aY.cell 0 rfl).1;have gC:cd 0 (.ptr c.ad 0 0)=o (.ptr c.ad 0 0):=rfl;subst az;obtain⟨hi,mH,Cw⟩:=ab.get (i:=P) (x:=S.kept.getD P ce) (by rw[cZ,fT (by rw[O.st.kept];exact gd)];rfl);have s6:=f.akj mH;have Ge:=Cw.cV;have f7:cd 7 (.ptr c.ad 0 0)=o (.ptr c.ad 0 7):=rfl;have bJ:∀q:gZ,dY ag (o (4,3)) (.ptr c.ad 0 7) (.int q (P:Int))=o (.ptr c.ad 0 (7+P*3)):=λq=>by simp[dY,gd]
 have bs:=aY.push [hi];obtain⟨aH,b1,bE⟩:=ays bs 4 rfl O.d' O.st.kept gd gh;have d0:=(bs.cell 0 rfl).1;have iy:aH.cell (h.n+1+1)=o [hi]:=(bE.cell 0 rfl).1;have cg:aH.cell (h.n+1)=o [a3]:=(bE.cell 1 rfl).1;have cl:=(bs.cell 3 rfl).1;have eg:=(bs.cell 2 rfl).1;have Vr:=(f.push (aG.push _ [hi])).oS (n:=1);rw[m9];refine⟨_,_,?_,Cw,(bE.set 1 rfl [hi]).drop.drop.drop⟩;refine a4 iD rfl ?_;unfold im;simp only[ao,ar,av,ap,bY,bN,ef,cB,aW,bD,ff,gC,i0,cN,iO,s6,Ge,f7,bJ,b1,iy,cg,cl];rfl
theorem azu(x:(cm (ji c e ms S a7 aM)).A h ah al)(O:ku ms S)(ef:dt.one=J)(am:gB bO bn rows)(Z:dk [a] rows):vH h ah al c e ms a7 aM [.ptr e 0 0,.int j p,.agg (fE 16 k n dt),bn] (gV p 16 k n [a] S):=by
 rw[ah1];obtain⟨cX,rfl,i0,gh⟩:=yj am Z;obtain⟨lk,rfl,gL⟩:=gh.i7;have aY:=sh x (fE 16 k n dt);obtain⟨si,dP,uk,f,ab⟩:=mz aY 3 rfl O.d' O.st.kept;have ff:=f.oS (n:=1);have cB:=(aY.cell 2 rfl).1;have aW:=(aY.cell 1 rfl).1;have bD:=(aY.cell 0 rfl).1;have gC:cd 0 (.ptr c.ad 0 0)=o (.ptr c.ad 0 0):=rfl;by_cases aV:a.kind=4
 ·have gY:decide (a.kind=4)=J:=decide_eq_true aV;rw[if_neg (λh=>h aV)];obtain⟨aj,be,bs⟩:=aY.call (cJ:=λaj=>aU aq aa 68 [.ptr c.il 0 0] ((h.push [fE 16 k n dt]).push [a3])=o (.inl (.bS [.int j S.G.gate.2.1,.int j S.G.gate.2.2]),aj)) 4 rfl (Y:=gU c.il S.G.gate.1) λah al g=>adD g O.st.wf;have d1:=(bs.cell 0 rfl).1;by_cases a5:S.G.gate.2.2=0
  ·rw[if_neg (λh=>h a5)];have zC:decide (S.G.gate.2.2=0)=J:=decide_eq_true a5;obtain⟨aH,b1,bE⟩:=bs.call (cJ:=λaH=>aU aq aa 85 [.ptr c.il 0 0,.int j a.n,.int j 15,.int j S.G.gate.2.1] aj=o (.inl (.bS [.int j (S.G.gate.1.derive a.n 15 S.G.gate.2.1).2.1,.int j (S.G.gate.1.derive a.n 15 S.G.gate.2.1).2.2]),aH)) 4 rfl (Y:=gU c.il (S.G.gate.1.derive a.n 15 S.G.gate.2.1).1) λah al g=>TN g O.st.wf.gate a.n 15 S.G.gate.2.1;generalize S.G.gate.1.derive a.n 15 S.G.gate.2.1=q at*;obtain⟨b7,m,i6⟩:=q;simp only at b1 bE ⊢;have sY:=akR (h:=aH) m i6;by_cases aB:i6=0
   ·rw[if_pos aB]at sY;subst aB;rw[if_neg (λh=>h rfl)];have b3:=bE.push [[.int j 4,.int j m,.aJ]];have c2:=b3.h1 (aG.fresh _ 2);have lV:=(b3.cell 0 rfl).1;have bR:=(b3.cell 1 rfl).1;have eW:=c2.set 1 rfl [[.int j 2,.int j 0,.b5 (o aH.ids) bO [[.int j 4,.int j m,.aJ],[.int j 5,.int j S.G.gate.2.1,.aJ]]]];refine⟨_,_,?_,Nj (id:=o aH.ids) (es:=[[.int j 4,.int j m,.aJ],[.int j 5,.int j S.G.gate.2.1,.aJ]]) ⟨_,_,rfl,A3 m,_,_,rfl,ahz S.G.gate.2.1,rfl⟩,eW.drop.drop.drop⟩;refine a4 iD rfl ?_;unfold im;simp only[ao,ar,av,ap,bY,vi,bN,ef,cB,aW,bD,ff,gC,i0,cN,iO,gY,be,d1,zC,b1,sY,lV,bR];rfl
   ·rw[if_neg aB]at sY;have iY:decide (i6=0)=U:=decide_eq_false aB;rw[if_pos aB];have b3:=bE.push [a3];have lV:=(b3.cell 0 rfl).1;have bR:=(b3.cell 1 rfl).1;refine⟨_,_,?_,fD,(b3.set 1 rfl [a3]).drop.drop.drop⟩;refine a4 iD rfl ?_;unfold im;simp only[ao,ar,av,ap,bY,vi,bN,ef,cB,aW,bD,ff,gC,i0,cN,iO,gY,be,d1,zC,b1,sY,lV,bR,iY];rfl
  ·rw[if_pos a5];have zC:decide (S.G.gate.2.2=0)=U:=decide_eq_false a5;refine⟨_,_,?_,fD,(bs.set 0 rfl [a3]).drop.drop⟩;refine a4 iD rfl ?_;unfold im;simp only[ao,ar,av,ap,bY,bN,ef,cB,aW,bD,ff,gC,i0,cN,iO,gY,be,d1,zC];rfl
 ·have gY:decide (a.kind=4)=U:=decide_eq_false aV;rw[if_pos aV];refine⟨_,_,?_,fD,aY.drop.drop⟩;refine a4 iD rfl ?_;unfold im;simp only[ao,ar,av,ap,bY,bN,ef,cB,aW,bD,ff,gC,i0,cN,iO,gY];rfl
end
abbrev IX:di:=95
abbrev Vw:di:=54
def Dk(f:di)(h:ai)(ah al:Nat->Prop)(c:iC)(e:Nat)(ms:dn)(a7:List (List ax))(aM:Nat)(a:List F)(q:bt×ax×Int):Prop:=∃E br,aU aq aa f a h=o (.inl (.bS [.agg br,.int j q.2.2]),E)/\bZ q.2.1 br/\gJ h ah al E (cm (ji c e ms q.1 a7 aM))
structure IY(ms:dn)(S:bt)(p:Int)(x:bC)(arg:ax)(names:List ax):Prop where
 azv:x.fault (hs ms p).length names.length=0
 arg:arg.code=0
 jg:∀v∈names,v.code=0
 len:names.length+S.left<=100000
 en:0<=p
 kj:p<4
def Dl(ms:dn)(c:iC)(e:Nat)(a7:List (List ax))(N:Nat):Prop:=∀(S:bt) (p:Int) (x:bC) (arg:ax) (names:List ax) (aM:Nat) (h:ai) (ah al:Nat->Prop) (r cX:List F) (aZ:F) (rows:List (List F)),S.left<=N->ku ms S->IY ms S p x arg names->aM<=20->hq x r->bZ arg cX->e9 bO aZ rows->dk names rows->(cm (ji c e ms S a7 aM)).A h ah al->Dk IX h ah al c e ms a7 aM [.ptr e 0 0,.int j p,.agg r,.agg cX,aZ] (dp ms N p x arg names aM S)
def ul(ms:dn)(N:Nat)(p f:Int)(arg:ax)(aM:Nat)(S:bt):bt×ax×Int:=if aM=20 then S.no 4 else dp ms N p (gK ms p f) arg [] (aM+1) S
section
variable{h E ak:ai}{ah al aO aL:Nat->Prop}{L:List cc}{c:iC}{ms:dn}{S:bt}{a7:List (List ax)}{e aM P N:Nat}
theorem Vx{b p:Nat}(q:gZ)(az:p<4):dY ag (o (4,1)) (.ptr b 0 3) (.int q (p:Int))=o (.ptr b 0 (3+p)):=by simp[dY,az]
theorem azw(aR:Dl ms c e a7 N)(e5:S.left<=N)(O:ku ms S)(gd:P<4){M:List bC}(kJ:ms[P]? =o (o M)){K:Nat}(eB:K<M.length)(k3:aM<=20)(am:S.left<=100000){arg:ax}(an:arg.code=0){cX:List F}(gh:bZ arg cX)(x:(cm (ji c e ms S a7 aM)).A h ah al):Dk Vw h ah al c e ms a7 aM [.ptr e 0 0,.int j (P:Int),.int j (K:Int),.agg cX] (ul ms N P K arg aM S):=by
 obtain⟨lk,rfl,gL⟩:=gh.i7;have aY:=sh x [.int j arg.kind,.int j arg.n,lk];have cB:=(aY.cell 2 rfl).1;have aW:=(aY.cell 1 rfl).1;have bD:=(aY.cell 0 rfl).1;unfold ul;by_cases nE:aM=20
 ·rw[if_pos nE];have d:decide ((aM:Int)=20)=J:=decide_eq_true (by omega);refine⟨_,_,?_,fD,aY.drop.drop⟩;refine a4 aj3 rfl ?_;unfold Va;simp only[ao,ar,av,ap,gL,cB,bD,d];rfl
 ·rw[if_neg nE];have d:decide ((aM:Int)=20)=U:=decide_eq_false (by omega);have cx:=ew (n:=(aM:Int)+1) (by omega) (by omega);have gn:=ew (n:=(aM:Int)+1 - 1) (by omega) (by omega);have w2:hs ms (P:Int)=M:=by simp[hs,cZ,kJ]
  have aF:gK ms (P:Int) (K:Int)=M[K]:=by simp[gK,w2,cZ,eB]
  have bs:=aY.set 2 rfl [[.ptr c.ad 0 0,.int j (S.left:Int),.int j ((aM:Int)+1)]];obtain⟨si,dP,o7,f,ab⟩:=mz bs 3 rfl O.d' O.st.kept;obtain⟨q,v,es,cO,c8,hK,d',sZ⟩:=f.mod P M kJ;obtain⟨vw,cb,dF⟩:=sZ.get (i:=K) (x:=M[K]) (fT eB);have mU:=f.mU (n:=1) cO;have azx:∀q:gZ,dY (o gp) ag v (.int q (K:Int))=o (.ip vw 0):=λq=>d'.dH.bJ q K vw cb;have vG:=gA dF.one.2;have vJ:cR U 1 (((h.push [[.int j arg.kind,.int j arg.n,lk]]).push [a3]).set e (o [[.ptr c.ad 0 0,.int j (S.left:Int),.int j ((aM:Int)+1)]])) (.ptr q 0 0)=o v:=by rw[gb,c8];rfl
  have iy:=(bs.cell 2 rfl).1;have cg:=(bs.cell 1 rfl).1;have f3:cd 3 (.ptr c.ad 0 0)=o (.ptr c.ad 0 3):=rfl;have bJ:=λq=>Vx (b:=c.ad) q gd;have fit:IY ms S P M[K] arg []:=⟨by rw[<-aF,w2];rw[<-w2];exact Ny O.g (by rw[w2];simpa using eB),an,by simp,by simpa using am,by omega,by omega⟩;obtain⟨aH,⟨br,b1,dL⟩,bE⟩:=bs.wX (A:=[a1 (h.n+1) [a3],a1 h.n [[.int j arg.kind,.int j arg.n,lk]]]) (M:=ji c e ms S a7 (aM+1)) (B:=[]) (cJ:=λaH=>∃br,aU aq aa IX [.ptr e 0 0,.int j (P:Int),.agg vw,.agg [.int j arg.kind,.int j arg.n,lk],.aJ] (((h.push [[.int j arg.kind,.int j arg.n,lk]]).push [a3]).set e (o [[.ptr c.ad 0 0,.int j (S.left:Int),.int j ((aM:Int)+1)]]))=o (.inl (.bS [.agg br,.int j (dp ms N P M[K] arg [] (aM+1) S).2.2]),aH)/\bZ (dp ms N P M[K] arg [] (aM+1) S).2.1 br) (rh:=ji c e ms (dp ms N P M[K] arg [] (aM+1) S).1 a7 (aM+1)) λah al y=>by obtain⟨aH,br,aP,a2,bl⟩:=aR S P M[K] arg [] (aM+1) _ ah al vw _ .aJ [] e5 O fit (by omega) dF gh (.inl ⟨rfl,rfl⟩) rfl y;exact⟨aH,⟨br,aP,a2⟩,bl⟩
  rw[aF];have tf:=pc ms N P M[K] arg [] (aM+1) S O.st an (by simp);generalize dp ms N P M[K] arg [] (aM+1) S=Q at*;obtain⟨b0,a',ee⟩:=Q;simp only at b1 dL bE tf ⊢;have bE:aN h ah al aH (a1 (h.n+1) [a3]::a1 h.n [[.int j arg.kind,.int j arg.n,lk]]::ji c e ms b0 a7 (aM+1)):=bE;have b3:=bE.push [br];have t5:=bE.push [a3];have qx:=(t5.cell 3 rfl).1;have fd:=(t5.cell 2 rfl).1;rw[show(((aM+1:Nat):Int))=(aM:Int)+1 by omega]at qx;obtain⟨aEa,aEb,aEc,f5,akQ⟩:=mz t5 4 rfl O.d' tf.1.cY.kept;obtain⟨fk,azy,gS,Ob,azz,_⟩:=f5.mod P M kJ;obtain⟨rfl,rfl⟩:q=fk/\v=azy:=by rw[cO]at Ob;simp only[iF,kW,F.ptr.injEq,and_true]at Ob;exact Ob
  have azA:=f5.mU (n:=1) Ob;have azB:cR U 1 (aH.push [a3]) (.ptr q 0 0)=o v:=by rw[gb,azz];rfl
  have sE:=(b3.cell 3 rfl).1;have cS:=(b3.cell 2 rfl).1;have cf:=(b3.cell 1 rfl).1;have c2:=b3.set 3 rfl [[.ptr c.ad 0 0,.int j (b0.left:Int),.int j (aM:Int)]];have eW:=c2.set 1 rfl [br];have h5:=(c2.cell 0 rfl).1;have cF:=(c2.cell 1 rfl).1;have cA:=(eW.cell 1 rfl).1;have azC:=dL.cV;refine⟨_,_,?_,dL,eW.drop.drop.drop⟩;have iz:kw j ((aM:Int)+1 - 1)=(aM:Int):=by rw[gn];omega
  have j6:(((aM+1:Nat):Int))=(aM:Int)+1:=by omega
  rw[j6]at sE;refine a4 aj3 rfl ?_;unfold Va;simp only[ao,ar,av,ap,bN,gL,cB,bD,d,cx,mU,azx,vG,vJ,cg,f3,bJ,b1,azA,azB,sE,iz,h5,cF,azC,qx,fd]
theorem ku.azD(O:ku ms S){b7:aI}(hw:b7.dg):ku ms {S with G:=b7}:=⟨O.d',O.g,O.st.with hw,O.bh⟩
theorem ku.of(O:ku ms S){b0:bt}(g:b0.Good)(hm:b0.bh<=S.bh):ku ms b0:=⟨O.d',O.g,g,e6 hm O.bh⟩
variable{k n:Int}{dt bn:F}{rows:List (List F)}{a b:ax}
theorem Vy{A:List cc}{H:ai}(s:aN ak aO aL H (A++ji c e ms S a7 aM))(aR:Dl ms c e a7 N)(e5:S.left<=N)(O:ku ms S)(gd:P<4){M:List bC}(kJ:ms[P]? =o (o M)){K:Nat}(eB:K<M.length)(k3:aM<=20)(am:S.left<=100000){arg:ax}(an:arg.code=0){cX:List F}(gh:bZ arg cX):∃E br,aU aq aa Vw [.ptr e 0 0,.int j (P:Int),.int j (K:Int),.agg cX] H=o (.inl (.bS [.agg br,.int j (ul ms N P K arg aM S).2.2]),E)/\bZ (ul ms N P K arg aM S).2.1 br/\aN ak aO aL E (A++ji c e ms (ul ms N P K arg aM S).1 a7 aM):=by
 have ek:aN ak aO aL H (A++ji c e ms S a7 aM++[]):=by rw[ou];exact s
 obtain⟨aH,⟨br,b1,dL⟩,bE⟩:=ek.wX (cJ:=λaH=>∃br,aU aq aa Vw [.ptr e 0 0,.int j (P:Int),.int j (K:Int),.agg cX] H=o (.inl (.bS [.agg br,.int j (ul ms N P K arg aM S).2.2]),aH)/\bZ (ul ms N P K arg aM S).2.1 br) (rh:=ji c e ms (ul ms N P K arg aM S).1 a7 aM) λah al y=>by obtain⟨aH,br,aP,a2,bl⟩:=azw aR e5 O gd kJ eB k3 am an gh y;exact⟨aH,⟨br,aP,a2⟩,bl⟩
 rw[ou]at bE;exact⟨aH,br,b1,dL,bE⟩
theorem azE(x:(cm (ji c e ms S a7 aM)).A h ah al)(O:ku ms S)(ef:dt.one=J)(am:gB bO bn rows)(Z:dk [a] rows)(aR:Dl ms c e a7 N)(e5:S.left<=N)(gd:P<4){M:List bC}(kJ:ms[P]? =o (o M)){K:Nat}(eB:K<M.length)(k3:aM<=20)(hle:S.left<=100000)(an:a.code=0):Dk Fy h ah al c e ms a7 aM [.ptr e 0 0,.int j (P:Int),.agg (fE 18 (K:Int) n dt),bn] (ul ms N P K a aM S):=by obtain⟨cX,rfl,i0,gh⟩:=yj am Z;obtain⟨lk,rfl,gL⟩:=gh.i7;have aY:=sh x (fE 18 (K:Int) n dt);obtain⟨si,dP,uk,f,ab⟩:=mz aY 3 rfl O.d' O.st.kept;have ff:=f.oS (n:=1);have cB:=(aY.cell 2 rfl).1;have aW:=(aY.cell 1 rfl).1;have bD:=(aY.cell 0 rfl).1;have gC:cd 0 (.ptr c.ad 0 0)=o (.ptr c.ad 0 0):=rfl;obtain⟨aj,gE,be,eY,bs⟩:=Vy (A:=[a1 (h.n+1) [a3],a1 h.n [fE 18 (K:Int) n dt]]) aY aR e5 O gd kJ eB k3 hle an gh;have d1:=(bs.cell 0 rfl).1;have et:=eY.cV;generalize ul ms N P K a aM S=Q at*;have bE:=bs.set 0 rfl [gE];refine⟨_,_,?_,eY,bE.drop.drop⟩;refine a4 iD rfl ?_;unfold im;simp only[ao,ar,av,ap,bY,bN,ef,cB,aW,bD,ff,gC,i0,cN,iO,be,d1,et]
def Bi(ms:dn)(N:Nat)(a b:ax)(aM:Nat)(S:bt):bt×ax×Int:=match hH ms a b aM S with
 |(lB,q,c)=>if c≠0 then lB.no c else match dp ms N q.bu (gK ms q.bu q.func) q.arg [] (aM+1) lB with
   |(na,v,c)=>if c≠0 then na.no c else lQ q.eU v na
theorem azF{aQ:List Int}{v:ax}:lQ aQ v S=({S with G:=(fg aQ S.G v).1},(fg aQ S.G v).2.1,(fg aQ S.G v).2.2):=by
 have aB:=asO (aQ:=aQ) (x:=v) (G:=S.G);unfold lQ;generalize fg aQ S.G v=q at aB ⊢;obtain⟨b7,y,k⟩:=q;simp only at aB ⊢;by_cases ab:k=0
 ·rw[if_neg (λh=>h ab),ab];rfl
 ·rw[if_pos ab,aB ab];rfl
theorem akT{H:ai}{i:Nat}(s:aN ak aO aL H L)(af:L[i]? =o (gU c.il G))(hw:G.dg){cT:F}{aQ:List Int}(a5:gB 3 cT (eI aQ))(ab:aQ.length<=1000000){x:ax}{r:List F}(aF:bZ x r):∃E br,aU aq aa 140 [.ptr c.il 0 0,.agg r,cT] H=o (.inl (.bS [.agg br,.int j (fg aQ G x).2.2]),E)/\bZ (fg aQ G x).2.1 br/\aN ak aO aL E (L.set i (gU c.il (fg aQ G x).1)):=by obtain⟨E,⟨br,aw,ay⟩,ek⟩:=s.call (cJ:=λE=>∃br,aU aq aa 140 [.ptr c.il 0 0,.agg r,cT] H=o (.inl (.bS [.agg br,.int j (fg aQ G x).2.2]),E)/\bZ (fg aQ G x).2.1 br) i af (Y:=gU c.il (fg aQ G x).1) λah al g=>auY a5 ab g hw aF;exact⟨E,br,aw,ay,ek⟩
end
end Go.Proofs.YtkdbjfncchmmpaaGreat
