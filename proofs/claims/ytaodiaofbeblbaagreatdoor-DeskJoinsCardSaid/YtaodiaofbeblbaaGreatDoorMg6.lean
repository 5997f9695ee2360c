/- A function comes back. -/
import Derived.Test.YtaodiaofbeblbaaGreatDoorMg5
import Derived.Lib.ParseIntBTie
import Derived.Lib.Join
set_option linter.unusedSimpArgs false
set_option linter.unusedVariables false
set_option maxHeartbeats 4000000
set_option maxRecDepth 1000000
open List renaming replicate→ar,length_append→dy,length_cons→dw,getElem?_eq_some_iff→fR,getElem?_eq_getElem→gd,length_singleton→fS,length_nil→ey,getD→dm,length_map→gG,getElem_mem→hf,map_cons→gP,mem_cons→gW,all_eq_true→iC,append_assoc→jA,getElem?_eq_none→lN,cons_append→kq,nil_append→j6,length_eq_zero_iff→mF,getElem?_append_left→ph,append_nil→me,mem_map→lR,mem_cons_of_mem→qk,getElem?_cons_zero→qT,mem_of_getElem?→qV,mem_append→pq,contains_eq_mem→rJ,take_succ_cons→rU,map_append→rR,getD_cons_zero→uO,mem_cons_self→uq,drop_succ_cons→vR,getElem?_set→wi
open Option renaming some→j,none→Z,map_eq_some_iff→dl,bind_some→da,map_some→g3,getD_some→ns,isSome_iff_exists→w0
open Nat renaming reduceAdd→aw,reduceSub→aA,reduceLeDiff→ct,le_refl→bS,zero_add→gH,zero_le→hK,lt_or_ge→oI,lt_succ_self→q6,le_of_eq→p3
open Go.IntKind renaming i64→o,wrap→hq
open Go.Proofs.Tryz renaming prog→ak
open Bool renaming false→R,true→Q,and_eq_true→h8,false_eq_true→nx,and_true→s3
open Go renaming TypeId→aU,Value→bH,Oper→bb,FuncId→cH,World→cd,Frame→eO,Code→ef,lone→ew,IntKind→kf
open Option.some renaming inj→tR
open Int renaming reduceEq→eZ,natCast_zero→mn,toNat_natCast→rV
open SizeOf renaming sizeOf→mV
open BitVec renaming ofInt→nS
open Ne renaming symm→lo
open Iff renaming rfl→mN
open Go.Act renaming put→px
namespace Go.Proofs.YtaodiaofbeblbaaGreatDoor
open Go
variable{b4:fl}{X:b2}{op:Int}{t:ce}{es:List (List I)}{D:Nat}
def oy(c:hU)(L:List b2)(i bh:Nat)(S:bG):List b2:=(put c L i ⟨bh,S,[],⟨0,0,0,cp,[],[],R,[]⟩⟩).set i (Bm c.bp c.aG bh (S.left:Int))
theorem atP{c:hU}{L:List b2}{i:Nat}{n:fl}(cG:n.S=b4.S):(put c L i n).set i X=(put c L i b4).set i X:=by
 refine Bo λD=>?_;rw[wi,wi,Lf,Lf,ts,ts,cG];by_cases aa:i=D
 ·rw[if_pos aa,if_pos aa]
 ·rw[if_neg aa,if_neg aa,if_neg (show ¬D=i from lo aa),if_neg (show ¬D=i from lo aa)]
theorem aeM{c:hU}{L:List b2}{i bh:Nat}{n:fl}:(put c L i n).set i (Bm c.bp c.aG bh (n.S.left:Int))=oy c L i bh n.S:=atP rfl
def xZ(am:ad)(aL aF:Nat->Prop)(c:hU)(L:List b2)(i:Nat)(q:p2)(a8:I⊕I)(E:ad):Prop:=match q with
 |.go m=>∃r,a8= .inl (.bx [.agg r,.bool R])/\(r.length=3/\r.all I.one=Q)/\∃gV,aQ am aL aF E (put c L i ⟨gV,m.S,m.below,m.top⟩)
 |.fail S k=>a8= .inr (.iface lZ (.int o k))/\∃b4:fl,b4.S=S/\aQ am aL aF E (put c L i b4)
 |.over S v=>∃r,a8= .inl (.bx [.agg r,.bool Q])/\ck v r/\∃gV,aQ am aL aF E (oy c L i gV S)
abbrev atQ:cH:=146
section
variable{h E am:ad}{ah ao aL aF:Nat->Prop}{L:List b2}{c:hU}{i:Nat}{n:fl}
theorem atS{α:Type}(l:List α):l=[]\/∃a t,l=a++[t]:=by
 rcases Nat.eq_zero_or_pos l.length with h|h
 ·exact .inl (mF.1 h)
 ·obtain⟨a,t,e⟩:=pd (l:=l) h;exact .inr ⟨a,t,e⟩
theorem aeN{e7:ad}{DY:List b2}{wv:Nat}{lc:fl}(s:aQ am aL aF e7 DY)(a:eK c DY wv lc)(ag:lc.below.length<=100)(aO:∀t,lc.below.getLast? =j t->t.stack.length<=100000){v:ay}{r:List I}(U:ck v r):(∀k:Nat,cO R k e7 (.ptr c.bp 0 1)=j (.br lc.bh 0 (lc.below.length+1) fk))/\((lc.below=[]/\∃F,eN 1 e7 (.ptr c.bp 0 1) (.br lc.bh 0 lc.below.length fk)=j F/\(∀k:Nat,cO R k F (.ptr c.bp 0 1)=j (.br lc.bh 0 lc.below.length fk))/\aQ am aL aF F (DY.set wv (Bm c.bp c.aG lc.bh (lc.S.left:Int))))\/(∃mu t,lc.below=mu++[t]/\∃F J,eN 1 e7 (.ptr c.bp 0 1) (.br lc.bh 0 lc.below.length fk)=j F/\(∀k:Nat,cO R k F (.ptr c.bp 0 1)=j (.br lc.bh 0 lc.below.length fk))/\aQ am aL aF F (put c DY wv ⟨lc.bh,lc.S,mu,t⟩)/\aM ak T om [.ptr c.bp 0 0,.agg r] F=j (.inl (.bx []),J)/\aQ am aL aF J (put c DY wv ⟨lc.bh,lc.S,mu,{t with stack:=t.stack++[v]}⟩))):=by
 obtain⟨_,_,_,_,a'⟩:=pa s wv a.m;refine⟨λk=>by rw[gm,a'.m];rfl,?_⟩;rcases atS lc.below with aq|⟨mu,t,aq⟩
 ·refine .inl ⟨aq,?_⟩;have DZ:=a.m;rw[aq]at DZ ⊢;obtain⟨F,av,aY⟩:=arN s wv DZ;refine⟨F,av,λk=>?_,aY⟩;have ai:wv<DY.length:=(fR.1 DZ).1;have al:=(aY.cell wv (by rw[List.getElem?_set_self ai];rfl)).1;rw[gm,al];rfl
 ·refine .inr ⟨mu,t,aq,?_⟩;have DZ:=a.m;rw[aq]at DZ;obtain⟨F,av,aY⟩:=arL s wv DZ;rw[a.wj]at aY;have aP:=a.put ⟨lc.bh,lc.S,mu,t⟩;obtain⟨_,_,_,_,Rx⟩:=pa aY wv aP.m;have hlen:lc.below.length=mu.length+1:=by rw[aq];simp
  obtain⟨J,ax,bf⟩:=pb aY aP (by simp only;omega) (aO t (by rw[aq];simp)) U;rw[hn]at bf;exact⟨F,J,by rw[hlen];exact av,λk=>by rw[gm,Rx.m,hlen];rfl,aY,ax,bf⟩
theorem aeO{ec:List Int}{v:ay}{S:bG}:l7 ec v S=if(hJ ec S.G v).2.2≠0 then({S with G:=(hJ ec S.G v).1}:bG).no (hJ ec S.G v).2.2 else({S with G:=(hJ ec S.G v).1}:bG).ok (hJ ec S.G v).2.1:=rfl
theorem R'{st:List ay}{v:ay}(bJ:n.top.stack=st++[v]):cm.back n.m=(if(if n.top.asked then l7 n.top.ec v n.S else n.S.ok v).2.2≠0 then .fail (if n.top.asked then l7 n.top.ec v n.S else n.S.ok v).1 (if n.top.asked then l7 n.top.ec v n.S else n.S.ok v).2.2 else match n.below.getLast? with
  |none=>.over (if n.top.asked then l7 n.top.ec v n.S else n.S.ok v).1 (if n.top.asked then l7 n.top.ec v n.S else n.S.ok v).2.1
  |some t=>.go ⟨(if n.top.asked then l7 n.top.ec v n.S else n.S.ok v).1,{t with stack:=t.stack++[(if n.top.asked then l7 n.top.ec v n.S else n.S.ok v).2.1]},n.below.dropLast⟩):=by
 unfold cm.back;simp only[bJ,wq,uO];rfl
theorem atT(s:aQ am aL aF h L)(a:eK c L i n)(O:hI c n){st:List ay}{v:ay}(bJ:n.top.stack=st++[v])(Ws:n.top.ec.length<=80)(lY:∀aZ,cm.back n.m= .go aZ->aZ.top.stack.length<=100000):∃a8 E,aM ak T atQ [.ptr c.bp 0 0] h=j (a8,E)/\xZ am aL aF c L i (cm.back n.m) a8 E:=by
 have Je:n.top.asked=R->∀t,n.below.getLast? =j t->t.stack.length<=100000:=λab t aO=>by rw[R' bJ,ab]at lY;simp only[nx,if_false]at lY;rw[if_neg (by simp[bG.ok]),aO]at lY;have:=lY _ rfl;simp at this;omega
 have C9:n.top.asked=Q->(hJ n.top.ec n.S.G v).2.2=0->∀t,n.below.getLast? =j t->t.stack.length<=100000:=λab al t aO=>by
  have ag:(l7 n.top.ec v n.S).2.2=0:=by rw[aeO,if_neg (λe=>e al)];rfl
  rw[R' bJ,ab]at lY;simp only[if_true]at lY;rw[if_neg (λe=>e ag),aO]at lY;have:=lY _ rfl;simp at this;omega
 clear lY;rw[R' bJ];have eR:=s.push [bB];have a0:=a.cons (bm h.n [bB]);obtain⟨J,r,ax,U,bf,a2⟩:=tt eR a0 O bJ;have dj:=O.ri bJ;rw[eg]at bf a2;obtain⟨bO,bC⟩:=U.dx;have bP:=bf.push [r];have a3:=a2.cons (bm J.n [r]);obtain⟨cZ,_⟩:=ni bP a3 O.below;obtain⟨hH,ea,aI,g,a'⟩:=pa bP (i+1+1) a3.m;have Hn:=a'.all;have lY:g.one=Q:=by have:=a'.a7;rcases this with⟨_,rfl⟩|⟨id,rfl⟩<;>rfl
 have atU:fH 3 g (gn n.top.ec):=a'.a7;have hT:=oq (n.cV st).top hH ea aI g a'.aN.dx.1;have Bz:=KP (f:=(n.cV st).top) (g:=g) a'.aN.dx a'.ea.1 a'.aI.1 lY;generalize gu (n.cV st).top hH ea aI g=row at*;have cj:aQ am aL aF _ (bm (J.n+1) [row]::bm J.n [r]::bm h.n [bB]::put c L i (n.cV st)):=bP.push [row];have a4:=a3.cons (bm (J.n+1) [row]);have a6:=(cj.cell 0 rfl).1;have c2:=(cj.cell 1 rfl).1;have BA:hq o (((n.below.length+1:Nat):Int) - 1)=(n.below.length:Int):=oj (by omega) (by have:=O.below;omega) (by have:=O.below;omega);have fB:=Q0 (e:=fk) (b:=n.bh) (n:=n.below.length+1) (m:=n.below.length) (by omega);have Ho:b9 1 (.ptr c.bp 0 0)=j (.ptr c.bp 0 1):=rfl;have h0:row[8]? =j (.bool n.top.asked):=hT.2.2.2.2.1;have Sa:row[9]? =j g:=hT.2.2.2.1;have nj:row.length=10:=hT.2.1;clear hT;cases LB:n.top.asked with
 |false=>
   rw[LB]at h0;simp only[nx,if_false,bG.ok];rw[if_neg (by simp)];obtain⟨ja,pA⟩:=aeN cj a4 O.below (Je LB) U;rcases pA with⟨n5,F,eX,jN,cT⟩|⟨mu,t,n3,F,bw,eX,jN,cT,jG,eo⟩
   ·have n5:n.below=[]:=n5;rw[n5];have qt:aQ am aL aF F (bm (J.n+1) [row]::bm J.n [r]::bm h.n [bB]::(put c L i (n.cV st)).set i (Bm c.bp c.aG n.bh (n.S.left:Int))):=cT;have d1:=(qt.cell 1 rfl).1;have d2:=(qt.cell 2 rfl).1;have eo:=qt.set 2 rfl [r];have d3:=(eo.cell 2 rfl).1;refine⟨.inl (.bx [.agg r,.bool Q]),_,?_,r,rfl,U,n.bh,by have:=eo.drop.drop.drop;rw[<-aeM (n:=n.cV st)];exact this⟩;have iz:decide ((n.below.length:Int)=0)=Q:=decide_eq_true (by rw[n5];rfl);refine bd Gm rfl ?_;unfold DD;simp only[ap,aw,aA,ar,cx,ax,bO,bC,cZ,Hn,nj,Bz,a6,h0,Ho,ja,BA,fB,eX,jN,iz,d1,d2]
   ·have n3:n.below=mu++[t]:=n3;have hlen:n.below.length=mu.length+1:=by rw[n3];simp
    have Fk:n.below.getLast? =j t:=by rw[n3];simp
    have Sb:n.below.dropLast=mu:=by rw[n3];simp
    rw[Fk,Sb];have qt:aQ am aL aF F (bm (J.n+1) [row]::bm J.n [r]::bm h.n [bB]::put c (put c L i (n.cV st)) i ⟨n.bh,n.S,mu,t⟩):=cT;have Sc:aQ am aL aF bw (bm (J.n+1) [row]::bm J.n [r]::bm h.n [bB]::put c (put c L i (n.cV st)) i ⟨n.bh,n.S,mu,{t with stack:=t.stack++[v]}⟩):=eo;have d1:=(qt.cell 1 rfl).1;have d2:=(Sc.cell 1 rfl).1;have d3:=(Sc.cell 2 rfl).1;have jb:=Sc.set 2 rfl [r];have d4:=(jb.cell 2 rfl).1;refine⟨.inl (.bx [.agg r,.bool R]),_,?_,r,rfl,U.dx,n.bh,by have:=jb.drop.drop.drop;rw[hn]at this;exact this⟩;have iz:decide ((n.below.length:Int)=0)=R:=decide_eq_false (by rw[hlen];omega);refine bd Gm rfl ?_;unfold DD;simp only[ap,aw,aA,ar,cx,ax,bO,bC,cZ,Hn,nj,Bz,a6,h0,Ho,ja,BA,fB,eX,jN,iz,d1,jG,d2,d3]
 |true=>
   rw[LB]at h0;simp only[if_true];have K4:=C9 LB;clear Je C9;rw[aeO];obtain⟨gL,b5,_⟩:=qs cj a4 O.len;have f0:b9 0 (.ptr c.bp 0 0)=j (.ptr c.bp 0 0):=rfl;have f1:b9 0 (.ptr c.aG 0 0)=j (.ptr c.aG 0 0):=rfl;obtain⟨bw,⟨y,eX,bq⟩,cT⟩:=G4 cj a4 (cn:=λE=>∃bZ,aM ak T 148 [.ptr c.cl 0 0,.agg r,g] ((J.push [r]).push [row])=j (.inl (.bx [.agg bZ,.int o (hJ n.top.ec n.S.G v).2.2]),E)/\ck (hJ n.top.ec n.S.G v).2.1 bZ) λah ao zj=>aeg zj O.S.wf U atU (by omega);generalize hJ n.top.ec n.S.G v=q at*;obtain⟨ei,bg,kF⟩:=q;simp only at eX bq cT ⊢;rw[eg,eg,eg,hn]at cT;obtain⟨cJ,z2⟩:=bq.dx;have a5:=(((a.put {(n.cV st)with S:={n.S with G:=ei}}).cons (bm h.n [bB])).cons (bm J.n [r])).cons (bm (J.n+1) [row]);have eo:=cT.push [bB];have iI:=a5.cons (bm bw.n [bB]);obtain⟨gv,ep,_⟩:=qs eo iI O.len;have d0:=(eo.cell 1 rfl).1;have d1:=(eo.cell 2 rfl).1;have jb:=cT.push [y];have Dt:=a5.cons (bm bw.n [y]);have d2:=(jb.cell 0 rfl).1;have d3:=(jb.cell 2 rfl).1;by_cases vy:kF=0
   ·subst vy;rw[if_neg (λh=>h rfl)];simp only[bG.ok];rw[if_neg (by simp)];have d5:decide ((0:Int)=0)=Q:=rfl;have la:aQ am aL aF _ (bm bw.n [y]::bm (J.n+1) [row]::bm J.n [y]::bm h.n [bB]::put c L i {(n.cV st)with S:={n.S with G:=ei}}):=jb.set 2 rfl [y];have F4:=(((a.put {(n.cV st)with S:={n.S with G:=ei}}).cons (bm h.n [bB])).cons (bm J.n [y])).cons (bm (J.n+1) [row]) |>.cons (bm bw.n [y]);obtain⟨ja,pA⟩:=aeN la F4 O.below (K4 rfl) bq;rcases pA with⟨n5,F,uM,Sd,kc⟩|⟨mu,t,n3,F,nt,uM,Sd,kc,Lu,x0⟩
    ·have n5:n.below=[]:=n5;rw[n5];have Hp:aQ am aL aF F (bm bw.n [y]::bm (J.n+1) [row]::bm J.n [y]::bm h.n [bB]::(put c L i {(n.cV st)with S:={n.S with G:=ei}}).set i (Bm c.bp c.aG n.bh (n.S.left:Int))):=kc;have g1:=(Hp.cell 2 rfl).1;have cK:=(Hp.cell 3 rfl).1;have tv:=Hp.set 3 rfl [y];have et:=(tv.cell 3 rfl).1;refine⟨.inl (.bx [.agg y,.bool Q]),_,?_,y,rfl,bq,n.bh,by have:=tv.drop.drop.drop.drop;rw[<-aeM (n:={(n.cV st)with S:={n.S with G:=ei}})];exact this⟩;have iz:decide ((n.below.length:Int)=0)=Q:=decide_eq_true (by rw[n5];rfl);refine bd Gm rfl ?_;unfold DD;simp only[ap,aw,aA,ar,cx,ax,bO,bC,cZ,Hn,nj,Bz,a6,c2,h0,Sa,Ho,f0,f1,gL,b5,eX,gv,ep,d0,d1,d2,d3,ov,cJ,z2,ja,BA,fB,uM,Sd,iz,g1,cK]
    ·have n3:n.below=mu++[t]:=n3;have hlen:n.below.length=mu.length+1:=by rw[n3];simp
     have Fk:n.below.getLast? =j t:=by rw[n3];simp
     have Sb:n.below.dropLast=mu:=by rw[n3];simp
     rw[Fk,Sb];have Hp:aQ am aL aF F (bm bw.n [y]::bm (J.n+1) [row]::bm J.n [y]::bm h.n [bB]::put c (put c L i {(n.cV st)with S:={n.S with G:=ei}}) i ⟨n.bh,{n.S with G:=ei},mu,t⟩):=kc;have Se:aQ am aL aF nt (bm bw.n [y]::bm (J.n+1) [row]::bm J.n [y]::bm h.n [bB]::put c (put c L i {(n.cV st)with S:={n.S with G:=ei}}) i ⟨n.bh,{n.S with G:=ei},mu,{t with stack:=t.stack++[bg]}⟩):=x0;have g1:=(Hp.cell 2 rfl).1;have cK:=(Se.cell 2 rfl).1;have et:=(Se.cell 3 rfl).1;have tv:=Se.set 3 rfl [y];have lO:=(tv.cell 3 rfl).1;refine⟨.inl (.bx [.agg y,.bool R]),_,?_,y,rfl,bq.dx,n.bh,by have:=tv.drop.drop.drop.drop;rw[hn]at this;exact this⟩;have iz:decide ((n.below.length:Int)=0)=R:=decide_eq_false (by rw[hlen];omega);refine bd Gm rfl ?_;unfold DD;simp only[ap,aw,aA,ar,cx,ax,bO,bC,cZ,Hn,nj,Bz,a6,c2,h0,Sa,Ho,f0,f1,gL,b5,eX,gv,ep,d0,d1,d2,d3,ov,cJ,z2,ja,BA,fB,uM,Sd,iz,g1,Lu,cK,et]
   ·rw[if_pos vy,if_pos (show((({n.S with G:=ei}:bG).no kF).2.2≠0) from vy)];simp only[bG.no];have d5:decide (kF=0)=R:=decide_eq_false vy;refine⟨_,_,?_,rfl,{(n.cV st)with S:={n.S with G:=ei}},rfl,jb.drop.drop.drop.drop⟩;refine bd Gm rfl ?_;unfold DD;simp only[ap,aw,aA,ar,cx,ax,bO,bC,cZ,Hn,nj,Bz,a6,c2,h0,Sa,Ho,f0,f1,gL,b5,eX,gv,ep,d0,d1,d5,pK,cJ,z2]
end
abbrev Sf:aU:=222
abbrev LC:aU:=239
abbrev zp:cH:=138
abbrev Sg:List I:=[.int o 0,.int o 0,.int o 0]
theorem atV{ms:dQ}{p f:Int}{L:List bk}{ah:Nat}(df:ms.getD p.toNat Z=j L)(bn:f=(ah:Int)):kV ms p f=cB (L.getD ah jB) 0++[⟨105,0,0⟩]:=by unfold kV gs iN;rw[df,bn];rfl
theorem atW{L:List bk}{ah bo:Nat}{x:cY}(bn:ah<L.length)(an:(cB (L.getD ah jB) 0++[(⟨105,0,0⟩:cY)])[bo]? =j x):∃row bV,(∀q,fg (j Sf) Z (lB L) (.int q (ah:Int))=j (.ip row 0))/\(∀k,gX R k row 0=j bV)/\(∀q,fg (j LC) Z bV (.int q (bo:Int))=j (.ip (fL x) 0))/\gX Q 3 (fL x) 0=j (.agg (fL x)):=by
 have av:L[ah]? =j L[ah]:=gd bn;have ax:L.getD ah jB=L[ah]:=by simp[dm,bn]
 rw[ax]at an;refine⟨[.bN Z LC ((cB L[ah] 0++[(⟨105,0,0⟩:cY)]).map fL)],.bN Z LC ((cB L[ah] 0++[(⟨105,0,0⟩:cY)]).map fL),λq=>?_,λk=>?_,λq=>?_,jP rfl⟩
 ·exact yU (q:=q) rfl (by rw[List.getElem?_map,av];rfl)
 ·rw[qi];rfl
 ·exact yU (q:=q) rfl (by rw[List.getElem?_map,an];rfl)
structure Sh(bz:ad)(c:hU)(n:fl)(P ah:Nat)(L:List bk):Prop where
 m:∀k:Nat,cO R k bz (.ptr c.bp 0 0)=j (.ptr c.aG 0 0)
 p:∀k:Nat,cO R k bz (.ptr n.bh n.below.length 0)=j (.int o (P:Int))
 fd:∀k:Nat,cO R k bz (.ptr c.aG 0 (2+P*5+1))=j (lB L)
 f:∀k:Nat,cO R k bz (.ptr n.bh n.below.length 1)=j (.int o (ah:Int))
 bo:∀k:Nat,cO R k bz (.ptr n.bh n.below.length 2)=j (.int o (n.top.bo:Int))
 bR:∀q:kf,fg Z (j (4,5)) (.ptr c.aG 0 2) (.int q (P:Int))=j (.ptr c.aG 0 (2+P*5))
section
variable{h E am:ad}{ah ao aL aF:Nat->Prop}{L:List b2}{c:hU}{i:Nat}{n:fl}
theorem Si(s:aQ am aL aF h L)(a:eK c L i n)(O:hI c n){P K:Nat}{l1:List bk}(eJ:n.top.bD=(P:Int))(cW:n.top.f=(K:Int))(pc:P<4)(df:c.ms.getD P Z=j l1):Sh h c n P K l1:=by obtain⟨gL,_,_⟩:=qs s a O.len;obtain⟨hH,ea,aI,g,a'⟩:=pa s i a.m;have hT:=oq n.top hH ea aI g a'.aN.dx.1;obtain⟨bR,fd,_⟩:=Lr s a O pc;rw[df]at fd;exact⟨gL,λk=>by rw[<-eJ];exact a'.rd k 0 _ hT.2.2.2.2.2.1,fd,λk=>by rw[<-cW];exact a'.rd k 1 _ hT.2.2.2.2.2.2.1,λk=>a'.rd k 2 _ hT.2.2.2.2.2.2.2,bR⟩
abbrev fl.at(n:fl)(k:Nat):fl:={n with top:={n.top with bo:=k}}
structure aeP(am:ad)(aL aF:Nat->Prop)(h af:ad)(c:hU)(L:List b2)(i:Nat)(n:fl)(P K:Nat)(l1:List bk)(x:cY):Prop where
 s:aQ am aL aF af (bm (h.n+1) [fL x]::bm h.n [bB]::put c L i (n.at (n.top.bo+1)))
 a:eK c (bm (h.n+1) [fL x]::bm h.n [bB]::put c L i (n.at (n.top.bo+1))) (i+1+1) (n.at (n.top.bo+1))
 O:hI c (n.at (n.top.bo+1))
 cZ:aM ak T Ku [.ptr c.bp 0 0] (h.push [bB])=j (.inl (.ptr n.bh n.below.length 0),h.push [bB])
 av:Sh (h.push [bB]) c n P K l1
 ax:Sh ((h.push [bB]).push [Sg]) c n P K l1
 bs:∀k:Nat,cO R k ((h.push [bB]).push [fL x]) (.ptr n.bh n.below.length 2)=j (.int o (n.top.bo:Int))
 w:hq o ((n.top.bo:Int)+1)=((n.top.bo+1:Nat):Int)
 st:eN 1 ((h.push [bB]).push [fL x]) (.ptr n.bh n.below.length 2) (.int o ((n.top.bo+1:Nat):Int))=j af
 oz:af.cell (h.n+1)=j [fL x]
theorem atX(s:aQ am aL aF h L)(a:eK c L i n)(O:hI c n)(hm:wQ c.ms){P K:Nat}{l1:List bk}(eJ:n.top.bD=(P:Int))(cW:n.top.f=(K:Int))(pc:P<4)(df:c.ms.getD P Z=j l1)(LD:n.top.bo<(kV c.ms n.top.bD n.top.f).length)(x:cY):∃af,aeP am aL aF h af c L i n P K l1 x:=by have aY:=s.push [bB];have aP:=a.cons (bm h.n [bB]);obtain⟨cZ,_⟩:=ni aY aP O.below;have av:=Si aY aP O eJ cW pc df;have bf:=aY.push [Sg];have a2:=aP.cons (bm (h.push [bB]).n [Sg]);have ax:=Si bf a2 O eJ cW pc df;have bP:aQ am aL aF ((h.push [bB]).push [fL x]) (bm (h.n+1) [fL x]::bm h.n [bB]::L):=aY.push [fL x];have a3:=aP.cons (bm (h.n+1) [fL x]);have bs:=Si bP a3 O eJ cW pc df;obtain⟨aB,cq,cj⟩:=RC bP (i+1+1) a3.m (n.top.bo+1);rw[a3.wj]at cj;have cT:aQ am aL aF aB (bm (h.n+1) [fL x]::bm h.n [bB]::put c L i (n.at (n.top.bo+1))):=cj;have b:=hm n.top.bD n.top.f;exact⟨aB,cT,((a.put _).cons _).cons _,⟨O.ms,O.S,O.below,O.cV,O.vq,O.log⟩,cZ,av,ax,bs.bo,oj (by omega) (by omega) (by omega),cq,(cT.cell 0 rfl).1⟩
theorem sb{A B:b2}:put c (A::B::L) (i+1+1) b4=A::B::put c L i b4:=rfl
structure ww(am:ad)(aL aF:Nat->Prop)(h:ad)(c:hU)(L:List b2)(i:Nat)(n:fl)(x:cY):Prop where
 s:aQ am aL aF h L
 a:eK c L i n
 O:hI c n
 hm:wQ c.ms
 ok:wP c.ms n.m
 get:(kV c.ms n.top.bD n.top.f).getD n.top.bo wO=x
theorem ww.pre{x:cY}(b:ww am aL aF h c L i n x):∃(af:ad) (P K:Nat) (l1:List bk) (row:List I) (bV:I),aeP am aL aF h af c L i n P K l1 x/\(∀q,fg (j Sf) Z (lB l1) (.int q (K:Int))=j (.ip row 0))/\(∀k,gX R k row 0=j bV)/\(∀q,fg (j LC) Z bV (.int q (n.top.bo:Int))=j (.ip (fL x) 0))/\gX Q 3 (fL x) 0=j (.agg (fL x)):=by
 have a7:=b.ok.dg.top;obtain⟨P,eJ⟩:=Int.eq_ofNat_of_zero_le a7.hd;obtain⟨K,dD⟩:=Int.eq_ofNat_of_zero_le a7.f0;have eJ:n.top.bD=(P:Int):=eJ;have dD:n.top.f=(K:Int):=dD;have BB:=a7.there;have LA:n.top.bD.toNat=P:=by rw[eJ];rfl
 have pc:P<4:=by
  rcases oI P 4 with h|h
  ·exact h
  ·have BB:(c.ms.getD n.top.bD.toNat Z).isSome=Q:=BB;rw[LA,dm,lN (by rw[b.O.ms];exact h)]at BB;cases BB
 obtain⟨l1,df⟩:=w0.1 BB;have df:c.ms.getD n.top.bD.toNat Z=j l1:=df;have LD:n.top.bo<(kV c.ms n.top.bD n.top.f).length:=b.ok.bo;have th:n.top.f.toNat<(iN c.ms n.top.bD).length:=a7.f1;have atY:K<l1.length:=by
  have e:n.top.f.toNat=K:=by rw[dD];rfl
  rw[e]at th;unfold iN at th;rw[df]at th;exact th
 obtain⟨af,p⟩:=atX b.s b.a b.O b.hm eJ dD pc (by rw[<-LA];exact df) LD x;have an:(cB (l1.getD K jB) 0++[(⟨105,0,0⟩:cY)])[n.top.bo]? =j x:=by rw[<-atV df dD];have:=b.get;rw[dm,gd LD]at this;rw[gd LD];exact congrArg j this
 obtain⟨row,bV,bT,bM,du,eB⟩:=atW atY an;exact⟨af,P,K,l1,row,bV,p,bT,bM,du,eB⟩
theorem atZ{k m:Int}(b:ww am aL aF h c L i n ⟨100,k,m⟩):∃a8 E,aM ak T zp [.ptr c.bp 0 0] h=j (a8,E)/\xZ am aL aF c L i (if n.S.left=0 then .fail n.S 12 else .go ⟨n.S.tick,(n.at (n.top.bo+1)).top,n.below⟩) a8 E:=by
 obtain⟨af,P,K,l1,row,bV,p,bT,bM,du,eB⟩:=b.pre;have f0:b9 0 (.ptr c.bp 0 0)=j (.ptr c.bp 0 0):=rfl;have f1:b9 2 (.ptr c.aG 0 0)=j (.ptr c.aG 0 2):=rfl;have f2:b9 0 (.ptr n.bh n.below.length 0)=j (.ptr n.bh n.below.length 0):=rfl;have f3:b9 1 (.ptr c.aG 0 (2+P*5))=j (.ptr c.aG 0 (2+P*5+1)):=rfl;have f4:b9 1 (.ptr n.bh n.below.length 0)=j (.ptr n.bh n.below.length 1):=rfl;have f5:b9 2 (.ptr n.bh n.below.length 0)=j (.ptr n.bh n.below.length 2):=rfl;have f6:b9 2 (.ptr c.bp 0 0)=j (.ptr c.bp 0 2):=rfl;have f7:b9 7 (.ptr n.bh n.below.length 0)=j (.ptr n.bh n.below.length 7):=rfl;obtain⟨hH,ea,aI,g,a'⟩:=pa p.s (i+1+1) p.a.m;have uh:∀k:Nat,cO R k af (.ptr c.bp 0 2)=j (.int o (n.S.left:Int)):=λk=>by rw[gm,a'.m];rfl
 by_cases ai:n.S.left=0
 ·rw[if_pos ai];refine⟨_,_,?_,rfl,n.at (n.top.bo+1),rfl,p.s.drop.drop⟩;have d:decide ((n.S.left:Int)=0)=Q:=decide_eq_true (by omega);refine bd r5 rfl ?_;unfold q8;simp only[ap,aw,aA,ar,cx,eZ,p.cZ,p.av.m,p.av.p,p.av.fd,p.av.f,p.av.bo,p.av.bR,p.ax.m,p.ax.p,p.ax.fd,p.ax.f,p.ax.bo,p.bs,p.w,p.st,p.oz,bT,bM,du,eB,f0,f1,f2,f3,f4,f5,f6,f7,uh,d,pK]
 ·rw[if_neg ai];have d:decide ((n.S.left:Int)=0)=R:=decide_eq_false (by omega);have ag:=b.ok.dg.cV;have ag:n.top.stack.length+n.S.left<=100000:=ag;have w:hq o ((n.S.left:Int) - 1)=((n.S.left - 1:Nat):Int):=oj (by omega) (by omega) (by omega);obtain⟨aB,cq,cj⟩:=arF p.s (i+1+1) p.a.m ((n.S.left - 1:Nat):Int);rw[p.a.wj,sb,hn]at cj;have cT:=cj.set 1 rfl [bB];have c4:=(cj.cell 1 rfl).1;have c5:=(cT.cell 1 rfl).1;refine⟨.inl (.bx [.agg bB,.bool R]),_,?_,bB,rfl,⟨rfl,rfl⟩,n.bh,cT.drop.drop⟩;refine bd r5 rfl ?_;unfold q8;simp only[ap,aw,aA,ar,cx,eZ,p.cZ,p.av.m,p.av.p,p.av.fd,p.av.f,p.av.bo,p.av.bR,p.ax.m,p.ax.p,p.ax.fd,p.ax.f,p.ax.bo,p.bs,p.w,p.st,p.oz,bT,bM,du,eB,f0,f1,f2,f3,f4,f5,f6,f7,uh,d,ov,w,cq,c4]
theorem at0{k m:Int}(b:ww am aL aF h c L i n ⟨101,k,m⟩){st:List ay}{v:ay}(bJ:n.top.stack=st++[v]):∃a8 E,aM ak T zp [.ptr c.bp 0 0] h=j (a8,E)/\xZ am aL aF c L i (.go ⟨n.S,{(n.at (n.top.bo+1)).top with stack:=st,names:=n.top.names++[v]},n.below⟩) a8 E:=by
 obtain⟨af,P,K,l1,row,bV,p,bT,bM,du,eB⟩:=b.pre;have f0:b9 0 (.ptr c.bp 0 0)=j (.ptr c.bp 0 0):=rfl;have f1:b9 2 (.ptr c.aG 0 0)=j (.ptr c.aG 0 2):=rfl;have f2:b9 0 (.ptr n.bh n.below.length 0)=j (.ptr n.bh n.below.length 0):=rfl;have f3:b9 1 (.ptr c.aG 0 (2+P*5))=j (.ptr c.aG 0 (2+P*5+1)):=rfl;have f4:b9 1 (.ptr n.bh n.below.length 0)=j (.ptr n.bh n.below.length 1):=rfl;have f5:b9 2 (.ptr n.bh n.below.length 0)=j (.ptr n.bh n.below.length 2):=rfl;have f6:b9 2 (.ptr c.bp 0 0)=j (.ptr c.bp 0 2):=rfl;have f7:b9 7 (.ptr n.bh n.below.length 0)=j (.ptr n.bh n.below.length 7):=rfl;obtain⟨aB,r,cq,U,cj,a4⟩:=tt p.s p.a p.O (st:=st) (v:=v) bJ;rw[sb,hn]at cj;rw[sb,hn]at a4;have cT:aQ am aL aF ((aB.push [r]).push [bB]) (bm (aB.n+1) [bB]::bm aB.n [r]::bm (h.n+1) [fL ⟨101,k,m⟩]::bm h.n [bB]::put c L i ((n.at (n.top.bo+1)).cV st)):=(cj.push [r]).push [bB];have a5:=(a4.cons (bm aB.n [r])).cons (bm (aB.n+1) [bB]);obtain⟨hH,ea,aI,g,a'⟩:=pa cT (i+1+1+1+1) a5.m;have hT:=oq {(n.at (n.top.bo+1)).top with stack:=st} hH ea aI g a'.aN.dx.1;have uP:=λk=>a'.rd k 7 _ hT.2.2.1;have m4:=cj.push [r];have at1:=a4.cons (bm aB.n [r]);obtain⟨at5,zi,mR,fJ,Sj⟩:=pa m4 (i+1+1+1) at1.m;have aeQ:=oq {(n.at (n.top.bo+1)).top with stack:=st} at5 zi mR fJ Sj.aN.dx.1;have tp:=λk=>Sj.rd k 7 _ aeQ.2.2.1;clear hT aeQ;have aR:=(cT.cell 0 rfl).1;obtain⟨bO,bC⟩:=U.dx;have OK:mR=aI:=by have e:=(aem (h:=aB.push [r]) (b:=n.bh) (i:=n.below.length) (off:=7) (k:=0) (g:=R) (es:=[bB]) Sj.arE).symm.trans (uP 0);rw[tp 0]at e;exact tR e
 subst OK;obtain⟨q,cc,cQ,g7,dk,dH,g0,k2,la⟩:=arI cT (i+1+1+1+1) a5.m U (by have:=p.O.vq;simp only at this ⊢;omega) aR a';rw[a5.wj,eg,eg,sb,hn]at la;have kc:=la.set 3 rfl [bB];have c4:=(m4.cell 0 rfl).1;have c5:=(cT.cell 1 rfl).1;have aAP:=(la.cell 1 rfl).1;have c9:=(la.cell 3 rfl).1;have Sk:=(kc.cell 3 rfl).1;have zm:=a'.aI.2.2.1;have gk:=a'.aI.1;have Fs:=a'.aI.2.2.2.1;have at6:fg (j cD) Z (.br q 0 (n.top.names.length+1) cD) (.int o (n.top.names.length:Int))=j (.ptr q n.top.names.length 0):=by have:=AF (q:= o) (e:=cD) (el:=cD) (b:=q) (O:=0) (n:=n.top.names.length+1) (i:=n.top.names.length) rfl (by omega);rwa [gH]at this
 refine⟨.inl (.bx [.agg bB,.bool R]),_,?_,bB,rfl,⟨rfl,rfl⟩,n.bh,kc.drop.drop.drop.drop⟩;refine bd r5 rfl ?_;unfold q8;simp only[ap,aw,aA,ar,cx,eZ,p.cZ,p.av.m,p.av.p,p.av.fd,p.av.f,p.av.bo,p.av.bR,p.ax.m,p.ax.p,p.ax.fd,p.ax.f,p.ax.bo,p.bs,p.w,p.st,p.oz,bT,bM,du,eB,f0,f1,f2,f3,f4,f5,f6,f7,cq,bO,bC,c4,c5,uP,tp,zm,Fs,at6,dk,dH,g0,k2,c9]
theorem at7{k m:Int}(b:ww am aL aF h c L i n ⟨102,k,m⟩){kG:List ay}{v:ay}(bJ:n.top.names=kG++[v]):∃a8 E,aM ak T zp [.ptr c.bp 0 0] h=j (a8,E)/\xZ am aL aF c L i (.go ⟨n.S,{(n.at (n.top.bo+1)).top with names:=kG},n.below⟩) a8 E:=by
 obtain⟨af,P,K,l1,row,bV,p,bT,bM,du,eB⟩:=b.pre;have f0:b9 0 (.ptr c.bp 0 0)=j (.ptr c.bp 0 0):=rfl;have f1:b9 2 (.ptr c.aG 0 0)=j (.ptr c.aG 0 2):=rfl;have f2:b9 0 (.ptr n.bh n.below.length 0)=j (.ptr n.bh n.below.length 0):=rfl;have f3:b9 1 (.ptr c.aG 0 (2+P*5))=j (.ptr c.aG 0 (2+P*5+1)):=rfl;have f4:b9 1 (.ptr n.bh n.below.length 0)=j (.ptr n.bh n.below.length 1):=rfl;have f5:b9 2 (.ptr n.bh n.below.length 0)=j (.ptr n.bh n.below.length 2):=rfl;have f6:b9 2 (.ptr c.bp 0 0)=j (.ptr c.bp 0 2):=rfl;have f7:b9 7 (.ptr n.bh n.below.length 0)=j (.ptr n.bh n.below.length 7):=rfl;obtain⟨hH,ea,aI,g,a'⟩:=pa p.s (i+1+1) p.a.m;have hT:=oq (n.at (n.top.bo+1)).top hH ea aI g a'.aN.dx.1;have uP:=λk=>a'.rd k 7 _ hT.2.2.1;clear hT;obtain⟨mR,aB,dk,dH,g0,k2,cj⟩:=arG p.s (i+1+1) p.a.m (kG:=kG) (v:=v) bJ a';rw[p.a.wj,sb,hn]at cj;have cT:=cj.set 1 rfl [bB];have c4:=(cj.cell 1 rfl).1;have c5:=(cT.cell 1 rfl).1;have zm:=a'.aI.2.2.1;have hlen:(n.at (n.top.bo+1)).top.names.length=kG.length+1:=by show n.top.names.length=_;rw[bJ];simp
 rw[hlen]at zm;have aq:=p.O.vq;rw[hlen]at aq;have gk:=a'.aI.1;have Fs:=a'.aI.2.2.2.1;have w:hq o (((kG.length+1:Nat):Int) - 1)=(kG.length:Int):=oj (by omega) (by omega) (by omega);refine⟨.inl (.bx [.agg bB,.bool R]),_,?_,bB,rfl,⟨rfl,rfl⟩,n.bh,cT.drop.drop⟩;refine bd r5 rfl ?_;unfold q8;simp only[ap,aw,aA,ar,cx,eZ,p.cZ,p.av.m,p.av.p,p.av.fd,p.av.f,p.av.bo,p.av.bR,p.ax.m,p.ax.p,p.ax.fd,p.ax.f,p.ax.bo,p.bs,p.w,p.st,p.oz,bT,bM,du,eB,f0,f1,f2,f3,f4,f5,f6,f7,uP,zm,Fs,w,dk,k2,c4]
theorem aua{k m:Int}(b:ww am aL aF h c L i n ⟨103,k,m⟩){st:List ay}{v:ay}(bJ:n.top.stack=st++[v])(kw:0<=k):∃a8 E,aM ak T zp [.ptr c.bp 0 0] h=j (a8,E)/\xZ am aL aF c L i (if v.kind≠1 then .fail n.S 2 else .go ⟨n.S,{(n.at (n.top.bo+1)).top with stack:=st,bo:=if v.n=0 then k.toNat else n.top.bo+1},n.below⟩) a8 E:=by
 obtain⟨af,P,K,l1,row,bV,p,bT,bM,du,eB⟩:=b.pre;have f0:b9 0 (.ptr c.bp 0 0)=j (.ptr c.bp 0 0):=rfl;have f1:b9 2 (.ptr c.aG 0 0)=j (.ptr c.aG 0 2):=rfl;have f2:b9 0 (.ptr n.bh n.below.length 0)=j (.ptr n.bh n.below.length 0):=rfl;have f3:b9 1 (.ptr c.aG 0 (2+P*5))=j (.ptr c.aG 0 (2+P*5+1)):=rfl;have f4:b9 1 (.ptr n.bh n.below.length 0)=j (.ptr n.bh n.below.length 1):=rfl;have f5:b9 2 (.ptr n.bh n.below.length 0)=j (.ptr n.bh n.below.length 2):=rfl;have f6:b9 2 (.ptr c.bp 0 0)=j (.ptr c.bp 0 2):=rfl;have f7:b9 7 (.ptr n.bh n.below.length 0)=j (.ptr n.bh n.below.length 7):=rfl;obtain⟨aB,r,cq,U,cj,a4⟩:=tt p.s p.a p.O (st:=st) (v:=v) bJ;rw[sb,hn]at cj;rw[sb,hn]at a4;obtain⟨bO,bC⟩:=U.dx;by_cases ab:v.kind=1
 ·rw[if_neg (by simpa using ab)];obtain⟨bZ,dN,jE⟩:=tq (h:=aB) U ab;obtain⟨w,hw,_⟩:=jE.uQ;have aq:Jl R 1 1 (.agg bZ)=j (.int o v.n):=by rw[hw];rfl
  obtain⟨dj,eQ⟩:=jE.dx;clear hw;by_cases aR:v.n=0
  ·rw[if_pos aR];have d:decide (v.n=0)=Q:=decide_eq_true aR;have c4:=(cj.cell 0 rfl).1;obtain⟨bw,eX,cT⟩:=RC cj (i+1+1) a4.m k.toNat
   rw[Int.toNat_of_nonneg kw]at eX;rw[a4.wj,sb,hn]at cT;have eo:=cT.set 1 rfl [bB];have c5:=(cT.cell 1 rfl).1;have fp:=(eo.cell 1 rfl).1;refine⟨.inl (.bx [.agg bB,.bool R]),_,?_,bB,rfl,⟨rfl,rfl⟩,n.bh,eo.drop.drop⟩;refine bd r5 rfl ?_;unfold q8;simp only[ap,aw,aA,ar,cx,eZ,p.cZ,p.av.m,p.av.p,p.av.fd,p.av.f,p.av.bo,p.av.bR,p.ax.m,p.ax.p,p.ax.fd,p.ax.f,p.ax.bo,p.bs,p.w,p.st,p.oz,bT,bM,du,eB,f0,f1,f2,f3,f4,f5,f6,f7,cq,bO,bC,dN,aq,d,c4,eX,c5]
  ·rw[if_neg aR];have d:decide (v.n=0)=R:=decide_eq_false aR;have eo:=cj.set 1 rfl [bB];have c5:=(cj.cell 1 rfl).1;have fp:=(eo.cell 1 rfl).1;refine⟨.inl (.bx [.agg bB,.bool R]),_,?_,bB,rfl,⟨rfl,rfl⟩,n.bh,eo.drop.drop⟩;refine bd r5 rfl ?_;unfold q8;simp only[ap,aw,aA,ar,cx,eZ,p.cZ,p.av.m,p.av.p,p.av.fd,p.av.f,p.av.bo,p.av.bR,p.ax.m,p.ax.p,p.ax.fd,p.ax.f,p.ax.bo,p.bs,p.w,p.st,p.oz,bT,bM,du,eB,f0,f1,f2,f3,f4,f5,f6,f7,cq,bO,bC,dN,aq,d,c5]
 ·rw[if_pos ab];have dN:=tr (h:=aB) U ab;refine⟨_,_,?_,rfl,(n.at (n.top.bo+1)).cV st,rfl,cj.drop.drop⟩;refine bd r5 rfl ?_;unfold q8;simp only[ap,aw,aA,ar,cx,eZ,p.cZ,p.av.m,p.av.p,p.av.fd,p.av.f,p.av.bo,p.av.bR,p.ax.m,p.ax.p,p.ax.fd,p.ax.f,p.ax.bo,p.bs,p.w,p.st,p.oz,bT,bM,du,eB,f0,f1,f2,f3,f4,f5,f6,f7,cq,bO,bC,dN]
theorem aub{k m:Int}(b:ww am aL aF h c L i n ⟨104,k,m⟩)(kw:0<=k):∃a8 E,aM ak T zp [.ptr c.bp 0 0] h=j (a8,E)/\xZ am aL aF c L i (.go ⟨n.S,{(n.at (n.top.bo+1)).top with bo:=k.toNat},n.below⟩) a8 E:=by
 obtain⟨af,P,K,l1,row,bV,p,bT,bM,du,eB⟩:=b.pre;have f0:b9 0 (.ptr c.bp 0 0)=j (.ptr c.bp 0 0):=rfl;have f1:b9 2 (.ptr c.aG 0 0)=j (.ptr c.aG 0 2):=rfl;have f2:b9 0 (.ptr n.bh n.below.length 0)=j (.ptr n.bh n.below.length 0):=rfl;have f3:b9 1 (.ptr c.aG 0 (2+P*5))=j (.ptr c.aG 0 (2+P*5+1)):=rfl;have f4:b9 1 (.ptr n.bh n.below.length 0)=j (.ptr n.bh n.below.length 1):=rfl;have f5:b9 2 (.ptr n.bh n.below.length 0)=j (.ptr n.bh n.below.length 2):=rfl;have f6:b9 2 (.ptr c.bp 0 0)=j (.ptr c.bp 0 2):=rfl;have f7:b9 7 (.ptr n.bh n.below.length 0)=j (.ptr n.bh n.below.length 7):=rfl;have c4:=(p.s.cell 0 rfl).1;obtain⟨bw,eX,cT⟩:=RC p.s (i+1+1) p.a.m k.toNat
 rw[Int.toNat_of_nonneg kw]at eX;rw[p.a.wj,sb,hn]at cT;have eo:=cT.set 1 rfl [bB];have c5:=(cT.cell 1 rfl).1;have fp:=(eo.cell 1 rfl).1;refine⟨.inl (.bx [.agg bB,.bool R]),_,?_,bB,rfl,⟨rfl,rfl⟩,n.bh,eo.drop.drop⟩;refine bd r5 rfl ?_;unfold q8;simp only[ap,aw,aA,ar,cx,eZ,p.cZ,p.av.m,p.av.p,p.av.fd,p.av.f,p.av.bo,p.av.bR,p.ax.m,p.ax.p,p.ax.fd,p.ax.f,p.ax.bo,p.bs,p.w,p.st,p.oz,bT,bM,du,eB,f0,f1,f2,f3,f4,f5,f6,f7,eX,c5]
theorem auc{A B:b2}{gV:Nat}{S:bG}:oy c (A::B::put c L i b4) (i+1+1) gV S=A::B::oy c L i gV S:=by
 have:oy c (put c L i b4) i gV S=oy c L i gV S:=by unfold oy;rw[hn]
 exact congrArg (λl=>A::B::l) this
theorem aud{k m:Int}(b:ww am aL aF h c L i n ⟨105,k,m⟩){st:List ay}{v:ay}(bJ:n.top.stack=st++[v])(lY:∀aZ,cm.back (n.at (n.top.bo+1)).m= .go aZ->aZ.top.stack.length<=100000):∃a8 E,aM ak T zp [.ptr c.bp 0 0] h=j (a8,E)/\xZ am aL aF c L i (cm.back (n.at (n.top.bo+1)).m) a8 E:=by
 obtain⟨af,P,K,l1,row,bV,p,bT,bM,du,eB⟩:=b.pre;have f0:b9 0 (.ptr c.bp 0 0)=j (.ptr c.bp 0 0):=rfl;have f1:b9 2 (.ptr c.aG 0 0)=j (.ptr c.aG 0 2):=rfl;have f2:b9 0 (.ptr n.bh n.below.length 0)=j (.ptr n.bh n.below.length 0):=rfl;have f3:b9 1 (.ptr c.aG 0 (2+P*5))=j (.ptr c.aG 0 (2+P*5+1)):=rfl;have f4:b9 1 (.ptr n.bh n.below.length 0)=j (.ptr n.bh n.below.length 1):=rfl;have f5:b9 2 (.ptr n.bh n.below.length 0)=j (.ptr n.bh n.below.length 2):=rfl;have f6:b9 2 (.ptr c.bp 0 0)=j (.ptr c.bp 0 2):=rfl;have f7:b9 7 (.ptr n.bh n.below.length 0)=j (.ptr n.bh n.below.length 7):=rfl;obtain⟨a8,aB,cq,tw⟩:=atT p.s p.a p.O (st:=st) (v:=v) bJ b.ok.dg.top.ec lY;generalize cm.back (n.at (n.top.bo+1)).m=q at*;cases q with
 |go aZ=>obtain⟨r,rfl,⟨bO,bC⟩,gV,cj⟩:=tw;rw[sb,hn]at cj;have cT:=cj.set 1 rfl [r];have c4:=(cj.cell 1 rfl).1;have c5:=(cT.cell 1 rfl).1;refine⟨.inl (.bx [.agg r,.bool R]),_,?_,r,rfl,⟨bO,bC⟩,gV,cT.drop.drop⟩;refine bd r5 rfl ?_;unfold q8;simp only[ap,aw,aA,ar,cx,eZ,p.cZ,p.av.m,p.av.p,p.av.fd,p.av.f,p.av.bo,p.av.bR,p.ax.m,p.ax.p,p.ax.fd,p.ax.f,p.ax.bo,p.bs,p.w,p.st,p.oz,bT,bM,du,eB,f0,f1,f2,f3,f4,f5,f6,f7,cq,bO,bC,c4]
 |fail S dn=>obtain⟨rfl,b4,qN,cj⟩:=tw;rw[sb,hn]at cj;refine⟨_,_,?_,rfl,b4,qN,cj.drop.drop⟩;refine bd r5 rfl ?_;unfold q8;simp only[ap,aw,aA,ar,cx,eZ,p.cZ,p.av.m,p.av.p,p.av.fd,p.av.f,p.av.bo,p.av.bR,p.ax.m,p.ax.p,p.ax.fd,p.ax.f,p.ax.bo,p.bs,p.w,p.st,p.oz,bT,bM,du,eB,f0,f1,f2,f3,f4,f5,f6,f7,cq]
 |over S bg=>obtain⟨r,rfl,U,gV,cj⟩:=tw;rw[auc]at cj;obtain⟨bO,bC⟩:=U.dx;have cT:=cj.set 1 rfl [r];have c4:=(cj.cell 1 rfl).1;have c5:=(cT.cell 1 rfl).1;refine⟨.inl (.bx [.agg r,.bool Q]),_,?_,r,rfl,U,gV,cT.drop.drop⟩;refine bd r5 rfl ?_;unfold q8;simp only[ap,aw,aA,ar,cx,eZ,p.cZ,p.av.m,p.av.p,p.av.fd,p.av.f,p.av.bo,p.av.bR,p.ax.m,p.ax.p,p.ax.fd,p.ax.f,p.ax.bo,p.bs,p.w,p.st,p.oz,bT,bM,du,eB,f0,f1,f2,f3,f4,f5,f6,f7,cq,bO,bC,c4]
theorem aue{x:cY}(b:ww am aL aF h c L i n x)(iW:x.op<100):∃a8 E,aM ak T zp [.ptr c.bp 0 0] h=j (a8,E)/\xZ am aL aF c L i (nq c.ms (n.at (n.top.bo+1)).m x) a8 E:=by
 obtain⟨af,P,K,l1,row,bV,p,bT,bM,du,eB⟩:=b.pre;have f0:b9 0 (.ptr c.bp 0 0)=j (.ptr c.bp 0 0):=rfl;have f1:b9 2 (.ptr c.aG 0 0)=j (.ptr c.aG 0 2):=rfl;have f2:b9 0 (.ptr n.bh n.below.length 0)=j (.ptr n.bh n.below.length 0):=rfl;have f3:b9 1 (.ptr c.aG 0 (2+P*5))=j (.ptr c.aG 0 (2+P*5+1)):=rfl;have f4:b9 1 (.ptr n.bh n.below.length 0)=j (.ptr n.bh n.below.length 1):=rfl;have f5:b9 2 (.ptr n.bh n.below.length 0)=j (.ptr n.bh n.below.length 2):=rfl;have f6:b9 2 (.ptr c.bp 0 0)=j (.ptr c.bp 0 2):=rfl;have f7:b9 7 (.ptr n.bh n.below.length 0)=j (.ptr n.bh n.below.length 7):=rfl;have a7:=b.ok.dg.top;have an:=b.ok.op;have rM:(kV c.ms n.m.top.bD n.m.top.f).getD n.m.top.bo wO=x:=b.get;rw[rM]at an;obtain⟨a8,aB,cq,Sl⟩:=atO p.s p.a p.O (x:=x) ⟨a7.hd,a7.there,a7.f0,a7.f1,a7.arg,a7.names,a7.stack,a7.ec⟩ ⟨an.kind,an.one,an.US,an.jump,an.parts,an.var⟩ iW;have d:∀D:Int,100<=D->decide (x.op=D)=R:=λD aa=>decide_eq_false (by omega);have d0:=d 100 (by decide);have d1:=d 101 (by decide);have d2:=d 102 (by decide);have d3:=d 103 (by decide);have d4:=d 104 (by decide);have d5:=d 105 (by decide);have c3:=(p.s.cell 0 rfl).1;generalize nq c.ms (n.at (n.top.bo+1)).m x=q at*;cases q with
 |go aZ=>obtain⟨rfl,gV,cj⟩:=Sl;rw[sb,hn]at cj;have cT:=cj.set 1 rfl [bB];have c4:=(cj.cell 1 rfl).1;have c5:=(cT.cell 1 rfl).1;refine⟨.inl (.bx [.agg bB,.bool R]),_,?_,bB,rfl,⟨rfl,rfl⟩,gV,cT.drop.drop⟩;refine bd r5 rfl ?_;unfold q8;simp only[ap,aw,aA,ar,cx,p.cZ,p.av.m,p.av.p,p.av.fd,p.av.f,p.av.bo,p.av.bR,p.ax.m,p.ax.p,p.ax.fd,p.ax.f,p.ax.bo,p.bs,p.w,p.st,p.oz,bT,bM,du,eB,f0,f1,f2,f3,f4,f5,f6,f7,cq,c4,d0,d1,d2,d3,d4,d5]
 |fail S dn=>obtain⟨rfl,b4,qN,cj⟩:=Sl;rw[sb,hn]at cj;refine⟨_,_,?_,rfl,b4,qN,cj.drop.drop⟩;refine bd r5 rfl ?_;unfold q8;simp only[ap,aw,aA,ar,cx,p.cZ,p.av.m,p.av.p,p.av.fd,p.av.f,p.av.bo,p.av.bR,p.ax.m,p.ax.p,p.ax.fd,p.ax.f,p.ax.bo,p.bs,p.w,p.st,p.oz,bT,bM,du,eB,f0,f1,f2,f3,f4,f5,f6,f7,cq,d0,d1,d2,d3,d4,d5]
 |over S bg=>exact Sl.elim
end
section
variable{h E am:ad}{ah ao aL aF:Nat->Prop}{L:List b2}{c:hU}{i:Nat}{n:fl}
theorem auf{c:hU}{n:fl}(al:c.ms.length=4)(g:n.m.Good c.ms):hI c n:=by have g1:n.S.ba<=1000000:=g.ba;have cK:n.top.stack.length+n.S.left<=100000:=g.cV;have et:n.top.names.length+n.S.left<=100000:=g.vq;have lO:n.below.length+1<=20:=g.qG;unfold bG.ba at g1;exact⟨al,g.S,by omega,by omega,by omega,by omega⟩
theorem Sm(s:aQ am aL aF h L)(a:eK c L i n)(al:c.ms.length=4)(hm:wQ c.ms)(ok:wP c.ms n.m)(LF:∀aZ,nr c.ms n.m= .go aZ->aZ.Good c.ms):∃a8 E,aM ak T zp [.ptr c.bp 0 0] h=j (a8,E)/\xZ am aL aF c L i (nr c.ms n.m) a8 E:=by
 have b:ww am aL aF h c L i n ((kV c.ms n.top.bD n.top.f).getD n.top.bo wO):=⟨s,a,auf al ok.dg,hm,ok,rfl⟩;have an:=ok.op;have an:Co n.m ((kV c.ms n.top.bD n.top.f).getD n.top.bo wO):=an;have az:nr c.ms n.m=(let x:=(kV c.ms n.top.bD n.top.f).getD n.top.bo wO
  let m:cm:=(n.at (n.top.bo+1)).m;let t:=m.top
  if x.op=100 then(if m.S.left=0 then .fail m.S 12 else .go {m with S:=m.S.tick})
  else if x.op=101 then .go {m with top:={t with stack:=tK t.stack 1,names:=t.names++[(rA t.stack 1).getD 0 cp]}}
  else if x.op=102 then .go {m with top:={t with names:=t.names.dropLast}}
  else if x.op=103 then(let v:=(rA t.stack 1).getD 0 cp
   if v.kind≠1 then .fail m.S 2 else .go {m with top:={t with stack:=tK t.stack 1,bo:=if v.n=0 then x.k.toNat else t.bo}})
  else if x.op=104 then .go {m with top:={t with bo:=x.k.toNat}}
  else if x.op=105 then m.back
  else nq c.ms m x):=rfl
 rw[az]at LF ⊢;generalize (kV c.ms n.top.bD n.top.f).getD n.top.bo wO=x at*;clear az;obtain⟨op,k,m⟩:=x;simp only at LF ⊢;have aeR:=an.kind;simp only at aeR;rcases aeR with ab|ab
 ·rw[if_neg (by omega),if_neg (by omega),if_neg (by omega),if_neg (by omega),if_neg (by omega),if_neg (by omega)];exact aue b (by show op<100;omega)
 ·have ops:op=100\/op=101\/op=102\/op=103\/op=104\/op=105:=by omega
  rcases ops with rfl|rfl|rfl|rfl|rfl|rfl
  ·rw[if_pos rfl];exact atZ b
  ·obtain⟨st,v,bJ⟩:=pd (l:=n.top.stack) (by have:=an.one (.inl rfl);exact List.length_pos_iff.2 this);rw[if_neg (by decide),if_pos rfl];have:=at0 b bJ;simp only[bJ,wq,Bw];exact this
  ·obtain⟨kG,v,bJ⟩:=pd (l:=n.top.names) (by have:=an.US rfl;exact List.length_pos_iff.2 this);rw[if_neg (by decide),if_neg (by decide),if_pos rfl];have:=at7 b bJ;simp only[bJ,List.dropLast_concat];exact this
  ·obtain⟨st,v,bJ⟩:=pd (l:=n.top.stack) (by have:=an.one (.inr (.inl rfl));exact List.length_pos_iff.2 this);rw[if_neg (by decide),if_neg (by decide),if_neg (by decide),if_pos rfl];have:=aua b bJ (an.jump (.inl rfl));simp only[bJ,wq,Bw,uO];exact this
  ·rw[if_neg (by decide),if_neg (by decide),if_neg (by decide),if_neg (by decide),if_pos rfl];exact aub b (an.jump (.inr rfl))
  ·obtain⟨st,v,bJ⟩:=pd (l:=n.top.stack) (by have:=an.one (.inr (.inr rfl));exact List.length_pos_iff.2 this);simp only[eZ,if_false,if_true]at LF ⊢;refine aud b bJ λaZ e=>?_;have g:=(LF aZ e).cV;omega
end
theorem Sn:∀(N:Nat) (x:ay),mV x<=N->x.size<=100000->∀(r:List I) (h:ad),ck x r->∃bZ,aM ak T 53 [.agg r] h=j (.inl (.agg bZ),h)/\ck (id x) bZ:=by
 intro N;induction N with
 |zero=>intro x an;have:=x.pZ;omega
 |succ N aW=>
   intro x an dY r h he;obtain⟨v,es,rfl,gp,U,aq,hG⟩:=he.facts;have hlen:=x.yl;suffices key:∃bg,aM ak T 53 [.agg [.int o x.kind,.int o x.n,v]] h=j (.inl bg,h)/\∃bZ,bg= .agg bZ/\ck (id x) bZ by obtain⟨_,e,bZ,rfl,J⟩:=key;exact⟨bZ,e,J⟩
   have rest:∀(b':k3->Prop) (am:ad) (hk iy:I) (z:Int),am=((h.push [[.int o x.kind,.int o x.n,v]]).push [[.int o 0,.int o 0,.aC]]).push [[.int o x.kind,.int o z,.aC]]->z=(id x).n->(∀V E v bg,(iS V E [.cell Q 3 2]).map iY=j v->aK h E->dP v=j bg->(∃bZ,bg= .agg bZ/\ck (id x) bZ)->b' (j (.ret,V,E)))->b' (bu (aM ak T) 9 (.ff KB::.bQ []::.b1 0::[.bQ [.ops [uH,Dz],.ret]]) [.agg [.int o x.kind,.int o x.n,v],.ptr h.n 0 0,.ptr (h.n+1) 0 0,.ptr (h.n+1+1) 0 0,hk,v,.int o es.length,.int o 0,iy] [] am):=by
    intro b' am hk iy z QY aR cf;subst QY;refine td (λi V E=>∃hk iy acc rows,V=[.agg [.int o x.kind,.int o x.n,v],.ptr h.n 0 0,.ptr (h.n+1) 0 0,.ptr (h.n+1+1) 0 0,hk,v,.int o es.length,.int o (i:Nat),iy]/\aK h E/\h.n+1+1<E.n/\E.cell h.n=j [[.int o x.kind,.int o x.n,v]]/\E.cell (h.n+1)=j [[.int o 0,.int o 0,.aC]]/\E.cell (h.n+1+1)=j [[.int o x.kind,.int o z,acc]]/\Acc h E cD acc rows/\fb ((x.l.take i).map id) rows) x.l.length ⟨_,_,_,[],rfl,(by repeat (first|exact aK.refl _|refine aK.trans ?_ (aK.push _ _)|refine aK.trans ?_ (aK.fresh _ _))),by simp only[ek];omega,xn,AK,AJ,vO _ _ _,rfl⟩ ?_ ?_
    ·rintro i V E ae ⟨hk,iy,acc,rows,rfl,g,hm,a6,c2,c3,aN,aj⟩ next
     have bt:(i:Int)<(es.length:Int):=by rw[aq];omega
     obtain⟨y,bq⟩:=Bc ae;obtain⟨q,eW,d1,bY⟩:=hG i y bq;have hw:=gD (n:=(i:Int)+1) (by omega) (by omega);obtain⟨hi,av,db⟩:=aW y (by have:=ay.pj (q9 bq);omega) (by have:=ay.tI (q9 bq);omega) q (E.push [q]) bY;obtain⟨dU,g8⟩:=bY.one
     replace a6:=(eG (es:=[q]) (show h.n<E.n by omega)).trans a6
     replace c2:=(eG (es:=[q]) (show h.n+1<E.n by omega)).trans c2
     replace c3:=(eG (es:=[q]) hm).trans c3
     obtain⟨bO,bC⟩:=db.one;have gB:rows.length<=1000000:=by rw[aj.len,gG,List.length_take];omega
     obtain⟨o',J,ax,aP,a2,a3,a4⟩:=vP (show Acc h (E.push [q]) cD acc rows from aN) (g.trans (aK.push _ _)) (row:=hi) bO gB;simp only[qj]at ax;have dk:(J.set (h.n+1+1) (j [[.int o x.kind,.int o z,o']])).cell h.n=j [[.int o x.kind,.int o x.n,v]]:=by rw[dL (by omega),a3];exact a6
     have dH:(J.set (h.n+1+1) (j [[.int o x.kind,.int o z,o']])).cell (h.n+1)=j [[.int o 0,.int o 0,.aC]]:=by rw[dL (by omega),a3];exact c2
     have Bl:o'.one=Q:=by rcases aP with⟨_,rfl⟩|⟨id,_,_,_,_,rfl⟩<;>rfl
     have Ld:o'.cells=[o']:=by rcases aP with⟨_,rfl⟩|⟨id,_,_,_,_,rfl⟩<;>rfl
     rw[dd KB.eq_1];simp only[ap,aw,aA,ar,cz,c3,bt,eW,d1,av,dU,g8,bO,bC,ax,a3,Bl,Ld,hw];refine next _ _ ⟨_,_,_,_,rfl,a2.set (by omega),by rw[iF,a4];show _<E.n+1;omega,dk,dH,i7,aP,?_⟩
     rw[A0 bq,rR];exact aj.append db
    ·rintro V E ⟨hk,iy,acc,rows,rfl,g,hm,a6,c2,c3,aN,aj⟩;have bt:¬((x.l.length:Int)<(es.length:Int)):=by rw[aq];omega
     rw[List.take_length]at aj;have Bl:acc.one=Q:=by rcases aN with⟨_,rfl⟩|⟨id,_,_,_,_,rfl⟩<;>rfl
     have Rp:fH cD acc rows:=by
      rcases aN with⟨bT,bM⟩|⟨id,_,_,_,_,bM⟩
      ·exact .inl ⟨bT,bM⟩
      ·exact .inr ⟨_,bM⟩
     have vx:ck (id x) [.int o x.kind,.int o z,acc]:=by rw[aR];have:=ck.mk (x:=id x) Rp (by rw[apY];exact aj);rw[apX]at this;exact this
     obtain⟨bZ,hw,jE⟩:=F8 vx;have Be:dP (.agg [.int o x.kind,.int o z,acc])=j (.agg bZ):=by simp only[dP,hw,g3]
     rw[dd KB.eq_1];simp only[ap,aw,aA,ar,cz,c2,c3,bt,Bl];exact cf _ _ _ _ (by simp only[ap,dw,ey,g3,da,uO,List.getD_cons_succ]) (g.set (by omega)) Be ⟨bZ,rfl,jE⟩
   refine Kb apI rfl λb' cf=>?_;unfold acv;simp only[ap,aw,aA,ar,ct,U,gp.len,gp.fits];exact rest _ _ _ _ x.n rfl rfl cf
open Go Go.RowKit
abbrev jq:cH:=128
abbrev rk:cH:=137
noncomputable def D0:ef:=Tryz.f128.body.getD .skip
noncomputable def sc:ef:=Tryz.f137.body.getD .skip
theorem Sp:(ak).funcs[rk]? =j Tryz.f137:=Tryz.func137
theorem aeS:Tryz.f137.body=j sc:=rfl
theorem aeT:sc= .seq (dc sc) (fj sc):=rfl
theorem aeU:Tryz.f137.ntmps=27:=rfl
noncomputable def Sq:bb:={dst:=j 8,op:=.call {callee:=.builtin .recover,args:= #[],argTypes:= #[]},type:=((jk (dc sc)).getD 0 default).type,pos:=((jk (dc sc)).getD 0 default).pos,after:= #[],guard:=Z}
noncomputable def Sr:bb:={dst:=j 5,op:=.assign (.tmp 8),type:=((jk (dc sc)).getD 1 default).type,pos:=((jk (dc sc)).getD 1 default).pos,after:=((jk (dc sc)).getD 1 default).after,guard:=Z}
theorem aug:dc sc= .region 0 #[Sq,Sr] R:=rfl
abbrev Ss:List Nat:=[0,1,2,3,4,5,6,7,10,17]
theorem aeV:ga ak (T.ba rk) (T.ch rk) 27 Ss (fj sc) []=j LT:=by kernel_rfl
theorem aeW:ht (T.ch rk) (T.eu rk) (fj sc)=Q:=by kernel_rfl
theorem aeX:rQ 5 27 (T.aI rk) 10 Ss=Q:=by kernel_rfl
theorem aeY(a:Array bH)(w:cd):∃v,(results Tryz.f137 a).run ak w= .ok v w:=⟨.tuple #[],by simp[results,Tryz.results137]⟩
theorem aeZ:Pn ak (dc sc) 27 8 5:=by
 intro bX v cs gA w dY h;rw[aug];apply wpS_region;rcases h with F|⟨F,J,af⟩
 ·simp[wpOpsS,go_sem,Sq,Sr,F,px,Act.eval,dY]
 ·simp[wpOpsS,go_sem,Sq,Sr,F,px,Act.eval,dY,J,af]
theorem ae0(x y z u t e:I):gb 27 Ss [] (eU (eU ([x,y,z,u,t]++ar (27 - [x,y,z,u,t].length) .aD) (j 8) e) (j 5) e) [x,y,z,u,t,e,.aD,.aD,.aD,.aD] []:=by
 refine⟨by simp[eU],rfl,rfl,λD s aa=>?_,λD s aa=>by simp at aa⟩
 match D,aa with
 |0,aa|1,aa|2,aa|3,aa|4,aa|5,aa|6,aa|7,aa|8,aa|9,aa=>obtain rfl:=tR aa;exact⟨by decide,rfl⟩
 |D+10,aa=>simp at aa
theorem D1:(ak).funcs[jq]? =j Tryz.f128:=Tryz.func128
theorem auh:Tryz.f128.body=j D0:=rfl
theorem aui:Tryz.f128.ntmps=93:=rfl
noncomputable abbrev wx:ef:=fj D0
noncomputable abbrev uV:ef:=fj wx
noncomputable abbrev x1:ef:=fj uV
noncomputable abbrev x2:ef:=fj x1
noncomputable abbrev qw:ef:=fj x2
noncomputable abbrev Hq:ef:=fj qw
theorem auj:D0= .seq (dc D0) wx:=rfl
theorem LG:wx= .seq (dc wx) uV:=rfl
theorem ae1:uV= .seq (dc uV) x1:=rfl
theorem auk:x1= .seq (dc x1) x2:=rfl
theorem aul:x2= .seq (dc x2) qw:=rfl
theorem aum:qw= .seq (dc qw) Hq:=rfl
abbrev sd:List Nat:=[0,1,2,3,4,8,9,10,11,12,13,14,15,16,17,33,62,84]
theorem uW:rQ 5 93 (T.aI jq) 18 sd=Q:=by kernel_rfl
theorem aun:ga ak (T.ba jq) (T.ch jq) 93 sd (dc D0) []=j JT:=by kernel_rfl
theorem LH:ga ak (T.ba jq) (T.ch jq) 93 sd (dc wx) []=j yX:=by kernel_rfl
theorem ae2:ga ak (T.ba jq) (T.ch jq) 93 sd (dc uV) []=j JW:=by kernel_rfl
theorem auo:ga ak (T.ba jq) (T.ch jq) 93 sd (dc x1) []=j JX:=by kernel_rfl
theorem aup:ga ak (T.ba jq) (T.ch jq) 93 sd (dc x2) []=j JY:=by kernel_rfl
theorem ae3:ga ak (T.ba jq) (T.ch jq) 93 sd Hq []=j FT:=by kernel_rfl
theorem auq:ht (T.ch jq) (T.eu jq) (dc D0)=Q:=by kernel_rfl
theorem LI:ht (T.ch jq) (T.eu jq) (dc wx)=Q:=by kernel_rfl
theorem ae4:ht (T.ch jq) (T.eu jq) (dc uV)=Q:=by kernel_rfl
theorem aur:ht (T.ch jq) (T.eu jq) (dc x1)=Q:=by kernel_rfl
theorem aus:ht (T.ch jq) (T.eu jq) (dc x2)=Q:=by kernel_rfl
theorem ae5:ht (T.ch jq) (T.eu jq) Hq=Q:=by kernel_rfl
theorem Hr:pE ak sd Tryz.f128.results.toList=j [.cell Q 3 7,.cell R 1 8,.cell R 1 9]:=by kernel_rfl
theorem aut(x y z u t:I):gb 93 sd [] ([x,y,z,u,t]++ar (93 - [x,y,z,u,t].length) .aD) ([x,y,z,u,t]++ar (sd.length - [x,y,z,u,t].length) .aD) []:=by
 refine⟨by simp,rfl,rfl,λD s aa=>?_,λD s aa=>by simp at aa⟩
 match D,aa with
 |0,aa|1,aa|2,aa|3,aa|4,aa|5,aa|6,aa|7,aa|8,aa|9,aa|10,aa|11,aa|12,aa|13,aa|14,aa|15,aa|16,aa|17,aa=>obtain rfl:=tR aa;exact⟨by decide,rfl⟩
 |D+18,aa=>simp at aa
noncomputable def ae6:bb:={dst:=j 78,op:=.makeFunc (.func rk) #[] #[.tmp 9,.tmp 14,.tmp 10,.tmp 11,.tmp 12],type:=((jk (dc qw)).getD 0 default).type,pos:=((jk (dc qw)).getD 0 default).pos,after:= #[],guard:=Z}
noncomputable def ae7:bb:={dst:=Z,op:=.defer {callee:=.value (.tmp 78),args:= #[],argTypes:= #[]},type:=((jk (dc qw)).getD 1 default).type,pos:=((jk (dc qw)).getD 1 default).pos,after:=((jk (dc qw)).getD 1 default).after,guard:=Z}
theorem auu:dc qw= .region 10 #[ae6,ae7] R:=rfl
theorem ae8(eC:eO)(a:Act)(cs:List eO)(w:cd)(dY:a.tmps.size=93):Steps ak (ew (eC.at a [.code qw]) cs w) (ew (eC.at {a.put (j 78) (s8 rk (nF a [9,14,10,11,12]))with defers:=k7 rk (nF a [9,14,10,11,12])::a.defers} [.code Hq]) cs w):=by
 have hw:(dc qw).wp ak (λe dZ aJ=>e= .normal/\aJ=w/\dZ={a.put (j 78) (s8 rk (nF a [9,14,10,11,12]))with defers:=k7 rk (nF a [9,14,10,11,12])::a.defers}) a w:=by have ad6:∀(fn:Fn) (first cap:Array bH) (w:cd),(Instr.makeFunc fn first cap).run ak w= .ok (.func fn first cap) w:=λ_ _ _ _=>rfl;rw[auu];apply wp_region;simp[wpOps,go_sem,ae6,ae7,px,Act.eval,dY,s8,k7,nF]
 obtain⟨e,dZ,aJ,⟨rfl,rfl,rfl⟩,xv⟩:=hw eC [.code Hq] cs
 conv=>lhs;rw[aum]
 exact .head step_seq xv
theorem ae9:∀r∈Tryz.f128.results.toList,∃i ty,r= .cell i ty/\T.eu jq i=Q:=by
 have h:Tryz.f128.results.toList.all (λr=>match r with|.cell i _=>T.eu jq i|_=>R)=Q:=by kernel_rfl
 rw[iC]at h;intro r aj;have:=h r aj;cases r with
 |tmp i=>cases this
 |cell i ty=>exact⟨i,ty,rfl,this⟩
open Go Go.RowKit
theorem auv{ms:dQ}(a7:yn ms){p f:Int}{v:ay}{S:bG}(cG:S.Good)(IY:S.ba<=1000000)(ai:S.left<=2000)(U:v.code=0)(hp:0<=p)(aO:(ms.getD p.toNat Z).isSome)(bn:0<=f)(th:f.toNat<(iN ms p).length){N:Nat}(eV:S.left<=N):kt ms ⟨S,⟨p,f,0,v,[],[],R,[]⟩,[]⟩ (match e5 ms N p (gs ms p f) v [] 1 S with
   |(b3,w,c)=>if c≠0 then .fail b3 c else .over b3 w):=by
 have ez:(⟨S,⟨p,f,0,v,[],[],R,[]⟩,[]⟩:cm).Good ms:=⟨cG,⟨hp,aO,bn,th,U,by simp,by simp,by simp⟩,IY,by simp only[ey];omega,by simp only[ey];omega,by simp⟩;have af:=aeD a7 N (gs ms p f) ⟨S,⟨p,f,0,v,[],[],R,[]⟩,[]⟩ ez eV (R0 a7 th) ⟨[],[⟨105,0,0⟩],by simp[kV],rfl⟩;have rj:=sy ms N p (gs ms p f) v [] 1 S cG U (by simp);simp only[ey,gH]at af;rcases ym:e5 ms N p (gs ms p f) v [] 1 S with⟨sw,v3,c3⟩;rw[ym]at af rj;unfold jY at af;simp only at af ⊢;by_cases aR:c3=0
 ·rw[if_neg (by simpa using aR)]at af ⊢;have ae':hC ms (cm.after ⟨S,⟨p,f,0,v,[],[],R,[]⟩,[]⟩ sw (cB (gs ms p f) 0).length [v3]) [⟨105,0,0⟩]:=⟨cB (gs ms p f) 0,[],by simp[kV,cm.after],by simp[cm.after]⟩;have wu:=R1 (c:=[]) (st:=[]) (v:=v3) ae' rfl;have Ly:=hC.at ae' (ez.zn rj aR) ⟨by simp,by simp[cm.after],by simp,by simp,by simp,by simp⟩;simp only[cm.after,nx,if_false,List.getLast?_nil,bG.ok]at wu;rw[if_neg (by simp)]at wu;exact af _ (.over Ly wu)
 ·rw[if_pos aR]at af ⊢;exact af
theorem kt.ok{ms:dQ}{m:cm}{r:p2}(h:kt ms m r):wP ms m:=by cases h<;>assumption
theorem auw{h:ad}{a b c d e:I}{m:dq}{w:cd}{eP:List bH}(hw:bW ak m h w)(U:dV ak m h [a,b,c,d,e] eP):CallsD ak rk eP.toArray .returning w λe k8 aJ=>(∃v,e= .returned v)/\k8= .returning/\∃aZ,Ext m h aZ h/\bW ak aZ h aJ/\Below m.base w aJ:=by refine JS cC Sp aeS aeT aeU aeY aeZ (ig aeX) aeV aeW (cv:=[a,b,c,d,e,.fC,.aD,.aD,.bool R,.aD]) ?_ (ae0 _ _ _ _ _ .fC) hw U (by simp) .fC .returning λc al cs=>.inr ⟨Z9 c al cs,rfl,rfl⟩;unfold LT;have afa:pD .iface Z Q .neq .fC .fC=j (.bool R):=rfl;simp only[ap,afa]
theorem auy{h:ad}{nK se co x3 kF bp:Nat}{m:dq}{w:cd}{eP:List bH}{u:bH}{k fuel left:Int}{cJ z2:I}{bO:List I}{bC dj:I}(hw:bW ak m h w)(U:dV ak m h [.ptr nK 0 0,.ptr se 0 0,.ptr co 0 0,.ptr x3 0 0,.ptr kF 0 0] eP)(Bp:bF ak m h (.iface lZ (.int o k)) u)(bn:h.cell nK=j [[.int o fuel]])(hm:h.cell se=j [[.ptr bp 0 0]])(ag:h.cell bp=j [[cJ,z2,.int o left]])(au:h.cell co=j [bO])(ai:bO.length=3)(bE:h.cell x3=j [[bC]])(al:h.cell kF=j [[dj]])(ep:x3≠co)(gC:kF≠co)(jS:kF≠x3)(Du:hq o (fuel - left)=fuel - left):CallsD ak rk eP.toArray (.panicking [{v:=u,recovered:=R}]) w λe k8 aJ=>(∃v,e= .returned v)/\k8= .panicking [{v:=u,recovered:=Q}]/\∃aZ,Ext m h aZ (((h.set co (j [bB])).set x3 (j [[.int o (fuel - left)]])).set kF (j [[.int o k]]))/\bW ak aZ (((h.set co (j [bB])).set x3 (j [[.int o (fuel - left)]])).set kF (j [[.int o k]])) aJ/\Below m.base w aJ:=by
 have sW:(h.set co (j [bB])).cell x3=j [[bC]]:=(dL ep).trans bE;have St:((h.set co (j [bB])).set x3 (j [[.int o (fuel - left)]])).cell kF=j [[dj]]:=(dL jS).trans ((dL gC).trans al);refine JS cC Sp aeS aeT aeU aeY aeZ (ig aeX) aeV aeW (cv:=[.ptr nK 0 0,.ptr se 0 0,.ptr co 0 0,.ptr x3 0 0,.ptr kF 0 0,.iface lZ (.int o k),.int o k,.bool Q,.bool Q,.bool R]) ?_ (ae0 _ _ _ _ _ (.iface lZ (.int o k))) hw U (by simp) Bp (.panicking [{v:=u,recovered:=Q}]) λc al cs=>.inl (Z' c al cs);unfold LT;have afb:pD .iface Z Q .neq (.iface lZ (.int o k)) .fC=j (.bool Q):=rfl;have Su:yL lZ Q (.iface lZ (.int o k))=j (.bx [.int o k,.bool Q]):=by simp[yL]
 simp only[ap,aw,afb,Su,bn,hm,ag,au,ai,sW,St,Du]
open Go Go.RowKit
abbrev sf(b bp:Nat)(code used:Int)(out:List I)(fuel:Int)(r:List I)(L:List b2):List b2:=bm (b+1+1+1+1+1+1) [[.ptr bp 0 0]]::bm (b+1+1+1+1) [[.int o code]]::bm (b+1+1+1) [[.int o used]]::bm (b+1+1) [out]::bm (b+1) [[.int o fuel]]::bm b [r]::L
abbrev wy(aG b:Nat)(p f:Int)(r:List I)(fuel:Int)(x y z:I):List I:=[.ptr aG 0 0,.int o p,.int o f,.agg r,.int o fuel,.ptr b 0 0,.ptr (b+1) 0 0,.ptr (b+1+1) 0 0,.ptr (b+1+1+1) 0 0,.ptr (b+1+1+1+1) 0 0,.int o 0,.ptr (b+1+1+1+1+1+1) 0 0,x,y,.bool R,.bool R,.bool R,z]
def auz(am:ad)(aL aF:Nat->Prop)(c:hU)(L:List b2)(b:Nat)(p f:Int)(r:List I)(fuel:Int)(q:p2)(x:h4)(V:List I)(E:ad):Prop:=(∃x y z,V=wy c.aG b p f r fuel x y z)/\match q with
 |.go _=>False
 |.over S v=>x= .ret/\∃gV bZ,ck v bZ/\aQ am aL aF E (sf b c.bp 0 (fuel - (S.left:Int)) bZ fuel r (oy c L 0 gV S))
 |.fail S k=>x= .panic (.iface lZ (.int o k))/\∃b4:fl,b4.S=S/\aQ am aL aF E (sf b c.bp 0 0 bB fuel r (put c L 0 b4))
section
variable{h E am:ad}{ah ao aL aF:Nat->Prop}{L:List b2}{c:hU}
theorem auA{BC BD BE BF BG BH:b2}{gV:Nat}{S:bG}:oy c (BC::BD::BE::BF::BG::BH::put c L 0 b4) (0+1+1+1+1+1+1) gV S=BC::BD::BE::BF::BG::BH::oy c L 0 gV S:=by
 have:oy c (put c L 0 b4) 0 gV S=oy c L 0 gV S:=by unfold oy;rw[hn]
 exact congrArg (λl=>BC::BD::BE::BF::BG::BH::l) this
theorem afc{BC BD BE BF BG BH:b2}{n:fl}:put c (BC::BD::BE::BF::BG::BH::put c L 0 n) (0+1+1+1+1+1+1) b4=BC::BD::BE::BF::BG::BH::put c L 0 b4:=by have:put c (put c L 0 n) 0 b4=put c L 0 b4:=hn;exact congrArg (λl=>BC::BD::BE::BF::BG::BH::l) this
theorem auB{i:Nat}(ai:i+3<L.length)(b4:fl):eK c (put c L i b4) i b4:=by
 refine⟨?_,?_,?_,?_⟩<;>rw[ts]
 ·rw[if_pos (by omega),if_neg (by omega),if_neg (by omega),if_neg (by omega),if_pos rfl]
 ·rw[if_pos (by omega),if_neg (by omega),if_neg (by omega),if_pos rfl]
 ·rw[if_pos (by omega),if_neg (by omega),if_pos rfl]
 ·rw[if_pos (by omega),if_pos rfl]
theorem Sv{b bp:Nat}{code used:Int}{out:List I}{fuel:Int}{r:List I}(ai:3<L.length)(n:fl):eK c (sf b bp code used out fuel r (put c L 0 n)) (0+1+1+1+1+1+1) n:=((((((auB (i:=0) ai n).cons (bm b [r])).cons (bm (b+1) [[.int o fuel]])).cons (bm (b+1+1) [out])).cons (bm (b+1+1+1) [[.int o used]])).cons (bm (b+1+1+1+1) [[.int o code]])).cons (bm (b+1+1+1+1+1+1) [[.ptr bp 0 0]])
def auC:p2->Prop
 |.go _=>False
 |.over S v=>S.left<=2000/\v.size<=100000
 |.fail S _=>S.left<=2000
theorem afd(df:3<L.length)(al:c.ms.length=4)(hm:wQ c.ms){b:Nat}{p f:Int}{r:List I}{fuel:Int}(aAQ:0<=fuel/\fuel<=2000){m:cm}{q:p2}(aj:kt c.ms m q):auC q->∀(n:fl) (h:ad) (x y z:I),n.m=m->aQ am aL aF h (sf b c.bp 0 0 bB fuel r (put c L 0 n))->∃e cv af,bu (aM ak T) 18 [.ff Dd,.bQ [],.b1 1,.bQ [],.halt []] (wy c.aG b p f r fuel x y z) [] h=j (e,cv,af)/\auz am aL aF c L b p f r fuel q e cv af:=by
 induction aj with
 |@go m aZ q ok az aj aW=>
   intro aE n h x y z aq s;subst aq;have iI:=Sv (c:=c) (b:=b) (bp:=c.bp) (code:=0) (used:=0) (out:=bB) (fuel:=fuel) (r:=r) df n;obtain⟨a8,F,av,tw⟩:=Sm s iI al hm ok λafe e=>by rw[az]at e;cases e;exact aj.ok.dg
   rw[az]at tw;obtain⟨b0,rfl,⟨bO,bC⟩,gV,aY⟩:=tw;rw[afc]at aY;have c0:=(s.cell 0 rfl).1;have bf:=aY.push [b0];obtain⟨e,cv,af,bs,dj⟩:=aW aE ⟨gV,aZ.S,aZ.below,aZ.top⟩ (F.push [b0]) (.ptr F.n 0 0) (.bool R) (.bool R) rfl bf.drop;refine⟨e,cv,af,?_,dj⟩;rw[<-bs];rw[dd Dd.eq_1];simp only[ap,aw,aA,ar,cz,cx,c0,av,bO,bC]
 |@over m S v ok az=>
   intro aE n h x y z aq s;subst aq;have iI:=Sv (c:=c) (b:=b) (bp:=c.bp) (code:=0) (used:=0) (out:=bB) (fuel:=fuel) (r:=r) df n;obtain⟨a8,F,av,tw⟩:=Sm s iI al hm ok λafe e=>by rw[az]at e;cases e
   rw[az]at tw;obtain⟨b0,rfl,U,gV,aY⟩:=tw;rw[auA]at aY;obtain⟨Jj,sx⟩:=aE;obtain⟨bO,bC⟩:=U.dx;have c0:=(s.cell 0 rfl).1;have bf:aQ am aL aF (F.push [b0]) (bm F.n [b0]::sf b c.bp 0 0 bB fuel r (oy c L 0 gV S)):=aY.push [b0];obtain⟨bK,ax,hO⟩:=Sn _ v (bS _) sx b0 (F.push [b0]) U;have hO:ck v bK:=by rw[id_eq]at hO;exact hO
   obtain⟨dj,eQ⟩:=hO.dx;have Hs:(oy c L 0 gV S)[0]? =j (Bm c.bp c.aG gV (S.left:Int)):=by unfold oy;rw[List.getElem?_set_self (by rw[Lf];omega)]
   have se:=(bf.cell 7 Hs).1;have rb:=(bf.cell 1 rfl).1;have nK:=(bf.cell 5 rfl).1;have co:=(bf.cell 4 rfl).1;have bP:=bf.set 4 rfl [bK];have bP:aQ am aL aF _ (bm F.n [b0]::sf b c.bp 0 0 bK fuel r (oy c L 0 gV S)):=bP;have auD:=(bP.cell 7 Hs).1;have auE:=(bP.cell 1 rfl).1;have auF:=(bP.cell 5 rfl).1;have auG:=(bP.cell 3 rfl).1;have cj:=bP.set 3 rfl [[.int o (fuel - (S.left:Int))]];have cj:aQ am aL aF _ (bm F.n [b0]::sf b c.bp 0 (fuel - (S.left:Int)) bK fuel r (oy c L 0 gV S)):=cj;have auH:=(cj.cell 2 rfl).1;have cT:=cj.set 2 rfl [[.int o 0]];have w:hq o (fuel - (S.left:Int))=fuel - (S.left:Int):=gD (by omega) (by omega);have f2:b9 2 (.ptr c.bp 0 0)=j (.ptr c.bp 0 2):=rfl;refine⟨.ret,wy c.aG b p f r fuel (.ptr F.n 0 0) (.bool Q) (.bool Q),_,?_,⟨_,_,_,rfl⟩,rfl,gV,bK,hO,cT.drop⟩;rw[dd Dd.eq_1];simp only[ap,aw,aA,ar,cz,cx,c0,av,bO,bC,dj,eQ,ax,se,rb,nK,co,auD,auE,auF,auG,auH,w,f2]
 |@fail m S k ok az=>
   intro aE n h x y z aq s;subst aq;have iI:=Sv (c:=c) (b:=b) (bp:=c.bp) (code:=0) (used:=0) (out:=bB) (fuel:=fuel) (r:=r) df n;obtain⟨a8,F,av,tw⟩:=Sm s iI al hm ok λafe e=>by rw[az]at e;cases e
   rw[az]at tw;obtain⟨rfl,b4,qN,aY⟩:=tw;rw[afc]at aY;have c0:=(s.cell 0 rfl).1;refine⟨.panic (.iface lZ (.int o k)),wy c.aG b p f r fuel x y z,_,?_,⟨_,_,_,rfl⟩,rfl,b4,qN,aY⟩;rw[dd Dd.eq_1];simp only[ap,aw,aA,ar,cz,cx,c0,av]
end
open Go Go.RowKit
abbrev Sw:List nC:=[.cell Q 3 7,.cell R 1 8,.cell R 1 9]
noncomputable def zq(V:List I)(h:ad):Option ((I⊕I)×ad):=((iS V h Sw).map iY).map λv=>(.inl v,h)
noncomputable def x4(x:k3)(k:List I->ad->Option ((I⊕I)×ad)):Option ((I⊕I)×ad):=match x with
 |some (.halt _,V,h)=>k V h
 |some (.ret,V,h)=>zq V h
 |_=>Z
noncomputable def LJ(args:List I)(h:ad)(x:k3):Option ((I⊕I)×ad):=match x with
 |some (.ret,V,cc)=>zq V cc
 |some (.panic (.iface _ (.int _ k)),V,cc)=>match cc.cell (h.n+1+1+1+1+1),args with
   |some [[_,_,.int _ left]],[_,_,_,_,.int _ fuel]=>zq V (((cc.set (h.n+1+1) (j [bB])).set (h.n+1+1+1) (j [[.int o (fuel - left)]])).set (h.n+1+1+1+1) (j [[.int o k]]))
   |_,_=>Z
 |_=>Z
noncomputable abbrev pO:=aM (ak) T
noncomputable def D2(args:List I)(h:ad):Option ((I⊕I)×ad):=x4 (bu pO 18 [.bQ JT,.halt [.code wx]] (args++ar (sd.length - args.length) .aD) [] h) λauI F=>
 x4 (bu pO 18 [.bQ yX,.halt [.code uV]] auI [] F) λBq J=>
 x4 (bu pO 18 [.bQ JW,.halt [.code x1]] Bq [] J) λauJ af=>
 x4 (bu pO 18 [.bQ JX,.halt [.code x2]] auJ [] af) λauK aB=>
 x4 (bu pO 18 [.bQ JY,.halt [.code qw]] auK [] aB) λauL bw=>
 LJ args h (bu pO 18 [.bQ FT,.halt []] auL [] bw)
def aff(ah ao:Nat->Prop)(aG cl cr:Nat)(ms:dQ)(S:bG)(h:ad)(d:bG×ay×Int×Int)(q:(I⊕I)×ad):Prop:=∃bZ E,q=(.inl (.bx [.agg bZ,.int o d.2.2.1,.int o d.2.2.2]),E)/\ck d.2.1 bZ/\en h ah ao E (cX [ha aG cl cr ms d.1.kept,iG cl d.1.G,bv cr d.1.cells d.1.log])
def LK(ah ao:Nat->Prop)(aG cl cr:Nat)(ms:dQ)(S:bG)(h:ad)(args:List I)(d:bG×ay×Int×Int):Prop:=∃q,D2 args h=j q/\AC ak jq args h q/\aff ah ao aG cl cr ms S h d q
section
variable{h E am:ad}{ah ao aL aF:Nat->Prop}{L:List b2}{aG cl cr:Nat}{ms:dQ}{S:bG}{p f fuel:Int}{v:ay}{r:List I}
abbrev ld(b:Nat)(code used:Int)(out:List I)(fuel:Int)(r:List I)(L:List b2):List b2:=bm (b+1+1+1+1) [[.int o code]]::bm (b+1+1+1) [[.int o used]]::bm (b+1+1) [out]::bm (b+1) [[.int o fuel]]::bm b [r]::L
abbrev tx(aG b:Nat)(p f:Int)(r:List I)(fuel:Int)(c x y z:I):List I:=[.ptr aG 0 0,.int o p,.int o f,.agg r,.int o fuel,.ptr b 0 0,.ptr (b+1) 0 0,.ptr (b+1+1) 0 0,.ptr (b+1+1+1) 0 0,.ptr (b+1+1+1+1) 0 0,c,.aD,.aD,.aD,x,y,z,.aD]
abbrev kd(h:ad)(r:List I)(fuel:Int):ad:=((((h.push [r]).push [[.int o fuel]]).push [bB]).push [[.int o 0]]).push [[.int o 0]]
abbrev rl(aG:Nat)(p f:Int)(r:List I)(fuel:Int):List I:=[.ptr aG 0 0,.int o p,.int o f,.agg r,.int o fuel]
theorem Ht(U:ck v r):bu pO 18 [.bQ JT,.halt [.code wx]] (rl aG p f r fuel++ar (sd.length - (rl aG p f r fuel).length) .aD) [] h=j (.halt [.code wx],tx aG h.n p f r fuel .aD .aD .aD .aD,kd h r fuel):=by obtain⟨bO,bC⟩:=U.dx;unfold JT;simp only[ap,aw,aA,ar,bO,bC]
theorem Hu(s:aQ am aL aF h L):aQ am aL aF (kd h r fuel) (ld h.n 0 0 bB fuel r L):=((((s.push [r]).push [[.int o fuel]]).push [bB]).push [[.int o 0]]).push [[.int o 0]]
theorem Sx{V:List I}{E:ad}{O u c:Nat}{bZ:List I}{used code:Int}(cQ:V.getD 7 .aD= .ptr O 0 0)(g7:V.getD 8 .aD= .ptr u 0 0)(nt:V.getD 9 .aD= .ptr c 0 0)(au:E.cell O=j [bZ])(aj:bZ.length=3)(bE:E.cell u=j [[.int o used]])(al:E.cell c=j [[.int o code]]):(iS V E Sw).map iY=j (.bx [.agg bZ,.int o used,.int o code]):=by
 have av:cO Q 3 E (.ptr O 0 0)=j (.agg bZ):=by rw[gm,au];exact jP aj
 have ax:cO R 1 E (.ptr u 0 0)=j (.int o used):=by rw[gm,bE];rfl
 have bs:cO R 1 E (.ptr c 0 0)=j (.int o code):=by rw[gm,al];rfl
 simp only[iS,cQ,g7,nt,av,ax,bs,da,g3,iY]
theorem LL(U:ck v r):oi ak T jq 93 sd (rl aG p f r fuel) h (.halt [.code wx]) (tx aG h.n p f r fuel .aD .aD .aD .aD) (kd h r fuel):=(oi.start D1 auh aui (aut _ _ _ _ _)).next (aI:=18) cC auj (ig uW) aun auq (Ht U)
abbrev BI(h:ad)(r:List I)(fuel code:Int):ad:=(((kd h r fuel).set (h.n+1+1) (j [bB])).set (h.n+1+1+1) (j [[.int o 0]])).set (h.n+1+1+1+1) (j [[.int o code]])
theorem afg(s:aQ am aL aF h L)(code:Int):aQ am aL aF (BI h r fuel code) (ld h.n code 0 bB fuel r L):=by have aY:aQ am aL aF (kd h r fuel) (ld h.n 0 0 bB fuel r L):=Hu s;have bf:aQ am aL aF _ (ld h.n 0 0 bB fuel r L):=aY.set 2 rfl [bB];have bP:aQ am aL aF _ (ld h.n 0 0 bB fuel r L):=bf.set 1 rfl [[.int o 0]];exact bP.set 0 rfl [[.int o code]]
theorem D3{V:List I}(cQ:V.getD 7 .aD= .ptr (h.n+1+1) 0 0)(g7:V.getD 8 .aD= .ptr (h.n+1+1+1) 0 0)(nt:V.getD 9 .aD= .ptr (h.n+1+1+1+1) 0 0)(s:aQ am aL aF h L)(code:Int):(iS V (BI h r fuel code) Sw).map iY=j (.bx [.agg bB,.int o 0,.int o code]):=by have aY:aQ am aL aF (BI h r fuel code) (ld h.n code 0 bB fuel r L):=afg s code;exact Sx cQ g7 nt (aY.cell 2 rfl).1 rfl (aY.cell 1 rfl).1 (aY.cell 0 rfl).1
theorem Sy(x:(cX [ha aG cl cr ms S.kept,iG cl S.G,bv cr S.cells S.log]).A h ah ao)(code:Int):aff ah ao aG cl cr ms S h (S,cp,0,code) (.inl (.bx [.agg bB,.int o 0,.int o code]),BI h r fuel code):=⟨bB,_,rfl,qq,(afg (aQ.start x) code).drop.drop.drop.drop.drop⟩
theorem auM(U:ck v r)(x:(cX [ha aG cl cr ms S.kept,iG cl S.G,bv cr S.cells S.log]).A h ah ao)(aj:fuel<0\/2000<fuel\/p<0\/4<=p):LK ah ao aG cl cr ms S h (rl aG p f r fuel) (S,cp,0,1):=by
 have aY:aQ h ah ao (kd h r fuel) (ld h.n 0 0 bB fuel r _):=Hu (aQ.start x);have a6:=(aY.cell 0 rfl).1;have c2:=(aY.cell 1 rfl).1;have c3:=(aY.cell 2 rfl).1;have c4:=(aY.cell 3 rfl).1;have bf:aQ h ah ao _ (ld h.n 0 0 bB fuel r _):=aY.set 2 rfl [bB];have d2:=(bf.cell 1 rfl).1;have bP:aQ h ah ao _ (ld h.n 0 0 bB fuel r _):=bf.set 1 rfl [[.int o 0]];have ax:=(bP.cell 0 rfl).1;have run:bu pO 18 [.bQ yX,.halt [.code uV]] (tx aG h.n p f r fuel .aD .aD .aD .aD) [] (kd h r fuel)=j (.ret,tx aG h.n p f r fuel .aD (.bool Q) .aD .aD,BI h r fuel 1):=by
  unfold yX;by_cases F:fuel<0
  ·have c8:decide (fuel<0)=Q:=decide_eq_true F;simp only[ap,aw,c3,c4,d2,ax,c8]
  ·have c8:decide (fuel<0)=R:=decide_eq_false F;by_cases J:2000<fuel
   ·have c6:decide (2000<fuel)=Q:=decide_eq_true J;simp only[ap,aw,c3,c4,d2,ax,c8,c6]
   ·have c6:decide (2000<fuel)=R:=decide_eq_false J;by_cases af:p<0
    ·have fN:decide (p<0)=Q:=decide_eq_true af;simp only[ap,aw,c3,c4,d2,ax,c8,c6,fN]
    ·have fN:decide (p<0)=R:=decide_eq_false af;have hu:decide (4<=p)=Q:=decide_eq_true (by omega);simp only[ap,aw,c3,c4,d2,ax,c8,c6,fN,hu]
 refine⟨_,?_,((LL U).next (aI:=18) cC LG (ig uW) LH LI run).ret D1 Hr (D3 rfl rfl rfl (aQ.start x) 1),Sy x 1⟩;unfold D2;rw[Ht U];simp only[x4];rw[run];simp only[zq];rw[D3 rfl rfl rfl (aQ.start x) 1];rfl
theorem afh{i:Nat}(s:aQ am aL aF h L){kept:List ay}(ae:L[i]? =j (ha aG cl cr ms kept))(ai:ms.length=kept.length)(aB:ms.length=4){P:Nat}(hp:P<4):(∀q:kf,fg Z (j (4,5)) (.ptr aG 0 2) (.int q (P:Int))=j (.ptr aG 0 (2+P*5)))/\(∀k:Nat,cO R k h (.ptr aG 0 (2+P*5))=j (.bool (ms.getD P Z).isSome))/\(∀k:Nat,cO R k h (.ptr aG 0 (2+P*5+1))=j (qm (ms.getD P Z))):=by
 obtain⟨ah,ao,x⟩:=s.get i ae;obtain⟨row,a6,kH,_,_,_,i6⟩:=La x ai;obtain⟨bT,bM,_⟩:=i6 P (by rw[aB];exact hp);refine⟨λq=>by simp[fg,hp],λk=>?_,λk=>?_⟩
 ·rw[gm,a6,da,qT,da,qi,bT]
 ·rw[gm,a6,da,qT,da,qi,bM]
theorem BT(m:Option (List bk)):gY (qm m)=j (m.getD []).length/\∀s,ko s (j Sf) (qm m)=Q:=by
 cases m with
 |none=>exact⟨rfl,λs=>rfl⟩
 |some L=>exact⟨(Bu L).1,λs=>(Bu L).2.1 s⟩
theorem auN(U:ck v r)(x:(cX [ha aG cl cr ms S.kept,iG cl S.G,bv cr S.cells S.log]).A h ah ao)(aB:ms.length=4)(cG:S.Good)(aj:¬(fuel<0\/2000<fuel\/p<0\/4<=p))(aq:(ms.getD p.toNat Z).isNone\/f<0\/((iN ms p).length:Int)<=f):LK ah ao aG cl cr ms S h (rl aG p f r fuel) (S,cp,0,8):=by
 have aY:aQ h ah ao (kd h r fuel) (ld h.n 0 0 bB fuel r [ha aG cl cr ms S.kept,iG cl S.G,bv cr S.cells S.log]):=Hu (aQ.start x);have a6:=(aY.cell 0 rfl).1;have c2:=(aY.cell 1 rfl).1;have c3:=(aY.cell 2 rfl).1;have c4:=(aY.cell 3 rfl).1;have bf:aQ h ah ao _ (ld h.n 0 0 bB fuel r _):=aY.set 2 rfl [bB];have d2:=(bf.cell 1 rfl).1;have bP:aQ h ah ao _ (ld h.n 0 0 bB fuel r _):=bf.set 1 rfl [[.int o 0]];have ax:=(bP.cell 0 rfl).1;have c8:decide (fuel<0)=R:=decide_eq_false (by omega);have c6:decide (2000<fuel)=R:=decide_eq_false (by omega);have fN:decide (p<0)=R:=decide_eq_false (by omega);have hu:decide (4<=p)=R:=decide_eq_false (by omega);obtain⟨P,eJ⟩:=Int.eq_ofNat_of_zero_le (show 0<=p by omega);subst eJ;obtain⟨bR,lf,dk⟩:=afh aY (i:=5) (kept:=S.kept) rfl (aB.trans cG.kept.symm) aB (P:=P) (by omega);obtain⟨m6,nK⟩:=BT (ms.getD P Z);have f2:b9 2 (.ptr aG 0 0)=j (.ptr aG 0 2):=rfl;have f0:b9 0 (.ptr aG 0 (2+P*5))=j (.ptr aG 0 (2+P*5)):=rfl;have f1:b9 1 (.ptr aG 0 (2+P*5))=j (.ptr aG 0 (2+P*5+1)):=rfl;have run:bu pO 18 [.bQ yX,.halt [.code uV]] (tx aG h.n P f r fuel .aD .aD .aD .aD) [] (kd h r fuel)=j (.ret,tx aG h.n P f r fuel .aD (.bool R) (.bool Q) .aD,BI h r fuel 8):=by
  unfold yX;by_cases F:(ms.getD P Z).isSome=Q
  ·by_cases J:f<0
   ·have j4:decide (f<0)=Q:=decide_eq_true J;simp only[ap,aw,c3,c4,d2,ax,c8,c6,fN,hu,bR,lf,f0,f2,F,j4]
   ·have j4:decide (f<0)=R:=decide_eq_false J;have iD:decide ((((ms.getD P Z).getD []).length:Int)<=f)=Q:=decide_eq_true (by
     rcases aq with aq|aq|aq
     ·rw[show((P:Nat):Int).toNat=P from rfl]at aq;cases hm:ms.getD P Z with
      |none=>rw[hm]at F;cases F
      |some l=>rw[hm]at aq;cases aq
     ·exact absurd aq J
     ·exact aq)
    simp only[ap,aw,c3,c4,d2,ax,c8,c6,fN,hu,bR,lf,dk,f0,f1,f2,F,j4,m6,nK,iD]
  ·have n8:(ms.getD P Z).isSome=R:=by simpa using F
   simp only[ap,aw,c3,c4,d2,ax,c8,c6,fN,hu,bR,lf,f0,f2,n8]
 refine⟨_,?_,((LL U).next (aI:=18) cC LG (ig uW) LH LI run).ret D1 Hr (D3 rfl rfl rfl (aQ.start x) 8),Sy x 8⟩;unfold D2;rw[Ht U];simp only[x4];rw[run];simp only[zq];rw[D3 rfl rfl rfl (aQ.start x) 8];rfl
theorem afi(aY:aQ am aL aF (kd h r fuel) (ld h.n 0 0 bB fuel r (ha aG cl cr ms S.kept::L)))(aB:ms.length=4)(cG:S.Good)(aj:¬(fuel<0\/2000<fuel\/p<0\/4<=p))(aq:¬((ms.getD p.toNat Z).isNone\/f<0\/((iN ms p).length:Int)<=f)):bu pO 18 [.bQ yX,.halt [.code uV]] (tx aG h.n p f r fuel .aD .aD .aD .aD) [] (kd h r fuel)=j (.halt [.code uV],tx aG h.n p f r fuel .aD (.bool R) (.bool R) .aD,kd h r fuel):=by
 have c4:=(aY.cell 3 rfl).1;have c8:decide (fuel<0)=R:=decide_eq_false (by omega);have c6:decide (2000<fuel)=R:=decide_eq_false (by omega);have fN:decide (p<0)=R:=decide_eq_false (by omega);have hu:decide (4<=p)=R:=decide_eq_false (by omega);obtain⟨P,eJ⟩:=Int.eq_ofNat_of_zero_le (show 0<=p by omega);subst eJ;obtain⟨bR,lf,dk⟩:=afh aY (i:=5) (kept:=S.kept) rfl (aB.trans cG.kept.symm) aB (P:=P) (by omega);obtain⟨m6,nK⟩:=BT (ms.getD P Z);have f2:b9 2 (.ptr aG 0 0)=j (.ptr aG 0 2):=rfl;have f0:b9 0 (.ptr aG 0 (2+P*5))=j (.ptr aG 0 (2+P*5)):=rfl;have f1:b9 1 (.ptr aG 0 (2+P*5))=j (.ptr aG 0 (2+P*5+1)):=rfl;have LM:¬(ms.getD P Z).isNone=Q:=λe=>aq (.inl e);have F:(ms.getD P Z).isSome=Q:=by cases hm:ms.getD P Z with
  |none=>rw[hm]at LM;exact absurd rfl LM
  |some l=>rfl
 have j4:decide (f<0)=R:=decide_eq_false λe=>aq (.inr (.inl e));have iD:decide ((((ms.getD P Z).getD []).length:Int)<=f)=R:=decide_eq_false λe=>aq (.inr (.inr e));unfold yX;simp only[ap,c4,c8,c6,fN,hu,bR,lf,dk,f0,f1,f2,F,j4,m6,nK,iD]
theorem afj(aY:aQ am aL aF (kd h r fuel) (ld h.n 0 0 bB fuel r L))(U:ck v r):bu pO 18 [.bQ JW,.halt [.code x1]] (tx aG h.n p f r fuel .aD (.bool R) (.bool R) .aD) [] (kd h r fuel)=if v.code=0 then j (.halt [.code x1],tx aG h.n p f r fuel (.int o 0) (.bool R) (.bool R) (.bool R),kd h r fuel)else j (.ret,tx aG h.n p f r fuel (.int o v.code) (.bool R) (.bool R) (.bool Q),BI h r fuel v.code):=by
 have a6:=(aY.cell 0 rfl).1;have c2:=(aY.cell 1 rfl).1;have c3:=(aY.cell 2 rfl).1;have c5:=(aY.cell 4 rfl).1;have bf:aQ am aL aF _ (ld h.n 0 0 bB fuel r _):=aY.set 2 rfl [bB];have d2:=(bf.cell 1 rfl).1;have bP:aQ am aL aF _ (ld h.n 0 0 bB fuel r _):=bf.set 1 rfl [[.int o 0]];have ax:=(bP.cell 0 rfl).1;have bU:=KN (h:=kd h r fuel) U;obtain⟨bO,bC⟩:=U.dx;unfold JW;by_cases aR:v.code=0
 ·have k:decide (v.code=0)=Q:=decide_eq_true aR;rw[if_pos aR];rw[aR]at bU k;simp only[ap,aw,cx,c3,c5,d2,ax,bO,bU]
 ·have k:decide (v.code=0)=R:=decide_eq_false aR;rw[if_neg aR];simp only[ap,aw,cx,c3,c5,d2,ax,bO,bU,k]
end
open Go Go.RowKit
section
variable{h E am:ad}{ah ao aL aF:Nat->Prop}{L:List b2}{aG cl cr:Nat}{ms:dQ}{S:bG}{p f fuel:Int}{v:ay}{r:List I}
theorem auO{bp bh:Nat}{left:Int}{top:h2}{a:List I}{g:I}(aN:ck top.arg a)(a7:fH 3 g (gn top.ec))(az:top.stack=[])(aq:top.names=[])(x:(cX (bm bp [[.ptr aG 0 0,.br bh 0 1 fk,.int o left]]::bm bh [gu top a .aC .aC g]::L)).A h ah ao):(cX (iJ bp aG bh left [] top::L)).A h ah ao:=by refine tf (λh ah ao x=>?_) (λ_ _ _ y=>y) (P8 x);obtain⟨eH,eI,dX,eb,bY,db,r⟩:=x;refine⟨⟨[],gu top a .aC .aC g,[]⟩,eH,eI,dX,eb,bY,⟨dX,eb,λ_=>False,λ_=>False,db,⟨λ_=>False,λ_=>False,λ_=>False,λ_=>False,adO aN a7 az aq,⟨trivial,λ_ h=>h,λ_ h=>h⟩,λk=>by simp,λD=>by simp,λ_ h=>h.elim,λ_ h=>h.elim⟩,λk=>by simp,λD=>by simp,λ_ _ h=>h,λ_ _ h=>h⟩,r⟩
abbrev zr(p f:Int)(v:ay):h2:=⟨p,f,0,v,[],[],R,[]⟩
abbrev x5(h:ad)(aG:Nat)(r:List I)(fuel:Int):ad:=((kd h r fuel).push [[.ptr aG 0 0,.aC,.int o fuel]]).push [[.ptr (h.n+1+1+1+1+1) 0 0]]
abbrev BJ(h:ad):Nat:=h.n+1+1+1+1+1+1+1
abbrev D4(h:ad)(aG:Nat)(p f:Int)(v:ay)(r bK:List I)(fuel:Int):ad:=((x5 h aG r fuel).push [gu (zr p f v) bK .aC .aC .aC]).set (h.n+1+1+1+1+1) (j [[.ptr aG 0 0,.br (BJ h) 0 1 fk,.int o fuel]])
theorem auP(aY:aQ am aL aF (kd h r fuel) (ld h.n 0 0 bB fuel r L)):bu pO 18 [.bQ JX,.halt [.code x2]] (tx aG h.n p f r fuel (.int o 0) (.bool R) (.bool R) (.bool R)) [] (kd h r fuel)=j (.halt [.code x2],wy aG h.n p f r fuel .aD .aD .aD,x5 h aG r fuel):=by have c4:=(aY.cell 3 rfl).1;have c5:((((kd h r fuel).push [[.ptr aG 0 0,.aC,.int o fuel]]).push [[.fx]]).cell (h.n+1+1+1+1+1+1))=j [[.fx]]:=fU (h:=(kd h r fuel).push [[.ptr aG 0 0,.aC,.int o fuel]]);have fp:∀x,(((kd h r fuel).push [[.ptr aG 0 0,.aC,.int o fuel]]).push [[.fx]]).set (h.n+1+1+1+1+1+1) (j x)=((kd h r fuel).push [[.ptr aG 0 0,.aC,.int o fuel]]).push x:=λx=>q1 (h:=(kd h r fuel).push [[.ptr aG 0 0,.aC,.int o fuel]]);unfold JX;simp only[ap,aw,ct,c4,c5,fp]
theorem afk(aY:aQ am aL aF (kd h r fuel) (ld h.n 0 0 bB fuel r L)):aQ am aL aF (x5 h aG r fuel) (bm (h.n+1+1+1+1+1+1) [[.ptr (h.n+1+1+1+1+1) 0 0]]::bm (h.n+1+1+1+1+1) [[.ptr aG 0 0,.aC,.int o fuel]]::ld h.n 0 0 bB fuel r L):=(aY.push _).push _
theorem auQ(aY:aQ am aL aF (kd h r fuel) (ld h.n 0 0 bB fuel r L))(U:ck v r)(e1:v.size<=100000):∃bK,ck v bK/\bu pO 18 [.bQ JY,.halt [.code qw]] (wy aG h.n p f r fuel .aD .aD .aD) [] (x5 h aG r fuel)=j (.halt [.code qw],wy aG h.n p f r fuel .aD .aD .aD,D4 h aG p f v r bK fuel):=by
 obtain⟨bK,ax,hO⟩:=Sn _ v (bS _) e1 r (x5 h aG r fuel) U;have hO:ck v bK:=by rw[id_eq]at hO;exact hO
 refine⟨bK,hO,?_⟩;obtain⟨bO,bC⟩:=U.dx;obtain⟨dj,eQ⟩:=hO.dx;have jb:aQ am aL aF (x5 h aG r fuel) (bm (h.n+1+1+1+1+1+1) [[.ptr (h.n+1+1+1+1+1) 0 0]]::bm (h.n+1+1+1+1+1) [[.ptr aG 0 0,.aC,.int o fuel]]::ld h.n 0 0 bB fuel r L):=afk aY;have c0:=(jb.cell 0 rfl).1;have fp:=(jb.cell 6 rfl).1;have la:=jb.push [gu (zr p f v) bK .aC .aC .aC];have d0:=(la.cell 1 rfl).1;have d1:=(la.cell 2 rfl).1;have f1:b9 1 (.ptr (h.n+1+1+1+1+1) 0 0)=j (.ptr (h.n+1+1+1+1+1) 0 1):=rfl;obtain⟨aer,fv,fT,rfl⟩:∃a b c,bK=[a,b,c]:=by match bK,dj with|[a,b,c],_=>exact⟨a,b,c,rfl⟩
 simp only[List.all_cons,List.all_nil,s3,h8]at eQ;obtain⟨z3,z4,z5⟩:=eQ;have D5:(x5 h aG r fuel).n=BJ h:=rfl;unfold D4;generalize x5 h aG r fuel=an at*;simp only[gu,mn,kq,j6]at d0 d1 ⊢;unfold JY;simp only[ap,aw,ar,ct,cx,c0,fp,bO,ax,d0,d1,f1,z3,z4,z5,D5]
abbrev sg(h:ad):Nat:=h.n+1+1+1+1+1
abbrev LN(h:ad)(aG cl cr:Nat)(ms:dQ)(S:bG)(p f:Int)(v:ay):List b2:=[iJ (sg h) aG (BJ h) (S.left:Int) [] (zr p f v),ha aG cl cr ms S.kept,iG cl S.G,bv cr S.cells S.log]
theorem auR{bK:List I}(aY:aQ am aL aF (kd h r fuel) (ld h.n 0 0 bB fuel r [ha aG cl cr ms S.kept,iG cl S.G,bv cr S.cells S.log]))(hO:ck v bK)(bn:(S.left:Int)=fuel):aQ am aL aF (D4 h aG p f v r bK fuel) (sf h.n (sg h) 0 0 bB fuel r (LN h aG cl cr ms S p f v)):=by have jb:aQ am aL aF (x5 h aG r fuel) (bm (h.n+1+1+1+1+1+1) [[.ptr (h.n+1+1+1+1+1) 0 0]]::bm (h.n+1+1+1+1+1) [[.ptr aG 0 0,.aC,.int o fuel]]::ld h.n 0 0 bB fuel r [ha aG cl cr ms S.kept,iG cl S.G,bv cr S.cells S.log]):=afk aY;have la:=jb.push [gu (zr p f v) bK .aC .aC .aC];have kc:=la.set 2 rfl [[.ptr aG 0 0,.br (BJ h) 0 1 fk,.int o fuel]];have x0:=kc.front 2 rfl;have tv:aQ am aL aF (D4 h aG p f v r bK fuel) (iJ (sg h) aG (BJ h) (S.left:Int) [] (zr p f v)::([bm (h.n+1+1+1+1+1+1) [[.ptr (sg h) 0 0]],bm (h.n+1+1+1+1) [[.int o 0]],bm (h.n+1+1+1) [[.int o 0]],bm (h.n+1+1) [bB],bm (h.n+1) [[.int o fuel]],bm h.n [r]]++[ha aG cl cr ms S.kept,iG cl S.G,bv cr S.cells S.log])):=x0.imp λ_ _ _ x=>auO (top:=zr p f v) hO (.inl ⟨rfl,rfl⟩) rfl rfl (by rw[bn];exact x);exact tv.imp λ_ _ _=>aQ.perm List.perm_middle.symm
theorem auS(U:ck v r)(e1:v.size<=100000)(x:(cX [ha aG cl cr ms S.kept,iG cl S.G,bv cr S.cells S.log]).A h ah ao)(aB:ms.length=4)(a7:yn ms)(hm:wQ ms)(cG:S.Good)(Hv:S.log.length<=900000)(aj:¬(fuel<0\/2000<fuel\/p<0\/4<=p))(aq:¬((ms.getD p.toNat Z).isNone\/f<0\/((iN ms p).length:Int)<=f))(al:v.code=0):LK ah ao aG cl cr ms S h (rl aG p f r fuel) (match e5 ms fuel.toNat p (gs ms p f) v [] 1 {S with left:=fuel.toNat}with
  |(b3,w,c)=>({b3 with left:=S.left},if c=0 then w else cp,fuel - (b3.left:Int),c)):=by
 have aY:aQ h ah ao (kd h r fuel) (ld h.n 0 0 bB fuel r [ha aG cl cr ms S.kept,iG cl S.G,bv cr S.cells S.log]):=Hu (aQ.start x);have o4:=afi (p:=p) (f:=f) aY aB cG aj aq;have rS:=afj (aG:=aG) (p:=p) (f:=f) aY U;rw[if_pos al]at rS;have b0:=auP (aG:=aG) (p:=p) (f:=f) aY;obtain⟨bK,hO,afl⟩:=auQ (aG:=aG) (p:=p) (f:=f) aY U e1;have OJ:((fuel.toNat:Nat):Int)=fuel:=Int.toNat_of_nonneg (by omega);have la:aQ h ah ao (D4 h aG p f v r bK fuel) (sf h.n (sg h) 0 0 bB fuel r (LN h aG cl cr ms {S with left:=fuel.toNat} p f v)):=auR (S:={S with left:=fuel.toNat}) aY hO OJ;have dU:=LL (aG:=aG) (p:=p) (f:=f) (fuel:=fuel) (h:=h) U;have g8:=dU.next (aI:=18) cC LG (ig uW) LH LI o4;have ia:=g8.next (aI:=18) cC ae1 (ig uW) ae2 ae4 rS;have k1:=ia.next (aI:=18) cC auk (ig uW) auo aur b0;have oW:=k1.next (aI:=18) cC aul (ig uW) aup aus afl;have cf:∀q,LJ (rl aG p f r fuel) h (bu pO 18 [.bQ FT,.halt []] (wy aG h.n p f r fuel .aD .aD .aD) [] (D4 h aG p f v r bK fuel))=j q->D2 (rl aG p f r fuel) h=j q:=λq aE=>by unfold D2;rw[Ht U];simp only[x4];rw[o4];simp only;rw[rS];simp only;rw[b0];simp only;rw[afl];simp only;exact aE
 have LO:({S with left:=fuel.toNat}:bG).Good:=⟨cG.wf,cG.cells,cG.kept,cG.qJ⟩;have zR:0<=p:=by omega
 have BB:(ms.getD p.toNat Z).isSome=Q:=by
  cases hm:ms.getD p.toNat Z with
  |none=>rw[hm]at aq;exact absurd (.inl rfl) aq
  |some l=>rfl
 have auT:0<=f:=by
  rcases Int.lt_or_le f 0 with h|h
  ·exact absurd (.inr (.inl h)) aq
  ·exact h
 have th:f.toNat<(iN ms p).length:=by
  rcases Int.lt_or_le f ((iN ms p).length:Int)with h|h
  ·omega
  ·exact absurd (.inr (.inr h)) aq
 have runs:=auv a7 (p:=p) (f:=f) (v:=v) (N:=fuel.toNat) LO (by unfold bG.ba;simp only;omega) (by simp only;omega) al zR BB auT th (bS _);have lb:=sy ms fuel.toNat p (gs ms p f) v [] 1 _ LO al (by simp);have hle:=zT ms fuel.toNat p (gs ms p f) v [] 1 {S with left:=fuel.toNat};generalize e5 ms fuel.toNat p (gs ms p f) v [] 1 {S with left:=fuel.toNat}=Sz at runs lb hle ⊢;obtain⟨b3,w,c⟩:=Sz;simp only at runs lb hle ⊢;have ai:∀V E,bu pO 18 [.bQ FT,.halt []] V [] E=bu pO 18 [.ff Dd,.bQ [],.b1 1,.bQ [],.halt []] V [] E:=λV E=>by unfold FT;rw[OT,OU]
 rw[ai]at cf;have C8:∃k9,(ak).funcs[(rk:Nat)]? =j k9/\(k9.body.isNone=R/\(k9.name== "runtime.NumGoroutine")=R):=⟨_,Sp,by kernel_rfl,by kernel_rfl⟩;have ne:∀{a b:Nat},a<b->¬(b=a):=λh e=>by omega
 by_cases aR:c=0
 ·subst aR;rw[if_neg (by simp)]at runs;obtain⟨e,cv,af,bs,⟨bY,fv,cJ,rfl⟩,rfl,gV,bZ,jg,kc⟩:=afd (c:=⟨sg h,aG,cl,cr,ms⟩) (L:=LN h aG cl cr ms {S with left:=fuel.toNat} p f v) (b:=h.n) (p:=p) (f:=f) (r:=r) (fuel:=fuel) (show 3<4 by decide) aB hm (by omega) runs ⟨by omega,by have:=(f9 (lb.1.val rfl)).1;simp only at this;omega⟩ ⟨BJ h,{S with left:=fuel.toNat},[],zr p f v⟩ _ .aD .aD .aD rfl la;have kl:=Sx (V:=wy aG h.n p f r fuel bY fv cJ) rfl rfl rfl (kc.cell 3 rfl).1 jg.dx.1 (kc.cell 2 rfl).1 (kc.cell 1 rfl).1;refine⟨_,cf _ ?_,Z8 (aI:=18) (gj:=[9,14,10,11,12]) (o6:=[6,11,7,8,9]) cC oW D1 C8 (by decide) rfl (by decide) ae8 (ig uW) ae3 ae5 ((ai _ _).trans bs) ae9 (.ret λm w eP hw yO=>auw hw yO) Hr kl,bZ,af,rfl,jg,?_⟩
  ·rw[bs];simp only[LJ,zq];rw[kl];rfl
  ·exact kc.drop.drop.drop.drop.drop.drop.drop
 ·rw[if_pos aR]at runs;obtain⟨e,cv,af,bs,⟨bY,fv,cJ,rfl⟩,rfl,b4,qN,kc⟩:=afd (c:=⟨sg h,aG,cl,cr,ms⟩) (L:=LN h aG cl cr ms {S with left:=fuel.toNat} p f v) (b:=h.n) (p:=p) (f:=f) (r:=r) (fuel:=fuel) (show 3<4 by decide) aB hm (by omega) runs (show b3.left<=2000 by omega) ⟨BJ h,{S with left:=fuel.toNat},[],zr p f v⟩ _ .aD .aD .aD rfl la;subst qN;have kc:aQ h ah ao af (sf h.n (sg h) 0 0 bB fuel r [iJ (sg h) aG b4.bh (b4.S.left:Int) b4.below b4.top,ha aG cl cr ms b4.S.kept,iG cl b4.S.G,bv cr b4.S.cells b4.S.log]):=kc;have hh:=(kc.cell 0 rfl).1;have c8:=(kc.cell 1 rfl).1;have c6:=(kc.cell 2 rfl).1;have fN:=(kc.cell 3 rfl).1;have hu:=(kc.cell 4 rfl).1;obtain⟨hH,ea,aI,g,a'⟩:=pa kc 6 rfl;have x0:aQ h ah ao _ (sf h.n (sg h) 0 0 bB fuel r _):=kc.set 3 rfl [bB];have tv:aQ h ah ao _ (sf h.n (sg h) 0 (fuel - (b4.S.left:Int)) bB fuel r _):=x0.set 2 rfl [[.int o (fuel - (b4.S.left:Int))]];have BK:aQ h ah ao _ (sf h.n (sg h) c (fuel - (b4.S.left:Int)) bB fuel r [iJ (sg h) aG b4.bh (b4.S.left:Int) b4.below b4.top,ha aG cl cr ms b4.S.kept,iG cl b4.S.G,bv cr b4.S.cells b4.S.log]):=tv.set 1 rfl [[.int o c]];have kl:=Sx (V:=wy aG h.n p f r fuel bY fv cJ) rfl rfl rfl (BK.cell 3 rfl).1 rfl (BK.cell 2 rfl).1 (BK.cell 1 rfl).1;refine⟨_,cf _ ?_,Z8 (aI:=18) (gj:=[9,14,10,11,12]) (o6:=[6,11,7,8,9]) cC oW D1 C8 (by decide) rfl (by decide) ae8 (ig uW) ae3 ae5 ((ai _ _).trans bs) ae9 (.panic _ λm w eP u hw yO bE=>auy hw yO bE hu hh a'.m fN rfl c6 c8 (ne (by omega)) (ne (by omega)) (ne (by omega)) (gD (by omega) (by omega))) Hr kl,bB,((af.set (h.n+1+1) (j [bB])).set (h.n+1+1+1) (j [[.int o (fuel - (b4.S.left:Int))]])).set (h.n+1+1+1+1) (j [[.int o c]]),rfl,?_,?_⟩
  ·rw[bs];simp only[LJ,a'.m,zq];rw[kl];rfl
  ·simp only;rw[if_neg aR];exact qq
  ·exact BK.drop.drop.drop.drop.drop.drop.drop
theorem afm(U:ck v r)(e1:v.size<=100000)(x:(cX [ha aG cl cr ms S.kept,iG cl S.G,bv cr S.cells S.log]).A h ah ao)(aB:ms.length=4)(a7:yn ms)(hm:wQ ms)(cG:S.Good)(Hv:S.log.length<=900000):LK ah ao aG cl cr ms S h (rl aG p f r fuel) (gQ ms p f v fuel S):=by
 unfold gQ;by_cases F:fuel<0\/2000<fuel\/p<0\/4<=p
 ·rw[if_pos F];exact auM U x F
 rw[if_neg F];by_cases J:(ms.getD p.toNat Z).isNone\/f<0\/((iN ms p).length:Int)<=f
 ·rw[if_pos J];exact auN U x aB cG F J
 rw[if_neg J];by_cases af:v.code=0
 ·rw[if_neg (λe=>e af)];exact auS U e1 x aB a7 hm cG Hv F J af
 ·rw[if_pos af];have aY:aQ h ah ao (kd h r fuel) (ld h.n 0 0 bB fuel r [ha aG cl cr ms S.kept,iG cl S.G,bv cr S.cells S.log]):=Hu (aQ.start x);have o4:=afi (p:=p) (f:=f) aY aB cG F J;have rS:=afj (aG:=aG) (p:=p) (f:=f) aY U;rw[if_neg af]at rS;have dU:=LL (aG:=aG) (p:=p) (f:=f) (fuel:=fuel) (h:=h) U;have g8:=dU.next (aI:=18) cC LG (ig uW) LH LI o4;refine⟨_,?_,(g8.next (aI:=18) cC ae1 (ig uW) ae2 ae4 rS).ret D1 Hr (D3 rfl rfl rfl (aQ.start x) v.code),Sy x v.code⟩;unfold D2;rw[Ht U];simp only[x4];rw[o4];simp only;rw[rS];simp only[zq];rw[D3 rfl rfl rfl (aQ.start x) v.code];rfl
theorem auU(U:ck v r)(e1:v.size<=100000)(x:(cX [ha aG cl cr ms S.kept,iG cl S.G,bv cr S.cells S.log]).A h ah ao)(aB:ms.length=4)(a7:yn ms)(hm:wQ ms)(cG:S.Good)(Hv:S.log.length<=900000):∃E,(∃bZ,aM ak T jq (rl aG p f r fuel) h=j (.inl (.bx [.agg bZ,.int o (gQ ms p f v fuel S).2.2.1,.int o (gQ ms p f v fuel S).2.2.2]),E)/\ck (gQ ms p f v fuel S).2.1 bZ)/\en h ah ao E (cX [ha aG cl cr ms (gQ ms p f v fuel S).1.kept,iG cl (gQ ms p f v fuel S).1.G,bv cr (gQ ms p f v fuel S).1.cells (gQ ms p f v fuel S).1.log]):=by
 obtain⟨q,aE,ac,_⟩:=afm (p:=p) (f:=f) (fuel:=fuel) U e1 x aB a7 hm cG Hv;have dg:Pb (rl aG p f r fuel) h q:=by intro dX eb aAR aAS aAT SA mX g8 f2 aAU v2 bK kr hO auV auW m3 PV auX py db;injection kr with av kr;injection kr with ax kr;injection kr with bs kr;injection kr with cq kr;injection kr with eX kr;injection av with av;injection ax with _ ax;injection bs with _ bs;injection cq with cq;injection eX with _ eX;subst av ax bs cq eX;obtain⟨bM,sx,_,bZ,E,dU,g8,ia⟩:=afm (p:=p) (f:=f) (fuel:=fuel) hO auV db auW m3 PV auX py;rw[aE]at sx;injection sx with sx;exact⟨bZ,E,sx.trans dU,g8,ia⟩
 have H:∃q,AC ak jq (rl aG p f r fuel) h q/\Pb (rl aG p f r fuel) h q:=⟨q,ac,dg⟩;obtain⟨bZ,E,e,jg,d⟩:=(Classical.choose_spec H).2 ah ao aG cl cr ms S p f fuel v r rfl U e1 aB a7 hm cG Hv x;refine⟨E,⟨bZ,?_,jg⟩,d⟩;unfold aM;rw[anp];show FH _ _=_;unfold FH;rw[dif_pos H,e]
end
section
variable{h E am:ad}{ah ao aL aF:Nat->Prop}{L A B:List b2}{X Y cI:b2}
theorem auY(y:Y.A h ah ao):(hj (xq True) Y).A h ah ao:=⟨λ_=>False,λ_=>False,ah,ao,⟨trivial,λ_ h=>h,λ_ h=>h⟩,y,λk=>by simp,λD=>by simp,λ_ h=>h.elim,λ_ h=>h.elim⟩
theorem auZ(x:(hj (xq True) Y).A h ah ao):Y.A h ah ao:=by
 obtain⟨eH,eI,dX,eb,⟨_,a,b⟩,y,cW,fZ,_,_⟩:=x;have av:ah=dX:=by funext k;exact propext ⟨λh=>((cW k).1 h).resolve_left (a k),λh=>(cW k).2 (.inr h)⟩
 have ax:ao=eb:=by funext k;exact propext ⟨λh=>((fZ k).1 h).resolve_left (b k),λh=>(fZ k).2 (.inr h)⟩
 rw[av,ax];exact y
theorem cX.app:∀{A B:List b2} {h:ad} {ah ao:Nat->Prop},(cX (A++B)).A h ah ao↔(hj (cX A) (cX B)).A h ah ao
 |[],B,h,ah,ao=>⟨auY,auZ⟩
 |X::A,B,h,ah,ao=>⟨λx=>P8 (tf (λ_ _ _ y=>y) (λ_ _ _ y=>cX.app.1 y) x),λx=>tf (λ_ _ _ y=>y) (λ_ _ _ y=>cX.app.2 y) (F7 x)⟩
theorem aQ.Hw{M wo:List b2}{cn:ad->Prop}(s:aQ am aL aF h (A++M++B))(c:∀ah ao,(cX M).A h ah ao->∃E,cn E/\en h ah ao E (cX wo)):∃E,cn E/\aQ am aL aF E (A++wo++B):=by
 have p:∀M:List b2,List.Perm (A++M++B) (M++(A++B)):=λM=>by have:=(List.perm_append_comm (l₁:=A) (l₂:=M)).append_right B;simpa[jA]using this
 obtain⟨ah,ao,x,fe,a,b⟩:=s;have db:=cX.app.1 (aQ.perm (p M) x);obtain⟨E,r,d⟩:=abc db c;exact⟨E,r,en.chain fe a b (d.imp λ_ _ _ y=>aQ.perm (p wo).symm (cX.app.2 y))⟩
end
theorem afn:∀{ms:dQ} {kept:List ay} {aV:List (List I)} {p:Nat} {M:List bk} {v:ay} {r:List I},fb kept aV->ms.length=kept.length->p<ms.length->ck v r->∃qp,fb (kept.set p v) qp/\dO (nb ms aV) (p*5) (.bool Q::lB M::r)=nb (ms.set p (j M)) qp
 |[],kept,aV,p,_,_,_,_,_,hp,_=>by simp at hp
 |m::ms,[],aV,p,_,_,_,_,ai,_,_=>by simp at ai
 |m::ms,k::kept,aV,p,M,v,r,h,ai,hp,U=>by
   obtain⟨gS,rs,rfl,F,J⟩:=h;have af:=F.dx.1;have aB:=U.dx.1
   match gS,af,r,aB with
   |[a,b,c],_,[x,y,z],_=>
     cases p with
     |zero=>exact⟨[x,y,z]::rs,⟨_,_,rfl,U,J⟩,rfl⟩
     |succ p=>
       obtain⟨qp,bT,bM⟩:=afn (ms:=ms) (p:=p) (M:=M) J (by simpa using ai) (by simpa using hp) U;refine⟨[a,b,c]::qp,⟨_,_,rfl,F,bT⟩,?_⟩;have:(p+1)*5=p*5+5:=by omega
       rw[this];unfold dO at bM ⊢;simp only[nb,List.set_cons_succ,kq,j6,rU,dw,ey];rw[show p*5+5+(0+1+1+1+1+1)=p*5+5+5 by omega];simp only[vR];rw[<-bM];simp
section
variable{h E am:ad}{ah ao aL aF:Nat->Prop}{L:List b2}
theorem au0{b cl cr:Nat}{ms:dQ}{kept:List ay}(s:aQ am aL aF h L)(i:Nat)(ae:L[i]? =j (ha b cl cr ms kept))(ai:ms.length=kept.length){p:Nat}(hp:p<ms.length){M:List bk}{v:ay}{r:List I}(U:ck v r):∃E,eN 5 h (.ptr b 0 (2+p*5)) (.agg (.bool Q::lB M::r))=j E/\aQ am aL aF E (L.set i (ha b cl cr (ms.set p (j M)) (kept.set p v))):=by
 refine s.call (cn:=λE=>eN 5 h (.ptr b 0 (2+p*5)) (.agg (.bool Q::lB M::r))=j E) i ae λah ao x=>?_;obtain⟨aV,ab,aP,a2,a3,a4⟩:=x;obtain⟨qp,bT,bM⟩:=afn (M:=M) ab ai hp U;have hlen:=GS ab ai;have au:(I.bool Q::lB M::r).all I.one=Q:=by simp only[List.all_cons,(Bu M).2.2,U.dx.2,s3];rfl
 refine⟨_,lV (es:=[nc cl cr ms aV]) (e:=nc cl cr ms aV) a4 rfl au (by simp[I.cells,U.dx.1]) (by simp only[nc,dw,hlen];omega),ah,ao,⟨qp,bT,aP,a2,a3,?_⟩,⟨bS _,bS _,λk _ oT=>dL λe=>oT ((aP k).2 e),λ_ _ _=>rfl⟩,λ_=>.inl,λ_=>.inl⟩;rw[i7,List.set_cons_zero];have:dO (nc cl cr ms aV) (2+p*5) (.bool Q::lB M::r)=nc cl cr (ms.set p (j M)) qp:=by unfold nc;rw[<-bM];unfold dO;rw[show 2+p*5=p*5+1+1 by omega];simp only[rU,kq];rw[show p*5+1+1+(I.bool Q::lB M::r).length=p*5+(I.bool Q::lB M::r).length+1+1 by omega];simp only[vR]
 simp only[I.cells,this]
abbrev zs:dQ:=[Z,Z,Z,Z]
abbrev Hx:List ay:=[cp,cp,cp,cp]
abbrev uX:List Int:=[0,0,0,0,0,0,0,0,0,0,0,0]
abbrev D6:be:=⟨[],[]⟩
def D7(l:Nat):bG:=⟨D6,uX,[],Hx,l⟩
theorem afo(l:Nat):(D7 l).Good:=⟨aj5,rfl,rfl,λv U=>by
 have:v=cp:=by simpa[D7]using U
 rw[this];exact vo⟩
theorem au1:(iG h.n D6).A (h.push [[.aC,.aC]]) (λk=>k=h.n) (λ_=>False):=arh h
theorem au2{b:Nat}(ag:b=h.n):(bv b uX []).A (h.push [uX.map (I.int o)++[I.aC]]) (λk=>k=b) (λ_=>False):=by subst ag;exact⟨.aC,λk=>k=h.n,λ_=>False,λ_=>False,λ_=>False,⟨λ_=>mN,λ_ h=>h,q6 _,fU⟩,.inl ⟨⟨rfl,rfl⟩,λ_ h=>h,λ_ h=>h⟩,λk=>by simp,λD=>by simp,λ_ _ h=>h,λ_ h=>h.elim⟩
theorem au3{b cl cr:Nat}(ag:b=h.n):(ha b cl cr zs Hx).A (h.push [nc cl cr zs [bB,bB,bB,bB]]) (λk=>k=b) (λ_=>False):=by subst ag;exact⟨[bB,bB,bB,bB],⟨_,_,rfl,qq,_,_,rfl,qq,_,_,rfl,qq,_,_,rfl,qq,rfl⟩,λ_=>mN,λ_ h=>h,q6 _,fU⟩
theorem au4(s:aQ am aL aF h L):∃E aG cl cr,aM ak T 21 [] h=j (.inl (.ptr aG 0 0),E)/\aQ am aL aF E (ha aG cl cr zs Hx::iG cl D6::bv cr uX []::L):=by
 have aY:aQ am aL aF _ (iG h.n D6::L):=s.add (aK.push h _) au1 (λk ab=>p3 ab.symm) (λ_ h=>h.elim);have bf:aQ am aL aF _ (bv (h.n+1) uX []::iG h.n D6::L):=aY.add (X:=bv (h.n+1) uX []) (E:=(h.push [[.aC,.aC]]).push [uX.map (I.int o)++[I.aC]]) (eH:=λk=>k=h.n+1) (eI:=λ_=>False) (aK.push _ _) (au2 (h:=h.push [[.aC,.aC]]) rfl) (λk ab=>p3 ab.symm) (λ_ h=>h.elim);have bP:aQ am aL aF _ (ha (h.n+1+1) h.n (h.n+1) zs Hx::bv (h.n+1) uX []::iG h.n D6::L):=bf.add (X:=ha (h.n+1+1) h.n (h.n+1) zs Hx) (E:=((h.push [[.aC,.aC]]).push [uX.map (I.int o)++[I.aC]]).push [nc h.n (h.n+1) zs [bB,bB,bB,bB]]) (eH:=λk=>k=h.n+1+1) (eI:=λ_=>False) (aK.push _ _) (au3 (h:=(h.push [[.aC,.aC]]).push [uX.map (I.int o)++[I.aC]]) rfl) (λk ab=>p3 ab.symm) (λ_ h=>h.elim);have cj:=bP.imp λ_ _ _ x=>aQ.perm (List.Perm.cons _ (List.Perm.swap _ _ _)) x;obtain⟨F,av,rfl⟩:=arf (h:=h);have ax:aM ak T 37 [] (h.push [[.aC,.aC]])=j (.inl (.ptr (h.n+1) 0 0),(h.push [[.aC,.aC]]).push [uX.map (I.int o)++[I.aC]]):=by refine bd apc rfl ?_;unfold ab0;simp only[ap,aw,aA,ar]
 refine⟨_,h.n+1+1,h.n,h.n+1,?_,cj⟩;refine bd ao9 rfl ?_;unfold abi;simp only[ap,aw,aA,ar,ct,cx,av,ax];rfl
variable{cl SB i D:Nat}{G H:be}
theorem au5(ae:L[i]? =j X):L.set i X=L:=by
 have ai:i<L.length:=(fR.1 ae).1;have:X=L[i]:=by have:=(fR.1 ae).2;exact this.symm
 rw[this];exact List.set_getElem_self ai
end
theorem au6{ms:dQ}{S:bG}(cG:S.Good){p f fuel:Int}{v:ay}:(gQ ms p f v fuel S).1.Good/\(gQ ms p f v fuel S).1.log.length<=S.log.length+2000/\((gQ ms p f v fuel S).2.2.2=0->(gQ ms p f v fuel S).2.1.code=0)/\(gQ ms p f v fuel S).2.1.size<=100000:=by
 unfold gQ;have z:cp.size<=100000:=by decide
 split
 ·exact⟨cG,by simp only;omega,λh=>by simp at h,z⟩
 ·split
  ·exact⟨cG,by simp only;omega,λh=>by simp at h,z⟩
  ·split
   ·rename_i F;exact⟨cG,by simp only;omega,λh=>absurd h F,z⟩
   ·rename_i F J af;have LO:({S with left:=fuel.toNat}:bG).Good:=⟨cG.wf,cG.cells,cG.kept,cG.qJ⟩;have lb:=sy ms fuel.toNat p (gs ms p f) v [] 1 _ LO (by simpa using af) (by simp);generalize e5 ms fuel.toNat p (gs ms p f) v [] 1 {S with left:=fuel.toNat}=q at lb;obtain⟨b3,w,c⟩:=q;have g:=lb.1.dg;have m:=lb.1.ba;unfold bG.ba at m;simp only at g m ⊢;refine⟨⟨g.wf,g.cells,g.kept,g.qJ⟩,by omega,λal=>?_,?_⟩
    ·rw[if_pos al];exact lb.1.val al
    ·by_cases al:c=0
     ·rw[if_pos al];have:=(f9 (lb.1.val al)).1;simp only at this;omega
     ·rw[if_neg al];exact z
def wz(ms:dQ):Prop:=∀M,j M∈ms->(fw M).1=0
theorem wz.fun{ms:dQ}(h:wz ms){p:Int}:∀x∈iN ms p,x.fault (iN ms p).length 0=0/\x.size<=120:=by
 intro x an;unfold iN at an ⊢;cases hm:ms.getD p.toNat Z with
 |none=>rw[hm]at an;simp at an
 |some M=>
   rw[hm]at an;have gt:j M∈ms:=by
    rw[dm]at hm;cases a7:ms[p.toNat]? with
    |none=>rw[a7]at hm;simp at hm
    |some O=>rw[a7]at hm;simp only[ns]at hm;subst hm;exact qV a7
   exact(Rr (h M gt)).2.2 x an
theorem wz.dg{ms:dQ}(h:wz ms):yn ms:=λ_ x an=>(h.fun x an).1
theorem wz.sized{ms:dQ}(h:wz ms):wQ ms:=λp f=>by
 unfold kV;have F:=wN _ (gs ms p f) (bS _) 0;have J:(gs ms p f).size<=120:=by
  unfold gs;by_cases ab:f.toNat<(iN ms p).length
  ·have e:(iN ms p).getD f.toNat jB=(iN ms p)[f.toNat]:=by simp[dm,ab]
   rw[e];exact(h.fun _ (hf ab)).2
  ·have e:(iN ms p).getD f.toNat jB=jB:=by simp[dm,lN (Nat.le_of_not_lt ab)]
   rw[e];decide
 simp only[dy,fS];omega
section
variable{h:ad}
theorem aQ.SC{E:ad}{L:List b2}(s:aQ h (λ_=>False) (λ_=>False) E L):aK h E:=by obtain⟨_,_,_,c,_⟩:=s;exact⟨c.n,c.ids,λk ab=>c.cell k ab (λh=>h),λD aa=>c.hw D aa (λh=>h)⟩
end
structure iU where
 (kind p q k h r g n:Int)
 m:List bk
structure mv where
 (code fuel:Int)
 v:ay
structure dr where
 ms:dQ
 S:bG
 cy:List (List ay)
def mv.no(c:Int):mv:=⟨c,0,cp⟩
def mv.ok(v:ay):mv:=⟨0,0,v⟩
def mT(p:Int):Bool:=decide (0<=p)&&decide (p<4)
theorem D8{p:Int}:mT p=Q↔0<=p/\p<4:=by simp[mT]
def dr.hand(H:dr)(p:Int):List ay:=H.cy.getD p.toNat []
def dr.load(H:dr)(p:Int)(m:List bk):dr×Int:=
 if mT p=R then(H,1)
 else if(fw m).1≠0 then(H,(fw m).1)
 else({H with ms:=H.ms.set p.toNat (j m),S:={H.S with kept:=H.S.kept.set p.toNat cp}},0)
def dr.graph(H:dr)(G:be):dr:={H with S:={H.S with G:=G}}
def dr.mw(H:dr)(p n c:Int):dr×mv:=
 if c≠0 then(H,.no c)else({H with cy:=H.cy.set p.toNat (H.hand p++[oL n])},.ok (oL n))
def dr.call(H:dr)(x:iU):dr×mv:=
 if 0<=x.h/\(mT x.p=R\/((H.hand x.p).length:Int)<=x.h)then(H,.no 8)
 else match gQ H.ms x.p x.k (if 0<=x.h then(H.hand x.p).getD x.h.toNat cp else l6 x.n) 2000 H.S with
  |(b3,v,n,c)=>({H with S:=b3},⟨c,n,v⟩)
def dr.step(H:dr)(x:iU):dr×mv:=
 if x.kind=1 then((H.load x.p x.m).1,.no (H.load x.p x.m).2)
 else if x.kind=2\/x.kind=3 then
  (if mT x.p=R then(H,.no 1)
  else if x.kind=2 then(H.graph (H.S.G.lL x.k x.r x.g).1).mw x.p (H.S.G.lL x.k x.r x.g).2.1 (H.S.G.lL x.k x.r x.g).2.2
  else(H.graph (H.S.G.lM x.q x.k x.r x.g).1).mw x.p (H.S.G.lM x.q x.k x.r x.g).2.1 (H.S.G.lM x.q x.k x.r x.g).2.2)
 else if x.kind=4 then H.call x
 else if x.kind=5 then(H.graph (H.S.G.cut x.g).1,.no (H.S.G.cut x.g).2)
 else if x.kind=6 then(H.graph H.S.G.gate.1,if H.S.G.gate.2.2≠0 then .no H.S.G.gate.2.2 else .ok (l6 H.S.G.gate.2.1))
 else(H,.no 2)
def uY:dr:=⟨zs,D7 0,[[],[],[],[]]⟩
structure dr.Good(H:dr):Prop where
 ms:H.ms.length=4
 ok:wz H.ms
 st:H.S.Good
 cy:H.cy.length=4
 cap:∀l∈H.cy,∀v∈l,∃n:Int,v=oL n/\0<=n
theorem au7:uY.Good:=⟨rfl,λM nM=>by simp[uY]at nM,afo 0,rfl,λl ai v U=>by
 have:l=[]:=by simpa[uY]using ai
 rw[this]at U;cases U⟩
theorem wz.set{ms:dQ}(h:wz ms){p:Nat}{M:List bk}(aR:(fw M).1=0):wz (ms.set p (j M)):=by
 intro N eV;rcases List.mem_or_eq_of_mem_set eV with F|F
 ·exact h N F
 ·injection F with F;rw[F];exact aR
theorem bG.Good.fs{S:bG}(h:S.Good){p:Nat}{v:ay}(U:v.code=0):({S with kept:=S.kept.set p v}:bG).Good:=⟨h.wf,h.cells,by simpa using h.kept,λw hw=>by
  rcases List.mem_or_eq_of_mem_set hw with F|F
  ·exact h.qJ w F
  ·rw[F];exact U⟩
theorem dr.Good.hand{H:dr}(g:H.Good){p:Int}:∀v∈H.hand p,∃n:Int,v=oL n/\0<=n:=by
 intro v U;unfold dr.hand at U;by_cases hp:p.toNat<H.cy.length
 ·rw[dm,gd hp]at U;exact g.cap _ (hf hp) v U
 ·rw[dm,lN (by omega)]at U;cases U
theorem dr.Good.graph{H:dr}(g:H.Good){G:be}(ez:G.dE):(H.graph G).Good:=⟨g.ms,g.ok,⟨ez,g.st.cells,g.st.kept,g.st.qJ⟩,g.cy,g.cap⟩
theorem dr.Good.mw{H:dr}(g:H.Good){p n c:Int}(aq:0<=n):(H.mw p n c).1.Good:=by
 unfold dr.mw;split
 ·exact g
 ·refine⟨g.ms,g.ok,g.st,by simpa using g.cy,λl ai v U=>?_⟩;rcases List.mem_or_eq_of_mem_set ai with F|F
  ·exact g.cap l F v U
  ·rw[F]at U;rcases pq.1 U with J|J
   ·exact g.hand v J
   ·exact⟨n,by simpa using J,aq⟩
theorem afp{G:be}{n:gr}:0<=(G.add n).2.1:=by
 unfold be.add;split
 ·exact Int.le_refl _
 ·split
  ·exact Int.le_refl _
  ·split
   ·exact Int.le_refl _
   ·exact Int.natCast_nonneg _
theorem au8{G:be}{c r g:Int}:0<=(G.lL c r g).2.1:=by
 unfold be.lL;split
 ·exact afp
 ·exact Int.le_refl _
theorem au9{G:be}{p f r g:Int}:0<=(G.lM p f r g).2.1:=by
 unfold be.lM;split
 ·exact afp
 ·exact Int.le_refl _
theorem afq(n:Int):(oL n).size<=100000:=by simp[oL,ay.size,iM]
theorem afr(n:Int):(l6 n).size<=100000:=by simp[l6,ay.size,iM]
theorem dr.Good.arg{H:dr}(g:H.Good)(x:iU):(if 0<=x.h then(H.hand x.p).getD x.h.toNat cp else l6 x.n).code=0/\(if 0<=x.h then(H.hand x.p).getD x.h.toNat cp else l6 x.n).size<=100000:=by
 split
 ·by_cases ae:x.h.toNat<(H.hand x.p).length
  ·have e:(H.hand x.p).getD x.h.toNat cp=(H.hand x.p)[x.h.toNat]:=by simp[dm,ae]
   rw[e];obtain⟨n,F,J⟩:=g.hand _ (hf ae);rw[F];exact⟨Cn J,afq n⟩
  ·have e:(H.hand x.p).getD x.h.toNat cp=cp:=by simp[dm,lN (Nat.le_of_not_lt ae)]
   rw[e];exact⟨vo,by decide⟩
 ·exact⟨EL _,afr _⟩
structure LP(H:dr)(q:dr×mv):Prop where
 dg:q.1.Good
 log:q.1.S.log.length<=H.S.log.length+2000
 val:q.2.code=0->q.2.v.code=0
 size:q.2.v.size<=100000
 hand:∀l∈q.1.cy,l.length<=1000\/∃b8∈H.cy,l.length<=b8.length+1
theorem x6(c:Int):(mv.no c).v.size<=100000:=(by decide:cp.size<=100000)
theorem LP.same{H rm:dr}{e:mv}(g:rm.Good)(ai:rm.S.log=H.S.log)(bz:rm.cy=H.cy)(F:e.code=0->e.v.code=0)(J:e.v.size<=100000):LP H (rm,e):=⟨g,by rw[ai];exact Nat.le_add_right _ _,F,J,λl hm=>.inr ⟨l,by rw[<-bz];exact hm,Nat.le_succ _⟩⟩
theorem afs{H rm:dr}(g:rm.Good)(ai:rm.S.log=H.S.log)(bz:rm.cy=H.cy){p n c:Int}(aq:0<=n):LP H (rm.mw p n c):=by
 refine⟨g.mw aq,?_,?_,?_,?_⟩
 ·unfold dr.mw;split
  ·rw[ai];exact Nat.le_add_right _ _
  ·show rm.S.log.length<=_;rw[ai];exact Nat.le_add_right _ _
 ·unfold dr.mw;split
  ·rename_i h;exact λE=>absurd E h
  ·exact λ_=>Cn aq
 ·unfold dr.mw;split
  ·exact x6 _
  ·exact afq _
 ·unfold dr.mw;split
  ·exact λl hm=>.inr ⟨l,by rw[<-bz];exact hm,Nat.le_succ _⟩
  ·intro l hm;rcases List.mem_or_eq_of_mem_set hm with F|F
   ·exact .inr ⟨l,by rw[<-bz];exact F,Nat.le_succ _⟩
   ·unfold dr.hand at F;by_cases hp:p.toNat<rm.cy.length
    ·rw[dm,gd hp,ns]at F;exact .inr ⟨rm.cy[p.toNat],by rw[<-bz];exact hf hp,by rw[F];simp⟩
    ·rw[dm,lN (by omega),Option.getD_none]at F;exact .inl (by rw[F];simp)
theorem dr.Good.step{H:dr}(g:H.Good)(x:iU):LP H (H.step x):=by
 unfold dr.step;by_cases c8:x.kind=1
 ·rw[if_pos c8];unfold dr.load;by_cases F:mT x.p=R
  ·rw[if_pos F];exact .same g rfl rfl (λh=>absurd h (by simp[mv.no])) (x6 _)
  ·rw[if_neg F];by_cases J:(fw x.m).1≠0
   ·rw[if_pos J];exact .same g rfl rfl (λh=>absurd h J) (x6 _)
   ·rw[if_neg J];exact .same ⟨by simpa using g.ms,g.ok.set (Classical.not_not.1 J),g.st.fs vo,g.cy,g.cap⟩ rfl rfl (λ_=>vo) (x6 _)
 rw[if_neg c8];by_cases c6:x.kind=2\/x.kind=3
 ·rw[if_pos c6];by_cases F:mT x.p=R
  ·rw[if_pos F];exact .same g rfl rfl (λh=>absurd h (by simp[mv.no])) (x6 _)
  ·rw[if_neg F];split
   ·exact afs (H:=H) (rm:=H.graph (H.S.G.lL x.k x.r x.g).1) (g.graph (g.st.wf.lL _ _ _)) rfl rfl au8
   ·exact afs (H:=H) (rm:=H.graph (H.S.G.lM x.q x.k x.r x.g).1) (g.graph (g.st.wf.lM _ _ _ _)) rfl rfl au9
 rw[if_neg c6];by_cases hu:x.kind=4
 ·rw[if_pos hu];unfold dr.call;by_cases F:0<=x.h/\(mT x.p=R\/((H.hand x.p).length:Int)<=x.h)
  ·rw[if_pos F];exact .same g rfl rfl (λh=>absurd h (by simp[mv.no])) (x6 _)
  ·rw[if_neg F];have:=au6 (ms:=H.ms) (p:=x.p) (f:=x.k) (fuel:=2000) (v:=if 0<=x.h then(H.hand x.p).getD x.h.toNat cp else l6 x.n) g.st;generalize gQ H.ms x.p x.k (if 0<=x.h then(H.hand x.p).getD x.h.toNat cp else l6 x.n) 2000 H.S=q at this;obtain⟨b3,v,n,c⟩:=q;obtain⟨J,af,aB,bw⟩:=this;exact⟨⟨g.ms,g.ok,J,g.cy,g.cap⟩,af,aB,bw,λl hm=>.inr ⟨l,hm,Nat.le_succ _⟩⟩
 rw[if_neg hu];by_cases j4:x.kind=5
 ·rw[if_pos j4];exact .same (g.graph (g.st.wf.cut _)) rfl rfl (λ_=>vo) (x6 _)
 rw[if_neg j4];by_cases iD:x.kind=6
 ·rw[if_pos iD];refine .same (g.graph g.st.wf.gate) rfl rfl ?_ ?_
  ·split
   ·rename_i h;exact λE=>absurd E h
   ·exact λ_=>EL _
  ·split
   ·exact x6 _
   ·exact afr _
 ·rw[if_neg iD];exact .same g rfl rfl (λh=>absurd h (by simp[mv.no])) (x6 _)
theorem aft:∀{l:List ay},Dw l↔∀v∈l,v.wf
 |[]=>by simp[Dw]
 |x::l=>by simp only[Dw,aft (l:=l),gW,forall_eq_or_imp]
theorem ay.zt{v:ay}:v.wf↔bL v.kind/\bL v.n/\∀x∈v.l,x.wf:=by cases v;simp only[ay.wf,ay.kind,ay.n,ay.l,aft]
theorem l2:cp.wf:=by simp[cp,ay.wf,Dw,bL]
theorem Hy{n:Int}(h:bL n):(l6 n).wf:=by rw[ay.zt];exact⟨(by decide: -9223372036854775808<=(1:Int)/\(1:Int)<=9223372036854775807),h,λx an=>by cases an⟩
theorem LQ{n:Int}(h:bL n):(oL n).wf:=by rw[ay.zt];exact⟨(by decide: -9223372036854775808<=(4:Int)/\(4:Int)<=9223372036854775807),h,λx an=>by cases an⟩
theorem wA{l:List ay}(h:∀v∈l,v.wf)(i:Nat):(l.getD i cp).wf:=by
 by_cases ae:i<l.length
 ·rw[dm,gd ae,ns];exact h _ (hf ae)
 ·rw[dm,lN (by omega),Option.getD_none];exact l2
theorem ay.wf.part{v:ay}(h:v.wf)(i:Nat):(v.l.getD i cp).wf:=wA (ay.zt.1 h).2.2 i
theorem Hz{k n:Int}{l:List ay}(ab:bL k)(aq:bL n)(ai:∀v∈l,v.wf):(ay.mk k n l).wf:=ay.zt.2 ⟨ab,aq,ai⟩
theorem SD{G:be}(h:G.dE)(n:gr):bL (G.add n).2.1:=by
 have:=h.qG;have z:bL 0:=(by decide: -9223372036854775808<=(0:Int)/\(0:Int)<=9223372036854775807);unfold be.add;split
 ·exact z
 split
 ·exact z
 split
 ·exact z
 ·exact⟨by simp only;omega,by simp only;omega⟩
theorem SE{G:be}(h:G.dE)(n r k:Int):bL (G.derive n r k).2.1:=by
 unfold be.derive;split
 ·exact SD h _
 ·exact(by decide: -9223372036854775808<=(0:Int)/\(0:Int)<=9223372036854775807)
theorem au'{G:be}(h:G.dE)(c r k:Int):bL (G.lL c r k).2.1:=by
 unfold be.lL;split
 ·exact SD h _
 ·exact(by decide: -9223372036854775808<=(0:Int)/\(0:Int)<=9223372036854775807)
theorem ava{G:be}(h:G.dE)(p f r k:Int):bL (G.lM p f r k).2.1:=by
 unfold be.lM;split
 ·exact SD h _
 ·exact(by decide: -9223372036854775808<=(0:Int)/\(0:Int)<=9223372036854775807)
theorem afu{G:be}(h:G.dE):bL G.gate.2.1:=by
 have:=h.ec;unfold be.gate;split
 ·exact(by decide: -9223372036854775808<=(0:Int)/\(0:Int)<=9223372036854775807)
 ·exact⟨by simp only;omega,by simp only;omega⟩
theorem fQ:bL 0:=(by decide: -9223372036854775808<=(0:Int)/\(0:Int)<=9223372036854775807)
theorem afv:∀(aV:List Int) (G:be) (n:Int),G.dE->bL n->bL (lk aV G n).2.1
 |[],G,n,_,h=>h
 |k::aV,G,n,w,h=>by
   unfold lk;split
   ·exact fQ
   ·exact afv aV _ _ (w.derive _ _ _) (SE w _ _ _)
theorem avb{aV:List Int}{G:be}{kind n:Int}(w:G.dE)(h:bL n):bL (jf aV G kind n).2.1:=by
 unfold jf;split
 ·exact afv aV G n w h
 ·exact h
mutual
theorem afw(aV:List Int):∀(x:ay) (G:be),G.dE->x.wf->(g6 aV x G).2.1.wf
 |.mk kind n l,G,w,h=>by
   obtain⟨F,J,af⟩:=ay.zt.1 h;simp only[g6];split
   ·exact l2
   ·split
    ·exact l2
    ·exact Hz F (avb w J) (afx aV l _ (Is w) af)
theorem afx(aV:List Int):∀(l:List ay) (G:be),G.dE->(∀v∈l,v.wf)->∀v∈(gx aV l G).2.1,v.wf
 |[],G,w,h=>by simp only[gx];exact λv U=>by cases U
 |x::l,G,w,h=>by
   have a:=afw aV x G w (h x (uq ..));have b:=afx aV l (g6 aV x G).1 (Ck aV x G w) λv U=>h v (qk _ U);simp only[gx];split
   ·exact λv U=>by cases U
   ·intro v U;rcases gW.1 U with rfl|U
    ·exact a
    ·exact b v U
end
theorem afy{aV:List Int}{G:be}{x:ay}(w:G.dE)(h:x.wf):(hJ aV G x).2.1.wf:=by
 unfold hJ;split
 ·exact l2
 ·exact afw aV x G w h
theorem afz{aV:List Int}{G:be}{x:ay}(w:G.dE):(hJ aV G x).1.dE:=by
 unfold hJ;split
 ·exact w
 ·exact Ck aV x G w
theorem SF{G:be}{n:gr}:bL (G.add n).2.2:=by
 unfold be.add bL;split
 ·simp only;omega
 split
 ·simp only;omega
 split
 ·simp only;omega
 ·simp only;omega
theorem SG{G:be}{n r k:Int}:bL (G.derive n r k).2.2:=by
 unfold be.derive;split
 ·exact SF
 ·unfold bL;simp only;omega
theorem avc{G:be}{c r k:Int}:bL (G.lL c r k).2.2:=by
 unfold be.lL;split
 ·exact SF
 ·unfold bL;simp only;omega
theorem avd{G:be}{p f r k:Int}:bL (G.lM p f r k).2.2:=by
 unfold be.lM;split
 ·exact SF
 ·unfold bL;simp only;omega
theorem afA{G:be}:bL G.gate.2.2:=by
 unfold be.gate bL;split
 ·simp only;omega
 ·simp only;omega
theorem ave{G:be}{k:Int}:bL (G.cut k).2:=by
 unfold be.cut bL;split
 ·simp only;omega
 ·simp only;omega
theorem avf(kind n:Int)(len:Nat):bL (jz kind n len):=by
 unfold jz bL;split
 ·omega
 split
 ·omega
 split
 ·omega
 split<;>omega
mutual
theorem afB:∀v:ay,bL v.fault
 |.mk k n l=>by
   rw[ay.Ch];split
   ·exact avf _ _ _
   ·exact afC l
theorem afC:∀l:List ay,bL (mW l)
 |[]=>fQ
 |x::l=>by
   rw[Ci];split
   ·exact afB x
   ·exact afC l
end
theorem afD(v:ay):bL v.code:=by
 unfold ay.code;split
 ·unfold bL;omega
 ·exact afB v
theorem afE:∀(aV:List Int) (G:be) (n:Int),bL (lk aV G n).2.2
 |[],G,n=>fQ
 |k::aV,G,n=>by
   unfold lk;split
   ·exact SG
   ·exact afE aV _ _
theorem avg{aV:List Int}{G:be}{kind n:Int}:bL (jf aV G kind n).2.2:=by
 unfold jf;split
 ·exact afE aV G n
 ·exact fQ
mutual
theorem afF(aV:List Int):∀(x:ay) (G:be),bL (g6 aV x G).2.2
 |.mk kind n l,G=>by
   simp only[g6];split
   ·exact avg
   ·split
    ·exact afG aV l _
    ·exact fQ
theorem afG(aV:List Int):∀(l:List ay) (G:be),bL (gx aV l G).2.2
 |[],G=>by simp only[gx];exact fQ
 |x::l,G=>by
   simp only[gx];split
   ·exact afF aV x G
   ·exact afG aV l _
end
theorem afH{aV:List Int}{G:be}{x:ay}:bL (hJ aV G x).2.2:=by
 unfold hJ;split
 ·show bL (rz G x);unfold rz;split
  ·exact afD x
  split
  ·unfold bL;omega
  split
  ·unfold bL;omega
  ·exact fQ
 ·exact afF aV x G
theorem afI{G:be}(h:G.dE)(n:Int):bL (G.target n).1.cell:=by
 by_cases bz:G.has n=Q
 ·have:=(be.QX h bz).2.2;unfold bL;omega
 ·have e:G.path n=[]:=be.yk (by simpa using bz);unfold be.target;rw[e];unfold bL;decide
structure LR(e:jI):Prop where
 p:bL e.bD
 c:bL e.cell
 r:bL e.right
 n:bL e.node
structure l3(S:bG):Prop where
 g:S.G.dE
 cells:∀c∈S.cells,bL c
 kept:∀v∈S.kept,v.wf
 log:∀e∈S.log,LR e
def oA{α:Type}(P:α->Prop)(q:bG×α×Int):Prop:=l3 q.1/\P q.2.1/\bL q.2.2
section
variable{α β:Type}{P:α->Prop}{b':β->Prop}{S:bG}
abbrev BL:ay->Prop:=ay.wf
theorem l3.no(h:l3 S)(c:Int)(al:bL c:=by unfold bL;omega):oA BL (S.no c):=⟨h,l2,al⟩
theorem l3.ok(h:l3 S){v:ay}(U:v.wf):oA BL (S.ok v):=⟨h,U,fQ⟩
theorem oA.ite{p:Prop}[Decidable p]{a b:bG×α×Int}(F:p->oA P a)(J:¬p->oA P b):oA P (if p then a else b):=by
 split
 ·rename_i h;exact F h
 ·rename_i h;exact J h
theorem oA.bind{q:bG×α×Int}{z:β}{k:bG->α->bG×β×Int}(h:oA P q)(aR:b' z)(ab:l3 q.1->P q.2.1->oA b' (k q.1 q.2.1)):oA b' (vr z q k):=by
 obtain⟨cb,v,c⟩:=q;unfold vr;simp only;split
 ·exact⟨h.1,aR,h.2.2⟩
 ·exact ab h.1 h.2.1
theorem l3.graph(h:l3 S){G:be}(w:G.dE):l3 {S with G:=G}:=⟨w,h.cells,h.kept,h.log⟩
theorem l3.avh(h:l3 S){q:be×Int×Int}(w:q.1.dE)(aq:bL q.2.1)(al:bL q.2.2):oA BL (vm S q):=by unfold Go.Proofs.YtaodiaofbeblbaaGreatDoor.vm;exact .ite (λ_=>(h.graph w).no _ al) λ_=>(h.graph w).ok (LQ aq)
theorem avi(k a b:Int):bL (zS k a b):=by
 have w:∀n:Int,bL (hq o n):=λn=>by rw[IntKind.wrap_i64];exact⟨by omega,by omega⟩
 have eW:bL 1:=(by decide: -9223372036854775808<=(1:Int)/\(1:Int)<=9223372036854775807);unfold zS;split
 ·exact w _
 split
 ·exact w _
 split
 ·exact w _
 split
 ·split
  ·exact eW
  ·exact fQ
 split
 ·split
  ·exact eW
  ·exact fQ
 ·exact fQ
theorem HA{α:Type}{l:List α}{i:Nat}{x y:α}(h:y∈l.set i x):y∈l\/y=x:=List.mem_or_eq_of_mem_set h
theorem avj{p k n:Int}(hp:bL p){l:List ay}(h:l3 S)(ai:∀v∈l,v.wf):oA BL (hr p op k n l S):=by
 have aN:=wA ai 0;have ag:=wA ai 1;have i2:bL 2:=(by decide: -9223372036854775808<=(2:Int)/\(2:Int)<=9223372036854775807);have i3:bL 3:=(by decide: -9223372036854775808<=(3:Int)/\(3:Int)<=9223372036854775807);have i5:bL 5:=(by decide: -9223372036854775808<=(5:Int)/\(5:Int)<=9223372036854775807);have two:∀v∈[l.getD 0 cp,l.getD 1 cp],v.wf:=λv U=>by
  rcases gW.1 U with rfl|U
  ·exact aN
  ·rcases gW.1 U with rfl|U
   ·exact ag
   ·cases U
 have one:∀v∈[l.getD 0 cp],v.wf:=λv U=>by
  rcases gW.1 U with rfl|U
  ·exact aN
  ·cases U
 unfold hr;refine .ite (λ_=>.ite (λ_=>h.no _) λ_=>h.ok (Hy (avi _ _ _))) λ_=>?_;refine .ite (λ_=>.ite (λ_=>h.no _) λ_=>h.ok (Hz i2 fQ two)) λ_=>?_;refine .ite (λ_=>.ite (λ_=>h.no _) λ_=>h.ok (aN.part 0)) λ_=>?_;refine .ite (λ_=>.ite (λ_=>h.no _) λ_=>h.ok (aN.part 1)) λ_=>?_;refine .ite (λ_=>.ite (λ_=>h.no _) λ_=>h.ok (Hz i3 hp one)) λ_=>?_;refine .ite (λ_=>.ite (λ_=>h.no _) λ_=>.ite (λ_=>h.no _) λ_=>h.ok (aN.part 0)) λ_=>?_;refine .ite (λ_=>.ite (λ_=>h.no _) λ_=>.ite (λ_=>h.no _) λ_=>.ite (λ_=>h.no _) λ_=>?_) λ_=>?_
 ·refine⟨⟨h.g,h.cells,h.kept,λe he=>?_⟩,Hy ?_,fQ⟩
  ·rcases pq.1 he with he|he
   ·exact h.log e he
   ·obtain rfl:e=_:=by simpa using he
    exact⟨hp,afI h.g _,(by unfold bL;simp only;omega),(ay.zt.1 aN).2.1⟩
  generalize (S.G.target (l.getD 0 cp).n).1.cell.toNat=i;by_cases ae:i<S.cells.length
  ·rw[dm,gd ae,ns];exact h.cells _ (hf ae)
  ·rw[dm,lN (by omega),Option.getD_none];exact fQ
 refine .ite (λ_=>.ite (λ_=>h.no _) λ_=>.ite (λ_=>h.no _) λ_=>.ite (λ_=>h.no _) λ_=>?_) λ_=>?_
 ·refine⟨⟨h.g,λc al=>?_,h.kept,λe he=>?_⟩,ag,fQ⟩
  ·rcases HA al with al|rfl
   ·exact h.cells c al
   ·exact(ay.zt.1 ag).2.1
  ·rcases pq.1 he with he|he
   ·exact h.log e he
   ·obtain rfl:e=_:=by simpa using he
    exact⟨hp,afI h.g _,(by unfold bL;simp only;omega),(ay.zt.1 aN).2.1⟩
 refine .ite (λ_=>.ite (λ_=>h.no _) λ_=>h.avh (h.g.derive _ _ _) (SE h.g _ _ _) SG) λ_=>?_;refine .ite (λ_=>.ite (λ_=>h.no _) λ_=>.ite (λ_=>⟨h.graph h.g.gate,l2,afA⟩) λ_=>?_) λ_=>?_
 ·have w:=(h.g.gate).derive (l.getD 0 cp).n 15 S.G.gate.2.1;have i:=SE h.g.gate (l.getD 0 cp).n 15 S.G.gate.2.1;have gi:=afu h.g;have uZ:=SG (G:=S.G.gate.1) (n:=(l.getD 0 cp).n) (r:=15) (k:=S.G.gate.2.1);generalize S.G.gate.1.derive (l.getD 0 cp).n 15 S.G.gate.2.1=q at w i uZ;obtain⟨ei,m,c⟩:=q;refine .ite (λ_=>⟨h.graph w,l2,uZ⟩) λ_=>⟨h.graph w,Hz i2 fQ λv U=>?_,fQ⟩;rcases gW.1 U with rfl|U
  ·exact LQ i
  ·rcases gW.1 U with rfl|U
   ·exact Hz i5 gi λv U=>by cases U
   ·cases U
 refine .ite (λ_=>.ite (λ_=>h.no _) λ_=>⟨h.graph (h.g.cut _),l2,fQ⟩) λ_=>?_;refine .ite (λ_=>⟨⟨h.g,h.cells,λv U=>?_,h.log⟩,wA h.kept _,fQ⟩) λ_=>h.no _;rcases HA U with U|rfl
 ·exact h.kept v U
 ·exact aN
mutual
def bk.mx:bk->Prop
 |.mk _ _ n l=>bL n/\HB l
def HB:List bk->Prop
 |[]=>True
 |x::l=>x.mx/\HB l
end
theorem afJ:∀{l:List bk},HB l↔∀x∈l,x.mx
 |[]=>by simp[HB]
 |x::l=>by simp only[HB,afJ (l:=l),gW,forall_eq_or_imp]
theorem bk.LS{x:bk}:x.mx↔bL x.n/\∀y∈x.l,y.mx:=by cases x;simp only[bk.mx,bk.n,bk.l,afJ]
theorem avk:jB.mx:=bk.LS.2 ⟨fQ,λy bq=>by cases bq⟩
theorem D9{l:List bk}(h:∀x∈l,x.mx)(i:Nat):(l.getD i jB).mx:=by
 by_cases ae:i<l.length
 ·rw[dm,gd ae,ns];exact h _ (hf ae)
 ·rw[dm,lN (by omega),Option.getD_none];exact avk
def LU(ms:dQ):Prop:=∀M,j M∈ms->∀x∈M,x.mx
theorem SH{ms:dQ}(h:LU ms)(p k:Int):(gs ms p k).mx:=by
 unfold gs iN;refine D9 (λx an=>?_) _;by_cases ae:p.toNat<ms.length
 ·rw[dm,gd ae,ns]at an;cases hm:ms[p.toNat]with
  |none=>rw[hm]at an;cases an
  |some M=>rw[hm]at an;exact h M (by rw[<-hm];exact hf ae) x an
 ·rw[dm,lN (by omega),Option.getD_none]at an;cases an
theorem afK{f:bk->bG->bG×ay×Int}:∀(l:List bk) (S:bG) (acc:List ay),(∀x∈l,∀S,l3 S->oA BL (f x S))->l3 S->(∀v∈acc,v.wf)->oA (λl=>∀v∈l,v.wf) (j1 f l S acc)
 |[],S,acc,bn,h,aN=>⟨h,aN,fQ⟩
 |x::l,S,acc,bn,h,aN=>by
   rw[UT];refine(bn x (uq ..) S h).bind (λv U=>by cases U) λF U=>afK l _ _ (λy bq=>bn y (qk _ bq)) F λv jg=>?_;rcases pq.1 jg with jg|jg
   ·exact aN v jg
   ·obtain rfl:v=_:=by simpa using jg
    exact U
theorem avl{ms:dQ}(HC:ms.length<=4){v x:ay}{a8:Nat}(h:l3 S)(an:x.wf):oA (λq:vn=>q.arg.wf/\bL q.bD) (jr ms v x a8 S):=by
 have no:∀{c:Int} (al:bL c:=by unfold bL;omega),oA (λq:vn=>q.arg.wf/\bL q.bD) (S,⟨0,0,cp,[]⟩,c):=λal=>⟨h,⟨l2,fQ⟩,al⟩;unfold jr;refine .ite (λ_=>no) λ_=>.ite (λ_=>no) λ_=>.ite (λ_=>no) λaf=>.ite (λ_=>no) λaB=>.ite (λ_=>no) λ_=>?_;have w:=afz (aV:=S.G.ry v.n) (x:=x) h.g;have i:=afy (aV:=S.G.ry v.n) h.g an;have hp:bL (S.G.target v.n).1.bD:=by
  have bw:¬(ms.getD (S.G.target v.n).1.bD.toNat Z).isNone=Q:=λe=>aB (.inl e);have cc:(S.G.target v.n).1.bD.toNat<ms.length:=by refine Classical.byContradiction λe=>bw ?_;rw[dm,lN (by omega),Option.getD_none];rfl
  exact⟨by omega,by omega⟩
 have ac:=afH (aV:=S.G.ry v.n) (G:=S.G) (x:=x);generalize hJ (S.G.ry v.n) S.G x=q at w i ac;exact⟨h.graph w,⟨i,hp⟩,ac⟩
theorem avm{ec:List Int}{v:ay}(h:l3 S)(U:v.wf):oA BL (l7 ec v S):=by unfold l7;have w:=afz (aV:=ec) (x:=v) h.g;have i:=afy (aV:=ec) h.g U;have ac:=afH (aV:=ec) (G:=S.G) (x:=v);generalize hJ ec S.G v=q at w i ac;obtain⟨ei,y,c⟩:=q;exact .ite (λ_=>(h.graph w).no _ ac) λ_=>(h.graph w).ok i
theorem avn{p:Int}{x:bk}(an:x.mx){arg:ay}{names:List ay}{v:ay}(h:l3 S)(aN:arg.wf)(aq:∀v∈names,v.wf)(e:ll p x arg names S=j v):v.wf:=by
 unfold ll at e;split at e
 ·injection e with e;subst e;exact l2
 split at e
 ·injection e with e;subst e;exact Hy (bk.LS.1 an).1
 split at e
 ·injection e with e;subst e;exact aN
 split at e
 ·injection e with e;subst e;exact wA aq _
 split at e
 ·injection e with e;subst e;exact wA h.kept _
 ·cases e
theorem afL{ms:dQ}(hm:LU ms)(HC:ms.length<=4):∀(N:Nat) (p:Int) (x:bk) (arg:ay) (names:List ay) (a8:Nat) (S:bG),bL p->x.mx->l3 S->arg.wf->(∀v∈names,v.wf)->oA BL (e5 ms N p x arg names a8 S)
 |0,p,x,arg,names,a8,S,hp,an,h,aN,aq=>h.no _
 |N+1,p,x,arg,names,a8,S,hp,an,h,aN,aq=>by
   have aW:=afL hm HC N;rw[UU];refine .ite (λ_=>h.no _) λ_=>?_;have aO:l3 S.tick:=⟨h.g,h.cells,h.kept,h.log⟩;generalize S.tick=cb at aO;have ai:=(bk.LS.1 an).2;cases uU:ll p x arg names cb with
   |some v=>exact aO.ok (avn an aO aN aq uU)
   |none=>
     refine .ite (λ_=>?_) λ_=>.ite (λ_=>?_) λ_=>?_
     ·refine(aW p _ arg names a8 cb hp (D9 ai 0) aO aN aq).bind l2 λF U=>aW p _ _ _ _ _ hp (D9 ai 1) F aN λv jg=>?_;rcases pq.1 jg with jg|jg
      ·exact aq v jg
      ·obtain rfl:v=_:=by simpa using jg
       exact U
     ·exact(aW p _ arg names a8 cb hp (D9 ai 0) aO aN aq).bind l2 λF U=>.ite (λ_=>F.no _) λ_=>.ite (λ_=>aW p _ _ _ _ _ hp (D9 ai 1) F aN aq) λ_=>aW p _ _ _ _ _ hp (D9 ai 2) F aN aq
     ·refine(afK (f:=λy S=>e5 ms N p y arg names a8 S) x.l cb [] (λy bq S h=>aW p y arg names a8 S hp (ai y bq) h aN aq) aO λv U=>by cases U).bind l2 λF U=>?_;refine .ite (λ_=>.ite (λ_=>F.no _) λ_=>aW p _ _ _ _ _ hp (SH hm _ _) F (wA U 0) λv U=>by cases U) λ_=>.ite (λ_=>?_) λ_=>avj hp F U;refine(avl HC F (wA U 1)).bind l2 λJ aE=>?_;exact(aW _ _ _ _ _ _ aE.2 (SH hm _ _) J aE.1 λv U=>by cases U).bind l2 λaf vB=>avm af vB
end
theorem avo{ms:dQ}(hm:LU ms)(HC:ms.length<=4){p f fuel:Int}{v:ay}{S:bG}(h:l3 S)(U:v.wf):l3 (gQ ms p f v fuel S).1/\(gQ ms p f v fuel S).2.1.wf/\bL (gQ ms p f v fuel S).2.2.1/\bL (gQ ms p f v fuel S).2.2.2:=by
 unfold gQ;split
 ·exact⟨h,l2,fQ,by unfold bL;simp only;omega⟩
 ·rename_i bz;split
  ·exact⟨h,l2,fQ,by unfold bL;simp only;omega⟩
  ·split
   ·exact⟨h,l2,fQ,afD v⟩
   ·have aO:l3 {S with left:=fuel.toNat}:=⟨h.g,h.cells,h.kept,h.log⟩;have:=afL hm HC fuel.toNat p (gs ms p f) v [] 1 {S with left:=fuel.toNat} ⟨by omega,by omega⟩ (SH hm _ _) aO U λv U=>by cases U
    have ai:=zT ms fuel.toNat p (gs ms p f) v [] 1 {S with left:=fuel.toNat};generalize e5 ms fuel.toNat p (gs ms p f) v [] 1 {S with left:=fuel.toNat}=q at this ai;obtain⟨b3,w,c⟩:=q;obtain⟨a,b,d⟩:=this;have ai:b3.left<=fuel.toNat:=ai;refine⟨⟨a.g,a.cells,a.kept,a.log⟩,?_,⟨by simp only;omega,by simp only;omega⟩,d⟩;show(if c=0 then w else cp).wf;split
    ·exact b
    ·exact l2
structure qx(H:dr):Prop where
 s:l3 H.S
 ms:LU H.ms
 m4:H.ms.length=4
 cy:∀l∈H.cy,∀v∈l,v.wf
theorem avp:qx uY:=⟨⟨(afo 0).wf,λc al=>by
 have:c=0:=by have:(D7 0).cells=ar 12 0:=rfl;exact List.eq_of_mem_replicate (this ▸ al)
 subst this;exact fQ,λv U=>by
 have:(D7 0).kept=ar 4 cp:=rfl;have:v=cp:=List.eq_of_mem_replicate (this ▸ U);subst this;exact l2,λe he=>by cases he⟩,λM nM=>by simp[uY,zs]at nM,rfl,λl ai v U=>by
 have:l=[]:=by simpa[uY]using ai
 rw[this]at U;cases U⟩
theorem SI{H:dr}(h:qx H)(p:Int):∀v∈H.hand p,v.wf:=by
 unfold dr.hand;by_cases ae:p.toNat<H.cy.length
 ·rw[dm,gd ae,ns];exact h.cy _ (hf ae)
 ·rw[dm,lN (by omega),Option.getD_none];exact λv U=>by cases U
theorem qx.graph{H:dr}(h:qx H){G:be}(w:G.dE):qx (H.graph G):=⟨h.s.graph w,h.ms,h.m4,h.cy⟩
def D'(e:mv):Prop:=e.v.wf/\bL e.code/\bL e.fuel
theorem D'.no{c:Int}(al:bL c:=by unfold bL;omega):D' (mv.no c):=⟨l2,al,fQ⟩
theorem qx.mw{H:dr}(h:qx H){p n c:Int}(aq:bL n)(al:bL c):qx (H.mw p n c).1/\D' (H.mw p n c).2:=by
 unfold dr.mw;split
 ·exact⟨h,.no al⟩
 ·refine⟨⟨h.s,h.ms,h.m4,λl ai v U=>?_⟩,LQ aq,fQ,fQ⟩;rcases HA ai with ai|rfl
  ·exact h.cy l ai v U
  ·rcases pq.1 U with U|U
   ·exact SI h _ v U
   ·obtain rfl:v=_:=by simpa using U
    exact LQ aq
theorem qx.step{H:dr}(h:qx H){x:iU}(aq:bL x.n)(hm:∀y∈x.m,y.mx)(an:x.kind=1->bL (fw x.m).1):qx (H.step x).1/\D' (H.step x).2:=by
 unfold dr.step;split
 ·rename_i c8;have an:=an c8;unfold dr.load;split
  ·exact⟨h,.no⟩
  split
  ·exact⟨h,.no an⟩
  refine⟨⟨⟨h.s.g,h.s.cells,λv U=>?_,h.s.log⟩,λM nM=>?_,by simpa using h.m4,h.cy⟩,.no⟩
  ·rcases HA U with U|rfl
   ·exact h.s.kept v U
   ·exact l2
  ·rcases HA nM with nM|nM
   ·exact h.ms M nM
   ·injection nM with nM;subst nM;exact hm
 split
 ·split
  ·exact⟨h,.no⟩
  split
  ·exact(h.graph (h.s.g.lL _ _ _)).mw (au' h.s.g _ _ _) avc
  ·exact(h.graph (h.s.g.lM _ _ _ _)).mw (ava h.s.g _ _ _ _) avd
 split
 ·unfold dr.call;split
  ·exact⟨h,.no⟩
  ·have U:(if 0<=x.h then(H.hand x.p).getD x.h.toNat cp else l6 x.n).wf:=by
    split
    ·exact wA (SI h _) _
    ·exact Hy aq
   have:=avo h.ms (by rw[h.m4];decide) (p:=x.p) (f:=x.k) (fuel:=2000) h.s U;generalize gQ H.ms x.p x.k (if 0<=x.h then(H.hand x.p).getD x.h.toNat cp else l6 x.n) 2000 H.S=q at this;obtain⟨b3,v,n,c⟩:=q;exact⟨⟨this.1,h.ms,h.m4,h.cy⟩,this.2.1,this.2.2.2,this.2.2.1⟩
 split
 ·exact⟨h.graph (h.s.g.cut _),.no ave⟩
 split
 ·refine⟨h.graph h.s.g.gate,?_⟩;split
  ·exact .no afA
  ·exact⟨Hy (afu h.s.g),fQ,fQ⟩
 ·exact⟨h,.no⟩
open Go Go.Lib
def lG(l:List ce):Prop:=∀t∈l,bL t.n
theorem lG.tail{l:List ce}(h:lG (t::l)):lG l:=λx an=>h x (qk _ an)
theorem afM{t:List UInt8}{n:Int}(h:s4 t=j n):bL n:=by
 unfold s4 at h;split at h
 ·rename_i v U;have b:=parseIntB_bounds U;split at h
  ·injection h with h;subst h;exact⟨by have:=b.1;simp at this;omega,by have:=b.2;simp at this;omega⟩
  ·cases h
 ·cases h
theorem avq{a:Nat}{l:List UInt8}(h:kQ a l=j t):bL t.n:=by
 unfold kQ at h;split at h
 ·cases h
 ·split at h
  ·injection h with h;subst h;exact fQ
  ·split at h
   ·injection h with h;subst h;exact fQ
   ·split at h
    ·obtain⟨n,aq,rfl⟩:=dl.1 h;exact afM aq
    ·cases h
theorem LV:∀(l:List UInt8) (k a:Nat) (bX:List ce),hz k a l= .inl bX->lG bX
 |[],k,a,bX,h=>by cases k<;>simp only[hz]at h<;>(injection h with h;subst h;exact λt aO=>by cases aO)
 |c::r,0,a,bX,h=>by
   rw[hz]at h;split at h
   ·exact LV r 0 (a+1) bX h
   ·split at h
    ·cases h
    ·rename_i t aO;split at h
     ·rename_i b8 ai;injection h with h;subst h;intro x an;rcases gW.1 an with rfl|an
      ·exact avq aO
      ·exact LV r _ _ _ ai x an
     ·cases h
 |c::r,k+1,a,bX,h=>by rw[hz]at h;exact LV r k (a+1) bX h
theorem avr(s:List UInt8):lG (ib s).1:=by
 unfold ib;split
 ·exact λt aO=>by cases aO
 ·split
  ·rename_i l h;exact LV _ _ _ _ h
  ·exact λt aO=>by cases aO
theorem afN{s:List UInt8}{l r:List ce}(h:o5 s l=j r)(ai:lG l):lG r:=by
 cases l with
 |nil=>cases h
 |cons t l=>
   simp only[o5]at h;split at h
   ·injection h with h;subst h;exact ai.tail
   ·cases h
theorem SJ{e:Int}{s:List UInt8}{l r:List ce}(h:na e s l= .ok r)(ai:lG l):lG r:=afN (vU h) ai
theorem afO{e n:Int}{l r:List ce}(h:nD e l= .ok (n,r))(ai:lG l):bL n/\lG r:=by
 cases l with
 |nil=>cases h
 |cons t l=>
   simp only[nD]at h;split at h
   ·injection h with h;injection h with F J;subst F J;exact⟨ai t (uq ..),ai.tail⟩
   ·cases h
theorem avs{e n:Int}{l r:List ce}(h:q3 e l= .ok (n,r))(ai:lG l):lG r:=by
 cases l with
 |nil=>cases h
 |cons t l=>
   simp only[q3]at h;split at h
   ·cases h
   ·exact(afO h ai).2
theorem SK{e:Int}{of:Int->List UInt8}{l:List ce}(ai:lG l):∀(c k:Nat) (q:Int×List ce),ql e of l c k= .ok q->lG q.2
 |0,k,q,h=>by cases h
 |c+1,k,q,h=>by
   simp only[ql]at h;split at h
   ·rename_i r aj;injection h with h;subst h;exact afN aj ai
   ·exact SK ai c (k+1) q h
theorem avt{e k n:Int}{l r:List ce}(h:mK e op l= .ok (k,n,r))(ai:lG l):bL n/\lG r:=by
 unfold mK at h;split at h
 ·split at h
  ·rename_i aE;injection h with h;injection h with F J;injection J with J af;subst J af;exact afO aE ai
  ·cases h
 ·split at h
  ·split at h
   ·rename_i aE;injection h with h;injection h with F J;injection J with J af;subst J af;exact⟨fQ,avs aE ai⟩
   ·cases h
  ·split at h
   ·split at h
    ·rename_i aE;injection h with h;injection h with F J;injection J with J af;subst J af;exact⟨fQ,SK ai _ _ _ aE⟩
    ·cases h
   ·injection h with h;injection h with F J;injection J with J af;subst J af;exact⟨fQ,ai⟩
theorem afP{f:List ce->Except (Int×Int) (bk×List ce)}(bn:∀l x r,f l= .ok (x,r)->lG l->x.mx/\lG r):∀(n:Nat) (l:List ce) (xs:List bk) (r:List ce),lz f n l= .ok (xs,r)->lG l->(∀x∈xs,x.mx)/\lG r
 |0,l,xs,r,h,ai=>by simp only[lz]at h;injection h with h;injection h with F J;subst F J;exact⟨λx an=>(by cases an),ai⟩
 |n+1,l,xs,r,h,ai=>by
   simp only[lz]at h;split at h
   ·cases h
   ·rename_i x b0 F;obtain⟨a,b⟩:=bn _ _ _ F ai;split at h
    ·cases h
    ·rename_i dR q J;injection h with h;injection h with af aB;subst af aB;obtain⟨c,d⟩:=afP bn n _ _ _ J b;exact⟨λy bq=>by
      rcases gW.1 bq with rfl|bq
      ·exact a
      ·exact c y bq,d⟩
theorem afQ{e:Int}:∀(cn:Nat) (l:List ce) (x:bk) (r:List ce),iT e cn l= .ok (x,r)->lG l->x.mx/\lG r
 |0,l,x,r,h,ai=>by cases h
 |cn+1,l,x,r,h,ai=>by
   simp only[iT]at h;split at h
   ·cases h
   ·rename_i b5 F;split at h
    ·cases h
    ·rename_i op ca J;split at h
     ·cases h
     ·rename_i k n dK af;split at h
      ·cases h
      ·rename_i xs kM aB;split at h
       ·cases h
       ·rename_i jN bw;injection h with h;injection h with cc cQ;subst cc cQ;have t1:=SJ F ai;have t2:=SK t1 _ _ _ J;obtain⟨a,t3⟩:=avt af t2;obtain⟨b,t4⟩:=afP (afQ cn) _ _ _ _ aB t3;exact⟨bk.LS.2 ⟨a,b⟩,SJ bw t4⟩
theorem GT{e:Int}:∀(N:Nat) (l:List ce) (L:List bk),kR e N l= .ok L->lG l->∀x∈L,x.mx
 |N,[],L,h,ai=>by
   have:kR e N []= .ok []:=by cases N<;>rfl
   rw[this]at h;injection h with h;subst h;exact λx an=>by cases an
 |0,t::l,L,h,ai=>by simp only[kR]at h;injection h with h;subst h;exact λx an=>by cases an
 |N+1,t::l,L,h,ai=>by
   simp only[kR]at h;split at h
   ·cases h
   ·rename_i b5 F;split at h
    ·cases h
    ·rename_i x r J;split at h
     ·cases h
     ·rename_i xs af;injection h with h;subst h;obtain⟨a,b⟩:=afQ 31 _ _ _ J (SJ F ai);intro y bq;rcases gW.1 bq with rfl|bq
      ·exact a
      ·exact GT N _ _ af b y bq
theorem afR(s:List UInt8):∀x∈(hA s).1,x.mx:=by
 unfold hA;split
 ·exact λx an=>by cases an
 ·split
  ·exact λx an=>by cases an
  ·rename_i L h;split
   ·exact λx an=>by cases an
   ·exact GT _ _ _ h (avr s)
theorem avu(cE op k n O:Int):bL (qI cE op k n O):=by
 unfold qI bL;split
 ·omega
 split
 ·split<;>omega
 split
 ·split<;>omega
 split
 ·split<;>omega
 split
 ·split<;>omega
 split<;>omega
theorem Pi(cE op k n:Int)(len:Nat)(O:Int):bL (sv cE op k n len O):=by
 unfold sv;split
 ·unfold bL;omega
 split
 ·unfold bL;omega
 split
 ·exact avu _ _ _ _ _
 split
 ·unfold bL;omega
 ·exact fQ
mutual
theorem afS(cE:Int):∀(x:bk) (O:Int),bL (x.fault cE O)
 |.mk op k n l,O=>by
   simp only[bk.fault];split
   ·exact Pi _ _ _ _ _ _
   ·exact afT cE op 0 l O
theorem afT(cE op:Int):∀(i:Nat) (l:List bk) (O:Int),bL (pm cE op i l O)
 |_,[],O=>by simp only[pm];exact fQ
 |i,x::l,O=>by
   simp only[pm];have a:=afS cE x (if op=5/\i=1 then O+1 else O);have b:=afT cE op (i+1) l O;generalize x.fault cE (if op=5/\i=1 then O+1 else O)=u at a ⊢;by_cases bE:u≠0
   ·rw[if_pos bE];exact a
   ·rw[if_neg bE];exact b
end
theorem avv(cE:Int)(x:bk):bL (oK cE x):=by
 unfold oK;split
 ·unfold bL;omega
 split
 ·unfold bL;omega
 ·exact afS cE x 0
theorem afU(cE:Int):∀(l:List bk) (i:Nat),i+l.length<=1000->bL (p1 cE i l).1/\bL (p1 cE i l).2
 |[],i,_=>⟨fQ,fQ⟩
 |x::l,i,h=>by
   simp only[p1];simp only[dw]at h;split
   ·exact⟨avv cE x,by unfold bL;simp only;omega⟩
   ·exact afU cE l (i+1) (by omega)
theorem SL(l:List bk):bL (fw l).1/\bL (fw l).2:=by
 unfold fw;split
 ·exact⟨by unfold bL;simp only;omega,by unfold bL;simp only;omega⟩
 ·exact afU _ l 0 (by omega)
def sh(f:Int×Int):Prop:=bL f.1/\bL f.2
def lg(l:List ce):Prop:=∀t∈l,(t.at':Nat)<=100000
theorem lg.tail{l:List ce}(h:lg (t::l)):lg l:=λx an=>h x (qk _ an)
theorem BM{e:Int}(he:bL e){l:List ce}(h:lg l){code:Int}(al:bL code):sh (lx e l code):=by
 cases l with
 |nil=>
   unfold lx;refine⟨?_,he⟩;simp only;split
   ·unfold bL;omega
   ·exact al
 |cons t l=>have:=h t (uq ..);exact⟨al,by unfold lx bL;simp only;omega⟩
theorem afV{s:List UInt8}{l r:List ce}(h:o5 s l=j r)(ai:lg l):lg r:=by
 cases l with
 |nil=>cases h
 |cons t l=>
   simp only[o5]at h;split at h
   ·injection h with h;subst h;exact ai.tail
   ·cases h
theorem tz{n:Int}(h: -100<=n/\n<=100):bL n:=by unfold bL;omega
theorem Ea{e:Int}(he:bL e){s:List UInt8}{l:List ce}(ai:lg l):(∀r,na e s l= .ok r->lg r)/\∀f,na e s l= .error f->sh f:=by
 refine⟨λr h=>afV (vU h) ai,λf h=>?_⟩;unfold na at h;split at h
 ·cases h
 ·injection h with h;subst h;exact BM he ai (tz (by omega))
theorem LW{e:Int}(he:bL e){l:List ce}(ai:lg l):(∀q,nD e l= .ok q->lg q.2)/\∀f,nD e l= .error f->sh f:=by
 cases l with
 |nil=>exact⟨λq h=>(by cases h),λf h=>by simp only[nD]at h;injection h with h;subst h;exact BM he ai (tz (by omega))⟩
 |cons t l=>
   refine⟨λq h=>?_,λf h=>?_⟩
   ·simp only[nD]at h;split at h
    ·injection h with h;subst h;exact ai.tail
    ·cases h
   ·simp only[nD]at h;split at h
    ·cases h
    ·injection h with h;subst h;exact BM he ai (tz (by omega))
theorem afW{e:Int}(he:bL e){l:List ce}(ai:lg l):(∀q,q3 e l= .ok q->lg q.2)/\∀f,q3 e l= .error f->sh f:=by
 cases l with
 |nil=>exact⟨λq h=>(by cases h),λf h=>by simp only[q3]at h;injection h with h;subst h;exact BM he ai (tz (by omega))⟩
 |cons t l=>
   refine⟨λq h=>?_,λf h=>?_⟩
   ·simp only[q3]at h;split at h
    ·cases h
    ·exact(LW he ai).1 q h
   ·simp only[q3]at h;split at h
    ·injection h with h;subst h;exact BM he ai (tz (by omega))
    ·exact(LW he ai).2 f h
theorem Eb{e:Int}(he:bL e){of:Int->List UInt8}{l:List ce}(ai:lg l):∀(c k:Nat),(∀q,ql e of l c k= .ok q->lg q.2)/\∀f,ql e of l c k= .error f->sh f
 |0,k=>⟨λq h=>(by cases h),λf h=>by simp only[ql]at h;injection h with h;subst h;exact BM he ai (tz (by omega))⟩
 |c+1,k=>by
   refine⟨λq h=>?_,λf h=>?_⟩
   ·simp only[ql]at h;split at h
    ·rename_i r aj;injection h with h;subst h;exact afV aj ai
    ·exact(Eb he ai c (k+1)).1 q h
   ·simp only[ql]at h;split at h
    ·cases h
    ·exact(Eb he ai c (k+1)).2 f h
theorem afX{e:Int}(he:bL e){l:List ce}(ai:lg l):(∀q,mK e op l= .ok q->lg q.2.2)/\∀f,mK e op l= .error f->sh f:=by
 unfold mK;split
 ·refine⟨λq h=>?_,λf h=>?_⟩
  ·split at h
   ·rename_i n r aE;injection h with h;subst h;exact(LW he ai).1 (n,r) aE
   ·cases h
  ·split at h
   ·cases h
   ·rename_i g aE;injection h with h;subst h;exact(LW he ai).2 g aE
 ·split
  ·refine⟨λq h=>?_,λf h=>?_⟩
   ·split at h
    ·rename_i n r aE;injection h with h;subst h;exact(afW he ai).1 (n,r) aE
    ·cases h
   ·split at h
    ·cases h
    ·rename_i g aE;injection h with h;subst h;exact(afW he ai).2 g aE
  ·split
   ·refine⟨λq h=>?_,λf h=>?_⟩
    ·split at h
     ·rename_i n r aE;injection h with h;subst h;exact(Eb he ai _ _).1 (n,r) aE
     ·cases h
    ·split at h
     ·cases h
     ·rename_i g aE;injection h with h;subst h;exact(Eb he ai _ _).2 g aE
   ·refine⟨λq h=>?_,λf h=>by cases h⟩;injection h with h;subst h;exact ai
theorem LX{f:List ce->Except (Int×Int) (bk×List ce)}(bn:∀l,lg l->(∀q,f l= .ok q->lg q.2)/\∀g,f l= .error g->sh g):∀(n:Nat) (l:List ce),lg l->(∀q,lz f n l= .ok q->lg q.2)/\∀g,lz f n l= .error g->sh g
 |0,l,ai=>⟨λq h=>(by simp only[lz]at h;injection h with h;subst h;exact ai),λg h=>by cases h⟩
 |n+1,l,ai=>by
   refine⟨λq h=>?_,λg h=>?_⟩
   ·simp only[lz]at h;split at h
    ·cases h
    ·rename_i x r F;split at h
     ·cases h
     ·rename_i dR bM J;injection h with h;subst h;exact(LX bn n r ((bn l ai).1 (x,r) F)).1 (dR,bM) J
   ·simp only[lz]at h;split at h
    ·rename_i g1 F;injection h with h;subst h;exact(bn l ai).2 g1 F
    ·rename_i x r F;split at h
     ·rename_i g1 J;injection h with h;subst h;exact(LX bn n r ((bn l ai).1 (x,r) F)).2 g1 J
     ·cases h
theorem LY{e:Int}(he:bL e):∀(cn:Nat) (l:List ce),lg l->(∀q,iT e cn l= .ok q->lg q.2)/\∀g,iT e cn l= .error g->sh g
 |0,l,ai=>⟨λq h=>(by cases h),λg h=>by simp only[iT]at h;injection h with h;subst h;exact BM he ai (tz (by omega))⟩
 |cn+1,l,ai=>by
   have key:∀out,iT e (cn+1) l=out->(∀q,out= .ok q->lg q.2)/\∀g,out= .error g->sh g:=by
    intro out h;simp only[iT]at h;split at h
    ·rename_i f F;subst h;exact⟨λq h=>(by cases h),λg h=>by injection h with h;subst h;exact(Ea he ai).2 f F⟩
    ·rename_i b5 F;have t1:=(Ea he ai).1 b5 F;split at h
     ·rename_i f J;subst h;exact⟨λq h=>(by cases h),λg h=>by injection h with h;subst h;exact(Eb he t1 _ _).2 f J⟩
     ·rename_i op ca J;have t2:=(Eb he t1 _ _).1 (op,ca) J;split at h
      ·rename_i f af;subst h;exact⟨λq h=>(by cases h),λg h=>by injection h with h;subst h;exact(afX he t2).2 f af⟩
      ·rename_i k n dK af;have t3:=(afX he t2).1 (k,n,dK) af;split at h
       ·rename_i f aB;subst h;exact⟨λq h=>(by cases h),λg h=>by injection h with h;subst h;exact(LX (LY he cn) _ _ t3).2 f aB⟩
       ·rename_i xs kM aB;have t4:=(LX (LY he cn) _ _ t3).1 (xs,kM) aB;split at h
        ·rename_i f bw;subst h;exact⟨λq h=>(by cases h),λg h=>by injection h with h;subst h;exact(Ea he t4).2 f bw⟩
        ·rename_i jN bw;subst h;exact⟨λq h=>by injection h with h;subst h;exact(Ea he t4).1 jN bw,λg h=>by cases h⟩
   exact key _ rfl
theorem afY{e:Int}(he:bL e):∀(N:Nat) (l:List ce),lg l->∀g,kR e N l= .error g->sh g
 |N,[],ai,g,h=>by
   have:kR e N []= .ok []:=by cases N<;>rfl
   rw[this]at h;cases h
 |0,t::l,ai,g,h=>by simp only[kR]at h;cases h
 |N+1,t::l,ai,g,h=>by
   simp only[kR]at h;split at h
   ·rename_i f F;injection h with h;subst h;exact(Ea he ai).2 f F
   ·rename_i b5 F;have t1:=(Ea he ai).1 b5 F;split at h
    ·rename_i f J;injection h with h;subst h;exact(LY he 31 b5 t1).2 f J
    ·rename_i x r J;have t2:=(LY he 31 b5 t1).1 (x,r) J;split at h
     ·rename_i f af;injection h with h;subst h;exact afY he N r t2 f af
     ·cases h
theorem LZ:∀(l:List UInt8) (k a:Nat),(∀bX,hz k a l= .inl bX->∀t∈bX,t.at'<=a+l.length)/\∀e,hz k a l= .inr e->e<=a+l.length
 |[],k,a=>by
   refine⟨λbX h=>?_,λe h=>?_⟩
   ·cases k<;>simp only[hz]at h<;>(injection h with h;subst h;exact λt aO=>by cases aO)
   ·cases k<;>simp only[hz]at h<;>cases h
 |c::r,0,a=>by
   have SM:=LZ r 0 (a+1);have key:∀out,hz 0 a (c::r)=out->(∀bX,out= .inl bX->∀t∈bX,t.at'<=a+(r.length+1))/\∀e,out= .inr e->e<=a+(r.length+1):=by
    intro out h;rw[hz]at h;split at h
    ·rw[h]at SM;exact⟨λbX bz t aO=>by have:=SM.1 bX bz t aO;omega,λe bz=>by have:=SM.2 e bz;omega⟩
    ·split at h
     ·subst h;exact⟨λbX h=>(by cases h),λe h=>by injection h with h;subst h;omega⟩
     ·rename_i t aO;have tT:=LZ r (t.text.length - 1) (a+1);split at h
      ·rename_i b8 ai;subst h;refine⟨λbX h=>?_,λe h=>by cases h⟩;injection h with h;subst h;intro x an;rcases gW.1 an with rfl|an
       ·have:=(FD aO).1;omega
       ·have:=tT.1 b8 ai x an;omega
      ·rename_i e ai;subst h;refine⟨λbX h=>(by cases h),λej h=>?_⟩;injection h with h;subst h;have:=tT.2 e ai;omega
   simpa using key _ rfl
 |c::r,k+1,a=>by have aW:=LZ r k (a+1);rw[hz];exact⟨λbX h t aO=>by have:=aW.1 bX h t aO;simp only[dw];omega,λe h=>by have:=aW.2 e h;simp only[dw];omega⟩
theorem afZ(s:List UInt8):sh (hA s).2:=by
 have az:lg (ib s).1/\sh (ib s).2/\((ib s).2.1=0->s.length<=6000):=by
  unfold ib;split
  ·exact⟨λt aO=>(by cases aO),⟨by unfold bL;simp only;omega,by unfold bL;simp only;omega⟩,λh=>by cases h⟩
  ·rename_i ai;have aN:=LZ s 0 0;split
   ·rename_i l h;exact⟨λt aO=>by have:=aN.1 l h t aO;omega,⟨fQ,fQ⟩,λ_=>by omega⟩
   ·rename_i e h;have:=aN.2 e h;exact⟨λt aO=>(by cases aO),⟨by unfold bL;simp only;omega,by unfold bL;simp only;omega⟩,λ_=>by omega⟩
 unfold hA;split
 ·exact az.2.1
 ·rename_i aR;have cc:=az.2.2 (Classical.not_not.1 aR);split
  ·rename_i f h;exact afY (by unfold bL;omega) _ _ az.1 f h
  ·rename_i L h;split
   ·exact SL L
   ·exact⟨fQ,fQ⟩
def af0:List bj:=[Dr,.ops [.i .l (.call (.c (.fn 21 [] [])) []),.i .l (.build [.fx,.aC,.aC,.aC,.aC] [(0,1),(1,4)] [(0,(.l 0))]),.i .l (.box 5 (.l 0)),AY],.ret]
theorem avw:cw ak T 13 0 1 [0] af0 [(.v 0)] R:=by refine⟨_,_,Tryz.func13,rfl,rfl,?_,?_,?_,?_,?_⟩<;>kernel_rfl
def af1:List bj:=[xC,.ops [aX,rX,cU,q5,.g (.l 1) Q .l (.bin (.int o) .lss (.l 0) (.c (.int o 4))),y1,lE],.ret]
theorem avx:cw ak T 51 1 2 [0,2] af1 [(.v 1)] Q:=by refine⟨_,_,Tryz.func51,rfl,rfl,?_,?_,?_,?_,?_⟩<;>kernel_rfl
def L0:List bj:=[.ops [.i (.v 3) (.box 1 (.v 2)),tb],.ops [dv,HD,.i (.v 7) v8],.cond (.v 7) [.ops [PF],.ret] [],.ops [.i .l (.load Q 1 (.v 3)),.i .l (.call (.c (.fn 125 [] [])) [.l 0]),cU,iu,iv,.i (.v 6) HE,Dp,.i .n (.store 2 (.v 6) (.l 0))],.ops [SN,bc,KV],.cond (.v 8) [.ops [SN,bc,jT],.ret] [],.ops [aX,b7,dB,bc,dv,jm,.i .l (.build [.bool R,.aC,.int o 0,.int o 0,.aC] [(0,1),(1,1),(2,3)] [(0,(.c (.bool Q))),(1,(.l 0))]),.i .l (.lv (.l 3)),kC,.i .l (.fa Z (j (4,5)) (.l 0) (.l 4)),.i .n (.store 5 (.l 0) (.l 3))],DG,.ret]
theorem SO:cw ak T 107 3 9 [0,1,2,5,6,7,8,11,19] L0 [(.v 4)] R:=by refine⟨_,_,Tryz.func107,rfl,rfl,?_,?_,?_,?_,?_⟩<;>kernel_rfl
def SP:List bj:=[.ops [.i (.v 4) af2],.ops [eY,QU],.cond (.v 6) [.ops [eY,L1,af3],.ret] [],.ops [g4,aby,y7,DB],.ops [aX,dv,C',hB,SQ,bc,s',abW,PI,hB,abX,.bU [⟨Z,R,1,.l 6,(.l 5)⟩,⟨Z,Q,3,.v 5,(.l 4)⟩],.i .l (.app Q 90 (.l 5) (.l 0)),.i .l (.fa (j 90) Z (.l 0) (.l 4)),.i .l (.fa Z (j (4,1)) (.l 3) (.l 11)),.i .n (.store 3 (.l 1) (.l 7)),ka,.bU [⟨Z,Q,3,.l 1,(.l 7)⟩]],.ops [s',af4,af3],.ret]
theorem af5:cw ak T 109 4 7 [0,1,2,3,8,9,11] SP [(.cell Q 5 4)] R:=by refine⟨_,_,Tryz.func109,rfl,rfl,?_,?_,?_,?_,?_⟩<;>kernel_rfl
def HF:List bj:=[.ops [HG,L2],.ops [.i .l (.dG 7 (.v 2)),bc,Qa,y5,xE],.ops [.i .l (.dG 4 (.v 2)),bc,.i (.v 8) aaM],.cond (.v 8) [.ops [o7,bc,HD,s9,cU,.g (.l 0) R .l (.dG 4 (.v 2)),pJ,KY,.g (.l 3) R .l (.dG 1 (.v 2)),.g (.l 4) R .l yY,.g (.l 5) R .l (.lv (.l 2)),aab,.g (.l 7) R .l (.fa Z (j (4,1)) (.l 0) (.l 2)),.g (.l 8) R .l yY,.g (.l 9) R .l (.len R (j 90) (.l 0)),.g (.l 10) R .l aac,.i (.v 9) (.pick (.l 11) (.c (.bool Q)) (.l 0))],.cond (.v 9) [.ops [.i .l (.build [.int o 0,.int o 0,.int o 0,.int o 0,.aC] [(0,1),(1,1),(2,3)] [(0,(.c (.int o 8)))]),u'],.ret] [],.ops [aX,o7,bc,Gk,hB,SQ,bc,.i .l (.dG 4 (.v 2)),bc,.i .l (.fa (j 90) Z (.l 2) (.l 0)),nd,xE]] [],.ops [aX,b7,dB,bc,o7,bc,we,bc,r3,.i .l (.call (.c (.fn 128 [] [])) [.l 5,.l 3,.l 1,.l 0,.c (.int o 2000)]),cU,iu,iv,.i .l (.ext (.l 2) 2),y7,.bU [⟨Z,R,1,.l 11,(.l 10)⟩,⟨Z,R,1,.l 9,(.l 8)⟩,⟨Z,R,1,.l 7,(.l 6)⟩,⟨Z,Q,3,.v 4,(.l 5)⟩],.i .n (.store 3 (.v 5) (.l 2)),De,mM],.ops [uz,mm,s',.i .l (.build [.int o 0,.int o 0,.int o 0,.int o 0,.aC] [(0,1),(1,1),(2,3)] [(0,(.l 2)),(1,(.l 1)),(2,(.l 0))]),u'],.ret]
theorem L3:cw ak T 111 2 10 [0,1,3,4,5,6,7,8,14,31] HF [(.cell Q 5 3)] R:=by refine⟨_,_,Tryz.func111,rfl,rfl,?_,?_,?_,?_,?_⟩<;>kernel_rfl
def va:List bj:=[.ops [HG,L2],.ops [r4,abG],.block 0 [.ops [abH,Gl],.cond (.v 11) [.ops [aX,o7,bc,.i .l (.dG 8 (.v 2)),.i .l (.load Q 1 (.l 0)),.i .l (.call (.c (.fn 107 [] [])) [.l 4,.l 2,.l 0]),L1,u'],.ret] [.ops [abI,xH],.cond (.v 12) [] [.ops [abJ,xH]],.cond (.v 12) [.ops [o7,bc,HD,.i (.v 13) v8],.cond (.v 13) [.ops [.i .l (.build [.int o 0,.int o 0,.int o 0,.int o 0,.aC] [(0,1),(1,1),(2,3)] [(0,(.c (.int o 1)))]),u'],.ret] [],.ops [r4,bc,.i (.v 14) aco],.cond (.v 14) [.ops [aX,b7,dB,bc,b7,dB,bc,we,bc,SR,bc,SS,bc,.i .l (.call (.c (.fn 108 [] [])) [.l 6,.l 4,.l 2,.l 0]),cU,iu,iv,Dn,lF],.ops [aX,o7,bc,eS,jm,af6,u'],.ret] [],.ops [aX,b7,dB,bc,b7,dB,bc,xz,bc,we,bc,SR,bc,SS,bc,.i .l (.call (.c (.fn 110 [] [])) [.l 8,.l 6,.l 4,.l 2,.l 0]),cU,iu,iv,De,mM],.ops [aX,o7,bc,mm,uz,af6,u'],.ret] [.ops [abL,AU],.cond (.v 15) [.ops [aX,L4,.i .l (.call (.c (.fn 111 [] [])) [.l 1,.l 0]),u'],.ret] [.ops [.i .l (.bin (.int o) .eql (.v 10) (.c (.int o 5))),EQ],.cond (.v 16) [.ops [aX,b7,dB,bc,b7,dB,bc,SS,bc,.i .l (.call (.c (.fn 112 [] [])) [.l 2,.l 0]),L1,u'],.ret] [.ops [abM,Qr],.cond (.v 17) [.ops [aX,b7,dB,bc,b7,dB,bc,abA,cU,iu,iv,.i (.v 8) tj,y6],.ops [A9,.i (.v 18) xx],.cond (.v 18) [.ops [A9,L1,u'],.ret] [],.ops [FX,Qa,af4,u'],.ret] []]]]]],.ops [.i .l (.build [.int o 0,.int o 0,.int o 0,.int o 0,.aC] [(0,1),(1,1),(2,3)] [(0,(.c (.int o 2)))]),u'],.ret]
theorem wB:cw ak T 76 2 19 [0,1,3,4,5,6,7,8,9,10,12,13,22,28,32,81,86,99,113] va [(.cell Q 5 3)] R:=by refine⟨_,_,Tryz.func76,rfl,rfl,?_,?_,?_,?_,?_⟩<;>kernel_rfl
def L5:List bj:=[FV,.ops [dv,HD,PD],.cond (.v 3) [FV,.ret] [],.ops [aX,dv,C',hB,SQ,bc,.i .l (.call (.c (.fn 52 [] [])) [.l 0]),iw],.ret]
theorem SU:cw ak T 31 2 4 [0,1,4,7] L5 [(.v 2)] Q:=by refine⟨_,_,Tryz.func31,rfl,rfl,?_,?_,?_,?_,?_⟩<;>kernel_rfl
def SV:List bj:=[.ops [Ki],.ops [dv,HD,PD],.cond (.v 3) [.ops [v7,Dz],.ret] [],.ops [aX,b7,dB,bc,dv,C',kC,Da,kC,nd,Py,Dz],.ret]
theorem FS:cw ak T 33 2 4 [0,1,4,7] SV [(.cell Q 3 2)] Q:=by refine⟨_,_,Tryz.func33,rfl,rfl,?_,?_,?_,?_,?_⟩<;>kernel_rfl
def SW:List bj:=[Gq,.ops [aX,ab7],.cond (.v 2) [Gq,.ret] [],.ops [.i .l (.hv R 90 [.int o 0,.int o 0,.aC] 3 0 []),aX,.i .l (.app R 90 (.l 1) (.l 0)),lE],.ret]
theorem af7:cw ak T 52 1 3 [0,2,4] SW [(.v 1)] Q:=by refine⟨_,_,Tryz.func52,rfl,rfl,?_,?_,?_,?_,?_⟩<;>kernel_rfl
def lH(b aG:Nat)(cy:List (List ay)):b2:=s5 λbl:List I=>AO (bl.length=cy.length) (hj (bm b [.ptr aG 0 0::bl]) (cX (List.zipWith i' bl cy)))
section
variable{h E am:ad}{ah ao aL aF:Nat->Prop}{L:List b2}{ag aG:Nat}{cy:List (List ay)}
theorem af8(x:(lH ag aG cy).A h ah ao):∃bl,bl.length=cy.length/\aQ h ah ao h (bm ag [.ptr aG 0 0::bl]::List.zipWith i' bl cy):=by obtain⟨bl,ai,x⟩:=x;exact⟨bl,ai,aQ.start x⟩
theorem avy{bl:List I}(ai:bl.length=cy.length)(s:aQ am aL aF h (bm ag [.ptr aG 0 0::bl]::List.zipWith i' bl cy)):en am aL aF h (lH ag aG cy):=en.imp (λ_ _ _ x=>⟨bl,ai,x⟩) s
theorem af9{bl:List I}(ai:bl.length=cy.length){p:Nat}(hp:p<cy.length):∃v,bl[p]? =j v/\(List.zipWith i' bl cy)[p]? =j (i' v (cy.getD p [])):=by
 have U:p<bl.length:=by omega
 refine⟨bl[p],gd U,?_⟩;rw[List.getElem?_zipWith,gd U,gd hp];simp[dm,hp]
theorem avz{bl:List I}{p:Nat}{v:I}{l:List ay}:(List.zipWith i' bl cy).set p (i' v l)=List.zipWith i' (bl.set p v) (cy.set p l):=by
 refine List.ext_getElem? λD=>?_;by_cases e:p=D
 ·subst e;rw[List.getElem?_zipWith,wi,wi,wi];simp only[if_true,List.length_zipWith];by_cases F:p<bl.length
  ·by_cases J:p<cy.length
   ·simp[F,J,show p<min bl.length cy.length by omega]
   ·simp[F,J,show ¬p<min bl.length cy.length by omega]
  ·simp[F,show ¬p<min bl.length cy.length by omega]
 ·rw[List.getElem?_set_ne e,List.getElem?_zipWith,List.getElem?_zipWith,List.getElem?_set_ne e,List.getElem?_set_ne e]
structure HH(h:ad)(v:I)(l:List ay):Prop where
 one:v.one=Q
 cells:v.cells=[v]
 len:gY v=j l.length
 fits:∀s,ko s (j cD) v=Q
 bR:∀(q:kf) (i:Nat) (y:ay),l[i]? =j y->∃p r,fg (j cD) Z v (.int q (i:Int))=j p/\cO Q 3 h p=j (.agg r)/\ck y r
 fB:(l=[]/\v= .aC)\/∃b rows,v= .br b 0 l.length cD/\fb l rows/\js h cD v=j rows
theorem avA{v:I}{l:List ay}(x:(i' v l).A h ah ao):HH h v l:=by
 obtain⟨aP,a2,a3,a4,a5⟩:=jp x;refine⟨aP,a2,a3,a4,a5,?_⟩;obtain⟨rows,ai,x⟩:=x;have hlen:=ai.len;rcases x with⟨⟨rfl,rfl⟩,_⟩|⟨⟨b,es⟩,⟨rfl,F,J⟩,_,_,_,al⟩
 ·exact .inl ⟨mF.1 (by simpa using hlen.symm),rfl⟩
 ·simp only at F J al;refine .inr ⟨b,rows,by rw[hlen],ai,?_⟩;simp only[js,if_true,al,da,gH,F,List.drop_zero];rw[<-J]
structure x7(h:ad)(ag aG:Nat)(cy:List (List ay))(bl:List I):Prop where
 c:h.cell ag=j [.ptr aG 0 0::bl]
 lt:ag<h.n
 len:bl.length=cy.length
 v:∀p:Nat,p<cy.length->∃v,bl[p]? =j v/\HH h v (cy.getD p [])
theorem vb(s:aQ am aL aF h L)(i:Nat)(ae:L[i]? =j (lH ag aG cy)):∃bl,x7 h ag aG cy bl:=by obtain⟨ah,ao,x⟩:=s.get i ae;obtain⟨bl,ai,aY⟩:=af8 x;have c:=aY.cell 0 rfl;refine⟨bl,c.1,c.2,ai,λp hp=>?_⟩;obtain⟨v,F,J⟩:=af9 ai hp;obtain⟨eH,eI,bY⟩:=aY.get (p+1) J;exact⟨v,F,avA bY⟩
theorem x7.push{bl:List I}{es:List (List I)}(v:x7 h ag aG cy bl)(s:aQ am aL aF (h.push es) L)(i:Nat)(ae:L[i]? =j (lH ag aG cy)):x7 (h.push es) ag aG cy bl:=by
 obtain⟨rn,bg⟩:=vb s i ae;have e:=bg.c;rw[eG v.lt,v.c]at e;obtain rfl:bl=rn:=by simpa using e
 exact bg
theorem x7.box{bl:List I}(v:x7 h ag aG cy bl)(n:Nat):cO R n h (.ptr ag 0 0)=j (.ptr aG 0 0):=by rw[gm,v.c];rfl
theorem x7.ja{bl:List I}(v:x7 h ag aG cy bl){p:Nat}{w:I}(hw:bl[p]? =j w)(n:Nat):cO R n h (.ptr ag 0 (1+p))=j w:=by rw[gm,v.c];show(I.ptr aG 0 0::bl)[1+p]? =j w;rw[Nat.add_comm,List.getElem?_cons_succ];exact hw
theorem af'{b p:Nat}(q:kf)(hp:p<4):fg Z (j (4,1)) (.ptr b 0 1) (.int q (p:Int))=j (.ptr b 0 (1+p)):=by simp[fg,hp]
theorem avB(eR:aQ am aL aF h L)(i:Nat)(ae:L[i]? =j (lH ag aG cy)){p:Nat}(hp:p<cy.length){v:ay}{r:List I}(U:ck v r)(ai:(cy.getD p []).length<=1000000){jw:Nat}(aR:h.cell jw=j [bB]){bl:List I}{w:I}(e1:x7 h ag aG cy bl)(hw:bl[p]? =j w):∃q F J af,e0 Q cD w (.br jw 0 1 cD) h=j (.br q 0 ((cy.getD p []).length+1) cD,F)/\eN 3 F (.ptr q (cy.getD p []).length 0) (.agg r)=j J/\eN 1 J (.ptr ag 0 (1+p)) (.br q 0 ((cy.getD p []).length+1) cD)=j af/\cO Q 3 af (.ptr q (cy.getD p []).length 0)=j (.agg r)/\aQ am aL aF af (L.set i (lH ag aG (cy.set p (cy.getD p []++[v])))):=by
 have Ae:ck cp bB:=qq;obtain⟨af,⟨q,F,J⟩,⟨av,ax,bs,cq⟩,eD⟩:=eR.uF (cn:=λaf (q:Nat×ad×ad)=>e0 Q cD w (.br jw 0 1 cD) h=j (.br q.1 0 ((cy.getD p []).length+1) cD,q.2.1)/\eN 3 q.2.1 (.ptr q.1 (cy.getD p []).length 0) (.agg r)=j q.2.2/\eN 1 q.2.2 (.ptr ag 0 (1+p)) (.br q.1 0 ((cy.getD p []).length+1) cD)=j af/\cO Q 3 af (.ptr q.1 (cy.getD p []).length 0)=j (.agg r)) i ae (Y:=λ_=>lH ag aG (cy.set p (cy.getD p []++[v]))) λah ao x=>by
  obtain⟨rn,jh,s⟩:=af8 x;have c0:=s.cell 0 rfl;have oc:rn=bl:=by have:=e1.c;rw[c0.1]at this;simpa using this
  subst oc;obtain⟨aJ,kn,CI⟩:=af9 jh hp;rw[hw]at kn;injection kn with kn;subst kn;have ev:(bm ag [.ptr aG 0 0::rn]::List.zipWith i' rn cy)[p+1]? =j (i' w (cy.getD p [])):=CI;generalize cy.getD p []=l at*;obtain⟨F,av,aY⟩:=s.app (p+1) ev aR Ae ai;have bt:p+1<(bm ag [.ptr aG 0 0::rn]::List.zipWith i' rn cy).length:=(fR.1 ev).1;obtain⟨J,ax,bf⟩:=aY.call (cn:=λJ=>eN 3 F (.ptr h.n l.length 0) (.agg r)=j J) (X:=i' (.br h.n 0 (l.length+1) cD) (l++[cp])) (Y:=i' (.br h.n 0 (l.length+1) cD) ((l++[cp]).set l.length v)) (p+1) (by rw[wi];simp only[if_true,bt]) λah ao x=>adL x (i:=l.length) (by simp) U;rw[List.set_set,show(l++[cp]).set l.length v=l++[v] from Kc l [] cp v rfl]at bf;have bf:aQ h ah ao J (bm ag [.ptr aG 0 0::rn]::List.zipWith i' (rn.set p (.br h.n 0 (l.length+1) cD)) (cy.set p (l++[v]))):=by rw[<-avz];exact bf
  have c2:=bf.cell 0 rfl;have bP:=bf.set 0 rfl [.ptr aG 0 0::rn.set p (.br h.n 0 (l.length+1) cD)];have i6:p<rn.length:=by omega
  refine⟨_,(h.n,F,J),⟨av,ax,lV c2.1 rfl rfl rfl (by simp;omega),?_⟩,?_⟩
  ·have cP:ag≠h.n:=by have:=c0.2;omega
   rw[gm,dL (lo cP),<-gm (agg:=Q) (n:=3)];exact adM ax
  ·refine avy (bl:=rn.set p (.br h.n 0 (l.length+1) cD)) (by simp[jh]) ?_;have e:dO (I.ptr aG 0 0::rn) (1+p) (I.br h.n 0 (l.length+1) cD).cells= .ptr aG 0 0::rn.set p (.br h.n 0 (l.length+1) cD):=by rw[Nat.add_comm];unfold dO;simp only[I.cells,rU,fS,vR,kq];rw[List.set_eq_take_append_cons_drop,if_pos i6];simp
   simp only[List.set_cons_zero];rw[e];exact bP
 exact⟨q,F,J,af,av,ax,bs,cq,eD⟩
end
structure vc where
 (ag aG cl cr:Nat)
abbrev my(c:vc)(H:dr):List b2:=[lH c.ag c.aG H.cy,ha c.aG c.cl c.cr H.ms H.S.kept,iG c.cl H.S.G,bv c.cr H.S.cells H.S.log]
structure pP(H:dr):Prop where
 dg:H.Good
 log:H.S.log.length<=800000
 cy:∀l∈H.cy,l.length<=90000
theorem pP.len{H:dr}(O:pP H):H.ms.length=H.S.kept.length:=O.dg.ms.trans O.dg.st.kept.symm
section
variable{h E am:ad}{ah ao aL aF:Nat->Prop}{L:List b2}{ag aG:Nat}{cy:List (List ay)}{c:vc}{H:dr}
theorem pQ(p:Int):aM ak T 51 [.int o p] h=j (.inl (.bool (mT p)),h):=by refine bd avx rfl ?_;unfold af1;unfold mT;cases F:decide (0<=p)<;>simp only[ap,aw,aA,ar,F]
abbrev gh(c f:Int)(r:List I):List I:=.int o c::.int o f::r
theorem avC(x:(lH ag aG cy).A h ah ao){k:Int}(ab:k≠0)(p n:Int):∃E,aM ak T 109 [.ptr ag 0 0,.int o p,.int o n,.int o k] h=j (.inl (.agg (gh k 0 bB)),E)/\en h ah ao E (lH ag aG cy):=by have eR:aQ h ah ao h [lH ag aG cy]:=aQ.start (cX.one x);have aY:=eR.push [gh k 0 bB];have d1:decide (k=0)=R:=decide_eq_false ab;refine⟨_,?_,en.imp (λ_ _ _=>cX.uE) aY.drop⟩;refine bd af5 rfl ?_;unfold SP;simp only[ap,aw,aA,ar,ct,d1]
theorem avD(x:(lH ag aG cy).A h ah ao)(aB:cy.length=4)(ai:∀l∈cy,l.length<=90000){p:Int}(hp:0<=p/\p<4)(n:Int):∃E,aM ak T 109 [.ptr ag 0 0,.int o p,.int o n,.int o 0] h=j (.inl (.agg (gh 0 0 [.int o 4,.int o n,.aC])),E)/\en h ah ao E (lH ag aG (cy.set p.toNat (cy.getD p.toNat []++[oL n]))):=by
 obtain⟨D,rfl⟩:∃D:Nat,p=(D:Int):=⟨p.toNat,by omega⟩;have aa:D<4:=by omega
 have eR:aQ h ah ao h [lH ag aG cy]:=aQ.start (cX.one x);have aY:=eR.push [gh 0 0 bB];have bf:=aY.push [[.int o 4,.int o n,.aC]];have bP:=bf.push [bB];have c0:=(bP.cell 0 rfl).1;have a6:=(bP.cell 1 rfl).1;have c2:=(bP.cell 2 rfl).1;obtain⟨bl,hO⟩:=vb bf 2 rfl;have U:=hO.push bP 3 rfl;obtain⟨w,hw,bz⟩:=U.v D (by omega);have ja:=U.ja hw;have avE:=hO.ja hw;have dk:=(bf.cell 0 rfl).1;have avF:(cy.getD D []).length<=1000000:=by
  have:cy.getD D []∈cy:=by rw[dm,gd (by omega),ns];exact hf _
  have:=ai _ this;omega
 obtain⟨q,F,J,af,aP,a2,a3,a4,cj⟩:=avB bP 3 rfl (p:=D) (by omega) (Le n) avF c0 U hw;have cj:aQ h ah ao af [bm (h.n+1+1) [bB],bm (h.n+1) [[.int o 4,.int o n,.aC]],bm h.n [gh 0 0 bB],lH ag aG (cy.set D (cy.getD D []++[oL n]))]:=cj;have aP:e0 Q cD w (.br (h.n+1+1) 0 1 cD) _=_:=aP;have av:=(cj.cell 1 rfl).1;have ax:=(cj.cell 2 rfl).1;have cT:=cj.set 2 rfl [gh 0 0 [.int o 4,.int o n,.aC]];have f1:b9 1 (.ptr ag 0 0)=j (.ptr ag 0 1):=rfl;have bR:∀q,fg Z (j (4,1)) (.ptr ag 0 1) (.int q (D:Int))=j (.ptr ag 0 (1+D)):=λq=>af' q aa;have avG:∀k,fg (j cD) Z (.br q 0 ((cy.getD D []).length+1) cD) (.int k ((cy.getD D []).length:Int))=j (.ptr q (cy.getD D []).length 0):=λk=>by rw[AF rfl (q6 _),gH]
 obtain⟨b5,ca,dK,kM⟩:=bz.fits |> λf=>And.intro bz.len (And.intro f (And.intro bz.one bz.cells));rw[rV];generalize cy.getD D []=l at*;refine⟨_,?_,en.imp (λ_ _ _=>cX.uE) cT.drop.drop.drop⟩;have dU:∀x,(h.push [gh 0 0 bB]).push x=(h.push [gh 0 0 bB]).push x:=λ_=>rfl;refine bd af5 rfl ?_;unfold SP;simp only[ap,aw,aA,ar,ct,f1,bR,avG,ja,avE,b5,ca,aP,a2,a3,a4,av,ax]
theorem aga{aG p:Nat}(q:kf)(hp:p<4):fg Z (j (4,5)) (.ptr aG 0 2) (.int q (p:Int))=j (.ptr aG 0 (2+p*5)):=by simp[fg];omega
theorem avH(x:(cX (my c H)).A h ah ao)(O:pP H)(p:Int){M:List bk}{v:I}(du:fH fh v es)(eB:hy M es)(df:M.length<=100000)(az:∀x∈M,x.size<=100000):∃E,aM ak T 107 [.ptr c.ag 0 0,.int o p,.agg [v]] h=j (.inl (.int o (H.load p M).2),E)/\en h ah ao E (cX (my c (H.load p M).1)):=by
 have eR:aQ h ah ao h (my c H):=aQ.start x;have aY:=eR.push [[v]];have kx:∀h,l0 h v M:=λh=>l0.of du eB;have zb:=(kx h).one;have a6:=(aY.cell 0 rfl).1;unfold dr.load;cases hp:mT p with
 |false=>refine⟨_,?_,aY.drop⟩;refine bd SO rfl ?_;unfold L0;simp only[ap,aw,aA,ar,pQ,hp,zb]
 |true=>
   obtain⟨hd,dU⟩:=D8.1 hp;rw[if_neg (by decide)];have mk:=λ(h:ad)=>aq3 (h:=h) du eB kx df az;unfold AP at mk;have bf:=aY.push [[.int o (fw M).1,.int o (fw M).2]];have c2:=(bf.cell 0 rfl).1;by_cases aR:(fw M).1=0
   ·have iz:decide ((fw M).1=0)=Q:=decide_eq_true aR;rw[if_neg (λh=>h aR)];obtain⟨D,rfl⟩:∃D:Nat,p=(D:Int):=⟨p.toNat,by omega⟩;obtain⟨f1,f2,f3⟩:=Bu M;have f4:(lB M).cells=[lB M]:=by unfold lB;rfl
    have aa:D<4:=by omega
    obtain⟨bl,U⟩:=vb bf 2 rfl;have GQ:=U.box 1;obtain⟨af,bs,bP⟩:=au0 bf 3 rfl O.len (p:=D) (by rw[O.dg.ms];exact aa) (M:=M) qq;have bR:∀q,fg Z (j (4,5)) (.ptr c.aG 0 2) (.int q (D:Int))=j (.ptr c.aG 0 (2+D*5)):=λq=>aga q aa;have g1:b9 2 (.ptr c.aG 0 0)=j (.ptr c.aG 0 2):=rfl;have Au:b9 0 (.ptr c.ag 0 0)=j (.ptr c.ag 0 0):=rfl;refine⟨af,?_,bP.drop.drop⟩;rw[if_pos aR]at mk;rw[rV];generalize lB M=aAX at*;refine bd SO rfl ?_;unfold L0;simp only[ap,aw,aA,ar,ct,cx,pQ,hp,zb,a6,mk,iz,GQ,bR,Au,g1,f3,f4,bs]
   ·have iz:decide ((fw M).1=0)=R:=decide_eq_false aR;rw[if_pos aR];rw[if_neg aR]at mk;refine⟨_,?_,bf.drop.drop⟩;refine bd SO rfl ?_;unfold L0;simp only[ap,aw,aA,ar,cx,pQ,hp,zb,a6,mk,iz]
def c7(x:iU)(m:I):List I:=[.int o x.kind,.int o x.p,.int o x.q,.int o x.k,.int o x.h,.int o x.r,.int o x.g,.int o x.n,m]
def oB(e:mv)(r:List I):Prop:=∃q,r=gh e.code e.fuel q/\ck e.v q
theorem oB.no{c:Int}:oB (mv.no c) (gh c 0 bB):=⟨bB,rfl,qq⟩
theorem SX{b:Nat}{p:Int}(q:kf)(am:0<=p)(F:p<4):fg Z (j (4,1)) (.ptr b 0 1) (.int q p)=j (.ptr b 0 (1+p.toNat)):=by obtain⟨D,rfl⟩:=Int.eq_ofNat_of_zero_le am;rw[rV];exact af' q (by omega)
abbrev L6(gv:Nat)(y:iU)(m:I)(ml:List I)(c:vc)(H:dr):List b2:=[bm (gv+1+1) [ml],bm (gv+1) [gh 0 0 bB],bm gv [c7 y m],lH c.ag c.aG H.cy,ha c.aG c.cl c.cr H.ms H.S.kept,iG c.cl H.S.G,bv c.cr H.S.cells H.S.log]
structure avI(am:ad)(aL aF:Nat->Prop)(gv:Nat)(e7:ad)(y:iU)(m:I)(ml:List I)(c:vc)(H:dr)(b3:bG)(v:ay)(n k:Int)(bw:ad)(bZ:List I):Prop where
 e:aM ak T jq (rl c.aG y.p y.k ml 2000) e7=j (.inl (.bx [.agg bZ,.int o n,.int o k]),bw)
 SY:ck v bZ
 a0:e7.cell (gv+1+1)=j [ml]
 a2:e7.cell gv=j [c7 y m]
 zu:cO R 1 e7 (.ptr c.ag 0 0)=j (.ptr c.aG 0 0)
 lf:(bw.push [bB]).cell (gv+1+1)=j [ml]
 dH:(bw.push [bB]).cell gv=j [c7 y m]
 aG:cO R 1 (bw.push [bB]) (.ptr c.ag 0 0)=j (.ptr c.aG 0 0)
 d1:(bw.push [bZ]).cell (gv+1)=j [gh 0 0 bB]
 s:aQ am aL aF ((bw.push [bZ]).set (gv+1) (j [gh k n bZ])) (my c {H with S:=b3})
theorem agb{gv:Nat}{e7:ad}{y:iU}{m:I}{ml:List I}{arg:ay}(s:aQ am aL aF e7 (L6 gv y m ml c H))(O:pP H)(U:ck arg ml)(dY:arg.size<=100000):∃bw bZ,avI am aL aF gv e7 y m ml c H (gQ H.ms y.p y.k arg 2000 H.S).1 (gQ H.ms y.p y.k arg 2000 H.S).2.1 (gQ H.ms y.p y.k arg 2000 H.S).2.2.1 (gQ H.ms y.p y.k arg 2000 H.S).2.2.2 bw bZ:=by
 obtain⟨bw,⟨bZ,eX,v5⟩,cT⟩:=s.Hw (A:=[bm (gv+1+1) [ml],bm (gv+1) [gh 0 0 bB],bm gv [c7 y m],lH c.ag c.aG H.cy]) (M:=[ha c.aG c.cl c.cr H.ms H.S.kept,iG c.cl H.S.G,bv c.cr H.S.cells H.S.log]) (B:=[]) (wo:=[ha c.aG c.cl c.cr H.ms (gQ H.ms y.p y.k arg 2000 H.S).1.kept,iG c.cl (gQ H.ms y.p y.k arg 2000 H.S).1.G,bv c.cr (gQ H.ms y.p y.k arg 2000 H.S).1.cells (gQ H.ms y.p y.k arg 2000 H.S).1.log])
  λah ao x=>auU (p:=y.p) (f:=y.k) (fuel:=2000) U dY x O.dg.ms O.dg.ok.dg O.dg.ok.sized O.dg.st (by have:=O.log;omega)
 have cT:aQ am aL aF bw (L6 gv y m ml c {H with S:=(gQ H.ms y.p y.k arg 2000 H.S).1}):=cT;obtain⟨bl,qP⟩:=vb s 3 rfl;have eo:=cT.push [bB];obtain⟨aAY,avJ⟩:=vb eo 4 rfl;have jb:=cT.push [bZ];have la:=jb.set 2 rfl [gh (gQ H.ms y.p y.k arg 2000 H.S).2.2.2 (gQ H.ms y.p y.k arg 2000 H.S).2.2.1 bZ];exact⟨bw,bZ,eX,v5,(s.cell 0 rfl).1,(s.cell 2 rfl).1,qP.box 1,(eo.cell 1 rfl).1,(eo.cell 3 rfl).1,avJ.box 1,(jb.cell 2 rfl).1,la.drop.drop.drop.drop⟩
theorem avK(x:(cX (my c H)).A h ah ao)(O:pP H)(y:iU){m:I}(hm:m.one=Q):∃E,(∃r,aM ak T 111 [.ptr c.ag 0 0,.agg (c7 y m)] h=j (.inl (.agg r),E)/\oB (H.call y).2 r)/\en h ah ao E (cX (my c (H.call y).1)):=by
 have eR:aQ h ah ao h (my c H):=aQ.start x;have aY:=eR.push [c7 y m];have bf:=aY.push [gh 0 0 bB];have bP:aQ h ah ao _ (L6 h.n y m [.int o 1,.int o y.n,.aC] c H):=bf.push [[.int o 1,.int o y.n,.aC]];have c0:=(bP.cell 0 rfl).1;have a6:=(bP.cell 1 rfl).1;have c2:=(bP.cell 2 rfl).1;have d2:=(bf.cell 1 rfl).1;obtain⟨bl,U⟩:=vb bP 3 rfl;have lh:∀x,(((h.push [c7 y m]).push [gh 0 0 bB]).push [bB]).set (h.n+1+1) (j x)=((h.push [c7 y m]).push [gh 0 0 bB]).push x:=λx=>q1;have lj:(((h.push [c7 y m]).push [gh 0 0 bB]).push [bB]).cell (h.n+1+1)=j [bB]:=fU (h:=(h.push [c7 y m]).push [gh 0 0 bB]);have f4:∀b O k,b9 O (.ptr b 0 k)=j (.ptr b 0 (k+O)):=λ_ _ _=>rfl;simp only[c7]at c2 d2 lh lj;unfold dr.call;by_cases al:0<=y.h/\(mT y.p=R\/((H.hand y.p).length:Int)<=y.h)
 ·rw[if_pos al];obtain⟨oR,jJ⟩:=al;have Ec:decide (0<=y.h)=Q:=decide_eq_true oR;have cj:=bP.set 1 rfl [gh 8 0 bB];refine⟨_,⟨_,?_,oB.no⟩,cj.drop.drop.drop⟩;cases hp:mT y.p with
  |false=>refine bd L3 rfl ?_;unfold HF;simp only[ap,aw,aA,ar,ct,c7,pQ,hp,hm,Ec,c2,d2,lj,lh]
  |true=>obtain⟨hd,dU⟩:=D8.1 hp;have ai:((H.hand y.p).length:Int)<=y.h:=jJ.resolve_left (by simp[hp]);have uS:decide (((H.hand y.p).length:Int)<=y.h)=Q:=decide_eq_true ai;obtain⟨w,hw,bz⟩:=U.v y.p.toNat (by rw[O.dg.cy];omega);have ja:=U.ja hw;simp only[c7]at ja;have bR:=λq=>SX (b:=c.ag) q hd dU;have bz:HH _ w (H.hand y.p):=bz;have b5:=bz.len;have ca:=bz.fits;refine bd L3 rfl ?_;unfold HF;simp only[ap,aw,aA,ar,ct,c7,pQ,hp,hm,Ec,c2,d2,lj,lh,bR,ja,b5,ca,uS]
 ·rw[if_neg al];have L7:=O.dg.arg y;by_cases F:0<=y.h
  ·have hp:mT y.p=Q:=by
    cases hp:mT y.p with
    |true=>rfl
    |false=>exact absurd ⟨F,.inl hp⟩ al
   have ai:¬((H.hand y.p).length:Int)<=y.h:=λh=>al ⟨F,.inr h⟩;obtain⟨hd,dU⟩:=D8.1 hp;have uS:decide (((H.hand y.p).length:Int)<=y.h)=R:=decide_eq_false ai;have Ec:decide (0<=y.h)=Q:=decide_eq_true F;obtain⟨w,hw,bz⟩:=U.v y.p.toNat (by rw[O.dg.cy];omega);have ja:=U.ja hw;simp only[c7]at ja;have bR:=λq=>SX (b:=c.ag) q hd dU;have bz:HH _ w (H.hand y.p):=bz;have b5:=bz.len;have ca:=bz.fits;rw[if_pos F]at L7 ⊢;have ae:y.h.toNat<(H.hand y.p).length:=by omega
   have SZ:(H.hand y.p)[y.h.toNat]? =j ((H.hand y.p).getD y.h.toNat cp):=by simp[dm,ae]
   generalize (H.hand y.p).getD y.h.toNat cp=arg at*;obtain⟨wC,ml,eW,i2,SY⟩:=bz.bR o _ _ SZ;rw[Int.toNat_of_nonneg F]at eW;have agc:=i2;simp only[c7]at agc;have cj:aQ h ah ao _ (L6 h.n y m ml c H):=bf.push [ml];obtain⟨b0,bK⟩:=SY.dx;have SA:((((h.push [c7 y m]).push [gh 0 0 bB]).push [[.int o 1,.int o y.n,.aC]]).set (h.n+1+1) (j [ml]))=((h.push [c7 y m]).push [gh 0 0 bB]).push [ml]:=q1;simp only[c7]at SA;obtain⟨bw,bZ,e,bg,a0,a2,zu,lf,dH,aG,d1,HI⟩:=agb cj O SY L7.2;generalize gQ H.ms y.p y.k arg 2000 H.S=q at*;obtain⟨b3,v,n,k⟩:=q;simp only at e bg a0 a2 zu lf dH aG d1 HI ⊢;obtain⟨cJ,z2⟩:=bg.dx;refine⟨_,⟨_,?_,⟨bZ,rfl,bg⟩⟩,HI⟩;simp only[c7]at e a0 a2 zu lf dH;refine bd L3 rfl ?_;unfold HF;simp only[ap,aw,aA,ar,ct,c7,pQ,hp,hm,Ec,c2,d2,lj,lh,bR,ja,b5,ca,uS,SA,eW,agc,b0,bK,e,a0,a2,zu,lf,dH,aG,d1,cJ,z2]
  ·rw[if_neg F]at L7 ⊢;have Ec:decide (0<=y.h)=R:=decide_eq_false F;obtain⟨bw,bZ,e,bg,a0,a2,zu,lf,dH,aG,d1,HI⟩:=agb bP O (G0 y.n) L7.2;generalize gQ H.ms y.p y.k (l6 y.n) 2000 H.S=q at*;obtain⟨b3,v,n,k⟩:=q;simp only at e bg a0 a2 zu lf dH aG d1 HI ⊢;obtain⟨cJ,z2⟩:=bg.dx;refine⟨_,⟨_,?_,⟨bZ,rfl,bg⟩⟩,HI⟩;simp only[c7]at e a0 a2 zu lf dH;refine bd L3 rfl ?_;unfold HF;simp only[ap,aw,aA,ar,ct,c7,pQ,hm,Ec,c2,d2,lj,lh,e,a0,zu,lf,dH,aG,d1,cJ,z2]
end
section
variable{h E am:ad}{ah ao aL aF:Nat->Prop}{L:List b2}{c:vc}{H:dr}
abbrev zv(gv:Nat)(y:iU)(m:I)(c:vc)(H:dr):List b2:=[bm (gv+1) [gh 0 0 bB],bm gv [c7 y m],lH c.ag c.aG H.cy,ha c.aG c.cl c.cr H.ms H.S.kept,iG c.cl H.S.G,bv c.cr H.S.cells H.S.log]
theorem vd{gv:Nat}{e7:ad}{y:iU}{m:I}(s:aQ am aL aF e7 (zv gv y m c H))(q:List I):e7.cell (gv+1)=j [gh 0 0 bB]/\e7.cell gv=j [c7 y m]/\aQ am aL aF (e7.set (gv+1) (j [q])) (my c H):=⟨(s.cell 0 rfl).1,(s.cell 1 rfl).1,(s.set 0 rfl [q]).drop.drop⟩
theorem L8{gv:Nat}{e7:ad}{y:iU}{m:I}(s:aQ am aL aF e7 (zv gv y m c H))(O:pP H){cn:ad->Prop}{ei:be}(kF:∀ah ao,gE e7 ah ao c.cl H.S.G->∃E,cn E/\ic e7 ah ao c.cl E ei):cO R 1 e7 (.ptr c.ag 0 0)=j (.ptr c.aG 0 0)/\cO R 1 e7 (.ptr c.aG 0 0)=j (.ptr c.cl 0 0)/\∃E,cn E/\aQ am aL aF E (zv gv y m c (H.graph ei)):=by obtain⟨bl,U⟩:=vb s 2 rfl;have ca:=(G1 s (Bn:=3) rfl O.len).1 1;obtain⟨E,r,eD⟩:=s.call (cn:=cn) (Y:=iG c.cl ei) 4 rfl kF;exact⟨U.box 1,ca,E,r,eD⟩
theorem agd{gv:Nat}{e7:ad}{y:iU}{m:I}(s:aQ am aL aF e7 (zv gv y m c H))(O:pP H){p:Int}(hp:mT p=Q)(n k:Int):∃E r,aM ak T 109 [.ptr c.ag 0 0,.int o p,.int o n,.int o k] e7=j (.inl (.agg r),E)/\oB (H.mw p n k).2 r/\aQ am aL aF E (zv gv y m c (H.mw p n k).1):=by
 unfold dr.mw;by_cases ab:k≠0
 ·rw[if_pos ab];obtain⟨E,e,eD⟩:=s.call (cn:=λE=>aM ak T 109 [.ptr c.ag 0 0,.int o p,.int o n,.int o k] e7=j (.inl (.agg (gh k 0 bB)),E)) 2 rfl λah ao x=>avC x ab p n;exact⟨E,_,e,oB.no,eD⟩
 ·rw[if_neg ab];have ab:=Classical.not_not.1 ab;subst ab;obtain⟨E,e,eD⟩:=s.call (cn:=λE=>aM ak T 109 [.ptr c.ag 0 0,.int o p,.int o n,.int o 0] e7=j (.inl (.agg (gh 0 0 [.int o 4,.int o n,.aC])),E)) 2 rfl λah ao x=>avD x O.dg.cy O.cy (D8.1 hp) n;exact⟨E,_,e,⟨_,rfl,Le n⟩,eD⟩
theorem oB.all{e:mv}{r:List I}(h:oB e r):r.length=5/\r.all I.one=Q:=by obtain⟨q,rfl,aE⟩:=h;obtain⟨bT,bM⟩:=aE.dx;refine⟨by simp[bT],?_⟩;simp only[List.all_cons,bM,s3];rfl
theorem avL(x:(cX (my c H)).A h ah ao)(O:pP H)(y:iU){m:I}(du:fH fh m es)(eB:hy y.m es)(df:y.m.length<=100000)(az:∀x∈y.m,x.size<=100000):∃E,(∃r,aM ak T 76 [.ptr c.ag 0 0,.agg (c7 y m)] h=j (.inl (.agg r),E)/\oB (H.step y).2 r)/\en h ah ao E (cX (my c (H.step y).1)):=by
 have eR:aQ h ah ao h (my c H):=aQ.start x;have aY:=eR.push [c7 y m];have bf:aQ h ah ao _ (zv h.n y m c H):=aY.push [gh 0 0 bB];have hm:m.one=Q:=(l0.of (h:=h) du eB).one;have a6:((h.push [c7 y m]).push [gh 0 0 bB]).cell h.n=j [c7 y m]:=(bf.cell 1 rfl).1;have lh:∀x,((h.push [c7 y m]).push [gh 0 0 bB]).set (h.n+1) (j x)=(h.push [c7 y m]).push x:=λx=>q1;have lj:∀x,((h.push [c7 y m]).push x).cell (h.n+1)=j x:=λx=>fU (h:=h.push [c7 y m]);unfold dr.step;by_cases c8:y.kind=1
 ·have d1:decide (y.kind=1)=Q:=decide_eq_true c8;rw[if_pos c8];obtain⟨bw,eX,cT⟩:=bf.Hw (A:=[bm (h.n+1) [gh 0 0 bB],bm h.n [c7 y m]]) (M:=my c H) (B:=[]) (wo:=my c (H.load y.p y.m).1) (cn:=λE=>aM ak T 107 [.ptr c.ag 0 0,.int o y.p,.agg [m]] _=j (.inl (.int o (H.load y.p y.m).2),E)) λah ao x=>avH x O y.p du eB df az;have cT:aQ h ah ao bw (zv h.n y m c (H.load y.p y.m).1):=cT;obtain⟨dk,dH,eo⟩:=vd cT (gh (H.load y.p y.m).2 0 bB);refine⟨_,⟨_,?_,oB.no⟩,eo⟩;have lm:gX Q 1 (c7 y m) 8=j (.agg [m]):=rfl;simp only[c7]at a6 lh lj eX lm;refine bd wB rfl ?_;unfold va;simp only[ap,aw,aA,ar,ct,c7,hm,d1,a6,lj,lh,lm,eX,dk]
 have d1:decide (y.kind=1)=R:=decide_eq_false c8;rw[if_neg c8];by_cases Ed:y.kind=2\/y.kind=3
 ·rw[if_pos Ed];cases hp:mT y.p with
  |false=>
    have eo:=(vd bf (gh 1 0 bB)).2.2;refine⟨_,⟨_,?_,oB.no⟩,eo⟩;simp only[c7]at a6 lh lj;rcases Ed with c6|fN
    ·have d2:decide (y.kind=2)=Q:=decide_eq_true c6;refine bd wB rfl ?_;unfold va;simp only[ap,aw,aA,ar,ct,c7,pQ,hp,hm,d1,d2,a6,lj,lh]
    ·have d2:decide (y.kind=2)=R:=decide_eq_false (by omega);have d3:decide (y.kind=3)=Q:=decide_eq_true fN;refine bd wB rfl ?_;unfold va;simp only[ap,aw,aA,ar,ct,c7,pQ,hp,hm,d1,d2,d3,a6,lj,lh]
  |true=>
    rw[if_neg (by decide)];by_cases c6:y.kind=2
    ·have d2:decide (y.kind=2)=Q:=decide_eq_true c6;rw[if_pos c6];obtain⟨b5,ca,af,bs,bP⟩:=L8 bf O (λah ao g=>arc g O.dg.st.wf y.k y.r y.g);have e6:pP (H.graph (H.S.G.lL y.k y.r y.g).1):=⟨O.dg.graph (O.dg.st.wf.lL _ _ _),O.log,O.cy⟩;obtain⟨bw,ot,eX,v5,cT⟩:=agd bP e6 hp (H.S.G.lL y.k y.r y.g).2.1 (H.S.G.lL y.k y.r y.g).2.2;obtain⟨aP,a2,_⟩:=vd bP ot;obtain⟨dk,dH,eo⟩:=vd cT ot;obtain⟨cJ,z2⟩:=v5.all;refine⟨_,⟨_,?_,v5⟩,eo⟩;simp only[c7]at a6 lh lj b5 ca bs a2;refine bd wB rfl ?_;unfold va;simp only[ap,aw,aA,ar,ct,c7,pQ,hp,hm,d1,d2,a6,lj,lh,b5,ca,bs,a2,eX,dk,cJ,z2]
    ·have d2:decide (y.kind=2)=R:=decide_eq_false c6;have d3:decide (y.kind=3)=Q:=decide_eq_true (Ed.resolve_left c6);rw[if_neg c6];obtain⟨b5,ca,af,bs,bP⟩:=L8 bf O (λah ao g=>are g O.dg.st.wf y.q y.k y.r y.g);have e6:pP (H.graph (H.S.G.lM y.q y.k y.r y.g).1):=⟨O.dg.graph (O.dg.st.wf.lM _ _ _ _),O.log,O.cy⟩;obtain⟨bw,ot,eX,v5,cT⟩:=agd bP e6 hp (H.S.G.lM y.q y.k y.r y.g).2.1 (H.S.G.lM y.q y.k y.r y.g).2.2;obtain⟨aP,a2,_⟩:=vd bP ot;obtain⟨dk,dH,eo⟩:=vd cT ot;obtain⟨cJ,z2⟩:=v5.all;refine⟨_,⟨_,?_,v5⟩,eo⟩;simp only[c7]at a6 lh lj b5 ca bs a2;refine bd wB rfl ?_;unfold va;simp only[ap,aw,aA,ar,ct,c7,pQ,hp,hm,d1,d2,d3,a6,lj,lh,b5,ca,bs,a2,eX,dk,cJ,z2]
 rw[if_neg Ed];have d2:decide (y.kind=2)=R:=decide_eq_false λh=>Ed (.inl h);have d3:decide (y.kind=3)=R:=decide_eq_false λh=>Ed (.inr h);by_cases hu:y.kind=4
 ·have d4:decide (y.kind=4)=Q:=decide_eq_true hu;rw[if_pos hu];obtain⟨bw,⟨ot,eX,v5⟩,cT⟩:=bf.Hw (A:=[bm (h.n+1) [gh 0 0 bB],bm h.n [c7 y m]]) (M:=my c H) (B:=[]) (wo:=my c (H.call y).1) (cn:=λE=>∃r,aM ak T 111 [.ptr c.ag 0 0,.agg (c7 y m)] _=j (.inl (.agg r),E)/\oB (H.call y).2 r) λah ao x=>avK x O y hm;have cT:aQ h ah ao bw (zv h.n y m c (H.call y).1):=cT;obtain⟨dk,dH,eo⟩:=vd cT ot;obtain⟨cJ,z2⟩:=v5.all;refine⟨_,⟨_,?_,v5⟩,eo⟩;simp only[c7]at a6 lh lj eX;refine bd wB rfl ?_;unfold va;simp only[ap,aw,aA,ar,ct,c7,hm,d1,d2,d3,d4,a6,lj,lh,eX,dk,cJ,z2]
 have d4:decide (y.kind=4)=R:=decide_eq_false hu;rw[if_neg hu];by_cases j4:y.kind=5
 ·have d5:decide (y.kind=5)=Q:=decide_eq_true j4;rw[if_pos j4];obtain⟨b5,ca,af,bs,bP⟩:=L8 bf O (λah ao g=>abb g y.g);obtain⟨dk,dH,eo⟩:=vd bP (gh (H.S.G.cut y.g).2 0 bB);refine⟨_,⟨_,?_,oB.no⟩,eo⟩;simp only[c7]at a6 lh lj b5 ca bs;refine bd wB rfl ?_;unfold va;simp only[ap,aw,aA,ar,ct,c7,hm,d1,d2,d3,d4,d5,a6,lj,lh,b5,ca,bs,dk]
 have d5:decide (y.kind=5)=R:=decide_eq_false j4;rw[if_neg j4];by_cases iD:y.kind=6
 ·have d6:decide (y.kind=6)=Q:=decide_eq_true iD;rw[if_pos iD];obtain⟨b5,ca,af,bs,bP⟩:=L8 bf O (λah ao g=>aa' g O.dg.st.wf);by_cases aR:H.S.G.gate.2.2=0
  ·have iz:decide (H.S.G.gate.2.2=0)=Q:=decide_eq_true aR;obtain⟨dk,dH,eo⟩:=vd bP (gh 0 0 [.int o 1,.int o H.S.G.gate.2.1,.aC]);refine⟨_,⟨gh 0 0 [.int o 1,.int o H.S.G.gate.2.1,.aC],?_,?_⟩,eo⟩
   rotate_left
   ·simp only[if_neg (λh:H.S.G.gate.2.2≠0=>h aR)];exact⟨_,rfl,G0 _⟩
   simp only[c7]at a6 lh lj b5 ca bs;refine bd wB rfl ?_;unfold va;simp only[ap,aw,aA,ar,ct,c7,hm,d1,d2,d3,d4,d5,d6,a6,lj,lh,b5,ca,bs,dk,iz]
  ·have iz:decide (H.S.G.gate.2.2=0)=R:=decide_eq_false aR;obtain⟨dk,dH,eo⟩:=vd bP (gh H.S.G.gate.2.2 0 bB);refine⟨_,⟨gh H.S.G.gate.2.2 0 bB,?_,?_⟩,eo⟩
   rotate_left
   ·simp only[if_pos (show H.S.G.gate.2.2≠0 from aR)];exact oB.no
   simp only[c7]at a6 lh lj b5 ca bs;refine bd wB rfl ?_;unfold va;simp only[ap,aw,aA,ar,ct,c7,hm,d1,d2,d3,d4,d5,d6,a6,lj,lh,b5,ca,bs,dk,iz]
 have d6:decide (y.kind=6)=R:=decide_eq_false iD;rw[if_neg iD];have eo:=(vd bf (gh 2 0 bB)).2.2;refine⟨_,⟨_,?_,oB.no⟩,eo⟩;simp only[c7]at a6 lh lj;refine bd wB rfl ?_;unfold va;simp only[ap,aw,aA,ar,ct,c7,hm,d1,d2,d3,d4,d5,d6,a6,lj,lh]
end
section
variable{h E am:ad}{ah ao aL aF:Nat->Prop}{L:List b2}{c:vc}{H:dr}{ag aG:Nat}{cy:List (List ay)}
theorem avM:(i' .aC []).A h (λ_=>False) (λ_=>False):=⟨[],rfl,.inl ⟨⟨rfl,rfl⟩,λ_ h=>h,λ_ h=>h⟩⟩
theorem cX.age:∀n:Nat,(cX (List.zipWith i' (ar n .aC) (ar n []))).A h (λ_=>False) (λ_=>False)
 |0=>⟨trivial,λ_ h=>h,λ_ h=>h⟩
 |n+1=>⟨λ_=>False,λ_=>False,λ_=>False,λ_=>False,avM,cX.age n,λk=>by simp,λD=>by simp,λ_ h=>h.elim,λ_ h=>h.elim⟩
theorem avN{b:Nat}(ag:b=h.n):(lH b aG [[],[],[],[]]).A (h.push [[.ptr aG 0 0,.aC,.aC,.aC,.aC]]) (λk=>k=b) (λ_=>False):=by subst ag;exact⟨[.aC,.aC,.aC,.aC],rfl,λk=>k=h.n,λ_=>False,λ_=>False,λ_=>False,⟨λ_=>mN,λ_ h=>h,q6 _,fU⟩,cX.age 4,λk=>by simp,λD=>by simp,λ_ _ h=>h,λ_ h=>h.elim⟩
theorem avO(s:aQ am aL aF h L):∃E c,aM ak T 13 [] h=j (.inl (.ptr c.ag 0 0),E)/\aQ am aL aF E (my c uY++L):=by obtain⟨F,aG,cl,cr,av,aY⟩:=au4 s;have bf:=aY.add (X:=lH F.n aG [[],[],[],[]]) (E:=F.push [[.ptr aG 0 0,.aC,.aC,.aC,.aC]]) (eH:=λk=>k=F.n) (eI:=λ_=>False) (aK.push _ _) (avN rfl) (λk ab=>p3 ab.symm) (λ_ h=>h.elim);refine⟨_,⟨F.n,aG,cl,cr⟩,?_,bf⟩;refine bd avw rfl ?_;unfold af0;simp only[ap,aw,aA,ar,ct,av]
theorem avP(b:Nat)(n:Nat){l:List ay}{rows:List (List I)}(ai:fb l rows)(he:js h cD (.br b 0 n cD)=j rows)(aq:l.length<=1000000):∃es,aM ak T 52 [.br b 0 n cD] h=j (.inl (.bN Z cD es),h)/\fb l es:=by
 have hlen:=ai.len;have Fu:∀m,js (h.fresh m) cD (.br b 0 n cD)=j rows:=λm=>he;have au:∀r∈rows,r.all I.one=Q:=by
  intro r aj;obtain⟨i,ae⟩:=List.mem_iff_getElem?.1 aj;have F:i<l.length:=by rw[<-hlen];exact(fR.1 ae).1
  obtain⟨bZ,bT,bM⟩:=ai.get (gd F);rw[ae]at bT;injection bT with bT;rw[bT];exact bM.dx.2
 have av:e0 R cD (.bN (j h.ids) cD []) (.br b 0 n cD) (h.fresh 0)=j (.bN (j h.ids) cD rows,if rows.length=0 then h.fresh 0 else(h.fresh 0).grow h.ids rows.length):=by
  simp only[e0,Fu,da];by_cases aR:rows.length=0
  ·simp[sB,mF.1 aR]
  ·rw[if_neg aR,if_neg aR];unfold kW;rw[if_pos ⟨by omega,by omega,by rw[iC];exact au⟩];simp[Fz]
 have a7:aK h (if rows.length=0 then h.fresh 0 else(h.fresh 0).grow h.ids rows.length):=by
  split
  ·exact aK.fresh h 0
  ·exact(aK.fresh h 0).grow (bS _)
 obtain⟨es,cg,dS⟩:=Kd ai;have hw:dP (.bN (j h.ids) cD rows)=j (.bN Z cD es):=by simp only[dP,cg,g3]
 refine⟨es,?_,dS⟩;refine bd af7 rfl ?_;unfold SW;simp only[ap,aw,aA,ar,av,e8 a7 hw]
theorem avQ:aM ak T 52 [.aC] h=j (.inl .aC,h):=by refine bd af7 rfl ?_;unfold SW;simp only[ap,aw,aA,ar];exact e8 (aK.refl h) rfl
def dr.si(H:dr)(p:Int):List ay:=if mT p then H.hand p else[]
def dr.zw(H:dr)(p:Int):ay:=if mT p then H.S.kept.getD p.toNat cp else cp
theorem avR(s:aQ am aL aF h L)(i:Nat)(ae:L[i]? =j (lH ag aG H.cy))(aB:H.cy.length=4)(hlen:∀l∈H.cy,l.length<=90000)(p:Int):∃v es,aM ak T 31 [.ptr ag 0 0,.int o p] h=j (.inl v,h)/\fH cD v es/\fb (H.si p) es:=by
 unfold dr.si;cases hp:mT p with
 |false=>refine⟨.aC,[],?_,.inl ⟨rfl,rfl⟩,by simp[fb]⟩;refine bd SU rfl ?_;unfold L5;simp only[ap,aw,aA,ar,pQ,hp];exact e8 (aK.refl h) rfl
 |true=>
   obtain⟨hd,dU⟩:=D8.1 hp;obtain⟨bl,U⟩:=vb s i ae;obtain⟨w,hw,bz⟩:=U.v p.toNat (by omega);have ja:=U.ja hw;have bR:=λq=>SX (b:=ag) q hd dU;have f1:b9 1 (.ptr ag 0 0)=j (.ptr ag 0 1):=rfl;have ai:(H.hand p).length<=1000000:=by
    have:H.hand p∈H.cy:=by unfold dr.hand;rw[dm,gd (by omega),ns];exact hf _
    have:=hlen _ this;omega
   have bz:HH h w (H.hand p):=bz;rw[if_pos rfl];rcases bz.fB with⟨av,rfl⟩|⟨b,rows,rfl,ax,bs⟩
   ·refine⟨.aC,[],?_,.inl ⟨rfl,rfl⟩,by rw[av];simp[fb]⟩;refine bd SU rfl ?_;unfold L5;simp only[ap,aw,aA,ar,pQ,hp,f1,bR,ja,avQ];exact e8 (aK.refl h) rfl
   ·obtain⟨es,cq,eX⟩:=avP b _ ax bs ai;obtain⟨gz,cg,dS⟩:=Kd eX;refine⟨.bN Z cD gz,gz,?_,.inr ⟨_,rfl⟩,dS⟩;have rc:dP (.bN Z cD es)=j (.bN Z cD gz):=by simp only[dP,cg,g3]
    refine bd SU rfl ?_;unfold L5;simp only[ap,aw,aA,ar,pQ,hp,f1,bR,ja,cq];exact e8 (aK.refl h) rc
theorem avS(s:aQ am aL aF h L)(i D:Nat)(ae:L[i]? =j (lH ag aG cy)){cl cr:Nat}(aa:L[D]? =j (ha aG cl cr H.ms H.S.kept))(g:H.Good)(p:Int):∃r,aM ak T 33 [.ptr ag 0 0,.int o p] h=j (.inl (.agg r),h)/\ck (H.zw p) r:=by
 unfold dr.zw;have aY:=s.push [bB];have hd:(h.push [bB]).cell h.n=j [bB]:=fU;have dU:∀x,(h.push [bB]).set h.n (j x)=h.push x:=λx=>q1;have g8:∀x,(h.push [x]).cell h.n=j [x]:=λx=>fU;cases hp:mT p with
 |false=>refine⟨bB,?_,qq⟩;refine bd FS rfl ?_;unfold SV;simp only[ap,aw,aA,ar,pQ,hp,hd,dU];exact e8 (aK.push h _) rfl
 |true=>
   obtain⟨jU,bT⟩:=D8.1 hp;obtain⟨bl,U⟩:=vb aY (i+1) ae;have GQ:=U.box 1;have ai:H.ms.length=H.S.kept.length:=g.ms.trans g.st.kept.symm;obtain⟨eH,eI,bY⟩:=aY.get (D+1) aa;obtain⟨row,dk,dH,g0,k2,te,Hl⟩:=La bY ai;obtain⟨a6,c2,r,c3,c4,c5⟩:=Hl p.toNat (by rw[g.ms];omega);have xW:cO Q 3 (h.push [bB]) (.ptr aG 0 (2+p.toNat*5+2))=j (.agg r):=by rw[gm,dk];exact c3
   have bR:∀q,fg Z (j (4,5)) (.ptr aG 0 2) (.int q p)=j (.ptr aG 0 (2+p.toNat*5)):=λq=>by obtain⟨m,rfl⟩:=Int.eq_ofNat_of_zero_le jU;rw[rV];exact aga q (by omega)
   have f2:b9 2 (.ptr aG 0 0)=j (.ptr aG 0 2):=rfl;have avT:∀k,b9 2 (.ptr aG 0 k)=j (.ptr aG 0 (k+2)):=λ_=>rfl;have pM:(H.S.kept.getD p.toNat cp).code=0:=tL g.st.qJ _;have dY:(H.S.kept.getD p.toNat cp).size<=100000:=by have:=(f9 pM).1;omega
   obtain⟨bZ,bO,bC⟩:=Sn _ _ (bS _) dY r (h.push [bB]) c4;obtain⟨bK,cg,dS⟩:=F8 bC;obtain⟨cJ,z2⟩:=c4.dx;obtain⟨z3,z4⟩:=bC.dx;rw[if_pos rfl];refine⟨bK,?_,dS⟩;have rc:dP (.agg bZ)=j (.agg bK):=by simp only[dP,cg,g3]
   refine bd FS rfl ?_;unfold SV;simp only[ap,aw,aA,ar,pQ,hp,hd,dU,g8,GQ,f2,avT,bR,xW,bO,z3,z4];exact e8 (aK.push h _) rc
end
structure zx(n:Nat)(H:dr):Prop where
 dg:H.Good
 log:H.S.log.length<=2000*n
 cy:∀l∈H.cy,l.length<=1000+n
theorem zx.ok{n:Nat}{H:dr}(O:zx n H)(aq:n<=400):pP H:=⟨O.dg,by have:=O.log;omega,λl ai=>by have:=O.cy l ai;omega⟩
theorem zx.step{n:Nat}{H:dr}(O:zx n H)(x:iU):zx (n+1) (H.step x).1:=by
 have s:=O.dg.step x;refine⟨s.dg,by have:=s.log;have:=O.log;omega,λl ai=>?_⟩;rcases s.hand l ai with F|⟨b8,F,J⟩
 ·omega
 ·have:=O.cy b8 F;omega
theorem avU:zx 0 uY:=⟨au7,by simp[uY,D7],λl ai=>by
 have:l=[]:=by simpa[uY]using ai
 rw[this];simp⟩
def avV:List bk:=[.mk 13 0 0 [.mk 3 0 0 []]]
def sJ:iU:=⟨1,1,0,0,0,0,0,0,avV⟩
def nZ:iU:=⟨2,1,0,3,0,1, -1,0,[]⟩
def yy:iU:=⟨4,1,0,0,0,0,0,0,[]⟩
section
variable{h E am:ad}{ah ao aL aF:Nat->Prop}{L A B:List b2}{c:vc}{H:dr}
theorem avW(s:aQ am aL aF h (A++my c H++B))(O:pP H)(y:iU){m:I}(du:fH fh m es)(eB:hy y.m es)(df:y.m.length<=100000)(az:∀x∈y.m,x.size<=100000):∃E r,aM ak T 76 [.ptr c.ag 0 0,.agg (c7 y m)] h=j (.inl (.agg r),E)/\oB (H.step y).2 r/\aQ am aL aF E (A++my c (H.step y).1++B):=by obtain⟨E,⟨r,e,v⟩,eD⟩:=s.Hw (wo:=my c (H.step y).1) λah ao x=>avL x O y du eB df az;exact⟨E,r,e,v,eD⟩
end
def sj(a x y:Int)(out:List Int):List Int:=if x=a/\out.contains y=R then out++[y]else out
def sk(a:Int)(out:List Int)(l:Int×Int):List Int:=sj a l.2 l.1 (sj a l.1 l.2 out)
def BN(ds:List (Int×Int)):Nat->Nat->List Int->List Int
 |0,_,out=>out
 |f+1,i,out=>if i<out.length then BN ds f (i+1) (ds.foldl (sk (out.getD i 0)) out)else out
def tA(ds:List (Int×Int))(p:Int):List Int:=BN ds (2*ds.length+2) 0 [p]
structure ro where
 (bD cell fm:Int)
def L9(jZ:List ro)(ds:List (Int×Int))(p cell right:Int):Bool:=jZ.any λg=>decide (g.cell=cell)&&(decide (pY g.fm right=right)&&(tA ds p).contains g.bD)
structure eh where
 H:dr
 jZ:List ro
 ds:List (Int×Int)
 (code at_ n:Int)
def eh.note(W:eh)(x:iU):eh:=if x.kind=2 then{W with jZ:=W.jZ++[⟨x.p,x.k,x.r⟩]}else if x.kind=3 then{W with ds:=W.ds++[(x.p,x.q)]}else W
def eh.ik(W:eh)(y:jI):eh:=if W.code=0/\L9 W.jZ W.ds y.bD y.cell y.right=R then{W with code:=14,at_:=W.n}else W
def eh.step(W:eh)(x:iU):eh×mv×Int×Int:=
 let tB:eh:={W with H:=(W.H.step x).1};let ke:=if(W.H.step x).2.code=0 then tB.note x else tB;let L':=((W.H.step x).1.S.log.drop W.H.S.log.length).foldl eh.ik ke
 ({L' with n:=L'.n+1},(W.H.step x).2,L'.code,L'.at_)
def Ee:eh:=⟨uY,[],[],0,0,0⟩
theorem S0{a x y:Int}{out:List Int}:out.length<=(sj a x y out).length/\∃e,sj a x y out=out++e:=by
 unfold sj;split
 ·exact⟨by simp,[y],rfl⟩
 ·exact⟨bS _,[],by simp⟩
theorem agf{a:Int}{out:List Int}{l:Int×Int}:∃e,sk a out l=out++e:=by unfold sk;obtain⟨_,av,F⟩:=S0 (a:=a) (x:=l.1) (y:=l.2) (out:=out);obtain⟨_,ax,J⟩:=S0 (a:=a) (x:=l.2) (y:=l.1) (out:=sj a l.1 l.2 out);exact⟨av++ax,by rw[J,F,jA]⟩
theorem agh{a:Int}:∀(ls:List (Int×Int)) (out:List Int),∃e,ls.foldl (sk a) out=out++e
 |[],out=>⟨[],by simp⟩
 |l::ls,out=>by obtain⟨av,F⟩:=agf (a:=a) (out:=out) (l:=l);obtain⟨ax,J⟩:=agh (a:=a) ls (sk a out l);exact⟨av++ax,by rw[List.foldl_cons,J,F,jA]⟩
def Ef(ds:List (Int×Int)):List Int:=ds.flatMap λl=>[l.1,l.2]
theorem avX(ds:List (Int×Int)):(Ef ds).length=2*ds.length:=by
 induction ds with
 |nil=>rfl
 |cons l ls aW=>simp only[Ef,List.flatMap_cons,dy,dw,ey]at aW ⊢;omega
structure oC(ds:List (Int×Int))(p:Int)(out:List Int):Prop where
 agi:out.Nodup
 sub:∀x∈out,x∈p::Ef ds
theorem avY{l m:List Int}(h:l.Nodup)(az:∀x∈l,x∈m):l.length<=m.length:=by
 induction l generalizing m with
 |nil=>simp
 |cons x l aW=>
   have an:=az x (by simp);rw[List.nodup_cons]at h;have J:∀y∈l,y∈m.erase x:=λy bq=>by have xb:=az y (by simp[bq]);refine(List.mem_erase_of_ne ?_).2 xb;rintro rfl;exact h.1 bq
   have:=aW h.2 J;rw[List.length_erase_of_mem an]at this;have:0<m.length:=List.length_pos_of_mem an;simp only[dw];omega
theorem oC.Ma{ds:List (Int×Int)}{p a x y:Int}{out:List Int}(g:oC ds p out)(bq:y∈Ef ds):oC ds p (sj a x y out):=by
 unfold Go.Proofs.YtaodiaofbeblbaaGreatDoor.sj;split
 ·rename_i h;refine⟨?_,λz aR=>?_⟩
  ·rw[List.nodup_append];refine⟨g.agi,by simp,λu bE v U e=>?_⟩;obtain rfl:v=y:=by simpa using U
   subst e;have:=h.2;rw[rJ]at this;simp at this;exact this bE
  ·rcases pq.1 aR with aR|aR
   ·exact g.sub z aR
   ·obtain rfl:z=y:=by simpa using aR
    exact qk _ bq
 ·exact g
theorem oC.fold{ds:List (Int×Int)}{p a:Int}:∀(ls:List (Int×Int)) (out:List Int),(∀l∈ls,l∈ds)->oC ds p out->oC ds p (ls.foldl (sk a) out)
 |[],out,_,g=>g
 |l::ls,out,az,g=>by have ai:=az l (by simp);have av:l.2∈Ef ds:=List.mem_flatMap.2 ⟨l,ai,by simp⟩;have ax:l.1∈Ef ds:=List.mem_flatMap.2 ⟨l,ai,by simp⟩;exact oC.fold ls _ (λm hm=>az m (by simp[hm])) ((g.Ma av).Ma ax)
theorem oC.len{ds:List (Int×Int)}{p:Int}{out:List Int}(g:oC ds p out):out.length<=2*ds.length+1:=by have:=avY g.agi g.sub;rw[dw,avX]at this;exact this
theorem agj(ds:List (Int×Int))(p:Int):oC ds p [p]:=⟨by simp,λx an=>by
 obtain rfl:x=p:=by simpa using an
 simp⟩
open Go Go.Lib
mutual
def ay.text:ay->List UInt8
 |.mk kind n l=>if kind=1 then itoa n else if kind=2 then 40::(join (HJ l) [32]++[41])else if kind=3 then 91::(itoa n++(32::(join (HJ l) [32]++[93])))else
   if kind=4 then 35::itoa n else if kind=5 then 33::itoa n else[110,105,108]
def HJ:List ay->List (List UInt8)
 |[]=>[]
 |x::l=>x.text::HJ l
end
theorem agk:∀l:List ay,HJ l=l.map ay.text
 |[]=>rfl
 |x::l=>by simp only[HJ,gP,agk l]
theorem ay.agl(x:ay):x.text=if x.kind=1 then itoa x.n else if x.kind=2 then 40::(join (x.l.map ay.text) [32]++[41])else if x.kind=3 then 91::(itoa x.n++(32::(join (x.l.map ay.text) [32]++[93])))else if x.kind=4 then 35::itoa x.n else if x.kind=5 then 33::itoa x.n else[110,105,108]:=by
 cases x with
 |mk kind n l=>rw[ay.text,agk];rfl
theorem S1(a b:List UInt8):join [a,b] [32]=a++32::b:=by simp[join,List.intercalate]
theorem S2{x:ay}(h:x.fault=0):(x.kind=0/\x.n=0/\x.l=[])\/(x.kind=1/\x.l=[])\/(x.kind=2/\x.n=0/\∃a b,x.l=[a,b]/\a.fault=0/\b.fault=0)\/(x.kind=3/\∃a,x.l=[a]/\a.fault=0)\/(x.kind=4/\x.l=[])\/(x.kind=5/\x.l=[]):=by
 rw[x.Ch]at h;by_cases bz:jz x.kind x.n x.l.length=0
 ·rw[if_neg (by simp[bz])]at h;unfold jz at bz;split at bz
  ·cases bz
  ·rename_i F;split at bz
   ·cases bz
   ·rename_i J;split at bz
    ·cases bz
    ·rename_i af;have ai:x.l.length=oJ x.kind:=by omega
     unfold oJ at ai;by_cases c6:x.kind=2
     ·rw[if_pos c6]at ai;obtain⟨a,b,e⟩:∃a b,x.l=[a,b]:=by
       match aB:x.l,ai with
       |[a,b],_=>exact⟨a,b,rfl⟩
      rw[e]at h;simp only[mW]at h;have aN:a.fault=0:=by
       by_cases aN:a.fault=0
       ·exact aN
       ·rw[if_pos aN]at h;exact absurd h aN
      rw[if_neg (by simp[aN])]at h;have ag:b.fault=0:=by
       by_cases ag:b.fault=0
       ·exact ag
       ·rw[if_pos ag]at h;exact absurd h ag
      refine .inr (.inr (.inl ⟨c6,?_,a,b,e,aN,ag⟩));by_cases aq:x.n=0
      ·exact aq
      ·exact absurd ⟨.inr c6,aq⟩ af
     ·rw[if_neg c6]at ai;by_cases fN:x.kind=3
      ·rw[if_pos fN]at ai;obtain⟨a,e⟩:∃a,x.l=[a]:=by
        match aB:x.l,ai with
        |[a],_=>exact⟨a,rfl⟩
       rw[e]at h;simp only[mW]at h;have aN:a.fault=0:=by
        by_cases aN:a.fault=0
        ·exact aN
        ·rw[if_pos aN]at h;exact absurd h aN
       exact .inr (.inr (.inr (.inl ⟨fN,a,e,aN⟩)))
      ·rw[if_neg fN]at ai;have aq:=mF.1 ai;have:x.kind=0\/x.kind=1\/x.kind=4\/x.kind=5:=by omega
       rcases this with k|k|k|k
       ·refine .inl ⟨k,?_,aq⟩;by_cases aR:x.n=0
        ·exact aR
        ·exact absurd ⟨.inl k,aR⟩ af
       ·exact .inr (.inl ⟨k,aq⟩)
       ·exact .inr (.inr (.inr (.inr (.inl ⟨k,aq⟩))))
       ·exact .inr (.inr (.inr (.inr (.inr ⟨k,aq⟩))))
 ·rw[if_pos bz]at h;exact absurd h bz
abbrev agm(a:Int):List UInt8:=uk a
abbrev Mb(l:List UInt8):Int×Bool:=m9 l
open Go Go.Lib
structure eM where
 text:List (List UInt8)
 W:eh
def iV(l:List (List UInt8)):List UInt8:=join l [32]++[10]
abbrev Eg:List UInt8:=[110,111]
abbrev Mc:List UInt8:=[121,101,115]
abbrev Eh:List UInt8:=[119,104,97,116]
abbrev Ei:List UInt8:=[104,97,110,100]
abbrev Md:List UInt8:=[107,101,112,116]
abbrev Ej:List UInt8:=[99,101,108,108,115]
abbrev agn:List UInt8:=[108,111,97,100]
abbrev ago:List UInt8:=[99,117,116]
abbrev agp:List UInt8:=[103,97,116,101]
abbrev agq:List UInt8:=[103,114,97,110,116]
abbrev agr:List UInt8:=[108,105,110,107]
abbrev ags:List UInt8:=[99,97,108,108]
abbrev agt:List UInt8:=[118,97,108,117,101]
abbrev agu:List UInt8:=[108,111,103]
abbrev Me:List UInt8:=[110,101,119]
abbrev S3:List UInt8:=[101,110,100]
def x8(kind:Int)(q:eh×mv×Int×Int):List UInt8:=
 if q.2.2.1≠0 then iV [Eg,itoa q.2.2.1,itoa q.2.2.2]
 else if q.2.1.code≠0 then iV [Eg,itoa q.2.1.code]
 else if kind=4 then iV [Mc,q.2.1.v.text,itoa q.2.1.fuel]
 else iV [Mc,q.2.1.v.text]
def eM.qy(K:eM)(x:iU):eM×List UInt8:=({K with W:=(K.W.step x).1},x8 x.kind (K.W.step x))
def eM.load(K:eM)(p:Int):eM×List UInt8:=
 if(hA (join K.text [10])).2.1≠0 then(K,iV [Eg,itoa (hA (join K.text [10])).2.1,itoa (hA (join K.text [10])).2.2])
 else K.qy ⟨1,p,0,0,0,0,0,0,(hA (join K.text [10])).1⟩
def zy(e:jI):List UInt8:=iV [itoa e.bD,agm e.right,itoa e.cell,35::itoa e.node]
def eM.log(K:eM):List UInt8:=K.W.H.S.log.flatMap zy++iV [S3]
def eM.cells(K:eM):List UInt8:=iV [Ej++K.W.H.S.cells.flatMap λn=>32::itoa n]
def eM.hand(K:eM)(p:Int):List UInt8:=iV [Ei++(K.W.H.si p).flatMap λv=>32::v.text]
def eM.kept(K:eM)(p:Int):List UInt8:=iV [Md,(K.W.H.zw p).text]
def nN(at':Int):Nat->List (List UInt8)->Option (List Int)
 |_,[]=>j []
 |i,s::l=>(if(i:Int)=at' then(if(Mb s).2=Q then j (Mb s).1 else Z)else s4 s).bind λn=>(nN at' (i+1) l).map (n::·)
def iA(w:List UInt8):Int×Int:=
 if w=agn\/w=ago\/w=Ei\/w=Md then(-1,1)
 else if w=agp\/w=agu\/w=Ej then(-1,0)
 else if w=agq then(2,4)
 else if w=agr then(3,5)
 else if w=ags\/w=agt then(-1,3)
 else(-1, -1)
def eM.ask(K:eM)(w:List UInt8)(n:List Int):eM×List UInt8:=
 let a:=λi=>n.getD i 0
 if w=agn then K.load (a 0)
 else if w=ago then K.qy ⟨5,0,0,0,0,0,a 0,0,[]⟩
 else if w=agp then K.qy ⟨6,0,0,0,0,0,0,0,[]⟩
 else if w=agq then K.qy ⟨2,a 0,0,a 1,0,a 2,a 3,0,[]⟩
 else if w=agr then K.qy ⟨3,a 0,a 1,a 2,0,a 3,a 4,0,[]⟩
 else if w=ags then K.qy ⟨4,a 0,0,a 1,max (a 2) 0,0,0,0,[]⟩
 else if w=agt then K.qy ⟨4,a 0,0,a 1, -1,0,0,a 2,[]⟩
 else if w=Ei then(K,K.hand (a 0))
 else if w=Md then(K,K.kept (a 0))
 else if w=agu then(K,K.log)
 else if w=Ej then(K,K.cells)
 else(K,[])
def eM.words(K:eM):List (List UInt8)->eM×List UInt8
 |[]=>(K,[])
 |w::l=>if l=[]/\w=Me then({K with text:=[]},[]) else match nN (iA w).1 0 l with
    |some n=>if(n.length:Int)=(iA w).2 then K.ask w n else(K,iV [Eh])
    |none=>(K,iV [Eh])
def eM.line(K:eM)(s:List UInt8):eM×List UInt8:=match s with
 |124::r=>({K with text:=K.text++[r]},[])
 |s=>K.words (s6 s)
def eM.lines(K:eM):List (List UInt8)->eM×List UInt8
 |[]=>(K,[])
 |s::l=>(((K.line s).1.lines l).1,(K.line s).2++((K.line s).1.lines l).2)
theorem agv:∀(a b:List (List UInt8)) (K:eM),K.lines (a++b)=(((K.lines a).1.lines b).1,(K.lines a).2++((K.lines a).1.lines b).2)
 |[],b,K=>by simp[eM.lines]
 |s::a,b,K=>by rw[kq,eM.lines,agv a b,eM.lines];simp[jA]
def pe:eM:=⟨[],Ee⟩
section
variable{h E am:ad}{ah ao aL aF:Nat->Prop}{L:List b2}{c:vc}{H:dr}
theorem fH.agw{e:aU}{v:I}(h:fH e v es):v.one=Q/\v.cells=[v]:=by rcases h with⟨_,rfl⟩|⟨id,rfl⟩<;>exact⟨rfl,rfl⟩
theorem agx(g:H.Good)(p:Int):∀v∈H.si p,∃n:Int,v=oL n/\0<=n:=by
 unfold dr.si;split
 ·exact g.hand
 ·intro v U;cases U
theorem agy(O:pP H)(p:Int):(H.si p).length<=90000:=by
 unfold dr.si;split
 ·unfold dr.hand;by_cases hp:p.toNat<H.cy.length
  ·rw[dm,gd hp];exact O.cy _ (hf hp)
  ·rw[dm,lN (by omega)];simp
 ·simp
theorem agz(g:H.Good)(p:Int):(H.zw p).code=0:=by
 unfold dr.zw;split
 ·exact tL g.st.qJ _
 ·exact vo
section
variable{bV aAZ:I}{an Hl By aeI:Nat}{az aV:List I}
end
end
section
variable{h E am:ad}{ah ao aL aF:Nat->Prop}{L:List b2}{c:vc}{H:dr}
theorem agA{log:List jI}:∀r∈log.map g',r.all I.one=Q/\r.all s2=Q:=λr aj=>by obtain⟨e,_,rfl⟩:=lR.1 aj;exact⟨rfl,rfl⟩
theorem avZ(id:Option Nat)(rows:List (List I))(bn:∀r∈rows,r.all I.one=Q/\r.all s2=Q)(ai:rows.length<=1000000):aM ak T 79 [.bN id j' rows] h=j (.inl (.bN Z j' rows),h):=by
 refine bd ab8 rfl ?_;unfold Qy;have av:e0 R j' (.bN (j h.ids) j' []) (.bN id j' rows) (h.fresh 0)=j (.bN (j h.ids) j' rows,if rows.length=0 then h.fresh 0 else(h.fresh 0).grow h.ids rows.length):=by
  simp only[e0,js,if_true,da];by_cases aR:rows.length=0
  ·simp[sB,mF.1 aR]
  ·rw[if_neg aR,if_neg aR];unfold kW;rw[if_pos ⟨by omega,by omega,by rw[iC];exact λr aj=>(bn r aj).1⟩];simp[Fz]
 have a7:aK h (if rows.length=0 then h.fresh 0 else(h.fresh 0).grow h.ids rows.length):=by
  split
  ·exact aK.fresh h 0
  ·exact(aK.fresh h 0).grow (bS _)
 have hw:dP (.bN (j h.ids) j' rows)=j (.bN Z j' rows):=by simp only[dP,CX λr aj=>(bn r aj).2,g3]
 simp only[ap,aw,aA,ar,av,e8 a7 hw]
theorem av0:aM ak T 79 [.aC] h=j (.inl .aC,h):=by refine bd ab8 rfl ?_;unfold Qy;simp only[ap,aw,aA,ar];exact e8 (aK.refl h) rfl
theorem av1(s:aQ am aL aF h L)(i:Nat){cr:Nat}{cells:List Int}{log:List jI}(ae:L[i]? =j (bv cr cells log))(al:cells.length=12)(aq:log.length<=1000000):aM ak T 54 [.ptr cr 0 0] h=j (.inl (e4 j' (log.map g')),h):=by
 obtain⟨ah,ao,x⟩:=s.get i ae;obtain⟨v,aY⟩:=Lb x;have av2:=(aY.cell 0 rfl).1;have Mf:=(GV (v:=v) al (D:=0) (by decide)).2.1;have ja:∀n,cO R n h (.ptr cr 0 12)=j v:=λn=>by rw[gm,av2];exact Mf
 have f12:b9 12 (.ptr cr 0 0)=j (.ptr cr 0 12):=rfl;obtain⟨eH,eI,bY⟩:=aY.get 1 rfl;rcases bY with⟨⟨av,rfl⟩,_⟩|⟨id,⟨av,rfl⟩,_⟩
 ·rw[av];refine bd ab6 rfl ?_;unfold Qx;simp only[ap,aw,aA,ar,f12,ja,av0];exact e8 (aK.refl h) rfl
 ·have lp:=avZ (h:=h) (j id) (log.map g') agA (by simpa using aq);have hw:dP (.bN Z j' (log.map g'))=j (e4 j' (log.map g')):=by simp only[dP,CX λr aj=>(agA r aj).2,g3,e4,if_neg av]
  refine bd ab6 rfl ?_;unfold Qx;simp only[ap,aw,aA,ar,f12,ja,lp,e8 (aK.refl h) hw]
theorem av3(s:aQ am aL aF h L)(i:Nat){cr:Nat}{cells:List Int}{log:List jI}(ae:L[i]? =j (bv cr cells log))(al:cells.length=12):aM ak T 56 [.ptr cr 0 0] h=j (.inl (.bN Z FF (cells.map λx=>[.int o x])),h):=by obtain⟨ah,ao,x⟩:=s.get i ae;obtain⟨v,aY⟩:=Lb x;exact arb (aY.cell 0 rfl).1 al
theorem S4(s:aQ am aL aF h L)(i:Nat)(O:pP H)(aB:L[i]? =j (bv c.cr H.S.cells H.S.log)):aM ak T 54 [.ptr c.cr 0 0] h=j (.inl (e4 j' (H.S.log.map g')),h):=av1 s i aB O.dg.st.cells (by have:=O.log;omega)
variable{bV:I}{k2 te aA0:Nat}{az aV:List I}
end
def agB:List bj:=[Dr,.ops [.i .l (.call (.c (.fn 13 [] [])) []),.i .l (.build [.fx,.aC,.aC,.int o 0,.int o 0,.int o 0] [(0,1),(1,1),(2,1),(3,2),(5,1)] [(0,(.l 0))]),.i .l (.box 6 (.l 0)),AY],.ret]
theorem av4:cw ak T 8 0 1 [0] agB [(.v 0)] R:=by refine⟨_,_,Tryz.func8,rfl,rfl,?_,?_,?_,?_,?_⟩<;>kernel_rfl
def zz:List bj:=[.ops [.i (.v 13) (.bin (.int o) .lss (.v 12) (.c (.int o 2)))],.cond (.v 13) [] [.exit 4],.block 5 [.ops [.i .l (.a' (.v 12)),nG],.ops [mm,agC,bc,eY,eS,agD,bc,.i .l agE,cU,.g (.l 0) Q .l (.a' (.v 3)),.g (.l 1) Q .l (.a' (.v 6)),.g (.l 2) Q .l agF,.g (.l 3) Q .l (.fa Z (j (2,1)) (.v 5) (.l 0)),J0,.g (.l 5) Q .l (.call (.c (.fn 117 [] [])) [.l 4,.l 0]),.g (.l 6) Q .l v8,.i (.v 14) agG],.cond (.v 14) [.ops [eY,mm,.i .l agF,agC,bc,J9,.i .l (.app R 3 (.l 5) (.l 0)),kD]] []],.ops [.i .l (.bin (.int o) .add (.v 12) (.c (.int o 1))),xH]]
def Mg:List bj:=[KJ,.cond (.v 11) [] [.exit 2],.block 3 [.ops [.i .l (.fa (j 194) Z (.v 8) (.v 10)),.i .l (.load Q 2 (.l 0)),agH,agI],.ops [.i (.v 12) AX],.block 4 [.loop zz]],KK]
def Mh:List bj:=[.ops [eS,eY,.i .l (.len R (j 3) (.l 0)),.i (.v 7) Mi],.cond (.v 7) [] [.exit 0],.block 1 [.ops [aX,b7,kC,.i (.v 8) yY,.i (.v 9) (.len R (j 194) (.v 8)),KM],.block 2 [.loop Mg]],Gs]
def agJ:List bj:=[FV,.ops [dv,J9,kD],DG,.block 0 [.loop Mh],uB,.ret]
theorem av5:cw ak T 114 2 15 [0,1,4,5,6,8,9,15,21,22,23,24,27,28,46] agJ [(.v 2)] Q:=by refine⟨_,_,Tryz.func114,rfl,rfl,?_,?_,?_,?_,?_⟩<;>kernel_rfl
def agK:List bj:=[.ops [.i (.v 4) (.box 1 (.v 2)),.i (.v 5) (.box 1 (.v 3)),.i (.v 6) (.a' (.c (.bool R)))],.ops [aX,dv,.i .l (.call (.c (.fn 114 [] [])) [.l 1,.l 0]),.i (.v 7) (.alloc [.aC]),.i .n (.store 1 (.v 7) (.l 0))],.ops [aX,b7,hB,bc,.i .l (.CN 116 [] [.v 4,.v 5,.v 7]),.i .l (.call (.c (.fn 115 [] [])) [.l 1,.l 0]),nG],.ret]
theorem av6:cw ak T 78 4 8 [0,1,2,3,6,7,8,9] agK [(.v 6)] Q:=by refine⟨_,_,Tryz.func78,rfl,rfl,?_,?_,?_,?_,?_⟩<;>kernel_rfl
def agL:List bj:=[.ops [.i (.v 4) (.box 3 (.v 0)),Gn],.ops [xB,bc,JZ,Qe,cU,.g (.l 0) Q .l (.dG 2 (.v 4)),y',.g (.l 2) Q .l (.load R 1 (.v 2)),.g (.l 3) Q .l (.bin (.int o) .and (.l 1) (.l 0)),.g (.l 4) Q .l (.load R 1 (.v 2)),.g (.l 5) Q .l agM,.i .l (.pick (.l 6) (.l 0) (.c (.bool R))),cU,.g (.l 0) Q .l Rd,.g (.l 1) Q .l (.dG 0 (.v 4)),FU,.g (.l 3) Q .l (.call (.c (.fn 117 [] [])) [.l 2,.l 0]),agN,lF],.ret]
theorem av7:cw ak T 116 4 6 [0,1,2,3,4,5] agL [(.v 5)] Q:=by refine⟨_,_,Tryz.func116,rfl,rfl,?_,?_,?_,?_,?_⟩<;>kernel_rfl
def agO:List bj:=[uA,.ops [aX,dv,.i .l (.call (.c (.fn 130 [] [])) [.l 1,.l 0]),rX,iw],.ret]
theorem av8:cw ak T 115 2 3 [0,1,4] agO [(.v 2)] Q:=by refine⟨_,_,Tryz.func115,rfl,rfl,?_,?_,?_,?_,?_⟩<;>kernel_rfl
def HK:List bj:=[Gw,.cond (.v 6) [] [.exit 0],.block 1 [KF,.ops [dv,aX,eY,.i .l (.fa (j 193) Z (.l 1) (.l 0)),nd,QQ],.cond (.v 7) [uB,.ret] []],Gx]
def agP:List bj:=[rY,.ops [aX,.i (.v 4) (.len R (j 193) (.l 0)),xA],.block 0 [.loop HK],KG,.ret]
theorem av9:cw ak T 130 2 8 [0,1,4,5,7,8,9,16] agP [(.v 2)] Q:=by refine⟨_,_,Tryz.func130,rfl,rfl,?_,?_,?_,?_,?_⟩<;>kernel_rfl
def agQ:List bj:=[uA,.ops [aX,dv,.i .l (.call (.c (.fn 131 [] [])) [.l 1,.l 0]),rX,iw],.ret]
theorem av':cw ak T 117 2 3 [0,1,4] agQ [(.v 2)] Q:=by refine⟨_,_,Tryz.func117,rfl,rfl,?_,?_,?_,?_,?_⟩<;>kernel_rfl
def HL:List bj:=[Gw,.cond (.v 6) [] [.exit 0],.block 1 [KF,.ops [dv,aX,eY,agD,bc,.i (.v 7) agE],.cond (.v 7) [uB,.ret] []],Gx]
def agR:List bj:=[rY,.ops [aX,.i (.v 4) (.len R (j 3) (.l 0)),xA],.block 0 [.loop HL],KG,.ret]
theorem awa:cw ak T 131 2 8 [0,1,4,5,7,8,9,16] agR [(.v 2)] Q:=by refine⟨_,_,Tryz.func131,rfl,rfl,?_,?_,?_,?_,?_⟩<;>kernel_rfl
def Mj:List bj:=[.ops [HG],.ops [r4,.i (.v 3) yY],.block 0 [.ops [.i .l (.bin (.int o) .eql (.v 3) (.c (.int o 2))),jT],.cond (.v 4) [.ops [aX,aX,b7,hB,bc,o7,bc,we,bc,SR,bc,.i .l (.build [.int o 0,.int o 0,.int o 0] [(0,1),(1,1),(2,1)] [(0,(.l 4)),(1,(.l 2)),(2,(.l 0))]),.i .l (.hv R 193 [.int o 0,.int o 0,.int o 0] 3 1 [(0,(.l 0))]),.bU [⟨Z,R,1,.l 9,(.l 8)⟩],.i .l (.app R 193 (.l 8) (.l 0)),.i .l (.lv (.l 13)),hB,ka]] [.ops [.i .l (.bin (.int o) .eql (.v 3) (.c (.int o 3))),lF],.cond (.v 5) [.ops [aX,aX,b7,kC,bc,o7,bc,xz,bc,.i .l (.build [.int o 0,.int o 0] [(0,1),(1,1)] [(0,(.l 2)),(1,(.l 0))]),.i .l (.hv R 194 [.int o 0,.int o 0] 2 1 [(0,(.l 0))]),.bU [⟨Z,R,1,.l 7,(.l 6)⟩],.i .l (.app R 194 (.l 6) (.l 0)),Qv,kC,ka]] []]]]
theorem S5:cw ak T 77 2 6 [0,1,3,5,6,24] Mj [] R:=by refine⟨_,_,Tryz.func77,rfl,rfl,?_,?_,?_,?_,?_⟩<;>kernel_rfl
def BO:List bj:=[.ops [QH],.cond (.v 12) [] [.exit 0],.block 1 [.ops [.i .l (.fa (j 118) Z (.v 9) (.v 11)),uJ,.i (.v 7) agS,.i .n (.store 4 (.v 7) (.l 0))],.ops [aX,b7,wb,dB,bc,y9,cU,q5,.g (.l 1) Q .l (.dG 0 (.v 7)),FU,.g (.l 3) Q .l (.dG 1 (.v 7)),J0,.g (.l 5) Q .l (.dG 2 (.v 7)),Dk,.g (.l 7) Q .l (.call (.c (.fn 78 [] [])) [.l 6,.l 4,.l 2,.l 0]),.g (.l 8) Q .l v8,.i (.v 13) agT],.cond (.v 13) [.ops [aX,aX,b7,S6,bc,.i .l (.build [.int o 0,.int o 0] [(0,1),(1,1)] [(0,(.c (.int o 14))),(1,(.l 0))]),Qz,wb,.i .n (.store 2 (.l 0) (.l 2))]] []],QI]
def S7:List bj:=[.ops [HG,L2,Q'],.ops [aX,b7,dB,bc,b7,dB,bc,b7,hB,bc,agU,.i .l (.len R (j 118) (.l 0)),lF],.ops [aX,b7,dB,bc,L4,.i .l (.call (.c (.fn 76 [] [])) [.l 1,.l 0]),.i (.v 6) af2,.bU [⟨Z,R,1,.l 3,(.l 2)⟩,⟨Z,Q,9,.v 2,(.l 1)⟩],.i .n (.store 5 (.v 6) (.l 0))],.ops [SN,bc,abU],.cond (.v 8) [.ops [aX,L4,.i .l (.call (.c (.fn 77 [] [])) [.l 1,.l 0])]] [],.ops [aX,b7,dB,bc,b7,dB,bc,b7,hB,bc,agU,jm,.i (.v 9) (.qh R (j 118) (.l 1) (j (.l 0)) Z),.i (.v 10) (.len R (j 118) (.v 9)),QN],.block 0 [.loop BO],.ops [aX,b7,S6,bc,wc,DC,S6,ka],.ops [.i .l (.load Q 5 (.v 6)),aX,b7,wb,.i .l (.load Q 2 (.l 0)),.i .n (.store 5 (.v 3) (.l 4)),.bU [⟨Z,Q,2,.l 1,(.l 0)⟩],Ra],.ret]
theorem agV:cw ak T 50 2 14 [0,1,3,4,5,6,7,9,30,46,47,48,49,68] S7 [(.cell Q 5 3),(.cell Q 2 4)] R:=by refine⟨_,_,Tryz.func50,rfl,rfl,?_,?_,?_,?_,?_⟩<;>kernel_rfl
abbrev lI:aU:=3
abbrev qz:aU:=193
abbrev pR:aU:=194
def oD(g:ro):List I:=[.int o g.bD,.int o g.cell,.int o g.fm]
def oE(l:Int×Int):List I:=[.int o l.1,.int o l.2]
def mz(b ag:Nat)(jZ:List ro)(ds:List (Int×Int))(code at_ n:Int):b2:=s5 λq:I×I=>hj (bm b [[.ptr ag 0 0,q.1,q.2,.int o code,.int o at_,.int o n]]) (hj (k6 qz q.1 (jZ.map oD)) (k6 pR q.2 (ds.map oE)))
section
variable{h E am:ad}{ah ao aL aF:Nat->Prop}{L:List b2}
theorem awb{v:I}{l:List Int}(U:hY lI v (gn l))(ai:l.length<=1000000)(x:Int):∀(r pre:List Int) (v3 v6 dz:I),l=pre++r->pre.contains x=R->∃V,(∀K,bu (aM ak T) 8 (.ff HL::.bQ []::.b1 0::(.bQ [.ops [GL],.ret])::K) [v,.int o x,.int o 0,v3,.int o (l.length:Int),.int o (pre.length:Int),v6,dz] [] h=j (.ret,V,h))/\∃n:Int,V.getD 2 .aD= .int o n/\decide (0<=n)=l.contains x:=by
 intro r;induction r with
 |nil=>
   intro pre v3 v6 dz e al;have d1:decide ((pre.length:Int)<(l.length:Int))=R:=decide_eq_false (by rw[e];simp);refine⟨[v,.int o x,.int o (-1),v3,.int o (l.length:Int),.int o (pre.length:Int),.bool R,dz],λK=>?_, -1,rfl,?_⟩
   ·rw[dd HL.eq_1];simp only[ap,aw,aA,ar,cz,d1]
   ·rw[e,me,al];rfl
 |cons y r aW=>
   intro pre v3 v6 dz e al;have d1:decide ((pre.length:Int)<(l.length:Int))=Q:=decide_eq_true (by rw[e];simp;omega);have an:(gn l)[pre.length]? =j [.int o y]:=by rw[e];simp
   have bR:=U.bR o pre.length _ an;have i6:pre.length<l.length:=by rw[e];simp
   have w:=gD (n:=(pre.length:Int)+1) (by omega) (by omega);cases bq:decide (y=x)with
   |true=>
     refine⟨[v,.int o x,.int o (pre.length:Int),.int o (pre.length:Int),.int o (l.length:Int),.int o (pre.length:Int),.bool Q,.bool Q],λK=>?_,(pre.length:Int),rfl,?_⟩
     ·have xb:decide (x=y)=Q:=by rw[decide_eq_true_eq]at bq ⊢;exact bq.symm
      rw[dd HL.eq_1];simp only[ap,aw,aA,ar,cz,d1,bR,xb]
     ·rw[e,rJ];have:x=y:=by rw[decide_eq_true_eq]at bq;exact bq.symm
      simp[this]
   |false=>
     have xb:decide (x=y)=R:=by rw[decide_eq_false_iff_not]at bq ⊢;exact λh=>bq h.symm
     have dN:((pre++[y]).length:Int)=(pre.length:Int)+1:=by simp
     obtain⟨V,b0,bK⟩:=aW (pre++[y]) (.int o (pre.length:Int)) (.bool Q) (.bool R) (by simp[e]) (by rw[rJ]at al ⊢;simp at al xb ⊢;exact⟨al,xb⟩);refine⟨V,λK=>?_,bK⟩;rw[<-b0 K,dN]
     conv=>lhs;rw[dd HL.eq_1]
     simp only[ap,aw,aA,ar,cz,d1,bR,xb,w]
theorem agW{v:I}{l:List Int}(U:hY lI v (gn l))(ai:l.length<=1000000)(x:Int):aM ak T 117 [v,.int o x] h=j (.inl (.bool (l.contains x)),h):=by
 obtain⟨V,b0,n,bK,gl⟩:=awb (h:=h) U ai x l [] .aD .aD .aD rfl rfl;simp only[ey,mn]at b0;have av:aM ak T 131 [v,.int o x] h=j (.inl (.int o n),h):=by refine bd awa rfl ?_;unfold agR;simp only[ap,aw,aA,ar,U.len,U.fits,gG];rw[b0];simp only[ap,bK]
 refine bd av' rfl ?_;unfold agQ;simp only[ap,aw,aA,ar,av,gl]
theorem agX{b:Nat}{x y a:Int}{out:List Int}{v:I}{i:Int}{w p:I}(ag:E.cell b=j [[.int o x,.int o y]])(bt:b<E.n)(aN:Acc h E lI v (gn out))(g:aK h E)(ai:out.length<=1000)(aa:out[D]? =j a)(ae:i=(D:Int))(k:Nat)(ab:k<2)(v2 v6 dz gM v9 v10 v11 ix iK:I):∃eT bg zA,(∀K,bu (aM ak T) 15 (.ff zz::K) [w,p,v2,v,.int o i,.ptr b 0 0,v6,dz,gM,v9,v10,v11,.int o (k:Int),ix,iK] [] E=bu (aM ak T) 15 (.ff zz::K) [w,p,v2,bg,.int o i,.ptr b 0 0,.int o (k:Int),dz,gM,v9,v10,v11,.int o ((k:Int)+1),.bool Q,zA] [] eT)/\Acc h eT lI bg (gn (sj a (if k=0 then x else y) (if k=0 then y else x) out))/\aK h eT/\eT.cell=E.cell/\eT.n=E.n:=by
 subst ae;have U:=Yg aN;have S8:=U.bR o D [.int o a] (by simp[aa]);have d2:decide ((k:Int)<2)=Q:=decide_eq_true (by omega);have S9:∀q,fg Z (j (2,1)) (.ptr b 0 0) (.int q (k:Int))=j (.ptr b 0 k):=λq=>by simp[fg,ab]
 have agY:∀q,fg Z (j (2,1)) (.ptr b 0 0) (.int q (1 - (k:Int)))=j (.ptr b 0 (1 - k)):=λq=>by
  have:k=0\/k=1:=by omega
  rcases this with rfl|rfl<;>rfl
 have cg:hq o (1 - (k:Int))=1 - (k:Int):=gD (by omega) (by omega);have dS:hq o ((k:Int)+1)=(k:Int)+1:=gD (by omega) (by omega);have xW:cO R 1 E (.ptr b 0 k)=j (.int o (if k=0 then x else y)):=by
  rw[gm,ag];have:k=0\/k=1:=by omega
  rcases this with rfl|rfl<;>rfl
 have S':cO R 1 E (.ptr b 0 (1 - k))=j (.int o (if k=0 then y else x)):=by
  rw[gm,ag];have:k=0\/k=1:=by omega
  rcases this with rfl|rfl<;>rfl
 generalize (if k=0 then x else y)=Ta at*;generalize (if k=0 then y else x)=zB at*;have kH:=λ(h:ad)=>agW (h:=h) U (by omega) zB;unfold sj;cases Ek:decide (Ta=a)with
 |false=>
   have aq:¬(Ta=a/\out.contains zB=R):=λh=>by rw[decide_eq_false_iff_not]at Ek;exact Ek h.1
   rw[if_neg aq];refine⟨E,v,.bool R,λK=>?_,aN,g,rfl,rfl⟩
   conv=>lhs;rw[dd zz.eq_1]
   simp only[ap,aw,aA,ar,cz,d2,S9,xW,S8,Ek,dS]
 |true=>
   have awc:Ta=a:=of_decide_eq_true Ek;cases al:out.contains zB with
   |true=>
     rw[if_neg (by simp)];rw[al]at kH;refine⟨E,v,.bool R,λK=>?_,aN,g,rfl,rfl⟩
     conv=>lhs;rw[dd zz.eq_1]
     simp only[ap,aw,aA,ar,cz,d2,S9,xW,S8,Ek,agY,cg,S',kH,dS]
   |false=>
     rw[if_pos ⟨awc,rfl⟩];rw[al]at kH;obtain⟨bg,J,av,a2,cK,c2,gC⟩:=vP aN g (row:=[.int o zB]) rfl (by simp;omega);have aA1:cO R 1 (E.fresh 1) (.ptr b 0 (1 - k))=j (.int o zB):=S';refine⟨J,bg,.bool Q,λK=>?_,by simpa using a2,cK,c2,gC⟩
     conv=>lhs;rw[dd zz.eq_1]
     simp only[ap,aw,aA,ar,cz,d2,S9,xW,S8,Ek,agY,cg,S',kH,av,dS]
end
section
variable{h E am:ad}{ah ao aL aF:Nat->Prop}{L:List b2}
theorem awd{b:Nat}{x y a:Int}{out:List Int}{v:I}{w p:I}(ag:E.cell b=j [[.int o x,.int o y]])(bt:b<E.n)(aN:Acc h E lI v (gn out))(g:aK h E)(ai:out.length+2<=1000)(aa:out[D]? =j a)(v2 v6 dz gM v9 v10 v11 ix iK:I):∃eT bg hZ wD zA,(∀K,bu (aM ak T) 15 (.ff zz::.bQ []::.b1 4::K) [w,p,v2,v,.int o (D:Int),.ptr b 0 0,v6,dz,gM,v9,v10,v11,.int o 0,ix,iK] [] E=bu (aM ak T) 15 K [w,p,v2,bg,.int o (D:Int),.ptr b 0 0,hZ,dz,gM,v9,v10,v11,wD,.bool R,zA] [] eT)/\Acc h eT lI bg (gn (sk a out (x,y)))/\aK h eT/\eT.cell=E.cell/\eT.n=E.n:=by
 obtain⟨F,v1,u1,b0,aP,g1,a6,ep⟩:=agX (w:=w) (p:=p) ag bt aN g (by omega) aa rfl 0 (by decide) v2 v6 dz gM v9 v10 v11 ix iK;rw[if_pos rfl,if_pos rfl]at aP;have awe:(sj a x y out)[D]? =j a:=by obtain⟨_,e,he⟩:=S0 (a:=a) (x:=x) (y:=y) (out:=out);rw[he,ph (fR.1 aa).1];exact aa
 have n2:(sj a x y out).length<=1000:=by
  unfold sj;split
  ·simp;omega
  ·omega
 obtain⟨J,zd,u2,bK,a2,cK,c2,gC⟩:=agX (w:=w) (p:=p) (E:=F) (b:=b) (x:=x) (y:=y) (by rw[a6];exact ag) (by omega) aP g1 n2 awe rfl 1 (by decide) v2 (.int o 0) dz gM v9 v10 v11 (.bool Q) u1;rw[if_neg (by decide),if_neg (by decide)]at a2;refine⟨J,zd,.int o 1,.int o 2,u2,λK=>?_,a2,cK,c2.trans a6,gC.trans ep⟩;have z0:((0:Nat):Int)=0:=rfl;have cJ:((1:Nat):Int)=1:=rfl;have z2:(0:Int)+1=1:=rfl;have z3:(1:Int)+1=2:=rfl;simp only[z0,cJ,z2,z3]at b0 bK;rw[b0,bK];rw[dd zz.eq_1];simp only[ap,aw,aA,ar,cz,Int.lt_irrefl]
theorem awf{ds:List (Int×Int)}{bV:I}(U:hY pR bV (ds.map oE))(uu:ds.length<=200){a:Int}{w p:I}{q:Int}:∀(r pre:List (Int×Int)) (E:ad) (out:List Int) (v:I) (v2 v5 v6 dz v11 v12 ix iK:I),ds=pre++r->oC ds q out->out[D]? =j a->Acc h E lI v (gn out)->aK h E->∃eT bg ij hZ ve wD x9 zA,(∀K,bu (aM ak T) 15 (.ff Mg::.bQ []::.b1 2::K) [w,p,v2,v,.int o (D:Int),v5,v6,dz,bV,.int o (ds.length:Int),.int o (pre.length:Int),v11,v12,ix,iK] [] E=bu (aM ak T) 15 K [w,p,v2,bg,.int o (D:Int),ij,hZ,dz,bV,.int o (ds.length:Int),ve,.bool R,wD,x9,zA] [] eT)/\Acc h eT lI bg (gn (r.foldl (sk a) out))/\aK h eT:=by
 intro r;induction r with
 |nil=>intro pre E out v v2 v5 v6 dz v11 v12 ix iK e gi aa aN g;have d1:decide ((pre.length:Int)<(ds.length:Int))=R:=decide_eq_false (by rw[e];simp);refine⟨E,v,v5,v6,.int o (pre.length:Int),v12,ix,iK,λK=>?_,aN,g⟩;rw[dd Mg.eq_1];simp only[ap,aw,aA,ar,cz,d1]
 |cons l r aW=>
   intro pre E out v v2 v5 v6 dz v11 v12 ix iK e gi aa aN g;have i6:pre.length<ds.length:=by rw[e];simp
   have d1:decide ((pre.length:Int)<(ds.length:Int))=Q:=decide_eq_true (by omega);have bR:=U.bR o pre.length (oE l) (by rw[e];simp);have cg:=gD (n:=(pre.length:Int)+1) (by omega) (by omega);have dN:((pre++[l]).length:Int)=(pre.length:Int)+1:=by simp
   have mr:gX Q 2 (oE l) 0=j (.agg (oE l)):=jP rfl;have hlen:=gi.len;have awg:Acc h (E.push [oE l]) lI v (gn out):=by
    rcases aN with aN|⟨id,bT,bM,du,eB,n'⟩
    ·exact .inl aN
    ·exact .inr ⟨id,bT,bM,du,eB,n'⟩
   have sl:∀z,(E.push z).cell E.n=j z:=λz=>fU;have eP:∀y z,(E.push y).set E.n (j z)=E.push z:=λy z=>q1;obtain⟨J,zd,u6,Tb,Tc,bK,a2,cK,c2,gC⟩:=awd (w:=w) (p:=p) (E:=E.push [oE l]) (b:=E.n) (x:=l.1) (y:=l.2) fU (q6 _) awg (g.trans (aK.push _ _)) (by omega) aa v2 v6 dz bV (.int o (ds.length:Int)) (.int o (pre.length:Int)) (.bool Q) ix iK;have ai:l∈ds:=by rw[e];simp
   have Td:oC ds q (sk a out l):=(gi.Ma (List.mem_flatMap.2 ⟨l,ai,by simp⟩)).Ma (List.mem_flatMap.2 ⟨l,ai,by simp⟩);have p':(sk a out l)[D]? =j a:=by obtain⟨ej,he⟩:=agf (a:=a) (out:=out) (l:=l);rw[he,ph (fR.1 aa).1];exact aa
   obtain⟨af,v3,u5,hZ,Te,awh,Tf,zA,gl,a3,et⟩:=aW (pre++[l]) J (sk a out l) zd v2 (.ptr E.n 0 0) u6 dz (.bool Q) Tb (.bool R) Tc (by simp[e]) Td p' a2 cK;refine⟨af,v3,u5,hZ,Te,awh,Tf,zA,λK=>?_,a3,et⟩;rw[<-gl K,dN];simp only[oE]at bR mr bK sl
   conv=>lhs;rw[dd Mg.eq_1]
   simp only[ap,aw,aA,ar,cz,d1,bR,mr,sl,eP];rw[bK];simp only[ap,cg]
theorem awi{ds:List (Int×Int)}{bV:I}(U:hY pR bV (ds.map oE))(uu:ds.length<=200){b:Nat}{p:I}{q:Int}(HM:∀E,aK h E->cO R 1 E (.ptr b 0 2)=j bV):∀(f i:Nat) (E:ad) (out:List Int) (v:I) (v2 v5 v6 dz gM v9 v10 v11 v12 ix iK:I),i<=out.length->2*ds.length+2<=f+i->oC ds q out->Acc h E lI v (gn out)->aK h E->∃eT bg V,(∀K,bu (aM ak T) 15 (.ff Mh::.bQ []::.b1 0::K) [.ptr b 0 0,p,v2,v,.int o (i:Int),v5,v6,dz,gM,v9,v10,v11,v12,ix,iK] [] E=bu (aM ak T) 15 K (.ptr b 0 0::p::v2::bg::V) [] eT)/\V.length=11/\Acc h eT lI bg (gn (BN ds f i out))/\aK h eT:=by
 intro f;induction f with
 |zero=>intro i E out v v2 v5 v6 dz gM v9 v10 v11 v12 ix iK ae bn gi aN g;have:=gi.len;omega
 |succ f aW=>
   intro i E out v v2 v5 v6 dz gM v9 v10 v11 v12 ix iK ae bn gi aN g;have Mk:=Yg aN;unfold BN;by_cases bt:i<out.length
   ·rw[if_pos bt];have d1:decide ((i:Int)<(out.length:Int))=Q:=decide_eq_true (by omega);have aa:out[i]? =j (out.getD i 0):=by simp[dm,bt]
    have f2:b9 2 (.ptr b 0 0)=j (.ptr b 0 2):=rfl;have ja:=HM E g;have hlen:=gi.len;have cg:=gD (n:=(i:Int)+1) (by omega) (by omega);have dN:((i+1:Nat):Int)=(i:Int)+1:=by omega
    obtain⟨J,zd,u5,u6,Te,Tb,Tf,Tc,bK,a2,cK⟩:=awf (w:=.ptr b 0 0) (p:=p) U uu (a:=out.getD i 0) (D:=i) (q:=q) ds [] E out v v2 v5 v6 (.bool Q) v11 v12 ix iK rfl gi aa aN g;have Td:oC ds q (ds.foldl (sk (out.getD i 0)) out):=oC.fold ds out (λl ai=>ai) gi;obtain⟨ej,he⟩:=agh (a:=out.getD i 0) ds out;obtain⟨af,v3,V,gl,q0,a3,et⟩:=aW (i+1) J (ds.foldl (sk (out.getD i 0)) out) zd v2 u5 u6 (.bool Q) bV (.int o (ds.length:Int)) Te (.bool R) Tb Tf Tc (by rw[he];simp;omega) (by omega) Td a2 cK;refine⟨af,v3,V,λK=>?_,q0,a3,et⟩;rw[<-gl K,dN];simp only[ey,mn]at bK
    conv=>lhs;rw[dd Mh.eq_1]
    simp only[ap,aw,aA,ar,cz,Mk.len,Mk.fits,gG,d1,f2,ja,U.len,U.fits];rw[bK];simp only[ap,cg]
   ·rw[if_neg bt];have d1:decide ((i:Int)<(out.length:Int))=R:=decide_eq_false (by omega);refine⟨E,v,[.int o (i:Int),v5,v6,.bool R,gM,v9,v10,v11,v12,ix,iK],λK=>?_,rfl,aN,g⟩;rw[dd Mh.eq_1];simp only[ap,aw,aA,ar,cz,Mk.len,Mk.fits,gG,d1]
theorem awj{ds:List (Int×Int)}{bV:I}(U:hY pR bV (ds.map oE))(uu:ds.length<=200){b:Nat}(HM:∀E,aK h E->cO R 1 E (.ptr b 0 2)=j bV)(p:Int):aM ak T 114 [.ptr b 0 0,.int o p] h=j (.inl (e4 lI (gn (tA ds p))),h):=by
 have aN:Acc h (h.fresh 1) lI (.bN (j h.ids) lI [[.int o p]]) (gn [p]):=.inr ⟨h.ids,by simp,bS _,q6 _,Fz,rfl⟩;obtain⟨J,bg,V,bK,q0,a2,cK⟩:=awi (p:=.int o p) (q:=p) U uu HM (2*ds.length+2) 0 (h.fresh 1) [p] _ .aC .aD .aD .aD .aD .aD .aD .aD .aD .aD .aD (hK _) (by omega) (agj ds p) aN (aK.fresh h 1);have hw:=FB a2 (λr aj=>by obtain⟨x,_,rfl⟩:=lR.1 aj;rfl);have e:BN ds (2*ds.length+2) 0 [p]=tA ds p:=rfl;rw[e]at hw;simp only[mn]at bK
 match V,q0 with
 |[f',fP,ih,aA2,aA3,aA4,aA5,aA6,aA7,aA8,aA9],_=>refine bd av5 rfl ?_;unfold agJ;simp only[ap,aw,aA,ar];rw[bK];simp only[ap];exact e8 cK hw
theorem awk{g:ro}{c r:Int}{k2 te By:Nat}{all:List Int}(aB:h.cell k2=j [[.int o c]])(bw:h.cell te=j [[.int o r]])(cQ:h.cell By=j [[e4 lI (gn all)]])(kM:k2<h.n)(jN:te<h.n)(uP:By<h.n)(ai:all.length<=1000000):aM ak T 116 [.agg (oD g),.ptr k2 0 0,.ptr te 0 0,.ptr By 0 0] h=j (.inl (.bool (decide (g.cell=c)&&(decide (pY g.fm r=r)&&all.contains g.bD))),h):=by
 have sl:∀z,(h.push z).cell h.n=j z:=λz=>fU;have k1:∀z,(h.push z).cell k2=j [[.int o c]]:=λz=>by rw[eG kM];exact aB
 have oW:∀z,(h.push z).cell te=j [[.int o r]]:=λz=>by rw[eG jN];exact bw
 have gg:∀z,(h.push z).cell By=j [[e4 lI (gn all)]]:=λz=>by rw[eG uP];exact cQ
 have kH:=λ(h:ad)=>agW (h:=h) (xm lI (gn all)) (by omega) g.bD;have hm:∀x y:Int,hq o ((nS o.bits x&&& nS o.bits y).toNat:Int)=pY x y:=λx y=>rfl;simp only[oD]at*;refine bd av7 rfl ?_;unfold agL;cases d1:decide (g.cell=c)with
 |false=>simp only[ap,aw,aA,ar,sl,k1,d1];exact e8 (aK.push h _) rfl
 |true=>
   cases d2:decide (pY g.fm r=r)with
   |false=>simp only[ap,aw,aA,ar,sl,k1,oW,d1,hm,d2];exact e8 (aK.push h _) rfl
   |true=>simp only[ap,aw,aA,ar,sl,k1,oW,gg,d1,hm,d2,kH];exact e8 (aK.push h _) rfl
theorem awl{v:I}{fK:List ro}(U:hY qz v (fK.map oD))(ai:fK.length<=1000000){f:cH}{gj:List I}{P:ro->Bool}(bn:∀g∈fK,aM ak T f (.agg (oD g)::gj) h=j (.inl (.bool (P g)),h)):∀(r pre:List ro) (v3 v6 dz:I),fK=pre++r->pre.any P=R->∃V,(∀K,bu (aM ak T) 8 (.ff HK::.bQ []::.b1 0::(.bQ [.ops [GL],.ret])::K) [v,.fn f [] gj,.int o 0,v3,.int o (fK.length:Int),.int o (pre.length:Int),v6,dz] [] h=j (.ret,V,h))/\∃n:Int,V.getD 2 .aD= .int o n/\decide (0<=n)=fK.any P:=by
 intro r;induction r with
 |nil=>
   intro pre v3 v6 dz e al;have d1:decide ((pre.length:Int)<(fK.length:Int))=R:=decide_eq_false (by rw[e];simp);refine⟨[v,.fn f [] gj,.int o (-1),v3,.int o (fK.length:Int),.int o (pre.length:Int),.bool R,dz],λK=>?_, -1,rfl,?_⟩
   ·rw[dd HK.eq_1];simp only[ap,aw,aA,ar,cz,d1]
   ·rw[e,me,al];rfl
 |cons g r aW=>
   intro pre v3 v6 dz e al;have d1:decide ((pre.length:Int)<(fK.length:Int))=Q:=decide_eq_true (by rw[e];simp;omega);have bR:=U.bR o pre.length (oD g) (by rw[e];simp);have mr:gX Q 3 (oD g) 0=j (.agg (oD g)):=jP rfl;have i6:pre.length<fK.length:=by rw[e];simp
   have w:=gD (n:=(pre.length:Int)+1) (by omega) (by omega);have a7:=bn g (by rw[e];simp);cases bq:P g with
   |true=>
     rw[bq]at a7;refine⟨[v,.fn f [] gj,.int o (pre.length:Int),.int o (pre.length:Int),.int o (fK.length:Int),.int o (pre.length:Int),.bool Q,.bool Q],λK=>?_,(pre.length:Int),rfl,?_⟩
     ·rw[dd HK.eq_1];simp only[ap,aw,aA,ar,cz,cx,d1,bR,mr,a7]
     ·rw[e];simp[bq]
   |false=>
     rw[bq]at a7;have dN:((pre++[g]).length:Int)=(pre.length:Int)+1:=by simp
     obtain⟨V,b0,bK⟩:=aW (pre++[g]) (.int o (pre.length:Int)) (.bool Q) (.bool R) (by simp[e]) (by simp[al,bq]);refine⟨V,λK=>?_,bK⟩;rw[<-b0 K,dN]
     conv=>lhs;rw[dd HK.eq_1]
     simp only[ap,aw,aA,ar,cz,cx,d1,bR,mr,a7,w]
end
theorem awm{e:aU}{rows:List (List I)}{k:Nat}(ab:k<=rows.length):∃v,ku (e4 e rows) (j (.int o (k:Int))) Z=j v/\hY e v (rows.drop k):=by
 unfold e4;by_cases aR:rows=[]
 ·subst aR;have:k=0:=by simpa using ab
  subst this;exact⟨.aC,by simp[ku,p5,qM,gY,oO],yW e⟩
 ·rw[if_neg aR];refine⟨.bN Z e (rows.drop k),?_,rT _ _ _⟩;have J:(rows.drop k).take (rows.length - k)=rows.drop k:=List.take_of_length_le (by simp);simp[ku,p5,qM,gY,oO,ab,J]
section
variable{h E am:ad}{ah ao aL aF:Nat->Prop}{L:List b2}{b ag:Nat}{fK:List ro}{ls:List (Int×Int)}{fd at_ n:Int}
theorem Ml(x:(mz b ag fK ls fd at_ n).A h ah ao):∃cN bV,aQ h ah ao h [bm b [[.ptr ag 0 0,cN,bV,.int o fd,.int o at_,.int o n]],k6 qz cN (fK.map oD),k6 pR bV (ls.map oE)]:=by obtain⟨⟨cN,bV⟩,eH,eI,dX,eb,bY,db,r⟩:=x;exact⟨cN,bV,aQ.start ⟨eH,eI,dX,eb,bY,cX.two db,r⟩⟩
theorem cX.three{Y cI:b2}(x:(cX [X,Y,cI]).A h ah ao):(hj X (hj Y cI)).A h ah ao:=by obtain⟨eH,eI,dX,eb,bY,db,r⟩:=x;refine⟨eH,eI,dX,eb,bY,?_,r⟩;obtain⟨nH,nI,r0,r1,y,z,bK⟩:=db;exact⟨nH,nI,r0,r1,y,cX.uE z,bK⟩
theorem Tg{cN bV:I}(s:aQ am aL aF h [bm b [[.ptr ag 0 0,cN,bV,.int o fd,.int o at_,.int o n]],k6 qz cN (fK.map oD),k6 pR bV (ls.map oE)]):en am aL aF h (mz b ag fK ls fd at_ n):=en.imp (λ_ _ _ x=>⟨(cN,bV),cX.three x⟩) s
theorem agZ{e:aU}{v:I}{rows:List (List I)}(x:(k6 e v rows).A h ah ao):hY e v rows/\v.one=Q/\v.cells=[v]:=by
 rcases x with⟨⟨rfl,rfl⟩,_⟩|⟨id,⟨_,rfl⟩,_⟩
 ·exact⟨yW e,rfl,rfl⟩
 ·exact⟨rT _ _ _,rfl,rfl⟩
structure Mm(h:ad)(b ag:Nat)(fK:List ro)(ls:List (Int×Int))(fd at_ n:Int)(cN bV:I):Prop where
 c:h.cell b=j [[.ptr ag 0 0,cN,bV,.int o fd,.int o at_,.int o n]]
 lt:b<h.n
 g:hY qz cN (fK.map oD)
 l:hY pR bV (ls.map oE)
theorem zC(s:aQ am aL aF h L)(i:Nat)(ae:L[i]? =j (mz b ag fK ls fd at_ n)):∃cN bV,Mm h b ag fK ls fd at_ n cN bV:=by obtain⟨ah,ao,x⟩:=s.get i ae;obtain⟨cN,bV,aY⟩:=Ml x;have c:=aY.cell 0 rfl;obtain⟨eH,eI,bY⟩:=aY.get 1 rfl;obtain⟨dX,eb,db⟩:=aY.get 2 rfl;exact⟨cN,bV,c.1,c.2,(agZ bY).1,(agZ db).1⟩
theorem awn{v:I}{fK:List ro}(U:hY qz v (fK.map oD))(ai:fK.length<=1000000){f:cH}{gj:List I}{P:ro->Bool}(bn:∀g∈fK,aM ak T f (.agg (oD g)::gj) h=j (.inl (.bool (P g)),h)):aM ak T 115 [v,.fn f [] gj] h=j (.inl (.bool (fK.any P)),h):=by
 obtain⟨V,b0,n,bK,gl⟩:=awl (h:=h) U ai bn fK [] .aD .aD .aD rfl rfl;simp only[ey,mn]at b0;have av:aM ak T 130 [v,.fn f [] gj] h=j (.inl (.int o n),h):=by refine bd av9 rfl ?_;unfold agP;simp only[ap,aw,aA,ar,U.len,U.fits,gG];rw[b0];simp only[ap,bK]
 refine bd av8 rfl ?_;unfold agO;simp only[ap,aw,aA,ar,av,gl]
theorem awo(ls:List (Int×Int))(p:Int):(tA ls p).length<=2*ls.length+1:=by
 have key:∀(f i:Nat) (out:List Int),oC ls p out->oC ls p (BN ls f i out):=by
  intro f;induction f with
  |zero=>exact λi out g=>g
  |succ f aW=>
    intro i out g;unfold BN;split
    ·exact aW _ _ (oC.fold ls out (λl ai=>ai) g)
    ·exact g
 exact(key _ _ _ (agj ls p)).len
theorem awp(s:aQ am aL aF h L)(i:Nat)(ae:L[i]? =j (mz b ag fK ls fd at_ n))(a7:fK.length<=200)(ai:ls.length<=200)(p c r:Int):aM ak T 78 [.ptr b 0 0,.int o p,.int o c,.int o r] h=j (.inl (.bool (L9 fK ls p c r)),h):=by
 obtain⟨cN,bV,jH⟩:=zC s i ae;have aY:=s.push [[.int o c]];have bf:=aY.push [[.int o r]];have HM:∀E,aK ((h.push [[.int o c]]).push [[.int o r]]) E->cO R 1 E (.ptr b 0 2)=j bV:=λE g=>by
  have e:E.cell b=h.cell b:=by rw[g.cell b (by have:=jH.lt;simp only[ek];omega),eG (by have:=jH.lt;simp only[ek];omega),eG jH.lt]
  rw[gm,e,jH.c];rfl
 have Bk:=awj (h:=(h.push [[.int o c]]).push [[.int o r]]) jH.l ai HM p;have bP:=bf.push [[e4 lI (gn (tA ls p))]];have gN:=bP.cell 0 rfl;have c5:=bP.cell 1 rfl;have c4:=bP.cell 2 rfl;obtain⟨G3,aA',ag0⟩:=zC bP (i+1+1+1) ae;have SZ:G3=cN:=by have:=ag0.c;rw[eG (by have:=jH.lt;simp only[ek];omega),eG (by have:=jH.lt;simp only[ek];omega),eG jH.lt,jH.c]at this;simp at this;exact this.1.symm
 subst SZ;have f1:b9 1 (.ptr b 0 0)=j (.ptr b 0 1):=rfl;have b5:cO R 1 (((h.push [[.int o c]]).push [[.int o r]]).push [[e4 lI (gn (tA ls p))]]) (.ptr b 0 1)=j G3:=by rw[gm,ag0.c];rfl
 have awq:=awn (h:=((h.push [[.int o c]]).push [[.int o r]]).push [[e4 lI (gn (tA ls p))]]) jH.g (by omega) (f:=116) (gj:=[.ptr h.n 0 0,.ptr (h.n+1) 0 0,.ptr (h.n+1+1) 0 0]) (P:=λg=>decide (g.cell=c)&&(decide (pY g.fm r=r)&&(tA ls p).contains g.bD)) (λg _=>awk c4.1 c5.1 gN.1 c4.2 c5.2 gN.2 (by have:=awo ls p;omega));have Aa:(e4 lI (gn (tA ls p))).one=Q/\(e4 lI (gn (tA ls p))).cells=[e4 lI (gn (tA ls p))]:=by unfold e4;split<;>exact⟨rfl,rfl⟩
 have h5:∀y z,((((h.push [[.int o c]]).push [[.int o r]]).push y).set (h.n+1+1) (j z))=((h.push [[.int o c]]).push [[.int o r]]).push z:=λy z=>q1;have m4:∀y,((((h.push [[.int o c]]).push [[.int o r]]).push y).cell (h.n+1+1))=j y:=λy=>fU;unfold L9;generalize e4 lI (gn (tA ls p))=aBa at*;refine bd av6 rfl ?_;unfold agK;simp only[ap,aw,aA,ar,cx,Bk,Aa,h5,m4,f1,b5,awq];exact e8 (((aK.push h _).trans (aK.push _ _)).trans (aK.push _ _)) rfl
end
structure pS extends vc where
 wt:Nat
abbrev sm(c:pS)(W:eh):List b2:=mz c.wt c.ag W.jZ W.ds W.code W.at_ W.n::my c.tovc W.H
structure zD(k:Nat)(W:eh):Prop where
 h:zx k W.H
 g:W.jZ.length<=k
 l:W.ds.length<=k
 n:W.n=(k:Int)
section
variable{h E am:ad}{ah ao aL aF:Nat->Prop}{L:List b2}{b ag:Nat}{fK:List ro}{ls:List (Int×Int)}{fd at_ n:Int}
theorem awr(eR:aQ am aL aF h L)(i:Nat)(ae:L[i]? =j (mz b ag fK ls fd at_ n))(ai:fK.length<=1000)(g:ro){cN bV:I}(jH:Mm h b ag fK ls fd at_ n cN bV):∃bg F J,e0 R qz cN (.bN (j h.ids) qz [oD g]) (h.fresh 1)=j (bg,F)/\bg.one=Q/\bg.cells=[bg]/\F.cell=h.cell/\eN 1 F (.ptr b 0 1) bg=j J/\aQ am aL aF J (L.set i (mz b ag (fK++[g]) ls fd at_ n)):=by
 obtain⟨J,⟨bg,F⟩,⟨av,ax,bs,cq,eX⟩,eD⟩:=eR.uF (cn:=λJ (q:I×ad)=>e0 R qz cN (.bN (j h.ids) qz [oD g]) (h.fresh 1)=j (q.1,q.2)/\q.1.one=Q/\q.1.cells=[q.1]/\q.2.cell=h.cell/\eN 1 q.2 (.ptr b 0 1) q.1=j J) i ae (Y:=λ_=>mz b ag (fK++[g]) ls fd at_ n) λah ao x=>by
  obtain⟨HN,zg,s⟩:=Ml x;have c0:=s.cell 0 rfl;have e:=jH.c;rw[c0.1]at e;simp at e;obtain⟨rfl,rfl⟩:=e;obtain⟨eH,eI,bY⟩:=s.get 1 rfl;obtain⟨F,bg,⟨aP,a2,a3,a4⟩,aY⟩:=s.uF (cn:=λF (bg:I)=>e0 R qz HN (.bN (j h.ids) qz [oD g]) (h.fresh 1)=j (bg,F)/\bg.one=Q/\bg.cells=[bg]/\F.cell=h.cell) 1 rfl (Y:=λbg=>k6 qz bg ((fK++[g]).map oD)) λah ao x=>by obtain⟨bg,F,aP,a2,a3,a4,_,a5⟩:=GU x (row:=oD g) rfl (by simp;omega);exact⟨F,bg,⟨aP,a2,a3,a5⟩,by simpa using a4⟩
  have a6:=aY.cell 0 rfl;have bf:=aY.set 0 rfl [[.ptr ag 0 0,bg,zg,.int o fd,.int o at_,.int o n]];refine⟨_,(bg,F),⟨aP,a2,a3,a4,?_⟩,Tg bf⟩;rw[lV a6.1 rfl (by rw[a3];simp[a2]) (by rw[a3];rfl) (by simp)];rw[a3];rfl
 exact⟨bg,F,J,av,ax,bs,cq,eX,eD⟩
theorem aws(eR:aQ am aL aF h L)(i:Nat)(ae:L[i]? =j (mz b ag fK ls fd at_ n))(ai:ls.length<=1000)(g:Int×Int){cN bV:I}(jH:Mm h b ag fK ls fd at_ n cN bV):∃bg F J,e0 R pR bV (.bN (j h.ids) pR [oE g]) (h.fresh 1)=j (bg,F)/\bg.one=Q/\bg.cells=[bg]/\F.cell=h.cell/\eN 1 F (.ptr b 0 2) bg=j J/\aQ am aL aF J (L.set i (mz b ag fK (ls++[g]) fd at_ n)):=by
 obtain⟨J,⟨bg,F⟩,⟨av,ax,bs,cq,eX⟩,eD⟩:=eR.uF (cn:=λJ (q:I×ad)=>e0 R pR bV (.bN (j h.ids) pR [oE g]) (h.fresh 1)=j (q.1,q.2)/\q.1.one=Q/\q.1.cells=[q.1]/\q.2.cell=h.cell/\eN 1 q.2 (.ptr b 0 2) q.1=j J) i ae (Y:=λ_=>mz b ag fK (ls++[g]) fd at_ n) λah ao x=>by
  obtain⟨HN,zg,s⟩:=Ml x;have c0:=s.cell 0 rfl;have e:=jH.c;rw[c0.1]at e;simp at e;obtain⟨rfl,rfl⟩:=e;obtain⟨F,bg,⟨aP,a2,a3,a4⟩,aY⟩:=s.uF (cn:=λF (bg:I)=>e0 R pR zg (.bN (j h.ids) pR [oE g]) (h.fresh 1)=j (bg,F)/\bg.one=Q/\bg.cells=[bg]/\F.cell=h.cell) 2 rfl (Y:=λbg=>k6 pR bg ((ls++[g]).map oE)) λah ao x=>by obtain⟨bg,F,aP,a2,a3,a4,_,a5⟩:=GU x (row:=oE g) rfl (by simp;omega);exact⟨F,bg,⟨aP,a2,a3,a5⟩,by simpa using a4⟩
  have a6:=aY.cell 0 rfl;have bf:=aY.set 0 rfl [[.ptr ag 0 0,HN,bg,.int o fd,.int o at_,.int o n]];refine⟨_,(bg,F),⟨aP,a2,a3,a4,?_⟩,Tg bf⟩;rw[lV a6.1 rfl (by rw[a3];simp[a2]) (by rw[a3];rfl) (by simp)];rw[a3];rfl
 exact⟨bg,F,J,av,ax,bs,cq,eX,eD⟩
theorem ag1(eR:aQ am aL aF h L)(i:Nat)(ae:L[i]? =j (mz b ag fK ls fd at_ n))(HO at' b4:Int){row:List I}{cN bV:I}(jH:Mm h b ag fK ls fd at_ n cN bV):aQ am aL aF (h.set b (j [[.ptr ag 0 0,cN,bV,.int o HO,.int o at',.int o b4]])) (L.set i (mz b ag fK ls HO at' b4)):=by
 obtain⟨E,rfl,eD⟩:=eR.call (cn:=λE=>E=h.set b (j [[.ptr ag 0 0,cN,bV,.int o HO,.int o at',.int o b4]])) i ae (Y:=mz b ag fK ls HO at' b4) λah ao x=>by obtain⟨HN,zg,s⟩:=Ml x;have c0:=s.cell 0 rfl;have e:=jH.c;rw[c0.1]at e;simp at e;obtain⟨rfl,rfl⟩:=e;exact⟨_,rfl,Tg (s.set 0 rfl [[.ptr ag 0 0,HN,zg,.int o HO,.int o at',.int o b4]])⟩
 exact eD
theorem awt(s:aQ am aL aF h L)(i:Nat)(ae:L[i]? =j (mz b ag fK ls fd at_ n))(a7:fK.length<=1000)(ai:ls.length<=1000)(x:iU){m:I}(hm:m.one=Q):∃E,aM ak T 77 [.ptr b 0 0,.agg (c7 x m)] h=j (.inl (.bx []),E)/\aQ am aL aF E (L.set i (mz b ag (if x.kind=2 then fK++[⟨x.p,x.k,x.r⟩]else fK) (if x.kind=2 then ls else if x.kind=3 then ls++[(x.p,x.q)]else ls) fd at_ n)):=by
 have aY:=s.push [c7 x m];have a6:∀z,(h.push z).cell h.n=j z:=λz=>fU;have f1:b9 1 (.ptr b 0 0)=j (.ptr b 0 1):=rfl;have f2:b9 2 (.ptr b 0 0)=j (.ptr b 0 2):=rfl;obtain⟨cN,bV,jH⟩:=zC aY (i+1) ae;have BP:cO R 1 (h.push [c7 x m]) (.ptr b 0 1)=j cN:=by rw[gm,jH.c];rfl
 have uh:cO R 1 (h.push [c7 x m]) (.ptr b 0 2)=j bV:=by rw[gm,jH.c];rfl
 by_cases c6:x.kind=2
 ·have d2:decide (x.kind=2)=Q:=decide_eq_true c6;rw[if_pos c6,if_pos c6];obtain⟨bg,F,J,aP,a2,a3,a4,a5,bf⟩:=awr aY (i+1) ae a7 ⟨x.p,x.k,x.r⟩ jH;have ag2:cO R 1 ((h.push [c7 x m]).fresh 1) (.ptr b 0 1)=j cN:=BP;have aP:e0 R qz cN (.bN (j h.ids) qz [[.int o x.p,.int o x.k,.int o x.r]]) ((h.push [c7 x m]).fresh 1)=j (bg,F):=aP;refine⟨J,?_,bf.drop⟩;simp only[c7]at BP ag2 aP;refine bd S5 rfl ?_;unfold Mj;simp only[ap,aw,aA,ar,ct,c7,hm,a6,f1,d2,BP,ag2,aP,a5]
 ·have d2:decide (x.kind=2)=R:=decide_eq_false c6;rw[if_neg c6,if_neg c6];by_cases fN:x.kind=3
  ·have d3:decide (x.kind=3)=Q:=decide_eq_true fN;rw[if_pos fN];obtain⟨bg,F,J,aP,a2,a3,a4,a5,bf⟩:=aws aY (i+1) ae ai (x.p,x.q) jH;have ag3:cO R 1 ((h.push [c7 x m]).fresh 1) (.ptr b 0 2)=j bV:=uh;have aP:e0 R pR bV (.bN (j h.ids) pR [[.int o x.p,.int o x.q]]) ((h.push [c7 x m]).fresh 1)=j (bg,F):=aP;refine⟨J,?_,bf.drop⟩;simp only[c7]at uh ag3 aP;refine bd S5 rfl ?_;unfold Mj;simp only[ap,aw,aA,ar,ct,c7,hm,a6,f2,d2,d3,uh,ag3,aP,a5]
  ·have d3:decide (x.kind=3)=R:=decide_eq_false fN;rw[if_neg fN];refine⟨h.push [c7 x m],?_,?_⟩
   ·refine bd S5 rfl ?_;unfold Mj;simp only[ap,aw,aA,ar,c7,hm,a6,d2,d3]
   ·rw[au5 ae];exact aY.drop
end
def lJ{α:Type}(S:bG)(q:bG×α×Int):Prop:=S.log<+:q.1.log
section
variable{α β:Type}
theorem lJ.same{S:bG}{q:bG×α×Int}(h:q.1.log=S.log):lJ S q:=by unfold lJ;rw[h];exact List.prefix_refl _
theorem lJ.bind{S:bG}{q:bG×α×Int}{z:β}{k:bG->α->bG×β×Int}(h:lJ S q)(ab:∀cb v,lJ cb (k cb v)):lJ S (vr z q k):=by
 obtain⟨cb,v,c⟩:=q;unfold vr;simp only;split
 ·exact h
 ·exact List.IsPrefix.trans h (ab cb v)
theorem lJ.ite{S:bG}{p:Prop}[Decidable p]{a b:bG×α×Int}(F:lJ S a)(J:lJ S b):lJ S (if p then a else b):=by split<;>assumption
end
theorem awu(S:bG)(q:be×Int×Int):lJ S (vm S q):=by unfold vm;exact .ite (.same rfl) (.same rfl)
theorem awv(p op k n:Int)(l:List ay)(S:bG):lJ S (hr p op k n l S):=by
 unfold hr
 repeat' (first|exact lJ.same rfl|exact awu _ _|exact List.prefix_append _ _|refine lJ.ite ?_ ?_)
theorem aww(ms:dQ)(v x:ay)(a8:Nat)(S:bG):lJ S (jr ms v x a8 S):=by
 unfold jr
 repeat' (first|exact lJ.same rfl|refine lJ.ite ?_ ?_)
theorem awx(ec:List Int)(v:ay)(S:bG):lJ S (l7 ec v S):=by unfold l7;exact .ite (.same rfl) (.same rfl)
theorem ag4{f:bk->bG->bG×ay×Int}(bn:∀x S,lJ S (f x S)):∀(l:List bk) (S:bG) (acc:List ay),lJ S (j1 f l S acc)
 |[],S,acc=>.same rfl
 |x::l,S,acc=>by rw[UT];exact(bn x S).bind λcb v=>ag4 bn l cb _
theorem ag5(ms:dQ):∀(N:Nat) (p:Int) (x:bk) (arg:ay) (names:List ay) (a8:Nat) (S:bG),lJ S (e5 ms N p x arg names a8 S)
 |0,p,x,arg,names,a8,S=>.same rfl
 |N+1,p,x,arg,names,a8,S=>by
   have aW:=ag5 ms N;have Hk:∀{q:bG×ay×Int},lJ S.tick q->lJ S q:=λh=>h;rw[UU];refine .ite (.same rfl) (Hk ?_);cases ll p x arg names S.tick with
   |some v=>exact .same rfl
   |none=>refine .ite ((aW _ _ _ _ _ _).bind λcb v=>aW _ _ _ _ _ _) (.ite ((aW _ _ _ _ _ _).bind λcb v=>.ite (.same rfl) (.ite (aW _ _ _ _ _ _) (aW _ _ _ _ _ _))) ?_);refine(ag4 (λy S=>aW _ _ _ _ _ _) _ _ _).bind λcb l=>.ite (.ite (.same rfl) (aW _ _ _ _ _ _)) (.ite ?_ (awv _ _ _ _ _ _));exact(aww _ _ _ _ _).bind λcb q=>(aW _ _ _ _ _ _).bind λcb v=>awx _ _ _
theorem awy{ms:dQ}{S:bG}{p f fuel:Int}{v:ay}:S.log<+:(gQ ms p f v fuel S).1.log:=by
 unfold gQ;split
 ·exact List.prefix_refl _
 ·split
  ·exact List.prefix_refl _
  ·split
   ·exact List.prefix_refl _
   ·have h:=ag5 ms fuel.toNat p (gs ms p f) v [] 1 {S with left:=fuel.toNat};generalize e5 ms fuel.toNat p (gs ms p f) v [] 1 {S with left:=fuel.toNat}=q at h;obtain⟨b3,w,c⟩:=q;exact h
theorem ag6{H:dr}{p n c:Int}:(H.mw p n c).1.S.log=H.S.log:=by unfold dr.mw;split<;>rfl
theorem awz(H:dr)(x:iU):H.S.log<+:(H.step x).1.S.log:=by
 have same:∀{l:List jI},l=H.S.log->H.S.log<+:l:=λh=>by rw[h];exact List.prefix_refl _
 unfold dr.step;split
 ·unfold dr.load;split
  ·exact same rfl
  ·split<;>exact same rfl
 ·split
  ·split
   ·exact same rfl
   ·split
    ·exact same ag6
    ·exact same ag6
  ·split
   ·unfold dr.call;split
    ·exact same rfl
    ·have:=awy (ms:=H.ms) (S:=H.S) (p:=x.p) (f:=x.k) (fuel:=2000) (v:=if 0<=x.h then(H.hand x.p).getD x.h.toNat cp else l6 x.n);generalize gQ H.ms x.p x.k (if 0<=x.h then(H.hand x.p).getD x.h.toNat cp else l6 x.n) 2000 H.S=q at this;obtain⟨b3,v,n,c⟩:=q;exact this
   ·split
    ·exact same rfl
    ·split<;>exact same rfl
end Go.Proofs.YtaodiaofbeblbaaGreatDoor
