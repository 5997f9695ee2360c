/- A watched step, whole. -/
import Derived.Test.YtaodiaofbeblbaaGreatDoorMg6
import Derived.Lib.ItoaLen
import Derived.Lib.ParseIntBTie
set_option linter.unusedSimpArgs false
set_option linter.unusedVariables false
set_option maxHeartbeats 4000000
set_option maxRecDepth 1000000
open List renaming replicate→ar,length_append→dy,length_cons→dw,getElem?_eq_some_iff→fR,getElem?_eq_getElem→gd,length_singleton→fS,length_nil→ey,getD→dm,length_map→gG,getElem_mem→hf,map_cons→gP,mem_cons→gW,all_eq_true→iC,append_assoc→jA,cons_append→kq,nil_append→j6,length_eq_zero_iff→mF,mem_range→j8,range→iO,append_nil→me,map_nil→kK,mem_map→lR,mem_cons_of_mem→qk,mem_of_getElem?→qV,take_succ_cons→rU,map_append→rR,length_drop→sK,mem_cons_self→uq
open Option renaming some→j,none→Z,bind_some→da,map_some→g3
open Nat renaming reduceAdd→aw,reduceSub→aA,reduceLeDiff→ct,le_refl→bS,lt_of_lt_of_le→eF,le_trans→ee,zero_add→gH,zero_le→hK,reduceLT→oo,lt_succ_self→q6,le_of_eq→p3
open Go.IntKind renaming i64→o,wrap→hq
open Go.Proofs.Tryz renaming prog→ak
open Bool renaming false→R,true→Q
open Go renaming TypeId→aU,Program→cu,Value→bH,Oper→bb,FuncId→cH,World→cd,Frame→eO,undef→fy,Code→ef,lone→ew,IntKind→kf
open Option.some renaming injEq→hg,inj→tR
open Int renaming reduceEq→eZ,natCast_zero→mn,toNat_natCast→rV,cast_ofNat_Int→uI
open Prod.mk renaming injEq→iQ
open Go.Region renaming binds→kv
open Go.Lib renaming itoa→ie,join→jv
open SizeOf renaming sizeOf→mV
open UInt8 renaming ofNat→q2
open Iff renaming rfl→mN
open Go.Act renaming put→px
namespace Go.Proofs.YtaodiaofbeblbaaGreatDoor
open Go
variable{es acc:List (List I)}{a:Nat}{id:Option Nat}{sep:List UInt8}{am:ad}{r:List ce}{e op:Int}{bV:I}{ws:List (List UInt8)}
abbrev wE(b ag:Nat)(W:eh):b2:=mz b ag W.jZ W.ds W.code W.at_ W.n
theorem Th(W:eh)(y:jI):(W.ik y).jZ=W.jZ/\(W.ik y).ds=W.ds/\(W.ik y).n=W.n/\(W.ik y).H=W.H:=by unfold eh.ik;split<;>exact⟨rfl,rfl,rfl,rfl⟩
theorem Mn:∀(l:List jI) (W:eh),(l.foldl eh.ik W).jZ=W.jZ/\(l.foldl eh.ik W).ds=W.ds/\(l.foldl eh.ik W).n=W.n/\(l.foldl eh.ik W).H=W.H
 |[],W=>⟨rfl,rfl,rfl,rfl⟩
 |y::l,W=>by obtain⟨aP,a2,a3,a4⟩:=Th W y;obtain⟨dk,dH,g0,k2⟩:=Mn l (W.ik y);exact⟨dk.trans aP,dH.trans a2,g0.trans a3,k2.trans a4⟩
section
variable{h E am:ad}{ah ao aL aF:Nat->Prop}{L:List b2}{b ag:Nat}
theorem awA{i:Nat}(h':i<L.length){v9:I}{es:List jI}(U:hY j' v9 (es.map g'))(Hi:es.length<=1000000):∀(r pre:List jI) (E:ad) (W:eh) (v1 v2 v3 v4 v5 v6 dz gM v12 ix:I),es=pre++r->W.jZ.length<=200->W.ds.length<=200->aQ am aL aF E (L.set i (wE b ag W))->∃eT hb pT x9,(∀K,bu (aM ak T) 14 (.ff BO::.bQ []::.b1 0::K) [.ptr b 0 0,v1,v2,v3,v4,v5,v6,dz,gM,v9,.int o (es.length:Int),.int o (pre.length:Int),v12,ix] [] E=bu (aM ak T) 14 K [.ptr b 0 0,v1,v2,v3,v4,v5,v6,hb,gM,v9,.int o (es.length:Int),pT,.bool R,x9] [] eT)/\aQ am aL aF eT (L.set i (wE b ag (r.foldl eh.ik W))):=by
 intro r;induction r with
 |nil=>intro pre E W v1 v2 v3 v4 v5 v6 dz gM v12 ix e a7 ai s;have d1:decide ((pre.length:Int)<(es.length:Int))=R:=decide_eq_false (by rw[e];simp);refine⟨E,dz,.int o (pre.length:Int),ix,λK=>?_,s⟩;rw[dd BO.eq_1];simp only[ap,aw,aA,ar,cz,d1]
 |cons y r aW=>
   intro pre E W v1 v2 v3 v4 v5 v6 dz gM v12 ix e a7 ai s;have i6:pre.length<es.length:=by rw[e];simp
   have d1:decide ((pre.length:Int)<(es.length:Int))=Q:=decide_eq_true (by omega);have bR:=U.bR o pre.length (g' y) (by rw[e];simp);have cg:=gD (n:=(pre.length:Int)+1) (by omega) (by omega);have dN:((pre++[y]).length:Int)=(pre.length:Int)+1:=by simp
   have mr:gX Q 4 (g' y) 0=j (.agg (g' y)):=jP rfl;have aY:=s.push [g' y];have ae:(bm E.n [g' y]::L.set i (wE b ag W))[i+1]? =j (wE b ag W):=by rw[List.getElem?_cons_succ,List.getElem?_set_self h']
   have HP:=awp aY (i+1) ae a7 ai y.bD y.cell y.right;obtain⟨cN,bV,jH⟩:=zC aY (i+1) ae;have sl:∀z,(E.push z).cell E.n=j z:=λz=>fU;have eP:∀y z,(E.push y).set E.n (j z)=E.push z:=λy z=>q1;have f3:b9 3 (.ptr b 0 0)=j (.ptr b 0 3):=rfl;have Ti:b9 0 (.ptr b 0 3)=j (.ptr b 0 3):=rfl;have f5:b9 5 (.ptr b 0 0)=j (.ptr b 0 5):=rfl;have Mo:=jH.c;obtain⟨cJ,z2,z3,_⟩:=Th W y;have go:∀(bz:ad) (x9:I),aQ am aL aF bz (L.set i (wE b ag (W.ik y)))->∃eT hb pT x',(∀K,bu (aM ak T) 14 (.ff BO::.bQ []::.b1 0::K) [.ptr b 0 0,v1,v2,v3,v4,v5,v6,.ptr E.n 0 0,gM,v9,.int o (es.length:Int),.int o ((pre.length:Int)+1),.bool Q,x9] [] bz=bu (aM ak T) 14 K [.ptr b 0 0,v1,v2,v3,v4,v5,v6,hb,gM,v9,.int o (es.length:Int),pT,.bool R,x'] [] eT)/\aQ am aL aF eT (L.set i (wE b ag ((y::r).foldl eh.ik W))):=λbz x9 rp=>by obtain⟨eT,hb,pT,x',b0,bf⟩:=aW (pre++[y]) bz (W.ik y) v1 v2 v3 v4 v5 v6 (.ptr E.n 0 0) gM (.bool Q) x9 (by simp[e]) (by rw[cJ];exact a7) (by rw[z2];exact ai) rp;exact⟨eT,hb,pT,x',λK=>by rw[<-b0 K,dN],bf⟩
   simp only[g']at bR mr HP Mo;by_cases al:W.code=0
   ·have uZ:decide (W.code=0)=Q:=decide_eq_true al;cases hm:L9 W.jZ W.ds y.bD y.cell y.right with
    |true=>
      rw[hm]at HP;have az:W.ik y=W:=by unfold eh.ik;rw[if_neg (by simp[hm])]
      obtain⟨eT,hb,pT,x',b0,bf⟩:=go (E.push [g' y]) (.bool R) (by rw[az];exact aY.drop);refine⟨eT,hb,pT,x',λK=>?_,bf⟩;rw[<-b0 K];simp only[g']
      conv=>lhs;rw[dd BO.eq_1]
      simp only[ap,aw,aA,ar,ct,cz,d1,bR,mr,sl,eP,f3,Ti,Mo,uZ,HP,cg]
    |false=>
      rw[hm]at HP;have az:W.ik y={W with code:=14,at_:=W.n}:=by unfold eh.ik;rw[if_pos ⟨al,hm⟩]
      have bP:=ag1 aY (i+1) ae 14 W.n W.n (row:=[]) jH;have bP:aQ am aL aF _ (bm E.n [g' y]::(L.set i (wE b ag W)).set i (mz b ag W.jZ W.ds 14 W.n W.n)):=bP;rw[List.set_set]at bP;obtain⟨eT,hb,pT,x',b0,bf⟩:=go _ (.bool Q) (by rw[az];exact bP.drop);refine⟨eT,hb,pT,x',λK=>?_,bf⟩;rw[<-b0 K];simp only[g']
      conv=>lhs;rw[dd BO.eq_1]
      simp only[ap,aw,aA,ar,ct,cz,d1,bR,mr,sl,eP,f3,Ti,f5,Mo,uZ,HP,cg]
   ·have uZ:decide (W.code=0)=R:=decide_eq_false al;have az:W.ik y=W:=by unfold eh.ik;rw[if_neg (λh=>al h.1)]
    obtain⟨eT,hb,pT,x',b0,bf⟩:=go (E.push [g' y]) (.bool R) (by rw[az];exact aY.drop);refine⟨eT,hb,pT,x',λK=>?_,bf⟩;rw[<-b0 K];simp only[g']
    conv=>lhs;rw[dd BO.eq_1]
    simp only[ap,aw,aA,ar,ct,cz,d1,bR,mr,sl,eP,f3,Ti,Mo,uZ,cg]
end
section
variable{h E am:ad}{ah ao aL aF:Nat->Prop}{A B:List b2}{c:pS}{W:eh}
abbrev Tj(gv:Nat)(y:iU)(m:I)(c:pS)(W:eh):List b2:=[bm (gv+1+1) [[.int o 0,.int o 0]],bm (gv+1) [gh 0 0 bB],bm gv [c7 y m]]++sm c W
structure awB(h:ad)(c:pS):Prop where
 w:cO R 1 h (.ptr c.wt 0 0)=j (.ptr c.ag 0 0)
 b:cO R 1 h (.ptr c.ag 0 0)=j (.ptr c.aG 0 0)
 d:cO R 1 h (.ptr c.aG 0 1)=j (.ptr c.cr 0 0)
 g:cO R 1 h (.ptr c.aG 0 0)=j (.ptr c.cl 0 0)
theorem Tk(s:aQ am aL aF h B)(i:Nat)(O:pP W.H)(F:B[i]? =j (wE c.wt c.ag W))(J:B[i+1]? =j (lH c.ag c.aG W.H.cy))(af:B[i+1+1]? =j (ha c.aG c.cl c.cr W.H.ms W.H.S.kept)):awB h c:=by obtain⟨cN,bV,jH⟩:=zC s i F;obtain⟨bl,U⟩:=vb s (i+1) J;have Mp:=G1 s af O.len;exact⟨by rw[gm,jH.c];rfl,U.box 1,Mp.2 1,Mp.1 1⟩
theorem zD.step{k:Nat}(O:zD k W)(x:iU):zD (k+1) (W.step x).1:=by
 have aq:∀tB:eh,(tB.note x).jZ.length<=tB.jZ.length+1/\(tB.note x).ds.length<=tB.ds.length+1/\(tB.note x).n=tB.n/\(tB.note x).H=tB.H:=λtB=>by
  unfold eh.note;split
  ·exact⟨by simp,by simp,rfl,rfl⟩
  ·split
   ·exact⟨by simp,by simp,rfl,rfl⟩
   ·exact⟨by omega,by omega,rfl,rfl⟩
 have J:∀ke:eh,ke.jZ.length<=k+1->ke.ds.length<=k+1->ke.n=(k:Int)->zx (k+1) ke.H->∀l:List jI,zD (k+1) {(l.foldl eh.ik ke)with n:=(l.foldl eh.ik ke).n+1}:=λke aP a2 a3 a4 l=>by obtain⟨dk,dH,g0,k2⟩:=Mn l ke;exact⟨by rw[k2];exact a4,by rw[dk];exact aP,by rw[dH];exact a2,by show(l.foldl eh.ik ke).n+1=_;rw[g0,a3];omega⟩
 unfold eh.step;simp only;have bO:=O.h.step x;have zk:=O.g;have Mq:=O.l;obtain⟨a6,c2,c3,c4⟩:=aq {W with H:=(W.H.step x).1};refine J _ ?_ ?_ ?_ ?_ _
 ·split
  ·exact ee a6 (Nat.succ_le_succ zk)
  ·exact ee zk (Nat.le_succ _)
 ·split
  ·exact ee c2 (Nat.succ_le_succ Mq)
  ·exact ee Mq (Nat.le_succ _)
 ·split
  ·rw[c3];exact O.n
  ·exact O.n
 ·split
  ·rw[c4];exact bO
  ·exact bO
theorem awC{k:Nat}(x:(cX (sm c W)).A h ah ao)(O:zD k W)(ab:k<=199)(y:iU){m:I}(du:fH fh m es)(eB:hy y.m es)(df:y.m.length<=100000)(az:∀x∈y.m,x.size<=100000):∃E,(∃r,aM ak T 50 [.ptr c.wt 0 0,.agg (c7 y m)] h=j (.inl (.bx [.agg r,.agg [.int o (W.step y).2.2.1,.int o (W.step y).2.2.2]]),E)/\oB (W.step y).2.1 r)/\en h ah ao E (cX (sm c (W.step y).1)):=by
 have eR:aQ h ah ao h (sm c W):=aQ.start x;have aY:=eR.push [c7 y m];have bf:=aY.push [gh 0 0 bB];have bP:aQ h ah ao _ (Tj h.n y m c W):=bf.push [[.int o 0,.int o 0]];have hm:m.one=Q:=(l0.of (h:=h) du eB).one;have l4:=O.h.ok (by omega);have c3:=(bP.cell 2 rfl).1;have ia:=Tk bP 3 l4 rfl rfl rfl;have t3:=S4 (c:=c.tovc) bP 7 l4 rfl;have ag7:∀b,b9 0 (.ptr b 0 0)=j (.ptr b 0 0):=λ_=>rfl;have bh:b9 1 (.ptr c.aG 0 0)=j (.ptr c.aG 0 1):=rfl;have f5:b9 5 (.ptr c.wt 0 0)=j (.ptr c.wt 0 5):=rfl;have f3:b9 3 (.ptr c.wt 0 0)=j (.ptr c.wt 0 3):=rfl;have Mr:=xm j' (W.H.S.log.map g');obtain⟨aB,gU,cq,v4,cj⟩:=avW (A:=[bm (h.n+1+1) [[.int o 0,.int o 0]],bm (h.n+1) [gh 0 0 bB],bm h.n [c7 y m],wE c.wt c.ag W]) (B:=[]) (c:=c.tovc) bP l4 y du eB df az;have cj:aQ h ah ao aB (Tj h.n y m c {W with H:=(W.H.step y).1}):=cj;have eQ:=(O.h.step y).ok (by omega);have cT:=cj.push [gh 0 0 bB];have eo:=cj.push [gU];have oW:=Tk cT 4 eQ rfl rfl rfl;have c5:=(cT.cell 3 rfl).1;have fp:=(eo.cell 3 rfl).1;have aBb:=(eo.cell 0 rfl).1;obtain⟨cJ,z2⟩:=v4.all;have sl:∀z,(aB.push z).cell aB.n=j z:=λz=>fU;have eP:∀y z,(aB.push y).set aB.n (j z)=aB.push z:=λy z=>q1;have mr:gX Q 9 (c7 y m) 0=j (.agg (c7 y m)):=jP rfl;obtain⟨ext,awD⟩:=awz W.H y;obtain⟨cQ,kS,jb⟩:∃cQ,((W.H.step y).2.code=0->aM ak T 77 [.ptr c.wt 0 0,.agg (c7 y m)] (aB.push [gU])=j (.inl (.bx []),cQ))/\((W.H.step y).2.code≠0->cQ=aB.push [gU])/\aQ h ah ao cQ (bm aB.n [gU]::Tj h.n y m c (if(W.H.step y).2.code=0 then({W with H:=(W.H.step y).1}:eh).note y else{W with H:=(W.H.step y).1})):=by
  by_cases aR:(W.H.step y).2.code=0
  ·have zk:=O.g;have Mq:=O.l;obtain⟨cQ,kS,jb⟩:=awt eo 4 rfl (by show W.jZ.length<=1000;omega) (by show W.ds.length<=1000;omega) y hm;refine⟨cQ,λ_=>kS,λh=>absurd aR h,?_⟩;rw[if_pos aR];have D5:({W with H:=(W.H.step y).1}:eh).note y={W with H:=(W.H.step y).1,jZ:=if y.kind=2 then W.jZ++[⟨y.p,y.k,y.r⟩]else W.jZ,ds:=if y.kind=2 then W.ds else if y.kind=3 then W.ds++[(y.p,y.q)]else W.ds}:=by
    unfold eh.note;by_cases c6:y.kind=2
    ·simp only[if_pos c6]
    ·simp only[if_neg c6];by_cases fN:y.kind=3
     ·simp only[if_pos fN]
     ·simp only[if_neg fN]
   rw[D5];exact jb
  ·refine⟨aB.push [gU],λh=>absurd h aR,λ_=>rfl,?_⟩;rw[if_neg aR];exact eo
 obtain⟨awE,jb⟩:=jb;have ag8:W.step y=({(((W.H.step y).1.S.log.drop W.H.S.log.length).foldl eh.ik (if(W.H.step y).2.code=0 then({W with H:=(W.H.step y).1}:eh).note y else{W with H:=(W.H.step y).1}))with n:=(((W.H.step y).1.S.log.drop W.H.S.log.length).foldl eh.ik (if(W.H.step y).2.code=0 then({W with H:=(W.H.step y).1}:eh).note y else{W with H:=(W.H.step y).1})).n+1},(W.H.step y).2,(((W.H.step y).1.S.log.drop W.H.S.log.length).foldl eh.ik (if(W.H.step y).2.code=0 then({W with H:=(W.H.step y).1}:eh).note y else{W with H:=(W.H.step y).1})).code,(((W.H.step y).1.S.log.drop W.H.S.log.length).foldl eh.ik (if(W.H.step y).2.code=0 then({W with H:=(W.H.step y).1}:eh).note y else{W with H:=(W.H.step y).1})).at_):=rfl;have ag9:(if(W.H.step y).2.code=0 then({W with H:=(W.H.step y).1}:eh).note y else{W with H:=(W.H.step y).1}).H=(W.H.step y).1/\(if(W.H.step y).2.code=0 then({W with H:=(W.H.step y).1}:eh).note y else{W with H:=(W.H.step y).1}).jZ.length<=200/\(if(W.H.step y).2.code=0 then({W with H:=(W.H.step y).1}:eh).note y else{W with H:=(W.H.step y).1}).ds.length<=200:=by
  have zk:=O.g;have Mq:=O.l;split
  ·unfold eh.note;split
   ·exact⟨rfl,by simp;omega,by show W.ds.length<=200;omega⟩
   ·split
    ·exact⟨rfl,by show W.jZ.length<=200;omega,by simp;omega⟩
    ·exact⟨rfl,by show W.jZ.length<=200;omega,by show W.ds.length<=200;omega⟩
  ·exact⟨rfl,by show W.jZ.length<=200;omega,by show W.ds.length<=200;omega⟩
 have ag':(if(W.H.step y).2.code=0 then({W with H:=(W.H.step y).1}:eh).note y else{W with H:=(W.H.step y).1}).n=W.n:=by
  split
  ·unfold eh.note;split
   ·rfl
   ·split<;>rfl
  ·rfl
 generalize (if(W.H.step y).2.code=0 then({W with H:=(W.H.step y).1}:eh).note y else{W with H:=(W.H.step y).1})=ke at jb ag8 ag9 ag';obtain⟨Dv,m3,py⟩:=ag9;have zE:aQ h ah ao cQ ([bm aB.n [gU],bm (h.n+1+1) [[.int o 0,.int o 0]],bm (h.n+1) [gh 0 0 bB],bm h.n [c7 y m]]++sm c ke):=jb;have pC:pP ke.H:=by rw[Dv];exact eQ
 have gg:=Tk zE 4 pC rfl rfl rfl;have t7:=S4 (c:=c.tovc) zE 8 pC rfl;rw[Dv]at t7;have aha:=xm j' ((W.H.step y).1.S.log.map g');obtain⟨v9,u1,u2⟩:=awm (e:=j') (rows:=(W.H.step y).1.S.log.map g') (k:=W.H.S.log.length) (by rw[<-awD];simp);rw[<-List.map_drop]at u2;have yH:((W.H.step y).1.S.log.drop W.H.S.log.length).length<=1000000:=by have:=eQ.log;rw[sK];omega
 obtain⟨g7,hb,pT,x9,h0,la⟩:=awA (L:=[bm aB.n [gU],bm (h.n+1+1) [[.int o 0,.int o 0]],bm (h.n+1) [gh 0 0 bB],bm h.n [c7 y m]]++sm c ke) (i:=4) (b:=c.wt) (ag:=c.ag) (show 4<9 by decide) u2 yH ((W.H.step y).1.S.log.drop W.H.S.log.length) [] cQ ke (.agg (c7 y m)) (.ptr h.n 0 0) (.ptr (h.n+1) 0 0) (.ptr (h.n+1+1) 0 0) (.int o (W.H.S.log.length:Int)) (.ptr aB.n 0 0) .aD (.bool (decide ((W.H.step y).2.code=0))) .aD .aD rfl m3 py zE;have la:aQ h ah ao g7 ([bm aB.n [gU],bm (h.n+1+1) [[.int o 0,.int o 0]],bm (h.n+1) [gh 0 0 bB],bm h.n [c7 y m],wE c.wt c.ag (((W.H.step y).1.S.log.drop W.H.S.log.length).foldl eh.ik ke)]++my c.tovc ke.H):=la;obtain⟨dk,dH,g0,k2⟩:=Mn ((W.H.step y).1.S.log.drop W.H.S.log.length) ke;rw[ag8];generalize ((W.H.step y).1.S.log.drop W.H.S.log.length).foldl eh.ik ke=pU at la dk dH g0 k2 ⊢;obtain⟨cN,bV,jH⟩:=zC la 4 rfl;have aBc:pU.n=(k:Int):=by rw[g0,ag',O.n]
 have cg:=gD (n:=pU.n+1) (by omega) (by omega);have kc:=ag1 la 4 rfl pU.code pU.at_ (pU.n+1) (row:=[]) jH;have kc:aQ h ah ao _ ([bm aB.n [gU],bm (h.n+1+1) [[.int o 0,.int o 0]],bm (h.n+1) [gh 0 0 bB],bm h.n [c7 y m],mz c.wt c.ag pU.jZ pU.ds pU.code pU.at_ (pU.n+1)]++my c.tovc ke.H):=kc;have ahb:=(kc.cell 0 rfl).1;have ahc:=(kc.cell 2 rfl).1;have x0:=kc.set 2 rfl [gU];have Sk:=(x0.cell 1 rfl).1;obtain⟨aBd,aBe,awF⟩:=zC x0 4 rfl;have ahd:=awF.c;have tv:=x0.set 1 rfl [[.int o pU.code,.int o pU.at_]];have ahe:=(tv.cell 2 rfl).1;have wd:∀cN bV n,gX Q 2 [.ptr c.ag 0 0,cN,bV,.int o pU.code,.int o pU.at_,.int o n] 3=j (.agg [.int o pU.code,.int o pU.at_]):=λ_ _ _=>rfl;have ahf:gX Q 5 gU 0=j (.agg gU):=jP cJ;obtain⟨aea,ahg,Ms⟩:=v4;have BK:=tv.drop.drop.drop.drop;rw[<-k2]at BK;refine⟨_,⟨gU,?_,⟨aea,ahg,Ms⟩⟩,BK⟩;have zf:gU[0]? =j (.int o (W.H.step y).2.code):=by rw[ahg];rfl
 have ahh:=jH.c;simp only[ey,mn]at h0;obtain⟨Tl,Tm,Tn,_⟩:=ia;obtain⟨ahi,aBf,aBg,_⟩:=oW;obtain⟨ahj,ahk,ahl,_⟩:=gg;simp only[c7]at c3 Tl Tm Tn t3 cq c5 fp mr kS h0;cases iz:decide ((W.H.step y).2.code=0)with
 |true=>have kS:=kS (of_decide_eq_true iz);rw[iz]at h0;refine bd agV rfl ?_;unfold S7;simp only[ap,aw,aA,ar,cx,c7,hm,ag7,bh,Tl,Tm,Tn,t3,Mr.len,Mr.fits,gG,c3,mr,cq,sl,eP,ahi,c5,cJ,z2,fp,zf,iz,kS,ahj,ahk,ahl,t7,aha.fits,u1,u2.len,u2.fits];rw[h0];simp only[ap,aw,f3,f5,ahh,cg,ahb,ahc,ahf,wd,cJ,z2,Sk,ahd,ahe]
 |false=>have kS:=awE (of_decide_eq_false iz);rw[iz]at h0;subst kS;refine bd agV rfl ?_;unfold S7;simp only[ap,aw,aA,ar,cx,c7,hm,ag7,bh,Tl,Tm,Tn,t3,Mr.len,Mr.fits,gG,c3,mr,cq,sl,eP,ahi,c5,cJ,z2,fp,zf,iz,ahj,ahk,ahl,t7,aha.fits,u1,u2.len,u2.fits];rw[h0];simp only[ap,aw,f3,f5,ahh,cg,ahb,ahc,ahf,wd,cJ,z2,Sk,ahd,ahe]
end
theorem awG:zD 0 Ee:=⟨avU,by simp[Ee],by simp[Ee],rfl⟩
theorem To(W:eh)(x:iU):(W.step x).1.H=(W.H.step x).1/\(W.step x).2.1=(W.H.step x).2:=by
 unfold eh.step;refine⟨?_,rfl⟩;simp only;rw[(Mn _ _).2.2.2];split
 ·unfold eh.note;split
  ·rfl
  ·split<;>rfl
 ·rfl
section
variable{h E am:ad}{ah ao aL aF:Nat->Prop}{L A B:List b2}{c:pS}{W:eh}
theorem Mt{e:aU}:(k6 e .aC []).A h (λ_=>False) (λ_=>False):=.inl ⟨⟨rfl,rfl⟩,λ_ h=>h,λ_ h=>h⟩
theorem awH{b ag:Nat}(he:b=h.n):(mz b ag [] [] 0 0 0).A (h.push [[.ptr ag 0 0,.aC,.aC,.int o 0,.int o 0,.int o 0]]) (λk=>k=b) (λ_=>False):=by subst he;refine⟨(.aC,.aC),λk=>k=h.n,λ_=>False,λ_=>False,λ_=>False,⟨λ_=>mN,λ_ h=>h,q6 _,fU⟩,⟨λ_=>False,λ_=>False,λ_=>False,λ_=>False,Mt,Mt,λk=>by simp,λD=>by simp,λ_ h=>h.elim,λ_ h=>h.elim⟩,λk=>by simp,λD=>by simp,λ_ _ h=>h,λ_ h=>h.elim⟩
theorem awI(s:aQ am aL aF h L):∃E c,aM ak T 8 [] h=j (.inl (.ptr (c:pS).wt 0 0),E)/\aQ am aL aF E (sm c Ee++L):=by obtain⟨F,c,av,aY⟩:=avO s;have bf:=aY.add (X:=mz F.n c.ag [] [] 0 0 0) (E:=F.push [[.ptr c.ag 0 0,.aC,.aC,.int o 0,.int o 0,.int o 0]]) (eH:=λk=>k=F.n) (eI:=λ_=>False) (aK.push _ _) (awH rfl) (λk ab=>p3 ab.symm) (λ_ h=>h.elim);refine⟨_,⟨c,F.n⟩,?_,bf⟩;refine bd av4 rfl ?_;unfold agB;simp only[ap,aw,aA,ar,ct,av]
theorem awJ{k:Nat}(s:aQ am aL aF h (A++sm c W++B))(O:zD k W)(ab:k<=199)(y:iU){m:I}(du:fH fh m es)(eB:hy y.m es)(df:y.m.length<=100000)(az:∀x∈y.m,x.size<=100000):∃E r,aM ak T 50 [.ptr c.wt 0 0,.agg (c7 y m)] h=j (.inl (.bx [.agg r,.agg [.int o (W.step y).2.2.1,.int o (W.step y).2.2.2]]),E)/\oB (W.step y).2.1 r/\aQ am aL aF E (A++sm c (W.step y).1++B):=by obtain⟨E,⟨r,e,v⟩,eD⟩:=s.Hw (wo:=sm c (W.step y).1) λah ao x=>awC x O ab y du eB df az;exact⟨E,r,e,v,eD⟩
theorem ahm{D:Nat}{y:List (List I)}{z:Option (List (List I))}(aa:D<h.n):(h.push y).set D z=(h.set D z).push y:=by
 unfold ad.push ad.set;congr 1;funext k;by_cases F:k=D
 ·subst F;have J:k≠h.n:=by omega
  simp[J]
 ·simp[F]
end
def Tp:List bj:=[Gz,.cond (.v 10) [] [.exit 0],.block 1 [acH,.ops [eS,s',Mu,Em,ahn,jT]],GA]
def aho:List bj:=[.ops [A6,Mv],.ops [KC,bc,ahp,kD],ahq,.ops [DH,DF,acK,GB],.block 0 [.loop Tp],.ops [eS,ahr,nG],.ops [nJ,abS],.block 2 [.ops [.i .l (.bin (.int o) .eql (.v 11) (.c (.int o 1))),xH],.cond (.v 12) [uB,.ret] [.ops [.i .l (.bin (.int o) .eql (.v 11) (.c (.int o 2))),AV],.cond (.v 13) [.ops [mm,.i .l (.bin .str .add (.c (.str [40])) (.l 0)),.i .l (.bin .str .add (.l 0) (.c (.str [41]))),iw],.ret] [.ops [.i .l (.bin (.int o) .eql (.v 11) (.c (.int o 3))),FR],.cond (.v 14) [.ops [eY,.i .l (.bin .str .add (.c (.str [91])) (.l 0)),.i .l (.bin .str .add (.l 0) (.c (.str [32]))),mm,.i .l (.bin .str .add (.l 1) (.l 0)),.i .l (.bin .str .add (.l 0) (.c (.str [93]))),iw],.ret] [.ops [.i .l (.bin (.int o) .eql (.v 11) (.c (.int o 4))),AU],.cond (.v 15) [.ops [eY,ahs,iw],.ret] [.ops [.i .l (.bin (.int o) .eql (.v 11) (.c (.int o 5))),EQ],.cond (.v 16) [.ops [eY,.i .l (.bin .str .add (.c (.str [33])) (.l 0)),iw],.ret] []]]]]],.ops [.i (.v 2) (.a' (.c (.str [110,105,108])))],.ret]
theorem awK:cw ak T 32 1 17 [0,1,2,3,4,6,7,12,13,14,15,27,28,31,36,44,48] aho [(.v 2)] Q:=by refine⟨_,_,Tryz.func32,rfl,rfl,?_,?_,?_,?_,?_⟩<;>kernel_rfl
theorem qA{a b c:List UInt8}(e:a++b=c)(h:a.length+b.length<=1000000000000):dC .str .add (.str a) (.str b)=j (.str c):=by subst e;exact if_pos h
theorem Mw{n:Int}(aq:bL n)(h:ad):aM ak T 25 [.int o n,.int o 10] h=j (.inl (.str (ie n)),h):=by unfold aM;rw[anr];show CY _ _=_;unfold CY;exact if_pos ⟨rfl,aq.1,aq.2⟩
theorem awL{xs:List (List UInt8)}{B:Nat}(ai:xs.length<=2)(h:∀x∈xs,x.length<=B):(jv xs [32]).length<=2*B+1:=by
 match xs,ai,h with
 |[],_,_=>simp[jv]
 |[x],_,h=>rw[Lib.join_one];have:=h x (by simp);omega
 |[x,y],_,h=>rw[S1];have:=h x (by simp);have:=h y (by simp);simp only[dy,dw];omega
theorem aht:∀xs:List (List UInt8),AQ (xs.map λx=>[.str x])=j xs
 |[]=>rfl
 |x::xs=>by simp only[gP,AQ,aht xs,g3]
theorem Tq{e:aU}(he:(ak).cellsOf e=1){xs:List (List UInt8)}(ai:xs.length<=1000000)(az:(jv xs sep).length<=1000000000000)(h:ad):aM ak T 27 [.bN id e (xs.map λx=>[.str x]),.str sep] h=j (.inl (.str (jv xs sep)),h):=by unfold aM;rw[ZT];show CZ _ _=_;unfold CZ;simp only;rw[if_pos he,aht];simp only[da];rw[if_pos ⟨ai,az⟩]
theorem ahu(h:ad):aM ak T 27 [.aC,.str sep] h=j (.inl (.str []),h):=by unfold aM;rw[ZT];rfl
theorem awM{h:ad}{acc:I}{xs:List (List UInt8)}(aN:Acc am h 9 acc (xs.map λx=>[.str x]))(ai:xs.length<=2)(az:(jv xs [32]).length<=1000000000000):aM ak T 27 [acc,.str [32]] h=j (.inl (.str (jv xs [32])),h):=by
 rcases aN with⟨F,rfl⟩|⟨id,F,_,_,_,rfl⟩
 ·obtain rfl:xs=[]:=by simpa using F
  exact ahu h
 ·exact Tq (by kernel_rfl) (by omega) az h
theorem ahv:∀(N:Nat) (x:ay),mV x<=N->x.fault=0->x.wf->x.text.length<=30*x.size:=by
 intro N;induction N with
 |zero=>intro x an;have:=x.pZ;omega
 |succ N aW=>
   intro x an bn hw;have aq:(ie x.n).length<=21:=by
    have:bL x.n:=by cases x;exact hw.2.1
    exact Lib.itoa_length_le _ this.1 this.2
   have hm:∀y∈x.l,y.wf:=by
    cases x with
    |mk k n l=>
      intro y bq;have:=hw.2.2;clear hw bn an aq;induction l with
      |nil=>cases bq
      |cons z l Tr=>
        rcases gW.1 bq with rfl|bq
        ·exact this.1
        ·exact Tr bq this.2
   have hp:=x.size_pos;have e:=x.agl;have aR:=x.size_eq;rcases S2 bn with⟨k,_,_⟩|⟨k,_⟩|⟨k,gv,a,b,ai,aN,ag⟩|⟨k,a,ai,aN⟩|⟨k,_⟩|⟨k,_⟩
   ·rw[e];simp[k];omega
   ·rw[e];simp[k];omega
   ·rw[ai]at hm aR;have F:=aW a (by have:=ay.pj (x:=x) (y:=a) (by rw[ai];simp);omega) aN (hm a (by simp));have J:=aW b (by have:=ay.pj (x:=x) (y:=b) (by rw[ai];simp);omega) ag (hm b (by simp));simp only[iM]at aR;rw[e,ai];simp[k,S1];omega
   ·rw[ai]at hm aR;have F:=aW a (by have:=ay.pj (x:=x) (y:=a) (by rw[ai];simp);omega) aN (hm a (by simp));simp only[iM]at aR;rw[e,ai];simp[k,Lib.join_one];omega
   ·rw[e];simp[k];omega
   ·rw[e];simp[k];omega
theorem awN{x:ay}(h:x.fault=0):x.l.length<=2/\∀y∈x.l,y.fault=0:=by
 rcases S2 h with⟨_,_,e⟩|⟨_,e⟩|⟨_,_,a,b,e,aN,ag⟩|⟨_,a,e,aN⟩|⟨_,e⟩|⟨_,e⟩
 all_goals
  rw[e]
  simp_all
theorem awO{x:ay}(h:x.wf):bL x.n/\∀y∈x.l,y.wf:=by
 cases x with
 |mk k n l=>
   refine⟨h.2.1,?_⟩;have:=h.2.2;clear h;intro y bq;change y∈l at bq;induction l with
   |nil=>cases bq
   |cons z l Tr=>
     rcases gW.1 bq with rfl|bq
     ·exact this.1
     ·exact Tr this.2 bq
section
variable{h:ad}
theorem Ts:∀(N:Nat) (x:ay),mV x<=N->x.fault=0->x.wf->x.size<=10000->∀(r:List I) (h:ad),ck x r->aM ak T 32 [.agg r] h=j (.inl (.str x.text),h):=by
 intro N;induction N with
 |zero=>intro x an;have:=x.pZ;omega
 |succ N aW=>
   intro x an bn acN dY r h he;obtain⟨v,es,rfl,gp,U,aq,hG⟩:=he.facts;obtain⟨HQ,ahw⟩:=awO acN;obtain⟨py,ahx⟩:=awN bn;have re:=Mw HQ;refine jn awK rfl λb' cf=>?_;unfold aho;simp only[ap,aw,aA,ar,U,gp.len,gp.fits,re];refine td (λi V E=>∃v5 v10 acc,V=[.agg [.int o x.kind,.int o x.n,v],.ptr h.n 0 0,.str [],.str (ie x.n),acc,v5,.aD,v,.int o es.length,.int o (i:Nat),v10,.aD,.aD,.aD,.aD,.aD,.aD]/\aK h E/\h.n<E.n/\E.cell h.n=j [[.int o x.kind,.int o x.n,v]]/\Acc h E 9 acc (((x.l.take i).map ay.text).map λt=>[.str t])) x.l.length ⟨_,_,_,rfl,(by repeat (first|exact aK.refl _|refine aK.trans ?_ (aK.push _ _)|refine aK.trans ?_ (aK.fresh _ _))),by simp only[ek];omega,fU,vO _ _ _⟩ ?_ ?_
   ·rintro i V E ae ⟨v5,v10,acc,rfl,g,hm,a6,aN⟩ next
    have bt:(i:Int)<(es.length:Int):=by rw[aq];omega
    obtain⟨y,bq⟩:=Bc ae;obtain⟨q,eW,d1,bY⟩:=hG i y bq;obtain⟨dU,g8⟩:=bY.one;have hw:=gD (n:=(i:Int)+1) (by omega) (by omega);have av:=aW y (by have:=ay.pj (q9 bq);omega) (ahx y (q9 bq)) (ahw y (q9 bq)) (by have:=ay.tI (q9 bq);omega) q (E.push [q]) bY;obtain⟨o',J,ax,aP,a2,a3,a4⟩:=vP (show Acc h (E.push [q]) 9 acc _ from aN) (g.trans (aK.push _ _)) (row:=[.str y.text]) rfl (by simp;omega);simp only[qj]at ax;rw[dd Tp.eq_1];simp only[ap,aw,aA,ar,cz,bt,eW,d1,dU,g8,av,ax,hw];refine next _ _ ⟨_,_,_,rfl,a2,by rw[a4];show _<E.n+1;omega,by rw[a3];exact(eG hm).trans a6,?_⟩
    rw[A0 bq,rR,rR];exact aP
   ·rintro V E ⟨v5,v10,acc,rfl,g,hm,a6,aN⟩;have bt:¬((x.l.length:Int)<(es.length:Int)):=by rw[aq];omega
    rw[List.take_length]at aN;have fZ:=awL (xs:=x.l.map ay.text) (B:=300000) (by simpa using py) (λt aO=>by obtain⟨y,bq,rfl⟩:=lR.1 aO;have:=ahv _ y (bS _) (ahx y bq) (ahw y bq);have:=ay.tI bq;omega);have En:=awM aN (by simpa using py) (by omega);have eV:(ie x.n).length<=21:=Lib.itoa_length_le _ HQ.1 HQ.2;have kY:=x.agl;generalize jv (x.l.map ay.text) [32]=ao at*;generalize ie x.n=n at*;have bT:dC .str .add (.str [40]) (.str ao)=j (.str (40::ao)):=qA rfl (by simp;omega);have bM:dC .str .add (.str (40::ao)) (.str [41])=j (.str (40::(ao++[41]))):=qA rfl (by simp;omega);have du:dC .str .add (.str [91]) (.str n)=j (.str (91::n)):=qA rfl (by simp;omega);have eB:dC .str .add (.str (91::n)) (.str [32])=j (.str (91::(n++[32]))):=qA rfl (by simp;omega);have n':dC .str .add (.str (91::(n++[32]))) (.str ao)=j (.str (91::(n++32::ao))):=qA (by simp) (by simp;omega);have mH:dC .str .add (.str (91::(n++32::ao))) (.str [93])=j (.str (91::(n++(32::(ao++[93]))))):=qA (by simp) (by simp;omega);have awP:dC .str .add (.str [35]) (.str n)=j (.str (35::n)):=qA rfl (by simp;omega);have awQ:dC .str .add (.str [33]) (.str n)=j (.str (33::n)):=qA rfl (by simp;omega);rw[dd Tp.eq_1];simp only[ap,aw,aA,ar,cz,bt,En,a6];rcases S2 bn with⟨k,_,_⟩|⟨k,_⟩|⟨k,_⟩|⟨k,_⟩|⟨k,_⟩|⟨k,_⟩
    all_goals
     simp only[ap,k,eZ,bT,bM,du,eB,n',mH,awP,awQ];refine cf _ _ _ rfl g ?_;rw[kY];simp[k,dP,iY]
end
def ahy:List bj:=[.ops [xy,.i (.v 3) (.a' (.c .fC))],.ops [aX,.i .l (.call (.c (.fn 46 [] [])) [.l 0])],.ops [aX,aX,b7,hB,bc,dv,.i .l (.apps Q 5 (.l 1) (.l 0)),Dc,hB,ka],.ops [dv,zF,iw,.i (.v 3) (.a' (.c .fC))],.ret]
theorem awR:cw ak T 26 2 4 [0,1,4,5] ahy [(.v 2),(.v 3)] R:=by refine⟨_,_,Tryz.func26,rfl,rfl,?_,?_,?_,?_,?_⟩<;>kernel_rfl
abbrev HR:aU:=5
structure ya(h:ad)(cb b:Nat)(aG:Option Nat)(rest:List I)(l:List UInt8):Prop where
 ty:C1.contains cb=Q
 lt:b<h.n
 mem:∃a0 v,h.cell b=j [a0::v::rest]/\(a0= .fx\/a0= .cF cb b)/\
  ((aG=Z/\l=[]/\v= .aC)\/∃c1,aG=j c1/\v= .br c1 0 l.length HR/\h.cell c1=j (jL l)/\c1≠b/\c1<h.n/\l≠[])
structure awS(h:ad)(aG:Option Nat)(E:ad)(sn:Option Nat)(b:Nat):Prop where
 n:h.n<=E.n
 ids:h.ids<=E.ids
 cell:∀q,q<h.n->q≠b->aG≠j q->E.cell q=h.cell q
 buf:∀q,q<h.n->aG≠j q->sn≠j q
 hw:∀k,k<h.ids->E.hw k=h.hw k
theorem ya.awT{h:ad}{cb b:Nat}{aG:Option Nat}{rest:List I}{l:List UInt8}(B:ya h cb b aG rest l):∀q,aG=j q->q<h.n:=by
 intro q aE;obtain⟨_,_,_,_,c⟩:=B.mem;rcases c with⟨rfl,_⟩|⟨c1,rfl,_,_,_,bw,_⟩
 ·cases aE
 ·injection aE with aE;omega
theorem awU{n:Int}(aq: -9223372036854775808<=n/\n<=9223372036854775807)(h:ad):aM ak T 75 [.int o n] h=j (.inl (.str (ie n)),h):=by unfold aM;rw[ans];show C0 _ _=_;unfold C0;exact if_pos aq
theorem awV{h:ad}{cb b:Nat}{a0:I}{row:List I}(gf:C1.contains cb=Q)(al:h.cell b=j [a0::row])(aN:a0= .fx\/a0= .cF cb b):∃E,aM ak T 46 [.cF cb b] h=j (.inl (.bx []),E)/\E.cell b=j [.cF cb b::row]/\(∀q,q≠b->E.cell q=h.cell q)/\E.n=h.n/\E.ids=h.ids/\E.hw=h.hw:=by
 unfold aM;rw[ant];show ∃E,C2 _ _=_/\_;unfold C2;simp only[gf,if_true,al];rcases aN with rfl|rfl
 ·exact⟨_,rfl,i7,λq aE=>dL aE,rfl,rfl,rfl⟩
 ·exact⟨h,by simp,al,λ_ _=>rfl,rfl,rfl,rfl⟩
section
variable{h:ad}
theorem awW(l s:List UInt8):jL l++jL s=jL (l++s):=by simp[jL]
theorem awX{cb b:Nat}{aG:Option Nat}{rest:List I}{l s:List UInt8}(B:ya h cb b aG rest l)(ai:l.length<=1000000000000)(az:s.length<=1000000000000):∃E sn,aM ak T 26 [.cF cb b,.str s] h=j (.inl (.bx [.int o s.length,.fC]),E)/\ya E cb b sn rest (l++s)/\awS h aG E sn b:=by
 obtain⟨a0,v,a6,c2,c3⟩:=B.mem;obtain⟨F,av,c8,c6,fN,hu,j4⟩:=awV B.ty a6 c2;have key:∃v2 J sn,wT Q HR v (.str s) F=j (v2,J)/\J.cell b=j [.cF cb b::v::rest]/\v2.one=Q/\v2.cells=[v2]/\h.n<=J.n/\J.ids=h.ids/\J.hw=h.hw/\(∀q,q<h.n->q≠b->aG≠j q->J.cell q=h.cell q)/\(∀q,q<h.n->aG≠j q->sn≠j q)/\((sn=Z/\l++s=[]/\v2= .aC)\/∃c1,sn=j c1/\v2= .br c1 0 (l++s).length HR/\J.cell c1=j (jL (l++s))/\c1≠b/\c1<J.n/\l++s≠[]):=by
  have hE:b<F.n:=by rw[fN];exact B.lt
  by_cases aR:s.length=0
  ·have Hf:=mF.1 aR;subst Hf;rcases c3 with⟨rfl,rfl,rfl⟩|⟨c1,rfl,rfl,d3,d4,d5,d6⟩
   ·exact⟨.aC,F,Z,rfl,c8,rfl,rfl,by omega,hu,j4,λq _ aE _=>c6 q aE,λ_ _ h=>h,.inl ⟨rfl,rfl,rfl⟩⟩
   ·refine⟨_,F,j c1,?_,c8,rfl,rfl,by omega,hu,j4,λq _ aE _=>c6 q aE,λ_ _ h=>h,.inr ⟨c1,rfl,rfl,?_,d4,by omega,?_⟩⟩
    ·simp[wT,sB]
    ·rw[c6 c1 d4,me];exact d3
    ·simpa using d6
  ·have cP:∀b8:List UInt8,b8++s≠[]:=λb8 e=>aR (by have:=congrArg List.length e;simp at this;exact mF.2 this.2);rcases c3 with⟨rfl,rfl,rfl⟩|⟨c1,rfl,rfl,d3,d4,d5,d6⟩
   ·refine⟨.br F.n 0 s.length HR,F.push (jL s),j F.n,?_,?_,rfl,rfl,by simp only[ek];omega,hu,j4,λq aE ag _=>?_,λq aE _ e=>by injection e with e;omega,.inr ⟨F.n,rfl,by simp,fU,by omega,by simp only[ek];omega,cP []⟩⟩
    ·simp only[wT];rw[if_neg aR,if_pos az];rfl
    ·exact(eG hE).trans c8
    ·exact(eG (by omega)).trans (c6 q ag)
   ·refine⟨.br F.n 0 (l.length+s.length) HR,(F.set c1 Z).push (jL l++jL s),j F.n,?_,?_,rfl,rfl,by simp only[ek,iF];omega,hu,j4,λq aE ag aq=>?_,λq aE _ e=>by injection e with e;omega,.inr ⟨F.n,rfl,by simp,?_,by omega,by simp only[ek,iF];omega,cP l⟩⟩
    ·simp only[wT];rw[if_neg aR,if_pos az];have al:F.cell c1=j (jL l):=by rw[c6 c1 d4];exact d3
     have uu:l.length<=(jL l).length:=by simp
     simp only[ai,and_self,if_true,al,da,uu];rw[List.take_of_length_le (by simp)]
    ·rw[vN (by rw[iF];omega),dL (λe=>d4 e.symm)];exact c8
    ·rw[vN (by rw[iF];omega),dL (λe=>aq (by rw[e]))];exact c6 q ag
    ·rw[awW];exact fU (h:=F.set c1 Z)
 obtain⟨v2,J,sn,awY,dU,g8,ia,k1,oW,gK,gg,Ap,vI⟩:=key;have hE:b<J.n:=eF B.lt k1;have jM:aM ak T 26 [.cF cb b,.str s] h=j (.inl (.bx [.int o s.length,.fC]),J.set b (j [.cF cb b::v2::rest])):=by refine bd awR rfl ?_;unfold ahy;simp only[ap,aw,aA,ar,ct,av,c8,awY,dU,g8,ia]
 refine⟨_,sn,jM,⟨B.ty,hE,_,_,i7,.inr rfl,?_⟩,⟨k1,by rw[AG,oW];exact bS _,λq aE ag aq=>by rw[dL ag];exact gg q aE ag aq,Ap,λk ab=>by rw[AH,gK]⟩⟩;rcases vI with q|⟨c1,bT,bM,du,eB,n',mH⟩
 ·exact .inl q
 ·exact .inr ⟨c1,bT,bM,by rw[dL eB];exact du,eB,n',mH⟩
theorem awZ{cb b:Nat}{aG:Option Nat}{rest:List I}{l:List UInt8}(B:ya h cb b aG rest l):∃E,aM ak T 12 [.cF cb b] h=j (.inl (.str l),E)/\(∀q,aG≠j q->E.cell q=h.cell q)/\E.n=h.n/\E.ids=h.ids/\E.hw=h.hw:=by
 obtain⟨a0,v,a6,c2,c3⟩:=B.mem;unfold aM;rw[anu];show ∃E,C4 _ _=_/\_;unfold C4;simp only[a6];rcases c3 with⟨rfl,rfl,rfl⟩|⟨c1,rfl,rfl,d3,d4,d5,d6⟩
 ·exact⟨h,rfl,λ_ _=>rfl,rfl,rfl,rfl⟩
 ·refine⟨h.set c1 Z,?_,λq aE=>dL (λe=>aE (by rw[e])),rfl,rfl,rfl⟩;have aq:l.length≠0:=by simpa using d6
  have ag:(jL l).length=l.length:=by simp
  simp only[aq,ne_eq,not_false_eq_true,and_self,if_true,d3,da,ag,Z0,g3]
end
def ahz:List bj:=[Dr,.ops [.i .l (.call (.c (.fn 8 [] [])) []),.i .l (.build [.fx,.aC,.aC,.fx] [(0,2),(2,1),(3,1)] [(2,(.l 0))]),.i .l (.Jk 40 4 (.l 0)),AY],.ret]
theorem aw0:cw ak T 6 0 1 [0] ahz [(.v 0)] R:=by refine⟨_,_,Tryz.func6,rfl,rfl,?_,?_,?_,?_,?_⟩<;>kernel_rfl
def ahA:List bj:=[.ops [aX,b7,dB,dv,ahr,.i .l (.bin .str .add (.l 0) (.c (.str [10]))),.i .l (.call (.c (.fn 26 [] [])) [.l 3,.l 0])]]
theorem aw1:cw ak T 19 2 2 [0,1] ahA [] R:=by refine⟨_,_,Tryz.func19,rfl,rfl,?_,?_,?_,?_,?_⟩<;>kernel_rfl
def ahB:List bj:=[HS,.ops [aX,.i .l (.call (.c (.fn 75 [] [])) [.l 0]),lE],.ret]
theorem aw2:cw ak T 49 1 2 [0,2] ahB [(.v 1)] Q:=by refine⟨_,_,Tryz.func49,rfl,rfl,?_,?_,?_,?_,?_⟩<;>kernel_rfl
def HT:List bj:=[.ops [HG],.ops [aX,b7,wb,bc,L4,.i .l (.call (.c (.fn 50 [] [])) [.l 1,.l 0]),cU,iu,iv,L2,.bU [⟨Z,R,1,.l 6,(.l 5)⟩,⟨Z,Q,9,.v 2,(.l 4)⟩],Q',.bU [⟨Z,R,1,.l 6,(.l 5)⟩,⟨Z,Q,9,.v 2,(.l 4)⟩],.i .n (.store 5 (.v 3) (.l 1)),Ra],.block 0 [.ops [Kp,bc,q7,lF],.cond (.v 5) [.ops [aX,Kp,bc,xB,bc,ahC,.bU [⟨Z,R,1,.l 2,(.l 1)⟩],Tt,ahD,Tu]] [.ops [tk,bc,q7,nG],.cond (.v 6) [.ops [aX,tk,bc,.i .l (.call (.c (.fn 49 [] [])) [.l 0]),.i .l (.hv R 9 [.str []] 1 2 [(0,(.c (.str [110,111]))),(1,(.l 0))]),ahE]] [.ops [r4,bc,.i .l QO,mM],.cond (.v 7) [.ops [aX,Ba,nd,nf,bc,.i .l (.call (.c (.fn 32 [] [])) [.l 2]),.bU [⟨Z,R,1,.l 2,(.l 1)⟩],Tt,.i .l (.hv R 9 [.str []] 1 3 [(0,(.c (.str [121,101,115]))),(1,(.l 1)),(2,(.l 0))]),Tu]] [.ops [aX,Ba,nd,Mu,.i .l (.hv R 9 [.str []] 1 2 [(0,(.c (.str [121,101,115]))),(1,(.l 0))]),ahE]]]]]]
theorem Mx:cw ak T 30 2 8 [0,1,3,4,5,21,34,44] HT [] R:=by refine⟨_,_,Tryz.func30,rfl,rfl,?_,?_,?_,?_,?_⟩<;>kernel_rfl
def Tv:List bj:=[.ops [aX,b7,kC,bc,.i .l (.call (.c (.fn 27 [] [])) [.l 0,.c (.str [10])]),.i .l (.call (.c (.fn 48 [] [])) [.l 0]),cU,iu,iv,.i (.v 2) (.alloc [.aC]),KU,.i .n (.store 1 (.v 2) (.l 1)),xJ],.ops [tk,bc,.i (.v 4) xx],.cond (.v 4) [.ops [aX,tk,bc,nf,bc,ahC,.bU [⟨Z,R,1,.l 2,(.l 1)⟩],Tt,ahD,Tu],.ret] [],.ops [aX,dv,.i .l (.load Q 1 (.v 2)),.i .l (.build [.int o 0,.int o 0,.int o 0,.int o 0,.int o 0,.int o 0,.int o 0,.int o 0,.aC] [(0,1),(1,1),(2,1),(3,1),(4,1),(5,1),(6,1),(7,1),(8,1)] [(0,(.c (.int o 1))),(1,(.l 1)),(8,(.l 0))]),ahF]]
theorem ahG:cw ak T 29 2 5 [0,1,4,5,17] Tv [] R:=by refine⟨_,_,Tryz.func29,rfl,rfl,?_,?_,?_,?_,?_⟩<;>kernel_rfl
def My:List bj:=[.ops [.i (.v 5) (.bin (.int o) .lss (.v 4) (.v 3))],.cond (.v 5) [] [.exit 0],.block 1 [.ops [.i .l (.fa (j 118) Z (.v 2) (.v 4)),uJ,.i (.v 1) agS,.i .n (.store 4 (.v 1) (.l 0))],.ops [aX,nJ,bc,DH,bc,KC,bc,.i .l (.dG 3 (.v 1)),bc,.i .l (.call (.c (.fn 49 [] [])) [.l 6]),.bU [⟨Z,R,1,.l 6,(.l 5)⟩,⟨Z,R,1,.l 4,(.l 3)⟩,⟨Z,R,1,.l 2,(.l 1)⟩],.i .l (.call (.c (.fn 55 [] [])) [.l 5]),.bU [⟨Z,R,1,.l 5,(.l 4)⟩,⟨Z,R,1,.l 3,(.l 2)⟩],.i .l (.call (.c (.fn 49 [] [])) [.l 4]),.bU [⟨Z,R,1,.l 4,(.l 3)⟩],.i .l (.call (.c (.fn 49 [] [])) [.l 3]),ahs,.i .l (.hv R 9 [.str []] 1 4 [(0,(.l 4)),(1,(.l 3)),(2,(.l 2)),(3,(.l 0))]),.i .l (.call (.c (.fn 19 [] [])) [.l 14,.l 0])]],.ops [.i .l (.bin (.int o) .add (.v 4) (.c (.int o 1))),jT]]
def ahH:List bj:=[.ops [aX,b7,wb,bc,b7,dB,bc,b7,dB,bc,b7,hB,bc,.i (.v 2) (.call (.c (.fn 54 [] [])) [.l 0]),.i (.v 3) (.len R (j 118) (.v 2)),tb],.block 0 [.loop My],.ops [aX,.i .l (.hv R 9 [.str []] 1 1 [(0,(.c (.str [101,110,100])))]),Tw]]
theorem aw3:cw ak T 34 1 6 [0,3,17,18,19,20] ahH [] R:=by refine⟨_,_,Tryz.func34,rfl,rfl,?_,?_,?_,?_,?_⟩<;>kernel_rfl
def Mz:List bj:=[Gw,.cond (.v 6) [] [.exit 0],.block 1 [.ops [.i .l (.fa (j 2) Z (.v 3) (.v 5)),bc,iw],.ops [dv,g4,ahp,ahI,ahJ,lE]],Gx]
def ahK:List bj:=[.ops [.i (.v 1) (.a' (.c (.str [99,101,108,108,115])))],.ops [aX,b7,wb,bc,b7,dB,bc,b7,dB,bc,b7,hB,bc,.i (.v 3) (.call (.c (.fn 56 [] [])) [.l 0]),.i (.v 4) (.len R (j 2) (.v 3)),xA],.block 0 [.loop Mz],.ops [aX,dv,Em,MA]]
theorem aw4:cw ak T 35 1 7 [0,2,4,18,19,20,21] ahK [] R:=by refine⟨_,_,Tryz.func35,rfl,rfl,?_,?_,?_,?_,?_⟩<;>kernel_rfl
def so:List bj:=[.ops [Dg,xy],.ops [.i (.v 3) (.a' (.v 0))],.block 0 [.ops [.i .l (.bin .str .eql (.v 3) (.c (.str [108,111,97,100]))),jT],.cond (.v 4) [] [.ops [.i .l (.bin .str .eql (.v 3) (.c (.str [99,117,116]))),jT],.cond (.v 4) [] [.ops [.i .l (.bin .str .eql (.v 3) (.c (.str [104,97,110,100]))),jT],.cond (.v 4) [] [.ops [.i .l (.bin .str .eql (.v 3) (.c (.str [107,101,112,116]))),jT]]]],.cond (.v 4) [.ops [GH,acs],.ret] [.ops [.i .l (.bin .str .eql (.v 3) (.c (.str [103,97,116,101]))),lF],.cond (.v 5) [] [.ops [.i .l (.bin .str .eql (.v 3) (.c (.str [108,111,103]))),lF],.cond (.v 5) [] [.ops [.i .l (.bin .str .eql (.v 3) (.c (.str [99,101,108,108,115]))),lF]]],.cond (.v 5) [.ops [GH,xy],.ret] [.ops [.i .l (.bin .str .eql (.v 3) (.c (.str [103,114,97,110,116]))),nG],.cond (.v 6) [.ops [.i (.v 1) (.a' (.c (.int o 2))),.i (.v 2) (.a' (.c (.int o 4)))],.ret] [.ops [.i .l (.bin .str .eql (.v 3) (.c (.str [108,105,110,107]))),mM],.cond (.v 7) [.ops [.i (.v 1) (.a' (.c (.int o 3))),acq],.ret] [.ops [.i .l (.bin .str .eql (.v 3) (.c (.str [99,97,108,108]))),qn],.cond (.v 8) [] [.ops [.i .l (.bin .str .eql (.v 3) (.c (.str [118,97,108,117,101]))),qn]],.cond (.v 8) [.ops [GH,ack],.ret] []]]]]],.ops [GH,GL],.ret]
theorem tC:cw ak T 17 1 9 [0,2,3,4,5,10,14,16,18] so [(.v 1),(.v 2)] Q:=by refine⟨_,_,Tryz.func17,rfl,rfl,?_,?_,?_,?_,?_⟩<;>kernel_rfl
def yb:List bj:=[.ops [.i (.v 14) (.bin (.int o) .lss (.v 13) (.v 12))],.cond (.v 14) [] [.exit 0],.block 1 [.ops [.i .l (.a' (.v 13)),.i .l (.fa (j 9) Z (.v 11) (.v 13)),bc,.i (.v 5) Dq,nG],.ops [jm,dv,.i (.v 15) agM],.cond (.v 15) [.ops [mm,.i .l (.call (.c (.fn 23 [] [])) [.l 0]),cU,iu,iv,.i (.v 7) tj,qn],.ops [FX,.i (.v 16) v8],.cond (.v 16) [Tx,.ret] [],.ops [eS,uz,ahL,ahM,jT],.exit 1] [],.ops [mm,ahN,cU,iu,iv,.i (.v 9) tj,yZ],.ops [Db,ahO,cU,.g (.l 0) R .l (.a' (.v 9)),ahP,.g (.l 2) R .l (.a' (.v 6)),ahQ,.i (.v 17) Bf],.cond (.v 17) [Tx,.ret] [],.ops [eS,A9,ahL,ahM,jT]],.ops [.i .l (.bin (.int o) .add (.v 13) (.c (.int o 1))),AV]]
def ahR:List bj:=[Tx,ahq,.ops [.i (.v 11) (.a' (.v 0)),.i (.v 12) (.len R (j 9) (.v 11)),.i (.v 13) AX],.block 0 [.loop yb],.ops [eS,iw,aaI],.ret]
theorem aw5:cw ak T 18 2 18 [0,1,4,5,6,7,8,9,10,11,12,13,14,15,16,22,29,46] ahR [(.v 2),(.v 3)] Q:=by refine⟨_,_,Tryz.func18,rfl,rfl,?_,?_,?_,?_,?_⟩<;>kernel_rfl
def ahS:List bj:=[rY,.ops [JZ,aX,.i .l (.fa (j 2) Z (.l 1) (.l 0)),bc,iw],.ret]
theorem aw6:cw ak T 28 2 3 [0,1,3] ahS [(.v 2)] Q:=by refine⟨_,_,Tryz.func28,rfl,rfl,?_,?_,?_,?_,?_⟩<;>kernel_rfl
def MB:List bj:=[.ops [.i (.v 19) (.bin (.int o) .lss (.v 18) (.v 17))],.cond (.v 19) [] [.exit 1],.block 2 [.ops [.i .l (.fa (j 90) Z (.v 16) (.v 18)),nd,Qp,abT],.ops [jm,Qq,Mu,ahI,ahJ,lF]],.ops [.i .l (.bin (.int o) .add (.v 18) (.c (.int o 1))),Qs]]
def tD:List bj:=[.ops [.i (.v 3) (.box 1 (.v 2))],.ops [.i .l (.CN 28 [] [.v 3]),jT],.ops [.i (.v 7) xw],.block 0 [.ops [.i .l (.bin .str .eql (.v 7) (.c (.str [108,111,97,100]))),qn],.cond (.v 8) [.ops [aX,eS,BQ,.i .l (.call (.c (.fn 29 [] [])) [.l 2,.l 0])]] [.ops [.i .l (.bin .str .eql (.v 7) (.c (.str [99,117,116]))),y6],.cond (.v 9) [.ops [aX,eS,BQ,.i .l (.build [.int o 0,.int o 0,.int o 0,.int o 0,.int o 0,.int o 0,.int o 0,.int o 0,.aC] [(0,1),(1,1),(2,1),(3,1),(4,1),(5,1),(6,1),(7,1),(8,1)] [(0,(.c (.int o 5))),(6,(.l 0))]),ahF]] [.ops [.i .l (.bin .str .eql (.v 7) (.c (.str [103,97,116,101]))),yZ],.cond (.v 10) [.ops [aX,.i .l (.build [.int o 0,.int o 0,.int o 0,.int o 0,.int o 0,.int o 0,.int o 0,.int o 0,.aC] [(0,1),(1,1),(2,1),(3,1),(4,1),(5,1),(6,1),(7,1),(8,1)] [(0,(.c (.int o 6)))]),.i .l (.call (.c (.fn 30 [] [])) [.l 1,.l 0])]] [.ops [.i .l (.bin .str .eql (.v 7) (.c (.str [103,114,97,110,116]))),Gl],.cond (.v 11) [.ops [aX,eS,BQ,eS,Ty,eS,Tz,eS,ahT,.i .l (.build [.int o 0,.int o 0,.int o 0,.int o 0,.int o 0,.int o 0,.int o 0,.int o 0,.aC] [(0,1),(1,1),(2,1),(3,1),(4,1),(5,1),(6,1),(7,1),(8,1)] [(0,(.c (.int o 2))),(1,(.l 6)),(3,(.l 4)),(5,(.l 2)),(6,(.l 0))]),.i .l (.call (.c (.fn 30 [] [])) [.l 9,.l 0])]] [.ops [.i .l (.bin .str .eql (.v 7) (.c (.str [108,105,110,107]))),xH],.cond (.v 12) [.ops [aX,eS,BQ,eS,Ty,eS,Tz,eS,ahT,eS,.i .l (.call (.l 0) [.c (.int o 4)]),.i .l (.build [.int o 0,.int o 0,.int o 0,.int o 0,.int o 0,.int o 0,.int o 0,.int o 0,.aC] [(0,1),(1,1),(2,1),(3,1),(4,1),(5,1),(6,1),(7,1),(8,1)] [(0,(.c (.int o 3))),(1,(.l 8)),(2,(.l 6)),(3,(.l 4)),(5,(.l 2)),(6,(.l 0))]),.i .l (.call (.c (.fn 30 [] [])) [.l 11,.l 0])]] [.ops [.i .l (.bin .str .eql (.v 7) (.c (.str [99,97,108,108]))),AV],.cond (.v 13) [.ops [aX,eS,BQ,eS,Ty,eS,Tz,.i .l (.kx Q (.l 0) (.c (.int o 0))),.i .l (.build [.int o 0,.int o 0,.int o 0,.int o 0,.int o 0,.int o 0,.int o 0,.int o 0,.aC] [(0,1),(1,1),(2,1),(3,1),(4,1),(5,1),(6,1),(7,1),(8,1)] [(0,(.c (.int o 4))),(1,(.l 5)),(3,(.l 3)),(4,(.l 0))]),ahU]] [.ops [.i .l (.bin .str .eql (.v 7) (.c (.str [118,97,108,117,101]))),FR],.cond (.v 14) [.ops [aX,eS,eS,.i .l Rd,.i .l (.fa (j 2) Z (.l 0) (.c (.int o 2))),bc,.i .l (.call (.l 4) [.c (.int o 0)]),.bU [⟨Z,R,1,.v 3,(.l 3)⟩,⟨Z,R,1,.l 2,(.l 1)⟩],.i .l (.call (.l 4) [.c (.int o 1)]),.bU [⟨Z,R,1,.v 3,(.l 4)⟩,⟨Z,R,1,.l 3,(.l 2)⟩],.i .l (.build [.int o 0,.int o 0,.int o 0,.int o 0,.int o 0,.int o 0,.int o 0,.int o 0,.aC] [(0,1),(1,1),(2,1),(3,1),(4,1),(5,1),(6,1),(7,1),(8,1)] [(0,(.c (.int o 4))),(1,(.l 1)),(3,(.l 0)),(4,(.c (.int o (-1)))),(7,(.l 2))]),ahU]] [.ops [.i .l (.bin .str .eql (.v 7) (.c (.str [104,97,110,100]))),AU],.cond (.v 15) [.ops [.i (.v 5) (.a' (.c (.str [104,97,110,100])))],.ops [aX,b7,wb,bc,b7,dB,bc,eS,.i (.v 18) AX,BQ,.bU [⟨Z,R,1,.l 6,(.l 5)⟩,⟨Z,R,1,.l 3,(.l 2)⟩],.i (.v 16) (.call (.c (.fn 31 [] [])) [.l 2,.l 0]),.i (.v 17) (.len R (j 90) (.v 16))],.block 1 [.loop MB],.ops [aX,jm,Em,MA]] [.ops [.i .l (.bin .str .eql (.v 7) (.c (.str [107,101,112,116]))),Qu],.cond (.v 20) [.ops [aX,aX,b7,wb,bc,b7,dB,bc,eS,BQ,.bU [⟨Z,R,1,.l 6,(.l 5)⟩,⟨Z,R,1,.l 3,(.l 2)⟩],.i .l (.call (.c (.fn 33 [] [])) [.l 2,.l 0]),Mu,.i .l (.hv R 9 [.str []] 1 2 [(0,(.c (.str [107,101,112,116]))),(1,(.l 0))]),.i .l (.call (.c (.fn 19 [] [])) [.l 12,.l 0])]] [.ops [.i .l (.bin .str .eql (.v 7) (.c (.str [108,111,103]))),.i (.v 21) A8],.cond (.v 21) [.ops [aX,.i .l (.call (.c (.fn 34 [] [])) [.l 0])]] [.ops [.i .l (.bin .str .eql (.v 7) (.c (.str [99,101,108,108,115]))),.i (.v 22) A8],.cond (.v 22) [.ops [aX,.i .l (.call (.c (.fn 35 [] [])) [.l 0])]] []]]]]]]]]]]]]
theorem vf:cw ak T 20 3 23 [0,1,2,5,6,7,9,11,12,18,25,30,43,58,70,82,93,94,95,96,109,125,129] tD [] R:=by refine⟨_,_,Tryz.func20,rfl,rfl,?_,?_,?_,?_,?_⟩<;>kernel_rfl
def oF:List bj:=[.ops [dv,zF,TA,cU,Dh,.g (.l 1) Q .l (.bR Q Z (.l 0) (.c (.int o 0))),.g (.l 2) Q .l (.bin (.int .u8) .eql (.l 0) (.c (.int .u8 124))),.i (.v 7) QL],.cond (.v 7) [.ops [aX,aX,b7,kC,bc,dv,.i .l (.qh Q Z (.l 0) (j (.c (.int o 1))) Z),Em,.bU [⟨Z,R,1,.l 4,(.l 3)⟩],ahn,.i .l (.lv (.l 8)),kC,ka],.ret] [],.ops [dv,.i .l (.call (.c (.fn 15 [] [])) [.l 0,.c (.fn 16 [] [])]),iw],.block 0 [.ops [g4,Eo,y9,qn],.cond (.v 8) [.ret] [.ops [g4,Eo,.i .l adf,cU,Rf,.g (.l 1) Q .l (.fa (j 9) Z (.l 0) (.c (.int o 0))),FU,.g (.l 3) Q .l (.bin .str .eql (.l 0) (.c (.str [110,101,119]))),agN,y6],.cond (.v 9) [.ops [aX,b7,kC,ahV],.ret] []]],.ops [g4,ahW,bc,.i .l (.call (.c (.fn 17 [] [])) [.l 0]),cU,iu,iv,Gg,jT],.ops [g4,.i .l (.qh R (j 9) (.l 0) (j (.c (.int o 1))) Z),eY,.i .l (.call (.c (.fn 18 [] [])) [.l 1,.l 0]),cU,iu,iv,Dp,nG],.ops [mm,s9,cU,.g (.l 0) R .l (.a' (.v 5)),.g (.l 1) R .l (.len R (j 2) (.l 0)),.g (.l 2) R .l Gc,.g (.l 3) R .l (.bin (.int o) .neq (.l 1) (.l 0)),.i (.v 10) Bf],.cond (.v 10) [.ops [aX,.i .l (.hv R 9 [.str []] 1 1 [(0,(.c (.str [119,104,97,116])))]),Tw],.ret] [],.ops [aX,g4,ahW,bc,jm,.i .l (.call (.c (.fn 20 [] [])) [.l 4,.l 1,.l 0])]]
theorem pf:cw ak T 11 2 11 [0,1,4,5,6,7,8,16,30,34,68] oF [] R:=by refine⟨_,_,Tryz.func11,rfl,rfl,?_,?_,?_,?_,?_⟩<;>kernel_rfl
def Ep:List bj:=[.ops [.i (.v 16) (.bin (.int o) .lss (.v 15) (.v 14))],.cond (.v 16) [] [.exit 2],.block 3 [.ops [.i .l (.fa (j 9) Z (.v 13) (.v 15)),bc,nG],.ops [aX,mm,.i .l (.call (.c (.fn 11 [] [])) [.l 1,.l 0])]],.ops [.i .l (.bin (.int o) .add (.v 15) (.c (.int o 1))),AU]]
def BR:List bj:=[KJ,.cond (.v 11) [] [.exit 0],.block 1 [.ops [Db,.i .l (.fa (j 9) Z (.v 8) (.v 10)),bc,.i (.v 4) Dq,lF],.ops [jm,.i (.v 12) (.call (.c (.fn 9 [] [])) [.l 0,.c (.str [10])])],.cond (.v 12) [.ops [eS,.i .l (.build [.int o 0,.int o 0] [(0,1),(1,1)] [(0,(.c (.int o 13))),(1,(.l 0))]),Mv,xJ],.ret] []],KK]
def TB:List bj:=[.ops [Mv,KU],.ops [dv,Eo,.i (.v 7) ahX],.cond (.v 7) [.ops [adj,Mv,xJ],.ret] [],.ops [.i (.v 8) xw,.i (.v 9) (.len R (j 9) (.v 8)),KM],.block 0 [.loop BR],.ops [aX,b7,dB,.i .l (.call (.c (.fn 10 [] [])) [.l 0])],.ops [.i (.v 13) xw,.i (.v 14) (.len R (j 9) (.v 13)),.i (.v 15) AX],.block 2 [.loop Ep],.ops [aX,b7,dB,.i .l (.call (.c (.fn 12 [] [])) [.l 0]),xK,.i (.v 2) tj,xJ],.ret]
theorem ahY:cw ak T 7 2 17 [0,1,4,5,6,7,9,12,14,15,16,17,22,30,31,32,33] TB [(.v 2),(.cell Q 2 3)] R:=by refine⟨_,_,Tryz.func7,rfl,rfl,?_,?_,?_,?_,?_⟩<;>kernel_rfl
def ahZ:List bj:=[.ops [.i (.v 0) (.a' (.c (.bool R)))],.ops [MC,.i .l (.hv R 9 [.str []] 1 8 [(0,(.c (.str [124,102,117,110,32,40,114,101,97,100,32,40,97,114,103,41,41]))),(1,(.c (.str [108,111,97,100,32,49]))),(2,(.c (.str [103,114,97,110,116,32,49,32,51,32,114,32,45,49]))),(3,(.c (.str [99,97,108,108,32,49,32,48,32,48]))),(4,(.c (.str [118,97,108,117,101,32,49,32,48,32,53]))),(5,(.c (.str [108,111,103]))),(6,(.c (.str [104,97,110,100,32,49]))),(7,(.c (.str [120])))]),TC,cU,iu,iv,K1,.i (.v 1) tj,tl],.ops [r4,bc,y9,cU,Dh,.g (.l 1) Q .l (.bin .str .eql (.l 0) (.c (.str [121,101,115,32,110,105,108,10,121,101,115,32,35,48,10,121,101,115,32,48,32,50,10,110,111,32,50,10,49,32,114,32,51,32,35,48,10,101,110,100,10,104,97,110,100,32,35,48,10,119,104,97,116,10]))),y1,AY],.ret]
theorem aw7:cw ak T 4 0 3 [0,1,2] ahZ [(.v 0)] Q:=by refine⟨_,_,Tryz.func4,rfl,rfl,?_,?_,?_,?_,?_⟩<;>kernel_rfl
def f8:List bj:=[.ops [eY,aX,Eo,.i (.v 4) Mi],.cond (.v 4) [] [.exit 0],.block 1 [.ops [g4,aX,eY,.i .l (.fa (j 9) Z (.l 1) (.l 0)),bc,zF,.i .l (.bin (.int o) .add (.l 5) (.l 0)),iw],.ops [g4,.i (.v 5) (.bin (.int o) .gtr (.l 0) (.c (.int o 12000)))],.cond (.v 5) [.ops [.i (.v 1) (.a' (.c (.bool Q)))],.ret] []],.ops [eY,wc,kD]]
def TD:List bj:=[xC,rY,y0,.block 0 [.loop f8],xC,.ret]
theorem ah0:cw ak T 5 1 6 [0,2,3,4,8,19] TD [(.v 1)] Q:=by refine⟨_,_,Tryz.func5,rfl,rfl,?_,?_,?_,?_,?_⟩<;>kernel_rfl
def Er:List bj:=[uA,.ops [.i .l (.call (.c (.fn 4 [] [])) []),.i (.v 13) v8],.cond (.v 13) [uA,.ret] [],.ops [aX,Eo,.i .l ahX,cU,za,.g (.l 1) R .l (.call (.c (.fn 5 [] [])) [.l 0]),.i (.v 14) aav],.cond (.v 14) [.ops [abV],.ret] [],.ops [dv,ah1,aX,Eo,wc,ah1,.i .l (.bin (.int .u64) .rem (.l 4) (.l 0)),.i .l (.conv (.int o) (.l 0)),kD],.ops [MC,MC,Dn,lF],.ops [eS,aX,eY,.i .l (.qh R (j 9) (.l 1) Z (j (.l 0))),ah2,cU,iu,iv,.i (.v 7) HE,De,.i .n (.store 2 (.v 7) (.l 0))],.ops [jm,aX,TC,cU,iu,iv,.i (.v 9) HE,.i (.v 8) tj,.i .n (.store 2 (.v 9) (.l 0))],.ops [eS,aX,eY,.i .l (.qh R (j 9) (.l 1) (j (.l 0)) Z),ah2,cU,iu,iv,.i (.v 11) HE,.i (.v 10) tj,.i .n (.store 2 (.v 11) (.l 0))],.ops [.i .l (.dG 0 (.v 9)),bc,.i (.v 15) xx],.cond (.v 15) [.ops [Ql,bc,q7,cU,.g (.l 0) R .l (.dG 0 (.v 11)),pJ,.g (.l 2) R .l xx,Gv,iw],.ret] [],.ops [MC,aX,TC,cU,iu,iv,.i .l HE,.i (.v 12) Dq,.i .n (.store 2 (.l 0) (.l 1))],.ops [Ql,bc,y9,cU,.g (.l 0) Q .l (.dG 0 (.v 11)),y',.g (.l 2) Q .l J7,DI,cU,.g (.l 0) Q .l (.a' (.v 6)),.g (.l 1) Q .l (.a' (.v 10)),.g (.l 2) Q .l (.bin .str .add (.l 1) (.l 0)),.g (.l 3) Q .l (.a' (.v 8)),.g (.l 4) Q .l TE,PH,cU,.g (.l 0) Q .l (.a' (.v 12)),.g (.l 1) Q .l (.a' (.v 8)),.g (.l 2) Q .l TE,DI,iw],.ret]
theorem HU:cw ak T 3 2 16 [0,1,4,5,6,7,8,9,10,11,12,13,14,17,24,59] Er [(.v 2)] Q:=by refine⟨_,_,Tryz.func3,rfl,rfl,?_,?_,?_,?_,?_⟩<;>kernel_rfl
open Go Go.RowKit
def HV:ef->ef
 |.block _ b=>b
 |c=>c
def aw8:ef->ef
 |.loop b=>b
 |c=>c
section
variable{P:cu}{T:gZ}{f:cH}{n aI:Nat}{aT:List Nat}{h:ad}{V:List I}{K:List Item}{hc:List Deferred}{fc:h4->List I->ad->Prop}
def qB(P:cu)(T:gZ)(f:cH)(n:Nat)(aT:List Nat)(m:dq)(h:ad)(w:cd)(b:eO)(cs:List eO)(fc:h4->List I->ad->Prop)(pz:Machine):Prop:=∃x cM cv E,gb n aT [] cM cv []/\fc x cv E/\eA P (T.eu f) m h w b cs pz (x,cM,E)
theorem qB.steps{m:dq}{w:cd}{b:eO}{cs:List eO}{pz E4:Machine}(s:Steps P pz E4)(O:qB P T f n aT m h w b cs fc E4):qB P T f n aT m h w b cs fc pz:=by obtain⟨x,cM,cv,E,F,J,af⟩:=O;exact⟨x,cM,cv,E,F,J,af.steps s⟩
theorem qB.after{m m1:dq}{F:ad}{w cg:cd}{b:eO}{cs:List eO}{pz:Machine}(x:Ext m h m1 F)(mu:Below m.base w cg)(O:qB P T f n aT m1 F cg b cs fc pz):qB P T f n aT m h w b cs fc pz:=by obtain⟨hV,cM,cv,E,bT,bM,du⟩:=O;exact⟨hV,cM,cv,E,bT,bM,du.after x mu⟩
def er(P:cu)(T:gZ)(f:cH)(n:Nat)(aT:List Nat)(hc:List Deferred)(fc:h4->List I->ad->Prop)(K:List Item)(V:List I)(h:ad):Prop:=∀(m:dq) (w:cd) (a:Act) (t:List I) (b:eO) (cs:List eO),bW P m h w->dF P m h t a.tmps->gb n aT [] t V []->a.defers=b.defers->b.defers=hc->qB P T f n aT m h w b cs fc (ew (b.at a K) cs w)
theorem er.step{oY:List Item}(s:∀(b:eO) (a:Act) (cs:List eO) (w:cd),Steps P (ew (b.at a K) cs w) (ew (b.at a oY) cs w))(F:er P T f n aT hc fc oY V h):er P T f n aT hc fc K V h:=
 λm w a t b cs hw aO b6 a1 yc=>qB.steps (s b a cs w) (F m w a t b cs hw aO b6 a1 yc)
theorem er.seq{A B:ef}(F:er P T f n aT hc fc (.code A::.code B::K) V h):er P T f n aT hc fc (.code (.seq A B)::K) V h:=F.step λ_ _ _ _=>.one step_seq
theorem er.block{id:Nat}{A:ef}(F:er P T f n aT hc fc (.code A::.inBlock id::K) V h):er P T f n aT hc fc (.code (.block id A)::K) V h:=F.step λ_ _ _ _=>.one step_block
theorem er.inBlock{id:Nat}(F:er P T f n aT hc fc K V h):er P T f n aT hc fc (.inBlock id::K) V h:=F.step λ_ _ _ _=>.one step_inBlock
theorem er.loop{A:ef}(F:er P T f n aT hc fc (.code A::.inLoop A::K) V h):er P T f n aT hc fc (.code (.loop A)::K) V h:=F.step λ_ _ _ _=>.one step_loop
theorem er.inLoop{A:ef}(F:er P T f n aT hc fc (.code A::.inLoop A::K) V h):er P T f n aT hc fc (.inLoop A::K) V h:=F.step λ_ _ _ _=>.one step_inLoop
theorem er.skip(F:er P T f n aT hc fc K V h):er P T f n aT hc fc (.code .skip::K) V h:=F.step λ_ _ _ _=>.one step_skip
theorem er.exit{id:Nat}{oY:List Item}(he:exitTo id K=j oY)(F:er P T f n aT hc fc oY V h):er P T f n aT hc fc (.code (.exit id)::K) V h:=F.step λ_ _ _ _=>.one (step_exit he)
theorem er.cond{s D:Nat}{x y:ef}{c:Bool}(az:aT[D]? =j s)(U:V.getD D .aD= .bool c)(F:er P T f n aT hc fc (.code (if c then x else y)::K) V h):er P T f n aT hc fc (.code (.cond (.tmp s) x y)::K) V h:=by intro m w a t b cs hw aO b6 a1 yc;refine qB.steps (.one (step_cond (t:=c) ?_)) (F m w a t b cs hw aO b6 a1 yc);obtain⟨bT,bM⟩:=b6.v D s az;have v1:=Pg aO (i:=s) (by rw[b6.len];exact bT);rw[bM,U]at v1;show a.tmps.getD s fy=_;generalize a.tmps.getD s fy=u at v1;cases v1;rfl
def TF(P:cu)(T:gZ)(f:cH)(n:Nat)(aT:List Nat)(hc:List Deferred)(fc:h4->List I->ad->Prop):h4->List I->ad->Prop
 |.halt oY,cv,E=>er P T f n aT hc fc oY cv E
 |x,cv,E=>fc x cv E
theorem er.piece(cC:ky P T){c:ef}{l:List bj}{x:h4}{cv:List I}{E:ad}(nE:aT.Nodup/\∀D s,aT[D]? =j s->(D<aI↔s<T.aI f))(hR:ga P (T.ba f) (T.ch f) n aT c []=j l)(uv:ht (T.ch f) (T.eu f) c=Q)(aj:bu (aM P T) aI [.bQ l,.halt K] V [] h=j (x,cv,E))(an:TF P T f n aT hc fc x cv E):er P T f n aT hc fc (.code c::K) V h:=by
 intro m w a t b cs hw aO b6 a1 yc;obtain⟨cM,hp,o3⟩:=Go.Proofs.YtaodiaofbeblbaaGreatDoor.wn cC nE hR uv aj b6;have O:=hp m w a b cs hw aO a1;cases x with
 |halt oY=>obtain⟨m1,cg,bY,db,e3,aP,f',fP,ih⟩:=O;exact qB.steps ih (qB.after bY e3 (an m1 cg aP cM b cs db f' o3 fP yc))
 |ret=>exact⟨_,cM,cv,E,o3,an,O⟩
 |panic v=>exact⟨_,cM,cv,E,o3,an,O⟩
theorem er.MD(cC:ky P T){c:ef}{l:List bj}(nE:aT.Nodup/\∀D s,aT[D]? =j s->(D<aI↔s<T.aI f))(hR:ga P (T.ba f) (T.ch f) n aT c []=j l)(uv:ht (T.ch f) (T.eu f) c=Q)(aE:∀b':k3->Prop,(∀cv E,er P T f n aT hc fc K cv E->b' (j (.halt K,cv,E)))->(∀cv E,fc .ret cv E->b' (j (.ret,cv,E)))->(∀v cv E,fc (.panic v) cv E->b' (j (.panic v,cv,E)))->b' (bu (aM P T) aI [.bQ l,.halt K] V [] h)):er P T f n aT hc fc (.code c::K) V h:=by have:=aE (λr=>∃x cv E,r=j (x,cv,E)/\TF P T f n aT hc fc x cv E) (λcv E q=>⟨_,cv,E,rfl,q⟩) (λcv E q=>⟨_,cv,E,rfl,q⟩) (λv cv E q=>⟨_,cv,E,rfl,q⟩);obtain⟨x,cv,E,e,q⟩:=this;exact er.piece cC nE hR uv e q
theorem er.draw(cC:ky P T){all:Array bb}{id:Nat}(vH:((iO all.size).all λD=>(all.getD D default).after.all λe=> !kv .any e||decide (e.on<D))=Q)(F:∀L,ji all (λ_ _=>False) (mf all) L->er P T f n aT hc fc (.inRegion all L::K) V h):er P T f n aT hc fc (.code (.region id all Q)::K) V h:=by intro m w a t b cs hw aO b6 a1 yc;obtain⟨L,aJ,bT,bM,du,eB⟩:=aca (P:=P) (all:=all) (id:=id) (b:=b) (a:=a) (K:=K) (cs:=cs) (w:=w) cC (λD aa e he ag=>by rw[iC]at vH;have:=vH D (j8.2 aa);rw[Array.all_eq_true']at this;have:=this e he;simpa[ag]using this);exact qB.steps bM (qB.after (Ext.refl _ _) (eB _) (F L bT m aJ a t b cs (du _ _ hw) aO b6 a1 yc))
theorem er.zG(cC:ky P T){all:Array bb}{pl:List (Nat×List Nat)}{dp:Nat->Nat->Prop}{bI:List aH}{L:List Nat}(df:ji all dp (mf all) L)(pp:sT all pl (λ_=>R) dp)(lU:ys (T.eu f) all=Q)(nE:aT.Nodup/\∀D s,aT[D]? =j s->(D<aI↔s<T.aI f))(hR:mg P (T.ba f) n aT all [] (iq Q all pl)=j bI)(aE:∀b':k3->Prop,(∀cv E,er P T f n aT hc fc K cv E->b' (j (.halt K,cv,E)))->(∀cv E,fc .ret cv E->b' (j (.ret,cv,E)))->(∀v cv E,fc (.panic v) cv E->b' (j (.panic v,cv,E)))->b' (bu (aM P T) aI [.ops bI,.halt K] V [] h)):er P T f n aT hc fc (.inRegion all L::K) V h:=by
 have:=aE (λr=>∃x cv E,r=j (x,cv,E)/\TF P T f n aT hc fc x cv E) (λcv E q=>⟨_,cv,E,rfl,q⟩) (λcv E q=>⟨_,cv,E,rfl,q⟩) (λv cv E q=>⟨_,cv,E,rfl,q⟩);obtain⟨x,cv,E,e,an⟩:=this;intro m w a t b cs hw aO b6 a1 yc;obtain⟨cM,hp,o3⟩:=ab' cC pp lU nE hR e b6;have O:=hp m w a b cs L df hw aO a1;cases x with
 |halt oY=>obtain⟨m1,cg,bY,db,e3,aP,f',fP,ih⟩:=O;exact qB.steps ih (qB.after bY e3 (an m1 cg aP cM b cs db f' o3 fP yc))
 |ret=>exact⟨_,cM,cv,E,o3,an,O⟩
 |panic v=>exact⟨_,cM,cv,E,o3,an,O⟩
theorem aw9(cC:ky P T){fn:Func}{rs:List nC}{args:List I}{J:ad}{lC lD:ef}{dT:cH}{k:Nat}{gj o6:List Nat}{r:I}(p:oi P T f n aT args h (.halt [.code lC]) V J)(bn:P.funcs[f]? =j fn)(C8:∃k9,P.funcs[(dT:Nat)]? =j k9/\(k9.body.isNone=R/\(k9.name== "runtime.NumGoroutine")=R))(ab:k ∉ aT)(al:gj=o6.map λD=>aT.getD D 0)(aa:∀D∈o6,D<aT.length)(lay:∀(eC:eO) (a:Act) (cs:List eO) (w:cd),a.tmps.size=n->Steps P (ew (eC.at a [.code lC]) cs w) (ew (eC.at {a.put (j k) (s8 dT (nF a gj))with defers:=k7 dT (nF a gj)::a.defers} [.code lD]) cs w))(aj:∀hc,er P T f n aT hc fc [.code lD] V J)(lU:∀r∈fn.results.toList,∃i ty,r= .cell i ty/\T.eu f i=Q)(kl:pE P aT fn.results.toList=j rs)(aw':∀x cv af,fc x cv af->∃aB gU N ot bw,FL P dT (o6.map λD=>V.getD D .aD) af aB x/\(iS cv aB rs).map iY=j gU/\rf N aB gU=j (ot,bw)/\aK h bw/\dP ot=j r):AC P f args h (.inl r,h):=by
 intro m w bl hw e1 cs;obtain⟨eC,t2,dk,dH,g0,b6,cR,dS,bY,db,e3,a2,f',fP,ih⟩:=p m w bl hw e1 cs;rw[g0]at fP;have dY:a2.tmps.size=n:=by rw[f'.1,b6.len]
 have lay:=lay eC a2 cs dS dY;have FM:=Z6 b6 f' al aa;generalize nF a2 gj=us at lay FM;rw[fP]at lay;have AT:=f'.put (bF.aD (s8 dT us)) (j k);have xu:=Z5 (i:=k) (v:=.aD) b6 ab;obtain⟨x,t5,cv,af,vX,BS,h5,jl,fv,fT,km,hF⟩:=aj [k7 dT us] cR dS {a2.put (j k) (s8 dT us)with defers:=[k7 dT us]} _ {eC with defers:=[k7 dT us]} cs db AT xu rfl rfl;obtain⟨aB,gU,N,ot,bw,he,U,OR,a7,rc⟩:=aw' x cv af BS;have FN:=dV.Z7 FM fv;have ml:nV fn t5 aB P=j gU:=Ph kl vX U;have FO:(invoke (.fn (.func dT) us.toArray) #[]).run P jl= .ok (.enter dT us.toArray) jl:=by
  obtain⟨k9,g1,cK,et⟩:=C8;have Pk:¬k9.name= "runtime.NumGoroutine":=by simpa using et
  have Pl:¬k9.body=Z:=by cases ag:k9.body with|none=>rw[ag]at cK;cases cK|some c=>simp
  simp[go_sem,callFunc,g1,Pl,Pk]
 have JR:∀{aJ:cd},Below h5.base jl aJ->Below m.base w aJ:=by intro aJ z3;have bT:cR.base=m.base:=bY.base;have bM:h5.base=cR.base:=fv.base;rw[bM,bT]at z3;rw[bT]at km;exact(e3.trans km).trans z3
 have ir:∀{m4:dq} {aJ:cd} {u:bH},Ext h5 af m4 aB->bW P m4 aB aJ->Below h5.base jl aJ->bF P m4 aB gU u->∃aZ,Ext m h aZ h/\bW P aZ h aJ/\Below m.base w aJ/\∃fE,Ending.returned u= .returned fE/\bF P aZ h r fE:=by intro m4 aJ u ep gC jS pG;obtain⟨xO,cJ,z2,z3⟩:=(Rq N).1 m4 aB aJ gU u ot bw gC pG OR;obtain⟨v1,v2⟩:=hw.back (((bY.trans fv).trans ep).trans cJ) a7 z2;exact⟨xO,v1,v2,JR jS,u,rfl,z3.po rc⟩
 cases he with
 |ret m6=>
   obtain⟨a5,todo,cJ,z2,z3⟩:=hF;have pI:Leaves P fn a5.tmps (λe aJ=>∃aZ,Ext m h aZ h/\bW P aZ h aJ/\Below m.base w aJ/\∃u,e= .returned u/\bF P aZ h r u) [k7 dT us] .returning jl:=by refine leaves_cons (f:=dT) (args:=us.toArray) (by simp) FO ?_;refine(m6 h5 jl us fT FN).mono ?_;rintro e k8 aJ ⟨⟨v,rfl⟩,rfl,m4,ep,gC,jS⟩;obtain⟨u,cQ,g7⟩:=w9 gC (cJ.ext ep) ml;exact⟨u,cQ,ir ep gC jS g7⟩
   obtain⟨e,hk,uw,iR,az,lu,ai⟩:=leaves_steps [k7 dT us] .returning jl {(({eC with defers:=[k7 dT us]}:eO).at a5 todo)with mode:=.returning} cs rfl z2 rfl (by simp[Frame.at,dk,bn]) (by simpa[Frame.at]using dH) pI;exact⟨e,hk,uw,iR,Comes.of_steps (ih.trans (lay.trans z3)) az,lu.trans dk,ai⟩
 |panic v m6=>
   obtain⟨a5,todo,u,⟨rB,z0,cJ⟩,z2,z4,z3⟩:=hF;have Pm:nV fn rB aB P=j gU:=by rw[<-ml];unfold nV;rw[Pj λq aE=>by obtain⟨i,ty,e,ae⟩:=lU q aE;exact⟨i,ty,e,cJ i ae⟩]
   have pI:Leaves P fn a5.tmps (λe aJ=>∃aZ,Ext m h aZ h/\bW P aZ h aJ/\Below m.base w aJ/\∃u,e= .returned u/\bF P aZ h r u) [k7 dT us] (.panicking [{v:=u,recovered:=R}]) jl:=by refine leaves_cons (f:=dT) (args:=us.toArray) (by simp) FO ?_;refine(m6 h5 jl us u fT FN z4).mono ?_;rintro e k8 aJ ⟨⟨v,rfl⟩,rfl,m4,ep,gC,jS⟩;obtain⟨u2,cQ,g7⟩:=w9 gC (z0.ext ep) Pm;exact⟨u2,cQ,ir ep gC jS g7⟩
   obtain⟨e,hk,uw,iR,az,lu,ai⟩:=leaves_steps [k7 dT us] (.panicking [{v:=u,recovered:=R}]) jl {(({eC with defers:=[k7 dT us]}:eO).at a5 todo)with mode:=.panicking [{v:=u,recovered:=R}]} cs rfl z2 rfl (by simp[Frame.at,dk,bn]) (by simpa[Frame.at]using dH) pI;exact⟨e,hk,uw,iR,Comes.of_steps (ih.trans (lay.trans z3)) az,lu.trans dk,ai⟩
end
def ah3:List bj:=[.ops [.i (.v 1) (.alloc [.aC]),K1]]
def ah4:List bj:=[.ops [aX,.i .l (.call (.c (.fn 70 [] [])) [.l 0]),cU,iu,iv,Gg,tl]]
def TG:List bj:=[.ops [r4,bc,QU],.cond (.v 6) [.ops [GF,.i .l (.load Q 2 (.v 2)),TH,.bU [⟨Z,Q,2,.v 2,(.l 0)⟩],tl],.ret] []]
def ah5:List bj:=[.ops [eY,aX,zF,.i .l (.build [.aC,.int o 0] [(0,1),(1,1)] [(0,(.l 2)),(1,(.l 0))]),J',jT]]
def ah6:List bj:=[.ops [eS,b7,dB,bc,HW,.i (.v 7) ah7]]
def ah8:List bj:=[.ops [eS,.i .l (.call (.c (.fn 72 [] [])) [.l 0,.c (.str [102,117,110])])]]
def TI:List aH:=[nJ,bc,eS,(.i .l (.len R (j 153) (.l 1))),(.i .l (.call (.c (.fn 73 [] [])) [(.l 1),(.c (.int o 0))])),(.bU [⟨Z,R,1,(.l 4),(.l 3)⟩]),(.i .l (.hv Q 153 [(.int o 0),(.int o 0),(.int o 0),.aC] 4 1 [(0,(.c (.agg [(.int o 0),(.int o 0),(.int o 0),.aC])))])),(.bU [⟨Z,R,1,(.l 5),(.l 4)⟩]),(.i .l (.app Q 153 (.l 4) (.l 0))),(.i .l (.fa (j 153) Z (.l 0) (.l 3))),nJ,(.i .n (.store 4 (.l 1) (.l 4))),ka]
def TJ:List aH:=[nJ,bc,eS,(.i .l (.len R (j 153) (.l 1))),(.i .l (.hv Q 153 [(.int o 0),(.int o 0),(.int o 0),.aC] 4 1 [(0,(.c (.agg [(.int o 0),(.int o 0),(.int o 0),.aC])))])),(.bU [⟨Z,R,1,(.l 4),(.l 3)⟩]),(.i .l (.call (.c (.fn 73 [] [])) [(.l 2),(.c (.int o 0))])),(.bU [⟨Z,R,1,(.l 5),(.l 4)⟩]),(.i .l (.app Q 153 (.l 4) (.l 1))),(.i .l (.fa (j 153) Z (.l 0) (.l 3))),nJ,(.i .n (.store 4 (.l 1) (.l 3))),ka]
def TK:List aH:=[nJ,bc,eS,(.i .l (.len R (j 153) (.l 1))),(.i .l (.call (.c (.fn 73 [] [])) [(.l 1),(.c (.int o 0))])),(.bU [⟨Z,R,1,(.l 4),(.l 3)⟩]),(.i .l (.hv Q 153 [(.int o 0),(.int o 0),(.int o 0),.aC] 4 1 [(0,(.c (.agg [(.int o 0),(.int o 0),(.int o 0),.aC])))])),(.bU [⟨Z,R,1,(.l 5),(.l 4)⟩]),(.i .l (.app Q 153 (.l 4) (.l 0))),(.i .l (.fa (j 153) Z (.l 0) (.l 3))),nJ,ka,(.i .n (.store 4 (.l 1) (.l 4)))]
def TL:List aH:=[nJ,bc,eS,(.i .l (.len R (j 153) (.l 1))),(.i .l (.hv Q 153 [(.int o 0),(.int o 0),(.int o 0),.aC] 4 1 [(0,(.c (.agg [(.int o 0),(.int o 0),(.int o 0),.aC])))])),(.bU [⟨Z,R,1,(.l 4),(.l 3)⟩]),(.i .l (.call (.c (.fn 73 [] [])) [(.l 2),(.c (.int o 0))])),(.bU [⟨Z,R,1,(.l 5),(.l 4)⟩]),(.i .l (.app Q 153 (.l 4) (.l 1))),(.i .l (.fa (j 153) Z (.l 0) (.l 3))),nJ,ka,(.i .n (.store 4 (.l 1) (.l 3)))]
def M2:List bj:=[.ops [GF,ac3,agH,agI],.ops [.i .l (.dG 0 (.v 5)),bc,KV],.cond (.v 8) [.ops [Q8,.i .l (.load Q 2 (.v 5)),TH,.bU [⟨Z,Q,2,.v 5,(.l 0)⟩],tl],.ret] [],.ops [GF,xK,TH,tl],.ret]
def TM:List bj:=[.ops [g4,ad0],.cond (.v 5) [.ops [g4,.i .l (.CO 147 Q (.l 0)),cU,iu,iv,KU,.i .n (.store 2 (.v 3) (.l 1)),jT],.ops [eS,Dm],.cond (.v 6) [.ops [g4,Df]] [],.ops [Q8,.i .l (.load Q 2 (.v 3)),.i .n (.store 1 (.v 0) (.l 1)),.bU [⟨Z,Q,2,.v 3,(.l 0)⟩],.i .n (.store 2 (.v 1) (.l 0))]] []]
def Es:List bj:=[.ops [aX,b7,hB,bc,iw],.ops [aX,b7,dB,bc,HW,.i (.v 3) ah7],.cond (.v 3) [.ops [aX,b7,dB,bc,ah9,dB,bc,iw]] [.ops [dv,.i (.v 4) (.bin (.int o) .eql (.l 0) (.c (.int o 5)))],.cond (.v 4) [.ops [.i (.v 1) (.a' (.c (.int o 6)))]] []],.ops [dv,g4,Rh,.i .l (.CM 147 (.l 0)),Df]]
theorem HX:cw ak T 95 2 5 [0,1,4,14,23] Es [] Q:=by refine⟨_,_,Tryz.func95,rfl,rfl,?_,?_,?_,?_,?_⟩<;>kernel_rfl
def Et:List bj:=[uA,.ops [aX,b7,dB,bc,HW,TA,cU,q5,Di,ME,Dj,MF,So,Dk,aap,aaq,cU,q5,Di,ME,Dj,MF,.g (.l 5) Q .l (.dG 1 (.l 0)),Dk,.g (.l 7) Q .l xw,.g (.l 8) Q .l TE,.i .l agT,kD],.ops [.i (.v 4) (.a' (.v 3))],.cond (.v 4) [ah'] [],uB,.ret]
theorem HY:cw ak T 94 2 5 [0,1,4,5,33] Et [(.v 2)] R:=by refine⟨_,_,Tryz.func94,rfl,rfl,?_,?_,?_,?_,?_⟩<;>kernel_rfl
def TN:List bj:=[.ops [aX,dv,.i .l (.call (.c (.fn 94 [] [])) [.l 1,.l 0]),.i (.v 2) v8],.cond (.v 2) [TO] []]
theorem aia:cw ak T 72 2 3 [0,1,7] TN [] R:=by refine⟨_,_,Tryz.func72,rfl,rfl,?_,?_,?_,?_,?_⟩<;>kernel_rfl
def HZ:List bj:=[.ops [Dg],.ops [aX,b7,dB,bc,HW,y9,cU,za,aib,aic,Qm,aid,.g (.l 5) R .l (.dG 2 (.l 0)),GK,.g (.l 7) R .l v8,.i (.v 3) QM],.cond (.v 3) [TO] [],.ops [aX,b7,dB,bc,ah9,wb,bc,iw],ah',.ops [g4,lE],.ret]
theorem MG:cw ak T 98 1 4 [0,2,3,19] HZ [(.v 1)] R:=by refine⟨_,_,Tryz.func98,rfl,rfl,?_,?_,?_,?_,?_⟩<;>kernel_rfl
def BU:List bj:=[.ops [Dg],.ops [aX,b7,dB,bc,HW,TA,cU,q5,Di,ME,Dj,MF,So,Dk,PB,cU,q5,Di,ME,Dj,MF,.g (.l 5) Q .l (.dG 3 (.l 0)),Dk,.g (.l 7) Q .l QG,.g (.l 8) Q .l A8,za,aib,aic,Qm,aid,.g (.l 5) R .l (.dG 3 (.l 0)),GK,.g (.l 7) R .l (.bin (.int o) .gtr (.l 0) (.c (.int o 999))),.g (.l 17) Q .l QM,.i (.v 2) (.pick (.l 18) (.l 0) (.c (.bool R)))],.cond (.v 2) [.ops [aX,.i .l (.call (.c (.fn 95 [] [])) [.l 0,.c (.int o 1)])]] [],.ops [aX,aie,lE],.ret]
theorem Eu:cw ak T 99 1 3 [0,2,37] BU [(.v 1)] R:=by refine⟨_,_,Tryz.func99,rfl,rfl,?_,?_,?_,?_,?_⟩<;>kernel_rfl
def MH:List bj:=[.ops [eS,dv,.i (.v 5) (.bin (.int o) .leq (.l 1) (.l 0))],.cond (.v 5) [] [.exit 0],.block 1 [.ops [aX,g4,eS,.i .l (.call (.l 1) [.l 0]),.i (.v 6) (.call (.c (.fn 94 [] [])) [.l 3,.l 0])],.cond (.v 6) [QV,.ret] []],Gs]
def aif:List bj:=[y0,.ops [PF],.block 0 [.loop MH],TO,y0,.ret]
theorem axa:cw ak T 96 3 7 [0,1,2,6,7,10,17] aif [(.v 3)] R:=by refine⟨_,_,Tryz.func96,rfl,rfl,?_,?_,?_,?_,?_⟩<;>kernel_rfl
def BV:List bj:=[KJ,.cond (.v 11) [] [.exit 1],.block 2 [.ops [KZ,bc,aX,dv,wc,.i .l (.call (.c (.fn 73 [] [])) [.l 2,.l 0]),.bU [⟨Z,R,1,.l 5,(.l 4)⟩],.i .l (.hv R 153 [.int o 0,.int o 0,.int o 0,.aC] 4 1 [(0,(.l 0))]),.bU [⟨Z,R,1,.l 6,(.l 5)⟩],.i .l (.app R 153 (.l 5) (.l 0)),KZ,Bb]],KK]
def TP:List bj:=[.ops [.i (.v 2) KR],.ops [dv,.i (.v 4) (.bin (.int o) .gtr (.l 0) (.c (.int o 30)))],.cond (.v 4) [.ops [aX,.i .l (.call (.c (.fn 95 [] [])) [.l 0,.c (.int o 4)])]] [],.ops [aX,.i .l (.call (.c (.fn 72 [] [])) [.l 0,.c (.str [40])])],.ops [aX,.i .l (.call (.c (.fn 96 [] [])) [.l 0,.c (.int o 21),.c (.fn 97 [] [])]),.i .l (.build [.int o 0,.int o 0,.int o 0,.aC] [(0,1),(1,1),(2,1),(3,1)] [(0,(.l 0))]),.i (.v 3) KR,.i .n (.store 4 (.v 3) (.l 0))],.ops [tk,acx],.block 0 [.ops [abs,nG],.cond (.v 6) [.ops [aX,aie,Ba,Bb]] [.ops [abt,mM],.cond (.v 7) [] [.ops [.i .l (.bin (.int o) .eql (.v 5) (.c (.int o 18))),mM],.cond (.v 7) [] [.ops [.i .l (.bin (.int o) .eql (.v 5) (.c (.int o 15))),mM]]],.cond (.v 7) [.ops [aX,.i .l (.call (.c (.fn 99 [] [])) [.l 0]),nf,Bb]] [.ops [.i .l (.bin (.int o) .eql (.v 5) (.c (.int o 6))),qn],.cond (.v 8) [.ops [aX,.i .l (.call (.c (.fn 96 [] [])) [.l 0,.c (.int o 5),.c (.fn 100 [] [])]),nf,Bb]] []]]],.ops [tk,bc,.i (.v 9) (.call (.c (.fn 101 [] [])) [.l 0]),KM],.block 1 [.loop BV],.ops [aX,.i .l (.call (.c (.fn 72 [] [])) [.l 0,.c (.str [41])])],.ops [.i .l (.load Q 4 (.v 3)),zH],.ret]
theorem aih:cw ak T 73 2 12 [0,1,4,5,7,16,17,22,29,36,37,38] TP [(.cell Q 4 2)] R:=by refine⟨_,_,Tryz.func73,rfl,rfl,?_,?_,?_,?_,?_⟩<;>kernel_rfl
def aii:List bj:=[xC,.ops [aX,.i .l (.bin (.int .u8) .geq (.l 0) (.c (.int .u8 97))),cU,q5,.g (.l 1) Q .l (.bin (.int .u8) .leq (.l 0) (.c (.int .u8 122))),y1,lE],.ret]
theorem axb:cw ak T 120 1 2 [0,2] aii [(.v 1)] Q:=by refine⟨_,_,Tryz.func120,rfl,rfl,?_,?_,?_,?_,?_⟩<;>kernel_rfl
def aij:List bj:=[xC,.ops [aX,.i .l (.bin (.int .u8) .geq (.l 0) (.c (.int .u8 48))),cU,q5,.g (.l 1) Q .l (.bin (.int .u8) .leq (.l 0) (.c (.int .u8 57))),y1,lE],.ret]
theorem axc:cw ak T 121 1 2 [0,2] aij [(.v 1)] Q:=by refine⟨_,_,Tryz.func121,rfl,rfl,?_,?_,?_,?_,?_⟩<;>kernel_rfl
def aik:List bj:=[xC,.ops [aX,.i .l (.bin (.int .u8) .eql (.l 0) (.c (.int .u8 32))),cU,za,.g (.l 1) R .l (.bin (.int .u8) .eql (.l 0) (.c (.int .u8 9))),vZ,cU,za,.g (.l 1) R .l (.bin (.int .u8) .eql (.l 0) (.c (.int .u8 10))),vZ,cU,za,.g (.l 1) R .l (.bin (.int .u8) .eql (.l 0) (.c (.int .u8 13))),vZ,lE],.ret]
theorem axd:cw ak T 92 1 2 [0,2] aik [(.v 1)] Q:=by refine⟨_,_,Tryz.func92,rfl,rfl,?_,?_,?_,?_,?_⟩<;>kernel_rfl
def MI:List bj:=[.ops [dv,eS,abr,aX,zF,.i .l Mi,cU,Rf,PA,.g (.l 2) Q .l xw,.g (.l 3) Q .l Gc,.g (.l 4) Q .l (.bin (.int o) .add (.l 1) (.l 0)),.g (.l 5) Q .l (.bR Q Z (.l 3) (.l 0)),.g (.l 6) Q .l (.call (.l 5) [.l 0]),.i (.v 5) agG],.cond (.v 5) [] [.exit 0],.block 1 [Gs]]
def ail:List bj:=[y0,DG,.block 0 [.loop MI],QV,.ret]
theorem axe:cw ak T 91 3 6 [0,1,2,6,7,22] ail [(.v 3)] Q:=by refine⟨_,_,Tryz.func91,rfl,rfl,?_,?_,?_,?_,?_⟩<;>kernel_rfl
def vg:List bj:=[.ops [.i (.v 2) aim,ta],.ops [aX,dv,.i .l (.bR Q Z (.l 1) (.l 0)),jT],.block 0 [.ops [eS,.i .l (.bin (.int .u8) .eql (.l 0) (.c (.int .u8 40))),cU,.g (.l 0) R .l Gc,.g (.l 1) R .l (.bin (.int .u8) .eql (.l 0) (.c (.int .u8 41))),vZ,qn],.cond (.v 8) [.ops [dv,aX,dv,dv,wc,.i .l (.qh Q Z (.l 3) (j (.l 2)) (j (.l 0))),.i .l (.build [.int o 0,.str [],.bool R,.int o 0] [(0,1),(1,1),(2,1),(3,1)] [(0,(.l 5)),(1,(.l 0))]),zH,ta],.ret] [.ops [eS,.i .l (.call (.c (.fn 120 [] [])) [.l 0]),y6],.cond (.v 9) [.ops [dv,aX,dv,dv,aX,dv,.i .l (.call (.c (.fn 91 [] [])) [.l 1,.l 0,.c (.fn 120 [] [])]),TQ,.i .l (.qh Q Z (.l 6) (j (.l 5)) (j (.l 0))),.i .l (.build [.int o 0,.str [],.bool R,.int o 0] [(0,1),(1,1),(2,1),(3,1)] [(0,(.l 8)),(1,(.l 0))]),zH,ta],.ret] [.ops [eS,.i .l (.call (.c (.fn 121 [] [])) [.l 0]),s9,cU,.g (.l 0) Q .l Gc,.g (.l 1) Q .l (.bin (.int .u8) .neq (.l 0) (.c (.int .u8 45))),y1,yZ],.cond (.v 10) [.ops [ain,zH,aio],.ret] []]]],.ops [aX,dv,dv,wc,aX,dv,wc,.i .l (.call (.c (.fn 91 [] [])) [.l 2,.l 0,.c (.fn 121 [] [])]),.i .l (.bin (.int o) .add (.l 4) (.l 0)),.i .l (.qh Q Z (.l 8) (j (.l 7)) (j (.l 0))),lF],.ops [jm,ahN,cU,iu,iv,De,mM],.ops [uz,ahO,cU,.g (.l 0) R .l (.a' (.v 6)),ahP,.g (.l 2) R .l (.a' (.v 5)),ahQ,.i (.v 11) Bf],.cond (.v 11) [.ops [ain,zH,aio],.ret] [],.ops [dv,jm,mm,.i .l (.build [.int o 0,.str [],.bool R,.int o 0] [(0,1),(1,1),(2,1),(3,1)] [(0,(.l 2)),(1,(.l 1)),(2,(.c (.bool Q))),(3,(.l 0))]),zH,ta],.ret]
theorem wF:cw ak T 93 2 12 [0,1,4,5,6,7,8,9,13,27,40,71] vg [(.cell Q 4 2),(.v 3)] Q:=by refine⟨_,_,Tryz.func93,rfl,rfl,?_,?_,?_,?_,?_⟩<;>kernel_rfl
def MJ:List bj:=[.ops [eS,aX,zF,.i (.v 8) Mi],.cond (.v 8) [] [.exit 0],.block 1 [.ops [aX,eS,.i .l (.call (.c (.fn 93 [] [])) [.l 1,.l 0]),cU,iu,iv,.i (.v 5) aim,.i .n (.store 4 (.v 5) (.l 1)),nG],.ops [mm,.i (.v 9) xx],.cond (.v 9) [.ops [mm,eS,Rh,MK,tl],.ret] [],.ops [eY,.i .l (.load Q 4 (.v 5)),.i .l (.hv R 174 [.int o 0,.str [],.bool R,.int o 0] 4 1 [(0,(.l 0))]),.i .l (.app R 174 (.l 2) (.l 0)),kD],.ops [eS,PQ,bc,zF,TQ,jT]],.ops [eS,aX,eS,.i .l (.call (.c (.fn 91 [] [])) [.l 1,.l 0,.c (.fn 92 [] [])]),TQ,jT]]
def ML:List bj:=[.ops [MK,K1],.ops [aX,zF,.i (.v 7) (.bin (.int o) .gtr (.l 0) (.c (.int o 6000)))],.cond (.v 7) [.ops [.i .l (.build [.int o 0,.int o 0] [(0,1),(1,1)] [(0,(.c (.int o 3))),(1,(.c (.int o 6000)))]),MK,tl],.ret] [],J5,.ops [aX,.i .l (.call (.c (.fn 91 [] [])) [.l 0,.c (.int o 0),.c (.fn 92 [] [])]),jT],.block 0 [.loop MJ],.ops [eY,xK,.i (.v 1) tj,tl],.ret]
theorem TR:cw ak T 70 1 10 [0,2,3,4,5,6,7,10,17,30] ML [(.v 1),(.cell Q 2 2)] Q:=by refine⟨_,_,Tryz.func70,rfl,rfl,?_,?_,?_,?_,?_⟩<;>kernel_rfl
abbrev j0:aU:=174
def ce.row(t:ce):List I:=[.int o (t.at':Nat),.str t.text,.bool t.num,.int o t.n]
theorem tE{s:List UInt8}{i:Nat}{c:UInt8}{q:kf}{hH:Option (Nat×Nat×Bool)}(h:s[i]? =j c):sY Q hH (.str s) (.int q (i:Int))=j (.int .u8 c.toNat):=by simp[sY,h]
theorem TS{s:List UInt8}{l r:Nat}{q hi:kf}(F:l<=r)(J:r<=s.length):ku (.str s) (j (.int q (l:Int))) (j (.int hi (r:Int)))=j (.str ((s.drop l).take (r - l))):=by simp only[ku,p5,qM,gY,oO,da,rV];rw[if_pos ⟨by omega,by omega,by omega⟩]
theorem BW(c:UInt8)(k:Nat)(ab:k<256):decide ((c.toNat:Int)=(k:Int))=decide (c=q2 k):=by
 refine decide_eq_decide.2 ⟨λh=>?_,λh=>?_⟩
 ·have:c.toNat=k:=by omega
  rw[<-this];simp
 ·rw[h,UInt8.toNat_ofNat'];omega
theorem aip(c:UInt8)(k:Nat)(ab:k<256):decide ((k:Int)<=(c.toNat:Int))=decide (q2 k<=c):=by refine decide_eq_decide.2 ?_;rw[UInt8.le_iff_toNat_le,UInt8.toNat_ofNat'];omega
theorem aiq(c:UInt8)(k:Nat)(ab:k<256):decide ((c.toNat:Int)<=(k:Int))=decide (c<=q2 k):=by refine decide_eq_decide.2 ?_;rw[UInt8.le_iff_toNat_le,UInt8.toNat_ofNat'];omega
section
variable{h:ad}
theorem air(c:UInt8):aM ak T 120 [.int .u8 c.toNat] h=j (.inl (.bool (mj c)),h):=by have av:decide ((97:Int)<=(c.toNat:Int))=decide (97<=c):=aip c 97 (by decide);have ax:decide ((c.toNat:Int)<=122)=decide (c<=122):=aiq c 122 (by decide);have e:mj c=(decide (97<=c)&&decide (c<=122)):=rfl;rw[e];refine jn axb rfl λb' cf=>?_;unfold aii;cases F:decide (97<=c)<;>cases J:decide (c<=122)<;>(rw[F,J]at cf;simp only[ap,aw,aA,ar,av,ax,F,J];exact cf _ _ _ rfl (aK.refl _) rfl)
theorem ais(c:UInt8):aM ak T 121 [.int .u8 c.toNat] h=j (.inl (.bool (jR c)),h):=by have av:decide ((48:Int)<=(c.toNat:Int))=decide (48<=c):=aip c 48 (by decide);have ax:decide ((c.toNat:Int)<=57)=decide (c<=57):=aiq c 57 (by decide);have e:jR c=(decide (48<=c)&&decide (c<=57)):=rfl;rw[e];refine jn axc rfl λb' cf=>?_;unfold aij;cases F:decide (48<=c)<;>cases J:decide (c<=57)<;>(rw[F,J]at cf;simp only[ap,aw,aA,ar,av,ax,F,J];exact cf _ _ _ rfl (aK.refl _) rfl)
theorem axf(c:UInt8):mJ c=(decide (c=32)||(decide (c=9)||(decide (c=10)||decide (c=13)))):=rfl
theorem ait(c:UInt8):aM ak T 92 [.int .u8 c.toNat] h=j (.inl (.bool (mJ c)),h):=by have av:decide ((c.toNat:Int)=32)=decide (c=32):=BW c 32 (by decide);have ax:decide ((c.toNat:Int)=9)=decide (c=9):=BW c 9 (by decide);have bs:decide ((c.toNat:Int)=10)=decide (c=10):=BW c 10 (by decide);have cq:decide ((c.toNat:Int)=13)=decide (c=13):=BW c 13 (by decide);rw[axf];refine jn axd rfl λb' cf=>?_;unfold aik;cases F:decide (c=32)<;>cases J:decide (c=9)<;>cases af:decide (c=10)<;>cases aB:decide (c=13)<;>(rw[F,J,af,aB]at cf;simp only[ap,aw,aA,ar,av,ax,bs,cq,F,J,af,aB];exact cf _ _ _ rfl (aK.refl _) rfl)
theorem aiu{f:UInt8->Bool}:∀(l:List UInt8) (i:Nat),i<(l.takeWhile f).length->∃c,l[i]? =j c/\f c=Q
 |[],i,h=>by simp at h
 |c::l,i,h=>by
   rw[List.takeWhile_cons]at h;split at h
   ·rename_i al;cases i with
    |zero=>exact⟨c,rfl,al⟩
    |succ i=>exact aiu l i (by simpa using h)
   ·simp at h
theorem aiv{f:UInt8->Bool}:∀(l:List UInt8),(l.takeWhile f).length=l.length\/∃c,l[(l.takeWhile f).length]? =j c/\f c=R
 |[]=>.inl rfl
 |c::l=>by
   rw[List.takeWhile_cons];split
   ·rcases aiv (f:=f) l with h|⟨d,F,J⟩
    ·exact .inl (by simp[h])
    ·exact .inr ⟨d,by simpa using F,J⟩
   ·rename_i al;exact .inr ⟨c,rfl,by simpa using al⟩
theorem MM{g:cH}{f:UInt8->Bool}(a7:∀(c:UInt8) (h:ad),aM ak T g [.int .u8 c.toNat] h=j (.inl (.bool (f c)),h))(s:List UInt8)(a:Nat)(aN:a<=s.length)(az:s.length<=1000000):aM ak T 91 [.str s,.int o (a:Int),.fn g [] []] h=j (.inl (.int o (((s.drop a).takeWhile f).length:Nat)),h):=by
 have gt:=aiu (f:=f) (s.drop a);have Hs:=aiv (f:=f) (s.drop a);have hle:((s.drop a).takeWhile f).length<=(s.drop a).length:=(List.takeWhile_sublist _).length_le;have yH:(s.drop a).length=s.length - a:=sK;generalize ((s.drop a).takeWhile f).length=n at gt Hs hle ⊢;refine jn axe rfl λb' cf=>?_;unfold ail;simp only[ap,aw,aA,ar];refine td (λi V E=>∃ij,V=[.str s,.int o (a:Int),.fn g [] [],.int o 0,.int o (i:Nat),ij]/\E=h) n ⟨_,rfl,rfl⟩ ?_ ?_
 ·rintro i V E ae ⟨ij,rfl,rfl⟩ next
  obtain⟨c,al,TT⟩:=gt i ae;rw[List.getElem?_drop]at al;have cg:hq o ((a:Int)+(i:Int))=((a+i:Nat):Int):=oj (by omega) (by omega) (by omega);have dS:hq o ((i:Int)+1)=((i+1:Nat):Int):=oj (by omega) (by omega) (by omega);have bt:((a+i:Nat):Int)<(s.length:Int):=by omega
  rw[dd MI.eq_1];simp only[ap,aw,aA,ar,cz,cx,cg,dS,bt,tE al,a7,TT];exact next _ _ ⟨_,rfl,rfl⟩
 ·rintro V E ⟨ij,rfl,rfl⟩;have cg:hq o ((a:Int)+(n:Int))=((a+n:Nat):Int):=oj (by omega) (by omega) (by omega);rcases Hs with he|⟨c,al,TT⟩
  ·have bt:¬((a+n:Nat):Int)<(s.length:Int):=by omega
   rw[dd MI.eq_1];simp only[ap,aw,aA,ar,cz,cg,bt];exact cf _ _ _ rfl (aK.refl _) rfl
  ·rw[List.getElem?_drop]at al;have bt:((a+n:Nat):Int)<(s.length:Int):=by have:=(fR.1 al).1;omega
   rw[dd MI.eq_1];simp only[ap,aw,aA,ar,cz,cx,cg,bt,tE al,a7,TT];exact cf _ _ _ rfl (aK.refl _) rfl
theorem axg{t:List UInt8}(aO:t.length<=1000000000):aM ak T 24 [.str t,.int o 10,.int o 64] h=j (.inl (match Lib.parseIntB 64 t with
  |.ok n=>.bx [.int o n,.fC]
  |_=>.bx [.aD,.iface 134 .aD]),h):=by
 unfold aM;rw[anv];show C5 _ _=_;unfold C5;exact if_pos ⟨rfl,rfl,aO⟩
theorem aiw(t:List UInt8)(aO:t.length<=1000000000):(∃n,bL n/\(∀h,aM ak T 24 [.str t,.int o 10,.int o 64] h=j (.inl (.bx [.int o n,.fC]),h))/\s4 t=if ie n=t then j n else Z)\/((∀h,aM ak T 24 [.str t,.int o 10,.int o 64] h=j (.inl (.bx [.aD,.iface 134 .aD]),h))/\s4 t=Z):=by
 have hp:=λh=>axg (h:=h) aO;unfold s4;rcases aE:Lib.parseIntB 64 t with n|_|_
 ·rw[aE]at hp;have ag:=Lib.parseIntB_bounds aE;have e:(((2 ^ (64 - 1):Nat)):Int)=9223372036854775808:=by decide
  rw[e]at ag;exact .inl ⟨n,⟨ag.1,by omega⟩,hp,rfl⟩
 ·rw[aE]at hp;exact .inr ⟨hp,rfl⟩
 ·rw[aE]at hp;exact .inr ⟨hp,rfl⟩
abbrev axh:List I:=[.int o 0,.str [],.bool R,.int o 0]
def MN(O:Option ce):I:=match O with
 |some t=>.bx [.agg t.row,.int o 0]
 |none=>.bx [.agg axh,.int o 7]
theorem aix{s:List UInt8}{c:UInt8}{r:List UInt8}(h:s.drop a=c::r):s[a]? =j c/\a<s.length/\s.drop (a+1)=r/\r.length=s.length - a - 1:=by
 have F:s[a]? =j c:=by have:= @List.getElem?_drop _ s a 0;rw[h]at this;simpa using this.symm
 have J:=(fR.1 F).1;have af:s.drop (a+1)=r:=by have:=List.tail_drop (l:=s) (i:=a);rw[h]at this;simpa using this.symm
 have aB:(s.drop a).length=s.length - a:=sK;rw[h,dw]at aB;exact⟨F,J,af,by omega⟩
theorem TU{f:UInt8->Bool}:∀l:List UInt8,l.take (l.takeWhile f).length=l.takeWhile f
 |[]=>rfl
 |c::l=>by
   rw[List.takeWhile_cons];split
   ·rw[dw,rU,TU l]
   ·rfl
theorem axi(s:List UInt8)(a:Nat)(c:UInt8)(r:List UInt8)(a1:s.drop a=c::r)(az:s.length<=1000000):aM ak T 93 [.str s,.int o (a:Int)] h=j (.inl (MN (kQ a (s.drop a))),h):=by
 obtain⟨al,bt,aiy,gB⟩:=aix a1;have wG:decide ((c.toNat:Int)=40)=decide (c=40):=BW c 40 (by decide);have yd:decide ((c.toNat:Int)=41)=decide (c=41):=BW c 41 (by decide);have MO:decide ((c.toNat:Int)=45)=decide (c=45):=BW c 45 (by decide);have cg:hq o ((a:Int)+1)=((a+1:Nat):Int):=oj (by omega) (by omega) (by omega);have nj:=λh=>air (h:=h) c;have rd:=λh=>ais (h:=h) c;have aBh:∀x:List I,(h.push [x]).cell h.n=j [x]:=λx=>fU;have g1:∀x:List I,aK h (h.push [x]):=λx=>aK.push _ _;rw[a1];by_cases ux:c=40\/c=41
 ·have BX:kQ a (c::r)=j ⟨a,[c],R,0⟩:=if_pos ux;rw[BX];have fB:ku (.str s) (j (.int o (a:Int))) (j (.int o ((a+1:Nat):Int)))=j (.str [c]):=by rw[TS (by omega) (by omega),a1,Nat.add_sub_cancel_left];rfl
  rcases ux with ag|ag
  ·have d40:decide (c=40)=Q:=decide_eq_true ag;refine jn wF rfl λb' cf=>?_;unfold vg;simp only[ap,aw,aA,ar,ct,tE al,wG,d40,cg,fB];exact cf _ _ _ (by simp only[ap,aw];rfl) (g1 _) rfl
  ·have d40:decide (c=40)=R:=decide_eq_false (by rw[ag];decide);have d41:decide (c=41)=Q:=decide_eq_true ag;refine jn wF rfl λb' cf=>?_;unfold vg;simp only[ap,aw,aA,ar,ct,tE al,wG,yd,d40,d41,cg,fB];exact cf _ _ _ (by simp only[ap,aw];rfl) (g1 _) rfl
 ·have d40:decide (c=40)=R:=decide_eq_false λe=>ux (.inl e);have d41:decide (c=41)=R:=decide_eq_false λe=>ux (.inr e);cases ai:mj c with
  |true=>
    have BX:kQ a (c::r)=j ⟨a,c::r.takeWhile mj,R,0⟩:=by rw[kQ,if_neg ux,if_pos ai]
    rw[BX];have ab:(s.drop a).takeWhile mj=c::r.takeWhile mj:=by rw[a1,List.takeWhile_cons,if_pos ai]
    have rq:=λh=>MM (h:=h) (λc h=>air (h:=h) c) s a (by omega) az;have Al:(c::r.takeWhile mj).length<=s.length - a:=by have:=(List.takeWhile_sublist mj (l:=r)).length_le;simp only[dw];omega
    rw[ab]at rq;have dS:hq o ((a:Int)+((c::r.takeWhile mj).length:Nat))=((a+(c::r.takeWhile mj).length:Nat):Int):=oj (by omega) (by omega) (by omega);have fB:ku (.str s) (j (.int o (a:Int))) (j (.int o ((a+(c::r.takeWhile mj).length:Nat):Int)))=j (.str (c::r.takeWhile mj)):=by rw[TS (by omega) (by omega),Nat.add_sub_cancel_left,<-ab,TU]
    generalize (c::r.takeWhile mj)=nO at rq dS fB ⊢;refine jn wF rfl λb' cf=>?_;unfold vg;simp only[ap,aw,aA,ar,ct,tE al,wG,yd,d40,d41,nj,ai,rq,dS,fB];exact cf _ _ _ (by simp only[ap,aw];rfl) (g1 _) rfl
  |false=>
    by_cases H0:jR c=Q\/c=45
    ·have BX:kQ a (c::r)=(s4 (c::r.takeWhile jR)).map λn=>⟨a,c::r.takeWhile jR,Q,n⟩:=by rw[kQ,if_neg ux,ai,if_neg (by simp),if_pos H0]
     rw[BX];have rq:=λh=>MM (h:=h) (λc h=>ais (h:=h) c) s (a+1) (by omega) az;rw[aiy]at rq;have Al:=(List.takeWhile_sublist jR (l:=r)).length_le;have dS:hq o (((a+1:Nat):Int)+((r.takeWhile jR).length:Nat))=((a+1+(r.takeWhile jR).length:Nat):Int):=oj (by omega) (by omega) (by omega);have fB:ku (.str s) (j (.int o (a:Int))) (j (.int o ((a+1+(r.takeWhile jR).length:Nat):Int)))=j (.str (c::r.takeWhile jR)):=by rw[TS (by omega) (by omega),a1,show a+1+(r.takeWhile jR).length - a=(r.takeWhile jR).length+1 by omega,rU,TU]
     have Ac:(c::r.takeWhile jR).length<=1000000:=by simp only[dw];omega
     have mb:(jR c=Q/\True)\/(jR c=R/\decide (c=45)=Q):=by
      cases nt:jR c with
      |true=>exact .inl ⟨rfl,trivial⟩
      |false=>exact .inr ⟨rfl,decide_eq_true (H0.resolve_left (by simp[nt]))⟩
     generalize (c::r.takeWhile jR)=nO at fB Ac ⊢;generalize (r.takeWhile jR).length=k at rq dS fB;have ua:∀(v:Option Int),s4 nO=v->aM ak T 93 [.str s,.int o (a:Int)] h=j (.inl (MN (v.map λn=>⟨a,nO,Q,n⟩)),h):=by
      intro v U;rcases aiw nO (by omega)with⟨n,aq,hp,BY⟩|⟨hp,BY⟩
      ·have nK:=λh=>Mw aq h;by_cases he:ie n=nO
       ·rw[U,if_pos he]at BY;subst BY;rcases mb with⟨d1,_⟩|⟨d1,d2⟩
        ·refine jn wF rfl λb' cf=>?_;unfold vg;simp only[ap,aw,aA,ar,ct,tE al,wG,yd,d40,d41,nj,ai,rd,d1,cg,rq,dS,fB,hp,nK,he];exact cf _ _ _ (by simp only[ap,aw];rfl) (g1 _) rfl
        ·refine jn wF rfl λb' cf=>?_;unfold vg;simp only[ap,aw,aA,ar,ct,tE al,wG,yd,MO,d40,d41,nj,ai,rd,d1,d2,cg,rq,dS,fB,hp,nK,he];exact cf _ _ _ (by simp only[ap,aw];rfl) (g1 _) rfl
       ·rw[U,if_neg he]at BY;subst BY;rcases mb with⟨d1,_⟩|⟨d1,d2⟩
        ·refine jn wF rfl λb' cf=>?_;unfold vg;simp only[ap,aw,aA,ar,ct,tE al,wG,yd,d40,d41,nj,ai,rd,d1,cg,rq,dS,fB,hp,nK,he];exact cf _ _ _ (by simp only[ap,aw];rfl) (g1 _) rfl
        ·refine jn wF rfl λb' cf=>?_;unfold vg;simp only[ap,aw,aA,ar,ct,tE al,wG,yd,MO,d40,d41,nj,ai,rd,d1,d2,cg,rq,dS,fB,hp,nK,he];exact cf _ _ _ (by simp only[ap,aw];rfl) (g1 _) rfl
      ·rw[U]at BY;subst BY;rcases mb with⟨d1,_⟩|⟨d1,d2⟩
       ·refine jn wF rfl λb' cf=>?_;unfold vg;simp only[ap,aw,aA,ar,ct,tE al,wG,yd,d40,d41,nj,ai,rd,d1,cg,rq,dS,fB,hp];exact cf _ _ _ (by simp only[ap,aw];rfl) (g1 _) rfl
       ·refine jn wF rfl λb' cf=>?_;unfold vg;simp only[ap,aw,aA,ar,ct,tE al,wG,yd,MO,d40,d41,nj,ai,rd,d1,d2,cg,rq,dS,fB,hp];exact cf _ _ _ (by simp only[ap,aw];rfl) (g1 _) rfl
     exact ua _ rfl
    ·have BX:kQ a (c::r)=Z:=by rw[kQ,if_neg ux,ai,if_neg (by simp),if_neg H0]
     rw[BX];have d1:jR c=R:=by
      cases nt:jR c with
      |true=>exact absurd (.inl nt) H0
      |false=>rfl
     have d2:decide (c=45)=R:=decide_eq_false λe=>H0 (.inr e);refine jn wF rfl λb' cf=>?_;unfold vg;simp only[ap,aw,aA,ar,tE al,wG,yd,MO,d40,d41,nj,ai,rd,d1,d2];exact cf _ _ _ (by simp only[ap,aw];rfl) (g1 _) rfl
end
theorem TV{C:AD}{aI:Nat}{b:List bj}{K:List RK}{b':k3->Prop}{α:Type}(TW:α->Nat)(cA:α->List I->ad->Prop)(step:∀x V h,cA x V h->(∀y cv E,TW y<TW x->cA y cv E->b' (bu C aI (.ff b::K) cv [] E))->b' (bu C aI (.ff b::K) V [] h))(x:α){V:List I}{h:ad}(am:cA x V h):b' (bu C aI (.ff b::K) V [] h):=by
 have key:∀(N:Nat) (x:α) (V:List I) (h:ad),TW x<N->cA x V h->b' (bu C aI (.ff b::K) V [] h):=by
  intro N;induction N with
  |zero=>intro x V h an;omega
  |succ N aW=>intro x V h an xD;exact step x V h xD λy cv E bq P2=>aW y cv E (by omega) P2
 exact key _ x V h (q6 _) am
abbrev jd(q:Int×Int):I:=.agg [.int o q.1,.int o q.2]
abbrev jy(l:List ce):List (List I):=l.map ce.row
theorem axj(l:List ce):∀r∈jy l,r.all s2=Q:=by intro r aj;obtain⟨t,_,rfl⟩:=lR.1 aj;rfl
theorem axk{s:List UInt8}{l:List ce}(az:¬6000<s.length)(h:hz 0 0 s= .inl l):ib s=(l,(0,0)):=by rw[ib,if_neg az,h]
theorem axl{s:List UInt8}{e:Nat}(az:¬6000<s.length)(h:hz 0 0 s= .inr e):ib s=([],(7,(e:Int))):=by rw[ib,if_neg az,h]
def zI(s:List UInt8)(q:Nat×List ce):Prop:=q.1<=s.length/\q.2.length<=q.1/\hz 0 0 s=match hz 0 q.1 (s.drop q.1)with
 |.inl l=>.inl (q.2++l)
 |.inr e=>.inr e
theorem axm{s:List UInt8}{acc:List ce}(h:zI s (a,acc)){c:UInt8}{r:List UInt8}(a1:s.drop a=c::r)(ag:mJ c=R){t:ce}(au:kQ a (c::r)=j t):zI s (a+t.text.length,acc++[t]):=by
 obtain⟨F,J,af⟩:=h;simp only at F J af;obtain⟨bO,bC,dj⟩:=FD au;have ai:(s.drop a).length=s.length - a:=sK;have Ac:t.text.length<=(c::r).length:=by rw[dj,List.length_take];omega
 rw[<-a1,ai]at Ac;refine⟨by simp only;omega,by simp only[dy,fS];omega,?_⟩;simp only;rw[af,a1,ZE ag au,<-a1,List.drop_drop];cases hz 0 (a+t.text.length) (s.drop (a+t.text.length))with
 |inl l=>simp
 |inr e=>rfl
theorem aiz{s:List UInt8}{acc:List ce}(h:zI s (a,acc)):zI s (a+m' (s.drop a),acc):=by obtain⟨F,J,af⟩:=h;simp only at F J af;have ai:(s.drop a).length=s.length - a:=sK;have ag:=ZI (s.drop a);refine⟨by simp only;omega,by simp only;omega,?_⟩;simp only;rw[af,ZJ (s.drop a) a,List.drop_drop]
theorem axn{s:List UInt8}{acc:List ce}(h:zI s (a,acc))(aN:s.drop a=[]):hz 0 0 s= .inl acc:=by obtain⟨F,J,af⟩:=h;simp only at af;rw[af,aN,ZC];simp
theorem axo{s:List UInt8}{acc:List ce}(h:zI s (a,acc)){c:UInt8}{r:List UInt8}(a1:s.drop a=c::r)(ag:mJ c=R)(au:kQ a (c::r)=Z):hz 0 0 s= .inr a:=by obtain⟨F,J,af⟩:=h;simp only at af;rw[af,a1,ZF ag au]
theorem axp(s:List UInt8):zI s (0,[]):=by refine⟨hK _,bS _,?_⟩;simp only[List.drop_zero,j6];cases hz 0 0 s<;>rfl
section
variable{h:ad}
theorem axq{F:ad}{e:aU}{v:I}{l:List ce}(aN:Acc am F e v (jy l))(q:Int×Int):dP (.bx [v,jd q])=j (.bx [e4 e (jy l),jd q]):=by have:=FB aN (axj l);simp only[dP,lP,this,g3]
theorem axr(s:List UInt8)(az:s.length<=1000000):aM ak T 70 [.str s] h=j (.inl (.bx [e4 j0 (jy (ib s).1),jd (ib s).2]),h):=by
 by_cases cc:6000<s.length
 ·have e:ib s=([],(3,6000)):=if_pos cc;rw[e];have xN:(6000:Int)<(s.length:Int):=by omega
  refine jn TR rfl λb' cf=>?_;unfold ML;simp only[ap,aw,aA,ar,ct,xN];exact cf _ _ (.bx [.aC,jd (3,6000)]) (by simp only[ap,aw]) (aK.push _ _) rfl
 ·have xN:¬(6000:Int)<(s.length:Int):=by omega
  have axs:∀h,aM ak T 91 [.str s,.int o 0,.fn 92 [] []] h=j (.inl (.int o ((m' s:Nat):Int)),h):=λh=>MM (h:=h) (λc h=>ait (h:=h) c) s 0 (by omega) az;refine jn TR rfl λb' cf=>?_;unfold ML;simp only[ap,aw,aA,ar,ct,xN,axs];generalize TX:h.push [[I.int o 0,.int o 0]]=F;have a6:F.cell h.n=j [[.int o 0,.int o 0]]:=by rw[<-TX];exact fU
  have g1:aK h F:=by rw[<-TX];exact aK.push _ _
  have ep:F.n=h.n+1:=by rw[<-TX];rfl
  refine TV (λq:Nat×List ce=>s.length - q.1) (λq V E=>∃v ij hZ iy ti,V=[.str s,.aC,.ptr h.n 0 0,v,.int o ((q.1:Nat):Int),ij,hZ,.bool R,iy,ti]/\Acc F E j0 v (jy q.2)/\aK F E/\zI s q/\∀c r,s.drop q.1=c::r->mJ c=R) ?_ (m' s,[]) ⟨_,_,_,_,_,rfl,vO _ _ _,aK.refl _,by have:=aiz (axp s);rw[List.drop_zero,gH]at this;exact this,λc r e=>O3 s e⟩;rintro⟨a,acc⟩ V E ⟨v,ij,hZ,iy,ti,rfl,aN,ob,sp,SB⟩ next
  simp only at sp SB next ⊢
  have axt:=sp;obtain⟨dk,dH,g0⟩:=axt;simp only at dk dH;have nK:E.cell h.n=j [[.int o 0,.int o 0]]:=(ob.cell _ (by omega)).trans a6;cases a1:s.drop a with
  |nil=>
    have ai:(s.drop a).length=s.length - a:=sK;rw[a1]at ai;have bt:¬(a:Int)<(s.length:Int):=by simp only[ey]at ai;omega
    have e:=axk cc (axn sp a1);rw[e]at cf;rw[dd MJ.eq_1];simp only[ap,aw,aA,ar,cz,bt,nK];exact cf _ _ (.bx [v,jd (0,0)]) (by simp only[ap,aw]) ((g1.trans ob).set (by omega)) (axq aN _)
  |cons c r=>
    obtain⟨d1,d2,d3,d4⟩:=aix a1;have ag:=SB c r a1;have bt:(a:Int)<(s.length:Int):=by omega
    have av:=λh=>axi (h:=h) s a c r a1 az;have gv:h.n≠E.n:=by have:=ob.n;omega
    have axu:∀x,(E.push [x]).cell h.n=j [[.int o 0,.int o 0]]:=λx=>(eG (by have:=ob.n;omega)).trans nK;rw[a1]at av;cases au:kQ a (c::r)with
    |none=>have e:=axl cc (axo sp a1 ag au);rw[e]at cf;rw[au]at av;simp only[MN]at av;rw[dd MJ.eq_1];simp only[ap,aw,aA,ar,ct,cz,bt,av,axu,eZ];exact cf _ _ (.bx [.aC,jd (7,a)]) (by simp only[ap,aw]) (((g1.trans ob).trans (aK.push _ _)).set (by omega)) rfl
    |some t=>
      rw[au]at av;simp only[MN,ce.row]at av;have aiA:=axm sp a1 ag au;have axv:=aiA;obtain⟨k2,te,_⟩:=axv;simp only at k2 te;obtain⟨bO,bC,dj⟩:=FD au;have axw:=aiz aiA;have mu:=ZI (s.drop (a+t.text.length));have py:(s.drop (a+t.text.length)).length=s.length - (a+t.text.length):=sK;have cg:hq o ((a:Int)+(t.text.length:Int))=((a+t.text.length:Nat):Int):=oj (by omega) (by omega) (by omega);have dS:hq o (((a+t.text.length:Nat):Int)+((m' (s.drop (a+t.text.length)):Nat):Int))=((a+t.text.length+m' (s.drop (a+t.text.length)):Nat):Int):=oj (by omega) (by omega) (by omega);have rq:∀h,aM ak T 91 [.str s,.int o ((a+t.text.length:Nat):Int),.fn 92 [] []] h=j (.inl (.int o ((m' (s.drop (a+t.text.length)):Nat):Int)),h):=λh=>MM (h:=h) (λc h=>ait (h:=h) c) s (a+t.text.length) (by omega) az;have Ev:Acc F (E.push [ce.row t]) j0 v (jy acc):=aN;obtain⟨v2,J,ax,a2,cK,c6,cR⟩:=vP Ev (ob.trans (aK.push _ _)) (row:=ce.row t) rfl (by rw[gG];omega);have aiB:J.cell E.n=j [ce.row t]:=by rw[c6];exact fU
      simp only[ce.row,qj]at ax aiB;rw[dd MJ.eq_1];simp only[ap,aw,aA,ar,ct,cz,bt,av,ax,aiB,cg,rq,dS];refine next (a+t.text.length+m' (s.drop (a+t.text.length)),acc++[t]) _ _ (by simp only;omega) ⟨_,_,_,_,_,rfl,?_,cK,axw,λc r e=>?_⟩
      ·simp only[jy,rR,gP,kK]at a2 ⊢;exact a2
      ·simp only at e;rw[<-List.drop_drop]at e;exact O3 _ e
end
abbrev qC:aU:=147
def iL(h:ad)(b:Nat)(e:Int)(l:List ce):Prop:=∃v,h.cell b=j [[v,.int o e]]/\fH j0 v (jy l)
def bo(h:ad)(b:Nat)(e:Int)(r:List ce):ad:=h.set b (j [[.bN Z j0 (jy r),.int o e]])
theorem iL.bo(h:ad)(b:Nat)(e:Int)(r:List ce):iL (bo h b e r) b e r:=⟨_,i7,.inr ⟨_,rfl⟩⟩
theorem H2{t:aU}{cs:List I}:Fo t (.agg cs)=j (.iface t (.agg cs)):=rfl
theorem axx{h:ad}(s:List UInt8):aM ak T 70 [.str s] h=j (.inl (.bx [e4 j0 (jy (ib s).1),jd (ib s).2]),h):=by
 by_cases az:s.length<=1000000
 ·exact axr s az
 ·have cc:6000<s.length:=by omega
  have e:ib s=([],(3,6000)):=if_pos cc;rw[e];have xN:(6000:Int)<(s.length:Int):=by omega
  refine jn TR rfl λb' cf=>?_;unfold ML;simp only[ap,aw,aA,ar,ct,xN];exact cf _ _ (.bx [.aC,jd (3,6000)]) (by simp only[ap,aw]) (aK.push _ _) rfl
theorem aiC{e:aU}{x:List I}{q:kf}:ku (.bN id e (x::es)) (j (.int q 1)) Z=j (.bN Z e es):=by simp only[ku,p5,qM,gY,oO,da,dw];rw[if_pos ⟨by omega,by omega,by omega⟩];simp
section
variable{h:ad}
theorem H3{b:Nat}{l:List ce}(p:iL h b e l)(code:Int):aM ak T 95 [.ptr b 0 0,.int o code] h=j (.inr (.iface qC (jd (lx e l code))),h):=by
 obtain⟨v,al,az⟩:=p;cases l with
 |nil=>
   have U:v= .aC\/∃id,v= .bN id j0 []:=by
    rcases az with⟨_,h⟩|h
    ·exact .inl h
    ·exact .inr h
   by_cases bw:code=5
   ·have d5:decide (code=5)=Q:=decide_eq_true bw;rcases U with rfl|⟨id,rfl⟩
    ·refine bd HX rfl ?_;unfold Es;simp only[ap,aw,aA,ar,ct,al,d5,uI,H2,Int.lt_irrefl];rw[show lx e [] code=(6,e) by simp[lx,bw]];rw[yS rfl,yT];exact vt (aK.refl _) rfl
    ·refine bd HX rfl ?_;unfold Es;simp only[ap,aw,aA,ar,ct,al,d5,uI,H2,Int.lt_irrefl];rw[show lx e [] code=(6,e) by simp[lx,bw]];rw[yS rfl,yT];exact vt (aK.refl _) rfl
   ·have d5:decide (code=5)=R:=decide_eq_false bw;rcases U with rfl|⟨id,rfl⟩
    ·refine bd HX rfl ?_;unfold Es;simp only[ap,aw,aA,ar,ct,al,d5,uI,H2,Int.lt_irrefl];rw[show lx e [] code=(code,e) by simp[lx,bw]];rw[yS rfl,yT];exact vt (aK.refl _) rfl
    ·refine bd HX rfl ?_;unfold Es;simp only[ap,aw,aA,ar,ct,al,d5,uI,H2,Int.lt_irrefl];rw[show lx e [] code=(code,e) by simp[lx,bw]];rw[yS rfl,yT];exact vt (aK.refl _) rfl
 |cons t r=>
   obtain⟨id,rfl⟩:∃id,v= .bN id j0 (t.row::jy r):=by
    rcases az with⟨h,_⟩|h
    ·cases h
    ·exact h
   have ai:(0:Int)<((t.row::jy r).length:Int):=by simp only[dw];omega
   have i0:fg (j j0) Z (.bN id j0 (t.row::jy r)) (.int o 0)=j (.ip [.int o (t.at':Nat),.str t.text,.bool t.num,.int o t.n] 0):=yU (i:=0) rfl rfl;have jh:(0:Int)<(((jy r).length+1:Nat):Int):=by omega
   refine bd HX rfl ?_;unfold Es;simp only[ap,aw,aA,ar,ct,al,jh,i0,H2];rw[yS rfl,yT];exact vt (aK.refl _) rfl
theorem aiD{b:Nat}{l:List ce}(p:iL h b e l){s:List UInt8}(ae:o5 s l=j r):aM ak T 94 [.ptr b 0 0,.str s] h=j (.inl (.bool Q),bo h b e r):=by
 obtain⟨v,al,az⟩:=p;obtain⟨t,rfl,kT,rfl⟩:=ZK ae;obtain⟨id,rfl⟩:∃id,v= .bN id j0 (t.row::jy r):=by
  rcases az with⟨h,_⟩|h
  ·cases h
  ·exact h
 have jh:(0:Int)<(((jy r).length+1:Nat):Int):=by omega
 have i0:fg (j j0) Z (.bN id j0 (t.row::jy r)) (.int o 0)=j (.ip [.int o (t.at':Nat),.str t.text,.bool R,.int o t.n] 0):=by have:=yU (q:= o) (e:=j0) (el:=j0) (id:=id) (es:=t.row::jy r) (i:=0) (r:=t.row) rfl rfl;simp only[ce.row,kT]at this ⊢;exact this
 refine bd HY rfl ?_;unfold Et;simp only[ap,aw,aA,ar,ct,al,jh,i0,aiC,eq_self];rfl
theorem aiE{b:Nat}{l:List ce}(p:iL h b e l){s:List UInt8}(ae:o5 s l=Z):aM ak T 94 [.ptr b 0 0,.str s] h=j (.inl (.bool R),h):=by
 obtain⟨v,al,az⟩:=p;cases l with
 |nil=>
   have U:v= .aC\/∃id,v= .bN id j0 []:=by
    rcases az with⟨_,h⟩|h
    ·exact .inl h
    ·exact .inr h
   rcases U with rfl|⟨id,rfl⟩
   ·refine bd HY rfl ?_;unfold Et;simp only[ap,aw,aA,ar,al,uI,Int.lt_irrefl]
   ·refine bd HY rfl ?_;unfold Et;simp only[ap,aw,aA,ar,al,uI,Int.lt_irrefl]
 |cons t r=>
   obtain⟨id,rfl⟩:∃id,v= .bN id j0 (t.row::jy r):=by
    rcases az with⟨h,_⟩|h
    ·cases h
    ·exact h
   have jh:(0:Int)<(((jy r).length+1:Nat):Int):=by omega
   have i0:fg (j j0) Z (.bN id j0 (t.row::jy r)) (.int o 0)=j (.ip [.int o (t.at':Nat),.str t.text,.bool t.num,.int o t.n] 0):=yU (i:=0) rfl rfl;have aq:¬(t.num=R/\t.text=s):=by intro bz;simp only[o5,if_pos bz]at ae;cases ae
   cases hm:t.num with
   |true=>rw[hm]at i0;refine bd HY rfl ?_;unfold Et;simp only[ap,aw,aA,ar,al,jh,i0]
   |false=>rw[hm]at i0;have aO:decide (t.text=s)=R:=decide_eq_false λe=>aq ⟨hm,e⟩;refine bd HY rfl ?_;unfold Et;simp only[ap,aw,aA,ar,al,jh,i0,aO]
theorem TY{b:Nat}{l:List ce}(p:iL h b e l){s:List UInt8}(hw:na e s l= .ok r):aM ak T 72 [.ptr b 0 0,.str s] h=j (.inl (.bx []),bo h b e r):=by have av:=aiD p (vU hw);refine bd aia rfl ?_;unfold TN;simp only[ap,aw,aA,ar,av]
theorem axy{s:List UInt8}{l:List ce}{f:Int×Int}(h:na e s l= .error f):o5 s l=Z/\f=lx e l 5:=by
 unfold na at h;split at h
 ·cases h
 ·rename_i aq;injection h with h;exact⟨aq,h.symm⟩
theorem TZ{b:Nat}{l:List ce}(p:iL h b e l){s:List UInt8}{f:Int×Int}(hw:na e s l= .error f):aM ak T 72 [.ptr b 0 0,.str s] h=j (.inr (.iface qC (jd f)),h):=by obtain⟨aq,rfl⟩:=axy hw;have av:=aiE p aq;have ax:=H3 p 5;refine bd aia rfl ?_;unfold TN;simp only[ap,aw,aA,ar,av,ax]
theorem iL.cons{b:Nat}{t:ce}(p:iL h b e (t::r)):∃id,h.cell b=j [[.bN id j0 (t.row::jy r),.int o e]]/\(0:Int)<(((jy r).length+1:Nat):Int)/\(¬(((jy r).length+1:Nat):Int)=0)/\fg (j j0) Z (.bN id j0 (t.row::jy r)) (.int o 0)=j (.ip [.int o (t.at':Nat),.str t.text,.bool t.num,.int o t.n] 0):=by
 obtain⟨v,al,az⟩:=p;obtain⟨id,rfl⟩:∃id,v= .bN id j0 (t.row::jy r):=by
  rcases az with⟨h,_⟩|h
  ·cases h
  ·exact h
 exact⟨id,al,by omega,by omega,yU (i:=0) rfl rfl⟩
theorem iL.nil{b:Nat}(p:iL h b e []):h.cell b=j [[.aC,.int o e]]\/∃id,h.cell b=j [[.bN id j0 [],.int o e]]:=by
 obtain⟨v,al,az⟩:=p;rcases az with⟨_,rfl⟩|⟨id,rfl⟩
 ·exact .inl al
 ·exact .inr ⟨id,al⟩
theorem aiF{b:Nat}{n:Int}{l:List ce}(p:iL h b e l)(aq:nD e l= .ok (n,r)):aM ak T 98 [.ptr b 0 0] h=j (.inl (.int o n),bo h b e r):=by obtain⟨t,rfl,kT,rfl⟩:=O' aq;obtain⟨id,al,ai,aR,i0⟩:=p.cons;rw[kT]at i0;refine bd MG rfl ?_;unfold HZ;simp only[ap,aw,aA,ar,ct,al,aR,i0,aiC];rfl
theorem T0{b:Nat}{l:List ce}{f:Int×Int}(p:iL h b e l)(aq:nD e l= .error f):aM ak T 98 [.ptr b 0 0] h=j (.inr (.iface qC (jd f)),h):=by
 have ax:=H3 p 5;cases l with
 |nil=>
   rw[show f=lx e [] 5 from(Except.error.inj aq).symm];rcases p.nil with al|⟨id,al⟩
   ·refine bd MG rfl ?_;unfold HZ;simp only[ap,aw,aA,ar,al,uI,eq_self,ax]
   ·refine bd MG rfl ?_;unfold HZ;simp only[ap,aw,aA,ar,al,uI,eq_self,ax]
 |cons t r=>
   obtain⟨id,al,ai,aR,i0⟩:=p.cons;simp only[nD]at aq;split at aq
   ·cases aq
   ·rename_i hm;rw[show f=lx e (t::r) 5 from(Except.error.inj aq).symm];have hm:t.num=R:=by simpa using hm
    rw[hm]at i0;refine bd MG rfl ?_;unfold HZ;simp only[ap,aw,aA,ar,al,aR,i0,ax]
theorem axz{b:Nat}{n:Int}{l:List ce}(p:iL h b e l)(aq:q3 e l= .ok (n,r)):aM ak T 99 [.ptr b 0 0] h=j (.inl (.int o n),bo h b e r):=by
 obtain⟨t,rfl,kT,rfl,ep,gC⟩:=ZL aq;have aE:nD e (t::r)= .ok (t.n,r):=by simp[nD,kT]
 have av:=aiF p aE;obtain⟨id,al,ai,aR,i0⟩:=p.cons;rw[kT]at i0;have d1:decide (t.n<0)=R:=decide_eq_false (by omega);have d2:decide (999<t.n)=R:=decide_eq_false (by omega);refine bd Eu rfl ?_;unfold BU;simp only[ap,aw,aA,ar,al,ai,i0,d1,d2,av]
theorem axA{b:Nat}{l:List ce}{f:Int×Int}(p:iL h b e l)(aq:q3 e l= .error f):aM ak T 99 [.ptr b 0 0] h=j (.inr (.iface qC (jd f)),h):=by
 cases l with
 |nil=>
   have av:=T0 p (show nD e []= .error f from aq);rcases p.nil with al|⟨id,al⟩
   ·refine bd Eu rfl ?_;unfold BU;simp only[ap,aw,aA,ar,al,uI,Int.lt_irrefl,av]
   ·refine bd Eu rfl ?_;unfold BU;simp only[ap,aw,aA,ar,al,uI,Int.lt_irrefl,av]
 |cons t r=>
   obtain⟨id,al,ai,aR,i0⟩:=p.cons;simp only[q3]at aq;split at aq
   ·rename_i hm;rw[show f=lx e (t::r) 1 from(Except.error.inj aq).symm];have ax:=H3 p 1;rw[hm.1]at i0;cases d1:decide (t.n<0)with
    |true=>refine bd Eu rfl ?_;unfold BU;simp only[ap,aw,aA,ar,al,ai,i0,d1,ax]
    |false=>have d2:decide (999<t.n)=Q:=decide_eq_true (hm.2.resolve_left (of_decide_eq_false d1));refine bd Eu rfl ?_;unfold BU;simp only[ap,aw,aA,ar,al,ai,i0,d1,d2,ax]
   ·rename_i hm;have av:=T0 p aq;have an:t.num=R:=by
     cases an:t.num with
     |false=>rfl
     |true=>simp only[nD,an,if_true]at aq;cases aq
    rw[an]at i0;refine bd Eu rfl ?_;unfold BU;simp only[ap,aw,aA,ar,al,ai,i0,av]
theorem aiG{b:Nat}{l:List ce}(p:iL h b e l){g:cH}{of:Int->List UInt8}(a7:∀(k:Int) (h:ad),aM ak T g [.int o k] h=j (.inl (.str (of k)),h)){ly:Nat}(hm:ly<=1000):∃q E,aM ak T 96 [.ptr b 0 0,.int o (ly:Int),.fn g [] []] h=j (q,E)/\(match vT e ly of l with
    |.ok (k,r)=>q= .inl (.int o k)/\E=bo h b e r
    |.error f=>q= .inr (.iface qC (jd f))/\E=h):=by
 have ax:=H3 p 5;refine F3 axa rfl λb' cf eJ=>?_;unfold aif;simp only[ap,aw,aA,ar];refine TV (λk:Nat=>ly+1 - k) (λk V E=>∃ij hZ,V=[.ptr b 0 0,.int o (ly:Int),.fn g [] [],.int o 0,.int o ((k:Nat):Int),ij,hZ]/\E=h/\1<=k/\k<=ly+1/\vT e ly of l=ql e of l (ly+1 - k) k) ?_ 1 ⟨_,_,rfl,rfl,by omega,by omega,rfl⟩;rintro k V E ⟨ij,hZ,rfl,rfl,c8,c6,ab⟩ next
 have T1:hq o ((k:Int)+1)=((k+1:Nat):Int):=oj (by omega) (by omega) (by omega);by_cases bt:k<=ly
 ·have DN:(k:Int)<=(ly:Int):=by omega
  obtain⟨c,al⟩:∃c,ly+1 - k=c+1:=⟨ly - k,by omega⟩;cases ae:o5 (of k) l with
  |some r=>
    have av:=aiD p ae;have U:vT e ly of l= .ok ((k:Int),r):=by rw[ab,al,ql,ae]
    rw[dd MH.eq_1];simp only[ap,aw,aA,ar,cz,cx,DN,a7,av];exact cf _ _ _ rfl (by rw[U];exact⟨rfl,rfl⟩)
  |none=>have av:=aiE p ae;rw[dd MH.eq_1];simp only[ap,aw,aA,ar,cz,cx,DN,a7,av,T1];exact next (k+1) _ _ (by omega) ⟨_,_,rfl,rfl,by omega,by omega,by rw[ab,al,ql,ae,show ly+1 - (k+1)=c by omega]⟩
 ·have DN:¬(k:Int)<=(ly:Int):=by omega
  have U:vT e ly of l= .error (lx e l 5):=by rw[ab,show ly+1 - k=0 by omega,ql]
  rw[dd MH.eq_1];simp only[ap,aw,aA,ar,cz,DN,ax];exact eJ _ _ _ (by rw[U];exact⟨rfl,rfl⟩)
end
def T2:List bj:=[HS,.ops [aX,adh,.i (.v 2) QG],.cond (.v 2) [HS,.ret] [],.ops [.i .l (.build [.str [],.str [],.str [],.str [],.str [],.str [],.str [],.str [],.str [],.str [],.str [],.str [],.str [],.str [],.str [],.str [],.str [],.str [],.str [],.str [],.str [],.str []] [(0,1),(1,1),(2,1),(3,1),(4,1),(5,1),(6,1),(7,1),(8,1),(9,1),(10,1),(11,1),(12,1),(13,1),(14,1),(15,1),(16,1),(17,1),(18,1),(19,1),(20,1),(21,1)] [(0,(.c (.str []))),(1,(.c (.str [110,105,108]))),(2,(.c (.str [110,117,109]))),(3,(.c (.str [97,114,103]))),(4,(.c (.str [118,97,114]))),(5,(.c (.str [108,101,116]))),(6,(.c (.str [98,105,110]))),(7,(.c (.str [105,102]))),(8,(.c (.str [112,97,105,114]))),(9,(.c (.str [102,115,116]))),(10,(.c (.str [115,110,100]))),(11,(.c (.str [115,101,97,108]))),(12,(.c (.str [111,112,101,110]))),(13,(.c (.str [114,101,97,100]))),(14,(.c (.str [119,114,105,116,101]))),(15,(.c (.str [110,97,114,114,111,119]))),(16,(.c (.str [119,114,97,112]))),(17,(.c (.str [99,117,116]))),(18,(.c (.str [99,97,108,108]))),(19,(.c (.str [97,115,107]))),(20,(.c (.str [107,101,101,112]))),(21,(.c (.str [107,101,112,116])))]),aX,ac6,lE],.ret]
theorem aiH:cw ak T 97 1 3 [0,2,5] T2 [(.v 1)] Q:=by refine⟨_,_,Tryz.func97,rfl,rfl,?_,?_,?_,?_,?_⟩<;>kernel_rfl
def MP:List bj:=[HS,.ops [aX,GG,cU,za,.g (.l 1) R .l (.bin (.int o) .gtr (.l 0) (.c (.int o 5))),ac5],.cond (.v 2) [HS,.ret] [],.ops [.i .l (.build [.str [],.str [],.str [],.str [],.str [],.str []] [(0,1),(1,1),(2,1),(3,1),(4,1),(5,1)] [(0,(.c (.str []))),(1,(.c (.str [97,100,100]))),(2,(.c (.str [115,117,98]))),(3,(.c (.str [109,117,108]))),(4,(.c (.str [108,101,115,115]))),(5,(.c (.str [101,113])))]),aX,.i .l (.bR R (j (6,(1,R))) (.l 1) (.l 0)),lE],.ret]
theorem T3:cw ak T 100 1 3 [0,2,8] MP [(.v 1)] Q:=by refine⟨_,_,Tryz.func100,rfl,rfl,?_,?_,?_,?_,?_⟩<;>kernel_rfl
section
variable{h:ad}
theorem axB:∀{op:Int},¬op<1->¬21<op->sY R (j (22,(1,R))) (.agg (O1.map I.str)) (.int o op)=j (.str (AM op)):=by intro op F J;rcases Ri F J with rfl|rfl|rfl|rfl|rfl|rfl|rfl|rfl|rfl|rfl|rfl|rfl|rfl|rfl|rfl|rfl|rfl|rfl|rfl|rfl|rfl<;>rfl
theorem axC{k:Int}(F:¬k<1)(J:¬5<k):k=1\/k=2\/k=3\/k=4\/k=5:=by omega
theorem axD:∀{k:Int},¬k<1->¬5<k->sY R (j (6,(1,R))) (.agg (O2.map I.str)) (.int o k)=j (.str (AN k)):=by intro k F J;rcases axC F J with rfl|rfl|rfl|rfl|rfl<;>rfl
theorem axE(h:op<1\/21<op):fX op= -1:=by
 unfold fX;split
 ·omega
 ·split
  ·omega
  ·split
   ·omega
   ·split<;>omega
theorem aiI(F:¬op<1)(J:¬21<op):¬fX op<0:=by rcases Ri F J with rfl|rfl|rfl|rfl|rfl|rfl|rfl|rfl|rfl|rfl|rfl|rfl|rfl|rfl|rfl|rfl|rfl|rfl|rfl|rfl|rfl<;>decide
theorem axF(op:Int):aM ak T 97 [.int o op] h=j (.inl (.str (AM op)),h):=by
 have rb:=λh=>Rj (h:=h) op;by_cases ag:op<1\/21<op
 ·have e:AM op=[]:=if_pos ag;rw[axE ag]at rb;refine jn aiH rfl λb' cf=>?_;unfold T2;simp only[ap,aw,aA,ar,ct,rb,Int.reduceLT];rw[e]at cf;exact cf _ _ _ rfl (aK.refl _) rfl
 ·have F:¬op<1:=λe=>ag (.inl e);have J:¬21<op:=λe=>ag (.inr e);have hp:=aiI F J;have bR:=axB F J;simp only[O1,gP,kK]at bR;refine jn aiH rfl λb' cf=>?_;unfold T2;simp only[ap,aw,aA,ar,ct,rb,hp,bR];exact cf _ _ _ rfl (aK.refl _) rfl
theorem axG(k:Int):aM ak T 100 [.int o k] h=j (.inl (.str (AN k)),h):=by
 by_cases F:k<1
 ·have e:AN k=[]:=if_pos (.inl F);rw[e];refine jn T3 rfl λb' cf=>?_;unfold MP;simp only[ap,aw,aA,ar,ct,F];exact cf _ _ _ rfl (aK.refl _) rfl
 ·by_cases J:5<k
  ·have e:AN k=[]:=if_pos (.inr J);rw[e];refine jn T3 rfl λb' cf=>?_;unfold MP;simp only[ap,aw,aA,ar,ct,F,J];exact cf _ _ _ rfl (aK.refl _) rfl
  ·have bR:=axD F J;simp only[O2,gP,kK]at bR;refine jn T3 rfl λb' cf=>?_;unfold MP;simp only[ap,aw,aA,ar,ct,F,J,bR];exact cf _ _ _ rfl (aK.refl _) rfl
end
structure h1(h E:ad)(b:Nat):Prop where
 n:h.n<=E.n
 ids:h.ids<=E.ids
 cell:∀q,q<h.n->q≠b->E.cell q=h.cell q
 hw:∀k,k<h.ids->E.hw k=h.hw k
section
variable{h F E:ad}{b:Nat}
theorem h1.trans(x:h1 h F b)(y:h1 F E b):h1 h E b:=⟨ee x.n y.n,ee x.ids y.ids,λq aE aq=>(y.cell q (eF aE x.n) aq).trans (x.cell q aE aq),λk ab=>(y.hw k (eF ab x.ids)).trans (x.hw k ab)⟩
theorem h1.push(h:ad)(es:List (List I))(b:Nat):h1 h (h.push es) b:=⟨Nat.le_succ _,bS _,λq aE _=>eG aE,λ_ _=>rfl⟩
theorem h1.bo(h:ad)(b:Nat)(e:Int)(r:List ce):h1 h (bo h b e r) b:=⟨bS _,bS _,λq _ aq=>dL aq,λ_ _=>rfl⟩
theorem h1.set(x:h1 h E b){c:Nat}(al:h.n<=c)(es:Option (List (List I))):h1 h (E.set c es) b:=⟨x.n,x.ids,λq aE aq=>(dL (by omega)).trans (x.cell q aE aq),x.hw⟩
theorem iL.fs{l:List ce}(p:iL h b e l)(al:E.cell b=h.cell b):iL E b e l:=by obtain⟨v,F,J⟩:=p;exact⟨v,al.trans F,J⟩
def aiJ(h:ad):ad:={n:=0,cell:=λ_=>Z,ids:=h.ids,hw:=h.hw}
theorem h1.IE(x:h1 h E b):aK (aiJ h) E:=⟨hK _,x.ids,λq aE=>absurd aE (Nat.not_lt_zero _),x.hw⟩
theorem Acc.cZ{e:aU}{v:I}(aN:Acc am h e v acc)(x:h1 h E b):Acc am E e v acc:=by
 rcases aN with⟨aP,a2⟩|⟨id,a0,aP,a2,a3,a4⟩
 ·exact .inl ⟨aP,a2⟩
 ·exact .inr ⟨id,a0,aP,eF a2 x.ids,(x.hw id a2).trans a3,a4⟩
theorem Acc.Bj{e:aU}{v:I}(aN:Acc am h e v acc):fH e v acc:=by
 rcases aN with⟨rfl,rfl⟩|⟨id,_,_,_,_,rfl⟩
 ·exact .inl ⟨rfl,rfl⟩
 ·exact .inr ⟨_,rfl⟩
theorem Acc.tX{e:aU}{v:I}(aN:Acc am h e v acc):v.cells=[v]:=by rcases aN with⟨rfl,rfl⟩|⟨id,_,_,_,_,rfl⟩<;>rfl
theorem Acc.uE{e:aU}{v:I}(aN:Acc am h e v acc):v.one=Q:=by rcases aN with⟨rfl,rfl⟩|⟨id,_,_,_,_,rfl⟩<;>rfl
end
abbrev je:List I:=[.int o 0,.int o 0,.int o 0,.aC]
theorem T4{r row:List I}:∀{acc rs:List (List I)},ki acc=j rs->lP row=j r->ki (acc++[row])=j (rs++[r])
 |[],rs,h,aj=>by simp only[ki,hg]at h;subst h;simp only[j6,ki,aj]
 |x::acc,rs,h,aj=>by
   simp only[ki]at h;cases an:lP x with
   |none=>rw[an]at h;simp at h
   |some hV=>
     cases aN:ki acc with
     |none=>rw[an,aN]at h;simp at h
     |some axH=>rw[an,aN]at h;simp only[hg]at h;subst h;simp only[kq,ki,an,T4 aN aj]
theorem T5(x:bk):∀l:List bk,jQ (l++[x])=jQ l++[AL x]
 |[]=>rfl
 |y::l=>by simp only[kq,jQ,T5 x l]
theorem aiK:∀l:List bk,(jQ l).length=l.length
 |[]=>rfl
 |y::l=>by simp only[jQ,dw,aiK l]
theorem aiL:∀{acc rs:List (List I)},ki acc=j rs->rs.length=acc.length
 |[],rs,h=>by simp only[ki,hg]at h;subst h;rfl
 |x::acc,rs,h=>by
   simp only[ki]at h;cases an:lP x with
   |none=>rw[an]at h;simp at h
   |some hV=>
     cases aN:ki acc with
     |none=>rw[an,aN]at h;simp at h
     |some axH=>rw[an,aN]at h;simp only[hg]at h;subst h;simp only[dw,aiL aN]
theorem Acc.axI{h:ad}{v:I}{xs:List bk}(aN:Acc am h fh v acc)(hw:ki acc=j (jQ xs)):dP v=j (e4 fh (jQ xs)):=by
 have ai:=aiL hw;rcases aN with⟨rfl,rfl⟩|⟨id,a0,_,_,_,rfl⟩
 ·have:jQ xs=[]:=mF.1 (by rw[ai];rfl);rw[this];rfl
 ·have:jQ xs≠[]:=λe=>a0 (mF.1 (by rw[<-ai,e];rfl));simp only[dP,hw,g3,e4,if_neg this]
def aiM(e:Int)(b:Nat)(E:ad)(q:I⊕I):Except (Int×Int) (bk×List ce)->Prop
 |.ok (x,r)=>(∃row,q= .inl (.agg row)/\j9 x row/\lP row=j (AL x))/\iL E b e r
 |.error f=>q= .inr (.iface qC (jd f))
section
variable{h:ad}
theorem axJ(e:Int){b:Nat}{l:List ce}(ag:b<h.n)(p:iL h b e l):∃q E,aM ak T 73 [.ptr b 0 0,.int o 31] h=j (q,E)/\h1 h E b/\aiM e b E q (iT e 0 l):=by have ax:=H3 (p.fs (E:=h.push [[.int o 0,.int o 0,.int o 0,.aC]]) (eG ag)) 4;refine F3 aih rfl λb' cf eJ=>?_;unfold TP;simp only[ap,aw,aA,ar,Int.reduceLT,ax];exact eJ _ _ _ ⟨h1.push _ _ _,rfl⟩
theorem axK(F:1<=op)(J:op<=21):0<=fX op:=by have:=aiI (op:=op) (by omega) (by omega);omega
theorem aiN(e:Int):∀(cn:Nat),cn<=31->∀(h:ad) (b:Nat) (l:List ce),b<h.n->iL h b e l->∃q E,aM ak T 73 [.ptr b 0 0,.int o (31 - (cn:Int))] h=j (q,E)/\h1 h E b/\aiM e b E q (iT e cn l):=by
 intro cn;induction cn with
 |zero=>intro _ h b l ag p;exact axJ e ag p
 |succ cn aW=>
   intro iR h b l ag p;have aW:=aW (by omega);have T6:hq o (31 - ((cn+1:Nat):Int)+1)=31 - (cn:Int):=oj (by omega) (by omega) (by omega);have d0:¬(30:Int)<31 - ((cn+1:Nat):Int):=by omega
   generalize 31 - ((cn+1:Nat):Int)=Ew at T6 d0 ⊢;have t1:h1 h (h.push [[.int o 0,.int o 0,.int o 0,.aC]]) b:=h1.push _ _ _;have dU:iL (h.push [[.int o 0,.int o 0,.int o 0,.aC]]) b e l:=p.fs (eG ag);have a6:(h.push [[.int o 0,.int o 0,.int o 0,.aC]]).cell h.n=j [je]:=fU;have ep:(h.push [[.int o 0,.int o 0,.int o 0,.aC]]).n=h.n+1:=rfl;refine F3 aih rfl λb' cf eJ=>?_;unfold TP;cases hw:na e [40] l with
   |error f=>have av:=TZ dU hw;simp only[ap,aw,aA,ar,d0,av];exact eJ _ _ _ ⟨t1,by simp only[iT,hw];rfl⟩
   |ok b5=>
     have av:=TY dU hw;obtain⟨bM,af,aiO,cR⟩:=aiG (iL.bo (h.push [[.int o 0,.int o 0,.int o 0,.aC]]) b e b5) (of:=AM) (λk h=>axF (h:=h) k) (ly:=21) (by omega);have ax:aM ak T 96 [.ptr b 0 0,.int o 21,.fn 97 [] []] (bo (h.push [[.int o 0,.int o 0,.int o 0,.aC]]) b e b5)=j (bM,af):=aiO;clear aiO;cases hp:vT e 21 AM b5 with
     |error f=>rw[hp]at cR;obtain⟨rfl,rfl⟩:=cR;simp only[ap,aw,aA,ar,d0,av,ax];exact eJ _ _ _ ⟨t1.trans (h1.bo _ _ _ _),by simp only[iT,hw,hp];rfl⟩
     |ok v=>
       obtain⟨op,ca⟩:=v;rw[hp]at cR;obtain⟨rfl,rfl⟩:=cR;obtain⟨bO,bC,_⟩:=JD hp;have zR:0<=fX op:=axK bO (by omega);have t3:h1 h (bo (bo (h.push [[.int o 0,.int o 0,.int o 0,.aC]]) b e b5) b e ca) b:=(t1.trans (h1.bo _ _ _ _)).trans (h1.bo _ _ _ _);have ia:iL (bo (bo (h.push [[.int o 0,.int o 0,.int o 0,.aC]]) b e b5) b e ca) b e ca:=iL.bo _ _ _ _;have c3:(bo (bo (h.push [[.int o 0,.int o 0,.int o 0,.aC]]) b e b5) b e ca).cell h.n=j [je]:=(dL (by omega)).trans ((dL (by omega)).trans a6);have jS:(bo (bo (h.push [[.int o 0,.int o 0,.int o 0,.aC]]) b e b5) b e ca).n=h.n+1:=rfl;generalize bo (bo (h.push [[.int o 0,.int o 0,.int o 0,.aC]]) b e b5) b e ca=af at t3 ia c3 jS ax;have rb:=λh=>Rj (h:=h) op;have whole:∀k n dK,mK e op ca= .ok (k,n,dK)->iT e (cn+1) l=match lz (iT e cn) (fX op).toNat dK with
         |.error f=>.error f
         |.ok (xs,kM)=>match na e [41] kM with
           |.error f=>.error f
           |.ok jN=>.ok (.mk op k n xs,jN):=λk n dK aN=>by simp only[iT,hw,hp,aN];cases lz (iT e cn) (fX op).toNat dK<;>rfl
       have BZ:∀f,mK e op ca= .error f->iT e (cn+1) l= .error f:=λf aN=>by simp only[iT,hw,hp,aN]
       generalize iT e (cn+1) l=out at whole BZ cf eJ;have aiP:∀(k n:Int) (dK:List ce) (bw:ad) (hZ hb iy:I),mK e op ca= .ok (k,n,dK)->h1 h bw b->bw.cell h.n=j [je]->bw.cell af.n=j [[.int o op,.int o k,.int o n,.aC]]->af.n<bw.n->iL bw b e dK->b' (bu (aM ak T) 12 (.ff BV::.bQ []::.b1 1::[.bQ [(.ops [aX,(.i .l (.call (.c (.fn 72 [] [])) [(.l 0),(.c (.str [41]))]))]),(.ops [(.i .l (.load Q 4 (.v 3))),zH]),.ret]]) [.ptr b 0 0,.int o Ew,.ptr h.n 0 0,.ptr af.n 0 0,.bool R,.int o op,hZ,hb,iy,.int o (fX op),.int o 0,.aD] [] bw):=by
        intro k n dK bw hZ hb iy aN t5 c5 fP vS oW;have ye:=whole k n dK aN;obtain⟨pV,axL⟩:∃pV:Nat,fX op=(pV:Int):=⟨(fX op).toNat,by omega⟩;have aBi:pV<=3:=by have:=anh op;omega
        rw[axL]at ye ⊢;simp only[rV]at ye;refine TV (λq:Nat×List bk×List ce=>pV - q.1) (λq V E=>∃v acc pT,V=[.ptr b 0 0,.int o Ew,.ptr h.n 0 0,.ptr af.n 0 0,.bool R,.int o op,hZ,hb,iy,.int o (pV:Int),.int o ((q.1:Nat):Int),pT]/\h1 h E b/\E.cell h.n=j [je]/\E.cell af.n=j [[.int o op,.int o k,.int o n,v]]/\af.n<E.n/\Acc (aiJ h) E fh v acc/\hy q.2.1 acc/\ki acc=j (jQ q.2.1)/\iL E b e q.2.2/\q.2.1.length=q.1/\q.1<=pV/\lz (iT e cn) pV dK=(match lz (iT e cn) (pV - q.1) q.2.2 with
          |.error f=>.error f
          |.ok (dR,r)=>.ok (q.2.1++dR,r))) ?_ (0,[],dK) ⟨.aC,[],_,rfl,t5,c5,fP,vS,vO _ _ _,rfl,rfl,oW,rfl,hK _,by simp only[Nat.sub_zero,j6];cases lz (iT e cn) pV dK<;>rfl⟩
        rintro⟨i,xs,zf⟩ V E ⟨v,acc,pT,rfl,cM,aiQ,oz,aiR,ac,sq,yf,pl,hlen,hle,ue⟩ next
        simp only at sq yf pl hlen hle ue next ⊢
        by_cases ae:i<pV
        ·have bt:(i:Int)<(pV:Int):=by omega
         have T1:hq o ((i:Int)+1)=((i+1:Nat):Int):=oj (by omega) (by omega) (by omega);obtain⟨q,eT,ny,nP,rr⟩:=aW E b zf (eF ag cM.n) pl;have aiS:eT.cell af.n=j [[.int o op,.int o k,.int o n,v]]:=(nP.cell _ aiR (by have:=jS;omega)).trans oz;have axM:eT.cell h.n=j [je]:=(nP.cell _ (by have:=cM.n;omega) (by omega)).trans aiQ;obtain⟨c,al⟩:∃c,pV - i=c+1:=⟨pV - i - 1,by omega⟩;have jJ:pV - (i+1)=c:=by omega
         cases au:iT e cn zf with
         |error f=>
           rw[au]at rr;obtain rfl:q= .inr (.iface qC (jd f)):=rr;have axN:out= .error f:=by rw[ye,ue,al,lz,au]
           rw[dd BV.eq_1];simp only[ap,aw,aA,ar,cz,bt,oz,T6,ny];exact eJ _ _ _ ⟨cM.trans nP,by rw[axN];rfl⟩
         |ok z=>
           obtain⟨x,r⟩:=z;rw[au]at rr;obtain⟨⟨row,rfl,wH,jx⟩,wC⟩:=rr;obtain⟨fv,fT⟩:=wH.one;have aBj:=sq.len;have t2:=cM.trans nP;obtain⟨v2,cc,kr,iI,hT,iD,uL⟩:=vP (ac.cZ nP) t2.IE fv (by omega);have axO:cc.cell af.n=j [[.int o op,.int o k,.int o n,v]]:=by rw[iD];exact aiS
           have axP:=iI.uE;have axQ:=iI.tX;rw[dd BV.eq_1];simp only[ap,aw,aA,ar,cz,bt,oz,T6,ny,aiS,fv,fT,kr,axO,axP,axQ,T1];refine next (i+1,xs++[x],r) _ _ (by simp only;omega) ⟨v2,acc++[row],_,rfl,?_,?_,i7,?_,?_,sq.append wH,by rw[T5];exact T4 yf jx,?_,by simp[hlen],by omega,?_⟩
           ·have t6:h1 h cc b:=⟨by rw[uL];exact t2.n,hT.ids,λq aE aq=>by rw[iD];exact t2.cell q aE aq,hT.hw⟩;exact t6.set (by omega) _
           ·rw[dL (by omega),iD];exact axM
           ·rw[iF,uL];exact eF aiR nP.n
           ·exact iI
           ·refine wC.fs ?_;rw[dL (by omega),iD]
           ·rw[ue,al,lz,au];simp only;rw[jJ];cases lz (iT e cn) c r with
            |error f=>rfl
            |ok z=>simp
        ·have bt:¬(i:Int)<(pV:Int):=by omega
         obtain rfl:i=pV:=by omega
         rw[Nat.sub_self,lz]at ue;simp only[me]at ue;rw[ue]at ye;simp only at ye;cases aE:na e [41] zf with
         |error f=>have kS:=TZ pl aE;rw[aE]at ye;rw[dd BV.eq_1];simp only[ap,aw,aA,ar,cz,bt,kS];exact eJ _ _ _ ⟨cM,by rw[ye];rfl⟩
         |ok jN=>
           have kS:=TY pl aE;rw[aE]at ye;have axR:(bo E b e jN).cell af.n=j [[.int o op,.int o k,.int o n,v]]:=(dL (by omega)).trans oz;have axS:(bo E b e jN).cell h.n=j [je]:=(dL (by omega)).trans aiQ;have axT:=ac.uE;rw[dd BV.eq_1];simp only[ap,aw,aA,ar,cz,bt,kS,axR,axS,axT];refine cf _ _ (.agg [.int o op,.int o k,.int o n,v]) (by simp only[ap,aw]) ⟨(cM.trans (h1.bo _ _ _ _)).set (bS _) _,?_⟩;rw[ye];refine⟨⟨_,rfl,?_,?_⟩,(iL.bo _ _ _ _).fs (dL (by omega))⟩
           ·simp only[j9];exact⟨v,acc,rfl,ac.Bj,sq⟩
           ·have:=ac.axI yf;simp only[lP,dP,this,AL]
       have k1:iL (af.push [[.int o op,.int o 0,.int o 0,.aC]]) b e ca:=ia.fs (eG (by omega));have t4:h1 h (af.push [[.int o op,.int o 0,.int o 0,.aC]]) b:=t3.trans (h1.push _ _ _);have z4:(af.push [[.int o op,.int o 0,.int o 0,.aC]]).cell h.n=j [je]:=(eG (by omega)).trans c3;have hu:∀dK,(bo (af.push [[.int o op,.int o 0,.int o 0,.aC]]) b e dK).cell af.n=j [[.int o op,.int o 0,.int o 0,.aC]]:=λdK=>(dL (by omega)).trans fU;have ir:∀(k n:Int) (dK:List ce) (hZ hb iy:I),mK e op ca= .ok (k,n,dK)->b' (bu (aM ak T) 12 (.ff BV::.bQ []::.b1 1::[.bQ [(.ops [aX,(.i .l (.call (.c (.fn 72 [] [])) [(.l 0),(.c (.str [41]))]))]),(.ops [(.i .l (.load Q 4 (.v 3))),zH]),.ret]]) [.ptr b 0 0,.int o Ew,.ptr h.n 0 0,.ptr af.n 0 0,.bool R,.int o op,hZ,hb,iy,.int o (fX op),.int o 0,.aD] [] ((bo (af.push [[.int o op,.int o 0,.int o 0,.aC]]) b e dK).set af.n (j [[.int o op,.int o k,.int o n,.aC]]))):=λk n dK hZ hb iy aN=>
        aiP k n dK _ hZ hb iy aN ((t4.trans (h1.bo _ _ _ _)).set (by omega) _) ((dL (by omega)).trans ((dL (by omega)).trans z4)) i7 (q6 _) ((iL.bo _ _ _ _).fs (dL (by omega)))
       by_cases bM:op=2
       ·have fT:decide (op=2)=Q:=decide_eq_true bM;cases aN:nD e ca with
        |error f=>have mQ:=T0 k1 aN;simp only[ap,aw,aA,ar,ct,d0,av,ax,fT,mQ];exact eJ _ _ _ ⟨t4,by rw[BZ f (by rw[mK,if_pos bM,aN])];rfl⟩
        |ok v=>obtain⟨n,dK⟩:=v;have mQ:=aiF k1 aN;simp only[ap,aw,aA,ar,ct,d0,av,ax,fT,mQ,hu,rb];exact ir 0 n dK _ _ _ (by rw[mK,if_pos bM,aN])
       ·have fT:decide (op=2)=R:=decide_eq_false bM;by_cases eB:op=4\/op=18\/op=15
        ·have zB:(decide (op=4)=Q/\True)\/(decide (op=4)=R/\decide (op=18)=Q)\/(decide (op=4)=R/\decide (op=18)=R/\decide (op=15)=Q):=by
          rcases eB with rfl|rfl|rfl
          ·exact .inl ⟨rfl,trivial⟩
          ·exact .inr (.inl ⟨rfl,rfl⟩)
          ·exact .inr (.inr ⟨rfl,rfl,rfl⟩)
         cases aN:q3 e ca with
         |error f=>
           have mQ:=axA k1 aN;have nZ:=BZ f (by rw[mK,if_neg bM,if_pos eB,aN]);rcases zB with⟨hF,_⟩|⟨hF,vh⟩|⟨hF,vh,B0⟩
           ·simp only[ap,aw,aA,ar,ct,d0,av,ax,fT,hF,mQ];exact eJ _ _ _ ⟨t4,by rw[nZ];rfl⟩
           ·simp only[ap,aw,aA,ar,ct,d0,av,ax,fT,hF,vh,mQ];exact eJ _ _ _ ⟨t4,by rw[nZ];rfl⟩
           ·simp only[ap,aw,aA,ar,ct,d0,av,ax,fT,hF,vh,B0,mQ];exact eJ _ _ _ ⟨t4,by rw[nZ];rfl⟩
         |ok v=>
           obtain⟨k,dK⟩:=v;have mQ:=axz k1 aN;have nZ:mK e op ca= .ok (k,0,dK):=by rw[mK,if_neg bM,if_pos eB,aN]
           rcases zB with⟨hF,_⟩|⟨hF,vh⟩|⟨hF,vh,B0⟩
           ·simp only[ap,aw,aA,ar,ct,d0,av,ax,fT,hF,mQ,hu,rb];exact ir k 0 dK _ _ _ nZ
           ·simp only[ap,aw,aA,ar,ct,d0,av,ax,fT,hF,vh,mQ,hu,rb];exact ir k 0 dK _ _ _ nZ
           ·simp only[ap,aw,aA,ar,ct,d0,av,ax,fT,hF,vh,B0,mQ,hu,rb];exact ir k 0 dK _ _ _ nZ
        ·have hF:decide (op=4)=R:=decide_eq_false λq=>eB (.inl q);have vh:decide (op=18)=R:=decide_eq_false λq=>eB (.inr (.inl q));have B0:decide (op=15)=R:=decide_eq_false λq=>eB (.inr (.inr q));by_cases mH:op=6
         ·have tg:decide (op=6)=Q:=decide_eq_true mH;obtain⟨Sz,nt,K9,zc⟩:=aiG k1 (of:=AN) (λk h=>axG (h:=h) k) (ly:=5) (by omega);have mQ:aM ak T 96 [.ptr b 0 0,.int o 5,.fn 100 [] []] (af.push [[.int o op,.int o 0,.int o 0,.aC]])=j (Sz,nt):=K9;clear K9;cases aN:vT e 5 AN ca with
          |error f=>rw[aN]at zc;obtain⟨rfl,rfl⟩:=zc;simp only[ap,aw,aA,ar,ct,d0,av,ax,fT,hF,vh,B0,tg,mQ];exact eJ _ _ _ ⟨t4,by rw[BZ f (by rw[mK,if_neg bM,if_neg eB,if_pos mH,aN])];rfl⟩
          |ok v=>obtain⟨k,dK⟩:=v;rw[aN]at zc;obtain⟨rfl,rfl⟩:=zc;simp only[ap,aw,aA,ar,ct,d0,av,ax,fT,hF,vh,B0,tg,mQ,hu,rb];exact ir k 0 dK _ _ _ (by rw[mK,if_neg bM,if_neg eB,if_pos mH,aN])
         ·have tg:decide (op=6)=R:=decide_eq_false mH;simp only[ap,aw,aA,ar,ct,d0,av,ax,fT,hF,vh,B0,tg,rb];exact aiP 0 0 ca _ _ _ _ (by rw[mK,if_neg bM,if_neg eB,if_neg mH]) t4 z4 fU (q6 _) k1
end
theorem T7{h:ad}{b:Nat}{es:Option (List (List I))}(al:h.cell b=es):h.set b es=h:=by
 cases h with
 |mk=>
   simp only[ad.set,ad.mk.injEq,and_true,true_and];funext k;by_cases ab:k=b
   ·subst ab;simpa using al.symm
   ·simp[ab]
section
variable{aB:ad}{b n x:Nat}{v Ew hk ij hZ hb iy ti ve pT wD x9 zA H4 aBk aBl H5:I}{e:Int}{i:Nat}{L:List ce}{f:Int×Int}
end
open Go Go.Lib
theorem aiT{f:List ce->Except (Int×Int) (bk×List ce)}(bn:∀l x r,f l= .ok (x,r)->x.size+r.length<=l.length):∀{n:Nat} {l r:List ce} {xs:List bk},lz f n l= .ok (xs,r)->fO xs+r.length<=l.length
 |0,l,r,xs,h=>by injection h with h;injection h with F h;subst h F;simp[fO]
 |n+1,l,r,xs,h=>by
   simp only[lz]at h;split at h
   ·cases h
   ·rename_i x q an;have F:=bn _ _ _ an;split at h
    ·cases h
    ·rename_i dR z bq;have J:=aiT bn bq;injection h with h;injection h with af h;subst h af;simp only[fO];omega
theorem aiU(e:Int):∀(cn:Nat) (l:List ce) (x:bk) (r:List ce),iT e cn l= .ok (x,r)->x.size+r.length<=l.length
 |0,l,x,r,h=>by cases h
 |cn+1,l,x,r,h=>by obtain⟨op,k,n,xs,b5,ca,dK,kM,rfl,F,J,af,aB,bw⟩:=ZP h;have aP:=vV (vU F);have a2:=vV (JD J).2.2;have a3:=ZN af;have a4:=aiT (aiU e cn) aB;have a5:=vV (vU bw);rw[bk.size_eq];simp only[bk.l];omega
theorem GE{e:Int}:∀{N ou:Nat} {l:List ce},l.length<=N->l.length<=ou->kR e N l=kR e ou l
 |_,_,[],_,_=>by simp only[kR]
 |0,_,t::l,h,_=>by simp at h
 |_,0,t::l,_,h=>by simp at h
 |N+1,ou+1,t::l,F,J=>by
   simp only[kR];cases hw:na e O9 (t::l)with
   |error f=>rfl
   |ok b5=>
     have aP:=vV (vU hw);simp only;cases an:iT e 31 b5 with
     |error f=>rfl
     |ok q=>obtain⟨x,r⟩:=q;have a2:=Pa e 31 b5 x r an;simp only;rw[GE (N:=N) (ou:=ou) (l:=r) (by simp at F aP;omega) (by simp at J aP;omega)]
theorem aiV{e:Int}:∀{N:Nat} {l:List ce} {xs:List bk},kR e N l= .ok xs->fO xs<=l.length
 |_,[],xs,h=>by simp only[kR]at h;injection h with h;subst h;simp[fO]
 |0,t::l,xs,h=>by simp only[kR]at h;injection h with h;subst h;simp[fO]
 |N+1,t::l,xs,h=>by
   simp only[kR]at h;split at h
   ·cases h
   ·rename_i b5 hw;have aP:=vV (vU hw);split at h
    ·cases h
    ·rename_i x r an;have a2:=aiU e 31 b5 x r an;split at h
     ·cases h
     ·rename_i dR bq;have a3:=aiV bq;injection h with h;subst h;simp only[fO];omega
theorem aiW:∀(l:List bk),l.length<=fO l
 |[]=>hK _
 |x::l=>by have:=aiW l;have:=x.size_pos;simp only[fO,dw];omega
theorem aiX:∀{l:List bk} {x:bk},x∈l->x.size<=fO l
 |y::l,x,h=>by
   simp only[fO];rcases gW.1 h with rfl|h
   ·omega
   ·have:=aiX h;omega
theorem aiY:∀{bX:List ce},(∀t∈bX,t.ok)->bX.length<=(bX.map λt=>t.text.length).sum
 |[],_=>hK _
 |t::bX,h=>by
   have F:=aiY λx an=>h x (qk _ an);obtain⟨_,c,s,e,_⟩:=anm (h t (by simp)) 0 (r:=[]) (λc t e=>by cases e);have:0<t.text.length:=by rw[e];simp
   simp only[dw,gP,List.sum_cons];omega
theorem axU(s:List UInt8):(ib s).1.length<=s.length/\(ib s).1.length<=6000:=by
 unfold ib;split
 ·exact⟨hK _,hK _⟩
 ·rename_i cc;split
  ·rename_i l ai;obtain⟨F,J⟩:=O8 s.length 0 s (bS _) l ai;have:=aiY F;simp only;omega
  ·exact⟨hK _,hK _⟩
theorem T8(e:aU)(rows:List (List I)):fH e (e4 e rows) rows:=by
 unfold e4;split
 ·rename_i h;exact .inl ⟨h,rfl⟩
 ·exact .inr ⟨_,rfl⟩
theorem aK.cZ{h E eT:ad}{b:Nat}(g:aK h E)(t:h1 E eT b)(ag:h.n<=b):aK h eT:=⟨ee g.n t.n,ee g.ids t.ids,λq aE=>(t.cell q (eF aE g.n) (by omega)).trans (g.cell q aE),λk ab=>(t.hw k (eF ab g.ids)).trans (g.hw k ab)⟩
section
variable{h:ad}
end
open Go Go.RowKit
abbrev ho:cH:=48
abbrev rt:cH:=71
noncomputable def Ex:ef:=Tryz.f48.body.getD .skip
noncomputable def sr:ef:=Tryz.f71.body.getD .skip
theorem T9:(ak).funcs[rt]? =j Tryz.f71:=Tryz.func71
theorem aiZ:Tryz.f71.body=j sr:=rfl
theorem ai0:sr= .seq (dc sr) (fj sr):=rfl
theorem ai1:Tryz.f71.ntmps=18:=rfl
noncomputable def T':bb:={dst:=j 5,op:=.call {callee:=.builtin .recover,args:= #[],argTypes:= #[]},type:=((jk (dc sr)).getD 0 default).type,pos:=((jk (dc sr)).getD 0 default).pos,after:= #[],guard:=Z}
noncomputable def Ua:bb:={dst:=j 2,op:=.assign (.tmp 5),type:=((jk (dc sr)).getD 1 default).type,pos:=((jk (dc sr)).getD 1 default).pos,after:=((jk (dc sr)).getD 1 default).after,guard:=Z}
theorem axV:dc sr= .region 0 #[T',Ua] R:=rfl
abbrev Ub:List Nat:=[0,1,2,3,4,7,14]
theorem ai2:ga ak (T.ba rt) (T.ch rt) 18 Ub (fj sr) []=j TM:=by kernel_rfl
theorem ai3:ht (T.ch rt) (T.eu rt) (fj sr)=Q:=by kernel_rfl
theorem ai4:rQ 2 18 (T.aI rt) 7 Ub=Q:=by kernel_rfl
theorem ai5(a:Array bH)(w:cd):∃v,(results Tryz.f71 a).run ak w= .ok v w:=⟨.tuple #[],by simp[results,Tryz.results71]⟩
theorem ai6:Pn ak (dc sr) 18 5 2:=by
 intro bX v cs gA w dY h;rw[axV];apply wpS_region;rcases h with F|⟨F,J,af⟩
 ·simp[wpOpsS,go_sem,T',Ua,F,px,Act.eval,dY]
 ·simp[wpOpsS,go_sem,T',Ua,F,px,Act.eval,dY,J,af]
theorem ai7(x y e:I):gb 18 Ub [] (eU (eU ([x,y]++ar (18 - [x,y].length) .aD) (j 5) e) (j 2) e) [x,y,e,.aD,.aD,.aD,.aD] []:=by
 refine⟨by simp[eU],rfl,rfl,λD s aa=>?_,λD s aa=>by simp at aa⟩
 match D,aa with
 |0,aa|1,aa|2,aa|3,aa|4,aa|5,aa|6,aa=>obtain rfl:=tR aa;exact⟨by decide,rfl⟩
 |D+7,aa=>simp at aa
theorem afa:pD .iface Z Q .neq .fC .fC=j (.bool R):=rfl
theorem afb{q:aU}{v:I}:pD .iface Z Q .neq (.iface q v) .fC=j (.bool Q):=rfl
theorem Su{q:aU}{v:I}:yL q Q (.iface q v)=j (.bx [v,.bool Q]):=by simp[yL]
theorem ai8{h:ad}{fp gN:Nat}{m:dq}{w:cd}{eP:List bH}(hw:bW ak m h w)(U:dV ak m h [.ptr fp 0 0,.ptr gN 0 0] eP):CallsD ak rt eP.toArray .returning w λe k8 aJ=>(∃v,e= .returned v)/\k8= .returning/\∃aZ,Ext m h aZ h/\bW ak aZ h aJ/\Below m.base w aJ:=by refine JS cC T9 aiZ ai0 ai1 ai5 ai6 (ig ai4) ai2 ai3 (cv:=[.ptr fp 0 0,.ptr gN 0 0,.fC,.aD,.aD,.bool R,.aD]) ?_ (ai7 _ _ .fC) hw U (by simp) .fC .returning λc al cs=>.inr ⟨Z9 c al cs,rfl,rfl⟩;unfold TM;simp only[ap]
theorem axW{h:ad}{fp gN:Nat}{m:dq}{w:cd}{eP:List bH}{u:bH}{f:Int×Int}{l:I}{z:Int×Int}(hw:bW ak m h w)(U:dV ak m h [.ptr fp 0 0,.ptr gN 0 0] eP)(Bp:bF ak m h (.iface qC (jd f)) u)(cc:h.cell fp=j [[l]])(cQ:h.cell gN=j [[.int o z.1,.int o z.2]])(cP:gN≠fp)(Rs:fp<h.n)(aec:gN<h.n):CallsD ak rt eP.toArray (.panicking [{v:=u,recovered:=R}]) w λe k8 aJ=>(∃v,e= .returned v)/\k8= .panicking [{v:=u,recovered:=Q}]/\∃aZ,Ext m h aZ (((h.push [[.int o f.1,.int o f.2]]).set fp (j [[.aC]])).set gN (j [[.int o f.1,.int o f.2]]))/\bW ak aZ (((h.push [[.int o f.1,.int o f.2]]).set fp (j [[.aC]])).set gN (j [[.int o f.1,.int o f.2]])) aJ/\Below m.base w aJ:=by have iD:(h.push [[.int o f.1,.int o f.2]]).cell fp=j [[l]]:=(eG Rs).trans cc;have sW:((h.push [[.int o f.1,.int o f.2]]).set fp (j [[.aC]])).cell gN=j [[.int o z.1,.int o z.2]]:=(dL cP).trans ((eG aec).trans cQ);have St:((h.push [[.int o f.1,.int o f.2]]).set fp (j [[.aC]])).cell h.n=j [[.int o f.1,.int o f.2]]:=(dL (by omega)).trans fU;refine JS cC T9 aiZ ai0 ai1 ai5 ai6 (ig ai4) ai2 ai3 (cv:=[.ptr fp 0 0,.ptr gN 0 0,.iface qC (jd f),.ptr h.n 0 0,.bool Q,.bool Q,.bool R]) ?_ (ai7 _ _ (.iface qC (jd f))) hw U (by simp) Bp (.panicking [{v:=u,recovered:=Q}]) λc al cs=>.inl (Z' c al cs);unfold TM;simp only[ap,aw,Su,iD,sW,St]
theorem Uc:(ak).funcs[ho]? =j Tryz.f48:=Tryz.func48
theorem axX:Tryz.f48.body=j Ex:=rfl
theorem axY:Tryz.f48.ntmps=49:=rfl
noncomputable abbrev B1:ef:=fj Ex
noncomputable abbrev B2:ef:=fj B1
noncomputable abbrev ss:ef:=fj B2
noncomputable abbrev zJ:ef:=fj ss
theorem axZ:Ex= .seq (dc Ex) B1:=rfl
theorem ax0:B1= .seq (dc B1) B2:=rfl
theorem ai9:B2= .seq (dc B2) ss:=rfl
theorem ax1:ss= .seq (dc ss) zJ:=rfl
abbrev nQ:List Nat:=[0,2,3,4,5,6,14,28,44]
theorem pW:rQ 1 49 (T.aI ho) 9 nQ=Q:=by kernel_rfl
theorem ax2:ga ak (T.ba ho) (T.ch ho) 49 nQ (dc Ex) []=j ah3:=by kernel_rfl
theorem ax3:ga ak (T.ba ho) (T.ch ho) 49 nQ (dc B1) []=j ah4:=by kernel_rfl
theorem ai':ga ak (T.ba ho) (T.ch ho) 49 nQ (dc B2) []=j TG:=by kernel_rfl
theorem ax4:ht (T.ch ho) (T.eu ho) (dc Ex)=Q:=by kernel_rfl
theorem ax5:ht (T.ch ho) (T.eu ho) (dc B1)=Q:=by kernel_rfl
theorem aja:ht (T.ch ho) (T.eu ho) (dc B2)=Q:=by kernel_rfl
noncomputable abbrev zK:ef:=fj zJ
noncomputable abbrev vi:ef:=aw8 (HV (dc zK))
theorem ax6:zJ= .seq (dc zJ) zK:=rfl
theorem ax7:zK= .seq (.block 0 (.loop vi)) (fj zK):=rfl
noncomputable abbrev pg:Array bb:=jk (fj (HV (fj vi)))
theorem ax8:vi= .seq (.seq (dc (dc vi)) (.cond (.tmp 28) .skip (.exit 0))) (.block 1 (.seq (dc (HV (fj vi))) (.region 8 pg Q))):=rfl
theorem ax9:ga ak (T.ba ho) (T.ch ho) 49 nQ (dc zJ) []=j ah5:=by kernel_rfl
theorem ax':ga ak (T.ba ho) (T.ch ho) 49 nQ (dc (dc vi)) []=j ah6:=by kernel_rfl
theorem aya:ga ak (T.ba ho) (T.ch ho) 49 nQ (dc (HV (fj vi))) []=j ah8:=by kernel_rfl
theorem ayb:ga ak (T.ba ho) (T.ch ho) 49 nQ (fj zK) []=j M2:=by kernel_rfl
theorem ayc:ht (T.ch ho) (T.eu ho) (dc zJ)=Q:=by kernel_rfl
theorem ayd:ht (T.ch ho) (T.eu ho) (dc (dc vi))=Q:=by kernel_rfl
theorem aye:ht (T.ch ho) (T.eu ho) (dc (HV (fj vi)))=Q:=by kernel_rfl
theorem ayf:ht (T.ch ho) (T.eu ho) (fj zK)=Q:=by kernel_rfl
abbrev MQ(a b:List (Nat×List Nat)):List (Nat×List Nat):=[(0,[]),(1,[]),(2,[]),(4,[])]++a++[(6,[]),(7,[]),(9,[])]++b
abbrev ajb:List (Nat×List Nat):=MQ [(3,[1]),(5,[1])] [(8,[]),(10,[])]
abbrev ajc:List (Nat×List Nat):=MQ [(5,[1]),(3,[1])] [(8,[]),(10,[])]
abbrev ajd:List (Nat×List Nat):=MQ [(3,[1]),(5,[1])] [(10,[]),(8,[])]
abbrev aje:List (Nat×List Nat):=MQ [(5,[1]),(3,[1])] [(10,[]),(8,[])]
theorem ajf:tO [(3,5),(8,10)] pg ajb=Q:=by kernel_rfl
theorem ajg:tO [(5,3),(8,10)] pg ajc=Q:=by kernel_rfl
theorem ajh:tO [(3,5),(10,8)] pg ajd=Q:=by kernel_rfl
theorem aji:tO [(5,3),(10,8)] pg aje=Q:=by kernel_rfl
theorem ajj:mg ak (T.ba ho) 49 nQ pg [] (iq Q pg ajb)=j TI:=by kernel_rfl
theorem ajk:mg ak (T.ba ho) 49 nQ pg [] (iq Q pg ajc)=j TJ:=by kernel_rfl
theorem ajl:mg ak (T.ba ho) 49 nQ pg [] (iq Q pg ajd)=j TK:=by kernel_rfl
theorem ajm:mg ak (T.ba ho) 49 nQ pg [] (iq Q pg aje)=j TL:=by kernel_rfl
theorem zL:ys (T.eu ho) pg=Q:=by kernel_rfl
theorem ayg:((iO pg.size).all λD=>(pg.getD D default).after.all λe=> !kv .any e||decide (e.on<D))=Q:=by kernel_rfl
theorem H6:pg.size=11:=rfl
theorem ajn:pE ak nQ Tryz.f48.results.toList=j [.cell Q 1 1,.cell Q 2 2]:=by kernel_rfl
theorem ayh(x:I):gb 49 nQ [] ([x]++ar (49 - [x].length) .aD) ([x]++ar (nQ.length - [x].length) .aD) []:=by
 refine⟨by simp,rfl,rfl,λD s aa=>?_,λD s aa=>by simp at aa⟩
 match D,aa with
 |0,aa|1,aa|2,aa|3,aa|4,aa|5,aa|6,aa|7,aa|8,aa=>obtain rfl:=tR aa;exact⟨by decide,rfl⟩
 |D+9,aa=>simp at aa
noncomputable def ajo:bb:={dst:=j 17,op:=.makeFunc (.func rt) #[] #[.tmp 2,.tmp 3],type:=((jk (dc ss)).getD 0 default).type,pos:=((jk (dc ss)).getD 0 default).pos,after:= #[],guard:=Z}
noncomputable def ajp:bb:={dst:=Z,op:=.defer {callee:=.value (.tmp 17),args:= #[],argTypes:= #[]},type:=((jk (dc ss)).getD 1 default).type,pos:=((jk (dc ss)).getD 1 default).pos,after:=((jk (dc ss)).getD 1 default).after,guard:=Z}
theorem ayi:dc ss= .region 4 #[ajo,ajp] R:=rfl
theorem ayj(eC:eO)(a:Act)(cs:List eO)(w:cd)(dY:a.tmps.size=49):Steps ak (ew (eC.at a [.code ss]) cs w) (ew (eC.at {a.put (j 17) (s8 rt (nF a [2,3]))with defers:=k7 rt (nF a [2,3])::a.defers} [.code zJ]) cs w):=by
 have hw:(dc ss).wp ak (λe dZ aJ=>e= .normal/\aJ=w/\dZ={a.put (j 17) (s8 rt (nF a [2,3]))with defers:=k7 rt (nF a [2,3])::a.defers}) a w:=by have ad6:∀(fn:Fn) (first cap:Array bH) (w:cd),(Instr.makeFunc fn first cap).run ak w= .ok (.func fn first cap) w:=λ_ _ _ _=>rfl;rw[ayi];apply wp_region;simp[wpOps,go_sem,ajo,ajp,px,Act.eval,dY,s8,k7,nF]
 obtain⟨e,dZ,aJ,⟨rfl,rfl,rfl⟩,xv⟩:=hw eC [.code zJ] cs
 conv=>lhs;rw[ax1]
 exact .head step_seq xv
theorem ayk:∀r∈Tryz.f48.results.toList,∃i ty,r= .cell i ty/\T.eu ho i=Q:=by
 have h:Tryz.f48.results.toList.all (λr=>match r with|.cell i _=>T.eu ho i|_=>R)=Q:=by kernel_rfl
 rw[iC]at h;intro r aj;have:=h r aj;cases r with
 |tmp i=>cases this
 |cell i ty=>exact⟨i,ty,rfl,this⟩
open Go Go.RowKit
theorem l0.ayl{h:ad}{b n:Nat}{rows:List (List I)}{l:List bk}(ag:b<h.n)(al:h.cell b=j rows)(aq:rows.length=n)(ai:hy l rows):l0 h (.br b 0 n fh) l:=by
 refine⟨?_,λs=>yV,rfl,λi y bq=>?_⟩
 ·rw[<-ai.len,aq];rfl
 ·obtain⟨q,F,J⟩:=ai.get bq;have ae:i<n:=by rw[<-aq];exact(fR.1 F).1
  refine⟨.ptr b (0+i) 0,q,AF rfl ae,λE g=>?_,J⟩;rw[gm,g.cell b ag,al,gH,da,F,da];exact jP J.one.2
def tF(E:ad)(gk:Nat)(a':I)(xs:List bk):Prop:=(xs=[]/\a'= .aC)\/∃b rows,a'= .br b 0 xs.length fh/\xs≠[]/\gk<b/\b<E.n/\E.cell b=j rows/\hy xs rows/\ki rows=j (jQ xs)
def B3(h:ad)(out:List bk×(Int×Int)):h4->List I->ad->Prop
 |.ret,V,af=>V.getD 1 .aD= .ptr h.n 0 0/\V.getD 2 .aD= .ptr (h.n+1) 0 0/\aK h af/\h.n+2<af.n/\∃a',af.cell h.n=j [[a']]/\af.cell (h.n+1)=j [[.int o out.2.1,.int o out.2.2]]/\tF af (h.n+2) a' out.1
 |.panic v,V,af=>V.getD 1 .aD= .ptr h.n 0 0/\V.getD 2 .aD= .ptr (h.n+1) 0 0/\aK h af/\h.n+2<af.n/\∃(f z:Int×Int) (l:I),v= .iface qC (jd f)/\out=([],f)/\af.cell h.n=j [[l]]/\af.cell (h.n+1)=j [[.int o z.1,.int o z.2]]
 |.halt _,_,_=>False
section
variable{h:ad}
abbrev oG(h:ad)(ah:Int×Int):ad:=(h.push [[.aC]]).push [[.int o ah.1,.int o ah.2]]
theorem ajq(s:List UInt8):oi ak T ho 49 nQ [.str s] h (.halt [.code B2]) [.str s,.ptr h.n 0 0,.ptr (h.n+1) 0 0,e4 j0 (jy (ib s).1),.aD,.aD,.aD,.aD,.aD] (oG h (ib s).2):=by have hd:=oi.start (T:=T) (h:=h) Uc axX axY (ayh (.str s));have dU:=hd.next (aI:=9) (x:=.halt [.code B1]) (cv:=[.str s,.ptr h.n 0 0,.ptr (h.n+1) 0 0,.aD,.aD,.aD,.aD,.aD,.aD]) (af:=oG h (0,0)) cC axZ (ig pW) ax2 ax4 (by unfold ah3;simp only[ap,aw,aA,ar]);refine dU.next (aI:=9) cC ax0 (ig pW) ax3 ax5 ?_;have av:=λh=>axx (h:=h) s;unfold ah4;simp only[ap,aw,av]
theorem ajr(e:aU)(rows:List (List I)):(e4 e rows).one=Q/\(e4 e rows).cells=[e4 e rows]:=by unfold e4;split<;>exact⟨rfl,rfl⟩
theorem aym(s:List UInt8)(cW:(ib s).2.1≠0):AC ak ho [.str s] h (.inl (.bx [.agg [e4 fh (jQ (hA s).1)],jd (hA s).2]),h):=by
 have eJ:hA s=([],(ib s).2):=by unfold hA;rw[if_pos cW]
 rw[eJ];have p:=ajq (h:=h) s;generalize (ib s).2=ah at p cW;generalize e4 j0 (jy (ib s).1)=bV at p;have oh:decide (ah.1=0)=R:=decide_eq_false cW;have i0:(oG h ah).set h.n (j [[.aC]])=oG h ah:=T7 AI;have eW:(oG h ah).set (h.n+1) (j [[.int o ah.1,.int o ah.2]])=oG h ah:=T7 vQ;have hh:(oG h ah).cell h.n=j [[.aC]]:=AI;have c8:(oG h ah).cell (h.n+1)=j [[.int o ah.1,.int o ah.2]]:=vQ;have ia:=p.next (aI:=9) (x:=.ret) (cv:=[.str s,.ptr h.n 0 0,.ptr (h.n+1) 0 0,bV,.aD,.aD,.bool Q,.aD,.aD]) (af:=oG h ah) cC ai9 (ig pW) ai' aja (by unfold TG;generalize oG h ah=J at i0 eW hh c8;simp only[ap,aw,hh,c8,oh,i0,eW]);have r:=ia.ret (rs:=[.cell Q 1 1,.cell Q 2 2]) (v:=.bx [.agg [.aC],jd ah]) Uc ajn (by generalize oG h ah=J at hh c8;simp only[ap,aw,hh,c8]);refine r.forget (p:=Q) (e8 (by repeat (first|exact aK.refl _|refine aK.trans ?_ (aK.push _ _)|refine aK.trans ?_ (aK.fresh _ _))) rfl)
theorem ajs(E:ad):∀{xs:List bk} {rows:List (List I)} (N:Nat),hy xs rows->rows.length+6<=N->r7 N E rows=j (rows,E)
 |[],rows,N,an,eV=>by simp only[hy]at an;subst an;obtain⟨N,rfl⟩:∃ou,N=ou+1:=⟨N - 1,by omega⟩;rfl
 |x::xs,rows,N,an,eV=>by simp only[hy]at an;obtain⟨r,rs,rfl,F,J⟩:=an;simp only[dw]at eV;obtain⟨N,rfl⟩:∃ou,N=ou+6:=⟨N - 6,by omega⟩;have aW:=ajs E (N+5) J (by omega);obtain⟨v,es,rfl,U,_⟩:=F.row;rcases U with⟨_,rfl⟩|⟨id,rfl⟩<;>simp only[r7,r8,rf,aW,da,g3]
theorem ayn{s:List UInt8}{x:h4}{cv:List I}{af:ad}(hp:B3 h (hA s) x cv af):∃aB gU N ot bw,FL ak rt [.ptr h.n 0 0,.ptr (h.n+1) 0 0] af aB x/\(iS cv aB [.cell Q 1 1,.cell Q 2 2]).map iY=j gU/\rf N aB gU=j (ot,bw)/\aK h bw/\dP ot=j (.bx [.agg [e4 fh (jQ (hA s).1)],jd (hA s).2]):=by
 cases x with
 |halt K=>exact hp.elim
 |ret=>
   obtain⟨v1,v2,g,H7,a',c0,a6,hm⟩:=hp;generalize hA s=out at a6 hm;rcases hm with⟨an,rfl⟩|⟨b,rows,rfl,an,ag,nZ,tG,sq,yf⟩
   ·refine⟨af,.bx [.agg [.aC],jd out.2],9,.bx [.agg [.aC],jd out.2],af,.ret λm w eP hw U=>ai8 hw U,?_,rfl,g,?_⟩
    ·simp only[ap,aw,v1,v2,c0,a6]
    ·rw[an];rfl
   ·refine⟨af,.bx [.agg [.br b 0 out.1.length fh],jd out.2],rows.length+11,.bx [.agg [.bN Z fh rows],jd out.2],af.set b Z,.ret λm w eP hw U=>ai8 hw U,?_,?_,g.set (by omega),?_⟩
    ·simp only[ap,aw,v1,v2,c0,a6]
    ·have ai:=sq.len;have cP:out.1.length≠0:=λe=>an (mF.1 e);have uT:=ajs (af.set b Z) (rows.length+6) sq (by omega);have ze:rows.take out.1.length=rows:=List.take_of_length_le (by omega);simp only[rf,r8,tG,da,if_pos,ze];rw[if_pos ⟨by omega,cP⟩,uT];rfl
    ·have cP:jQ out.1≠[]:=λe=>an (mF.1 (by rw[<-aiK,e];rfl));simp only[dP,lP,yf,g3,e4,if_neg cP]
 |panic v=>obtain⟨v1,v2,g,H7,f,z,l,rfl,au,c0,a6⟩:=hp;rw[au];refine⟨((af.push [[.int o f.1,.int o f.2]]).set h.n (j [[.aC]])).set (h.n+1) (j [[.int o f.1,.int o f.2]]),.bx [.agg [.aC],jd f],9,.bx [.agg [.aC],jd f],_,.panic _ λm w eP u hw U Bp=>axW hw U Bp c0 a6 (by omega) (by omega) (by omega),?_,rfl,aK.set (b:=h.n+1) (aK.set (b:=h.n) (g.trans (aK.push _ _)) (by omega)) (by omega),rfl⟩;have hh:∀x y z,(((af.push [x]).set h.n (j y)).set (h.n+1) z).cell h.n=j y:=λx y z=>(dL (by omega)).trans i7;simp only[ap,aw,v1,v2,hh]
end
open Go Go.RowKit
section
variable{P:cu}{T:gZ}{f:cH}{n aI:Nat}{aT:List Nat}{h:ad}{V:List I}{K:List Item}{hc:List Deferred}{fc:h4->List I->ad->Prop}
theorem er.Ud{c A B:ef}(e:c= .seq A B)(F:er P T f n aT hc fc (.code A::.code B::K) V h):er P T f n aT hc fc (.code c::K) V h:=by subst e;exact F.seq
end
theorem ajt{h:ad}{b:Nat}(cP:a≠b)(x y:Option (List (List I))):(h.set a x).set b y=(h.set b y).set a x:=by
 simp only[ad.set,ad.mk.injEq,and_true,true_and];funext k;by_cases F:k=a
 ·subst F;simp[cP]
 ·simp[F]
theorem ayo{bz:ad}{gk:Nat}{a':I}{xs:List bk}(hm:tF bz gk a' xs)(Aa:gk<bz.n)(ai:xs.length<=1000000){jw:Nat}(aR:bz.cell jw=j [je]):∃rows nk,e0 Q fh a' (.br jw 0 1 fh) bz=j (.br bz.n 0 (xs.length+1) fh,nk)/\nk.n=bz.n+1/\nk.cell bz.n=j (rows++[je])/\hy xs rows/\ki rows=j (jQ xs)/\(∀q,q<=gk->nk.cell q=bz.cell q)/\nk.ids=bz.ids/\nk.hw=bz.hw:=by
 have he:js bz fh (.br jw 0 1 fh)=j [je]:=by simp[js,aR]
 have aN:∀s,e0 Q fh s (.br jw 0 1 fh) bz=kW Q fh s [je] bz:=λs=>by simp only[e0,he,da,fS];rw[if_neg (by decide)]
 rcases hm with⟨rfl,rfl⟩|⟨b,rows,rfl,an,ag,nZ,tG,sq,yf⟩
 ·refine⟨[],bz.push [je],?_,rfl,fU,rfl,rfl,λq aE=>eG (by omega),rfl,rfl⟩;rw[aN];rfl
 ·have gB:=sq.len;refine⟨rows,(bz.set b Z).push (rows++[je]),?_,rfl,by rw[<-iF (b:=b) (es:=Z)];exact fU,sq,yf,λq aE=>?_,rfl,rfl⟩
  ·rw[aN];have ze:rows.take xs.length=rows:=List.take_of_length_le (by omega);simp only[kW,tG,da,ze];rw[if_pos ⟨by decide,by decide,rfl⟩,if_pos ⟨trivial,trivial,ai⟩,if_pos (by omega)];rfl
  ·rw[eG (by rw[iF];omega),dL (by omega)]
theorem tF.grow{F J:ad}{gk:Nat}{a':I}{xs:List bk}(hm:tF F gk a' xs)(aq:F.n<=J.n)(al:∀q,gk<q->q<F.n->J.cell q=F.cell q):tF J gk a' xs:=by
 rcases hm with h|⟨b,rows,aP,a2,a3,a4,a5,iI⟩
 ·exact .inl h
 ·exact .inr ⟨b,rows,aP,a2,a3,by omega,(al b a3 a4).trans a5,iI⟩
section
variable{h:ad}
noncomputable abbrev aju:List Item:=.inLoop vi::.inBlock 0::[.code (fj zK)]
abbrev H8(h:ad)(s:List UInt8)(bV ij hb iy:I):List I:=[.str s,.ptr h.n 0 0,.ptr (h.n+1) 0 0,bV,.ptr (h.n+1+1) 0 0,ij,.bool R,hb,iy]
structure Ue(h E:ad)(s:List UInt8)(ah:Int×Int)(l:List ce)(xs:List bk)(a':I):Prop where
 g:aK h E
 n:h.n+2<E.n
 m:E.cell h.n=j [[a']]
 f:E.cell (h.n+1)=j [[.int o ah.1,.int o ah.2]]
 p:iL E (h.n+1+1) s.length l
 a':tF E (h.n+2) a' xs
theorem tF.one{E:ad}{gk:Nat}{a':I}{xs:List bk}(hm:tF E gk a' xs):a'.one=Q/\a'.cells=[a']/\gY a'=j xs.length/\(∀s,ko s (j fh) a'=Q):=by
 rcases hm with⟨rfl,rfl⟩|⟨b,rows,rfl,_⟩
 ·exact⟨rfl,rfl,rfl,λs=>rfl⟩
 ·exact⟨rfl,rfl,rfl,λs=>yV⟩
theorem ayp{s:List UInt8}{hc:List Deferred}{E:ad}{ah:Int×Int}{xs:List bk}{a' hb iy:I}(st:Ue h E s ah [] xs a')(an:fO xs<=100000)(au:hA s=if(fw xs).1≠0 then([],fw xs)else(xs,(0,0))):er ak T ho 49 nQ hc (B3 h (hA s)) [.code (fj zK)] (H8 h s bV .aD hb iy) E:=by
 obtain⟨g,H7,c0,a6,_,hm⟩:=st;obtain⟨bO,bC,dj,eQ⟩:=hm.one;have aBm:=aiW xs;have kx:l0 E a' xs:=by
  rcases hm with⟨rfl,rfl⟩|⟨b,rows,rfl,a2,a3,a4,a5,iI,_⟩
  ·exact l0.of (es:=[]) (.inl ⟨rfl,rfl⟩) rfl
  ·exact l0.ayl a4 a5 iI.len iI
 have bU:=adp a' xs kx (by omega) (λx vx=>by have:=aiX vx;omega);refine er.MD cC (ig pW) ayb ayf λb' dD iR eJ=>?_;unfold M2;have jU:∀x,(E.push [x]).cell h.n=j [[a']]:=λx=>(eG (by omega)).trans c0;have bT:∀x,(E.push [x]).cell (h.n+1)=j [[.int o ah.1,.int o ah.2]]:=λx=>(eG (by omega)).trans a6;have aY:∀x y,((E.push [x]).set h.n y).cell (h.n+1)=j [[.int o ah.1,.int o ah.2]]:=λx y=>(dL (by omega)).trans (bT x);have bf:∀x y,((E.push [x]).set h.n y).cell E.n=j [x]:=λx y=>(dL (by omega)).trans fU;have i0:∀x,(E.push [x]).set h.n (j [[a']])=E.push [x]:=λx=>T7 (jU x);by_cases al:(fw xs).1=0
 ·have uZ:decide ((fw xs).1=0)=Q:=decide_eq_true al;rw[if_neg (by simpa using al)]at au;simp only[ap,aw,c0,bU,uZ,jU,bT,bO,i0];refine iR _ _ ?_;rw[au];refine⟨rfl,rfl,(g.trans (aK.push _ _)).set (by omega),by rw[iF,ek];omega,a',?_,i7,?_⟩
  ·rw[dL (by omega)];exact jU _
  ·refine hm.grow (by rw[iF,ek];omega) λq F J=>?_;rw[dL (by omega),eG J]
 ·have uZ:decide ((fw xs).1=0)=R:=decide_eq_false al;rw[if_pos (by simpa using al)]at au;simp only[ap,aw,c0,bU,uZ,jU,bO,aY,bf];refine iR _ _ ?_;rw[au];refine⟨rfl,rfl,((g.trans (aK.push _ _)).set (by omega)).set (by omega),by rw[iF,iF,ek];omega,.aC,?_,i7,.inl ⟨rfl,rfl⟩⟩;rw[dL (by omega)];exact i7
theorem ayq{s:List UInt8}(hc:List Deferred){ah:Int×Int}{bV iy:I}{L:List ce}(aBn:L.length<=6000)(cW:ah.1=0)(au:∀r,kR s.length L.length L=r->hA s=match r with
   |.error f=>([],f)
   |.ok xs=>if(fw xs).1≠0 then([],fw xs)else(xs,(0,0))):
  ∀(N:Nat) (l:List ce) (xs:List bk) (E:ad) (a' hb:I),l.length<N->Ue h E s ah l xs a'->xs.length+l.length<=L.length->kR s.length L.length L=(match kR s.length l.length l with
    |.error f=>.error f
    |.ok dR=>.ok (xs++dR))->
    er ak T ho 49 nQ hc (B3 h (hA s)) (.code vi::aju) (H8 h s bV .aD hb iy) E:=by
 intro N;induction N with
 |zero=>intro l xs E a' hb ai;omega
 |succ N aW=>
   intro l xs E a' hb ai st Ad hm;have ayr:=st;obtain⟨g,H7,c0,a6,pp,GY⟩:=ayr;obtain⟨bO,bC,dj,eQ⟩:=GY.one;refine er.Ud ax8 (er.seq ?_);obtain⟨xT,Uf,eP⟩:=pp;have H9:=eP.iH.len;have ajv:=eP.iH.fits;rw[gG]at H9;refine er.MD cC (ig pW) ax' ayd λb' dD _ _=>?_;unfold ah6;cases hle:l with
   |nil=>
     rw[hle]at H9 st hm;have bt:¬(0:Int)<(([]:List ce).length:Int):=by simp
     simp only[ap,Uf,H9,ajv];refine dD _ _ (er.cond (s:=28) (D:=7) rfl rfl (er.exit rfl ?_));simp only[kR,me]at hm;have eE:=aiV hm;exact ayp st (by omega) (au _ hm)
   |cons t gL=>
     rw[hle]at H9 ai Ad hm;have bt:(0:Int)<((gL.length+1:Nat):Int):=by omega
     simp only[ap,Uf,H9,ajv,bt];refine dD _ _ (er.cond (s:=28) (D:=7) rfl rfl (er.skip (er.block (er.seq ?_))));rw[show(t::gL).length=gL.length+1 from rfl,kR]at hm;have pp:iL E (h.n+1+1) s.length (t::gL):=⟨xT,Uf,by rw[<-hle];exact eP⟩;refine er.MD cC (ig pW) aya aye λb' dD _ eJ=>?_;unfold ah8;cases hw:na s.length O9 (t::gL)with
     |error f=>have av:=TZ pp hw;rw[hw]at hm;simp only at hm;simp only[ap,av];exact eJ _ _ _ ⟨rfl,rfl,g,H7,f,ah,a',rfl,au _ hm,c0,a6⟩
     |ok b5=>
       have av:=TY pp hw;have ays:=vV (vU hw);rw[hw]at hm;simp only at hm;simp only[ap,av];refine dD _ _ (er.draw cC ayg λaBo ayt=>?_);have dU:iL (bo E (h.n+1+1) s.length b5) (h.n+1+1) s.length b5:=iL.bo _ _ _ _;have vj:(bo E (h.n+1+1) s.length b5).cell h.n=j [[a']]:=(dL (by omega)).trans c0;have sV:(bo E (h.n+1+1) s.length b5).cell (h.n+1)=j [[.int o ah.1,.int o ah.2]]:=(dL (by omega)).trans a6;have t1:h1 E (bo E (h.n+1+1) s.length b5) (h.n+1+1):=h1.bo _ _ _ _;have m1:tF (bo E (h.n+1+1) s.length b5) (h.n+2) a' xs:=GY.grow (bS _) λq F J=>dL (by omega);have ayu:h.n+2<(bo E (h.n+1+1) s.length b5).n:=H7;generalize bo E (h.n+1+1) s.length b5=F at dU vj sV t1 m1 ayu;have ir:∀(bz:ad) (jw:Nat) (x:bk) (r:List ce) (row:List I) (hb:I),iT s.length 31 b5= .ok (x,r)->h1 E bz (h.n+1+1)->bz.cell h.n=j [[a']]->bz.cell (h.n+1)=j [[.int o ah.1,.int o ah.2]]->tF bz (h.n+2) a' xs->iL bz (h.n+1+1) s.length r->j9 x row->lP row=j (AL x)->bz.cell jw=j [je]->∃nk,e0 Q fh a' (.br jw 0 1 fh) bz=j (.br bz.n 0 (xs.length+1) fh,nk)/\(∃rows,nk.cell bz.n=j (rows++[je])/\rows.length=xs.length/\nk.cell h.n=j [[a']]/\h.n<bz.n/\er ak T ho 49 nQ hc (B3 h (hA s)) (.inBlock 1::aju) (H8 h s bV .aD hb iy) ((nk.set bz.n (j (rows++[row]))).set h.n (j [[.br bz.n 0 (xs.length+1) fh]]))):=by
        intro bz jw x r row hb an cZ d0 d1 H' Ew wH jx iz;have MR:=g.cZ cZ (by omega);have aBp:=cZ.n;have el:=Pa _ _ _ _ _ an;rw[an]at hm;simp only at hm;obtain⟨rows,nk,kr,b4,kH,sq,yf,DM,h6,aJ⟩:=ayo H' (by omega) (by omega) iz;refine⟨nk,kr,rows,kH,sq.len,(DM _ (by omega)).trans d0,by omega,er.inBlock (er.inLoop (aW r (xs++[x]) _ _ _ (by omega) ⟨?_,?_,i7,?_,?_,?_⟩ (by rw[dy,fS];omega) ?_))⟩
        ·refine aK.set (aK.set (⟨?_,?_,?_,?_⟩:aK h nk) (by omega)) (by omega)
         ·rw[b4];have:=MR.n;omega
         ·rw[h6];exact MR.ids
         ·intro q aE;rw[DM q (by omega)];exact MR.cell q aE
         ·intro k ab;rw[aJ];exact MR.hw k ab
        ·rw[iF,iF,b4];omega
        ·rw[dL (by omega),dL (by omega),DM _ (by omega)];exact d1
        ·refine Ew.fs ?_;rw[dL (by omega),dL (by omega),DM _ (by omega)]
        ·refine .inr ⟨bz.n,rows++[row],by simp,by simp,by omega,by rw[iF,iF,b4];omega,(dL (by omega)).trans i7,sq.append wH,?_⟩;rw[T5];exact T4 yf jx
        ·rw[hm,GE (N:=r.length) (ou:=gL.length) (bS _) (by simp only[dw]at ays;omega)];cases kR s.length gL.length r with
         |error f=>rfl
         |ok dR=>simp
       have BZ:∀f,iT s.length 31 b5= .error f->hA s=([],f):=λf bn=>by rw[bn]at hm;exact au _ hm
       have ajw:∀b,fg (j fh) Z (.br b 0 (xs.length+1) fh) (.int o (xs.length:Int))=j (.ptr b (0+xs.length) 0):=λb=>AF rfl (by omega);have ajx:∀rows:List (List I),rows.length=xs.length->(rows++[je])[xs.length]? =j je:=λrows aj=>by exact P3 rows [] je aj.symm
       have ajy:∀(rows:List (List I)) (row:List I),rows.length=xs.length->(rows++[je]).set xs.length row=rows++[row]:=λrows row aj=>by exact Kc rows [] je row aj.symm
       rcases xe (x:=3) (y:=5) (by decide) (by rw[H6];decide) ayt (by simp) (lr _) (lr _)with Bh|Bh
       ·
        obtain⟨q,J,ny,nP,rr⟩:=aiN s.length 31 (by omega) F (h.n+1+1) b5 (by omega) dU;rw[show(31:Int) - ((31:Nat):Int)=0 from rfl]at ny;have d0:J.cell h.n=j [[a']]:=(nP.cell _ (by omega) (by omega)).trans vj;have d1:J.cell (h.n+1)=j [[.int o ah.1,.int o ah.2]]:=(nP.cell _ (by omega) (by omega)).trans sV;have B4:h1 E J (h.n+1+1):=t1.trans nP;cases an:iT s.length 31 b5 with
        |error f=>
          rw[an]at rr;obtain rfl:q= .inr (.iface qC (jd f)):=rr;have BS:∀hb iy,B3 h (hA s) (.panic (.iface qC (jd f))) (H8 h s bV .aD hb iy) J:=λhb iy=>⟨rfl,rfl,g.cZ B4 (by omega),by have:=B4.n;omega,f,ah,a',rfl,BZ f an,d0,d1⟩;rcases xe (x:=8) (y:=10) (by decide) (by rw[H6];decide) Bh (by simp) (lr _) (lr _)with qD|qD
          ·refine er.zG cC (ji.mono (λi D h=>by simp only[gW,iQ,List.not_mem_nil,or_false]at h;exact h.imp .inr id) qD) (rN ajf) zL (ig pW) ajj λb' dD _ eJ=>?_;unfold TI;simp only[ap,vj,dj,eQ,ny];exact eJ _ _ _ (BS _ _)
          ·refine er.zG cC (ji.mono (λi D h=>by simp only[gW,iQ,List.not_mem_nil,or_false]at h;exact h.imp .inr id) qD) (rN ajh) zL (ig pW) ajl λb' dD _ eJ=>?_;unfold TK;simp only[ap,vj,dj,eQ,ny];exact eJ _ _ _ (BS _ _)
        |ok z=>
          obtain⟨x,r⟩:=z;rw[an]at rr;obtain⟨⟨row,rfl,wH,jx⟩,wC⟩:=rr;obtain⟨fv,fT⟩:=wH.one;have ajz:F.n<=J.n:=nP.n;have H':tF (J.push [je]) (h.n+2) a' xs:=m1.grow (by rw[ek];omega) λq af aB=>(eG (by omega)).trans (nP.cell _ aB (by omega));obtain⟨nk,kr,rows,kH,nj,se,Kx,done⟩:=ir (J.push [je]) J.n x r row (.bool Q) an (B4.trans (h1.push _ _ _)) ((eG (by omega)).trans d0) ((eG (by omega)).trans d1) H' (wC.fs (eG (by omega))) wH jx fU;have Ug:(J.push [je]).cell h.n=j [[a']]:=(eG (by omega)).trans d0;have B5:=ajw (J.push [je]).n;have B6:=ajx rows nj;have B7:=ajy rows row nj;simp only[je,ek]at kr kH B6 B7 se Kx done Ug B5;rcases xe (x:=8) (y:=10) (by decide) (by rw[H6];decide) Bh (by simp) (lr _) (lr _)with qD|qD
          ·refine er.zG cC (ji.mono (λi D h=>by simp only[gW,iQ,List.not_mem_nil,or_false]at h;exact h.imp .inr id) qD) (rN ajf) zL (ig pW) ajj λb' dD _ eJ=>?_;have Uh:∀y,(nk.set (J.n+1) y).cell h.n=j [[a']]:=λy=>(dL (by omega)).trans se;unfold TI;simp only[ap,aw,ar,vj,dj,eQ,ny,d0,Ug,fv,fT,kr,B5,kH,B6,B7,Uh];exact dD _ _ done
          ·refine er.zG cC (ji.mono (λi D h=>by simp only[gW,iQ,List.not_mem_nil,or_false]at h;exact h.imp .inr id) qD) (rN ajh) zL (ig pW) ajl λb' dD _ eJ=>?_;have Ui:∀y,(nk.set h.n y).cell (J.n+1)=_:=λy=>(dL (by omega)).trans kH;unfold TK;simp only[ap,aw,ar,vj,dj,eQ,ny,d0,Ug,fv,fT,kr,B5,se,B6,B7,Ui];refine dD _ _ ?_;rw[ajt (by omega)];exact done
       ·
        have ayv:h1 E (F.push [je]) (h.n+1+1):=t1.trans (h1.push _ _ _);have lf:(F.push [je]).cell h.n=j [[a']]:=(eG (by omega)).trans vj;have dk:(F.push [je]).cell (h.n+1)=j [[.int o ah.1,.int o ah.2]]:=(eG (by omega)).trans sV;have aBq:h.n+2<(F.push [je]).n:=by rw[ek];omega
        obtain⟨q,J,ny,nP,rr⟩:=aiN s.length 31 (by omega) (F.push [je]) (h.n+1+1) b5 (by omega) (dU.fs (eG (by omega)));rw[show(31:Int) - ((31:Nat):Int)=0 from rfl]at ny;have d0:J.cell h.n=j [[a']]:=(nP.cell _ (by omega) (by omega)).trans lf;have d1:J.cell (h.n+1)=j [[.int o ah.1,.int o ah.2]]:=(nP.cell _ (by omega) (by omega)).trans dk;have iz:J.cell F.n=j [je]:=(nP.cell _ (by rw[ek];omega) (by omega)).trans fU;have B4:h1 E J (h.n+1+1):=ayv.trans nP;simp only[je]at ny lf;cases an:iT s.length 31 b5 with
        |error f=>
          rw[an]at rr;obtain rfl:q= .inr (.iface qC (jd f)):=rr;have BS:∀hb iy,B3 h (hA s) (.panic (.iface qC (jd f))) (H8 h s bV .aD hb iy) J:=λhb iy=>⟨rfl,rfl,g.cZ B4 (by omega),by have:=B4.n;omega,f,ah,a',rfl,BZ f an,d0,d1⟩;rcases xe (x:=8) (y:=10) (by decide) (by rw[H6];decide) Bh (by simp) (lr _) (lr _)with qD|qD
          ·refine er.zG cC (ji.mono (λi D h=>by simp only[gW,iQ,List.not_mem_nil,or_false]at h;exact h.imp .inr id) qD) (rN ajg) zL (ig pW) ajk λb' dD _ eJ=>?_;unfold TJ;simp only[ap,aw,ar,vj,dj,eQ,lf,ny];exact eJ _ _ _ (BS _ _)
          ·refine er.zG cC (ji.mono (λi D h=>by simp only[gW,iQ,List.not_mem_nil,or_false]at h;exact h.imp .inr id) qD) (rN aji) zL (ig pW) ajm λb' dD _ eJ=>?_;unfold TL;simp only[ap,aw,ar,vj,dj,eQ,lf,ny];exact eJ _ _ _ (BS _ _)
        |ok z=>
          obtain⟨x,r⟩:=z;rw[an]at rr;obtain⟨⟨row,rfl,wH,jx⟩,wC⟩:=rr;obtain⟨fv,fT⟩:=wH.one;have ajz:(F.push [je]).n<=J.n:=nP.n;have H':tF J (h.n+2) a' xs:=m1.grow (by rw[ek]at ajz;omega) λq af aB=>(nP.cell _ (by rw[ek];omega) (by omega)).trans (eG aB);obtain⟨nk,kr,rows,kH,nj,se,Kx,done⟩:=ir J F.n x r row (.bool Q) an B4 d0 d1 H' wC wH jx iz;have B5:=ajw J.n;have B6:=ajx rows nj;have B7:=ajy rows row nj;simp only[je]at kr kH B6 B7 se Kx done B5;rcases xe (x:=8) (y:=10) (by decide) (by rw[H6];decide) Bh (by simp) (lr _) (lr _)with qD|qD
          ·refine er.zG cC (ji.mono (λi D h=>by simp only[gW,iQ,List.not_mem_nil,or_false]at h;exact h.imp .inr id) qD) (rN ajg) zL (ig pW) ajk λb' dD _ eJ=>?_;have Uh:∀y,(nk.set J.n y).cell h.n=j [[a']]:=λy=>(dL (by omega)).trans se;unfold TJ;simp only[ap,aw,ar,vj,dj,eQ,lf,ny,d0,fv,fT,kr,B5,kH,B6,B7,Uh];exact dD _ _ done
          ·refine er.zG cC (ji.mono (λi D h=>by simp only[gW,iQ,List.not_mem_nil,or_false]at h;exact h.imp .inr id) qD) (rN aji) zL (ig pW) ajm λb' dD _ eJ=>?_;have Ui:∀y,(nk.set h.n y).cell J.n=_:=λy=>(dL (by omega)).trans kH;unfold TL;simp only[ap,aw,ar,vj,dj,eQ,lf,ny,d0,fv,fT,kr,B5,se,B6,B7,Ui];refine dD _ _ ?_;rw[ajt (by omega)];exact done
theorem ayw(s:List UInt8):AC ak ho [.str s] h (.inl (.bx [.agg [e4 fh (jQ (hA s).1)],jd (hA s).2]),h):=by
 by_cases cW:(ib s).2.1=0
 ·have p:=ajq (h:=h) s;obtain⟨n2,py⟩:=axU s;have eJ:∀r,kR s.length (ib s).1.length (ib s).1=r->hA s=match r with
    |.error f=>([],f)
    |.ok xs=>if(fw xs).1≠0 then([],fw xs)else(xs,(0,0)):=by
   intro r aj;unfold hA;rw[if_neg (by simpa using cW),aj];cases r<;>rfl
  have gp:fH j0 (e4 j0 (jy (ib s).1)) (jy (ib s).1):=T8 _ _;obtain⟨ajA,ajB⟩:=ajr j0 (jy (ib s).1);generalize e4 j0 (jy (ib s).1)=bV at p gp ajA ajB;generalize (ib s).2=ah at p cW;generalize (ib s).1=L at gp n2 py eJ;have oh:decide (ah.1=0)=Q:=decide_eq_true cW;have hh:(oG h ah).cell h.n=j [[.aC]]:=AI;have c8:(oG h ah).cell (h.n+1)=j [[.int o ah.1,.int o ah.2]]:=vQ;have F2:aK h (oG h ah):=(by repeat (first|exact aK.refl _|refine aK.trans ?_ (aK.push _ _)|refine aK.trans ?_ (aK.fresh _ _)));have DK:(oG h ah).n=h.n+1+1:=rfl;have ia:=p.next (aI:=9) (x:=.halt [.code ss]) (cv:=[.str s,.ptr h.n 0 0,.ptr (h.n+1) 0 0,bV,.aD,.aD,.bool R,.aD,.aD]) (af:=oG h ah) cC ai9 (ig pW) ai' aja (by unfold TG;generalize oG h ah=J at hh c8;simp only[ap,aw,hh,c8,oh]);generalize oG h ah=J at hh c8 ia F2 DK;refine aw9 (fc:=B3 h (hA s)) (gj:=[2,3]) (o6:=[1,2]) cC ia Uc ⟨_,T9,by kernel_rfl,by kernel_rfl⟩ (by decide) rfl (by decide) ayj (λhc=>?_) ayk ajn λx cv af hp=>ayn hp;refine er.Ud ax6 (er.MD cC (ig pW) ax9 ayc λb' dD _ _=>?_);unfold ah5;simp only[ap,aw,ct,ajA,ajB,DK];refine dD _ _ (er.Ud ax7 (er.block (er.loop ?_)));have st:Ue h (J.push [[bV,.int o (s.length:Int)]]) s ah L [] .aC:=⟨F2.trans (aK.push _ _),by rw[ek];omega,(eG (by omega)).trans hh,(eG (by omega)).trans c8,⟨bV,by rw[<-DK];exact fU,gp⟩,.inl ⟨rfl,rfl⟩⟩;exact ayq hc py cW eJ (L.length+1) L [] _ _ _ (q6 _) st (by simp) (by simp only[j6];cases kR s.length L.length L<;>rfl)
 ·exact aym s cW
theorem ayx(s:List UInt8):aM ak T 48 [.str s] h=j (.inl (.bx [.agg [e4 fh (jQ (hA s).1)],jd (hA s).2]),h):=by unfold aM;rw[anq];show FI _ _=_;unfold FI;exact if_pos (ayw s)
end
abbrev fW:aU:=40
abbrev gF:aU:=9
section
variable{h E am:ad}{ah ao aL aF:Nat->Prop}{L:List b2}{cb b:Nat}{rest:List I}{l s:List UInt8}
theorem ya.fs{aG:Option Nat}(B:ya h cb b aG rest l){X Y:Nat->Prop}(c:lA X Y h E)(F:¬X b)(J:∀k,aG=j k->¬X k):ya E cb b aG rest l:=by
 obtain⟨a0,v,a6,c2,c3⟩:=B.mem;refine⟨B.ty,eF B.lt c.n,a0,v,(c.cell b B.lt F).trans a6,c2,?_⟩;rcases c3 with c3|⟨c1,d1,d2,d3,d4,d5,d6⟩
 ·exact .inl c3
 ·exact .inr ⟨c1,d1,d2,(c.cell c1 d5 (J c1 d1)).trans d3,d4,eF d5 c.n,d6⟩
def nR(cb b:Nat)(rest:List I)(l:List UInt8):b2 where
 A h ah ao:=∃aG,ya h cb b aG rest l/\(∀k,ah k↔k=b\/aG=j k)/\∀D,¬ao D
 lt:=λ⟨aG,B,f,D⟩=>⟨λk ab=>by
  rcases(f k).1 ab with rfl|ab
  ·exact B.lt
  ·exact B.awT _ ab,λi ae=>absurd ae (D i)⟩
 fs:=λ⟨aG,B,f,D⟩ c F _=>⟨aG,B.fs c (F b ((f b).2 (.inl rfl))) λk ab=>F k ((f k).2 (.inr ab)),f,D⟩
theorem Uj(x:(nR cb b rest l).A h ah ao):∃a0 v,h.cell b=j [a0::v::rest]/\b<h.n:=by obtain⟨aG,B,_,_⟩:=x;obtain⟨a0,v,a6,_⟩:=B.mem;exact⟨a0,v,a6,B.lt⟩
theorem ayy(x:(nR cb b rest l).A h ah ao)(ai:l.length<=1000000000000)(az:s.length<=1000000000000):∃E,aM ak T 26 [.cF cb b,.str s] h=j (.inl (.bx [.int o s.length,.fC]),E)/\en h ah ao E (nR cb b rest (l++s)):=by
 obtain⟨aG,B,f,D⟩:=x;obtain⟨E,sn,e,ayz,w⟩:=awX B ai az;refine⟨E,e,λk=>k=b\/sn=j k,λ_=>False,⟨sn,ayz,λ_=>mN,λ_ h=>h⟩,⟨w.n,w.ids,λk ab aq=>w.cell k ab (λe=>aq ((f k).2 (.inl e))) (λe=>aq ((f k).2 (.inr e))),λk ab _=>w.hw k ab⟩,λk ab=>?_,λ_ h=>h.elim⟩;rcases ab with rfl|ab
 ·exact .inl ((f k).2 (.inl rfl))
 ·by_cases bt:k<h.n
  ·by_cases e:aG=j k
   ·exact .inl ((f k).2 (.inr e))
   ·exact absurd ab (w.buf k bt e)
  ·exact .inr (by omega)
theorem ajC(x:(nR cb b rest l).A h ah ao){ajD:List I}{a0 v:I}(al:h.cell b=j [a0::v::rest]):en h ah ao (h.set b (j [a0::v::ajD])) (nR cb b ajD l):=by
 obtain⟨aG,B,f,D⟩:=x;obtain⟨aP,v1,a6,c2,c3⟩:=B.mem;rw[al]at a6;injection a6 with a6;injection a6 with a6 _;injection a6 with a6 sV;injection sV with sV _;subst a6 sV;refine⟨ah,ao,⟨aG,⟨B.ty,B.lt,a0,v,i7,c2,?_⟩,f,D⟩,⟨bS _,bS _,λk ab aq=>dL (λe=>aq ((f k).2 (.inl e))),λ_ _ _=>rfl⟩,λ_ h=>.inl h,λ_ h=>.inl h⟩;rcases c3 with c3|⟨c1,d1,d2,d3,d4,d5,d6⟩
 ·exact .inl c3
 ·exact .inr ⟨c1,d1,d2,(dL d4).trans d3,d4,d5,d6⟩
abbrev B8(b:Nat)(c:pS)(il:I)(K:eM)(told:List UInt8):List b2:=nR fW b [il,.ptr c.wt 0 0] told::k6 gF il (K.text.map λx=>[.str x])::sm c K.W
def kI(b:Nat)(c:pS)(K:eM)(told:List UInt8):b2:=s5 λil:I=>cX (B8 b c il K told)
variable{c:pS}{K:eM}{told:List UInt8}{il:I}
theorem zM(x:(kI b c K told).A h ah ao):∃il,aQ h ah ao h (B8 b c il K told):=by obtain⟨il,x⟩:=x;exact⟨il,aQ.start x⟩
theorem wI(s:aQ am aL aF h (B8 b c il K told)):en am aL aF h (kI b c K told):=en.imp (λ_ _ _ x=>⟨il,x⟩) s
theorem ayA(x:(nR fW b rest l).A h ah ao)(hw:ws.length<=1000000)(ai:l.length<=1000000000000)(az:(jv ws [32]).length+1<=1000000000000):∃E,aM ak T 19 [.cF fW b,.bN id gF (ws.map λx=>[.str x])] h=j (.inl (.bx []),E)/\en h ah ao E (nR fW b rest (l++iV ws)):=by obtain⟨E,e,d⟩:=ayy x ai (s:=iV ws) (by unfold iV;simp;omega);have En:=λh=>Tq (id:=id) (e:=gF) (by kernel_rfl) hw (by omega) (h:=h) (sep:=[32]) (xs:=ws);have kr:dC .str .add (.str (jv ws [32])) (.str [10])=j (.str (iV ws)):=qA rfl (by simp;omega);refine⟨E,?_,d⟩;refine bd aw1 rfl ?_;unfold ahA;simp only[ap,aw,aA,ar,En,kr,e]
end
structure l5(k:Nat)(K:eM):Prop where
 w:zD k K.W
 wf:qx K.W.H
 fd:bL K.W.code
 at':bL K.W.at_
 j2:K.text.length<=200
 bX:∀x∈K.text,x.length<=20000
theorem ayB{W:eh}{y:jI}(F:bL W.code)(J:bL W.at_)(af:bL W.n):bL (W.ik y).code/\bL (W.ik y).at_:=by
 unfold eh.ik;split
 ·exact⟨by unfold bL;simp only;omega,af⟩
 ·exact⟨F,J⟩
theorem ajE:∀(l:List jI) (W:eh),bL W.code->bL W.at_->bL W.n->bL (l.foldl eh.ik W).code/\bL (l.foldl eh.ik W).at_
 |[],W,F,J,_=>⟨F,J⟩
 |y::l,W,F,J,af=>by have h:=ayB (y:=y) F J af;exact ajE l (W.ik y) h.1 h.2 (by rw[(Th W y).2.2.1];exact af)
theorem ayC(W:eh)(x:iU):(W.note x).code=W.code/\(W.note x).at_=W.at_/\(W.note x).n=W.n:=by
 unfold eh.note;split
 ·exact⟨rfl,rfl,rfl⟩
 ·split<;>exact⟨rfl,rfl,rfl⟩
theorem ayD{W:eh}{x:iU}(F:bL W.code)(J:bL W.at_)(af:bL W.n):bL (W.step x).1.code/\bL (W.step x).1.at_/\(W.step x).2.2.1=(W.step x).1.code/\(W.step x).2.2.2=(W.step x).1.at_:=by
 have key:∀ke:eh,bL ke.code->bL ke.at_->bL ke.n->bL ((((W.H.step x).1.S.log.drop W.H.S.log.length).foldl eh.ik ke)).code/\bL ((((W.H.step x).1.S.log.drop W.H.S.log.length).foldl eh.ik ke)).at_:=λke a b c=>ajE _ ke a b c;have c6:bL (W.step x).1.code/\bL (W.step x).1.at_:=by
  unfold eh.step;simp only;split
  ·have n:=ayC {W with H:=(W.H.step x).1} x;exact key _ (by rw[n.1];exact F) (by rw[n.2.1];exact J) (by rw[n.2.2];exact af)
  ·exact key {W with H:=(W.H.step x).1} F J af
 exact⟨c6.1,c6.2,rfl,rfl⟩
theorem l5.i64{k:Nat}{K:eM}(O:l5 k K)(ab:k<=1000):bL K.W.n:=by rw[O.w.n];unfold bL;omega
theorem l5.step{k:Nat}{K:eM}(O:l5 k K)(ab:k<=1000){x:iU}(aq:bL x.n)(hm:∀y∈x.m,y.mx)(an:x.kind=1->bL (fw x.m).1):l5 (k+1) (K.qy x).1/\D' (K.W.step x).2.1/\bL (K.W.step x).2.2.1/\bL (K.W.step x).2.2.2:=by have h:=O.wf.step aq hm an;have e:=To K.W x;have w:=ayD (x:=x) O.fd O.at' (O.i64 ab);refine⟨⟨O.w.step x,by show qx (K.W.step x).1.H;rw[e.1];exact h.1,w.1,w.2.1,O.j2,O.bX⟩,by rw[e.2];exact h.2,by rw[w.2.2.1];exact w.1,by rw[w.2.2.2];exact w.2.1⟩
theorem Ey{v:ay}(h:v.code=0)(hw:v.wf):v.fault=0/\v.size<=40/\v.text.length<=1200:=by
 have J:=h;unfold ay.code at J;split at J
 ·cases J
 ·have:=ahv _ v (bS _) J hw;exact⟨J,by omega,by omega⟩
section
variable{h E am:ad}{ah ao aL aF:Nat->Prop}{L:List b2}{b:Nat}{rest:List I}{l:List UInt8}{c:pS}{K:eM}{told:List UInt8}{il:I}
theorem yg{n:Int}(aq:bL n):aM ak T 49 [.int o n] h=j (.inl (.str (ie n)),h):=by have e:=awU aq h;refine bd aw2 rfl ?_;unfold ahB;simp only[ap,aw,aA,ar,e]
theorem zN(s:aQ am aL aF h L)(i:Nat)(ae:L[i]? =j (nR fW b rest l))(hw:ws.length<=1000000)(ai:l.length<=1000000000000)(az:(jv ws [32]).length+1<=1000000000000):∃E,aM ak T 19 [.cF fW b,.bN id gF (ws.map λx=>[.str x])] h=j (.inl (.bx []),E)/\aQ am aL aF E (L.set i (nR fW b rest (l++iV ws))):=s.call i ae λah ao x=>ayA x hw ai az
theorem Ez(a b:List UInt8):(jv [a,b] [32]).length=a.length+b.length+1:=by rw[S1];simp;omega
theorem EA(a b d:List UInt8):(jv [a,b,d] [32]).length=a.length+b.length+d.length+2:=by simp[jv,List.intercalate];omega
theorem nl{n:Int}(h:bL n):(ie n).length<=21:=Lib.itoa_length_le _ h.1 h.2
theorem yh(s:aQ am aL aF h L)(i:Nat)(ae:L[i]? =j (nR fW b [il,.ptr c.wt 0 0] l)):cO R 1 h (.ptr b 0 3)=j (.ptr c.wt 0 0)/\cO R 1 h (.ptr b 0 2)=j il:=by obtain⟨ah,ao,x⟩:=s.get i ae;obtain⟨a0,v,tG,_⟩:=Uj x;rw[gm,tG,gm,tG];exact⟨rfl,rfl⟩
theorem ayE{kind:Int}{q:eh×mv×Int×Int}(F:q.2.1.code=0->q.2.1.v.code=0)(J:D' q.2.1)(af:bL q.2.2.1)(aB:bL q.2.2.2):(x8 kind q).length<=2000:=by
 have a:=nl af;have b:=nl aB;have d:=nl J.2.1;have e:=nl J.2.2;unfold x8;split
 ·simp only[iV,dy,EA,dw,ey];omega
 ·split
  ·simp only[iV,dy,Ez,dw,ey];omega
  ·rename_i al;have:=(Ey (F (Classical.not_not.1 al)) J.1).2.2;split
   ·simp only[iV,dy,EA,dw,ey];omega
   ·simp only[iV,dy,Ez,dw,ey];omega
theorem B9{k:Nat}(x:(kI b c K told).A h ah ao)(O:l5 k K)(ab:k<=199)(aO:told.length<=900000000000)(y:iU){m:I}(du:fH fh m es)(eB:hy y.m es)(df:y.m.length<=100000)(az:∀x∈y.m,x.size<=100000)(aq:bL y.n)(hm:∀z∈y.m,z.mx)(an:y.kind=1->bL (fw y.m).1):∃E,aM ak T 30 [.cF fW b,.agg (c7 y m)] h=j (.inl (.bx []),E)/\en h ah ao E (kI b c (K.qy y).1 (told++(K.qy y).2)):=by
 obtain⟨il,s⟩:=zM x;have aY:=s.push [c7 y m];have Ia:=(yh aY 1 rfl).1;have kO:=(aY.cell 0 rfl).1;obtain⟨J,r,ax,oc,bf⟩:=awJ (A:=[bm h.n [c7 y m],nR fW b [il,.ptr c.wt 0 0] told,k6 gF il (K.text.map λx=>[.str x])]) (B:=[]) aY O.w ab y du eB df az;obtain⟨bC,zO,tz,MS⟩:=O.step (by omega) aq hm an;have U:=(O.w.h.dg.step y).val;rw[<-(To K.W y).2]at U;obtain⟨q,rfl,Ms⟩:=oc;have ayF:=Ms;obtain⟨MT,rfl,MU⟩:=Ms.uQ;have mr:gX Q 9 (c7 y m) 0=j (.agg (c7 y m)):=jP rfl;have MV:m.one=Q:=du.agw.1;have bP:=bf.push [[I.int o 0,.int o 0,.int o 0,.int o 0,.aC]];have cj:=bP.push [[I.int o 0,.int o 0]];have Ib:=(yh bP 2 rfl).1;have Ic:=(bP.cell 1 rfl).1;have Ie:=(yh cj 3 rfl).1;have Ig:=(cj.cell 2 rfl).1;have cT:=(bf.push [gh (K.W.step y).2.1.code (K.W.step y).2.1.fuel [.int o (K.W.step y).2.1.v.kind,.int o (K.W.step y).2.1.v.n,MT]]).push [[.int o (K.W.step y).2.2.1,.int o (K.W.step y).2.2.2]];have c5:=(cT.cell 0 rfl).1;have fp:=(cT.cell 1 rfl).1;have gN:=(cT.cell 2 rfl).1;have wY:∀(p q:List I) (z:Option (List (List I))),((J.push [p]).push [q]).set J.n z=((J.push [p]).set J.n z).push [q]:=λp q z=>ahm (by rw[ek];omega);have aBr:(K.qy y).1={K with W:=(K.W.step y).1}:=rfl;have Ih:∀ws,x8 y.kind (K.W.step y)=iV ws->∀(id:Option Nat) (n:Nat),ws.length<=10->(jv ws [32]).length<=5000->∃E,aM ak T 19 [.cF fW b,.bN id gF (ws.map λx=>[.str x])] (((J.push [gh (K.W.step y).2.1.code (K.W.step y).2.1.fuel [.int o (K.W.step y).2.1.v.kind,.int o (K.W.step y).2.1.v.n,MT]]).push [[.int o (K.W.step y).2.2.1,.int o (K.W.step y).2.2.2]]).fresh n)=j (.inl (.bx []),E)/\en h ah ao E (kI b c (K.qy y).1 (told++(K.qy y).2)):=by intro ws Lw id n F J;obtain⟨E,e,eo⟩:=zN (cT.hS (aK.fresh _ n)) 3 rfl (ws:=ws) (id:=id) (by omega) (by omega) (by omega);refine⟨E,e,?_⟩;have:(K.qy y).2=iV ws:=Lw;rw[this];exact wI eo.drop.drop.drop
 have aBs:=nl tz;have aBt:=nl MS;have aBu:=nl zO.2.1;have aBv:=nl zO.2.2;have ep:=λh=>yg (h:=h) tz;have gC:=λh=>yg (h:=h) MS;have jS:=λh=>yg (h:=h) zO.2.1;have pG:=λh=>yg (h:=h) zO.2.2;simp only[c7,gh]at kO mr ax Ic Ig c5 fp gN Ia Ib Ie Ih;have kT:∀k:Nat,b9 k (.cF fW b)=j (if k=0 then .cF fW b else .ptr b 0 k):=λ_=>rfl;by_cases cJ:(K.W.step y).2.2.1=0
 ·have d1:decide ((K.W.step y).2.2.1=0)=Q:=decide_eq_true cJ;by_cases z2:(K.W.step y).2.1.code=0
  ·have d2:decide ((K.W.step y).2.1.code=0)=Q:=decide_eq_true z2;obtain⟨Ii,bX,j2⟩:=Ey (U z2) zO.1;have nO:=λh=>Ts _ (K.W.step y).2.1.v (bS _) Ii zO.1 (by omega) _ h ayF;have dK:∀(a d:I),gX Q 3 [a,d,.int o (K.W.step y).2.1.v.kind,.int o (K.W.step y).2.1.v.n,MT] 2=j (.agg [.int o (K.W.step y).2.1.v.kind,.int o (K.W.step y).2.1.v.n,MT]):=λ_ _=>rfl;by_cases z3:y.kind=4
   ·have d3:decide (y.kind=4)=Q:=decide_eq_true z3;obtain⟨E,jG,mb⟩:=Ih [Mc,(K.W.step y).2.1.v.text,ie (K.W.step y).2.1.fuel] (by unfold x8;rw[if_neg (λh=>h cJ),if_neg (λh=>h z2),if_pos z3]) (j ((J.push [[I.int o 0]]).ids)) 3 (by simp) (by rw[EA];simp;omega);refine⟨E,?_,mb⟩;simp only[gP,kK,qj]at jG;refine bd Mx rfl ?_;unfold HT;simp only[ap,aw,aA,ar,reduceCtorEq,oo,c7,MV,kT,kO,mr,Ia,ax,MU,Ib,Ic,Ie,Ig,wY,fp,gN,d1,d2,d3,dK,nO,pG,jG]
   ·have d3:decide (y.kind=4)=R:=decide_eq_false z3;obtain⟨E,jG,mb⟩:=Ih [Mc,(K.W.step y).2.1.v.text] (by unfold x8;rw[if_neg (λh=>h cJ),if_neg (λh=>h z2),if_neg z3]) (j ((J.push [[I.int o 0]]).ids)) 2 (by simp) (by rw[Ez];simp;omega);refine⟨E,?_,mb⟩;simp only[gP,kK,qj]at jG;refine bd Mx rfl ?_;unfold HT;simp only[ap,aw,aA,ar,reduceCtorEq,oo,c7,MV,kT,kO,mr,Ia,ax,MU,Ib,Ic,Ie,Ig,wY,fp,gN,d1,d2,d3,dK,nO,jG]
  ·have d2:decide ((K.W.step y).2.1.code=0)=R:=decide_eq_false z2;obtain⟨E,jG,mb⟩:=Ih [Eg,ie (K.W.step y).2.1.code] (by unfold x8;rw[if_neg (λh=>h cJ),if_pos z2]) (j ((J.push [[I.int o 0]]).ids)) 2 (by simp) (by rw[Ez];simp;omega);refine⟨E,?_,mb⟩;simp only[gP,kK,qj]at jG;refine bd Mx rfl ?_;unfold HT;simp only[ap,aw,aA,ar,reduceCtorEq,oo,c7,MV,kT,kO,mr,Ia,ax,MU,Ib,Ic,Ie,Ig,wY,fp,gN,d1,d2,jS,jG]
 ·have d1:decide ((K.W.step y).2.2.1=0)=R:=decide_eq_false cJ;obtain⟨E,jG,mb⟩:=Ih [Eg,ie (K.W.step y).2.2.1,ie (K.W.step y).2.2.2] (by unfold x8;rw[if_pos cJ]) (j ((J.push [[I.int o 0]]).ids)) 3 (by simp) (by rw[EA];simp;omega);refine⟨E,?_,mb⟩;simp only[gP,kK,qj]at jG;refine bd Mx rfl ?_;unfold HT;simp only[ap,aw,aA,ar,reduceCtorEq,oo,c7,MV,kT,kO,mr,Ia,ax,MU,Ib,Ic,Ie,Ig,wY,fp,gN,d1,ep,gC,jG]
end
mutual
theorem ayG:∀x:bk,j9 x (AL x)
 |.mk op k n l=>by simp only[j9,AL];exact⟨_,jQ l,rfl,T8 _ _,Uk l⟩
theorem Uk:∀l:List bk,hy l (jQ l)
 |[]=>rfl
 |x::l=>by simp only[hy,jQ];exact⟨_,_,rfl,ayG x,Uk l⟩
end
theorem ajF{sep:List UInt8}{B:Nat}:∀{xs:List (List UInt8)},(∀x∈xs,x.length<=B)->(jv xs sep).length<=xs.length*(B+sep.length)
 |[],_=>by simp[jv]
 |[x],h=>by rw[Lib.join_one];have:=h x (by simp);simp;omega
 |x::y::r,h=>by
   have aW:=ajF (sep:=sep) (xs:=y::r) λz aR=>h z (qk _ aR);have e:jv (x::y::r) sep=x++(sep++jv (y::r) sep):=by simp[jv,List.intercalate]
   have:=h x (uq ..);rw[e,dw,Nat.succ_mul,dy,dy];omega
section
variable{h E am:ad}{ah ao aL aF:Nat->Prop}{L:List b2}{b:Nat}{rest:List I}{l:List UInt8}{c:pS}{K:eM}{told:List UInt8}{il:I}
theorem ayH(s:aQ am aL aF h L)(i:Nat){xs:List (List UInt8)}(ae:L[i]? =j (k6 gF il (xs.map λx=>[.str x])))(ai:xs.length<=1000000)(az:(jv xs sep).length<=1000000000000)(F:ad):aM ak T 27 [il,.str sep] F=j (.inl (.str (jv xs sep)),F):=by
 obtain⟨ah,ao,x⟩:=s.get i ae;rcases x with⟨⟨av,rfl⟩,_⟩|⟨id,⟨av,rfl⟩,_⟩
 ·have:xs=[]:=by simpa using av
  subst this;exact ahu F
 ·exact Tq (by kernel_rfl) ai az F
theorem ajG(x:(kI b c K told).A h ah ao):aQ h ah ao h [kI b c K told]:=aQ.start (cX.one x)
theorem ge{X:b2}(s:aQ am aL aF h [X]):en am aL aF h X:=en.imp (λ_ _ _ x=>cX.uE x) s
theorem l5.text{k:Nat}{K:eM}(O:l5 k K)(ab:k<=200):(jv K.text [10]).length<=1000000000000:=by have:=ajF (sep:=[10]) O.bX;have J:=O.j2;have:K.text.length*(20000+[(10:UInt8)].length)<=200*20001:=Nat.mul_le_mul (by omega) (by simp);omega
theorem ayI{l:List bk}(h:(fw l).1=0):l.length<=100000/\∀x∈l,x.size<=100000:=by
 unfold fw at h;split at h
 ·cases h
 ·rename_i bz;have key:∀(m:List bk) (i:Nat),(p1 l.length i m).1=0->∀x∈m,x.size<=100000:=by
   intro m;induction m with
   |nil=>intro i _ x an;cases an
   |cons y m aW=>
     intro i ae x an;simp only[p1]at ae;split at ae
     ·rename_i F;exact absurd ae F
     ·rename_i F;rcases gW.1 an with rfl|an
      ·have J:oK l.length x=0:=Classical.not_not.1 F;unfold oK at J;split at J
       ·cases J
       ·split at J
        ·cases J
        ·omega
      ·exact aW (i+1) ae x an
  exact⟨by omega,key l 0 h⟩
theorem ayJ(s:List UInt8)(h:(hA s).2.1=0):(hA s).1=[]\/(fw (hA s).1).1=0:=by
 unfold hA at h ⊢;split
 ·exact .inl rfl
 ·split
  ·exact .inl rfl
  ·rename_i L df;split
   ·exact .inl rfl
   ·rename_i aR;exact .inr (Classical.not_not.1 aR)
theorem ayK{k:Nat}(x:(kI b c K told).A h ah ao)(O:l5 k K)(ab:k<=199)(aO:told.length<=900000000000){p:Int}:∃E,aM ak T 29 [.cF fW b,.int o p] h=j (.inl (.bx []),E)/\en h ah ao E (kI b c (K.load p).1 (told++(K.load p).2)):=by
 obtain⟨il,s⟩:=zM x;have lt:=(yh s 0 rfl).2;have En:=ayH s 1 rfl (sep:=[10]) (by have:=O.j2;omega) (O.text (by omega)) h;have wC:=λh=>ayx (h:=h) (jv K.text [10]);have f64:=afZ (jv K.text [10]);have kG:=afR (jv K.text [10]);have ajH:=ayJ (jv K.text [10]);have eR:=ajG x;have kT:∀k:Nat,b9 k (.cF fW b)=j (if k=0 then .cF fW b else .ptr b 0 k):=λ_=>rfl;unfold eM.load;generalize hA (jv K.text [10])=cn at*;obtain⟨M,f,a⟩:=cn;simp only at f64 kG ajH wC ⊢;have ajI:=ajr fh (jQ M);have bf:=(eR.push [[e4 fh (jQ M)]]).push [[.int o f,.int o a]];have c2:=(bf.cell 0 rfl).1;have c3:=(bf.cell 1 rfl).1;have wY:∀(p q:List I) (z:Option (List (List I))),((h.push [p]).push [q]).set h.n z=((h.push [p]).set h.n z).push [q]:=λp q z=>ahm (by rw[ek];omega);by_cases cJ:f=0
 ·have d1:decide (f=0)=Q:=decide_eq_true cJ;rw[if_neg (λh=>h cJ)];have nM:M.length<=100000/\∀x∈M,x.size<=100000:=by
   rcases ajH cJ with h|h
   ·rw[h];exact⟨by simp,λx an=>by cases an⟩
   ·exact ayI h
  have du:fH fh (e4 fh (jQ M)) (jQ M):=T8 _ _;obtain⟨E,e,bP⟩:=bf.call 2 rfl λah ao x=>B9 x O ab aO ⟨1,p,0,0,0,0,0,0,M⟩ du (Uk M) nM.1 nM.2 (by unfold bL;simp only;omega) kG (λ_=>(SL M).1);refine⟨E,?_,ge bP.drop.drop⟩;simp only[c7]at e;have b5:gX Q 1 [e4 fh (jQ M)] 0=j (.agg [e4 fh (jQ M)]):=rfl;refine bd ahG rfl ?_;unfold Tv;simp only[ap,aw,aA,ar,reduceCtorEq,ct,kT,lt,En,wC,ajI.1,wY,c3,d1,b5,e]
 ·have d1:decide (f=0)=R:=decide_eq_false cJ;rw[if_pos cJ];have ep:=λh=>yg (h:=h) f64.1;have gC:=λh=>yg (h:=h) f64.2;have eW:(ie f).length<=21:=nl f64.1;have i2:(ie a).length<=21:=nl f64.2;obtain⟨E,e,bP⟩:=(bf.hS (aK.fresh _ 3)).call 2 rfl λah ao x=>by obtain⟨il,s⟩:=zM x;obtain⟨E,e,eD⟩:=zN s 0 rfl (ws:=[Eg,ie f,ie a]) (id:=j (h.push [[I.int o 0]]).ids) (by simp) (by omega) (by rw[EA];simp;omega);exact⟨E,e,wI eD⟩
  refine⟨E,?_,ge bP.drop.drop⟩;simp only[gP,kK,qj]at e;refine bd ahG rfl ?_;unfold Tv;simp only[ap,aw,aA,ar,reduceCtorEq,ct,oo,kT,lt,En,wC,ajI.1,wY,c3,d1,ep,gC,e]
theorem ayL{a:Int}:aM ak T 55 [.int o a] h=j (.inl (.str (uk a)),h):=by unfold aM;rw[anw];rfl
theorem ajJ(a:Int):(uk a).length<=4:=by
 unfold uk;split
 ·simp
 ·exact Fv a 4
theorem ajK(a b d e:List UInt8):(jv [a,b,d,e] [32]).length=a.length+b.length+d.length+e.length+3:=by simp[jv,List.intercalate];omega
theorem ajL{e:jI}(h:LR e):(zy e).length<=100:=by have a:=nl h.p;have b:=nl h.c;have d:=nl h.n;have r:(agm e.right).length<=4:=ajJ e.right;unfold zy;simp only[iV,dy,ajK,dw,ey];omega
theorem Ul:∀{es:List jI},(∀e∈es,LR e)->(es.flatMap zy).length<=100*es.length
 |[],_=>by simp
 |e::es,h=>by have a:=ajL (h e (uq ..));have b:=Ul (es:=es) λx an=>h x (qk _ an);rw[List.flatMap_cons,dy,dw];omega
theorem ayM{es:List jI}(Hi:es.length<=1000000)(wJ:∀e∈es,LR e)(K:List RK):∀(r pre:List jI) (E:ad) (told:List UInt8) (v1 v5:I),es=pre++r->told.length+100*r.length<=950000000000->aQ am aL aF E (nR fW b rest told::L)->∃eT cg hk ij,bu (aM ak T) 6 (.ff My::.bQ []::.b1 0::K) [.cF fW b,v1,e4 j' (es.map g'),.int o (es.length:Int),.int o (pre.length:Int),v5] [] E=bu (aM ak T) 6 K [.cF fW b,cg,e4 j' (es.map g'),.int o (es.length:Int),hk,ij] [] eT/\aQ am aL aF eT (nR fW b rest (told++r.flatMap zy)::L):=by
 intro r;induction r with
 |nil=>intro pre E told v1 v5 e ag s;have d1:decide ((pre.length:Int)<(es.length:Int))=R:=decide_eq_false (by rw[e];simp);refine⟨E,v1,.int o (pre.length:Int),.bool R,?_,by rw[List.flatMap_nil,me];exact s⟩;rw[dd My.eq_1];simp only[ap,aw,aA,ar,cz,d1]
 |cons x r aW=>
   intro pre E told v1 v5 e ag s;have i6:pre.length<es.length:=by rw[e];simp
   have d1:decide ((pre.length:Int)<(es.length:Int))=Q:=decide_eq_true (by omega);have ae:(es.map g')[pre.length]? =j (g' x):=by rw[e];simp
   have bR:=(xm j' (es.map g')).bR o pre.length _ ae;have w:=gD (n:=(pre.length:Int)+1) (by omega) (by omega);have dN:((pre++[x]).length:Int)=(pre.length:Int)+1:=by simp
   have an:=wJ x (by rw[e];simp);have ep:=λh=>yg (h:=h) an.p;have gC:=λh=>yg (h:=h) an.c;have jS:=λh=>yg (h:=h) an.n;have Ab:=λh=>ayL (h:=h) (a:=x.right);have eW:=nl an.p;have i2:=nl an.c;have i3:=nl an.n;have i4:=ajJ x.right;have Um:dC .str .add (.str [35]) (.str (ie x.node))=j (.str (35::ie x.node)):=qA rfl (by simp;omega);simp only[dw]at ag;obtain⟨J,ax,bf⟩:=zN ((s.push [g' x]).hS (aK.fresh _ 4)) 1 rfl (ws:=[ie x.bD,uk x.right,ie x.cell,35::ie x.node]) (id:=j (E.push [g' x]).ids) (by simp) (by omega) (by rw[ajK];simp;omega);have re:=ajL an;have bP:aQ am aL aF J (nR fW b rest (told++zy x)::L):=bf.drop;obtain⟨eT,cg,hk,ij,b0,cj⟩:=aW (pre++[x]) J (told++zy x) (.ptr E.n 0 0) (.bool Q) (by simp[e]) (by rw[dy];omega) bP;refine⟨eT,cg,hk,ij,?_,by rw[List.flatMap_cons,<-jA];exact cj⟩;rw[<-b0,dN];simp only[gP,kK,qj,g']at ax bR
   conv=>lhs;rw[dd My.eq_1]
   simp only[ap,aw,aA,ar,oo,cz,d1,bR,ep,Ab,gC,jS,Um,ax,w]
theorem Un(s:aQ am aL aF h L)(i:Nat)(J:L[i]? =j (mz c.wt c.ag K.W.jZ K.W.ds K.W.code K.W.at_ K.W.n))(af:L[i+1]? =j (lH c.ag c.aG K.W.H.cy))(aB:L[i+1+1]? =j (ha c.aG c.cl c.cr K.W.H.ms K.W.H.S.kept))(ai:K.W.H.ms.length=K.W.H.S.kept.length):cO R 1 h (.ptr c.wt 0 0)=j (.ptr c.ag 0 0)/\cO R 1 h (.ptr c.ag 0 0)=j (.ptr c.aG 0 0)/\cO R 1 h (.ptr c.aG 0 1)=j (.ptr c.cr 0 0):=by obtain⟨cN,bV,jH⟩:=zC s i J;obtain⟨bl,U⟩:=vb s (i+1) af;have Mp:=G1 s aB ai;exact⟨by rw[gm,jH.c];rfl,U.box 1,Mp.2 1⟩
theorem ayN{k:Nat}(x:(kI b c K told).A h ah ao)(O:l5 k K)(ab:k<=199)(aO:told.length<=900000000000):∃E,aM ak T 34 [.cF fW b] h=j (.inl (.bx []),E)/\en h ah ao E (kI b c K (told++K.log)):=by
 obtain⟨il,s⟩:=zM x;have l4:=O.w.h.ok (by omega);have lw:=(yh s 0 rfl).1;obtain⟨b5,ca,dK⟩:=Un s 2 rfl rfl rfl l4.len;have BP:=S4 (c:=c.tovc) s 6 l4 rfl;have hlen:K.W.H.S.log.length<=400000:=by have:=O.w.h.log;omega
 obtain⟨J,cg,hk,ij,bK,bf⟩:=ayM (es:=K.W.H.S.log) (by omega) O.wf.s.log [.bQ [.ops [aX,(.i .l (.hv R 9 [(.str [])] 1 1 [(0,(.c (.str [101,110,100])))])),Tw]]] K.W.H.S.log [] h told .aD .aD rfl (by omega) s;have bn:=Ul O.wf.s.log;obtain⟨af,bs,bP⟩:=zN (bf.hS (aK.fresh _ 1)) 0 rfl (ws:=[S3]) (id:=j J.ids) (by simp) (by rw[dy];omega) (by simp[Lib.join_one]);have jX:=xm j' (K.W.H.S.log.map g');have kT:∀k:Nat,b9 k (.cF fW b)=j (if k=0 then .cF fW b else .ptr b 0 k):=λ_=>rfl;refine⟨af,?_,?_⟩
 ·simp only[ey,mn]at bK;simp only[gP,kK]at bs;have bh:∀b:Nat,b9 1 (.ptr b 0 0)=j (.ptr b 0 1):=λ_=>rfl;have EB:∀b:Nat,b9 0 (.ptr b 0 0)=j (.ptr b 0 0):=λ_=>rfl;refine bd aw3 rfl ?_;unfold ahH;simp only[ap,aw,aA,ar,reduceCtorEq,kT,bh,EB,lw,b5,ca,dK,BP,jX.len,jX.fits,gG];rw[bK];simp only[ap,ar,bs]
 ·have:told++K.log=told++K.W.H.S.log.flatMap zy++iV [S3]:=by unfold eM.log;rw[jA]
  rw[this];exact wI bP
theorem ayO{cs:List Int}(wJ:∀c∈cs,bL c)(Hi:cs.length<=1000)(K:List RK):∀(r pre:List Int) (acc:List UInt8) (v2 v6:I),cs=pre++r->acc.length+30*r.length<=100000->∃dS ij hZ,bu (aM ak T) 7 (.ff Mz::.bQ []::.b1 0::K) [.cF fW b,.str acc,v2,.bN Z FF (cs.map λx=>[.int o x]),.int o (cs.length:Int),.int o (pre.length:Int),v6] [] h=bu (aM ak T) 7 K [.cF fW b,.str (acc++r.flatMap λn=>32::ie n),dS,.bN Z FF (cs.map λx=>[.int o x]),.int o (cs.length:Int),ij,hZ] [] h:=by
 intro r;induction r with
 |nil=>intro pre acc v2 v6 e ag;have d1:decide ((pre.length:Int)<(cs.length:Int))=R:=decide_eq_false (by rw[e];simp);refine⟨v2,.int o (pre.length:Int),.bool R,?_⟩;rw[List.flatMap_nil,me];rw[dd Mz.eq_1];simp only[ap,aw,aA,ar,cz,d1]
 |cons x r aW=>
   intro pre acc v2 v6 e ag;have i6:pre.length<cs.length:=by rw[e];simp
   have d1:decide ((pre.length:Int)<(cs.length:Int))=Q:=decide_eq_true (by omega);have ae:(cs.map λx=>[I.int o x])[pre.length]? =j [.int o x]:=by rw[e];simp
   have bR:=(rT Z FF (cs.map λx=>[I.int o x])).bR o pre.length _ ae;have w:=gD (n:=(pre.length:Int)+1) (by omega) (by omega);have dN:((pre++[x]).length:Int)=(pre.length:Int)+1:=by simp
   have an:=wJ x (by rw[e];simp);have f1:=λh=>Mw an h;have eW:=nl an;simp only[dw]at ag;have aP:dC .str .add (.str [32]) (.str (ie x))=j (.str (32::ie x)):=qA rfl (by simp;omega);have a2:dC .str .add (.str acc) (.str (32::ie x))=j (.str (acc++32::ie x)):=qA rfl (by simp;omega);obtain⟨dS,ij,hZ,b0⟩:=aW (pre++[x]) (acc++32::ie x) (.int o x) (.bool Q) (by simp[e]) (by rw[dy,dw];omega);refine⟨dS,ij,hZ,?_⟩;rw[List.flatMap_cons,<-jA,<-b0,dN]
   conv=>lhs;rw[dd Mz.eq_1]
   simp only[ap,aw,aA,ar,cz,d1,bR,f1,aP,a2,w]
theorem Uo:∀{cs:List Int},(∀c∈cs,bL c)->(cs.flatMap λn=>32::ie n).length<=22*cs.length
 |[],_=>by simp
 |e::es,h=>by have a:=nl (h e (uq ..));have b:=Uo (cs:=es) λx an=>h x (qk _ an);rw[List.flatMap_cons,dy,dw,dw];omega
theorem ayP{k:Nat}(x:(kI b c K told).A h ah ao)(O:l5 k K)(ab:k<=199)(aO:told.length<=900000000000):∃E,aM ak T 35 [.cF fW b] h=j (.inl (.bx []),E)/\en h ah ao E (kI b c K (told++K.cells)):=by obtain⟨il,s⟩:=zM x;have l4:=O.w.h.ok (by omega);have lw:=(yh s 0 rfl).1;obtain⟨b5,ca,dK⟩:=Un s 2 rfl rfl rfl l4.len;have BP:=av3 s 6 rfl l4.dg.st.cells;have Mf:=l4.dg.st.cells;obtain⟨dS,ij,hZ,bK⟩:=ayO (b:=b) (h:=h) (cs:=K.W.H.S.cells) O.wf.s.cells (by omega) [.bQ [.ops [aX,dv,Em,MA]]] K.W.H.S.cells [] Ej .aD .aD rfl (by rw[Mf];decide);have bn:=Uo O.wf.s.cells;obtain⟨af,bs,bP⟩:=zN (s.hS (aK.fresh h 1)) 0 rfl (ws:=[Ej++K.W.H.S.cells.flatMap λn=>32::ie n]) (id:=j h.ids) (by simp) (by omega) (by rw[Lib.join_one,dy];simp only[dw,ey];omega);have jX:=rT Z FF (K.W.H.S.cells.map λx=>[I.int o x]);have kT:∀k:Nat,b9 k (.cF fW b)=j (if k=0 then .cF fW b else .ptr b 0 k):=λ_=>rfl;refine⟨af,?_,wI bP⟩;simp only[ey,mn]at bK;simp only[gP,kK,Ej,kq,j6]at bs;have bh:∀b:Nat,b9 1 (.ptr b 0 0)=j (.ptr b 0 1):=λ_=>rfl;have EB:∀b:Nat,b9 0 (.ptr b 0 0)=j (.ptr b 0 0):=λ_=>rfl;refine bd aw4 rfl ?_;unfold ahK;simp only[ap,aw,aA,ar,reduceCtorEq,kT,bh,EB,lw,b5,ca,dK,BP,jX.len,jX.fits,gG];rw[bK];simp only[ap,ar,bs]
end
abbrev t64:aU:=2
section
variable{h E am:ad}{ah ao aL aF:Nat->Prop}{L:List b2}
theorem ayQ(w:List UInt8):aM ak T 17 [.str w] h=j (.inl (.bx [.int o (iA w).1,.int o (iA w).2]),h):=by
 cases d0:decide (w=[108,111,97,100])with
 |true=>obtain rfl:=of_decide_eq_true d0;rw[show iA [108,111,97,100]=(-1,1) by decide];refine bd tC rfl ?_;unfold so;simp only[ap,aw,aA,ar];exact e8 (aK.refl h) rfl
 |false=>
   cases d1:decide (w=[99,117,116])with
   |true=>obtain rfl:=of_decide_eq_true d1;rw[show iA [99,117,116]=(-1,1) by decide];refine bd tC rfl ?_;unfold so;simp only[ap,aw,aA,ar,d0];exact e8 (aK.refl h) rfl
   |false=>
     cases d2:decide (w=[104,97,110,100])with
     |true=>obtain rfl:=of_decide_eq_true d2;rw[show iA [104,97,110,100]=(-1,1) by decide];refine bd tC rfl ?_;unfold so;simp only[ap,aw,aA,ar,d0,d1];exact e8 (aK.refl h) rfl
     |false=>
       cases d3:decide (w=[107,101,112,116])with
       |true=>obtain rfl:=of_decide_eq_true d3;rw[show iA [107,101,112,116]=(-1,1) by decide];refine bd tC rfl ?_;unfold so;simp only[ap,aw,aA,ar,d0,d1,d2];exact e8 (aK.refl h) rfl
       |false=>
         cases d4:decide (w=[103,97,116,101])with
         |true=>obtain rfl:=of_decide_eq_true d4;rw[show iA [103,97,116,101]=(-1,0) by decide];refine bd tC rfl ?_;unfold so;simp only[ap,aw,aA,ar,d0,d1,d2,d3];exact e8 (aK.refl h) rfl
         |false=>
           cases d5:decide (w=[108,111,103])with
           |true=>obtain rfl:=of_decide_eq_true d5;rw[show iA [108,111,103]=(-1,0) by decide];refine bd tC rfl ?_;unfold so;simp only[ap,aw,aA,ar,d0,d1,d2,d3,d4];exact e8 (aK.refl h) rfl
           |false=>
             cases d6:decide (w=[99,101,108,108,115])with
             |true=>obtain rfl:=of_decide_eq_true d6;rw[show iA [99,101,108,108,115]=(-1,0) by decide];refine bd tC rfl ?_;unfold so;simp only[ap,aw,aA,ar,d0,d1,d2,d3,d4,d5];exact e8 (aK.refl h) rfl
             |false=>
               cases d7:decide (w=[103,114,97,110,116])with
               |true=>obtain rfl:=of_decide_eq_true d7;rw[show iA [103,114,97,110,116]=(2,4) by decide];refine bd tC rfl ?_;unfold so;simp only[ap,aw,aA,ar,d0,d1,d2,d3,d4,d5,d6];exact e8 (aK.refl h) rfl
               |false=>
                 cases d8:decide (w=[108,105,110,107])with
                 |true=>obtain rfl:=of_decide_eq_true d8;rw[show iA [108,105,110,107]=(3,5) by decide];refine bd tC rfl ?_;unfold so;simp only[ap,aw,aA,ar,d0,d1,d2,d3,d4,d5,d6,d7];exact e8 (aK.refl h) rfl
                 |false=>
                   cases d9:decide (w=[99,97,108,108])with
                   |true=>obtain rfl:=of_decide_eq_true d9;rw[show iA [99,97,108,108]=(-1,3) by decide];refine bd tC rfl ?_;unfold so;simp only[ap,aw,aA,ar,d0,d1,d2,d3,d4,d5,d6,d7,d8];exact e8 (aK.refl h) rfl
                   |false=>
                     cases d10:decide (w=[118,97,108,117,101])with
                     |true=>obtain rfl:=of_decide_eq_true d10;rw[show iA [118,97,108,117,101]=(-1,3) by decide];refine bd tC rfl ?_;unfold so;simp only[ap,aw,aA,ar,d0,d1,d2,d3,d4,d5,d6,d7,d8,d9];exact e8 (aK.refl h) rfl
                     |false=>
                       have e:iA w=(-1, -1):=by have gv:=of_decide_eq_false d0;have ep:=of_decide_eq_false d1;have gC:=of_decide_eq_false d2;have jS:=of_decide_eq_false d3;have pG:=of_decide_eq_false d4;have vS:=of_decide_eq_false d5;have n6:=of_decide_eq_false d6;have ayR:=of_decide_eq_false d7;have ayS:=of_decide_eq_false d8;have ayT:=of_decide_eq_false d9;have n10:=of_decide_eq_false d10;unfold iA;simp[gv,ep,gC,jS,pG,vS,n6,ayR,ayS,ayT,n10]
                       rw[e];refine bd tC rfl ?_;unfold so;simp only[ap,aw,aA,ar,d0,d1,d2,d3,d4,d5,d6,d7,d8,d9,d10];exact e8 (aK.refl h) rfl
theorem ayU{s:List UInt8}(az:s.length<=1000000):aM ak T 23 [.str s] h=j (.inl (.bx [.int o (m9 s).1,.bool (m9 s).2]),h):=by unfold aM;rw[anx];show C6 _ _=_;unfold C6;exact if_pos az
def B'(at':Int)(i:Nat)(s:List UInt8):Option Int:=if(i:Int)=at' then(if(Mb s).2=Q then j (Mb s).1 else Z)else s4 s
theorem ajM(at':Int)(i:Nat)(s:List UInt8)(l:List (List UInt8)):nN at' i (s::l)=(B' at' i s).bind λn=>(nN at' (i+1) l).map (n::·):=rfl
abbrev qE(cL:List Int):List (List I):=cL.map λn=>[.int o n]
theorem ayV{b':k3->Prop}{at':Int}(U:hY gF bV (ws.map λx=>[.str x]))(hw:∀x∈ws,x.length<=1000000)(ajN:ws.length<=1000000){K:List RK}(ret:nN at' 0 ws=Z->∀V E,V.getD 2 .aD= .aC->V.getD 3 .aD= .bool R->aK h E->b' (j (.ret,V,E)))(stop:∀cL acc V E,nN at' 0 ws=j cL->Acc h E t64 acc (qE cL)->aK h E->b' (bu (aM ak T) 18 K (bV::.int o at'::.aC::.bool R::acc::V) [] E)):∀(l pre:List (List UInt8)) (Ca:List Int) (acc:I) (E:ad) (v5 v6 dz gM v9 v10 iK nm mU yi:I),ws=pre++l->Ca.length<=pre.length->nN at' 0 ws=(nN at' pre.length l).map (Ca++·)->Acc h E t64 acc (qE Ca)->aK h E->b' (bu (aM ak T) 18 (.ff yb::.bQ []::.b1 0::K) [bV,.int o at',.aC,.bool R,acc,v5,v6,dz,gM,v9,v10,bV,.int o (ws.length:Int),.int o (pre.length:Int),iK,nm,mU,yi] [] E):=by
 intro l;induction l with
 |nil=>intro pre Ca acc E v5 v6 dz gM v9 v10 iK nm mU yi e hp aq aN g;have d1:decide ((pre.length:Int)<(ws.length:Int))=R:=decide_eq_false (by rw[e];simp);have st:=stop Ca acc [v5,v6,dz,gM,v9,v10,bV,.int o (ws.length:Int),.int o (pre.length:Int),.bool R,nm,mU,yi] E (by rw[aq];simp[nN]) aN g;rw[dd yb.eq_1];simp only[ap,aw,aA,ar,cz,d1];exact st
 |cons x l aW=>
   intro pre Ca acc E v5 v6 dz gM v9 v10 iK nm mU yi e hp aq aN g;have i6:pre.length<ws.length:=by rw[e];simp
   have d1:decide ((pre.length:Int)<(ws.length:Int))=Q:=decide_eq_true (by omega);have ae:(ws.map λx=>[I.str x])[pre.length]? =j [.str x]:=by rw[e];simp
   have bR:=U.bR o pre.length _ ae;have w:=gD (n:=(pre.length:Int)+1) (by omega) (by omega);have dN:((pre++[x]).length:Int)=(pre.length:Int)+1:=by simp
   have an:=hw x (by rw[e];simp);rw[ajM]at aq;have go:∀n,B' at' pre.length x=j n->∀v5 v6 dz gM v9 v10 iK nm mU yi,∃o' J,e0 R t64 acc (.bN (j E.ids) t64 [[.int o n]]) (E.fresh 1)=j (o',J)/\b' (bu (aM ak T) 18 (.ff yb::.bQ []::.b1 0::K) [bV,.int o at',.aC,.bool R,o',v5,v6,dz,gM,v9,v10,bV,.int o (ws.length:Int),.int o ((pre.length:Int)+1),iK,nm,mU,yi] [] J):=by
    intro n LM v5 v6 dz gM v9 v10 iK nm mU yi;rw[LM]at aq;obtain⟨o',J,ax,aP,a2,a3,a4⟩:=vP aN g (row:=[.int o n]) rfl (by simp only[qE,gG];omega);refine⟨o',J,ax,?_⟩;have:=aW (pre++[x]) (Ca++[n]) o' J v5 v6 dz gM v9 v10 iK nm mU yi (by simp[e]) (by simp;omega) (by
     rw[aq,dy,fS];cases nN at' (pre.length+1) l with
     |none=>rfl
     |some q=>simp) (by simpa[qE]using aP) a2
    rwa [dN]at this
   by_cases Ev:(pre.length:Int)=at'
   ·have d2:decide ((pre.length:Int)=at')=Q:=decide_eq_true Ev;have MW:=λh=>ayU (h:=h) an;have vk:B' at' pre.length x=if(m9 x).2=Q then j (m9 x).1 else Z:=by unfold B';rw[if_pos Ev]
    cases ag:(m9 x).2 with
    |true=>rw[ag]at MW;rw[if_pos ag]at vk;obtain⟨o',J,ax,q⟩:=go _ vk (.int o (pre.length:Int)) (.str x) (.int o (m9 x).1) (.bool Q) v9 v10 (.bool Q) (.bool Q) (.bool R) yi;rw[dd yb.eq_1];simp only[ap,aw,aA,ar,reduceCtorEq,cz,d1,bR,d2,MW,ax,w];exact q
    |false=>
      rw[ag]at MW;rw[if_neg (by rw[ag];decide)]at vk;have aR:nN at' 0 ws=Z:=by rw[aq,vk];rfl
      rw[dd yb.eq_1];simp only[ap,aw,aA,ar,cz,d1,bR,d2,MW];exact ret aR _ _ rfl rfl g
   ·have d2:decide ((pre.length:Int)=at')=R:=decide_eq_false Ev;have vk:B' at' pre.length x=s4 x:=by unfold B';rw[if_neg Ev]
    rcases aiw x (by omega)with⟨n,HQ,MX,MY⟩|⟨MX,MY⟩
    ·have ajO:=λh=>Mw HQ h;by_cases MZ:ie n=x
     ·have d3:decide (ie n=x)=Q:=decide_eq_true MZ;rw[MY,if_pos MZ]at vk;obtain⟨o',J,ax,q⟩:=go _ vk (.int o (pre.length:Int)) (.str x) dz gM (.int o n) .fC (.bool Q) (.bool R) mU (.bool R);rw[dd yb.eq_1];simp only[ap,aw,aA,ar,cz,d1,bR,d2,MX,ajO,d3,ax,w];exact q
     ·have d3:decide (ie n=x)=R:=decide_eq_false MZ;rw[MY,if_neg MZ]at vk;have aR:nN at' 0 ws=Z:=by rw[aq,vk];rfl
      rw[dd yb.eq_1];simp only[ap,aw,aA,ar,cz,d1,bR,d2,MX,ajO,d3];exact ret aR _ _ rfl rfl g
    ·rw[MY]at vk;have aR:nN at' 0 ws=Z:=by rw[aq,vk];rfl
     rw[dd yb.eq_1];simp only[ap,aw,aA,ar,cz,d1,bR,d2,MX];exact ret aR _ _ rfl rfl g
def ayW(O:Option (List Int))(v:I):Prop:=match O with
 |none=>v= .bx [.aC,.bool R]
 |some cL=>∃fB,v= .bx [fB,.bool Q]/\fH t64 fB (qE cL)
theorem ayX{at':Int}(U:hY gF bV (ws.map λx=>[.str x]))(hw:∀x∈ws,x.length<=1000000)(ajN:ws.length<=1000000):∃v,aM ak T 18 [bV,.int o at'] h=j (.inl v,h)/\ayW (nN at' 0 ws) v:=by
 refine Kb aw5 rfl λb' cf=>?_;unfold ahR;simp only[ap,aw,aA,ar,U.len,U.fits,gG];refine ayV (h:=h) U hw ajN (λaR V E ax bs g=>cf V E (.bx [.aC,.bool R]) (.bx [.aC,.bool R]) (by simp only[iS,ax,bs,g3,iY]) g rfl (by rw[aR];exact rfl)) (λcL acc V E aR aN g=>?_) ws [] [] .aC h .aD .aD .aD .aD .aD .aD .aD .aD .aD .aD rfl (bS _) (by cases nN at' 0 ws<;>simp) (vO _ _ _) (aK.refl h);have az:fH t64 acc (qE cL):=by
  rcases aN with⟨bT,bM⟩|⟨id,_,_,_,_,bM⟩
  ·exact .inl ⟨bT,bM⟩
  ·exact .inr ⟨_,bM⟩
 have bn:∀r∈qE cL,r.all s2=Q:=λr aj=>by obtain⟨n,_,rfl⟩:=lR.1 aj;rfl
 obtain⟨fB,rc,kN⟩:∃fB,dP acc=j fB/\fH t64 fB (qE cL):=by
  rcases az with⟨bT,rfl⟩|⟨id,rfl⟩
  ·exact⟨.aC,rfl,.inl ⟨bT,rfl⟩⟩
  ·exact⟨.bN Z t64 (qE cL),by simp only[dP,CX bn,g3],.inr ⟨_,rfl⟩⟩
 simp only[ap];exact cf _ _ (.bx [acc,.bool Q]) (.bx [fB,.bool Q]) rfl g (by simp only[dP,lP,rc,g3]) (by rw[aR];exact⟨fB,rfl,kN⟩)
end
theorem Up{H:dr}(h:qx H)(p:Int):(H.zw p).wf:=by
 unfold dr.zw;split
 ·exact wA h.s.kept _
 ·exact l2
theorem ajP{H:dr}(h:qx H)(p:Int):∀v∈H.si p,v.wf:=by
 unfold dr.si;split
 ·exact SI h p
 ·exact λv U=>by cases U
section
variable{h E am:ad}{ah ao aL aF:Nat->Prop}{L:List b2}{b q:Nat}{c:pS}{K:eM}{told:List UInt8}{aI:I}{cL:List Int}
theorem ayY(al:h.cell q=j [[aI]])(U:hY t64 aI (qE cL))(k:Nat)(ab:k<cL.length):aM ak T 28 [.int o (k:Int),.ptr q 0 0] h=j (.inl (.int o (cL.getD k 0)),h):=by
 have ae:(qE cL)[k]? =j [.int o (cL.getD k 0)]:=by simp[qE,dm,gd ab]
 have bR:=U.bR o k _ ae;refine bd aw6 rfl ?_;unfold ahS;simp only[ap,aw,aA,ar,al,bR]
theorem ayZ{l:List ay}{v:I}(az:fH cD v es)(ai:fb l es)(wJ:∀x∈l,x.wf)(al:∀x∈l,x.code=0)(hlen:l.length<=100000){v0 v1 v2 v3 v4 dz gM v9 v10 v11 v12 ix iK nm v20 v21 Uq:I}(K:List RK):∀(r pre:List ay) (E:ad) (acc:List UInt8) (v6 Ur:I),l=pre++r->acc.length+1300*r.length<=200000000->aQ am aL aF E L->∃eT hZ H5 M0,bu (aM ak T) 23 (.ff MB::.bQ []::.b1 1::K) [v0,v1,v2,v3,v4,.str acc,v6,dz,gM,v9,v10,v11,v12,ix,iK,nm,v,.int o (l.length:Int),.int o (pre.length:Int),Ur,v20,v21,Uq] [] E=bu (aM ak T) 23 K [v0,v1,v2,v3,v4,.str (acc++r.flatMap λx=>32::x.text),hZ,dz,gM,v9,v10,v11,v12,ix,iK,nm,v,.int o (l.length:Int),H5,M0,v20,v21,Uq] [] eT/\aQ am aL aF eT L:=by
 intro r;induction r with
 |nil=>intro pre E acc v6 Ur e ag s;have d1:decide ((pre.length:Int)<(l.length:Int))=R:=decide_eq_false (by rw[e];simp);refine⟨E,v6,.int o (pre.length:Int),.bool R,?_,s⟩;rw[List.flatMap_nil,me];rw[dd MB.eq_1];simp only[ap,aw,aA,ar,cz,d1]
 |cons x r aW=>
   intro pre E acc v6 Ur e ag s;have i6:pre.length<l.length:=by rw[e];simp
   have d1:decide ((pre.length:Int)<(l.length:Int))=Q:=decide_eq_true (by omega);have ae:l[pre.length]? =j x:=by rw[e];simp
   obtain⟨row,b0,bK⟩:=ai.get ae;have bR:=az.iH.bR o pre.length _ b0;have w:=gD (n:=(pre.length:Int)+1) (by omega) (by omega);have dN:((pre++[x]).length:Int)=(pre.length:Int)+1:=by simp
   have hm:x∈l:=qV ae;obtain⟨Ii,bX,j2⟩:=Ey (al x hm) (wJ x hm);have nO:=λh=>Ts _ x (bS _) Ii (wJ x hm) (by omega) _ h bK;obtain⟨cJ,z2⟩:=bK.one;simp only[dw]at ag;have aP:dC .str .add (.str [32]) (.str x.text)=j (.str (32::x.text)):=qA rfl (by simp;omega);have a2:dC .str .add (.str acc) (.str (32::x.text))=j (.str (acc++32::x.text)):=qA rfl (by simp;omega);obtain⟨eT,hZ,H5,M0,av,bf⟩:=aW (pre++[x]) (E.push [row]) (acc++32::x.text) (.ptr E.n 0 0) (.bool Q) (by simp[e]) (by rw[dy,dw];omega) (s.push [row]).drop;refine⟨eT,hZ,H5,M0,?_,bf⟩;rw[List.flatMap_cons,<-jA,<-av,dN]
   conv=>lhs;rw[dd MB.eq_1]
   simp only[ap,aw,aA,ar,cz,d1,bR,cJ,z2,jP z2,nO,aP,a2,w]
theorem Us:∀{l:List ay},(∀x∈l,x.wf)->(∀x∈l,x.code=0)->(l.flatMap λx=>32::x.text).length<=1201*l.length
 |[],_,_=>by simp
 |x::l,F,J=>by have a:=(Ey (J x (uq ..)) (F x (uq ..))).2.2;have b:=Us (l:=l) (λy bq=>F y (qk _ bq)) λy bq=>J y (qk _ bq);rw[List.flatMap_cons,dy,dw,dw];omega
theorem ay0{k:Nat}(x:(kI b c K told).A h ah ao)(O:l5 k K)(ab:k<=199)(aO:told.length<=900000000000)(w:List UInt8)(az:fH t64 aI (qE cL))(ai:(cL.length:Int)=(iA w).2)(wJ:(iA w).1= -1->∀n∈cL,bL n):∃E,aM ak T 20 [.cF fW b,.str w,aI] h=j (.inl (.bx []),E)/\en h ah ao E (kI b c (K.ask w cL).1 (told++(K.ask w cL).2)):=by
 have U:=az.iH;obtain⟨on,r'⟩:=az.agw;have aY:=(ajG x).push [[aI]];have a6:=(aY.cell 0 rfl).1;have a:=λk ab=>ayY a6 U k ab;have kT:∀k:Nat,b9 k (.cF fW b)=j (if k=0 then .cF fW b else .ptr b 0 k):=λ_=>rfl;have EB:∀b:Nat,b9 0 (.ptr b 0 0)=j (.ptr b 0 0):=λ_=>rfl;have EC:fH fh .aC []:=.inl ⟨rfl,rfl⟩;have ED:hy [] []:=rfl;obtain⟨il,sp⟩:=zM x;have EE:=sp.push [[aI]];have l4:=O.w.h.ok (by omega);have lw:=(yh EE 1 rfl).1;obtain⟨b5,ca,dK⟩:=Un EE 3 rfl rfl rfl l4.len;have Ij:bL 0:=fQ;by_cases K5:w=[108,111,97,100]
 ·subst K5;have d0:decide (([108,111,97,100]:List UInt8)=[108,111,97,100])=Q:=by decide
  have lX:iA [108,111,97,100]=(-1,1):=by decide
  have aq:cL.length=1:=by rw[lX]at ai;simp only at ai;omega
  have a0:aM ak T 28 [.int o 0,.ptr h.n 0 0] (h.push [[aI]])=j (.inl (.int o (cL.getD 0 0)),h.push [[aI]]):=a 0 (by omega);obtain⟨E,e,bf⟩:=aY.call 1 rfl λah ao x=>ayK x O ab aO (p:=cL.getD 0 0);refine⟨E,?_,ge bf.drop⟩;refine bd vf rfl ?_;unfold tD;simp only[ap,aw,aA,ar,ct,cx,on,r',a6,a0,e]
 by_cases cg:w=[99,117,116]
 ·subst cg;have d0:decide (([99,117,116]:List UInt8)=[108,111,97,100])=R:=by decide
  have d1:decide (([99,117,116]:List UInt8)=[99,117,116])=Q:=by decide
  have lX:iA [99,117,116]=(-1,1):=by decide
  have aq:cL.length=1:=by rw[lX]at ai;simp only at ai;omega
  have a0:aM ak T 28 [.int o 0,.ptr h.n 0 0] (h.push [[aI]])=j (.inl (.int o (cL.getD 0 0)),h.push [[aI]]):=a 0 (by omega);have vl:bL (0):=Ij;obtain⟨E,e,bf⟩:=aY.call 1 rfl λah ao x=>B9 x O ab aO ⟨5,0,0,0,0,0,cL.getD 0 0,0,[]⟩ EC ED (by simp) (λx an=>by cases an) vl (λz aR=>by cases aR) (λh=>by cases h);refine⟨E,?_,ge bf.drop⟩;simp only[c7]at e;refine bd vf rfl ?_;unfold tD;simp only[ap,aw,aA,ar,ct,cx,on,r',a6,d0,a0,e]
 by_cases dS:w=[103,97,116,101]
 ·subst dS;have d0:decide (([103,97,116,101]:List UInt8)=[108,111,97,100])=R:=by decide
  have d1:decide (([103,97,116,101]:List UInt8)=[99,117,116])=R:=by decide
  have d2:decide (([103,97,116,101]:List UInt8)=[103,97,116,101])=Q:=by decide
  have vl:bL (0):=Ij;obtain⟨E,e,bf⟩:=aY.call 1 rfl λah ao x=>B9 x O ab aO ⟨6,0,0,0,0,0,0,0,[]⟩ EC ED (by simp) (λx an=>by cases an) vl (λz aR=>by cases aR) (λh=>by cases h);refine⟨E,?_,ge bf.drop⟩;simp only[c7]at e;refine bd vf rfl ?_;unfold tD;simp only[ap,aw,aA,ar,ct,cx,on,r',a6,d0,d1,e]
 by_cases jl:w=[103,114,97,110,116]
 ·subst jl;have d0:decide (([103,114,97,110,116]:List UInt8)=[108,111,97,100])=R:=by decide
  have d1:decide (([103,114,97,110,116]:List UInt8)=[99,117,116])=R:=by decide
  have d2:decide (([103,114,97,110,116]:List UInt8)=[103,97,116,101])=R:=by decide
  have d3:decide (([103,114,97,110,116]:List UInt8)=[103,114,97,110,116])=Q:=by decide
  have lX:iA [103,114,97,110,116]=(2,4):=by decide
  have aq:cL.length=4:=by rw[lX]at ai;simp only at ai;omega
  have a0:aM ak T 28 [.int o 0,.ptr h.n 0 0] (h.push [[aI]])=j (.inl (.int o (cL.getD 0 0)),h.push [[aI]]):=a 0 (by omega);have aP:aM ak T 28 [.int o 1,.ptr h.n 0 0] (h.push [[aI]])=j (.inl (.int o (cL.getD 1 0)),h.push [[aI]]):=a 1 (by omega);have a2:aM ak T 28 [.int o 2,.ptr h.n 0 0] (h.push [[aI]])=j (.inl (.int o (cL.getD 2 0)),h.push [[aI]]):=a 2 (by omega);have a3:aM ak T 28 [.int o 3,.ptr h.n 0 0] (h.push [[aI]])=j (.inl (.int o (cL.getD 3 0)),h.push [[aI]]):=a 3 (by omega);have vl:bL (0):=Ij;obtain⟨E,e,bf⟩:=aY.call 1 rfl λah ao x=>B9 x O ab aO ⟨2,cL.getD 0 0,0,cL.getD 1 0,0,cL.getD 2 0,cL.getD 3 0,0,[]⟩ EC ED (by simp) (λx an=>by cases an) vl (λz aR=>by cases aR) (λh=>by cases h);refine⟨E,?_,ge bf.drop⟩;simp only[c7]at e;refine bd vf rfl ?_;unfold tD;simp only[ap,aw,aA,ar,ct,cx,on,r',a6,d0,d1,d2,a0,aP,a2,a3,e]
 by_cases hk:w=[108,105,110,107]
 ·subst hk;have d0:decide (([108,105,110,107]:List UInt8)=[108,111,97,100])=R:=by decide
  have d1:decide (([108,105,110,107]:List UInt8)=[99,117,116])=R:=by decide
  have d2:decide (([108,105,110,107]:List UInt8)=[103,97,116,101])=R:=by decide
  have d3:decide (([108,105,110,107]:List UInt8)=[103,114,97,110,116])=R:=by decide
  have d4:decide (([108,105,110,107]:List UInt8)=[108,105,110,107])=Q:=by decide
  have lX:iA [108,105,110,107]=(3,5):=by decide
  have aq:cL.length=5:=by rw[lX]at ai;simp only at ai;omega
  have a0:aM ak T 28 [.int o 0,.ptr h.n 0 0] (h.push [[aI]])=j (.inl (.int o (cL.getD 0 0)),h.push [[aI]]):=a 0 (by omega);have aP:aM ak T 28 [.int o 1,.ptr h.n 0 0] (h.push [[aI]])=j (.inl (.int o (cL.getD 1 0)),h.push [[aI]]):=a 1 (by omega);have a2:aM ak T 28 [.int o 2,.ptr h.n 0 0] (h.push [[aI]])=j (.inl (.int o (cL.getD 2 0)),h.push [[aI]]):=a 2 (by omega);have a3:aM ak T 28 [.int o 3,.ptr h.n 0 0] (h.push [[aI]])=j (.inl (.int o (cL.getD 3 0)),h.push [[aI]]):=a 3 (by omega);have a4:aM ak T 28 [.int o 4,.ptr h.n 0 0] (h.push [[aI]])=j (.inl (.int o (cL.getD 4 0)),h.push [[aI]]):=a 4 (by omega);have vl:bL (0):=Ij;obtain⟨E,e,bf⟩:=aY.call 1 rfl λah ao x=>B9 x O ab aO ⟨3,cL.getD 0 0,cL.getD 1 0,cL.getD 2 0,0,cL.getD 3 0,cL.getD 4 0,0,[]⟩ EC ED (by simp) (λx an=>by cases an) vl (λz aR=>by cases aR) (λh=>by cases h);refine⟨E,?_,ge bf.drop⟩;simp only[c7]at e;refine bd vf rfl ?_;unfold tD;simp only[ap,aw,aA,ar,ct,cx,on,r',a6,d0,d1,d2,d3,a0,aP,a2,a3,a4,e]
 by_cases ij:w=[99,97,108,108]
 ·subst ij;have d0:decide (([99,97,108,108]:List UInt8)=[108,111,97,100])=R:=by decide
  have d1:decide (([99,97,108,108]:List UInt8)=[99,117,116])=R:=by decide
  have d2:decide (([99,97,108,108]:List UInt8)=[103,97,116,101])=R:=by decide
  have d3:decide (([99,97,108,108]:List UInt8)=[103,114,97,110,116])=R:=by decide
  have d4:decide (([99,97,108,108]:List UInt8)=[108,105,110,107])=R:=by decide
  have d5:decide (([99,97,108,108]:List UInt8)=[99,97,108,108])=Q:=by decide
  have lX:iA [99,97,108,108]=(-1,3):=by decide
  have aq:cL.length=3:=by rw[lX]at ai;simp only at ai;omega
  have a0:aM ak T 28 [.int o 0,.ptr h.n 0 0] (h.push [[aI]])=j (.inl (.int o (cL.getD 0 0)),h.push [[aI]]):=a 0 (by omega);have aP:aM ak T 28 [.int o 1,.ptr h.n 0 0] (h.push [[aI]])=j (.inl (.int o (cL.getD 1 0)),h.push [[aI]]):=a 1 (by omega);have a2:aM ak T 28 [.int o 2,.ptr h.n 0 0] (h.push [[aI]])=j (.inl (.int o (cL.getD 2 0)),h.push [[aI]]):=a 2 (by omega);have vl:bL (0):=Ij;obtain⟨E,e,bf⟩:=aY.call 1 rfl λah ao x=>B9 x O ab aO ⟨4,cL.getD 0 0,0,cL.getD 1 0,max (cL.getD 2 0) 0,0,0,0,[]⟩ EC ED (by simp) (λx an=>by cases an) vl (λz aR=>by cases aR) (λh=>by cases h);refine⟨E,?_,ge bf.drop⟩;simp only[c7]at e;have l8:(if(0:Int)>cL.getD 2 0 then 0 else cL.getD 2 0)=max (cL.getD 2 0) 0:=by rw[Int.max_def];split<;>split<;>omega
  refine bd vf rfl ?_;unfold tD;simp only[ap,aw,aA,ar,ct,cx,on,r',a6,d0,d1,d2,d3,d4,a0,aP,a2,l8,e]
 by_cases hZ:w=[118,97,108,117,101]
 ·subst hZ;have d0:decide (([118,97,108,117,101]:List UInt8)=[108,111,97,100])=R:=by decide
  have d1:decide (([118,97,108,117,101]:List UInt8)=[99,117,116])=R:=by decide
  have d2:decide (([118,97,108,117,101]:List UInt8)=[103,97,116,101])=R:=by decide
  have d3:decide (([118,97,108,117,101]:List UInt8)=[103,114,97,110,116])=R:=by decide
  have d4:decide (([118,97,108,117,101]:List UInt8)=[108,105,110,107])=R:=by decide
  have d5:decide (([118,97,108,117,101]:List UInt8)=[99,97,108,108])=R:=by decide
  have d6:decide (([118,97,108,117,101]:List UInt8)=[118,97,108,117,101])=Q:=by decide
  have lX:iA [118,97,108,117,101]=(-1,3):=by decide
  have aq:cL.length=3:=by rw[lX]at ai;simp only at ai;omega
  have a0:aM ak T 28 [.int o 0,.ptr h.n 0 0] (h.push [[aI]])=j (.inl (.int o (cL.getD 0 0)),h.push [[aI]]):=a 0 (by omega);have aP:aM ak T 28 [.int o 1,.ptr h.n 0 0] (h.push [[aI]])=j (.inl (.int o (cL.getD 1 0)),h.push [[aI]]):=a 1 (by omega);have a2:aM ak T 28 [.int o 2,.ptr h.n 0 0] (h.push [[aI]])=j (.inl (.int o (cL.getD 2 0)),h.push [[aI]]):=a 2 (by omega);have vl:bL (cL.getD 2 0):=by
   have ax:cL.getD 2 0=cL[2]:=by simp[dm,aq]
   rw[ax];exact wJ (by rw[lX]) _ (hf _)
  obtain⟨E,e,bf⟩:=aY.call 1 rfl λah ao x=>B9 x O ab aO ⟨4,cL.getD 0 0,0,cL.getD 1 0, -1,0,0,cL.getD 2 0,[]⟩ EC ED (by simp) (λx an=>by cases an) vl (λz aR=>by cases aR) (λh=>by cases h);refine⟨E,?_,ge bf.drop⟩;simp only[c7]at e;have bR:fg (j t64) Z aI (.int o 2)=j (.ip [.int o (cL.getD 2 0)] 0):=U.bR o 2 [.int o (cL.getD 2 0)] (by simp[qE,dm,aq]);refine bd vf rfl ?_;unfold tD;simp only[ap,aw,aA,ar,ct,cx,on,r',a6,d0,d1,d2,d3,d4,d5,a0,aP,a2,bR,e]
 by_cases hb:w=[104,97,110,100]
 ·subst hb;have d0:decide (([104,97,110,100]:List UInt8)=[108,111,97,100])=R:=by decide
  have d1:decide (([104,97,110,100]:List UInt8)=[99,117,116])=R:=by decide
  have d2:decide (([104,97,110,100]:List UInt8)=[103,97,116,101])=R:=by decide
  have d3:decide (([104,97,110,100]:List UInt8)=[103,114,97,110,116])=R:=by decide
  have d4:decide (([104,97,110,100]:List UInt8)=[108,105,110,107])=R:=by decide
  have d5:decide (([104,97,110,100]:List UInt8)=[99,97,108,108])=R:=by decide
  have d6:decide (([104,97,110,100]:List UInt8)=[118,97,108,117,101])=R:=by decide
  have d7:decide (([104,97,110,100]:List UInt8)=[104,97,110,100])=Q:=by decide
  have lX:iA [104,97,110,100]=(-1,1):=by decide
  have aq:cL.length=1:=by rw[lX]at ai;simp only at ai;omega
  have a0:aM ak T 28 [.int o 0,.ptr h.n 0 0] (h.push [[aI]])=j (.inl (.int o (cL.getD 0 0)),h.push [[aI]]):=a 0 (by omega);obtain⟨v,es,av,fB,KO⟩:=avR EE 4 rfl l4.dg.cy l4.cy (cL.getD 0 0);have hw:=ajP O.wf (cL.getD 0 0);have M1:∀x∈K.W.H.si (cL.getD 0 0),x.code=0:=λx an=>by obtain⟨n,rfl,AS⟩:=agx l4.dg _ x an;exact Cn AS
  have hle:=agy l4 (cL.getD 0 0);have aBw:=Us hw M1;obtain⟨J,hZ,H5,M0,bK,bf⟩:=ayZ fB KO hw M1 (by omega) (v0:=.cF fW b) (v1:=.str [104,97,110,100]) (v2:=aI) (v3:=.ptr h.n 0 0) (v4:=.fn 28 [] [.ptr h.n 0 0]) (dz:=.str [104,97,110,100]) (gM:=.bool R) (v9:=.bool R) (v10:=.bool R) (v11:=.bool R) (v12:=.bool R) (ix:=.bool R) (iK:=.bool R) (nm:=.bool Q) (v20:=.aD) (v21:=.aD) (Uq:=.aD) [.bQ [(.ops [aX,jm,Em,MA])],.bQ [],.bQ [],.bQ [],.bQ [],.bQ [],.bQ [],.bQ [],.bQ [],.b1 0,.bQ []] (K.W.H.si (cL.getD 0 0)) [] (h.push [[aI]]) Ei .aD .aD rfl (by simp only[dw,ey];omega) EE;obtain⟨af,bs,bP⟩:=zN (bf.hS (aK.fresh J 1)) 1 rfl (ws:=[Ei++(K.W.H.si (cL.getD 0 0)).flatMap λv=>32::v.text]) (id:=j J.ids) (by simp) (by omega) (by rw[Lib.join_one,dy];simp only[dw,ey];omega);refine⟨af,?_,wI bP.drop⟩;have ay1:=KO.len;simp only[ey,mn]at bK;simp only[gP,kK,Ei,kq,j6]at bs;refine bd vf rfl ?_;unfold tD;simp only[ap,aw,aA,ar,reduceCtorEq,ct,cx,on,r',a6,d0,d1,d2,d3,d4,d5,d6,a0,kT,EB,lw,b5,av,fB.iH.len,fB.iH.fits,ay1];rw[bK];simp only[ap,ar,bs]
 by_cases iy:w=[107,101,112,116]
 ·subst iy;have d0:decide (([107,101,112,116]:List UInt8)=[108,111,97,100])=R:=by decide
  have d1:decide (([107,101,112,116]:List UInt8)=[99,117,116])=R:=by decide
  have d2:decide (([107,101,112,116]:List UInt8)=[103,97,116,101])=R:=by decide
  have d3:decide (([107,101,112,116]:List UInt8)=[103,114,97,110,116])=R:=by decide
  have d4:decide (([107,101,112,116]:List UInt8)=[108,105,110,107])=R:=by decide
  have d5:decide (([107,101,112,116]:List UInt8)=[99,97,108,108])=R:=by decide
  have d6:decide (([107,101,112,116]:List UInt8)=[118,97,108,117,101])=R:=by decide
  have d7:decide (([107,101,112,116]:List UInt8)=[104,97,110,100])=R:=by decide
  have d8:decide (([107,101,112,116]:List UInt8)=[107,101,112,116])=Q:=by decide
  have lX:iA [107,101,112,116]=(-1,1):=by decide
  have aq:cL.length=1:=by rw[lX]at ai;simp only at ai;omega
  have a0:aM ak T 28 [.int o 0,.ptr h.n 0 0] (h.push [[aI]])=j (.inl (.int o (cL.getD 0 0)),h.push [[aI]]):=a 0 (by omega);obtain⟨r,av,ay2⟩:=avS EE 4 5 rfl rfl l4.dg (cL.getD 0 0);obtain⟨Ii,bX,j2⟩:=Ey (agz l4.dg (cL.getD 0 0)) (Up O.wf (cL.getD 0 0));have nO:=λh=>Ts _ _ (bS _) Ii (Up O.wf (cL.getD 0 0)) (by omega) _ h ay2;obtain⟨af,bs,bP⟩:=zN (EE.hS (aK.fresh (h.push [[aI]]) 2)) 1 rfl (ws:=[Md,(K.W.H.zw (cL.getD 0 0)).text]) (id:=j (h.push [[aI]]).ids) (by simp) (by omega) (by rw[Ez];simp only[dw,ey];omega);refine⟨af,?_,wI bP.drop⟩;simp only[gP,kK,qj]at bs;refine bd vf rfl ?_;unfold tD;simp only[ap,aw,aA,ar,reduceCtorEq,ct,oo,cx,on,r',a6,d0,d1,d2,d3,d4,d5,d6,d7,a0,kT,EB,lw,b5,av,nO,bs]
 by_cases ti:w=[108,111,103]
 ·subst ti;have d0:decide (([108,111,103]:List UInt8)=[108,111,97,100])=R:=by decide
  have d1:decide (([108,111,103]:List UInt8)=[99,117,116])=R:=by decide
  have d2:decide (([108,111,103]:List UInt8)=[103,97,116,101])=R:=by decide
  have d3:decide (([108,111,103]:List UInt8)=[103,114,97,110,116])=R:=by decide
  have d4:decide (([108,111,103]:List UInt8)=[108,105,110,107])=R:=by decide
  have d5:decide (([108,111,103]:List UInt8)=[99,97,108,108])=R:=by decide
  have d6:decide (([108,111,103]:List UInt8)=[118,97,108,117,101])=R:=by decide
  have d7:decide (([108,111,103]:List UInt8)=[104,97,110,100])=R:=by decide
  have d8:decide (([108,111,103]:List UInt8)=[107,101,112,116])=R:=by decide
  have d9:decide (([108,111,103]:List UInt8)=[108,111,103])=Q:=by decide
  obtain⟨E,e,bf⟩:=aY.call 1 rfl λah ao x=>ayN x O ab aO;refine⟨E,?_,ge bf.drop⟩;refine bd vf rfl ?_;unfold tD;simp only[ap,aw,aA,ar,ct,cx,on,r',a6,d0,d1,d2,d3,d4,d5,d6,d7,d8,e]
 by_cases ve:w=[99,101,108,108,115]
 ·subst ve;have d0:decide (([99,101,108,108,115]:List UInt8)=[108,111,97,100])=R:=by decide
  have d1:decide (([99,101,108,108,115]:List UInt8)=[99,117,116])=R:=by decide
  have d2:decide (([99,101,108,108,115]:List UInt8)=[103,97,116,101])=R:=by decide
  have d3:decide (([99,101,108,108,115]:List UInt8)=[103,114,97,110,116])=R:=by decide
  have d4:decide (([99,101,108,108,115]:List UInt8)=[108,105,110,107])=R:=by decide
  have d5:decide (([99,101,108,108,115]:List UInt8)=[99,97,108,108])=R:=by decide
  have d6:decide (([99,101,108,108,115]:List UInt8)=[118,97,108,117,101])=R:=by decide
  have d7:decide (([99,101,108,108,115]:List UInt8)=[104,97,110,100])=R:=by decide
  have d8:decide (([99,101,108,108,115]:List UInt8)=[107,101,112,116])=R:=by decide
  have d9:decide (([99,101,108,108,115]:List UInt8)=[108,111,103])=R:=by decide
  have d10:decide (([99,101,108,108,115]:List UInt8)=[99,101,108,108,115])=Q:=by decide
  obtain⟨E,e,bf⟩:=aY.call 1 rfl λah ao x=>ayP x O ab aO;refine⟨E,?_,ge bf.drop⟩;refine bd vf rfl ?_;unfold tD;simp only[ap,aw,aA,ar,ct,cx,on,r',a6,d0,d1,d2,d3,d4,d5,d6,d7,d8,d9,e]
 have lX:iA w=(-1, -1):=by unfold iA;simp[K5,cg,dS,jl,hk,ij,hZ,hb,iy,ti,ve]
 rw[lX]at ai;simp only at ai;omega
end
end Go.Proofs.YtaodiaofbeblbaaGreatDoor
