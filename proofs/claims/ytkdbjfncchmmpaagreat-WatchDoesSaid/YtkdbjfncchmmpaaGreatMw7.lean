/- The document's evaluation: a function of another plugin is asked for. -/
import Derived.Test.YtkdbjfncchmmpaaGreatMw6
set_option linter.unusedSimpArgs false
set_option linter.unusedVariables false
set_option maxHeartbeats 4000000
set_option maxRecDepth 1000000
open List renaming replicate→ap,getElem?_eq_some_iff→fO,getElem?_eq_getElem→fT,length_append→fz,length_singleton→hj,getD→cZ,length_nil→fG,length_map→fM,length_cons→ho,getElem?_append_right→l1,getElem_mem→jl,getElem?_append_left→l0,all_eq_true→jW,append_assoc→kS,zipWith→jh,getElem?_eq_none→mE,getElem?_cons_zero→oq,nil_append→l3,mem_of_getElem?→o6,cons_append→nz,mem_cons→mJ,append_nil→ou,getElem?_set→pR,mem_map→nt,length_take→pv,length_eq_zero_iff→sy,getElem?_cons_succ→sz,mem_append→qV,all_cons→qa,contains_eq_mem→tw,getD_cons_zero→ua,getElem?_set_ne→uP,drop_eq_getElem_cons→wM,foldl_cons→u3,mem_singleton→xq
open Nat renaming reduceAdd→ar,reduceSub→av,reduceLeDiff→bY,le_refl→b9,le_trans→e6,zero_add→ir,zero_le→mI,lt_succ_self→sR,le_of_eq→qU,one_ne_zero→tE
open Go.IntKind renaming i64→j,wrap→kw
open Option renaming some→o,none→ag,bind_some→du,map_some→i3,getD_some→qT
open Go.Proofs.Tryz renaming prog→aq
open Bool renaming false→U,true→J,and_eq_true→gv,false_eq_true→mF,or_eq_true→o3,and_true→rN
open Int renaming reduceEq→cN,natCast_zero→j',eq_ofNat_of_zero_le→ni,toNat_natCast→m9
open Go renaming TypeId→a9,FuncId→di,IntKind→gZ
open Option.some renaming inj→k9
open BitVec renaming ofInt→lY
open Classical renaming not_not→rM
open Iff renaming rfl→n0
namespace Go.Proofs.YtkdbjfncchmmpaaGreat
open Go
variable{t:bi}{b0:bt}{rows es:List (List F)}{fY D:Nat}{eA:ai}{y:fp}{xs:List fp}
section
variable{h E ak:ai}{ah al aO aL:Nat->Prop}{L:List cc}{c:iC}{ms:dn}{S:bt}{a7:List (List ax)}{e aM P N:Nat}
variable{p k n:Int}{dt bn:F}{rows:List (List F)}{a b:ax}
abbrev IZ:rP:=⟨0,0,ce,[]⟩
theorem azG(h:a.kind≠4):hH ms a b aM S=(S,IZ,2):=by unfold hH;exact if_pos h
theorem azH(h:a.kind=4)(ad:fK (S.G.c5 a.n) 3=U):hH ms a b aM S=(S,IZ,9):=by unfold hH;exact(if_neg (λe=>e h)).trans (if_pos ad)
theorem azI(h:a.kind=4)(ad:fK (S.G.c5 a.n) 3=J)(a6:(S.G.target a.n).1=t)(az:t.bu<0):hH ms a b aM S=(S,IZ,2):=by subst a6;unfold hH;exact(if_neg (λe=>e h)).trans ((if_neg (by simp[ad])).trans (if_pos az))
theorem akU(h:a.kind=4)(ad:fK (S.G.c5 a.n) 3=J)(a6:(S.G.target a.n).1=t)(az:¬t.bu<0)(aA:(ms.getD t.bu.toNat ag).isNone\/((hs ms t.bu).length:Int)<=t.func\/t.func<0):hH ms a b aM S=(S,IZ,8):=by subst a6;unfold hH;exact(if_neg (λe=>e h)).trans ((if_neg (by simp[ad])).trans ((if_neg az).trans (if_pos aA)))
theorem azJ(h:a.kind=4)(ad:fK (S.G.c5 a.n) 3=J)(a6:(S.G.target a.n).1=t)(az:¬t.bu<0)(aA:¬((ms.getD t.bu.toNat ag).isNone\/((hs ms t.bu).length:Int)<=t.func\/t.func<0))(bo:aM=20):hH ms a b aM S=(S,IZ,4):=by subst a6;unfold hH;exact(if_neg (λe=>e h)).trans ((if_neg (by simp[ad])).trans ((if_neg az).trans ((if_neg aA).trans (if_pos bo))))
theorem azK(h:a.kind=4)(ad:fK (S.G.c5 a.n) 3=J)(a6:(S.G.target a.n).1=t)(az:¬t.bu<0)(aA:¬((ms.getD t.bu.toNat ag).isNone\/((hs ms t.bu).length:Int)<=t.func\/t.func<0))(bo:¬aM=20):hH ms a b aM S=({S with G:=(fg (S.G.kx a.n) S.G b).1},⟨t.bu,t.func,(fg (S.G.kx a.n) S.G b).2.1,S.G.kx a.n⟩,(fg (S.G.kx a.n) S.G b).2.2):=by subst a6;unfold hH;exact(if_neg (λe=>e h)).trans ((if_neg (by simp[ad])).trans ((if_neg az).trans ((if_neg aA).trans (if_neg bo))))
theorem Dm{q:rP}{yl:Int}(h:hH ms a b aM S=(b0,q,yl))(ab:yl≠0):Bi ms N a b aM S=b0.no yl:=by unfold Bi;rw[h];exact if_pos ab
theorem azL{na:bt}{q:rP}{v:ax}{yl:Int}(h:hH ms a b aM S=(b0,q,0))(R:dp ms N q.bu (gK ms q.bu q.func) q.arg [] (aM+1) b0=(na,v,yl))(ab:yl≠0):Bi ms N a b aM S=na.no yl:=by unfold Bi;rw[h];simp only;rw[if_neg (λe=>e rfl),R];exact if_pos ab
theorem UV{na:bt}{q:rP}{v:ax}(h:hH ms a b aM S=(b0,q,0))(R:dp ms N q.bu (gK ms q.bu q.func) q.arg [] (aM+1) b0=(na,v,0)):Bi ms N a b aM S=lQ q.eU v na:=by unfold Bi;rw[h];simp only;rw[if_neg (λe=>e rfl),R];exact if_neg (λe=>e rfl)
theorem azM(x:(cm (ji c e ms S a7 aM)).A h ah al)(O:ku ms S)(ef:dt.one=J)(am:gB bO bn rows)(Z:dk [a,b] rows)(aR:Dl ms c e a7 N)(e5:S.left<=N)(k3:aM<=20)(hle:S.left<=100000):Dk Fy h ah al c e ms a7 aM [.ptr e 0 0,.int j p,.agg (fE 19 k n dt),bn] (Bi ms N a b aM S):=by
 obtain⟨cX,te,rfl,t⟩:=Oa am Z;obtain⟨lk,rfl,gL⟩:=t.a.i7;obtain⟨cG,rfl,oQ⟩:=t.b.i7;have i0:=t.i0;have i1:=t.i1;have aY:=sh x (fE 19 k n dt);obtain⟨si,dP,uk,f,ab⟩:=mz aY 3 rfl O.d' O.st.kept;have ff:=f.oS (n:=1);have cB:=(aY.cell 2 rfl).1;have aW:=(aY.cell 1 rfl).1;have bD:=(aY.cell 0 rfl).1;have gC:cd 0 (.ptr c.ad 0 0)=o (.ptr c.ad 0 0):=rfl;by_cases aV:a.kind=4
 rotate_left
 ·have gY:decide (a.kind=4)=U:=decide_eq_false aV;rw[Dm (azG aV) (by decide)];refine⟨_,_,?_,fD,aY.drop.drop⟩;refine a4 iD rfl ?_;unfold im;simp only[ao,ar,av,ap,bY,bN,ef,cB,aW,bD,ff,gC,i0,cN,iO,gY];rfl
 have gY:decide (a.kind=4)=J:=decide_eq_true aV;obtain⟨aj,be,eQ⟩:=Vq (i:=2) (D:=3) (k:=4) aY rfl rfl rfl O t.a 3 (by decide);have be:aU aq aa 137 [.ptr e 0 0,.agg [.int j a.kind,.int j a.n,lk],.int j 3] ((h.push [fE 19 k n dt]).push [a3])=o (.inl (.bS [.agg (if fK (S.G.c5 a.n) 3 then dv (S.G.target a.n).1 else rm),.int j (if fK (S.G.c5 a.n) 3 then 0 else 9)]),aj):=be;have bs:=aY.h1 eQ;by_cases ad:fK (S.G.c5 a.n) 3=J
 rotate_left
 ·rw[Dm (azH aV (by simpa using ad)) (by decide)];rw[if_neg ad,if_neg ad]at be;have bE:=bs.push [rm];have d1:=(bE.cell 1 rfl).1;have d2:=(bE.cell 2 rfl).1;have d0:=(bE.cell 0 rfl).1;refine⟨_,_,?_,fD,(bE.set 1 rfl [a3]).drop.drop.drop⟩;refine a4 iD rfl ?_;unfold im;simp only[ao,ar,av,ap,bY,bN,ef,cB,aW,bD,ff,gC,i0,cN,iO,gY,be,d0,d1];rfl
 rw[if_pos ad,if_pos ad]at be;obtain⟨_,_,a6⟩:=aI.MF O.st.wf (aib ad);generalize hl:(S.G.target a.n).1=T at*;obtain⟨t1,t2,t3,t4,t5,t6⟩:=T;simp only[dv]at a6 be;have bE:=bs.push [[.int j t1,.int j t2,.int j t3,.int j t4,.int j t5,.int j t6]];have d0:=(bE.cell 0 rfl).1;have d1:=(bE.cell 1 rfl).1;have d2:=(bE.cell 2 rfl).1;have d3:=(bE.cell 3 rfl).1;by_cases az:t5<0
 ·rw[Dm (azI aV ad hl az) (by decide)];have rn:decide (t5<0)=J:=decide_eq_true az;refine⟨_,_,?_,fD,(bE.set 1 rfl [a3]).drop.drop.drop⟩;refine a4 iD rfl ?_;unfold im;simp only[ao,ar,av,ap,bY,bN,ef,cB,aW,bD,ff,gC,i0,cN,iO,gY,be,d0,d1,rn];rfl
 have rn:decide (t5<0)=U:=decide_eq_false az;obtain⟨D,rfl⟩:=ni (a:=t5) (by omega);obtain⟨K,rfl⟩:=ni (a:=t6) (by omega);have ae:D<4:=by omega
 obtain⟨aEd,aEe,aEf,f4,aEg⟩:=mz bE 4 rfl O.d' O.st.kept;obtain⟨M,kJ⟩:∃M,ms[D]? =o M:=⟨ms[D]'(by rw[O.d'];exact ae),fT _⟩;have nW:ms.getD (D:Int).toNat ag=M:=by rw[m9,cZ,kJ];rfl
 have f3:cd 3 (.ptr c.ad 0 0)=o (.ptr c.ad 0 3):=rfl;have bJ:=λq=>Vx (b:=c.ad) q ae;cases M with
 |none=>obtain⟨fJ,cO⟩:=f4.Vg D kJ;have mU:=f4.mU (n:=1) cO;rw[Dm (akU aV ad hl az (.inl (by simp only;rw[nW];rfl))) (by decide)];refine⟨_,_,?_,fD,(bE.set 1 rfl [a3]).drop.drop.drop⟩;refine a4 iD rfl ?_;unfold im;simp only[ao,ar,av,ap,bY,bN,ef,cB,aW,bD,ff,gC,i0,cN,iO,gY,be,d0,d1,d3,rn,f3,bJ,mU];rfl
 |some M=>
 obtain⟨q,v,es,cO,c8,hK,d',sZ⟩:=f4.mod D M kJ;have mU:=f4.mU (n:=1) cO;have vJ:cR U 1 (aj.push [[.int j t1,.int j t2,.int j t3,.int j t4,.int j D,.int j K]]) (.ptr q 0 0)=o v:=by rw[gb,c8];rfl
 have w2:hs ms (D:Int)=M:=by simp[hs,cZ,kJ]
 have ym:hX v=o M.length:=by rw[<-sZ.len];exact d'.dH.len
 have yn:=d'.dH.fits;by_cases eB:(M.length:Int)<=(K:Int)
 ·rw[Dm (akU aV ad hl az (.inr (.inl (by simp only;rw[w2];exact eB)))) (by decide)];have Fz:decide ((M.length:Int)<=(K:Int))=J:=decide_eq_true eB;refine⟨_,_,?_,fD,(bE.set 1 rfl [a3]).drop.drop.drop⟩;refine a4 iD rfl ?_;unfold im;simp only[ao,ar,av,ap,bY,bN,ef,cB,aW,bD,ff,gC,i0,cN,iO,gY,be,d0,d1,d3,rn,f3,bJ,mU,vJ,ym,yn,Fz];rfl
 have aA:¬((ms.getD (⟨t1,t2,t3,t4,(D:Int),(K:Int)⟩:bi).bu.toNat ag).isNone\/((hs ms (⟨t1,t2,t3,t4,(D:Int),(K:Int)⟩:bi).bu).length:Int)<=(⟨t1,t2,t3,t4,(D:Int),(K:Int)⟩:bi).func\/(⟨t1,t2,t3,t4,(D:Int),(K:Int)⟩:bi).func<0):=by simp only;rw[nW,w2];simp only[Option.isNone_some,mF,false_or];omega
 have Fz:decide ((M.length:Int)<=(K:Int))=U:=decide_eq_false eB;by_cases nE:aM=20
 ·rw[Dm (azJ aV ad hl az aA nE) (by decide)];have d20:decide ((aM:Int)=20)=J:=decide_eq_true (by omega);refine⟨_,_,?_,fD,(bE.set 1 rfl [a3]).drop.drop.drop⟩;refine a4 iD rfl ?_;unfold im;simp only[ao,ar,av,ap,bY,bN,ef,cB,aW,bD,ff,gC,i0,cN,iO,gY,be,d0,d1,d3,rn,f3,bJ,mU,vJ,ym,yn,Fz,d20];rfl
 have zJ:=azK (b:=b) aV ad hl az aA nE;have d20:decide ((aM:Int)=20)=U:=decide_eq_false (by omega);obtain⟨sP,sQ,lv⟩:=bE.get 5 rfl;have ui:=ayo lv O.st.wf a.n;have akV:=uY 3 (eI (S.G.kx a.n));have Cd:=QJ O.st.wf (i:=a.n);obtain⟨bq,hW,c4,b4,b3⟩:=akT bE (i:=5) rfl O.st.wf akV (by omega) t.b;have N':=QB (aQ:=S.G.kx a.n) (x:=b) O.st.wf;have Vz:=QH (aQ:=S.G.kx a.n) (G:=S.G) (x:=b);generalize S.G.kx a.n=aQ at*;generalize fg aQ S.G b=Q at*;obtain⟨b7,y,yl⟩:=Q;simp only at c4 b4 b3 N' Vz zJ;have c2:=b3.push [hW];have j8:=(c2.cell 0 rfl).1;have n7:=(c2.cell 2 rfl).1;have Dn:=(c2.cell 1 rfl).1;have hL:=b4.cV;by_cases xu:yl=0
 rotate_left
 ·rw[Dm zJ xu];have azN:decide (yl=0)=U:=decide_eq_false xu;refine⟨_,_,?_,fD,(c2.set 2 rfl [a3]).drop.drop.drop.drop⟩;refine a4 iD rfl ?_;unfold im;simp only[ao,ar,av,ap,bY,bN,ef,cB,aW,bD,ff,gC,i0,i1,cN,iO,gY,be,d0,d1,d3,rn,f3,bJ,mU,vJ,ym,yn,Fz,d20,ui,c4,hL,j8,n7,Dn,azN];rfl
 subst xu;have rI:ku ms {S with G:=b7}:=O.azD N';have azO:K<M.length:=by omega
 obtain⟨de,sb,j3,c7,eW⟩:=Vy (A:=[a1 bq.n [hW],a1 aj.n [[.int j t1,.int j t2,.int j t3,.int j t4,.int j D,.int j K]],a1 (h.n+1) [a3],a1 h.n [fE 19 k n dt]]) (S:={S with G:=b7}) c2 aR e5 rI ae kJ azO k3 hle (Vz rfl) b4;have akW:=pc ms N D (gK ms D K) y [] (aM+1) {S with G:=b7} rI.st (Vz rfl) (by simp);unfold ul at j3 c7 eW;rw[if_neg nE]at j3 c7 eW;generalize cQ:dp ms N D (gK ms D K) y [] (aM+1) {S with G:=b7}=Q at*;obtain⟨azP,a',tA⟩:=Q;simp only at j3 c7 eW akW;have eW:aN h ah al de (a1 bq.n [hW]::a1 aj.n [[.int j t1,.int j t2,.int j t3,.int j t4,.int j D,.int j K]]::a1 (h.n+1) [a3]::a1 h.n [fE 19 k n dt]::ji c e ms azP a7 aM):=eW;have hP:=eW.push [sb];have mT:=(hP.cell 0 rfl).1;have fU:=(hP.cell 3 rfl).1;have m4:=c7.cV;by_cases F1:tA=0
 rotate_left
 ·rw[azL zJ cQ F1];have azQ:decide (tA=0)=U:=decide_eq_false F1;refine⟨_,_,?_,fD,(hP.set 3 rfl [a3]).drop.drop.drop.drop.drop⟩;refine a4 iD rfl ?_;unfold im;simp only[ao,ar,av,ap,bY,bN,ef,cB,aW,bD,ff,gC,i0,i1,cN,iO,gY,be,d0,d1,d3,rn,f3,bJ,mU,vJ,ym,yn,Fz,d20,ui,c4,hL,j8,n7,Dn,j3,m4,mT,fU,azQ];rfl
 subst F1;rw[UV zJ cQ,azF];obtain⟨rR,Iz,qE,eD,kc⟩:=akT hP (i:=7) rfl akW.1.cY.wf akV (by omega) c7;have PJ:=eD.cV;have VA:=(kc.cell 3 rfl).1;refine⟨_,_,?_,eD,(kc.set 3 rfl [Iz]).drop.drop.drop.drop.drop⟩;refine a4 iD rfl ?_;unfold im;simp only[ao,ar,av,ap,bY,bN,ef,cB,aW,bD,ff,gC,i0,i1,cN,iO,gY,be,d0,d1,d3,rn,f3,bJ,mU,vJ,ym,yn,Fz,d20,ui,c4,hL,j8,n7,Dn,j3,m4,mT,fU,qE,PJ,VA]
end
section
variable{h E ak:ai}{ah al aO aL:Nat->Prop}{L:List cc}{c:iC}{ms:dn}{S:bt}{a7:List (List ax)}{e aM P N:Nat}
variable{p op k n:Int}{dt bn aZ:F}{rows es:List (List F)}{a b arg:ax}{cX:List F}{names:List ax}
theorem azR{e:a9}{v:F}(x:(gc e v rows).A h ah al){row:List F}(I:row.all F.one=J)(am:rows.length<=1000000):∃a' E,eH U e v (.b5 ag e [row]) h=o (a',E)/\gJ h ah al E (gc e a' (rows++[row])):=by
 have lJ:([row].all λx=>x.all F.one)=J:=by simpa using I
 rcases x with⟨⟨rfl,rfl⟩,aw,ay⟩|⟨id,⟨dw,rfl⟩,aP,a2,bl,cr⟩
 ·refine⟨.b5 (o h.ids) e [row],h.fresh 1,?_,⟨λ_=>False,λD=>D=h.ids,.inr ⟨h.ids,⟨by simp,rfl⟩,λ_ h=>h,λ_=>n0,by simp[ai.fresh],by simp[ai.fresh]⟩,(aG.fresh h 1).wi _ _,λ_ h=>h.elim,λD ae=>.inr (by omega)⟩⟩;simp only[eH,js,if_true,du,hj,tE,if_false,kA];rw[if_pos ⟨by omega,by omega,lJ⟩];rfl
 ·refine⟨.b5 (o id) e (rows++[row]),h.grow id (rows.length+1),?_,⟨λ_=>False,λD=>D=id,.inr ⟨id,⟨by simp,rfl⟩,λ_ h=>h,λ_=>n0,by simp[ai.grow];omega,by simp[ai.grow]⟩,⟨b9 _,by simp[ai.grow],λ_ _ _=>rfl,λD ae g1=>?_⟩,λ_ h=>h.elim,λD ae=>.inl ((a2 D).2 ae)⟩⟩
  ·simp only[eH,js,if_true,du,hj,tE,if_false,kA];rw[if_pos ⟨by omega,by omega,lJ⟩,cr];simp only[true_and,am,if_true]
  ·rw[Qm λe=>g1 ((a2 D).2 e)]
theorem azS(s:aN ak aO aL h L)(i:Nat){e:a9}{v:F}(af:L[i]? =o (gc e v rows)){row:List F}(I:row.all F.one=J)(am:rows.length<=1000000):∃E a',eH U e v (.b5 ag e [row]) h=o (a',E)/\aN ak aO aL E (L.set i (gc e a' (rows++[row]))):=by
 obtain⟨E,a',aw,ek⟩:=s.tO (cJ:=λI (a':F)=>eH U e v (.b5 ag e [row]) h=o (a',I)) i af (Y:=λa'=>gc e a' (rows++[row])) λah al x=>by obtain⟨a',I,aP,a2⟩:=azR x I am;exact⟨I,a',aP,a2⟩
 exact⟨E,a',aw,ek⟩
theorem FA{A:List cc}{H:ai}(s:aN ak aO aL H (A++ji c e ms S a7 aM))(aR:Dl ms c e a7 N)(e5:S.left<=N)(O:ku ms S){x:bC}(fit:IY ms S p x arg names)(k3:aM<=20){r:List F}(vI:hq x r)(gh:bZ arg cX)(aC:e9 bO aZ rows)(Z:dk names rows):∃E br,aU aq aa IX [.ptr e 0 0,.int j p,.agg r,.agg cX,aZ] H=o (.inl (.bS [.agg br,.int j (dp ms N p x arg names aM S).2.2]),E)/\bZ (dp ms N p x arg names aM S).2.1 br/\aN ak aO aL E (A++ji c e ms (dp ms N p x arg names aM S).1 a7 aM):=by
 have ek:aN ak aO aL H (A++ji c e ms S a7 aM++[]):=by rw[ou];exact s
 obtain⟨aH,⟨br,b1,dL⟩,bE⟩:=ek.wX (cJ:=λaH=>∃br,aU aq aa IX [.ptr e 0 0,.int j p,.agg r,.agg cX,aZ] H=o (.inl (.bS [.agg br,.int j (dp ms N p x arg names aM S).2.2]),aH)/\bZ (dp ms N p x arg names aM S).2.1 br) (rh:=ji c e ms (dp ms N p x arg names aM S).1 a7 aM) λah al y=>by obtain⟨aH,br,aP,a2,bl⟩:=aR S p x arg names aM H ah al r cX aZ rows e5 O fit k3 vI gh aC Z y;exact⟨aH,⟨br,aP,a2⟩,bl⟩
 rw[ou]at bE;exact⟨aH,br,b1,dL,bE⟩
abbrev yo(iV lg kb:Nat)(vI cX:List F)(c:iC)(e:Nat)(ms:dn)(S:bt)(a7:List (List ax))(aM:Nat):List cc:=[a1 kb [a3],a1 lg [cX],a1 iV [vI]]++ji c e ms S a7 aM
theorem azT(aR:Dl ms c e a7 N)(k3:aM<=20){X:List bC}(aF:e9 gp dt es)(jX:g3 X es)(akX:X.length<=1000)(bo:∀y∈X,y.fault (hs ms p).length names.length=0)(q8:0<=p)(akY:p<4)(akZ:arg.code=0)(ak0:∀v∈names,v.code=0)(gh:bZ arg cX)(aC:e9 bO aZ rows)(Z:dk names rows)(iV lg kb:Nat)(eD dU e1 gy g5 oM vl zx xX vm vn vo Oc Od Oe Of Og Oh:F):∀(l pre:List bC) (E:ai) (S:bt) (acc:F) (g2:List (List F)) (bI:List ax) (dz nJ oL Oi I0:F),X=pre++l->S.left<=N->ku ms S->names.length+S.left<=100000->dk bI g2->bI.length=pre.length->aN ak aO aL E (gc bO acc g2::yo iV lg kb (fE op k n dt) cX c e ms S a7 aM)->((jd (λy S=>dp ms N p y arg names aM S) l S bI).2.2=0/\∃cP mS Fg tY pV pW zV zW,(∀K,bB (aU aq aa) 33 (.eM Df::.bP []::.cu 1::K) [.ptr e 0 0,.int j p,.agg (fE op k n dt),.agg cX,aZ,.ptr iV 0 0,.ptr lg 0 0,.ptr kb 0 0,dz,eD,dU,e1,gy,g5,acc,.int j (pre.length:Int),nJ,oL,oM,vl,zx,xX,vm,vn,vo,Oc,Od,Oe,Of,Og,Oh,Oi,I0] [] E=bB (aU aq aa) 33 K [.ptr e 0 0,.int j p,.agg (fE op k n dt),.agg cX,aZ,.ptr iV 0 0,.ptr lg 0 0,.ptr kb 0 0,dz,eD,dU,e1,gy,g5,mS,tY,pV,pW,oM,vl,zx,xX,vm,vn,vo,Oc,Od,Oe,Of,Og,Oh,zV,zW] [] cP)/\dk (jd (λy S=>dp ms N p y arg names aM S) l S bI).2.1 Fg/\aN ak aO aL cP (gc bO mS Fg::yo iV lg kb (fE op k n dt) cX c e ms (jd (λy S=>dp ms N p y arg names aM S) l S bI).1 a7 aM))\/((jd (λy S=>dp ms N p y arg names aM S) l S bI).2.2≠0/\∃cP mS Fg tY pV pW zV zW,(∀K,bB (aU aq aa) 33 (.eM Df::.bP []::.cu 1::K) [.ptr e 0 0,.int j p,.agg (fE op k n dt),.agg cX,aZ,.ptr iV 0 0,.ptr lg 0 0,.ptr kb 0 0,dz,eD,dU,e1,gy,g5,acc,.int j (pre.length:Int),nJ,oL,oM,vl,zx,xX,vm,vn,vo,Oc,Od,Oe,Of,Og,Oh,Oi,I0] [] E=o (.ret,[.ptr e 0 0,.int j p,.agg (fE op k n dt),.agg cX,aZ,.ptr iV 0 0,.ptr lg 0 0,.ptr kb 0 0,.int j (jd (λy S=>dp ms N p y arg names aM S) l S bI).2.2,eD,dU,e1,gy,g5,mS,tY,pV,pW,oM,vl,zx,xX,vm,vn,vo,Oc,Od,Oe,Of,Og,Oh,zV,zW],cP))/\aN ak aO aL cP (gc bO mS Fg::yo iV lg kb (fE op k n dt) cX c e ms (jd (λy S=>dp ms N p y arg names aM S) l S bI).1 a7 aM)):=by
 intro l;induction l with
 |nil=>
   intro pre E S acc g2 bI dz nJ oL Oi I0 FB e5 O hlen fQ BE s;have I1:hX dt=o X.length:=by rw[<-jX.len];exact aF.dH.len
   have I2:=aF.dH.fits;have d1:decide ((pre.length:Int)<(X.length:Int))=U:=decide_eq_false (by rw[FB];simp);have fV:=(s.cell 3 rfl).1;refine .inl ⟨rfl,E,acc,g2,.int j (pre.length:Int),nJ,oL,.bool U,I0,λK=>?_,fQ,s⟩;rw[cy Df.eq_1];simp only[ao,ar,av,ap,b2,I1,I2,d1,fV]
 |cons y l azU=>
   intro pre E S acc g2 bI dz nJ oL Oi I0 FB e5 O hlen fQ BE s;have I1:hX dt=o X.length:=by rw[<-jX.len];exact aF.dH.len
   have I2:=aF.dH.fits;have iS:pre.length<X.length:=by rw[FB];simp
   have d1:decide ((pre.length:Int)<(X.length:Int))=J:=decide_eq_true (by omega);have fV:=(s.cell 3 rfl).1;have h9:=(s.cell 2 rfl).1;have bH:X[pre.length]? =o y:=by rw[FB];simp
   have TL:y∈X:=by rw[FB];simp
   obtain⟨ak1,bR,bQ⟩:=jX.get bH;have bJ:∀q:gZ,dY (o gp) ag dt (.int q (pre.length:Int))=o (.ip ak1 0):=λq=>aF.dH.bJ q pre.length ak1 bR;have vG:=gA bQ.one.2;have cx:=ew (n:=(pre.length:Int)+1) (by omega) (by omega);have ev:((pre++[y]).length:Int)=(pre.length:Int)+1:=by simp
   have gQ:=gA gh.cV.1;have fit:IY ms S p y arg names:=⟨bo y TL,akZ,ak0,hlen,q8,akY⟩;obtain⟨R,bL,ay,b6,aY⟩:=FA (A:=[gc bO acc g2,a1 kb [a3],a1 lg [cX],a1 iV [fE op k n dt]]) s aR e5 O fit k3 bQ gh aC Z;have nj:=pc ms N p y arg names aM S O.st akZ ak0;have azV:jd (λy S=>dp ms N p y arg names aM S) (y::l) S bI=(match dp ms N p y arg names aM S with|(b0,v,c)=>if c≠0 then(b0,[],c)else jd (λy S=>dp ms N p y arg names aM S) l b0 (bI++[v])):=rfl;rw[azV];generalize dp ms N p y arg names aM S=Q at*;obtain⟨lB,a',bD⟩:=Q;simp only at ay b6 aY nj ⊢;have bs:=aY.push [bL];have t3:=aY.push [a3];have j8:=(t3.cell 4 rfl).1;have n7:=(t3.cell 3 rfl).1;have yp:=(bs.cell 2 rfl).1;have bG:=b6.cV;have gL:=gh.cV;by_cases an:bD=0
   ·subst an;rw[if_neg (λh=>h rfl)];have Xz:=nj.1.left;simp only at Xz;have aEh:g2.length=pre.length:=by rw[<-BE];exact fQ.len
    obtain⟨aH,k0,nh,bE⟩:=azS bs 1 rfl (row:=bL) bG.2 (by omega);have bE:aN ak aO aL aH (a1 R.n [bL]::gc bO k0 (g2++[bL])::yo iV lg kb (fE op k n dt) cX c e ms lB a7 aM):=bE;have sr:=azU (pre++[y]) aH lB k0 (g2++[bL]) (bI++[a']) dz (.ptr R.n 0 0) (.int j 0) (.bool J) (.bool U) (by simp[FB]) (by omega) (O.of nj.1.cY (by have:=nj.1.bh;simp only at this;omega)) (by omega) (fQ.append b6) (by simp[BE]) bE.drop;rcases sr with⟨aB,de,VB,VC,tY,pV,pW,zV,zW,sb,azW,eW⟩|⟨aB,de,VB,VC,tY,pV,pW,zV,zW,sb,eW⟩
    ·refine .inl ⟨aB,de,VB,VC,tY,pV,pW,zV,zW,λK=>?_,azW,eW⟩;rw[<-sb K,ev]
     conv=>lhs;rw[cy Df.eq_1]
     simp only[ao,ar,av,ap,b2,bN,I1,I2,d1,fV,h9,bJ,vG,gQ,ay,j8,n7,bG,nh,cx]
    ·refine .inr ⟨aB,de,VB,VC,tY,pV,pW,zV,zW,λK=>?_,eW⟩;rw[<-sb K,ev]
     conv=>lhs;rw[cy Df.eq_1]
     simp only[ao,ar,av,ap,b2,bN,I1,I2,d1,fV,h9,bJ,vG,gQ,ay,j8,n7,bG,nh,cx]
   ·rw[if_pos an];have w3:decide (bD=0)=U:=decide_eq_false an;have bE:=(bs.set 2 rfl [a3]).drop;refine .inr ⟨an,_,acc,g2,.int j (pre.length:Int),.ptr R.n 0 0,.int j bD,.bool J,.bool J,λK=>?_,bE⟩;rw[cy Df.eq_1];simp only[ao,ar,av,ap,b2,bN,I1,I2,d1,fV,h9,bJ,vG,gQ,ay,j8,n7,bG,w3,yp]
end
section
variable{h E ak:ai}{ah al aO aL:Nat->Prop}{L:List cc}{c:iC}{ms:dn}{S:bt}{a7:List (List ax)}{e aM P N:Nat}
variable{p op k n:Int}{dt bn aZ:F}{rows es:List (List F)}{a b arg:ax}{cX:List F}{names:List ax}
theorem azX{h:ai}{ah al:Nat->Prop}{e:a9}{v:F}(x:(gc e v rows).A h ah al):e9 e v rows:=by
 rcases x with⟨⟨rfl,rfl⟩,_⟩|⟨id,⟨_,rfl⟩,_⟩
 ·exact .inl ⟨rfl,rfl⟩
 ·exact .inr ⟨_,rfl⟩
theorem azY{x:bC}{bI:List ax}(iH:¬(x.op=1\/x.op=2\/x.op=3\/x.op=4\/x.op=21))(hL:x.op≠5)(m4:x.op≠7)(vy:x.op≠18)(x8:x.op≠19)(az:0<=gw x.op)(am:(bI.length:Int)=gw x.op)(an:∀v∈bI,v.code=0)(q8:0<=p)(akY:p<4)(y:(cm (ji c e ms S a7 aM)).A h ah al)(O:ku ms S)(ef:dt.one=J)(aC:e9 bO bn rows)(Z:dk bI rows):Dk Fy h ah al c e ms a7 aM [.ptr e 0 0,.int j p,.agg (fE x.op x.k x.n dt),bn] (gV p x.op x.k x.n bI S):=by
 have I:=Uh az;have af:=aC.dH;generalize x.op=op at*;generalize x.k=k at*;generalize x.n=n at*;have two:gw op=2->∃a b,bI=[a,b]:=λh=>Ir (by omega);have one:gw op=1->∃a,bI=[a]:=λh=>by
  have:bI.length=1:=by omega
  match bI,this with
  |[a],_=>exact⟨a,rfl⟩
 obtain⟨P,rfl⟩:=ni q8;rcases(by omega:op=6\/op=8\/op=9\/op=10\/op=11\/op=12\/op=13\/op=14\/op=15\/op=16\/op=17\/op=20)with rfl|rfl|rfl|rfl|rfl|rfl|rfl|rfl|rfl|rfl|rfl|rfl
 ·obtain⟨a,b,rfl⟩:=two (by decide);exact aze y O ef af Z
 ·obtain⟨a,b,rfl⟩:=two (by decide);exact azh y O ef af aC Z
 ·obtain⟨a,rfl⟩:=one (by decide);exact azj y O ef af Z (an a (by simp))
 ·obtain⟨a,rfl⟩:=one (by decide);exact azk y O ef af Z (an a (by simp))
 ·obtain⟨a,rfl⟩:=one (by decide);exact azi y O ef af aC Z
 ·obtain⟨a,rfl⟩:=one (by decide);exact azl y O ef af Z (an a (by simp))
 ·obtain⟨a,rfl⟩:=one (by decide);exact azm y O ef af Z
 ·obtain⟨a,b,rfl⟩:=two (by decide);exact azp y O ef af Z
 ·obtain⟨a,rfl⟩:=one (by decide);exact azr y O ef af Z
 ·obtain⟨a,rfl⟩:=one (by decide);exact azu y O ef af Z
 ·obtain⟨a,rfl⟩:=one (by decide);exact azs y O ef af Z
 ·obtain⟨a,rfl⟩:=one (by decide);exact azt y O ef af Z rfl (by omega)
theorem azZ{h:ai}(aC:e9 bO aZ rows)(I:∀r∈rows,r.all F.one=J)(am:rows.length<=1000000){r:List F}(au:r.all F.one=J):∃u a' I R,eH U bO .aJ aZ h=o (u,I)/\eH U bO u (.b5 ag bO [r]) I=o (a',R)/\I.cell=h.cell/\aG h R/\e9 bO a' (rows++[r]):=by
 obtain⟨u,lJ,aw,aP,cS,cF,fA⟩:=Ll (wa h h bO) (aG.refl h) (x:=aZ) (rows:=rows) (by
  rcases aC with⟨a,b⟩|b
  ·exact .inl ⟨b,a⟩
  ·exact .inr b) I (by simp) am
 have hR:([r].all λx=>x.all F.one)=J:=by simpa using au
 rw[l3]at aP;rcases aP with⟨rfl,rfl⟩|⟨id,cg,c0,fq,l5,rfl⟩
 ·refine⟨.aJ,.b5 (o lJ.ids) bO [r],lJ,lJ.fresh 1,aw,?_,cF,cS.trans (aG.fresh _ 1),.inr ⟨_,rfl⟩⟩;simp only[eH,js,if_true,du,hj,tE,if_false,kA];rw[if_pos ⟨by omega,by omega,hR⟩];rfl
 ·refine⟨_,.b5 (o id) bO (rows++[r]),lJ,lJ.grow id (rows.length+1),aw,?_,cF,cS.grow c0,.inr ⟨_,rfl⟩⟩;simp only[eH,js,if_true,du,hj,tE,if_false,kA];rw[if_pos ⟨by omega,by omega,hR⟩,l5];simp only[true_and,am,if_true]
theorem dk.ak2:∀{l:List ax} {es:List (List F)},dk l es->∀r∈es,r.all F.one=J
 |[],es,h,r,au=>by simp only[dk]at h;subst h;simp at au
 |x::l,es,h,r,au=>by
   simp only[dk]at h;obtain⟨q,rs,rfl,I,R⟩:=h;rcases mJ.1 au with rfl|au
   ·exact I.cV.2
   ·exact dk.ak2 R r au
theorem az0(O:ku ms S):ku ms S.tick:=⟨O.d',O.g,O.st.tick,by have:=O.bh;unfold bt.bh bt.tick at*;simp only at*;omega⟩
theorem az1:∀N,Dl ms c e a7 N:=by
 intro N;induction N with
 |zero=>
   intro S p x arg names aM h ah al r cX aZ rows e5 O fit k3 vI gh aC Z y;obtain⟨dt,es,rfl,aF,jX⟩:=vI.row;have aB:S.left=0:=by omega
   have ef:dt.one=J:=by rcases aF with⟨_,rfl⟩|⟨id,rfl⟩<;>rfl
   have gL:=gh.cV;have aY:=(((aN.start y).push [fE x.op x.k x.n dt]).push [cX]).push [a3];have cB:=(aY.cell 3 rfl).1;have jQ:=(aY.cell 0 rfl).1;have kq:decide ((S.left:Int)=0)=J:=decide_eq_true (by omega);refine⟨_,_,?_,fD,aY.drop.drop.drop⟩;refine a4 sg rfl ?_;unfold rl;simp only[ao,ar,av,ap,bY,gL,ef,cB,kq];rfl
 |succ N aR=>
 intro S p x arg names aM h ah al r cX aZ rows e5 O fit k3 vI gh aC Z y;obtain⟨dt,es,rfl,aF,jX⟩:=vI.row;have ef:dt.one=J:=by rcases aF with⟨_,rfl⟩|⟨id,rfl⟩<;>rfl
 have um:=vI.one;have gL:=gh.cV;have aY:=(((aN.start y).push [fE x.op x.k x.n dt]).push [cX]).push [a3];have cB:=(aY.cell 3 rfl).1;have jQ:=(aY.cell 0 rfl).1;have fV:=(aY.cell 2 rfl).1;have h9:=(aY.cell 1 rfl).1;rw[dp];by_cases aB:S.left=0
 ·rw[if_pos aB];have kq:decide ((S.left:Int)=0)=J:=decide_eq_true (by omega);refine⟨_,_,?_,fD,aY.drop.drop.drop⟩;refine a4 sg rfl ?_;unfold rl;simp only[ao,ar,av,ap,bY,gL,ef,cB,kq];rfl
 rw[if_neg aB];have kq:decide ((S.left:Int)=0)=U:=decide_eq_false (by omega);have jf:=fit.len;have cx:=ew (n:=(S.left:Int) - 1) (by omega) (by omega);have az2:(S.tick.left:Int)=(S.left:Int) - 1:=by unfold bt.tick;simp only;omega
 have bs:aN h ah al ((((h.push [fE x.op x.k x.n dt]).push [cX]).push [a3]).set e (o [[.ptr c.ad 0 0,.int j ((S.left:Int) - 1),.int j (aM:Int)]])) (yo h.n (h.n+1) (h.n+1+1) (fE x.op x.k x.n dt) cX c e ms S.tick a7 aM):=by unfold yo ji;rw[az2];exact aY.set 3 rfl [[.ptr c.ad 0 0,.int j ((S.left:Int) - 1),.int j (aM:Int)]]
 generalize mQ:(((h.push [fE x.op x.k x.n dt]).push [cX]).push [a3]).set e (o [[.ptr c.ad 0 0,.int j ((S.left:Int) - 1),.int j (aM:Int)]])=H at*;have kb:=(bs.cell 0 rfl).1;have lg:=(bs.cell 1 rfl).1;have iV:=(bs.cell 2 rfl).1;have iy:=(bs.cell 3 rfl).1;obtain⟨f1,f2,f3,f4,f5⟩:=KI fit.azv;have iH:=Uh f1;have vK:=az0 O;have py:S.tick.left<=N:=by unfold bt.tick;simp only;omega
 have VD:names.length+S.tick.left<=100000:=by unfold bt.tick;simp only;omega
 by_cases sc:(x.op=1\/x.op=2\/x.op=3\/x.op=4\/x.op=21)
 ·rcases sc with I|I|I|I|I
  ·have o7:jL p x arg names S.tick=o (ce):=by unfold jL;rw[if_pos I]
   rw[o7];have oT:decide (x.op=1)=J:=decide_eq_true (by omega);refine⟨_,_,?_,fD,(bs.set 0 rfl [a3]).drop.drop.drop⟩;refine a4 sg rfl ?_;unfold rl;simp only[ao,ar,av,ap,bY,gL,um,cB,kq,cx,mQ,iy,iV,lg,kb,oT];rfl
  ·have o7:jL p x arg names S.tick=o (kG x.n):=by unfold jL;rw[if_neg (by omega),if_pos I]
   rw[o7];have oT:decide (x.op=1)=U:=decide_eq_false (by omega);have p1:decide (x.op=2)=J:=decide_eq_true (by omega);refine⟨_,_,?_,x0 _,(bs.set 0 rfl [[.int j 1,.int j x.n,.aJ]]).drop.drop.drop⟩;refine a4 sg rfl ?_;unfold rl;simp only[ao,ar,av,ap,bY,gL,um,cB,kq,cx,mQ,iy,iV,lg,kb,oT,p1];rfl
  ·have o7:jL p x arg names S.tick=o (arg):=by unfold jL;rw[if_neg (by omega),if_neg (by omega),if_pos I]
   rw[o7];have oT:decide (x.op=1)=U:=decide_eq_false (by omega);have p1:decide (x.op=2)=U:=decide_eq_false (by omega);have ro:decide (x.op=3)=J:=decide_eq_true (by omega);have gQ:=gA gL.1;refine⟨_,_,?_,gh,(bs.set 0 rfl [cX]).drop.drop.drop⟩;refine a4 sg rfl ?_;unfold rl;simp only[ao,ar,av,ap,bY,gL,um,cB,kq,cx,mQ,iy,iV,lg,kb,oT,p1,ro,gQ];rfl
  ·have o7:jL p x arg names S.tick=o (names.getD (names.length - 1 - x.k.toNat) ce):=by unfold jL;rw[if_neg (by omega),if_neg (by omega),if_neg (by omega),if_pos I]
   rw[o7];have oT:decide (x.op=1)=U:=decide_eq_false (by omega);have p1:decide (x.op=2)=U:=decide_eq_false (by omega);have ro:decide (x.op=3)=U:=decide_eq_false (by omega);have tg:decide (x.op=4)=J:=decide_eq_true (by omega);have ab:=IR (by rw[<-I];exact f3);have ff:=aC.dH.len;rw[Z.len]at ff;have fn:=aC.dH.fits;have gn:=ew (n:=(names.length:Int) - 1) (by omega) (by omega);have iz:kw j ((names.length:Int) - 1 - x.k)=((names.length - 1 - x.k.toNat:Nat):Int):=by rw[ew (by omega) (by omega)];omega
   have ae:names.length - 1 - x.k.toNat<names.length:=by omega
   obtain⟨VE,g6,gg⟩:=Z.get (i:=names.length - 1 - x.k.toNat) (x:=names.getD (names.length - 1 - x.k.toNat) ce) (by rw[cZ,fT ae];rfl);have az3:∀q:gZ,dY (o bO) ag aZ (.int q ((names.length - 1 - x.k.toNat:Nat):Int))=o (.ip VE 0):=λq=>aC.dH.bJ q _ VE g6;have az4:=gA gg.cV.1;have az5:=gg.cV;refine⟨_,_,?_,gg,(bs.set 0 rfl [VE]).drop.drop.drop⟩;refine a4 sg rfl ?_;unfold rl;simp only[ao,ar,av,ap,bY,gL,um,cB,kq,cx,mQ,iy,iV,lg,kb,oT,p1,ro,tg,ff,fn,gn,iz,az3,az4,az5];rfl
  ·have o7:jL p x arg names S.tick=o (S.tick.kept.getD p.toNat ce):=by unfold jL;rw[if_neg (by omega),if_neg (by omega),if_neg (by omega),if_neg (by omega),if_pos I]
   rw[o7];have oT:decide (x.op=1)=U:=decide_eq_false (by omega);have p1:decide (x.op=2)=U:=decide_eq_false (by omega);have ro:decide (x.op=3)=U:=decide_eq_false (by omega);have tg:decide (x.op=4)=U:=decide_eq_false (by omega);have vL:decide (x.op=21)=J:=decide_eq_true (by omega);obtain⟨P,rfl⟩:=ni fit.en;have gd:P<4:=by have:=fit.kj;omega
   obtain⟨si,dP,uk,f,ab⟩:=mz bs 4 rfl vK.d' vK.st.kept;obtain⟨hi,mH,Cw⟩:=ab.get (i:=P) (x:=S.tick.kept.getD P ce) (by rw[cZ,fT (by rw[vK.st.kept];exact gd)];rfl);have s6:=f.akj mH;have Ge:=Cw.cV;have f7:cd 7 (.ptr c.ad 0 0)=o (.ptr c.ad 0 7):=rfl;have az6:∀q:gZ,dY ag (o (4,3)) (.ptr c.ad 0 7) (.int q (P:Int))=o (.ptr c.ad 0 (7+P*3)):=λq=>by simp[dY,gd]
   rw[m9];refine⟨_,_,?_,Cw,(bs.set 0 rfl [hi]).drop.drop.drop⟩;refine a4 sg rfl ?_;unfold rl;simp only[ao,ar,av,ap,bY,gL,um,cB,kq,cx,mQ,iy,iV,lg,kb,oT,p1,ro,tg,vL,s6,Ge,f7,az6];rfl
 have az7:jL p x arg names S.tick=ag:=A'.2 sc;rw[az7];simp only;have I3:∀{y:bC} {b0:bt} {jg:List ax},y.fault (hs ms p).length jg.length=0->(∀v∈jg,v.code=0)->jg.length+b0.left<=100000->IY ms b0 p y arg jg:=λI R aj=>⟨I,fit.arg,R,aj,fit.en,fit.kj⟩;have aEi:∀s,kE s (o gp) dt=J:=aF.dH.fits;by_cases hL:x.op=5
 ·rw[if_pos hL];have hlen:x.l.length=2:=by rw[hL]at f2;simp[gw]at f2;omega
  obtain⟨a,b,sA⟩:=Ir hlen;rw[hL]at f5;rw[sA]at f5 jX ⊢;obtain⟨zE,f6⟩:=BZ f5;obtain⟨bp,_⟩:=BZ f6;rw[if_neg (by omega)]at zE;rw[if_pos (by omega)]at bp;simp only[ua,List.getD_cons_succ];obtain⟨I4,VF,I5⟩:=jX.get (i:=0) (x:=a) rfl;obtain⟨I6,VG,I7⟩:=jX.get (i:=1) (x:=b) rfl;have Dp:∀q:gZ,dY (o gp) ag dt (.int q 0)=o (.ip I4 0):=λq=>aF.dH.bJ q 0 I4 VF;have wR:∀q:gZ,dY (o gp) ag dt (.int q 1)=o (.ip I6 0):=λq=>aF.dH.bJ q 1 I6 VG;have gQ:=gA I5.one.2;have AX:=gA I7.one.2;have Dq:=gA gL.1;obtain⟨aH,ik,b1,dL,bE⟩:=FA (A:=[a1 (h.n+1+1) [a3],a1 (h.n+1) [cX],a1 h.n [fE x.op x.k x.n dt]]) bs aR py vK (I3 zE fit.jg VD) k3 I5 gh aC Z;have tf:=pc ms N p a arg names aM S.tick vK.st fit.arg fit.jg;generalize dp ms N p a arg names aM S.tick=Q at*;obtain⟨uo,v,dR⟩:=Q;simp only at b1 dL bE tf ⊢;have bE:aN h ah al aH (yo h.n (h.n+1) (h.n+1+1) (fE x.op x.k x.n dt) cX c e ms uo a7 aM):=bE;have b3:=bE.push [ik];have t5:=bE.push [a3];have j8:=(t5.cell 3 rfl).1;have n7:=(t5.cell 2 rfl).1;have yp:=(b3.cell 1 rfl).1;have mT:=(b3.cell 0 rfl).1;have m5:=(b3.cell 3 rfl).1;have r4:=(b3.cell 2 rfl).1;have e8:=dL.cV;have az8:=gA e8.1;have oT:decide (x.op=1)=U:=decide_eq_false (by omega);have p1:decide (x.op=2)=U:=decide_eq_false (by omega);have ro:decide (x.op=3)=U:=decide_eq_false (by omega);have tg:decide (x.op=4)=U:=decide_eq_false (by omega);have vL:decide (x.op=21)=U:=decide_eq_false (by omega);have yq:decide (x.op=5)=J:=decide_eq_true (by omega);by_cases zX:dR=0
  rotate_left
  ·rw[if_pos zX];have VH:decide (dR=0)=U:=decide_eq_false zX;refine⟨_,_,?_,fD,(b3.set 1 rfl [a3]).drop.drop.drop.drop⟩;refine a4 sg rfl ?_;unfold rl;simp only[ao,ar,av,ap,bY,bN,gL,um,cB,kq,cx,mQ,iy,iV,lg,kb,oT,p1,ro,tg,vL,yq,Dp,gQ,Dq,b1,j8,n7,yp,e8,VH];rfl
  subst zX;rw[if_neg (λh=>h rfl)];have ak3:=tf.1.val rfl;have VI:=tf.1.left;have VJ:=tf.1.bh;simp only at ak3 VI VJ;have Ff:=Z.len;obtain⟨u,nL,cq,de,mn,j3,iJ,zI,az9⟩:=azZ (h:=aH.push [ik]) aC Z.ak2 (by have:=fit.len;omega) e8.2;have eW:=b3.h1 zI;obtain⟨hu,hk,pj,dz,hP⟩:=FA (A:=[a1 aH.n [ik],a1 (h.n+1+1) [a3],a1 (h.n+1) [cX],a1 h.n [fE x.op x.k x.n dt]]) eW aR (by omega) (vK.of tf.1.cY (by omega)) (I3 (jg:=names++[v]) (by rw[fz];exact bp) (λw hw=>by
   rcases qV.1 hw with h|h
   ·exact fit.jg w h
   ·simp only[xq]at h;rw[h];exact ak3) (by have:=tf.2 rfl;simp only at this;rw[fz,hj];omega)) k3 I7 gh az9 (Z.append dL)
  have az':=(eW.cell 1 rfl).1;have hE:=(eW.cell 3 rfl).1;have j4:=(eW.cell 2 rfl).1;have I8:=(hP.cell 1 rfl).1;have yT:=dz.cV;generalize dp ms N p b arg (names++[v]) aM uo=Q at*;refine⟨_,_,?_,dz,(hP.set 1 rfl [hk]).drop.drop.drop.drop⟩;refine a4 sg rfl ?_;unfold rl;simp only[ao,ar,av,ap,bY,bN,gL,um,cB,kq,cx,mQ,iy,iV,lg,kb,oT,p1,ro,tg,vL,yq,Dp,wR,gQ,AX,Dq,b1,j8,n7,mT,e8,az8,mn,j3,iJ,pj,hE,j4,I8,yT]
 rw[if_neg hL];by_cases m4:x.op=7
 ·rw[if_pos m4];have hlen:x.l.length=3:=by rw[m4]at f2;simp[gw]at f2;omega
  obtain⟨a,b,d,sA⟩:=aiu hlen;have x7:=Ed hL f5;rw[sA]at x7 jX ⊢;have zE:=x7 a (by simp);have bp:=x7 b (by simp);have v0:=x7 d (by simp);simp only[ua,List.getD_cons_succ];obtain⟨I4,VF,I5⟩:=jX.get (i:=0) (x:=a) rfl;obtain⟨I6,VG,I7⟩:=jX.get (i:=1) (x:=b) rfl;obtain⟨ak4,aAa,ak5⟩:=jX.get (i:=2) (x:=d) rfl;have Dp:∀q:gZ,dY (o gp) ag dt (.int q 0)=o (.ip I4 0):=λq=>aF.dH.bJ q 0 I4 VF;have wR:∀q:gZ,dY (o gp) ag dt (.int q 1)=o (.ip I6 0):=λq=>aF.dH.bJ q 1 I6 VG;have id:∀q:gZ,dY (o gp) ag dt (.int q 2)=o (.ip ak4 0):=λq=>aF.dH.bJ q 2 ak4 aAa;have gQ:=gA I5.one.2;have AX:=gA I7.one.2;have h':=gA ak5.one.2;have Dq:=gA gL.1;obtain⟨aH,ik,b1,dL,bE⟩:=FA (A:=[a1 (h.n+1+1) [a3],a1 (h.n+1) [cX],a1 h.n [fE x.op x.k x.n dt]]) bs aR py vK (I3 zE fit.jg VD) k3 I5 gh aC Z;have tf:=pc ms N p a arg names aM S.tick vK.st fit.arg fit.jg;generalize dp ms N p a arg names aM S.tick=Q at*;obtain⟨uo,v,dR⟩:=Q;simp only at b1 dL bE tf ⊢;obtain⟨kv,rfl,qD⟩:=dL.i7;have bE:aN h ah al aH (yo h.n (h.n+1) (h.n+1+1) (fE x.op x.k x.n dt) cX c e ms uo a7 aM):=bE;have b3:=bE.push [[.int j v.kind,.int j v.n,kv]];have t5:=bE.push [a3];have j8:=(t5.cell 3 rfl).1;have n7:=(t5.cell 2 rfl).1;have yp:=(b3.cell 1 rfl).1;have mT:=(b3.cell 0 rfl).1;have m5:=(b3.cell 3 rfl).1;have r4:=(b3.cell 2 rfl).1;have oT:decide (x.op=1)=U:=decide_eq_false (by omega);have p1:decide (x.op=2)=U:=decide_eq_false (by omega);have ro:decide (x.op=3)=U:=decide_eq_false (by omega);have tg:decide (x.op=4)=U:=decide_eq_false (by omega);have vL:decide (x.op=21)=U:=decide_eq_false (by omega);have yq:decide (x.op=5)=U:=decide_eq_false (by omega);have Dr:decide (x.op=7)=J:=decide_eq_true (by omega);by_cases zX:dR=0
  rotate_left
  ·rw[if_pos zX];have VH:decide (dR=0)=U:=decide_eq_false zX;refine⟨_,_,?_,fD,(b3.set 1 rfl [a3]).drop.drop.drop.drop⟩;refine a4 sg rfl ?_;unfold rl;simp only[ao,ar,av,ap,bY,bN,gL,um,cB,kq,cx,mQ,iy,iV,lg,kb,oT,p1,ro,tg,vL,yq,Dr,Dp,gQ,Dq,b1,j8,n7,qD,yp,mT,m5,VH];rfl
  subst zX;rw[if_neg (λh=>h rfl)];by_cases o0:v.kind=1
  rotate_left
  ·rw[if_pos o0];have Oj:decide (v.kind=1)=U:=decide_eq_false o0;refine⟨_,_,?_,fD,(b3.set 1 rfl [a3]).drop.drop.drop.drop⟩;refine a4 sg rfl ?_;unfold rl;simp only[ao,ar,av,ap,bY,bN,gL,um,cB,kq,cx,mQ,iy,iV,lg,kb,oT,p1,ro,tg,vL,yq,Dr,Dp,gQ,Dq,b1,j8,n7,qD,yp,mT,m5,Oj];rfl
  rw[if_neg (λh=>h o0)];have Oj:decide (v.kind=1)=J:=decide_eq_true o0;have VI:=tf.1.left;have VJ:=tf.1.bh;simp only at VI VJ;have ak6:ku ms uo:=vK.of tf.1.cY (by omega);by_cases Ok:v.n=0
  ·rw[if_neg (λh=>h Ok)];have VK:decide (v.n=0)=J:=decide_eq_true Ok;obtain⟨hu,hk,pj,dz,hP⟩:=FA (A:=[a1 aH.n [[.int j v.kind,.int j v.n,kv]],a1 (h.n+1+1) [a3],a1 (h.n+1) [cX],a1 h.n [fE x.op x.k x.n dt]]) b3 aR (by omega) ak6 (I3 v0 fit.jg (by omega)) k3 ak5 gh aC Z;have I8:=(hP.cell 1 rfl).1;have yT:=dz.cV;generalize dp ms N p d arg names aM uo=Q at*;refine⟨_,_,?_,dz,(hP.set 1 rfl [hk]).drop.drop.drop.drop⟩;refine a4 sg rfl ?_;unfold rl;simp only[ao,ar,av,ap,bY,bN,gL,um,cB,kq,cx,mQ,iy,iV,lg,kb,oT,p1,ro,tg,vL,yq,Dr,Dp,gQ,Dq,b1,j8,n7,qD,yp,mT,m5,r4,Oj,VK,id,h',pj,I8,yT]
  ·rw[if_pos Ok];have VK:decide (v.n=0)=U:=decide_eq_false Ok;obtain⟨hu,hk,pj,dz,hP⟩:=FA (A:=[a1 aH.n [[.int j v.kind,.int j v.n,kv]],a1 (h.n+1+1) [a3],a1 (h.n+1) [cX],a1 h.n [fE x.op x.k x.n dt]]) b3 aR (by omega) ak6 (I3 bp fit.jg (by omega)) k3 I7 gh aC Z;have I8:=(hP.cell 1 rfl).1;have yT:=dz.cV;generalize dp ms N p b arg names aM uo=Q at*;refine⟨_,_,?_,dz,(hP.set 1 rfl [hk]).drop.drop.drop.drop⟩;refine a4 sg rfl ?_;unfold rl;simp only[ao,ar,av,ap,bY,bN,gL,um,cB,kq,cx,mQ,iy,iV,lg,kb,oT,p1,ro,tg,vL,yq,Dr,Dp,gQ,Dq,b1,j8,n7,qD,yp,mT,m5,r4,Oj,VK,wR,AX,pj,I8,yT]
 rw[if_neg m4];have x7:=Ed hL f5;have oT:decide (x.op=1)=U:=decide_eq_false (by omega);have p1:decide (x.op=2)=U:=decide_eq_false (by omega);have ro:decide (x.op=3)=U:=decide_eq_false (by omega);have tg:decide (x.op=4)=U:=decide_eq_false (by omega);have vL:decide (x.op=21)=U:=decide_eq_false (by omega);have yq:decide (x.op=5)=U:=decide_eq_false (by omega);have Dr:decide (x.op=7)=U:=decide_eq_false (by omega);have akX:x.l.length<=1000:=by
  have:gw x.op<=1000:=by unfold gw;repeat' split<;>omega
  omega
 have Ii:aN h ah al H (gc bO .aJ []::yo h.n (h.n+1) (h.n+1+1) (fE x.op x.k x.n dt) cX c e ms S.tick a7 aM):=bs.add (aG.refl _) (.inl ⟨⟨rfl,rfl⟩,λ_ h=>h,λ_ h=>h⟩) (λ_ h=>h.elim) (λ_ h=>h.elim);have eM:=azT (c:=c) (e:=e) (a7:=a7) (aM:=aM) (op:=x.op) (k:=x.k) (n:=x.n) aR k3 aF jX akX x7 fit.en fit.kj fit.arg fit.jg gh aC Z h.n (h.n+1) (h.n+1+1) .aD .aD .aD .aD .aD (.bool U) (.int j x.op) (.bool U) (.bool U) (.bool U) (.bool U) (.bool U) (.bool U) .aD (.bool U) .aD .aD .aD x.l [] H S.tick .aJ [] [] (.int j 0) .aD .aD .aD .aD rfl py vK VD rfl rfl Ii;have ak7:=KQ (f:=λy S=>dp ms N p y arg names aM S) (λy S h=>pc ms N p y arg names aM S h fit.arg fit.jg) x.l S.tick [] vK.st (by simp);have hlen:=Uj (f:=λy S=>dp ms N p y arg names aM S) x.l S.tick [];simp only[fG,j']at eM;generalize jd (λy S=>dp ms N p y arg names aM S) x.l S.tick []=Q at*;obtain⟨uo,bI,dR⟩:=Q;simp only at eM ak7 hlen ⊢;obtain⟨cS,cf,eQ,lv⟩:=ak7;rcases eM with⟨rfl,aH,acc,g2,tY,pV,pW,zV,zW,ik,dL,bE⟩|⟨zX,aH,acc,g2,tY,pV,pW,zV,zW,ik,bE⟩
 rotate_left
 ·rw[if_pos zX];have ak8:=(bE.cell 1 rfl).1;refine⟨_,_,?_,fD,bE.drop.drop.drop.drop⟩;refine a4 sg rfl ?_;unfold rl;simp only[ao,ar,av,ap,bY,gL,um,cB,kq,cx,mQ,iy,iV,lg,kb,oT,p1,ro,tg,vL,yq,Dr];rw[ik];simp only[ao,ar,ak8];rfl
 rw[if_neg (λh=>h rfl)];have hlen:=hlen rfl;simp only[fG,ir]at hlen lv;have Hv:=(lv trivial).1;have e8:ku ms uo:=vK.of cS cf;have VL:e9 bO acc g2:=by obtain⟨eJ,eK,z⟩:=bE.get 0 rfl;exact azX z
 have ak8:=(bE.cell 1 rfl).1;have qY:=(bE.cell 3 rfl).1;suffices key:∀Q:bt×ax×Int,(∀ah al,(cm (ji c e ms uo a7 aM)).A aH ah al->Dk Fy aH ah al c e ms a7 aM [.ptr e 0 0,.int j p,.agg (fE x.op x.k x.n dt),acc] Q)->Dk IX h ah al c e ms a7 aM [.ptr e 0 0,.int j p,.agg [.int j x.op,.int j x.k,.int j x.n,dt],.agg cX,aZ] Q by
  by_cases vy:x.op=18
  ·rw[if_pos vy];have ox:gw x.op=1:=by rw[vy];rfl
   have ak9:bI.length=1:=by omega
   obtain⟨a,rfl⟩:∃a,bI=[a]:=by
    match bI,ak9 with
    |[a],_=>exact⟨a,rfl⟩
   have ab:=ais (by rw[<-vy];exact f3);obtain⟨P,rfl⟩:=ni fit.en;have gd:P<4:=by have:=fit.kj;omega
   obtain⟨K,eB⟩:=ni ab.1;obtain⟨M,kJ⟩:∃M,ms[P]? =o M:=⟨ms[P]'(by rw[O.d'];exact gd),fT _⟩;have nW:ms.getD (P:Int).toNat ag=M:=by rw[m9,cZ,kJ];rfl
   cases M with
   |none=>
     have:(hs ms (P:Int)).length=0:=by unfold hs;rw[nW];rfl
     omega
   |some M=>
     have w2:hs ms (P:Int)=M:=by unfold hs;rw[nW];rfl
     have:=key (ul ms N P K a aM uo) λah al z=>by rw[vy,eB];exact azE z e8 ef VL.dH dL aR (by omega) gd kJ (by rw[w2]at ab;omega) k3 (by omega) (Hv a (by simp))
     rw[<-eB]at this;exact this
  rw[if_neg vy];by_cases x8:x.op=19
  ·rw[if_pos x8];have ox:gw x.op=2:=by rw[x8];rfl
   obtain⟨a,b,rfl⟩:=Ir (show bI.length=2 by omega);exact key (Bi ms N a b aM uo) λah al z=>by rw[x8];exact azM z e8 ef VL.dH dL aR (by omega) k3 (by omega)
  rw[if_neg x8];exact key _ λah al z=>azY sc hL m4 vy x8 f1 (by omega) Hv fit.en fit.kj z e8 ef VL dL
 intro Q bg;obtain⟨hu,⟨hk,pj,dz⟩,hP⟩:=bE.wX (A:=[gc bO acc g2,a1 (h.n+1+1) [a3],a1 (h.n+1) [cX],a1 h.n [fE x.op x.k x.n dt]]) (M:=ji c e ms uo a7 aM) (B:=[]) (rh:=ji c e ms Q.1 a7 aM) (cJ:=λhu=>∃hk,aU aq aa Fy [.ptr e 0 0,.int j p,.agg (fE x.op x.k x.n dt),acc] aH=o (.inl (.bS [.agg hk,.int j Q.2.2]),hu)/\bZ Q.2.1 hk) λah al z=>by obtain⟨hu,hk,aP,a2,bl⟩:=bg ah al z;exact⟨hu,⟨hk,aP,a2⟩,bl⟩
 have hP:aN h ah al hu (gc bO acc g2::yo h.n (h.n+1) (h.n+1+1) (fE x.op x.k x.n dt) cX c e ms Q.1 a7 aM):=hP;have Dn:=(hP.cell 1 rfl).1;have yT:=dz.cV;refine⟨_,_,?_,dz,(hP.set 1 rfl [hk]).drop.drop.drop.drop⟩;refine a4 sg rfl ?_;unfold rl;simp only[ao,ar,av,ap,bY,gL,um,cB,kq,cx,mQ,iy,iV,lg,kb,oT,p1,ro,tg,vL,yq,Dr];rw[ik];simp only[ao,ar,bN,qY,pj,Dn,yT]
end
abbrev Pi:di:=18
structure VM(ms:dn)(S:bt):Prop where
 d':ms.length=4
 g:xB ms
 st:S.Good
 log:S.log.length<=900000
section
variable{h E ak:ai}{ah al aO aL:Nat->Prop}{L cJ:List cc}{c:iC}{ms:dn}{S:bt}{a7:List (List ax)}{fuel:Nat}{p f:Int}{arg:ax}{cX:List F}
abbrev ia(c:iC)(ms:dn)(S:bt)(a7:List (List ax)):List cc:=[kL c ms S a7,gU c.il S.G]
def ak'(h:ai)(ah al:Nat->Prop)(c:iC)(ms:dn)(a7:List (List ax))(a:List F)(q:bt×ax×Int×Int):Prop:=∃E br,aU aq aa Pi a h=o (.inl (.bS [.agg br,.int j q.2.2.1,.int j q.2.2.2]),E)/\bZ q.2.1 br/\gJ h ah al E (cm (ia c ms q.1 a7))
theorem aAb(x:(cm (ia c ms S a7)).A h ah al)(gh:bZ arg cX){j7:Int}(ad:j7<0\/2000<j7\/p<0\/4<=p):ak' h ah al c ms a7 [.ptr c.ad 0 0,.int j p,.int j f,.agg cX,.int j j7] (S,ce,0,1):=by
 have gL:=gh.cV;have aY:aN h ah al _ (a1 (h.n+1) [a3]::a1 h.n [cX]::ia c ms S a7):=((aN.start x).push [cX]).push [a3];have cB:=(aY.cell 0 rfl).1;refine⟨_,_,?_,fD,aY.drop.drop⟩;by_cases I:j7<0
 ·have d1:decide (j7<0)=J:=decide_eq_true I;refine a4 yh rfl ?_;unfold w0;simp only[ao,ar,av,ap,gL,cB,d1]
 have d1:decide (j7<0)=U:=decide_eq_false I;by_cases R:2000<j7
 ·have d2:decide (2000<j7)=J:=decide_eq_true R;refine a4 yh rfl ?_;unfold w0;simp only[ao,ar,av,ap,gL,cB,d1,d2]
 have d2:decide (2000<j7)=U:=decide_eq_false R;by_cases aj:p<0
 ·have d3:decide (p<0)=J:=decide_eq_true aj;refine a4 yh rfl ?_;unfold w0;simp only[ao,ar,av,ap,gL,cB,d1,d2,d3]
 have d3:decide (p<0)=U:=decide_eq_false aj;have d4:decide (4<=p)=J:=decide_eq_true (by omega);refine a4 yh rfl ?_;unfold w0;simp only[ao,ar,av,ap,gL,cB,d1,d2,d3,d4]
theorem aAc(x:(cm (ia c ms S a7)).A h ah al)(O:VM ms S)(gh:bZ arg cX)(j7:Int):ak' h ah al c ms a7 [.ptr c.ad 0 0,.int j p,.int j f,.agg cX,.int j j7] (eu ms p f arg j7 S):=by
 unfold eu;by_cases ad:j7<0\/2000<j7\/p<0\/4<=p
 ·rw[if_pos ad];exact aAb x gh ad
 rw[if_neg ad];have d1:decide (j7<0)=U:=decide_eq_false (by omega);have d2:decide (2000<j7)=U:=decide_eq_false (by omega);have d3:decide (p<0)=U:=decide_eq_false (by omega);have d4:decide (4<=p)=U:=decide_eq_false (by omega);have gL:=gh.cV;have gQ:=gA gL.1;have aY:aN h ah al _ (a1 (h.n+1) [a3]::a1 h.n [cX]::ia c ms S a7):=((aN.start x).push [cX]).push [a3];have cB:=(aY.cell 0 rfl).1;have aW:=(aY.cell 1 rfl).1;obtain⟨P,rfl⟩:=ni (a:=p) (by omega);obtain⟨N,rfl⟩:=ni (a:=j7) (by omega);have gd:P<4:=by omega
 obtain⟨si,dP,o7,f0,ab⟩:=mz aY 2 rfl O.d' O.st.kept;obtain⟨M,kJ⟩:∃M,ms[P]? =o M:=⟨ms[P]'(by rw[O.d'];exact gd),fT _⟩;have nW:ms.getD (P:Int).toNat ag=M:=by rw[m9,cZ,kJ];rfl
 have f3:cd 3 (.ptr c.ad 0 0)=o (.ptr c.ad 0 3):=rfl;have bJ:=λq=>Vx (b:=c.ad) q gd;rw[nW];cases M with
 |none=>obtain⟨fJ,cO⟩:=f0.Vg P kJ;have mU:=f0.mU (n:=1) cO;rw[if_pos (.inl rfl)];refine⟨_,_,?_,fD,aY.drop.drop⟩;refine a4 yh rfl ?_;unfold w0;simp only[ao,ar,av,ap,bN,gL,cB,aW,d1,d2,d3,d4,f3,bJ,mU]
 |some M=>
 obtain⟨q,v,es,cO,c8,hK,d',sZ⟩:=f0.mod P M kJ;have mU:=f0.mU (n:=1) cO;have vJ:cR U 1 ((h.push [cX]).push [a3]) (.ptr q 0 0)=o v:=by rw[gb,c8];rfl
 have w2:hs ms (P:Int)=M:=by simp[hs,cZ,kJ]
 have ym:hX v=o M.length:=by rw[<-sZ.len];exact d'.dH.len
 have yn:=d'.dH.fits;rw[w2];by_cases cq:f<0
 ·have d6:decide (f<0)=J:=decide_eq_true cq;rw[if_pos (.inr (.inl cq))];refine⟨_,_,?_,fD,aY.drop.drop⟩;refine a4 yh rfl ?_;unfold w0;simp only[ao,ar,av,ap,bN,gL,cB,aW,d1,d2,d3,d4,d6,f3,bJ,mU]
 have d6:decide (f<0)=U:=decide_eq_false cq;by_cases de:(M.length:Int)<=f
 ·have d7:decide ((M.length:Int)<=f)=J:=decide_eq_true de;rw[if_pos (.inr (.inr de))];refine⟨_,_,?_,fD,aY.drop.drop⟩;refine a4 yh rfl ?_;unfold w0;simp only[ao,ar,av,ap,bN,gL,cB,aW,d1,d2,d3,d4,d6,d7,f3,bJ,mU,vJ,ym,yn]
 have d7:decide ((M.length:Int)<=f)=U:=decide_eq_false de;rw[if_neg (by simp only[Option.isNone_some,mF,false_or];omega)];have qy:=MH (h:=(h.push [cX]).push [a3]) gh;by_cases an:arg.code=0
 rotate_left
 ·rw[if_pos an];have w3:decide (arg.code=0)=U:=decide_eq_false an;refine⟨_,_,?_,fD,aY.drop.drop⟩;refine a4 yh rfl ?_;unfold w0;simp only[ao,ar,av,ap,bY,bN,gL,gQ,cB,aW,d1,d2,d3,d4,d6,d7,f3,bJ,mU,vJ,ym,yn,qy,w3]
 rw[if_neg (λh=>h an)];have w3:decide (arg.code=0)=J:=decide_eq_true an;obtain⟨K,rfl⟩:=ni (a:=f) (by omega);have bG:ku ms {S with left:=N}:=⟨O.d',O.g,⟨O.st.wf,O.st.cells,O.st.kept,O.st.tH⟩,by have:=O.log;unfold bt.bh;simp only;omega⟩;have bs:aN h ah al _ (a1 (h.n+1+1) [[.ptr c.ad 0 0,.int j (N:Int),.int j 0]]::a1 (h.n+1) [a3]::a1 h.n [cX]::ia c ms S a7):=aY.push [[.ptr c.ad 0 0,.int j (N:Int),.int j 0]];have bE:aN h ah al (((h.push [cX]).push [a3]).push [[.ptr c.ad 0 0,.int j (N:Int),.int j 0]]) ([a1 (h.n+1) [a3],a1 h.n [cX]]++ji c (h.n+1+1) ms {S with left:=N} a7 0):=bs.imp λ_ _ _ y=>aN.perm (List.Perm.symm (List.perm_middle (l₁:=[a1 (h.n+1) [a3],a1 h.n [cX]]))) y;obtain⟨bq,hW,c4,b4,b3⟩:=Vy (N:=N) bE (az1 N) (b9 _) bG gd kJ (K:=K) (by omega) (by omega) (by simp only;omega) an gh;have ala:=pc ms N P (gK ms P K) arg [] (0+1) {S with left:=N} bG.st an (by simp);unfold ul at c4 b4 b3;rw[if_neg (by omega)]at c4 b4 b3;rw[m9];change ∃E br,_/\_/\_;generalize dp ms N P (gK ms P K) arg [] (0+1) {S with left:=N}=Q at*;obtain⟨Bj,w,hC⟩:=Q;simp only at c4 b4 b3 ala ⊢;have hle:=ala.1.left;simp only at hle;have c2:aN h ah al bq (a1 (h.n+1) [a3]::a1 h.n [cX]::a1 (h.n+1+1) [[.ptr c.ad 0 0,.int j (Bj.left:Int),.int j ((0:Nat):Int)]]::ia c ms Bj a7):=b3;have eW:=c2.push [hW];have mT:=(eW.cell 0 rfl).1;have fU:=(eW.cell 1 rfl).1;have ls:=(eW.cell 3 rfl).1;have hL:=b4.cV;have gs:=ew (n:=(N:Int) - (Bj.left:Int)) (by omega) (by omega);have ki:∀mo,gJ h ah al ((bq.push [hW]).set (h.n+1) (o [mo])) (cm (ia c ms {Bj with left:=S.left} a7)):=λmo=>(eW.set 1 rfl [mo]).drop.drop.drop.drop;by_cases I9:hC=0
 ·have VN:decide (hC=0)=J:=decide_eq_true I9;have VO:((bq.push [hW]).set (h.n+1) (o [hW])).cell (h.n+1+1)=o [[.ptr c.ad 0 0,.int j (Bj.left:Int),.int j ((0:Nat):Int)]]:=((eW.set 1 rfl [hW]).cell 3 rfl).1;have sj:=gA hL.1;refine⟨_,hW,?_,by rw[if_pos I9];exact b4,ki hW⟩;rw[I9]at c4 VN ⊢;refine a4 yh rfl ?_;unfold w0;simp only[ao,ar,av,ap,bY,bN,gL,gQ,cB,aW,d1,d2,d3,d4,d6,d7,f3,bJ,mU,vJ,ym,yn,qy,w3,c4,hL,mT,fU,ls,VO,sj,gs]
 ·have VN:decide (hC=0)=U:=decide_eq_false I9;have VO:((bq.push [hW]).set (h.n+1) (o [a3])).cell (h.n+1+1)=o [[.ptr c.ad 0 0,.int j (Bj.left:Int),.int j ((0:Nat):Int)]]:=((eW.set 1 rfl [a3]).cell 3 rfl).1;refine⟨_,a3,?_,by rw[if_neg I9];exact fD,ki a3⟩;refine a4 yh rfl ?_;unfold w0;simp only[ao,ar,av,ap,bY,bN,gL,gQ,cB,aW,d1,d2,d3,d4,d6,d7,f3,bJ,mU,vJ,ym,yn,qy,w3,c4,hL,mT,fU,ls,VO,gs,VN]
theorem aAd{i:Nat}(s:aN ak aO aL h L)(af:L[i]? =o (kL c ms S a7))(ae:L[i+1]? =o (gU c.il S.G))(O:VM ms S)(gh:bZ arg cX)(j7:Int):∃E br,aU aq aa Pi [.ptr c.ad 0 0,.int j p,.int j f,.agg cX,.int j j7] h=o (.inl (.bS [.agg br,.int j (eu ms p f arg j7 S).2.2.1,.int j (eu ms p f arg j7 S).2.2.2]),E)/\bZ (eu ms p f arg j7 S).2.1 br/\aN ak aO aL E ((L.set i (kL c ms (eu ms p f arg j7 S).1 a7)).set (i+1) (gU c.il (eu ms p f arg j7 S).1.G)):=by
 have am:i+1<L.length:=(fO.1 ae).1;have aw:L=L.take i++ia c ms S a7++L.drop (i+2):=by have aP:L[i]'(by omega)=kL c ms S a7:=(fO.1 af).2;have a2:L[i+1]=gU c.il S.G:=(fO.1 ae).2;have:=List.take_append_drop i L;rw[wM (by omega),aP,wM am,a2]at this;rw[kS];exact this.symm
 have ek:aN ak aO aL h (L.take i++ia c ms S a7++L.drop (i+2)):=by rw[<-aw];exact s
 obtain⟨E,⟨br,aP,a2⟩,aY⟩:=ek.wX (cJ:=λE=>∃br,aU aq aa Pi [.ptr c.ad 0 0,.int j p,.int j f,.agg cX,.int j j7] h=o (.inl (.bS [.agg br,.int j (eu ms p f arg j7 S).2.2.1,.int j (eu ms p f arg j7 S).2.2.2]),E)/\bZ (eu ms p f arg j7 S).2.1 br) (rh:=ia c ms (eu ms p f arg j7 S).1 a7) λah al x=>by obtain⟨E,br,cg,c0,fq⟩:=aAc (p:=p) (f:=f) x O gh j7;exact⟨E,⟨br,cg,c0⟩,fq⟩
 refine⟨E,br,aP,a2,?_⟩;have ay:(L.set i (kL c ms (eu ms p f arg j7 S).1 a7)).set (i+1) (gU c.il (eu ms p f arg j7 S).1.G)=L.take i++ia c ms (eu ms p f arg j7 S).1 a7++L.drop (i+2):=by
  unfold ia;generalize kL c ms (eu ms p f arg j7 S).1 a7=X;generalize gU c.il (eu ms p f arg j7 S).1.G=Y;rw[kS];refine List.ext_getElem? λD=>?_;rw[pR,pR,List.length_set];by_cases I:i+1=D
  ·subst I;rw[if_pos rfl,if_pos am,l1 (by rw[pv];omega),pv,Nat.min_eq_left (by omega),show i+1 - i=1 by omega];rfl
  ·rw[if_neg I];by_cases R:i=D
   ·subst R;rw[if_pos rfl,if_pos (by omega),l1 (by rw[pv];omega),pv,Nat.min_eq_left (by omega),Nat.sub_self];rfl
   ·rw[if_neg R];by_cases aj:D<i
    ·rw[l0 (by rw[pv];omega),List.getElem?_take,if_pos aj]
    ·rw[l1 (by rw[pv];omega),pv,Nat.min_eq_left (by omega),l1 (by simp only[ho,fG];omega),List.getElem?_drop];have:i+2+(D - i - [X,Y].length)=D:=by simp only[ho,fG];omega
     rw[this]
 rw[ay];exact aY
end
section
variable{h E ak:ai}{ah al aO aL:Nat->Prop}{L:List cc}{c:vC}{H:dh}
abbrev Bk(fY:Nat)(y:fp)(m:F)(c:vC)(H:dh):List cc:=[a1 (fY+1) [c3 0 0 a3],a1 fY [cU y m],nm c.ad c.a0 H.a7,ix c.a0 c.cE c.cG H.ms H.S.kept,gU c.cE H.S.G,iL c.cG H.S.cells H.S.log]
theorem w4{m:F}(s:aN ak aO aL eA (Bk fY y m c H))(q:List F):eA.cell (fY+1)=o [c3 0 0 a3]/\eA.cell fY=o [cU y m]/\aN ak aO aL (eA.set (fY+1) (o [q])) (nN c H):=⟨(s.cell 0 rfl).1,(s.cell 1 rfl).1,(s.set 0 rfl [q]).drop.drop⟩
theorem Ol{m:F}(s:aN ak aO aL eA (Bk fY y m c H))(O:kK H){cJ:ai->Prop}{b7:aI}(i6:∀ah al,fm eA ah al c.cE H.S.G->∃E,cJ E/\gx eA ah al c.cE E b7):cR U 1 eA (.ptr c.ad 0 0)=o (.ptr c.a0 0 0)/\cR U 1 eA (.ptr c.a0 0 0)=o (.ptr c.cE 0 0)/\∃E,cJ E/\aN ak aO aL E (Bk fY y m c (H.graph b7)):=by obtain⟨bI,Z⟩:=yg s 2 rfl;have c9:=(Ib s (wR:=3) rfl O.len).1 1;obtain⟨E,r,ek⟩:=s.call (cJ:=cJ) (Y:=gU c.cE b7) 4 rfl i6;exact⟨Z.box 1,c9,E,r,ek⟩
theorem alb{m:F}(s:aN ak aO aL eA (Bk fY y m c H))(O:kK H){p:Int}(az:fx p=J)(n k:Int):∃E r,aU aq aa 59 [.ptr c.ad 0 0,.int j p,.int j n,.int j k] eA=o (.inl (.agg r),E)/\jR (H.jD p n k).2 r/\aN ak aO aL E (Bk fY y m c (H.jD p n k).1):=by
 unfold dh.jD;by_cases ab:k≠0
 ·rw[if_pos ab];obtain⟨E,e,ek⟩:=s.call (cJ:=λE=>aU aq aa 59 [.ptr c.ad 0 0,.int j p,.int j n,.int j k] eA=o (.inl (.agg (c3 k 0 a3)),E)) 2 rfl λah al x=>ax' x ab p n;exact⟨E,_,e,jR.no,ek⟩
 ·rw[if_neg ab];have ab:=rM.1 ab;subst ab;obtain⟨E,e,ek⟩:=s.call (cJ:=λE=>aU aq aa 59 [.ptr c.ad 0 0,.int j p,.int j n,.int j 0] eA=o (.inl (.agg (c3 0 0 [.int j 4,.int j n,.aJ])),E)) 2 rfl λah al x=>aya x O.cY.a7 O.a7 (nl.1 az) n;exact⟨E,_,e,⟨_,rfl,A3 n⟩,ek⟩
theorem jR.all{e:jr}{r:List F}(h:jR e r):r.length=5/\r.all F.one=J:=by obtain⟨q,rfl,aX⟩:=h;obtain⟨bR,bQ⟩:=aX.cV;refine⟨by simp[bR],?_⟩;simp only[qa,bQ,rN];rfl
theorem aAe(x:(cm (nN c H)).A h ah al)(O:kK H)(y:fp){m:F}(da:e9 gp m es)(eS:g3 y.m es)(c1:y.m.length<=100000)(aC:∀x∈y.m,x.size<=100000):∃E,(∃r,aU aq aa 26 [.ptr c.ad 0 0,.agg (cU y m)] h=o (.inl (.agg r),E)/\jR (H.step y).2 r)/\gJ h ah al E (cm (nN c (H.step y).1)):=by
 have fB:aN h ah al h (nN c H):=aN.start x;have bd:=fB.push [cU y m];have aY:aN h ah al _ (Bk h.n y m c H):=bd.push [c3 0 0 a3];have hm:m.one=J:=(iW.of (h:=h) da eS).one;have aW:((h.push [cU y m]).push [c3 0 0 a3]).cell h.n=o [cU y m]:=(aY.cell 1 rfl).1;have mx:∀x,((h.push [cU y m]).push [c3 0 0 a3]).set (h.n+1) (o x)=(h.push [cU y m]).push x:=λx=>nA;have my:∀x,((h.push [cU y m]).push x).cell (h.n+1)=o x:=λx=>hb (h:=h.push [cU y m]);unfold dh.step;by_cases cF:y.kind=1
 ·have d1:decide (y.kind=1)=J:=decide_eq_true cF;rw[if_pos cF];obtain⟨bq,c4,b3⟩:=aY.wX (A:=[a1 (h.n+1) [c3 0 0 a3],a1 h.n [cU y m]]) (M:=nN c H) (B:=[]) (rh:=nN c (H.load y.p y.m).1) (cJ:=λE=>aU aq aa 56 [.ptr c.ad 0 0,.int j y.p,.agg [m]] _=o (.inl (.int j (H.load y.p y.m).2),E)) λah al x=>ayf x O y.p da eS c1 aC;have b3:aN h ah al bq (Bk h.n y m c (H.load y.p y.m).1):=b3;obtain⟨cg,c0,c2⟩:=w4 b3 (c3 (H.load y.p y.m).2 0 a3);refine⟨_,⟨_,?_,jR.no⟩,c2⟩;have lm:fZ J 1 (cU y m) 8=o (.agg [m]):=rfl;simp only[cU]at aW mx my c4 lm;refine a4 yf rfl ?_;unfold wZ;simp only[ao,ar,av,ap,bY,cU,hm,d1,aW,my,mx,lm,c4,cg]
 have d1:decide (y.kind=1)=U:=decide_eq_false cF;rw[if_neg cF];by_cases w5:y.kind=2\/y.kind=3
 ·rw[if_pos w5];cases az:fx y.p with
  |false=>
    have c2:=(w4 aY (c3 1 0 a3)).2.2;refine⟨_,⟨_,?_,jR.no⟩,c2⟩;simp only[cU]at aW mx my;rcases w5 with cA|dK
    ·have d2:decide (y.kind=2)=J:=decide_eq_true cA;refine a4 yf rfl ?_;unfold wZ;simp only[ao,ar,av,ap,bY,cU,ta,az,hm,d1,d2,aW,my,mx]
    ·have d2:decide (y.kind=2)=U:=decide_eq_false (by omega);have d3:decide (y.kind=3)=J:=decide_eq_true dK;refine a4 yf rfl ?_;unfold wZ;simp only[ao,ar,av,ap,bY,cU,ta,az,hm,d1,d2,d3,aW,my,mx]
  |true=>
    rw[if_neg (by decide)];by_cases cA:y.kind=2
    ·have d2:decide (y.kind=2)=J:=decide_eq_true cA;rw[if_pos cA];obtain⟨cD,c9,aj,be,bs⟩:=Ol aY O (λah al g=>auE g O.cY.st.wf y.k y.r y.g);have fP:kK (H.graph (H.S.G.iv y.k y.r y.g).1):=⟨O.cY.graph (O.cY.st.wf.iv _ _ _),O.log,O.a7⟩;obtain⟨bq,hW,c4,b4,b3⟩:=alb bs fP az (H.S.G.iv y.k y.r y.g).2.1 (H.S.G.iv y.k y.r y.g).2.2;obtain⟨aP,a2,_⟩:=w4 bs hW;obtain⟨cg,c0,c2⟩:=w4 b3 hW;obtain⟨ei,fd⟩:=b4.all;refine⟨_,⟨_,?_,b4⟩,c2⟩;simp only[cU]at aW mx my cD c9 be a2;refine a4 yf rfl ?_;unfold wZ;simp only[ao,ar,av,ap,bY,cU,ta,az,hm,d1,d2,aW,my,mx,cD,c9,be,a2,c4,cg,ei,fd]
    ·have d2:decide (y.kind=2)=U:=decide_eq_false cA;have d3:decide (y.kind=3)=J:=decide_eq_true (w5.resolve_left cA);rw[if_neg cA];obtain⟨cD,c9,aj,be,bs⟩:=Ol aY O (λah al g=>auG g O.cY.st.wf y.q y.k y.r y.g);have fP:kK (H.graph (H.S.G.ih y.q y.k y.r y.g).1):=⟨O.cY.graph (O.cY.st.wf.ih _ _ _ _),O.log,O.a7⟩;obtain⟨bq,hW,c4,b4,b3⟩:=alb bs fP az (H.S.G.ih y.q y.k y.r y.g).2.1 (H.S.G.ih y.q y.k y.r y.g).2.2;obtain⟨aP,a2,_⟩:=w4 bs hW;obtain⟨cg,c0,c2⟩:=w4 b3 hW;obtain⟨ei,fd⟩:=b4.all;refine⟨_,⟨_,?_,b4⟩,c2⟩;simp only[cU]at aW mx my cD c9 be a2;refine a4 yf rfl ?_;unfold wZ;simp only[ao,ar,av,ap,bY,cU,ta,az,hm,d1,d2,d3,aW,my,mx,cD,c9,be,a2,c4,cg,ei,fd]
 rw[if_neg w5];have d2:decide (y.kind=2)=U:=decide_eq_false λh=>w5 (.inl h);have d3:decide (y.kind=3)=U:=decide_eq_false λh=>w5 (.inr h);by_cases dR:y.kind=4
 ·have d4:decide (y.kind=4)=J:=decide_eq_true dR;rw[if_pos dR];obtain⟨bq,⟨hW,c4,b4⟩,b3⟩:=aY.wX (A:=[a1 (h.n+1) [c3 0 0 a3],a1 h.n [cU y m]]) (M:=nN c H) (B:=[]) (rh:=nN c (H.call y).1) (cJ:=λE=>∃r,aU aq aa 61 [.ptr c.ad 0 0,.agg (cU y m)] _=o (.inl (.agg r),E)/\jR (H.call y).2 r) λah al x=>ayi x O y hm;have b3:aN h ah al bq (Bk h.n y m c (H.call y).1):=b3;obtain⟨cg,c0,c2⟩:=w4 b3 hW;obtain⟨ei,fd⟩:=b4.all;refine⟨_,⟨_,?_,b4⟩,c2⟩;simp only[cU]at aW mx my c4;refine a4 yf rfl ?_;unfold wZ;simp only[ao,ar,av,ap,bY,cU,hm,d1,d2,d3,d4,aW,my,mx,c4,cg,ei,fd]
 have d4:decide (y.kind=4)=U:=decide_eq_false dR;rw[if_neg dR];by_cases hC:y.kind=5
 ·have d5:decide (y.kind=5)=J:=decide_eq_true hC;rw[if_pos hC];obtain⟨cD,c9,aj,be,bs⟩:=Ol aY O (λah al g=>adF g y.g);obtain⟨cg,c0,c2⟩:=w4 bs (c3 (H.S.G.cut y.g).2 0 a3);refine⟨_,⟨_,?_,jR.no⟩,c2⟩;simp only[cU]at aW mx my cD c9 be;refine a4 yf rfl ?_;unfold wZ;simp only[ao,ar,av,ap,bY,cU,hm,d1,d2,d3,d4,d5,aW,my,mx,cD,c9,be,cg]
 have d5:decide (y.kind=5)=U:=decide_eq_false hC;rw[if_neg hC];by_cases iJ:y.kind=6
 ·have d6:decide (y.kind=6)=J:=decide_eq_true iJ;rw[if_pos iJ];obtain⟨cD,c9,aj,be,bs⟩:=Ol aY O (λah al g=>adC g O.cY.st.wf);by_cases aB:H.S.G.gate.2.2=0
  ·have iY:decide (H.S.G.gate.2.2=0)=J:=decide_eq_true aB;obtain⟨cg,c0,c2⟩:=w4 bs (c3 0 0 [.int j 1,.int j H.S.G.gate.2.1,.aJ]);refine⟨_,⟨c3 0 0 [.int j 1,.int j H.S.G.gate.2.1,.aJ],?_,?_⟩,c2⟩
   rotate_left
   ·simp only[if_neg (λh:H.S.G.gate.2.2≠0=>h aB)];exact⟨_,rfl,x0 _⟩
   simp only[cU]at aW mx my cD c9 be;refine a4 yf rfl ?_;unfold wZ;simp only[ao,ar,av,ap,bY,cU,hm,d1,d2,d3,d4,d5,d6,aW,my,mx,cD,c9,be,cg,iY]
  ·have iY:decide (H.S.G.gate.2.2=0)=U:=decide_eq_false aB;obtain⟨cg,c0,c2⟩:=w4 bs (c3 H.S.G.gate.2.2 0 a3);refine⟨_,⟨c3 H.S.G.gate.2.2 0 a3,?_,?_⟩,c2⟩
   rotate_left
   ·simp only[if_pos (show H.S.G.gate.2.2≠0 from aB)];exact jR.no
   simp only[cU]at aW mx my cD c9 be;refine a4 yf rfl ?_;unfold wZ;simp only[ao,ar,av,ap,bY,cU,hm,d1,d2,d3,d4,d5,d6,aW,my,mx,cD,c9,be,cg,iY]
 have d6:decide (y.kind=6)=U:=decide_eq_false iJ;rw[if_neg iJ];have c2:=(w4 aY (c3 2 0 a3)).2.2;refine⟨_,⟨_,?_,jR.no⟩,c2⟩;simp only[cU]at aW mx my;refine a4 yf rfl ?_;unfold wZ;simp only[ao,ar,av,ap,bY,cU,hm,d1,d2,d3,d4,d5,d6,aW,my,mx]
end
abbrev VP:di:=27
section
variable{h E ak:ai}{ah al aO aL:Nat->Prop}{L:List cc}{c:iC}{ms:dn}{S:bt}{a7:List (List ax)}{H:dh}{y:fp}{m:F}{es:List (List F)}
theorem aAf(s:aN ak aO aL h L)(i:Nat)(af:L[i]? =o (kL c ms S a7))(aH:ms.length=4)(dR:S.kept.length=4)(bA:a7.length=4)(ae:D<4):∃w,(∀n,cR U n h (.ptr c.ad 0 (19+D))=o w)/\Fp h w (a7.getD D []):=by
 obtain⟨ah,al,x⟩:=s.get i af;obtain⟨bn,dP,Z,f,ab,hm,am,t,_⟩:=IV x aH dR;obtain⟨w,hw,aB⟩:=IL am (p:=D) (by omega);have yi:(jh oR c.kd ms).length=4:=by simp[hm,aH]
 obtain⟨eJ,eK,dt⟩:=t.get (3+(4+D)) (X:=i5 w (a7.getD D [])) (by rw[show 3+(4+D)=(4+D)+1+1+1 by omega,sz,sz,sz,l1 (by rw[yi];omega),yi,Nat.add_sub_cancel_left];exact aB);refine⟨w,λn=>?_,U2 dt⟩;rw[gb,f.cell,du,oq,du,pI,(Vo f.d' f.dR f.dK D).1,hw]
abbrev e3(x:fp)(m:F):List F:=[.int j x.kind,.int j x.p,.int j x.q,.int j x.k,.int j x.h,.int j x.r,.int j x.g,.int j x.n,m]
def uq(h:ai)(ah al:Nat->Prop)(c:iC)(a:List F)(q:dh×jr):Prop:=∃E eo r,aU aq aa VP a h=o (.inl (.agg r),E)/\jR q.2 r/\eo.ad=c.ad/\eo.il=c.il/\gJ h ah al E (cm (ia eo q.1.ms q.1.S q.1.a7))
abbrev ur(fY:Nat)(y:fp)(m:F)(c:iC)(H:dh):List cc:=a1 (fY+1) [c3 0 0 a3]::a1 fY [e3 y m]::ia c H.ms H.S H.a7
theorem Om(s:aN ak aO aL eA (ur fY y m c H))(O:kK H){cJ:ai->Prop}{b7:aI}(i6:∀ah al,fm eA ah al c.il H.S.G->∃E,cJ E/\gx eA ah al c.il E b7):cR U 1 eA (.ptr c.ad 0 0)=o (.ptr c.il 0 0)/\∃E,cJ E/\aN ak aO aL E (ur fY y m c (H.graph b7)):=by obtain⟨bn,dP,Z,f,_⟩:=mz s 2 rfl O.cY.ms O.cY.st.kept;obtain⟨E,r,ek⟩:=s.call (cJ:=cJ) 3 rfl (Y:=gU c.il b7) i6;exact⟨f.oS,E,r,ek⟩
theorem alc(s:aN ak aO aL eA (ur fY y m c H))(O:kK H)(hm:m.one=J)(az:fx y.p=J)(n k:Int):∃E r,aU aq aa kt [.ptr c.ad 0 0,.agg (cU y m),.int j n,.int j k] eA=o (.inl (.agg r),E)/\jR (H.jD y.p n k).2 r/\aN ak aO aL E (ur fY y m c (H.jD y.p n k).1):=by
 have aF:(cU y m).length=9/\(cU y m).all F.one=J:=⟨rfl,by simp only[cU,qa,hm];rfl⟩;unfold dh.jD;by_cases ab:k=0
 ·subst ab;rw[if_neg (λh=>h rfl)];obtain⟨en,dB⟩:=nl.1 az;obtain⟨D,ae⟩:=ni en;obtain⟨E,e,ek⟩:=aza s 2 rfl O.cY.ms O.cY.st.kept O.cY.a7 (D:=D) (by omega) (by
   have am:=O.a7;by_cases ez:D<H.a7.length
   ·have:H.a7.getD D []∈H.a7:=by rw[cZ,fT ez,qT];exact jl _
    have:=am _ this;omega
   ·rw[cZ,mE (by omega)];simp) aF (by rw[<-ae];rfl) n
  refine⟨E,td n,e,⟨_,rfl,A3 n⟩,?_⟩;have ay:y.p.toNat=D:=by rw[ae];rfl
  unfold dh.hand;rw[ay];exact ek
 ·rw[if_pos ab];refine⟨_,[.int j k,.int j 0,.int j 0,.int j 0,.aJ],ay4 aF ab,jR.no,?_⟩;exact((s.push [cU y m]).push [[.int j k,.int j 0,.int j 0,.int j 0,.aJ]]).drop.drop
theorem ald{arg:ax}{cX:List F}{e2:ai}(O:kK H)(gh:bZ arg cX)(s:aN ak aO aL e2 (a1 (fY+1+1) [cX]::ur fY y m c H)):∃bq hW,aU aq aa Pi [.ptr c.ad 0 0,.int j y.p,.int j y.k,.agg cX,.int j 2000] e2=o (.inl (.bS [.agg hW,.int j (eu H.ms y.p y.k arg 2000 H.S).2.2.1,.int j (eu H.ms y.p y.k arg 2000 H.S).2.2.2]),bq)/\bZ (eu H.ms y.p y.k arg 2000 H.S).2.1 hW/\(bq.push [hW]).cell (fY+1)=o [c3 0 0 a3]/\gJ ak aO aL ((bq.push [hW]).set (fY+1) (o [c3 (eu H.ms y.p y.k arg 2000 H.S).2.2.2 (eu H.ms y.p y.k arg 2000 H.S).2.2.1 hW])) (cm (ia c H.ms (eu H.ms y.p y.k arg 2000 H.S).1 H.a7)):=by have aAg:VM H.ms H.S:=⟨O.cY.ms,O.cY.ok.cY,O.cY.st,by have:=O.log;omega⟩;obtain⟨bq,hW,c4,b4,b3⟩:=aAd (i:=3) (p:=y.p) (f:=y.k) s rfl rfl aAg gh 2000;have b3:aN ak aO aL bq (a1 (fY+1+1) [cX]::a1 (fY+1) [c3 0 0 a3]::a1 fY [e3 y m]::ia c H.ms (eu H.ms y.p y.k arg 2000 H.S).1 H.a7):=b3;have c2:=b3.push [hW];exact⟨bq,hW,c4,b4,(c2.cell 2 rfl).1,(c2.set 2 rfl _).drop.drop.drop.drop⟩
theorem aAh(x:(cm (ia c H.ms H.S H.a7)).A h ah al)(hm:m.one=J)(dR:y.kind=4)(bA:0<=y.h)(az:fx y.p=U):uq h ah al c [.ptr c.ad 0 0,.agg (e3 y m)] (H,.no 8):=by
 have bs:aN h ah al (((h.push [e3 y m]).push [c3 0 0 a3]).push [[.int j 1,.int j y.n,.aJ]]) (a1 (h.n+1+1) [[.int j 1,.int j y.n,.aJ]]::a1 (h.n+1) [c3 0 0 a3]::a1 h.n [e3 y m]::ia c H.ms H.S H.a7):=(((aN.start x).push [e3 y m]).push [c3 0 0 a3]).push [[.int j 1,.int j y.n,.aJ]];have aW:((h.push [e3 y m]).push [c3 0 0 a3]).cell h.n=o [e3 y m]:=o9;have cg:=(bs.cell 2 rfl).1;have c0:=(bs.cell 1 rfl).1;have fq:=(bs.cell 0 rfl).1;have d1:decide (y.kind=1)=U:=decide_eq_false (by omega);have d2:decide (y.kind=2)=U:=decide_eq_false (by omega);have d3:decide (y.kind=3)=U:=decide_eq_false (by omega);have d4:decide (y.kind=4)=J:=decide_eq_true dR;have rk:decide (0<=y.h)=J:=decide_eq_true bA;refine⟨_,c,_,?_,jR.no,rfl,rfl,(bs.set 1 rfl [c3 8 0 a3]).drop.drop.drop⟩;unfold fx at az;by_cases en:0<=y.p
 ·have dj:decide (0<=y.p)=J:=decide_eq_true en;have aw:decide (y.p<4)=U:=by rw[dj]at az;simpa using az
  refine a4 ci rfl ?_;unfold lj;simp only[ao,ar,av,ap,bY,bN,hm,aW,cg,c0,fq,d1,d2,d3,d4,rk,dj,aw]
 ·have dj:decide (0<=y.p)=U:=decide_eq_false en;refine a4 ci rfl ?_;unfold lj;simp only[ao,ar,av,ap,bY,bN,hm,aW,cg,c0,fq,d1,d2,d3,d4,rk,dj]
theorem aAi(x:(cm (ia c H.ms H.S H.a7)).A h ah al)(O:kK H)(hm:m.one=J)(dR:y.kind=4)(bA:¬0<=y.h):uq h ah al c [.ptr c.ad 0 0,.agg (e3 y m)] ({H with S:=(eu H.ms y.p y.k (kG y.n) 2000 H.S).1},⟨(eu H.ms y.p y.k (kG y.n) 2000 H.S).2.2.2,(eu H.ms y.p y.k (kG y.n) 2000 H.S).2.2.1,(eu H.ms y.p y.k (kG y.n) 2000 H.S).2.1⟩):=by
 have bs:aN h ah al (((h.push [e3 y m]).push [c3 0 0 a3]).push [[.int j 1,.int j y.n,.aJ]]) (a1 (h.n+1+1) [[.int j 1,.int j y.n,.aJ]]::a1 (h.n+1) [c3 0 0 a3]::a1 h.n [e3 y m]::ia c H.ms H.S H.a7):=(((aN.start x).push [e3 y m]).push [c3 0 0 a3]).push [[.int j 1,.int j y.n,.aJ]];have aW:((h.push [e3 y m]).push [c3 0 0 a3]).cell h.n=o [e3 y m]:=o9;have cg:=(bs.cell 2 rfl).1;have fq:=(bs.cell 0 rfl).1;have d1:decide (y.kind=1)=U:=decide_eq_false (by omega);have d2:decide (y.kind=2)=U:=decide_eq_false (by omega);have d3:decide (y.kind=3)=U:=decide_eq_false (by omega);have d4:decide (y.kind=4)=J:=decide_eq_true dR;have rk:decide (0<=y.h)=U:=decide_eq_false bA;obtain⟨bq,hW,c4,b4,t3,t4⟩:=ald (fY:=h.n) (y:=y) (m:=m) O (x0 y.n) bs;generalize eu H.ms y.p y.k (kG y.n) 2000 H.S=Q at*;obtain⟨Bj,Di,A6,hC⟩:=Q;simp only at c4 b4 t3 t4 ⊢;refine⟨_,c,_,?_,⟨hW,rfl,b4⟩,rfl,rfl,t4⟩;obtain⟨vE,rfl,I'⟩:=b4.i7;have mT:∀z,(bq.push z).cell bq.n=o z:=λz=>hb;cases dj:decide (0<=y.p)with
 |false=>refine a4 ci rfl ?_;unfold lj;simp only[ao,ar,av,ap,bY,bN,hm,dj,aW,cg,fq,d1,d2,d3,d4,rk,c4,I',t3,mT]
 |true=>
   cases aw:decide (y.p<4)with
   |false=>refine a4 ci rfl ?_;unfold lj;simp only[ao,ar,av,ap,bY,bN,hm,dj,aw,aW,cg,fq,d1,d2,d3,d4,rk,c4,I',t3,mT]
   |true=>refine a4 ci rfl ?_;unfold lj;simp only[ao,ar,av,ap,bY,bN,hm,dj,aw,aW,cg,fq,d1,d2,d3,d4,rk,c4,I',t3,mT]
theorem aAj(bA:0<=y.h)(hle:((H.hand y.p).length:Int)<=y.h):H.call y=(H,.no 8):=by unfold dh.call;exact if_pos ⟨bA,.inr hle⟩
theorem aAk(bA:0<=y.h)(az:fx y.p=J)(hle:¬((H.hand y.p).length:Int)<=y.h):H.call y=({H with S:=(eu H.ms y.p y.k ((H.hand y.p).getD y.h.toNat ce) 2000 H.S).1},⟨(eu H.ms y.p y.k ((H.hand y.p).getD y.h.toNat ce) 2000 H.S).2.2.2,(eu H.ms y.p y.k ((H.hand y.p).getD y.h.toNat ce) 2000 H.S).2.2.1,(eu H.ms y.p y.k ((H.hand y.p).getD y.h.toNat ce) 2000 H.S).2.1⟩):=by
 unfold dh.call;rw[if_neg (λh=>by
  rcases h.2 with h|h
  ·rw[az]at h;cases h
  ·exact hle h),if_pos bA]
theorem aAl(x:(cm (ia c H.ms H.S H.a7)).A h ah al)(O:kK H)(hm:m.one=J)(dR:y.kind=4)(bA:0<=y.h)(az:fx y.p=J):uq h ah al c [.ptr c.ad 0 0,.agg (e3 y m)] (H.call y):=by
 have bs:aN h ah al (((h.push [e3 y m]).push [c3 0 0 a3]).push [[.int j 1,.int j y.n,.aJ]]) (a1 (h.n+1+1) [[.int j 1,.int j y.n,.aJ]]::a1 (h.n+1) [c3 0 0 a3]::a1 h.n [e3 y m]::ia c H.ms H.S H.a7):=(((aN.start x).push [e3 y m]).push [c3 0 0 a3]).push [[.int j 1,.int j y.n,.aJ]];have aW:((h.push [e3 y m]).push [c3 0 0 a3]).cell h.n=o [e3 y m]:=o9;have cg:=(bs.cell 2 rfl).1;have c0:=(bs.cell 1 rfl).1;have fq:=(bs.cell 0 rfl).1;have d1:decide (y.kind=1)=U:=decide_eq_false (by omega);have d2:decide (y.kind=2)=U:=decide_eq_false (by omega);have d3:decide (y.kind=3)=U:=decide_eq_false (by omega);have d4:decide (y.kind=4)=J:=decide_eq_true dR;have rk:decide (0<=y.h)=J:=decide_eq_true bA;obtain⟨en,dB⟩:=nl.1 az;have dj:decide (0<=y.p)=J:=decide_eq_true en;have aw:decide (y.p<4)=J:=decide_eq_true dB;obtain⟨D,ae⟩:=ni en;have ay:y.p.toNat=D:=by rw[ae];rfl
 obtain⟨w,lw,hw⟩:=aAf bs 3 rfl O.cY.ms O.cY.st.kept O.cY.a7 (D:=D) (by omega);have ale:=lw 1;have bJ:∀q:gZ,dY ag (o (4,1)) (.ptr c.ad 0 19) (.int q y.p)=o (.ptr c.ad 0 (19+D)):=λq=>by rw[ae];simp[dY];omega
 have f19:cd 19 (.ptr c.ad 0 0)=o (.ptr c.ad 0 19):=rfl;have vj:=hw.len;have wf:=hw.fits;have el:H.a7.getD D []=H.hand y.p:=by unfold dh.hand;rw[ay]
 rw[el]at vj hw;have vx:=aAj (H:=H) bA;have hU:=aAk (H:=H) bA az;generalize H.hand y.p=l at vj hw vx hU;by_cases hle:(l.length:Int)<=y.h
 ·have kq:decide ((l.length:Int)<=y.h)=J:=decide_eq_true hle;rw[vx hle];refine⟨_,c,_,?_,jR.no,rfl,rfl,(bs.set 1 rfl [c3 8 0 a3]).drop.drop.drop⟩;refine a4 ci rfl ?_;unfold lj;simp only[ao,ar,av,ap,bY,bN,hm,aW,cg,c0,fq,d1,d2,d3,d4,rk,dj,aw,ale,bJ,f19,vj,wf,kq]
 ·have kq:decide ((l.length:Int)<=y.h)=U:=decide_eq_false hle;rw[hU hle];obtain⟨i,af⟩:=ni bA;have it:i<l.length:=by omega
  obtain⟨p,cX,i1,hh,iM⟩:=hw.bJ j i (l.getD i ce) (by rw[cZ,fT it];rfl);rw[<-af]at i1;have be:y.h.toNat=i:=by rw[af];rfl
  rw[be];have gL:=iM.cV;have gQ:=gA gL.1;have bE:aN h ah al (((h.push [e3 y m]).push [c3 0 0 a3]).push [cX]) (a1 (h.n+1+1) [cX]::a1 (h.n+1) [c3 0 0 a3]::a1 h.n [e3 y m]::ia c H.ms H.S H.a7):=(((aN.start x).push [e3 y m]).push [c3 0 0 a3]).push [cX];have aP:=(bE.cell 2 rfl).1;have bl:=(bE.cell 0 rfl).1;obtain⟨bq,hW,c4,b4,t3,t4⟩:=ald (fY:=h.n) (y:=y) (m:=m) O iM bE;generalize eu H.ms y.p y.k (l.getD i ce) 2000 H.S=Q at*;obtain⟨Bj,Di,A6,hC⟩:=Q;simp only at c4 b4 t3 t4 ⊢;refine⟨_,c,_,?_,⟨hW,rfl,b4⟩,rfl,rfl,t4⟩;obtain⟨vE,rfl,I'⟩:=b4.i7;have mT:∀z,(bq.push z).cell bq.n=o z:=λz=>hb;refine a4 ci rfl ?_;unfold lj;simp only[ao,ar,av,ap,bY,bN,hm,aW,cg,c0,fq,d1,d2,d3,d4,rk,dj,aw,ale,bJ,f19,vj,wf,kq,i1,hh,gL,gQ,aP,bl,c4,I',t3,mT]
theorem aAm(s:aN ak aO aL h L)(i:Nat)(af:L[i]? =o (kL c H.ms H.S H.a7))(O:kK H)(p:Int){v:F}{M:List bC}(kV:∀h,iW h v M)(c1:M.length<=100000)(aC:∀x∈M,x.size<=100000):∃E eo,aU aq aa 44 [.ptr c.ad 0 0,.int j p,.agg [v]] h=o (.inl (.int j (H.load p M).2),E)/\eo.ad=c.ad/\eo.il=c.il/\aN ak aO aL E (L.set i (kL eo (H.load p M).1.ms (H.load p M).1.S (H.load p M).1.a7)):=by
 have bz:=(kV h).one;unfold dh.load;cases az:fx p with
 |false=>
   have bd:=s.push [[v]];refine⟨_,c,?_,rfl,rfl,by rw[if_pos rfl,UO af];exact bd.drop⟩;unfold fx at az;by_cases en:p<0
   ·have dj:decide (p<0)=J:=decide_eq_true en;refine a4 LU rfl ?_;unfold Hu;simp only[ao,ar,av,ap,bz,dj]
   ·have dj:decide (p<0)=U:=decide_eq_false en;have aw:decide (4<=p)=J:=decide_eq_true (by rw[decide_eq_true (show 0<=p by omega),Bool.true_and,decide_eq_false_iff_not]at az;omega);refine a4 LU rfl ?_;unfold Hu;simp only[ao,ar,av,ap,bz,dj,aw]
 |true=>
   obtain⟨en,dB⟩:=nl.1 az;obtain⟨D,rfl⟩:=ni en;obtain⟨E,eo,e,bR,bQ,_,ek⟩:=ayA s i af O.cY.ms O.cY.st.kept (v:=v) (M:=M) (p:=D) (by omega) kV c1 aC;rw[if_neg (by decide),m9];by_cases aB:(fl M).1=0
   ·rw[if_pos aB]at ek;rw[aB]at e;exact⟨E,eo,by rw[if_neg (λh=>h aB)];exact e,bR,bQ,by rw[if_neg (λh=>h aB)];exact ek⟩
   ·rw[if_neg aB]at ek;exact⟨E,eo,by rw[if_pos aB];exact e,bR,bQ,by rw[if_pos aB];exact ek⟩
theorem aAn(x:(cm (ia c H.ms H.S H.a7)).A h ah al)(O:kK H)(cF:y.kind=1)(da:e9 gp m es)(eS:g3 y.m es)(c1:y.m.length<=100000)(aC:∀x∈y.m,x.size<=100000):uq h ah al c [.ptr c.ad 0 0,.agg (e3 y m)] ((H.load y.p y.m).1,.no (H.load y.p y.m).2):=by
 have hm:m.one=J:=(iW.of (h:=h) da eS).one;have aY:aN h ah al ((h.push [e3 y m]).push [c3 0 0 a3]) (ur h.n y m c H):=((aN.start x).push [e3 y m]).push [c3 0 0 a3];have aW:((h.push [e3 y m]).push [c3 0 0 a3]).cell h.n=o [e3 y m]:=o9;have d1:decide (y.kind=1)=J:=decide_eq_true cF;obtain⟨bq,eo,c4,cS,cf,b3⟩:=aAm aY 2 rfl O y.p (λh=>iW.of (h:=h) da eS) c1 aC;have cg:=(b3.cell 0 rfl).1;have lm:fZ J 1 (e3 y m) 8=o (.agg [m]):=rfl;have c2:aN h ah al bq (a1 (h.n+1) [c3 0 0 a3]::a1 h.n [e3 y m]::ia eo (H.load y.p y.m).1.ms (H.load y.p y.m).1.S (H.load y.p y.m).1.a7):=by
  have ui:(H.load y.p y.m).1.S.G=H.S.G:=by
   unfold dh.load;split
   ·rfl
   ·split<;>rfl
  unfold ia;rw[cf,ui];exact b3
 refine⟨_,eo,_,?_,jR.no,cS,cf,(c2.set 0 rfl [c3 (H.load y.p y.m).2 0 a3]).drop.drop⟩;generalize (H.load y.p y.m).2=Bx at*;cases dj:decide (0<=y.p)with
 |false=>refine a4 ci rfl ?_;unfold lj;simp only[ao,ar,av,ap,bY,bN,hm,dj,aW,lm,d1,c4,cg]
 |true=>
   cases aw:decide (y.p<4)with
   |false=>refine a4 ci rfl ?_;unfold lj;simp only[ao,ar,av,ap,bY,bN,hm,dj,aw,aW,lm,d1,c4,cg]
   |true=>refine a4 ci rfl ?_;unfold lj;simp only[ao,ar,av,ap,bY,bN,hm,dj,aw,aW,lm,d1,c4,cg]
theorem aAo(x:(cm (ia c H.ms H.S H.a7)).A h ah al)(hm:m.one=J)(cA:y.kind=2)(az:fx y.p=U):uq h ah al c [.ptr c.ad 0 0,.agg (e3 y m)] (H,.no 1):=by
 have aY:aN h ah al ((h.push [e3 y m]).push [c3 0 0 a3]) (ur h.n y m c H):=((aN.start x).push [e3 y m]).push [c3 0 0 a3];have aW:((h.push [e3 y m]).push [c3 0 0 a3]).cell h.n=o [e3 y m]:=o9;have d1:decide (y.kind=1)=U:=decide_eq_false (by omega);have d2:decide (y.kind=2)=J:=decide_eq_true cA;have cg:=(aY.cell 0 rfl).1;refine⟨_,c,_,?_,jR.no,rfl,rfl,(aY.set 0 rfl [c3 1 0 a3]).drop.drop⟩;unfold fx at az;by_cases en:0<=y.p
 ·have dj:decide (0<=y.p)=J:=decide_eq_true en;have aw:decide (y.p<4)=U:=by rw[dj]at az;simpa using az
  refine a4 ci rfl ?_;unfold lj;simp only[ao,ar,av,ap,bY,bN,hm,aW,cg,d1,d2,dj,aw]
 ·have dj:decide (0<=y.p)=U:=decide_eq_false en;refine a4 ci rfl ?_;unfold lj;simp only[ao,ar,av,ap,bY,bN,hm,aW,cg,d1,d2,dj]
theorem aAp(x:(cm (ia c H.ms H.S H.a7)).A h ah al)(O:kK H)(hm:m.one=J)(cA:y.kind=2)(az:fx y.p=J):uq h ah al c [.ptr c.ad 0 0,.agg (e3 y m)] ((H.graph (H.S.G.iv y.k y.r y.g).1).jD y.p (H.S.G.iv y.k y.r y.g).2.1 (H.S.G.iv y.k y.r y.g).2.2):=by have aY:aN h ah al ((h.push [e3 y m]).push [c3 0 0 a3]) (ur h.n y m c H):=((aN.start x).push [e3 y m]).push [c3 0 0 a3];have aW:((h.push [e3 y m]).push [c3 0 0 a3]).cell h.n=o [e3 y m]:=o9;have d1:decide (y.kind=1)=U:=decide_eq_false (by omega);have d2:decide (y.kind=2)=J:=decide_eq_true cA;have d3:decide (y.kind=3)=U:=decide_eq_false (by omega);obtain⟨en,dB⟩:=nl.1 az;have dj:decide (0<=y.p)=J:=decide_eq_true en;have aw:decide (y.p<4)=J:=decide_eq_true dB;have f0:cd 0 (.ptr c.ad 0 0)=o (.ptr c.ad 0 0):=rfl;obtain⟨cD,aj,be,bs⟩:=Om aY O (λah al g=>auF g O.cY.st.wf y.k y.r y.g);have fP:kK (H.graph (H.S.G.iv y.k y.r y.g).1):=⟨O.cY.graph (O.cY.st.wf.iv _ _ _),O.log,O.a7⟩;have a2:aj.cell h.n=o [e3 y m]:=(bs.cell 1 rfl).1;have AW:fZ J 9 (e3 y m) 0=o (.agg (e3 y m)):=rfl;obtain⟨bq,hW,c4,b4,b3⟩:=alc bs fP hm az (H.S.G.iv y.k y.r y.g).2.1 (H.S.G.iv y.k y.r y.g).2.2;have c4:aU aq aa kt [.ptr c.ad 0 0,.agg (e3 y m),.int j (H.S.G.iv y.k y.r y.g).2.1,.int j (H.S.G.iv y.k y.r y.g).2.2] aj=o (.inl (.agg hW),bq):=c4;have cg:=(b3.cell 0 rfl).1;obtain⟨ei,fd⟩:=b4.all;refine⟨_,c,hW,?_,b4,rfl,rfl,(b3.set 0 rfl [hW]).drop.drop⟩;refine a4 ci rfl ?_;unfold lj;simp only[ao,ar,av,ap,bY,bN,hm,aW,d1,d2,d3,dj,aw,f0,cD,be,a2,AW,c4,cg,ei,fd]
theorem aAq(x:(cm (ia c H.ms H.S H.a7)).A h ah al)(hm:m.one=J)(dK:y.kind=3)(az:fx y.p=U):uq h ah al c [.ptr c.ad 0 0,.agg (e3 y m)] (H,.no 1):=by
 have aY:aN h ah al ((h.push [e3 y m]).push [c3 0 0 a3]) (ur h.n y m c H):=((aN.start x).push [e3 y m]).push [c3 0 0 a3];have aW:((h.push [e3 y m]).push [c3 0 0 a3]).cell h.n=o [e3 y m]:=o9;have d1:decide (y.kind=1)=U:=decide_eq_false (by omega);have d2:decide (y.kind=2)=U:=decide_eq_false (by omega);have d3:decide (y.kind=3)=J:=decide_eq_true dK;have cg:=(aY.cell 0 rfl).1;refine⟨_,c,_,?_,jR.no,rfl,rfl,(aY.set 0 rfl [c3 1 0 a3]).drop.drop⟩;unfold fx at az;by_cases en:0<=y.p
 ·have dj:decide (0<=y.p)=J:=decide_eq_true en;have aw:decide (y.p<4)=U:=by rw[dj]at az;simpa using az
  refine a4 ci rfl ?_;unfold lj;simp only[ao,ar,av,ap,bY,bN,hm,aW,cg,d1,d2,d3,dj,aw]
 ·have dj:decide (0<=y.p)=U:=decide_eq_false en;refine a4 ci rfl ?_;unfold lj;simp only[ao,ar,av,ap,bY,bN,hm,aW,cg,d1,d2,d3,dj]
theorem aAr(x:(cm (ia c H.ms H.S H.a7)).A h ah al)(O:kK H)(hm:m.one=J)(dK:y.kind=3)(az:fx y.p=J):uq h ah al c [.ptr c.ad 0 0,.agg (e3 y m)] ((H.graph (H.S.G.ih y.q y.k y.r y.g).1).jD y.p (H.S.G.ih y.q y.k y.r y.g).2.1 (H.S.G.ih y.q y.k y.r y.g).2.2):=by have aY:aN h ah al ((h.push [e3 y m]).push [c3 0 0 a3]) (ur h.n y m c H):=((aN.start x).push [e3 y m]).push [c3 0 0 a3];have aW:((h.push [e3 y m]).push [c3 0 0 a3]).cell h.n=o [e3 y m]:=o9;have d1:decide (y.kind=1)=U:=decide_eq_false (by omega);have d2:decide (y.kind=2)=U:=decide_eq_false (by omega);have d3:decide (y.kind=3)=J:=decide_eq_true dK;obtain⟨en,dB⟩:=nl.1 az;have dj:decide (0<=y.p)=J:=decide_eq_true en;have aw:decide (y.p<4)=J:=decide_eq_true dB;have f0:cd 0 (.ptr c.ad 0 0)=o (.ptr c.ad 0 0):=rfl;obtain⟨cD,aj,be,bs⟩:=Om aY O (λah al g=>auH g O.cY.st.wf y.q y.k y.r y.g);have fP:kK (H.graph (H.S.G.ih y.q y.k y.r y.g).1):=⟨O.cY.graph (O.cY.st.wf.ih _ _ _ _),O.log,O.a7⟩;have a2:aj.cell h.n=o [e3 y m]:=(bs.cell 1 rfl).1;have AW:fZ J 9 (e3 y m) 0=o (.agg (e3 y m)):=rfl;obtain⟨bq,hW,c4,b4,b3⟩:=alc bs fP hm az (H.S.G.ih y.q y.k y.r y.g).2.1 (H.S.G.ih y.q y.k y.r y.g).2.2;have c4:aU aq aa kt [.ptr c.ad 0 0,.agg (e3 y m),.int j (H.S.G.ih y.q y.k y.r y.g).2.1,.int j (H.S.G.ih y.q y.k y.r y.g).2.2] aj=o (.inl (.agg hW),bq):=c4;have cg:=(b3.cell 0 rfl).1;obtain⟨ei,fd⟩:=b4.all;refine⟨_,c,hW,?_,b4,rfl,rfl,(b3.set 0 rfl [hW]).drop.drop⟩;refine a4 ci rfl ?_;unfold lj;simp only[ao,ar,av,ap,bY,bN,hm,aW,d1,d2,d3,dj,aw,f0,cD,be,a2,AW,c4,cg,ei,fd]
theorem aAs(x:(cm (ia c H.ms H.S H.a7)).A h ah al)(O:kK H)(hm:m.one=J)(hC:y.kind=5):uq h ah al c [.ptr c.ad 0 0,.agg (e3 y m)] (H.graph (H.S.G.cut y.g).1,.no (H.S.G.cut y.g).2):=by
 have aY:aN h ah al ((h.push [e3 y m]).push [c3 0 0 a3]) (ur h.n y m c H):=((aN.start x).push [e3 y m]).push [c3 0 0 a3];have aW:((h.push [e3 y m]).push [c3 0 0 a3]).cell h.n=o [e3 y m]:=o9;have d1:decide (y.kind=1)=U:=decide_eq_false (by omega);have d2:decide (y.kind=2)=U:=decide_eq_false (by omega);have d3:decide (y.kind=3)=U:=decide_eq_false (by omega);have d4:decide (y.kind=4)=U:=decide_eq_false (by omega);have d5:decide (y.kind=5)=J:=decide_eq_true hC;have f0:cd 0 (.ptr c.ad 0 0)=o (.ptr c.ad 0 0):=rfl;obtain⟨cD,aj,be,bs⟩:=Om aY O (λah al g=>adG g y.g);have cg:=(bs.cell 0 rfl).1;refine⟨_,c,_,?_,jR.no,rfl,rfl,(bs.set 0 rfl [c3 (H.S.G.cut y.g).2 0 a3]).drop.drop⟩;cases dj:decide (0<=y.p)with
 |false=>refine a4 ci rfl ?_;unfold lj;simp only[ao,ar,av,ap,bY,bN,hm,dj,aW,d1,d2,d3,d4,d5,f0,cD,be,cg]
 |true=>
   cases aw:decide (y.p<4)with
   |false=>refine a4 ci rfl ?_;unfold lj;simp only[ao,ar,av,ap,bY,bN,hm,dj,aw,aW,d1,d2,d3,d4,d5,f0,cD,be,cg]
   |true=>refine a4 ci rfl ?_;unfold lj;simp only[ao,ar,av,ap,bY,bN,hm,dj,aw,aW,d1,d2,d3,d4,d5,f0,cD,be,cg]
theorem aAt(x:(cm (ia c H.ms H.S H.a7)).A h ah al)(O:kK H)(hm:m.one=J)(iJ:y.kind=6):uq h ah al c [.ptr c.ad 0 0,.agg (e3 y m)] (H.graph H.S.G.gate.1,if H.S.G.gate.2.2≠0 then .no H.S.G.gate.2.2 else .ok (kG H.S.G.gate.2.1)):=by
 have aY:aN h ah al ((h.push [e3 y m]).push [c3 0 0 a3]) (ur h.n y m c H):=((aN.start x).push [e3 y m]).push [c3 0 0 a3];have aW:((h.push [e3 y m]).push [c3 0 0 a3]).cell h.n=o [e3 y m]:=o9;have d1:decide (y.kind=1)=U:=decide_eq_false (by omega);have d2:decide (y.kind=2)=U:=decide_eq_false (by omega);have d3:decide (y.kind=3)=U:=decide_eq_false (by omega);have d4:decide (y.kind=4)=U:=decide_eq_false (by omega);have d5:decide (y.kind=5)=U:=decide_eq_false (by omega);have d6:decide (y.kind=6)=J:=decide_eq_true iJ;have f0:cd 0 (.ptr c.ad 0 0)=o (.ptr c.ad 0 0):=rfl;obtain⟨cD,aj,be,bs⟩:=Om aY O (λah al g=>adD g O.cY.st.wf);have cg:=(bs.cell 0 rfl).1;by_cases aB:H.S.G.gate.2.2=0
 ·have iY:decide (H.S.G.gate.2.2=0)=J:=decide_eq_true aB;rw[if_neg (λh=>h aB)];refine⟨_,c,c3 0 0 [.int j 1,.int j H.S.G.gate.2.1,.aJ],?_,⟨_,rfl,x0 _⟩,rfl,rfl,(bs.set 0 rfl [c3 0 0 [.int j 1,.int j H.S.G.gate.2.1,.aJ]]).drop.drop⟩;cases dj:decide (0<=y.p)with
  |false=>refine a4 ci rfl ?_;unfold lj;simp only[ao,ar,av,ap,bY,bN,hm,dj,aW,d1,d2,d3,d4,d5,d6,f0,cD,be,cg,iY]
  |true=>
    cases aw:decide (y.p<4)with
    |false=>refine a4 ci rfl ?_;unfold lj;simp only[ao,ar,av,ap,bY,bN,hm,dj,aw,aW,d1,d2,d3,d4,d5,d6,f0,cD,be,cg,iY]
    |true=>refine a4 ci rfl ?_;unfold lj;simp only[ao,ar,av,ap,bY,bN,hm,dj,aw,aW,d1,d2,d3,d4,d5,d6,f0,cD,be,cg,iY]
 ·have iY:decide (H.S.G.gate.2.2=0)=U:=decide_eq_false aB;rw[if_pos aB];refine⟨_,c,_,?_,jR.no,rfl,rfl,(bs.set 0 rfl [c3 H.S.G.gate.2.2 0 a3]).drop.drop⟩;cases dj:decide (0<=y.p)with
  |false=>refine a4 ci rfl ?_;unfold lj;simp only[ao,ar,av,ap,bY,bN,hm,dj,aW,d1,d2,d3,d4,d5,d6,f0,cD,be,cg,iY]
  |true=>
    cases aw:decide (y.p<4)with
    |false=>refine a4 ci rfl ?_;unfold lj;simp only[ao,ar,av,ap,bY,bN,hm,dj,aw,aW,d1,d2,d3,d4,d5,d6,f0,cD,be,cg,iY]
    |true=>refine a4 ci rfl ?_;unfold lj;simp only[ao,ar,av,ap,bY,bN,hm,dj,aw,aW,d1,d2,d3,d4,d5,d6,f0,cD,be,cg,iY]
theorem aAu(x:(cm (ia c H.ms H.S H.a7)).A h ah al)(hm:m.one=J)(h5:y.kind<1\/6<y.kind):uq h ah al c [.ptr c.ad 0 0,.agg (e3 y m)] (H,.no 2):=by
 have aY:aN h ah al ((h.push [e3 y m]).push [c3 0 0 a3]) (ur h.n y m c H):=((aN.start x).push [e3 y m]).push [c3 0 0 a3];have aW:((h.push [e3 y m]).push [c3 0 0 a3]).cell h.n=o [e3 y m]:=o9;have d1:decide (y.kind=1)=U:=decide_eq_false (by omega);have d2:decide (y.kind=2)=U:=decide_eq_false (by omega);have d3:decide (y.kind=3)=U:=decide_eq_false (by omega);have d4:decide (y.kind=4)=U:=decide_eq_false (by omega);have d5:decide (y.kind=5)=U:=decide_eq_false (by omega);have d6:decide (y.kind=6)=U:=decide_eq_false (by omega);have cg:=(aY.cell 0 rfl).1;refine⟨_,c,_,?_,jR.no,rfl,rfl,(aY.set 0 rfl [c3 2 0 a3]).drop.drop⟩;cases dj:decide (0<=y.p)with
 |false=>refine a4 ci rfl ?_;unfold lj;simp only[ao,ar,av,ap,bY,bN,hm,dj,aW,d1,d2,d3,d4,d5,d6,cg]
 |true=>
   cases aw:decide (y.p<4)with
   |false=>refine a4 ci rfl ?_;unfold lj;simp only[ao,ar,av,ap,bY,bN,hm,dj,aw,aW,d1,d2,d3,d4,d5,d6,cg]
   |true=>refine a4 ci rfl ?_;unfold lj;simp only[ao,ar,av,ap,bY,bN,hm,dj,aw,aW,d1,d2,d3,d4,d5,d6,cg]
theorem aAv(x:(cm (ia c H.ms H.S H.a7)).A h ah al)(O:kK H)(da:e9 gp m es)(eS:g3 y.m es)(c1:y.m.length<=100000)(aC:∀x∈y.m,x.size<=100000):uq h ah al c [.ptr c.ad 0 0,.agg (cU y m)] (H.step y):=by
 have hm:m.one=J:=(iW.of (h:=h) da eS).one;show uq h ah al c [.ptr c.ad 0 0,.agg (e3 y m)] (H.step y);unfold dh.step;by_cases cF:y.kind=1
 ·rw[if_pos cF];exact aAn x O cF da eS c1 aC
 rw[if_neg cF];by_cases w5:y.kind=2\/y.kind=3
 ·rw[if_pos w5];cases az:fx y.p with
  |false=>
    rw[if_pos rfl];rcases w5 with cA|dK
    ·exact aAo x hm cA az
    ·exact aAq x hm dK az
  |true=>
    rw[if_neg (by decide)];by_cases cA:y.kind=2
    ·rw[if_pos cA];exact aAp x O hm cA az
    ·rw[if_neg cA];exact aAr x O hm (w5.resolve_left cA) az
 rw[if_neg w5];by_cases dR:y.kind=4
 ·rw[if_pos dR];by_cases bA:0<=y.h
  ·cases az:fx y.p with
   |false=>unfold dh.call;rw[if_pos ⟨bA,.inl az⟩];exact aAh x hm dR bA az
   |true=>exact aAl x O hm dR bA az
  ·unfold dh.call;rw[if_neg (λh=>bA h.1),if_neg bA];exact aAi x O hm dR bA
 rw[if_neg dR];by_cases hC:y.kind=5
 ·rw[if_pos hC];exact aAs x O hm hC
 rw[if_neg hC];by_cases iJ:y.kind=6
 ·rw[if_pos iJ];exact aAt x O hm iJ
 rw[if_neg iJ];exact aAu x hm (by omega)
end
section
variable{α β:Type}{d:Nat}
def sk(z:β)(q:bt×α×Int)(k:bt->α->bt×β×Int):bt×β×Int:=match q with
 |(S,v,c)=>if c≠0 then(S,z,c)else k S v
end
theorem alf(f:bC->bt->bt×ax×Int)(x:bC)(l:List bC)(S:bt)(acc:List ax):jd f (x::l) S acc=sk [] (f x S) λb0 v=>jd f l b0 (acc++[v]):=rfl
theorem alg(ms:dn)(N:Nat)(p:Int)(x:bC)(arg:ax)(names:List ax)(aM:Nat)(S:bt):dp ms (N+1) p x arg names aM S=if S.left=0 then S.no 12 else match jL p x arg names S.tick with
  |some v=>S.tick.ok v
  |none=>
    if x.op=5 then sk ce (dp ms N p (x.l.getD 0 jK) arg names aM S.tick) λb0 v=>dp ms N p (x.l.getD 1 jK) arg (names++[v]) aM b0
    else if x.op=7 then sk ce (dp ms N p (x.l.getD 0 jK) arg names aM S.tick) λb0 v=>if v.kind≠1 then b0.no 2 else if v.n≠0 then dp ms N p (x.l.getD 1 jK) arg names aM b0 else dp ms N p (x.l.getD 2 jK) arg names aM b0
    else sk ce (jd (λy S=>dp ms N p y arg names aM S) x.l S.tick []) λb0 l=>
     if x.op=18 then(if aM=20 then b0.no 4 else dp ms N p (gK ms p x.k) (l.getD 0 ce) [] (aM+1) b0)
     else if x.op=19 then sk ce (hH ms (l.getD 0 ce) (l.getD 1 ce) aM b0) λlB q=>sk ce (dp ms N q.bu (gK ms q.bu q.func) q.arg [] (aM+1) lB) λna v=>lQ q.eU v na
     else gV p x.op x.k x.n l b0:=by
 rw[dp];rfl
abbrev vM:a9:=82
section
variable{h E ak:ai}{ah al aO aL:Nat->Prop}{L:List cc}{c:vC}{H:dh}{ad a0:Nat}{a7:List (List ax)}
theorem aAw:(i5 .aJ []).A h (λ_=>False) (λ_=>False):=⟨[],rfl,.inl ⟨⟨rfl,rfl⟩,λ_ h=>h,λ_ h=>h⟩⟩
theorem cm.alh:∀n:Nat,(cm (jh i5 (ap n .aJ) (ap n []))).A h (λ_=>False) (λ_=>False)
 |0=>⟨trivial,λ_ h=>h,λ_ h=>h⟩
 |n+1=>⟨λ_=>False,λ_=>False,λ_=>False,λ_=>False,aAw,cm.alh n,λk=>by simp,λD=>by simp,λ_ h=>h.elim,λ_ h=>h.elim⟩
theorem aAx{b:Nat}(ad:b=h.n):(nm b a0 [[],[],[],[]]).A (h.push [[.ptr a0 0 0,.aJ,.aJ,.aJ,.aJ]]) (λk=>k=b) (λ_=>False):=by subst ad;exact⟨[.aJ,.aJ,.aJ,.aJ],rfl,λk=>k=h.n,λ_=>False,λ_=>False,λ_=>False,⟨λ_=>n0,λ_ h=>h,sR _,hb⟩,cm.alh 4,λk=>by simp,λD=>by simp,λ_ _ h=>h,λ_ h=>h.elim⟩
theorem aAy(s:aN ak aO aL h L):∃E c,aU aq aa 24 [] h=o (.inl (.ptr c.ad 0 0),E)/\aN ak aO aL E (nN c p0++L):=by obtain⟨I,a0,cE,cG,aw,bd⟩:=axZ s;have aY:=bd.add (X:=nm I.n a0 [[],[],[],[]]) (E:=I.push [[.ptr a0 0 0,.aJ,.aJ,.aJ,.aJ]]) (eJ:=λk=>k=I.n) (eK:=λ_=>False) (aG.push _ _) (aAx rfl) (λk ab=>qU ab.symm) (λ_ h=>h.elim);refine⟨_,⟨I.n,a0,cE,cG⟩,?_,aY⟩;refine a4 ax6 rfl ?_;unfold ajm;simp only[ao,ar,av,ap,bY,aw]
theorem aAz(b:Nat)(n:Nat){l:List ax}(am:dk l rows)(he:js h bO (.bw b 0 n bO)=o rows)(aA:l.length<=1000000):∃es,aU aq aa 69 [.bw b 0 n bO] h=o (.inl (.b5 ag bO es),h)/\dk l es:=by
 have hlen:=am.len;have Gv:∀m,js (h.fresh m) bO (.bw b 0 n bO)=o rows:=λm=>he;have aK:∀r∈rows,r.all F.one=J:=by
  intro r au;obtain⟨i,af⟩:=List.mem_iff_getElem?.1 au;have I:i<l.length:=by rw[<-hlen];exact(fO.1 af).1
  obtain⟨br,bR,bQ⟩:=am.get (fT I);rw[af]at bR;injection bR with bR;rw[bR];exact bQ.cV.2
 have aw:eH U bO (.b5 (o h.ids) bO []) (.bw b 0 n bO) (h.fresh 0)=o (.b5 (o h.ids) bO rows,if rows.length=0 then h.fresh 0 else(h.fresh 0).grow h.ids rows.length):=by
  simp only[eH,Gv,du];by_cases aB:rows.length=0
  ·simp[uz,sy.1 aB]
  ·rw[if_neg aB,if_neg aB];unfold kA;rw[if_pos ⟨by omega,by omega,by rw[jW];exact aK⟩];simp[Ec]
 have a5:aG h (if rows.length=0 then h.fresh 0 else(h.fresh 0).grow h.ids rows.length):=by
  split
  ·exact aG.fresh h 0
  ·exact(aG.fresh h 0).grow (b9 _)
 obtain⟨es,cx,gn⟩:=Lr am;have hw:dl (.b5 (o h.ids) bO rows)=o (.b5 ag bO es):=by simp only[dl,cx,i3]
 refine⟨es,?_,gn⟩;refine a4 ajI rfl ?_;unfold UZ;simp only[ao,ar,av,ap,aw,dE a5 hw]
theorem aAA:aU aq aa 69 [.aJ] h=o (.inl .aJ,h):=by refine a4 ajI rfl ?_;unfold UZ;simp only[ao,ar,av,ap];exact dE (aG.refl h) rfl
def dh.VQ(H:dh)(p:Int):List ax:=if fx p then H.hand p else[]
theorem aAB(s:aN ak aO aL h L)(i:Nat)(af:L[i]? =o (nm ad a0 H.a7))(aH:H.a7.length=4)(hlen:∀l∈H.a7,l.length<=90000)(p:Int):∃v es,aU aq aa 28 [.ptr ad 0 0,.int j p] h=o (.inl v,h)/\e9 bO v es/\dk (H.VQ p) es:=by
 unfold dh.VQ;cases az:fx p with
 |false=>refine⟨.aJ,[],?_,.inl ⟨rfl,rfl⟩,by simp[dk]⟩;refine a4 UY rfl ?_;unfold NU;simp only[ao,ar,av,ap,ta,az];exact dE (aG.refl h) rfl
 |true=>
   obtain⟨en,dB⟩:=nl.1 az;obtain⟨bI,Z⟩:=yg s i af;obtain⟨w,hw,bA⟩:=Z.v p.toNat (by omega);have h':=Z.h' hw;have bJ:=λq=>U3 (b:=ad) q en dB;have f1:cd 1 (.ptr ad 0 0)=o (.ptr ad 0 1):=rfl;have am:(H.hand p).length<=1000000:=by
    have:H.hand p∈H.a7:=by unfold dh.hand;rw[cZ,fT (by omega),qT];exact jl _
    have:=hlen _ this;omega
   have bA:Fp h w (H.hand p):=bA;rw[if_pos rfl];rcases bA.lC with⟨aw,rfl⟩|⟨b,rows,rfl,ay,be⟩
   ·refine⟨.aJ,[],?_,.inl ⟨rfl,rfl⟩,by rw[aw];simp[dk]⟩;refine a4 UY rfl ?_;unfold NU;simp only[ao,ar,av,ap,ta,az,f1,bJ,h',aAA];exact dE (aG.refl h) rfl
   ·obtain⟨es,b1,c4⟩:=aAz b _ ay be am;obtain⟨gS,cx,gn⟩:=Lr c4;refine⟨.b5 ag bO gS,gS,?_,.inr ⟨_,rfl⟩,gn⟩;have r7:dl (.b5 ag bO es)=o (.b5 ag bO gS):=by simp only[dl,cx,i3]
    refine a4 UY rfl ?_;unfold NU;simp only[ao,ar,av,ap,ta,az,f1,bJ,h',b1];exact dE (aG.refl h) r7
def mV:List fp->List (List F)->Prop
 |[],es=>es=[]
 |x::xs,es=>∃m ms rs,es=cU x m::rs/\e9 gp m ms/\g3 x.m ms/\mV xs rs
theorem mV.len:∀{xs:List fp} {es:List (List F)},mV xs es->es.length=xs.length
 |[],es,h=>by simp only[mV]at h;subst h;rfl
 |x::xs,es,h=>by obtain⟨m,ms,rs,rfl,_,_,R⟩:=h;simp[R.len]
theorem mV.get:∀{xs:List fp} {es:List (List F)} {i:Nat} {x:fp},mV xs es->xs[i]? =o x->∃m ms,es[i]? =o (cU x m)/\e9 gp m ms/\g3 x.m ms
 |[],es,i,x,h,af=>by simp at af
 |y::xs,es,i,x,h,af=>by
   obtain⟨m,ms,rs,rfl,I,R,aj⟩:=h;cases i with
   |zero=>
        obtain rfl:y=x:=by simpa using af
        exact⟨m,ms,rfl,I,R⟩
   |succ i=>exact aj.get (by simpa using af)
def FC(xs:List fp)(df:Nat):Bool:=(xs.take df).any (λx=>sI x.m)||decide (df<xs.length)
theorem aAC{df:Nat}(h:FC xs df=U):xs.length<=df/\∀x∈xs,x.m.length<=100000/\∀e∈x.m,e.size<=100000:=by
 unfold FC at h;simp only[Bool.or_eq_false_iff,decide_eq_false_iff_not,Nat.not_lt]at h;obtain⟨I,R⟩:=h;rw[List.take_of_length_le R]at I;refine⟨R,λx aF=>?_⟩;have a5:sI x.m=U:=by
  cases a5:sI x.m with
  |false=>rfl
  |true=>have:xs.any (λx=>sI x.m)=J:=List.any_eq_true.2 ⟨x,aF,a5⟩;rw[this]at I;cases I
 obtain⟨bR,bQ⟩:=at8 a5;exact⟨by omega,λe he=>by have:=bQ e he;omega⟩
theorem aAD{bn:F}(aC:e9 vM bn rows)(am:mV xs rows)(om:xs.length<=9223372036854775807){df:Nat}(hm:df<=1000)(K:List j0):∀(d k:Nat) (E:ai) (dL b4:F),k+d=df->aG h E->(((xs.take df).drop k).any (λx=>sI x.m)=J->∃V,bB (aU aq aa) 6 (.eM zQ::.bP []::.cu 0::K) [bn,.int j (df:Int),.bool U,.int j (k:Int),dL,b4] [] E=o (.ret,V,E)/\V.getD 2 .aD= .bool J)/\(((xs.take df).drop k).any (λx=>sI x.m)=U->∃iz h8 gs,bB (aU aq aa) 6 (.eM zQ::.bP []::.cu 0::K) [bn,.int j (df:Int),.bool U,.int j (k:Int),dL,b4] [] E=bB (aU aq aa) 6 K [bn,.int j (df:Int),.bool U,iz,h8,gs] [] E):=by
 have jf:=am.len;have end_:∀(k:Nat) (E:ai) (dL b4:F),(xs.length<=k\/df<=k)->∃iz h8 gs,bB (aU aq aa) 6 (.eM zQ::.bP []::.cu 0::K) [bn,.int j (df:Int),.bool U,.int j (k:Int),dL,b4] [] E=bB (aU aq aa) 6 K [bn,.int j (df:Int),.bool U,iz,h8,gs] [] E:=by
  intro k E dL b4 ab;by_cases I:k<xs.length
  ·have d1:decide ((k:Int)<(xs.length:Int))=J:=decide_eq_true (by omega);have d2:decide ((k:Int)<(df:Int))=U:=decide_eq_false (by omega);refine⟨.int j (k:Int),.bool U,b4,?_⟩;rw[cy zQ.eq_1];simp only[ao,ar,av,ap,b2,aC.dH.len,aC.dH.fits,jf,d1,d2]
  ·have d1:decide ((k:Int)<(xs.length:Int))=U:=decide_eq_false (by omega);refine⟨.int j (k:Int),.bool U,b4,?_⟩;rw[cy zQ.eq_1];simp only[ao,ar,av,ap,b2,aC.dH.len,aC.dH.fits,jf,d1]
 intro d;induction d with
 |zero=>intro k E dL b4 ab a5;refine⟨λh=>?_,λ_=>end_ k E dL b4 (.inr (by omega))⟩;rw[List.drop_eq_nil_of_le (by simp;omega)]at h;cases h
 |succ d aR=>
   intro k E dL b4 ab a5;by_cases I:k<xs.length
   ·have d1:decide ((k:Int)<(xs.length:Int))=J:=decide_eq_true (by omega);have d2:decide ((k:Int)<(df:Int))=J:=decide_eq_true (by omega);have aF:xs[k]? =o xs[k]:=fT I;have r0:k<(xs.take df).length:=by simp;omega
    have aAE:(xs.take df).drop k=xs[k]::(xs.take df).drop (k+1):=by rw[wM r0];simp
    rw[aAE,List.any_cons];generalize xs[k]=x at aF;obtain⟨m,ms,bR,da,eS⟩:=am.get aF;have bJ:=aC.dH.bJ j k _ bR;have kV:∀h,iW h m x.m:=λh=>iW.of da eS;have pk:=atz (h:=E) m x.m (kV E);have aEj:=(kV E).one;have f8:cd 8 (.ip (cU x m) 0)=o (.ip (cU x m) 8):=rfl;have lm:fZ J 1 (cU x m) 8=o (.agg [m]):=rfl;have w:=ew (n:=(k:Int)+1) (by omega) (by omega);obtain⟨i1,hh⟩:=aR (k+1) E (.bool J) (.bool (sI x.m)) (by omega) a5;have ev:((k+1:Nat):Int)=(k:Int)+1:=by omega
    cases ali:sI x.m with
    |true=>rw[ali]at pk;refine⟨λ_=>⟨[bn,.int j (df:Int),.bool J,.int j (k:Int),.bool J,.bool J],?_,rfl⟩,λh=>by simp at h⟩;rw[cy zQ.eq_1];simp only[ao,ar,av,ap,b2,bN,aC.dH.len,aC.dH.fits,jf,d1,d2,bJ,f8,lm,pk]
    |false=>
      rw[ali]at pk i1 hh;rw[Bool.false_or];refine⟨λh=>?_,λh=>?_⟩
      ·obtain⟨V,bx,bL⟩:=i1 h;refine⟨V,?_,bL⟩;rw[<-bx,ev]
       conv=>lhs;rw[cy zQ.eq_1]
       simp only[ao,ar,av,ap,b2,bN,aC.dH.len,aC.dH.fits,jf,d1,d2,bJ,f8,lm,pk,w]
      ·obtain⟨iz,h8,gs,bx⟩:=hh h;refine⟨iz,h8,gs,?_⟩;rw[<-bx,ev]
       conv=>lhs;rw[cy zQ.eq_1]
       simp only[ao,ar,av,ap,b2,bN,aC.dH.len,aC.dH.fits,jf,d1,d2,bJ,f8,lm,pk,w]
   ·refine⟨λh=>?_,λ_=>end_ k E dL b4 (.inl (by omega))⟩;rw[List.drop_eq_nil_of_le (by simp;omega)]at h;cases h
theorem aAF{bn:F}(aC:e9 vM bn rows)(am:mV xs rows)(om:xs.length<=9223372036854775807)(df:Nat)(hm:df<=1000):aU aq aa 23 [bn,.int j (df:Int)] h=o (.inl (.bool (FC xs df)),h):=by
 obtain⟨i1,hh⟩:=aAD (h:=h) aC am om hm [.bP [.ops [bc,zR,dc,(.i .l E0),jz],.ret]] df 0 h .aD .aD (ir _) (aG.refl h);rw[List.drop_zero]at i1 hh;simp only[j']at i1 hh;have jf:=am.len;unfold FC;cases a5:(xs.take df).any (λx=>sI x.m)with
 |true=>obtain⟨V,bx,bL⟩:=i1 a5;refine a4 ajJ rfl ?_;unfold U1;simp only[ao,ar,av,ap];rw[bx];simp only[ao,bL]
 |false=>
   obtain⟨iz,h8,gs,bx⟩:=hh a5;refine a4 ajJ rfl ?_;unfold U1;simp only[ao,ar,av,ap];rw[bx];simp only[ao,aC.dH.len,aC.dH.fits,jf];have e:decide ((df:Int)<(xs.length:Int))=decide (df<xs.length):=by rw[decide_eq_decide];omega
   simp only[e]
end
structure yr(n:Nat)(H:dh):Prop where
 cY:H.Good
 log:H.S.log.length<=2000*n
 a7:∀l∈H.a7,l.length<=1000+n
theorem yr.ok{n:Nat}{H:dh}(O:yr n H)(aA:n<=400):kK H:=⟨O.cY,by have:=O.log;omega,λl am=>by have:=O.a7 l am;omega⟩
theorem yr.step{n:Nat}{H:dh}(O:yr n H)(x:fp):yr (n+1) (H.step x).1:=by
 have s:=O.cY.step x;refine⟨s.cY,by have:=s.log;have:=O.log;omega,λl am=>?_⟩;rcases s.hand l am with I|⟨ch,I,R⟩
 ·omega
 ·have:=O.a7 ch I;omega
theorem alj:yr 0 p0:=⟨UQ,by simp[p0,Fm],λl am=>by
 have:l=[]:=by simpa[p0]using am
 rw[this];simp⟩
def aAG:List bC:=[.mk 13 0 0 [.mk 3 0 0 []]]
def pu:fp:=⟨1,1,0,0,0,0,0,0,aAG⟩
def qQ:fp:=⟨2,1,0,3,0,1, -1,0,[]⟩
def yF:fp:=⟨4,1,0,0,0,0,0,0,[]⟩
section
variable{h E ak:ai}{ah al aO aL:Nat->Prop}{L A B:List cc}{c:vC}{H:dh}
theorem aAH(s:aN ak aO aL h (A++nN c H++B))(O:kK H)(y:fp){m:F}(da:e9 gp m es)(eS:g3 y.m es)(c1:y.m.length<=100000)(aC:∀x∈y.m,x.size<=100000):∃E r,aU aq aa 26 [.ptr c.ad 0 0,.agg (cU y m)] h=o (.inl (.agg r),E)/\jR (H.step y).2 r/\aN ak aO aL E (A++nN c (H.step y).1++B):=by obtain⟨E,⟨r,e,v⟩,ek⟩:=s.wX (rh:=nN c (H.step y).1) λah al x=>aAe x O y da eS c1 aC;exact⟨E,r,e,v,ek⟩
end
def sl(a x y:Int)(out:List Int):List Int:=if x=a/\out.contains y=U then out++[y]else out
def qJ(a:Int)(out:List Int)(l:Int×Int):List Int:=sl a l.2 l.1 (sl a l.1 l.2 out)
def zY(bX:List (Int×Int)):Nat->Nat->List Int->List Int
 |0,_,out=>out
 |f+1,i,out=>if i<out.length then zY bX f (i+1) (bX.foldl (qJ (out.getD i 0)) out)else out
def ut(bX:List (Int×Int))(p:Int):List Int:=zY bX (2*bX.length+2) 0 [p]
structure sm where
 (bu cell c5:Int)
def vN(jE:List sm)(bX:List (Int×Int))(p cell right:Int):Bool:=jE.any λg=>decide (g.cell=cell)&&(decide (mL g.c5 right=right)&&(ut bX p).contains g.bu)
structure eE where
 H:dh
 jE:List sm
 bX:List (Int×Int)
 (code at_ n:Int)
def eE.note(W:eE)(x:fp):eE:=if x.kind=2 then{W with jE:=W.jE++[⟨x.p,x.k,x.r⟩]}else if x.kind=3 then{W with bX:=W.bX++[(x.p,x.q)]}else W
def eE.ke(W:eE)(y:lP):eE:=if W.code=0/\vN W.jE W.bX y.bu y.cell y.right=U then{W with code:=14,at_:=W.n}else W
def eE.step(W:eE)(x:fp):eE×jr×Int×Int:=
 let vO:eE:={W with H:=(W.H.step x).1};let mc:=if(W.H.step x).2.code=0 then vO.note x else vO;let On:=((W.H.step x).1.S.log.drop W.H.S.log.length).foldl eE.ke mc
 ({On with n:=On.n+1},(W.H.step x).2,On.code,On.at_)
def rp:eE:=⟨p0,[],[],0,0,0⟩
theorem VR{a x y:Int}{out:List Int}:out.length<=(sl a x y out).length/\∃e,sl a x y out=out++e:=by
 unfold sl;split
 ·exact⟨by simp,[y],rfl⟩
 ·exact⟨b9 _,[],by simp⟩
theorem alk{a:Int}{out:List Int}{l:Int×Int}:∃e,qJ a out l=out++e:=by unfold qJ;obtain⟨_,aw,I⟩:=VR (a:=a) (x:=l.1) (y:=l.2) (out:=out);obtain⟨_,ay,R⟩:=VR (a:=a) (x:=l.2) (y:=l.1) (out:=sl a l.1 l.2 out);exact⟨aw++ay,by rw[R,I,kS]⟩
theorem VS{a:Int}:∀(gj:List (Int×Int)) (out:List Int),∃e,gj.foldl (qJ a) out=out++e
 |[],out=>⟨[],by simp⟩
 |l::gj,out=>by obtain⟨aw,I⟩:=alk (a:=a) (out:=out) (l:=l);obtain⟨ay,R⟩:=VS (a:=a) gj (qJ a out l);exact⟨aw++ay,by rw[u3,R,I,kS]⟩
def FD(bX:List (Int×Int)):List Int:=bX.flatMap λl=>[l.1,l.2]
theorem aAI(bX:List (Int×Int)):(FD bX).length=2*bX.length:=by
 induction bX with
 |nil=>rfl
 |cons l gj aR=>simp only[FD,List.flatMap_cons,fz,ho,fG]at aR ⊢;omega
structure oU(bX:List (Int×Int))(p:Int)(out:List Int):Prop where
 ea:out.Nodup
 sub:∀x∈out,x∈p::FD bX
theorem aAJ{l m:List Int}(h:l.Nodup)(aC:∀x∈l,x∈m):l.length<=m.length:=by
 induction l generalizing m with
 |nil=>simp
 |cons x l aR=>
   have aF:=aC x (by simp);rw[List.nodup_cons]at h;have R:∀y∈l,y∈m.erase x:=λy bH=>by have yR:=aC y (by simp[bH]);refine(List.mem_erase_of_ne ?_).2 yR;rintro rfl;exact h.1 bH
   have:=aR h.2 R;rw[List.length_erase_of_mem aF]at this;have:0<m.length:=List.length_pos_of_mem aF;simp only[ho];omega
theorem oU.Oo{bX:List (Int×Int)}{p a x y:Int}{out:List Int}(g:oU bX p out)(bH:y∈FD bX):oU bX p (sl a x y out):=by
 unfold Go.Proofs.YtkdbjfncchmmpaaGreat.sl;split
 ·rename_i h;refine⟨?_,λz aB=>?_⟩
  ·rw[List.nodup_append];refine⟨g.ea,by simp,λu bV v Z e=>?_⟩;obtain rfl:v=y:=by simpa using Z
   subst e;have:=h.2;rw[tw]at this;simp at this;exact this bV
  ·rcases qV.1 aB with aB|aB
   ·exact g.sub z aB
   ·obtain rfl:z=y:=by simpa using aB
    exact List.mem_cons_of_mem _ bH
 ·exact g
theorem oU.fold{bX:List (Int×Int)}{p a:Int}:∀(gj:List (Int×Int)) (out:List Int),(∀l∈gj,l∈bX)->oU bX p out->oU bX p (gj.foldl (qJ a) out)
 |[],out,_,g=>g
 |l::gj,out,aC,g=>by have am:=aC l (by simp);have aw:l.2∈FD bX:=List.mem_flatMap.2 ⟨l,am,by simp⟩;have ay:l.1∈FD bX:=List.mem_flatMap.2 ⟨l,am,by simp⟩;exact oU.fold gj _ (λm hm=>aC m (by simp[hm])) ((g.Oo aw).Oo ay)
theorem oU.len{bX:List (Int×Int)}{p:Int}{out:List Int}(g:oU bX p out):out.length<=2*bX.length+1:=by have:=aAJ g.ea g.sub;rw[ho,aAI]at this;exact this
theorem VT(bX:List (Int×Int))(p:Int):oU bX p [p]:=⟨by simp,λx aF=>by
 obtain rfl:x=p:=by simpa using aF
 simp⟩
section
variable{h E ak:ai}{ah al aO aL:Nat->Prop}{L:List cc}{c:vC}{H:dh}
theorem alm{log:List lP}:∀r∈log.map hc,r.all F.one=J/\r.all wb=J:=λr au=>by obtain⟨e,_,rfl⟩:=nt.1 au;exact⟨rfl,rfl⟩
theorem aAK(id:Option Nat)(rows:List (List F))(bo:∀r∈rows,r.all F.one=J/\r.all wb=J)(am:rows.length<=1000000):aU aq aa 52 [.b5 id iw rows] h=o (.inl (.b5 ag iw rows),h):=by
 refine a4 aeE rfl ?_;unfold Sq;have aw:eH U iw (.b5 (o h.ids) iw []) (.b5 id iw rows) (h.fresh 0)=o (.b5 (o h.ids) iw rows,if rows.length=0 then h.fresh 0 else(h.fresh 0).grow h.ids rows.length):=by
  simp only[eH,js,if_true,du];by_cases aB:rows.length=0
  ·simp[uz,sy.1 aB]
  ·rw[if_neg aB,if_neg aB];unfold kA;rw[if_pos ⟨by omega,by omega,by rw[jW];exact λr au=>(bo r au).1⟩];simp[Ec]
 have a5:aG h (if rows.length=0 then h.fresh 0 else(h.fresh 0).grow h.ids rows.length):=by
  split
  ·exact aG.fresh h 0
  ·exact(aG.fresh h 0).grow (b9 _)
 have hw:dl (.b5 (o h.ids) iw rows)=o (.b5 ag iw rows):=by simp only[dl,BV λr au=>(bo r au).2,i3]
 simp only[ao,ar,av,ap,aw,dE a5 hw]
theorem aAL:aU aq aa 52 [.aJ] h=o (.inl .aJ,h):=by refine a4 aeE rfl ?_;unfold Sq;simp only[ao,ar,av,ap];exact dE (aG.refl h) rfl
theorem aAM(s:aN ak aO aL h L)(i:Nat){cG:Nat}{cells:List Int}{log:List lP}(af:L[i]? =o (iL cG cells log))(an:cells.length=12)(aA:log.length<=1000000):aU aq aa 17 [.ptr cG 0 0] h=o (.inl (hy iw (log.map hc)),h):=by
 obtain⟨ah,al,x⟩:=s.get i af;obtain⟨v,bd⟩:=Ng x;have aAN:=(bd.cell 0 rfl).1;have aAO:=(H5 (v:=v) an (D:=0) (by decide)).2.1;have h':∀n,cR U n h (.ptr cG 0 12)=o v:=λn=>by rw[gb,aAN];exact aAO
 have f12:cd 12 (.ptr cG 0 0)=o (.ptr cG 0 12):=rfl;obtain⟨eJ,eK,cb⟩:=bd.get 1 rfl;rcases cb with⟨⟨aw,rfl⟩,_⟩|⟨id,⟨aw,rfl⟩,_⟩
 ·rw[aw];refine a4 aeD rfl ?_;unfold Sp;simp only[ao,ar,av,ap,f12,h',aAL];exact dE (aG.refl h) rfl
 ·have lI:=aAK (h:=h) (o id) (log.map hc) alm (by simpa using aA);have hw:dl (.b5 ag iw (log.map hc))=o (hy iw (log.map hc)):=by simp only[dl,BV λr au=>(alm r au).2,i3,hy,if_neg aw]
  refine a4 aeD rfl ?_;unfold Sp;simp only[ao,ar,av,ap,f12,h',lI,dE (aG.refl h) hw]
theorem aAP(s:aN ak aO aL h L)(i:Nat){cG:Nat}{cells:List Int}{log:List lP}(af:L[i]? =o (iL cG cells log))(an:cells.length=12):aU aq aa 21 [.ptr cG 0 0] h=o (.inl (.b5 ag wm (cells.map λx=>[.int j x])),h):=by obtain⟨ah,al,x⟩:=s.get i af;obtain⟨v,bd⟩:=Ng x;exact auD (bd.cell 0 rfl).1 an
structure aAQ(h:ai)(c:vC)(H:dh):Prop where
 AX:cR U 1 h (.ptr c.ad 0 0)=o (.ptr c.a0 0 0)
 Oq:cR U 1 h (.ptr c.a0 0 0)=o (.ptr c.cE 0 0)
 lw:cR U 1 h (.ptr c.a0 0 1)=o (.ptr c.cG 0 0)
 no:aU aq aa 15 [.ptr c.cE 0 0] h=o (.inl (hy kl (H.S.G.nodes.map dv)),h)
 sY:aU aq aa 21 [.ptr c.cG 0 0] h=o (.inl (.b5 ag wm (H.S.cells.map λx=>[.int j x])),h)
 iP:aU aq aa 17 [.ptr c.cG 0 0] h=o (.inl (hy iw (H.S.log.map hc)),h)
theorem aln(s:aN ak aO aL h L)(i:Nat)(O:kK H)(I:L[i]? =o (nm c.ad c.a0 H.a7))(R:L[i+1]? =o (ix c.a0 c.cE c.cG H.ms H.S.kept))(aj:L[i+1+1]? =o (gU c.cE H.S.G))(aH:L[i+1+1+1]? =o (iL c.cG H.S.cells H.S.log)):aAQ h c H:=by obtain⟨bI,Z⟩:=yg s i I;have Ja:=Ib s R O.len;obtain⟨ah,al,g⟩:=s.get _ aj;exact⟨Z.box 1,Ja.1 1,Ja.2 1,aq1 g O.cY.st.wf,aAP s _ aH O.cY.st.cells,aAM s _ aH O.cY.st.cells (by have:=O.log;omega)⟩
variable{bn:F}{l5 iV aEk:Nat}{aC aQ:List F}
end
def alo:List bb:=[Ep,.ops [.i .l (.call (.c (.fn 24 [] [])) []),.i .l (.build [.e',.aJ,.aJ,.int j 0,.int j 0,.int j 0] [(0,1),(1,1),(2,1),(3,2),(5,1)] [(0,(.l 0))]),.i .l (.box 6 (.l 0)),B8],.ret]
theorem aAR:cv aq aa 35 0 1 [0] alo [(.v 0)] U:=by refine⟨_,_,Tryz.func35,rfl,rfl,?_,?_,?_,?_,?_⟩<;>kernel_rfl
def Bl:List bb:=[.ops [.i (.v 13) (.bin (.int j) .lss (.v 12) (.c (.int j 2)))],.cond (.v 13) [] [.exit 4],.block 5 [.ops [N1,jM],.ops [ky,alp,aT,c6,fu,Es,aT,.i .l alq,cn,Rv,alr,.g (.l 2) J .l als,.g (.l 3) J .l (.fe ag (o (2,1)) (.v 5) (.l 0)),El,.g (.l 5) J .l (.call (.c (.fn 74 [] [])) [.l 4,.l 0]),.g (.l 6) J .l vh,.i (.v 14) (.pick (.l 7) (.l 0) (.c (.bool U)))],.cond (.v 14) [.ops [c6,ky,.i .l als,alp,aT,B7,.i .l (.app U 3 (.l 5) (.l 0)),jA]] []],.ops [.i .l (.bin (.int j) .add (.v 12) (.c (.int j 1))),zm]]
def Ot:List bb:=[.ops [afW],.cond (.v 11) [] [.exit 2],.block 3 [.ops [.i .l (.fe (o 191) ag (.v 8) (.v 10)),.i .l (.load J 2 (.l 0)),aeJ,aeK],.ops [.i (.v 12) (.a8 (.c (.int j 0)))],.block 4 [.loop Bl]],.ops [afX,va]]
def Ou:List bb:=[.ops [fu,c6,B',ake],.cond (.v 7) [] [.exit 0],.block 1 [.ops [bc,ct,kI,.i (.v 8) oD,.i (.v 9) (.len U (o 191) (.v 8)),afZ],.block 2 [.loop Ot]],Cz]
def alu:List bb:=[AD,.ops [dc,B7,jA],u2,.block 0 [.loop Ou],wu,.ret]
theorem aAS:cv aq aa 71 2 15 [0,1,4,5,6,8,9,15,21,22,23,24,27,28,46] alu [(.v 2)] J:=by refine⟨_,_,Tryz.func71,rfl,rfl,?_,?_,?_,?_,?_⟩<;>kernel_rfl
def alv:List bb:=[.ops [.i (.v 4) (.box 1 (.v 2)),.i (.v 5) (.box 1 (.v 3)),.i (.v 6) (.a8 (.c (.bool U)))],.ops [bc,dc,.i .l (.call (.c (.fn 71 [] [])) [.l 1,.l 0]),.i (.v 7) GT,.i .n (.store 1 (.v 7) (.l 0))],.ops [bc,ct,g4,aT,.i .l (.Gk 73 [] [.v 4,.v 5,.v 7]),.i .l (.call (.c (.fn 72 [] [])) [.l 1,.l 0]),jM],.ret]
theorem aAT:cv aq aa 37 4 8 [0,1,2,3,6,7,8,9] alv [(.v 6)] J:=by refine⟨_,_,Tryz.func37,rfl,rfl,?_,?_,?_,?_,?_⟩<;>kernel_rfl
def alw:List bb:=[.ops [.i (.v 4) (.box 3 (.v 0)),Hs],.ops [oE,aT,SJ,R',cn,.g (.l 0) J .l HM,nH,.g (.l 2) J .l (.load U 1 (.v 2)),alx,.g (.l 4) J .l (.load U 1 (.v 2)),aly,Ov,cn,.g (.l 0) J .l (.load U 1 (.v 3)),.g (.l 1) J .l (.db 0 (.v 4)),GM,.g (.l 3) J .l (.call (.c (.fn 74 [] [])) [.l 2,.l 0]),Rt,d8],.ret]
theorem aAU:cv aq aa 73 4 6 [0,1,2,3,4,5] alw [(.v 5)] J:=by refine⟨_,_,Tryz.func73,rfl,rfl,?_,?_,?_,?_,?_⟩<;>kernel_rfl
def alz:List bb:=[pd,.ops [bc,dc,.i .l (.call (.c (.fn 101 [] [])) [.l 1,.l 0]),rU,jz],.ret]
theorem aAV:cv aq aa 72 2 3 [0,1,4] alz [(.v 2)] J:=by refine⟨_,_,Tryz.func72,rfl,rfl,?_,?_,?_,?_,?_⟩<;>kernel_rfl
def Jb:List bb:=[Ml,.cond (.v 6) [] [.exit 0],.block 1 [Mm,.ops [dc,bc,c6,.i .l (.fe (o 165) ag (.l 1) (.l 0)),jP,SU],.cond (.v 7) [wu,.ret] []],Mn]
def alA:List bb:=[rT,.ops [bc,.i (.v 4) (.len U (o 165) (.l 0)),pJ],.block 0 [.loop Jb],Mo,.ret]
theorem aAW:cv aq aa 101 2 8 [0,1,4,5,7,8,9,16] alA [(.v 2)] J:=by refine⟨_,_,Tryz.func101,rfl,rfl,?_,?_,?_,?_,?_⟩<;>kernel_rfl
def alB:List bb:=[pd,.ops [bc,dc,.i .l (.call (.c (.fn 102 [] [])) [.l 1,.l 0]),rU,jz],.ret]
theorem aAX:cv aq aa 74 2 3 [0,1,4] alB [(.v 2)] J:=by refine⟨_,_,Tryz.func74,rfl,rfl,?_,?_,?_,?_,?_⟩<;>kernel_rfl
def Jc:List bb:=[Ml,.cond (.v 6) [] [.exit 0],.block 1 [Mm,.ops [dc,bc,c6,Es,aT,.i (.v 7) alq],.cond (.v 7) [wu,.ret] []],Mn]
def alC:List bb:=[rT,.ops [bc,.i (.v 4) (.len U (o 3) (.l 0)),pJ],.block 0 [.loop Jc],Mo,.ret]
theorem aAY:cv aq aa 102 2 8 [0,1,4,5,7,8,9,16] alC [(.v 2)] J:=by refine⟨_,_,Tryz.func102,rfl,rfl,?_,?_,?_,?_,?_⟩<;>kernel_rfl
def Ow:List bb:=[.ops [VU],.ops [r3,.i (.v 3) oD],.block 0 [.ops [.i .l (.bin (.int j) .eql (.v 3) (.c (.int j 2))),je],.cond (.v 4) [.ops [bc,bc,ct,g4,aT,nF,aT,qA,aT,II,aT,.i .l (.build [.int j 0,.int j 0,.int j 0] [(0,1),(1,1),(2,1)] [(0,(.l 4)),(1,(.l 2)),(2,(.l 0))]),.i .l (.lx U 165 [.int j 0,.int j 0,.int j 0] 3 1 [(0,(.l 0))]),.ca [⟨ag,U,1,.l 9,(.l 8)⟩],.i .l (.app U 165 (.l 8) (.l 0)),.i .l (.lN (.l 13)),g4,lT]] [.ops [.i .l (.bin (.int j) .eql (.v 3) (.c (.int j 3))),d8],.cond (.v 5) [.ops [bc,bc,ct,kI,aT,nF,aT,tK,aT,.i .l (.build [.int j 0,.int j 0] [(0,1),(1,1)] [(0,(.l 2)),(1,(.l 0))]),.i .l (.lx U 191 [.int j 0,.int j 0] 2 1 [(0,(.l 0))]),.ca [⟨ag,U,1,.l 7,(.l 6)⟩],.i .l (.app U 191 (.l 6) (.l 0)),Sn,kI,lT]] []]]]
theorem VV:cv aq aa 70 2 6 [0,1,3,5,6,24] Ow [] U:=by refine⟨_,_,Tryz.func70,rfl,rfl,?_,?_,?_,?_,?_⟩<;>kernel_rfl
def Ds:List bb:=[Md,.cond (.v 12) [] [.exit 0],.block 1 [.ops [.i .l (.fe (o 137) ag (.v 9) (.v 11)),mR,.i (.v 7) (.alloc [.int j 0,.int j 0,.int j 0,.int j 0]),.i .n (.store 4 (.v 7) (.l 0))],.ops [bc,ct,AO,dC,aT,EI,cn,wo,.g (.l 1) J .l (.db 0 (.v 7)),GM,.g (.l 3) J .l LI,El,.g (.l 5) J .l (.db 2 (.v 7)),Q1,.g (.l 7) J .l (.call (.c (.fn 37 [] [])) [.l 6,.l 4,.l 2,.l 0]),.g (.l 8) J .l vh,.i (.v 13) ac8],.cond (.v 13) [.ops [bc,bc,ct,VW,aT,.i .l (.build [.int j 0,.int j 0] [(0,1),(1,1)] [(0,(.c (.int j 14))),(1,(.l 0))]),.i .l (.lN (.l 5)),AO,.i .n (.store 2 (.l 0) (.l 2))]] []],Me]
def VX:List bb:=[.ops [VU,alD,agn],.ops [bc,ct,dC,aT,ct,dC,aT,ct,g4,aT,alE,.i .l (.len U (o 137) (.l 0)),d8],.ops [bc,ct,dC,aT,IJ,.i .l (.call (.c (.fn 26 [] [])) [.l 1,.l 0]),alF,.ca [⟨ag,U,1,.l 3,(.l 2)⟩,⟨ag,J,9,.v 2,(.l 1)⟩],.i .n (.store 5 (.v 6) (.l 0))],.ops [NR,aT,aes],.cond (.v 8) [.ops [bc,IJ,.i .l (.call (.c (.fn 70 [] [])) [.l 1,.l 0])]] [],.ops [bc,ct,dC,aT,ct,dC,aT,ct,g4,aT,alE,hV,.i (.v 9) (.yZ U (o 137) (.l 1) (o (.l 0)) ag),.i (.v 10) (.len U (o 137) (.v 9)),HF],.block 0 [.loop Ds],.ops [bc,ct,VW,aT,oG,zn,VW,lT],.ops [.i .l (.load J 5 (.v 6)),bc,ct,AO,.i .l (.load J 2 (.l 0)),.i .n (.store 5 (.v 3) (.l 4)),.ca [⟨ag,J,2,.l 1,(.l 0)⟩],ago],.ret]
theorem alG:cv aq aa 36 2 14 [0,1,3,4,5,6,7,9,30,46,47,48,49,68] VX [(.cell J 5 3),(.cell J 2 4)] U:=by refine⟨_,_,Tryz.func36,rfl,rfl,?_,?_,?_,?_,?_⟩<;>kernel_rfl
def Bm:List bb:=[.ops [ky,bc,zR,U0,cn,.g (.l 0) J .l (.a8 (.v 6)),ES,alH,alI,.i (.v 10) alJ],.cond (.v 10) [] [.exit 2],.block 3 [.ops [bc,ky,IK,IS,.i (.v 7) VY,.i .n (.store 9 (.v 7) (.l 0))],.ops [Sj,aT,afG,cn,xE,alr,alK,Q2,El,alL,Ov,cn,.g (.l 0) J .l LI,nH,.g (.l 2) J .l VZ,zf,alM,.g (.l 0) U .l (.db 2 (.v 7)),ld,.g (.l 2) U .l VZ,LJ,alN,.i (.v 11) alO],.cond (.v 11) [.ops [.i .l LI,aT,.i .l (.db 2 (.v 7)),aT,.i .l (.fe ag (o (4,1)) (.v 4) (.l 2)),Ej,.ca [⟨ag,U,1,.l 2,(.l 1)⟩],.i .l (.fe ag (o (4,1)) (.v 4) (.l 1)),Ej]] []],.ops [ky,oG,jM]]
def Jd:List bb:=[.ops [hV,.i (.v 9) Ru],.cond (.v 9) [] [.exit 0],.block 1 [.ops [rW],.block 2 [.loop Bm]],Cb]
def Ox:List bb:=[.ops [.i (.v 3) V0],.ops [.i (.v 4) V0],.ops [hd,rU,cn,MW,ajo,.i (.v 8) HT],.cond (.v 8) [.ops [hd,.i .l VZ,Ej]] [],xF,.block 0 [.loop Jd],.ops [EZ,agT],.ret]
theorem V1:cv aq aa 75 3 12 [0,1,2,6,7,8,9,10,16,20,32,61] Ox [(.cell J 4 3)] J:=by refine⟨_,_,Tryz.func75,rfl,rfl,?_,?_,?_,?_,?_⟩<;>kernel_rfl
def ys:List bb:=[.ops [kH,bc,zR,U0,cn,.g (.l 0) J .l (.a8 (.v 7)),ES,alH,alI,.i (.v 9) alJ],.cond (.v 9) [] [.exit 0],.block 1 [.ops [bc,kH,IK,IS,.i (.v 8) VY,.i .n (.store 9 (.v 8) (.l 0))],.ops [.i .l (.db 0 (.v 8)),aT,.i .l Mg,cn,xE,.g (.l 1) J .l (.a8 (.v 7)),alK,Q2,El,alL,Ov,cn,.g (.l 0) J .l (.db 3 (.v 8)),nH,.g (.l 2) J .l (.a8 (.v 3)),.g (.l 3) J .l Sr,Rt,cn,.g (.l 0) J .l (.db 5 (.v 8)),nH,.g (.l 2) J .l (.a8 (.v 4)),alx,.g (.l 4) J .l (.a8 (.v 4)),aly,Ov,cn,ac6,nH,.g (.l 2) J .l (.fe ag (o (4,1)) (.v 6) (.l 0)),zf,alM,.g (.l 0) U .l (.db 1 (.v 8)),ld,MR,.g (.l 3) U .l Sr,alN,.i (.v 10) alO],.cond (.v 10) [.ops [So],.ret] []],.ops [kH,oG,nG]]
def alP:List bb:=[LO,.ops [bc,dc,hd,.i .l (.call (.c (.fn 75 [] [])) [.l 2,.l 1,.l 0]),.i (.v 6) V0,Tm],.ops [wv],.block 0 [.loop ys],LO,.ret]
theorem aAZ:cv aq aa 38 5 11 [0,1,2,3,4,10,11,12,13,27,70] alP [(.v 5)] J:=by refine⟨_,_,Tryz.func38,rfl,rfl,?_,?_,?_,?_,?_⟩<;>kernel_rfl
def alQ:List bb:=[.ops [alR],.ops [Ve,pK],.ops [dc,.i (.v 4) (.bin .ptr .eql (.l 0) (.c .e'))],.cond (.v 4) [.ops [alR],.ret] [],.ops [dc,.i .l (.build [.int j 0,.int j 0,.int j 0,.int j 0,.int j 0,.int j 0,.int j 0,.int j 0,.aJ] [(0,1),(1,1),(2,1),(3,1),(4,1),(5,1),(6,1),(7,1),(8,1)] [(0,(.c (.int j 2))),(1,(.c (.int j 1))),(3,(.c (.int j 3))),(5,(.c (.int j 1))),(6,(.c (.int j (-1))))]),alS,cn,fs,ft,.i (.v 2) KX,agm,.i .n (.store 5 (.v 2) (.l 1)),Tp],.ops [r3,aT,EI,cn,Tt,nH,akd,zt,cn,xE,.g (.l 1) J .l (.call (.c (.fn 37 [] [])) [.l 0,.c (.int j 1),.c (.int j 3),.c (.int j 1)]),GS,cn,xE,.g (.l 1) J .l (.call (.c (.fn 37 [] [])) [.l 0,.c (.int j 1),.c (.int j 3),.c (.int j 2)]),alT,zt,cn,xE,.g (.l 1) J .l (.call (.c (.fn 37 [] [])) [.l 0,.c (.int j 0),.c (.int j 3),.c (.int j 1)]),alT,zt,cn,xE,K1,.g (.l 2) J .l EX,zf,.g (.l 4) J .l (.call (.c (.fn 28 [] [])) [.l 0,.c (.int j 1)]),.g (.l 5) J .l QT,.g (.l 6) J .l acP,Q3,B8],.ret]
theorem aA0:cv aq aa 31 0 5 [0,1,2,3,6] alQ [(.v 0)] J:=by refine⟨_,_,Tryz.func31,rfl,rfl,?_,?_,?_,?_,?_⟩<;>kernel_rfl
abbrev mW:a9:=3
abbrev sn:a9:=165
abbrev rq:a9:=191
def p2(g:sm):List F:=[.int j g.bu,.int j g.cell,.int j g.c5]
def p3(l:Int×Int):List F:=[.int j l.1,.int j l.2]
def oa(b ad:Nat)(jE:List sm)(bX:List (Int×Int))(code at_ n:Int):cc:=u0 λq:F×F=>ij (a1 b [[.ptr ad 0 0,q.1,q.2,.int j code,.int j at_,.int j n]]) (ij (gc sn q.1 (jE.map p2)) (gc rq q.2 (bX.map p3)))
section
variable{h E ak:ai}{ah al aO aL:Nat->Prop}{L:List cc}
theorem aA1{v:F}{l:List Int}(Z:gB mW v (eI l))(am:l.length<=1000000)(x:Int):∀(r pre:List Int) (eY cz c7:F),l=pre++r->pre.contains x=U->∃V,(∀K,bB (aU aq aa) 8 (.eM Jc::.bP []::.cu 0::(.bP [.ops [M7],.ret])::K) [v,.int j x,.int j 0,eY,.int j (l.length:Int),.int j (pre.length:Int),cz,c7] [] h=o (.ret,V,h))/\∃n:Int,V.getD 2 .aD= .int j n/\decide (0<=n)=l.contains x:=by
 intro r;induction r with
 |nil=>
   intro pre eY cz c7 e an;have d1:decide ((pre.length:Int)<(l.length:Int))=U:=decide_eq_false (by rw[e];simp);refine⟨[v,.int j x,.int j (-1),eY,.int j (l.length:Int),.int j (pre.length:Int),.bool U,c7],λK=>?_, -1,rfl,?_⟩
   ·rw[cy Jc.eq_1];simp only[ao,ar,av,ap,b2,d1]
   ·rw[e,ou,an];rfl
 |cons y r aR=>
   intro pre eY cz c7 e an;have d1:decide ((pre.length:Int)<(l.length:Int))=J:=decide_eq_true (by rw[e];simp;omega);have aF:(eI l)[pre.length]? =o [.int j y]:=by rw[e];simp
   have bJ:=Z.bJ j pre.length _ aF;have iS:pre.length<l.length:=by rw[e];simp
   have w:=ew (n:=(pre.length:Int)+1) (by omega) (by omega);cases bH:decide (y=x)with
   |true=>
     refine⟨[v,.int j x,.int j (pre.length:Int),.int j (pre.length:Int),.int j (l.length:Int),.int j (pre.length:Int),.bool J,.bool J],λK=>?_,(pre.length:Int),rfl,?_⟩
     ·have yR:decide (x=y)=J:=by rw[decide_eq_true_eq]at bH ⊢;exact bH.symm
      rw[cy Jc.eq_1];simp only[ao,ar,av,ap,b2,d1,bJ,yR]
     ·rw[e,tw];have:x=y:=by rw[decide_eq_true_eq]at bH;exact bH.symm
      simp[this]
   |false=>
     have yR:decide (x=y)=U:=by rw[decide_eq_false_iff_not]at bH ⊢;exact λh=>bH h.symm
     have ev:((pre++[y]).length:Int)=(pre.length:Int)+1:=by simp
     obtain⟨V,bx,bL⟩:=aR (pre++[y]) (.int j (pre.length:Int)) (.bool J) (.bool U) (by simp[e]) (by rw[tw]at an ⊢;simp at an yR ⊢;exact⟨an,yR⟩);refine⟨V,λK=>?_,bL⟩;rw[<-bx K,ev]
     conv=>lhs;rw[cy Jc.eq_1]
     simp only[ao,ar,av,ap,b2,d1,bJ,yR,w]
theorem alU{v:F}{l:List Int}(Z:gB mW v (eI l))(am:l.length<=1000000)(x:Int):aU aq aa 74 [v,.int j x] h=o (.inl (.bool (l.contains x)),h):=by
 obtain⟨V,bx,n,bL,gE⟩:=aA1 (h:=h) Z am x l [] .aD .aD .aD rfl rfl;simp only[fG,j']at bx;have aw:aU aq aa 102 [v,.int j x] h=o (.inl (.int j n),h):=by refine a4 aAY rfl ?_;unfold alC;simp only[ao,ar,av,ap,Z.len,Z.fits,fM];rw[bx];simp only[ao,bL]
 refine a4 aAX rfl ?_;unfold alB;simp only[ao,ar,av,ap,aw,gE]
theorem alV{b:Nat}{x y a:Int}{out:List Int}{v:F}{i:Int}{w p:F}(ad:E.cell b=o [[.int j x,.int j y]])(ba:b<E.n)(aV:Acc h E mW v (eI out))(g:aG h E)(am:out.length<=1000)(ae:out[D]? =o a)(af:i=(D:Int))(k:Nat)(ab:k<2)(b6 cz c7 dz eD dU e1 g5 j5:F):∃cP a' wQ,(∀K,bB (aU aq aa) 15 (.eM Bl::K) [w,p,b6,v,.int j i,.ptr b 0 0,cz,c7,dz,eD,dU,e1,.int j (k:Int),g5,j5] [] E=bB (aU aq aa) 15 (.eM Bl::K) [w,p,b6,a',.int j i,.ptr b 0 0,.int j (k:Int),c7,dz,eD,dU,e1,.int j ((k:Int)+1),.bool J,wQ] [] cP)/\Acc h cP mW a' (eI (sl a (if k=0 then x else y) (if k=0 then y else x) out))/\aG h cP/\cP.cell=E.cell/\cP.n=E.n:=by
 subst af;have Z:=aag aV;have V2:=Z.bJ j D [.int j a] (by simp[ae]);have d2:decide ((k:Int)<2)=J:=decide_eq_true (by omega);have V3:∀q,dY ag (o (2,1)) (.ptr b 0 0) (.int q (k:Int))=o (.ptr b 0 k):=λq=>by simp[dY,ab]
 have alW:∀q,dY ag (o (2,1)) (.ptr b 0 0) (.int q (1 - (k:Int)))=o (.ptr b 0 (1 - k)):=λq=>by
  have:k=0\/k=1:=by omega
  rcases this with rfl|rfl<;>rfl
 have cx:kw j (1 - (k:Int))=1 - (k:Int):=ew (by omega) (by omega);have gn:kw j ((k:Int)+1)=(k:Int)+1:=ew (by omega) (by omega);have s6:cR U 1 E (.ptr b 0 k)=o (.int j (if k=0 then x else y)):=by
  rw[gb,ad];have:k=0\/k=1:=by omega
  rcases this with rfl|rfl<;>rfl
 have V4:cR U 1 E (.ptr b 0 (1 - k))=o (.int j (if k=0 then y else x)):=by
  rw[gb,ad];have:k=0\/k=1:=by omega
  rcases this with rfl|rfl<;>rfl
 generalize (if k=0 then x else y)=V5 at*;generalize (if k=0 then y else x)=Je at*;have vx:=λ(h:ai)=>alU (h:=h) Z (by omega) Je;unfold sl;cases FE:decide (V5=a)with
 |false=>
   have aA:¬(V5=a/\out.contains Je=U):=λh=>by rw[decide_eq_false_iff_not]at FE;exact FE h.1
   rw[if_neg aA];refine⟨E,v,.bool U,λK=>?_,aV,g,rfl,rfl⟩
   conv=>lhs;rw[cy Bl.eq_1]
   simp only[ao,ar,av,ap,b2,d2,V3,s6,V2,FE,gn]
 |true=>
   have aA2:V5=a:=of_decide_eq_true FE;cases an:out.contains Je with
   |true=>
     rw[if_neg (by simp)];rw[an]at vx;refine⟨E,v,.bool U,λK=>?_,aV,g,rfl,rfl⟩
     conv=>lhs;rw[cy Bl.eq_1]
     simp only[ao,ar,av,ap,b2,d2,V3,s6,V2,FE,alW,cx,V4,vx,gn]
   |false=>
     rw[if_pos ⟨aA2,rfl⟩];rw[an]at vx;obtain⟨a',R,aw,a2,cf,bD,kX⟩:=y4 aV g (row:=[.int j Je]) rfl (by simp;omega);have aEl:cR U 1 (E.fresh 1) (.ptr b 0 (1 - k))=o (.int j Je):=V4;refine⟨R,a',.bool J,λK=>?_,by simpa using a2,cf,bD,kX⟩
     conv=>lhs;rw[cy Bl.eq_1]
     simp only[ao,ar,av,ap,b2,d2,V3,s6,V2,FE,alW,cx,V4,vx,aw,gn]
end
section
variable{h E ak:ai}{ah al aO aL:Nat->Prop}{L:List cc}
theorem aA3{b:Nat}{x y a:Int}{out:List Int}{v:F}{w p:F}(ad:E.cell b=o [[.int j x,.int j y]])(ba:b<E.n)(aV:Acc h E mW v (eI out))(g:aG h E)(am:out.length+2<=1000)(ae:out[D]? =o a)(b6 cz c7 dz eD dU e1 g5 j5:F):∃cP a' hJ FF wQ,(∀K,bB (aU aq aa) 15 (.eM Bl::.bP []::.cu 4::K) [w,p,b6,v,.int j (D:Int),.ptr b 0 0,cz,c7,dz,eD,dU,e1,.int j 0,g5,j5] [] E=bB (aU aq aa) 15 K [w,p,b6,a',.int j (D:Int),.ptr b 0 0,hJ,c7,dz,eD,dU,e1,FF,.bool U,wQ] [] cP)/\Acc h cP mW a' (eI (qJ a out (x,y)))/\aG h cP/\cP.cell=E.cell/\cP.n=E.n:=by
 obtain⟨I,cI,jw,bx,aP,cS,aW,fA⟩:=alV (w:=w) (p:=p) ad ba aV g (by omega) ae rfl 0 (by decide) b6 cz c7 dz eD dU e1 g5 j5;rw[if_pos rfl,if_pos rfl]at aP;have aA4:(sl a x y out)[D]? =o a:=by obtain⟨_,e,he⟩:=VR (a:=a) (x:=x) (y:=y) (out:=out);rw[he,l0 (fO.1 ae).1];exact ae
 have py:(sl a x y out).length<=1000:=by
  unfold sl;split
  ·simp;omega
  ·omega
 obtain⟨R,AY,hD,bL,a2,cf,bD,kX⟩:=alV (w:=w) (p:=p) (E:=I) (b:=b) (x:=x) (y:=y) (by rw[aW];exact ad) (by omega) aP cS py aA4 rfl 1 (by decide) b6 (.int j 0) c7 dz eD dU e1 (.bool J) jw;rw[if_neg (by decide),if_neg (by decide)]at a2;refine⟨R,AY,.int j 1,.int j 2,hD,λK=>?_,a2,cf,bD.trans aW,kX.trans fA⟩;have qx:((0:Nat):Int)=0:=rfl;have ei:((1:Nat):Int)=1:=rfl;have fd:(0:Int)+1=1:=rfl;have ha:(1:Int)+1=2:=rfl;simp only[qx,ei,fd,ha]at bx bL;rw[bx,bL];rw[cy Bl.eq_1];simp only[ao,ar,av,ap,b2,Int.lt_irrefl]
theorem aA5{bX:List (Int×Int)}{bn:F}(Z:gB rq bn (bX.map p3))(jf:bX.length<=200){a:Int}{w p:F}{q:Int}:∀(r pre:List (Int×Int)) (E:ai) (out:List Int) (v:F) (b6 b4 cz c7 e1 gy g5 j5:F),bX=pre++r->oU bX q out->out[D]? =o a->Acc h E mW v (eI out)->aG h E->∃cP a' gs hJ nO FF w6 wQ,(∀K,bB (aU aq aa) 15 (.eM Ot::.bP []::.cu 2::K) [w,p,b6,v,.int j (D:Int),b4,cz,c7,bn,.int j (bX.length:Int),.int j (pre.length:Int),e1,gy,g5,j5] [] E=bB (aU aq aa) 15 K [w,p,b6,a',.int j (D:Int),gs,hJ,c7,bn,.int j (bX.length:Int),nO,.bool U,FF,w6,wQ] [] cP)/\Acc h cP mW a' (eI (r.foldl (qJ a) out))/\aG h cP:=by
 intro r;induction r with
 |nil=>intro pre E out v b6 b4 cz c7 e1 gy g5 j5 e gi ae aV g;have d1:decide ((pre.length:Int)<(bX.length:Int))=U:=decide_eq_false (by rw[e];simp);refine⟨E,v,b4,cz,.int j (pre.length:Int),gy,g5,j5,λK=>?_,aV,g⟩;rw[cy Ot.eq_1];simp only[ao,ar,av,ap,b2,d1]
 |cons l r aR=>
   intro pre E out v b6 b4 cz c7 e1 gy g5 j5 e gi ae aV g;have iS:pre.length<bX.length:=by rw[e];simp
   have d1:decide ((pre.length:Int)<(bX.length:Int))=J:=decide_eq_true (by omega);have bJ:=Z.bJ j pre.length (p3 l) (by rw[e];simp);have cx:=ew (n:=(pre.length:Int)+1) (by omega) (by omega);have ev:((pre++[l]).length:Int)=(pre.length:Int)+1:=by simp
   have gQ:fZ J 2 (p3 l) 0=o (.agg (p3 l)):=gA rfl;have hlen:=gi.len;have aA6:Acc h (E.push [p3 l]) mW v (eI out):=by
    rcases aV with aV|⟨id,bR,bQ,da,eS,qY⟩
    ·exact .inl aV
    ·exact .inr ⟨id,bR,bQ,da,eS,qY⟩
   have ll:∀z,(E.push z).cell E.n=o z:=λz=>hb;have e7:∀y z,(E.push y).set E.n (o z)=E.push z:=λy z=>nA;obtain⟨R,AY,s1,Jf,V6,bL,a2,cf,bD,kX⟩:=aA3 (w:=w) (p:=p) (E:=E.push [p3 l]) (b:=E.n) (x:=l.1) (y:=l.2) hb (sR _) aA6 (g.trans (aG.push _ _)) (by omega) ae b6 cz c7 bn (.int j (bX.length:Int)) (.int j (pre.length:Int)) (.bool J) g5 j5;have am:l∈bX:=by rw[e];simp
   have V7:oU bX q (qJ a out l):=(gi.Oo (List.mem_flatMap.2 ⟨l,am,by simp⟩)).Oo (List.mem_flatMap.2 ⟨l,am,by simp⟩);have rD:(qJ a out l)[D]? =o a:=by obtain⟨dT,he⟩:=alk (a:=a) (out:=out) (l:=l);rw[he,l0 (fO.1 ae).1];exact ae
   obtain⟨aj,eY,vE,hJ,AH,aA7,Jg,wQ,gE,bl,eQ⟩:=aR (pre++[l]) R (qJ a out l) AY b6 (.ptr E.n 0 0) s1 c7 (.bool J) Jf (.bool U) V6 (by simp[e]) V7 rD a2 cf;refine⟨aj,eY,vE,hJ,AH,aA7,Jg,wQ,λK=>?_,bl,eQ⟩;rw[<-gE K,ev];simp only[p3]at bJ gQ bL ll
   conv=>lhs;rw[cy Ot.eq_1]
   simp only[ao,ar,av,ap,b2,d1,bJ,gQ,ll,e7];rw[bL];simp only[ao,cx]
theorem aA8{bX:List (Int×Int)}{bn:F}(Z:gB rq bn (bX.map p3))(jf:bX.length<=200){b:Nat}{p:F}{q:Int}(Jh:∀E,aG h E->cR U 1 E (.ptr b 0 2)=o bn):∀(f i:Nat) (E:ai) (out:List Int) (v:F) (b6 b4 cz c7 dz eD dU e1 gy g5 j5:F),i<=out.length->2*bX.length+2<=f+i->oU bX q out->Acc h E mW v (eI out)->aG h E->∃cP a' V,(∀K,bB (aU aq aa) 15 (.eM Ou::.bP []::.cu 0::K) [.ptr b 0 0,p,b6,v,.int j (i:Int),b4,cz,c7,dz,eD,dU,e1,gy,g5,j5] [] E=bB (aU aq aa) 15 K (.ptr b 0 0::p::b6::a'::V) [] cP)/\V.length=11/\Acc h cP mW a' (eI (zY bX f i out))/\aG h cP:=by
 intro f;induction f with
 |zero=>intro i E out v b6 b4 cz c7 dz eD dU e1 gy g5 j5 af bo gi aV g;have:=gi.len;omega
 |succ f aR=>
   intro i E out v b6 b4 cz c7 dz eD dU e1 gy g5 j5 af bo gi aV g;have Oy:=aag aV;unfold zY;by_cases ba:i<out.length
   ·rw[if_pos ba];have d1:decide ((i:Int)<(out.length:Int))=J:=decide_eq_true (by omega);have ae:out[i]? =o (out.getD i 0):=by simp[cZ,ba]
    have f2:cd 2 (.ptr b 0 0)=o (.ptr b 0 2):=rfl;have h':=Jh E g;have hlen:=gi.len;have cx:=ew (n:=(i:Int)+1) (by omega) (by omega);have ev:((i+1:Nat):Int)=(i:Int)+1:=by omega
    obtain⟨R,AY,vE,s1,AH,Jf,Jg,V6,bL,a2,cf⟩:=aA5 (w:=.ptr b 0 0) (p:=p) Z jf (a:=out.getD i 0) (D:=i) (q:=q) bX [] E out v b6 b4 cz (.bool J) e1 gy g5 j5 rfl gi ae aV g;have V7:oU bX q (bX.foldl (qJ (out.getD i 0)) out):=oU.fold bX out (λl am=>am) gi;obtain⟨dT,he⟩:=VS (a:=out.getD i 0) bX out;obtain⟨aj,eY,V,gE,u6,bl,eQ⟩:=aR (i+1) R (bX.foldl (qJ (out.getD i 0)) out) AY b6 vE s1 (.bool J) bn (.int j (bX.length:Int)) AH (.bool U) Jf Jg V6 (by rw[he];simp;omega) (by omega) V7 a2 cf;refine⟨aj,eY,V,λK=>?_,u6,bl,eQ⟩;rw[<-gE K,ev];simp only[fG,j']at bL
    conv=>lhs;rw[cy Ou.eq_1]
    simp only[ao,ar,av,ap,b2,Oy.len,Oy.fits,fM,d1,f2,h',Z.len,Z.fits];rw[bL];simp only[ao,cx]
   ·rw[if_neg ba];have d1:decide ((i:Int)<(out.length:Int))=U:=decide_eq_false (by omega);refine⟨E,v,[.int j (i:Int),b4,cz,.bool U,dz,eD,dU,e1,gy,g5,j5],λK=>?_,rfl,aV,g⟩;rw[cy Ou.eq_1];simp only[ao,ar,av,ap,b2,Oy.len,Oy.fits,fM,d1]
theorem aA9{bX:List (Int×Int)}{bn:F}(Z:gB rq bn (bX.map p3))(jf:bX.length<=200){b:Nat}(Jh:∀E,aG h E->cR U 1 E (.ptr b 0 2)=o bn)(p:Int):aU aq aa 71 [.ptr b 0 0,.int j p] h=o (.inl (hy mW (eI (ut bX p))),h):=by
 have aV:Acc h (h.fresh 1) mW (.b5 (o h.ids) mW [[.int j p]]) (eI [p]):=.inr ⟨h.ids,by simp,b9 _,sR _,Ec,rfl⟩;obtain⟨R,a',V,bL,u6,a2,cf⟩:=aA8 (p:=.int j p) (q:=p) Z jf Jh (2*bX.length+2) 0 (h.fresh 1) [p] _ .aJ .aD .aD .aD .aD .aD .aD .aD .aD .aD .aD (mI _) (by omega) (VT bX p) aV (aG.fresh h 1);have hw:=BW a2 (λr au=>by obtain⟨x,_,rfl⟩:=nt.1 au;rfl);have e:zY bX (2*bX.length+2) 0 [p]=ut bX p:=rfl;rw[e]at hw;simp only[j']at bL
 match V,u6 with
 |[h7,hE,j4,az',aEm,aEn,aEo,aEp,aEq,aEr,aEs],_=>refine a4 aAS rfl ?_;unfold alu;simp only[ao,ar,av,ap];rw[bL];simp only[ao];exact dE cf hw
theorem aA'{g:sm}{c r:Int}{l5 iV kb:Nat}{all:List Int}(aH:h.cell l5=o [[.int j c]])(bq:h.cell iV=o [[.int j r]])(de:h.cell kb=o [[hy mW (eI all)]])(ts:l5<h.n)(nv:iV<h.n)(xZ:kb<h.n)(am:all.length<=1000000):aU aq aa 73 [.agg (p2 g),.ptr l5 0 0,.ptr iV 0 0,.ptr kb 0 0] h=o (.inl (.bool (decide (g.cell=c)&&(decide (mL g.c5 r=r)&&all.contains g.bu))),h):=by
 have ll:∀z,(h.push z).cell h.n=o z:=λz=>hb;have kj:∀z,(h.push z).cell l5=o [[.int j c]]:=λz=>by rw[hp ts];exact aH
 have sC:∀z,(h.push z).cell iV=o [[.int j r]]:=λz=>by rw[hp nv];exact bq
 have hx:∀z,(h.push z).cell kb=o [[hy mW (eI all)]]:=λz=>by rw[hp xZ];exact de
 have vx:=λ(h:ai)=>alU (h:=h) (uY mW (eI all)) (by omega) g.bu;have hm:∀x y:Int,kw j ((lY j.bits x&&& lY j.bits y).toNat:Int)=mL x y:=λx y=>rfl;simp only[p2]at*;refine a4 aAU rfl ?_;unfold alw;cases d1:decide (g.cell=c)with
 |false=>simp only[ao,ar,av,ap,ll,kj,d1];exact dE (aG.push h _) rfl
 |true=>
   cases d2:decide (mL g.c5 r=r)with
   |false=>simp only[ao,ar,av,ap,ll,kj,sC,d1,hm,d2];exact dE (aG.push h _) rfl
   |true=>simp only[ao,ar,av,ap,ll,kj,sC,hx,d1,hm,d2,vx];exact dE (aG.push h _) rfl
theorem aBa{v:F}{gW:List sm}(Z:gB sn v (gW.map p2))(am:gW.length<=1000000){f:di}{fX:List F}{P:sm->Bool}(bo:∀g∈gW,aU aq aa f (.agg (p2 g)::fX) h=o (.inl (.bool (P g)),h)):∀(r pre:List sm) (eY cz c7:F),gW=pre++r->pre.any P=U->∃V,(∀K,bB (aU aq aa) 8 (.eM Jb::.bP []::.cu 0::(.bP [.ops [M7],.ret])::K) [v,.fn f [] fX,.int j 0,eY,.int j (gW.length:Int),.int j (pre.length:Int),cz,c7] [] h=o (.ret,V,h))/\∃n:Int,V.getD 2 .aD= .int j n/\decide (0<=n)=gW.any P:=by
 intro r;induction r with
 |nil=>
   intro pre eY cz c7 e an;have d1:decide ((pre.length:Int)<(gW.length:Int))=U:=decide_eq_false (by rw[e];simp);refine⟨[v,.fn f [] fX,.int j (-1),eY,.int j (gW.length:Int),.int j (pre.length:Int),.bool U,c7],λK=>?_, -1,rfl,?_⟩
   ·rw[cy Jb.eq_1];simp only[ao,ar,av,ap,b2,d1]
   ·rw[e,ou,an];rfl
 |cons g r aR=>
   intro pre eY cz c7 e an;have d1:decide ((pre.length:Int)<(gW.length:Int))=J:=decide_eq_true (by rw[e];simp;omega);have bJ:=Z.bJ j pre.length (p2 g) (by rw[e];simp);have gQ:fZ J 3 (p2 g) 0=o (.agg (p2 g)):=gA rfl;have iS:pre.length<gW.length:=by rw[e];simp
   have w:=ew (n:=(pre.length:Int)+1) (by omega) (by omega);have a5:=bo g (by rw[e];simp);cases bH:P g with
   |true=>
     rw[bH]at a5;refine⟨[v,.fn f [] fX,.int j (pre.length:Int),.int j (pre.length:Int),.int j (gW.length:Int),.int j (pre.length:Int),.bool J,.bool J],λK=>?_,(pre.length:Int),rfl,?_⟩
     ·rw[cy Jb.eq_1];simp only[ao,ar,av,ap,b2,bN,d1,bJ,gQ,a5]
     ·rw[e];simp[bH]
   |false=>
     rw[bH]at a5;have ev:((pre++[g]).length:Int)=(pre.length:Int)+1:=by simp
     obtain⟨V,bx,bL⟩:=aR (pre++[g]) (.int j (pre.length:Int)) (.bool J) (.bool U) (by simp[e]) (by simp[an,bH]);refine⟨V,λK=>?_,bL⟩;rw[<-bx K,ev]
     conv=>lhs;rw[cy Jb.eq_1]
     simp only[ao,ar,av,ap,b2,bN,d1,bJ,gQ,a5,w]
end
theorem aBb{e:a9}{k:Nat}(ab:k<=rows.length):∃v,ru (hy e rows) (o (.int j (k:Int))) ag=o v/\gB e v (rows.drop k):=by
 unfold hy;by_cases aB:rows=[]
 ·subst aB;have:k=0:=by simpa using ab
  subst this;exact⟨.aJ,by simp[ru,vS,xd,hX,ti],BY e⟩
 ·rw[if_neg aB];refine⟨.b5 ag e (rows.drop k),?_,BX _ _ _⟩;have R:(rows.drop k).take (rows.length - k)=rows.drop k:=List.take_of_length_le (by simp);simp[ru,vS,xd,hX,ti,ab,R]
section
variable{h E ak:ai}{ah al aO aL:Nat->Prop}{L:List cc}{b ad:Nat}{gW:List sm}{gj:List (Int×Int)}{fR at_ n:Int}
theorem Oz(x:(oa b ad gW gj fR at_ n).A h ah al):∃cT bn,aN h ah al h [a1 b [[.ptr ad 0 0,cT,bn,.int j fR,.int j at_,.int j n]],gc sn cT (gW.map p2),gc rq bn (gj.map p3)]:=by obtain⟨⟨cT,bn⟩,eJ,eK,dZ,eh,cb,dF,r⟩:=x;exact⟨cT,bn,aN.start ⟨eJ,eK,dZ,eh,cb,cm.two dF,r⟩⟩
theorem cm.three{X Y dd:cc}(x:(cm [X,Y,dd]).A h ah al):(ij X (ij Y dd)).A h ah al:=by obtain⟨eJ,eK,dZ,eh,cb,dF,r⟩:=x;refine⟨eJ,eK,dZ,eh,cb,?_,r⟩;obtain⟨pe,pf,sP,sQ,y,z,bL⟩:=dF;exact⟨pe,pf,sP,sQ,y,cm.Cj z,bL⟩
theorem V8{cT bn:F}(s:aN ak aO aL h [a1 b [[.ptr ad 0 0,cT,bn,.int j fR,.int j at_,.int j n]],gc sn cT (gW.map p2),gc rq bn (gj.map p3)]):gJ ak aO aL h (oa b ad gW gj fR at_ n):=gJ.imp (λ_ _ _ x=>⟨(cT,bn),cm.three x⟩) s
theorem alX{e:a9}{v:F}(x:(gc e v rows).A h ah al):gB e v rows/\v.one=J/\v.cells=[v]:=by
 rcases x with⟨⟨rfl,rfl⟩,_⟩|⟨id,⟨_,rfl⟩,_⟩
 ·exact⟨BY e,rfl,rfl⟩
 ·exact⟨BX _ _ _,rfl,rfl⟩
structure OA(h:ai)(b ad:Nat)(gW:List sm)(gj:List (Int×Int))(fR at_ n:Int)(cT bn:F):Prop where
 c:h.cell b=o [[.ptr ad 0 0,cT,bn,.int j fR,.int j at_,.int j n]]
 lt:b<h.n
 g:gB sn cT (gW.map p2)
 l:gB rq bn (gj.map p3)
theorem Dt(s:aN ak aO aL h L)(i:Nat)(af:L[i]? =o (oa b ad gW gj fR at_ n)):∃cT bn,OA h b ad gW gj fR at_ n cT bn:=by obtain⟨ah,al,x⟩:=s.get i af;obtain⟨cT,bn,bd⟩:=Oz x;have c:=bd.cell 0 rfl;obtain⟨eJ,eK,cb⟩:=bd.get 1 rfl;obtain⟨dZ,eh,dF⟩:=bd.get 2 rfl;exact⟨cT,bn,c.1,c.2,(alX cb).1,(alX dF).1⟩
theorem aBc{v:F}{gW:List sm}(Z:gB sn v (gW.map p2))(am:gW.length<=1000000){f:di}{fX:List F}{P:sm->Bool}(bo:∀g∈gW,aU aq aa f (.agg (p2 g)::fX) h=o (.inl (.bool (P g)),h)):aU aq aa 72 [v,.fn f [] fX] h=o (.inl (.bool (gW.any P)),h):=by
 obtain⟨V,bx,n,bL,gE⟩:=aBa (h:=h) Z am bo gW [] .aD .aD .aD rfl rfl;simp only[fG,j']at bx;have aw:aU aq aa 101 [v,.fn f [] fX] h=o (.inl (.int j n),h):=by refine a4 aAW rfl ?_;unfold alA;simp only[ao,ar,av,ap,Z.len,Z.fits,fM];rw[bx];simp only[ao,bL]
 refine a4 aAV rfl ?_;unfold alz;simp only[ao,ar,av,ap,aw,gE]
theorem aBd(gj:List (Int×Int))(p:Int):(ut gj p).length<=2*gj.length+1:=by
 have key:∀(f i:Nat) (out:List Int),oU gj p out->oU gj p (zY gj f i out):=by
  intro f;induction f with
  |zero=>exact λi out g=>g
  |succ f aR=>
    intro i out g;unfold zY;split
    ·exact aR _ _ (oU.fold gj out (λl am=>am) g)
    ·exact g
 exact(key _ _ _ (VT gj p)).len
theorem Ji(s:aN ak aO aL h L)(i:Nat)(af:L[i]? =o (oa b ad gW gj fR at_ n))(a5:gW.length<=200)(am:gj.length<=200)(p c r:Int):aU aq aa 37 [.ptr b 0 0,.int j p,.int j c,.int j r] h=o (.inl (.bool (vN gW gj p c r)),h):=by
 obtain⟨cT,bn,kv⟩:=Dt s i af;have bd:=s.push [[.int j c]];have aY:=bd.push [[.int j r]];have Jh:∀E,aG ((h.push [[.int j c]]).push [[.int j r]]) E->cR U 1 E (.ptr b 0 2)=o bn:=λE g=>by
  have e:E.cell b=h.cell b:=by rw[g.cell b (by have:=kv.lt;simp only[eC];omega),hp (by have:=kv.lt;simp only[eC];omega),hp kv.lt]
  rw[gb,e,kv.c];rfl
 have pk:=aA9 (h:=(h.push [[.int j c]]).push [[.int j r]]) kv.l am Jh p;have bs:=aY.push [[hy mW (eI (ut gj p))]];have jQ:=bs.cell 0 rfl;have fV:=bs.cell 1 rfl;have eg:=bs.cell 2 rfl;obtain⟨rg,aEt,alY⟩:=Dt bs (i+1+1+1) af;have ui:rg=cT:=by have:=alY.c;rw[hp (by have:=kv.lt;simp only[eC];omega),hp (by have:=kv.lt;simp only[eC];omega),hp kv.lt,kv.c]at this;simp at this;exact this.1.symm
 subst ui;have f1:cd 1 (.ptr b 0 0)=o (.ptr b 0 1):=rfl;have cD:cR U 1 (((h.push [[.int j c]]).push [[.int j r]]).push [[hy mW (eI (ut gj p))]]) (.ptr b 0 1)=o rg:=by rw[gb,alY.c];rfl
 have aBe:=aBc (h:=((h.push [[.int j c]]).push [[.int j r]]).push [[hy mW (eI (ut gj p))]]) kv.g (by omega) (f:=73) (fX:=[.ptr h.n 0 0,.ptr (h.n+1) 0 0,.ptr (h.n+1+1) 0 0]) (P:=λg=>decide (g.cell=c)&&(decide (mL g.c5 r=r)&&(ut gj p).contains g.bu)) (λg _=>aA' eg.1 fV.1 jQ.1 eg.2 fV.2 jQ.2 (by have:=aBd gj p;omega));have DK:(hy mW (eI (ut gj p))).one=J/\(hy mW (eI (ut gj p))).cells=[hy mW (eI (ut gj p))]:=by unfold hy;split<;>exact⟨rfl,rfl⟩
 have hK:∀y z,((((h.push [[.int j c]]).push [[.int j r]]).push y).set (h.n+1+1) (o z))=((h.push [[.int j c]]).push [[.int j r]]).push z:=λy z=>nA;have d':∀y,((((h.push [[.int j c]]).push [[.int j r]]).push y).cell (h.n+1+1))=o y:=λy=>hb;unfold vN;generalize hy mW (eI (ut gj p))=Ia at*;refine a4 aAT rfl ?_;unfold alv;simp only[ao,ar,av,ap,bN,pk,DK,hK,d',f1,cD,aBe];exact dE (((aG.push h _).trans (aG.push _ _)).trans (aG.push _ _)) rfl
end
structure Bn extends vC where
 wt:Nat
abbrev ob(c:Bn)(W:eE):List cc:=oa c.wt c.ad W.jE W.bX W.code W.at_ W.n::nN c.tovC W.H
structure w7(k:Nat)(W:eE):Prop where
 h:yr k W.H
 g:W.jE.length<=k
 l:W.bX.length<=k
 n:W.n=(k:Int)
section
variable{h E ak:ai}{ah al aO aL:Nat->Prop}{L:List cc}{b ad:Nat}{gW:List sm}{gj:List (Int×Int)}{fR at_ n:Int}
theorem aBf(fB:aN ak aO aL h L)(i:Nat)(af:L[i]? =o (oa b ad gW gj fR at_ n))(am:gW.length<=1000)(g:sm){cT bn:F}(kv:OA h b ad gW gj fR at_ n cT bn):∃a' I R,eH U sn cT (.b5 (o h.ids) sn [p2 g]) (h.fresh 1)=o (a',I)/\a'.one=J/\a'.cells=[a']/\I.cell=h.cell/\e0 1 I (.ptr b 0 1) a'=o R/\aN ak aO aL R (L.set i (oa b ad (gW++[g]) gj fR at_ n)):=by
 obtain⟨R,⟨a',I⟩,⟨aw,ay,be,b1,c4⟩,ek⟩:=fB.tO (cJ:=λR (q:F×ai)=>eH U sn cT (.b5 (o h.ids) sn [p2 g]) (h.fresh 1)=o (q.1,q.2)/\q.1.one=J/\q.1.cells=[q.1]/\q.2.cell=h.cell/\e0 1 q.2 (.ptr b 0 1) q.1=o R) i af (Y:=λ_=>oa b ad (gW++[g]) gj fR at_ n) λah al x=>by
  obtain⟨Jk,A1,s⟩:=Oz x;have cB:=s.cell 0 rfl;have e:=kv.c;rw[cB.1]at e;simp at e;obtain⟨rfl,rfl⟩:=e;obtain⟨eJ,eK,cb⟩:=s.get 1 rfl;obtain⟨I,a',⟨aP,a2,bl,cr⟩,bd⟩:=s.tO (cJ:=λI (a':F)=>eH U sn Jk (.b5 (o h.ids) sn [p2 g]) (h.fresh 1)=o (a',I)/\a'.one=J/\a'.cells=[a']/\I.cell=h.cell) 1 rfl (Y:=λa'=>gc sn a' ((gW++[g]).map p2)) λah al x=>by obtain⟨a',I,aP,a2,bl,cr,_,ej⟩:=E2 x (row:=p2 g) rfl (by simp;omega);exact⟨I,a',⟨aP,a2,bl,ej⟩,by simpa using cr⟩
  have aW:=bd.cell 0 rfl;have aY:=bd.set 0 rfl [[.ptr ad 0 0,a',A1,.int j fR,.int j at_,.int j n]];refine⟨_,(a',I),⟨aP,a2,bl,cr,?_⟩,V8 aY⟩;rw[lu aW.1 rfl (by rw[bl];simp[a2]) (by rw[bl];rfl) (by simp)];rw[bl];rfl
 exact⟨a',I,R,aw,ay,be,b1,c4,ek⟩
theorem aBg(fB:aN ak aO aL h L)(i:Nat)(af:L[i]? =o (oa b ad gW gj fR at_ n))(am:gj.length<=1000)(g:Int×Int){cT bn:F}(kv:OA h b ad gW gj fR at_ n cT bn):∃a' I R,eH U rq bn (.b5 (o h.ids) rq [p3 g]) (h.fresh 1)=o (a',I)/\a'.one=J/\a'.cells=[a']/\I.cell=h.cell/\e0 1 I (.ptr b 0 2) a'=o R/\aN ak aO aL R (L.set i (oa b ad gW (gj++[g]) fR at_ n)):=by
 obtain⟨R,⟨a',I⟩,⟨aw,ay,be,b1,c4⟩,ek⟩:=fB.tO (cJ:=λR (q:F×ai)=>eH U rq bn (.b5 (o h.ids) rq [p3 g]) (h.fresh 1)=o (q.1,q.2)/\q.1.one=J/\q.1.cells=[q.1]/\q.2.cell=h.cell/\e0 1 q.2 (.ptr b 0 2) q.1=o R) i af (Y:=λ_=>oa b ad gW (gj++[g]) fR at_ n) λah al x=>by
  obtain⟨Jk,A1,s⟩:=Oz x;have cB:=s.cell 0 rfl;have e:=kv.c;rw[cB.1]at e;simp at e;obtain⟨rfl,rfl⟩:=e;obtain⟨I,a',⟨aP,a2,bl,cr⟩,bd⟩:=s.tO (cJ:=λI (a':F)=>eH U rq A1 (.b5 (o h.ids) rq [p3 g]) (h.fresh 1)=o (a',I)/\a'.one=J/\a'.cells=[a']/\I.cell=h.cell) 2 rfl (Y:=λa'=>gc rq a' ((gj++[g]).map p3)) λah al x=>by obtain⟨a',I,aP,a2,bl,cr,_,ej⟩:=E2 x (row:=p3 g) rfl (by simp;omega);exact⟨I,a',⟨aP,a2,bl,ej⟩,by simpa using cr⟩
  have aW:=bd.cell 0 rfl;have aY:=bd.set 0 rfl [[.ptr ad 0 0,Jk,a',.int j fR,.int j at_,.int j n]];refine⟨_,(a',I),⟨aP,a2,bl,cr,?_⟩,V8 aY⟩;rw[lu aW.1 rfl (by rw[bl];simp[a2]) (by rw[bl];rfl) (by simp)];rw[bl];rfl
 exact⟨a',I,R,aw,ay,be,b1,c4,ek⟩
theorem alZ(fB:aN ak aO aL h L)(i:Nat)(af:L[i]? =o (oa b ad gW gj fR at_ n))(Jl Jm cj:Int){row:List F}{cT bn:F}(kv:OA h b ad gW gj fR at_ n cT bn):aN ak aO aL (h.set b (o [[.ptr ad 0 0,cT,bn,.int j Jl,.int j Jm,.int j cj]])) (L.set i (oa b ad gW gj Jl Jm cj)):=by
 obtain⟨E,rfl,ek⟩:=fB.call (cJ:=λE=>E=h.set b (o [[.ptr ad 0 0,cT,bn,.int j Jl,.int j Jm,.int j cj]])) i af (Y:=oa b ad gW gj Jl Jm cj) λah al x=>by obtain⟨Jk,A1,s⟩:=Oz x;have cB:=s.cell 0 rfl;have e:=kv.c;rw[cB.1]at e;simp at e;obtain⟨rfl,rfl⟩:=e;exact⟨_,rfl,V8 (s.set 0 rfl [[.ptr ad 0 0,Jk,A1,.int j Jl,.int j Jm,.int j cj]])⟩
 exact ek
theorem aBh(s:aN ak aO aL h L)(i:Nat)(af:L[i]? =o (oa b ad gW gj fR at_ n))(a5:gW.length<=1000)(am:gj.length<=1000)(x:fp){m:F}(hm:m.one=J):∃E,aU aq aa 70 [.ptr b 0 0,.agg (cU x m)] h=o (.inl (.bS []),E)/\aN ak aO aL E (L.set i (oa b ad (if x.kind=2 then gW++[⟨x.p,x.k,x.r⟩]else gW) (if x.kind=2 then gj else if x.kind=3 then gj++[(x.p,x.q)]else gj) fR at_ n)):=by
 have bd:=s.push [cU x m];have aW:∀z,(h.push z).cell h.n=o z:=λz=>hb;have f1:cd 1 (.ptr b 0 0)=o (.ptr b 0 1):=rfl;have f2:cd 2 (.ptr b 0 0)=o (.ptr b 0 2):=rfl;obtain⟨cT,bn,kv⟩:=Dt bd (i+1) af;have Oq:cR U 1 (h.push [cU x m]) (.ptr b 0 1)=o cT:=by rw[gb,kv.c];rfl
 have sF:cR U 1 (h.push [cU x m]) (.ptr b 0 2)=o bn:=by rw[gb,kv.c];rfl
 by_cases cA:x.kind=2
 ·have d2:decide (x.kind=2)=J:=decide_eq_true cA;rw[if_pos cA,if_pos cA];obtain⟨a',I,R,aP,a2,bl,cr,ej,aY⟩:=aBf bd (i+1) af a5 ⟨x.p,x.k,x.r⟩ kv;have al0:cR U 1 ((h.push [cU x m]).fresh 1) (.ptr b 0 1)=o cT:=Oq;have aP:eH U sn cT (.b5 (o h.ids) sn [[.int j x.p,.int j x.k,.int j x.r]]) ((h.push [cU x m]).fresh 1)=o (a',I):=aP;refine⟨R,?_,aY.drop⟩;simp only[cU]at Oq al0 aP;refine a4 VV rfl ?_;unfold Ow;simp only[ao,ar,av,ap,bY,cU,hm,aW,f1,d2,Oq,al0,aP,ej]
 ·have d2:decide (x.kind=2)=U:=decide_eq_false cA;rw[if_neg cA,if_neg cA];by_cases dK:x.kind=3
  ·have d3:decide (x.kind=3)=J:=decide_eq_true dK;rw[if_pos dK];obtain⟨a',I,R,aP,a2,bl,cr,ej,aY⟩:=aBg bd (i+1) af am (x.p,x.q) kv;have al1:cR U 1 ((h.push [cU x m]).fresh 1) (.ptr b 0 2)=o bn:=sF;have aP:eH U rq bn (.b5 (o h.ids) rq [[.int j x.p,.int j x.q]]) ((h.push [cU x m]).fresh 1)=o (a',I):=aP;refine⟨R,?_,aY.drop⟩;simp only[cU]at sF al1 aP;refine a4 VV rfl ?_;unfold Ow;simp only[ao,ar,av,ap,bY,cU,hm,aW,f2,d2,d3,sF,al1,aP,ej]
  ·have d3:decide (x.kind=3)=U:=decide_eq_false dK;rw[if_neg dK];refine⟨h.push [cU x m],?_,?_⟩
   ·refine a4 VV rfl ?_;unfold Ow;simp only[ao,ar,av,ap,cU,hm,aW,d2,d3]
   ·rw[UO af];exact bd.drop
end
def mX{α:Type}(S:bt)(q:bt×α×Int):Prop:=S.log<+:q.1.log
section
variable{α β:Type}
theorem mX.same{S:bt}{q:bt×α×Int}(h:q.1.log=S.log):mX S q:=by unfold mX;rw[h];exact List.prefix_refl _
theorem mX.bind{S:bt}{q:bt×α×Int}{z:β}{k:bt->α->bt×β×Int}(h:mX S q)(ab:∀T v,mX T (k T v)):mX S (sk z q k):=by
 obtain⟨T,v,c⟩:=q;unfold sk;simp only;split
 ·exact h
 ·exact List.IsPrefix.trans h (ab T v)
theorem mX.ite{S:bt}{p:Prop}[Decidable p]{a b:bt×α×Int}(I:mX S a)(R:mX S b):mX S (if p then a else b):=by split<;>assumption
end
theorem aBi(S:bt)(q:aI×Int×Int):mX S (xz S q):=by unfold xz;exact .ite (.same rfl) (.same rfl)
theorem aBj(p op k n:Int)(l:List ax)(S:bt):mX S (gV p op k n l S):=by
 unfold gV
 repeat' (first|exact mX.same rfl|exact aBi _ _|exact List.prefix_append _ _|refine mX.ite ?_ ?_)
theorem aBk(ms:dn)(v x:ax)(aM:Nat)(S:bt):mX S (hH ms v x aM S):=by
 unfold hH
 repeat' (first|exact mX.same rfl|refine mX.ite ?_ ?_)
theorem aBl(eU:List Int)(v:ax)(S:bt):mX S (lQ eU v S):=by unfold lQ;exact .ite (.same rfl) (.same rfl)
theorem al2{f:bC->bt->bt×ax×Int}(bo:∀x S,mX S (f x S)):∀(l:List bC) (S:bt) (acc:List ax),mX S (jd f l S acc)
 |[],S,acc=>.same rfl
 |x::l,S,acc=>by rw[alf];exact(bo x S).bind λT v=>al2 bo l T _
theorem al3(ms:dn):∀(N:Nat) (p:Int) (x:bC) (arg:ax) (names:List ax) (aM:Nat) (S:bt),mX S (dp ms N p x arg names aM S)
 |0,p,x,arg,names,aM,S=>.same rfl
 |N+1,p,x,arg,names,aM,S=>by
   have aR:=al3 ms N;have Iv:∀{q:bt×ax×Int},mX S.tick q->mX S q:=λh=>h;rw[alg];refine .ite (.same rfl) (Iv ?_);cases jL p x arg names S.tick with
   |some v=>exact .same rfl
   |none=>refine .ite ((aR _ _ _ _ _ _).bind λT v=>aR _ _ _ _ _ _) (.ite ((aR _ _ _ _ _ _).bind λT v=>.ite (.same rfl) (.ite (aR _ _ _ _ _ _) (aR _ _ _ _ _ _))) ?_);refine(al2 (λy S=>aR _ _ _ _ _ _) _ _ _).bind λT l=>.ite (.ite (.same rfl) (aR _ _ _ _ _ _)) (.ite ?_ (aBj _ _ _ _ _ _));exact(aBk _ _ _ _ _).bind λT q=>(aR _ _ _ _ _ _).bind λT v=>aBl _ _ _
theorem aBm{ms:dn}{S:bt}{p f fuel:Int}{v:ax}:S.log<+:(eu ms p f v fuel S).1.log:=by
 unfold eu;split
 ·exact List.prefix_refl _
 ·split
  ·exact List.prefix_refl _
  ·split
   ·exact List.prefix_refl _
   ·have h:=al3 ms fuel.toNat p (gK ms p f) v [] 1 {S with left:=fuel.toNat};generalize dp ms fuel.toNat p (gK ms p f) v [] 1 {S with left:=fuel.toNat}=q at h;obtain⟨b0,w,c⟩:=q;exact h
theorem al4{H:dh}{p n c:Int}:(H.jD p n c).1.S.log=H.S.log:=by unfold dh.jD;split<;>rfl
theorem aBn(H:dh)(x:fp):H.S.log<+:(H.step x).1.S.log:=by
 have same:∀{l:List lP},l=H.S.log->H.S.log<+:l:=λh=>by rw[h];exact List.prefix_refl _
 unfold dh.step;split
 ·unfold dh.load;split
  ·exact same rfl
  ·split<;>exact same rfl
 ·split
  ·split
   ·exact same rfl
   ·split
    ·exact same al4
    ·exact same al4
  ·split
   ·unfold dh.call;split
    ·exact same rfl
    ·have:=aBm (ms:=H.ms) (S:=H.S) (p:=x.p) (f:=x.k) (fuel:=2000) (v:=if 0<=x.h then(H.hand x.p).getD x.h.toNat ce else kG x.n);generalize eu H.ms x.p x.k (if 0<=x.h then(H.hand x.p).getD x.h.toNat ce else kG x.n) 2000 H.S=q at this;obtain⟨b0,v,n,c⟩:=q;exact this
   ·split
    ·exact same rfl
    ·split<;>exact same rfl
abbrev yt(b ad:Nat)(W:eE):cc:=oa b ad W.jE W.bX W.code W.at_ W.n
theorem al5(W:eE)(y:lP):(W.ke y).jE=W.jE/\(W.ke y).bX=W.bX/\(W.ke y).n=W.n/\(W.ke y).H=W.H:=by unfold eE.ke;split<;>exact⟨rfl,rfl,rfl,rfl⟩
theorem OB:∀(l:List lP) (W:eE),(l.foldl eE.ke W).jE=W.jE/\(l.foldl eE.ke W).bX=W.bX/\(l.foldl eE.ke W).n=W.n/\(l.foldl eE.ke W).H=W.H
 |[],W=>⟨rfl,rfl,rfl,rfl⟩
 |y::l,W=>by obtain⟨aP,a2,bl,cr⟩:=al5 W y;obtain⟨cg,c0,fq,l5⟩:=OB l (W.ke y);exact⟨cg.trans aP,c0.trans a2,fq.trans bl,l5.trans cr⟩
section
variable{h E ak:ai}{ah al aO aL:Nat->Prop}{L:List cc}{b ad:Nat}
theorem aBo{i:Nat}(it:i<L.length){eD:F}{es:List lP}(Z:gB iw eD (es.map hc))(wB:es.length<=1000000):∀(r pre:List lP) (E:ai) (W:eE) (cI b6 eY dL b4 cz c7 dz gy g5:F),es=pre++r->W.jE.length<=200->W.bX.length<=200->aN ak aO aL E (L.set i (yt b ad W))->∃cP iA jS w6,(∀K,bB (aU aq aa) 14 (.eM Ds::.bP []::.cu 0::K) [.ptr b 0 0,cI,b6,eY,dL,b4,cz,c7,dz,eD,.int j (es.length:Int),.int j (pre.length:Int),gy,g5] [] E=bB (aU aq aa) 14 K [.ptr b 0 0,cI,b6,eY,dL,b4,cz,iA,dz,eD,.int j (es.length:Int),jS,.bool U,w6] [] cP)/\aN ak aO aL cP (L.set i (yt b ad (r.foldl eE.ke W))):=by
 intro r;induction r with
 |nil=>intro pre E W cI b6 eY dL b4 cz c7 dz gy g5 e a5 am s;have d1:decide ((pre.length:Int)<(es.length:Int))=U:=decide_eq_false (by rw[e];simp);refine⟨E,c7,.int j (pre.length:Int),g5,λK=>?_,s⟩;rw[cy Ds.eq_1];simp only[ao,ar,av,ap,b2,d1]
 |cons y r aR=>
   intro pre E W cI b6 eY dL b4 cz c7 dz gy g5 e a5 am s;have iS:pre.length<es.length:=by rw[e];simp
   have d1:decide ((pre.length:Int)<(es.length:Int))=J:=decide_eq_true (by omega);have bJ:=Z.bJ j pre.length (hc y) (by rw[e];simp);have cx:=ew (n:=(pre.length:Int)+1) (by omega) (by omega);have ev:((pre++[y]).length:Int)=(pre.length:Int)+1:=by simp
   have gQ:fZ J 4 (hc y) 0=o (.agg (hc y)):=gA rfl;have bd:=s.push [hc y];have af:(a1 E.n [hc y]::L.set i (yt b ad W))[i+1]? =o (yt b ad W):=by rw[sz,List.getElem?_set_self it]
   have Bo:=Ji bd (i+1) af a5 am y.bu y.cell y.right;obtain⟨cT,bn,kv⟩:=Dt bd (i+1) af;have ll:∀z,(E.push z).cell E.n=o z:=λz=>hb;have e7:∀y z,(E.push y).set E.n (o z)=E.push z:=λy z=>nA;have f3:cd 3 (.ptr b 0 0)=o (.ptr b 0 3):=rfl;have V9:cd 0 (.ptr b 0 3)=o (.ptr b 0 3):=rfl;have f5:cd 5 (.ptr b 0 0)=o (.ptr b 0 5):=rfl;have OC:=kv.c;obtain⟨ei,fd,ha,_⟩:=al5 W y;have go:∀(bA:ai) (w6:F),aN ak aO aL bA (L.set i (yt b ad (W.ke y)))->∃cP iA jS zZ,(∀K,bB (aU aq aa) 14 (.eM Ds::.bP []::.cu 0::K) [.ptr b 0 0,cI,b6,eY,dL,b4,cz,.ptr E.n 0 0,dz,eD,.int j (es.length:Int),.int j ((pre.length:Int)+1),.bool J,w6] [] bA=bB (aU aq aa) 14 K [.ptr b 0 0,cI,b6,eY,dL,b4,cz,iA,dz,eD,.int j (es.length:Int),jS,.bool U,zZ] [] cP)/\aN ak aO aL cP (L.set i (yt b ad ((y::r).foldl eE.ke W))):=λbA w6 aBp=>by obtain⟨cP,iA,jS,zZ,bx,aY⟩:=aR (pre++[y]) bA (W.ke y) cI b6 eY dL b4 cz (.ptr E.n 0 0) dz (.bool J) w6 (by simp[e]) (by rw[ei];exact a5) (by rw[fd];exact am) aBp;exact⟨cP,iA,jS,zZ,λK=>by rw[<-bx K,ev],aY⟩
   simp only[hc]at bJ gQ Bo OC;by_cases an:W.code=0
   ·have w3:decide (W.code=0)=J:=decide_eq_true an;cases hm:vN W.jE W.bX y.bu y.cell y.right with
    |true=>
      rw[hm]at Bo;have aC:W.ke y=W:=by unfold eE.ke;rw[if_neg (by simp[hm])]
      obtain⟨cP,iA,jS,zZ,bx,aY⟩:=go (E.push [hc y]) (.bool U) (by rw[aC];exact bd.drop);refine⟨cP,iA,jS,zZ,λK=>?_,aY⟩;rw[<-bx K];simp only[hc]
      conv=>lhs;rw[cy Ds.eq_1]
      simp only[ao,ar,av,ap,bY,b2,d1,bJ,gQ,ll,e7,f3,V9,OC,w3,Bo,cx]
    |false=>
      rw[hm]at Bo;have aC:W.ke y={W with code:=14,at_:=W.n}:=by unfold eE.ke;rw[if_pos ⟨an,hm⟩]
      have bs:=alZ bd (i+1) af 14 W.n W.n (row:=[]) kv;have bs:aN ak aO aL _ (a1 E.n [hc y]::(L.set i (yt b ad W)).set i (oa b ad W.jE W.bX 14 W.n W.n)):=bs;rw[List.set_set]at bs;obtain⟨cP,iA,jS,zZ,bx,aY⟩:=go _ (.bool J) (by rw[aC];exact bs.drop);refine⟨cP,iA,jS,zZ,λK=>?_,aY⟩;rw[<-bx K];simp only[hc]
      conv=>lhs;rw[cy Ds.eq_1]
      simp only[ao,ar,av,ap,bY,b2,d1,bJ,gQ,ll,e7,f3,V9,f5,OC,w3,Bo,cx]
   ·have w3:decide (W.code=0)=U:=decide_eq_false an;have aC:W.ke y=W:=by unfold eE.ke;rw[if_neg (λh=>an h.1)]
    obtain⟨cP,iA,jS,zZ,bx,aY⟩:=go (E.push [hc y]) (.bool U) (by rw[aC];exact bd.drop);refine⟨cP,iA,jS,zZ,λK=>?_,aY⟩;rw[<-bx K];simp only[hc]
    conv=>lhs;rw[cy Ds.eq_1]
    simp only[ao,ar,av,ap,bY,b2,d1,bJ,gQ,ll,e7,f3,V9,OC,w3,cx]
end
section
variable{h E ak:ai}{ah al aO aL:Nat->Prop}{A B:List cc}{c:Bn}{W:eE}
abbrev V'(fY:Nat)(y:fp)(m:F)(c:Bn)(W:eE):List cc:=[a1 (fY+1+1) [[.int j 0,.int j 0]],a1 (fY+1) [c3 0 0 a3],a1 fY [cU y m]]++ob c W
structure aBq(h:ai)(c:Bn):Prop where
 w:cR U 1 h (.ptr c.wt 0 0)=o (.ptr c.ad 0 0)
 b:cR U 1 h (.ptr c.ad 0 0)=o (.ptr c.a0 0 0)
 d:cR U 1 h (.ptr c.a0 0 1)=o (.ptr c.cG 0 0)
 g:cR U 1 h (.ptr c.a0 0 0)=o (.ptr c.cE 0 0)
theorem OD(s:aN ak aO aL h B)(i:Nat)(O:kK W.H)(I:B[i]? =o (yt c.wt c.ad W))(R:B[i+1]? =o (nm c.ad c.a0 W.H.a7))(aj:B[i+1+1]? =o (ix c.a0 c.cE c.cG W.H.ms W.H.S.kept)):aBq h c:=by obtain⟨cT,bn,kv⟩:=Dt s i I;obtain⟨bI,Z⟩:=yg s (i+1) R;have Ja:=Ib s aj O.len;exact⟨by rw[gb,kv.c];rfl,Z.box 1,Ja.2 1,Ja.1 1⟩
theorem w7.step{k:Nat}(O:w7 k W)(x:fp):w7 (k+1) (W.step x).1:=by
 have aA:∀vO:eE,(vO.note x).jE.length<=vO.jE.length+1/\(vO.note x).bX.length<=vO.bX.length+1/\(vO.note x).n=vO.n/\(vO.note x).H=vO.H:=λvO=>by
  unfold eE.note;split
  ·exact⟨by simp,by simp,rfl,rfl⟩
  ·split
   ·exact⟨by simp,by simp,rfl,rfl⟩
   ·exact⟨by omega,by omega,rfl,rfl⟩
 have R:∀mc:eE,mc.jE.length<=k+1->mc.bX.length<=k+1->mc.n=(k:Int)->yr (k+1) mc.H->∀l:List lP,w7 (k+1) {(l.foldl eE.ke mc)with n:=(l.foldl eE.ke mc).n+1}:=λmc aP a2 bl cr l=>by obtain⟨cg,c0,fq,l5⟩:=OB l mc;exact⟨by rw[l5];exact cr,by rw[cg];exact aP,by rw[c0];exact a2,by show(l.foldl eE.ke mc).n+1=_;rw[fq,bl];omega⟩
 unfold eE.step;simp only;have bz:=O.h.step x;have A4:=O.g;have yk:=O.l;obtain⟨aW,bD,cl,eg⟩:=aA {W with H:=(W.H.step x).1};refine R _ ?_ ?_ ?_ ?_ _
 ·split
  ·exact e6 aW (Nat.succ_le_succ A4)
  ·exact e6 A4 (Nat.le_succ _)
 ·split
  ·exact e6 bD (Nat.succ_le_succ yk)
  ·exact e6 yk (Nat.le_succ _)
 ·split
  ·rw[cl];exact O.n
  ·exact O.n
 ·split
  ·rw[eg];exact bz
  ·exact bz
theorem aBr{k:Nat}(x:(cm (ob c W)).A h ah al)(O:w7 k W)(ab:k<=190)(y:fp){m:F}(da:e9 gp m es)(eS:g3 y.m es)(c1:y.m.length<=100000)(aC:∀x∈y.m,x.size<=100000):∃E,(∃r,aU aq aa 36 [.ptr c.wt 0 0,.agg (cU y m)] h=o (.inl (.bS [.agg r,.agg [.int j (W.step y).2.2.1,.int j (W.step y).2.2.2]]),E)/\jR (W.step y).2.1 r)/\gJ h ah al E (cm (ob c (W.step y).1)):=by
 have fB:aN h ah al h (ob c W):=aN.start x;have bd:=fB.push [cU y m];have aY:=bd.push [c3 0 0 a3];have bs:aN h ah al _ (V' h.n y m c W):=aY.push [[.int j 0,.int j 0]];have hm:m.one=J:=(iW.of (h:=h) da eS).one;have Wa:=O.h.ok (by omega);have cl:=(bs.cell 2 rfl).1;have iu:=OD bs 3 Wa rfl rfl rfl;have t3:=(aln (c:=c.tovC) bs 4 Wa rfl rfl rfl rfl).iP;have FG:∀b,cd 0 (.ptr b 0 0)=o (.ptr b 0 0):=λ_=>rfl;have bp:cd 1 (.ptr c.a0 0 0)=o (.ptr c.a0 0 1):=rfl;have f5:cd 5 (.ptr c.wt 0 0)=o (.ptr c.wt 0 5):=rfl;have f3:cd 3 (.ptr c.wt 0 0)=o (.ptr c.wt 0 3):=rfl;have OE:=uY iw (W.H.S.log.map hc);obtain⟨aH,ik,b1,dL,bE⟩:=aAH (A:=[a1 (h.n+1+1) [[.int j 0,.int j 0]],a1 (h.n+1) [c3 0 0 a3],a1 h.n [cU y m],yt c.wt c.ad W]) (B:=[]) (c:=c.tovC) bs Wa y da eS c1 aC;have bE:aN h ah al aH (V' h.n y m c {W with H:=(W.H.step y).1}):=bE;have e8:=(O.h.step y).ok (by omega);have b3:=bE.push [c3 0 0 a3];have c2:=bE.push [ik];have sC:=OD b3 4 e8 rfl rfl rfl;have fV:=(b3.cell 3 rfl).1;have h9:=(c2.cell 3 rfl).1;have aEu:=(c2.cell 0 rfl).1;obtain⟨ei,fd⟩:=dL.all;have ll:∀z,(aH.push z).cell aH.n=o z:=λz=>hb;have e7:∀y z,(aH.push y).set aH.n (o z)=aH.push z:=λy z=>nA;have gQ:fZ J 9 (cU y m) 0=o (.agg (cU y m)):=gA rfl;obtain⟨ext,Wb⟩:=aBn W.H y;obtain⟨de,j3,eW⟩:∃de,((W.H.step y).2.code=0->aU aq aa 70 [.ptr c.wt 0 0,.agg (cU y m)] (aH.push [ik])=o (.inl (.bS []),de))/\((W.H.step y).2.code≠0->de=aH.push [ik])/\aN h ah al de (a1 aH.n [ik]::V' h.n y m c (if(W.H.step y).2.code=0 then({W with H:=(W.H.step y).1}:eE).note y else{W with H:=(W.H.step y).1})):=by
  by_cases aB:(W.H.step y).2.code=0
  ·have A4:=O.g;have yk:=O.l;obtain⟨de,j3,eW⟩:=aBh c2 4 rfl (by show W.jE.length<=1000;omega) (by show W.bX.length<=1000;omega) y hm;refine⟨de,λ_=>j3,λh=>absurd aB h,?_⟩;rw[if_pos aB];have UL:({W with H:=(W.H.step y).1}:eE).note y={W with H:=(W.H.step y).1,jE:=if y.kind=2 then W.jE++[⟨y.p,y.k,y.r⟩]else W.jE,bX:=if y.kind=2 then W.bX else if y.kind=3 then W.bX++[(y.p,y.q)]else W.bX}:=by
    unfold eE.note;by_cases cA:y.kind=2
    ·simp only[if_pos cA]
    ·simp only[if_neg cA];by_cases dK:y.kind=3
     ·simp only[if_pos dK]
     ·simp only[if_neg dK]
   rw[UL];exact eW
  ·refine⟨aH.push [ik],λh=>absurd h aB,λ_=>rfl,?_⟩;rw[if_neg aB];exact c2
 obtain⟨aBs,eW⟩:=eW;have al6:W.step y=({(((W.H.step y).1.S.log.drop W.H.S.log.length).foldl eE.ke (if(W.H.step y).2.code=0 then({W with H:=(W.H.step y).1}:eE).note y else{W with H:=(W.H.step y).1}))with n:=(((W.H.step y).1.S.log.drop W.H.S.log.length).foldl eE.ke (if(W.H.step y).2.code=0 then({W with H:=(W.H.step y).1}:eE).note y else{W with H:=(W.H.step y).1})).n+1},(W.H.step y).2,(((W.H.step y).1.S.log.drop W.H.S.log.length).foldl eE.ke (if(W.H.step y).2.code=0 then({W with H:=(W.H.step y).1}:eE).note y else{W with H:=(W.H.step y).1})).code,(((W.H.step y).1.S.log.drop W.H.S.log.length).foldl eE.ke (if(W.H.step y).2.code=0 then({W with H:=(W.H.step y).1}:eE).note y else{W with H:=(W.H.step y).1})).at_):=rfl;have al7:(if(W.H.step y).2.code=0 then({W with H:=(W.H.step y).1}:eE).note y else{W with H:=(W.H.step y).1}).H=(W.H.step y).1/\(if(W.H.step y).2.code=0 then({W with H:=(W.H.step y).1}:eE).note y else{W with H:=(W.H.step y).1}).jE.length<=200/\(if(W.H.step y).2.code=0 then({W with H:=(W.H.step y).1}:eE).note y else{W with H:=(W.H.step y).1}).bX.length<=200:=by
  have A4:=O.g;have yk:=O.l;split
  ·unfold eE.note;split
   ·exact⟨rfl,by simp;omega,by show W.bX.length<=200;omega⟩
   ·split
    ·exact⟨rfl,by show W.jE.length<=200;omega,by simp;omega⟩
    ·exact⟨rfl,by show W.jE.length<=200;omega,by show W.bX.length<=200;omega⟩
  ·exact⟨rfl,by show W.jE.length<=200;omega,by show W.bX.length<=200;omega⟩
 have al8:(if(W.H.step y).2.code=0 then({W with H:=(W.H.step y).1}:eE).note y else{W with H:=(W.H.step y).1}).n=W.n:=by
  split
  ·unfold eE.note;split
   ·rfl
   ·split<;>rfl
  ·rfl
 generalize (if(W.H.step y).2.code=0 then({W with H:=(W.H.step y).1}:eE).note y else{W with H:=(W.H.step y).1})=mc at eW al6 al7 al8;obtain⟨mQ,lq,uI⟩:=al7;have Wc:aN h ah al de ([a1 aH.n [ik],a1 (h.n+1+1) [[.int j 0,.int j 0]],a1 (h.n+1) [c3 0 0 a3],a1 h.n [cU y m]]++ob c mc):=eW;have m4:kK mc.H:=by rw[mQ];exact e8
 have hx:=OD Wc 4 m4 rfl rfl rfl;have t7:=(aln (c:=c.tovC) Wc 5 m4 rfl rfl rfl rfl).iP;rw[mQ]at t7;have al9:=uY iw ((W.H.step y).1.S.log.map hc);obtain⟨eD,jw,hD⟩:=aBb (e:=iw) (rows:=(W.H.step y).1.S.log.map hc) (k:=W.H.S.log.length) (by rw[<-Wb];simp);rw[<-List.map_drop]at hD;have uR:((W.H.step y).1.S.log.drop W.H.S.log.length).length<=1000000:=by have:=e8.log;rw[List.length_drop];omega
 obtain⟨hu,iA,jS,w6,hk,hP⟩:=aBo (L:=[a1 aH.n [ik],a1 (h.n+1+1) [[.int j 0,.int j 0]],a1 (h.n+1) [c3 0 0 a3],a1 h.n [cU y m]]++ob c mc) (i:=4) (b:=c.wt) (ad:=c.ad) (show 4<9 by decide) hD uR ((W.H.step y).1.S.log.drop W.H.S.log.length) [] de mc (.agg (cU y m)) (.ptr h.n 0 0) (.ptr (h.n+1) 0 0) (.ptr (h.n+1+1) 0 0) (.int j (W.H.S.log.length:Int)) (.ptr aH.n 0 0) .aD (.bool (decide ((W.H.step y).2.code=0))) .aD .aD rfl lq uI Wc;have hP:aN h ah al hu ([a1 aH.n [ik],a1 (h.n+1+1) [[.int j 0,.int j 0]],a1 (h.n+1) [c3 0 0 a3],a1 h.n [cU y m],yt c.wt c.ad (((W.H.step y).1.S.log.drop W.H.S.log.length).foldl eE.ke mc)]++nN c.tovC mc.H):=hP;obtain⟨cg,c0,fq,l5⟩:=OB ((W.H.step y).1.S.log.drop W.H.S.log.length) mc;rw[al6];generalize ((W.H.step y).1.S.log.drop W.H.S.log.length).foldl eE.ke mc=rr at hP cg c0 fq l5 ⊢;obtain⟨cT,bn,kv⟩:=Dt hP 4 rfl;have aEv:rr.n=(k:Int):=by rw[fq,al8,O.n]
 have cx:=ew (n:=rr.n+1) (by omega) (by omega);have kc:=alZ hP 4 rfl rr.code rr.at_ (rr.n+1) (row:=[]) kv;have kc:aN h ah al _ ([a1 aH.n [ik],a1 (h.n+1+1) [[.int j 0,.int j 0]],a1 (h.n+1) [c3 0 0 a3],a1 h.n [cU y m],oa c.wt c.ad rr.jE rr.bX rr.code rr.at_ (rr.n+1)]++nN c.tovC mc.H):=kc;have al':=(kc.cell 0 rfl).1;have ama:=(kc.cell 2 rfl).1;have vz:=kc.set 2 rfl [ik];have UA:=(vz.cell 1 rfl).1;obtain⟨Bh,aEw,aBt⟩:=Dt vz 4 rfl;have amb:=aBt.c;have vA:=vz.set 1 rfl [[.int j rr.code,.int j rr.at_]];have amc:=(vA.cell 2 rfl).1;have vf:∀cT bn n,fZ J 2 [.ptr c.ad 0 0,cT,bn,.int j rr.code,.int j rr.at_,.int j n] 3=o (.agg [.int j rr.code,.int j rr.at_]):=λ_ _ _=>rfl;have sj:fZ J 5 ik 0=o (.agg ik):=gA ei;obtain⟨ahT,amd,Wd⟩:=dL;have Dc:=vA.drop.drop.drop.drop;rw[<-l5]at Dc;refine⟨_,⟨ik,?_,⟨ahT,amd,Wd⟩⟩,Dc⟩;have A0:ik[0]? =o (.int j (W.H.step y).2.code):=by rw[amd];rfl
 have ame:=kv.c;simp only[fG,j']at hk;obtain⟨We,Wf,Wg,_⟩:=iu;obtain⟨amf,aEx,aEy,_⟩:=sC;obtain⟨amg,amh,ami,_⟩:=hx;simp only[cU]at cl We Wf Wg t3 b1 fV h9 gQ j3 hk;cases iY:decide ((W.H.step y).2.code=0)with
 |true=>have j3:=j3 (of_decide_eq_true iY);rw[iY]at hk;refine a4 alG rfl ?_;unfold VX;simp only[ao,ar,av,ap,bN,cU,hm,FG,bp,We,Wf,Wg,t3,OE.len,OE.fits,fM,cl,gQ,b1,ll,e7,amf,fV,ei,fd,h9,A0,iY,j3,amg,amh,ami,t7,al9.fits,jw,hD.len,hD.fits];rw[hk];simp only[ao,ar,f3,f5,ame,cx,al',ama,sj,vf,ei,fd,UA,amb,amc]
 |false=>have j3:=aBs (of_decide_eq_false iY);rw[iY]at hk;subst j3;refine a4 alG rfl ?_;unfold VX;simp only[ao,ar,av,ap,bN,cU,hm,FG,bp,We,Wf,Wg,t3,OE.len,OE.fits,fM,cl,gQ,b1,ll,e7,amf,fV,ei,fd,h9,A0,iY,amg,amh,ami,t7,al9.fits,jw,hD.len,hD.fits];rw[hk];simp only[ao,ar,f3,f5,ame,cx,al',ama,sj,vf,ei,fd,UA,amb,amc]
end
theorem OF:w7 0 rp:=⟨alj,by simp[rp],by simp[rp],rfl⟩
theorem Wh(W:eE)(x:fp):(W.step x).1.H=(W.H.step x).1/\(W.step x).2.1=(W.H.step x).2:=by
 unfold eE.step;refine⟨?_,rfl⟩;simp only;rw[(OB _ _).2.2.2];split
 ·unfold eE.note;split
  ·rfl
  ·split<;>rfl
 ·rfl
def Wi:fp:=⟨2,1,0,3,0,1, -1,0,[]⟩
def Jn:eE:=(rp.step Wi).1
theorem amj:Jn.jE=[⟨1,3,1⟩]/\Jn.bX=[]:=by constructor<;>rfl
theorem aBu:vN [⟨1,3,1⟩] [] 1 3 1=J:=by decide
theorem aBv:vN [⟨1,3,1⟩] [] 1 3 2=U:=by decide
theorem aBw:vN [⟨1,3,1⟩] [] 0 3 1=U:=by decide
theorem aBx:Jn.H.VQ 1=[ge 0]:=by rfl
section
variable{h E ak:ai}{ah al aO aL:Nat->Prop}{L A B:List cc}{c:Bn}{W:eE}
theorem OG{e:a9}:(gc e .aJ []).A h (λ_=>False) (λ_=>False):=.inl ⟨⟨rfl,rfl⟩,λ_ h=>h,λ_ h=>h⟩
theorem aBy{b ad:Nat}(he:b=h.n):(oa b ad [] [] 0 0 0).A (h.push [[.ptr ad 0 0,.aJ,.aJ,.int j 0,.int j 0,.int j 0]]) (λk=>k=b) (λ_=>False):=by subst he;refine⟨(.aJ,.aJ),λk=>k=h.n,λ_=>False,λ_=>False,λ_=>False,⟨λ_=>n0,λ_ h=>h,sR _,hb⟩,⟨λ_=>False,λ_=>False,λ_=>False,λ_=>False,OG,OG,λk=>by simp,λD=>by simp,λ_ h=>h.elim,λ_ h=>h.elim⟩,λk=>by simp,λD=>by simp,λ_ _ h=>h,λ_ h=>h.elim⟩
theorem Wj(s:aN ak aO aL h L):∃E c,aU aq aa 35 [] h=o (.inl (.ptr (c:Bn).wt 0 0),E)/\aN ak aO aL E (ob c rp++L):=by obtain⟨I,c,aw,bd⟩:=aAy s;have aY:=bd.add (X:=oa I.n c.ad [] [] 0 0 0) (E:=I.push [[.ptr c.ad 0 0,.aJ,.aJ,.int j 0,.int j 0,.int j 0]]) (eJ:=λk=>k=I.n) (eK:=λ_=>False) (aG.push _ _) (aBy rfl) (λk ab=>qU ab.symm) (λ_ h=>h.elim);refine⟨_,⟨c,I.n⟩,?_,aY⟩;refine a4 aAR rfl ?_;unfold alo;simp only[ao,ar,av,ap,bY,aw]
theorem Wk{k:Nat}(s:aN ak aO aL h (A++ob c W++B))(O:w7 k W)(ab:k<=190)(y:fp){m:F}(da:e9 gp m es)(eS:g3 y.m es)(c1:y.m.length<=100000)(aC:∀x∈y.m,x.size<=100000):∃E r,aU aq aa 36 [.ptr c.wt 0 0,.agg (cU y m)] h=o (.inl (.bS [.agg r,.agg [.int j (W.step y).2.2.1,.int j (W.step y).2.2.2]]),E)/\jR (W.step y).2.1 r/\aN ak aO aL E (A++ob c (W.step y).1++B):=by obtain⟨E,⟨r,e,v⟩,ek⟩:=s.wX (rh:=ob c (W.step y).1) λah al x=>aBr x O ab y da eS c1 aC;exact⟨E,r,e,v,ek⟩
theorem amk{y:List (List F)}{z:Option (List (List F))}(ae:D<h.n):(h.push y).set D z=(h.set D z).push y:=by
 unfold ai.push ai.set;congr 1;funext k;by_cases I:k=D
 ·subst I;have R:k≠h.n:=by omega
  simp[R]
 ·simp[I]
theorem aBz:aU aq aa 31 [] h=o (.inl (.bool J),h):=by
 have fB:aN h (λ_=>False) (λ_=>False) h []:=aN.start (cm.nil _ _ _ (λ_ h=>h) (λ_ h=>h));obtain⟨I,c,aw,bd⟩:=Wj fB;obtain⟨aj,gE,be,eY,bs⟩:=Wk (A:=[]) (B:=[]) (c:=c) bd OF (by decide) Wi (m:=.aJ) (.inl ⟨rfl,rfl⟩) rfl (by decide) (λx aF=>by cases aF);obtain⟨da,rfl,iz⟩:=eY;have aBA:bZ (ge 0) da:=iz;obtain⟨Al,rfl,aBB⟩:=aBA.i7;have be:aU aq aa 36 [.ptr c.wt 0 0,.agg [.int j 2,.int j 1,.int j 0,.int j 3,.int j 0,.int j 1,.int j (-1),.int j 0,.aJ]] I=o (.inl (.bS [.agg [.int j 0,.int j 0,.int j 4,.int j 0,Al],.agg [.int j 0,.int j 0]]),aj):=be;have bE:aN h (λ_=>False) (λ_=>False) aj (ob c Jn):=bs;have b3:=(bE.push [[.int j 0,.int j 0,.int j 4,.int j 0,Al]]).push [[.int j 0,.int j 0]];have bz:w7 1 Jn:=OF.step Wi;have cO:=Ji b3 2 rfl (by decide) (by decide) 1 3 1;have c8:=Ji b3 2 rfl (by decide) (by decide) 1 3 2;have hK:=Ji b3 2 rfl (by decide) (by decide) 0 3 1;rw[amj.1,amj.2]at cO c8 hK;rw[aBu]at cO;rw[aBv]at c8;rw[aBw]at hK;have cB:=(b3.cell 0 rfl).1;have aW:=(b3.cell 1 rfl).1;obtain⟨Z,kT,qE,lC,xW⟩:=aAB b3 3 rfl bz.h.cY.a7 (λl am=>by have:=bz.h.a7 l am;omega) 1;rw[aBx]at xW;have hlen:kT.length=1:=xW.len;have sF:=lC.dH.len;have vf:=lC.dH.fits;rw[hlen]at sF;have aBC:=OD b3 2 (bz.h.ok (by decide)) rfl rfl rfl;have aBD:=aBC.w;have FG:∀b,cd 0 (.ptr b 0 0)=o (.ptr b 0 0):=λ_=>rfl;have en:∀x y,(aj.push x).push y=(aj.push x).push y:=λ_ _=>rfl;have bR:∀x y z,(((aj.push x).push y).set aj.n (o z))=(aj.push z).push y:=λx y z=>by rw[amk (sR _),nA]
 have bQ:∀x y z,(((aj.push x).push y).set (aj.n+1) (o z))=(aj.push x).push z:=λx y z=>nA (h:=aj.push x);have aBE:∀x y,((aj.push x).push y).cell aj.n=o x:=λx y=>o9;have eS:∀x y,((aj.push x).push y).cell (aj.n+1)=o y:=λx y=>uZ;have pE:=b3.UP;clear bd bs bE b3;refine a4 aA0 rfl ?_;unfold alQ;simp only[ao,ar,av,ap,bY,bN,aw,be,bR,bQ,aBE,eS,aBB,cO,c8,hK,FG,aBD,qE,sF,vf,Int.natCast_one,eq_self];exact dE pE rfl
end
theorem aBF:(aq).underlying 72=o (.slice 82):=by kernel_rfl
theorem aBG:G6 aq 82=o [3,3,3,3,3,3,3,2,80]:=by kernel_rfl
theorem aBH:(aq).underlying 2=o (.int j):=by kernel_rfl
theorem aBI{α:Type}{l:List α}(h:l.length=9):∃a b c d e f g i D,l=[a,b,c,d,e,f,g,i,D]:=by
 match l,h with
 |[a,b,c,d,e,f,g,i,D],_=>exact⟨a,b,c,d,e,f,g,i,D,rfl⟩
theorem aBJ{n:Nat}{r:List F}(h:n1 aq n 82 r):∃(x:fp) (m:F) (ms:List (List F)),r=cU x m/\e9 gp m ms/\g3 x.m ms:=by obtain⟨c8,rfl,parts,rfl,am,bo⟩:=R2 aBG h;obtain⟨en,jI,_,iy⟩:=bo 0 _ rfl;obtain⟨dB,aP,_,cg⟩:=bo 1 _ rfl;obtain⟨gm,a2,_,c0⟩:=bo 2 _ rfl;obtain⟨iu,bl,_,fq⟩:=bo 3 _ rfl;obtain⟨kj,cr,_,l5⟩:=bo 4 _ rfl;obtain⟨sC,ej,_,iV⟩:=bo 5 _ rfl;obtain⟨hZ,jB,_,lg⟩:=bo 6 _ rfl;obtain⟨hx,u9,_,kb⟩:=bo 7 _ rfl;obtain⟨DT,wz,_,Un⟩:=bo 8 _ rfl;obtain⟨qx,rfl,_⟩:=wC De iy;obtain⟨ei,rfl,_⟩:=wC De cg;obtain⟨fd,rfl,_⟩:=wC De c0;obtain⟨ha,rfl,_⟩:=wC De fq;obtain⟨l4,rfl,_⟩:=wC De l5;obtain⟨j8,rfl,_⟩:=wC De iV;obtain⟨n7,rfl,_⟩:=wC De lg;obtain⟨Dn,rfl,_⟩:=wC aBH kb;obtain⟨M,v,es,rfl,Z,kJ⟩:=atq Un;obtain⟨cB,aW,bD,cl,eg,fV,h9,jQ,aw1,rfl⟩:=aBI am;obtain rfl:=k9 jI;obtain rfl:=k9 aP;obtain rfl:=k9 a2;obtain rfl:=k9 bl;obtain rfl:=k9 cr;obtain rfl:=k9 ej;obtain rfl:=k9 jB;obtain rfl:=k9 u9;obtain rfl:=k9 wz;exact⟨⟨qx,ei,fd,ha,l4,j8,n7,Dn,M⟩,v,es,by simp only[List.flatten_cons,List.flatten_nil,ou,nz,l3];rfl,Z,kJ⟩
theorem aml:∀{es:List (List F)},(∀r∈es,∃(x:fp) (m:F) (ms:List (List F)),r=cU x m/\e9 gp m ms/\g3 x.m ms)->∃xs,mV xs es
 |[],_=>⟨[],rfl⟩
 |r::es,h=>by obtain⟨x,m,ms,rfl,I,R⟩:=h r (by simp);obtain⟨xs,aF⟩:=aml λq aX=>h q (List.mem_cons_of_mem _ aX);exact⟨x::xs,m,ms,es,rfl,I,R,aF⟩
theorem aBK{n:Nat}{AJ:F}(h:n1 aq n 72 [AJ]):∃(es:List (List F)) (xs:List fp),e9 vM AJ es/\mV xs es/\xs.length<=9223372036854775807:=by
 obtain⟨m,v,es,rfl,e,Z,hlen,au⟩:=R1 aBF h;obtain rfl:AJ=v:=by simpa using e
 obtain⟨xs,aF⟩:=aml (es:=es) λr hR=>aBJ (au r hR).2;refine⟨es,xs,Z.EA,aF,?_⟩;rw[<-aF.len];unfold maxLen at hlen;omega
def amm:List a9:=[3,2,109,78,80,82,72]
theorem aBL:RY aq amm=J:=by kernel_rfl
structure rt(eF:Int->Prop)(A:aI->Int->Int->Prop)(bK:aI->Prop):Prop where
 pos:∀p,eF p->0<=p
 wf:∀G,bK G->G.dg
 has:∀G p n,bK G->A G p n->G.has n=J
 mono:∀G b7 p n,bK G->bK b7->G.fo b7->A G p n->A b7 p n
 gate:∀G,bK G->bK G.gate.1
 cut:∀G k,bK G->bK (G.cut k).1
 inv:∀G n r g,bK G->bK (G.derive n r g).1
 Wl:∀G p n r g,eF p->bK G->A G p n->(G.derive n r g).2.2=0->A (G.derive n r g).1 p (G.derive n r g).2.1
 ask:∀G p n,eF p->bK G->A G p n->fK (G.c5 n) 3=J->¬(G.target n).1.bu<0->eF (G.target n).1.bu
 jD:∀G p n m,eF p->eF (G.target n).1.bu->bK G->A G p n->¬(G.target n).1.bu<0->A G p m->(hr (G.kx n) G m).2.2=0->A (hr (G.kx n) G m).1 (G.target n).1.bu (hr (G.kx n) G m).2.1
 take:∀G p n m,eF p->eF (G.target n).1.bu->bK G->A G p n->¬(G.target n).1.bu<0->A G (G.target n).1.bu m->(hr (G.kx n) G m).2.2=0->A (hr (G.kx n) G m).1 p (hr (G.kx n) G m).2.1
def dV(A:aI->Int->Int->Prop)(G:aI)(p:Int)(v:ax):Prop:=∀n∈v.fX,A G p n
def OH(A:aI->Int->Int->Prop)(G:aI)(e:lP):Prop:=A G e.bu e.node/\(G.target e.node).1.bu<0/\e.cell=(G.target e.node).1.cell/\(e.right=1/\fK (G.c5 e.node) 0=J\/e.right=2/\fK (G.c5 e.node) 1=J)
def po(eF:Int->Prop)(A:aI->Int->Int->Prop)(S:bt):Prop:=∀p,eF p->dV A S.G p (S.kept.getD p.toNat ce)
structure ib{α:Type}(eF:Int->Prop)(A:aI->Int->Int->Prop)(bK:aI->Prop)(S:bt)(P:aI->α->Prop)(q:bt×α×Int):Prop where
 inv:bK q.1.G
 th:S.G.fo q.1.G
 kept:po eF A q.1
 val:q.2.2=0->P q.1.G q.2.1
 log:∃ext,q.1.log=S.log++ext/\∀e∈ext,eF e.bu/\∃gR,bK gR/\gR.fo q.1.G/\OH A gR e
section
variable{eF:Int->Prop}{A:aI->Int->Int->Prop}{bK:aI->Prop}
theorem OI(G:aI):G.fo G.gate.1:=by have:=G.Ta ⟨0,0,0,0,0⟩;exact this
theorem amn(G:aI)(k:Int):G.fo (G.cut k).1:=by have:=G.Ta ⟨1,k,0,0,0⟩;exact this
theorem Jo(G:aI)(n r g:Int):G.fo (G.derive n r g).1:=by have:=G.Ta ⟨4,n,r,g,0⟩;exact this
theorem amo:ce.fX=[]:=by rfl
theorem aBM(n:Int):(kG n).fX=[]:=by rfl
theorem dV.zero{G:aI}{p:Int}:dV A G p ce:=λn aA=>by rw[amo]at aA;cases aA
theorem dV.int{G:aI}{p n:Int}:dV A G p (kG n):=λm hm=>by rw[aBM]at hm;cases hm
theorem dV.cap{G:aI}{p n:Int}(h:A G p n):dV A G p (ge n):=λm hm=>by
 have:m=n:=by simpa[ge,ax.fX,lO]using hm
 rw[this];exact h
theorem mt:∀{l:List ax} {n:Int},n∈lO l↔∃v∈l,n∈v.fX
 |[],n=>by simp[lO]
 |x::l,n=>by have aR:=mt (l:=l) (n:=n);simp only[lO,qV,mJ,exists_eq_or_imp,aR]
theorem dV.part{G:aI}{p:Int}{v:ax}(h:dV A G p v)(i:Nat):dV A G p (v.l.getD i ce):=by
 by_cases af:i<v.l.length
 ·intro n aA;rw[cZ,fT af,qT]at aA;refine h n ?_;rw[ax.y6];exact List.mem_append_right _ (mt.2 ⟨_,jl af,aA⟩)
 ·rw[cZ,mE (by omega),Option.getD_none];exact dV.zero
theorem dV.getD{G:aI}{p:Int}{l:List ax}(h:∀v∈l,dV A G p v)(i:Nat):dV A G p (l.getD i ce):=by
 by_cases af:i<l.length
 ·rw[cZ,fT af,qT];exact h _ (jl af)
 ·rw[cZ,mE (by omega),Option.getD_none];exact dV.zero
theorem dV.mk{G:aI}{p k n:Int}{l:List ax}(ab:k≠4)(h:∀v∈l,dV A G p v):dV A G p (.mk k n l):=by intro m hm;rw[ax.y6]at hm;have e:(ax.mk k n l).kind=k:=rfl;rw[e,if_neg ab,l3]at hm;obtain⟨v,Z,hm⟩:=mt.1 hm;exact h v Z m hm
theorem dV.mono(H:rt eF A bK){G b7:aI}{p:Int}{v:ax}(ds:bK G)(jN:bK b7)(l:G.fo b7)(h:dV A G p v):dV A b7 p v:=λn aA=>H.mono G b7 p n ds jN l (h n aA)
theorem po.mono(H:rt eF A bK){S:bt}{b7:aI}(ds:bK S.G)(jN:bK b7)(l:S.G.fo b7)(h:po eF A S):po eF A {S with G:=b7}:=λp az=>(h p az).mono H ds jN l
theorem ib.same{α:Type}{P:aI->α->Prop}(H:rt eF A bK){S:bt}(ds:bK S.G)(k:po eF A S){b7:aI}(jN:bK b7)(l:S.G.fo b7){v:α}{c:Int}(Z:c=0->P b7 v):ib eF A bK S P ({S with G:=b7},v,c):=⟨jN,l,k.mono H ds jN l,Z,[],by simp,λe he=>by cases he⟩
theorem ib.trans{α β:Type}{P:aI->α->Prop}{Q:aI->β->Prop}{S:bt}{q:bt×α×Int}{fk:bt×β×Int}(h:ib eF A bK S P q)(E:ib eF A bK q.1 Q fk):ib eF A bK S Q fk:=by
 obtain⟨aw,cD,cO⟩:=h.log;obtain⟨ay,c9,c8⟩:=E.log;refine⟨E.inv,h.th.trans E.th,E.kept,E.val,aw++ay,by rw[c9,cD,kS],λe he=>?_⟩;rcases qV.1 he with he|he
 ·obtain⟨d,gR,a,b,c⟩:=cO e he;exact⟨d,gR,a,b.trans E.th,c⟩
 ·exact c8 e he
theorem ib.fail{α β:Type}{P:aI->α->Prop}{Q:aI->β->Prop}{S:bt}{q:bt×α×Int}(h:ib eF A bK S P q){z:β}{c:Int}(an:c≠0):ib eF A bK S Q (q.1,z,c):=⟨h.inv,h.th,h.kept,λe=>absurd e an,h.log⟩
theorem ib.bind{α β:Type}{P:aI->α->Prop}{Q:aI->β->Prop}{S:bt}{q:bt×α×Int}{z:β}{k:bt->α->bt×β×Int}(h:ib eF A bK S P q)(ab:P q.1.G q.2.1->bK q.1.G->po eF A q.1->S.G.fo q.1.G->ib eF A bK q.1 Q (k q.1 q.2.1)):ib eF A bK S Q (sk z q k):=by
 obtain⟨b0,v,c⟩:=q;unfold sk;simp only;by_cases an:c≠0
 ·rw[if_pos an];exact h.fail an
 ·rw[if_neg an];exact h.trans (ab (h.val (rM.1 an)) h.inv h.kept h.th)
theorem ib.ite{α:Type}{P:aI->α->Prop}{S:bt}{p:Prop}[Decidable p]{a b:bt×α×Int}(I:p->ib eF A bK S P a)(R:¬p->ib eF A bK S P b):ib eF A bK S P (if p then a else b):=by
 split
 ·rename_i h;exact I h
 ·rename_i h;exact R h
theorem fo.target(H:rt eF A bK){G b7:aI}{p n:Int}(ds:bK G)(jN:bK b7)(l:G.fo b7)(a:A G p n):b7.target n=G.target n/\b7.kx n=G.kx n:=by have e:=l.path (H.wf _ ds) (H.wf _ jN) (n.toNat+1) n (by omega) (H.has _ _ _ ds a);unfold aI.target aI.kx;rw[e];exact⟨rfl,rfl⟩
theorem aBN(H:rt eF A bK){p op k n:Int}{l:List ax}{S:bt}(az:eF p)(ds:bK S.G)(ab:po eF A S)(am:∀v∈l,dV A S.G p v):ib eF A bK S (λG v=>dV A G p v) (gV p op k n l S):=by
 have aV:=dV.getD am 0;have ad:=dV.getD am 1;have sj:=aI.fo.refl S.G;have no:∀{c:Int},ib eF A bK S (λG v=>dV A G p v) (S.no c):=ib.same H ds ab ds sj λ_=>dV.zero;have ok:∀{v:ax},dV A S.G p v->ib eF A bK S (λG v=>dV A G p v) (S.ok v):=λZ=>ib.same H ds ab ds sj λ_=>Z;have zp:(l.getD 0 ce).kind=4->A S.G p (l.getD 0 ce).n:=λe=>aV _ (by rw[ax.y6,if_pos e];simp);unfold gV;refine .ite (λ_=>.ite (λ_=>no) λ_=>ok dV.int) λcq=>?_;refine .ite (λ_=>.ite (λ_=>no) λh=>ok (dV.mk (by decide) (by simpa using⟨aV,ad⟩))) λhu=>?_;refine .ite (λ_=>.ite (λ_=>no) λh=>ok (aV.part 0)) λrR=>?_;refine .ite (λ_=>.ite (λ_=>no) λh=>ok (aV.part 1)) λaqb=>?_;refine .ite (λ_=>.ite (λ_=>no) λh=>ok (dV.mk (by decide) (by simpa using aV))) λaqc=>?_;refine .ite (λ_=>.ite (λ_=>no) λ_=>.ite (λ_=>no) λ_=>ok (aV.part 0)) λQI=>?_;refine .ite (λ_=>.ite (λ_=>no) λan=>.ite (λ_=>no) λau=>.ite (λ_=>no) λa6=>?_) λaqd=>?_
 ·exact⟨ds,sj,ab,λ_=>dV.int,_,rfl,λe he=>by
   obtain rfl:e=_:=by simpa using he
   exact⟨az,S.G,ds,sj,zp (rM.1 an),by simpa using a6,rfl,.inl ⟨rfl,by simpa using au⟩⟩⟩
 refine .ite (λ_=>.ite (λ_=>no) λan=>.ite (λ_=>no) λau=>.ite (λ_=>no) λa6=>?_) λaqe=>?_
 ·exact⟨ds,sj,ab,λ_=>ad,_,rfl,λe he=>by
   obtain rfl:e=_:=by simpa using he
   exact⟨az,S.G,ds,sj,zp (rM.1 λh=>an (.inl h)),by simpa using a6,rfl,.inr ⟨rfl,by simpa using au⟩⟩⟩
 refine .ite (λ_=>.ite (λ_=>no) λan=>?_) λtI=>?_
 ·unfold xz;have eA:=zp (rM.1 an);exact .ite (λ_=>ib.same H ds ab (H.inv _ _ _ _ ds) (Jo _ _ _ _) λ_=>dV.zero) λaB=>ib.same H ds ab (H.inv _ _ _ _ ds) (Jo _ _ _ _) λ_=>dV.cap (H.Wl _ _ _ _ _ az ds eA (rM.1 aB))
 refine .ite (λ_=>.ite (λ_=>no) λan=>.ite (λ_=>ib.same H ds ab (H.gate _ ds) (OI _) λ_=>dV.zero) λa5=>?_) λaqf=>?_
 ·have eA:=zp (rM.1 an);have s0:=H.mono _ _ _ _ ds (H.gate _ ds) (OI _) eA;have bg:=H.Wl S.G.gate.1 p (l.getD 0 ce).n 15 S.G.gate.2.1 az (H.gate _ ds) s0;have af:=H.inv S.G.gate.1 (l.getD 0 ce).n 15 S.G.gate.2.1 (H.gate _ ds);have c1:=(OI S.G).trans (Jo S.G.gate.1 (l.getD 0 ce).n 15 S.G.gate.2.1);generalize S.G.gate.1.derive (l.getD 0 ce).n 15 S.G.gate.2.1=q at bg af c1 ⊢;obtain⟨b7,m,c⟩:=q;refine .ite (λ_=>ib.same H ds ab af c1 λ_=>dV.zero) λaB=>ib.same H ds ab af c1 λ_=>dV.mk (by decide) ?_;intro v Z;rcases mJ.1 Z with rfl|Z
  ·exact dV.cap (bg (rM.1 aB))
  ·obtain rfl:v=_:=by simpa using Z
   intro m hm;simp[ax.fX,lO]at hm
 refine .ite (λ_=>.ite (λ_=>no) λ_=>?_) λaqg=>?_
 ·exact ib.same H ds ab (H.cut _ _ ds) (amn _ _) λ_=>dV.zero
 refine .ite (λ_=>?_) λnE=>no;refine⟨ds,sj,λq aX=>?_,λ_=>ab p az,[],by simp[bt.ok],λe he=>by cases he⟩;show dV A S.G q ((S.kept.set p.toNat (l.getD 0 ce)).getD q.toNat ce);by_cases e:p.toNat=q.toNat
 ·have I:=H.pos _ az;have R:=H.pos _ aX;have ay:p=q:=by omega
  subst ay;rw[cZ,pR];simp only[if_true];split
  ·exact aV
  ·exact dV.zero
 ·rw[cZ,uP e];exact ab q aX
theorem amp(H:rt eF A bK):∀(aQ:List Int) (G:aI) (n:Int),bK G->bK (hr aQ G n).1/\G.fo (hr aQ G n).1
 |[],G,n,ds=>⟨ds,aI.fo.refl G⟩
 |k::aQ,G,n,ds=>by
   have I:=H.inv G n 15 k ds;have R:=Jo G n 15 k;unfold hr;split
   ·exact⟨I,R⟩
   ·obtain⟨a,b⟩:=amp H aQ (G.derive n 15 k).1 (G.derive n 15 k).2.1 I;exact⟨a,R.trans b⟩
mutual
theorem amq(H:rt eF A bK){aQ:List Int}{p q:Int}{gR:aI}(an:∀G m,gR.fo G->bK G->A G p m->(hr aQ G m).2.2=0->A (hr aQ G m).1 q (hr aQ G m).2.1):∀(x:ax) (G:aI),gR.fo G->bK G->dV A G p x->bK (fw aQ x G).1/\G.fo (fw aQ x G).1/\((fw aQ x G).2.2=0->dV A (fw aQ x G).1 q (fw aQ x G).2.1)
 |.mk kind n l,G,ak,ds,Z=>by
   have bA:bK (iU aQ G kind n).1/\G.fo (iU aQ G kind n).1/\((iU aQ G kind n).2.2=0->kind=4->A (iU aQ G kind n).1 q (iU aQ G kind n).2.1):=by
    unfold iU;split
    ·rename_i ab;obtain⟨a,b⟩:=amp H aQ G n ds;exact⟨a,b,λaB _=>an G n ak ds (Z n (by rw[ax.y6];exact List.mem_append_left _ (by show n∈(if kind=4 then[n]else[]);rw[if_pos ab];simp))) aB⟩
    ·rename_i ab;exact⟨ds,aI.fo.refl G,λ_ h=>absurd h ab⟩
   obtain⟨aP,a2,bl⟩:=bA;simp only[fw];split
   ·rename_i aB;exact⟨aP,a2,λh=>absurd h aB⟩
   ·rename_i aB;have am:∀v∈l,dV A (iU aQ G kind n).1 p v:=λv k' m hm=>H.mono _ _ _ _ ds aP a2 (Z m (by rw[ax.y6];exact List.mem_append_right _ (mt.2 ⟨v,k',hm⟩)));obtain⟨cg,c0,fq⟩:=amr H an l (iU aQ G kind n).1 (ak.trans a2) aP am;split
    ·rename_i lX;exact⟨cg,a2.trans c0,λh=>absurd h lX⟩
    ·rename_i lX;refine⟨cg,a2.trans c0,λ_ m hm=>?_⟩;rw[ax.y6]at hm;rcases qV.1 hm with hm|hm
     ·split at hm
      ·rename_i ab;obtain rfl:m=_:=by simpa using hm
       exact H.mono _ _ _ _ aP cg c0 (bl (rM.1 aB) ab)
      ·cases hm
     ·obtain⟨v,k',hm⟩:=mt.1 hm;exact fq (rM.1 lX) v k' m hm
theorem amr(H:rt eF A bK){aQ:List Int}{p q:Int}{gR:aI}(an:∀G m,gR.fo G->bK G->A G p m->(hr aQ G m).2.2=0->A (hr aQ G m).1 q (hr aQ G m).2.1):∀(l:List ax) (G:aI),gR.fo G->bK G->(∀v∈l,dV A G p v)->bK (gq aQ l G).1/\G.fo (gq aQ l G).1/\((gq aQ l G).2.2=0->∀v∈(gq aQ l G).2.1,dV A (gq aQ l G).1 q v)
 |[],G,_,ds,_=>⟨ds,aI.fo.refl G,λ_ v Z=>by cases Z⟩
 |x::l,G,ak,ds,am=>by
   obtain⟨aP,a2,bl⟩:=amq H an x G ak ds (am x (by simp));simp only[gq];split
   ·rename_i aB;exact⟨aP,a2,λh=>absurd h aB⟩
   ·rename_i aB;obtain⟨cg,c0,fq⟩:=amr H an l (fw aQ x G).1 (ak.trans a2) aP (λv Z=>(am v (by simp[Z])).mono H ds aP a2);refine⟨cg,a2.trans c0,λh v Z=>?_⟩;rcases mJ.1 Z with rfl|Z
    ·exact(bl (rM.1 aB)).mono H aP cg c0
    ·exact fq h v Z
end
theorem ams(H:rt eF A bK){aQ:List Int}{p q:Int}{gR:aI}(an:∀G m,gR.fo G->bK G->A G p m->(hr aQ G m).2.2=0->A (hr aQ G m).1 q (hr aQ G m).2.1)(x:ax)(G:aI)(ak:gR.fo G)(ds:bK G)(Z:dV A G p x):bK (fg aQ G x).1/\G.fo (fg aQ G x).1/\((fg aQ G x).2.2=0->dV A (fg aQ G x).1 q (fg aQ G x).2.1):=by
 unfold fg;split
 ·rename_i aB;exact⟨ds,aI.fo.refl G,λh=>absurd h aB⟩
 ·exact amq H an x G ak ds Z
def Wm(eF:Int->Prop)(A:aI->Int->Int->Prop)(p:Int)(G:aI)(a:rP):Prop:=eF a.bu/\dV A G a.bu a.arg/\∃n,A G p n/\a.eU=G.kx n/\(G.target n).1.bu=a.bu/\¬a.bu<0
theorem aBO(H:rt eF A bK){ms:dn}{p:Int}{v x:ax}{aM:Nat}{S:bt}(az:eF p)(ds:bK S.G)(ab:po eF A S)(Z:dV A S.G p v)(aF:dV A S.G p x):ib eF A bK S (Wm eF A p) (hH ms v x aM S):=by have sj:=aI.fo.refl S.G;have no:∀{c:Int} (an:c≠0) (z:rP),ib eF A bK S (Wm eF A p) (S,z,c):=λan z=>ib.same H ds ab ds sj λh=>absurd h an;unfold hH;refine .ite (λ_=>no (by decide) _) λI=>.ite (λ_=>no (by decide) _) λR=>.ite (λ_=>no (by decide) _) λaj=>.ite (λ_=>no (by decide) _) λaH=>.ite (λ_=>no (by decide) _) λbq=>?_;have eA:A S.G p v.n:=Z _ (by rw[ax.y6,if_pos (rM.1 I)];simp);have OJ:=H.ask _ _ _ az ds eA (by simpa using R) aj;have ac:=ams H (aQ:=S.G.kx v.n) (p:=p) (q:=(S.G.target v.n).1.bu) (gR:=S.G) (λG m l dm hm aB=>by have s0:=H.mono _ _ _ _ ds dm l eA;obtain⟨aw,ay⟩:=fo.target H ds dm l eA;have:=H.jD G p v.n m az (by rw[aw];exact OJ) dm s0 (by rw[aw];exact aj) hm (by rw[ay];exact aB);rw[aw,ay]at this;exact this) x S.G sj ds aF;generalize fg (S.G.kx v.n) S.G x=q at ac;obtain⟨b7,y,c⟩:=q;obtain⟨aP,a2,bl⟩:=ac;obtain⟨aw,ay⟩:=fo.target H ds aP a2 eA;refine ib.same H ds ab aP a2 λaB=>⟨OJ,bl aB,v.n,H.mono _ _ _ _ ds aP a2 eA,by rw[ay],by rw[aw],aj⟩
theorem aBP(H:rt eF A bK){p:Int}{a:rP}{v:ax}{gR:aI}{S:bt}(az:eF p)(amt:bK gR)(hT:gR.fo S.G)(ds:bK S.G)(ab:po eF A S)(aV:Wm eF A p gR a)(Z:dV A S.G a.bu v):ib eF A bK S (λG v=>dV A G p v) (lQ a.eU v S):=by obtain⟨OJ,_,n,eA,a5,a6,aA⟩:=aV;have ac:=ams H (aQ:=a.eU) (p:=a.bu) (q:=p) (gR:=gR) (λG m l dm hm aB=>by have s0:=H.mono _ _ _ _ amt dm l eA;obtain⟨aw,ay⟩:=fo.target H amt dm l eA;have:=H.take G p n m az (by rw[aw,a6];exact OJ) dm s0 (by rw[aw,a6];exact aA) (by rw[aw,a6];exact hm) (by rw[ay,<-a5];exact aB);rw[ay,<-a5]at this;exact this) v S.G hT ds Z;unfold lQ;generalize fg a.eU S.G v=q at ac;obtain⟨b7,y,c⟩:=q;obtain⟨aP,a2,bl⟩:=ac;exact .ite (λaB=>ib.same H ds ab aP a2 λh=>absurd h aB) λaB=>ib.same H ds ab aP a2 λ_=>bl (rM.1 aB)
theorem Id(H:rt eF A bK){p:Int}{f:bC->bt->bt×ax×Int}{gR:aI}(bo:∀x S,gR.fo S.G->bK S.G->po eF A S->ib eF A bK S (λG v=>dV A G p v) (f x S)):∀(l:List bC) (S:bt) (acc:List ax),gR.fo S.G->bK S.G->po eF A S->(∀v∈acc,dV A S.G p v)->ib eF A bK S (λG l=>∀v∈l,dV A G p v) (jd f l S acc)
 |[],S,acc,_,ds,ab,aV=>ib.same H ds ab ds (aI.fo.refl _) λ_=>aV
 |x::l,S,acc,ak,ds,ab,aV=>by
   rw[alf];have I:=bo x S ak ds ab;refine I.bind λZ jN jZ _=>Id H bo l _ _ (ak.trans I.th) jN jZ ?_;intro v k';rcases qV.1 k' with h|h
   ·exact(aV v h).mono H ds jN I.th
   ·obtain rfl:v=_:=by simpa using h
    exact Z
theorem aBQ{p:Int}{x:bC}{arg:ax}{names:List ax}{S:bt}{v:ax}(az:eF p)(ab:po eF A S)(aV:dV A S.G p arg)(aA:∀v∈names,dV A S.G p v)(h:jL p x arg names S=o v):dV A S.G p v:=by
 unfold jL at h;split at h
 ·injection h with h;subst h;exact dV.zero
 split at h
 ·injection h with h;subst h;exact dV.int
 split at h
 ·injection h with h;subst h;exact aV
 split at h
 ·injection h with h;subst h;exact dV.getD aA _
 split at h
 ·injection h with h;subst h;exact ab p az
 ·cases h
theorem dV.all(H:rt eF A bK){G b7:aI}{p:Int}{l:List ax}(ds:bK G)(jN:bK b7)(am:G.fo b7)(h:∀v∈l,dV A G p v):∀v∈l,dV A b7 p v:=λv Z=>(h v Z).mono H ds jN am
theorem amu(H:rt eF A bK)(ms:dn):∀(N:Nat) (p:Int) (x:bC) (arg:ax) (names:List ax) (aM:Nat) (S:bt),eF p->bK S.G->po eF A S->dV A S.G p arg->(∀v∈names,dV A S.G p v)->ib eF A bK S (λG v=>dV A G p v) (dp ms N p x arg names aM S)
 |0,p,x,arg,names,aM,S,az,ds,ab,aV,aA=>ib.same H ds ab ds (aI.fo.refl _) λh=>absurd h (by decide)
 |N+1,p,x,arg,names,aM,S,az,ds,ab,aV,aA=>by
   have aR:=amu H ms N;have no:∀{T:bt} {c:Int},bK T.G->po eF A T->ib eF A bK T (λG v=>dV A G p v) (T.no c):=λds ab=>ib.same H ds ab ds (aI.fo.refl _) λ_=>dV.zero;rw[alg];refine .ite (λ_=>no ds ab) λ_=>?_;have ds:bK S.tick.G:=ds;have ab:po eF A S.tick:=ab;have aV:dV A S.tick.G p arg:=aV;have aA:∀v∈names,dV A S.tick.G p v:=aA;suffices h:ib eF A bK S.tick (λG v=>dV A G p v) (match jL p x arg names S.tick with
    |some v=>S.tick.ok v
    |none=>
      if x.op=5 then sk ce (dp ms N p (x.l.getD 0 jK) arg names aM S.tick) λb0 v=>dp ms N p (x.l.getD 1 jK) arg (names++[v]) aM b0
      else if x.op=7 then sk ce (dp ms N p (x.l.getD 0 jK) arg names aM S.tick) λb0 v=>if v.kind≠1 then b0.no 2 else if v.n≠0 then dp ms N p (x.l.getD 1 jK) arg names aM b0 else dp ms N p (x.l.getD 2 jK) arg names aM b0
      else sk ce (jd (λy S=>dp ms N p y arg names aM S) x.l S.tick []) λb0 l=>
       if x.op=18 then(if aM=20 then b0.no 4 else dp ms N p (gK ms p x.k) (l.getD 0 ce) [] (aM+1) b0)
       else if x.op=19 then sk ce (hH ms (l.getD 0 ce) (l.getD 1 ce) aM b0) λlB q=>sk ce (dp ms N q.bu (gK ms q.bu q.func) q.arg [] (aM+1) lB) λna v=>lQ q.eU v na
       else gV p x.op x.k x.n l b0) from⟨h.inv,h.th,h.kept,h.val,h.log⟩
   generalize S.tick=T at ds ab aV aA;cases sc:jL p x arg names T with
   |some v=>exact ib.same H ds ab ds (aI.fo.refl _) λ_=>aBQ az ab aV aA sc
   |none=>
     refine .ite (λ_=>?_) λ_=>.ite (λ_=>?_) λ_=>?_
     ·have I:=aR p (x.l.getD 0 jK) arg names aM T az ds ab aV aA;refine I.bind λZ jN jZ _=>aR _ _ _ _ _ _ az jN jZ (aV.mono H ds jN I.th) ?_;intro v k';rcases qV.1 k' with h|h
      ·exact(aA v h).mono H ds jN I.th
      ·obtain rfl:v=_:=by simpa using h
       exact Z
     ·have I:=aR p (x.l.getD 0 jK) arg names aM T az ds ab aV aA;refine I.bind λZ jN jZ _=>.ite (λ_=>no jN jZ) λ_=>.ite (λ_=>?_) λ_=>?_
      ·exact aR _ _ _ _ _ _ az jN jZ (aV.mono H ds jN I.th) (dV.all H ds jN I.th aA)
      ·exact aR _ _ _ _ _ _ az jN jZ (aV.mono H ds jN I.th) (dV.all H ds jN I.th aA)
     ·have I:=Id H (p:=p) (f:=λy S=>dp ms N p y arg names aM S) (gR:=T.G) (λy S l jN jZ=>aR p y arg names aM S az jN jZ (aV.mono H ds jN l) (dV.all H ds jN l aA)) x.l T [] (aI.fo.refl _) ds ab (λv Z=>by cases Z);refine I.bind λam jN jZ _=>.ite (λ_=>.ite (λ_=>no jN jZ) λ_=>?_) λ_=>.ite (λ_=>?_) λ_=>?_
      ·exact aR _ _ _ _ _ _ az jN jZ (dV.getD am 0) (λv Z=>by cases Z)
      ·have R:=aBO H (ms:=ms) (aM:=aM) az jN jZ (dV.getD am 0) (dV.getD am 1);refine R.bind λaX amv r0 _=>ib.bind (aR _ _ _ _ _ _ aX.1 amv r0 aX.2.1 (λv Z=>by cases Z)) λZ aBR E4 jx=>aBP H az amv jx aBR E4 aX Z
      ·exact aBN H az jN jZ am
theorem aBS(H:rt eF A bK){ms:dn}{S:bt}{p f fuel:Int}{v:ax}(az:eF p)(ds:bK S.G)(ab:po eF A S)(Z:dV A S.G p v):bK (eu ms p f v fuel S).1.G/\S.G.fo (eu ms p f v fuel S).1.G/\po eF A (eu ms p f v fuel S).1/\dV A (eu ms p f v fuel S).1.G p (eu ms p f v fuel S).2.1/\∃ext,(eu ms p f v fuel S).1.log=S.log++ext/\∀e∈ext,eF e.bu/\∃gR,bK gR/\gR.fo (eu ms p f v fuel S).1.G/\OH A gR e:=by
 have same:bK S.G/\S.G.fo S.G/\po eF A S/\dV A S.G p ce/\∃ext,S.log=S.log++ext/\∀e∈ext,eF e.bu/\∃gR,bK gR/\gR.fo S.G/\OH A gR e:=⟨ds,aI.fo.refl _,ab,dV.zero,[],by simp,λe he=>by cases he⟩;unfold eu;split
 ·exact same
 ·split
  ·exact same
  ·split
   ·exact same
   ·have h:=amu H ms fuel.toNat p (gK ms p f) v [] 1 {S with left:=fuel.toNat} az ds ab Z (λv Z=>by cases Z);generalize dp ms fuel.toNat p (gK ms p f) v [] 1 {S with left:=fuel.toNat}=q at h;obtain⟨b0,w,c⟩:=q;obtain⟨I,R,aj,aH,bq⟩:=h;refine⟨I,R,aj,?_,bq⟩;show dV A b0.G p (if c=0 then w else ce);split
    ·rename_i an;exact aH an
    ·exact dV.zero
end
theorem Wn{G:aI}{ea:bi}(aB:(G.add ea).2.2=0):G.add ea=(⟨G.nodes++[ea],G.shut⟩,(G.nodes.length:Int),0)/\qm ea.c5=J/\(ea.gate= -1\/G.lA ea.gate=J):=by
 unfold aI.add at aB ⊢;split
 ·rename_i h;rw[if_pos h]at aB;exact absurd aB (by simp)
 ·rename_i I;rw[if_neg I]at aB;split
  ·rename_i h;rw[if_pos h]at aB;exact absurd aB (by simp)
  ·rename_i R;rw[if_neg R]at aB;split
   ·rename_i h;rw[if_pos h]at aB;exact absurd aB (by simp)
   ·refine⟨rfl,by simpa using I,?_⟩;by_cases e:ea.gate= -1
    ·exact .inl e
    ·refine .inr ?_;cases bA:G.lA ea.gate with
     |true=>rfl
     |false=>exact absurd ⟨e,bA⟩ R
theorem Wo{G:aI}{n r g:Int}(aB:(G.derive n r g).2.2=0):G.has n=J/\G.derive n r g=(⟨G.nodes++[⟨n,g,r,0, -1,0⟩],G.shut⟩,(G.nodes.length:Int),0):=by
 unfold aI.derive at aB ⊢;split
 ·rename_i h;rw[if_pos h]at aB;exact⟨h,(Wn aB).1⟩
 ·rename_i h;rw[if_neg h]at aB;exact absurd aB (by simp)
theorem Wp{G:aI}{ea:bi}:(⟨G.nodes++[ea],G.shut⟩:aI).has (G.nodes.length:Int)=J/\(⟨G.nodes++[ea],G.shut⟩:aI).nodes.getD ((G.nodes.length:Int)).toNat fL=ea:=by refine⟨by simp[aI.has];omega,?_⟩;rw[m9];simp[cZ]
theorem fo.hM{G b7:aI}(l:G.fo b7)(ck:G.dg)(kn:b7.dg):∀(f:Nat) (i:Int),i.toNat<f->G.has i=J->b7.hM i=G.hM i:=by
 intro f;induction f with
 |zero=>intro i af;omega
 |succ f aR=>
   intro i af bA;obtain⟨Tb,aA⟩:=l.has bA;have ok:=ck.get bA;rw[aI.Ev ck bA,aI.Ev kn Tb,aA];congr 1;by_cases az:G.has (G.nodes.getD i.toNat fL).parent=J
   ·have q8:0<=(G.nodes.getD i.toNat fL).parent:=by simp only[aI.has,decide_eq_true_eq]at az;exact az.1
    have ox:=ok.dB;exact aR _ (by omega) az
   ·have ak:=ok.en;have I:=ok.dB;have iG:i.toNat<G.nodes.length:=by simp[aI.has]at bA;omega
    have asM:(G.nodes.getD i.toNat fL).parent<0:=by
     simp only[aI.has,decide_eq_true_eq,not_and]at az;rcases Int.lt_or_le (G.nodes.getD i.toNat fL).parent 0 with h|h
     ·exact h
     ·have:=az h;omega
    rw[aI.Ew (G:=G) (by simpa using az),aI.Ew (G:=b7) (by simp only[aI.has,decide_eq_false_iff_not,not_and];intro h;omega)]
theorem Wq{G:aI}(ck:G.dg){n r g:Int}(aB:(G.derive n r g).2.2=0):(G.derive n r g).1.has (G.derive n r g).2.1=J/\(G.derive n r g).1.path (G.derive n r g).2.1=⟨n,g,r,0, -1,0⟩::G.path n/\(G.derive n r g).1.hM (G.derive n r g).2.1=(G.derive n r g).2.1::G.hM n:=by
 have kn:=ck.derive n r g;have am:=Jo G n r g;obtain⟨aA,e⟩:=Wo aB;have I:=Wp (G:=G) (ea:=⟨n,g,r,0, -1,0⟩);rw[e]at kn am ⊢;refine⟨I.1,?_,?_⟩
 ·rw[aI.Eg kn I.1,I.2];congr 1;exact am.path ck kn (n.toNat+1) n (by omega) aA
 ·rw[aI.Ev kn I.1,I.2];congr 1;exact fo.hM am ck kn (n.toNat+1) n (by omega) aA
def aI.root(G:aI)(n:Int):Int:=(G.hM n).getLastD (-1)
theorem Wr{G:aI}(ck:G.dg){n:Int}(h:G.has n=J):G.hM n≠[]:=by rw[aI.Ev ck h];simp
theorem aBT{α:Type}{a d:α}{l:List α}(h:l≠[]):(a::l).getLastD d=l.getLastD d:=by
 cases l with
 |nil=>exact absurd rfl h
 |cons b l=>simp[List.getLastD]
theorem amw{G:aI}(ck:G.dg){n r g:Int}(aB:(G.derive n r g).2.2=0):(G.derive n r g).1.root (G.derive n r g).2.1=G.root n:=by unfold aI.root;rw[(Wq ck aB).2.2];exact aBT (Wr ck (Wo aB).1)
theorem fo.root{G b7:aI}(l:G.fo b7)(ck:G.dg)(kn:b7.dg){n:Int}(h:G.has n=J):b7.root n=G.root n:=by unfold aI.root;rw[fo.hM l ck kn (n.toNat+1) n (by omega) h]
theorem Ws:∀(aQ:List Int) (G:aI) (n:Int),G.dg->G.has n=J->(hr aQ G n).2.2=0->(hr aQ G n).1.has (hr aQ G n).2.1=J/\(hr aQ G n).1.root (hr aQ G n).2.1=G.root n
 |[],G,n,ck,aA,_=>⟨aA,rfl⟩
 |k::aQ,G,n,ck,aA,aB=>by
   unfold hr at aB ⊢;split
   ·rename_i h;rw[if_pos h]at aB;exact absurd aB h
   ·rename_i h;rw[if_neg h]at aB;have ak:=rM.1 h;obtain⟨a,b⟩:=Ws aQ (G.derive n 15 k).1 (G.derive n 15 k).2.1 (ck.derive _ _ _) (Wq ck ak).1 aB;exact⟨a,b.trans (amw ck ak)⟩
theorem Wt{G:aI}(ck:G.dg){n:Int}(h:G.has n=J):(G.target n).1=G.at_ (G.root n)/\G.has (G.root n)=J/\(G.at_ (G.root n)).parent= -1:=by
 have dw:=Wr ck h;have a6:(G.target n).1=G.at_ (G.root n):=by
  unfold aI.target aI.root;rw[<-aI.zh];show((G.hM n).map G.at_).getLastD fL=G.at_ ((G.hM n).getLastD (-1));rw[List.getLastD_eq_getLast?,List.getLastD_eq_getLast?,List.getLast?_map];cases am:(G.hM n).getLast? with
  |none=>rw[List.getLast?_eq_none_iff]at am;exact absurd am dw
  |some a=>rfl
 have hm:G.root n∈G.hM n:=by
  unfold aI.root;rw[List.getLastD_eq_getLast?];cases am:(G.hM n).getLast? with
  |none=>rw[List.getLast?_eq_none_iff]at am;exact absurd am dw
  |some a=>exact List.mem_of_getLast? am
 refine⟨a6,aI.Lf n _ hm,?_⟩;rw[<-a6];exact(aI.MF ck h).2.1
theorem aBU{G:aI}{n r g:Int}(h:(G.derive n r g).2.2≠0):(G.derive n r g).1=G:=by
 unfold aI.derive at h ⊢;split
 ·rename_i I;rw[if_pos I]at h;exact US h
 ·rfl
section
variable{en:Int}{z:Bool}
theorem aBV(k:Nat):fK 0 k=U:=by simp[fK];decide
theorem aBW{H:dh}{p q:Int}(az:fx p=J)(aX:0<=q){l:List ax}{v:ax}(h:v∈(H.a7.set p.toNat l).getD q.toNat []):v∈H.hand q\/p=q/\v∈l:=by
 obtain⟨dB,gm⟩:=nl.1 az;by_cases e:p.toNat=q.toNat
 ·have ay:p=q:=by omega
  rw[cZ,pR,if_pos e]at h;split at h
  ·exact .inr ⟨ay,h⟩
  ·cases h
 ·rw[cZ,uP e]at h;exact .inl h
theorem aBX{G:aI}{ea:bi}(ck:G.dg)(aB:(G.add ea).2.2=0)(kn:(G.add ea).1.dg)(az:ea.parent= -1):(G.add ea).1.has (G.add ea).2.1=J/\(G.add ea).1.path (G.add ea).2.1=[ea]/\G.fo (G.add ea).1/\(G.add ea).1.nodes=G.nodes++[ea]:=by
 obtain⟨e,_⟩:=Wn aB;have am:G.fo (G.add ea).1:=by obtain⟨⟨ext,I,_⟩,R⟩:=af4 G ea;exact⟨⟨ext,I⟩,by rw[R];exact⟨b9 _,λ_=>id⟩⟩
 have I:=Wp (G:=G) (ea:=ea);rw[e]at am kn ⊢;refine⟨I.1,?_,am,rfl⟩;rw[aI.Eg kn I.1,I.2,az,aI.xx (by simp[aI.has])]
theorem aBY{G:aI}{k r g:Int}(aB:(G.iv k r g).2.2=0):sJ k=J/\G.iv k r g=G.add ⟨-1,g,r,k, -1,0⟩:=by
 unfold aI.iv at aB ⊢;split
 ·rename_i h;exact⟨h,rfl⟩
 ·rename_i h;rw[if_neg h]at aB;exact absurd aB (by simp)
theorem Wu{G:aI}{q k r g:Int}(aB:(G.ih q k r g).2.2=0):Aw q k=J/\G.ih q k r g=G.add ⟨-1,g,r,0,q,k⟩:=by
 unfold aI.ih at aB ⊢;split
 ·rename_i h;exact⟨h,rfl⟩
 ·rename_i h;rw[if_neg h]at aB;exact absurd aB (by simp)
end
inductive jj(bX:List (Int×Int))(p:Int):Int->Prop where
 |refl:jj bX p p
 |fwd {a b:Int}:jj bX p a->(a,b)∈bX->jj bX p b
 |bwd {a b:Int}:jj bX p b->(a,b)∈bX->jj bX p a
theorem jj.trans{bX:List (Int×Int)}{p q r:Int}(h:jj bX p q)(g:jj bX q r):jj bX p r:=by
 induction g with
 |refl=>exact h
 |fwd _ hm aR=>exact aR.fwd hm
 |bwd _ hm aR=>exact aR.bwd hm
theorem jj.symm{bX:List (Int×Int)}{p q:Int}(h:jj bX p q):jj bX q p:=by
 induction h with
 |refl=>exact .refl
 |fwd _ hm aR=>exact(jj.bwd .refl hm).trans aR
 |bwd _ hm aR=>exact(jj.fwd .refl hm).trans aR
theorem jj.mono{l m:List (Int×Int)}(aC:∀x∈l,x∈m){p q:Int}(h:jj l p q):jj m p q:=by
 induction h with
 |refl=>exact .refl
 |fwd _ hm aR=>exact aR.fwd (aC _ hm)
 |bwd _ hm aR=>exact aR.bwd (aC _ hm)
abbrev jF:=List (fp×jr)
def h3(d:jF):List (Int×Int):=(d.filter λz=>decide (z.1.kind=3)&&decide (z.2.code=0)).map λz=>(z.1.p,z.1.q)
theorem Jp(d e:jF):h3 (d++e)=h3 d++h3 e:=by simp[h3]
def aBZ(d:jF)(own:Int->Int)(i:Int)(ea:bi):Prop:=∃z∈d,z.1.kind=2/\z.2.code=0/\z.1.p=own i/\z.1.k=ea.cell/\z.1.r=ea.c5
def uu(d:jF)(own:Int->Int)(G:aI):Prop:=G.dg/\∀(i:Nat) (ea:bi),G.nodes[i]? =o ea->ea.parent= -1->(0<=ea.bu->jj (h3 d) (own i) ea.bu)/\(ea.bu<0->aBZ d own i ea)
def w8(d:jF)(own:Int->Int)(G:aI)(p n:Int):Prop:=G.has n=J/\jj (h3 d) p (own (G.root n))
section
variable{d:jF}{own:Int->Int}
theorem amx{G:aI}{i:Int}(h:G.has i=J):G.nodes[i.toNat]? =o (G.at_ i):=by
 simp only[aI.has,decide_eq_true_eq]at h;unfold aI.at_;have:i.toNat<G.nodes.length:=by omega
 simp[cZ,this]
theorem uu.target{G:aI}(g:uu d own G){n:Int}(h:G.has n=J)(a6:¬(G.target n).1.bu<0):jj (h3 d) (own (G.root n)) (G.target n).1.bu:=by
 obtain⟨I,R,aj⟩:=Wt g.1 h;have a5:=amx R;have:=(g.2 _ _ a5 aj).1 (by rw[<-I];omega);have e:(((G.root n).toNat:Nat):Int)=G.root n:=by simp only[aI.has,decide_eq_true_eq]at R;omega
 rw[e,<-I]at this;exact this
theorem uu.same{G b7:aI}(g:uu d own G)(ck:b7.dg)(aA:b7.nodes=G.nodes):uu d own b7:=⟨ck,by rw[aA];exact g.2⟩
theorem uu.derive{G:aI}(g:uu d own G)(n r k:Int):uu d own (G.derive n r k).1:=by
 by_cases aB:(G.derive n r k).2.2=0
 ·obtain⟨I,R⟩:=Wo aB;refine⟨g.1.derive _ _ _,λi ea af az=>?_⟩;rw[R]at af;have af:(G.nodes++[(⟨n,k,r,0, -1,0⟩:bi)])[i]? =o ea:=af;by_cases ba:i<G.nodes.length
  ·rw[l0 ba]at af;exact g.2 i ea af az
  ·rw[l1 (by omega)]at af;have hg:i - G.nodes.length=0:=by have:=(fO.1 af).1;simpa using this
   rw[hg]at af;obtain rfl:(⟨n,k,r,0, -1,0⟩:bi)=ea:=by simpa using af
   simp only[aI.has,decide_eq_true_eq]at I;simp only at az;omega
 ·rw[aBU aB];exact g
theorem OK(d:jF)(own:Int->Int):rt (λp=>0<=p) (w8 d own) (uu d own) where
 pos:=λp h=>h
 wf:=λG h=>h.1
 has:=λG p n _ h=>h.1
 mono:=λG b7 p n dm TT l h=>⟨(l.has h.1).1,by rw[fo.root l dm.1 TT.1 h.1];exact h.2⟩
 gate:=λG h=>h.same h.1.gate (S9 G).1
 cut:=λG k h=>h.same (h.1.cut k) (S' G k).1
 inv:=λG n r g h=>h.derive n r g
 Wl:=λG p n r g _ dm h aB=>⟨(Wq dm.1 aB).1,by rw[amw dm.1 aB];exact h.2⟩
 ask:=λG p n _ _ _ _ h=>by omega
 jD:=λG p n m _ _ dm aA a6 hm aB=>by obtain⟨a,b⟩:=Ws (G.kx n) G m dm.1 hm.1 aB;exact⟨a,by rw[b];exact((dm.target aA.1 a6).symm.trans (aA.2.symm)).trans hm.2⟩
 take:=λG p n m _ _ dm aA a6 hm aB=>by obtain⟨a,b⟩:=Ws (G.kx n) G m dm.1 hm.1 aB;exact⟨a,by rw[b];exact(aA.2.trans (dm.target aA.1 a6)).trans hm.2⟩
end
theorem amy{G:aI}(ck:G.dg){n:Int}{k:Nat}(ab:k<4){r:Int}(au:r=(BitVec.twoPow 64 k).toInt)(h:fK (G.c5 n) k=J):∀ea∈G.path n,mL ea.c5 r=r:=by
 intro ea rL;have qX:=aI.af5 ck (n.toNat+1) n;have gd:∀m∈G.path n,qm m.c5=J:=λm hm=>(qX m hm).1;unfold aI.c5 at h;split at h
 ·rw[aBV]at h;cases h
 ·have Rz:(15:Int)=(15#64).toInt:=by decide
  rw[Rz,Rx _ gd,Eu _ (k:=k) (by omega),ada]at h;simp only[gv]at h;have ad:=jW.1 h.2 ea rL;have aC:=Ry (gd ea rL);have bA:=ahy (x:=lY 64 ea.c5) (k:=k) (by omega) au;rw[Eu _ (k:=k) (by omega),ad,<-aC]at bA;unfold B0 at bA;simpa using bA
def Wv(d:jF)(G:aI)(e:lP):Prop:=(∃z∈d,z.1.kind=2/\z.2.code=0/\z.1.k=e.cell/\mL z.1.r e.right=e.right/\jj (h3 d) e.bu z.1.p)/\G.has e.node=J/\(G.target e.node).1.bu<0/\(G.target e.node).1.cell=e.cell/\(∀ea∈G.path e.node,mL ea.c5 e.right=e.right)/\0<=e.bu
structure oV(d:jF)(own:Int->Int)(H:dh):Prop where
 cY:H.Good
 g:uu d own H.S.G
 kept:po (λp=>0<=p) (w8 d own) H.S
 hand:∀p:Int,0<=p->∀v∈H.hand p,dV (w8 d own) H.S.G p v
section
variable{d:jF}{own:Int->Int}{H:dh}
theorem oV.more(c:oV d own H)(e:jF):oV (d++e) own H:=by
 have hm:∀x∈h3 d,x∈h3 (d++e):=λx aF=>by rw[Jp];exact List.mem_append_left _ aF
 have aV:∀G p n,w8 d own G p n->w8 (d++e) own G p n:=λG p n h=>⟨h.1,h.2.mono hm⟩;exact⟨c.cY,⟨c.g.1,λi ea I R=>⟨λaj=>((c.g.2 i ea I R).1 aj).mono hm,λaj=>by obtain⟨z,aB,r⟩:=(c.g.2 i ea I R).2 aj;exact⟨z,List.mem_append_left _ aB,r⟩⟩⟩,λp az n aA=>aV _ _ _ (c.kept p az n aA),λp az v Z n aA=>aV _ _ _ (c.hand p az v Z n aA)⟩
theorem oV.graph(c:oV d own H){b7:aI}(dm:uu d own b7)(l:H.S.G.fo b7):oV d own (H.graph b7):=⟨c.cY.graph dm.1,dm,λp az n pB=>by have:=c.kept p az n pB;exact(OK _ _).mono _ _ _ _ c.g dm l this,λp az v Z n pB=>(OK _ _).mono _ _ _ _ c.g dm l (c.hand p az v Z n pB)⟩
theorem oV.amz(c:oV d own H){x:fp}(az:fx x.p=J){q:aI×Int×Int}{ea:bi}(aX:q.2.2=0->q=H.S.G.add ea)(m1:q.2.2≠0->q.1=H.S.G)(ck:q.1.dg)(I:ea.parent= -1)(ab:x.kind=2/\ea.bu<0/\ea.cell=x.k/\ea.c5=x.r\/x.kind=3/\ea.bu=x.q/\(q.2.2=0->0<=x.q))(e:jr)(he:q.2.2=0->e.code=0):∃oc,oV (d++[(x,e)]) oc ((H.graph q.1).jD x.p q.2.1 q.2.2).1:=by
 by_cases aB:q.2.2=0
 ·have eq:=aX aB;rw[eq]at aB ck;have amA:e.code=0:=he (by rw[eq];exact aB);obtain⟨aP,a2,bl,cr⟩:=aBX c.g.1 aB ck I;have be:(H.S.G.add ea).2.1=(H.S.G.nodes.length:Int):=by rw[(Wn aB).1]
  have hm:∀y∈h3 d,y∈h3 (d++[(x,e)]):=λy bH=>by rw[Jp];exact List.mem_append_left _ bH
  let oc:Int->Int:=λi=>if i=(H.S.G.nodes.length:Int)then x.p else own i;have hold:∀n,H.S.G.has n=J->oc (H.S.G.root n)=own (H.S.G.root n):=λn aA=>by have:=(Wt c.g.1 aA).2.1;simp only[aI.has,decide_eq_true_eq]at this;show(if H.S.G.root n=(H.S.G.nodes.length:Int)then x.p else own (H.S.G.root n))=_;rw[if_neg (by omega)]
  have eA:∀p n,w8 d own H.S.G p n->w8 (d++[(x,e)]) oc (H.S.G.add ea).1 p n:=λp n h=>by refine⟨(bl.has h.1).1,?_⟩;rw[fo.root bl c.g.1 ck h.1,hold n h.1];exact h.2.mono hm
  have aB0:(H.S.G.add ea).1.root (H.S.G.add ea).2.1=(H.S.G.nodes.length:Int):=by
   unfold aI.root;have aA:=Wp (G:=H.S.G) (ea:=ea);rw[be]at aP ⊢;have b1:(H.S.G.add ea).1.nodes.getD ((H.S.G.nodes.length:Int)).toNat fL=ea:=by rw[cr];exact aA.2
   rw[aI.Ev ck aP,b1,I,aI.Ew (by simp[aI.has])];rfl
  have J3:w8 (d++[(x,e)]) oc (H.S.G.add ea).1 x.p (H.S.G.add ea).2.1:=⟨aP,by
   rw[aB0];show jj _ x.p (if(H.S.G.nodes.length:Int)=(H.S.G.nodes.length:Int)then x.p else own (H.S.G.nodes.length:Int));rw[if_pos rfl];exact .refl⟩
  have amB:∀(i:Nat) (m:bi),(H.S.G.add ea).1.nodes[i]? =o m->(H.S.G.nodes[i]? =o m/\oc i=own i)\/(i=H.S.G.nodes.length/\m=ea):=λi m af=>by
   rw[cr]at af;by_cases ba:i<H.S.G.nodes.length
   ·rw[l0 ba]at af;exact .inl ⟨af,by show(if(i:Int)=(H.S.G.nodes.length:Int)then x.p else own i)=_;rw[if_neg (by omega)]⟩
   ·rw[l1 (by omega)]at af;have hg:i - H.S.G.nodes.length=0:=by have:=(fO.1 af).1;simpa using this
    rw[hg]at af;obtain rfl:ea=m:=by simpa using af
    exact .inr ⟨by omega,rfl⟩
  refine⟨oc,?_⟩;rw[eq];have amC:=(c.cY.graph ck).jD (p:=x.p) (n:=(H.S.G.add ea).2.1) (c:=(H.S.G.add ea).2.2) UR;have ui:((H.graph (H.S.G.add ea).1).jD x.p (H.S.G.add ea).2.1 (H.S.G.add ea).2.2).1={(H.graph (H.S.G.add ea).1)with a7:=H.a7.set x.p.toNat (H.hand x.p++[ge (H.S.G.add ea).2.1])}:=by unfold dh.jD;rw[if_neg (λh=>h aB)];rfl
  rw[ui]at amC ⊢;refine⟨amC,⟨ck,λi m af amD=>⟨λiS=>?_,λiS=>?_⟩⟩,λp az n aA=>eA p n (c.kept p az n aA),λp uM v Z n aA=>?_⟩
  ·rcases amB i m af with⟨cg,c0⟩|⟨cg,c0⟩
   ·rw[c0];exact((c.g.2 i m cg amD).1 iS).mono hm
   ·subst c0;rcases ab with⟨_,cA,_⟩|⟨cF,cA,_⟩
    ·omega
    ·rw[cg];show jj _ (if((H.S.G.nodes.length:Nat):Int)=(H.S.G.nodes.length:Int)then x.p else own (H.S.G.nodes.length:Int)) m.bu;rw[if_pos rfl,cA];refine .fwd .refl ?_;rw[Jp];refine List.mem_append_right _ ?_;simp[h3,cF,amA]
  ·rcases amB i m af with⟨cg,c0⟩|⟨cg,c0⟩
   ·obtain⟨z,xp,r⟩:=(c.g.2 i m cg amD).2 iS;refine⟨z,List.mem_append_left _ xp,?_⟩;rw[c0];exact r
   ·subst c0;rcases ab with⟨cF,cA,dK,dR⟩|⟨cF,cA,dK⟩
    ·refine⟨(x,e),by simp,cF,amA,?_,dK.symm,dR.symm⟩;rw[cg];show x.p=(if((H.S.G.nodes.length:Nat):Int)=(H.S.G.nodes.length:Int)then x.p else own (H.S.G.nodes.length:Int));rw[if_pos rfl]
    ·exfalso;have:=dK (by rw[eq];exact aB);omega
  ·rcases aBW az uM Z with h|⟨amE,h⟩
   ·exact eA p n (c.hand p uM v h n aA)
   ·rcases qV.1 h with h|h
    ·exact eA p n (c.hand p uM v (by rw[<-amE];exact h) n aA)
    ·obtain rfl:v=_:=by simpa using h
     rw[<-amE];have:n=(H.S.G.add ea).2.1:=by simpa[ge,ax.fX,lO]using aA
     rw[this];exact J3
 ·refine⟨own,?_⟩;rw[m1 aB];have ui:((H.graph H.S.G).jD x.p q.2.1 q.2.2).1=H:=by unfold dh.jD;rw[if_pos aB];rfl
  rw[ui];exact c.more _
theorem aB1(c:oV d own H){G:aI}(dm:uu d own G){e:lP}{gR:aI}(ak:uu d own gR)(l:gR.fo G)(az:0<=e.bu)(h:OH (w8 d own) gR e):Wv d G e:=by
 obtain⟨⟨I,R⟩,aj,aH,bq⟩:=h;have amF:G.path e.node=gR.path e.node:=l.path ak.1 dm.1 (e.node.toNat+1) e.node (by omega) I;have amG:G.target e.node=gR.target e.node:=by unfold aI.target;rw[amF]
 obtain⟨bx,bL,gE⟩:=Wt ak.1 I;have ad:∀ea∈gR.path e.node,mL ea.c5 e.right=e.right:=by
  rcases bq with⟨c4,iV⟩|⟨c4,iV⟩
  ·rw[c4];exact amy ak.1 (k:=0) (by decide) (by decide) iV
  ·rw[c4];exact amy ak.1 (k:=1) (by decide) (by decide) iV
 obtain⟨z,aB,ei,fd,ha,l4,j8⟩:=(ak.2 _ _ (amx bL) gE).2 (by rw[<-bx];exact aj);have qb:(((gR.root e.node).toNat:Nat):Int)=gR.root e.node:=by simp only[aI.has,decide_eq_true_eq]at bL;omega
 rw[qb]at ha;have ga:gR.at_ (gR.root e.node)∈gR.path e.node:=by
  rw[<-aI.zh];refine nt.2 ⟨_,?_,rfl⟩;unfold aI.root;rw[List.getLastD_eq_getLast?];cases am:(gR.hM e.node).getLast? with
  |none=>rw[List.getLast?_eq_none_iff]at am;exact absurd am (Wr ak.1 I)
  |some a=>exact List.mem_of_getLast? am
 refine⟨⟨z,aB,ei,fd,by rw[l4,aH,bx],?_,by rw[ha];exact R⟩,(l.has I).1,by rw[amG];exact aj,by rw[amG];exact aH.symm,by rw[amF];exact ad,az⟩;rw[j8];exact ad _ ga
theorem oV.step(c:oV d own H)(x:fp):∃oc,oV (d++[(x,(H.step x).2)]) oc (H.step x).1/\∃ext,(H.step x).1.S.log=H.S.log++ext/\∀e∈ext,Wv d (H.step x).1.S.G e:=by
 have w9:∀{k5:dh},k5.S.log=H.S.log->∃ext,k5.S.log=H.S.log++ext/\∀e∈ext,Wv d k5.S.G e:=λh=>⟨[],by simp[h],λe he=>by cases he⟩;unfold dh.step;by_cases cF:x.kind=1
 ·rw[if_pos cF];unfold dh.load;split
  ·exact⟨own,c.more _,w9 rfl⟩
  ·split
   ·exact⟨own,c.more _,w9 rfl⟩
   ·rename_i I R;have a5:=(c.cY.step {x with kind:=1}).cY;rw[ax3 rfl]at a5;unfold dh.load at a5;rw[if_neg I,if_neg R]at a5;refine⟨own,oV.more ⟨a5,c.g,λp az=>?_,c.hand⟩ _,w9 rfl⟩;show dV (w8 d own) H.S.G p ((H.S.kept.set x.p.toNat ce).getD p.toNat ce);by_cases e:x.p.toNat=p.toNat
    ·rw[cZ,pR,if_pos e];split<;>exact dV.zero
    ·rw[cZ,uP e];exact c.kept p az
 rw[if_neg cF];by_cases cA:x.kind=2\/x.kind=3
 ·rw[if_pos cA];by_cases az:fx x.p=U
  ·rw[if_pos az];exact⟨own,c.more _,w9 rfl⟩
  ·rw[if_neg az];have az:fx x.p=J:=by simpa using az
   have amH:∀{k5:dh} {p n k:Int},k=0->(k5.jD p n k).2.code=0:=λh=>by unfold dh.jD;rw[if_neg (λE=>E h)];rfl
   split
   ·rename_i R;obtain⟨oc,h⟩:=c.amz az (ea:=⟨-1,x.g,x.r,x.k, -1,0⟩) (λh=>(aBY h).2) ax4 (c.g.1.iv _ _ _) rfl (.inl ⟨R,by show(-1:Int)<0;decide,rfl,rfl⟩) ((H.graph (H.S.G.iv x.k x.r x.g).1).jD x.p (H.S.G.iv x.k x.r x.g).2.1 (H.S.G.iv x.k x.r x.g).2.2).2 amH;refine⟨oc,h,w9 ?_⟩;unfold dh.jD;split<;>rfl
   ·rename_i R;obtain⟨oc,h⟩:=c.amz az (ea:=⟨-1,x.g,x.r,0,x.q,x.k⟩) (λh=>(Wu h).2) ax5 (c.g.1.ih _ _ _ _) rfl (.inr ⟨cA.resolve_left R,rfl,λaB=>by have:=(Wu aB).1;simp only[Aw,decide_eq_true_eq]at this;exact this.1⟩) ((H.graph (H.S.G.ih x.q x.k x.r x.g).1).jD x.p (H.S.G.ih x.q x.k x.r x.g).2.1 (H.S.G.ih x.q x.k x.r x.g).2.2).2 amH;refine⟨oc,h,w9 ?_⟩;unfold dh.jD;split<;>rfl
 rw[if_neg cA];by_cases dR:x.kind=4
 ·rw[if_pos dR];have a5:=(c.cY.step x).cY;unfold dh.step at a5;rw[if_neg cF,if_neg cA,if_pos dR]at a5;unfold dh.call at a5 ⊢;split
  ·exact⟨own,c.more _,w9 rfl⟩
  ·rename_i I;rw[if_neg I]at a5;by_cases az:0<=x.p
   ·have aV:dV (w8 d own) H.S.G x.p (if 0<=x.h then(H.hand x.p).getD x.h.toNat ce else kG x.n):=by
     split
     ·exact dV.getD (c.hand x.p az) _
     ·exact dV.int
    generalize (if 0<=x.h then(H.hand x.p).getD x.h.toNat ce else kG x.n)=arg at aV a5;have r:=aBS (OK d own) (ms:=H.ms) (p:=x.p) (f:=x.k) (fuel:=2000) (v:=arg) az c.g c.kept aV;generalize eu H.ms x.p x.k arg 2000 H.S=q at a5 r;obtain⟨b0,v,n,k⟩:=q;obtain⟨i1,hh,iM,_,ext,aB2,aB3⟩:=r;refine⟨own,oV.more ⟨a5,i1,iM,λp az v Z n aA=>(OK _ _).mono _ _ _ _ c.g i1 hh (c.hand p az v Z n aA)⟩ _,ext,aB2,λe he=>?_⟩;obtain⟨aB4,gR,g6,gg,tX⟩:=aB3 e he;exact aB1 c i1 g6 gg aB4 tX
   ·have aX:eu H.ms x.p x.k (if 0<=x.h then(H.hand x.p).getD x.h.toNat ce else kG x.n) 2000 H.S=(H.S,ce,0,1):=by unfold eu;rw[if_pos (by omega)]
    rw[aX];exact⟨own,c.more _,w9 rfl⟩
 rw[if_neg dR];by_cases hC:x.kind=5
 ·rw[if_pos hC];exact⟨own,(c.graph (c.g.same (c.g.1.cut _) (S' _ _).1) (amn _ _)).more _,w9 rfl⟩
 rw[if_neg hC];by_cases iJ:x.kind=6
 ·rw[if_pos iJ];exact⟨own,(c.graph (c.g.same c.g.1.gate (S9 _).1) (OI _)).more _,w9 rfl⟩
 ·rw[if_neg iJ];exact⟨own,c.more _,w9 rfl⟩
theorem amI:oV [] (λ_=>0) p0:=by
 refine⟨UQ,⟨abJ,λi ea h=>by have h:([]:List bi)[i]? =o ea:=h;simp at h⟩,λp _ n aA=>?_,λp _ v Z=>?_⟩
 ·exfalso;have aB:Dd.getD p.toNat ce=ce:=by
   have:p.toNat=0\/p.toNat=1\/p.toNat=2\/p.toNat=3\/4<=p.toNat:=by omega
   rcases this with e|e|e|e|e
   ·rw[e];rfl
   ·rw[e];rfl
   ·rw[e];rfl
   ·rw[e];rfl
   ·rw[cZ,mE (by simpa using e)];rfl
  have aA:n∈(Dd.getD p.toNat ce).fX:=aA;rw[aB,amo]at aA;cases aA
 ·exfalso;have Z:v∈([[],[],[],[]]:List (List ax)).getD p.toNat []:=Z;have aB:([[],[],[],[]]:List (List ax)).getD p.toNat []=[]:=by
   have:p.toNat=0\/p.toNat=1\/p.toNat=2\/p.toNat=3\/4<=p.toNat:=by omega
   rcases this with e|e|e|e|e
   ·rw[e];rfl
   ·rw[e];rfl
   ·rw[e];rfl
   ·rw[e];rfl
   ·rw[cZ,mE (by simpa using e)];rfl
  rw[aB]at Z;cases Z
end
def ic(S:List Bool)(p:Int):Bool:=S.getD p.toNat U
def nn(S:List Bool)(p:Int):List Bool:=S.set p.toNat J
def nP(S:List Bool)(z:Int×Int):List Bool:=if(ic S z.1||ic S z.2)=J then nn (nn S z.1) z.2 else S
def k6(bX:List (Int×Int))(S:List Bool):List Bool:=bX.foldl nP S
def pq(p:Int):List Bool:=if fx p then nn [U,U,U,U] p else[U,U,U,U]
def np(bX:List (Int×Int))(p:Int):List Bool:=k6 bX (k6 bX (k6 bX (k6 bX (pq p))))
def Jq(bX:List (Int×Int)):Prop:=∀z∈bX,fx z.1=J/\fx z.2=J
theorem Du(S:List Bool)(p:Int):(nn S p).length=S.length:=by simp[nn]
theorem amJ(S:List Bool)(z:Int×Int):(nP S z).length=S.length:=by
 unfold nP;split
 ·rw[Du,Du]
 ·rfl
theorem w':∀(bX:List (Int×Int)) (S:List Bool),(k6 bX S).length=S.length
 |[],S=>rfl
 |z::l,S=>by show(k6 l (nP S z)).length=_;rw[w' l,amJ]
theorem Jr(p:Int):(pq p).length=4:=by
 unfold pq;split
 ·rw[Du];rfl
 ·rfl
theorem Ww{S:List Bool}{p q:Int}(h:ic S q=J):ic (nn S p) q=J:=by
 unfold ic nn at*;rw[cZ,pR];split
 ·split
  ·rfl
  ·rename_i I R;rw[cZ,mE (by omega)]at h;cases h
 ·exact h
theorem Wx{S:List Bool}{p:Int}(az:fx p=J)(am:S.length=4):ic (nn S p) p=J:=by have:=nl.1 az;unfold ic nn;rw[cZ,pR,if_pos rfl,if_pos (by omega)];rfl
theorem Wy{S:List Bool}{p q:Int}(az:fx p=J)(aX:fx q=J)(h:ic (nn S p) q=J):q=p\/ic S q=J:=by
 have I:=nl.1 az;have R:=nl.1 aX;by_cases e:p.toNat=q.toNat
 ·exact .inl (by omega)
 ·unfold ic nn at h;rw[cZ,uP e]at h;exact .inr h
theorem Wz{S:List Bool}{z:Int×Int}{q:Int}(h:ic S q=J):ic (nP S z) q=J:=by
 unfold nP;split
 ·exact Ww (Ww h)
 ·exact h
theorem jp:∀(bX:List (Int×Int)) {S:List Bool} {q:Int},ic S q=J->ic (k6 bX S) q=J
 |[],S,q,h=>h
 |z::l,S,q,h=>jp l (Wz h)
theorem WA:∀{bX:List (Int×Int)} {S:List Bool},Jq bX->S.length=4->∀z∈bX,(ic S z.1=J\/ic S z.2=J)->ic (k6 bX S) z.1=J/\ic (k6 bX S) z.2=J
 |[],S,_,_,z,aB,_=>by cases aB
 |y::l,S,aK,am,z,aB,h=>by
   have bH:=aK y (by simp);rcases mJ.1 aB with rfl|aB
   ·have I:ic (nP S z) z.1=J/\ic (nP S z) z.2=J:=by unfold nP;rw[if_pos (by rw[o3];exact h)];exact⟨Ww (Wx bH.1 am),Wx bH.2 (by rw[Du];exact am)⟩
    exact⟨jp l I.1,jp l I.2⟩
   ·show ic (k6 l (nP S y)) z.1=J/\ic (k6 l (nP S y)) z.2=J;exact WA (bX:=l) (S:=nP S y) (λw hw=>aK w (by simp[hw])) (by rw[amJ];exact am) z aB (h.imp Wz Wz)
theorem Js{all:List (Int×Int)}{p:Int}:∀{bX:List (Int×Int)} {S:List Bool},(∀z∈bX,z∈all)->Jq bX->(∀q,fx q=J->ic S q=J->jj all p q)->∀q,fx q=J->ic (k6 bX S) q=J->jj all p q
 |[],S,_,_,h=>h
 |z::l,S,aC,aK,h=>by
   have aB:=aK z (by simp);show ∀q,fx q=J->ic (k6 l (nP S z)) q=J->jj all p q;refine Js (bX:=l) (S:=nP S z) (λw hw=>aC w (by simp[hw])) (λw hw=>aK w (by simp[hw])) λq aX hm=>?_;have hm:ic (nP S z) q=J:=hm;unfold nP at hm;split at hm
   ·rename_i an;rw[o3]at an;have ad:jj all p z.1/\jj all p z.2:=by
     rcases an with an|an
     ·have:=h _ aB.1 an;exact⟨this,this.fwd (aC z (by simp))⟩
     ·have:=h _ aB.2 an;exact⟨this.bwd (aC z (by simp)),this⟩
    rcases Wy aB.2 aX hm with rfl|hm
    ·exact ad.2
    ·rcases Wy aB.1 aX hm with rfl|hm
     ·exact ad.1
     ·exact h q aX hm
   ·exact h q aX hm
def z0(S:List Bool):Nat:=S.countP id
theorem aB5:∀a b c d eR gl eo mf:Bool,(a=J->eR=J)->(b=J->gl=J)->(c=J->eo=J)->(d=J->mf=J)->([a,b,c,d]=[eR,gl,eo,mf]\/z0 [a,b,c,d]+1<=z0 [eR,gl,eo,mf]):=by decide
theorem aB6{S T:List Bool}(cw:S.length=4)(hl:T.length=4)(h:∀q:Int,ic S q=J->ic T q=J):S=T\/z0 S+1<=z0 T:=by
 match S,cw,T,hl with
 |[a,b,c,d],_,[eR,gl,eo,mf],_=>exact aB5 a b c d eR gl eo mf (h 0) (h 1) (h 2) (h 3)
theorem aB7{S:List Bool}(cw:S.length=4):z0 S<=4:=by unfold z0;have:=List.countP_le_length (p:=id) (l:=S);omega
theorem aB8{p:Int}(az:fx p=J):1<=z0 (pq p):=by
 have h:=nl.1 az;unfold pq;rw[if_pos az];unfold nn;have:p.toNat=0\/p.toNat=1\/p.toNat=2\/p.toNat=3:=by omega
 rcases this with e|e|e|e<;>rw[e]<;>decide
theorem aB9(bX:List (Int×Int)){p:Int}(az:fx p=J):k6 bX (np bX p)=np bX p:=by
 unfold np;have st:∀S:List Bool,S.length=4->k6 bX S=S\/z0 S+1<=z0 (k6 bX S):=λS cw=>by
  rcases aB6 cw (T:=k6 bX S) (by rw[w'];exact cw) (λq=>jp bX)with h|h
  ·exact .inl h.symm
  ·exact .inr h
 have hT:=Jr p;have cB:=aB8 az;generalize pq p=Jt at hT cB ⊢;have cD:(k6 bX Jt).length=4:=by rw[w'];exact hT
 have c9:(k6 bX (k6 bX Jt)).length=4:=by rw[w'];exact cD
 have jx:(k6 bX (k6 bX (k6 bX Jt))).length=4:=by rw[w'];exact c9
 have ts:(k6 bX (k6 bX (k6 bX (k6 bX Jt)))).length=4:=by rw[w'];exact jx
 rcases st Jt hT with h|h
 ·rw[h,h,h,h,h]
 rcases st _ cD with I|I
 ·rw[I,I,I,I]
 rcases st _ c9 with R|R
 ·rw[R,R,R]
 rcases st _ jx with aj|aj
 ·rw[aj,aj]
 ·have:=aB7 ts;omega
theorem aB'{bX:List (Int×Int)}(aK:Jq bX){p q:Int}(az:fx p=J)(aX:fx q=J):ic (np bX p) q=J↔jj bX p q:=by
 have fB:∀q,fx q=J->ic (pq p) q=J->jj bX p q:=λq aX h=>by
  unfold pq at h;rw[if_pos az]at h;rcases Wy az aX h with rfl|h
  ·exact .refl
  ·exfalso;unfold ic at h;have:q.toNat=0\/q.toNat=1\/q.toNat=2\/q.toNat=3:=by have:=nl.1 aX;omega
   rcases this with e|e|e|e<;>rw[e]at h<;>cases h
 constructor
 ·intro h;have OL:∀z∈bX,z∈bX:=λz aB=>aB;exact Js OL aK (Js OL aK (Js OL aK (Js OL aK fB))) q aX h
 ·intro h;have am:(np bX p).length=4:=by unfold np;rw[w',w',w',w',Jr]
  have bo:=aB9 bX az;clear aX;induction h with
  |refl=>
    have:ic (pq p) p=J:=by unfold pq;rw[if_pos az];exact Wx az rfl
    exact jp _ (jp _ (jp _ (jp _ this)))
  |fwd _ hm aR=>have:=WA aK am _ hm (.inl aR);rw[bo]at this;exact this.2
  |bwd _ hm aR=>have:=WA aK am _ hm (.inr aR);rw[bo]at this;exact this.1
theorem jj.out{bX:List (Int×Int)}(aK:Jq bX){p q:Int}(az:Go.Proofs.YtkdbjfncchmmpaaGreat.fx p=U)(h:jj bX p q):q=p:=by
 induction h with
 |refl=>rfl
 |fwd _ hm aR=>rw[aR]at hm;rw[(aK _ hm).1]at az;cases az
 |bwd _ hm aR=>rw[aR]at hm;rw[(aK _ hm).2]at az;cases az
def Dv(d:jF)(p cell right:Int):Bool:=d.any λz=>decide (z.1.kind=2)&&(decide (z.2.code=0)&&(decide (z.1.k=cell)&&(decide (mL z.1.r right=right)&&(ic (np (h3 d) p) z.1.p||decide (z.1.p=p)))))
def Dw(d:jF):Prop:=∀z∈d,z.2.code=0->(z.1.kind=2->fx z.1.p=J)/\(z.1.kind=3->fx z.1.p=J/\fx z.1.q=J)
theorem Dw.bX{d:jF}(h:Dw d):Jq (h3 d):=by intro z aB;unfold h3 at aB;obtain⟨w,hw,rfl⟩:=nt.1 aB;rw[List.mem_filter,gv,decide_eq_true_eq,decide_eq_true_eq]at hw;exact(h w hw.1 hw.2.2).2 hw.2.1
theorem aCa(H:dh)(x:fp):(H.step x).2.code=0->(x.kind=2->fx x.p=J)/\(x.kind=3->fx x.p=J/\fx x.q=J):=by
 intro an;unfold dh.step at an;by_cases cF:x.kind=1
 ·exact⟨λh=>by omega,λh=>by omega⟩
 rw[if_neg cF]at an;by_cases cA:x.kind=2\/x.kind=3
 ·rw[if_pos cA]at an;by_cases az:fx x.p=U
  ·rw[if_pos az]at an;exact absurd an (by simp[jr.no])
  ·rw[if_neg az]at an;have az:fx x.p=J:=by simpa using az
   refine⟨λ_=>az,λdK=>⟨az,?_⟩⟩;rw[if_neg (by omega)]at an;unfold dh.jD at an;by_cases aB:(H.S.G.ih x.q x.k x.r x.g).2.2=0
   ·have:=(Wu aB).1;simp only[Aw,decide_eq_true_eq]at this;exact nl.2 ⟨this.1,this.2.1⟩
   ·rw[if_pos aB]at an;exact absurd an aB
 ·exact⟨λh=>absurd (.inl h) cA,λh=>absurd (.inr h) cA⟩
theorem amK{a x y z:Int}{out:List Int}:z∈sl a x y out↔z∈out\/(x=a/\z=y):=by
 unfold sl;by_cases h:x=a/\out.contains y=U
 ·rw[if_pos h,qV];simp[h.1]
 ·rw[if_neg h];constructor
  ·exact .inl
  ·rintro(I|⟨I,rfl⟩)
   ·exact I
   ·by_cases an:out.contains z=J
    ·simpa using an
    ·exact absurd ⟨I,by simpa using an⟩ h
theorem aCb{a z:Int}{out:List Int}{l:Int×Int}:z∈qJ a out l↔z∈out\/(l.1=a/\z=l.2)\/(l.2=a/\z=l.1):=by unfold qJ;rw[amK,amK,or_assoc]
theorem Ju{a z:Int}:∀{gj:List (Int×Int)} {out:List Int},z∈gj.foldl (qJ a) out↔z∈out\/∃l∈gj,(l.1=a/\z=l.2)\/(l.2=a/\z=l.1)
 |[],out=>by simp
 |l::gj,out=>by rw[u3,Ju,aCb,or_assoc];simp
theorem aCc{bX:List (Int×Int)}{p:Int}:∀(f i:Nat) (out:List Int),i<=out.length->2*bX.length+2<=f+i->oU bX p out->p∈out->(∀z∈out,jj bX p z)->(∀(D:Nat) (a:Int),D<i->out[D]? =o a->∀l∈bX,(l.1=a->l.2∈out)/\(l.2=a->l.1∈out))->∀q,q∈zY bX f i out↔jj bX p q:=by
 intro f;induction f with
 |zero=>intro i out I R g;have:=g.len;omega
 |succ f aR=>
   intro i out I R g az aC an q;unfold zY;by_cases ba:i<out.length
   ·rw[if_pos ba];obtain⟨dT,he⟩:=VS (a:=out.getD i 0) bX out;have amL:out[i]? =o (out.getD i 0):=by simp[cZ,ba]
    have WB:∀z∈out,z∈bX.foldl (qJ (out.getD i 0)) out:=λz aB=>Ju.2 (.inl aB);have OM:jj bX p (out.getD i 0):=aC _ (o6 amL);refine aR (i+1) _ (by rw[he];simp;omega) (by omega) (oU.fold bX out (λl am=>am) g) (WB p az) (λz aB=>?_) (λD a ae aV l am=>?_) q
    ·rcases Ju.1 aB with h|⟨l,am,⟨h,rfl⟩|⟨h,rfl⟩⟩
     ·exact aC z h
     ·rw[<-h]at OM;exact OM.fwd (b:=l.2) am
     ·rw[<-h]at OM;exact OM.bwd (a:=l.1) am
    ·have FH:out[D]? =o a:=by rw[he,l0 (by omega)]at aV;exact aV
     by_cases tz:D=i
     ·subst tz;rw[amL]at FH;injection FH with FH;exact⟨λh=>Ju.2 (.inr ⟨l,am,.inl ⟨h.trans FH.symm,rfl⟩⟩),λh=>Ju.2 (.inr ⟨l,am,.inr ⟨h.trans FH.symm,rfl⟩⟩)⟩
     ·obtain⟨aW,bD⟩:=an D a (by omega) FH l am;exact⟨λh=>WB _ (aW h),λh=>WB _ (bD h)⟩
   ·rw[if_neg ba];refine⟨aC q,λh=>?_⟩;have mh:∀a∈out,∀l∈bX,(l.1=a->l.2∈out)/\(l.2=a->l.1∈out):=λa aV l am=>by obtain⟨D,ae⟩:=List.mem_iff_getElem?.1 aV;exact an D a (by have:=(fO.1 ae).1;omega) ae l am
    induction h with
    |refl=>exact az
    |fwd _ hm aR=>exact(mh _ aR _ hm).1 rfl
    |bwd _ hm aR=>exact(mh _ aR _ hm).2 rfl
theorem amM(bX:List (Int×Int))(p q:Int):(ut bX p).contains q=J↔jj bX p q:=by
 rw[List.contains_iff_mem];exact aCc _ 0 [p] (mI _) (by omega) (VT bX p) (by simp) (λz aB=>by
  obtain rfl:z=p:=by simpa using aB
  exact .refl) (λD a ae=>absurd ae (Nat.not_lt_zero _)) q
def Bp(d:jF)(p cell right:Int):Prop:=∃z∈d,z.1.kind=2/\z.2.code=0/\z.1.k=cell/\mL z.1.r right=right/\jj (h3 d) p z.1.p
theorem Bp.mono{d:jF}{p cell right:Int}(h:Bp d p cell right)(e:jF):Bp (d++e) p cell right:=by obtain⟨z,aB,I,R,aj,aH,bq⟩:=h;exact⟨z,List.mem_append_left _ aB,I,R,aj,aH,bq.mono λx aF=>by rw[Jp];exact List.mem_append_left _ aF⟩
def uv(d:jF):List sm:=(d.filter λz=>decide (z.1.kind=2)&&decide (z.2.code=0)).map λz=>⟨z.1.p,z.1.k,z.1.r⟩
theorem aCd(d e:jF):uv (d++e)=uv d++uv e:=by simp[uv]
theorem amN(d:jF)(p cell right:Int):vN (uv d) (h3 d) p cell right=J↔Bp d p cell right:=by
 unfold vN uv Bp;rw[List.any_eq_true];constructor
 ·rintro⟨g,a5,h⟩;obtain⟨z,aB,rfl⟩:=nt.1 a5;rw[List.mem_filter,gv,decide_eq_true_eq,decide_eq_true_eq]at aB;rw[gv,gv,decide_eq_true_eq,decide_eq_true_eq]at h;exact⟨z,aB.1,aB.2.1,aB.2.2,h.1,h.2.1,(amM _ _ _).1 h.2.2⟩
 ·rintro⟨z,aB,I,R,aj,aH,bq⟩;refine⟨⟨z.1.p,z.1.k,z.1.r⟩,nt.2 ⟨z,?_,rfl⟩,?_⟩
  ·rw[List.mem_filter,gv,decide_eq_true_eq,decide_eq_true_eq];exact⟨aB,I,R⟩
  ·rw[gv,gv,decide_eq_true_eq,decide_eq_true_eq];exact⟨aj,aH,(amM _ _ _).2 bq⟩
theorem aCe(bX:List (Int×Int)){p:Int}(az:fx p=U):np bX p=[U,U,U,U]:=by
 have I:∀z:Int×Int,nP [U,U,U,U] z=[U,U,U,U]:=λz=>by
  have aB:∀q:Int,ic [U,U,U,U] q=U:=λq=>by
   unfold ic;have:q.toNat=0\/q.toNat=1\/q.toNat=2\/q.toNat=3\/4<=q.toNat:=by omega
   rcases this with e|e|e|e|e
   ·rw[e];rfl
   ·rw[e];rfl
   ·rw[e];rfl
   ·rw[e];rfl
   ·rw[cZ,mE (by simpa using e)];rfl
  unfold nP;rw[aB,aB];rfl
 have au:k6 bX [U,U,U,U]=[U,U,U,U]:=by
  unfold k6;induction bX with
  |nil=>rfl
  |cons z l aR=>rw[u3,I];exact aR
 have ak:pq p=[U,U,U,U]:=by unfold pq;rw[az];rfl
 unfold np;rw[ak,au,au,au,au]
theorem aCf{d:jF}(bg:Dw d)(p cell right:Int):Dv d p cell right=J↔Bp d p cell right:=by
 unfold Dv Bp;rw[List.any_eq_true];have key:∀z∈d,z.1.kind=2->z.2.code=0->((ic (np (h3 d) p) z.1.p||decide (z.1.p=p))=J↔jj (h3 d) p z.1.p):=λz aB I R=>by
  have amO:=(bg z aB R).1 I;rw[o3,decide_eq_true_eq];cases az:fx p with
  |true=>rw[aB' bg.bX az amO];exact⟨λh=>h.elim id λh=>by rw[h];exact .refl,.inl⟩
  |false=>
    constructor
    ·rintro(h|h)
     ·rw[aCe _ az]at h;unfold ic at h;have:z.1.p.toNat=0\/z.1.p.toNat=1\/z.1.p.toNat=2\/z.1.p.toNat=3:=by have:=nl.1 amO;omega
      rcases this with e|e|e|e<;>rw[e]at h<;>cases h
     ·rw[h];exact .refl
    ·exact λh=>.inr (jj.out bg.bX az h)
 constructor
 ·rintro⟨z,aB,h⟩;rw[gv,gv,gv,gv,decide_eq_true_eq,decide_eq_true_eq,decide_eq_true_eq,decide_eq_true_eq]at h;obtain⟨I,R,aj,aH,bq⟩:=h;exact⟨z,aB,I,R,aj,aH,(key z aB I R).1 bq⟩
 ·rintro⟨z,aB,I,R,aj,aH,bq⟩;refine⟨z,aB,?_⟩;rw[gv,gv,gv,gv,decide_eq_true_eq,decide_eq_true_eq,decide_eq_true_eq,decide_eq_true_eq];exact⟨I,R,aj,aH,(key z aB I R).2 bq⟩
theorem aCg{d:jF}(bg:Dw d)(p cell right:Int):vN (uv d) (h3 d) p cell right=Dv d p cell right:=by rw[Bool.eq_iff_iff,amN,aCf bg]
structure FI(d:jF)(W:eE):Prop where
 jE:W.jE=uv d
 bX:W.bX=h3 d
 code:W.code=0
 at_:W.at_=0
theorem amP:FI [] rp:=⟨rfl,rfl,rfl,rfl⟩
theorem amQ{W:eE}:∀{ext:List lP},(∀e∈ext,vN W.jE W.bX e.bu e.cell e.right=J)->ext.foldl eE.ke W=W
 |[],_=>rfl
 |e::l,h=>by
   rw[u3];have:W.ke e=W:=by unfold eE.ke;rw[if_neg (λbA=>by rw[h e (by simp)]at bA;exact absurd bA.2 (by decide))]
   rw[this];exact amQ λz aB=>h z (by simp[aB])
theorem FI.step{d:jF}{own:Int->Int}{W:eE}(w:FI d W)(g:oV d own W.H)(x:fp):FI (d++[(x,(W.H.step x).2)]) (W.step x).1/\(W.step x).2.2=(0,0)/\∃oc,oV (d++[(x,(W.H.step x).2)]) oc (W.step x).1.H:=by
 obtain⟨oc,fH,ext,Da,Wb⟩:=g.step x;have aA:∀(V:eE),V=(if(W.H.step x).2.code=0 then({W with H:=(W.H.step x).1}:eE).note x else{W with H:=(W.H.step x).1})->V.jE=uv (d++[(x,(W.H.step x).2)])/\V.bX=h3 (d++[(x,(W.H.step x).2)])/\V.code=0/\V.at_=0/\V.H=(W.H.step x).1:=by
  rintro V rfl;rw[aCd,Jp,<-w.jE,<-w.bX];by_cases an:(W.H.step x).2.code=0
  ·rw[if_pos an];unfold eE.note;by_cases cA:x.kind=2
   ·rw[if_pos cA];refine⟨by simp[uv,cA,an],?_,w.code,w.at_,rfl⟩;simp[h3,cA]
   ·rw[if_neg cA];by_cases dK:x.kind=3
    ·rw[if_pos dK];refine⟨by simp[uv,dK],by simp[h3,dK,an],w.code,w.at_,rfl⟩
    ·rw[if_neg dK];exact⟨by simp[uv,cA],by simp[h3,dK],w.code,w.at_,rfl⟩
  ·rw[if_neg an];exact⟨by simp[uv,an],by simp[h3,an],w.code,w.at_,rfl⟩
 obtain⟨I,R,aj,aH,bq⟩:=aA _ rfl;have bg:(W.H.step x).1.S.log.drop W.H.S.log.length=ext:=by rw[Da];simp
 have aC:ext.foldl eE.ke (if(W.H.step x).2.code=0 then({W with H:=(W.H.step x).1}:eE).note x else{W with H:=(W.H.step x).1})=(if(W.H.step x).2.code=0 then({W with H:=(W.H.step x).1}:eE).note x else{W with H:=(W.H.step x).1}):=amQ λe he=>by rw[I,R,amN];obtain⟨⟨z,aB,ei,fd,ha,l4,j8⟩,_⟩:=Wb e he;exact Bp.mono ⟨z,aB,ei,fd,ha,l4,j8⟩ _
 unfold eE.step;simp only;rw[bg,aC];exact⟨⟨I,R,aj,aH⟩,by rw[aj,aH],oc,by rw[bq];exact fH⟩
def ON:List bb:=[.ops [.i (.v 2) (.box 5 (.v 0)),.i (.v 3) (.box 5 (.v 1)),Mp],.ops [r3,aT,r5,aT,afs,cn,SV,nH,aft,zf,afu,Em,cn,WF,.g (.l 1) J .l (.load J 3 (.l 0)),afv,.g (.l 3) J .l (.load J 3 (.l 0)),.g (.l 4) J .l (.call (.c (.fn 19 [] [])) [.l 2,.l 0]),Em,je],.ret]
theorem WC:cv aq aa 13 2 5 [0,1,2,3,4] ON [(.v 4)] J:=by refine⟨_,_,Tryz.func13,rfl,rfl,?_,?_,?_,?_,?_⟩<;>kernel_rfl
def OO:List bb:=[.ops [c6,bc,WD,afw],.cond (.v 5) [] [.exit 0],.block 1 [.ops [bc,c6,amR,Si,dc,c6,amR,Si,.i .l aka,B5],.cond (.v 6) [pd,.ret] []],wr]
def amS:List bb:=[pd,.ops [bc,WD,dc,WD,afx],.cond (.v 4) [pd,.ret] [],sL,.block 0 [.loop OO],ER,.ret]
theorem aCh:cv aq aa 34 2 7 [0,1,4,5,10,14,26] amS [(.v 2)] J:=by refine⟨_,_,Tryz.func34,rfl,rfl,?_,?_,?_,?_,?_⟩<;>kernel_rfl
def OP:List bb:=[Md,.cond (.v 12) [] [.exit 0],.block 1 [.ops [.i .l (.fe (o 82) ag (.v 9) (.v 11)),IS,.i (.v 5) VY,.i .n (.store 9 (.v 5) (.l 0))],.ops [c6,.i .l (.load J 9 (.v 5)),alS,cn,fs,ft,alF,.i (.v 7) aj9,.i .n (.store 5 (.v 6) (.l 1)),.i .n (.store 2 (.v 7) (.l 0))],.ops [Sj,aT,afe],.cond (.v 13) [.ops [.i .l (.load J 2 (.v 7)),IT,sX],.ret] [],.ops [fu,.i .l (.load J 5 (.v 6)),aj6,.i .l (.app U 41 (.l 2) (.l 0)),je]],Me]
def WE:List bb:=[.ops [IT,MY],.ops [bc,zR,.i (.v 8) akc],.cond (.v 8) [.ops [Tv,IT,sX],.ret] [],.ops [Ve,jA],aj8,.ops [.i (.v 9) (.a8 (.v 0)),.i (.v 10) (.len U (o 82) (.v 9)),HF],.block 0 [.loop OP],.ops [fu,EU,.i (.v 1) xV,sX],.ret]
theorem amT:cv aq aa 32 1 14 [0,2,3,4,5,7,8,9,12,15,16,17,18,29] WE [(.v 1),(.cell J 2 2)] U:=by refine⟨_,_,Tryz.func32,rfl,rfl,?_,?_,?_,?_,?_⟩<;>kernel_rfl
end Go.Proofs.YtkdbjfncchmmpaaGreat
