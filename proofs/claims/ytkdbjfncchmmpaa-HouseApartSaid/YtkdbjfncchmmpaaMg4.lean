/- The machine's push: in each order that Go leaves open. -/
import Derived.Test.YtkdbjfncchmmpaaMg3
import Derived.Test.YtkdbjfncchmmpaaRows
import Derived.Deep.QuietTactic
import Derived.BigQuiet
import Derived.Lib.SliceRun
import Derived.WalkLawsBesides
set_option linter.unusedSimpArgs false
set_option linter.unusedVariables false
set_option maxHeartbeats 4000000
set_option maxRecDepth 1000000
open Option renaming some→j,bind_eq_some_iff→c',map_eq_some_iff→dd,none→ab,bind_some→c7,map_some→hj
open List renaming replicate→ax,getElem?_eq_getElem→fz,getElem?_eq_some_iff→gg,length_append→eP,length_singleton→gp,getD→cK,length_cons→gT,length_nil→gK,getElem_mem→h2,all_eq_true→iR,length_map→iX,mem_range→jl,append_assoc→kv,getElem?_append_left→mJ,getElem?_eq_none→lU,map_cons→jU,length_set→kK,range→iQ,nil_append→k5,getElem?_cons_zero→n4,cons_append→l0,getElem?_append_right→pY,length_eq_zero_iff→p4,mem_of_getElem?→p6,mem_map→n0,getD_cons_zero→rB,mem_cons→pi,getElem?_take_of_lt→rW,append_nil→q9,getElem?_set→sv,map_nil→qQ,getElem?_set_ne→s',getElem?_map→s6
open Go.IntKind renaming i64→o,wrap→jN
open Nat renaming reduceAdd→aD,reduceSub→aO,le_refl→bV,reduceLeDiff→dI,lt_of_lt_of_le→eL,le_trans→ef,zero_add→hk,lt_or_ge→mc
open Go.Proofs.Try renaming prog→ar
open Bool renaming false→T,true→Q,and_eq_true→gS,false_eq_true→mI,and_true→r9
open Go renaming TypeId→aT,Oper→a0,Program→cp,Value→bK,FuncId→cJ,World→cQ,undef→fg,IntKind→jC,Code→ff
open Array renaming getD_eq_getD_getElem?→hB
open Option.some renaming injEq→g5,inj→nW
open Int renaming reduceEq→eD,natCast_zero→oU
open Prod.mk renaming injEq→jH
open Go.Region renaming binds→j8
open SizeOf renaming sizeOf→lB
open Ne renaming symm→kw
open List.cons renaming injEq→uu
open Iff renaming rfl→mY
namespace Go.Proofs.Ytkdbjfncchmmpaa
variable{bY:Nat->Nat->Prop}{O:ad}{rs ex es:List (List I)}{cs:List Int}{dy:I}{log:List oP}
open Go Go.RowKit
section
variable{P:cp}{W:hh}{f:cJ}{n aI:Nat}{aY:List Nat}{h J O af:ad}{V fB:List I}{args:List I}{all:Array a0}
theorem oS.draw(cX:k6 P W){id:Nat}{c:ff}(aj:c= .region id all Q)(p:oS P W f n aY args h (.halt [.code c]) V O)(w8:((iQ all.size).all λD=>(all.getD D default).after.all λe=> !j8 .any e||decide (e.on<D))=Q)(qf:aY.Nodup/\∀D s,aY[D]? =j s->(D<aI↔s<W.aI f))(mm:yr (W.e3 f) all=Q)(F:∀L,kN all (λ_ _=>False) (lX all) L->∃(bY:Nat->Nat->Prop) (pl:List (Nat×List Nat)) (bA:List aE),kN all bY (lX all) L/\rZ all pl (λ_=>T) bY/\nx P (W.a2 f) n aY all [] (iK Q all pl)=j bA/\bo (a3 P W) aI [.ops bA,.halt []] V [] O=j (.halt [],fB,af)):oS P W f n aY args h .ret fB af:=by intro m w br hw e6 cs;obtain⟨eS,t2,c9,dx,gH,b4,c8,dm,b2,ds,fb,aJ,gU,gz,i6⟩:=p m w br hw e6 cs;subst aj;obtain⟨L,gu,bN,bL,c2,fm⟩:=aeh (P:=P) (all:=all) (id:=id) (b:=eS) (a:=aJ) (K:=[]) (cs:=cs) (w:=dm) cX (λD U e he ai=>by rw[iR]at w8;have:=w8 D (jl.2 U);rw[Array.all_eq_true']at this;have:=this e he;simpa[ai]using this);obtain⟨bY,pl,bA,ao,aq,bm,ck⟩:=F L bN;obtain⟨cV,aB,uw⟩:=GE (K:=[]) cX aq mm qf bm ck b4;obtain⟨je,jA,fT,jf,lx,bf,mQ,oJ,xO⟩:=aB c8 gu aJ eS cs L ao (c2 _ _ ds) gU gz;refine⟨eS,cV,c9,dx,gH,uw,dX.steps i6 (dX.after b2 fb (dX.steps bL (dX.after (Ext.refl _ _) (fm _) ?_)))⟩;exact⟨je,jA,fT,jf,lx,bf,[],mQ,oJ,xO.trans (.one step_end)⟩
theorem Kr{x y z:Nat}(F:bY x y)(aN:((ep all z).after.toList.any λe=>j8 .any e&&e.on==y)=Q):∀{li:Array Bool} {L:List Nat},kN all bY li L->li.size=all.size->(li.getD y T=Q->li.getD x T=Q)->kN all (xa bY x z) li L:=by
 rw[List.any_eq_true]at aN;obtain⟨e,ao,aq⟩:=aN;simp only[gS,beq_iff_eq]at aq;intro li L am;induction am with
 |nil li h=>exact λ_ _=>.nil _ h
 |cons li i L c1 cr eg kO _ aW=>
   intro av aa;have hR:i<li.size:=by omega
   refine .cons _ _ _ c1 cr eg (λD U=>U.elim (kO D) λU=>?_) (aW (by simpa using av) λbF=>?_)
   ·rw[U.1];refine aa ?_;have:=eg e (by rw[U.2];simpa using ao) aq.1;rwa [aq.2]at this
   ·rw[jI hR]at bF ⊢;split
    ·rfl
    ·split at bF
     ·rename_i bg;exact kO x (by rw[<-bg];exact F)
     ·exact aa bF
theorem aei{x y z:Nat}(F:bY x y)(O:bY z x)(aN:∃e∈(ep all z).after,j8 .any e=Q/\e.on=y)(an:x<all.size):∀{li:Array Bool} {L:List Nat},kN all bY li L->li.size=all.size->li.getD x T=T->li.getD y T=T->li.getD z T=T->False:=by
 intro li L am;induction am with
 |nil li h=>intro av a _ _;rw[h x an]at a;cases a
 |cons li i L c1 cr eg kO _ aW=>
   intro av a b c;have ek:x≠i:=λe=>by have:=kO z (by rw[<-e];exact O);rw[c]at this;cases this
   have iA:y≠i:=λe=>by have:=kO x (by rw[<-e];exact F);rw[a]at this;cases this
   have og:z≠i:=λe=>by obtain⟨dC,ao,aq,bm⟩:=aN;have:=eg dC (by rw[<-e];exact ao) aq;rw[bm,b]at this;cases this
   have aa:i<li.size:=by omega
   exact aW (by simpa using av) (by rw[jI aa,if_neg ek];exact a) (by rw[jI aa,if_neg iA];exact b) (by rw[jI aa,if_neg og];exact c)
end
abbrev m2:cJ:=107
abbrev Ff:cJ:=81
noncomputable def uP:ff:=Try.f107.body.getD .skip
theorem RO:(ar).funcs[m2]? =j Try.f107:=Try.func107
theorem aej:Try.f107.body=j uP:=rfl
theorem aek:Try.f107.ntmps=16:=rfl
theorem ael:uP= .seq (eC uP) (gf uP):=rfl
theorem aem:po ar [0,1,3] Try.f107.results.toList=j []:=by kernel_rfl
abbrev xP:List Nat:=[0,1,3]
theorem RP:r7 2 16 (W.aI m2) 3 xP=Q:=by kernel_rfl
theorem aen:gW ar (W.a2 m2) (W.cm m2) 16 xP (eC uP) []=j RN:=by kernel_rfl
theorem aeo:iJ (W.cm m2) (W.e3 m2) (eC uP)=Q:=by kernel_rfl
noncomputable abbrev jq:Array a0:=lf (gf uP)
theorem aep:gf uP= .region 1 jq Q:=rfl
theorem aeq:((iQ jq.size).all λD=>(jq.getD D default).after.all λe=> !j8 .any e||decide (e.on<D))=Q:=by kernel_rfl
theorem aer:yr (W.e3 m2) jq=Q:=by kernel_rfl
def Ks:List (Nat×List Nat):=[(0,[]),(2,[]),(7,[]),(8,[]),(1,[7]),(3,[7]),(4,[]),(5,[]),(6,[]),(9,[]),(10,[]),(11,[]),(12,[])]
def Kt:List (Nat×List Nat):=[(0,[]),(2,[]),(7,[]),(1,[7]),(8,[]),(3,[7]),(4,[]),(5,[]),(6,[]),(9,[]),(10,[]),(11,[]),(12,[])]
def Ku:List (Nat×List Nat):=[(0,[]),(2,[]),(7,[]),(1,[7]),(3,[7]),(4,[]),(5,[]),(6,[]),(8,[6]),(9,[]),(10,[]),(11,[]),(12,[])]
theorem aes:wN [(8,1),(8,3),(8,4),(8,5),(8,6)] jq Ks=Q:=by kernel_rfl
theorem aet:wN [(1,8),(8,3),(8,4),(8,5),(8,6)] jq Kt=Q:=by kernel_rfl
theorem aeu:wN [(1,8),(3,8)] jq Ku=Q:=by kernel_rfl
theorem aev:nx ar (W.a2 m2) 16 xP jq [] (iK Q jq Ks)=j Fb:=by kernel_rfl
theorem aew:nx ar (W.a2 m2) 16 xP jq [] (iK Q jq Kt)=j Fc:=by kernel_rfl
theorem aex:nx ar (W.a2 m2) 16 xP jq [] (iK Q jq Ku)=j Fe:=by kernel_rfl
theorem Fg:jq.size=13:=by kernel_rfl
theorem aey:((ep jq 4).after.toList.any λe=>j8 .any e&&e.on==3)=Q:=by kernel_rfl
theorem aez:((ep jq 5).after.toList.any λe=>j8 .any e&&e.on==4)=Q:=by kernel_rfl
theorem aeA:((ep jq 6).after.toList.any λe=>j8 .any e&&e.on==5)=Q:=by kernel_rfl
theorem RQ(F:bY 8 3){L:List Nat}(am:kN jq bY (lX jq) L):kN jq (xa (xa (xa bY 8 4) 8 5) 8 6) (lX jq) L:=by
 have ey:(lX jq).size=jq.size:=by simp
 have n:∀D,(lX jq).getD D T=Q->(lX jq).getD 8 T=Q:=λD U=>by rw[pk]at U;cases U
 exact Kr (.inr ⟨rfl,rfl⟩) aeA (Kr (.inr ⟨rfl,rfl⟩) aez (Kr F aey am ey (n _)) ey (n _)) ey (n _)
theorem aeB:((ep jq 3).after.toList.any λe=>j8 .any e&&e.on==1)=Q:=by kernel_rfl
theorem aeC(x y:I):fV 16 xP [] ([x,y]++ax (16 - [x,y].length) .aP) ([x,y]++ax (xP.length - [x,y].length) .aP) []:=by
 refine⟨by simp,rfl,rfl,λD s U=>?_,λD s U=>by simp at U⟩
 match D,U with
 |0,U|1,U|2,U=>obtain rfl:=nW U;exact⟨by decide,rfl⟩
 |D+3,U=>simp at U
theorem Fh{h:ad}{a' a5 k:Nat}{BR uQ:I}(hm:h.cell a'=j [[BR,.bd a5 0 (k+1) eM,uQ]])(Z:k<=1000):a3 ar W Ff [.ptr a' 0 0] h=j (.inl (.ptr a5 k 0),h):=by have w:jN o (((k+1:Nat):Int) - 1)=(k:Int):=xE (by omega) (by omega) (by omega);have b8:∀q:jC,ft (j eM) ab (.bd a5 0 (k+1) eM) (.int q (k:Int))=j (.ptr a5 (0+k) 0):=λq=>y5 rfl (by omega);refine bC aeb rfl ?_;unfold Q3;simp only[ay,aD,aO,ax,hm,w,b8]
theorem aeD{h af:ad}{a' a5 k:Nat}{BR uQ s dW:I}{r:List I}{rows:List (List I)}{row:List I}(Z:k<=1000)(ah:r.length=3/\r.all I.one=Q)(anb:a'<h.n)(mR:a5<h.n)(hm:h.cell a'=j [[BR,.bd a5 0 (k+1) eM,uQ]])(bc:h.cell a5=j rows)(ka:rows[k]? =j row)(av:row[6]? =j s)(aeE:row.length=10)(aM:fx Q cg s (.bd (h.n+1) 0 1 cg) ((h.push [r]).push [r])=j (dW,af))(aeF:af.cell a5=j rows)(F:dW.one=Q)(ni:dW.cells=[dW]):a3 ar W m2 [.ptr a' 0 0,.agg r] h=j (.inl (.bW []),af.set a5 (j (rows.set k (row.set 6 dW)))):=by
 have Ar:k<rows.length:=(gg.1 ka).1;have bB:dt row 6 [dW]=row.set 6 dW:=by
  match row,aeE with
  |[a,b,c,d,e,f,g,i,D,l],_=>rfl
 have R:Ja [.ptr a' 0 0,.agg r] h=j (af.set a5 (j (rows.set k (row.set 6 dW)))):=by simp only[Ja,hm,c7,bc,Nat.add_sub_cancel,ka,av,aM,hj]
 have hq:AC ar m2 [.ptr a' 0 0,.agg r] h (.inl (.bW []),af.set a5 (j (rows.set k (row.set 6 dW)))):=by
  have gN:=oS.start (W:=W) (h:=h) RO aej aek (aeC (.ptr a' 0 0) (.agg r));have ed:=gN.next (aI:=3) (x:=.halt [.code (gf uP)]) (fB:=[.ptr a' 0 0,.agg r,.ptr h.n 0 0]) (af:=h.push [r]) cX ael (l5 RP) aen aeo (by unfold RN;have ai:= @IK (a3 (ar) W) 3;simp only[ay,aD,aO,ax,ah.1,ah.2]);have RR:(h.push [r]).cell a'=j [[BR,.bd a5 0 (k+1) eM,uQ]]:=(vM (by omega)).trans hm;have aeG:((h.push [r]).push [r]).cell a'=j [[BR,.bd a5 0 (k+1) eM,uQ]]:=(vM (by rw[fo];omega)).trans RR;have rx:(h.push [r]).cell a5=j rows:=(vM (by omega)).trans bc;have Kv:((h.push [r]).push [r]).cell a5=j rows:=(vM (by rw[fo];omega)).trans rx;have t1:=Fh RR Z;have t2:=Fh aeG Z;have anc:cf 6 (.ptr a5 k 0)=j (.ptr a5 k 6):=rfl;have Fi:∀{x:ad} {n:Nat},x.cell a5=j rows->c0 T n x (.ptr a5 k 6)=j s:=λ{x n} an=>by rw[hD,an,c7,ka,c7,pq];exact av
  have st:ew 1 af (.ptr a5 k 6) dW=j (af.set a5 (j (rows.set k (row.set 6 dW)))):=by rw[lW (es:=rows) (e:=row) aeF ka (by rw[ni];simpa using F) (by rw[ni];rfl) (by omega),ni,bB]
  have run:∀bA,bA=Fb\/bA=Fc\/bA=Fe->bo (a3 ar W) 3 [.ops bA,.halt []] [.ptr a' 0 0,.agg r,.ptr h.n 0 0] [] (h.push [r])=j (.halt [],[.ptr a' 0 0,.agg r,.ptr h.n 0 0],af.set a5 (j (rows.set k (row.set 6 dW)))):=by
   have kU:(h.push [r]).cell h.n=j [r]:=kd;have bN:((h.push [r]).push [r]).cell h.n=j [r]:=(vM (by rw[fo];omega)).trans kd;intro bA lZ;rcases lZ with rfl|rfl|rfl
   ·unfold Fb;simp only[ay,ax,ct,t2,ah.1,ah.2,aM,kU,bN,Fi Kv,st]
   ·unfold Fc;simp only[ay,ax,ct,t1,t2,ah.1,ah.2,aM,kU,bN,Fi Kv,st]
   ·unfold Fe;simp only[ay,ax,ct,t1,ah.1,ah.2,aM,kU,Fi rx,Fi Kv,st]
  refine(oS.draw (aI:=3) (fB:=[.ptr a' 0 0,.agg r,.ptr h.n 0 0]) cX aep ed aeq (l5 RP) aer λL dH=>?_).ret RO aem rfl;have aeH:∃e∈(ep jq 3).after,j8 .any e=Q/\e.on=1:=by have:=aeB;rw[List.any_eq_true]at this;obtain⟨e,ao,aq⟩:=this;simp only[gS,beq_iff_eq]at aq;exact⟨e,by simpa using ao,aq.1,aq.2⟩
  have ey:(lX jq).size=jq.size:=by simp
  rcases DL (x:=8) (y:=1) (by decide) (by rw[Fg];decide) dH ey (pk _) (pk _)with bG|bG
  ·rcases DL (x:=8) (y:=3) (by decide) (by rw[Fg];decide) bG ey (pk _) (pk _)with bD|bD
   ·exact⟨_,Ks,Fb,(RQ (.inr ⟨rfl,rfl⟩) bD).mono (λi D U=>by simp only[pi,jH,List.not_mem_nil,or_false]at U;rcases U with U|U|U|U|U;exact .inl (.inl (.inl (.inl (.inr U))));exact .inl (.inl (.inl (.inr U)));exact .inl (.inl (.inr U));exact .inl (.inr U);exact .inr U),Az aes,aev,run _ (.inl rfl)⟩
   ·exact(aei (x:=8) (y:=1) (z:=3) (.inl (.inr ⟨rfl,rfl⟩)) (.inr ⟨rfl,rfl⟩) aeH (by rw[Fg];decide) bD ey (pk _) (pk _) (pk _)).elim
  ·rcases DL (x:=8) (y:=3) (by decide) (by rw[Fg];decide) bG ey (pk _) (pk _)with bD|bD
   ·exact⟨_,Kt,Fc,(RQ (.inr ⟨rfl,rfl⟩) bD).mono (λi D U=>by simp only[pi,jH,List.not_mem_nil,or_false]at U;rcases U with U|U|U|U|U;exact .inl (.inl (.inl (.inl (.inr U))));exact .inl (.inl (.inl (.inr U)));exact .inl (.inl (.inr U));exact .inl (.inr U);exact .inr U),Az aet,aew,run _ (.inr (.inl rfl))⟩
   ·exact⟨_,Ku,Fe,bD.mono (λi D U=>by simp only[pi,jH,List.not_mem_nil,or_false]at U;rcases U with U|U;exact .inl (.inr U);exact .inr U),Az aeu,aex,run _ (.inr (.inr rfl))⟩
 have an:W.ext m2=j En:=by show rl m2=_;unfold rl;rw[if_neg (by decide),if_pos rfl]
 unfold a3;rw[an];simp only[En,R];rw[if_pos hq]
def Fj:List bl:=[.ops [jo,vW,bb,uL,Kw,di,Bh,RS,RT],.cond (.v 5) [] [.exit 0],.block 1 [.ops [vW,bb,jo,xL,mZ,en,.i .l (.call (.c (.fn 49 [] [])) [.l 1,.l 0]),ge]],Kx]
def RU:List bl:=[.ops [Kc,uK],.ops [en,qg,ge],BS,.block 0 [.loop Fj],.ops [en,kF],.ret]
theorem aeI:c3 ar W 49 2 6 [0,1,2,4,5,16] RU [(.v 3)] Q:=by refine⟨_,_,Try.func49,rfl,rfl,?_,?_,?_,?_,?_⟩<;>kernel_rfl
def Ky:List bl:=[.ops [BU,zl],.ops [E1,.i .l (.call (.c (.fn 49 [] [])) [.l 0,.c (.int o 40)]),.i (.v 3) (.bin (.int o) .lss (.l 0) (.c (.int o 0)))],.cond (.v 3) [.ops [.i (.v 2) (.ba (.c (.int o 3)))],.ret] [],.ops [E1,RV,lj],.ret]
theorem wn:c3 ar W 18 1 4 [0,1,2,5] Ky [(.v 2)] Q:=by refine⟨_,_,Try.func18,rfl,rfl,?_,?_,?_,?_,?_⟩<;>kernel_rfl
def BV:List bl:=[.ops [RW],.cond (.v 12) [] [.exit 1],.block 2 [.ops [.i .l (.ga (j 29) ab (.v 9) (.v 11)),mZ,v9,uM],.ops [qm,RV,oh],.ops [h5,.i (.v 13) Bd],.cond (.v 13) [.ops [h5,lj],.ret] []],.ops [RX,BM]]
def RY:List bl:=[.ops [BU,zl],.ops [qp,bb,si,di,Fk,m0,Fl,.i (.v 6) RZ],.cond (.v 6) [.ops [.i (.v 2) (.ba (.c (.int o 2)))],.ret] [],.ops [.i .l (.kC T 3 [.int o 0] 1 6 [(0,(.c (.int o 0))),(1,(.c (.int o 0))),(2,(.c (.int o 2))),(3,(.c (.int o 1))),(4,(.c (.int o 0))),(5,(.c (.int o 0)))]),qp,bb,Kz,bb,kF],.block 0 [.ops [zD,bb,uL,eY,EZ,di,.g (.l 0) T .l (.ba (.v 3)),.g (.l 1) T .l BW,.g (.l 2) T .l wd,KA,m3,R0,.g (.l 6) T .l zE,.i .l (.pick (.l 7) (.c (.bool Q)) (.l 0)),di,Fk,m0,.g (.l 2) T .l Bm,.g (.l 3) T .l wd,KA,m3,R0,.g (.l 7) T .l zE,.i .l (.pick (.l 8) (.c (.bool Q)) (.l 0)),l6],.cond (.v 7) [.ops [.i (.v 2) (.ba (.c (.int o 5)))],.ret] [.ops [qp,bb,.i .l (.bin (.int o) .geq (.l 0) (.c (.int o 3))),di,KA,m3,H1,tz,v'],.cond (.v 8) [.ops [.i (.v 2) EI],.ret] []]],.ops [zD,R1,.i (.v 10) (.len T (j 29) (.v 9)),R2],.block 1 [.loop BV],uJ,.ret]
theorem aeJ:c3 ar W 50 1 14 [0,1,2,3,5,6,14,20,45,55,56,57,58,64] RY [(.v 2)] Q:=by refine⟨_,_,Try.func50,rfl,rfl,?_,?_,?_,?_,?_⟩<;>kernel_rfl
def Fm:List bl:=[.ops [Qh],.cond (.v 8) [] [.exit 0],.block 1 [.ops [.i .l (.ga (j 29) ab (.v 5) (.v 7)),mZ,v9,uM],.ops [zF,bb,qm,PK,.bX [⟨ab,T,1,.l 3,(.l 2)⟩],E8,.bX [⟨ab,T,1,.l 4,(.l 3)⟩],.i .l (.app T 29 (.l 3) (.l 0)),zF,zG]],.ops [Qm,l6]]
def R3:List bl:=[Ke,R4,.ops [zD,.i (.v 5) rp,.i (.v 6) (.len T (j 29) (.v 5)),JJ],.block 0 [.loop Fm],.ops [qn,zy],.ret]
theorem aeK:c3 ar W 46 1 9 [0,1,2,3,5,12,13,14,15] R3 [(.cell Q 3 2)] Q:=by refine⟨_,_,Try.func46,rfl,rfl,?_,?_,?_,?_,?_⟩<;>kernel_rfl
def Fo:List bl:=[.ops [JD],.cond (.v 9) [] [.exit 0],.block 1 [.ops [.i .l (.ga (j 29) ab (.v 6) (.v 8)),mZ,v9,uM],.ops [eY,qm,.i .l R5,.i .l (.app T 3 (.l 2) (.l 0)),kF]],JF]
def R6:List bl:=[.ops [BU,Fp],.ops [JC],.ops [qp,bb,.i (.v 5) Fq],.cond (.v 5) [.ops [eY,R7,bb,Qk,Ql,kF]] [],.ops [zD,E9,.i (.v 7) (.len T (j 29) (.v 6)),JH],.block 0 [.loop Fo],zq,.ret]
theorem aeL:c3 ar W 131 1 10 [0,1,2,3,5,8,15,16,17,18] R6 [(.v 2)] Q:=by refine⟨_,_,Try.func131,rfl,rfl,?_,?_,?_,?_,?_⟩<;>kernel_rfl
def R8:List bl:=[.ops [BU,we],.ops [qp,bb,KB,di,.g (.l 0) T .l (.cy 2 (.v 1)),m0,.g (.l 2) T .l (.call (.c (.fn 139 [] [])) [.l 0,.c (.fn 130 [] [])]),Fs,lj],.ret]
theorem aeM:c3 ar W 130 1 3 [0,1,2] R8 [(.v 2)] Q:=by refine⟨_,_,Try.func130,rfl,rfl,?_,?_,?_,?_,?_⟩<;>kernel_rfl
def R9:List bl:=[nC,.ops [bj,en,.i .l (.call (.c (.fn 143 [] [])) [.l 1,.l 0]),qh,lj],.ret]
theorem aeN:c3 ar W 139 2 3 [0,1,4] R9 [(.v 2)] Q:=by refine⟨_,_,Try.func139,rfl,rfl,?_,?_,?_,?_,?_⟩<;>kernel_rfl
def Ft:List bl:=[.ops [R'],.cond (.v 6) [] [.exit 0],.block 1 [.ops [h5,kF],.ops [en,bj,eY,xL,mZ,Sa],.cond (.v 7) [zq,.ret] []],.ops [Sb,oh]]
def Sc:List bl:=[uJ,.ops [bj,.i (.v 4) KC,xy],.block 0 [.loop Ft],.ops [KD],.ret]
theorem aeO:c3 ar W 143 2 8 [0,1,4,5,7,8,9,16] Sc [(.v 2)] Q:=by refine⟨_,_,Try.func143,rfl,rfl,?_,?_,?_,?_,?_⟩<;>kernel_rfl
def Sd:List bl:=[.ops [Kc,E2,Kf],.ops [sr,bb,xQ,bb,.i .l Se,di,.g (.l 0) Q .l (.cy 1 (.v 2)),m3,.g (.l 2) Q .l (.cy 1 (.v 3)),zm,.g (.l 4) Q .l Se,Bi,di,.g (.l 0) Q .l (.cy 2 (.v 2)),m3,.g (.l 2) Q .l (.cy 2 (.v 3)),zm,.g (.l 4) Q .l (.call (.c (.fn 29 [] [])) [.l 2,.l 0]),Bi,oi],.ret]
theorem aeP:c3 ar W 19 2 5 [0,1,2,3,4] Sd [(.v 4)] Q:=by refine⟨_,_,Try.func19,rfl,rfl,?_,?_,?_,?_,?_⟩<;>kernel_rfl
def Fu:List bl:=[.ops [eY,bj,uL,.i (.v 5) wg],.cond (.v 5) [] [.exit 0],.block 1 [.ops [bj,eY,xL,mZ,en,eY,xL,mZ,.i .l (.call (.c (.fn 19 [] [])) [.l 4,.l 0]),zp],.cond (.v 6) [nC,.ret] []],KE]
def KF:List bl:=[nC,.ops [bj,uL,en,uL,.i (.v 4) KG],.cond (.v 4) [nC,.ret] [],xz,.block 0 [.loop Fu],uR,.ret]
theorem Sf:c3 ar W 29 2 7 [0,1,4,5,10,14,26] KF [(.v 2)] Q:=by refine⟨_,_,Try.func29,rfl,rfl,?_,?_,?_,?_,?_⟩<;>kernel_rfl
theorem aeQ{x y:ak}{i:Nat}(h:x.l[i]? =j y):hU (x.l.take (i+1))=hU (x.l.take i)+y.size/\hU (x.l.take (i+1))<=hU x.l:=by
 have e:=xD h;constructor
 ·rw[e,Ef,acy]
 ·have:=Ef (x.l.take (i+1)) (x.l.drop (i+1));rw[List.take_append_drop]at this;omega
theorem Sg(l:List ak)(i:Nat):hU (l.take i)<=hU l:=by have:=Ef (l.take i) (l.drop i);rw[List.take_append_drop]at this;omega
theorem aeR(l:List ak){i:Nat}(aa:i<l.length):i<=hU (l.take i):=by have:=IW (l.take i);rw[List.length_take]at this;omega
theorem qq{l:List ak}{i:Nat}{y:ak}(h:l[i]? =j y):y∈l:=p6 h
theorem uS{l:List ak}{i:Nat}(h:i<l.length):∃y,l[i]? =j y:=⟨_,fz h⟩
section
variable{h:ad}
def qr(left:Int)(n:Nat):Int:=if(n:Int)<=left then left - n else -1
theorem FS:∀(N:Nat) (x:ak),lB x<=N->∀(r:List I) (h:ad) (left:Int),b1 x r->0<=left->left<=100000->a3 ar W 49 [.agg r,.int o left] h=j (.inl (.int o (qr left x.size)),h):=by
 intro N;induction N with
 |zero=>intro x an;have:=x.n';omega
 |succ N aW=>
   intro x an r h left he ae F;obtain⟨v,es,rfl,gc,R,au,gt⟩:=he.facts;have av:=x.size_eq;have dm:=ht (n:=left - 1) (by omega) (by omega);refine pC aeI rfl λcH cY=>?_;unfold RU;simp only[ay,aD,aO,ax,R,dm];refine ru (λi V J=>∃da cur,V=[.agg [.int o x.kind,.int o x.n,v],.int o cur,.ptr h.n 0 0,.int o 0,.int o (i:Nat),da]/\J=h.push [[.int o x.kind,.int o x.n,v]]/\cur=qr left (1+hU (x.l.take i))) x.l.length ⟨_,_,rfl,rfl,?_⟩ ?_ ?_
   ·simp only[qr,List.take_zero,hU];split<;>omega
   ·rintro i V J aa ⟨da,cur,rfl,rfl,aj⟩ next
    have bh:(i:Int)<(es.length:Int):=by rw[au];omega
    by_cases aB:0<=cur
    ·obtain⟨y,bF⟩:=uS aa;obtain⟨q,dJ,d1,b2⟩:=gt i y bF;obtain⟨e8,g9⟩:=aeQ bF;have hR:=aeR x.l aa;have jh:cur<=100000/\(i:Int)<100000:=by
      rw[aj,qr]at aB ⊢;split at aB
      ·rename_i bP;rw[if_pos bP];omega
      ·omega
     have hw:=ht (n:=(i:Int)+1) (by omega) (by omega);have ao:=aW y (by have:=ak.oN (qq bF);omega) q (h.push [[.int o x.kind,.int o x.n,v]]) cur b2 aB (by omega);rw[dP Fj.eq_1];simp only[ay,aD,aO,ax,cF,gc.len,gc.fits,bh,aB,dJ,d1,ao,hw];refine next _ _ ⟨_,_,rfl,rfl,?_⟩
     rw[e8,aj];rw[aj]at aB;simp only[qr]at aB ⊢
     repeat' split<;>omega
    ·rw[dP Fj.eq_1];simp only[ay,aD,aO,ax,cF,gc.len,gc.fits,bh,aB];refine cY _ _ _ rfl (by repeat (first|exact aK.refl _|refine aK.trans ?_ (aK.push _ _)|refine aK.trans ?_ (aK.fresh _ _))) ?_;have e:cur=qr left x.size:=by
      rw[aj,qr]at aB;rw[aj,qr,qr,av];have:=Sg x.l i;split at aB
      ·omega
      ·rename_i bP;rw[if_neg bP,if_neg (by omega)]
     rw[<-e];rfl
   ·rintro V J ⟨da,cur,rfl,rfl,aj⟩;have bh:¬((x.l.length:Int)<(es.length:Int)):=by rw[au];omega
    rw[List.take_length,<-av]at aj;rw[dP Fj.eq_1];simp only[ay,aD,aO,ax,cF,gc.len,gc.fits,bh];exact cY _ _ _ rfl (by repeat (first|exact aK.refl _|refine aK.trans ?_ (aK.push _ _)|refine aK.trans ?_ (aK.fresh _ _))) (by rw[<-aj];rfl)
theorem aeS{kind n:Int}{len:Nat}(h:iU kind n len=0):len=oO kind/\(kind=0\/kind=1\/kind=2\/kind=3\/kind=4\/kind=5):=by
 unfold iU at h;split at h
 ·cases h
 ·split at h
  ·cases h
  ·exact⟨by omega,by omega⟩
theorem aeT(kind:Int):oO kind<=2:=by unfold oO;split;omega;split<;>omega
theorem aeU{l:List ak}{i:Nat}{y:ak}(h:l[i]? =j y):mq (l.drop i)=if y.fault≠0 then y.fault else mq (l.drop (i+1)):=by obtain⟨aa,rfl⟩:=gg.1 h;rw[List.drop_eq_getElem_cons aa,xl]
end
def KH:List bl:=[nC,.ops [bj,en,Qx,en,Q',lj],.ret]
theorem Fd:c3 ar W 132 2 3 [0,1,4] KH [(.v 2)] Q:=by refine⟨_,_,Try.func132,rfl,rfl,?_,?_,?_,?_,?_⟩<;>kernel_rfl
def KI:List bl:=[Q1,.cond (.v 2) [.ops [en,.i .l (.AH 200 (.l 0)),EE]] []]
theorem Sh:c3 ar W 142 2 3 [0,1,4] KI [] Q:=by refine⟨_,_,Try.func142,rfl,rfl,?_,?_,?_,?_,?_⟩<;>kernel_rfl
def Fv:List bl:=[.ops [JD],.cond (.v 9) [] [.exit 0],.block 1 [.ops [.i .l (.ga (j 3) ab (.v 6) (.v 8)),bb,kF],.ops [bj,cM,eT,bb,en,eY,.i .l (.call (.c (.fn 79 [] [])) [.l 2,.l 1,.c (.int o 15),.l 0]),di,lg,lh,Bj,oh],.ops [h5,su,h5,.i .l (.call (.c (.fn 142 [] [])) [.l 1,.l 0])],.ops [jo,ge]],JF]
def Si:List bl:=[uJ,.ops [bj,cM,iD,E9,.i (.v 7) (.len T (j 3) (.v 6)),JH],.block 0 [.loop Fv],.ops [en,lj],.ret]
theorem aeV:c3 ar W 134 2 10 [0,1,4,6,7,8,12,13,14,15] Si [(.v 2)] T:=by refine⟨_,_,Try.func134,rfl,rfl,?_,?_,?_,?_,?_⟩<;>kernel_rfl
def BX:List bl:=[Fw,.cond (.v 10) [] [.exit 0],.block 1 [.ops [.i .l (.ga (j 29) ab (.v 7) (.v 9)),mZ,wb,zA],.ops [.i .l (.cy 2 (.v 4)),bb,bj,sj,Sj,.bX [⟨ab,T,1,.l 4,(.l 3)⟩],E8,.bX [⟨ab,T,1,.l 5,(.l 4)⟩],.i .l (.app T 29 (.l 4) (.l 0)),.i .l (.cy 2 (.v 4)),zG]],Fx]
def Sk:List bl:=[.ops [KJ,EY],.ops [sr,bb,oT,bb,Sl,v9,uM],.ops [sr,bb,.i (.v 6) Fq],.cond (.v 6) [.ops [bj,oT,bb,.i .l (.call (.c (.fn 134 [] [])) [.l 2,.l 0]),xA,zG]] [],.ops [vW,BO,.i (.v 8) (.len T (j 29) (.v 7)),Fy],.block 0 [.loop BX],.ops [qm,zx],.ret]
theorem aeW:c3 ar W 122 2 11 [0,1,3,4,5,7,15,22,23,24,25] Sk [(.cell Q 3 3)] T:=by refine⟨_,_,Try.func122,rfl,rfl,?_,?_,?_,?_,?_⟩<;>kernel_rfl
def Fz:List bl:=[.ops [.i (.v 11) (.bin (.int o) .lss (.v 10) (.v 9))],.cond (.v 11) [] [.exit 0],.block 1 [.ops [.i .l (.ga (j 3) ab (.v 8) (.v 10)),bb,oh],.ops [bj,h5,Ra,.i .l (.call (.c (.fn 132 [] [])) [.l 0,.c (.int o 4)]),.i (.v 12) vV],.cond (.v 12) [.ops [Sm],.ret] []],.ops [.i .l (.bin (.int o) .add (.v 10) (.c (.int o 1))),Bc]]
def FA:List bl:=[.ops [KJ,uK],.ops [ss,Jm,oi],.ops [jo,Sn],.cond (.v 6) [.ops [jo,kF],.ret] [],.ops [ss,.i (.v 7) (.call (.c (.fn 130 [] [])) [.l 0])],.cond (.v 7) [.ops [Sm],.ret] [],.ops [ss,.i (.v 8) R5,.i (.v 9) (.len T (j 3) (.v 8)),.i (.v 10) (.ba (.c (.int o 0)))],.block 0 [.loop Fz],xz,.ret]
theorem KK:c3 ar W 120 2 13 [0,1,3,4,5,7,11,14,16,17,18,19,26] FA [(.v 3)] Q:=by refine⟨_,_,Try.func120,rfl,rfl,?_,?_,?_,?_,?_⟩<;>kernel_rfl
open Go.RowKit
structure KL where
 (d a b c e:Int)
def aC.step(G:aC)(x:KL):aC×Int×Int:=
 if x.d=0 then G.gate else if x.d=1 then((G.cut x.a).1,0,(G.cut x.a).2)else if x.d=2 then G.eh x.a x.b x.c else if x.d=3 then G.l1 x.a x.e x.b x.c else if x.d=4 then G.derive x.a x.b x.c else(G,0,0)
structure aC.gD(G cU:aC):Prop where
 nodes:∃ext,cU.nodes=G.nodes++ext
 shut:G.shut.length<=cU.shut.length/\∀k:Nat,G.shut.getD k T=Q->cU.shut.getD k T=Q
theorem aC.gD.refl(G:aC):G.gD G:=⟨⟨[],by simp⟩,bV _,λ_=>id⟩
theorem aC.gD.trans{A B C:aC}(x:A.gD B)(y:B.gD C):A.gD C:=by obtain⟨ao,F⟩:=x.nodes;obtain⟨aq,O⟩:=y.nodes;exact⟨⟨ao++aq,by rw[O,F,kv]⟩,ef x.shut.1 y.shut.1,λk Z=>y.shut.2 k (x.shut.2 k Z)⟩
theorem KM(G:aC)(n:er):(∃ext:List er,(G.add n).1.nodes=G.nodes++ext/\ext.length<=1)/\(G.add n).1.shut=G.shut:=by
 unfold aC.add;split
 ·exact⟨⟨[],by simp,by simp⟩,rfl⟩
 split
 ·exact⟨⟨[],by simp,by simp⟩,rfl⟩
 split
 ·exact⟨⟨[],by simp,by simp⟩,rfl⟩
 ·exact⟨⟨[n],rfl,by simp⟩,rfl⟩
theorem aeX(G:aC):G.gate.1.nodes=G.nodes/\G.shut.length<=G.gate.1.shut.length/\∀k:Nat,G.shut.getD k T=Q->G.gate.1.shut.getD k T=Q:=by
 unfold aC.gate;split
 ·exact⟨rfl,bV _,λ_=>id⟩
 ·refine⟨rfl,by simp,λk Z=>?_⟩;have bh:k<G.shut.length:=by
   rcases mc k G.shut.length with h|h
   ·exact h
   ·rw[cK,lU h]at Z;cases Z
  simpa[cK,mJ bh]using Z
theorem aeY(G:aC)(k:Int):(G.cut k).1.nodes=G.nodes/\(G.cut k).1.shut.length=G.shut.length/\∀D:Nat,G.shut.getD D T=Q->(G.cut k).1.shut.getD D T=Q:=by
 unfold aC.cut;split
 ·refine⟨rfl,by simp,λD U=>?_⟩;have bh:D<G.shut.length:=by
   rcases mc D G.shut.length with h|h
   ·exact h
   ·rw[cK,lU h]at U;cases U
  simp only[cK,sv];by_cases e:k.toNat=D
  ·simp[e,bh]
  ·simpa[e,cK]using U
 ·exact⟨rfl,rfl,λ_=>id⟩
theorem aC.aeZ(G:aC)(x:KL):(∃ext:List er,(G.step x).1.nodes=G.nodes++ext/\ext.length<=1)/\G.shut.length<=(G.step x).1.shut.length/\∀k:Nat,G.shut.getD k T=Q->(G.step x).1.shut.getD k T=Q:=by
 have fH:∀n,(∃ext:List er,(G.add n).1.nodes=G.nodes++ext/\ext.length<=1)/\G.shut.length<=(G.add n).1.shut.length/\∀k:Nat,G.shut.getD k T=Q->(G.add n).1.shut.getD k T=Q:=λn=>by obtain⟨F,O⟩:=KM G n;rw[O];exact⟨F,bV _,λ_=>id⟩
 have same:(∃ext:List er,G.nodes=G.nodes++ext/\ext.length<=1)/\G.shut.length<=G.shut.length/\∀k:Nat,G.shut.getD k T=Q->G.shut.getD k T=Q:=⟨⟨[],by simp,by simp⟩,bV _,λ_=>id⟩;unfold aC.step;split
 ·obtain⟨F,O,af⟩:=aeX G;exact⟨⟨[],by simp[F],by simp⟩,O,af⟩
 split
 ·obtain⟨F,O,af⟩:=aeY G x.a;exact⟨⟨[],by simp[F],by simp⟩,by simp only[O];exact bV _,af⟩
 split
 ·unfold aC.eh;split
  ·exact fH _
  ·exact same
 split
 ·unfold aC.l1;split
  ·exact fH _
  ·exact same
 split
 ·unfold aC.derive;split
  ·exact fH _
  ·exact same
 ·exact same
theorem aC.KN(G:aC)(x:KL):G.gD (G.step x).1:=by obtain⟨⟨e,F,_⟩,O,af⟩:=G.aeZ x;exact⟨⟨e,F⟩,O,af⟩
theorem aC.ae0{G:aC}(dl:G.cz):∀(f:Nat) (i:Int),i.toNat<f->G.has i=Q->∃pre t,G.path i=pre++[t]/\t.parent= -1/\∃k:Nat,G.nodes[k]? =j t:=by
 intro f;induction f with
 |zero=>intro i aa;omega
 |succ f aW=>
   intro i aa bP;have ok:=dl.get bP;have p8:G.nodes[i.toNat]? =j (G.nodes.getD i.toNat ik):=by
    simp[aC.has]at bP;have:i.toNat<G.nodes.length:=by omega
    simp[cK,this]
   rw[aC.xm dl bP];by_cases aB:G.has (G.nodes.getD i.toNat ik).parent=Q
   ·have xn:0<=(G.nodes.getD i.toNat ik).parent:=by simp only[aC.has,decide_eq_true_eq]at aB;exact aB.1
    have rb:=ok.ed;obtain⟨pre,t,F,O,af⟩:=aW (G.nodes.getD i.toNat ik).parent (by omega) aB;exact⟨_::pre,t,by rw[F];rfl,O,af⟩
   ·refine⟨[],_,by rw[aC.tl (by simpa using aB)];rfl,?_,_,p8⟩;have ae:=ok.gN;have F:=ok.ed;have g8:i.toNat<G.nodes.length:=(gg.1 p8).1;simp only[aC.has,decide_eq_true_eq,not_and]at aB;rcases Int.lt_or_le (G.nodes.getD i.toNat ik).parent 0 with h|h
    ·omega
    ·have:=aB h;omega
theorem aC.FB{G:aC}(dl:G.cz){i:Int}(bP:G.has i=Q):(G.target i).2=Q/\(G.target i).1.parent= -1/\((G.target i).1.bw= -1/\0<=(G.target i).1.cell/\(G.target i).1.cell<12/\(G.target i).1.func=0\/0<=(G.target i).1.bw/\(G.target i).1.bw<4/\0<=(G.target i).1.func/\(G.target i).1.func<6/\(G.target i).1.cell=0):=by
 obtain⟨pre,t,F,O,k,Z⟩:=aC.ae0 dl (i.toNat+1) i (by omega) bP;have aL:G.target i=(t,Q):=by unfold aC.target;rw[F];simp[List.getLastD_eq_getLast?]
 rw[aL];exact⟨rfl,O,(dl.node k t Z).t O⟩
theorem aC.gD.has{G cU:aC}(l:G.gD cU){i:Int}(h:G.has i=Q):cU.has i=Q/\cU.nodes.getD i.toNat ik=G.nodes.getD i.toNat ik:=by
 obtain⟨e,he⟩:=l.nodes;simp[aC.has]at h;have bh:i.toNat<G.nodes.length:=by omega
 refine⟨by simp[aC.has,he];omega,?_⟩;rw[he];simp[cK,mJ bh]
theorem aC.gD.path{G cU:aC}(l:G.gD cU)(dl:G.cz)(oW:cU.cz):∀(f:Nat) (i:Int),i.toNat<f->G.has i=Q->cU.path i=G.path i:=by
 intro f;induction f with
 |zero=>intro i aa;omega
 |succ f aW=>
   intro i aa bP;obtain⟨ae1,au⟩:=l.has bP;have ok:=dl.get bP;rw[aC.xm dl bP,aC.xm oW ae1,au];congr 1;by_cases aB:G.has (G.nodes.getD i.toNat ik).parent=Q
   ·have xn:0<=(G.nodes.getD i.toNat ik).parent:=by simp only[aC.has,decide_eq_true_eq]at aB;exact aB.1
    have rb:=ok.ed;exact aW _ (by omega) aB
   ·have ae:=ok.gN;have F:=ok.ed;have g8:i.toNat<G.nodes.length:=by simp[aC.has]at bP;omega
    have ane:(G.nodes.getD i.toNat ik).parent<0:=by
     simp only[aC.has,decide_eq_true_eq,not_and]at aB;rcases Int.lt_or_le (G.nodes.getD i.toNat ik).parent 0 with h|h
     ·exact h
     ·have:=aB h;omega
    rw[aC.tl (G:=G) (by simpa using aB),aC.tl (G:=cU) (by simp only[aC.has,decide_eq_false_iff_not,not_and];intro h;omega)]
theorem aC.ae2{G:aC}(dl:G.cz):∀(f:Nat) (i:Int),∀n∈G.mr f i,uz n.et=Q/\(n.gate= -1\/0<=n.gate/\n.gate<G.shut.length):=by
 intro f;induction f with
 |zero=>intro i n au;simp[aC.mr]at au
 |succ f aW=>
   intro i n au;unfold aC.mr at au;split at au
   ·rename_i Z;rcases pi.1 au with rfl|au
    ·exact⟨(dl.get Z).r,(dl.get Z).g⟩
    ·exact aW _ n au
   ·simp at au
theorem So{G:aC}(dl:G.cz)(i:Int):∃x:BitVec 64,G.et i=x.toInt:=by
 unfold aC.et;split
 ·exact⟨0#64,rfl⟩
 ·exact⟨_,adg _ (λn au=>(aC.ae2 dl _ i n au).1) 15#64⟩
theorem ae3(x:ak):(id x).kind=x.kind:=rfl
theorem ae4(x:ak):(id x).l=x.l.map id:=by simp
section
variable{h:ad}
theorem M2(i:Option Nat):∀(k:Int),(k=0\/k=1\/k=2\/k=3\/k=4\/k=5)->ft (j 3) ab (.bR i 3 [[.int o 0],[.int o 0],[.int o 2],[.int o 1],[.int o 0],[.int o 0]]) (.int o k)=j (.ip [.int o (oO k:Nat)] 0):=by rintro k (rfl|rfl|rfl|rfl|rfl|rfl)<;>rfl
theorem ae5:∀(N:Nat) (x:ak),lB x<=N->∀(r:List I) (h:ad),b1 x r->a3 ar W 50 [.agg r] h=j (.inl (.int o x.fault),h):=by
 intro N;induction N with
 |zero=>intro x an;have:=x.n';omega
 |succ N aW=>
   intro x an r h he;obtain⟨v,es,rfl,gc,R,au,gt⟩:=he.facts;have ae6:=x.Eg;rw[ae6];have loop:iU x.kind x.n x.l.length=0->∀(cH:kD->Prop) (gw v6 fF iE:I),(∀V J,(ie V J [.v 2]).map iH=j (.int o (mq x.l))->aK h J->cH (j (.ret,V,J)))->cH (bo (a3 ar W) 14 (.fI BV::.bO []::.cb 1::[.bO [.ops [zl],.ret]]) [.agg [.int o x.kind,.int o x.n,v],.ptr h.n 0 0,.int o 0,gw,.aP,.aP,v6,fF,iE,v,.int o es.length,.int o 0,.aP,.aP] [] ((h.push [[.int o x.kind,.int o x.n,v]]).fresh 6)):=by
    intro a6 cH gw v6 fF iE cY;obtain⟨hlen, -⟩:=aeS a6;have anf:=aeT x.kind;refine ru (λi V J=>∃v4 da fG h7,V=[.agg [.int o x.kind,.int o x.n,v],.ptr h.n 0 0,.int o 0,gw,v4,da,v6,fF,iE,v,.int o es.length,.int o (i:Nat),fG,h7]/\aK h J/\mq (x.l.drop i)=mq x.l) x.l.length ⟨_,_,_,_,rfl,(by repeat (first|exact aK.refl _|refine aK.trans ?_ (aK.push _ _)|refine aK.trans ?_ (aK.fresh _ _))),rfl⟩ ?_ ?_
    ·rintro i V J aa ⟨v4,da,fG,h7,rfl,g,aj⟩ next
     have bh:(i:Int)<(es.length:Int):=by rw[au];omega
     obtain⟨y,bF⟩:=uS aa;obtain⟨q,dJ,d1,b2⟩:=gt i y bF;obtain⟨bG,bD⟩:=b2.one;have hw:=ht (n:=(i:Int)+1) (by omega) (by omega);have ao:=aW y (by have:=ak.oN (qq bF);omega) q (J.push [q]) b2;rw[aeU bF]at aj;by_cases bc:y.fault=0
     ·rw[if_neg (by simp[bc])]at aj;rw[bc]at ao;rw[dP BV.eq_1];simp only[ay,aD,aO,ax,cF,bh,dJ,d1,bG,bD,ao,hw];exact next _ _ ⟨_,_,_,_,rfl,g.trans (by repeat (first|exact aK.refl _|refine aK.trans ?_ (aK.push _ _)|refine aK.trans ?_ (aK.fresh _ _))),aj⟩
     ·rw[if_pos bc]at aj;rw[dP BV.eq_1];simp only[ay,aD,aO,ax,cF,bh,dJ,d1,bG,bD,ao,bc];exact cY _ _ (by rw[<-aj];rfl) (g.trans (by repeat (first|exact aK.refl _|refine aK.trans ?_ (aK.push _ _)|refine aK.trans ?_ (aK.fresh _ _))))
    ·rintro V J ⟨v4,da,fG,h7,rfl,g,aj⟩;have bh:¬((x.l.length:Int)<(es.length:Int)):=by rw[au];omega
     rw[List.drop_length]at aj;rw[dP BV.eq_1];simp only[ay,aD,aO,ax,cF,bh];exact cY _ _ (by rw[<-aj];rfl) g
   refine pC aeJ rfl λcH cY=>?_;unfold RY;by_cases Z:x.kind=0\/x.kind=1\/x.kind=2\/x.kind=3\/x.kind=4\/x.kind=5
   ·have xR:=λi=>M2 i x.kind Z;have ia:¬x.kind<0:=by omega
    have g7:¬5<x.kind:=by omega
    by_cases al:(x.l.length:Nat)=oO x.kind
    ·have hl:(es.length:Int)=(oO x.kind:Int):=by rw[au,al]
     have BY:iU x.kind x.n x.l.length=if(x.kind=0\/x.kind=2)/\x.n≠0 then 5 else if 3<=x.kind/\x.n<0 then 1 else 0:=by unfold iU;rw[if_neg (by omega),if_neg (by omega)]
     have L:=loop;rw[BY]at L cY;rw[hl]at L;by_cases aN:x.n=0
     ·rcases Z with Z|Z|Z|Z|Z|Z
      all_goals
       rw[Z]at hl L cY xR;simp only[oO,eD,if_false,if_true,Int.cast_ofNat_Int,aN,not_true,ne_eq,and_false,Int.lt_irrefl]at hl L cY xR;simp only[ay,aD,aO,ax,Nat.reduceLT,R,Z,aN,eD,Int.reduceLT,Int.reduceLE,gc.len,gc.fits,hl,xR,Int.lt_irrefl];exact L trivial _ _ _ _ _ λV J e g=>cY _ _ _ e g rfl
     ·by_cases Sp:x.n<0
      all_goals
       rcases Z with Z|Z|Z|Z|Z|Z
       all_goals
        rw[Z]at hl L cY xR;simp only[oO,eD,Int.reduceLE,if_false,if_true,Int.cast_ofNat_Int,aN,Sp,not_true,not_false_eq_true,ne_eq,and_false,and_true,or_true,or_false,or_self]at hl L cY xR;simp only[ay,aD,aO,ax,Nat.reduceLT,R,Z,aN,Sp,eD,Int.reduceLT,Int.reduceLE,gc.len,gc.fits,hl,xR]
        first
         |exact cY _ _ _ rfl (by repeat (first|exact aK.refl _|refine aK.trans ?_ (aK.push _ _)|refine aK.trans ?_ (aK.fresh _ _))) rfl
         |exact L trivial _ _ _ _ _ λV J e g=>cY _ _ _ e g rfl
    ·have bP:iU x.kind x.n x.l.length=5:=by unfold iU;rw[if_neg (by omega),if_pos al]
     have hl:¬(es.length:Int)=(oO x.kind:Int):=by rw[au];omega
     rw[bP]at cY;simp only[ay,aD,aO,ax,Nat.reduceLT,R,ia,g7,gc.len,gc.fits,xR,hl];exact cY _ _ _ rfl (by repeat (first|exact aK.refl _|refine aK.trans ?_ (aK.push _ _)|refine aK.trans ?_ (aK.fresh _ _))) rfl
   ·have bP:iU x.kind x.n x.l.length=2:=by unfold iU;rw[if_pos (by omega)]
    rw[bP]at cY;by_cases ia:x.kind<0
    ·simp only[ay,aD,aO,ax,Nat.reduceLT,R,ia];exact cY _ _ _ rfl (by repeat (first|exact aK.refl _|refine aK.trans ?_ (aK.push _ _)|refine aK.trans ?_ (aK.fresh _ _))) rfl
    ·have g7:5<x.kind:=by omega
     simp only[ay,aD,aO,ax,Nat.reduceLT,R,ia,g7];exact cY _ _ _ rfl (by repeat (first|exact aK.refl _|refine aK.trans ?_ (aK.push _ _)|refine aK.trans ?_ (aK.fresh _ _))) rfl
theorem FC{x:ak}{r:List I}(he:b1 x r):a3 ar W 18 [.agg r] h=j (.inl (.int o x.code),h):=by
 obtain⟨bG,bD⟩:=he.one;have ao:=λh=>FS _ x (bV _) r h 40 he (by omega) (by omega);have aq:=λh=>ae5 _ x (bV _) r h he;by_cases av:40<x.size
 ·have bm:qr 40 x.size= -1:=by rw[qr,if_neg (by omega)]
  have ck:x.code=3:=by rw[ak.code,if_pos av]
  rw[ck];simp only[bm]at ao;refine pC wn rfl λcH cY=>?_;unfold Ky;simp only[ay,aD,aO,ax,bG,bD,kQ bD,ao,Int.reduceLT];exact cY _ _ _ rfl (by repeat (first|exact aK.refl _|refine aK.trans ?_ (aK.push _ _)|refine aK.trans ?_ (aK.fresh _ _))) rfl
 ·have bm:¬qr 40 x.size<0:=by rw[qr,if_pos (by omega)];omega
  have ck:x.code=x.fault:=by rw[ak.code,if_neg av]
  rw[ck];refine pC wn rfl λcH cY=>?_;unfold Ky;simp only[ay,aD,aO,ax,bG,bD,kQ bD,ao,bm,aq];exact cY _ _ _ rfl (by repeat (first|exact aK.refl _|refine aK.trans ?_ (aK.push _ _)|refine aK.trans ?_ (aK.fresh _ _))) rfl
theorem ae7{l bJ:List ak}{i:Nat}{x y:ak}(F:l[i]? =j x)(O:bJ[i]? =j y):ob (l.drop i) (bJ.drop i)=(tk x y&&ob (l.drop (i+1)) (bJ.drop (i+1))):=by obtain⟨dc,rfl⟩:=gg.1 F;obtain⟨dr,rfl⟩:=gg.1 O;rw[List.drop_eq_getElem_cons dc,List.drop_eq_getElem_cons dr];rfl
theorem ae8(l bJ:List ak)(v w:I)(R:∀h,sq h v l)(hw:∀h,sq h w bJ)(al:l.length<=100000)(aj:∀x∈l,∀(y:ak) (q eH:List I) (h:ad),b1 x q->b1 y eH->a3 ar W 19 [.agg q,.agg eH] h=j (.inl (.bool (tk x y)),h)):a3 ar W 29 [v,w] h=j (.inl (.bool (ob l bJ)),h):=by
 have tA:=(R h).len;have xS:=(R h).fits;have xT:=(hw h).len;have wf:=(hw h).fits;cases a6:decide ((l.length:Int)=(bJ.length:Int))
 ·rw[acA a6];refine pC Sf rfl λcH cY=>?_;unfold KF;simp only[ay,aD,aO,ax,tA,xS,xT,wf,a6];exact cY _ _ _ rfl (by repeat (first|exact aK.refl _|refine aK.trans ?_ (aK.push _ _)|refine aK.trans ?_ (aK.fresh _ _))) rfl
 ·have lJ:l.length=bJ.length:=by have:=of_decide_eq_true a6;omega
  refine pC Sf rfl λcH cY=>?_;unfold KF;simp only[ay,aD,aO,ax,tA,xS,xT,wf,a6];refine ru (λi V J=>∃v4 da v6,V=[v,w,.bool T,.int o (i:Nat),v4,da,v6]/\aK h J/\ob (l.drop i) (bJ.drop i)=ob l bJ) l.length ⟨_,_,_,rfl,aK.refl _,rfl⟩ ?_ ?_
  ·rintro i V J aa ⟨v4,da,v6,rfl,g,av⟩ next
   have bh:(i:Int)<(l.length:Int):=by omega
   have ae9:=ht (n:=(i:Int)+1) (by omega) (by omega);obtain⟨x,an⟩:=uS aa;obtain⟨y,bF⟩:=uS (l:=bJ) (i:=i) (by omega);obtain⟨a,q,dJ,hp,b2⟩:=(R J).b8 i x an;obtain⟨b,eH,fX,fc,fT⟩:=(hw J).b8 i y bF;have ao:=aj x (qq an) y q eH J b2 fT;rw[ae7 an bF]at av;cases ai:tk x y
   ·rw[ai]at ao av;rw[Bool.false_and]at av;rw[dP Fu.eq_1];simp only[ay,aD,aO,ax,cF,tA,xS,bh,dJ,hp _ (aK.refl J),fX,fc _ (aK.refl J),ao];exact cY _ _ _ rfl g (by rw[<-av];rfl)
   ·rw[ai]at ao av;rw[Bool.true_and]at av;rw[dP Fu.eq_1];simp only[ay,aD,aO,ax,cF,tA,xS,bh,dJ,hp _ (aK.refl J),fX,fc _ (aK.refl J),ao,ae9];exact next _ _ ⟨_,_,_,rfl,g,av⟩
  ·rintro V J ⟨v4,da,v6,rfl,g,av⟩;have bh:¬((l.length:Int)<(l.length:Int)):=by omega
   rw[List.drop_length,lJ,List.drop_length]at av;rw[dP Fu.eq_1];simp only[ay,aD,aO,ax,cF,tA,xS,bh];exact cY _ _ _ rfl g (by rw[<-av];rfl)
theorem ae':∀(N:Nat) (x:ak),lB x<=N->x.size<=100000->∀(y:ak) (q eH:List I) (h:ad),b1 x q->b1 y eH->a3 ar W 19 [.agg q,.agg eH] h=j (.inl (.bool (tk x y)),h):=by
 intro N;induction N with
 |zero=>intro x an;have:=x.n';omega
 |succ N aW=>
   intro x an ey y q eH h aG qZ;obtain⟨v,es,rfl,av,al⟩:=aG.row;obtain⟨w,fL,rfl,w4,hl⟩:=qZ.row;have ba:∀h,sq h v x.l:=λh=>sq.of av al;have Sq:∀h,sq h w y.l:=λh=>sq.of w4 hl;have hlen:=x.r';have ao:=λh=>ae8 (h:=h) x.l y.l v w ba Sq (by omega) (λz aN y q eH h=>aW z (by have:=ak.oN aN;omega) (by have:=ak.sb aN;omega) y q eH h);have bG:=(ba h).one;have bD:=(Sq h).one;rw[acB];refine pC aeP rfl λcH cY=>?_;unfold Sd;cases Z:decide (x.kind=y.kind)
   ·simp only[ay,aD,aO,ax,bG,bD,Z];exact cY _ _ _ rfl (by repeat (first|exact aK.refl _|refine aK.trans ?_ (aK.push _ _)|refine aK.trans ?_ (aK.fresh _ _))) (by rw[Z];rfl)
   ·cases au:decide (x.n=y.n)
    ·simp only[ay,aD,aO,ax,bG,bD,Z,au];exact cY _ _ _ rfl (by repeat (first|exact aK.refl _|refine aK.trans ?_ (aK.push _ _)|refine aK.trans ?_ (aK.fresh _ _))) (by rw[Z,au];rfl)
    ·simp only[ay,aD,aO,ax,bG,bD,Z,au,ao];exact cY _ _ _ rfl (by repeat (first|exact aK.refl _|refine aK.trans ?_ (aK.push _ _)|refine aK.trans ?_ (aK.fresh _ _))) (by rw[Z,au];rfl)
def Sr(V:List I):I:=V.getD 2 .aP
theorem afa:∀(N:Nat) (x:ak),lB x<=N->x.size<=100000->∀(r:List I) (h:ad),b1 x r->a3 ar W 131 [.agg r] h=j (.inl (jM 3 (jY x.ij)),h):=by
 intro N;induction N with
 |zero=>intro x an;have:=x.n';omega
 |succ N aW=>
   intro x an ey r h he;obtain⟨v,es,rfl,gc,R,au,gt⟩:=he.facts;have hlen:=x.r';have av:=x.size_eq;have rest:∀(cH:kD->Prop) (ae:ad) (KO:I) (hr:List Int) (da:I),Acc h ae 3 KO (jY hr)->aK h ae->h.n<ae.n->ae.cell h.n=j [[.int o x.kind,.int o x.n,v]]->hr.length<=1->(∀V J,(ie V J [.v 2]).map iH=j (Sr V)->aK h J->dA (Sr V)=j (jM 3 (jY (hr++oc x.l)))->cH (j (.ret,V,J)))->cH (bo (a3 ar W) 10 (.fI Fo::.bO []::.cb 0::[.bO [.ops [eY,lj],.ret]]) [.agg [.int o x.kind,.int o x.n,v],.ptr h.n 0 0,.aF,KO,.aP,da,v,.int o es.length,.int o 0,.aP] [] ae):=by
    intro cH ae KO hr da afb xb afc ia Hp cY;refine ru (λi V J=>∃acc ir BZ,V=[.agg [.int o x.kind,.int o x.n,v],.ptr h.n 0 0,.aF,acc,ir,da,v,.int o es.length,.int o (i:Nat),BZ]/\aK h J/\h.n<J.n/\J.cell h.n=j [[.int o x.kind,.int o x.n,v]]/\Acc h J 3 acc (jY (hr++oc (x.l.take i)))) x.l.length ⟨_,_,_,rfl,xb,afc,ia,by simpa[oc]using afb⟩ ?_ ?_
    ·rintro i V J aa ⟨acc,ir,BZ,rfl,g,hm,a8,aM⟩ next
     have bh:(i:Int)<(es.length:Int):=by rw[au];omega
     obtain⟨y,bF⟩:=uS aa;obtain⟨q,dJ,d1,b2⟩:=gt i y bF;obtain⟨bG,bD⟩:=b2.one;have hw:=ht (n:=(i:Int)+1) (by omega) (by omega);have ao:=aW y (by have:=ak.oN (qq bF);omega) (by have:=ak.sb (qq bF);omega) q (J.push [q]) b2;have sw:=IZ (x.l.take i);have ry:=Sg x.l i;have kc:=y.IY;have afd:=ak.sb (qq bF);obtain⟨pE,O,aq,aJ,a1,bf,cv⟩:=adP (h:=(J.push [q])) (show Acc h (J.push [q]) _ acc _ from aM) (g.trans (aK.push _ _)) (adR 3 (jY y.ij)) (adS _) (by simp only[iX,eP];omega) (by simp only[iX];omega);have afe:Acc h O 3 pE (jY (hr++oc (x.l.take (i+1)))):=by rw[xD bF,Pf,<-kv];simpa[oc]using aJ
     rw[dP Fo.eq_1];simp only[ay,aD,aO,ax,cF,bh,dJ,d1,bG,bD,ao,aq,hw];exact next _ _ ⟨_,_,_,rfl,a1,by rw[cv];(show _<J.n+1;omega),by rw[bf];(exact(bi hm).trans a8),afe⟩
    ·rintro V J ⟨acc,ir,BZ,rfl,g,hm,a8,aM⟩;have bh:¬((x.l.length:Int)<(es.length:Int)):=by rw[au];omega
     rw[List.take_length]at aM;have uT:=IL aM (λr ah=>by obtain⟨n,_,rfl⟩:=n0.1 ah;rfl);rw[dP Fo.eq_1];simp only[ay,aD,aO,ax,cF,bh];exact cY _ _ rfl g uT
   rw[x.acC];refine pC aeL rfl λcH cY=>?_;unfold R6;by_cases aw:x.kind=4
   ·rw[aw]at rest;have L:=rest;obtain⟨ang,F,ao,aJ,a1,bf,cv⟩:=y6 (ae:=h) (h:=h.push [[.int o 4,.int o x.n,v]]) (xi h _ 3) (by repeat (first|exact aK.refl _|refine aK.trans ?_ (aK.push _ _)|refine aK.trans ?_ (aK.fresh _ _))) (row:=[.int o x.n]) rfl (by simp);simp only[AV]at ao;simp only[ay,aD,aO,ax,R,aw,gc.len,gc.fits,ao,bf];refine L _ _ _ [x.n] _ aJ a1 (by rw[cv];simp only[fo];omega) (by rw[bf];exact kd) (by simp) λV J e g w=>cY _ _ _ e g ?_;rw[w];simp[aw]
   ·simp only[ay,aD,aO,ax,R,aw,gc.len,gc.fits];refine rest _ _ _ [] _ (xi _ _ _) (by repeat (first|exact aK.refl _|refine aK.trans ?_ (aK.push _ _)|refine aK.trans ?_ (aK.fresh _ _))) (by simp only[fo];omega) kd (by simp) λV J e g w=>cY _ _ _ e g ?_;rw[w];simp[aw]
theorem aff(v:I)(l:List ak)(R:∀h,sq h v l)(al:l.length<=100000)(g:cJ)(p:ak->Bool)(bc:∀y∈l,∀q h,b1 y q->a3 ar W g [.agg q] h=j (.inl (.bool (p y)),h)):∃n:Int,a3 ar W 143 [v,.fn g [] []] h=j (.inl (.int o n),h)/\decide (0<=n)=l.any p:=by
 suffices key:∃bu,a3 ar W 143 [v,.fn g [] []] h=j (.inl bu,h)/\∃n:Int,bu= .int o n/\decide (0<=n)=l.any p by obtain⟨_,e,n,rfl,O⟩:=key;exact⟨n,e,O⟩
 have tA:=(R h).len;have xS:=(R h).fits;refine ET aeO rfl λcH cY=>?_;unfold Sc;simp only[ay,aD,aO,ax,tA,xS];refine ru (λi V J=>∃cW gw v6 fF,V=[v,.fn g [] [],cW,gw,.int o l.length,.int o (i:Nat),v6,fF]/\aK h J/\(l.drop i).any p=l.any p) l.length ⟨_,_,_,_,rfl,aK.refl _,rfl⟩ ?_ ?_
 ·rintro i V J aa ⟨cW,gw,v6,fF,rfl,g,aj⟩ next
  have bh:(i:Int)<(l.length:Int):=by omega
  obtain⟨y,bF⟩:=uS aa;obtain⟨a,q,dJ,hp,b2⟩:=(R J).b8 i y bF;have hw:=ht (n:=(i:Int)+1) (by omega) (by omega);have ao:=bc y (qq bF) q J b2;have a6:(l.drop i).any p=(p y||(l.drop (i+1)).any p):=by obtain⟨eb,rfl⟩:=gg.1 bF;rw[List.drop_eq_getElem_cons eb,List.any_cons]
  rw[a6]at aj;cases ai:p y
  ·rw[ai]at ao aj;rw[Bool.false_or]at aj;rw[dP Ft.eq_1];simp only[ay,aD,aO,ax,cF,ct,q9,bh,dJ,hp _ (aK.refl J),ao,hw];exact next _ _ ⟨_,_,_,_,rfl,g,aj⟩
  ·rw[ai]at ao aj;rw[Bool.true_or]at aj;rw[dP Ft.eq_1];simp only[ay,aD,aO,ax,cF,ct,q9,bh,dJ,hp _ (aK.refl J),ao];exact cY _ _ _ _ rfl g rfl ⟨i,rfl,by rw[<-aj];simp⟩
 ·rintro V J ⟨cW,gw,v6,fF,rfl,g,aj⟩;have bh:¬((l.length:Int)<(l.length:Int)):=by omega
  rw[List.drop_length]at aj;rw[dP Ft.eq_1];simp only[ay,aD,aO,ax,cF,bh];exact cY _ _ _ _ rfl g rfl ⟨-1,rfl,by rw[<-aj];rfl⟩
theorem afg:∀(N:Nat) (x:ak),lB x<=N->x.size<=100000->∀(r:List I) (h:ad),b1 x r->a3 ar W 130 [.agg r] h=j (.inl (.bool x.gate),h):=by
 intro N;induction N with
 |zero=>intro x an;have:=x.n';omega
 |succ N aW=>
   intro x an ey r h he;obtain⟨v,es,rfl,av,al⟩:=he.row;have ba:∀h,sq h v x.l:=λh=>sq.of av al;have hlen:=x.r';have bG:=(ba h).one;have ao:∀h,a3 ar W 139 [v,.fn 130 [] []] h=j (.inl (.bool (y' x.l)),h):=by intro h;obtain⟨n,gM,aq⟩:=aff (h:=h) v x.l ba (by omega) 130 ak.gate (λy bF q h aG=>aW y (by have:=ak.oN bF;omega) (by have:=ak.sb bF;omega) q h aG);rw[Pg,<-aq];refine pC aeN rfl λcH cY=>?_;unfold R9;simp only[ay,aD,aO,ax,gM];exact cY _ _ _ rfl (by repeat (first|exact aK.refl _|refine aK.trans ?_ (aK.push _ _)|refine aK.trans ?_ (aK.fresh _ _))) rfl
   rw[x.acD];refine pC aeM rfl λcH cY=>?_;unfold R8;cases Z:decide (x.kind=5)
   ·simp only[ay,aD,aO,ax,bG,Z,ao];exact cY _ _ _ rfl (by repeat (first|exact aK.refl _|refine aK.trans ?_ (aK.push _ _)|refine aK.trans ?_ (aK.fresh _ _))) (by rw[Z];rfl)
   ·simp only[ay,aD,aO,ax,bG,Z];exact cY _ _ _ rfl (by repeat (first|exact aK.refl _|refine aK.trans ?_ (aK.push _ _)|refine aK.trans ?_ (aK.fresh _ _))) (by rw[Z];rfl)
end
theorem KP{e:aT}{b n m:Nat}(hm:m<=n):tV (.bd b 0 n e) ab (j (.int o (m:Int)))=j (.bd b 0 m e):=by simp[tV,wL,yp,h0,tU,hm]
abbrev bt:List I:=[.int o 0,.int o 0,.aF]
section
variable{h J ae:ad}{ag ap aH aA:Nat->Prop}{L:List cd}{a' az a5:Nat}{left:Int}{below:List hH}{top:hH}
theorem m4(f:hH)(a:List I)(s n g:I)(aM:a.length=3):(fP f a s n g)[6]? =j s/\(fP f a s n g).length=10/\(fP f a s n g)[7]? =j n/\(fP f a s n g)[9]? =j g/\(fP f a s n g)[8]? =j (.bool f.asked)/\(fP f a s n g)[0]? =j (.int o f.bw)/\(fP f a s n g)[1]? =j (.int o f.f)/\(fP f a s n g)[2]? =j (.int o (f.bs:Int)):=by
 match a,aM with
 |[x,y,z],_=>exact⟨rfl,rfl,rfl,rfl,rfl,rfl,rfl,rfl⟩
theorem FD{f:hH}{a:List I}{s n g:I}(aM:a.length=3/\a.all I.one=Q)(av:s.one=Q)(au:n.one=Q)(aX:g.one=Q):(fP f a s n g).all I.one=Q:=by simp only[fP,List.all_append,aM.2,av,au,aX,List.all_cons,List.all_nil,r9];rfl
theorem Ss(f:hH)(a:List I)(s n g dW:I)(st:List ak)(aM:a.length=3):(fP f a s n g).set 6 dW=fP {f with stack:=st} a dW n g:=by
 match a,aM with
 |[x,y,z],_=>rfl
theorem B0{α:Type}{A B:List α}{x:α}{k:Nat}(Z:A.length=k):(A++x::B)[k]? =j x:=QI A B x Z.symm
theorem St{α:Type}{A B:List α}{x y:α}{k:Nat}(Z:A.length=k):(A++x::B).set k y=A++y::B:=JW A B x y Z.symm
theorem afh(fq:aQ ae aH aA h L)(i:Nat)(aa:L[i]? =j (hV a' az a5 left below top)){v:ak}{r:List I}(R:b1 v r)(ai:below.length<=1000)(bB:top.stack.length<=1000000):∃J,a3 ar W m2 [.ptr a' 0 0,.agg r] h=j (.inl (.bW []),J)/\aQ ae aH aA J (L.set i (hV a' az a5 left below {top with stack:=top.stack++[v]})):=by refine fq.call (dG:=λJ=>a3 ar W m2 [.ptr a' 0 0,.agg r] h=j (.inl (.bW []),J)) i aa λag ap x=>?_;obtain⟨rs,ex,a,dv,aI,g,fU,aM,aX,s⟩:=xH x;have bn:=(s.iZ (aK.push h [r])).iZ (aK.push (h.push [r]) [r]);have aN:((h.push [r]).push [r]).cell (h.n+1)=j [r]:=kd;obtain⟨af,bm,b0⟩:=bn.app 2 rfl aN R bB;have kU:=s.cell 0 rfl;have bN:=s.cell 1 rfl;have c2:=(b0.cell 1 rfl).1;have hN:=m4 top a dv aI g aM.cZ.1;have run:=aeD (dW:=.bd ((h.push [r]).push [r]).n 0 (top.stack.length+1) cg) ai R.cZ kU.2 bN.2 kU.1 bN.1 (B0 fU) hN.1 hN.2.1 bm c2 rfl rfl;rw[Ss _ _ _ _ _ _ (top.stack++[v]) aM.cZ.1,St fU]at run;have cc:=b0.set 1 rfl [rs++fP {top with stack:=top.stack++[v]} a (.bd ((h.push [r]).push [r]).n 0 (top.stack.length+1) cg) aI g::ex].flatten;exact⟨_,run,zv (top:={top with stack:=top.stack++[v]}) aM aX (by simpa using cc)⟩
theorem FE{row KQ:List I}{k D:Nat}{v:I}(aj:O.cell a5=j (rs++row::ex))(Z:rs.length=k)(F:v.one=Q)(R:v.cells=[v])(U:D<row.length)(ah:row.set D v=KQ):ew 1 O (.ptr a5 k D) v=j (O.set a5 (j (rs++KQ::ex))):=by
 rw[lW aj (B0 Z) (by rw[R];simpa using F) (by rw[R];rfl) (by omega),St Z,R];have:dt row D [v]=KQ:=by
  rw[<-ah];unfold dt;refine List.ext_getElem? λi=>?_;have:=ut row [v] D i (by simp only[gp];omega);unfold dt at this;rw[this];by_cases e:i=D
  ·subst e;simp[U]
  ·rw[if_neg (by simp only[gp];omega),s' (by omega)]
 rw[this]
theorem B1{row:List I}{k D n:Nat}{v:I}(aj:O.cell a5=j (rs++row::ex))(Z:rs.length=k)(ah:row[D]? =j v):c0 T n O (.ptr a5 k D)=j v:=by rw[hD,aj,c7,B0 Z,c7,pq,ah]
theorem afi(fq:aQ ae aH aA h L)(i:Nat)(aa:L[i]? =j (hV a' az a5 left below top)){st:List ak}{v:ak}(bB:top.stack=st++[v])(ai:below.length<=1000)(al:st.length<=1000000):∃J,(∃r,a3 ar W 83 [.ptr a' 0 0] h=j (.inl (.agg r),J)/\b1 v r)/\aQ ae aH aA J (L.set i (hV a' az a5 left below {top with stack:=st})):=by
 refine fq.call (dG:=λJ=>∃r,a3 ar W 83 [.ptr a' 0 0] h=j (.inl (.agg r),J)/\b1 v r) i aa λag ap x=>?_;obtain⟨rs,ex,a,dv,aI,g,fU,aM,aX,s⟩:=xH x;have a4:=s.push [bt];obtain⟨eQ,eR,b2⟩:=a4.get 3 rfl;rw[bB]at b2;have hlen:(st++[v]).length=st.length+1:=by simp
 obtain⟨b,Su⟩:=QY b2 (by simp);rw[hlen]at Su;subst Su;have rd:=xK b2;obtain⟨p,r,ed,gJ,jy⟩:=rd.2.2.2.2 o st.length v (by simp);have hN:=m4 top a (.bd b 0 (st.length+1) cg) aI g aM.cZ.1;have w:jN o (((st.length+1:Nat):Int) - 1)=(st.length:Int):=xE (by omega) (by omega) (by omega);have ry:=KP (e:=cg) (b:=b) (n:=st.length+1) (m:=st.length) (by omega);have db:=Fh (a4.cell 1 rfl).1 ai;have dh:=λn=>B1 (n:=n) (a4.cell 2 rfl).1 fU hN.1;have bn:=a4.push [bt];have b0:=a4.push [r];have iL:=λn=>B1 (n:=n) (b0.cell 3 rfl).1 fU hN.1;have Sv:=FE (v:=.bd b 0 st.length cg) (b0.cell 3 rfl).1 fU rfl rfl (by rw[hN.2.1];decide) (Ss _ _ _ _ _ _ st aM.cZ.1);have cc:=b0.set 3 rfl (rs++fP {top with stack:=st} a (.bd b 0 st.length cg) aI g::ex);have a8:=(bn.cell 0 rfl).1;have du:=(cc.cell 0 rfl).1;have fk:=(cc.cell 1 rfl).1;have cE:=cc.set 1 rfl [r];have hW:=(cE.cell 1 rfl).1;have ua:cf 6 (.ptr a5 below.length 0)=j (.ptr a5 below.length 6):=rfl;have ee:aQ h ag ap _ (BD a' az a5 left below {top with stack:=st} rs ex a (.bd b 0 st.length cg) aI g):=cE.drop.drop.QZ 2 rfl λ_ _ _ x=>by rw[bB]at x;exact QX x
 refine⟨_,⟨r,?_,jy⟩,zv (top:={top with stack:=st}) aM aX ee⟩;simp only[fo]at a8 du fk hW Sv iL;refine bC aec rfl ?_;unfold Q4;simp only[ay,aD,aO,ax,ct,db,dh,ed,gJ,w,ry,jy.cZ.1,jy.cZ.2,a8,iL,Sv,du,fk,ua]
end
def Sw:List bl:=[BS,.ops [bj,bj,cM,eT,bb,en,iY,eY,.i .l (.build [.int o 0,.int o 0,.int o 0] [(0,1),(1,1),(2,1)] [(0,(.l 2)),(1,(.l 1)),(2,(.l 0))]),.i .l (.kC Q 169 [.int o 0,.int o 0,.int o 0] 3 1 [(0,(.l 0))]),.i .l (.app Q 169 (.l 5) (.l 0)),Ko,eT,mA],.ops [bj,cM,eT,bb,Sx,qg,oi],.ret]
theorem afj:c3 ar W 72 4 5 [0,1,2,3,8] Sw [(.v 4)] T:=by refine⟨_,_,Try.func72,rfl,rfl,?_,?_,?_,?_,?_⟩<;>kernel_rfl
def Sy:List bl:=[.ops [bj,cM,eT,bb,en,bj,cM,eT,bb,Sx,.i .l (.ga (j 169) ab (.l 6) (.l 5)),iD,mA]]
theorem afk:c3 ar W 99 2 2 [0,1] Sy [] T:=by refine⟨_,_,Try.func99,rfl,rfl,?_,?_,?_,?_,?_⟩<;>kernel_rfl
def KR:List bl:=[Fw,.cond (.v 10) [] [.exit 1],.block 2 [.ops [KS,sx,.i (.v 5) Sz,.i .n (.store 4 (.v 5) (.l 0))],.ops [bj,.i .l (.load Q 4 (.v 5)),SA]],Fx]
def FF:List bl:=[.ops [.i (.v 2) (.box 4 (.v 1))],.ops [bj,.i .l (.call (.c (.fn 72 [] [])) [.l 0,.c (.int o 100),.c (.int o 0),.c (.int o 0)])],.ops [sr,E9],.block 0 [.ops [.i .l (.bin (.int o) .eql (.v 6) (.c (.int o 5))),BM],.cond (.v 11) [SB,.ops [bj,.i .l (.call (.c (.fn 72 [] [])) [.l 0,.c (.int o 101),.c (.int o 0),.c (.int o 0)])],SC,.ops [bj,.i .l (.call (.c (.fn 72 [] [])) [.l 0,.c (.int o 102),.c (.int o 0),.c (.int o 0)])]] [.ops [.i .l (.bin (.int o) .eql (.v 6) (.c (.int o 7))),xM],.cond (.v 12) [SB,.ops [bj,.i .l (.call (.c (.fn 72 [] [])) [.l 0,.c (.int o 103),.c (.int o 0),.c (.int o 0)]),kF],SC,.ops [bj,.i .l (.call (.c (.fn 72 [] [])) [.l 0,.c (.int o 104),.c (.int o 0),.c (.int o 0)]),oi],.ops [bj,eY,SD],.ops [bj,sy,bb,.i .l (.ga (j 46) ab (.l 0) (.c (.int o 2))),sx,KT],.ops [bj,jo,SD]] [.ops [sy,BO,KU,Fy],.block 1 [.loop KR],.ops [bj,sr,bb,oT,bb,vW,bb,.i .l (.call (.c (.fn 72 [] [])) [.l 6,.l 4,.l 2,.l 0])]]]]]
theorem KV:c3 ar W 71 2 13 [0,1,3,4,5,7,11,13,14,15,16,31,49] FF [] T:=by refine⟨_,_,Try.func71,rfl,rfl,?_,?_,?_,?_,?_⟩<;>kernel_rfl
def KW:List bl:=[.ops [RW],.cond (.v 12) [] [.exit 0],.block 1 [.ops [.i .l (.ga (j 46) ab (.v 9) (.v 11)),sx,SE,SF],.ops [.i .l (.build [.aF] [(0,1)] []),.i .l (.box 1 (.l 0)),l6],.ops [mX,KX,SA],.ops [mX,.i .l (.call (.c (.fn 72 [] [])) [.l 0,.c (.int o 105),.c (.int o 0),.c (.int o 0)])],.ops [h5,mX,cM,eT,bb,.i .l (.kC T 158 [.aF] 1 1 [(0,(.l 0))]),.i .l (.app T 158 (.l 5) (.l 0)),oh]],.ops [RX,BM]]
def FG:List bl:=[.ops [KY,Fp,.i (.v 3) FH],.ops [.i .l (.load Q 1 (.v 1)),.i .l (.call (.c (.fn 70 [] [])) [.l 0]),.i (.v 4) FH,.i .n (.store 2 (.v 4) (.l 0))],.ops [.i .l (.cy 0 (.v 4)),bb,KZ],.cond (.v 8) [.ops [.i .l (.load Q 2 (.v 4)),Fp,SG],.ret] [],.ops [.i (.v 5) (.ba (.c .aF))],.ops [qp,R1,.i (.v 10) (.len T (j 46) (.v 9)),R2],.block 0 [.loop KW],.ops [h5,K0,.i (.v 2) (.ba (.l 1)),SG],.ret]
def SH:List bl:=[.ops [Jq],.ops [bj,FI,di,.g (.l 0) T .l (.ba (.v 0)),.g (.l 1) T .l (.bin (.int o) .gtr (.l 0) (.c (.int o 21))),.i (.v 2) P7],.cond (.v 2) [.ops [.i (.v 1) (.ba (.c (.int o (-1))))],.ret] [],.ops [.i .l (.build [.int o 0,.int o 0,.int o 0,.int o 0,.int o 0,.int o 0,.int o 0,.int o 0,.int o 0,.int o 0,.int o 0,.int o 0,.int o 0,.int o 0,.int o 0,.int o 0,.int o 0,.int o 0,.int o 0,.int o 0,.int o 0,.int o 0] [(0,1),(1,1),(2,1),(3,1),(4,1),(5,1),(6,1),(7,1),(8,1),(9,1),(10,1),(11,1),(12,1),(13,1),(14,1),(15,1),(16,1),(17,1),(18,1),(19,1),(20,1),(21,1)] [(0,(.c (.int o 0))),(1,(.c (.int o 0))),(2,(.c (.int o 0))),(3,(.c (.int o 0))),(4,(.c (.int o 0))),(5,(.c (.int o 2))),(6,(.c (.int o 2))),(7,(.c (.int o 3))),(8,(.c (.int o 2))),(9,(.c (.int o 1))),(10,(.c (.int o 1))),(11,(.c (.int o 1))),(12,(.c (.int o 1))),(13,(.c (.int o 1))),(14,(.c (.int o 2))),(15,(.c (.int o 1))),(16,(.c (.int o 1))),(17,(.c (.int o 1))),(18,(.c (.int o 1))),(19,(.c (.int o 2))),(20,(.c (.int o 1))),(21,(.c (.int o 0)))]),bj,.i .l (.b8 T (j (22,(1,T))) (.l 1) (.l 0)),ge],.ret]
theorem afl:c3 ar W 117 1 3 [0,2,8] SH [(.v 1)] Q:=by refine⟨_,_,Try.func117,rfl,rfl,?_,?_,?_,?_,?_⟩<;>kernel_rfl
def FJ:List bl:=[.ops [en,di,xw,P0,P1,zm,.g (.l 4) Q .l Bm,.i (.v 3) EN],.cond (.v 3) [.ops [bj,iY,Ba,iD,mA]] []]
theorem K1:c3 ar W 95 3 4 [0,1,2,13] FJ [] T:=by refine⟨_,_,Try.func95,rfl,rfl,?_,?_,?_,?_,?_⟩<;>kernel_rfl
def SI:List bl:=[.ops [FK,.i (.v 3) (.box 1 (.v 1)),Kf],.ops [.i .l (.load T 1 (.v 3)),qh,di,.g (.l 0) Q .l (.cy 3 (.v 2)),m3,.g (.l 2) Q .l (.DW 116 [] [.v 3]),.g (.l 3) Q .l (.call (.c (.fn 115 [] [])) [.l 1,.l 0]),Jw,Bi,oi],.ret]
theorem afm:c3 ar W 96 2 5 [0,1,2,3,4] SI [(.v 4)] Q:=by refine⟨_,_,Try.func96,rfl,rfl,?_,?_,?_,?_,?_⟩<;>kernel_rfl
def SJ:List bl:=[.ops [FK,JI],.ops [.i .l (.load Q 4 (.v 2)),.i .l (.load T 1 (.v 1)),qg,.i .l (.call (.c (.fn 96 [] [])) [.l 2,.l 0]),ts,kF],.ret]
theorem afn:c3 ar W 116 2 4 [0,1,2,3] SJ [(.v 3)] Q:=by refine⟨_,_,Try.func116,rfl,rfl,?_,?_,?_,?_,?_⟩<;>kernel_rfl
def SK:List bl:=[nC,.ops [bj,en,.i .l (.call (.c (.fn 129 [] [])) [.l 1,.l 0]),qh,lj],.ret]
theorem afo:c3 ar W 115 2 3 [0,1,4] SK [(.v 2)] Q:=by refine⟨_,_,Try.func115,rfl,rfl,?_,?_,?_,?_,?_⟩<;>kernel_rfl
def B2:List bl:=[.ops [R'],.cond (.v 6) [] [.exit 0],.block 1 [.ops [h5,kF],.ops [en,bj,eY,FL,sx,Sa],.cond (.v 7) [zq,.ret] []],.ops [Sb,oh]]
def SL:List bl:=[uJ,.ops [bj,.i (.v 4) B3,xy],.block 0 [.loop B2],.ops [KD],.ret]
theorem afp:c3 ar W 129 2 8 [0,1,4,5,7,8,9,16] SL [(.v 2)] Q:=by refine⟨_,_,Try.func129,rfl,rfl,?_,?_,?_,?_,?_⟩<;>kernel_rfl
def FM:List bl:=[.ops [jo,sy,bb,zH,Kw,di,Bh,RS,RT],.cond (.v 5) [] [.exit 0],.block 1 [.ops [sy,bb,jo,FL,sx,en,.i .l (.call (.c (.fn 97 [] [])) [.l 1,.l 0]),ge]],Kx]
def SM:List bl:=[.ops [FK,uK],.ops [en,qg,ge],BS,.block 0 [.loop FM],.ops [en,kF],.ret]
theorem afq:c3 ar W 97 2 6 [0,1,2,4,5,16] SM [(.v 3)] Q:=by refine⟨_,_,Try.func97,rfl,rfl,?_,?_,?_,?_,?_⟩<;>kernel_rfl
def SN:List bl:=[SO,.ops [bj,zF,bb,su,di,.g (.l 0) Q .l (.cy 0 (.v 3)),m3,FN,tz,.i .l (.call (.c (.fn 95 [] [])) [.l 8,.l 0,.c (.int o 5)])],.ops [xQ,.i (.v 4) rp],.block 0 [.ops [.i .l (.bin (.int o) .eql (.v 4) (.c (.int o 4))),oh],.cond (.v 5) [.ops [bj,nG,bb,si,di,uU,m0,.g (.l 2) T .l (.ba (.v 2)),.g (.l 3) T .l (.bin (.int o) .geq (.l 1) (.l 0)),.i .l FO,.i .l (.call (.c (.fn 95 [] [])) [.l 9,.l 0,.c (.int o 1)])]] [.ops [.i .l (.bin (.int o) .eql (.v 4) (.c (.int o 6))),tt],.cond (.v 6) [.ops [bj,nG,bb,FI,di,uU,m0,Fl,Fs,.i .l (.call (.c (.fn 95 [] [])) [.l 8,.l 0,.c (.int o 1)])]] [.ops [.i .l (.bin (.int o) .eql (.v 4) (.c (.int o 15))),l6],.cond (.v 7) [.ops [bj,nG,bb,EG,ts,.i .l (.call (.c (.fn 95 [] [])) [.l 4,.l 0,.c (.int o 1)])]] [.ops [.i .l (.bin (.int o) .eql (.v 4) (.c (.int o 18))),v'],.cond (.v 8) [.ops [bj,nG,bb,si,di,uU,m0,FP,.g (.l 3) T .l (.k9 (.l 0)),.g (.l 4) T .l (.cy 0 (.l 0)),.g (.l 5) T .l (.cy 0 (.l 0)),.g (.l 6) T .l rp,.g (.l 7) T .l B3,.g (.l 8) T .l (.bin (.int o) .geq (.l 6) (.l 0)),.i .l (.pick (.l 9) (.c (.bool Q)) (.l 0)),.i .l (.call (.c (.fn 95 [] [])) [.l 14,.l 0,.c (.int o 1)])]] [.ops [bj,nG,bb,su,.i .l (.call (.c (.fn 95 [] [])) [.l 3,.l 0,.c (.int o 5)])]]]]]]]
theorem afr:c3 ar W 118 3 9 [0,1,2,4,17,23,36,48,56] SN [] T:=by refine⟨_,_,Try.func118,rfl,rfl,?_,?_,?_,?_,?_⟩<;>kernel_rfl
def zI:List bl:=[Fw,.cond (.v 10) [] [.exit 0],.block 1 [.ops [zB,KS,sx,SE,.i (.v 5) (.ba (.l 2)),SF],.ops [bj,cM,iD,bb,.i (.v 11) Bd],.cond (.v 11) [.ret] [],.ops [xQ,bb,KB,di,FQ,.g (.l 1) Q .l (.bin (.int o) .eql (.l 0) (.c (.int o 1))),.i (.v 12) (.pick (.l 2) (.l 0) (.c (.bool T)))],.cond (.v 12) [.ops [bj,KX,iY,rv,.i .l (.call (.c (.fn 98 [] [])) [.l 3,.l 2,.l 0])]] [.ops [bj,KX,iY,.i .l (.call (.c (.fn 98 [] [])) [.l 2,.l 1,.l 0])]]],Fx]
def SP:List bl:=[SO,.ops [xQ,bb,.i .l (.call (.c (.fn 117 [] [])) [.l 0]),oi],.ops [bj,jo,si,.i .l (.call (.c (.fn 95 [] [])) [.l 2,.l 0,.c (.int o 2)])],.ops [bj,.i .l (.cy 3 (.v 3)),bb,zH,jo,EZ,.i .l (.call (.c (.fn 95 [] [])) [.l 5,.l 0,.c (.int o 5)])],.ops [bj,.i .l (.load Q 4 (.v 3)),iY,.i .l (.call (.c (.fn 118 [] [])) [.l 2,.l 1,.l 0])],.ops [bj,xQ,bb,KB,di,.g (.l 0) Q .l (.ba (.v 2)),.g (.l 1) Q .l (.bin (.int o) .eql (.l 0) (.c (.int o 12))),ER,.i .l (.call (.c (.fn 95 [] [])) [.l 7,.l 0,.c (.int o 3)])],.ops [.i .l (.cy 3 (.v 3)),BO,KU,Fy],.block 0 [.loop zI]]
theorem afs:c3 ar W 98 3 13 [0,1,2,4,6,7,8,37,38,39,40,48,55] SP [] T:=by refine⟨_,_,Try.func98,rfl,rfl,?_,?_,?_,?_,?_⟩<;>kernel_rfl
def FR:List bl:=[Fw,.cond (.v 10) [] [.exit 0],.block 1 [.ops [zB,KS,sx,.i (.v 4) Sz,.i (.v 3) (.ba (.l 2)),.i .n (.store 4 (.v 4) (.l 0))],.ops [.i .l (.load Q 1 (.v 1)),.i .l (.build [.aF,.int o 0] [(0,1),(1,1)] [(0,(.l 0))]),JK,oh],.ops [h5,.i .l Do,.i .l (.call (.c (.fn 96 [] [])) [.l 0,.c (.int o 30)]),ts,.i .l (.call (.c (.fn 95 [] [])) [.l 3,.l 0,.c (.int o 4)])],.ops [h5,h5,cM,iD,bb,E',di,.g (.l 0) Q .l Do,.g (.l 1) Q .l (.call (.c (.fn 97 [] [])) [.l 0,.c (.int o 120)]),H1,tz,.i .l (.call (.c (.fn 95 [] [])) [.l 10,.l 0,.c (.int o 3)])],.ops [h5,cM,iD,bb,JE],.cond (.v 11) [.ops [h5,.i .l Do,.i .l (.call (.c (.fn 98 [] [])) [.l 1,.l 0,.c (.int o 0)])]] [],.ops [h5,cM,iD,bb,.i (.v 12) Bd],.cond (.v 12) [.ops [h5,cM,iD,bb,eY,.i .l (.build [.int o 0,.int o 0] [(0,1),(1,1)] [(0,(.l 1)),(1,(.l 0))]),FT],.ret] []],Fx]
def SQ:List bl:=[.ops [KY,.i (.v 2) FH],.ops [qp,bb,zH,E',di,Fk,m0,.g (.l 2) T .l B3,.g (.l 3) T .l (.bin (.int o) .gtr (.l 0) (.c (.int o 6))),.i (.v 6) FO],.cond (.v 6) [.ops [.i .l (.build [.int o 0,.int o 0] [(0,1),(1,1)] [(0,(.c (.int o 3))),(1,(.c (.int o (-1))))]),FT],.ret] [],.ops [qp,BO,KU,Fy],.block 0 [.loop FR],.ops [K0,FT],.ret]
theorem aft:c3 ar W 70 1 13 [0,1,2,3,4,5,15,18,19,20,21,49,57] SQ [(.cell Q 2 2)] Q:=by refine⟨_,_,Try.func70,rfl,rfl,?_,?_,?_,?_,?_⟩<;>kernel_rfl
def FU:List bl:=[.ops [h5,sy,bb,zH,Kw,di,.g (.l 0) Q .l (.ba (.v 4)),SR,.g (.l 2) Q .l (.bin (.int o) .leq (.l 1) (.l 0)),.i (.v 6) zE],.cond (.v 6) [] [.exit 0],.block 1 [.ops [jo,sy,bb,h5,FL,sx,en,jo,Q8,.i .l (.call (.c (.fn 60 [] [])) [.l 3,.l 0]),.i .l (.bin (.int o) .add (.l 9) (.l 0)),oi]],.ops [h5,rv,oh]]
def SS:List bl:=[.ops [FK,uK],.ops [Jv],.ops [xy],.block 0 [.loop FU],.ops [jo,kF],.ret]
theorem afu:c3 ar W 60 2 7 [0,1,2,4,5,6,16] SS [(.v 3)] Q:=by refine⟨_,_,Try.func60,rfl,rfl,?_,?_,?_,?_,?_⟩<;>kernel_rfl
def FV:List bl:=[.ops [eY,qp,bb,zH,.i (.v 5) SU],.cond (.v 5) [] [.exit 0],.block 1 [.ops [qp,bb,eY,FL,sx,.i .l (.call (.c (.fn 60 [] [])) [.l 0,.c (.int o 600)]),.i (.v 6) (.bin (.int o) .gtr (.l 0) (.c (.int o 600)))],.cond (.v 6) [uR,.ret] []],KE]
def SV:List bl:=[.ops [KY,we],.ops [qp,bb,zH,.i (.v 4) (.bin (.int o) .gtr (.l 0) (.c (.int o 20)))],.cond (.v 4) [uR,.ret] [],xz,.block 0 [.loop FV],nC,.ret]
theorem afv:c3 ar W 26 1 7 [0,1,2,3,7,12,21] SV [(.v 2)] Q:=by refine⟨_,_,Try.func26,rfl,rfl,?_,?_,?_,?_,?_⟩<;>kernel_rfl
theorem ih.len:∀{l:List bk} {es:List (List I)},ih l es->es.length=l.length
 |[],es,h=>by simp only[ih]at h;subst h;rfl
 |x::l,es,h=>by simp only[ih]at h;obtain⟨r,rs,rfl,_,O⟩:=h;simp[ih.len O]
theorem ih.get:∀{l:List bk} {es:List (List I)} {i:Nat} {x:bk},ih l es->l[i]? =j x->∃r,es[i]? =j r/\i5 x r
 |[],es,i,x,h,an=>by simp at an
 |y::l,es,i,x,h,an=>by
   simp only[ih]at h;obtain⟨r,rs,rfl,F,O⟩:=h;cases i with
   |zero=>
     obtain rfl:y=x:=by simpa using an
     exact⟨r,rfl,F⟩
   |succ i=>simpa using ih.get O (by simpa using an)
theorem i5.row{x:bk}{r:List I}(h:i5 x r):∃v es,r=[.int o x.op,.int o x.k,.int o x.n,v]/\fE hu v es/\ih x.l es:=by
 cases x with
 |mk op k n l=>simp only[i5]at h;exact h
theorem i5.one{x:bk}{r:List I}(h:i5 x r):r.all I.one=Q/\r.length=4:=by obtain⟨v,es,rfl,R,_⟩:=h.row;rcases R with⟨_,rfl⟩|⟨id,rfl⟩<;>exact⟨rfl,rfl⟩
theorem i5.facts{x:bk}{r:List I}(h:i5 x r):∃v es,r=[.int o x.op,.int o x.k,.int o x.n,v]/\oM hu v es/\v.one=Q/\es.length=x.l.length/\∀(i:Nat) (y:bk),x.l[i]? =j y->∃q,ft (j hu) ab v (.int o (i:Int))=j (.ip q 0)/\gG Q 4 q 0=j (.agg q)/\i5 y q:=by
 obtain⟨v,es,rfl,R,al⟩:=h.row;refine⟨v,es,rfl,R.e',?_,al.len,λi y bF=>?_⟩
 ·rcases R with⟨_,rfl⟩|⟨id,rfl⟩<;>rfl
 ·obtain⟨q,F,O⟩:=al.get bF;exact⟨q,R.e'.b8 o i q F,kQ O.one.2,O⟩
theorem afw:BA ar hu=j [3,3,2,44]:=by kernel_rfl
theorem SW:(ar).underlying 3=j (.int o):=by kernel_rfl
theorem afx:(ar).underlying 2=j (.int o):=by kernel_rfl
theorem SX:(ar).underlying 44=j (.slice hu):=by kernel_rfl
theorem afy:∀(n:Nat) (r:List I),lH ar n hu r->∃x,i5 x r:=by
 intro n;induction n using Nat.strongRecOn with
 |ind n aW=>
   intro r h;obtain⟨m,rfl,parts,rfl,al,bc⟩:=J6 afw h;obtain⟨gN,hT,_,lk⟩:=bc 0 _ rfl;obtain⟨ed,aJ,_,c9⟩:=bc 1 _ rfl;obtain⟨gJ,a1,_,dx⟩:=bc 2 _ rfl;obtain⟨jy,bf,_,gH⟩:=bc 3 _ rfl;obtain⟨op,rfl,_⟩:=sp SW lk;obtain⟨k,rfl,_⟩:=sp SW c9;obtain⟨z,rfl,_⟩:=sp afx dx;obtain⟨aR,v,es,rfl,rfl,R,_,ah⟩:=J5 SX gH;obtain⟨hr,a8,bZ,b',rfl⟩:=ad6 al;simp only[n4,List.getElem?_cons_succ,g5]at hT aJ a1 bf;subst hT aJ a1 bf;have key:∀es:List (List I),(∀r∈es,∃x,i5 x r)->∃l,ih l es:=by
    intro es;induction es with
    |nil=>intro _;exact⟨[],rfl⟩
    |cons r es qS=>intro bP;obtain⟨x,an⟩:=bP r (by simp);obtain⟨l,al⟩:=qS λq aG=>bP q (by simp[aG]);exact⟨x::l,by simp only[ih];exact⟨r,es,rfl,an,al⟩⟩
   obtain⟨l,al⟩:=key es λr fZ=>aW aR (by omega) r (ah r fZ).2;exact⟨.mk op k z l,by simp only[i5];exact⟨v,es,rfl,R.BB,al⟩⟩
def afz(l:List bk)(r:List I):Prop:=∃v es,r=[v]/\fE hu v es/\ih l es
theorem afA:BA ar 48=j [44]:=by kernel_rfl
theorem afB{n:Nat}{r:List I}(h:lH ar n 48 r):∃l,afz l r:=by
 obtain⟨m,rfl,parts,rfl,al,bc⟩:=J6 afA h;obtain⟨gN,hT,_,lk⟩:=bc 0 _ rfl;obtain⟨aR,v,es,rfl,rfl,R,_,ah⟩:=J5 SX lk;obtain⟨hr,rfl⟩:=ad4 al;simp only[n4,g5]at hT;subst hT;have key:∀es:List (List I),(∀r∈es,∃x,i5 x r)->∃l,ih l es:=by
  intro es;induction es with
  |nil=>intro _;exact⟨[],rfl⟩
  |cons r es qS=>intro bP;obtain⟨x,an⟩:=bP r (by simp);obtain⟨l,al⟩:=qS λq aG=>bP q (by simp[aG]);exact⟨x::l,by simp only[ih];exact⟨r,es,rfl,an,al⟩⟩
 obtain⟨l,al⟩:=key es λr fZ=>afy aR r (ah r fZ).2;exact⟨l,v,es,rfl,R.BB,al⟩
section
variable{h:ad}
theorem afC{op:Int}(F:¬op<1)(O:¬21<op):op=1\/op=2\/op=3\/op=4\/op=5\/op=6\/op=7\/op=8\/op=9\/op=10\/op=11\/op=12\/op=13\/op=14\/op=15\/op=16\/op=17\/op=18\/op=19\/op=20\/op=21:=by omega
theorem afD(op:Int):a3 ar W 117 [.int o op] h=j (.inl (.int o (bv op)),h):=by
 refine bC afl rfl ?_;unfold SH;by_cases F:op<1
 ·have:bv op= -1:=by unfold bv;split<;>omega
  simp only[ay,aD,aO,ax,dI,F,this,fR (aK.refl h) (rfl:dA (.int o (-1))=_)]
 ·by_cases O:21<op
  ·have:bv op= -1:=by unfold bv;split<;>omega
   simp only[ay,aD,aO,ax,dI,F,O,this,fR (aK.refl h) (rfl:dA (.int o (-1))=_)]
  ·have gt:AK T (j (22,(1,T))) (.agg [(.int o 0),(.int o 0),(.int o 0),(.int o 0),(.int o 0),(.int o 2),(.int o 2),(.int o 3),(.int o 2),(.int o 1),(.int o 1),(.int o 1),(.int o 1),(.int o 1),(.int o 2),(.int o 1),(.int o 1),(.int o 1),(.int o 1),(.int o 2),(.int o 1),(.int o 0)]) (.int o op)=j (.int o (bv op)):=by rcases afC F O with rfl|rfl|rfl|rfl|rfl|rfl|rfl|rfl|rfl|rfl|rfl|rfl|rfl|rfl|rfl|rfl|rfl|rfl|rfl|rfl|rfl<;>rfl
   simp only[ay,aD,aO,ax,dI,F,O,gt]
end
section
variable{h:ad}
theorem afE(x:bk)(v:I)(es:List (List I))(al:oM hu v es)(au:es.length=x.l.length)(R:v.one=Q)(eU:Int)(ae:0<=eU)(hm:eU<=100000)(gt:∀(i:Nat) (y:bk),x.l[i]? =j y->∃q,ft (j hu) ab v (.int o (i:Int))=j (.ip q 0)/\gG Q 4 q 0=j (.agg q)/\i5 y q)(aj:∀y∈x.l,∀(q:List I) (h:ad) (m:Int),i5 y q->0<=m->m<=100000->a3 ar W 60 [.agg q,.int o m] h=j (.inl (.int o (min (y.size:Int) (m+1))),h))(mo gw:I)(K:List ic):∀(l pre:List bk) (v6:I),x.l=pre++l->∃kh nI,bo (a3 ar W) 7 (.fI FU::.bO []::.cb 0::K) [mo,.int o eU,.ptr h.n 0 0,gw,.int o (min (1+(eE pre:Int)) (eU+1)),.int o pre.length,v6] [] (h.push [[.int o x.op,.int o x.k,.int o x.n,v]])=bo (a3 ar W) 7 K [mo,.int o eU,.ptr h.n 0 0,gw,.int o (min (x.size:Int) (eU+1)),kh,nI] [] (h.push [[.int o x.op,.int o x.k,.int o x.n,v]]):=by
 intro l;induction l with
 |nil=>
   intro pre v6 e;have dC:x.l=pre:=by simpa using e
   have bh:¬((pre.length:Int)<(es.length:Int)):=by rw[au,dC];omega
   refine⟨.int o pre.length,.bool T,?_⟩;rw[dP FU.eq_1];have es:(1+(eE pre:Int))=(x.size:Int):=by rw[x.size_eq,dC];omega
   simp only[ay,aD,aO,ax,cF,al.len,al.fits,bh,es]
 |cons y l aW=>
   intro pre v6 e;have bh:(pre.length:Int)<(es.length:Int):=by rw[au,e];simp;omega
   obtain⟨q,dJ,hp,kV⟩:=gt pre.length y (by rw[e];simp);have ey:(x.size:Int)=1+(eE pre:Int)+(y.size:Int)+(eE l:Int):=by rw[x.size_eq,e,AY];simp[eE];omega
   have afF:=y.size_pos;have hlen:=x.r';rw[dP FU.eq_1];by_cases hle:min (1+(eE pre:Int)) (eU+1)<=eU
   ·have uV:min (1+(eE pre:Int)) (eU+1)=1+(eE pre:Int):=by omega
    rw[uV]at hle;have ky:(pre.length:Int)<=eE pre:=by
     have:∀l:List bk,l.length<=eE l:=by
      intro l;induction l with
      |nil=>simp
      |cons y l aW=>have:=y.size_pos;simp only[eE,gT];omega
     have:=this pre;omega
    have fS:=ht (n:=eU - (1+(eE pre:Int))) (by omega) (by omega);have afG:=ht (n:=(1+(eE pre:Int))+min (y.size:Int) (eU - (1+(eE pre:Int))+1)) (by omega) (by omega);have K2:=ht (n:=(pre.length:Int)+1) (by omega) (by omega);have kc:=aj y (by rw[e];simp) q (h.push [[.int o x.op,.int o x.k,.int o x.n,v]]) (eU - (1+(eE pre:Int))) kV (by omega) (by omega);obtain⟨kh,nI,bT⟩:=aW (pre++[y]) (.bool Q) (by simp[e]);have aq:((pre++[y]).length:Int)=(pre.length:Int)+1:=by simp
    have bm:min (1+(eE (pre++[y]):Int)) (eU+1)=(1+(eE pre:Int))+min (y.size:Int) (eU - (1+(eE pre:Int))+1):=by rw[AY,Pa];omega
    rw[aq,bm]at bT;refine⟨kh,nI,?_⟩;simp only[ay,aD,aO,ax,cF,al.len,al.fits,bh,uV,hle,dJ,hp,fS,kc,afG,K2];exact bT
   ·have uV:min (1+(eE pre:Int)) (eU+1)=eU+1:=by omega
    have K3:min (x.size:Int) (eU+1)=eU+1:=by omega
    have fr:¬(eU+1<=eU):=by omega
    refine⟨.int o pre.length,.bool T,?_⟩;simp only[ay,aD,aO,ax,cF,al.len,al.fits,bh,uV,K3,fr]
theorem afH:∀(N:Nat) (x:bk),lB x<=N->∀(r:List I) (h:ad) (eU:Int),i5 x r->0<=eU->eU<=100000->a3 ar W 60 [.agg r,.int o eU] h=j (.inl (.int o (min (x.size:Int) (eU+1))),h):=by
 intro N;induction N with
 |zero=>intro x an;have:=x.n';omega
 |succ N aW=>
   intro x an r h eU he ae hm;obtain⟨v,es,rfl,al,R,au,gt⟩:=he.facts;obtain⟨kh,nI,bT⟩:=afE (h:=h) x v es al au R eU ae hm gt (λy bF q h m aG=>aW y (by have:=bk.oN bF;omega) q h m aG) (.agg [.int o x.op,.int o x.k,.int o x.n,v]) (.int o 0) [.bO [.ops [jo,kF],.ret]] x.l [] .aP rfl;have em:min (1+(eE []:Int)) (eU+1)=1:=by simp only[eE];omega
   rw[em]at bT;simp only[gK,oU]at bT;refine bC afu rfl ?_;unfold SS;simp only[ay,aD,aO,ax,R,bT,fR (aK.push h _) (rfl:dA (.int o (min (x.size:Int) (eU+1)))=_)]
theorem bk.sb{x y:bk}(h:y∈x.l):y.size<x.size:=by
 have:∀l:List bk,y∈l->y.size<=eE l:=by
  intro l;induction l with
  |nil=>intro hm;simp at hm
  |cons z l aW=>
    intro hm;simp only[eE];rcases pi.1 hm with rfl|hm
    ·omega
    ·have:=aW hm;omega
 have:=this x.l h;rw[x.size_eq];omega
theorem afI(x:bk)(v:I)(es:List (List I))(al:oM hu v es)(au:es.length=x.l.length)(R:v.one=Q)(c:Int)(ae:0<=c)(hm:c<=100000)(gt:∀(i:Nat) (y:bk),x.l[i]? =j y->∃q,ft (j hu) ab v (.int o (i:Int))=j (.ip q 0)/\gG Q 4 q 0=j (.agg q)/\i5 y q)(aj:∀y∈x.l,∀(q:List I) (h:ad) (m:Int),i5 y q->0<=m->m<=100000->a3 ar W 97 [.agg q,.int o m] h=j (.inl (.int o (max (m - y.size) (-1))),h))(mo gw:I)(K:List ic):∀(l pre:List bk) (da:I),x.l=pre++l->∃ir kh,bo (a3 ar W) 6 (.fI FM::.bO []::.cb 0::K) [mo,.int o (max (c - 1 - eE pre) (-1)),.ptr h.n 0 0,gw,.int o pre.length,da] [] (h.push [[.int o x.op,.int o x.k,.int o x.n,v]])=bo (a3 ar W) 6 K [mo,.int o (max (c - x.size) (-1)),.ptr h.n 0 0,gw,ir,kh] [] (h.push [[.int o x.op,.int o x.k,.int o x.n,v]]):=by
 intro l;induction l with
 |nil=>
   intro pre da e;have dC:x.l=pre:=by simpa using e
   have bh:¬((pre.length:Int)<(es.length:Int)):=by rw[au,dC];omega
   refine⟨.int o pre.length,.bool T,?_⟩;rw[dP FM.eq_1];have es:c - 1 - (eE pre:Int)=c - x.size:=by rw[x.size_eq,dC];omega
   simp only[ay,aD,aO,ax,cF,al.len,al.fits,bh,es]
 |cons y l aW=>
   intro pre da e;have bh:(pre.length:Int)<(es.length:Int):=by rw[au,e];simp;omega
   obtain⟨q,dJ,hp,kV⟩:=gt pre.length y (by rw[e];simp);have ey:(x.size:Int)=1+(eE pre:Int)+(y.size:Int)+(eE l:Int):=by rw[x.size_eq,e,AY];simp[eE];omega
   have afF:=y.size_pos;rw[dP FM.eq_1];by_cases hle:0<=max (c - 1 - (eE pre:Int)) (-1)
   ·have uV:max (c - 1 - (eE pre:Int)) (-1)=c - 1 - (eE pre:Int):=by omega
    rw[uV]at hle;have ky:(pre.length:Int)<=eE pre:=by
     have:∀l:List bk,l.length<=eE l:=by
      intro l;induction l with
      |nil=>simp
      |cons y l aW=>have:=y.size_pos;simp only[eE,gT];omega
     have:=this pre;omega
    have K2:=ht (n:=(pre.length:Int)+1) (by omega) (by omega);have kc:=aj y (by rw[e];simp) q (h.push [[.int o x.op,.int o x.k,.int o x.n,v]]) (c - 1 - (eE pre:Int)) kV (by omega) (by omega);obtain⟨ir,kh,bT⟩:=aW (pre++[y]) (.bool Q) (by simp[e]);have aq:((pre++[y]).length:Int)=(pre.length:Int)+1:=by simp
    have bm:max (c - 1 - (eE (pre++[y]):Int)) (-1)=max (c - 1 - (eE pre:Int) - (y.size:Int)) (-1):=by rw[AY,Pa];omega
    rw[aq,bm]at bT;refine⟨ir,kh,?_⟩;simp only[ay,aD,aO,ax,cF,al.len,al.fits,bh,uV,hle,dJ,hp,kc,K2];exact bT
   ·have uV:max (c - 1 - (eE pre:Int)) (-1)= -1:=by omega
    have K3:max (c - (x.size:Int)) (-1)= -1:=by omega
    have fr:¬((0:Int)<= -1):=by omega
    refine⟨.int o pre.length,.bool T,?_⟩;simp only[ay,aD,aO,ax,cF,al.len,al.fits,bh,uV,K3,fr]
theorem afJ:∀(N:Nat) (x:bk),lB x<=N->∀(r:List I) (h:ad) (c:Int),i5 x r->0<=c->c<=100000->a3 ar W 97 [.agg r,.int o c] h=j (.inl (.int o (max (c - x.size) (-1))),h):=by
 intro N;induction N with
 |zero=>intro x an;have:=x.n';omega
 |succ N aW=>
   intro x an r h c he ae hm;obtain⟨v,es,rfl,al,R,au,gt⟩:=he.facts;obtain⟨ir,kh,bT⟩:=afI (h:=h) x v es al au R c ae hm gt (λy bF q h m aG=>aW y (by have:=bk.oN bF;omega) q h m aG) (.agg [.int o x.op,.int o x.k,.int o x.n,v]) (.int o 0) [.bO [.ops [en,kF],.ret]] x.l [] .aP rfl;have em:max (c - 1 - (eE []:Int)) (-1)=c - 1:=by simp only[eE];omega
   rw[em]at bT;simp only[gK,oU]at bT;have hw:=ht (n:=c - 1) (by omega) (by omega);refine bC afq rfl ?_;unfold SM;simp only[ay,aD,aO,ax,R,hw,bT,fR (aK.push h _) (rfl:dA (.int o (max (c - x.size) (-1)))=_)]
end
structure lK(h:ad)(v:I)(l:List bk):Prop where
 len:h0 v=j l.length
 fits:∀s,jL s (j hu) v=Q
 one:v.one=Q
 b8:∀(i:Nat) (y:bk),l[i]? =j y->∃a q,ft (j hu) ab v (.int o (i:Int))=j a/\(∀J,aK h J->c0 Q 4 J a=j (.agg q))/\i5 y q
theorem lK.of{h:ad}{v:I}{l:List bk}(R:fE hu v es)(al:ih l es):lK h v l:=by
 refine⟨?_,R.e'.fits,?_,λi y bF=>?_⟩
 ·rw[<-al.len];exact R.e'.len
 ·rcases R with⟨_,rfl⟩|⟨id,rfl⟩<;>rfl
 ·obtain⟨q,F,O⟩:=al.get bF;exact⟨.ip q 0,q,R.e'.b8 o i q F,λJ _=>kQ O.one.2,O⟩
section
variable{h:ad}
theorem afK(v:I)(L:List bk)(R:lK h v L)(dH:L.length<=20)(mo v4:I):∀(l pre:List bk) (da v6:I),L=pre++l->oL Q [.v 2] h (bo (a3 ar W) 7 [.fI FV,.bO [],.cb 0,.bO [.ops [we],.ret]] [mo,.ptr h.n 0 0,.bool T,.int o pre.length,v4,da,v6] [] (h.push [[v]]))=j (.inl (.bool (l.any λx=>decide (600<x.size))),h):=by
 intro l;induction l with
 |nil=>
   intro pre da v6 e;have dC:L=pre:=by simpa using e
   have bh:¬((pre.length:Int)<(L.length:Int)):=by rw[dC];omega
   rw[dP FV.eq_1];simp only[ay,aD,aO,ax,cF,R.len,R.fits,bh,List.any_nil,fR (aK.push h _) (rfl:dA (.bool T)=_)]
 |cons y l aW=>
   intro pre da v6 e;have bh:(pre.length:Int)<(L.length:Int):=by rw[e];simp;omega
   obtain⟨a,q,dJ,hp,kV⟩:=R.b8 pre.length y (by rw[e];simp);have nJ:=hp _ (aK.push h [[v]]);have kc:=afH _ y (bV _) q (h.push [[v]]) 600 kV (by omega) (by omega);have hw:=ht (n:=(pre.length:Int)+1) (by rw[e]at dH;simp at dH;omega) (by rw[e]at dH;simp at dH;omega);rw[dP FV.eq_1];by_cases ai:600<y.size
   ·have mg:(600:Int)<min (y.size:Int) (600+1):=by omega
    simp only[ay,aD,aO,ax,cF,R.len,R.fits,bh,dJ,nJ,kc,mg,List.any_cons,ai,fR (aK.push h _) (rfl:dA (.bool Q)=_)]
   ·have mg:¬(600:Int)<min (y.size:Int) (600+1):=by omega
    have bT:=aW (pre++[y]) (.bool Q) (.bool T) (by simp[e]);have aq:((pre++[y]).length:Int)=(pre.length:Int)+1:=by simp
    rw[aq]at bT;simp only[ay,aD,aO,ax,cF,R.len,R.fits,bh,dJ,nJ,kc,mg,List.any_cons,ai,hw];exact bT
theorem afL(v:I)(L:List bk)(R:lK h v L):a3 ar W 26 [.agg [v]] h=j (.inl (.bool (pr L)),h):=by
 refine bC afv rfl ?_;unfold SV;have F:=R.one;by_cases ai:20<L.length
 ·have mg:(20:Int)<(L.length:Int):=by omega
  simp only[ay,aD,aO,ax,F,R.len,R.fits,mg,pr,ai,fR (aK.push h _) (rfl:dA (.bool Q)=_)]
 ·have mg:¬(20:Int)<(L.length:Int):=by omega
  have bT:=afK v L R (by omega) (.agg [v]) (.bool T) L [] .aP .aP rfl;simp only[gK,oU]at bT;simp only[ay,aD,aO,ax,F,R.len,R.fits,mg,pr,ai];exact bT
end
section
variable{h:ad}
theorem afM(v:I)(L:List bk)(R:lK h v L)(dH:L.length<=100000)(g:cJ)(a c:List I)(p:bk->Bool)(bc:∀y∈L,∀q,i5 y q->a3 ar W g (a++[.agg q]++c) h=j (.inl (.bool (p y)),h)):∀(l pre:List bk) (cW gw v6 fF:I),L=pre++l->∃n:Int,oL Q [.v 2] h (bo (a3 ar W) 8 [.fI B2,.bO [],.cb 0,.bO [.ops [KD],.ret]] [v,.fn g a c,cW,gw,.int o L.length,.int o pre.length,v6,fF] [] h)=j (.inl (.int o n),h)/\decide (0<=n)=l.any p:=by
 intro l;induction l with
 |nil=>
   intro pre cW gw v6 fF e;have dC:L=pre:=by simpa using e
   have bh:¬((pre.length:Int)<(L.length:Int)):=by rw[dC];omega
   refine⟨-1,?_,rfl⟩;rw[dP B2.eq_1];simp only[ay,aD,aO,ax,cF,bh]
 |cons y l aW=>
   intro pre cW gw v6 fF e;have bh:(pre.length:Int)<(L.length:Int):=by rw[e];simp;omega
   obtain⟨nX,q,dJ,hp,kV⟩:=R.b8 pre.length y (by rw[e];simp);have nJ:=hp _ (aK.refl h);have kc:=bc y (by rw[e];simp) q kV;simp only[kv,l0,k5]at kc;have hw:=ht (n:=(pre.length:Int)+1) (by rw[e]at dH;simp at dH;omega) (by rw[e]at dH;simp at dH;omega);cases ai:p y
   ·obtain⟨n,bT,bQ⟩:=aW (pre++[y]) cW (.int o pre.length) (.bool Q) (.bool T) (by simp[e]);have aq:((pre++[y]).length:Int)=(pre.length:Int)+1:=by simp
    rw[aq]at bT;refine⟨n,?_,by rw[bQ];simp[ai]⟩;rw[ai]at kc;rw[dP B2.eq_1];simp only[ay,aD,aO,ax,cF,ct,kv,bh,dJ,nJ,kc,hw];exact bT
   ·refine⟨pre.length,?_,?_⟩
    ·rw[ai]at kc;rw[dP B2.eq_1];simp only[ay,aD,aO,ax,cF,ct,kv,bh,dJ,nJ,kc]
    ·simp[ai]
theorem afN(v:I)(L:List bk)(R:lK h v L)(dH:L.length<=100000)(g:cJ)(a c:List I)(p:bk->Bool)(bc:∀y∈L,∀q,i5 y q->a3 ar W g (a++[.agg q]++c) h=j (.inl (.bool (p y)),h)):a3 ar W 115 [v,.fn g a c] h=j (.inl (.bool (L.any p)),h):=by
 obtain⟨n,bT,bQ⟩:=afM v L R dH g a c p bc L [] (.int o 0) .aP .aP .aP rfl;simp only[gK,oU]at bT;have gv:a3 ar W 129 [v,.fn g a c] h=j (.inl (.int o n),h):=by refine bC afp rfl ?_;unfold SL;simp only[ay,aD,aO,ax,R.len,R.fits];exact bT
 refine bC afo rfl ?_;unfold SK;simp only[ay,aD,aO,ax,gv,bQ]
theorem afO:∀(N:Nat) (x:bk),lB x<=N->x.size<=100000->∀(r:List I) (h:ad) (left:Int),i5 x r-> -1<=left->left<=100000->a3 ar W 96 [.agg r,.int o left] h=j (.inl (.bool (decide ((x.depth:Int)<=left))),h):=by
 intro N;induction N with
 |zero=>intro x an;have:=x.n';omega
 |succ N aW=>
   intro x an ey r h left he ae hm;obtain⟨v,es,e,R,al⟩:=he.row;have ba:∀J,lK J v x.l:=λJ=>lK.of R al;have pa:=(ba h).one;subst e;refine bC afm rfl ?_;unfold SI;by_cases aB:0<=left
   ·have hlen:=x.r';have bX:=afN (h:=(h.push [[.int o x.op,.int o x.k,.int o x.n,v]]).push [[.int o left]]) v x.l (ba _) (by omega) 116 [] [.ptr (h.n+1) 0 0] (λy=> !decide ((y.depth:Int)<=left - 1)) (λy bF q aG=>by have hw:=ht (n:=left - 1) (by omega) (by omega);have afP:=aW y (by have:=bk.oN bF;omega) (by have:=bk.sb bF;omega) q (((h.push [[.int o x.op,.int o x.k,.int o x.n,v]]).push [[.int o left]]).push [q]) (left - 1) aG (by omega) (by omega);obtain⟨bN,bL⟩:=aG.one;refine bC afn rfl ?_;unfold SJ;simp only[ay,aD,aO,ax,bN,bL,hw,afP,fR (aK.push _ _) (rfl:dA (.bool (!decide ((y.depth:Int)<=left - 1)))=_)]);simp only[ay,aD,aO,ax,pa,aB,bX,acw x aB,fR ((aK.push h _).trans (aK.push _ _)) (rfl:dA (.bool (decide ((x.depth:Int)<=left)))=_)]
   ·have a6:decide ((x.depth:Int)<=left)=T:=by rw[decide_eq_false_iff_not];omega
    rw[a6];simp only[ay,aD,aO,ax,pa,aB,fR ((aK.push h _).trans (aK.push _ _)) (rfl:dA (.bool T)=_)]
end
section
variable{h:ad}
end
section
variable{h:ad}
end
def jQ(c d:Int):Int:=if c=0 then d else c
theorem FW(d:Int):jQ 0 d=d:=rfl
theorem K4(c:Int):jQ c 0=c:=by unfold jQ;split<;>simp_all
theorem SY{c:Int}(h:c≠0)(d:Int):jQ c d=c:=if_neg h
theorem afQ(a b c:Int):jQ (jQ a b) c=jQ a (jQ b c):=by unfold jQ;by_cases h:a=0<;>simp[h]
structure i9(b:Nat)(ba:I)(c:Int)(h J:ad):Prop where
 n:h.n<=J.n
 ids:h.ids<=J.ids
 eX:∀k,k<h.n->k≠b->J.cell k=h.cell k
 hw:∀k,k<h.ids->J.hw k=h.hw k
 D:J.cell b=j [[ba,.int o c]]
theorem i9.refl{b:Nat}{ba:I}{c:Int}{h:ad}(ai:h.cell b=j [[ba,.int o c]]):i9 b ba c h h:=⟨bV _,bV _,λ_ _ _=>rfl,λ_ _=>rfl,ai⟩
theorem i9.trans{b:Nat}{ba:I}{c fy:Int}{h J fW:ad}(x:i9 b ba c h J)(y:i9 b ba fy J fW):i9 b ba fy h fW:=⟨ef x.n y.n,ef x.ids y.ids,λk Z au=>(y.eX k (eL Z x.n) au).trans (x.eX k Z au),λk Z=>(y.hw k (eL Z x.ids)).trans (x.hw k Z),y.D⟩
theorem i9.push{b:Nat}{ba:I}{c:Int}{h:ad}(ai:h.cell b=j [[ba,.int o c]])(bh:b<h.n)(es:List (List I)):i9 b ba c h (h.push es):=⟨by simp[ad.push],by simp[ad.push],λk Z _=>bi Z,λ_ _=>rfl,(bi bh).trans ai⟩
theorem i9.iZ{b:Nat}{ba:I}{c:Int}{ae h J:ad}(g:aK ae h)(ai:ae.n<=b)(x:i9 b ba c h J):aK ae J:=⟨ef g.n x.n,ef g.ids x.ids,λk Z=>(x.eX k (eL Z g.n) (by omega)).trans (g.cell k Z),λk Z=>(x.hw k (eL Z g.ids)).trans (g.hw k Z)⟩
section
variable{h:ad}{b:Nat}{ba:I}{c:Int}
theorem rz(ai:h.cell b=j [[ba,.int o c]])(bA:Bool)(d:Int):∃J,a3 ar W 95 [.ptr b 0 0,.bool bA,.int o d] h=j (.inl (.bW []),J)/\i9 b ba (jQ c (if bA then d else 0)) h J:=by
 cases bA
 ·refine⟨h,?_,by rw[if_neg (by simp),K4];exact i9.refl ai⟩;refine bC K1 rfl ?_;unfold FJ;simp only[ay,aD,aO,ax]
 ·by_cases aj:c=0
  ·subst aj;refine⟨h.set b (j [[ba,.int o d]]),?_,⟨bV _,bV _,λk _ au=>gB au,λ_ _=>rfl,by rw[lz];rfl⟩⟩;refine bC K1 rfl ?_;unfold FJ;simp only[ay,aD,aO,ax,ai,eq_self]
  ·refine⟨h,?_,by rw[SY aj];exact i9.refl ai⟩;refine bC K1 rfl ?_;unfold FJ;simp only[ay,aD,aO,ax,ai,aj]
def rA(cL op k E:Int):Int:=
 if op=4 then(if k<0\/E<=k then 1 else 0)
 else if op=6 then(if k<1\/5<k then 1 else 0)
 else if op=15 then(if k<0\/15<k then 1 else 0)
 else if op=18 then(if k<0\/cL<=k then 1 else 0)
 else if k≠0 then 5 else 0
theorem afR(cL op k n E:Int):rh cL op k n E=jQ (if n≠0/\op≠2 then 5 else 0) (rA cL op k E):=by
 unfold rh;by_cases F:n≠0/\op≠2
 ·rw[if_pos F,if_pos F];rfl
 ·rw[if_neg F,if_neg F];rfl
theorem afS(k:Int):a3 ar W 112 [.int o k] h=j (.inl (.bool (!decide (k<0\/15<k))),h):=by
 refine bC Qv rfl ?_;unfold JS;by_cases ae:0<=k
 ·by_cases F:k<=15
  ·have e:decide (k<0\/15<k)=T:=by rw[decide_eq_false_iff_not];omega
   simp only[ay,aD,aO,ax,ae,F,e]
  ·have e:decide (k<0\/15<k)=Q:=by rw[decide_eq_true_eq];omega
   simp only[ay,aD,aO,ax,ae,F,e]
 ·have e:decide (k<0\/15<k)=Q:=by rw[decide_eq_true_eq];omega
  simp only[ay,aD,aO,ax,ae,e]
end
section
variable{h:ad}{b:Nat}{ba:I}{c:Int}
theorem afT(ai:h.cell b=j [[ba,.int o c]])(op k n:Int)(v:I)(q:Nat)(aG:h.cell q=j [[.int o op,.int o k,.int o n,v]])(v1 cW v4 da v6 fF iE:I)(rest:List bl)(K:List ic):∃F,bo (a3 ar W) 9 (.bO ((.ops [bj,zF,bb,su,di,(.g (.l 0) Q .l (.cy 0 (.v 3))),m3,FN,tz,(.i .l (.call (.c (.fn 95 [] [])) [(.l 8),(.l 0),(.c (.int o 5))]))])::rest)::K) [.ptr b 0 0,v1,cW,.ptr q 0 0,v4,da,v6,fF,iE] [] h=bo (a3 ar W) 9 (.bO rest::K) [.ptr b 0 0,v1,cW,.ptr q 0 0,v4,da,v6,fF,iE] [] F/\i9 b ba (jQ c (if n≠0/\op≠2 then 5 else 0)) h F:=by
 obtain⟨F,bT,fX⟩:=rz ai (!decide (n=0)&& !decide (op=2)) 5;refine⟨F,?_,?_⟩
 ·cases ao:decide (n=0)<;>cases aq:decide (op=2)<;>simp only[ao,aq,Bool.not_true,Bool.not_false,r9,Bool.and_false]at bT<;>simp only[ay,aG,ao,aq,bT]
 ·have e:(if(!decide (n=0)&& !decide (op=2))=Q then(5:Int)else 0)=if n≠0/\op≠2 then 5 else 0:=by simp
  rw[e]at fX;exact fX
theorem afU(ai:h.cell b=j [[ba,.int o c]]){cL:Nat}(hm:h0 ba=j cL)(wh:∀s,jL s (j hu) ba=Q)(op k n E:Int)(v:I)(q:Nat)(an:h.cell q=j [[.int o op,.int o k,.int o n,v]])(H:ad)(v1 v4 da v6 fF iE:I):∃F,oL T [] H (bo (a3 ar W) 9 [.bO [(.ops [xQ,(.i (.v 4) rp)]),(.block 0 [(.ops [(.i .l (.bin (.int o) .eql (.v 4) (.c (.int o 4)))),oh]),(.cond (.v 5) [(.ops [bj,nG,bb,si,di,uU,m0,(.g (.l 2) T .l (.ba (.v 2))),(.g (.l 3) T .l (.bin (.int o) .geq (.l 1) (.l 0))),(.i .l FO),(.i .l (.call (.c (.fn 95 [] [])) [(.l 9),(.l 0),(.c (.int o 1))]))])] [(.ops [(.i .l (.bin (.int o) .eql (.v 4) (.c (.int o 6)))),tt]),(.cond (.v 6) [(.ops [bj,nG,bb,FI,di,uU,m0,Fl,Fs,(.i .l (.call (.c (.fn 95 [] [])) [(.l 8),(.l 0),(.c (.int o 1))]))])] [(.ops [(.i .l (.bin (.int o) .eql (.v 4) (.c (.int o 15)))),l6]),(.cond (.v 7) [(.ops [bj,nG,bb,EG,ts,(.i .l (.call (.c (.fn 95 [] [])) [(.l 4),(.l 0),(.c (.int o 1))]))])] [(.ops [(.i .l (.bin (.int o) .eql (.v 4) (.c (.int o 18)))),v']),(.cond (.v 8) [(.ops [bj,nG,bb,si,di,uU,m0,FP,(.g (.l 3) T .l (.k9 (.l 0))),(.g (.l 4) T .l (.cy 0 (.l 0))),(.g (.l 5) T .l (.cy 0 (.l 0))),(.g (.l 6) T .l rp),(.g (.l 7) T .l B3),(.g (.l 8) T .l (.bin (.int o) .geq (.l 6) (.l 0))),(.i .l (.pick (.l 9) (.c (.bool Q)) (.l 0))),(.i .l (.call (.c (.fn 95 [] [])) [(.l 14),(.l 0),(.c (.int o 1))]))])] [(.ops [bj,nG,bb,su,(.i .l (.call (.c (.fn 95 [] [])) [(.l 3),(.l 0),(.c (.int o 5))]))])])])])])])]] [.ptr b 0 0,v1,.int o E,.ptr q 0 0,v4,da,v6,fF,iE] [] h)=j (.inl (.bW []),F)/\i9 b ba (jQ c (rA cL op k E)) h F:=by
 have U:=ai;have fX:=i9.refl ai;by_cases aw:op=4
 ·subst aw;obtain⟨O,bQ,fc⟩:=rz fX.D (decide (k<0\/E<=k)) 1;refine⟨O,?_,?_⟩
  ·by_cases Z:k<0
   ·have e:decide (k<0\/E<=k)=Q:=by rw[decide_eq_true_eq];omega
    rw[e]at bQ;simp only[ay,eD,an,Z,bQ]
   ·by_cases bH:E<=k
    ·have e:decide (k<0\/E<=k)=Q:=by rw[decide_eq_true_eq];omega
     rw[e]at bQ;simp only[ay,eD,an,U,hm,wh,Z,bH,bQ]
    ·have e:decide (k<0\/E<=k)=T:=by rw[decide_eq_false_iff_not];omega
     rw[e]at bQ;simp only[ay,eD,an,U,hm,wh,Z,bH,bQ]
  ·have aq:rA cL 4 k E=if decide (k<0\/E<=k)=Q then 1 else 0:=by simp[rA]
   rw[aq];exact fX.trans fc
 by_cases cj:op=6
 ·subst cj;obtain⟨O,bQ,fc⟩:=rz fX.D (decide (k<1\/5<k)) 1;refine⟨O,?_,?_⟩
  ·by_cases Z:k<1
   ·have e:decide (k<1\/5<k)=Q:=by rw[decide_eq_true_eq];omega
    rw[e]at bQ;simp only[ay,eD,an,Z,bQ]
   ·by_cases bH:5<k
    ·have e:decide (k<1\/5<k)=Q:=by rw[decide_eq_true_eq];omega
     rw[e]at bQ;simp only[ay,eD,an,Z,bH,bQ]
    ·have e:decide (k<1\/5<k)=T:=by rw[decide_eq_false_iff_not];omega
     rw[e]at bQ;simp only[ay,eD,an,Z,bH,bQ]
  ·have aq:rA cL 6 k E=if decide (k<1\/5<k)=Q then 1 else 0:=by simp[rA]
   rw[aq];exact fX.trans fc
 by_cases El:op=15
 ·subst El;obtain⟨O,bQ,fc⟩:=rz fX.D (decide (k<0\/15<k)) 1;refine⟨O,?_,?_⟩
  ·have w:=afS (h:=h) k;simp only[ay,eD,an,w,Bool.not_not,bQ]
  ·have aq:rA cL 15 k E=if decide (k<0\/15<k)=Q then 1 else 0:=by simp[rA]
   rw[aq];exact fX.trans fc
 by_cases K5:op=18
 ·subst K5;obtain⟨O,bQ,fc⟩:=rz fX.D (decide (k<0\/(cL:Int)<=k)) 1;refine⟨O,?_,?_⟩
  ·by_cases Z:k<0
   ·have e:decide (k<0\/(cL:Int)<=k)=Q:=by rw[decide_eq_true_eq];omega
    rw[e]at bQ;simp only[ay,eD,an,Z,bQ]
   ·by_cases bH:(cL:Int)<=k
    ·have e:decide (k<0\/(cL:Int)<=k)=Q:=by rw[decide_eq_true_eq];omega
     rw[e]at bQ;simp only[ay,eD,an,U,hm,wh,Z,bH,bQ]
    ·have e:decide (k<0\/(cL:Int)<=k)=T:=by rw[decide_eq_false_iff_not];omega
     rw[e]at bQ;simp only[ay,eD,an,U,hm,wh,Z,bH,bQ]
  ·have aq:rA cL 18 k E=if decide (k<0\/(cL:Int)<=k)=Q then 1 else 0:=by simp[rA]
   rw[aq];exact fX.trans fc
 obtain⟨O,bQ,fc⟩:=rz fX.D (!decide (k=0)) 5;refine⟨O,?_,?_⟩
 ·simp only[ay,an,aw,cj,El,K5,bQ]
 ·have aq:rA cL op k E=if(!decide (k=0))=Q then 5 else 0:=by simp[rA,aw,cj,El,K5]
  rw[aq];exact fX.trans fc
theorem afV(ai:h.cell b=j [[ba,.int o c]])(bh:b<h.n){cL:Nat}(hm:h0 ba=j cL)(wh:∀s,jL s (j hu) ba=Q)(op k n E:Int)(v:I)(R:v.one=Q):∃J,a3 ar W 118 [.ptr b 0 0,.agg [.int o op,.int o k,.int o n,v],.int o E] h=j (.inl (.bW []),J)/\i9 b ba (jQ c (rh cL op k n E)) h J:=by
 have p:=i9.push (c:=c) ai bh [[.int o op,.int o k,.int o n,v]];obtain⟨F,bT,fX⟩:=afT p.D op k n v h.n kd (.agg [.int o op,.int o k,.int o n,v]) (.int o E) .aP .aP .aP .aP .aP [(.ops [xQ,(.i (.v 4) rp)]),(.block 0 [(.ops [(.i .l (.bin (.int o) .eql (.v 4) (.c (.int o 4)))),oh]),(.cond (.v 5) [(.ops [bj,nG,bb,si,di,uU,m0,(.g (.l 2) T .l (.ba (.v 2))),(.g (.l 3) T .l (.bin (.int o) .geq (.l 1) (.l 0))),(.i .l FO),(.i .l (.call (.c (.fn 95 [] [])) [(.l 9),(.l 0),(.c (.int o 1))]))])] [(.ops [(.i .l (.bin (.int o) .eql (.v 4) (.c (.int o 6)))),tt]),(.cond (.v 6) [(.ops [bj,nG,bb,FI,di,uU,m0,Fl,Fs,(.i .l (.call (.c (.fn 95 [] [])) [(.l 8),(.l 0),(.c (.int o 1))]))])] [(.ops [(.i .l (.bin (.int o) .eql (.v 4) (.c (.int o 15)))),l6]),(.cond (.v 7) [(.ops [bj,nG,bb,EG,ts,(.i .l (.call (.c (.fn 95 [] [])) [(.l 4),(.l 0),(.c (.int o 1))]))])] [(.ops [(.i .l (.bin (.int o) .eql (.v 4) (.c (.int o 18)))),v']),(.cond (.v 8) [(.ops [bj,nG,bb,si,di,uU,m0,FP,(.g (.l 3) T .l (.k9 (.l 0))),(.g (.l 4) T .l (.cy 0 (.l 0))),(.g (.l 5) T .l (.cy 0 (.l 0))),(.g (.l 6) T .l rp),(.g (.l 7) T .l B3),(.g (.l 8) T .l (.bin (.int o) .geq (.l 6) (.l 0))),(.i .l (.pick (.l 9) (.c (.bool Q)) (.l 0))),(.i .l (.call (.c (.fn 95 [] [])) [(.l 14),(.l 0),(.c (.int o 1))]))])] [(.ops [bj,nG,bb,su,(.i .l (.call (.c (.fn 95 [] [])) [(.l 3),(.l 0),(.c (.int o 5))]))])])])])])])] [];obtain⟨O,bQ,fc⟩:=afU fX.D hm wh op k n E v h.n (by rw[fX.eX h.n (by simp[ad.push]) (by omega)];exact kd) h (.agg [.int o op,.int o k,.int o n,v]) .aP .aP .aP .aP .aP;refine⟨O,?_,?_⟩
 ·refine bC afr rfl ?_;unfold SN;rw[O1,IK (by simp only[ay,aD,aO,ax,R]) (by simp only[ay,aD,aO,ax]),O4];exact(congrArg (oL T [] h) bT).trans bQ
 ·rw[afR,<-afQ];exact(p.trans fX).trans fc
end
theorem bk.Eg(cL:Int)(x:bk)(E:Int):x.fault cL E=jQ (ti cL x.op x.k x.n x.l.length E) (qb cL x.op 0 x.l E):=by
 cases x with
 |mk op k n l=>simp only[bk.fault,bk.op,bk.k,bk.n,bk.l,jQ];by_cases bP:ti cL op k n l.length E=0<;>simp[bP]
theorem afW(cL k n:Int)(len:Nat):ti cL 5 k n len 12≠0:=by
 unfold ti;split
 ·decide
 ·split
  ·decide
  ·split
   ·assumption
   ·simp
theorem SZ(cL op:Int)(i:Nat)(x:bk)(l:List bk)(E:Int):qb cL op i (x::l) E=jQ (x.fault cL (if op=5/\i=1 then E+1 else E)) (qb cL op (i+1) l E):=by simp only[qb,jQ];by_cases bP:x.fault cL (if op=5/\i=1 then E+1 else E)=0<;>simp[bP]
theorem Pi(cL op k n:Int)(len:Nat)(E:Int):ti cL op k n len E=jQ (jQ (jQ (if decide (bv op<0)=Q then 2 else 0) (if(!decide ((len:Int)=bv op))=Q then 5 else 0)) (rh cL op k n E)) (if(decide (op=5)&&decide (E=12))=Q then 3 else 0):=by
 unfold ti jQ;by_cases F:bv op<0
 ·simp[F]
 ·by_cases O:(len:Int)=bv op
  ·by_cases af:rh cL op k n E=0<;>simp[F,O,af]
  ·simp[F,O]
section
variable{h:ad}{b:Nat}{ba:I}
theorem afX(hL:b<h.n)(cL:Int)(x:bk)(v:I)(m:∀h,lK h v x.l)(dH:x.l.length<=100000)(E:Int)(am:0<=E)(rV:E<=12)(H:ad)(bc:∀y∈x.l,∀(q:List I) (h:ad) (E:Int),i5 y q->0<=E->E<=12->h.cell b=j [[ba,.int o 0]]->b<h.n->∃J,a3 ar W 98 [.ptr b 0 0,.agg q,.int o E] h=j (.inl (.bW []),J)/\i9 b ba (y.fault cL E) h J)(v1 v4:I):∀(l pre:List bk) (J:ad) (c:Int) (da v6 v10 v11 fG:I),x.l=pre++l->i9 b ba c h J->h.n<J.n->J.cell h.n=j [[.int o x.op,.int o x.k,.int o x.n,v]]->(x.op=5->E=12->c≠0)->∃fW,oL T [] H (bo (a3 ar W) 13 [.fI zI,.bO [],.cb 0,.bO []] [.ptr b 0 0,v1,.int o E,.ptr h.n 0 0,v4,da,v6,v,.int o x.l.length,.int o pre.length,v10,v11,fG] [] J)=j (.inl (.bW []),fW)/\i9 b ba (jQ c (qb cL x.op pre.length l E)) h fW:=by
 intro l;induction l with
 |nil=>
   intro pre J c da v6 v10 v11 fG e D au an aL;have dC:x.l=pre:=by simpa using e
   have bh:¬((pre.length:Int)<(x.l.length:Int)):=by rw[dC];omega
   refine⟨J,?_,by simp only[qb,K4];exact D⟩;rw[dP zI.eq_1];simp only[ay,aD,aO,ax,cF,bh]
 |cons y l aW=>
   intro pre J c da v6 v10 v11 fG e D au an aL;have bh:(pre.length:Int)<(x.l.length:Int):=by rw[e];simp;omega
   obtain⟨a,q,dJ,hp,kV⟩:=(m J).b8 pre.length y (by rw[e];simp);have nJ:=hp _ (aK.refl J);obtain⟨bG,bD⟩:=kV.one;have p:=i9.push D.D (Nat.lt_trans hL au) [q];have U:=p.D;have p2:(J.push [q]).cell h.n=j [[.int o x.op,.int o x.k,.int o x.n,v]]:=(bi au).trans an;have hw:=ht (n:=(pre.length:Int)+1) (by rw[e]at dH;simp at dH;omega) (by rw[e]at dH;simp at dH;omega);by_cases aj:c=0
   ·subst aj;have mN:J.n+1=(J.push [q]).n:=rfl;have FX:∀{fy:Int},x.op=5->E=12->fy≠0:=λF O=>absurd rfl (aL F O);have bm:((pre++[y]).length:Int)=(pre.length:Int)+1:=by simp
    have ck:(pre++[y]).length=pre.length+1:=by simp
    have Z:∀(F:ad) (fy:Int),i9 b ba fy (J.push [q]) F->F.cell h.n=j [[.int o x.op,.int o x.k,.int o x.n,v]]/\h.n<F.n:=λF fy fX=>
     ⟨(fX.eX h.n (by simp only[fo];omega) (by omega)).trans p2,eL (by simp only[fo];omega) fX.n⟩
    by_cases gj:x.op=5/\pre.length=1
    ·obtain⟨ib,rb⟩:=gj;have anh:E<=11:=by
      rcases Int.lt_or_eq_of_le rV with F|F
      ·omega
      ·exact absurd rfl (aL ib F)
     have afY:(pre.length:Int)=1:=by omega
     have afZ:=ht (n:=E+1) (by omega) (by omega);obtain⟨F,bT,fX⟩:=bc y (by rw[e];simp) q (J.push [q]) (E+1) kV (by omega) (by omega) U (by simp only[fo];omega);obtain⟨O,bQ,fc⟩:=aW (pre++[y]) F (y.fault cL (E+1)) (.int o pre.length) (.ptr J.n 0 0) (.bool Q) (.bool T) (.bool Q) (by simp[e]) ((D.trans p).trans fX) (Z F _ fX).2 (Z F _ fX).1 FX;rw[bm]at bQ;refine⟨O,?_,?_⟩
     ·rw[ib]at p2;have af0:decide ((pre.length:Int)=1)=Q:=by simp[afY]
      rw[dP zI.eq_1];simp only[ay,aD,aO,ax,cF,bh,dJ,nJ,bG,bD,U,p2,af0,afZ,bT,hw];exact bQ
     ·rw[SZ,if_pos ⟨ib,rb⟩,FW];rw[ck]at fc;exact fc
    ·obtain⟨F,bT,fX⟩:=bc y (by rw[e];simp) q (J.push [q]) E kV (by omega) (by omega) U (by simp only[fo];omega);have a6:(decide (x.op=5)&&decide ((pre.length:Int)=1))=T:=by
      rw[Bool.and_eq_false_iff,decide_eq_false_iff_not,decide_eq_false_iff_not];by_cases bg:x.op=5
      ·exact .inr (λaB=>gj ⟨bg,by omega⟩)
      ·exact .inl bg
     obtain⟨O,bQ,fc⟩:=aW (pre++[y]) F (y.fault cL E) (.int o pre.length) (.ptr J.n 0 0) (.bool Q) (.bool T) (.bool T) (by simp[e]) ((D.trans p).trans fX) (Z F _ fX).2 (Z F _ fX).1 FX;rw[bm]at bQ;refine⟨O,?_,?_⟩
     ·rw[dP zI.eq_1];cases bg:decide (x.op=5)
      ·simp only[ay,aD,aO,ax,cF,bh,dJ,nJ,bG,bD,U,p2,bg,bT,hw];exact bQ
      ·rw[bg,Bool.true_and]at a6;simp only[ay,aD,aO,ax,cF,bh,dJ,nJ,bG,bD,U,p2,bg,a6,bT,hw];exact bQ
     ·rw[SZ,if_neg gj,FW];rw[ck]at fc;exact fc
   ·refine⟨J.push [q],?_,by rw[SY aj];exact D.trans p⟩;rw[dP zI.eq_1];simp only[ay,aD,aO,ax,cF,bh,dJ,nJ,bG,bD,U,aj]
theorem af1(cL:Nat)(hm:h0 ba=j cL)(wh:∀s,jL s (j hu) ba=Q):∀(N:Nat) (x:bk),lB x<=N->x.size<=100000->∀(r:List I) (h:ad) (E:Int),i5 x r->0<=E->E<=12->h.cell b=j [[ba,.int o 0]]->b<h.n->∃J,a3 ar W 98 [.ptr b 0 0,.agg r,.int o E] h=j (.inl (.bW []),J)/\i9 b ba (x.fault cL E) h J:=by
 intro N;induction N with
 |zero=>intro x an;have:=x.n';omega
 |succ N aW=>
   intro x an ey r h E he am rV ai bh;obtain⟨v,es,e,R,al⟩:=he.row;have m:∀h,lK h v x.l:=λh=>lK.of R al;have bG:=(m h).one;have dh:=(m h).len;have f1:=(m h).fits;have hlen:=x.r';subst e;have p:=i9.push ai bh [[.int o x.op,.int o x.k,.int o x.n,v]];have af2:(h.push [[.int o x.op,.int o x.k,.int o x.n,v]]).cell h.n=j [[.int o x.op,.int o x.k,.int o x.n,v]]:=kd;have hL:h.n≠b:=by omega
   obtain⟨F,bT,fX⟩:=rz p.D (decide (bv x.op<0)) 2;have dm:=(fX.eX h.n (by simp only[fo];omega) hL).trans af2;have ek:h.n<F.n:=eL (by simp only[fo];omega) fX.n;obtain⟨O,bQ,fc⟩:=rz fX.D (!decide ((x.l.length:Int)=bv x.op)) 5;have gu:=(fc.eX h.n ek hL).trans dm;have iA:h.n<O.n:=eL ek fc.n;obtain⟨af,gL,sz⟩:=afV fc.D (by omega) hm wh x.op x.k x.n E v bG;have jA:=(sz.eX h.n iA hL).trans gu;have og:h.n<af.n:=eL iA sz.n;obtain⟨aw,kG,FY⟩:=rz sz.D (decide (x.op=5)&&decide (E=12)) 3;have ir:=(FY.eX h.n og hL).trans jA;have tB:h.n<aw.n:=eL og FY.n;rw[FW,<-Pi]at FY;have af3:=(((p.trans fX).trans fc).trans sz).trans FY;obtain⟨bg,sA,S0⟩:=afX (h:=h) bh cL x v m (by omega) E am rV h (λy bF q h E aG=>aW y (by have:=bk.oN bF;omega) (by have:=bk.sb bF;omega) q h E aG) (.agg [.int o x.op,.int o x.k,.int o x.n,v]) (.int o (bv x.op)) x.l [] aw _ .aP .aP .aP .aP .aP rfl af3 tB ir (λbg mx=>by rw[bg,mx];exact afW _ _ _ _);simp only[gK,oU]at sA;rw[gK,<-bk.Eg]at S0;refine⟨bg,?_,S0⟩;have K6:=afD (h:=h.push [[.int o x.op,.int o x.k,.int o x.n,v]]) x.op;refine bC afs rfl ?_;unfold SP;cases eB:decide (x.op=5)<;>cases B4:decide (E=12)<;>simp only[eB,B4,r9,Bool.and_false]at kG<;> (simp only[ay,aD,aO,ax,bG,K6,bT,dm,dh,f1,bQ,gu,gL,jA,eB,B4,kG,ir];exact sA)
end
theorem S1(cL:Int)(i:Nat)(x:bk)(l:List bk):tj cL i (x::l)=if qc cL x≠0 then(qc cL x,(i:Int))else tj cL (i+1) l:=rfl
section
variable{h:ad}
theorem af4(v:I)(L:List bk)(m:lK h v L)(dH:L.length<=100000)(av:∀x∈L,x.size<=100000)(mo v6:I):∀(l pre:List bk) (J:ad) (gw v4 da v10 v11 fG:I),L=pre++l->aK h J->h.n+1<J.n->J.cell h.n=j [[v]]->J.cell (h.n+1)=j [[.int o 0,.int o 0]]->oL Q [.cell Q 2 2] h (bo (a3 ar W) 13 [.fI FR,.bO [],.cb 0,.bO [(.ops [K0,FT]),.ret]] [mo,.ptr h.n 0 0,.ptr (h.n+1) 0 0,gw,v4,da,v6,v,.int o L.length,.int o pre.length,v10,v11,fG] [] J)=j (.inl (.agg [.int o (tj L.length pre.length l).1,.int o (tj L.length pre.length l).2]),h):=by
 intro l;induction l with
 |nil=>
   intro pre J gw v4 da v10 v11 fG e g au a8 bZ;have dC:L=pre:=by simpa using e
   have bh:¬((pre.length:Int)<(L.length:Int)):=by rw[dC];omega
   rw[dP FR.eq_1];simp only[ay,aD,aO,ax,cF,bZ,bh,tj,fR (g.set (show h.n<=h.n+1 by omega)) (rfl:dA (.agg [.int o 0,.int o 0])=_)]
 |cons y l aW=>
   intro pre J gw v4 da v10 v11 fG e g au a8 bZ;have bh:(pre.length:Int)<(L.length:Int):=by rw[e];simp;omega
   obtain⟨a,q,dJ,hp,kV⟩:=m.b8 pre.length y (by rw[e];simp);have nJ:=hp _ g;obtain⟨bG,bD⟩:=kV.one;have S2:=av y (by rw[e];simp);have wi:=m.one;have d1:(J.push [q]).cell h.n=j [[v]]:=(bi (by omega)).trans a8;have hw:=ht (n:=(pre.length:Int)+1) (by rw[e]at dH;simp at dH;omega) (by rw[e]at dH;simp at dH;omega);have bm:((pre++[y]).length:Int)=(pre.length:Int)+1:=by simp
   have ck:(pre++[y]).length=pre.length+1:=by simp
   have wj:∀a b:Int,dA (.agg [.int o a,.int o b])=j (.agg [.int o a,.int o b]):=λa b=>rfl;have af5:aK h ((J.push [q]).push [[v,.int o 0]]):=(g.trans (aK.push J [q])).trans (aK.push _ _);have af6:((J.push [q]).push [[v,.int o 0]]).cell (J.n+1)=j [[v,.int o 0]]:=y7;have hI:=afO _ y (bV _) S2 q ((J.push [q]).push [[v,.int o 0]]) 30 kV (by omega) (by omega);have fH:∀{F O:ad} {c:Int},i9 (J.n+1) v c F O->J.n+1<F.n->F.cell J.n=j [q]->F.cell h.n=j [[v]]->F.cell (h.n+1)=j [[.int o 0,.int o 0]]->O.cell J.n=j [q]/\O.cell h.n=j [[v]]/\O.cell (h.n+1)=j [[.int o 0,.int o 0]]/\J.n+1<O.n:=λ{F O c} D ek dc dr g6=>
    ⟨(D.eX _ (by omega) (by omega)).trans dc,(D.eX _ (by omega) (by omega)).trans dr,(D.eX _ (by omega) (by omega)).trans g6,eL ek D.n⟩
   have ia:((J.push [q]).push [[v,.int o 0]]).cell J.n=j [q]:=IQ;have dc:((J.push [q]).push [[v,.int o 0]]).cell h.n=j [[v]]:=(bi (by simp only[fo];omega)).trans d1;have dr:((J.push [q]).push [[v,.int o 0]]).cell (h.n+1)=j [[.int o 0,.int o 0]]:=(bi (by simp only[fo];omega)).trans ((bi au).trans bZ);have af7:J.n+1<((J.push [q]).push [[v,.int o 0]]).n:=by simp only[fo];omega
   obtain⟨F,bT,fX⟩:=rz af6 (!decide ((y.depth:Int)<=30)) 4;obtain⟨gN,ed,gJ,S3⟩:=fH fX af7 ia dc dr;have c1:=i9.iZ af5 (by omega) fX;have jR:=afJ _ y (bV _) q F 120 kV (by omega) (by omega);rw[S1];rw[dP FR.eq_1];by_cases a6:30<y.depth
   ·have uW:¬(y.depth:Int)<=30:=by omega
    have sB:qc L.length y=4:=by simp[qc,a6]
    rw[sB,if_pos (by decide)];have ao:jQ 0 (if(!decide ((y.depth:Int)<=30))=Q then 4 else 0)=4:=by simp[jQ,uW]
    rw[ao]at fX;obtain⟨O,bQ,fc⟩:=rz fX.D T 3;rw[if_neg (by simp),K4]at fc;obtain⟨fq,a4,bn,K7⟩:=fH fc S3 gN ed gJ;have eg:=(i9.iZ c1 (by have:=g.n;omega) fc).set (b:=h.n+1) (es:=j [[.int o 4,.int o pre.length]]) (by omega);have bN:=fX.D;have bL:=fc.D;simp only[uW,decide_false,Bool.not_false]at bT;simp only[ay,aD,aO,ax,dI,cF,bh,dJ,nJ,bG,bD,wi,d1,hI,uW,ia,bT,bN,eD,bQ,bL,fq,bn,fR eg (wj _ _)]
   ·have uW:(y.depth:Int)<=30:=by omega
    have ao:jQ 0 (if(!decide ((y.depth:Int)<=30))=Q then 4 else 0)=0:=by simp[jQ,uW]
    rw[ao]at fX;have bN:=fX.D;obtain⟨O,bQ,fc⟩:=rz fX.D (decide (max (120 - (y.size:Int)) (-1)<0)) 3;rw[FW]at fc;obtain⟨fq,a4,bn,K7⟩:=fH fc S3 gN ed gJ;have cr:=i9.iZ c1 (by have:=g.n;omega) fc;simp only[uW,decide_true,Bool.not_true]at bT;by_cases aj:120<y.size
    ·have jx:max (120 - (y.size:Int)) (-1)<0:=by omega
     have sB:qc L.length y=3:=by simp[qc,a6,aj]
     rw[sB,if_pos (by decide)];rw[if_pos (by simpa using jx)]at fc;have bL:=fc.D;have eg:=cr.set (b:=h.n+1) (es:=j [[.int o 3,.int o pre.length]]) (by omega);simp only[jx,decide_true]at bQ;simp only[ay,aD,aO,ax,dI,cF,bh,dJ,nJ,bG,bD,wi,d1,hI,uW,ia,bT,gN,bN,eq_self,jR,jx,eD,bQ,bL,fq,bn,fR eg (wj _ _)]
    ·have jx:¬max (120 - (y.size:Int)) (-1)<0:=by omega
     have sB:qc L.length y=y.fault L.length 0:=by simp[qc,a6,aj]
     rw[sB];rw[if_neg (by simpa using jx)]at fc;have bL:=fc.D;simp only[jx,decide_false]at bQ;obtain⟨af,gL,sz⟩:=af1 (b:=J.n+1) L.length m.len m.fits _ y (bV _) S2 q O 0 kV (by omega) (by omega) fc.D K7;obtain⟨t0,t1,t2,ani⟩:=fH sz K7 fq a4 bn;have c2:=sz.D;have eg:=i9.iZ cr (by have:=g.n;omega) sz;by_cases bc:y.fault L.length 0=0
     ·rw[if_neg (by simp[bc])];have lL:=aW (pre++[y]) af (.int o pre.length) (.ptr J.n 0 0) (.ptr (J.n+1) 0 0) (.bool Q) (.bool Q) (.bool T) (by simp[e]) eg (by have:=g.n;omega) t1 t2;rw[bm,ck]at lL;rw[bc]at c2;simp only[ay,aD,aO,ax,dI,cF,bh,dJ,nJ,bG,bD,wi,d1,hI,uW,ia,bT,gN,bN,eq_self,jR,jx,bQ,bL,fq,gL,c2,hw];exact lL
     ·rw[if_pos bc];have kO:=eg.set (b:=h.n+1) (es:=j [[.int o (y.fault L.length 0),.int o pre.length]]) (by omega);simp only[ay,aD,aO,ax,dI,cF,bh,dJ,nJ,bG,bD,wi,d1,hI,uW,ia,bT,gN,bN,eq_self,jR,jx,bQ,bL,fq,gL,c2,bc,t2,fR kO (wj _ _)]
theorem af8(v:I)(L:List bk)(m:lK h v L)(dH:L.length<=100000)(av:∀x∈L,x.size<=100000):a3 ar W 70 [.agg [v]] h=j (.inl (.agg [.int o (hE L).1,.int o (hE L).2]),h):=by
 have bG:=m.one;have dh:=m.len;have f1:=m.fits;have cr:aK h ((h.push [[v]]).push [[.int o 3,.int o (-1)]]):=(aK.push h _).trans (aK.push _ _);have wj:∀a b:Int,dA (.agg [.int o a,.int o b])=j (.agg [.int o a,.int o b]):=λa b=>rfl;refine bC aft rfl ?_;unfold SQ;by_cases ae:L.length=0
 ·have FZ:decide ((L.length:Int)=0)=Q:=by simp[ae]
  have e:hE L=(3, -1):=by simp[hE,ae]
  rw[e];simp only[ay,aD,aO,ax,dI,bG,dh,f1,FZ,fR cr (wj _ _)]
 ·have FZ:decide ((L.length:Int)=0)=T:=by rw[decide_eq_false_iff_not];omega
  by_cases cj:6<L.length
  ·have K8:(6:Int)<(L.length:Int):=by omega
   have e:hE L=(3, -1):=by simp[hE,cj]
   rw[e];simp only[ay,aD,aO,ax,dI,bG,dh,f1,FZ,K8,fR cr (wj _ _)]
  ·have K8:¬(6:Int)<(L.length:Int):=by omega
   have e:hE L=tj L.length 0 L:=by simp only[hE,ae,cj,or_self,if_false]
   rw[e];have bT:=af4 (h:=h) v L m dH av (.agg [v]) (.bool T) L [] ((h.push [[v]]).push [[.int o 0,.int o 0]]) .aP .aP .aP .aP .aP .aP rfl ((aK.push h _).trans (aK.push _ _)) (by simp only[fo];omega) IQ y7;simp only[gK,oU]at bT;simp only[ay,aD,aO,ax,dI,bG,dh,f1,FZ,K8];exact bT
theorem af9{L:List bk}(aX:pr L=T):L.length<=20/\∀x∈L,x.size<=600:=by simp only[pr,Bool.or_eq_false_iff,decide_eq_false_iff_not,List.any_eq_false]at aX;exact⟨by omega,λx an=>by have:=aX.2 x an;simpa using this⟩
end
abbrev i':aT:=169
abbrev S4:aT:=158
abbrev ci(x:cD):List I:=[.int o x.op,.int o x.k,.int o x.n]
def S5(v:I)(l:List cD)(h:ad):Prop:=(l=[]/\v= .aF)\/∃q,l≠[]/\q<h.n/\v= .bd q 0 l.length i'/\h.cell q=j (l.map ci)
structure oX(b:Nat)(l:List cD)(h:ad):Prop where
 lt:b<h.n
 s:∃v,h.cell b=j [[v]]/\S5 v l h
structure mB(b:Nat)(h J:ad):Prop where
 n:h.n<=J.n
 ids:h.ids<=J.ids
 hw:∀k,k<h.ids->J.hw k=h.hw k
 eX:∀k,k<h.n->k≠b->(∀m,h.cell b≠j [[.bd k 0 m i']])->J.cell k=h.cell k
 cur:∀k,k<h.n->∀m,J.cell b=j [[.bd k 0 m i']]->∃aR,h.cell b=j [[.bd k 0 aR i']]
theorem mB.trans{b:Nat}{h J fW:ad}(x:mB b h J)(y:mB b J fW):mB b h fW:=by
 refine⟨ef x.n y.n,ef x.ids y.ids,λk Z=>(y.hw k (eL Z x.ids)).trans (x.hw k Z),λk Z ai aj=>?_,λk Z m e=>?_⟩
 ·refine(y.eX k (eL Z x.n) ai λm e=>?_).trans (x.eX k Z ai aj);obtain⟨aR,dC⟩:=x.cur k Z m e;exact aj aR dC
 ·obtain⟨aR,dC⟩:=y.cur k (eL Z x.n) m e;exact x.cur k Z aR dC
theorem mB.push{b:Nat}{h:ad}(ai:b<h.n)(es:List (List I)):mB b h (h.push es):=⟨by simp[ad.push],by simp[ad.push],λ_ _=>rfl,λk Z _ _=>bi Z,λk Z m e=>⟨m,(bi ai).symm.trans e⟩⟩
theorem oX.push{b:Nat}{l:List cD}{h:ad}(m:oX b l h)(es:List (List I)):oX b l (h.push es):=by
 obtain⟨ai,v,R,av⟩:=m;refine⟨by simp only[fo];omega,v,(bi ai).trans R,?_⟩;rcases av with av|⟨q,F,O,af,aw⟩
 ·exact .inl av
 ·exact .inr ⟨q,F,by simp only[fo];omega,af,(bi O).trans aw⟩
structure Own(b c:Nat)(r:List (List I))(h:ad):Prop where
 lt:c<h.n
 ne:c≠b
 B5:∀m,h.cell b≠j [[.bd c 0 m i']]
 c:h.cell c=j r
theorem Own.on{b c:Nat}{r:List (List I)}{h J:ad}(E:Own b c r h)(x:mB b h J):Own b c r J:=⟨eL E.lt x.n,E.ne,λm e=>(x.cur c E.lt m e).elim λaR dC=>E.B5 aR dC,(x.eX c E.lt E.ne E.B5).trans E.c⟩
theorem Own.new{b:Nat}{l:List cD}{h:ad}(m:oX b l h)(r:List (List I)):Own b h.n r (h.push r):=by
 obtain⟨ai,v,R,av⟩:=m;refine⟨by simp[ad.push],by omega,λD e=>?_,kd⟩;rw[bi ai,R]at e;rcases av with⟨_,rfl⟩|⟨q,F,O,rfl,aw⟩
 ·simp at e
 ·simp only[g5,uu,I.bd.injEq,and_true]at e;omega
section
variable{h:ad}
theorem af'{b:Nat}{l:List cD}{v:I}(ai:b<h.n)(R:h.cell b=j [[v]])(av:S5 v l h)(al:l.length<=1000000)(x:cD):∃J,fx Q i' v (.bd h.n 0 1 i') (h.push [ci x])=j (.bd (h.n+1) 0 (l.length+1) i',J)/\J.cell b=j [[v]]/\oX b (l++[x]) (J.set b (j [[.bd (h.n+1) 0 (l.length+1) i']]))/\mB b h (J.set b (j [[.bd (h.n+1) 0 (l.length+1) i']])):=by
 rcases av with⟨rfl,rfl⟩|⟨q,F,O,rfl,aw⟩
 ·have a8:((h.push [ci x]).push [ci x]).cell b=j [[.aF]]:=(bi (by simp only[fo];omega)).trans ((bi ai).trans R);refine⟨(h.push [ci x]).push [ci x],?_,a8,⟨by simp only[lA,fo];omega,_,lz,.inr ⟨h.n+1,by simp,by simp only[lA,fo];omega,rfl,?_⟩⟩,?_⟩
  ·simp[fx,iO,kr,kd,fo,I.one]
  ·rw[gB (by omega)];exact y7
  ·refine⟨by simp only[lA,fo];omega,bV _,λ_ _=>rfl,λk Z au _=>(gB au).trans ((bi (by simp only[fo];omega)).trans (bi Z)),λk Z m e=>?_⟩;rw[lz]at e;simp at e;omega
 ·have yF:q≠b:=by
   intro e;rw[e,R]at aw;cases l with
   |nil=>exact F rfl
   |cons y l=>simp at aw
  have hlen:(l.map ci).length=l.length:=by simp
  have hr:((h.push [ci x]).cell q)=j (l.map ci):=(bi O).trans aw;refine⟨((h.push [ci x]).set q ab).push (l.map ci++[ci x]),?_,?_,⟨by simp only[lA,fo];omega,_,lz,.inr ⟨h.n+1,by simp,by simp only[lA,fo];omega,by simp,?_⟩⟩,?_⟩
  ·simp only[fx,iO,if_true,kd,c7,gp,hk,bV,List.drop_zero,List.take_succ_cons,List.take_zero,Nat.one_ne_zero,if_false,kr];rw[if_pos ⟨by omega,by omega,by simp[I.one]⟩,if_pos ⟨trivial,trivial,al⟩,hr];have aL:List.take l.length (l.map ci)=l.map ci:=by rw[<-hlen,List.take_length]
   simp[fo,aL]
  ·rw[bi (by simp only[lA,fo];omega),gB (kw yF),bi ai];exact R
  ·rw[gB (by omega)];have:=kd (h:=(h.push [ci x]).set q ab) (es:=l.map ci++[ci x]);simpa[lA,fo]using this
  ·refine⟨by simp only[lA,fo];omega,bV _,λ_ _=>rfl,λk Z au aj=>?_,λk Z m e=>?_⟩
   ·have:k≠q:=by rintro rfl;exact aj l.length R
    rw[gB au,bi (by simp only[lA,fo];omega),gB this,bi Z]
   ·rw[lz]at e;simp at e;omega
theorem jp{b:Nat}{l:List cD}(m:oX b l h)(al:l.length<=1000000)(op k n:Int):∃J,a3 ar W 72 [.ptr b 0 0,.int o op,.int o k,.int o n] h=j (.inl (.int o l.length),J)/\oX b (l++[⟨op,k,n⟩]) J/\mB b h J:=by
 obtain⟨ai,v,R,av⟩:=m;obtain⟨J,ao,a8,c8,t1⟩:=af' ai R av al ⟨op,k,n⟩;refine⟨_,?_,c8,t1⟩;have hw:=ht (n:=((l.length+1:Nat):Int) - 1) (by omega) (by omega);have aq:((l.length+1:Nat):Int) - 1=(l.length:Int):=by omega
 rw[aq]at hw;refine bC afj rfl ?_;unfold Sw;simp only[ay,aD,aO,ax,dI,R,ao,a8,aq,hw]
theorem S6{b:Nat}{A B:List cD}{x:cD}(m:oX b (A++x::B) h)(al:(A++x::B).length<=1000000):∃J,a3 ar W 99 [.ptr b 0 0,.int o A.length] h=j (.inl (.bW []),J)/\oX b (A++⟨x.op,((A++x::B).length:Nat),x.n⟩::B) J/\mB b h J:=by
 obtain⟨ai,v,R,av⟩:=m;rcases av with⟨e,rfl⟩|⟨q,F,O,rfl,aw⟩
 ·simp at e
 ·have yF:q≠b:=by intro e;rw[e,R]at aw;cases A<;>simp at aw
  have gt:ft (j i') ab (.bd q 0 (A++x::B).length i') (.int o (A.length:Int))=j (.ptr q A.length 0):=by rw[y5 rfl (by simp),hk]
  have aX:((A++x::B).map ci)[A.length]? =j (ci x):=by simp
  have K9:((A++x::B).map ci).set A.length [.int o x.op,.int o ((A++x::B).length:Int),.int o x.n]=(A++⟨x.op,((A++x::B).length:Nat),x.n⟩::B).map ci:=by simp
  refine⟨h.set q (j ((A++⟨x.op,((A++x::B).length:Nat),x.n⟩::B).map ci)),?_,⟨ai,_,(gB (kw yF)).trans R,.inr ⟨q,by simp,O,by simp,lz⟩⟩,?_⟩
  ·refine bC afk rfl ?_;unfold Sy;simp only[ay,aD,aO,ax,dI,R,gt,aw,aX,K9]
  ·refine⟨bV _,bV _,λ_ _=>rfl,λk Z au aj=>gB (by rintro rfl;exact aj _ R),λk Z m e=>?_⟩;rw[gB (kw yF)]at e;exact⟨m,e⟩
end
theorem S7(f:Nat->List cD):∀(cP:List (Nat->List cD)) (p:Nat),jZ (cP++[f]) p=jZ cP p++f (p+(jZ cP p).length)
 |[],p=>by simp[jZ]
 |g::cP,p=>by simp only[l0,jZ,S7 f cP,eP,kv];rw[show p+(g p).length+(jZ cP (p+(g p).length)).length=p+((g p).length+(jZ cP (p+(g p).length)).length) by omega]
theorem aga{l:List bk}:∀{i:Nat} {y:bk},l[i]? =j y->eE (l.take i)+y.size<=eE l:=by
 induction l with
 |nil=>intro i y h;simp at h
 |cons x l aW=>
   intro i y h;cases i with
   |zero=>
     obtain rfl:x=y:=by simpa using h
     simp[eE]
   |succ i=>have:=aW (i:=i) (y:=y) (by simpa using h);simp only[List.take_succ_cons,eE];omega
theorem S8(l:List bk)(p:Nat):(jZ (l.map ce) p).length<=3*eE l:=IU l p λy _ p=>uy _ y (bV _) p
section
variable{h:ad}
theorem agb(cL:Int):∀(N:Nat) (x:bk),lB x<=N->∀(E:Int),x.fault cL E=0->∀(r:List I) (h:ad) (b:Nat) (l:List cD),i5 x r->oX b l h->l.length+3*x.size<=100000->∃J,a3 ar W 71 [.ptr b 0 0,.agg r] h=j (.inl (.bW []),J)/\(oX b (l++ce x l.length) J/\mB b h J):=by
 intro N;induction N with
 |zero=>intro x an;have:=x.n';omega
 |succ N aW=>
   intro x an E bc r h b l he m al;obtain⟨v,es,rfl,gc,R,au,gt⟩:=he.facts;obtain⟨f1,f2,f3,f4,f5⟩:=IV bc;have av:=x.size_eq;obtain⟨O,aq,cu,t2⟩:=jp (m.push [[.int o x.op,.int o x.k,.int o x.n,v]]) (by omega) 100 0 0;have bD:=(Own.new m [[.int o x.op,.int o x.k,.int o x.n,v]]).on t2;have t2:=(mB.push m.lt [[.int o x.op,.int o x.k,.int o x.n,v]]).trans t2;have zJ:∀y∈x.l,∀(E:Int),y.fault cL E=0->∀(r:List I) (h:ad) (l:List cD),i5 y r->oX b l h->l.length+3*y.size<=100000->∃J,a3 ar W 71 [.ptr b 0 0,.agg r] h=j (.inl (.bW []),J)/\(oX b (l++ce y l.length) J/\mB b h J):=λy bF E bc r h l=>aW y (by have:=bk.oN bF;omega) E bc r h b l;rw[y9];have fI:∀(i:Nat) (y:bk),x.l[i]? =j y->y∈x.l:=λi y bF=>p6 bF;by_cases bg:x.op=5
   ·rw[bg]at f2 f5 aq bD;have wW:x.l.length=2:=by simp[bv]at f2;omega
    obtain⟨a,c,hq⟩:=ST wW;rw[hq]at f5 av;obtain⟨c1,cr⟩:=A0 f5;obtain⟨eg,_⟩:=A0 cr;simp only[Nat.zero_ne_one,and_false,if_false,and_self,if_true,hk]at c1 eg;simp only[eE]at av;obtain⟨bN,dJ,d1,b2⟩:=gt 0 a (by rw[hq];rfl);obtain⟨bL,hp,d2,ds⟩:=gt 1 c (by rw[hq];rfl);have dJ:ft (j hu) ab v (.int o 0)=j (.ip bN 0):=dJ;have hp:ft (j hu) ab v (.int o 1)=j (.ip bL 0):=hp;obtain⟨af,bm,je,t3⟩:=zJ a (by rw[hq];simp) E (by simpa using c1) bN O _ b2 cu (by simp only[eP,gp];omega);have ek:=uy _ a (bV _) (l++[(⟨100,0,0⟩:cD)]).length;have dE:=bD.on t3;obtain⟨aw,ck,i7,t4⟩:=jp je (by simp only[eP,gp]at ek ⊢;omega) 101 0 0;have fl:=dE.on t4;obtain⟨agc,eB,xU,t5⟩:=zJ c (by rw[hq];simp) (E+1) eg bL aw _ ds i7 (by simp only[eP,gp]at ek ⊢;omega);have iA:=uy _ c (bV _) (l++[(⟨100,0,0⟩:cD)]++ce a (l++[(⟨100,0,0⟩:cD)]).length++[(⟨101,0,0⟩:cD)]).length;obtain⟨cj,nD,wk,t6⟩:=jp xU (by simp only[eP,gp]at ek iA ⊢;omega) 102 0 0;refine JV KV rfl λcH cY=>?_;unfold FF;simp only[ay,aD,aO,ax,R,aq,bD.c,bg,eD,dJ,d1,bm,ck,fl.c,hp,d2,eB,nD];refine cY _ _ rfl ⟨?_,(((t2.trans t3).trans t4).trans t5).trans t6⟩;have ao:(l++[(⟨100,0,0⟩:cD)]).length=l.length+1:=by simp
    rw[ao]at wk;have ck:(l++[(⟨100,0,0⟩:cD)]++ce a (l.length+1)++[(⟨101,0,0⟩:cD)]).length=l.length+1+(ce a (l.length+1)).length+1:=by simp;omega
    rw[ck]at wk;rw[hq,bg];simpa only[sa,IS,if_true,jU,qQ,kv,l0,k5]using wk
   ·have lV:=Ee bg f5;by_cases cT:x.op=7
    ·rw[cT]at f2 aq bD;have wW:x.l.length=3:=by simp[bv]at f2;omega
     obtain⟨a,c,d,hq⟩:=ad5 wW;rw[hq]at av lV;simp only[eE]at av;obtain⟨bN,dJ,d1,b2⟩:=gt 0 a (by rw[hq];rfl);obtain⟨bL,hp,d2,ds⟩:=gt 1 c (by rw[hq];rfl);obtain⟨c2,kV,d3,fb⟩:=gt 2 d (by rw[hq];rfl);have dJ:ft (j hu) ab v (.int o 0)=j (.ip bN 0):=dJ;have hp:ft (j hu) ab v (.int o 1)=j (.ip bL 0):=hp;have kV:ft (j hu) ab v (.int o 2)=j (.ip c2 0):=kV;obtain⟨af,bm,je,t3⟩:=zJ a (by rw[hq];simp) E (lV a (by simp)) bN O _ b2 cu (by simp only[eP,gp];omega);have ek:=uy _ a (bV _) (l++[(⟨100,0,0⟩:cD)]).length;generalize dD:l++[(⟨100,0,0⟩:cD)]++ce a (l++[(⟨100,0,0⟩:cD)]).length=A at je;have j0:A.length<=l.length+1+3*a.size:=by rw[<-dD];simp only[eP,gp]at ek ⊢;omega
     have dE:=bD.on t3;obtain⟨aw,ck,i7,t4⟩:=jp je (by omega) 103 0 0;have fl:=dE.on t4;obtain⟨agc,eB,xU,t5⟩:=zJ c (by rw[hq];simp) E (lV c (by simp)) bL aw _ ds i7 (by simp only[eP,gp];omega);have iA:=uy _ c (bV _) (A++[(⟨103,0,0⟩:cD)]).length;generalize kZ:ce c (A++[(⟨103,0,0⟩:cD)]).length=B at xU iA;have iS:=fl.on t5;obtain⟨cj,nD,wk,t6⟩:=jp xU (by simp only[eP,gp];omega) 104 0 0;have q7:=iS.on t6;obtain⟨K',oV,B6,t7⟩:=S6 (A:=A) (x:=(⟨103,0,0⟩:cD)) (B:=B++[(⟨104,0,0⟩:cD)]) (by simpa using wk) (by simp only[eP,gT,gK];omega);have r1:=q7.on t7;obtain⟨hA,zK,La,t8⟩:=zJ d (by rw[hq];simp) E (lV d (by simp)) c2 K' _ fb B6 (by simp only[eP,gT,gK];omega);obtain⟨qe,oY,B7,t9⟩:=S6 (A:=A++⟨103,((A++(⟨103,0,0⟩:cD)::(B++[(⟨104,0,0⟩:cD)])).length:Nat),0⟩::B) (x:=(⟨104,0,0⟩:cD)) (B:=ce d (A++⟨103,((A++(⟨103,0,0⟩:cD)::(B++[(⟨104,0,0⟩:cD)])).length:Nat),0⟩::(B++[(⟨104,0,0⟩:cD)])).length) (by simpa using La) (by have:=uy _ d (bV _) (A++⟨103,((A++(⟨103,0,0⟩:cD)::(B++[(⟨104,0,0⟩:cD)])).length:Nat),0⟩::(B++[(⟨104,0,0⟩:cD)])).length;simp only[eP,gT,gK]at this ⊢;omega);have F0:((A++⟨103,((A++(⟨103,0,0⟩:cD)::(B++[(⟨104,0,0⟩:cD)])).length:Nat),0⟩::B).length:Int)=((A++[(⟨103,0,0⟩:cD)]++B).length:Int):=by simp
     rw[F0]at oY;refine JV KV rfl λcH cY=>?_;unfold FF;simp only[ay,aD,aO,ax,R,aq,bD.c,cT,eD,dJ,d1,bm,ck,fl.c,hp,d2,eB,nD,oV,r1.c,kV,d3,zK,oY];refine cY _ _ rfl ⟨?_,(((((((t2.trans t3).trans t4).trans t5).trans t6).trans t7).trans t8).trans t9)⟩;rw[hq];have S9:A.length=l.length+1+(ce a (l.length+1)).length:=by rw[<-dD];simp;omega
     have F1:ce c (l.length+1+(ce a (l.length+1)).length+1)=B:=by rw[<-kZ];congr 1;simp only[eP,gp,S9]
     have pF:oa (ce a) (ce c) l.length=A.length+1+B.length+1:=by unfold oa;rw[F1,S9]
     have B8:∀X:List cD,A++X=l++(⟨100,0,0⟩:cD)::(ce a (l.length+1)++X):=λX=>by rw[<-dD];simp
     have agd:(A++(⟨103,0,0⟩:cD)::(B++[(⟨104,0,0⟩:cD)])).length=A.length+1+B.length+1:=by simp;omega
     rw[cT];simp only[sa,show ¬((7:Int)=5) by decide,if_false,if_true,jU,qQ,IT,pF,F1];rw[agd]at B7;have age:(A++⟨103,((A.length+1+B.length+1:Nat):Int),0⟩::(B++[(⟨104,0,0⟩:cD)])).length=A.length+1+B.length+1:=by simp;omega
     rw[age]at B7;have kx:l++(⟨100,0,0⟩:cD)::(ce a (l.length+1)++⟨103,((A.length+1+B.length+1:Nat):Int),0⟩::(B++⟨104,((A.length+1+B.length+1+(ce d (A.length+1+B.length+1)).length:Nat):Int),0⟩::ce d (A.length+1+B.length+1)))=A++⟨103,((A.length+1+B.length+1:Nat):Int),0⟩::B++⟨104,((A++⟨103,((A.length+1+B.length+1:Nat):Int),0⟩::B++(⟨104,0,0⟩:cD)::ce d (A.length+1+B.length+1)).length:Nat),0⟩::ce d (A.length+1+B.length+1):=by
      rw[kv,l0,B8];have:A.length+1+B.length+1+(ce d (A.length+1+B.length+1)).length=(A++⟨103,((A.length+1+B.length+1:Nat):Int),0⟩::B++(⟨104,0,0⟩:cD)::ce d (A.length+1+B.length+1)).length:=by simp;omega
      rw[this]
     rw[kx];exact B7
    ·have dH:x.l.length<=100000:=by have:=x.r';omega
     refine JV KV rfl λcH cY=>?_;unfold FF;simp only[ay,aD,aO,ax,R,aq,bD.c,bg,cT,gc.len,gc.fits];refine ru (λi V J=>∃da v10,V=[.ptr b 0 0,.agg [.int o x.op,.int o x.k,.int o x.n,v],.ptr h.n 0 0,.aP,.aP,da,.int o x.op,v,.int o es.length,.int o (i:Nat),v10,.bool T,.bool T]/\oX b (l++(⟨100,0,0⟩:cD)::jZ ((x.l.take i).map ce) (l.length+1)) J/\mB b h J/\Own b h.n [[.int o x.op,.int o x.k,.int o x.n,v]] J) x.l.length ⟨_,_,rfl,by simpa[jZ]using cu,t2,bD⟩ ?_ ?_
     ·rintro i V J aa ⟨da,v10,rfl,je,t3,dE⟩ next
      obtain⟨y,bF⟩:∃y,x.l[i]? =j y:=⟨_,fz aa⟩;obtain⟨q,dJ,d1,b2⟩:=gt i y bF;have bh:(i:Int)<(es.length:Int):=by rw[au];omega
      have hw:=ht (n:=(i:Int)+1) (by omega) (by omega);have ey:=aga bF;have B9:=S8 (x.l.take i) (l.length+1);obtain⟨a8,bZ⟩:=b2.one;obtain⟨aw,ck,i7,t4⟩:=zJ y (fI i y bF) E (by have:=lV y (fI i y bF);simpa using this) q (J.push [q]) _ b2 (je.push [q]) (by simp only[eP,gT];omega);have fl:=(dE.on (mB.push je.lt [q])).on t4;rw[dP KR.eq_1];simp only[ay,aD,aO,ax,reduceCtorEq,cF,bh,dJ,d1,a8,bZ,ck,hw];refine next _ _ ⟨_,_,rfl,?_,(t3.trans (mB.push je.lt [q])).trans t4,fl⟩
      rw[xD bF,List.map_append,jU,qQ,S7];have e:l.length+1+(jZ ((x.l.take i).map ce) (l.length+1)).length=(l++(⟨100,0,0⟩:cD)::jZ ((x.l.take i).map ce) (l.length+1)).length:=by simp;omega
      rw[e];simpa using i7
     ·rintro V J ⟨da,v10,rfl,je,t3,dE⟩;have bh:¬((x.l.length:Int)<(es.length:Int)):=by rw[au];omega
      rw[List.take_length]at je;have B9:=S8 x.l (l.length+1);obtain⟨aw,ck,i7,t4⟩:=jp je (by simp only[eP,gT];omega) x.op x.k x.n;rw[dP KR.eq_1];simp only[ay,aD,aO,ax,reduceCtorEq,cF,bh,dE.c,ck];refine cY _ _ rfl ⟨?_,t3.trans t4⟩;simpa[sa,bg,cT]using i7
end
theorem agf(l:List cD):∀r∈l.map ci,r.all r8=Q:=by intro r ah;obtain⟨x,_,rfl⟩:=n0.1 ah;rfl
section
variable{h:ad}
end
def S'(P:cp)(W:hh)(g:cJ)(a aI:Nat)(aY:List Nat)(bO:List bl)(rs:List mS):Prop:=∃fn c,P.funcs[g]? =j fn/\fn.body=j c/\W.use g=Q/\gW P (W.a2 g) (W.cm g) fn.ntmps aY c []=j bO/\r7 a fn.ntmps (W.aI g) aI aY=Q/\po P aY fn.results.toList=j rs
section
variable{P:cp}{W:hh}{aI:Nat}{aY:List Nat}{h:ad}
theorem agh(cX:k6 P W){g:cJ}{a:Nat}{bO:List bl}{rs:List mS}{args:List I}{q:(I⊕I)×ad}(bc:S' P W g a aI aY bO rs)(aM:args.length=a)(ah:oL T rs h (bo (a3 P W) aI [.bO bO] (args++ax (aY.length - args.length) .aP) [] h)=j q):AC P g args h q:=by
 obtain⟨fn,c,F,O,bg,cj,cT,hA⟩:=bc;unfold r7 at cT;simp only[gS,decide_eq_true_eq,iR,jl,beq_iff_eq,bne_iff_ne,ne_eq]at cT;obtain⟨⟨aJ,a1⟩,bf⟩:=cT;have get:∀D s,aY[D]? =j s->D<aY.length/\aY.getD D 0=s:=λD s U=>⟨(gg.1 U).1,by simp[cK,U]⟩;have rf:aY.Nodup:=by rw[List.nodup_iff_pairwise_ne,List.pairwise_iff_getElem];intro i D aa U gk e;have:=(bf D U).2 i gk;apply this;simp[cK,aa,U,e]
 have jh:∀D s,aY[D]? =j s->(D<aI↔s<W.aI g):=by intro D s U;obtain⟨c1,cr⟩:=get D s U;have:=(bf D c1).1.1.2;rw[cr]at this;exact decide_eq_decide.1 this
 have b4:fV fn.ntmps aY [] (args++ax (fn.ntmps - args.length) .aP) (args++ax (aY.length - args.length) .aP) []:=by
  refine⟨by simp;omega,by simp;omega,rfl,λD s U=>?_,λD s U=>by simp at U⟩;obtain⟨c1,cr⟩:=get D s U;obtain⟨⟨⟨c9,_⟩,dx⟩,_⟩:=bf D c1;rw[cr]at c9 dx;refine⟨c9,?_⟩;by_cases aj:D<a\/s<a
  ·rw[if_pos aj]at dx;have:s=D:=by simpa using dx
   subst this;have bh:s<args.length:=by omega
   simp[cK,mJ bh]
  ·have a8:¬D<args.length:=by omega
   have bZ:¬s<args.length:=by omega
   simp only[cK,pY (Nat.not_lt.1 a8),pY (Nat.not_lt.1 bZ),List.getElem?_replicate];split<;>split<;>rfl
 generalize kt:bo (a3 P W) aI [.bO bO] (args++ax (aY.length - args.length) .aP) [] h=x at ah;cases x with
 |none=>cases ah
 |some r=>
   have hm:=(D7 (n:=fn.ntmps) (f:=g) rf jh _ _ _ _ _ kt).1 [.code c] _ (.bO [c] bO [] [] (by simp[lb,cj]) .nil) b4;obtain⟨cV,ao,aq⟩:=hm;have aX:=Im cX F O bg (DU cX _ _ _ _ _ ao).dk;obtain⟨x,fB,J⟩:=r;cases x with
   |panic v=>have ah:lS T h (.inr v,J)=j q:=ah;rw[wP]at ah;injection ah with ah;subst ah;exact aX _ rfl
   |halt K=>cases ah
   |ret=>
     rw[y4]at ah;cases R:(ie fB J rs).map iH with
     |none=>rw[R]at ah;cases ah
     |some v=>rw[R,yv,wP]at ah;injection ah with ah;subst ah;refine aX _ ?_;have:=y1 (h:=J) aq hA;simp only[ys,oB,this,R,hj]
end
mutual
def tC:Nat->ad->I->Option (I×ad)
 |0,_,_=>ab
 |N+1,h,.bd b E n e=>if E=0 then(h.cell b).bind λrows=>if n<=rows.length/\n≠0 then(sC N (h.set b ab) (rows.take n)).map λq=>(.bR ab e q.1,q.2)else ab else ab
 |N+1,h,.agg cs=>(sD N h cs).map λq=>(.agg q.1,q.2)
 |N+1,h,.bW cs=>(sD N h cs).map λq=>(.bW q.1,q.2)
 |_+1,h,v=>j (v,h)
def sD:Nat->ad->List I->Option (List I×ad)
 |0,_,_=>ab
 |_+1,h,[]=>j ([],h)
 |N+1,h,v::l=>(tC N h v).bind λq=>(sD N q.2 l).map λr=>(q.1::r.1,r.2)
def sC:Nat->ad->List (List I)->Option (List (List I)×ad)
 |0,_,_=>ab
 |_+1,h,[]=>j ([],h)
 |N+1,h,v::l=>(sD N h v).bind λq=>(sC N q.2 l).map λr=>(q.1::r.1,r.2)
end
section
variable{P:cp}{m:dw}{h:ad}{w:cQ}
theorem bU.still(hw:bU P m h w){b:Nat}{cs:Array bK}(ai:h.cell b=j es)(aj:jD w (m.cb b) (m.fY b) cs):∃aR,Ext m h aR (h.set b ab)/\bU P aR (h.set b ab) w/\(∀E v,cs[E]? =j v->aR.dF (m.cb b) E=j v)/\aR.cb=m.cb/\aR.fY=m.fY:=by
 have an:Ext m h {m with dF:=λg E=>if g=m.cb b then cs[E]? else m.dF g E} (h.set b ab):=by
  refine⟨rfl,bV _,bV _,λ_ _=>⟨rfl,rfl,rfl⟩,λg E v aa=>?_,λ_ _=>⟨rfl,bV _,λ_=>⟨rfl,rfl⟩⟩,λ_ _ h=>h⟩;show(if g=m.cb b then cs[E]? else m.dF g E)=j v;by_cases e:g=m.cb b
  ·rw[e,hw.sep b es ai E]at aa;cases aa
  ·rw[if_neg e];exact aa
 refine⟨_,an,?_,λE v R=>by simp[R],rfl,rfl⟩;have up:∀q x,(h.set b ab).cell q=j x->q≠b/\h.cell q=j x:=by
  intro q x aG;by_cases e:q=b
  ·subst e;simp[ad.set]at aG
  ·exact⟨e,by simpa[ad.set,e]using aG⟩
 refine⟨hw.size,λq x aG=>hw.lt q x (up q x aG).2,λq x aG=>?_,λq eH x iI aG qZ=>hw.inj q eH x iI (up q x aG).2 (up eH iI qZ).2,λg E v aa=>?_,λq x aG E=>?_,hw.oD,λk Z E am=>?_,λk Z q x aG=>hw.mf k Z q x (up q x aG).2,hw.nY,hw.dk,λg x U=>?_⟩
 ·obtain⟨fN,a8,bZ,b',du,fk⟩:=hw.live q x (up q x aG).2;refine⟨fN,a8,bZ,b',du,λi aa D U=>?_⟩;obtain⟨v,v1,cW⟩:=fk i aa D U;exact⟨v,v1,cW.ext an⟩
 ·have aa:(if g=m.cb b then cs[E]? else m.dF g E)=j v:=aa;by_cases e:g=m.cb b
  ·rw[if_pos e]at aa;rw[e,aj.cell];exact aa
  ·rw[if_neg e]at aa;exact hw.dF g E v aa
 ·obtain⟨cO,aG⟩:=up q x aG;show(if m.cb q=m.cb b then cs[E]? else m.dF (m.cb q) E)=ab;rw[if_neg λe=>cO (hw.inj q b x es aG ai e)];exact hw.sep q x aG E
 ·show(if m.h1 k=m.cb b then cs[E]? else m.dF (m.h1 k) E)=ab;rw[if_neg λe=>hw.mf k Z b es ai e.symm];exact hw.ng k Z E am
 ·obtain⟨aJ,a1,bf,cv,ez⟩:=hw.e4 g x U;refine⟨aJ,a1,λq y aG=>bf q y (up q y aG).2,cv,λE=>?_⟩;show(if g=m.cb b then cs[E]? else m.dF g E)=ab;rw[if_neg λe=>bf b es ai e.symm];exact ez E
theorem Ta:∀N:Nat,(∀(m:dw) (h:ad) (w:cQ) (v:I) (u:bK) (bu:I) (O:ad),bU P m h w->bI P m h v u->tC N h v=j (bu,O)->∃cu,Ext m h cu O/\bU P cu O w/\bI P cu O bu u)/\(∀(m:dw) (h:ad) (w:cQ) (l:List I) (ag:Nat->bK) (q:List I) (O:ad),bU P m h w->(∀D (U:D<l.length),bI P m h l[D] (ag D))->sD N h l=j (q,O)->∃cu,Ext m h cu O/\bU P cu O w/\q.length=l.length/\∀D (U:D<q.length),bI P cu O q[D] (ag D))/\(∀(m:dw) (h:ad) (w:cQ) (l:List (List I)) (ag:Nat->Nat->bK) (q:List (List I)) (O:ad),bU P m h w->(∀i (aa:i<l.length) D (U:D<l[i].length),bI P m h l[i][D] (ag i D))->sC N h l=j (q,O)->∃cu,Ext m h cu O/\bU P cu O w/\q.length=l.length/\(∀i (aa:i<q.length) (eb:i<l.length),q[i].length=l[i].length)/\∀i (aa:i<q.length) D (U:D<q[i].length),bI P cu O q[i][D] (ag i D)):=by
 intro N;induction N with
 |zero=>exact⟨λ_ _ _ _ _ _ _ _ _ e=>by simp[tC]at e,λ_ _ _ _ _ _ _ _ _ e=>by simp[sD]at e,λ_ _ _ _ _ _ _ _ _ e=>by simp[sC]at e⟩
 |succ N aW=>
   obtain⟨agi,F2,Tb⟩:=aW;refine⟨?_,?_,?_⟩
   ·intro m h w v u bu O hw R e;have same:tC (N+1) h v=j (v,h)->∃cu,Ext m h cu O/\bU P cu O w/\bI P cu O bu u:=by intro aq;rw[aq]at e;simp only[g5,jH]at e;obtain⟨rfl,rfl⟩:=e;exact⟨m,Ext.refl _ _,hw,R⟩
    cases R with
    |bd b E n t cap ai he i1 au i2=>
      simp only[tC]at e;split at e
      ·rename_i am;subst am;obtain⟨rows,y2,e⟩:=c'.1 e;split at e
       ·rename_i wZ;obtain⟨⟨q,af⟩,aG,e⟩:=dd.1 e;simp only[jH]at e;obtain⟨rfl,rfl⟩:=e;obtain⟨cs,a8,bZ,b',du,fk⟩:=hw.live b rows y2;obtain⟨c8,b2,dm,dJ,c9,t1⟩:=hw.still y2 a8;have al:(rows.take n).length=n:=by rw[List.length_take];omega
        obtain⟨cu,ds,gu,cC,bQ,cW⟩:=Tb c8 (h.set b ab) w (rows.take n) (λi D=>cs.getD (i*P.cellsOf (m.fY b)+D) fg) q af dm (λi aa D U=>by
         rw[al]at aa;have eb:i<rows.length:=by omega
         simp only[List.getElem_take]at U ⊢;obtain⟨v,dc,dr⟩:=fk i eb D U;have:cs.getD (i*P.cellsOf (m.fY b)+D) fg=v:=by simp[hB,dc]
         rw[this];exact dr.ext b2) aG
        refine⟨cu,b2.trans ds,gu,?_⟩;have w9:q.length=n:=by rw[cC,al]
        have ka:∀i (aa:i<q.length),q[i].length=P.cellsOf t:=by intro i aa;rw[bQ i aa (by omega),List.getElem_take,<-he];exact b' _ (h2 _)
        have key:=bI.bR (P:=P) (m:=cu) (h:=af) ab t q (m.cb b) 0 cap (λi D=>cs.getD (i*P.cellsOf (m.fY b)+D) fg) (λr ah=>by
         obtain⟨i,aa,rfl⟩:=List.getElem_of_mem ah;exact ka i aa) (λi aa D U=>by
         have eb:i<rows.length:=by omega
         have cS:D<rows[i].length:=by rw[b' _ (h2 _),he];exact U
         obtain⟨v,dc,dr⟩:=fk i eb D cS;have ao:cs.getD (i*P.cellsOf (m.fY b)+D) fg=v:=by simp[hB,dc]
         show cu.dF (m.cb b) (0+(i*P.cellsOf t+D))=j (cs.getD (i*P.cellsOf (m.fY b)+D) fg);rw[ao,hk,<-he];exact ds.dF _ _ _ (dJ _ _ dc)) cW (by omega) (λk Z=>by cases Z)
        rw[w9]at key;simpa using key
       ·cases e
      ·cases e
    |agg l bJ F af=>
      simp only[tC]at e;obtain⟨⟨q,aw⟩,aG,e⟩:=dd.1 e;simp only[jH]at e;obtain⟨rfl,rfl⟩:=e;obtain⟨cu,ds,gu,cC,cW⟩:=F2 m h w l (λD=>bJ.getD D fg) q aw hw (λD U=>by
       have cS:D<bJ.length:=by omega
       have:=af D U cS;simpa[cK,cS]using this) aG
      exact⟨cu,ds,gu,.agg q bJ (by omega) λD U cS=>by have:=cW D U;simpa[cK,cS]using this⟩
    |bW l bJ F af=>
      simp only[tC]at e;obtain⟨⟨q,aw⟩,aG,e⟩:=dd.1 e;simp only[jH]at e;obtain⟨rfl,rfl⟩:=e;obtain⟨cu,ds,gu,cC,cW⟩:=F2 m h w l (λD=>bJ.getD D fg) q aw hw (λD U=>by
       have cS:D<bJ.length:=by omega
       have:=af D U cS;simpa[cK,cS]using this) aG
      exact⟨cu,ds,gu,.bW q bJ (by omega) λD U cS=>by have:=cW D U;simpa[cK,cS]using this⟩
    |_=>exact same rfl
   ·intro m h w l ag q O hw R e;cases l with
    |nil=>simp only[sD,g5,jH]at e;obtain⟨rfl,rfl⟩:=e;exact⟨m,Ext.refl _ _,hw,rfl,λD U=>by simp at U⟩
    |cons v l=>
      simp only[sD]at e;obtain⟨⟨v1,af⟩,ao,e⟩:=c'.1 e;obtain⟨⟨bL,aw⟩,aq,e⟩:=dd.1 e;simp only[jH]at e;obtain⟨rfl,rfl⟩:=e;obtain⟨c8,b2,dm,bT⟩:=agi m h w v (ag 0) v1 af hw (R 0 (by simp)) ao;obtain⟨cu,ds,gu,cC,bQ⟩:=F2 c8 af w l (λD=>ag (D+1)) bL aw dm (λD U=>(R (D+1) (by simpa using U)).ext b2) aq;refine⟨cu,b2.trans ds,gu,by simp[cC],λD U=>?_⟩;cases D with
      |zero=>exact bT.ext ds
      |succ D=>exact bQ D (by simpa using U)
   ·intro m h w l ag q O hw R e;cases l with
    |nil=>simp only[sC,g5,jH]at e;obtain⟨rfl,rfl⟩:=e;exact⟨m,Ext.refl _ _,hw,rfl,λi aa=>by simp at aa,λi aa=>by simp at aa⟩
    |cons v l=>
      simp only[sC]at e;obtain⟨⟨v1,af⟩,ao,e⟩:=c'.1 e;obtain⟨⟨bL,aw⟩,aq,e⟩:=dd.1 e;simp only[jH]at e;obtain⟨rfl,rfl⟩:=e;obtain⟨c8,b2,dm,dc,bT⟩:=F2 m h w v (ag 0) v1 af hw (R 0 (by simp)) ao;obtain⟨cu,ds,gu,cC,dr,bQ⟩:=Tb c8 af w l (λi=>ag (i+1)) bL aw dm (λi aa D U=>(R (i+1) (by simpa using aa) D U).ext b2) aq;refine⟨cu,b2.trans ds,gu,by simp[cC],λi aa eb=>?_,λi aa D U=>?_⟩
      ·cases i with
       |zero=>exact dc
       |succ i=>exact dr i (by simpa using aa) (by simpa using eb)
      ·cases i with
       |zero=>exact(bT D U).ext ds
       |succ i=>exact bQ i (by simpa using aa) D U
end
def jB(x:bk):List cD:=ce x 0++[⟨105,0,0⟩]
structure agj(ae h:ad)(v:I)(rows:List (List I))(L:List bk):Prop where
 acc:Acc ae h S4 v rows
 g:aK ae h
 len:rows.length=L.length
 b8:∀(i:Nat) (x:bk),L[i]? =j x->∃q,rows[i]? =j [.bd q 0 (jB x).length i']/\ae.n<=q/\q<h.n/\h.cell q=j ((jB x).map ci)/\∀D eH m,D<i->rows[D]? =j [.bd eH 0 m i']->eH≠q
theorem mB.iZ{b:Nat}{ae h J:ad}(g:aK ae h)(ai:ae.n<=b)(aj:∀k,k<ae.n->∀m,h.cell b≠j [[.bd k 0 m i']])(x:mB b h J):aK ae J:=⟨ef g.n x.n,ef g.ids x.ids,λk Z=>(x.eX k (eL Z g.n) (by omega) (aj k Z)).trans (g.cell k Z),λk Z=>(x.hw k (eL Z g.ids)).trans (g.hw k Z)⟩
theorem Acc.on{ae h J:ad}{e:aT}{v:I}{acc:List (List I)}(a:Acc ae h e v acc)(F:h.ids<=J.ids)(O:∀k,k<h.ids->J.hw k=h.hw k):Acc ae J e v acc:=by
 rcases a with a|⟨id,hT,aJ,a1,bf,cv⟩
 ·exact .inl a
 ·exact .inr ⟨id,hT,aJ,eL a1 F,(O id a1).trans bf,cv⟩
theorem wr{cL:Int}:∀{L:List bk} {i:Nat},(tj cL i L).1=0->tj cL i L=(0,0)/\∀x∈L,qc cL x=0
 |[],i,_=>⟨rfl,by simp⟩
 |x::L,i,h=>by
   rw[S1]at h ⊢;by_cases bc:qc cL x=0
   ·rw[if_neg (by simp[bc])]at h ⊢;obtain⟨a,b⟩:=wr h;refine⟨a,λy bF=>?_⟩;rcases pi.1 bF with e|bF
    ·rw[e];exact bc
    ·exact b y bF
   ·rw[if_pos bc]at h;exact absurd h bc
theorem Lb{L:List bk}(h:(hE L).1=0):hE L=(0,0)/\L.length<=6/\∀x∈L,x.fault L.length 0=0/\x.size<=120:=by
 unfold hE at h ⊢;split at h
 ·cases h
 ·rename_i al;rw[if_neg al];obtain⟨a,b⟩:=wr h;refine⟨a,by omega,λx an=>?_⟩;have:=b x an;unfold qc at this;split at this
  ·cases this
  ·split at this
   ·cases this
   ·exact⟨this,by omega⟩
theorem agk{L:List bk}(h:(hE L).1=0):L≠[]:=by rintro rfl;simp[hE]at h
section
variable{P:cp}
theorem AC.agl{g:cJ}{args:List I}{id:Option Nat}{e:aT}{fL:List (List I)}{cW:I}{h J:ad}{N:Nat}(hq:AC P g args h (.inl (.bW [.bR id e es,cW]),J))(bc:sC N J es=j (fL,O)):AC P g args h (.inl (.bW [.bR ab e fL,cW]),O):=by
 intro m w br hw e6;refine(hq m w br hw e6).mono λgM aV ⟨aR,b2,ds,fb,u,he,bH⟩=>?_;simp only at b2 ds bH;cases bH with
 |bW _ bJ bN bL=>
   obtain⟨ls,mi,rfl⟩:∃ls mi,bJ=[ls,mi]:=by
    match bJ,bN with
    |[a,b],_=>exact⟨a,b,rfl⟩
   have v1:=bL 0 (by simp) (by simp);have Tc:=bL 1 (by simp) (by simp);simp only[List.getElem_cons_zero,List.getElem_cons_succ]at v1 Tc;have key:∃cu,Ext aR J cu O/\bU P cu O aV/\bI P cu O (.bR ab e fL) ls:=by
    cases v1 with
    |bR _ _ _ g E cap ag al aa R aj aL=>
      obtain⟨cu,fT,jf,lx,mQ,oJ⟩:=(Ta N).2.2 aR J aV es ag fL O ds R bc;refine⟨cu,fT,jf,?_⟩;have ka:∀i (aa:i<fL.length),fL[i].length=P.cellsOf e:=λi aa=>by rw[mQ i aa (by omega)];exact al _ (h2 _)
      have key:=bI.bR (P:=P) (m:=cu) (h:=O) ab e fL g E cap ag (λr ah=>by obtain⟨i,aa,rfl⟩:=List.getElem_of_mem ah;exact ka i aa) (λi eb D U=>fT.dF _ _ _ (aa i (by omega) D U)) oJ (by omega) (λk Z=>by cases Z);rwa [lx]at key
    |me _ a cap=>obtain⟨cu,fT,jf,lx,mQ,oJ⟩:=(Ta N).2.2 aR J aV [] (λ_ _=>fg) fL O ds (λi aa=>by simp at aa) bc;have:fL=[]:=p4.1 (by simpa using lx);subst this;exact⟨cu,fT,jf,.me e a cap⟩
   obtain⟨cu,fT,jf,lx⟩:=key;refine⟨cu,b2.trans fT,jf,fb,_,he,?_⟩;exact .bW _ _ rfl λD U cS=>by
    match D,U with
    |0,_=>exact lx
    |1,_=>exact Tc.ext fT
end
theorem agm:S' ar W 40 1 13 [0,1,2,3,4,5,7,8,13,16,17,18,19] FG [(.v 2),(.cell Q 2 3)]:=⟨_,_,Try.func40,rfl,by kernel_rfl,by kernel_rfl,by kernel_rfl,by kernel_rfl⟩
theorem agn:∀(N:Nat),(∀(x y:bk) (r:List I),lB x<=N->i5 x r->i5 y r->x=y)/\(∀(l bJ:List bk) (es:List (List I)),lB l<=N->ih l es->ih bJ es->l=bJ):=by
 intro N;induction N with
 |zero=>exact⟨λx _ _ an=>by have:=x.n';omega,λl _ _ al=>by cases l<;>simp at al⟩
 |succ N aW=>
   refine⟨λx y r an F O=>?_,λl bJ es al F O=>?_⟩
   ·cases x with
    |mk op k n l=>
      cases y with
      |mk anj cn bS bJ=>
        obtain⟨v,es,ao,a4,bN⟩:=F;obtain⟨bu,fL,aq,bn,bL⟩:=O;rw[ao]at aq;simp only[uu,I.int.injEq,true_and,and_true]at aq;obtain⟨rfl,rfl,rfl,rfl⟩:=aq;have:es=fL:=by
         rcases a4 with⟨rfl,rfl⟩|⟨i,rfl⟩<;>rcases bn with⟨rfl,e⟩|⟨D,e⟩
         ·rfl
         ·cases e
         ·cases e
         ·injection e
        subst this;simp only[bk.mk.sizeOf_spec]at an;rw[aW.2 l bJ es (by omega) bN bL]
   ·cases l with
    |nil=>
      simp only[ih]at F;subst F;cases bJ with
      |nil=>rfl
      |cons y bJ=>obtain⟨_,_,e,_⟩:=O;cases e
    |cons x l=>
      obtain⟨r,rs,rfl,aJ,a1⟩:=F;cases bJ with
      |nil=>simp only[ih]at O;cases O
      |cons y bJ=>obtain⟨bM,tf,e,c9,dx⟩:=O;injection e with ao aq;subst ao;subst aq;simp only[List.cons.sizeOf_spec]at al;rw[aW.1 x y r (by omega) aJ c9,aW.2 l bJ rs (by omega) a1 dx]
section
variable{h:ad}
theorem Td:∀(rows:List (List I)) (L:List bk) (h:ad) (N:Nat),rows.length=L.length->5*L.length+3000<=N->(∀(i:Nat) (x:bk),L[i]? =j x->∃q,rows[i]? =j [.bd q 0 (jB x).length i']/\h.cell q=j ((jB x).map ci)/\(jB x).length<=1000/\∀D eH m,D<i->rows[D]? =j [.bd eH 0 m i']->eH≠q)->∃O,sC N h rows=j (L.map λx=>[.bR ab i' ((jB x).map ci)],O)/\O.n=h.n/\O.ids=h.ids/\O.hw=h.hw/\∀k,(∀(i m:Nat),rows[i]?≠j [I.bd k 0 m i'])->O.cell k=h.cell k
 |[],L,h,N,al,eZ,_=>by have:L=[]:=p4.1 (by simpa using al.symm);subst this;obtain⟨N,rfl⟩:∃xV,N=xV+1:=⟨N - 1,by omega⟩;exact⟨h,rfl,rfl,rfl,rfl,λ_ _=>rfl⟩
 |r::rows,[],h,N,al,eZ,_=>by simp at al
 |r::rows,x::L,h,N,al,eZ,an=>by
   obtain⟨N,rfl⟩:∃xV,N=xV+3:=⟨N - 3,by omega⟩;obtain⟨q,gM,hr,hC,_⟩:=an 0 x rfl;simp only[n4,g5]at gM;subst gM;have ne:(jB x).length≠0:=by simp[jB]
   have flat:∀(l:List cD) (M:Nat) (g:ad),5+l.length<=M->sC M g (l.map ci)=j (l.map ci,g):=by
    intro l;induction l with
    |nil=>intro M g wl;obtain⟨M,rfl⟩:∃xV,M=xV+1:=⟨M - 1,by omega⟩;rfl
    |cons y l aW=>intro M g wl;simp only[gT]at wl;obtain⟨M,rfl⟩:∃xV,M=xV+5:=⟨M - 5,by omega⟩;have:=aW (M+4) g (by omega);simp only[jU,sC,sD,tC,c7,hj,this]
   have F3:((jB x).map ci).take (jB x).length=(jB x).map ci:=List.take_of_length_le (by simp);have dD:tC (N+1) h (.bd q 0 (jB x).length i')=j (.bR ab i' ((jB x).map ci),h.set q ab):=by simp only[tC,if_true,hr,c7,iX];rw[if_pos ⟨bV _,ne⟩,F3,flat (jB x) N _ (by simp only[gT]at eZ;omega)];rfl
   obtain⟨O,f1,f2,f3,f4,f5⟩:=Td rows L (h.set q ab) (N+2) (by simpa using al) (by simp only[gT]at eZ;omega) λi y bF=>by obtain⟨bL,aq,bZ,cC,d2⟩:=an (i+1) y (by simpa using bF);refine⟨bL,by simpa using aq,?_,cC,λD eH m U aG=>d2 (D+1) eH m (by omega) (by simpa using aG)⟩;rw[gB (kw (d2 0 q _ (by omega) rfl))];exact bZ
   refine⟨O,?_,f2,f3,f4,λk Z=>?_⟩
   ·have ago:sD (N+2) h [.bd q 0 (jB x).length i']=j ([.bR ab i' ((jB x).map ci)],h.set q ab):=by simp only[sD,dD,c7,hj]
    simp only[sC,ago,c7,f1,hj,jU]
   ·rw[f5 k λi m hm=>Z (i+1) m (by simpa using hm),gB λe=>Z 0 (jB x).length (by rw[e];rfl)]
def xW(h:ad)(L:List bk)(gv:I)(J:ad):Prop:=if(hE L).1=0 then ∃rows,(∃id,gv= .bR id S4 rows)/\rows.length=L.length/\∀(i:Nat) (x:bk),L[i]? =j x->∃q,rows[i]? =j [.bd q 0 (jB x).length i']/\h.n<=q/\J.cell q=j ((jB x).map ci)/\∀(D eH m:Nat),D<i->rows[D]? =j [.bd eH 0 m i']->eH≠q else gv= .aF
theorem agp(v:I)(L:List bk)(m:∀h,lK h v L)(dH:L.length<=100000)(av:∀x∈L,x.size<=100000):∃fB J gv,bo (a3 ar W) 13 [.bO FG] ([.agg [v]]++ax ([0,1,2,3,4,5,7,8,13,16,17,18,19].length - [I.agg [v]].length) .aP) [] h=j (.ret,fB,J)/\(ie fB J [(.v 2),(.cell Q 2 3)]).map iH=j (.bW [gv,.agg [.int o (hE L).1,.int o (hE L).2]])/\aK h J/\xW h L gv J:=by
 suffices key:∀cH:kD->Prop,(∀fB J gv,(ie fB J [(.v 2),(.cell Q 2 3)]).map iH=j (.bW [gv,.agg [.int o (hE L).1,.int o (hE L).2]])->aK h J->xW h L gv J->cH (j (.ret,fB,J)))->cH (bo (a3 ar W) 13 [.bO FG] ([.agg [v]]++ax ([0,1,2,3,4,5,7,8,13,16,17,18,19].length - [I.agg [v]].length) .aP) [] h) from key (λx=>∃fB J gv,x=j (.ret,fB,J)/\(ie fB J [(.v 2),(.cell Q 2 3)]).map iH=j (.bW [gv,.agg [.int o (hE L).1,.int o (hE L).2]])/\aK h J/\xW h L gv J) λfB J gv a b c=>⟨fB,J,gv,rfl,a,b,c⟩;intro cH cY;have bG:=(m h).one;have dh:=(m h).len;have f1:=(m h).fits;have bX:=λh=>af8 (h:=h) v L (m h) dH av;unfold FG;by_cases ae:(hE L).1=0
 ·obtain⟨e,agq,an⟩:=Lb ae;have cO:=agk ae;rw[e]at bX cY;unfold xW at cY;rw[e]at cY;simp only[if_true]at cY;simp only[ay,aD,aO,ax,bG,dh,f1,bX,eq_self];refine ru (λi V J=>∃da v6 fF fG rows,V=[.agg [v],.ptr h.n 0 0,.aF,.ptr (h.n+1) 0 0,.ptr (h.n+1+1) 0 0,da,v6,fF,.bool T,v,.int o L.length,.int o (i:Nat),fG]/\agj h J da rows (L.take i)/\h.n+1<J.n/\J.cell (h.n+1)=j [[.int o 0,.int o 0]]) L.length ⟨_,_,_,_,[],rfl,⟨xi _ _ _,(by repeat (first|exact aK.refl _|refine aK.trans ?_ (aK.push _ _)|refine aK.trans ?_ (aK.fresh _ _))),by simp,λi x an=>by simp at an⟩,by simp only[fo];omega,?_⟩ ?_ ?_
  ·simp only[ay,bi,adO]
  ·rintro i V J aa ⟨da,v6,fF,fG,rows,rfl,l8,au,a8⟩ next
   obtain⟨y,bF⟩:∃y,L[i]? =j y:=⟨_,fz aa⟩;have agr:y∈L:=p6 bF;obtain⟨ags,afd⟩:=an y agr;obtain⟨a,q,dJ,hp,kV⟩:=(m J).b8 i y bF;have nJ:=hp _ (aK.refl J);obtain⟨ed,gJ⟩:=kV.one;have bh:(i:Int)<(L.length:Int):=by omega
   have hw:=ht (n:=(i:Int)+1) (by omega) (by omega);have lC:oX (J.n+1) [] ((J.push [q]).push [[.aF]]):=⟨by simp[ad.push],.aF,y7,.inl ⟨rfl,rfl⟩⟩;have B5:∀k m,((J.push [q]).push [[.aF]]).cell (J.n+1)≠j [[.bd k 0 m i']]:=λk m e=>by rw[y7]at e;simp at e
   obtain⟨aw,ck,i7,t4⟩:=agb L.length _ y (bV _) 0 ags q _ _ _ kV lC (by simp only[gK];omega);have agt:=uy _ y (bV _) 0;obtain⟨bg,eB,xU,t5⟩:=jp i7 (by simp only[eP,gK];omega) 105 0 0;have t:=t4.trans t5;have sB:([]:List cD)++ce y ([]:List cD).length++[⟨105,0,0⟩]=jB y:=rfl;rw[sB]at xU;obtain⟨Hu,w,fk,cE⟩:=xU;obtain⟨eH, -,qZ,rfl,agu⟩:∃eH,jB y≠[]/\eH<bg.n/\w= .bd eH 0 (jB y).length i'/\bg.cell eH=j ((jB y).map ci):=by
    rcases cE with⟨e,_⟩|cE
    ·simp[jB]at e
    ·exact cE
   have ank:J.n+2<=eH:=by
    rcases mc eH ((J.push [q]).push [[.aF]]).n with agv|rQ
    ·obtain⟨aR,dC⟩:=t.cur eH agv _ fk;exact absurd dC (B5 _ _)
    ·simpa[ad.push]using rQ
   have xb:aK J ((J.push [q]).push [[.aF]]):=(by repeat (first|exact aK.refl _|refine aK.trans ?_ (aK.push _ _)|refine aK.trans ?_ (aK.fresh _ _)));have q':aK J bg:=mB.iZ xb (by omega) (λk _ m=>B5 k m) t;have ez:=l8.acc.on q'.ids q'.hw;have fU:rows.length<=1000000:=by rw[l8.len,List.length_take];omega
   obtain⟨anl,cj,nD,i8,hN,ji,anm⟩:=y6 ez (l8.g.trans q') (row:=[.bd eH 0 (jB y).length i']) rfl fU;have hW:cj.cell (h.n+1)=j [[.int o 0,.int o 0]]:=by rw[ji,q'.cell _ au];exact a8
   rw[dP KW.eq_1];simp only[ay,aD,aO,ax,cF,bh,dJ,nJ,ed,gJ,ck,eB,fk,nD,hw];refine next _ _ ⟨_,_,_,_,_,rfl,⟨i8,hN,?_,λD x U=>?_⟩,by have:=q'.n;omega,hW⟩
   ·rw[xD bF,eP,eP,l8.len];rfl
   ·rw[xD bF]at U;by_cases r2:D<(L.take i).length
    ·rw[mJ r2]at U;obtain⟨p,e8,tq,g9,ho,nt⟩:=l8.b8 D x U;refine⟨p,by rw[mJ (by rw[l8.len];exact r2)];exact e8,tq,by have:=q'.n;omega,by rw[ji,q'.cell _ g9];exact ho,λfc bL cu pX nk=>nt fc bL cu pX ?_⟩;rwa [mJ (by rw[l8.len];omega)]at nk
    ·rw[pY (by omega)]at U;have p3:D - (L.take i).length=0:=by have:=(gg.1 U).1;simp at this;simp;omega
     rw[p3]at U;obtain rfl:y=x:=by simpa using U
     refine⟨eH,by rw[pY (by rw[l8.len];omega),l8.len,p3];rfl,by have:=l8.g.n;omega,by omega,by rw[ji];exact agu,λfc bL cu pX nk=>?_⟩;have Te:fc<rows.length:=by rw[l8.len];omega
     rw[mJ Te]at nk;obtain⟨z,aN⟩:∃z,(L.take i)[fc]? =j z:=⟨_,fz (by rw[<-l8.len];exact Te)⟩;obtain⟨p,e8,tq,g9,ho,nt⟩:=l8.b8 fc z aN;rw[e8]at nk;simp only[g5,uu,I.bd.injEq,and_true]at nk;omega
  ·rintro V J ⟨da,v6,fF,fG,rows,rfl,l8,au,a8⟩;have bh:¬((L.length:Int)<(L.length:Int)):=by omega
   rw[List.take_length]at l8;have agw:rows≠[]:=λe=>cO (p4.1 (by rw[<-l8.len,e];rfl));rw[dP KW.eq_1];simp only[ay,aD,aO,ax,cF,bh,a8];refine cY _ _ da (by simp only[ay,hj,c7,gT,gK]) (l8.g.set (by omega)) ⟨rows,?_,l8.len,λi x an=>?_⟩
   ·rcases l8.acc with⟨e,_⟩|⟨id,_,_,_,_,e⟩
    ·exact absurd e agw
    ·exact⟨_,e⟩
   ·obtain⟨q,e8,tq,g9,ho,nt⟩:=l8.b8 i x an;have agx:q≠h.n+1:=by
     rintro rfl;rw[a8]at ho;unfold jB at ho;cases aj:ce x 0 with
     |nil=>rw[aj]at ho;simp[ci]at ho
     |cons y l=>rw[aj]at ho;simp[ci]at ho
    exact⟨q,e8,tq,(gB agx).trans ho,nt⟩
 ·unfold xW at cY;simp only[ae,if_false]at cY;simp only[ay,aD,aO,ax,bG,dh,f1,bX,ae];exact cY _ _ .aF (by simp only[ay,hj,c7,gT,gK]) (by refine aK.set ?_ (by omega);exact(by repeat (first|exact aK.refl _|refine aK.trans ?_ (aK.push _ _)|refine aK.trans ?_ (aK.fresh _ _)))) rfl
theorem agy(L:List bk):dA (kE L)=j (kE L):=by
 unfold kE;simp only[dA];have key:∀L:List bk,pT (L.map λx=>[I.bR ab i' ((ce x 0++[(⟨105,0,0⟩:cD)]).map λi:cD=>[.int o i.op,.int o i.k,.int o i.n])])=j (L.map λx=>[I.bR ab i' ((ce x 0++[(⟨105,0,0⟩:cD)]).map λi:cD=>[.int o i.op,.int o i.k,.int o i.n])]):=by
  intro L;induction L with
  |nil=>rfl
  |cons x L aW=>have tv:pT ((ce x 0++[(⟨105,0,0⟩:cD)]).map λi:cD=>[I.int o i.op,.int o i.k,.int o i.n])=j ((ce x 0++[(⟨105,0,0⟩:cD)]).map λi:cD=>[I.int o i.op,.int o i.k,.int o i.n]):=xj (agf _);simp only[jU,pT,o',dA,tv,hj,aW]
 rw[key L];rfl
theorem agz(v:I)(L:List bk)(m:∀h,lK h v L)(dH:L.length<=100000)(av:∀x∈L,x.size<=100000):AC ar 40 [.agg [v]] h (.inl (xq L),h):=by
 obtain⟨fB,J,gv,ao,aq,g,bm⟩:=agp (h:=h) v L m dH av;have hq:AC ar 40 [.agg [v]] h (.inl (.bW [gv,.agg [.int o (hE L).1,.int o (hE L).2]]),J):=agh cX agm rfl (by rw[ao,y4,aq,yv,wP]);unfold xq;by_cases ae:(hE L).1=0
 ·unfold xW at bm;rw[if_pos ae]at bm ⊢;obtain⟨rows,⟨id,rfl⟩,al,an⟩:=bm;obtain⟨_,agq,ey⟩:=Lb ae;obtain⟨O,f1,f2,f3,f4,f5⟩:=Td rows L J 100000 al (by omega) λi x aa=>by obtain⟨q,e8,tq,g9,ho⟩:=an i x aa;have agt:=uy _ x (bV _) 0;have:=(ey x (p6 aa)).2;exact⟨q,e8,g9,by simp only[jB,eP,gp];omega,ho⟩
  have a1:=AC.agl hq f1;have n7:aK h O:=⟨by rw[f2];exact g.n,by rw[f3];exact g.ids,λk Z=>by
   refine(f5 k λi m hm=>?_).trans (g.cell k Z)
   ·obtain⟨x,aa⟩:∃x,L[i]? =j x:=⟨_,fz (by rw[<-al];exact(gg.1 hm).1)⟩;obtain⟨q,e8,tq,_⟩:=an i x aa;rw[e8]at hm;simp only[g5,uu,I.bd.injEq,and_true]at hm;omega,λk Z=>by rw[f4];exact g.hw k Z⟩
  refine AC.forget (p:=Q) a1 (fR n7 ?_);have:=agy L;unfold kE jB at*;simp only[dA,o',hj]at this ⊢;rw[this];rfl
 ·unfold xW at bm;rw[if_neg ae]at bm ⊢;subst bm;exact AC.forget (p:=Q) hq (fR g rfl)
theorem agA{v:I}{L:List bk}(R:fE hu v es)(al:ih L es)(m:∀h,lK h v L)(dH:L.length<=100000)(av:∀x∈L,x.size<=100000):a3 ar W 40 [.agg [v]] h=j (.inl (xq L),h):=by
 have H:∃L:List bk,(∃bu es,[I.agg [v]]=[.agg [bu]]/\fE hu bu es/\ih L es)/\AC ar 40 [.agg [v]] h (.inl (xq L),h):=⟨L,⟨v,es,rfl,R,al⟩,agz v L m dH av⟩;have an:W.ext 40=j Eo:=by show rl 40=_;unfold rl;rw[if_neg (by decide),if_neg (by decide),if_pos rfl]
 unfold a3;rw[an];simp only[Eo];rw[dif_pos H];obtain⟨⟨bu,fL,ao,a4,bN⟩,_⟩:=Classical.choose_spec H;have:L=Classical.choose H:=by
  injection ao with ao;injection ao with ao;injection ao with ao;subst ao;have:es=fL:=by
   rcases R with⟨rfl,rfl⟩|⟨i,rfl⟩<;>rcases a4 with⟨rfl,e⟩|⟨D,e⟩
   ·rfl
   ·cases e
   ·cases e
   ·injection e
  subst this;exact(agn _).2 _ _ _ (bV _) al bN
 rw[<-this]
end
open Go.RowKit
theorem agB:(ar.info? 2).map (λi=>(i.zero,i.size,i.bytes))=j (j (.int o 0),1,8):=by kernel_rfl
theorem agC(A:Option Addr)(n cap:Nat)(xs:List bK)(w:cQ)(ah:j9 w 1 A n cap xs)(F:∀u∈xs,u.oneCell'=Q)(au:n<=1000000):Calls ar 59 #[.slice A n cap] w λe aV=>∃dn pU,e= .returned (.slice dn n pU)/\aV.ownsRow w.heap.size 2 1 (.slice dn n pU) n xs/\lT w aV:=by
 obtain⟨jE,aa,k3,HT,qs⟩:=info_parts agB;have aG:∀(w:cQ) (a:Option Addr) (l c:Nat),(binOp .eql 61 (.slice a l c) (.slice ab 0 0)).run ar w= .ok (.bool a.isNone) w:=λw a l c=>Lib.run_eql_slice_nil w _ _ a l c 0 0 Try.underlying61;rcases A with _|a
 ·have aj:=ah.2.2.1 rfl;have hle:=ah.2.1;obtain rfl:n=0:=by omega
  subst aj;obtain rfl:xs=[]:=List.eq_nil_of_length_eq_zero (by simpa using ah.1)
  go_enter Try.func59,Try.ntmps59
  go_wp2
  go_ret
  exact⟨_,_,rfl,World.ownsRow_nil _ _ _ _,g4.refl _ _⟩
 ·have agD:(w.alloc (.cells #[] 2)).ownsRow w.heap.size 2 1 (.slice (j ⟨w.heap.size,0,ab⟩) 0 0) 0 []:=World.ownsRow_lit w #[] 0 (bV _) (by unfold maxLen;omega) (by simp);have s4:j9 (w.alloc (.cells #[] 2)) 1 (j a) n cap xs:=ah.new ((g4.refl _ _).alloc _)
  go_enter Try.func59,Try.ntmps59
  go_wp2_with (at_builtin;refine W5 rfl (.tmp 5) (.tmp 6) 61 rfl w.heap.size 2 jE _ 1 8 Try.underlying61 aa k3 HT qs rfl (by decide) _ 0 [] _ rfl agD (j a) n cap xs rfl s4 F (by unfold maxLen;omega) (by omega) (by simp) ?_)
  intro v dm Lc agE R agF;have am:lT w dm:=((g4.refl _ w).alloc (.cells #[] 2)).step agE (by intro k Z;simp;omega)
  try simp only[hk,k5]at Lc
  obtain⟨dn,pU,rfl⟩:∃dn pU,v= .slice dn n pU:=by
   rcases Lc.2 with⟨rfl,rfl⟩|⟨g,pU,_,rfl,_⟩
   ·exact⟨_,_,rfl⟩
   ·exact⟨_,_,rfl⟩
  clear agF R
  go_wp2
  go_ret
  exact⟨_,_,rfl,Lc,am⟩
open Go Go.RowKit
theorem agG(g E:Nat)(xs:List bK)(w:cQ)(ah:j9 w 1 (j ⟨g,E,ab⟩) 12 12 xs)(F:∀u∈xs,u.oneCell'=Q):Calls ar 25 #[.pointer (j ⟨g,E,ab⟩)] w λe aV=>∃dn pU,e= .returned (.slice dn 12 pU)/\aV.ownsRow w.heap.size 2 1 (.slice dn 12 pU) 12 xs/\lT w aV:=by
 go_enter Try.func25,Try.ntmps25
 go_wp2_with (go_at_call 59;refine(agC _ 12 12 _ _ ah F (by omega)).mono ?_;rintro e aV ⟨dn,pU,rfl,hK,am⟩)
 go_ret
 exact⟨_,_,rfl,hK,am⟩
section
variable{P:cp}{m:dw}{h:ad}{w aV:cQ}
theorem bU.agH(hw:bU P m h w)(am:lT w aV){g:Nat}(aX:w.heap.size<=g){ch:Nat->Option bK}(xC:∀E v,ch E=j v->aV.cell? ⟨g,E,ab⟩=j v):∃aR,Ext m h aR h/\bU P aR h aV/\∀E v,ch E=j v->aR.dF g E=j v:=by
 have fS:=hw.new am;have an:Ext m h {m with dF:=λfa E=>if fa=g then ch E else m.dF fa E} h:=by refine⟨rfl,bV _,bV _,λ_ _=>⟨rfl,rfl,rfl⟩,λfa E v aa=>?_,λ_ _=>⟨rfl,bV _,λ_=>⟨rfl,rfl⟩⟩,λ_ _ h=>h⟩;have:=hw.pV aa;show(if fa=g then ch E else m.dF fa E)=j v;rw[if_neg (by omega)];exact aa
 refine⟨_,an,?_,λE v aa=>by show(if g=g then ch E else _)=_;rw[if_pos rfl];exact aa⟩;refine{fS with live:=λb es ai=>?_,dF:=λfa E v aa=>?_,sep:=λb es ai E=>?_,ng:=λk Z E am=>?_,e4:=λfa x U=>?_}
 ·obtain⟨cs,F,O,af,aw,bg⟩:=fS.live b es ai;exact⟨cs,F,O,af,aw,λi aa D U=>by obtain⟨v,a,c⟩:=bg i aa D U;exact⟨v,a,c.ext an⟩⟩
 ·have aa:(if fa=g then ch E else m.dF fa E)=j v:=aa;by_cases e:fa=g
  ·rw[if_pos e]at aa;rw[e];exact xC E v aa
  ·rw[if_neg e]at aa;exact fS.dF fa E v aa
 ·have:=hw.below ai;show(if m.cb b=g then ch E else m.dF (m.cb b) E)=ab;rw[if_neg (by omega)];exact fS.sep b es ai E
 ·have:=(hw.pW Z).2;show(if m.h1 k=g then ch E else m.dF (m.h1 k) E)=ab;rw[if_neg (by omega)];exact fS.ng k Z E am
 ·obtain⟨aJ,a1,bf,cv,ez⟩:=fS.e4 fa x U;refine⟨aJ,a1,bf,cv,λE=>?_⟩;have:=hw.sW U;show(if fa=g then ch E else m.dF fa E)=ab;rw[if_neg (by omega)];exact ez E
end
theorem Tf:(ar).cellsOf 2=1:=by kernel_rfl
theorem agI{h:ad}{b:Nat}(aj:h.cell b=j [cs.map (.int o)++[dy]])(al:cs.length=12):AC ar 25 [.ptr b 0 0] h (.inl (.bR ab 2 (cs.map λx=>[.int o x])),h):=by
 intro m w br hw e6;obtain⟨u,rfl⟩:∃u,br=[u]:=by
  match br,e6.1 with
  |[u],_=>exact⟨u,rfl⟩
 have mo:=e6.2 0 (by simp) (by simp);simp only[List.getElem_cons_zero]at mo;obtain⟨ann,a8,bZ,b',du,fk⟩:=hw.live b _ aj;have sX:j9 w 1 (j ⟨m.cb b,0,ab⟩) 12 12 (cs.map (Value.int o)):=j9.W2 a8 (bV _) (by simp[al]) λD u bH=>by
  have U:D<cs.length:=by have:=(gg.1 bH).1;simpa using this
  have pX:D<(cs.map (I.int o)++[dy]).length:=by simp;omega
  obtain⟨v,dc,dr⟩:=fk 0 (by simp) D pX;have dr:bI ar m h ((cs.map (I.int o)++[dy])[D]'pX) v:=dr;rw[List.getElem_append_left (by simpa using U),List.getElem_map]at dr;cases dr;simp only[s6,fz U,hj,g5]at bH;rw[<-bH];simpa using dc
 cases mo with
 |ptr _ _ _ ai=>
   have DH:=agG (m.cb b) 0 (cs.map (Value.int o)) w sX (by intro u bH;obtain⟨x,_,rfl⟩:=n0.1 bH;rfl);have gM:(0*(ar).cellsOf (m.fY b)+0)=0:=by omega
   simp only[gM];refine DH.mono ?_;rintro e aV ⟨dn,pU,rfl,hK,am⟩;have gc:=j9.W1 hK;obtain⟨g,E,rfl⟩:=gc.some_ (by omega);have aX:w.heap.size<=g:=(hK.lt g rfl).1;have xC:∀(p:Nat) (v:bK),(if E<=p then(cs.map (Value.int o))[p - E]? else ab)=j v->aV.cell? ⟨g,p,ab⟩=j v:=by
    intro p v R;split at R
    ·rename_i ib;have:=gc.W0 (p:=p - E) R;rw[show E+(p - E)=p by omega]at this;exact this
    ·cases R
   obtain⟨aR,b2,ds,fb⟩:=hw.agH am aX (ch:=λp=>if E<=p then(cs.map (Value.int o))[p - E]? else ab) xC;refine⟨aR,b2,ds,g4.below am (λ_ h=>h.elim) hw.size,_,rfl,?_⟩;have key:=bI.bR (P:=ar) (m:=aR) (h:=h) ab 2 (cs.map λx=>[.int o x]) g E pU (λi _=>.int o (cs.getD i 0)) (λr ah=>by
     obtain⟨x,_,rfl⟩:=n0.1 ah;rw[Tf];rfl) (λi aa D U=>by
     rw[Tf]at U ⊢;have p3:D=0:=by omega
     subst p3;refine fb _ _ ?_;have eb:i<cs.length:=by simpa using aa
     show(if E<=E+(i*1+0)then(cs.map (Value.int o))[E+(i*1+0) - E]? else ab)=_;rw[if_pos (by omega),show E+(i*1+0) - E=i by omega];simp[eb,cK]) (λi aa D U=>by
     have eb:i<cs.length:=by simpa using aa
     have p3:D=0:=by simp only[List.getElem_map,gp]at U;omega
     subst p3;have e:(cs.map λx=>[I.int o x])[i][0]= .int o (cs.getD i 0):=by simp[cK,eb]
     rw[e];exact .int _ _) (by rw[iX,al];exact gc.2.1) (λk Z=>by cases Z)
   rw[iX,al]at key;exact key
theorem agJ{fM:List Int}{Tg:I}(F:cs.length=12)(O:fM.length=12)(e:cs.map (I.int o)++[dy]=fM.map (I.int o)++[Tg]):cs=fM:=by have:=List.append_inj_left e (by simp[F,O]);refine List.ext_getElem? λi=>?_;have af:=congrArg (·[i]?) this;simp only[s6]at af;cases an:cs[i]? <;>cases bF:fM[i]? <;>simp_all
theorem agK{h:ad}{b:Nat}(aj:h.cell b=j [cs.map (.int o)++[dy]])(al:cs.length=12):a3 ar W 25 [.ptr b 0 0] h=j (.inl (.bR ab 2 (cs.map λx=>[.int o x])),h):=by
 have H:∃cs:List Int,(∃e5 dy,[I.ptr b 0 0]=[.ptr e5 0 0]/\h.cell e5=j [cs.map (.int o)++[dy]]/\cs.length=12)/\AC ar 25 [.ptr b 0 0] h (.inl (.bR ab 2 (cs.map λx=>[.int o x])),h):=⟨cs,⟨b,dy,rfl,aj,al⟩,agI aj al⟩;have an:W.ext 25=j Ep:=by show rl 25=_;unfold rl;rw[if_neg (by decide),if_neg (by decide),if_neg (by decide),if_pos rfl]
 unfold a3;rw[an];simp only[Ep];rw[dif_pos H];obtain⟨⟨e5,Tg,ao,aq,bm⟩,_⟩:=Classical.choose_spec H;have:cs=Classical.choose H:=by injection ao with ao;injection ao with ao;subst ao;rw[aj]at aq;injection aq with aq;injection aq with aq;exact agJ al bm aq
 rw[<-this]
section
variable{h:ad}{ag ap:Nat->Prop}{b:Nat}{G:aC}
theorem agL(g:fO h ag ap b G)(dl:G.cz)(c r k:Int):∃J,a3 ar W 53 [.ptr b 0 0,.int o c,.int o r,.int o k] h=j (.inl (.bW [.int o (G.eh c r k).2.1,.int o (G.eh c r k).2.2]),J)/\hF h ag ap b J (G.eh c r k).1:=by
 unfold aC.eh;cases aj:mV c
 ·rw[if_neg (by simp)];refine⟨h,?_,hF.same g⟩;refine bC P5 rfl ?_;unfold Jy;simp only[ay,aD,aO,ax,dI,ES,aj]
 ·rw[if_pos rfl];obtain⟨J,e,d⟩:=JY g dl ⟨-1,k,r,c, -1,0⟩;simp only[dS]at e;refine⟨J,?_,d⟩;refine bC P5 rfl ?_;unfold Jy;simp only[ay,aD,aO,ax,dI,ES,aj,e]
theorem agM(p f:Int):(A1 p f=Q/\decide (p<0)=T/\decide (4<=p)=T/\decide (f<0)=T/\decide (6<=f)=T)\/(A1 p f=T/\(decide (p<0)=Q\/decide (p<0)=T/\decide (4<=p)=Q\/decide (p<0)=T/\decide (4<=p)=T/\decide (f<0)=Q\/decide (p<0)=T/\decide (4<=p)=T/\decide (f<0)=T/\decide (6<=f)=Q)):=by simp only[A1,decide_eq_true_eq,decide_eq_false_iff_not];omega
theorem agN(g:fO h ag ap b G)(dl:G.cz)(p f r k:Int):∃J,a3 ar W 55 [.ptr b 0 0,.int o p,.int o f,.int o r,.int o k] h=j (.inl (.bW [.int o (G.l1 p f r k).2.1,.int o (G.l1 p f r k).2.2]),J)/\hF h ag ap b J (G.l1 p f r k).1:=by
 unfold aC.l1;rcases agM p f with⟨aj,F,O,af,aw⟩|⟨aj,an⟩
 ·rw[if_pos aj];obtain⟨J,e,d⟩:=JY g dl ⟨-1,k,r,0,p,f⟩;simp only[dS]at e;refine⟨J,?_,d⟩;refine bC P8 rfl ?_;unfold JA;simp only[ay,aD,aO,ax,dI,F,O,af,aw,e]
 ·rw[if_neg (by simp[aj])];refine⟨h,?_,hF.same g⟩;refine bC P8 rfl ?_;unfold JA;rcases an with F|⟨F,O⟩|⟨F,O,af⟩|⟨F,O,af,aw⟩
  ·simp only[ay,aD,aO,ax,dI,F]
  ·simp only[ay,aD,aO,ax,dI,F,O]
  ·simp only[ay,aD,aO,ax,dI,F,O,af]
  ·simp only[ay,aD,aO,ax,dI,F,O,af,aw]
theorem Th(g:fO h ag ap b G)(dl:G.cz)(p r k:Int):∃J,a3 ar W 79 [.ptr b 0 0,.int o p,.int o r,.int o k] h=j (.inl (.bW [.int o (G.derive p r k).2.1,.int o (G.derive p r k).2.2]),J)/\hF h ag ap b J (G.derive p r k).1:=by
 unfold aC.derive;cases aj:G.has p
 ·rw[if_neg (by simp)];refine⟨h,?_,hF.same g⟩;refine bC P' rfl ?_;unfold JB;simp only[ay,aD,aO,ax,dI,Bq g,aj]
 ·rw[if_pos rfl];obtain⟨J,e,d⟩:=JY g dl ⟨p,k,r,0, -1,0⟩;simp only[dS]at e;refine⟨J,?_,d⟩;refine bC P' rfl ?_;unfold JB;simp only[ay,aD,aO,ax,dI,Bq g,aj,e]
theorem agO:∃J,a3 ar W 68 [] h=j (.inl (.ptr h.n 0 0),J)/\J=h.push [[.aF,.aF]]:=by refine⟨_,?_,rfl⟩;refine bC adb rfl ?_;unfold Qp;simp only[ay,aD,aO,ax]
theorem agP(h:ad):fO (h.push [[.aF,.aF]]) (λk=>k=h.n) (λ_=>False) h.n ⟨[],[]⟩:=⟨⟨rfl,by simp[ad.push]⟩,⟨λk Z=>by rw[Z];simp[ad.push],λ_=>False.elim⟩,.aF,.aF,kd,.inl ⟨rfl,rfl⟩,.inl ⟨rfl,rfl⟩⟩
end
section
variable{h J ae:ad}{ag ap aH aA:Nat->Prop}{L:List cd}
theorem B':∀{ms:dz} {kept:List ak} {aZ:List (List I)},eF kept aZ->ms.length=kept.length->(l3 ms aZ).length=5*ms.length
 |[],[],aZ,h,_=>by simp only[eF]at h;subst h;rfl
 |m::ms,k::kept,aZ,h,al=>by obtain⟨r,rs,rfl,F,O⟩:=h;have aW:=B' (ms:=ms) O (by simpa using al);simp only[l3,l0,gT,eP,aW,F.cZ.1];omega
 |[],_::_,_,_,al=>by simp at al
 |_::_,[],_,_,al=>by simp at al
theorem Ti:∀{ms:dz} {kept:List ak} {aZ:List (List I)} {p:Nat},eF kept aZ->ms.length=kept.length->p<ms.length->(l3 ms aZ)[p*5]? =j (.bool (ms.getD p ab).isSome)/\(l3 ms aZ)[p*5+1]? =j (oR (ms.getD p ab))/\∃r,((l3 ms aZ).drop (p*5+2)).take 3=r/\b1 (kept.getD p bE) r/\((l3 ms aZ).drop (p*5)).take 5= .bool (ms.getD p ab).isSome::oR (ms.getD p ab)::r
 |[],kept,aZ,p,_,_,aB=>by simp at aB
 |m::ms,[],aZ,p,_,al,_=>by simp at al
 |m::ms,k::kept,aZ,p,h,al,aB=>by
   obtain⟨r,rs,rfl,F,O⟩:=h;have af:=F.cZ.1
   match r,af with
   |[a,b,c],_=>
     cases p with
     |zero=>exact⟨rfl,rfl,[a,b,c],rfl,F,rfl⟩
     |succ p=>
       obtain⟨bN,bL,bM,c2,fm,nu⟩:=Ti (ms:=ms) (p:=p) O (by simpa using al) (by simpa using aB);have ao:∀D,(l3 (m::ms) ([a,b,c]::rs))[(p+1)*5+D]? =(l3 ms rs)[p*5+D]? :=λD=>by
        have:(p+1)*5+D=p*5+D+5:=by omega
        rw[this];rfl
       have aq:∀D,(l3 (m::ms) ([a,b,c]::rs)).drop ((p+1)*5+D)=(l3 ms rs).drop (p*5+D):=λD=>by
        have:(p+1)*5+D=p*5+D+5:=by omega
        rw[this];rfl
       have f1:=ao 0;have f2:=aq 0;rw[Nat.add_zero,Nat.add_zero]at f1 f2;exact⟨f1.trans bN,(ao 1).trans bL,bM,by rw[aq 2];exact c2,fm,by rw[f2];exact nu⟩
theorem Tj:∀{ms:dz} {kept:List ak} {aZ:List (List I)} {p:Nat} {v:ak} {r:List I},eF kept aZ->ms.length=kept.length->p<ms.length->b1 v r->∃oZ,eF (kept.set p v) oZ/\dt (l3 ms aZ) (p*5+2) r=l3 ms oZ
 |[],kept,aZ,p,_,_,_,_,aB,_=>by simp at aB
 |m::ms,[],aZ,p,_,_,_,al,_,_=>by simp at al
 |m::ms,k::kept,aZ,p,v,r,h,al,aB,R=>by
   obtain⟨gv,rs,rfl,F,O⟩:=h;have af:=F.cZ.1;have aw:=R.cZ.1
   match gv,af,r,aw with
   |[a,b,c],_,[x,y,z],_=>
     cases p with
     |zero=>exact⟨[x,y,z]::rs,⟨_,_,rfl,R,O⟩,rfl⟩
     |succ p=>
       obtain⟨oZ,bN,bL⟩:=Tj (ms:=ms) (p:=p) O (by simpa using al) (by simpa using aB) R;refine⟨[a,b,c]::oZ,⟨_,_,rfl,F,bN⟩,?_⟩;have:(p+1)*5+2=p*5+2+5:=by omega
       rw[this];unfold dt at bL ⊢;simp only[l3,l0,k5,List.take_succ_cons,gT,gK];rw[show p*5+2+5+(0+1+1+1)=p*5+2+3+5 by omega];simp only[List.drop_succ_cons];rw[<-bL];simp
theorem Ld{b b6 ca:Nat}{ms:dz}{kept:List ak}(x:(gZ b b6 ca ms kept).A h ag ap)(al:ms.length=kept.length):∃row,h.cell b=j [row]/\b<h.n/\row[0]? =j (.ptr b6 0 0)/\row[1]? =j (.ptr ca 0 0)/\row.length=2+5*ms.length/\∀p:Nat,p<ms.length->row[2+p*5]? =j (.bool (ms.getD p ab).isSome)/\row[2+p*5+1]? =j (oR (ms.getD p ab))/\∃r,gG Q 3 row (2+p*5+2)=j (.agg r)/\b1 (kept.getD p bE) r/\gG Q 5 row (2+p*5)=j (.agg (.bool (ms.getD p ab).isSome::oR (ms.getD p ab)::r)):=by
 obtain⟨aZ,Z,_,_,F,O⟩:=x;refine⟨_,O,F,rfl,rfl,by simp only[l4,gT,B' Z al];omega,λp aB=>?_⟩;obtain⟨bN,bL,r,c2,fm,nu⟩:=Ti Z al aB;have e:∀D,(l4 b6 ca ms aZ)[2+p*5+D]? =(l3 ms aZ)[p*5+D]? :=λD=>by rw[show 2+p*5+D=p*5+D+1+1 by omega];rfl
 have aq:∀D,(l4 b6 ca ms aZ).drop (2+p*5+D)=(l3 ms aZ).drop (p*5+D):=λD=>by rw[show 2+p*5+D=p*5+D+1+1 by omega];rfl
 have hlen:=B' Z al;have f0:=e 0;have f2:=aq 0;rw[Nat.add_zero,Nat.add_zero]at f0 f2;refine⟨f0.trans bN,(e 1).trans bL,r,?_,fm,?_⟩
 ·unfold gG;rw[if_pos rfl,if_pos (by simp only[l4,gT,hlen];omega),aq 2,c2]
 ·unfold gG;rw[if_pos rfl,if_pos (by simp only[l4,gT,hlen];omega),f2,nu]
theorem agQ{b b6 ca:Nat}{ms:dz}{kept:List ak}(s:aQ ae aH aA h L)(i:Nat)(aa:L[i]? =j (gZ b b6 ca ms kept))(al:ms.length=kept.length){p:Nat}(aB:p<ms.length){v:ak}{r:List I}(R:b1 v r):∃J,ew 3 h (.ptr b 0 (2+p*5+2)) (.agg r)=j J/\aQ ae aH aA J (L.set i (gZ b b6 ca ms (kept.set p v))):=by
 refine s.call (dG:=λJ=>ew 3 h (.ptr b 0 (2+p*5+2)) (.agg r)=j J) i aa λag ap x=>?_;obtain⟨aZ,Z,aJ,a1,bf,cv⟩:=x;obtain⟨oZ,bN,bL⟩:=Tj Z al aB R;have hlen:=B' Z al;refine⟨_,lW (es:=[l4 b6 ca ms aZ]) (e:=l4 b6 ca ms aZ) cv rfl R.cZ.2 R.cZ.1 (by simp only[l4,gT,hlen];omega),ag,ap,⟨oZ,bN,aJ,a1,bf,?_⟩,⟨bV _,bV _,λk _ nn=>gB λe=>nn ((aJ k).2 e),λ_ _ _=>rfl⟩,λ_=>.inl,λ_=>.inl⟩;rw[lz,List.set_cons_zero];have:dt (l4 b6 ca ms aZ) (2+p*5+2) r=l4 b6 ca ms oZ:=by unfold l4;rw[<-bL];unfold dt;rw[show 2+p*5+2=p*5+2+1+1 by omega];simp only[List.take_succ_cons,l0];rw[show p*5+2+1+1+r.length=p*5+2+r.length+1+1 by omega];simp only[List.drop_succ_cons]
 simp only[I.cells,this]
theorem Tk{e:aT}{v:I}{rows:List (List I)}(x:(xp e v rows).A h ag ap){row:List I}(F:row.all I.one=Q)(al:rows.length<=1000000):∃bu J,fx T e v (.bR (j h.ids) e [row]) (h.fresh 1)=j (bu,J)/\bu.one=Q/\bu.cells=[bu]/\gx h ag ap J (xp e bu (rows++[row]))/\J.n=h.n/\J.cell=h.cell:=by
 have mP:([row].all λx=>x.all I.one)=Q:=by simpa using F
 rcases x with⟨⟨rfl,rfl⟩,ao,aq⟩|⟨id,⟨cO,rfl⟩,aJ,a1,bf,cv⟩
 ·refine⟨.bR (j (h.ids+1)) e [row],(h.fresh 1).fresh 1,?_,rfl,rfl,⟨λ_=>False,λD=>D=h.ids+1,.inr ⟨h.ids+1,⟨by simp,rfl⟩,λ_ h=>h,λ_=>mY,by simp[ad.fresh],by simp[ad.fresh]⟩,((aK.fresh h 1).trans (aK.fresh _ 1)).tm _ _,λ_ h=>h.elim,λD U=>.inr (by omega)⟩,rfl,rfl⟩;simp only[fx,iO,if_true,c7,gp,Nat.one_ne_zero,if_false,kr];rw[if_pos ⟨by omega,by omega,mP⟩];rfl
 ·have agR:id≠h.ids:=by omega
  refine⟨.bR (j id) e (rows++[row]),(h.fresh 1).grow id (rows.length+1),?_,rfl,rfl,⟨λ_=>False,λD=>D=id,.inr ⟨id,⟨by simp,rfl⟩,λ_ h=>h,λ_=>mY,by simp[ad.grow,ad.fresh];omega,by simp[ad.grow]⟩,⟨bV _,by simp[ad.grow,ad.fresh],λ_ _ _=>rfl,λD U fD=>?_⟩,λ_ h=>h.elim,λD U=>.inl ((a1 D).2 U)⟩,rfl,rfl⟩
  ·simp only[fx,iO,if_true,c7,gp,Nat.one_ne_zero,if_false,kr];rw[if_pos ⟨by omega,by omega,mP⟩,AW agR,cv];simp only[true_and,al,if_true]
  ·rw[O8 λe=>fD ((a1 D).2 e),AW (by omega)]
theorem F4{b:Nat}{cells:List Int}(x:(gY b cells log).A h ag ap):∃v,aQ h ag ap h [a9 b [cells.map (.int o)++[v]],xp lE v (log.map my)]:=by obtain⟨v,x⟩:=x;exact⟨v,aQ.start (c4.two x)⟩
theorem Tl{b:Nat}{cells:List Int}{v:I}(s:aQ ae aH aA h [a9 b [cells.map (.int o)++[v]],xp lE v (log.map my)]):gx ae aH aA h (gY b cells log):=gx.imp (λ_ _ _ x=>by obtain⟨eQ,eR,dQ,dT,b2,ds,r⟩:=x;exact⟨v,eQ,eR,dQ,dT,b2,c4.zu ds,r⟩) s
theorem Ca{cells:List Int}{v:I}(al:cells.length=12){D:Nat}(U:D<12):(cells.map (I.int o)++[v])[D]? =j (.int o (cells.getD D 0))/\(cells.map (I.int o)++[v])[12]? =j v/\(cells.map (I.int o)++[v]).length=13:=by
 refine⟨?_,?_,by simp[al]⟩
 ·rw[mJ (by simp;omega)];simp[cK,show D<cells.length by omega]
 ·rw[pY (by simp;omega)];simp[al]
theorem agS{b:Nat}{cells:List Int}(fq:aQ ae aH aA h L)(i:Nat)(aa:L[i]? =j (gY b cells log))(al:cells.length=12)(au:log.length<=1000000){c:Int}(aj:0<=c/\c<12)(p n:Int):∃J,a3 ar W 136 [.ptr b 0 0,.int o p,.int o c,.int o n] h=j (.inl (.bW [.int o (cells.getD c.toNat 0),.bool Q]),J)/\aQ ae aH aA J (L.set i (gY b cells (log++[⟨p,c,1,n⟩]))):=by
 refine fq.call (dG:=λJ=>a3 ar W 136 [.ptr b 0 0,.int o p,.int o c,.int o n] h=j (.inl (.bW [.int o (cells.getD c.toNat 0),.bool Q]),J)) i aa λag ap x=>?_;obtain⟨v,s⟩:=F4 x;obtain⟨a8,bZ⟩:=s.cell 0 rfl;obtain⟨D,rfl⟩:=Int.eq_ofNat_of_zero_le aj.1;have U:D<12:=by omega
 obtain⟨c1,cr,eg⟩:=Ca (v:=v) al U;obtain⟨F,bu,⟨ao,bG,bD,ek,dc⟩,a4⟩:=s.zw (dG:=λJ bu=>fx T lE v (.bR (j h.ids) lE [my ⟨p,D,1,n⟩]) (h.fresh 1)=j (bu,J)/\bu.one=Q/\bu.cells=[bu]/\J.n=h.n/\J.cell=h.cell) 1 rfl (Y:=λbu=>xp lE bu (log.map my++[my ⟨p,D,1,n⟩])) λag ap y=>by obtain⟨bu,J,aJ,a1,bf,cv,ez,i8⟩:=Tk y (row:=my ⟨p,D,1,n⟩) rfl (by simpa using au);exact⟨J,bu,⟨aJ,a1,bf,ez,i8⟩,cv⟩
 have b8:∀q:jC,ft ab (j (12,1)) (.ptr b 0 0) (.int q (D:Int))=j (.ptr b 0 D):=λq=>by simp[ft,U]
 have sV:mV (D:Int)=Q:=by simp[mV];omega
 have b':=(a4.cell 0 rfl).1;have bB:dt (cells.map (I.int o)++[v]) 12 [bu]=cells.map (I.int o)++[bu]:=by unfold dt;rw[List.take_left' (by simp[al]),List.drop_of_length_le (by simp[al])];simp
 have st:=lW (n:=1) (x:=bu) (off:=12) (i:=0) b' rfl (by rw[bD];simpa using bG) (by rw[bD];rfl) (by omega);rw[bD,bB,List.set_cons_zero]at st;have bn:=a4.set 0 rfl [cells.map (I.int o)++[bu]];have kO:=(Ca (v:=bu) al U).1;refine⟨_,?_,Tl (v:=bu) (log:=log++[⟨p,D,1,n⟩]) (by rw[List.map_append];exact bn)⟩;have hx:∀(x:ad) (k:Nat) (u:I),(cells.map (I.int o)++[u])[D]? =j (.int o (cells.getD D 0))->x.cell b=j [cells.map (I.int o)++[u]]->c0 T k x (.ptr b 0 D)=j (.int o (cells.getD D 0)):=λx k u bH an=>by rw[hD,an,c7,n4,c7,pq,bH]
 have Le:∀k:Nat,c0 T k h (.ptr b 0 12)=j v:=λk=>by rw[hD,a8,c7,n4,c7,pq,cr]
 have f12:cf 12 (.ptr b 0 0)=j (.ptr b 0 12):=rfl;have uQ:=hx _ 1 bu kO (bn.cell 0 rfl).1;simp only[my]at ao;refine bC aef rfl ?_;unfold RG;simp only[ay,aD,aO,ax,dI,ct,ES,sV,f12,Le,ao,st,b8,uQ]
theorem agT{b:Nat}{cells:List Int}(fq:aQ ae aH aA h L)(i:Nat)(aa:L[i]? =j (gY b cells log))(al:cells.length=12)(au:log.length<=1000000){c:Int}(aj:0<=c/\c<12)(p n z:Int):∃J,a3 ar W 137 [.ptr b 0 0,.int o p,.int o c,.int o n,.int o z] h=j (.inl (.bool Q),J)/\aQ ae aH aA J (L.set i (gY b (cells.set c.toNat z) (log++[⟨p,c,2,n⟩]))):=by
 refine fq.call (dG:=λJ=>a3 ar W 137 [.ptr b 0 0,.int o p,.int o c,.int o n,.int o z] h=j (.inl (.bool Q),J)) i aa λag ap x=>?_;obtain⟨v,s⟩:=F4 x;obtain⟨a8,bZ⟩:=s.cell 0 rfl;obtain⟨D,rfl⟩:=Int.eq_ofNat_of_zero_le aj.1;have U:D<12:=by omega
 obtain⟨c1,cr,eg⟩:=Ca (v:=v) al U;obtain⟨F,bu,⟨ao,bG,bD,ek,dc⟩,a4⟩:=s.zw (dG:=λJ bu=>fx T lE v (.bR (j h.ids) lE [my ⟨p,D,2,n⟩]) (h.fresh 1)=j (bu,J)/\bu.one=Q/\bu.cells=[bu]/\J.n=h.n/\J.cell=h.cell) 1 rfl (Y:=λbu=>xp lE bu (log.map my++[my ⟨p,D,2,n⟩])) λag ap y=>by obtain⟨bu,J,aJ,a1,bf,cv,ez,i8⟩:=Tk y (row:=my ⟨p,D,2,n⟩) rfl (by simpa using au);exact⟨J,bu,⟨aJ,a1,bf,ez,i8⟩,cv⟩
 have b8:∀q:jC,ft ab (j (12,1)) (.ptr b 0 0) (.int q (D:Int))=j (.ptr b 0 D):=λq=>by simp[ft,U]
 have sV:mV (D:Int)=Q:=by simp[mV];omega
 have b':=(a4.cell 0 rfl).1;have bB:dt (cells.map (I.int o)++[v]) 12 [bu]=cells.map (I.int o)++[bu]:=by unfold dt;rw[List.take_left' (by simp[al]),List.drop_of_length_le (by simp[al])];simp
 have st:=lW (n:=1) (x:=bu) (off:=12) (i:=0) b' rfl (by rw[bD];simpa using bG) (by rw[bD];rfl) (by omega);rw[bD,bB,List.set_cons_zero]at st;have bn:=a4.set 0 rfl [cells.map (I.int o)++[bu]];have kO:=Ca (v:=bu) al U;have agU:dt (cells.map (I.int o)++[bu]) D [.int o z]=(cells.set D z).map (I.int o)++[bu]:=by
  have:dt (cells.map (I.int o)++[bu]) D [.int o z]=(cells.map (I.int o)++[bu]).set D (.int o z):=by
   refine List.ext_getElem? λi=>?_;rw[ut _ _ _ _ (by simp only[gp,kO.2.2];omega)];by_cases e:i=D
   ·subst e;rw[if_pos (by simp only[gp];omega),List.getElem?_set_self (by rw[kO.2.2];omega)];simp
   ·rw[if_neg (by simp only[gp];omega),s' (by omega)]
  rw[this,List.set_append_left _ _ (by simp;omega),List.map_set]
 have Tm:=lW (n:=1) (x:=.int o z) (off:=D) (i:=0) (bn.cell 0 rfl).1 rfl rfl rfl (by rw[kO.2.2];omega);rw[show(I.int o z).cells=[.int o z] from rfl,agU,List.set_cons_zero]at Tm;have b0:=bn.set 0 rfl [(cells.set D z).map (I.int o)++[bu]];refine⟨_,?_,Tl (v:=bu) (log:=log++[⟨p,D,2,n⟩]) (by rw[List.map_append];exact b0)⟩;have Le:∀k:Nat,c0 T k h (.ptr b 0 12)=j v:=λk=>by rw[hD,a8,c7,n4,c7,pq,cr]
 have f12:cf 12 (.ptr b 0 0)=j (.ptr b 0 12):=rfl;simp only[my]at ao;refine bC aeg rfl ?_;unfold RK;simp only[ay,aD,aO,ax,dI,ct,ES,sV,f12,Le,ao,st,b8,Tm]
end
def gO(ae:ad)(ag ap:Nat->Prop)(b:Nat)(h:ad)(G:aC)(C ch:List Nat):Prop:=∃ke kf,fO h ke kf b G/\lc ag ap ae h/\(∀k,ke k->ag k\/ae.n<=k)/\(∀D,kf D->ap D\/ae.ids<=D)/\(∀k∈C,ae.n<=k/\k<h.n/\¬ke k)/\(∀D∈ch,ae.ids<=D/\D<h.ids/\¬kf D)
section
variable{ae h:ad}{ag ap:Nat->Prop}{b:Nat}{G cU:aC}{C ch:List Nat}
theorem gO.start(g:fO h ag ap b G):gO h ag ap b h G [] []:=⟨ag,ap,g,lc.refl _ _ _,λ_=>.inl,λ_=>.inl,by simp,by simp⟩
theorem gO.wm(m:gO ae ag ap b h G C ch):hF ae ag ap b h G:=by obtain⟨ke,kf,g,c,f,D,_⟩:=m;exact⟨ke,kf,g,c,f,D⟩
theorem gO.agV(m:gO ae ag ap b h G C ch):∃ke kf,fO h ke kf b G:=by obtain⟨ke,kf,g,_⟩:=m;exact⟨ke,kf,g⟩
theorem gO.n(m:gO ae ag ap b h G C ch):ae.n<=h.n:=by obtain⟨_,_,_,c,_⟩:=m;exact c.n
theorem gO.lt(m:gO ae ag ap b h G C ch){k:Nat}(Z:k∈C):k<h.n:=by obtain⟨_,_,_,_,_,_,c,_⟩:=m;exact(c k Z).2.1
theorem gO.eX(m:gO ae ag ap b h G C ch){k:Nat}(Z:k<ae.n)(cR:¬ag k):h.cell k=ae.cell k:=by obtain⟨_,_,_,c,_⟩:=m;exact c.cell k Z cR
theorem gO.iZ{J:ad}(m:gO ae ag ap b h G C ch)(x:aK h J):gO ae ag ap b J G C ch:=by
 obtain⟨ke,kf,g,c,f,D,aj,aa⟩:=m;refine⟨ke,kf,g.iZ x,c.trans (x.tm _ _),f,D,λk Z=>?_,λi Z=>?_⟩
 ·obtain⟨aJ,a1,bf⟩:=aj k Z;exact⟨aJ,eL a1 x.n,bf⟩
 ·obtain⟨aJ,a1,bf⟩:=aa i Z;exact⟨aJ,eL a1 x.ids,bf⟩
theorem gO.push(m:gO ae ag ap b h G C ch)(r:List (List I)):gO ae ag ap b (h.push r) G (h.n::C) ch:=by
 have au:=m.n;obtain⟨ke,kf,g,c,f,D,aj,aa⟩:=m.iZ (aK.push h r);obtain⟨dQ,dT,cr,bZ,f2,fc,jx,g8⟩:=m;refine⟨dQ,dT,cr.iZ (aK.push h r),c,f2,fc,λk Z=>?_,λi Z=>?_⟩
 ·rcases pi.1 Z with rfl|Z
  ·exact⟨au,by simp[ad.push],λcR=>by have:=cr.lt.1 _ cR;omega⟩
  ·obtain⟨aJ,a1,bf⟩:=jx k Z;exact⟨aJ,by simp only[fo];omega,bf⟩
 ·exact g8 i Z
theorem gO.fresh(m:gO ae ag ap b h G C ch)(r:Nat):gO ae ag ap b (h.fresh r) G C (h.ids::ch):=by
 obtain⟨dQ,dT,cr,bZ,f2,fc,jx,g8⟩:=m;refine⟨dQ,dT,cr.iZ (aK.fresh h r),bZ.trans ((aK.fresh h r).tm _ _),f2,fc,jx,λi Z=>?_⟩;rcases pi.1 Z with rfl|Z
 ·exact⟨bZ.ids,by simp[ad.fresh],λcR=>by have:=cr.lt.2 _ cR;omega⟩
 ·obtain⟨aJ,a1,bf⟩:=g8 i Z;exact⟨aJ,by simp only[O7];omega,bf⟩
theorem gO.set(m:gO ae ag ap b h G C ch){c:Nat}(Z:c∈C)(es:Option (List (List I))):gO ae ag ap b (h.set c es) G C ch:=by obtain⟨dQ,dT,cr,bZ,f2,fc,jx,g8⟩:=m;obtain⟨aJ,a1,bf⟩:=jx c Z;have x:lc (λk=>k=c) (λ_=>False) h (h.set c es):=⟨bV _,bV _,λk _ Z=>gB Z,λ_ _ _=>rfl⟩;refine⟨dQ,dT,cr.fH x (λk Z e=>bf (e ▸ Z)) (λ_ _ h=>h),bZ.then x (λk e=>.inr (by rw[e];exact aJ)) (λ_ h=>h.elim),f2,fc,jx,g8⟩
theorem gO.grow(m:gO ae ag ap b h G C ch){i:Nat}(Z:i∈ch)(r:Nat):gO ae ag ap b (h.grow i r) G C ch:=by obtain⟨dQ,dT,cr,bZ,f2,fc,jx,g8⟩:=m;obtain⟨aJ,a1,bf⟩:=g8 i Z;have x:lc (λ_=>False) (λD=>D=i) h (h.grow i r):=⟨bV _,bV _,λ_ _ _=>rfl,λD _ U=>O8 U⟩;exact⟨dQ,dT,cr.fH x (λ_ _ h=>h) (λD U e=>bf (e ▸ U)),bZ.then x (λ_ h=>h.elim) (λD e=>.inr (by rw[e];exact aJ)),f2,fc,jx,g8⟩
theorem gO.F5{dG:ad->Prop}(m:gO ae ag ap b h G C ch)(c:∀dQ dT,fO h dQ dT b G->(∀k,k<ae.n->¬ag k->¬dQ k)->(∀k∈C,¬dQ k)->∃J,dG J/\hF h dQ dT b J cU):∃J,dG J/\gO ae ag ap b J cU C ch/\(∀k∈C,J.cell k=h.cell k)/\(∀k,k<ae.n->¬ag k->J.cell k=h.cell k)/\(∀D∈ch,J.hw D=h.hw D):=by
 obtain⟨dQ,dT,cr,bZ,f2,fc,jx,g8⟩:=m;obtain⟨J,r,nE,nF,eg,b',f3,sz⟩:=c dQ dT cr (λk Z cR O=>by
  rcases f2 k O with h|h
  ·exact cR h
  ·omega) (λk Z=>(jx k Z).2.2)
 have jR:=bZ.then b' f2 fc;refine⟨J,r,⟨nE,nF,eg,jR,λk Z=>?_,λD U=>?_,λk Z=>?_,λi Z=>?_⟩,λk Z=>b'.cell k (jx k Z).2.1 (jx k Z).2.2,λk Z cR=>?_,λD U=>b'.hw D (g8 D U).2.1 (g8 D U).2.2⟩
 ·rcases f3 k Z with h|h
  ·exact f2 k h
  ·exact .inr (ef bZ.n h)
 ·rcases sz D U with h|h
  ·exact fc D h
  ·exact .inr (ef bZ.ids h)
 ·obtain⟨aJ,a1,bf⟩:=jx k Z;refine⟨aJ,eL a1 b'.n,λcR=>?_⟩;rcases f3 k cR with h|h
  ·exact bf h
  ·omega
 ·obtain⟨aJ,a1,bf⟩:=g8 i Z;refine⟨aJ,eL a1 b'.ids,λcR=>?_⟩;rcases sz i cR with h|h
  ·exact bf h
  ·omega
 ·refine b'.cell k (eL Z bZ.n) λCb=>?_;rcases f2 k Cb with h|h
  ·exact cR h
  ·omega
theorem gO.call{dG:ad->Prop}(m:gO ae ag ap b h G C ch)(c:∀ag ap,fO h ag ap b G->∃J,dG J/\hF h ag ap b J cU):∃J,dG J/\gO ae ag ap b J cU C ch/\(∀k∈C,J.cell k=h.cell k)/\(∀k,k<ae.n->¬ag k->J.cell k=h.cell k)/\(∀D∈ch,J.hw D=h.hw D):=m.F5 λdQ dT g _ _=>c dQ dT g
def sE(e:aT)(ch:List Nat)(h:ad)(v:I)(acc:List (List I)):Prop:=(acc=[]/\v= .aF)\/∃id,id∈ch/\acc≠[]/\h.hw id=acc.length/\v= .bR (j id) e acc
theorem sE.BB{e:aT}{v:I}{acc:List (List I)}(a:sE e ch h v acc):fE e v acc:=by
 rcases a with a|⟨id,_,_,_,rfl⟩
 ·exact .inl a
 ·exact .inr ⟨_,rfl⟩
theorem sE.cell{e:aT}{v:I}{acc:List (List I)}(a:sE e ch h v acc):v.one=Q/\v.cells=[v]:=by rcases a with⟨_,rfl⟩|⟨id,_,_,_,rfl⟩<;>exact⟨rfl,rfl⟩
theorem sE.fH{J:ad}{e:aT}{v:I}{acc:List (List I)}(a:sE e ch h v acc)(Z:∀D∈ch,J.hw D=h.hw D):sE e ch J v acc:=by
 rcases a with a|⟨id,aJ,a1,bf,cv⟩
 ·exact .inl a
 ·exact .inr ⟨id,aJ,a1,(Z id aJ).trans bf,cv⟩
theorem agW{e:aT}{v:I}{acc:List (List I)}(m:gO ae ag ap b h G C ch)(aM:sE e ch h v acc){row:List I}(F:row.all I.one=Q)(al:acc.length<=1000000):∃bu J Tn,fx T e v (.bR (j h.ids) e [row]) (h.fresh 1)=j (bu,J)/\sE e Tn J bu (acc++[row])/\gO ae ag ap b J G C Tn/\J.cell=h.cell/\J.n=h.n:=by
 have mP:∀x,x∈row->x.one=Q:=by simpa using F
 rcases aM with⟨rfl,rfl⟩|⟨id,aJ,a1,bf,rfl⟩
 ·refine⟨.bR (j (h.ids+1)) e [row],(h.fresh 1).fresh 1,(h.ids+1)::h.ids::ch,?_,.inr ⟨h.ids+1,by simp,by simp,by simp[ad.fresh],by simp⟩,(m.fresh 1).fresh 1,rfl,rfl⟩;simp only[fx,iO,if_true,c7,gp,Nat.one_ne_zero,if_false,kr];rw[if_pos ⟨by omega,by omega,by simpa using mP⟩];rfl
 ·have bh:id<h.ids:=by obtain⟨_,_,_,_,_,_,_,aa⟩:=m;exact(aa id aJ).2.1
  have cO:id≠h.ids:=by omega
  refine⟨.bR (j id) e (acc++[row]),(h.fresh 1).grow id (acc.length+1),h.ids::ch,?_,.inr ⟨id,by simp[aJ],by simp,by simp[ad.grow],rfl⟩,(m.fresh 1).grow (by simp[aJ]) _,rfl,rfl⟩;simp only[fx,iO,if_true,c7,gp,Nat.one_ne_zero,if_false,kr];rw[if_pos ⟨by omega,by omega,by simpa using mP⟩,AW cO,bf];simp only[true_and,al,if_true]
end
theorem agX{x:BitVec 64}:za x.toInt 4=iV x.toInt 2:=by
 have aw:(4:Int)=(4#64).toInt:=by decide
 rw[aw,Ph,Qs x (by omega)];have e:(4#64)=BitVec.twoPow 64 2:=by decide
 cases ai:x.getLsbD 2
 ·refine decide_eq_false λh=>?_;have:=congrArg (λv:BitVec 64=>v.getLsbD 2) h;simp only[BitVec.getLsbD_and,ai,Bool.false_and]at this;exact absurd this (by decide)
 ·refine decide_eq_true (BitVec.eq_of_getLsbD_eq λi aa=>?_);rw[BitVec.getLsbD_and,e,BitVec.getLsbD_twoPow];by_cases O:2=i
  ·subst O;simp[ai]
  ·simp[O]
section
variable{h:ad}{ag ap:Nat->Prop}{b:Nat}{G:aC}
abbrev uX:aT:=200
theorem To{C:y3}{aI:Nat}{d:nw}{bA:List aE}{k:List ic}{V L:List I}{q:aT}{v:I}:bo C aI (.ops (.i d (.vG (.l 0))::bA)::k) V (.iface q v::L) h=j (.panic (.iface q v),V,h):=O5 rfl
theorem agY(c:Int):a3 ar W 142 [.bool Q,.int o c] h=j (.inr (.iface uX (.int o c)),h):=by refine bC Sh rfl ?_;unfold KI;simp only[ay,aD,aO,ax,DY,To,Ae (aK.refl h) (rfl:dA (.iface uX (.int o c))=_)]
theorem agZ(c:Int):a3 ar W 142 [.bool T,.int o c] h=j (.inl (.bW []),h):=by refine bC Sh rfl ?_;unfold KI;simp only[ay,aD,aO,ax,fR (aK.refl h) (rfl:dA (.bW [])=_)]
theorem ag0(g:aC)(dl:g.cz)(i:Int):a3 ar W 132 [.int o (g.et i),.int o 4] h=j (.inl (.bool (iV (g.et i) 2)),h):=by
 obtain⟨x,an⟩:=So dl i;have e:za (g.et i) 4=iV (g.et i) 2:=by rw[an];exact agX
 rw[<-e];refine bC Fd rfl ?_;unfold KH;simp only[ay,aD,aO,ax];rfl
def Lf(aZ:List Int)(G:aC)(n:Int)(q:I⊕I):Prop:=((l2 aZ G n).2.2=0/\q= .inl (.int o (l2 aZ G n).2.1))\/((l2 aZ G n).2.2≠0/\q= .inr (.iface uX (.int o (l2 aZ G n).2.2)))
theorem ag1(k:Int)(l:List Int)(G:aC)(n:Int):l2 (k::l) G n=if(G.derive n 15 k).2.2≠0 then((G.derive n 15 k).1,0,(G.derive n 15 k).2.2)else l2 l (G.derive n 15 k).1 (G.derive n 15 k).2.1:=rfl
theorem ag2{m:Nat}{dU:I}{aZ:List Int}(g:fO h ag ap b G)(dl:G.cz)(hm:m<h.n)(cR:¬ag m)(aj:h.cell m=j [[.ptr b 0 0,dU]])(aX:oM 3 dU (jY aZ))(Z:aZ.length<=1000000)(n:Int):∃q J,a3 ar W 134 [.ptr m 0 0,.int o n] h=j (q,J)/\(Lf aZ G n q/\hF h ag ap b J (l2 aZ G n).1):=by
 have al:=aX.len;have bc:=aX.fits;rw[iX]at al;refine QH (qj:=λq J=>Lf aZ G n q/\hF h ag ap b J (l2 aZ G n).1) aeV rfl λcH jk h6=>?_;unfold Si;simp only[ay,aD,aO,ax,aj,al,bc];refine ru (λi V J=>∃gw v4 da g' cU bS,V=[.ptr m 0 0,.int o bS,.int o 0,gw,v4,da,dU,.int o aZ.length,.int o (i:Nat),g']/\cU.cz/\gO h ag ap b J cU [] []/\l2 (aZ.drop i) cU bS=l2 aZ G n) aZ.length ⟨_,_,_,_,G,n,rfl,dl,gO.start g,rfl⟩ ?_ ?_
 ·rintro i V J aa ⟨gw,v4,da,g',cU,bS,rfl,oW,ba,he⟩ next
  have bh:(i:Int)<(aZ.length:Int):=by omega
  have hw:=ht (n:=(i:Int)+1) (by omega) (by omega);obtain⟨k,nn⟩:∃k,aZ[i]? =j k:=⟨_,fz aa⟩;have dJ:=aX.b8 o i [.int o k] (by simp[nn]);have a6:aZ.drop i=k::aZ.drop (i+1):=by obtain⟨eb,rfl⟩:=gg.1 nn;exact List.drop_eq_getElem_cons eb
  have q3:J.cell m=j [[.ptr b 0 0,dU]]:=(ba.eX hm cR).trans aj;obtain⟨O,aq,tD, -, -, -⟩:=ba.call λag ap g=>Th g oW bS 15 k;rw[a6,ag1]at he;by_cases aN:(cU.derive bS 15 k).2.2=0
  ·rw[if_neg (by simp[aN])]at he;have sB:=λh=>agZ (h:=h) 0;rw[aN]at aq;rw[dP Fv.eq_1];simp only[ay,aD,aO,ax,cF,bh,dJ,q3,aq,sB,hw];exact next _ _ ⟨_,_,_,_,_,_,rfl,oW.derive _ _ _,tD,he⟩
  ·rw[if_pos aN]at he;have sB:=λh=>agY (h:=h) (cU.derive bS 15 k).2.2;rw[dP Fv.eq_1];simp only[ay,aD,aO,ax,cF,bh,dJ,q3,aq,aN,sB];refine h6 _ _ _ ⟨.inr ?_,?_⟩
   ·rw[<-he];exact⟨aN,rfl⟩
   ·rw[<-he];exact tD.wm
 ·rintro V J ⟨gw,v4,da,g',cU,bS,rfl,oW,ba,he⟩;have bh:¬(aZ.length:Int)<(aZ.length:Int):=by omega
  rw[List.drop_length]at he;rw[dP Fv.eq_1];simp only[ay,aD,aO,ax,cF,bh];refine jk _ _ _ rfl ⟨.inl ?_,?_⟩
  ·rw[<-he];exact⟨rfl,rfl⟩
  ·rw[<-he];exact ba.wm
theorem ag3{G:aC}(dl:G.cz)(l:List Int):∀(i:Nat) (n:Int),l[i]? =j n->(l.drop i).any (λn=> !iV (G.et n) 2)=(!iV (G.et n) 2||(l.drop (i+1)).any λn=> !iV (G.et n) 2):=by intro i n au;obtain⟨aa,rfl⟩:=gg.1 au;rw[List.drop_eq_getElem_cons aa,List.any_cons]
theorem Tp{x:ak}(h:x.code=0):x.size<=40:=by
 unfold ak.code at h;split at h
 ·cases h
 ·omega
theorem ag4(g:fO h ag ap b G)(dl:G.cz){x:ak}{r:List I}(an:b1 x r):a3 ar W 120 [.ptr b 0 0,.agg r] h=j (.inl (.int o (sc G x)),h):=by
 obtain⟨bG,bD⟩:=an.one;have ao:=λh=>FC (h:=h) an;unfold sc;by_cases aj:x.code=0
 ·have av:=Tp aj;have aq:=λh=>afg _ x (bV _) (by omega) r h an;rw[if_neg (by simp[aj])];cases fr:x.gate
  ·have bm:=λh=>afa _ x (bV _) (by omega) r h an;have Lg:=Ec 3 (jY x.ij);have al:=Lg.len;have bc:=Lg.fits;rw[iX]at al;have sw:=x.IY;simp only[fr]at aq;simp only[mI,if_false];refine pC KK rfl λcH cY=>?_;unfold FA;simp only[ay,aD,aO,ax,bG,bD,kQ bD,ao,aj,aq,bm,al,bc];refine ru (λi V J=>∃da v11 fG,V=[.ptr b 0 0,.agg r,.ptr h.n 0 0,.int o 0,.int o 0,da,.bool T,.bool T,jM 3 (jY x.ij),.int o x.ij.length,.int o (i:Nat),v11,fG]/\aK h J/\(x.ij.drop i).any (λn=> !iV (G.et n) 2)=x.ij.any λn=> !iV (G.et n) 2) x.ij.length ⟨_,_,_,rfl,(by repeat (first|exact aK.refl _|refine aK.trans ?_ (aK.push _ _)|refine aK.trans ?_ (aK.fresh _ _))),rfl⟩ ?_ ?_
   ·rintro i V J aa ⟨da,v11,fG,rfl,sF,he⟩ next
    have bh:(i:Int)<(x.ij.length:Int):=by omega
    have hw:=ht (n:=(i:Int)+1) (by omega) (by omega);obtain⟨n,au⟩:∃n,x.ij[i]? =j n:=⟨_,fz aa⟩;have dJ:=Lg.b8 o i [.int o n] (by simp[au]);have ck:=QB (g.iZ sF) dl n;have eB:=λh=>ag0 (h:=h) G dl n;rw[ag3 dl _ _ _ au]at he;cases ai:iV (G.et n) 2
    ·rw[ai]at he;simp only[ai]at eB;rw[dP Fz.eq_1];simp only[ay,aD,aO,ax,cF,bh,dJ,ck,eB];refine cY _ _ _ rfl sF ?_;rw[<-he];rfl
    ·rw[ai]at he;simp only[ai]at eB;rw[dP Fz.eq_1];simp only[ay,aD,aO,ax,cF,bh,dJ,ck,eB,hw];exact next _ _ ⟨_,_,_,rfl,sF,he⟩
   ·rintro V J ⟨da,v11,fG,rfl,sF,he⟩;have bh:¬(x.ij.length:Int)<(x.ij.length:Int):=by omega
    rw[List.drop_length]at he;rw[dP Fz.eq_1];simp only[ay,aD,aO,ax,cF,bh];refine cY _ _ _ rfl sF ?_;rw[<-he];rfl
  ·simp only[fr]at aq;simp only[if_true];refine pC KK rfl λcH cY=>?_;unfold FA;simp only[ay,aD,aO,ax,bG,bD,kQ bD,ao,aj,aq];exact cY _ _ _ rfl (by repeat (first|exact aK.refl _|refine aK.trans ?_ (aK.push _ _)|refine aK.trans ?_ (aK.fresh _ _))) rfl
 ·rw[if_pos aj];refine pC KK rfl λcH cY=>?_;unfold FA;simp only[ay,aD,aO,ax,bG,bD,kQ bD,ao,aj];exact cY _ _ _ rfl (by repeat (first|exact aK.refl _|refine aK.trans ?_ (aK.push _ _)|refine aK.trans ?_ (aK.fresh _ _))) rfl
end
section
variable{h:ad}{ag ap:Nat->Prop}{b:Nat}{G:aC}
def Cc(aZ:List Int)(G:aC)(x:ak)(q:I⊕I):Prop:=((d9 aZ x G).2.2=0/\∃bM,q= .inl (.agg bM)/\b1 (d9 aZ x G).2.1 bM)\/((d9 aZ x G).2.2≠0/\q= .inr (.iface uX (.int o (d9 aZ x G).2.2)))
theorem ag5(aZ:List Int)(x:ak)(l:List ak)(G:aC):gX aZ (x::l) G=if(d9 aZ x G).2.2≠0 then((d9 aZ x G).1,[],(d9 aZ x G).2.2) else((gX aZ l (d9 aZ x G).1).1,(d9 aZ x G).2.1::(gX aZ l (d9 aZ x G).1).2.1,(gX aZ l (d9 aZ x G).1).2.2):=rfl
theorem ag6{l:List ak}{i:Nat}{y:ak}(h:l[i]? =j y):l.drop i=y::l.drop (i+1):=by obtain⟨aa,rfl⟩:=gg.1 h;exact List.drop_eq_getElem_cons aa
theorem ag7{m:Nat}{dU:I}{aZ:List Int}(aX:oM 3 dU (jY aZ))(Z:aZ.length<=1000000):∀(N:Nat) (x:ak),lB x<=N->x.size<=100000->∀(r:List I) (h:ad) (ag ap:Nat->Prop) (G:aC),fO h ag ap b G->G.cz->m<h.n->¬ag m->h.cell m=j [[.ptr b 0 0,dU]]->b1 x r->∃q J,a3 ar W 122 [.ptr m 0 0,.agg r] h=j (q,J)/\(Cc aZ G x q/\hF h ag ap b J (d9 aZ x G).1):=by
 intro N;induction N with
 |zero=>intro x an;have:=x.n';omega
 |succ N aW=>
   intro x an ey r h ag ap G g dl hm cR aj he;obtain⟨v,es,rfl,gc,R,au,gt⟩:=he.facts;have hlen:=x.r';have ki:=Pj aZ x G;have rest:∀(cH:kD->Prop) (F:ad) (qt:aC) (ek:Int) (ch:List Nat) (v6:I),qt.cz->gO h ag ap b F qt [h.n+1+1,h.n+1,h.n] ch->F.cell h.n=j [[.int o x.kind,.int o x.n,v]]->F.cell (h.n+1)=j [[.int o 0,.int o 0,.aF]]->F.cell (h.n+1+1)=j [[.int o x.kind,.int o ek,.aF]]->(∀V J v,(ie V J [.cell Q 3 3]).map iH=j v->(gX aZ x.l qt).2.2=0->(∃bM,v= .agg bM/\b1 (.mk x.kind ek (gX aZ x.l qt).2.1) bM)->hF h ag ap b J (gX aZ x.l qt).1->cH (j (.ret,V,J)))->(∀V J,(gX aZ x.l qt).2.2≠0->hF h ag ap b J (gX aZ x.l qt).1->cH (j (.panic (.iface uX (.int o (gX aZ x.l qt).2.2)),V,J)))->cH (bo (a3 ar W) 11 (.fI BX::.bO []::.cb 0::[.bO [.ops [qm,zx],.ret]]) [.ptr m 0 0,.agg [.int o x.kind,.int o x.n,v],.ptr h.n 0 0,.ptr (h.n+1) 0 0,.ptr (h.n+1+1) 0 0,.aP,v6,v,.int o es.length,.int o 0,.aP] [] F):=by
    intro cH F qt ek ch v6 ag8 Lh d1 d2 d3 jk h6;refine ru (λi V J=>∃da v10 acc rows C ch cU dZ,V=[.ptr m 0 0,.agg [.int o x.kind,.int o x.n,v],.ptr h.n 0 0,.ptr (h.n+1) 0 0,.ptr (h.n+1+1) 0 0,da,v6,v,.int o es.length,.int o (i:Nat),v10]/\cU.cz/\(gO h ag ap b J cU C ch/\h.n+1+1∈C/\h.n+1∈C/\h.n∈C)/\J.cell (h.n+1)=j [[.int o 0,.int o 0,.aF]]/\J.cell (h.n+1+1)=j [[.int o x.kind,.int o ek,acc]]/\sE cg ch J acc rows/\eF dZ rows/\rows.length=i/\gX aZ x.l qt=((gX aZ (x.l.drop i) cU).1,dZ++(gX aZ (x.l.drop i) cU).2.1,(gX aZ (x.l.drop i) cU).2.2)) x.l.length ⟨_,_,_,[],_,ch,qt,[],rfl,ag8,⟨Lh,by simp,by simp,by simp⟩,d2,d3,.inl ⟨rfl,rfl⟩,rfl,rfl,rfl⟩ ?_ ?_
    ·rintro i V J aa ⟨da,v10,acc,rows,C,ch,cU,dZ,rfl,oW,⟨ba,c8,cu,je⟩,bZ,b',aM,ah,Li,aG⟩ next
     have bh:(i:Int)<(es.length:Int):=by rw[au];omega
     obtain⟨y,bF⟩:=uS aa;obtain⟨q,dJ,fX,b2⟩:=gt i y bF;obtain⟨bG,bD⟩:=b2.one;have hw:=ht (n:=(i:Int)+1) (by omega) (by omega);have Tq:=ba.push [q];have q3:(J.push [q]).cell m=j [[.ptr b 0 0,dU]]:=(Tq.eX hm cR).trans aj;have gJ:(J.push [q]).cell (h.n+1)=j [[.int o 0,.int o 0,.aF]]:=(bi (ba.lt cu)).trans bZ;have jy:(J.push [q]).cell (h.n+1+1)=j [[.int o x.kind,.int o ek,acc]]:=(bi (ba.lt c8)).trans b';have Lj:sE cg ch (J.push [q]) acc rows:=aM;obtain⟨O,⟨bL,aq,bQ⟩,tD,dc,dr,g6⟩:=Tq.F5 (dG:=λO=>∃bL,a3 ar W 122 [.ptr m 0 0,.agg q] (J.push [q])=j (bL,O)/\Cc aZ cU y bL) (cU:=(d9 aZ y cU).1) λdQ dT cr Cb _=>by obtain⟨bL,O,aq,bQ,d2⟩:=aW y (by have:=ak.oN (qq bF);omega) (by have:=ak.sb (qq bF);omega) q (J.push [q]) dQ dT cU cr oW (by have:=ba.n;simp only[fo];omega) (Cb m hm cR) q3 b2;exact⟨O,⟨bL,aq,bQ⟩,d2⟩
     rw[ag6 bF,ag5]at aG;have f2:O.cell (h.n+1)=j [[.int o 0,.int o 0,.aF]]:=(dc _ (by simp[cu])).trans gJ;have f3:O.cell (h.n+1+1)=j [[.int o x.kind,.int o ek,acc]]:=(dc _ (by simp[c8])).trans jy;rcases bQ with⟨aN,bM,rfl,ds⟩|⟨aN,rfl⟩
     ·rw[if_neg (by simp[aN])]at aG;obtain⟨dE,fl⟩:=ds.one;obtain⟨pE,af,ag9,bm,aJ,Cd,bf,cv⟩:=agW (e:=cg) tD (Lj.fH g6) (row:=bM) dE (by rw[Li];omega);obtain⟨kj,jr⟩:=aJ.cell;rw[dP BX.eq_1];simp only[ay,aD,aO,ax,cF,bh,dJ,fX,bG,bD,jy,aq,f3,dE,fl,bm,bf,kj,jr,hw];refine next _ _ ⟨_,_,_,_,_,ag9,_,dZ++[(d9 aZ y cU).2.1],rfl,Ei aZ y cU oW,⟨Cd.set (by simp[c8]) _,by simp[c8],by simp[cu],by simp[je]⟩,?_,lz,aJ.fH λ_ _=>rfl,ah.append ds,by simp[Li],?_⟩
      ·rw[gB (by omega),bf];exact f2
      ·rw[aG];simp
     ·rw[if_pos aN]at aG;rw[dP BX.eq_1];simp only[ay,aD,aO,ax,cF,bh,dJ,fX,bG,bD,jy,aq];have bN:(gX aZ x.l qt).2.2=(d9 aZ y cU).2.2:=by rw[aG]
      have bL:(gX aZ x.l qt).1=(d9 aZ y cU).1:=by rw[aG]
      rw[<-bN]at aN ⊢;exact h6 _ _ aN (by rw[bL];exact tD.wm)
    ·rintro V J ⟨da,v10,acc,rows,C,ch,cU,dZ,rfl,oW,⟨ba,c8,cu,je⟩,bZ,b',aM,ah,Li,aG⟩;have bh:¬((x.l.length:Int)<(es.length:Int)):=by rw[au];omega
     rw[List.drop_length]at aG;simp only[gX,q9]at aG;obtain⟨kj,jr⟩:=aM.cell;rw[dP BX.eq_1];simp only[ay,aD,aO,ax,cF,bh,b',bZ,kj];refine jk _ _ (.agg [.int o x.kind,.int o ek,acc]) (by simp only[ay,gT,gK,hj,c7,rB,List.getD_cons_succ]) ?_ ⟨_,rfl,?_⟩ ?_
     ·rw[aG]
     ·rw[aG];exact b1.mk (x:=.mk x.kind ek dZ) aM.BB ah
     ·rw[aG];exact(ba.set cu _).wm
   have lC:=((gO.start g).push [[.int o x.kind,.int o x.n,v]]).push [[.int o 0,.int o 0,.aF]];have c8:=lC.push [[.int o x.kind,.int o x.n,.aF]];have kU:(((h.push [[.int o x.kind,.int o x.n,v]]).push [[.int o 0,.int o 0,.aF]]).push [[.int o x.kind,.int o x.n,.aF]]).cell m=j [[.ptr b 0 0,dU]]:=(c8.eX hm cR).trans aj;refine QH (qj:=λq J=>Cc aZ G x q/\hF h ag ap b J (d9 aZ x G).1) aeW rfl λcH jk h6=>?_;unfold Sk;by_cases aw:x.kind=4
   ·have bP:jm aZ G x.kind x.n=l2 aZ G x.n:=by rw[jm,if_pos aw]
    rw[bP]at ki;rw[aw]at c8 kU rest;obtain⟨O,⟨bL,aq,bQ⟩,tD,dc,dr,g6⟩:=c8.F5 (dG:=λO=>∃bL,a3 ar W 134 [.ptr m 0 0,.int o x.n] _=j (bL,O)/\Lf aZ G x.n bL) (cU:=(l2 aZ G x.n).1) λdQ dT cr Cb _=>by obtain⟨bL,O,aq,bQ,d2⟩:=ag2 cr dl (by simp only[fo];omega) (Cb m hm cR) kU aX Z x.n;exact⟨O,⟨bL,aq,bQ⟩,d2⟩
    have f1:O.cell h.n=j [[.int o 4,.int o x.n,v]]:=(dc _ (by simp[fo])).trans th;have f2:O.cell (h.n+1)=j [[.int o 0,.int o 0,.aF]]:=(dc _ (by simp[fo])).trans xk;have f3:O.cell (h.n+1+1)=j [[.int o 4,.int o x.n,.aF]]:=(dc _ (by simp[fo])).trans vO;rw[aw]at ki;rcases bQ with⟨aN,rfl⟩|⟨aN,rfl⟩
    ·rw[if_neg (by simp[aN])]at ki;simp only[ay,aD,aO,ax,dI,R,aw,aq,f1,f3,gB (show h.n≠h.n+1+1 by omega),gc.len,gc.fits];refine rest cH _ (l2 aZ G x.n).1 (l2 aZ G x.n).2.1 _ _ (Pk aZ G x.n dl) (tD.set (by simp[fo]) _) ?_ ?_ lz (λV J bu e qs ah a6=>?_) (λV J qs a6=>?_)
     ·rw[gB (by omega)];exact f1
     ·rw[gB (by omega)];exact f2
     ·obtain⟨bM,rfl,ah⟩:=ah;rw[if_neg (by simp[qs])]at ki;refine jk _ _ _ e ⟨.inl ⟨by rw[ki],bM,rfl,by rw[ki];exact ah⟩,by rw[ki];exact a6⟩
     ·rw[if_pos qs]at ki;refine h6 _ _ _ ⟨.inr ⟨by rw[ki];exact qs,by rw[ki]⟩,by rw[ki];exact a6⟩
    ·rw[if_pos aN]at ki;simp only[ay,aD,aO,ax,dI,R,aw,aq];refine h6 _ _ _ ⟨.inr ⟨by rw[ki];exact aN,by rw[ki]⟩,by rw[ki];exact tD.wm⟩
   ·have bP:jm aZ G x.kind x.n=(G,x.n,0):=by rw[jm,if_neg aw]
    rw[bP]at ki;rw[if_neg (by simp)]at ki;simp only[ay,aD,aO,ax,dI,R,aw,gc.len,gc.fits];refine rest cH _ G x.n _ _ dl c8 th xk vO (λV J bu e qs ah a6=>?_) (λV J qs a6=>?_)
    ·obtain⟨bM,rfl,ah⟩:=ah;rw[if_neg (by simp[qs])]at ki;refine jk _ _ _ e ⟨.inl ⟨by rw[ki],bM,rfl,by rw[ki];exact ah⟩,by rw[ki];exact a6⟩
    ·rw[if_pos qs]at ki;refine h6 _ _ _ ⟨.inr ⟨by rw[ki];exact qs,by rw[ki]⟩,by rw[ki];exact a6⟩
theorem pG:b1 bE [.int o 0,.int o 0,.aF]:=by simp only[bE,b1];exact⟨_,[],rfl,.inl ⟨rfl,rfl⟩,rfl⟩
end
def xX(a' az a5:Nat)(left:Int):cd:=a9 a' [[.ptr az 0 0,.bd a5 0 0 eM,.int o left]]
section
variable{h J ae:ad}{ag ap aH aA:Nat->Prop}{L:List cd}{a' az a5:Nat}{left:Int}{below:List hH}{top:hH}
theorem Lk:∀{rs:List (List I)} {cP:List hH} {r:List I} {f:hH} {h:ad} {ag ap:Nat->Prop},rs.length=cP.length->((ql (rs++[r]) (cP++[f])).A h ag ap↔(hv (xG r f) (ql rs cP)).A h ag ap)
 |[],[],r,f,h,ag,ap,_=>mY
 |q::rs,g::cP,r,f,h,ag,ap,al=>by
   have aW:∀{h:ad} {ag ap:Nat->Prop},(ql (rs++[r]) (cP++[f])).A h ag ap↔(hv (xG r f) (ql rs cP)).A h ag ap:=Lk (by simpa using al);constructor
   ·intro x;exact By (tu (λ_ _ _ y=>y) (λ_ _ _ y=>aW.1 y) x)
   ·intro x;exact tu (λ_ _ _ y=>y) (λ_ _ _ y=>aW.2 y) (By x)
 |[],_::_,_,_,_,_,_,al=>by simp at al
 |_::_,[],_,_,_,_,_,al=>by simp at al
structure Ll(h:ad)(a' az a5:Nat)(left:Int)(below:List hH)(top:hH)(a:List I)(dv aI g:I):Prop where
 m:h.cell a'=j [[.ptr az 0 0,.bd a5 0 (below.length+1) eM,.int o left]]
 ano:a'<h.n
 rd:∀(n D:Nat) (v:I),(fP top a dv aI g)[D]? =j v->c0 T n h (.ptr a5 below.length D)=j v
 arg:c0 Q 3 h (.ptr a5 below.length 3)=j (.agg a)
 all:c0 Q 10 h (.ptr a5 below.length 0)=j (.agg (fP top a dv aI g))
 aM:b1 top.arg a
 aX:fE 3 g (jY top.ec)
 dv:dv.one=Q/\dv.cells=[dv]/\h0 dv=j top.stack.length/\∀s,jL s (j cg) dv=Q
 aI:aI.one=Q/\aI.cells=[aI]/\h0 aI=j top.names.length/\(∀s,jL s (j cg) aI=Q)/\∀(q:jC) (i:Nat) (y:ak),top.names[i]? =j y->∃p r,ft (j cg) ab aI (.int q (i:Int))=j p/\c0 Q 3 h p=j (.agg r)/\b1 y r
 ag':a5<h.n
theorem nK(fq:aQ ae aH aA h L)(i:Nat)(aa:L[i]? =j (hV a' az a5 left below top)):∃a dv aI g,Ll h a' az a5 left below top a dv aI g:=by
 obtain⟨ag,ap,x⟩:=fq.get i aa;obtain⟨rs,ex,a,dv,aI,g,fU,aM,aX,s⟩:=xH x;have bN:=(s.cell 1 rfl).1;have hN:=m4 top a dv aI g aM.cZ.1;obtain⟨eQ,eR,b2⟩:=s.get 2 rfl;obtain⟨dQ,dT,ds⟩:=s.get 3 rfl;have bT:=xK b2;have bQ:=xK ds;refine⟨a,dv,aI,g,(s.cell 0 rfl).1,(s.cell 0 rfl).2,λn D v R=>B1 bN fU R,?_,?_,aM,aX,⟨bT.1,bT.2.1,bT.2.2.1,bT.2.2.2.1⟩,bQ,(s.cell 1 rfl).2⟩
 ·rw[hD,bN,c7,B0 fU,c7];unfold gG;rw[if_pos rfl,if_pos (by rw[hN.2.1];decide)]
  match a,aM.cZ.1 with
  |[x,y,z],_=>rfl
 ·rw[hD,bN,c7,B0 fU,c7];exact kQ hN.2.1
theorem Lm(fq:aQ ae aH aA h L)(i:Nat)(aa:L[i]? =j (hV a' az a5 left below top))(bs:Nat):∃J,ew 1 h (.ptr a5 below.length 2) (.int o (bs:Int))=j J/\aQ ae aH aA J (L.set i (hV a' az a5 left below {top with bs:=bs})):=by refine fq.call (dG:=λJ=>ew 1 h (.ptr a5 below.length 2) (.int o (bs:Int))=j J) i aa λag ap x=>?_;obtain⟨rs,ex,a,dv,aI,g,fU,aM,aX,s⟩:=xH x;have hN:=m4 top a dv aI g aM.cZ.1;have ah:(fP top a dv aI g).set 2 (.int o (bs:Int))=fP {top with bs:=bs} a dv aI g:=rfl;have a4:=s.set 1 rfl (rs++fP {top with bs:=bs} a dv aI g::ex);exact⟨_,FE (s.cell 1 rfl).1 fU rfl rfl (by rw[hN.2.1];decide) ah,zv (top:={top with bs:=bs}) aM aX a4⟩
theorem aha(fq:aQ ae aH aA h L)(i:Nat)(aa:L[i]? =j (hV a' az a5 left below top))(l:Int):∃J,ew 1 h (.ptr a' 0 2) (.int o l)=j J/\aQ ae aH aA J (L.set i (hV a' az a5 l below top)):=by refine fq.call (dG:=λJ=>ew 1 h (.ptr a' 0 2) (.int o l)=j J) i aa λag ap x=>?_;obtain⟨rs,ex,a,dv,aI,g,fU,aM,aX,s⟩:=xH x;have a4:=s.set 0 rfl [[.ptr az 0 0,.bd a5 0 (below.length+1) eM,.int o l]];exact⟨_,lW (s.cell 0 rfl).1 rfl rfl rfl (by simp),zv aM aX a4⟩
theorem Tr(f:hH)(a:List I)(s n g bS:I)(kW:List ak)(aM:a.length=3):(fP f a s n g).set 7 bS=fP {f with names:=kW} a s bS g:=by
 match a,aM with
 |[x,y,z],_=>rfl
theorem ahb(fq:aQ ae aH aA h L)(i:Nat)(aa:L[i]? =j (hV a' az a5 left below top)){kW:List ak}{v:ak}(au:top.names=kW++[v]){a:List I}{dv aI g:I}(R:Ll h a' az a5 left below top a dv aI g):∃lM J,tV aI ab (j (.int o (kW.length:Int)))=j lM/\lM.one=Q/\lM.cells=[lM]/\ew 1 h (.ptr a5 below.length 7) lM=j J/\aQ ae aH aA J (L.set i (hV a' az a5 left below {top with names:=kW})):=by
 obtain⟨J,lM,⟨ao,aq,bm,ck⟩,dW⟩:=fq.zw (dG:=λJ lM=>tV aI ab (j (.int o (kW.length:Int)))=j lM/\lM.one=Q/\lM.cells=[lM]/\ew 1 h (.ptr a5 below.length 7) lM=j J) i aa (Y:=λ_=>hV a' az a5 left below {top with names:=kW}) λag ap x=>by
  obtain⟨rs,ex,dO,wo,lM,fa,fU,aM,aX,s⟩:=xH x;have hN:=m4 top dO wo lM fa aM.cZ.1;have wq:=B1 (n:=1) (s.cell 1 rfl).1 fU hN.2.2.1;have rC:=R.rd 1 7 aI (m4 top a dv aI g R.aM.cZ.1).2.2.1;rw[wq]at rC;injection rC with rC;subst rC;obtain⟨eQ,eR,b2⟩:=s.get 3 rfl;rw[au]at b2;obtain⟨b,ai⟩:=QY b2 (by simp);rw[eP,gp]at ai;subst ai;have a4:=s.set 1 rfl (rs++fP {top with names:=kW} dO wo (.bd b 0 kW.length cg) fa::ex);have bn:aQ h ag ap _ (BD a' az a5 left below {top with names:=kW} rs ex dO wo (.bd b 0 kW.length cg) fa):=a4.QZ 3 rfl λ_ _ _ x=>by rw[au]at x;exact QX x
  exact⟨_,.bd b 0 kW.length cg,⟨KP (by omega),rfl,rfl,FE (s.cell 1 rfl).1 fU rfl rfl (by rw[hN.2.1];decide) (Tr _ _ _ _ _ _ kW aM.cZ.1)⟩,zv (top:={top with names:=kW}) aM aX bn⟩
 exact⟨lM,J,ao,aq,bm,ck,dW⟩
theorem Ts{b n:Nat}{l:List ak}(x:(it (.bd b 0 n cg) l).A h ag ap){i:Nat}(aa:i<l.length){v:ak}{r:List I}(R:b1 v r):∃J,ew 3 h (.ptr b i 0) (.agg r)=j J/\gx h ag ap J (it (.bd b 0 n cg) (l.set i v)):=by
 obtain⟨rows,al,x⟩:=x;have hlen:=al.len;rcases x with⟨⟨_,e⟩,_⟩|⟨⟨e5,es⟩,⟨e,F,O⟩,aJ,a1,bf,cv⟩
 ·cases e
 ·injection e with ao _ aq _;simp only at ao F O aJ bf cv;subst ao;have ahc:i<rows.length:=by omega
  have Df:i<es.length:=by omega
  obtain⟨q,aG⟩:∃q,es[i]? =j q:=⟨_,fz Df⟩;have vQ:q.length=3:=by
   have bg:rows[i]? =j q:=by
    conv=>lhs;rw[O]
    rw[rW ahc];exact aG
   obtain⟨y,bF⟩:∃y,l[i]? =j y:=⟨_,fz aa⟩;obtain⟨bM,cj,cT⟩:=al.get bF;rw[bg]at cj;injection cj with cj;rw[cj];exact cT.cZ.1
  have bB:dt q 0 r=r:=by unfold dt;rw[List.take_zero,k5,List.drop_of_length_le (by have:=R.cZ.1;omega),q9]
  have K9:∀{l:List ak} {rows:List (List I)} {i:Nat},eF l rows->i<l.length->eF (l.set i v) (rows.set i r):=by
   intro l;induction l with
   |nil=>intro rows i _ aa;simp at aa
   |cons y l aW=>
     intro rows i al aa;obtain⟨gv,rs,rfl,bN,bL⟩:=al;cases i with
     |zero=>exact⟨r,rs,rfl,R,bL⟩
     |succ i=>exact⟨gv,rs.set i r,rfl,bN,aW bL (by simpa using aa)⟩
  refine⟨_,lW (es:=es) (e:=q) cv aG R.cZ.2 R.cZ.1 (by omega),ag,ap,⟨rows.set i r,K9 al aa,.inr ⟨⟨b,es.set i r⟩,⟨by simp only[kK,aq],by simpa using F,?_⟩,aJ,a1,bf,?_⟩⟩,⟨bV _,bV _,λk _ Z=>gB λe=>Z ((aJ k).2 e),λ_ _ _=>rfl⟩,λ_=>.inl,λ_=>.inl⟩
  ·simp only[kK];rw[List.take_set]
   conv=>lhs;rw[O]
  ·simp only[I.cells,bB];exact lz
theorem Tt{n b i off:Nat}{h J:ad}{r:List I}(av:ew n h (.ptr b i off) (.agg r)=j J):c0 Q n J (.ptr b i off)=j (.agg r):=by
 unfold ew at av;simp only[c']at av;obtain⟨es,O,e,af,aw⟩:=av;split at aw
 ·rename_i aj;injection aw with aw;subst aw;have aa:=(gg.1 af).1;have bZ:=aj.2.1;simp only[I.cells]at bZ;rw[hD,lz,c7,List.getElem?_set_self aa,c7];have al:=w' e r off (by omega);simp only[I.cells,gG,if_true];have:((dt e off r).drop off).take n=r:=by unfold dt;rw[kv,List.drop_left' (by simp;omega),List.take_left' bZ]
  rw[this];exact if_pos (by omega)
 ·cases aw
theorem ahd(fq:aQ ae aH aA h L)(i:Nat)(aa:L[i]? =j (hV a' az a5 left below top)){v:ak}{r:List I}(R:b1 v r)(al:top.names.length<=1000000){kT:Nat}(aN:h.cell kT=j [bt]){a:List I}{dv aI g:I}(ba:Ll h a' az a5 left below top a dv aI g):∃q F O af,fx Q cg aI (.bd kT 0 1 cg) h=j (.bd q 0 (top.names.length+1) cg,F)/\ew 3 F (.ptr q top.names.length 0) (.agg r)=j O/\ew 1 O (.ptr a5 below.length 7) (.bd q 0 (top.names.length+1) cg)=j af/\c0 Q 3 af (.ptr q top.names.length 0)=j (.agg r)/\aQ ae aH aA af (L.set i (hV a' az a5 left below {top with names:=top.names++[v]})):=by
 have wY:b1 bE bt:=pG;obtain⟨af,⟨q,F,O⟩,⟨ao,aq,bm,ck⟩,dW⟩:=fq.zw (dG:=λaf (q:Nat×ad×ad)=>fx Q cg aI (.bd kT 0 1 cg) h=j (.bd q.1 0 (top.names.length+1) cg,q.2.1)/\ew 3 q.2.1 (.ptr q.1 top.names.length 0) (.agg r)=j q.2.2/\ew 1 q.2.2 (.ptr a5 below.length 7) (.bd q.1 0 (top.names.length+1) cg)=j af/\c0 Q 3 af (.ptr q.1 top.names.length 0)=j (.agg r)) i aa (Y:=λ_=>hV a' az a5 left below {top with names:=top.names++[v]}) λag ap x=>by
  obtain⟨rs,ex,dO,wo,lM,fa,fU,aM,aX,s⟩:=xH x;have hN:=m4 top dO wo lM fa aM.cZ.1;have wq:=B1 (n:=1) (s.cell 1 rfl).1 fU hN.2.2.1;have rC:=ba.rd 1 7 aI (m4 top a dv aI g ba.aM.cZ.1).2.2.1;rw[wq]at rC;injection rC with rC;subst rC;obtain⟨F,ao,a4⟩:=s.app 3 rfl aN wY al;obtain⟨O,aq,bn⟩:=a4.call (dG:=λO=>ew 3 F (.ptr h.n top.names.length 0) (.agg r)=j O) 3 rfl λag ap x=>Ts x (i:=top.names.length) (by simp) R;rw[show(top.names++[bE]).set top.names.length v=top.names++[v] from JW top.names [] bE v rfl]at bn;have st:=FE (v:=.bd h.n 0 (top.names.length+1) cg) (bn.cell 1 rfl).1 fU rfl rfl (by rw[hN.2.1];decide) (Tr _ _ _ _ _ _ (top.names++[v]) aM.cZ.1);have b0:=bn.set 1 rfl (rs++fP {top with names:=top.names++[v]} dO wo (.bd h.n 0 (top.names.length+1) cg) fa::ex);obtain⟨sn,so,gU⟩:=b0.get 3 rfl;obtain⟨p,bM,ed,gJ,jy⟩:=(xK gU).2.2.2.2 o top.names.length v (QI top.names [] v rfl);refine⟨_,(h.n,F,O),⟨ao,aq,st,?_⟩,zv (top:={top with names:=top.names++[v]}) aM aX b0⟩;obtain⟨v7,v8,gz⟩:=bn.get 3 rfl;have cO:a5≠h.n:=by have:=(s.cell 1 rfl).2;omega
  rw[hD,gB (kw cO),<-hD (agg:=Q) (n:=3)];exact Tt aq
 exact⟨q,F,O,af,ao,aq,bm,ck,dW⟩
theorem Ln(x:(hV a' az a5 left below top).A h ag ap):∃rs ex row,rs.length=below.length/\row.length=10/\row.all I.one=Q/\aQ h ag ap h [a9 a' [[.ptr az 0 0,.bd a5 0 (below.length+1) eM,.int o left]],a9 a5 (rs++row::ex),xG row top,ql rs below]:=by
 obtain⟨⟨rs,row,ex⟩,x⟩:=x;obtain⟨eQ,eR,dQ,dT,b2,⟨nE,nF,sn,so,fb,⟨v7,v8,xI,xJ,gz,i6,tw⟩,kG⟩,bQ⟩:=x;have ahe:=gz;obtain⟨⟨a,s,n,g⟩,⟨e,aM,aX⟩,y⟩:=ahe;simp only at e;have hN:=m4 top a s n g aM.cZ.1;obtain⟨_,_,_,_,fT,jf,_⟩:=y;have kR:g.one=Q:=by have aX:fE _ g _:=aX;rcases aX with⟨_,rfl⟩|⟨id,rfl⟩<;>rfl
 refine⟨rs,ex,row,J7 i6,by rw[e];exact hN.2.1,by rw[e];exact FD aM.cZ (xK fT).1 (xK jf).1 kR,aQ.start ?_⟩;exact⟨eQ,eR,dQ,dT,b2,⟨nE,nF,sn,so,fb,⟨v7,v8,xI,xJ,gz,c4.one i6,tw⟩,kG⟩,bQ⟩
theorem Tu{row:List I}(s:aQ ae aH aA h [a9 a' [[.ptr az 0 0,.bd a5 0 (below.length+1) eM,.int o left]],a9 a5 (rs++row::ex),xG row top,ql rs below]):gx ae aH aA h (hV a' az a5 left below top):=gx.imp (λ_ _ _ x=>by obtain⟨eQ,eR,dQ,dT,b2,⟨nE,nF,sn,so,fb,⟨v7,v8,xI,xJ,gz,i6,tw⟩,kG⟩,bQ⟩:=x;exact⟨⟨rs,row,ex⟩,eQ,eR,dQ,dT,b2,⟨nE,nF,sn,so,fb,⟨v7,v8,xI,xJ,gz,c4.zu i6,tw⟩,kG⟩,bQ⟩) s
theorem Tv{f:hH}{a:List I}{g:I}(aM:b1 f.arg a)(aX:fE 3 g (jY f.ec))(av:f.stack=[])(au:f.names=[]):(xG (fP f a .aF .aF g) f).A h (λ_=>False) (λ_=>False):=by
 have e:∀(l:List ak),l=[]->(it .aF l).A h (λ_=>False) (λ_=>False):=λl al=>by subst al;exact⟨[],rfl,.inl ⟨⟨rfl,rfl⟩,λ_ h=>h,λ_ h=>h⟩⟩
 exact⟨⟨a,.aF,.aF,g⟩,⟨rfl,aM,aX⟩,λ_=>False,λ_=>False,λ_=>False,λ_=>False,e _ av,e _ au,λk=>by simp,λD=>by simp,λ_ h=>h.elim,λ_ h=>h.elim⟩
theorem aQ.front{X:cd}(s:aQ ae aH aA h L)(i:Nat)(aa:L[i]? =j X):aQ ae aH aA h (X::L.eraseIdx i):=s.imp λ_ _ _ x=>(c4.front aa).1 x
theorem ahf(fq:aQ ae aH aA h L)(i:Nat)(aa:L[i]? =j (hV a' az a5 left below top)){f:hH}{a:List I}{g:I}(aM:b1 f.arg a)(aX:fE 3 g (jY f.ec))(av:f.stack=[])(au:f.names=[])(ai:below.length<=1000){kT:Nat}(aN:h.cell kT=j [fP f a .aF .aF g]):∃F O,fx Q eM (.bd a5 0 (below.length+1) eM) (.bd kT 0 1 eM) h=j (.bd h.n 0 (below.length+2) eM,F)/\ew 1 F (.ptr a' 0 1) (.bd h.n 0 (below.length+2) eM)=j O/\aQ ae aH aA O (L.set i (hV a' az h.n left (below++[top]) f)):=by
 obtain⟨O,F,⟨ao,aq⟩,dW⟩:=fq.zw (dG:=λO F=>fx Q eM (.bd a5 0 (below.length+1) eM) (.bd kT 0 1 eM) h=j (.bd h.n 0 (below.length+2) eM,F)/\ew 1 F (.ptr a' 0 1) (.bd h.n 0 (below.length+2) eM)=j O) i aa (Y:=λ_=>hV a' az h.n left (below++[top]) f) λag ap x=>by
  obtain⟨rs,ex,row,fU,Tw,am,s⟩:=Ln x;have a8:=(s.cell 1 rfl).1;have hN:=m4 f a .aF .aF g aM.cZ.1;have kR:g.one=Q:=by rcases aX with⟨_,rfl⟩|⟨id,rfl⟩<;>rfl
  have rV:([fP f a .aF .aF g].all λx=>x.all I.one)=Q:=by simp only[List.all_cons,List.all_nil,r9];exact FD aM.cZ rfl rfl kR
  have F3:(rs++row::ex).take (below.length+1)=rs++[row]:=by rw[<-fU,List.take_append];simp[List.take_of_length_le (Nat.le_succ rs.length)]
  have Lj:fx Q eM (.bd a5 0 (below.length+1) eM) (.bd kT 0 1 eM) h=j (.bd h.n 0 (below.length+2) eM,(h.set a5 ab).push (rs++[row]++[fP f a .aF .aF g])):=by
   have he:iO h eM (.bd kT 0 1 eM)=j [fP f a .aF .aF g]:=by simp[iO,aN]
   simp only[fx,he,c7,gp];rw[if_neg (by decide)];simp only[kr,a8,c7];rw[if_pos ⟨by simp,by simp,rV⟩,if_pos ⟨trivial,trivial,by omega⟩,if_pos (by simp;omega),F3];rfl
  have a4:=s.del 1 rfl;have bn:=a4.push (rs++[row]++[fP f a .aF .aF g]);have mL:(h.set a5 ab).n=h.n:=rfl;have st:ew 1 ((h.set a5 ab).push (rs++[row]++[fP f a .aF .aF g])) (.ptr a' 0 1) (.bd h.n 0 (below.length+2) eM)=j (((h.set a5 ab).push (rs++[row]++[fP f a .aF .aF g])).set a' (j [[.ptr az 0 0,.bd h.n 0 (below.length+2) eM,.int o left]])):=lW (n:=1) (i:=0) (x:=.bd h.n 0 (below.length+2) eM) (off:=1) (e:=[.ptr az 0 0,.bd a5 0 (below.length+1) eM,.int o left]) (bn.cell 1 rfl).1 rfl rfl rfl (by simp);have b0:=bn.set 1 rfl [[.ptr az 0 0,.bd h.n 0 (below.length+2) eM,.int o left]];refine⟨_,_,⟨Lj,st⟩,Tu (rs:=rs++[row]) (ex:=[]) (row:=fP f a .aF .aF g) ?_⟩;rw[eP,gp];have cc:=(b0.front 2 rfl).drop;have cE:aQ _ _ _ _ [ql (rs++[row]) (below++[top]),a9 h.n (rs++[row]++[fP f a .aF .aF g]),a9 a' [[.ptr az 0 0,.bd h.n 0 (below.length+2) eM,.int o left]]]:=(((cc.front 2 rfl).front 3 rfl).front 1 rfl).imp λ_ _ _ x=>by have y:=c4.QW x;exact tu (λ_ _ _ z=>(Lk fU).2 z) (λ_ _ _ z=>z) y
  have ee:=cE.add (aK.refl _) (Tv aM aX av au) (λ_ h=>h.elim) (λ_ h=>h.elim);have jS:=(((ee.front 1 rfl).front 1 rfl).front 2 rfl).front 3 rfl;exact jS
 exact⟨F,O,ao,aq,dW⟩
theorem ahg(fq:aQ ae aH aA h L)(i:Nat){t:hH}(aa:L[i]? =j (hV a' az a5 left (below++[t]) top)):∃J,ew 1 h (.ptr a' 0 1) (.bd a5 0 (below.length+1) eM)=j J/\aQ ae aH aA J (L.set i (hV a' az a5 left below t)):=by
 refine fq.call (dG:=λJ=>ew 1 h (.ptr a' 0 1) (.bd a5 0 (below.length+1) eM)=j J) i aa λag ap x=>?_;obtain⟨rs,ex,row,fU,Tw,am,s⟩:=Ln x;rw[eP,gp]at fU;obtain⟨tf,q,rfl⟩:∃tf q,rs=tf++[q]:=by refine⟨rs.dropLast,rs.getLast (λe=>by rw[e]at fU;simp at fU),(List.dropLast_concat_getLast _).symm⟩
 have ahh:tf.length=below.length:=by simpa using fU
 have st:ew 1 h (.ptr a' 0 1) (.bd a5 0 (below.length+1) eM)=j (h.set a' (j [[.ptr az 0 0,.bd a5 0 (below.length+1) eM,.int o left]])):=lW (n:=1) (i:=0) (x:=.bd a5 0 (below.length+1) eM) (off:=1) (e:=[.ptr az 0 0,.bd a5 0 ((below++[t]).length+1) eM,.int o left]) (s.cell 0 rfl).1 rfl rfl rfl (by simp);have a4:=s.set 0 rfl [[.ptr az 0 0,.bd a5 0 (below.length+1) eM,.int o left]];have bn:=(a4.front 2 rfl).drop;have b0:=(bn.front 2 rfl).imp λ_ _ _ x=>c4.QV (tu (λ_ _ _ z=>(Lk ahh).1 z) (λ_ _ _ z=>z) x);have cc:=(((b0.front 1 rfl).front 1 rfl).front 3 rfl).front 3 rfl;exact⟨_,st,Tu (rs:=tf) (ex:=row::ex) (row:=q) (by simpa using cc)⟩
theorem ahi(fq:aQ ae aH aA h L)(i:Nat)(aa:L[i]? =j (hV a' az a5 left [] top)):∃J,ew 1 h (.ptr a' 0 1) (.bd a5 0 0 eM)=j J/\aQ ae aH aA J (L.set i (xX a' az a5 left)):=by refine fq.call (dG:=λJ=>ew 1 h (.ptr a' 0 1) (.bd a5 0 0 eM)=j J) i aa λag ap x=>?_;obtain⟨rs,ex,row,fU,Tw,am,s⟩:=Ln x;have st:ew 1 h (.ptr a' 0 1) (.bd a5 0 0 eM)=j (h.set a' (j [[.ptr az 0 0,.bd a5 0 0 eM,.int o left]])):=lW (n:=1) (i:=0) (x:=.bd a5 0 0 eM) (off:=1) (e:=[.ptr az 0 0,.bd a5 0 1 eM,.int o left]) (s.cell 0 rfl).1 rfl rfl rfl (by simp);have a4:=s.set 0 rfl [[.ptr az 0 0,.bd a5 0 0 eM,.int o left]];have bn:=((a4.front 3 rfl).drop.front 2 rfl).drop;have b0:=(bn.front 1 rfl).drop;exact⟨_,st,gx.imp (λ_ _ _ x=>c4.zu x) b0⟩
end
end Go.Proofs.Ytkdbjfncchmmpaa
