/- The machine's methods: kinds and sizes; of capabilities: reading, writing, deriving, wrapping. -/
import Derived.Test.YtkdbjfncchmmpaaMg4
set_option linter.unusedSimpArgs false
set_option linter.unusedVariables false
set_option maxHeartbeats 4000000
set_option maxRecDepth 1000000
open Option renaming some→j,none→ab,bind_some→c7,map_some→hj,getD_some→pf
open List renaming replicate→ax,getElem?_eq_getElem→fz,getElem?_eq_some_iff→gg,length_append→eP,length_singleton→gp,getD→cK,length_cons→gT,length_nil→gK,getElem_mem→h2,all_eq_true→iR,length_map→iX,append_assoc→kv,getElem?_eq_none→lU,map_cons→jU,length_set→kK,nil_append→k5,getElem?_cons_zero→n4,cons_append→l0,length_eq_zero_iff→p4,mem_of_getElem?→p6,getD_cons_zero→rB,append_nil→q9,getElem?_set→sv,map_nil→qQ,getElem?_map→s6
open Go.IntKind renaming i64→o,wrap→jN
open Nat renaming reduceAdd→aD,reduceSub→aO,le_refl→bV,reduceLeDiff→dI,le_trans→ef,zero_add→hk,lt_or_ge→mc,add_assoc→oE,le_of_eq→pg
open Go.Proofs.Try renaming prog→ar
open Bool renaming false→T,true→Q,and_eq_true→gS,false_eq_true→mI,and_true→r9
open Go renaming TypeId→aT,Oper→a0,Value→bK,FuncId→cJ,World→cQ,undef→fg,Frame→fs,lone→ej,IntKind→jC,Code→ff
open Option.some renaming injEq→g5,inj→nW
open Int renaming reduceEq→eD,toNat_natCast→n9,natCast_zero→oU
open Prod.mk renaming injEq→jH
open Go.Frame renaming enter→i4
open SizeOf renaming sizeOf→lB
open Ne renaming symm→kw
open List.cons renaming injEq→uu
namespace Go.Proofs.Ytkdbjfncchmmpaa
open Go
variable{l:List ak}{v:ak}{r t V:List I}{D hW jT:Nat}{gl gm:bK}{code op fuel:Int}{dU:I}{aZ:List Int}
theorem ahj{x:BitVec 64}{k:Nat}(Z:k<64){r:Int}(ah:r=(BitVec.twoPow 64 k).toInt):za x.toInt r=iV x.toInt k:=by
 rw[ah,Ph,Qs x Z];cases ai:x.getLsbD k
 ·refine decide_eq_false λh=>?_;have:=congrArg (λv:BitVec 64=>v.getLsbD k) h;simp only[BitVec.getLsbD_and,ai,Bool.false_and,BitVec.getLsbD_twoPow]at this;simp[Z]at this
 ·refine decide_eq_true (BitVec.eq_of_getLsbD_eq λi aa=>?_);rw[BitVec.getLsbD_and,BitVec.getLsbD_twoPow];by_cases O:k=i
  ·subst O;simp[ai]
  ·simp[O]
section
variable{h J ae:ad}{ag ap aH aA:Nat->Prop}{L:List cd}{a' az a5 b6 ca:Nat}{left:Int}{below:List hH}{top:hH}{ms:dz}{kept:List ak}{G:aC}
theorem oj(c:Int):a3 ar W 82 [.bool Q,.int o c] h=j (.inr (.iface kS (.int o c)),h):=by refine bC Q2 rfl ?_;unfold J9;simp only[ay,aD,aO,ax,DY,To,Ae (aK.refl h) (rfl:dA (.iface kS (.int o c))=_)]
theorem m5(c:Int):a3 ar W 82 [.bool T,.int o c] h=j (.inl (.bW []),h):=by refine bC Q2 rfl ?_;unfold J9;simp only[ay,aD,aO,ax,fR (aK.refl h) (rfl:dA (.bW [])=_)]
theorem Lo(n:Int):a3 ar W 108 [.int o n] h=j (.inl (.agg [.int o 1,.int o n,.aF]),h):=by refine bC aed rfl ?_;unfold Q5;simp only[ay,aD,aO,ax,dI];exact fR (aK.push _ _) rfl
theorem Ce(n:Int):b1 (iC n) [.int o 1,.int o n,.aF]:=⟨.aF,[],rfl,.inl ⟨rfl,rfl⟩,rfl⟩
theorem F6(n:Int):b1 (jO n) [.int o 4,.int o n,.aF]:=⟨.aF,[],rfl,.inl ⟨rfl,rfl⟩,rfl⟩
theorem ahk(n:Int):b1 (.mk 5 n []) [.int o 5,.int o n,.aF]:=⟨.aF,[],rfl,.inl ⟨rfl,rfl⟩,rfl⟩
theorem Lp{k n:Int}{es:List (List I)}{id:Option Nat}(al:eF l es):b1 (.mk k n l) [.int o k,.int o n,.bR id cg es]:=⟨_,es,rfl,.inr ⟨id,rfl⟩,al⟩
theorem b1.o0(R:b1 v r):∃w,r=[.int o v.kind,.int o v.n,w]/\w.one=Q:=by
 cases v with
 |mk k n l=>obtain⟨w,es,rfl,F,_⟩:=R;exact⟨w,rfl,by rcases F with⟨_,rfl⟩|⟨id,rfl⟩<;>rfl⟩
theorem rD(R:b1 v r){k:Int}(Z:v.kind=k):∃bM,a3 ar W 84 [.agg r,.int o k] h=j (.inl (.agg bM),h)/\b1 v bM:=by
 obtain⟨bM,hw,fZ⟩:=BC R;obtain⟨w,rfl,am⟩:=R.o0;have uT:dA (.agg [.int o v.kind,.int o v.n,w])=j (.agg bM):=by simp only[dA,hw,hj]
 refine⟨bM,?_,fZ⟩;have d:decide (v.kind=k)=Q:=decide_eq_true Z;refine bC Q6 rfl ?_;unfold Kb;simp only[ay,aD,aO,ax,ct,d,m5,am];exact fR (by repeat (first|exact aK.refl _|refine aK.trans ?_ (aK.push _ _)|refine aK.trans ?_ (aK.fresh _ _))) uT
theorem rE(R:b1 v r){k:Int}(Z:v.kind≠k):a3 ar W 84 [.agg r,.int o k] h=j (.inr (.iface kS (.int o 2)),h):=by obtain⟨w,rfl,am⟩:=R.o0;have d:decide (v.kind=k)=T:=decide_eq_false Z;refine bC Q6 rfl ?_;unfold Kb;simp only[ay,aD,aO,ax,ct,d,oj,am];exact Ae (by repeat (first|exact aK.refl _|refine aK.trans ?_ (aK.push _ _)|refine aK.trans ?_ (aK.fresh _ _))) rfl
theorem Tx(R:b1 v r)(Z:v.code=0):∃bM,a3 ar W 109 [.agg r] h=j (.inl (.agg bM),h)/\b1 v bM:=by
 obtain⟨bM,hw,fZ⟩:=BC R;have uT:dA (.agg r)=j (.agg bM):=by simp only[dA,hw,hj]
 refine⟨bM,?_,fZ⟩;have d:decide (v.code=0)=Q:=decide_eq_true Z;have bX:=λh=>FC (h:=h) R;obtain⟨bG,bD⟩:=R.cZ;refine bC Q7 rfl ?_;unfold Kd;simp only[ay,aD,aO,ax,ct,d,m5,bX,bG,bD];exact fR (by repeat (first|exact aK.refl _|refine aK.trans ?_ (aK.push _ _)|refine aK.trans ?_ (aK.fresh _ _))) uT
theorem Ty(R:b1 v r)(Z:v.code≠0):a3 ar W 109 [.agg r] h=j (.inr (.iface kS (.int o 3)),h):=by have d:decide (v.code=0)=T:=decide_eq_false Z;have bX:=λh=>FC (h:=h) R;obtain⟨bG,bD⟩:=R.cZ;refine bC Q7 rfl ?_;unfold Kd;simp only[ay,aD,aO,ax,ct,d,oj,bX,bG,bD];exact Ae (by repeat (first|exact aK.refl _|refine aK.trans ?_ (aK.push _ _)|refine aK.trans ?_ (aK.fresh _ _))) rfl
theorem F7(s:aQ ae aH aA h L){xY:Nat}(aa:L[xY]? =j (gZ az b6 ca ms kept))(al:ms.length=kept.length):(∀n:Nat,c0 T n h (.ptr az 0 0)=j (.ptr b6 0 0))/\∀n:Nat,c0 T n h (.ptr az 0 1)=j (.ptr ca 0 0):=by
 obtain⟨ag,ap,x⟩:=s.get xY aa;obtain⟨row,a8,_,bZ,b',_⟩:=Ld x al;refine⟨λn=>?_,λn=>?_⟩
 ·rw[hD,a8,c7,n4,c7,pq,bZ]
 ·rw[hD,a8,c7,n4,c7,pq,b']
theorem ahl(dl:G.cz)(i:Int){k:Nat}{r:Int}(Z:k<64)(ah:r=(BitVec.twoPow 64 k).toInt):a3 ar W 132 [.int o (G.et i),.int o r] h=j (.inl (.bool (iV (G.et i) k)),h):=by
 obtain⟨x,an⟩:=So dl i;have e:za (G.et i) r=iV (G.et i) k:=by rw[an];exact ahj Z ah
 rw[<-e];refine bC Fd rfl ?_;unfold KH;simp only[ay,aD,aO,ax];rfl
abbrev ahm:cJ:=135
abbrev Tz:List I:=[.int o 0,.int o 0,.int o 0,.int o 0,.int o 0,.int o 0]
theorem Lq(s:aQ ae aH aA h L){TA xY TB:Nat}(hm:L[TA]? =j (hV a' az a5 left below top))(ai:L[xY]? =j (gZ az b6 ca ms kept))(aX:L[TB]? =j (hM b6 G))(al:ms.length=kept.length)(dl:G.cz)(R:b1 v r){k:Nat}{q:Int}(Z:k<64)(aG:q=(BitVec.twoPow 64 k).toInt):a3 ar W ahm [.ptr a' 0 0,.agg r,.int o q] h=j (if iV (G.et v.n) k=Q then .inl (.bW [.int o v.n,.agg (dS (G.target v.n).1)])else .inr (.iface kS (.int o 9)),h):=by
 obtain⟨w,rfl,am⟩:=R.o0;have a4:=(s.push [[.int o v.kind,.int o v.n,w]]).push [Tz];obtain⟨a,dv,aI,g,ba⟩:=nK a4 (TA+2) hm;have hC:∀n:Nat,c0 T n _ (.ptr a' 0 0)=j (.ptr az 0 0):=λn=>by rw[hD,ba.m,c7,n4,c7,pq];rfl
 have dh:=(F7 a4 (xY:=xY+2) ai al).1;obtain⟨ag,ap,ws⟩:=a4.get (TB+2) aX;have lL:=QB (ws:fO _ ag ap b6 G) dl v.n;have Br:=adA (ws:fO _ ag ap b6 G) dl v.n;have bP:=ahl (h:=(h.push [[.int o v.kind,.int o v.n,w]]).push [Tz]) dl v.n Z aG;have f0:cf 0 (.ptr a' 0 0)=j (.ptr a' 0 0):=rfl;have f1:cf 0 (.ptr az 0 0)=j (.ptr az 0 0):=rfl;cases TC:iV (G.et v.n) k with
 |false=>rw[TC]at bP;rw[if_neg (by decide)];refine bC Rb rfl ?_;unfold Kg;simp only[ay,aD,aO,ax,ct,am,f0,f1,hC,dh,lL,bP,oj];exact Ae (by repeat (first|exact aK.refl _|refine aK.trans ?_ (aK.push _ _)|refine aK.trans ?_ (aK.fresh _ _))) rfl
 |true=>rw[TC]at bP;rw[if_pos rfl];refine bC Rb rfl ?_;unfold Kg;simp only[ay,aD,aO,ax,ct,am,f0,f1,hC,dh,lL,bP,m5,Br,dS,bi];exact fR (aK.set (by repeat (first|exact aK.refl _|refine aK.trans ?_ (aK.push _ _)|refine aK.trans ?_ (aK.fresh _ _))) (by omega)) rfl
end
structure hf where
 (a' az b6 ca:Nat)
 ms:dz
structure eN where
 a5:Nat
 S:bp
 below:List hH
 top:hH
structure d'(c:hf)(L:List cd)(i:Nat)(n:eN):Prop where
 m:L[i]? =j (hV c.a' c.az n.a5 (n.S.left:Int) n.below n.top)
 b:L[i+1]? =j (gZ c.az c.b6 c.ca c.ms n.S.kept)
 g:L[i+2]? =j (hM c.b6 n.S.G)
 w:L[i+3]? =j (gY c.ca n.S.cells n.S.log)
def put(c:hf)(L:List cd)(i:Nat)(n:eN):List cd:=(((L.set i (hV c.a' c.az n.a5 (n.S.left:Int) n.below n.top)).set (i+1) (gZ c.az c.b6 c.ca c.ms n.S.kept)).set (i+2) (hM c.b6 n.S.G)).set (i+3) (gY c.ca n.S.cells n.S.log)
theorem rF{c:hf}{L:List cd}{i:Nat}{n:eN}:(put c L i n)[D]? =if D<L.length then(if D=i+3 then j (gY c.ca n.S.cells n.S.log)else if D=i+2 then j (hM c.b6 n.S.G)else if D=i+1 then j (gZ c.az c.b6 c.ca c.ms n.S.kept)else if D=i then j (hV c.a' c.az n.a5 (n.S.left:Int) n.below n.top)else L[D]?)else ab:=by
 unfold put;by_cases U:D<L.length
 ·rw[if_pos U];simp only[sv,kK];by_cases af:D=i+3
  ·subst af;simp[U]
  ·by_cases O:D=i+2
   ·subst O;simp[U]
   ·by_cases F:D=i+1
    ·subst F;simp[U]
    ·by_cases ae:D=i
     ·subst ae;simp[U]
     ·simp[ae,F,O,af,kw ae,kw F,kw O,kw af]
 ·rw[if_neg U,lU (by simpa using U)]
theorem d'.len{c:hf}{L:List cd}{i:Nat}{n:eN}(a:d' c L i n):i+3<L.length:=(gg.1 a.w).1
theorem d'.put{c:hf}{L:List cd}{i:Nat}{n:eN}(a:d' c L i n)(bS:eN):d' c (put c L i bS) i bS:=by
 have:=a.len;refine⟨?_,?_,?_,?_⟩<;>rw[rF]
 ·rw[if_pos (by omega),if_neg (by omega),if_neg (by omega),if_neg (by omega),if_pos rfl]
 ·rw[if_pos (by omega),if_neg (by omega),if_neg (by omega),if_pos rfl]
 ·rw[if_pos (by omega),if_neg (by omega),if_pos rfl]
 ·rw[if_pos (by omega),if_pos rfl]
theorem F8{c:hf}{L:List cd}{i:Nat}{n:eN}:(Go.Proofs.Ytkdbjfncchmmpaa.put c L i n).length=L.length:=by simp[Go.Proofs.Ytkdbjfncchmmpaa.put]
theorem xZ{L mn:List cd}(h:∀D:Nat,L[D]? =mn[D]?):L=mn:=List.ext_getElem? h
theorem gP{c:hf}{L:List cd}{i:Nat}{n bS:eN}:put c (put c L i n) i bS=put c L i bS:=by
 refine xZ λD=>?_;rw[rF,rF,F8,rF];by_cases U:D<L.length
 ·simp only[if_pos U]
  repeat' (first|rfl|split)
  all_goals first|rfl|omega
 ·simp only[if_neg U]
theorem d'.same{c:hf}{L:List cd}{i:Nat}{n:eN}(a:d' c L i n):Go.Proofs.Ytkdbjfncchmmpaa.put c L i n=L:=by
 have:=a.len;refine xZ λD=>?_;rw[rF];split
 ·split
  ·rename_i e;rw[e,a.w]
  ·split
   ·rename_i e;rw[e,a.g]
   ·split
    ·rename_i e;rw[e,a.b]
    ·split
     ·rename_i e;rw[e,a.m]
     ·rfl
 ·rename_i U;exact(lU (Nat.le_of_not_lt U)).symm
theorem d'.tE{c:hf}{L:List cd}{i:Nat}{n:eN}(a:d' c L i n)(gq:Nat)(l:Nat)(TD:List hH)(TE:hH):L.set i (hV c.a' c.az gq (l:Int) TD TE)=Go.Proofs.Ytkdbjfncchmmpaa.put c L i ⟨gq,{n.S with left:=l},TD,TE⟩:=by
 have:=a.len;refine xZ λD=>?_;rw[rF,sv];by_cases U:D<L.length
 ·rw[if_pos U];by_cases ae:i=D
  ·subst ae;simp[U]
  ·rw[if_neg ae,if_neg (kw ae:¬D=i)];split
   ·rename_i e;rw[e,a.w]
   ·split
    ·rename_i e;rw[e,a.g]
    ·split
     ·rename_i e;rw[e,a.b]
     ·rfl
 ·rw[if_neg U,if_neg (by omega)];exact lU (Nat.le_of_not_lt U)
theorem d'.ahn{c:hf}{L:List cd}{i:Nat}{n:eN}(a:d' c L i n)(k:List ak):L.set (i+1) (gZ c.az c.b6 c.ca c.ms k)=Go.Proofs.Ytkdbjfncchmmpaa.put c L i {n with S:={n.S with kept:=k}}:=by
 have:=a.len;refine xZ λD=>?_;rw[rF,sv];by_cases U:D<L.length
 ·rw[if_pos U];by_cases ae:i+1=D
  ·subst ae;simp[U]
  ·rw[if_neg ae,if_neg (kw ae:¬D=i+1)];split
   ·rename_i e;rw[e,a.w]
   ·split
    ·rename_i e;rw[e,a.g]
    ·split
     ·rename_i e;rw[e,a.m]
     ·rfl
 ·rw[if_neg U,if_neg (by omega)];exact lU (Nat.le_of_not_lt U)
theorem d'.aho{c:hf}{L:List cd}{i:Nat}{n:eN}(a:d' c L i n)(G:aC):L.set (i+2) (hM c.b6 G)=Go.Proofs.Ytkdbjfncchmmpaa.put c L i {n with S:={n.S with G:=G}}:=by
 have:=a.len;refine xZ λD=>?_;rw[rF,sv];by_cases U:D<L.length
 ·rw[if_pos U];by_cases ae:i+2=D
  ·subst ae;simp[U]
  ·rw[if_neg ae,if_neg (kw ae:¬D=i+2)];split
   ·rename_i e;rw[e,a.w]
   ·split
    ·rename_i e;rw[e,a.b]
    ·split
     ·rename_i e;rw[e,a.m]
     ·rfl
 ·rw[if_neg U,if_neg (by omega)];exact lU (Nat.le_of_not_lt U)
theorem d'.TF{c:hf}{L:List cd}{i:Nat}{n:eN}(a:d' c L i n)(cells:List Int)(log:List oP):L.set (i+3) (gY c.ca cells log)=Go.Proofs.Ytkdbjfncchmmpaa.put c L i {n with S:={n.S with cells:=cells,log:=log}}:=by
 have:=a.len;refine xZ λD=>?_;rw[rF,sv];by_cases U:D<L.length
 ·rw[if_pos U];by_cases ae:i+3=D
  ·subst ae;simp[U]
  ·rw[if_neg ae,if_neg (kw ae:¬D=i+3)];split
   ·rename_i e;rw[e,a.g]
   ·split
    ·rename_i e;rw[e,a.b]
    ·split
     ·rename_i e;rw[e,a.m]
     ·rfl
 ·rw[if_neg U,if_neg (by omega)];exact lU (Nat.le_of_not_lt U)
theorem d'.cons{c:hf}{L:List cd}{i:Nat}{n:eN}(a:d' c L i n)(X:cd):d' c (X::L) (i+1) n:=⟨a.m,a.b,a.g,a.w⟩
theorem dM{c:hf}{L:List cd}{i:Nat}{n:eN}{X:cd}:Go.Proofs.Ytkdbjfncchmmpaa.put c (X::L) (i+1) n=X::Go.Proofs.Ytkdbjfncchmmpaa.put c L i n:=rfl
def Lr:List bl:=[.ops [E2,v9,.i (.v 5) Jg]]
def zL:List bl:=[.ops [bj,qn,.i .l (.call (.c (.fn 120 [] [])) [.l 1,.l 0]),tt],.ops [pz,KZ],.cond (.v 8) [.ops [uI,pz,.i .n (.store 3 (.v 4) (.l 1)),.i .n (.store 1 (.v 5) (.l 0))],.ret] []]
def Ls:List bl:=[TG,.ops [mX,qn,Sj,uM,.i .n (.store 1 (.v 5) (.c (.int o 0)))],.ret]
def Lt:List bl:=[TG]
def F9:List bl:=[.ops [iY,.i (.v 5) (.yT .iface ab Q .neq (.l 0) (.c .hb))],.cond (.v 5) [.ops [iY,.i .l (.AJ 200 Q (.l 0)),di,lg,lh,E3,oi],.ops [jo,zp],.cond (.v 6) [.ops [iY,EE]] [],.ops [uI,eY,.i .n (.store 3 (.v 0) (.l 1)),.i .n (.store 1 (.v 1) (.l 0))]] []]
open Go Go.RowKit
abbrev iF:cJ:=106
abbrev eI:cJ:=121
noncomputable def tF:ff:=Try.f106.body.getD .skip
noncomputable def ol:ff:=Try.f121.body.getD .skip
theorem TH:(ar).funcs[eI]? =j Try.f121:=Try.func121
theorem ahp:Try.f121.body=j ol:=rfl
theorem ahq:ol= .seq (eC ol) (gf ol):=rfl
theorem UV:Try.f121.ntmps=18:=rfl
noncomputable def Lu:a0:={dst:=j 5,op:=.call {callee:=.builtin .recover,args:= #[],argTypes:= #[]},type:=((lf (eC ol)).getD 0 default).type,pos:=((lf (eC ol)).getD 0 default).pos,after:= #[],guard:=ab}
noncomputable def Lv:a0:={dst:=j 2,op:=.assign (.tmp 5),type:=((lf (eC ol)).getD 1 default).type,pos:=((lf (eC ol)).getD 1 default).pos,after:=((lf (eC ol)).getD 1 default).after,guard:=ab}
theorem ahr:eC ol= .region 0 #[Lu,Lv] T:=rfl
theorem ahs:gW ar (W.a2 eI) (W.cm eI) 18 [0,1,2,3,4,7,14] (gf ol) []=j F9:=by kernel_rfl
theorem aht:iJ (W.cm eI) (W.e3 eI) (gf ol)=Q:=by kernel_rfl
theorem ahu:r7 2 18 (W.aI eI) 7 [0,1,2,3,4,7,14]=Q:=by kernel_rfl
theorem TI{h J:ad}{e:I}{fB:List I}(ah:bo (a3 ar W) 7 [.bO F9,.halt []] [.ptr hW 0 0,.ptr jT 0 0,e,.aP,.aP,.aP,.aP] [] h=j (.halt [],fB,J)){m:dw}{w:cQ}{v:bK}(hw:bU ar m h w)(v6:bI ar m h (.ptr hW 0 0) gl)(fF:bI ar m h (.ptr jT 0 0) gm)(A9:bI ar m h e v){u:FrameMode}(fj:FrameMode)(Jc:∀c:fs,c.mode=u->∀cs,(recoverD (c::cs)=j (v,{c with mode:=fj}::cs))\/(recoverD (c::cs)=ab/\v= .nilIface/\fj=u)):CallsD ar eI #[gl,gm] u w λe mz aV=>(∃v,e= .returned v)/\mz=fj/\∃aR,Ext m h aR J/\bU ar aR J aV/\Below m.base w aV:=by
 intro c cs bH;have e6:dj ar m h [.ptr hW 0 0,.ptr jT 0 0] [gl,gm]:=⟨rfl,λD U cS=>by
  match D,U with
  |0,_=>exact v6
  |1,_=>exact fF⟩
 have he:=Er TH ahp [gl,gm] .deferred;have aL:=Es (P:=ar) (h:=h) (k:=18) e6;generalize ai:i4 ar eI #[gl,gm] .deferred=b at he;have qT:b.kind= .deferred:=by rw[<-ai];simp[i4]
 have A':b.fn=eI:=by rw[<-ai];simp[i4]
 have Je:b.roundOf=ab:=by rw[<-ai];simp[i4]
 rw[UV]at he;generalize aM:([gl,gm]++ax (18 - [gl,gm].length) fg).toArray=b7 at he aL;have F:Steps ar (ej b (c::cs) w) (ej (b.at {tmps:=b7,defers:=[]} [.code (eC ol),.code (gf ol)]) (c::cs) w):=by
  rw[<-he]
  conv=>lhs;rw[ahq]
  exact .one step_seq
 have ey:b7.size=18:=by rw[aL.1];rfl
 have II:(eC ol).wpS ar (λe dO fM aV=>e= .normal/\fM={c with mode:=fj}::cs/\aV=w/\dO=(({tmps:=b7,defers:=[]}:Act).put (j 5) v).put (j 2) v) {tmps:=b7,defers:=[]} (c::cs) w:=by
  rw[ahr];apply wpS_region;rcases Jc c bH cs with F|⟨F,O,af⟩
  ·simp[wpOpsS,go_sem,Lu,Lv,F,Act.put,Act.eval,ey]
  ·have aw:({c with mode:=fj}:fs)=c:=by rw[af,<-bH]
   simp[wpOpsS,go_sem,Lu,Lv,F,Act.put,Act.eval,ey,O,aw]
 obtain⟨ao,aJ,ID,dm,⟨rfl,rfl,rfl,rfl⟩,xv⟩:=II b [.code (gf ol)] qT Je;have zi:=(aL.put (a:={tmps:=b7,defers:=[]}) A9 (j 5)).put A9 (j 2);have b4:fV 18 [0,1,2,3,4,7,14] [] (ev (ev ([I.ptr hW 0 0,.ptr jT 0 0]++ax (18 - [I.ptr hW 0 0,.ptr jT 0 0].length) .aP) (j 5) e) (j 2) e) [.ptr hW 0 0,.ptr jT 0 0,e,.aP,.aP,.aP,.aP] []:=by
  refine⟨by simp[ev],rfl,rfl,λD s U=>?_,λD s U=>by simp at U⟩
  match D,U with
  |0,U|1,U|2,U|3,U|4,U|5,U|6,U=>obtain rfl:=nW U;exact⟨by decide,rfl⟩
  |D+7,U=>simp at U
 obtain⟨cV,aB,ac3⟩:=vS cX (l5 ahu) ahs aht ah b4;obtain⟨aR,aV,b2,ds,fb,dO,gU,gz,i6⟩:=aB m dm _ {b with defers:=[]} ({c with mode:=fj}::cs) hw zi rfl;have n2:Steps ar (ej b (c::cs) dm) (ej {b.at dO []with mode:=.returning} ({c with mode:=fj}::cs) aV):=F.trans (xv.trans (i6.trans (.one step_end)));refine⟨.returned (.tuple #[]),fj,aV,_,⟨⟨_,rfl⟩,rfl,aR,b2,ds,fb⟩,n2,qT,rfl,gz,Try.f121,?_,?_⟩
 ·show(ar).funcs[b.fn]? =_;rw[A'];exact TH
 ·simp[results,Try.results121]
theorem ahv(c:fs)(h:c.mode= .returning)(cs:List fs):recoverD (c::cs)=ab:=by simp[recoverD,h]
theorem ahw{v:bK}(c:fs)(h:c.mode= .panicking [{v:=v,recovered:=T}])(cs:List fs):recoverD (c::cs)=j (v,{c with mode:=.panicking [{v:=v,recovered:=Q}]}::cs):=by simp[recoverD,h]
theorem ahx{q:aT}{v:I}:yV q Q (.iface q v)=j (.bW [v,.bool Q]):=by simp[yV]
theorem ahy{h:ad}{m:dw}{w:cQ}(hw:bU ar m h w)(v6:bI ar m h (.ptr hW 0 0) gl)(fF:bI ar m h (.ptr jT 0 0) gm):CallsD ar eI #[gl,gm] .returning w λe mz aV=>(∃v,e= .returned v)/\mz= .returning/\∃aR,Ext m h aR h/\bU ar aR h aV/\Below m.base w aV:=by refine TI (fB:=[.ptr hW 0 0,.ptr jT 0 0,.hb,.aP,.aP,.bool T,.aP]) (e:=.hb) ?_ hw v6 fF .hb .returning λc aj cs=>.inr ⟨ahv c aj cs,rfl,rfl⟩;unfold F9;simp only[ay]
theorem ahz{h:ad}{m:dw}{w:cQ}{u:bK}{x y:Int}{l z:I}(hw:bU ar m h w)(v6:bI ar m h (.ptr hW 0 0) gl)(fF:bI ar m h (.ptr jT 0 0) gm)(Lw:bI ar m h (.iface uX (.int o code)) u)(cj:h.cell hW=j [[.int o x,.int o y,l]])(cT:h.cell jT=j [[z]])(cO:jT≠hW)(al:l.one=Q):CallsD ar eI #[gl,gm] (.panicking [{v:=u,recovered:=T}]) w λe mz aV=>(∃v,e= .returned v)/\mz= .panicking [{v:=u,recovered:=Q}]/\∃aR,Ext m h aR ((h.set hW (j [[.int o 0,.int o 0,.aF]])).set jT (j [[.int o code]]))/\bU ar aR ((h.set hW (j [[.int o 0,.int o 0,.aF]])).set jT (j [[.int o code]])) aV/\Below m.base w aV:=by refine TI (fB:=[.ptr hW 0 0,.ptr jT 0 0,.iface uX (.int o code),.int o code,.bool Q,.bool Q,.bool T]) (e:=.iface uX (.int o code)) ?_ hw v6 fF Lw (.panicking [{v:=u,recovered:=Q}]) λc aj cs=>.inl (ahw c aj cs);have K':(h.set hW (j [[.int o 0,.int o 0,.aF]])).cell jT=j [[z]]:=(gB cO).trans cT;unfold F9;simp only[ay,aD,ahx,cj,K']
open Go Go.RowKit
theorem ahA:(ar).funcs[iF]? =j Try.f106:=Try.func106
theorem ahB:Try.f106.body=j tF:=rfl
theorem ahC:Try.f106.ntmps=25:=rfl
noncomputable abbrev Cf:ff:=eC (gf tF)
noncomputable abbrev lF:ff:=gf (gf tF)
noncomputable abbrev lG:ff:=gf lF
theorem ahD:tF= .seq (eC tF) (gf tF):=rfl
theorem ahE:gf tF= .seq Cf lF:=rfl
theorem ahF:lF= .seq (eC lF) lG:=rfl
theorem ahG:lG= .seq (eC lG) (gf lG):=rfl
theorem ahH:gf lG= .seq (eC (gf lG)) .ret:=rfl
abbrev sG:List Nat:=[0,1,2,4,6,7,8,9,14]
theorem F':r7 3 25 (W.aI iF) 9 sG=Q:=by kernel_rfl
theorem ahI:gW ar (W.a2 iF) (W.cm iF) 25 sG (eC tF) []=j Lr:=by kernel_rfl
theorem ahJ:gW ar (W.a2 iF) (W.cm iF) 25 sG Cf []=j zL:=by kernel_rfl
theorem ahK:gW ar (W.a2 iF) (W.cm iF) 25 sG lG []=j Ls:=by kernel_rfl
theorem ahL:gW ar (W.a2 iF) (W.cm iF) 25 sG (eC lG) []=j Lt:=by kernel_rfl
theorem ahM:iJ (W.cm iF) (W.e3 iF) (eC tF)=Q:=by kernel_rfl
theorem ahN:iJ (W.cm iF) (W.e3 iF) Cf=Q:=by kernel_rfl
theorem ahO:iJ (W.cm iF) (W.e3 iF) lG=Q:=by kernel_rfl
theorem ahP:iJ (W.cm iF) (W.e3 iF) (eC lG)=Q:=by kernel_rfl
theorem ahQ:po ar sG Try.f106.results.toList=j [.cell Q 3 4,.cell T 1 5]:=by kernel_rfl
noncomputable def TJ:a0:={dst:=j 17,op:=.makeFunc (.func eI) #[] #[.tmp 6,.tmp 7],type:=((lf (eC lF)).getD 0 default).type,pos:=((lf (eC lF)).getD 0 default).pos,after:= #[],guard:=ab}
noncomputable def TK:a0:={dst:=ab,op:=.defer {callee:=.value (.tmp 17),args:= #[],argTypes:= #[]},type:=((lf (eC lF)).getD 1 default).type,pos:=((lf (eC lF)).getD 1 default).pos,after:=((lf (eC lF)).getD 1 default).after,guard:=ab}
theorem ahR:eC lF= .region 4 #[TJ,TK] T:=rfl
section
variable{h:ad}{m:dw}{w:cQ}
abbrev ll:List I:=[.int o 0,.int o 0,.aF]
def fJ(h:ad)(r:List I):ad:=((h.push [r]).push [ll]).push [[.int o 0]]
theorem ahS{b:Nat}{K:List Item}(bG:r.all I.one=Q)(bD:r.length=3):bo (a3 ar W) 9 [.bO Lr,.halt K] [.ptr b 0 0,.agg r,dU,.aP,.aP,.aP,.aP,.aP,.aP] [] h=j (.halt K,[.ptr b 0 0,.agg r,dU,.ptr h.n 0 0,.ptr (h.n+1) 0 0,.ptr (h.n+1+1) 0 0,.aP,.aP,.aP],fJ h r):=by unfold Lr;simp only[ay,bG,bD,fJ]
theorem ahT(x y z:I):fV 25 sG [] ([x,y,z]++ax (25 - [x,y,z].length) .aP) [x,y,z,.aP,.aP,.aP,.aP,.aP,.aP] []:=by
 refine⟨by simp,rfl,rfl,λD s U=>?_,λD s U=>by simp at U⟩
 match D,U with
 |0,U|1,U|2,U|3,U|4,U|5,U|6,U|7,U|8,U=>obtain rfl:=nW U;exact⟨by decide,rfl⟩
 |D+9,U=>simp at U
theorem Lx{b:Nat}{x:jd}{x0:List I}{O:ad}(bG:r.all I.one=Q)(bD:r.length=3)(ah:bo (a3 ar W) 9 [.bO zL,.halt [.code lF]] [.ptr b 0 0,.agg r,dU,.ptr h.n 0 0,.ptr (h.n+1) 0 0,.ptr (h.n+1+1) 0 0,.aP,.aP,.aP] [] (fJ h r)=j (x,x0,O))(an:∀v,x≠.panic v){br:List bK}(hw:bU ar m h w)(e6:dj ar m h [.ptr b 0 0,.agg r,dU] br)(cs:List fs):∃(eS:fs) (t2:List I),eS.fn=iF/\eS.kind= .normal/\eS.defers=[]/\fV 25 sG [] t2 x0 []/\dX ar (W.e3 iF) m h w eS cs (ej (i4 ar iF br.toArray .normal) cs w) (x,t2,O):=by
 have he:=Er ahA ahB br .normal;have aL:=Es (P:=ar) (h:=h) (k:=25) e6;rw[ahC]at he;obtain⟨t1,rb,ahU⟩:=vS cX (l5 F') ahI ahM (ahS (K:=[.code (gf tF)]) (h:=h) (dU:=dU) (b:=b) bG bD) (ahT _ _ _);obtain⟨t2,Bz,ahV⟩:=vS cX (l5 F') ahJ ahN ah ahU;refine⟨i4 ar iF br.toArray .normal,t2,by simp[i4],by simp[i4],by simp[i4],ahV,?_⟩;generalize i4 ar iF br.toArray .normal=eS at he ⊢;obtain⟨c8,dm,b2,ds,fb,aJ,gU,gz,i6⟩:=rb m w {tmps:=_,defers:=[]} {eS with defers:=[]} cs hw aL rfl;have gz:aJ.defers=[]:=gz;have fq:Steps ar (ej eS cs w) (ej (eS.at aJ [.code Cf,.code lF]) cs dm):=by
  conv=>lhs;rw[<-he,ahD]
  refine .head step_seq (i6.trans ?_)
  conv=>lhs;rw[ahE]
  exact .one step_seq
 obtain⟨cu,gu,fT,jf,lx,mQ⟩:=Bz c8 dm aJ {eS with defers:=[]} cs ds gU gz;have oJ:dX ar (W.e3 iF) c8 (fJ h r) dm {eS with defers:=[]} cs (ej (eS.at aJ [.code Cf,.code lF]) cs dm) (x,t2,O):=⟨cu,gu,fT,jf,lx,mQ⟩;have xO:=dX.steps fq (dX.after b2 fb oJ);have a6:eS.defers=[]:=by rw[<-he];rfl
 have A':({eS with defers:=[]}:fs)=eS:=by rw[<-a6]
 rwa [A']at xO
theorem Ly{h:ad}{v:I}(b4:fV 25 sG [] t V [])(R:(ie V h [.cell Q 3 4,.cell T 1 5]).map iH=j v):oB Try.f106 t h ar=j v:=by unfold oB;rw[y1 (h:=h) b4 ahQ];exact R
theorem ahW{h:ad}{b:Nat}{es:Option (List (List I))}(aj:h.cell b=es):h.set b es=h:=by
 cases h with
 |mk=>
   simp only[ad.set,ad.mk.injEq,and_true,true_and];funext k;by_cases Z:k=b
   ·subst Z;simpa using aj.symm
   ·simp[Z]
theorem ahX{b:Nat}{c:Int}(bG:r.all I.one=Q)(bD:r.length=3)(aj:c≠0)(o1:a3 ar W 120 [.ptr b 0 0,.agg r] (fJ h r)=j (.inl (.int o c),fJ h r)):AC ar iF [.ptr b 0 0,.agg r,dU] h (.inl (.bW [.agg ll,.int o c]),(fJ h r).set (h.n+1+1) (j [[.int o c]])):=by
 intro m w br hw e6 cs;have du:(fJ h r).cell h.n=j [r]:=th;have hW:(fJ h r).cell (h.n+1)=j [ll]:=xk;have jT:(fJ h r).cell (h.n+1+1)=j [[.int o 0]]:=vO;have ahY:(fJ h r).set (h.n+1) (j [ll])=fJ h r:=ahW hW;have ah:bo (a3 ar W) 9 [.bO zL,.halt [.code lF]] [.ptr b 0 0,.agg r,dU,.ptr h.n 0 0,.ptr (h.n+1) 0 0,.ptr (h.n+1+1) 0 0,.aP,.aP,.aP] [] (fJ h r)=j (.ret,[.ptr b 0 0,.agg r,dU,.ptr h.n 0 0,.ptr (h.n+1) 0 0,.ptr (h.n+1+1) 0 0,.int o c,.aP,.bool Q],(fJ h r).set (h.n+1+1) (j [[.int o c]])):=by unfold zL;simp only[ay,aD,du,kQ bD,o1,aj,hW,ahY,jT]
 obtain⟨eS,t2,c9,dx,gH,b4,aR,aV,b2,ds,fb,dO,todo,gU,gz,i6⟩:=Lx bG bD ah (λv=>by simp) hw e6 cs;rw[gH]at gz;have jW:=Ly (h:=(fJ h r).set (h.n+1+1) (j [[.int o c]])) (v:=.bW [.agg ll,.int o c]) b4 (by have r3:((fJ h r).set (h.n+1+1) (j [[.int o c]])).cell (h.n+1)=j [ll]:=(gB (by omega)).trans hW;simp only[ay,aD,r3]);obtain⟨u,cT,hA⟩:=w2 ds gU jW;exact⟨.returned u,aV,_,⟨aR,b2,ds,fb,u,rfl,hA⟩,i6,c9,rfl,gz,dx,_,by simp[Frame.at,c9],cT⟩
theorem Ga{n:Nat}{aY:List Nat}{i:Nat}{v:I}(b4:fV n aY [] t V [])(aa:i ∉ aY):fV n aY [] (ev t (j i) v) V []:=by refine⟨by simpa[ev]using b4.len,b4.dy,b4.te,λD s U=>?_,λD s U=>by simp at U⟩;obtain⟨F,O⟩:=b4.v D s U;refine⟨F,?_⟩;rw[<-O];have cO:i≠s:=λe=>aa (by rw[e];exact p6 U);simp[ev,cK,cO]
theorem Gb{n:Nat}{aY:List Nat}(b4:fV n aY [] t V []){s:Nat}(U:aY[D]? =j s):s<t.length/\t.getD s .aP=V.getD D .aP:=by obtain⟨F,O⟩:=b4.v D s U;exact⟨by rw[b4.len];exact F,O⟩
theorem TL{eS:fs}{a1:Act}{cs:List fs}(ey:a1.tmps.size=25)(cj:a1.tmps.getD 6 fg=gl)(cT:a1.tmps.getD 7 fg=gm):Steps ar (ej (eS.at a1 [.code lF]) cs w) (ej (eS.at {a1.put (j 17) (.func (.func eI) #[] #[gl,gm])with defers:={target:=.fn (.func eI) #[gl,gm],args:= #[]}::a1.defers} [.code lG]) cs w):=by
 have hw:(eC lF).wp ar (λe dO aV=>e= .normal/\aV=w/\dO={a1.put (j 17) (.func (.func eI) #[] #[gl,gm])with defers:={target:=.fn (.func eI) #[gl,gm],args:= #[]}::a1.defers}) a1 w:=by have ahZ:∀(fn:Fn) (first cap:Array bK) (w:cQ),(Instr.makeFunc fn first cap).run ar w= .ok (.func fn first cap) w:=λ_ _ _ _=>rfl;subst cj cT;rw[ahR];apply wp_region;simp[wpOps,go_sem,TJ,TK,Act.put,Act.eval,ey]
 obtain⟨e,dO,aV,⟨rfl,rfl,rfl⟩,xv⟩:=hw eS [.code lG] cs
 conv=>lhs;rw[ahF]
 exact .head step_seq xv
theorem TM{b:Nat}(bD:r.length=3)(o1:a3 ar W 120 [.ptr b 0 0,.agg r] (fJ h r)=j (.inl (.int o 0),fJ h r)):bo (a3 ar W) 9 [.bO zL,.halt [.code lF]] [.ptr b 0 0,.agg r,dU,.ptr h.n 0 0,.ptr (h.n+1) 0 0,.ptr (h.n+1+1) 0 0,.aP,.aP,.aP] [] (fJ h r)=j (.halt [.code lF],[.ptr b 0 0,.agg r,dU,.ptr h.n 0 0,.ptr (h.n+1) 0 0,.ptr (h.n+1+1) 0 0,.int o 0,.aP,.bool T],fJ h r):=by have du:(fJ h r).cell h.n=j [r]:=th;unfold zL;simp only[ay,du,kQ bD,o1]
theorem Gc{O:ad}{cu:dw}{t2 x0:List I}{a1:Act}(b4:fV 25 sG [] t2 x0 [])(aL:dp ar cu O t2 a1.tmps){s:Nat}(U:sG[D]? =j s):bI ar cu O (x0.getD D .aP) (a1.tmps.getD s fg):=by obtain⟨F,ao⟩:=Gb b4 U;rw[<-ao];exact Px aL F
theorem ah0{b:Nat}{bM:List I}{aw:ad}(bG:r.all I.one=Q)(bD:r.length=3)(dE:bM.all I.one=Q)(fl:bM.length=3)(Lz:dU= .aF\/∃id e rows,dU= .bR id e rows)(o1:a3 ar W 120 [.ptr b 0 0,.agg r] (fJ h r)=j (.inl (.int o 0),fJ h r))(uY:a3 ar W 122 [.ptr (fJ h r).n 0 0,.agg r] ((fJ h r).push [[.ptr b 0 0,dU]])=j (.inl (.agg bM),aw))(ji:aw.cell (h.n+1)=j [ll])(tb:aw.cell (h.n+1+1)=j [[.int o 0]]):AC ar iF [.ptr b 0 0,.agg r,dU] h (.inl (.bW [.agg bM,.int o 0]),(aw.set (h.n+1) (j [bM])).set (h.n+1+1) (j [[.int o 0]])):=by
 intro m w br hw e6 cs;have du:((fJ h r).push [[.ptr b 0 0,dU]]).cell h.n=j [r]:=(bi (by simp only[fJ,fo];omega)).trans th;have TN:(aw.set (h.n+1) (j [bM])).cell (h.n+1+1)=j [[.int o 0]]:=(gB (by omega)).trans tb;have nk:bo (a3 ar W) 9 [.bO Ls,.halt []] [.ptr b 0 0,.agg r,dU,.ptr h.n 0 0,.ptr (h.n+1) 0 0,.ptr (h.n+1+1) 0 0,.int o 0,.aP,.bool T] [] (fJ h r)=j (.ret,[.ptr b 0 0,.agg r,dU,.ptr h.n 0 0,.ptr (h.n+1) 0 0,.ptr (h.n+1+1) 0 0,.int o 0,.ptr (fJ h r).n 0 0,.bool T],(aw.set (h.n+1) (j [bM])).set (h.n+1+1) (j [[.int o 0]])):=by
  unfold Ls;rcases Lz with rfl|⟨id,e,rows,rfl⟩
  ·simp only[ay,aD,dI,du,kQ bD,uY,ji,dE,fl,TN]
  ·simp only[ay,aD,dI,du,kQ bD,uY,ji,dE,fl,TN]
 obtain⟨eS,t2,c9,dx,gH,b4,cu,gu,b2,ds,fb,a1,gU,gz,i6⟩:=Lx bG bD (TM (dU:=dU) bD o1) (λv=>by simp) hw e6 cs;rw[gH]at gz;have v6:=Gc b4 gU (D:=4) (s:=6) rfl;have fF:=Gc b4 gU (D:=5) (s:=7) rfl;have ey:a1.tmps.size=25:=by rw[gU.1,b4.len]
 have lay:=TL (w:=gu) (eS:=eS) (a1:=a1) (cs:=cs) ey rfl rfl;generalize ah1:a1.tmps.getD 6 fg=gl at v6 lay;generalize ah2:a1.tmps.getD 7 fg=gm at fF lay;rw[gz]at lay;have A8:=gU.put (bI.aP (.func (.func eI) #[] #[gl,gm])) (j 17);have xt:=Ga (i:=17) (v:=.aP) b4 (by decide);obtain⟨t5,aB,vT⟩:=vS cX (l5 F') ahK ahO nk xt;obtain⟨je,jA,fT,jf,lx,ez,todo,mQ,oJ,xO⟩:=aB cu gu {a1.put (j 17) (.func (.func eI) #[] #[gl,gm])with defers:=[{target:=.fn (.func eI) #[gl,gm],args:= #[]}]} {eS with defers:=[{target:=.fn (.func eI) #[gl,gm],args:= #[]}]} cs ds A8 rfl;have ro:Leaves ar Try.f106 ez.tmps (λe aV=>∃aR,Ext m h aR ((aw.set (h.n+1) (j [bM])).set (h.n+1+1) (j [[.int o 0]]))/\bU ar aR ((aw.set (h.n+1) (j [bM])).set (h.n+1+1) (j [[.int o 0]])) aV/\Below m.base w aV/\∃u,e= .returned u/\bI ar aR ((aw.set (h.n+1) (j [bM])).set (h.n+1+1) (j [[.int o 0]])) (.bW [.agg bM,.int o 0]) u) [{target:=.fn (.func eI) #[gl,gm],args:= #[]}] .returning jA:=by refine leaves_cons (f:=eI) (args:= #[gl,gm]) (by simp) (by simp[go_sem]) ?_;refine(ahy jf (v6.ext fT) (fF.ext fT)).mono ?_;rintro e mz aV ⟨⟨v,rfl⟩,rfl,i7,e8,g9,ho⟩;have jW:=Ly (h:=(aw.set (h.n+1) (j [bM])).set (h.n+1+1) (j [[.int o 0]])) (v:=.bW [.agg bM,.int o 0]) vT (by have r3:((aw.set (h.n+1) (j [bM])).set (h.n+1+1) (j [[.int o 0]])).cell (h.n+1)=j [bM]:=(gB (by omega)).trans lz;simp only[ay,r3,kQ fl]);obtain⟨u,cT,hA⟩:=w2 g9 (mQ.ext e8) jW;refine⟨u,cT,i7,(b2.trans fT).trans e8,g9,?_,u,rfl,hA⟩;have bN:cu.base=m.base:=b2.base;have bL:je.base=cu.base:=fT.base;rw[bL,bN]at ho;rw[bN]at lx;exact(fb.trans lx).trans ho
 obtain⟨e,ir,xu,jk,av,mR,al⟩:=leaves_steps [{target:=.fn (.func eI) #[gl,gm],args:= #[]}] .returning jA {(({eS with defers:=[{target:=.fn (.func eI) #[gl,gm],args:= #[]}]}:fs).at ez todo)with mode:=.returning} cs rfl oJ rfl (by simp[Frame.at,c9]) (by simpa[Frame.at]using dx) ro;exact⟨e,ir,xu,jk,Comes.of_steps (i6.trans (lay.trans xO)) av,mR.trans c9,al⟩
noncomputable abbrev tG:Array a0:=lf (eC (gf lG))
noncomputable abbrev q7 (i:Nat):a0:=tG.getD i default
theorem ah3:eC (gf lG)= .region 6 tG T:=rfl
theorem ah4:((ar).underlying cg).isNone=T:=by kernel_rfl
theorem ah5:jc ar cg=Q:=by kernel_rfl
theorem ah6:cB ar cg=3:=by kernel_rfl
theorem ah7(t:List I)(h:ad):w3 ar W iF t h (q7 0) (t.getD 9 .aP) h:=.inl ⟨rfl,rfl⟩
theorem ah8{h:ad}{v:I}(al:c0 Q 3 h (t.getD 4 .aP)=j v):w3 ar W iF t h (q7 1) v h:=by refine .inl ⟨rfl,?_⟩;show(if((ar).underlying cg).isNone then ab else(c0 (jc ar cg) (cB ar cg) h (t.getD 4 .aP)).map λv=>(v,h))=_;rw[ah4,ah5,ah6,al];rfl
theorem ah9(t:List I):eW t (q7 2)=j (122,[t.getD 22 .aP,t.getD 23 .aP]):=rfl
theorem ah':∃fn,(ar).funcs[(122:Nat)]? =j fn/\(fn.body.isNone=T/\(fn.name== "runtime.NumGoroutine")=T):=⟨_,Try.func122,by kernel_rfl,by kernel_rfl⟩
theorem aia{b:Nat}{aw:ad}{c:Int}(bG:r.all I.one=Q)(bD:r.length=3)(Lz:dU= .aF\/∃id e rows,dU= .bR id e rows)(o1:a3 ar W 120 [.ptr b 0 0,.agg r] (fJ h r)=j (.inl (.int o 0),fJ h r))(uY:a3 ar W 122 [.ptr (fJ h r).n 0 0,.agg r] ((fJ h r).push [[.ptr b 0 0,dU]])=j (.inr (.iface uX (.int o c)),aw))(ji:aw.cell (h.n+1)=j [ll])(tb:aw.cell (h.n+1+1)=j [[.int o 0]]):AC ar iF [.ptr b 0 0,.agg r,dU] h (.inl (.bW [.agg ll,.int o c]),(aw.set (h.n+1) (j [ll])).set (h.n+1+1) (j [[.int o c]])):=by
 intro m w br hw e6 cs;have du:((fJ h r).push [[.ptr b 0 0,dU]]).cell h.n=j [r]:=(bi (by simp only[fJ,fo];omega)).trans th;have aib:bo (a3 ar W) 9 [.bO Lt,.halt [.code (gf lG)]] [.ptr b 0 0,.agg r,dU,.ptr h.n 0 0,.ptr (h.n+1) 0 0,.ptr (h.n+1+1) 0 0,.int o 0,.aP,.bool T] [] (fJ h r)=j (.halt [.code (gf lG)],[.ptr b 0 0,.agg r,dU,.ptr h.n 0 0,.ptr (h.n+1) 0 0,.ptr (h.n+1+1) 0 0,.int o 0,.ptr (fJ h r).n 0 0,.bool T],(fJ h r).push [[.ptr b 0 0,dU]]):=by
  unfold Lt;rcases Lz with rfl|⟨id,e,rows,rfl⟩
  ·simp only[ay,aD,dI]
  ·simp only[ay,aD,dI]
 obtain⟨eS,t2,c9,dx,gH,b4,cu,gu,b2,ds,fb,a1,gU,gz,i6⟩:=Lx bG bD (TM (dU:=dU) bD o1) (λv=>by simp) hw e6 cs;rw[gH]at gz;have v6:=Gc b4 gU (D:=4) (s:=6) rfl;have fF:=Gc b4 gU (D:=5) (s:=7) rfl;have ey:a1.tmps.size=25:=by rw[gU.1,b4.len]
 have lay:=TL (w:=gu) (eS:=eS) (a1:=a1) (cs:=cs) ey rfl rfl;generalize ah1:a1.tmps.getD 6 fg=gl at v6 lay;generalize ah2:a1.tmps.getD 7 fg=gm at fF lay;rw[gz]at lay;have A8:=gU.put (bI.aP (.func (.func eI) #[] #[gl,gm])) (j 17);have xt:=Ga (i:=17) (v:=.aP) b4 (by decide);obtain⟨t5,aB,vT⟩:=vS cX (l5 F') ahL ahP aib xt;obtain⟨je,jA,fT,jf,lx,ez,mQ,oJ,xO⟩:=aB cu gu {a1.put (j 17) (.func (.func eI) #[] #[gl,gm])with defers:=[{target:=.fn (.func eI) #[gl,gm],args:= #[]}]} {eS with defers:=[{target:=.fn (.func eI) #[gl,gm],args:= #[]}]} cs ds A8 rfl;have a4:Steps ar (ej (eS.at {a1.put (j 17) (.func (.func eI) #[] #[gl,gm])with defers:=[{target:=.fn (.func eI) #[gl,gm],args:= #[]}]} [.code lG]) cs gu) (ej (eS.at ez [.inRegion tG [0,1,2,3,4],.code .ret]) cs jA):=by
  conv=>lhs;rw[ahG]
  refine .head step_seq (xO.trans ?_)
  conv=>lhs;rw[ahH]
  refine .head step_seq ?_
  conv=>lhs;rw[ah3]
  exact .one step_region
 obtain⟨anp,oY⟩:=Gb vT (D:=7) (s:=9) rfl;obtain⟨fm,ck⟩:=Gb vT (D:=3) (s:=4) rfl;obtain⟨wk,nI,Gd,d1,d2,d3,d4,d5⟩:=DS (b:=eS) (cs:=cs) (K:=[.code .ret]) (all:=tG) (i:=0) (rest:=[1,2,3,4]) cX rfl (rfl:hy tG t5 (q7 0)=j Q) jf mQ (ah7 t5 _);have TO:=(mQ.ext d1).put d3 (j 22);have TP:=Ga (i:=22) (v:=t5.getD 9 .aP) vT (by decide);obtain⟨anq,aic⟩:=Gb TP (D:=3) (s:=4) rfl;obtain⟨B6,Ge,tH,f1,f2,f3,f4,f5⟩:=DS (b:=eS) (cs:=cs) (K:=[.code .ret]) (all:=tG) (i:=1) (rest:=[2,3,4]) (E:=q7 1) (a:=ez.put (j 22) Gd) (v:=.agg r) cX rfl (rfl:hy tG _ (q7 1)=j Q) d2 TO (ah8 (by rw[aic];simp[c0,ad.row,du,kQ bD]));have LA:=(TO.ext f1).put f3 (j 23);have TQ:=Ga (i:=23) (v:=.agg r) TP (by decide);obtain⟨fn,c1,cr,eg⟩:=ah';have anr:(ev (ev t5 (j 22) (t5.getD 9 .aP)) (j 23) (.agg r)).length=25:=TQ.len;have TR:t5.length=25:=vT.len;have TS:=ah9 (ev (ev t5 (j 22) (t5.getD 9 .aP)) (j 23) (.agg r));have pF:(ev (ev t5 (j 22) (t5.getD 9 .aP)) (j 23) (.agg r)).getD 22 .aP= .ptr (fJ h r).n 0 0:=by
  have:(ev (ev t5 (j 22) (t5.getD 9 .aP)) (j 23) (.agg r)).getD 22 .aP=t5.getD 9 .aP:=by simp[ev,cK,TR]
  rw[this,oY];rfl
 have aid:(ev (ev t5 (j 22) (t5.getD 9 .aP)) (j 23) (.agg r)).getD 23 .aP= .agg r:=by simp[ev,cK,TR]
 rw[pF,aid]at TS;have hq:=OI cX uY;obtain⟨aie,v1,cW⟩:=Dw (w:=Ge) LA TS c1 eg cr;obtain⟨e,uZ,jk,bB⟩:=Ap (b:=eS) (cs:=cs) (k:=[.code .ret]) (rest:=[3,4]) (all:=tG) (i:=2) rfl (vA LA tG (q7 2) (rfl:hy tG _ (q7 2)=j Q)) cW (hq B6 Ge aie f2 v1) (by rintro aV ⟨aR,_,_,_,fj,h,_⟩;cases h);obtain⟨La,e8,g9,ho,u8,rfl,q6⟩:=jk;rcases bB with⟨bu,af,_⟩|⟨kb,af,todo,LB⟩
 ·cases af
 injection af with af;subst af;have ro:Leaves ar Try.f106 ((ez.put (j 22) Gd).put (j 23) tH).tmps (λe aV=>∃aR,Ext m h aR ((aw.set (h.n+1) (j [ll])).set (h.n+1+1) (j [[.int o c]]))/\bU ar aR ((aw.set (h.n+1) (j [ll])).set (h.n+1+1) (j [[.int o c]])) aV/\Below m.base w aV/\∃u,e= .returned u/\bI ar aR ((aw.set (h.n+1) (j [ll])).set (h.n+1+1) (j [[.int o c]])) (.bW [.agg ll,.int o c]) u) [{target:=.fn (.func eI) #[gl,gm],args:= #[]}] (.panicking [{v:=u8,recovered:=T}]) uZ:=by refine leaves_cons (f:=eI) (args:= #[gl,gm]) (by simp) (by simp[go_sem]) ?_;refine(ahz (code:=c) g9 (((((v6.ext fT).ext d1).ext f1).ext e8)) (((((fF.ext fT).ext d1).ext f1).ext e8)) q6 ji tb (by omega) rfl).mono ?_;rintro e mz aV ⟨⟨v,rfl⟩,rfl,B7,ek,iA,og⟩;have jW:=Ly (h:=(aw.set (h.n+1) (j [ll])).set (h.n+1+1) (j [[.int o c]])) (v:=.bW [.agg ll,.int o c]) TQ (by have r3:((aw.set (h.n+1) (j [ll])).set (h.n+1+1) (j [[.int o c]])).cell (h.n+1)=j [ll]:=(gB (by omega)).trans lz;simp only[ay,aD,r3]);obtain⟨u,cT,hA⟩:=w2 iA ((LA.ext e8).ext ek) jW;refine⟨u,cT,B7,((((b2.trans fT).trans d1).trans f1).trans e8).trans ek,iA,?_,u,rfl,hA⟩;have bN:cu.base=m.base:=b2.base;have bL:je.base=cu.base:=fT.base;have c2:wk.base=je.base:=d1.base;have nu:B6.base=wk.base:=f1.base;have r3:La.base=B6.base:=e8.base;rw[r3,nu,c2,bL,bN]at og;rw[nu,c2,bL,bN]at ho;rw[c2,bL,bN]at f4;rw[bL,bN]at d4;rw[bN]at lx;exact((((fb.trans lx).trans d4).trans f4).trans ho).trans og
 have aif:((ez.put (j 22) Gd).put (j 23) tH).defers=[{target:=.fn (.func eI) #[gl,gm],args:= #[]}]:=oJ;obtain⟨e,BZ,xu,jk,av,mR,al⟩:=leaves_steps [{target:=.fn (.func eI) #[gl,gm],args:= #[]}] (.panicking [{v:=u8,recovered:=T}]) uZ {(eS.at ((ez.put (j 22) Gd).put (j 23) tH) todo)with mode:=.panicking [{v:=u8,recovered:=T}]} cs rfl aif rfl (by simp[Frame.at,c9]) (by simpa[Frame.at]using dx) ro;exact⟨e,BZ,xu,jk,Comes.of_steps (i6.trans (lay.trans (a4.trans (d5.trans (f5.trans LB))))) av,mR.trans c9,al⟩
end
section
variable{h:ad}{ag ap:Nat->Prop}{b:Nat}{G:aC}
theorem LC(g:fO h ag ap b G)(r:List I):gO h ag ap b (fJ h r) G [h.n+1+1,h.n+1,h.n] []:=(((gO.start g).push [r]).push [ll]).push [[.int o 0]]
theorem Gf(g:fO h ag ap b G)(dl:G.cz){x:ak}(an:b1 x r):a3 ar W 120 [.ptr b 0 0,.agg r] (fJ h r)=j (.inl (.int o (sc G x)),fJ h r):=by obtain⟨dQ,dT,cr⟩:=(LC g r).agV;exact ag4 cr dl an
theorem aih{x:ak}(aN:sc G x=0):x.size<=100000:=by
 have:x.code=0:=by
  unfold sc at aN;split at aN
  ·exact aN
  ·rename_i aj;simpa using aj
 have:=Tp this;omega
theorem LD(g:fO h ag ap b G)(dl:G.cz){x:ak}(an:b1 x r)(aX:fE 3 dU (jY aZ))(Z:aZ.length<=1000000)(aN:sc G x=0):∃aw,(∃q,a3 ar W 122 [.ptr (fJ h r).n 0 0,.agg r] ((fJ h r).push [[.ptr b 0 0,dU]])=j (q,aw)/\Cc aZ G x q)/\gO h ag ap b aw (d9 aZ x G).1 [(fJ h r).n,h.n+1+1,h.n+1,h.n] []/\aw.cell (h.n+1)=j [ll]/\aw.cell (h.n+1+1)=j [[.int o 0]]:=by
 have c8:=(LC g r).push [[.ptr b 0 0,dU]];obtain⟨aw,e,cu,k, -, -⟩:=c8.F5 (dG:=λaw=>∃q,a3 ar W 122 [.ptr (fJ h r).n 0 0,.agg r] ((fJ h r).push [[.ptr b 0 0,dU]])=j (q,aw)/\Cc aZ G x q) (cU:=(d9 aZ x G).1) λdQ dT cr _ aii=>by obtain⟨q,aw,e,bQ,d⟩:=ag7 aX.e' Z _ x (bV _) (aih aN) r ((fJ h r).push [[.ptr b 0 0,dU]]) dQ dT G cr dl (by simp only[fo];omega) (aii _ (by simp)) kd an;exact⟨aw,⟨q,e,bQ⟩,d⟩
 refine⟨aw,e,cu,(k _ (by simp)).trans ?_,(k _ (by simp)).trans ?_⟩
 ·exact(bi (by simp only[fJ,fo];omega)).trans xk
 ·exact(bi (by simp only[fJ,fo];omega)).trans vO
theorem TT{e:aT}{rows:List (List I)}(aX:fE e dU rows):dU= .aF\/∃id e rows,dU= .bR id e rows:=by
 rcases aX with⟨_,h⟩|⟨id,h⟩
 ·exact .inl h
 ·exact .inr ⟨_,_,_,h⟩
theorem aij(g:fO h ag ap b G)(dl:G.cz){x:ak}(an:b1 x r)(aX:fE 3 dU (jY aZ))(Z:aZ.length<=1000000):∃q,AC ar iF [.ptr b 0 0,.agg r,dU] h q/\Pw [.ptr b 0 0,.agg r,dU] h q:=by
 obtain⟨bG,bD⟩:=an.one;have o1:=Gf g dl an;by_cases aN:sc G x=0
 ·rw[aN]at o1;obtain⟨aw,⟨q,uY,kP⟩,ba,ji,tb⟩:=LD g dl an aX Z aN;rcases kP with⟨qs,bM,rfl,ds⟩|⟨qs,rfl⟩
  ·obtain⟨dE,fl⟩:=ds.one;refine⟨_,ah0 bG bD dE fl (TT aX) o1 uY ji tb,?_⟩;rintro dQ dT dx tI fb gL TU wu e eg x1 ux Gg Gh;simp only[uu,I.ptr.injEq,I.agg.injEq,and_true]at e;obtain⟨rfl,rfl,rfl⟩:=e;have pH:=Gf eg x1 ux;rw[o1]at pH;simp only[g5,jH,Sum.inl.injEq,I.int.injEq,true_and,and_true]at pH;obtain⟨bg,⟨q,x2,LF⟩,Cd, -, -⟩:=LD eg x1 ux Gg Gh pH.symm;rw[uY]at x2;simp only[g5,jH]at x2;obtain⟨rfl,rfl⟩:=x2;have aM:iM wu tI fb=d9 wu fb tI:=by rw[iM,if_neg (by simp[<-pH])]
   rcases LF with⟨zM,kG,ck,gU⟩|⟨_,ck⟩
   ·simp only[Sum.inl.injEq,I.agg.injEq]at ck;subst ck;rw[aM];exact⟨bM,_,by rw[zM],gU,((Cd.set (by simp) _).set (by simp) _).wm⟩
   ·cases ck
  ·refine⟨_,aia bG bD (TT aX) o1 uY ji tb,?_⟩;rintro dQ dT dx tI fb gL TU wu e eg x1 ux Gg Gh;simp only[uu,I.ptr.injEq,I.agg.injEq,and_true]at e;obtain⟨rfl,rfl,rfl⟩:=e;have pH:=Gf eg x1 ux;rw[o1]at pH;simp only[g5,jH,Sum.inl.injEq,I.int.injEq,true_and,and_true]at pH;obtain⟨bg,⟨q,x2,LF⟩,Cd, -, -⟩:=LD eg x1 ux Gg Gh pH.symm;rw[uY]at x2;simp only[g5,jH]at x2;obtain⟨rfl,rfl⟩:=x2;have aM:iM wu tI fb=d9 wu fb tI:=by rw[iM,if_neg (by simp[<-pH])]
   rcases LF with⟨_,kG,ck,_⟩|⟨zM,ck⟩
   ·cases ck
   ·simp only[Sum.inr.injEq,I.iface.injEq,I.int.injEq,true_and]at ck;have R:(d9 wu fb tI).2.1=bE:=by
     rw[Pj]at zM ⊢;split
     ·rfl
     ·rename_i F;rw[if_neg F]at zM;split
      ·rfl
      ·rename_i O;rw[if_neg O]at zM;exact absurd rfl zM
    rw[aM,R];exact⟨ll,_,by rw[ck],pG,((Cd.set (by simp) _).set (by simp) _).wm⟩
 ·refine⟨_,ahX bG bD aN o1,?_⟩;rintro dQ dT dx tI fb gL TU wu e eg x1 ux Gg Gh;simp only[uu,I.ptr.injEq,I.agg.injEq,and_true]at e;obtain⟨rfl,rfl,rfl⟩:=e;have pH:=Gf eg x1 ux;rw[o1]at pH;simp only[g5,jH,Sum.inl.injEq,I.int.injEq,true_and,and_true]at pH;have aM:iM wu tI fb=(tI,bE,sc tI fb):=by rw[iM,if_pos (by rw[<-pH];exact aN)]
  rw[aM];exact⟨ll,_,by rw[pH],pG,((LC eg r).set (by simp) _).wm⟩
theorem aik:W.ext iF=j A6:=by show rl iF=_;unfold rl;exact if_pos rfl
theorem TV(g:fO h ag ap b G)(dl:G.cz){x:ak}(an:b1 x r)(aX:fE 3 dU (jY aZ))(Z:aZ.length<=1000000):∃J,(∃bM,a3 ar W 106 [.ptr b 0 0,.agg r,dU] h=j (.inl (.bW [.agg bM,.int o (iM aZ G x).2.2]),J)/\b1 (iM aZ G x).2.1 bM)/\hF h ag ap b J (iM aZ G x).1:=by
 have H:=aij g dl an aX Z;have e:a3 ar W iF [.ptr b 0 0,.agg r,dU] h=j (Classical.choose H):=by unfold a3;rw[aik];show A6 _ _=_;unfold A6;rw[dif_pos H]
 obtain⟨bM,J,F,O,af⟩:=(Classical.choose_spec H).2 ag ap b G x r dU aZ rfl g dl an aX Z;rw[F]at e;exact⟨J,⟨bM,e,O⟩,af⟩
end
structure ha(c:hf)(n:eN):Prop where
 ms:c.ms.length=4
 S:n.S.Good
 below:n.below.length<=100
 cA:n.top.stack.length<=100000
 tp:n.top.names.length<=100000
 log:n.S.log.length<=1000000
theorem ha.len{c:hf}{n:eN}(E:ha c n):c.ms.length=n.S.kept.length:=E.ms.trans E.S.kept.symm
def ea(ae:ad)(aH aA:Nat->Prop)(c:hf)(L:List cd)(i:Nat)(n:eN)(q:bp×ak×Int)(aU:I⊕I)(J:ad):Prop:=(q.2.2=0/\aU= .inl (.bW [])/\aQ ae aH aA J (put c L i {n with S:=q.1,top:={n.top with stack:=n.top.stack++[q.2.1]}}))\/(q.2.2≠0/\aU= .inr (.iface kS (.int o q.2.2))/\∃bS:eN,bS.S=q.1/\aQ ae aH aA J (put c L i bS))
section
variable{h J ae:ad}{ag ap aH aA:Nat->Prop}{L:List cd}{c:hf}{i:Nat}{n:eN}
theorem ea.no{S:bp}{k:Int}(Z:k≠0)(bS:eN)(cl:bS.S=S)(s:aQ ae aH aA J (put c L i bS)):ea ae aH aA c L i n (S.no k) (.inr (.iface kS (.int o k))) J:=.inr ⟨Z,rfl,bS,cl,s⟩
theorem ea.ok{S:bp}{v:ak}(s:aQ ae aH aA J (put c L i {n with S:=S,top:={n.top with stack:=n.top.stack++[v]}})):ea ae aH aA c L i n (S.ok v) (.inl (.bW [])) J:=.inl ⟨rfl,rfl,s⟩
theorem ea.fail(a:d' c L i n){k:Int}(Z:k≠0)(s:aQ ae aH aA J L):ea ae aH aA c L i n (n.S.no k) (.inr (.iface kS (.int o k))) J:=ea.no Z n rfl (by rw[a.same];exact s)
theorem ea.drop{X:cd}{q:bp×ak×Int}{aU:I⊕I}(r:ea ae aH aA c (X::L) (i+1) n q aU J):ea ae aH aA c L i n q aU J:=by
 rcases r with⟨a,b,s⟩|⟨a,b,bS,e,s⟩
 ·exact .inl ⟨a,b,s.drop⟩
 ·exact .inr ⟨a,b,bS,e,s.drop⟩
theorem nL(s:aQ ae aH aA h L)(a:d' c L i n)(ai:n.below.length<=100)(av:n.top.stack.length<=100000)(R:b1 v r):∃J,a3 ar W m2 [.ptr c.a' 0 0,.agg r] h=j (.inl (.bW []),J)/\aQ ae aH aA J (put c L i {n with top:={n.top with stack:=n.top.stack++[v]}}):=by obtain⟨J,e,dW⟩:=afh s i a.m R (by omega) (by omega);rw[a.tE]at dW;exact⟨J,e,dW⟩
theorem LG(s:aQ ae aH aA h L)(a:d' c L i n){st:List ak}(bB:n.top.stack=st++[v])(ai:n.below.length<=100)(al:st.length<=100000):∃J r,a3 ar W 83 [.ptr c.a' 0 0] h=j (.inl (.agg r),J)/\b1 v r/\aQ ae aH aA J (put c L i {n with top:={n.top with stack:=st}}):=by obtain⟨J,⟨r,e,R⟩,dW⟩:=afi s i a.m bB (by omega) (by omega);rw[a.tE]at dW;exact⟨J,r,e,R,dW⟩
theorem Cg(s:aQ ae aH aA h L)(a:d' c L i n){dG:ad->Prop}{cU:aC}(jR:∀ag ap,fO h ag ap c.b6 n.S.G->∃J,dG J/\hF h ag ap c.b6 J cU):∃J,dG J/\aQ ae aH aA J (put c L i {n with S:={n.S with G:=cU}}):=by obtain⟨J,r,dW⟩:=s.call (dG:=dG) (Y:=hM c.b6 cU) (i+2) a.g jR;rw[a.aho]at dW;exact⟨J,r,dW⟩
theorem o2(s:aQ ae aH aA h L)(a:d' c L i n)(al:c.ms.length=n.S.kept.length):(∀k:Nat,c0 T k h (.ptr c.a' 0 0)=j (.ptr c.az 0 0))/\(∀k:Nat,c0 T k h (.ptr c.az 0 0)=j (.ptr c.b6 0 0))/\∀k:Nat,c0 T k h (.ptr c.az 0 1)=j (.ptr c.ca 0 0):=by obtain⟨dO,dv,aI,g,ba⟩:=nK s i a.m;obtain⟨c9,dx⟩:=F7 s a.b al;refine⟨λk=>?_,c9,dx⟩;rw[hD,ba.m,c7,n4,c7,pq];rfl
theorem l9(s:aQ ae aH aA h L)(a:d' c L i n)(ai:n.below.length<=100):a3 ar W Ff [.ptr c.a' 0 0] h=j (.inl (.ptr n.a5 n.below.length 0),h)/\∀k:Nat,c0 T k h (.ptr n.a5 n.below.length 0)=j (.int o n.top.bw):=by obtain⟨dO,dv,aI,g,ba⟩:=nK s i a.m;exact⟨Fh ba.m (by omega),λk=>ba.rd k 0 _ (m4 n.top dO dv aI g ba.aM.cZ.1).2.2.2.2.2.1⟩
theorem zN(t:er):dS t=[.int o t.parent,.int o t.gate,.int o t.et,.int o t.cell,.int o t.bw,.int o t.func]:=rfl
theorem ail{p k n:Int}{S:bp}:gC p 13 k n [v] S=if v.kind≠4 then S.no 2 else if iV (S.G.et v.n) 0=T then S.no 9 else if 0<=(S.G.target v.n).1.bw then S.no 2 else({S with log:=S.log++[oP.mk p (S.G.target v.n).1.cell 1 v.n]}:bp).ok (iC (S.cells.getD (S.G.target v.n).1.cell.toNat 0)):=rfl
theorem TW{G:aC}(dl:G.cz){i:Int}{k:Nat}(ai:iV (G.et i) k=Q)(aB:¬0<=(G.target i).1.bw):0<=(G.target i).1.cell/\(G.target i).1.cell<12:=by
 have bP:G.has i=Q:=by
  cases h:G.has i with
  |true=>rfl
  |false=>
    have:G.et i=0:=by unfold aC.et;rw[if_pos (.inl (aC.tl h))]
    rw[this]at ai;have O:iV 0 k=T:=by unfold iV;rw[Int.zero_ediv];decide
    rw[O]at ai;cases ai
 obtain⟨_,_,F|F⟩:=aC.FB dl bP
 ·exact⟨F.2.1,F.2.2.1⟩
 ·omega
theorem aim(s:aQ ae aH aA h L)(a:d' c L i n)(E:ha c n)(R:b1 v r)(k m:Int):∃aU J,a3 ar W 123 [.ptr c.a' 0 0,.agg r] h=j (aU,J)/\ea ae aH aA c L i n (gC n.top.bw 13 k m [v] n.S) aU J:=by
 rw[ail];have a4:=s.push [r];have aJ:=a.cons (a9 h.n [r]);obtain⟨bG,bD⟩:=R.cZ;by_cases Z:v.kind=4
 ·rw[if_neg (by simpa using Z)];obtain⟨bM,eA,lr⟩:=rD (h:=h.push [r]) R Z;have ln:=Lq a4 aJ.m aJ.b aJ.g E.len E.S.wf lr (k:=0) (q:=1) (by decide) (by decide);by_cases ai:iV (n.S.G.et v.n) 0=Q
  ·rw[if_pos ai]at ln;rw[if_neg (by simp[ai])];have bn:=a4.push [dS (n.S.G.target v.n).1];have a1:=aJ.cons (a9 (h.push [r]).n [dS (n.S.G.target v.n).1]);by_cases aB:0<=(n.S.G.target v.n).1.bw
   ·rw[if_pos aB];have d:decide (0<=(n.S.G.target v.n).1.bw)=Q:=decide_eq_true aB;refine⟨_,_,?_,ea.fail a (by decide) bn.drop.drop⟩;refine bC E4 rfl ?_;unfold mp;simp only[ay,aD,aO,ax,ct,bG,bD,eA,ln,zN,d,oj]
   ·rw[if_neg aB];have d:decide (0<=(n.S.G.target v.n).1.bw)=T:=decide_eq_false aB;obtain⟨hC,dh,cC⟩:=o2 bn a1 E.len;obtain⟨db,lD⟩:=l9 bn a1 E.below;obtain⟨af,bm,b0⟩:=agS bn (i+1+1+3) a1.w E.S.cells E.log (TW E.S.wf ai aB) n.top.bw v.n;rw[a1.TF]at b0;have bf:=a1.put {n with S:={n.S with cells:=n.S.cells,log:=n.S.log++[⟨n.top.bw,(n.S.G.target v.n).1.cell,1,v.n⟩]}};obtain⟨aw,ck,cc⟩:=nL b0 bf E.below E.cA (Ce (n.S.cells.getD (n.S.G.target v.n).1.cell.toNat 0));rw[gP,dM,dM]at cc;refine⟨_,aw,?_,ea.ok cc.drop.drop⟩;have f0:cf 0 (.ptr c.a' 0 0)=j (.ptr c.a' 0 0):=rfl;have f1:cf 1 (.ptr c.az 0 0)=j (.ptr c.az 0 1):=rfl;have f2:cf 0 (.ptr n.a5 n.below.length 0)=j (.ptr n.a5 n.below.length 0):=rfl;rw[zN]at hC dh cC db lD bm;refine bC E4 rfl ?_;unfold mp;simp only[ay,aD,aO,ax,ct,bG,bD,eA,ln,zN,d,m5,f0,f1,f2,hC,cC,db,lD,bm,Lo,ck]
  ·rw[if_neg ai]at ln;rw[if_pos (by simpa using ai)];refine⟨_,_,?_,ea.fail a (by decide) a4.drop⟩;refine bC E4 rfl ?_;unfold mp;simp only[ay,aD,aO,ax,ct,bG,bD,eA,ln]
 ·rw[if_pos Z];have eA:=rE (h:=h.push [r]) R Z;refine⟨_,_,?_,ea.fail a (by decide) a4.drop⟩;refine bC E4 rfl ?_;unfold mp;simp only[ay,aD,aO,ax,ct,bG,bD,eA]
theorem ain{p k n:Int}{x:ak}{S:bp}:gC p 14 k n [v,x] S=if v.kind≠4\/x.kind≠1 then S.no 2 else if iV (S.G.et v.n) 1=T then S.no 9 else if 0<=(S.G.target v.n).1.bw then S.no 2 else({S with log:=S.log++[oP.mk p (S.G.target v.n).1.cell 2 v.n],cells:=S.cells.set (S.G.target v.n).1.cell.toNat x.n}:bp).ok x:=rfl
theorem aio(s:aQ ae aH aA h L)(a:d' c L i n)(E:ha c n){x:ak}(R:b1 v r)(an:b1 x t)(k m:Int):∃aU J,a3 ar W 124 [.ptr c.a' 0 0,.agg r,.agg t] h=j (aU,J)/\ea ae aH aA c L i n (gC n.top.bw 14 k m [v,x] n.S) aU J:=by
 rw[ain];have a4:=(s.push [r]).push [t];have aJ:=(a.cons (a9 h.n [r])).cons (a9 (h.push [r]).n [t]);obtain⟨bG,bD⟩:=R.cZ;obtain⟨dE,fl⟩:=an.cZ;have a8:((h.push [r]).push [t]).cell h.n=j [r]:=(a4.cell 1 rfl).1;have bZ:((h.push [r]).push [t]).cell (h.n+1)=j [t]:=(a4.cell 0 rfl).1;by_cases Z:v.kind=4
 ·obtain⟨bM,eA,lr⟩:=rD (h:=(h.push [r]).push [t]) R Z;by_cases qk:x.kind=1
  ·rw[if_neg (by simp[Z,qk])];obtain⟨cV,u0,sY⟩:=rD (h:=(h.push [r]).push [t]) an qk;have ln:=Lq a4 aJ.m aJ.b aJ.g E.len E.S.wf R (k:=1) (q:=2) (by decide) (by decide);by_cases ai:iV (n.S.G.et v.n) 1=Q
   ·rw[if_pos ai]at ln;rw[if_neg (by simp[ai])];have bn:=a4.push [dS (n.S.G.target v.n).1];have a1:=aJ.cons (a9 ((h.push [r]).push [t]).n [dS (n.S.G.target v.n).1]);by_cases aB:0<=(n.S.G.target v.n).1.bw
    ·rw[if_pos aB];have d:decide (0<=(n.S.G.target v.n).1.bw)=Q:=decide_eq_true aB;refine⟨_,_,?_,ea.fail a (by decide) bn.drop.drop.drop⟩;refine bC BJ rfl ?_;unfold zz;simp only[ay,aD,aO,ax,ct,bG,bD,dE,fl,a8,bZ,eA,u0,ln,zN,d,oj]
    ·rw[if_neg aB];have d:decide (0<=(n.S.G.target v.n).1.bw)=T:=decide_eq_false aB;obtain⟨hC,dh,cC⟩:=o2 bn a1 E.len;obtain⟨db,lD⟩:=l9 bn a1 E.below;obtain⟨w,hw,_⟩:=an.o0;have b':(((h.push [r]).push [t]).push [dS (n.S.G.target v.n).1]).cell (h.n+1)=j [t]:=(bn.cell 1 rfl).1;have aip:t[1]? =j (.int o x.n):=by rw[hw];rfl
     obtain⟨af,bm,b0⟩:=agT bn (i+1+1+1+3) a1.w E.S.cells E.log (TW E.S.wf ai aB) n.top.bw v.n x.n;rw[a1.TF]at b0;have bf:=a1.put {n with S:={n.S with cells:=n.S.cells.set (n.S.G.target v.n).1.cell.toNat x.n,log:=n.S.log++[⟨n.top.bw,(n.S.G.target v.n).1.cell,2,v.n⟩]}};have du:=(b0.cell 1 rfl).1;simp only[fo]at du;obtain⟨aw,ck,cc⟩:=nL b0 bf E.below E.cA an;rw[gP,dM,dM,dM]at cc;refine⟨_,aw,?_,ea.ok cc.drop.drop.drop⟩;have f0:cf 0 (.ptr c.a' 0 0)=j (.ptr c.a' 0 0):=rfl;have f1:cf 1 (.ptr c.az 0 0)=j (.ptr c.az 0 1):=rfl;have f2:cf 0 (.ptr n.a5 n.below.length 0)=j (.ptr n.a5 n.below.length 0):=rfl;rw[zN]at hC dh cC db lD bm b';refine bC BJ rfl ?_;unfold zz;simp only[ay,aD,aO,ax,ct,bG,bD,dE,fl,a8,bZ,eA,u0,ln,zN,d,m5,f0,f1,f2,hC,cC,db,lD,b',aip,bm,du,ck]
   ·rw[if_neg ai]at ln;rw[if_pos (by simpa using ai)];refine⟨_,_,?_,ea.fail a (by decide) a4.drop.drop⟩;refine bC BJ rfl ?_;unfold zz;simp only[ay,aD,aO,ax,ct,bG,bD,dE,fl,a8,bZ,eA,u0,ln]
  ·rw[if_pos (.inr qk)];have u0:=rE (h:=(h.push [r]).push [t]) an qk;refine⟨_,_,?_,ea.fail a (by decide) a4.drop.drop⟩;refine bC BJ rfl ?_;unfold zz;simp only[ay,aD,aO,ax,ct,bG,bD,dE,fl,a8,bZ,eA,u0]
 ·rw[if_pos (.inl Z)];have eA:=rE (h:=(h.push [r]).push [t]) R Z;refine⟨_,_,?_,ea.fail a (by decide) a4.drop.drop⟩;refine bC BJ rfl ?_;unfold zz;simp only[ay,aD,aO,ax,ct,bG,bD,dE,fl,a8,eA]
end
section
variable{h J ae:ad}{ag ap aH aA:Nat->Prop}{L:List cd}{c:hf}{i:Nat}{n:eN}
theorem TX(s:aQ ae aH aA h L)(a:d' c L i n)(al:c.ms.length=n.S.kept.length)(dl:n.S.G.cz)(R:b1 v r)(lL g:Int):∃J,a3 ar W 125 [.ptr c.a' 0 0,.agg r,.int o lL,.int o g] h=j (if(n.S.G.derive v.n lL g).2.2=0 then .inl (.agg [.int o 4,.int o (n.S.G.derive v.n lL g).2.1,.aF])else .inr (.iface kS (.int o (n.S.G.derive v.n lL g).2.2)),J)/\aQ ae aH aA J (put c L i {n with S:={n.S with G:=(n.S.G.derive v.n lL g).1}}):=by
 have a4:=(s.push [r]).push [bt];have aJ:=(a.cons (a9 h.n [r])).cons (a9 (h.push [r]).n [bt]);obtain⟨w,hw,am⟩:=R.o0;obtain⟨bG,bD⟩:=R.cZ;have a8:((h.push [r]).push [bt]).cell h.n=j [r]:=(a4.cell 1 rfl).1;obtain⟨hC,dh,cC⟩:=o2 a4 aJ al;have au:r[1]? =j (.int o v.n):=by rw[hw];rfl
 obtain⟨O,aq,bn⟩:=Cg a4 aJ (dG:=λJ=>a3 ar W 79 [.ptr c.b6 0 0,.int o v.n,.int o lL,.int o g] ((h.push [r]).push [bt])=j (.inl (.bW [.int o (n.S.G.derive v.n lL g).2.1,.int o (n.S.G.derive v.n lL g).2.2]),J)) λag ap x=>Th x dl v.n lL g;rw[dM,dM]at bn;have bZ:=(bn.cell 0 rfl).1;simp only[fo]at bZ;have f0:cf 0 (.ptr c.a' 0 0)=j (.ptr c.a' 0 0):=rfl;have f1:cf 0 (.ptr c.az 0 0)=j (.ptr c.az 0 0):=rfl;by_cases aj:(n.S.G.derive v.n lL g).2.2=0
 ·have d:decide ((n.S.G.derive v.n lL g).2.2=0)=Q:=decide_eq_true aj;rw[if_pos aj];have b0:=bn.set 0 rfl [[.int o 4,.int o (n.S.G.derive v.n lL g).2.1,.aF]];refine⟨_,?_,b0.drop.drop⟩;generalize n.S.G.derive v.n lL g=q at*;refine bC Rf rfl ?_;unfold Ki;simp only[ay,aD,aO,ax,dI,ct,bG,bD,a8,hC,dh,f0,f1,au,aq,d,m5,bZ]
 ·have d:decide ((n.S.G.derive v.n lL g).2.2=0)=T:=decide_eq_false aj;rw[if_neg aj];refine⟨_,?_,bn.drop.drop⟩;generalize n.S.G.derive v.n lL g=q at*;refine bC Rf rfl ?_;unfold Ki;simp only[ay,aD,aO,ax,ct,bG,bD,a8,hC,dh,f0,f1,au,aq,d,oj]
theorem aiq{p k n:Int}{S:bp}:gC p 16 k n [v] S=if v.kind≠4 then S.no 2 else if S.G.gate.2.2≠0 then({S with G:=S.G.gate.1}:bp).no S.G.gate.2.2 else match S.G.gate.1.derive v.n 15 S.G.gate.2.1 with
   |(cU,m,c)=>if c≠0 then({S with G:=cU}:bp).no c else({S with G:=cU}:bp).ok (.mk 2 0 [jO m,.mk 5 S.G.gate.2.1 []]):=rfl
theorem air(s:aQ ae aH aA h L)(a:d' c L i n)(E:ha c n)(R:b1 v r)(k m:Int):∃aU J,a3 ar W 126 [.ptr c.a' 0 0,.agg r] h=j (aU,J)/\ea ae aH aA c L i n (gC n.top.bw 16 k m [v] n.S) aU J:=by
 rw[aiq];have a4:=s.push [r];have aJ:=a.cons (a9 h.n [r]);obtain⟨bG,bD⟩:=R.cZ;by_cases Z:v.kind=4
 ·rw[if_neg (by simpa using Z)];obtain⟨bM,eA,lr⟩:=rD (h:=h.push [r]) R Z;obtain⟨hC,dh,cC⟩:=o2 a4 aJ E.len;have f0:cf 0 (.ptr c.a' 0 0)=j (.ptr c.a' 0 0):=rfl;have f1:cf 0 (.ptr c.az 0 0)=j (.ptr c.az 0 0):=rfl;obtain⟨O,aq,bn⟩:=Cg a4 aJ (dG:=λJ=>a3 ar W 58 [.ptr c.b6 0 0] (h.push [r])=j (.inl (.bW [.int o n.S.G.gate.2.1,.int o n.S.G.gate.2.2]),J)) λag ap x=>QN x E.S.wf;have a1:=aJ.put {n with S:={n.S with G:=n.S.G.gate.1}};have LH:=bn;rw[dM]at LH;have bZ:=(LH.cell 0 rfl).1;by_cases aX:n.S.G.gate.2.2=0
  ·rw[if_neg (by simpa using aX)];have Gi:decide (n.S.G.gate.2.2=0)=Q:=decide_eq_true aX;obtain⟨af,bm,b0⟩:=TX bn a1 E.len (E.S.wf.gate) R 15 n.S.G.gate.2.1;rw[gP]at b0;have bf:=aJ.put {n with S:={n.S with G:=(n.S.G.gate.1.derive v.n 15 n.S.G.gate.2.1).1}};generalize n.S.G.gate.1.derive v.n 15 n.S.G.gate.2.1=q at*;obtain⟨cU,aR,jR⟩:=q;simp only at bm b0 bf ⊢;by_cases aj:jR=0
   ·subst aj;rw[if_pos rfl]at bm;rw[if_neg (by simp)];have cc:=(b0.push [[.int o 4,.int o aR,.aF]]).fresh 2;have cv:=(bf.cons (a9 af.n [[.int o 4,.int o aR,.aF]])).cons (A2 (af.push [[.int o 4,.int o aR,.aF]]).ids 2);have x3:b1 (.mk 2 0 [jO aR,.mk 5 n.S.G.gate.2.1 []]) [.int o 2,.int o 0,.bR (j af.ids) cg [[.int o 4,.int o aR,.aF],[.int o 5,.int o n.S.G.gate.2.1,.aF]]]:=Lp ⟨_,_,rfl,F6 aR,_,_,rfl,ahk _,rfl⟩;obtain⟨bg,eB,cE⟩:=nL cc cv E.below E.cA x3;rw[dM,dM,gP,dM]at cE;refine⟨_,bg,?_,ea.ok cE.drop.drop.drop⟩;refine bC E7 rfl ?_;unfold BK;simp only[ay,aD,aO,ax,dI,Nat.reduceLT,ct,bG,bD,eA,hC,dh,f0,f1,aq,Gi,m5,bZ,bm,eB]
   ·rw[if_neg aj]at bm;rw[if_pos aj];rw[dM]at b0;refine⟨_,_,?_,ea.no aj {n with S:={n.S with G:=cU}} rfl b0.drop⟩;refine bC E7 rfl ?_;unfold BK;simp only[ay,aD,aO,ax,ct,bG,bD,eA,hC,dh,f0,f1,aq,Gi,m5,bZ,bm]
  ·rw[if_pos aX];have Gi:decide (n.S.G.gate.2.2=0)=T:=decide_eq_false aX;refine⟨_,_,?_,ea.no aX {n with S:={n.S with G:=n.S.G.gate.1}} rfl LH.drop⟩;refine bC E7 rfl ?_;unfold BK;simp only[ay,aD,aO,ax,ct,bG,bD,eA,hC,dh,f0,f1,aq,Gi,oj]
 ·rw[if_pos Z];have eA:=rE (h:=h.push [r]) R Z;refine⟨_,_,?_,ea.fail a (by decide) a4.drop⟩;refine bC E7 rfl ?_;unfold BK;simp only[ay,aD,aO,ax,ct,bG,bD,eA]
theorem TY(s:aQ ae aH aA h L)(a:d' c L i n)(ai:n.below.length<=100){f:hH}{hs:List I}{g:I}(aM:b1 f.arg hs)(aX:fE 3 g (jY f.ec))(av:f.stack=[])(au:f.names=[]):(n.below.length+1=20->∃J,a3 ar W 127 [.ptr c.a' 0 0,.agg (fP f hs .aF .aF g)] h=j (.inr (.iface kS (.int o 4)),J)/\aQ ae aH aA J L)/\(n.below.length+1≠20->∃J gq,a3 ar W 127 [.ptr c.a' 0 0,.agg (fP f hs .aF .aF g)] h=j (.inl (.bW []),J)/\aQ ae aH aA J (put c L i ⟨gq,n.S,n.below++[n.top],f⟩)):=by
 have kR:g.one=Q:=by rcases aX with⟨_,rfl⟩|⟨id,rfl⟩<;>rfl
 have bD:=(m4 f hs .aF .aF g aM.cZ.1).2.1;have bG:=FD (f:=f) (s:=.aF) (n:=.aF) aM.cZ rfl rfl kR;generalize ka:fP f hs .aF .aF g=row at*;have a4:=s.push [row];have aJ:=a.cons (a9 h.n [row]);obtain⟨_,_,_,_,ba⟩:=nK a4 (i+1) aJ.m;have hx:∀(k:Nat) (x:ad),x.cell c.a'=j [[.ptr c.az 0 0,.bd n.a5 0 (n.below.length+1) eM,.int o (n.S.left:Int)]]->c0 T k x (.ptr c.a' 0 1)=j (.bd n.a5 0 (n.below.length+1) eM):=λk x an=>by rw[hD,an];rfl
 have dh:=λk=>hx k _ ba.m;have f1:cf 1 (.ptr c.a' 0 0)=j (.ptr c.a' 0 1):=rfl;refine⟨λpy=>?_,λpy=>?_⟩
 ·have d:decide (((n.below.length+1:Nat):Int)=20)=Q:=decide_eq_true (by omega);refine⟨_,?_,a4.drop⟩;refine bC Ri rfl ?_;unfold Kj;simp only[ay,aD,aO,ax,ct,bG,bD,f1,dh,d,oj]
 ·have d:decide (((n.below.length+1:Nat):Int)=20)=T:=decide_eq_false (by omega);have bn:=a4.push [row];have a1:=aJ.cons (a9 (h.push [row]).n [row]);obtain⟨_,_,_,_,tD⟩:=nK bn (i+2) a1.m;have cC:=λk=>hx k _ tD.m;obtain⟨af,aw,bm,ck,cc⟩:=ahf bn (i+1+1) a1.m (f:=f) (a:=hs) (g:=g) aM aX av au (by omega) (kT:=h.n+1) (by rw[ka];exact(bn.cell 0 rfl).1);rw[a1.tE,dM,dM]at cc;have a8:(h.push [row]).cell h.n=j [row]:=(a4.cell 0 rfl).1;simp only[fo]at bm ck;refine⟨_,_,?_,cc.drop.drop⟩;refine bC Ri rfl ?_;unfold Kj;simp only[ay,aD,aO,ax,ct,bG,bD,f1,dh,cC,d,m5,a8,bm,ck]
theorem ais{p k n:Int}{S:bp}:gC p 9 k n [v] S=if v.kind≠2 then S.no 2 else S.ok (v.l.getD 0 bE):=rfl
theorem ait{p k n:Int}{S:bp}:gC p 10 k n [v] S=if v.kind≠2 then S.no 2 else S.ok (v.l.getD 1 bE):=rfl
end
abbrev lN:cJ:=86
section
variable{h J ae:ad}{ag ap aH aA:Nat->Prop}{L:List cd}{c:hf}{i:Nat}{n:eN}
theorem aiu(k x y:Int):a3 ar W 12 [.int o k,.int o x,.int o y] h=j (.inl (.int o (A3 k x y)),h):=by
 unfold A3;by_cases F:k=1
 ·subst F;refine bC wa rfl ?_;unfold uN;simp only[ay,aD,aO,ax]
 have d1:decide (k=1)=T:=decide_eq_false F;rw[if_neg F];by_cases O:k=2
 ·subst O;rw[if_pos rfl];refine bC wa rfl ?_;unfold uN;simp only[ay,aD,aO,ax,d1]
 have d2:decide (k=2)=T:=decide_eq_false O;rw[if_neg O];by_cases af:k=3
 ·subst af;rw[if_pos rfl];refine bC wa rfl ?_;unfold uN;simp only[ay,aD,aO,ax,d1,d2]
 have d3:decide (k=3)=T:=decide_eq_false af;rw[if_neg af];by_cases aw:k=4
 ·subst aw;rw[if_pos rfl];by_cases al:x<y
  ·have sH:decide (x<y)=Q:=decide_eq_true al;rw[if_pos al];refine bC wa rfl ?_;unfold uN;simp only[ay,aD,aO,ax,d1,d2,d3,sH]
  ·have sH:decide (x<y)=T:=decide_eq_false al;rw[if_neg al];refine bC wa rfl ?_;unfold uN;simp only[ay,aD,aO,ax,d1,d2,d3,sH]
 have d4:decide (k=4)=T:=decide_eq_false aw;rw[if_neg aw];by_cases bg:k=5
 ·subst bg;rw[if_pos rfl];by_cases al:x=y
  ·have sH:decide (x=y)=Q:=decide_eq_true al;rw[if_pos al];refine bC wa rfl ?_;unfold uN;simp only[ay,aD,aO,ax,d1,d2,d3,d4,sH]
  ·have sH:decide (x=y)=T:=decide_eq_false al;rw[if_neg al];refine bC wa rfl ?_;unfold uN;simp only[ay,aD,aO,ax,d1,d2,d3,d4,sH]
 have d5:decide (k=5)=T:=decide_eq_false bg;rw[if_neg bg];refine bC wa rfl ?_;unfold uN;simp only[ay,aD,aO,ax,d1,d2,d3,d4,d5]
abbrev dK(op k m:Int):List I:=[.int o op,.int o k,.int o m]
abbrev eN.cA(n:eN)(l:List ak):eN:={n with top:={n.top with stack:=l}}
theorem rG(s:aQ ae aH aA h L)(a:d' c L i n)(E:ha c n){st:List ak}(bB:n.top.stack=st++[v]):∃J r,a3 ar W 83 [.ptr c.a' 0 0] h=j (.inl (.agg r),J)/\b1 v r/\aQ ae aH aA J (put c L i (n.cA st))/\d' c (put c L i (n.cA st)) i (n.cA st):=by have gc:=E.cA;rw[bB]at gc;simp only[eP,gp]at gc;obtain⟨J,r,e,R,dW⟩:=LG s a bB E.below (by omega);exact⟨J,r,e,R,dW,a.put _⟩
theorem Gj(s:aQ ae aH aA h L)(a:d' c L i n)(E:ha c n){st:List ak}{w:ak}(bB:n.top.stack=st++[v]++[w]):∃O af kH b4,a3 ar W 83 [.ptr c.a' 0 0] h=j (.inl (.agg kH),O)/\a3 ar W 83 [.ptr c.a' 0 0] O=j (.inl (.agg b4),af)/\b1 w kH/\b1 v b4/\aQ ae aH aA af (put c L i (n.cA st))/\d' c (put c L i (n.cA st)) i (n.cA st):=by have gc:=E.cA;rw[bB]at gc;simp only[eP,gp]at gc;obtain⟨O,bQ,aq,hw,bn⟩:=LG s a bB E.below (by simp;omega);obtain⟨af,gL,bm,R,b0⟩:=LG bn (a.put (n.cA (st++[v]))) rfl E.below (by omega);rw[gP]at b0;exact⟨O,af,bQ,gL,aq,bm,hw,R,b0,a.put _⟩
theorem ha.pI{n:eN}{st:List ak}(E:ha c n)(bB:n.top.stack=st++l):ha c (n.cA st):=by have gc:=E.cA;rw[bB]at gc;simp only[eP]at gc;exact⟨E.ms,E.S,E.below,by simp only;omega,E.tp,E.log⟩
theorem aiv{p k n:Int}{x:ak}{S:bp}:gC p 6 k n [v,x] S=if v.kind≠1\/x.kind≠1 then S.no 2 else S.ok (iC (A3 k v.n x.n)):=rfl
theorem aiw(s:aQ ae aH aA h L)(a:d' c L i n)(E:ha c n){st:List ak}{w:ak}(bB:n.top.stack=st++[v]++[w])(k m:Int):∃aU J,a3 ar W lN [.ptr c.a' 0 0,.agg (dK 6 k m)] h=j (aU,J)/\ea ae aH aA c L i (n.cA st) (gC n.top.bw 6 k m [v,w] n.S) aU J:=by
 rw[aiv];have a4:=s.push [dK 6 k m];have aJ:=a.cons (a9 h.n [dK 6 k m]);obtain⟨db,lD⟩:=l9 a4 aJ E.below;have a8:=(a4.cell 0 rfl).1;obtain⟨O,af,kH,b4,aq,bm,hw,R,b0,bf⟩:=Gj a4 aJ E bB;rw[dM]at b0 bf;have dE:=(E.pI (st:=st) (l:=[v]++[w]) (by rw[bB,kv]));have cc:=(b0.push [bt]).push [bt];have cE:aQ ae aH aA _ (a9 (af.n+1) [bt]::a9 af.n [kH]::a9 h.n [dK 6 k m]::put c L i (n.cA st)):=cc.set 1 rfl [kH];have ee:aQ ae aH aA _ (a9 (af.n+1) [b4]::a9 af.n [kH]::a9 h.n [dK 6 k m]::put c L i (n.cA st)):=cE.set 0 rfl [b4];have i8:=(bf.cons (a9 af.n [kH])).cons (a9 (af.n+1) [b4]);obtain⟨bG,bD⟩:=hw.cZ;obtain⟨iS,fl⟩:=R.cZ;have kU:=(cE.cell 0 rfl).1;have bN:=(ee.cell 0 rfl).1;have bL:=(ee.cell 1 rfl).1;have c2:=(ee.cell 2 rfl).1;generalize rH:(((af.push [bt]).push [bt]).set af.n (j [kH])).set (af.n+1) (j [b4])=cj at*;by_cases Z:v.kind=1
 ·obtain⟨bT,Gk,lr⟩:=rD (h:=cj) R Z;by_cases qk:w.kind=1
  ·rw[if_neg (by simp[Z,qk])];obtain⟨bQ,u0,kA⟩:=rD (h:=cj) hw qk;obtain⟨fT,Ag,_⟩:=R.o0;obtain⟨jf,Ah,_⟩:=hw.o0;have ek:b4[1]? =j (.int o v.n):=by rw[Ag];rfl
   have iA:kH[1]? =j (.int o w.n):=by rw[Ah];rfl
   obtain⟨cT,oV,jS⟩:=nL ee i8 E.below dE.cA (Ce (A3 k v.n w.n));rw[dM,dM,dM,gP]at jS;refine⟨_,cT,?_,ea.ok jS.drop.drop.drop⟩;refine bC l7 rfl ?_;unfold lI;simp only[ay,aD,aO,ax,dI,Nat.reduceLT,ct,db,a8,eD,aq,bm,bG,bD,iS,fl,kU,rH,bN,bL,c2,Gk,u0,ek,iA,aiu,Lo,oV]
  ·rw[if_pos (.inr qk)];have u0:=rE (h:=cj) hw qk;refine⟨_,_,?_,ea.no (by decide) (n.cA st) rfl ee.drop.drop.drop⟩;refine bC l7 rfl ?_;unfold lI;simp only[ay,aD,aO,ax,dI,Nat.reduceLT,ct,db,a8,eD,aq,bm,bG,bD,iS,fl,kU,rH,bN,bL,Gk,u0]
 ·rw[if_pos (.inl Z)];have Gk:=rE (h:=cj) R Z;refine⟨_,_,?_,ea.no (by decide) (n.cA st) rfl ee.drop.drop.drop⟩;refine bC l7 rfl ?_;unfold lI;simp only[ay,aD,aO,ax,dI,Nat.reduceLT,ct,db,a8,eD,aq,bm,bG,bD,iS,fl,kU,rH,bN,bL,Gk]
end
section
variable{h J ae:ad}{ag ap aH aA:Nat->Prop}{L:List cd}{c:hf}{i:Nat}{n:eN}
theorem aix{p k n:Int}{x:ak}{S:bp}:gC p 8 k n [v,x] S=if(ak.mk 2 0 [v,x]).code≠0 then S.no 3 else S.ok (.mk 2 0 [v,x]):=rfl
theorem aiy{p k n:Int}{S:bp}:gC p 11 k n [v] S=if(ak.mk 3 p [v]).code≠0 then S.no 3 else S.ok (.mk 3 p [v]):=rfl
theorem aiz{p k n:Int}{S:bp}:gC p 12 k n [v] S=if v.kind≠3 then S.no 2 else if v.n≠p then S.no 10 else S.ok (v.l.getD 0 bE):=rfl
theorem aiA(s:aQ ae aH aA h L)(a:d' c L i n)(E:ha c n){st:List ak}{w:ak}(bB:n.top.stack=st++[v]++[w])(k m:Int):∃aU J,a3 ar W lN [.ptr c.a' 0 0,.agg (dK 8 k m)] h=j (aU,J)/\ea ae aH aA c L i (n.cA st) (gC n.top.bw 8 k m [v,w] n.S) aU J:=by
 rw[aix];have a4:=s.push [dK 8 k m];have aJ:=a.cons (a9 h.n [dK 8 k m]);obtain⟨db,lD⟩:=l9 a4 aJ E.below;have a8:=(a4.cell 0 rfl).1;obtain⟨O,af,kH,b4,aq,bm,hw,R,b0,bf⟩:=Gj a4 aJ E bB;rw[dM]at b0 bf;have dE:=(E.pI (st:=st) (l:=[v]++[w]) (by rw[bB,kv]));have cc:=(b0.push [bt]).push [bt];have cE:aQ ae aH aA _ (a9 (af.n+1) [bt]::a9 af.n [kH]::a9 h.n [dK 8 k m]::put c L i (n.cA st)):=cc.set 1 rfl [kH];have ee:aQ ae aH aA _ (a9 (af.n+1) [b4]::a9 af.n [kH]::a9 h.n [dK 8 k m]::put c L i (n.cA st)):=cE.set 0 rfl [b4];have i8:=(bf.cons (a9 af.n [kH])).cons (a9 (af.n+1) [b4]);obtain⟨bG,bD⟩:=hw.cZ;obtain⟨iS,fl⟩:=R.cZ;have kU:=(cE.cell 0 rfl).1;have bN:=(ee.cell 0 rfl).1;have bL:=(ee.cell 1 rfl).1;generalize rH:(((af.push [bt]).push [bt]).set af.n (j [kH])).set (af.n+1) (j [b4])=cj at*;have jS:=ee.fresh 2;have v0:=i8.cons (A2 cj.ids 2);have x3:b1 (.mk 2 0 [v,w]) [.int o 2,.int o 0,.bR (j cj.ids) cg [b4,kH]]:=Lp ⟨_,_,rfl,R,_,_,rfl,hw,rfl⟩;by_cases Z:(ak.mk 2 0 [v,w]).code=0
 ·rw[if_neg (by simpa using Z)];obtain⟨bM,es,fZ⟩:=Tx (h:=cj.fresh 2) x3 Z;obtain⟨hA,zK,j1⟩:=nL jS v0 E.below dE.cA fZ;rw[dM,dM,dM,dM,gP]at j1;refine⟨_,hA,?_,ea.ok j1.drop.drop.drop.drop⟩;refine bC l7 rfl ?_;unfold lI;simp only[ay,aD,aO,ax,dI,Nat.reduceLT,ct,db,a8,eD,aq,bm,bG,bD,iS,fl,kU,rH,bN,bL,es,zK]
 ·rw[if_pos Z];have es:=Ty (h:=cj.fresh 2) x3 Z;refine⟨_,_,?_,ea.no (by decide) (n.cA st) rfl jS.drop.drop.drop.drop⟩;refine bC l7 rfl ?_;unfold lI;simp only[ay,aD,aO,ax,dI,Nat.reduceLT,ct,db,a8,eD,aq,bm,bG,bD,iS,fl,kU,rH,bN,bL,es]
theorem b1.part(R:b1 v r){x:ak}(an:v.l[D]? =j x):∃dy x4,r[2]? =j dy/\(∀q:jC,ft (j cg) ab dy (.int q (D:Int))=j (.ip x4 0))/\gG Q 3 x4 0=j (.agg x4)/\b1 x x4:=by
 cases v with
 |mk k n l=>
   obtain⟨w,es,rfl,F,O⟩:=R;obtain⟨x4,ao,aq⟩:=O.get an;rcases F with⟨rfl,_⟩|⟨id,rfl⟩
   ·simp at ao
   ·exact⟨_,x4,rfl,λq=>Eb rfl ao,kQ aq.cZ.1,aq⟩
theorem TZ(s:aQ ae aH aA h L)(a:d' c L i n)(E:ha c n){st:List ak}(bB:n.top.stack=st++[v])(aj:v.code=0)(U:D<2):∃aU J,a3 ar W 110 [.ptr c.a' 0 0,.int o (D:Int)] h=j (aU,J)/\ea ae aH aA c L i (n.cA st) (if v.kind≠2 then n.S.no 2 else n.S.ok (v.l.getD D bE)) aU J:=by
 obtain⟨O,r,aq,R,bn,a1⟩:=rG s a E bB;have dE:=E.pI bB;by_cases Z:v.kind=2
 ·rw[if_neg (by simpa using Z)];obtain⟨x,y,Bv⟩:=(Po aj).1 Z;obtain⟨z,aN⟩:∃z,v.l[D]? =j z:=by rw[Bv];match D,U with|0,_=>exact⟨x,rfl⟩|1,_=>exact⟨y,rfl⟩
  have LI:v.l.getD D bE=z:=by simp[cK,aN]
  rw[LI];obtain⟨bM,eA,fZ⟩:=rD (h:=O) R Z;obtain⟨bG,bD⟩:=fZ.cZ;obtain⟨dy,T0,ed,gJ,jy,q8⟩:=fZ.part aN;have b0:=bn.push [bM];have bf:=a1.cons (a9 O.n [bM]);have b':=(b0.cell 0 rfl).1;obtain⟨aw,ck,cc⟩:=nL b0 bf E.below dE.cA q8;rw[dM,gP]at cc;refine⟨_,aw,?_,ea.ok cc.drop⟩;refine bC Rm rfl ?_;unfold Kk;simp only[ay,aD,aO,ax,ct,aq,eA,bG,bD,b',ed,gJ,jy,ck]
 ·rw[if_pos Z];have eA:=rE (h:=O) R Z;refine⟨_,_,?_,ea.no (by decide) (n.cA st) rfl bn⟩;refine bC Rm rfl ?_;unfold Kk;simp only[ay,aD,aO,ax,ct,aq,eA]
theorem aiB(s:aQ ae aH aA h L)(a:d' c L i n)(E:ha c n){st:List ak}(bB:n.top.stack=st++[v])(aj:v.code=0)(k m:Int):∃aU J,a3 ar W lN [.ptr c.a' 0 0,.agg (dK 9 k m)] h=j (aU,J)/\ea ae aH aA c L i (n.cA st) (gC n.top.bw 9 k m [v] n.S) aU J:=by
 rw[ais];have a4:=s.push [dK 9 k m];have aJ:=a.cons (a9 h.n [dK 9 k m]);obtain⟨db,lD⟩:=l9 a4 aJ E.below;have a8:=(a4.cell 0 rfl).1;obtain⟨aU,O,aq,bQ⟩:=TZ a4 aJ E bB aj (D:=0) (by decide);have aq:a3 ar W 110 [.ptr c.a' 0 0,.int o 0] (h.push [dK 9 k m])=j (aU,O):=aq;refine⟨aU,O,?_,bQ.drop⟩;rcases bQ with⟨_,rfl,_⟩|⟨_,rfl,_⟩
 ·refine bC l7 rfl ?_;unfold lI;simp only[ay,aD,aO,ax,ct,db,a8,eD,aq]
 ·refine bC l7 rfl ?_;unfold lI;simp only[ay,aD,aO,ax,ct,db,a8,eD,aq]
theorem aiC(s:aQ ae aH aA h L)(a:d' c L i n)(E:ha c n){st:List ak}(bB:n.top.stack=st++[v])(aj:v.code=0)(k m:Int):∃aU J,a3 ar W lN [.ptr c.a' 0 0,.agg (dK 10 k m)] h=j (aU,J)/\ea ae aH aA c L i (n.cA st) (gC n.top.bw 10 k m [v] n.S) aU J:=by
 rw[ait];have a4:=s.push [dK 10 k m];have aJ:=a.cons (a9 h.n [dK 10 k m]);obtain⟨db,lD⟩:=l9 a4 aJ E.below;have a8:=(a4.cell 0 rfl).1;obtain⟨aU,O,aq,bQ⟩:=TZ a4 aJ E bB aj (D:=1) (by decide);have aq:a3 ar W 110 [.ptr c.a' 0 0,.int o 1] (h.push [dK 10 k m])=j (aU,O):=aq;refine⟨aU,O,?_,bQ.drop⟩;rcases bQ with⟨_,rfl,_⟩|⟨_,rfl,_⟩
 ·refine bC l7 rfl ?_;unfold lI;simp only[ay,aD,aO,ax,ct,db,a8,eD,aq]
 ·refine bC l7 rfl ?_;unfold lI;simp only[ay,aD,aO,ax,ct,db,a8,eD,aq]
theorem aiD(s:aQ ae aH aA h L)(a:d' c L i n)(E:ha c n){st:List ak}(bB:n.top.stack=st++[v])(k m:Int):∃aU J,a3 ar W lN [.ptr c.a' 0 0,.agg (dK 11 k m)] h=j (aU,J)/\ea ae aH aA c L i (n.cA st) (gC n.top.bw 11 k m [v] n.S) aU J:=by
 rw[aiy];have a4:=s.push [dK 11 k m];have aJ:=a.cons (a9 h.n [dK 11 k m]);obtain⟨db,_⟩:=l9 a4 aJ E.below;have a8:=(a4.cell 0 rfl).1;obtain⟨O,r,aq,R,bn,a1⟩:=rG a4 aJ E bB;rw[dM]at bn a1;have dE:=E.pI bB;obtain⟨bG,bD⟩:=R.cZ;have b0:=bn.push [r];have bf:=a1.cons (a9 O.n [r]);have b':=(b0.cell 0 rfl).1;obtain⟨_,Ch⟩:=l9 b0 bf E.below;have cc:=b0.fresh 1;have cv:=bf.cons (A2 (O.push [r]).ids 1);obtain⟨_,T1⟩:=l9 cc cv E.below;have f0:cf 0 (.ptr n.a5 n.below.length 0)=j (.ptr n.a5 n.below.length 0):=rfl;have x3:b1 (.mk 3 n.top.bw [v]) [.int o 3,.int o n.top.bw,.bR (j O.ids) cg [r]]:=Lp ⟨_,_,rfl,R,rfl⟩;by_cases Z:(ak.mk 3 n.top.bw [v]).code=0
 ·rw[if_neg (by simpa using Z)];obtain⟨bM,es,fZ⟩:=Tx (h:=(O.push [r]).fresh 1) x3 Z;obtain⟨bg,eB,cE⟩:=nL cc cv E.below dE.cA fZ;rw[dM,dM,dM,gP]at cE;refine⟨_,bg,?_,ea.ok cE.drop.drop.drop⟩;refine bC l7 rfl ?_;unfold lI;simp only[ay,aD,aO,ax,dI,ct,db,a8,eD,aq,bG,bD,b',f0,Ch,T1,es,eB]
 ·rw[if_pos Z];have es:=Ty (h:=(O.push [r]).fresh 1) x3 Z;refine⟨_,_,?_,ea.no (by decide) (n.cA st) rfl cc.drop.drop.drop⟩;refine bC l7 rfl ?_;unfold lI;simp only[ay,aD,aO,ax,dI,ct,db,a8,eD,aq,bG,bD,b',f0,Ch,T1,es]
theorem aiE(s:aQ ae aH aA h L)(a:d' c L i n)(E:ha c n){st:List ak}(bB:n.top.stack=st++[v])(aj:v.code=0)(k m:Int):∃aU J,a3 ar W lN [.ptr c.a' 0 0,.agg (dK 12 k m)] h=j (aU,J)/\ea ae aH aA c L i (n.cA st) (gC n.top.bw 12 k m [v] n.S) aU J:=by
 rw[aiz];have a4:=s.push [dK 12 k m];have aJ:=a.cons (a9 h.n [dK 12 k m]);obtain⟨db,_⟩:=l9 a4 aJ E.below;have a8:=(a4.cell 0 rfl).1;obtain⟨O,r,aq,R,bn,a1⟩:=rG a4 aJ E bB;rw[dM]at bn a1;have dE:=E.pI bB;have f0:cf 0 (.ptr n.a5 n.below.length 0)=j (.ptr n.a5 n.below.length 0):=rfl;by_cases Z:v.kind=3
 ·rw[if_neg (by simpa using Z)];obtain⟨x,an⟩:=(Po aj).2 Z;have aN:v.l[0]? =j x:=by rw[an];rfl
  have LI:v.l.getD 0 bE=x:=by rw[an];rfl
  rw[LI];obtain⟨bM,eA,fZ⟩:=rD (h:=O) R Z;obtain⟨bG,bD⟩:=fZ.cZ;obtain⟨dy,T0,ed,gJ,jy,q8⟩:=fZ.part aN;have gJ:∀q:jC,ft (j cg) ab dy (.int q 0)=j (.ip T0 0):=gJ;obtain⟨w,hw,_⟩:=fZ.o0;have au:bM[1]? =j (.int o v.n):=by rw[hw];rfl
  have b0:=bn.push [bM];have bf:=a1.cons (a9 O.n [bM]);have b':=(b0.cell 0 rfl).1;obtain⟨_,Ch⟩:=l9 b0 bf E.below;by_cases aB:v.n=n.top.bw
  ·rw[if_neg (by simpa using aB)];have d:decide (v.n=n.top.bw)=Q:=decide_eq_true aB;obtain⟨aw,ck,cc⟩:=nL b0 bf E.below dE.cA q8;rw[dM,dM,gP]at cc;refine⟨_,aw,?_,ea.ok cc.drop.drop⟩;refine bC l7 rfl ?_;unfold lI;simp only[ay,aD,aO,ax,ct,db,a8,eD,aq,eA,bG,bD,b',au,f0,Ch,d,m5,ed,gJ,jy,ck]
  ·rw[if_pos aB];have d:decide (v.n=n.top.bw)=T:=decide_eq_false aB;refine⟨_,_,?_,ea.no (by decide) (n.cA st) rfl b0.drop.drop⟩;refine bC l7 rfl ?_;unfold lI;simp only[ay,aD,aO,ax,ct,db,a8,eD,aq,eA,bG,bD,b',au,f0,Ch,d,oj]
 ·rw[if_pos Z];have eA:=rE (h:=O) R Z;refine⟨_,_,?_,ea.no (by decide) (n.cA st) rfl bn.drop⟩;refine bC l7 rfl ?_;unfold lI;simp only[ay,aD,aO,ax,ct,db,a8,eD,aq,eA]
theorem aiF(s:aQ ae aH aA h L)(a:d' c L i n)(E:ha c n)(k m:Int):∃J,a3 ar W lN [.ptr c.a' 0 0,.agg (dK 1 k m)] h=j (.inl (.bW []),J)/\aQ ae aH aA J (put c L i (n.cA (n.top.stack++[bE]))):=by have a4:=s.push [dK 1 k m];have aJ:=a.cons (a9 h.n [dK 1 k m]);obtain⟨db,_⟩:=l9 a4 aJ E.below;have a8:=(a4.cell 0 rfl).1;obtain⟨O,aq,bn⟩:=nL a4 aJ E.below E.cA pG;rw[dM]at bn;refine⟨O,?_,bn.drop⟩;refine bC l7 rfl ?_;unfold lI;simp only[ay,aD,aO,ax,ct,db,a8,eD,aq]
theorem aiG(s:aQ ae aH aA h L)(a:d' c L i n)(E:ha c n)(k m:Int):∃J,a3 ar W lN [.ptr c.a' 0 0,.agg (dK 2 k m)] h=j (.inl (.bW []),J)/\aQ ae aH aA J (put c L i (n.cA (n.top.stack++[iC m]))):=by have a4:=s.push [dK 2 k m];have aJ:=a.cons (a9 h.n [dK 2 k m]);obtain⟨db,_⟩:=l9 a4 aJ E.below;have a8:=(a4.cell 0 rfl).1;obtain⟨O,aq,bn⟩:=nL a4 aJ E.below E.cA (Ce m);rw[dM]at bn;refine⟨O,?_,bn.drop⟩;refine bC l7 rfl ?_;unfold lI;simp only[ay,aD,aO,ax,ct,db,a8,eD,Lo,aq]
theorem aiH(s:aQ ae aH aA h L)(a:d' c L i n)(E:ha c n)(k m:Int):∃J,a3 ar W lN [.ptr c.a' 0 0,.agg (dK 3 k m)] h=j (.inl (.bW []),J)/\aQ ae aH aA J (put c L i (n.cA (n.top.stack++[n.top.arg]))):=by have a4:=s.push [dK 3 k m];have aJ:=a.cons (a9 h.n [dK 3 k m]);obtain⟨db,_⟩:=l9 a4 aJ E.below;have a8:=(a4.cell 0 rfl).1;obtain⟨hs,dv,aI,g,ba⟩:=nK a4 (i+1) aJ.m;have f3:cf 3 (.ptr n.a5 n.below.length 0)=j (.ptr n.a5 n.below.length 3):=rfl;have om:=ba.arg;obtain⟨O,aq,bn⟩:=nL a4 aJ E.below E.cA ba.aM;rw[dM]at bn;refine⟨O,?_,bn.drop⟩;refine bC l7 rfl ?_;unfold lI;simp only[ay,aD,aO,ax,ct,db,a8,eD,f3,om,aq]
theorem aiI(s:aQ ae aH aA h L)(a:d' c L i n)(E:ha c n){k:Int}(Z:0<=k/\k<n.top.names.length)(m:Int):∃J,a3 ar W lN [.ptr c.a' 0 0,.agg (dK 4 k m)] h=j (.inl (.bW []),J)/\aQ ae aH aA J (put c L i (n.cA (n.top.stack++[n.top.names.getD (n.top.names.length - 1 - k.toNat) bE]))):=by have a4:=s.push [dK 4 k m];have aJ:=a.cons (a9 h.n [dK 4 k m]);obtain⟨db,_⟩:=l9 a4 aJ E.below;have a8:=(a4.cell 0 rfl).1;obtain⟨hs,dv,aI,g,ba⟩:=nK a4 (i+1) aJ.m;have f7:cf 7 (.ptr n.a5 n.below.length 0)=j (.ptr n.a5 n.below.length 7):=rfl;have zO:=λq=>ba.rd q 7 aI (m4 n.top hs dv aI g ba.aM.cZ.1).2.2.1;obtain⟨p,x4,ed,gJ,jy⟩:=ba.aI.2.2.2.2 o (n.top.names.length - 1 - k.toNat) (n.top.names.getD (n.top.names.length - 1 - k.toNat) bE) (by simp only[cK];rw[fz (by omega)];rfl);have au:=E.tp;have dm:jN o ((n.top.names.length:Int) - 1)=(n.top.names.length:Int) - 1:=ht (by omega) (by omega);have gu:jN o ((n.top.names.length:Int) - 1 - k)=((n.top.names.length - 1 - k.toNat:Nat):Int):=xE (by omega) (by omega) (by omega);have aiJ:=ba.aI.2.2.1;have fn:=ba.aI.2.2.2.1;obtain⟨O,aq,bn⟩:=nL a4 aJ E.below E.cA jy;rw[dM]at bn;refine⟨O,?_,bn.drop⟩;refine bC l7 rfl ?_;unfold lI;simp only[ay,aD,aO,ax,ct,db,a8,eD,f7,zO,aiJ,fn,dm,gu,ed,gJ,aq]
end
def IR(ae:ad)(aH aA:Nat->Prop)(c:hf)(L:List cd)(i:Nat)(q:oQ)(aU:I⊕I)(J:ad):Prop:=match q with
 |.go m=>aU= .inl (.bW [])/\∃gq,aQ ae aH aA J (put c L i ⟨gq,m.S,m.below,m.top⟩)
 |.fail S k=>aU= .inr (.iface kS (.int o k))/\∃bS:eN,bS.S=S/\aQ ae aH aA J (put c L i bS)
 |.over _ _=>False
section
variable{h J ae:ad}{ag ap aH aA:Nat->Prop}{L:List cd}{c:hf}{i:Nat}{n:eN}
theorem x5(M:List bk):h0 (kE M)=j M.length/\(∀s,jL s (j 158) (kE M)=Q)/\(kE M).one=Q:=by unfold kE;exact⟨by simp[h0],λs=>AR,rfl⟩
theorem aiK(e:aT)(rows:List (List I)):fE e (jM e rows) rows:=by
 unfold jM;by_cases aN:rows=[]
 ·exact .inl ⟨aN,by rw[if_pos aN]⟩
 ·exact .inr ⟨ab,by rw[if_neg aN]⟩
theorem Gl(s:aQ ae aH aA h L)(a:d' c L i n)(E:ha c n){p:Nat}(aB:p<4):(∀q:jC,ft ab (j (4,5)) (.ptr c.az 0 2) (.int q (p:Int))=j (.ptr c.az 0 (2+p*5)))/\(∀k:Nat,c0 T k h (.ptr c.az 0 (2+p*5+1))=j (oR (c.ms.getD p ab)))/\∃r,c0 Q 3 h (.ptr c.az 0 (2+p*5+2))=j (.agg r)/\b1 (n.S.kept.getD p bE) r/\c0 Q 5 h (.ptr c.az 0 (2+p*5))=j (.agg (.bool (c.ms.getD p ab).isSome::oR (c.ms.getD p ab)::r))/\c.az<h.n:=by
 obtain⟨ag,ap,x⟩:=s.get (i+1) a.b;obtain⟨row,a8,T2,_,_,_,ky⟩:=Ld x E.len;obtain⟨bN,bL,r,c2,fm,nu⟩:=ky p (by rw[E.ms];exact aB);refine⟨λq=>by simp[ft,aB],λk=>?_,r,?_,fm,?_,T2⟩
 ·rw[hD,a8,c7,n4,c7,pq,bL]
 ·rw[hD,a8,c7,n4,c7,c2]
 ·rw[hD,a8,c7,n4,c7,nu]
theorem T3{b i off k:Nat}{g:Bool}{es:List (List I)}(ai:b<h.n):c0 g k (h.push es) (.ptr b i off)=c0 g k h (.ptr b i off):=by rw[hD,hD,bi ai]
abbrev Gm:List I:=[.bool T,.aF,.int o 0,.int o 0,.aF]
theorem aiL{G:aC}{i:Int}{k:Nat}(ai:iV (G.et i) k=Q):G.has i=Q:=by
 cases h:G.has i with
 |true=>rfl
 |false=>
   have:G.et i=0:=by unfold aC.et;rw[if_pos (.inl (aC.tl h))]
   rw[this]at ai;have O:iV 0 k=T:=by unfold iV;rw[Int.zero_ediv];decide
   rw[O]at ai;cases ai
def m6(ae:ad)(aH aA:Nat->Prop)(c:hf)(L:List cd)(i:Nat)(n:eN)(q:bp×tn×Int)(aU:I⊕I)(J:ad):Prop:=(q.2.2=0/\aU= .inl (.bW [])/\∃gq,aQ ae aH aA J (put c L i ⟨gq,q.1,n.below++[n.top],⟨q.2.1.bw,q.2.1.func,0,q.2.1.arg,[],[],Q,q.2.1.ec⟩⟩))\/(q.2.2≠0/\aU= .inr (.iface kS (.int o q.2.2))/\∃bS:eN,bS.S=q.1/\aQ ae aH aA J (put c L i bS))
theorem m6.no(a:d' c L i n){q:tn}{k:Int}(Z:k≠0)(s:aQ ae aH aA J L):m6 ae aH aA c L i n (n.S,q,k) (.inr (.iface kS (.int o k))) J:=.inr ⟨Z,rfl,n,rfl,by rw[a.same];exact s⟩
theorem aiM(s:aQ ae aH aA h L)(a:d' c L i n)(E:ha c n){x:ak}(R:b1 v r)(an:b1 x t):∃aU J,a3 ar W 128 [.ptr c.a' 0 0,.agg r,.agg t] h=j (aU,J)/\m6 ae aH aA c L i n (im c.ms v x (n.below.length+1) n.S) aU J:=by
 unfold im;simp only;have a4:=(s.push [r]).push [t];have aJ:=(a.cons (a9 h.n [r])).cons (a9 (h.push [r]).n [t]);obtain⟨bG,bD⟩:=R.cZ;obtain⟨dE,fl⟩:=an.cZ;have a8:((h.push [r]).push [t]).cell h.n=j [r]:=(a4.cell 1 rfl).1;have bZ:((h.push [r]).push [t]).cell (h.n+1)=j [t]:=(a4.cell 0 rfl).1;by_cases Z:v.kind=4
 case neg=>
  rw[if_pos Z];have eA:=rE (h:=(h.push [r]).push [t]) R Z;refine⟨_,_,?_,m6.no a (by decide) a4.drop.drop⟩;refine bC wc rfl ?_;unfold uO;simp only[ay,aD,aO,ax,ct,bG,bD,dE,fl,a8,eA]
 rw[if_neg (by simpa using Z)];obtain⟨bM,eA,lr⟩:=rD (h:=(h.push [r]).push [t]) R Z;have ln:=Lq a4 aJ.m aJ.b aJ.g E.len E.S.wf lr (k:=3) (q:=8) (by decide) (by decide);by_cases ai:iV (n.S.G.et v.n) 3=Q
 case neg=>
  rw[if_neg ai]at ln;rw[if_pos (by simpa using ai)];refine⟨_,_,?_,m6.no a (by decide) a4.drop.drop⟩;refine bC wc rfl ?_;unfold uO;simp only[ay,aD,aO,ax,ct,bG,bD,dE,fl,a8,eA,ln]
 rw[if_pos ai]at ln;rw[if_neg (by simp[ai])];obtain⟨_,_,aL⟩:=aC.FB E.S.wf (aiL ai);generalize (n.S.G.target v.n).1=bz at*;obtain⟨t1,t2,t3,t4,t5,t6⟩:=bz;simp only[dS]at aL ln ⊢;generalize eZ:([.int o t1,.int o t2,.int o t3,.int o t4,.int o t5,.int o t6]:List I)=N at*;have tB:N[4]? =j (.int o t5):=by rw[<-eZ];rfl
 have Gn:N[5]? =j (.int o t6):=by rw[<-eZ];rfl
 have zP:N.length=6:=by rw[<-eZ];rfl
 have no:N.all I.one=Q:=by rw[<-eZ];rfl
 have bn:=a4.push [N];have a1:=aJ.cons (a9 ((h.push [r]).push [t]).n [N]);have b':=(bn.cell 0 rfl).1;simp only[fo]at b';by_cases aB:t5<0
 ·rw[if_pos aB];have d:decide (t5<0)=Q:=decide_eq_true aB;refine⟨_,_,?_,m6.no a (by decide) bn.drop.drop.drop⟩;refine bC wc rfl ?_;unfold uO;simp only[ay,aD,aO,ax,ct,bG,bD,dE,fl,a8,eA,ln,zP,no,tB,d,oj]
 rw[if_neg aB];obtain⟨P,rfl⟩:=Int.eq_ofNat_of_zero_le (show 0<=t5 by omega);have d:decide ((P:Int)<0)=T:=decide_eq_false (by omega);have nM:P<4:=by omega
 rw[n9];have LJ:=bn.push [Gm];have Gp:=a1.cons (a9 (((h.push [r]).push [t]).push [N]).n [Gm]);obtain⟨hC,_,_⟩:=o2 bn a1 E.len;obtain⟨Ci,_,_⟩:=o2 LJ Gp E.len;obtain⟨b8,_,u1,_,zQ,n1,Cj⟩:=Gl bn a1 E nM;have Ck:c0 Q 5 ((((h.push [r]).push [t]).push [N]).push [Gm]) (.ptr c.az 0 (2+P*5))=_:=(T3 Cj).trans n1;have Cl:cf 0 (.ptr c.a' 0 0)=j (.ptr c.a' 0 0):=rfl;have Cm:cf 2 (.ptr c.az 0 0)=j (.ptr c.az 0 2):=rfl;have LK:cf 1 (.ptr c.a' 0 0)=j (.ptr c.a' 0 1):=rfl;have T4:cf 0 (.ptr c.az 0 0)=j (.ptr c.az 0 0):=rfl;have zR:=(LJ.cell 1 rfl).1;have jT:=(LJ.cell 0 rfl).1;have i7:∀x,((((h.push [r]).push [t]).push [N]).push [Gm]).set (h.n+1+1+1) (j x)=(((h.push [r]).push [t]).push [N]).push x:=λx=>vN (h:=((h.push [r]).push [t]).push [N]);simp only[fo]at zR jT;generalize wl:c.ms.getD P ab=M at*;have aiN:(oR M).one=Q:=by cases M<;>first|rfl|exact(x5 _).2.2
 obtain⟨dc,dr⟩:=zQ.cZ;generalize aG:I.bool M.isSome::oR M::u1=pl at*;have gN:pl[0]? =j (.bool M.isSome):=by rw[<-aG];rfl
 have ed:pl[1]? =j (oR M):=by rw[<-aG];rfl
 have Cn:pl.length=5:=by rw[<-aG];simp[dc]
 have Co:pl.all I.one=Q:=by rw[<-aG];simp only[List.all_cons,aiN,dr,r9];rfl
 have b0:aQ ae aH aA _ (a9 (h.n+1+1+1) [pl]::a9 (h.n+1+1) [N]::a9 (h.n+1) [t]::a9 h.n [r]::L):=bn.push [pl];have bf:=a1.cons (a9 (h.n+1+1+1) [pl]);have du:=(b0.cell 0 rfl).1;have fk:=(b0.cell 1 rfl).1;have hW:=(b0.cell 2 rfl).1;have T5:hG c.ms (P:Int)=M.getD []:=by unfold hG;rw[n9,wl]
 by_cases pJ:M.isNone\/((hG c.ms (P:Int)).length:Int)<=t6\/t6<0
 ·rw[if_pos pJ];refine⟨_,_,?_,m6.no a (by decide) b0.drop.drop.drop.drop⟩;cases M with
  |none=>simp only[Option.isSome_none]at gN;refine bC wc rfl ?_;unfold uO;simp only[ay,aD,aO,ax,ct,bG,bD,dE,fl,a8,eA,ln,zP,no,tB,d,m5,oj,Cl,Cm,hC,Ci,b8,n1,Ck,b',zR,Cn,Co,jT,i7,du,gN]
  |some M=>
    simp only[Option.isSome_some]at gN;have d2:decide ((M.length:Int)<=t6)=Q:=by
     refine decide_eq_true ?_;rw[T5]at pJ;simp only[pf]at pJ;rcases pJ with h|h|h
     ·cases h
     ·exact h
     ·omega
    obtain⟨c8,cu,_⟩:=x5 M;simp only[oR]at ed;refine bC wc rfl ?_;unfold uO;simp only[ay,aD,aO,ax,ct,bG,bD,dE,fl,a8,eA,ln,zP,no,tB,Gn,d,m5,oj,Cl,Cm,hC,Ci,b8,n1,Ck,b',zR,Cn,Co,jT,i7,du,fk,gN,ed,c8,cu,d2]
 rw[if_neg pJ];obtain⟨M,rfl⟩:∃u2,M=j u2:=by
  cases M with
  |none=>exact absurd (.inl rfl) pJ
  |some M=>exact⟨M,rfl⟩
 simp only[Option.isSome_some]at gN;have d2:decide ((M.length:Int)<=t6)=T:=by refine decide_eq_false λh=>pJ (.inr (.inl ?_));rw[T5];exact h
 obtain⟨c8,cu,_⟩:=x5 M;simp only[oR]at ed;obtain⟨T6,T7,_⟩:=o2 b0 bf E.len;obtain⟨_,_,_,_,ba⟩:=nK b0 (i+4) bf.m;have lm:∀k:Nat,c0 T k ((((h.push [r]).push [t]).push [N]).push [pl]) (.ptr c.a' 0 1)=j (.bd n.a5 0 (n.below.length+1) eM):=λk=>by rw[hD,ba.m];rfl
 by_cases py:n.below.length+1=20
 ·rw[if_pos py];have d3:decide (((n.below.length+1:Nat):Int)=20)=Q:=decide_eq_true (by omega);refine⟨_,_,?_,m6.no a (by decide) b0.drop.drop.drop.drop⟩;refine bC wc rfl ?_;unfold uO;simp only[ay,aD,aO,ax,ct,bG,bD,dE,fl,a8,eA,ln,zP,no,tB,Gn,d,m5,oj,Cl,Cm,LK,hC,Ci,b8,n1,Ck,b',zR,Cn,Co,jT,i7,du,fk,gN,ed,c8,cu,d2,lm,d3]
 rw[if_neg py];have d3:decide (((n.below.length+1:Nat):Int)=20)=T:=decide_eq_false (by omega);obtain⟨eQ,eR,ws⟩:=b0.get (i+1+1+1+1+2) bf.g;have n7:=adC (ws:fO _ eQ eR c.b6 n.S.G) E.S.wf v.n;have xB:fE 3 (jM 3 ((n.S.G.uA v.n).map λx=>[.int o x])) (jY (n.S.G.uA v.n)):=aiK _ _;have ans:=Pt (i:=v.n) E.S.wf;generalize jM 3 ((n.S.G.uA v.n).map λx=>[.int o x])=dU at*;generalize n.S.G.uA v.n=aZ at*;obtain⟨aw,⟨y,ck,bF⟩,cc⟩:=Cg b0 bf (dG:=λJ=>∃bM,a3 ar W 106 [.ptr c.b6 0 0,.agg t,dU] ((((h.push [r]).push [t]).push [N]).push [pl])=j (.inl (.bW [.agg bM,.int o (iM aZ n.S.G x).2.2]),J)/\b1 (iM aZ n.S.G x).2.1 bM) λag ap ws=>TV ws E.S.wf an xB (by omega);generalize iM aZ n.S.G x=q at*;obtain⟨cU,p',jR⟩:=q;simp only at ck bF cc ⊢;have cv:=bf.put {n with S:={n.S with G:=cU}};rw[dM,dM,dM,dM]at cc cv;obtain⟨e8,g9⟩:=bF.cZ;have wv:=cc.push [bt];have aiO:=cv.cons (a9 aw.n [bt]);obtain⟨gE,ek,_⟩:=o2 wv aiO E.len;have d0:=(wv.cell 3 rfl).1;have cE:=cc.push [y];have ez:=cv.cons (a9 aw.n [y]);have d1:=(cE.cell 0 rfl).1;have aiP:=(cE.cell 2 rfl).1;have Dm:(dU).one=Q:=by rcases xB with⟨_,rfl⟩|⟨id,rfl⟩<;>rfl
 have aiQ:dU.cells=[dU]:=by rcases xB with⟨_,rfl⟩|⟨id,rfl⟩<;>rfl
 by_cases s0:jR=0
 ·subst s0;have d5:decide ((0:Int)=0)=Q:=rfl;obtain⟨_,aiR⟩:=TY cE ez E.below (f:=⟨P,t6,0,p',[],[],Q,aZ⟩) (hs:=y) (g:=dU) bF xB rfl rfl;obtain⟨cj,gq,nD,ee⟩:=aiR py;rw[dM,dM,dM,dM,dM,gP]at ee;refine⟨_,cj,?_,.inl ⟨rfl,rfl,gq,ee.drop.drop.drop.drop.drop⟩⟩;obtain⟨T8,fT,jf,rfl⟩:∃a b c,y=[a,b,c]:=by match y,e8 with|[a,b,c],_=>exact⟨a,b,c,rfl⟩
  simp only[List.all_cons,List.all_nil,r9,gS]at g9;obtain⟨ho,nt,q6⟩:=g9;simp only[fP,oU,l0,k5]at nD;refine bC wc rfl ?_;unfold uO;simp only[ay,aD,aO,ax,dI,ct,bG,bD,dE,fl,a8,eA,ln,zP,no,tB,Gn,d,m5,Cl,Cm,LK,T4,hC,Ci,T6,T7,b8,n1,Ck,b',zR,Cn,Co,jT,i7,du,fk,hW,gN,ed,c8,cu,d2,lm,d3,n7,ck,gE,ek,d0,d1,aiP,ho,nt,q6,Dm,aiQ,nD]
 ·have d5:decide (jR=0)=T:=decide_eq_false s0;refine⟨_,_,?_,.inr ⟨s0,rfl,{n with S:={n.S with G:=cU}},rfl,cE.drop.drop.drop.drop.drop⟩⟩;refine bC wc rfl ?_;unfold uO;simp only[ay,aD,aO,ax,ct,bG,bD,dE,fl,a8,eA,ln,zP,no,tB,Gn,d,m5,oj,Cl,Cm,LK,T4,hC,Ci,T6,T7,b8,n1,Ck,b',zR,Cn,Co,jT,i7,du,fk,hW,gN,ed,c8,cu,d2,lm,d3,n7,ck,gE,ek,d0,d5,e8,g9]
end
abbrev aiS:cJ:=111
section
variable{h J ae:ad}{ag ap aH aA:Nat->Prop}{L:List cd}{c:hf}{i:Nat}{n:eN}
theorem qu(s:aQ ae aH aA h L)(a:d' c L i n)(E:ha c n){k m:Int}(ib:13<=op){aU:I⊕I}(e:a3 ar W aiS [.ptr c.a' 0 0,.agg (dK op k m)] (h.push [dK op k m])=j (aU,J))(u3:aU= .inl (.bW [])\/∃v,aU= .inr v):a3 ar W lN [.ptr c.a' 0 0,.agg (dK op k m)] h=j (aU,J):=by
 have a4:=s.push [dK op k m];have aJ:=a.cons (a9 h.n [dK op k m]);obtain⟨db,_⟩:=l9 a4 aJ E.below;have a8:=(a4.cell 0 rfl).1;have d:∀D:Int,D<13->decide (op=D)=T:=λD U=>decide_eq_false (by omega);have ao:=d 1 (by decide);have aq:=d 2 (by decide);have bm:=d 3 (by decide);have ck:=d 4 (by decide);have nD:=d 6 (by decide);have zK:=d 8 (by decide);have oY:=d 9 (by decide);have Gq:=d 10 (by decide);have T9:=d 11 (by decide);have B4:=d 12 (by decide);rcases u3 with rfl|⟨v,rfl⟩
 ·refine bC l7 rfl ?_;unfold lI;simp only[ay,aD,aO,ax,ct,db,a8,ao,aq,bm,ck,nD,zK,oY,Gq,T9,B4,e]
 ·refine bC l7 rfl ?_;unfold lI;simp only[ay,aD,aO,ax,ct,db,a8,ao,aq,bm,ck,nD,zK,oY,Gq,T9,B4,e]
theorem ea.aU{q:bp×ak×Int}{aU:I⊕I}(r:ea ae aH aA c L i n q aU J):aU= .inl (.bW [])\/∃v,aU= .inr v:=by
 rcases r with⟨_,b,_⟩|⟨_,b,_⟩
 ·exact .inl b
 ·exact .inr ⟨_,b⟩
theorem ea.put{q:bp×ak×Int}{ek:eN}{aU:I⊕I}(r:ea ae aH aA c (put c L i ek) i n q aU J):ea ae aH aA c L i n q aU J:=by
 rcases r with⟨x,y,z⟩|⟨x,y,bS,z,w⟩
 ·exact .inl ⟨x,y,by rw[gP]at z;exact z⟩
 ·exact .inr ⟨x,y,bS,z,by rw[gP]at w;exact w⟩
theorem m6.put{q:bp×tn×Int}{ek:eN}{aU:I⊕I}(r:m6 ae aH aA c (put c L i ek) i n q aU J):m6 ae aH aA c L i n q aU J:=by
 rcases r with⟨x,y,a5,z⟩|⟨x,y,bS,z,w⟩
 ·exact .inl ⟨x,y,a5,by rw[gP]at z;exact z⟩
 ·exact .inr ⟨x,y,bS,z,by rw[gP]at w;exact w⟩
theorem m6.drop{X:cd}{q:bp×tn×Int}{aU:I⊕I}(r:m6 ae aH aA c (X::L) (i+1) n q aU J):m6 ae aH aA c L i n q aU J:=by
 rcases r with⟨x,y,a5,z⟩|⟨x,y,bS,z,w⟩
 ·exact .inl ⟨x,y,a5,z.drop⟩
 ·exact .inr ⟨x,y,bS,z,w.drop⟩
theorem u4(s:aQ ae aH aA h L)(a:d' c L i n)(E:ha c n)(op k m:Int):aQ ae aH aA ((h.push [dK op k m]).push [dK op k m]) (a9 (h.n+1) [dK op k m]::a9 h.n [dK op k m]::L)/\d' c (a9 (h.n+1) [dK op k m]::a9 h.n [dK op k m]::L) (i+1+1) n/\a3 ar W Ff [.ptr c.a' 0 0] ((h.push [dK op k m]).push [dK op k m])=j (.inl (.ptr n.a5 n.below.length 0),(h.push [dK op k m]).push [dK op k m])/\(∀cn:Nat,c0 T cn ((h.push [dK op k m]).push [dK op k m]) (.ptr n.a5 n.below.length 0)=j (.int o n.top.bw))/\((h.push [dK op k m]).push [dK op k m]).cell (h.n+1)=j [dK op k m]:=by have a4:=(s.push [dK op k m]).push [dK op k m];have aJ:=(a.cons (a9 h.n [dK op k m])).cons (a9 (h.n+1) [dK op k m]);obtain⟨db,lD⟩:=l9 a4 aJ E.below;exact⟨a4,aJ,db,lD,(a4.cell 0 rfl).1⟩
theorem aiT(s:aQ ae aH aA h L)(a:d' c L i n)(E:ha c n){st:List ak}(bB:n.top.stack=st++[v])(k m:Int):∃aU J,a3 ar W lN [.ptr c.a' 0 0,.agg (dK 13 k m)] h=j (aU,J)/\ea ae aH aA c L i (n.cA st) (gC n.top.bw 13 k m [v] n.S) aU J:=by
 obtain⟨a4,aJ,db,_,a8⟩:=u4 s a E 13 k m;obtain⟨O,r,aq,R,bn,a1⟩:=rG a4 aJ E bB;obtain⟨aU,af,bm,gL⟩:=aim bn a1 (E.pI bB) R k m;have kG:=gL.put.drop.drop;refine⟨aU,af,qu s a E (by decide) ?_ kG.aU,kG⟩;rcases kG.aU with rfl|⟨u,rfl⟩
 ·refine bC nH rfl ?_;unfold m1;simp only[ay,aD,aO,ax,ct,db,a8,eD,aq,bm]
 ·refine bC nH rfl ?_;unfold m1;simp only[ay,aD,aO,ax,ct,db,a8,eD,aq,bm]
theorem aiU(s:aQ ae aH aA h L)(a:d' c L i n)(E:ha c n){st:List ak}(bB:n.top.stack=st++[v])(k m:Int):∃aU J,a3 ar W lN [.ptr c.a' 0 0,.agg (dK 16 k m)] h=j (aU,J)/\ea ae aH aA c L i (n.cA st) (gC n.top.bw 16 k m [v] n.S) aU J:=by
 obtain⟨a4,aJ,db,_,a8⟩:=u4 s a E 16 k m;obtain⟨O,r,aq,R,bn,a1⟩:=rG a4 aJ E bB;obtain⟨aU,af,bm,gL⟩:=air bn a1 (E.pI bB) R k m;have kG:=gL.put.drop.drop;refine⟨aU,af,qu s a E (by decide) ?_ kG.aU,kG⟩;rcases kG.aU with rfl|⟨u,rfl⟩
 ·refine bC nH rfl ?_;unfold m1;simp only[ay,aD,aO,ax,ct,db,a8,eD,aq,bm]
 ·refine bC nH rfl ?_;unfold m1;simp only[ay,aD,aO,ax,ct,db,a8,eD,aq,bm]
theorem T'{af:ad}{LL:List cd}(b0:aQ ae aH aA af LL)(x y:List I):aQ ae aH aA ((((af.push [bt]).push [bt]).set af.n (j [x])).set (af.n+1) (j [y])) (a9 (af.n+1) [y]::a9 af.n [x]::LL)/\(((af.push [bt]).push [bt]).set af.n (j [x])).cell (af.n+1)=j [bt]:=by have cc:=(b0.push [bt]).push [bt];have cE:aQ ae aH aA _ (a9 (af.n+1) [bt]::a9 af.n [x]::LL):=cc.set 1 rfl [x];exact⟨cE.set 0 rfl [y],(cE.cell 0 rfl).1⟩
theorem aiV(s:aQ ae aH aA h L)(a:d' c L i n)(E:ha c n){st:List ak}{w:ak}(bB:n.top.stack=st++[v]++[w])(k m:Int):∃aU J,a3 ar W lN [.ptr c.a' 0 0,.agg (dK 14 k m)] h=j (aU,J)/\ea ae aH aA c L i (n.cA st) (gC n.top.bw 14 k m [v,w] n.S) aU J:=by
 obtain⟨a4,aJ,db,_,a8⟩:=u4 s a E 14 k m;obtain⟨O,af,kH,b4,aq,bm,hw,R,b0,bf⟩:=Gj a4 aJ E bB;have dE:=(E.pI (st:=st) (l:=[v]++[w]) (by rw[bB,kv]));obtain⟨bG,bD⟩:=hw.cZ;obtain⟨iS,fl⟩:=R.cZ;obtain⟨ee,kU⟩:=T' b0 kH b4;have i8:=(bf.cons (a9 af.n [kH])).cons (a9 (af.n+1) [b4]);have bN:=(ee.cell 0 rfl).1;have bL:=(ee.cell 1 rfl).1;generalize rH:(((af.push [bt]).push [bt]).set af.n (j [kH])).set (af.n+1) (j [b4])=cj at*;obtain⟨aU,cT,oV,Gr⟩:=aio ee i8 dE R hw k m;have iN:=Gr.drop.drop.put.drop.drop;refine⟨aU,cT,qu s a E (by decide) ?_ iN.aU,iN⟩;rcases iN.aU with rfl|⟨u,rfl⟩
 ·refine bC nH rfl ?_;unfold m1;simp only[ay,aD,aO,ax,ct,db,a8,eD,aq,bm,bG,bD,fl,iS,kU,rH,bN,bL,oV]
 ·refine bC nH rfl ?_;unfold m1;simp only[ay,aD,aO,ax,ct,db,a8,eD,aq,bm,bG,bD,fl,iS,kU,rH,bN,bL,oV]
theorem aiW(s:aQ ae aH aA h L)(a:d' c L i n)(E:ha c n){st:List ak}{w:ak}(bB:n.top.stack=st++[v]++[w])(k m:Int):∃aU J,a3 ar W lN [.ptr c.a' 0 0,.agg (dK 19 k m)] h=j (aU,J)/\m6 ae aH aA c L i (n.cA st) (im c.ms v w (n.below.length+1) n.S) aU J:=by
 obtain⟨a4,aJ,db,_,a8⟩:=u4 s a E 19 k m;obtain⟨O,af,kH,b4,aq,bm,hw,R,b0,bf⟩:=Gj a4 aJ E bB;have dE:=(E.pI (st:=st) (l:=[v]++[w]) (by rw[bB,kv]));obtain⟨bG,bD⟩:=hw.cZ;obtain⟨iS,fl⟩:=R.cZ;obtain⟨ee,kU⟩:=T' b0 kH b4;have i8:=(bf.cons (a9 af.n [kH])).cons (a9 (af.n+1) [b4]);have bN:=(ee.cell 0 rfl).1;have bL:=(ee.cell 1 rfl).1;generalize rH:(((af.push [bt]).push [bt]).set af.n (j [kH])).set (af.n+1) (j [b4])=cj at*;obtain⟨aU,cT,oV,Gr⟩:=aiM ee i8 dE R hw;have iN:=Gr.drop.drop.put.drop.drop;have u3:aU= .inl (.bW [])\/∃v,aU= .inr v:=by
  rcases iN with⟨_,b,_⟩|⟨_,b,_⟩
  ·exact .inl b
  ·exact .inr ⟨_,b⟩
 refine⟨aU,cT,qu s a E (by decide) ?_ u3,iN⟩;rcases u3 with rfl|⟨u,rfl⟩
 ·refine bC nH rfl ?_;unfold m1;simp only[ay,aD,aO,ax,ct,db,a8,eD,aq,bm,bG,bD,fl,iS,kU,rH,bN,bL,oV]
 ·refine bC nH rfl ?_;unfold m1;simp only[ay,aD,aO,ax,ct,db,a8,eD,aq,bm,bG,bD,fl,iS,kU,rH,bN,bL,oV]
theorem aiX{p k n:Int}{S:bp}:gC p 15 k n [v] S=if v.kind≠4 then S.no 2 else sf S (S.G.derive v.n k (-1)):=rfl
theorem aiY{p k n:Int}{S:bp}:gC p 17 k n [v] S=if v.kind≠5 then S.no 2 else({S with G:=(S.G.cut v.n).1}:bp).ok bE:=rfl
theorem aiZ{p k n:Int}{S:bp}:gC p 20 k n [v] S=({S with kept:=S.kept.set p.toNat v}:bp).ok (S.kept.getD p.toNat bE):=rfl
theorem ai0(s:aQ ae aH aA h L)(a:d' c L i n)(E:ha c n){st:List ak}(bB:n.top.stack=st++[v])(k m:Int):∃aU J,a3 ar W lN [.ptr c.a' 0 0,.agg (dK 15 k m)] h=j (aU,J)/\ea ae aH aA c L i (n.cA st) (gC n.top.bw 15 k m [v] n.S) aU J:=by
 rw[aiX];obtain⟨a4,aJ,db,_,a8⟩:=u4 s a E 15 k m;obtain⟨O,r,aq,R,bn,a1⟩:=rG a4 aJ E bB;have dE:=E.pI bB;rw[dM,dM]at bn a1;have bZ:=(bn.cell 0 rfl).1;by_cases Z:v.kind=4
 ·rw[if_neg (by simpa using Z)];obtain⟨bM,eA,lr⟩:=rD (h:=O) R Z;obtain⟨af,bm,b0⟩:=TX bn a1 E.len E.S.wf lr k (-1);have bf:=a1.put {(n.cA st)with S:={n.S with G:=(n.S.G.derive v.n k (-1)).1}};unfold sf;by_cases aj:(n.S.G.derive v.n k (-1)).2.2=0
  ·rw[if_pos aj]at bm;rw[if_neg (by simpa using aj)];obtain⟨aw,ck,cc⟩:=nL b0 bf E.below dE.cA (F6 (n.S.G.derive v.n k (-1)).2.1);rw[gP,dM,dM,gP]at cc;have iN:ea ae aH aA c L i (n.cA st) _ _ aw:=ea.ok cc.drop.drop;refine⟨_,aw,qu s a E (by decide) ?_ iN.aU,iN⟩;refine bC nH rfl ?_;unfold m1;simp only[ay,aD,aO,ax,ct,db,a8,eD,aq,bZ,eA,bm,ck]
  ·rw[if_neg aj]at bm;rw[if_pos aj];rw[dM,dM,gP]at b0;have iN:ea ae aH aA c L i (n.cA st) _ _ af:=ea.no (S:={n.S with G:=(n.S.G.derive v.n k (-1)).1}) aj {(n.cA st)with S:={n.S with G:=(n.S.G.derive v.n k (-1)).1}} rfl b0.drop.drop;refine⟨_,af,qu s a E (by decide) ?_ iN.aU,iN⟩;refine bC nH rfl ?_;unfold m1;simp only[ay,aD,aO,ax,ct,db,a8,eD,aq,bZ,eA,bm]
 ·rw[if_pos Z];have eA:=rE (h:=O) R Z;have iN:ea ae aH aA c L i (n.cA st) _ _ O:=ea.no (S:=n.S) (k:=2) (by decide) (n.cA st) rfl bn.drop.drop;refine⟨_,O,qu s a E (by decide) ?_ iN.aU,iN⟩;refine bC nH rfl ?_;unfold m1;simp only[ay,aD,aO,ax,ct,db,a8,eD,aq,bZ,eA]
theorem ai1(s:aQ ae aH aA h L)(a:d' c L i n)(E:ha c n){st:List ak}(bB:n.top.stack=st++[v])(k m:Int):∃aU J,a3 ar W lN [.ptr c.a' 0 0,.agg (dK 17 k m)] h=j (aU,J)/\ea ae aH aA c L i (n.cA st) (gC n.top.bw 17 k m [v] n.S) aU J:=by
 rw[aiY];obtain⟨a4,aJ,db,_,a8⟩:=u4 s a E 17 k m;obtain⟨hC,dh,_⟩:=o2 a4 aJ E.len;obtain⟨O,r,aq,R,bn,a1⟩:=rG a4 aJ E bB;have dE:=E.pI bB;obtain⟨cC,iL,_⟩:=o2 bn a1 E.len;rw[dM,dM]at bn a1;have f0:cf 0 (.ptr c.a' 0 0)=j (.ptr c.a' 0 0):=rfl;have f1:cf 0 (.ptr c.az 0 0)=j (.ptr c.az 0 0):=rfl;by_cases Z:v.kind=5
 ·rw[if_neg (by simpa using Z)];obtain⟨bM,eA,lr⟩:=rD (h:=O) R Z;obtain⟨w,hw,_⟩:=lr.o0;have tv:DZ T 1 1 (.agg bM)=j (.int o v.n):=by rw[hw];rfl
  obtain⟨af,bm,b0⟩:=Cg bn a1 (dG:=λJ=>a3 ar W 57 [.ptr c.b6 0 0,.int o v.n] O=j (.inl (.int o (n.S.G.cut v.n).2),J)) λag ap x=>QO x v.n;have bf:=a1.put {(n.cA st)with S:={n.S with G:=(n.S.G.cut v.n).1}};obtain⟨aw,ck,cc⟩:=nL b0 bf E.below dE.cA pG;rw[gP,dM,dM,gP]at cc;have iN:ea ae aH aA c L i (n.cA st) _ _ aw:=ea.ok (S:={n.S with G:=(n.S.G.cut v.n).1}) (v:=bE) cc.drop.drop;refine⟨_,aw,qu s a E (by decide) ?_ iN.aU,iN⟩;refine bC nH rfl ?_;unfold m1;simp only[ay,aD,aO,ax,ct,db,a8,eD,f0,f1,hC,dh,cC,iL,aq,eA,tv,bm,ck]
 ·rw[if_pos Z];have eA:=rE (h:=O) R Z;have iN:ea ae aH aA c L i (n.cA st) _ _ O:=ea.no (S:=n.S) (k:=2) (by decide) (n.cA st) rfl bn.drop.drop;refine⟨_,O,qu s a E (by decide) ?_ iN.aU,iN⟩;refine bC nH rfl ?_;unfold m1;simp only[ay,aD,aO,ax,ct,db,a8,eD,f0,f1,hC,dh,cC,iL,aq,eA]
def LM(ae:ad)(aH aA:Nat->Prop)(c:hf)(L:List cd)(i:Nat)(n:eN)(k:Int)(v:ak)(aU:I⊕I)(J:ad):Prop:=(n.below.length+1≠20/\aU= .inl (.bW [])/\∃gq,aQ ae aH aA J (put c L i ⟨gq,n.S,n.below++[n.top],⟨n.top.bw,k,0,v,[],[],T,[]⟩⟩))\/(n.below.length+1=20/\aU= .inr (.iface kS (.int o 4))/\aQ ae aH aA J (put c L i n))
theorem ai2(s:aQ ae aH aA h L)(a:d' c L i n)(E:ha c n){st:List ak}(bB:n.top.stack=st++[v])(k m:Int):∃aU J,a3 ar W lN [.ptr c.a' 0 0,.agg (dK 18 k m)] h=j (aU,J)/\LM ae aH aA c L i (n.cA st) k v aU J:=by
 obtain⟨a4,aJ,db,_,a8⟩:=u4 s a E 18 k m;obtain⟨O,r,aq,R,bn,a1⟩:=rG a4 aJ E bB;have dE:=E.pI bB;rw[dM,dM]at bn a1;obtain⟨bG,bD⟩:=R.cZ;have b0:=bn.push [r];have bf:=a1.cons (a9 O.n [r]);have b':=(b0.cell 0 rfl).1;have du:=(b0.cell 1 rfl).1;obtain⟨_,lD⟩:=l9 b0 bf E.below;have f0:cf 0 (.ptr n.a5 n.below.length 0)=j (.ptr n.a5 n.below.length 0):=rfl;obtain⟨ai3,ai4⟩:=TY b0 bf E.below (f:=⟨n.top.bw,k,0,v,[],[],T,[]⟩) (hs:=r) (g:=.aF) R (.inl ⟨rfl,rfl⟩) rfl rfl;obtain⟨T8,fT,jf,rfl⟩:∃a b c,r=[a,b,c]:=by match r,bG with|[a,b,c],_=>exact⟨a,b,c,rfl⟩
 simp only[List.all_cons,List.all_nil,r9,gS]at bD;obtain⟨ho,nt,q6⟩:=bD;by_cases py:n.below.length+1=20
 ·obtain⟨aw,ck,cc⟩:=ai3 py;simp only[fP,oU,l0,k5]at ck;refine⟨_,aw,qu s a E (by decide) ?_ (.inr ⟨_,rfl⟩),.inr ⟨py,rfl,cc.drop.drop.drop⟩⟩;refine bC nH rfl ?_;unfold m1;simp only[ay,aD,aO,ax,dI,ct,db,a8,eD,aq,f0,lD,b',du,ho,nt,q6,ck]
 ·obtain⟨aw,gq,ck,cc⟩:=ai4 py;simp only[fP,oU,l0,k5]at ck;rw[dM,dM,dM,gP]at cc;refine⟨_,aw,qu s a E (by decide) ?_ (.inl rfl),.inl ⟨py,rfl,gq,cc.drop.drop.drop⟩⟩;refine bC nH rfl ?_;unfold m1;simp only[ay,aD,aO,ax,dI,ct,db,a8,eD,aq,f0,lD,b',du,ho,nt,q6,ck]
theorem ai5(s:aQ ae aH aA h L)(a:d' c L i n)(E:ha c n){st:List ak}(bB:n.top.stack=st++[v]){P:Nat}(h6:n.top.bw=(P:Int))(nM:P<4)(k m:Int):∃aU J,a3 ar W lN [.ptr c.a' 0 0,.agg (dK 20 k m)] h=j (aU,J)/\ea ae aH aA c L i (n.cA st) (gC n.top.bw 20 k m [v] n.S) aU J:=by
 rw[aiZ];obtain⟨a4,aJ,db,lD,a8⟩:=u4 s a E 20 k m;obtain⟨hC,dh,_⟩:=o2 a4 aJ E.len;obtain⟨b8,_,u1,LN,zQ,_,Cj⟩:=Gl a4 aJ E nM;rw[h6]at lD ⊢;rw[n9];obtain⟨dc,dr⟩:=zQ.cZ;have f0:cf 0 (.ptr c.a' 0 0)=j (.ptr c.a' 0 0):=rfl;have f1:cf 2 (.ptr c.az 0 0)=j (.ptr c.az 0 2):=rfl;have f2:cf 0 (.ptr n.a5 n.below.length 0)=j (.ptr n.a5 n.below.length 0):=rfl;have f3:cf 2 (.ptr c.az 0 (2+P*5))=j (.ptr c.az 0 (2+P*5+2)):=rfl;have bn:aQ ae aH aA _ (a9 (h.n+1+1) [u1]::a9 (h.n+1) [dK 20 k m]::a9 h.n [dK 20 k m]::L):=a4.push [u1];have a1:=aJ.cons (a9 (h.n+1+1) [u1]);obtain⟨af,r,bm,R,b0,bf⟩:=rG bn a1 E bB;have dE:=E.pI bB;rw[dM,dM,dM]at b0;have Gp:d' c (a9 (h.n+1+1) [u1]::a9 (h.n+1) [dK 20 k m]::a9 h.n [dK 20 k m]::put c L i (n.cA st)) (i+1+1+1) (n.cA st):=bf;obtain⟨aw,ck,cc⟩:=agQ b0 (i+1+1+1+1) Gp.b E.len (p:=P) (by rw[E.ms];exact nM) R;have Ua:aQ ae aH aA aw (a9 (h.n+1+1) [u1]::a9 (h.n+1) [dK 20 k m]::a9 h.n [dK 20 k m]::put c L i {(n.cA st)with S:={n.S with kept:=n.S.kept.set P v}}):=by rw[Gp.ahn,dM,dM,dM,gP]at cc;exact cc
 have cv:=((((a.put {(n.cA st)with S:={n.S with kept:=n.S.kept.set P v}}).cons (a9 h.n [dK 20 k m])).cons (a9 (h.n+1) [dK 20 k m])).cons (a9 (h.n+1+1) [u1]));have du:=(Ua.cell 0 rfl).1;obtain⟨bg,eB,cE⟩:=nL Ua cv E.below dE.cA zQ;rw[dM,dM,dM,gP]at cE;have iN:ea ae aH aA c L i (n.cA st) _ _ bg:=ea.ok (S:={n.S with kept:=n.S.kept.set P v}) (v:=n.S.kept.getD P bE) cE.drop.drop.drop;refine⟨_,bg,qu s a E (by decide) ?_ iN.aU,iN⟩;refine bC nH rfl ?_;unfold m1;simp only[ay,aD,aO,ax,ct,db,a8,eD,f0,f1,f2,f3,hC,lD,b8,LN,dc,dr,bm,ck,du,eB]
theorem ai6(s:aQ ae aH aA h L)(a:d' c L i n)(E:ha c n){P:Nat}(h6:n.top.bw=(P:Int))(nM:P<4)(k m:Int):∃J,a3 ar W lN [.ptr c.a' 0 0,.agg (dK 21 k m)] h=j (.inl (.bW []),J)/\aQ ae aH aA J (put c L i (n.cA (n.top.stack++[n.S.kept.getD P bE]))):=by obtain⟨a4,aJ,db,lD,a8⟩:=u4 s a E 21 k m;obtain⟨hC,dh,_⟩:=o2 a4 aJ E.len;obtain⟨b8,_,u1,LN,zQ,_,Cj⟩:=Gl a4 aJ E nM;rw[h6]at lD;have f0:cf 0 (.ptr c.a' 0 0)=j (.ptr c.a' 0 0):=rfl;have f1:cf 2 (.ptr c.az 0 0)=j (.ptr c.az 0 2):=rfl;have f2:cf 0 (.ptr n.a5 n.below.length 0)=j (.ptr n.a5 n.below.length 0):=rfl;have f3:cf 2 (.ptr c.az 0 (2+P*5))=j (.ptr c.az 0 (2+P*5+2)):=rfl;obtain⟨O,aq,bn⟩:=nL a4 aJ E.below E.cA zQ;rw[dM,dM]at bn;refine⟨O,qu s a E (by decide) ?_ (.inl rfl),bn.drop.drop⟩;refine bC nH rfl ?_;unfold m1;simp only[ay,aD,aO,ax,ct,db,a8,eD,f0,f1,f2,f3,hC,lD,b8,LN,aq]
end
theorem LO{ms:dz}(g:vR ms){p k:Int}(Z:k.toNat<(hG ms p).length):(fp ms p k).fault (hG ms p).length 0=0:=by
 have:fp ms p k=(hG ms p)[k.toNat]:=by simp[fp,cK,Z]
 rw[this];exact g p _ (h2 Z)
def b5.after(m:b5)(S:bp)(k:Nat)(br:List ak):b5:={S:=S,top:={m.top with bs:=m.top.bs+k,stack:=m.top.stack++br},below:=m.below}
def g0(ms:dz)(m:b5)(c:List cD):Prop:=∃pre post,kg ms m.top.bw m.top.f=pre++c++post/\m.top.bs=pre.length
theorem g0.get{ms:dz}{m:b5}{x:cD}{c:List cD}(h:g0 ms m (x::c)):(kg ms m.top.bw m.top.f).getD m.top.bs uE=x:=by obtain⟨pre,post,e,aB⟩:=h;rw[e,aB];simp[cK]
theorem g0.at{ms:dz}{m:b5}{x:cD}{c:List cD}(h:g0 ms m (x::c))(aX:m.Good ms)(am:zf m x):uG ms m:=by refine⟨aX,?_,by rw[h.get];exact am⟩;obtain⟨pre,post,e,aB⟩:=h;rw[e,aB];simp
theorem b5.Good.after{ms:dz}{m:b5}{S:bp}{k:Nat}{br:List ak}(h:m.Good ms)(cl:S.Good)(Dv:S.a2<=m.S.a2)(al:S.left+br.length<=m.S.left)(R:∀v∈br,v.code=0):(m.after S k br).Good ms:=by
 have F:=h.cA;have O:=h.tp;have af:=h.a2;refine⟨cl,⟨h.top.gN,h.top.there,h.top.f0,h.top.f1,h.top.arg,h.top.names,λv hm=>?_,h.top.ec⟩,ef Dv af,?_,?_,h.ps⟩
 ·rcases List.mem_append.1 hm with hm|hm
  ·exact h.top.stack v hm
  ·exact R v hm
 ·simp only[b5.after,eP];omega
 ·simp only[b5.after];omega
theorem b5.Good.next{ms:dz}{m aR:b5}(h:m.Good ms)(cl:aR.S=m.S)(ai:aR.below.length=m.below.length)(aL:aR.top.Good ms)(F:aR.top.stack.length<=m.top.stack.length)(O:aR.top.names.length+aR.S.left<=100000):aR.Good ms:=by have af:=h.cA;have aw:=h.a2;have bg:=h.ps;refine⟨by rw[cl];exact h.S,aL,by rw[cl];exact aw,by rw[cl];omega,O,by omega⟩
theorem zf.tick(m:b5):zf m ⟨100,0,0⟩:=⟨by simp,by simp,by simp,by simp,by simp,by simp⟩
theorem g0.left{ms:dz}{m:b5}{a b:List cD}(h:g0 ms m (a++b)):g0 ms m a:=by obtain⟨pre,post,e,aB⟩:=h;exact⟨pre,b++post,by rw[e];simp,aB⟩
theorem g0.right{ms:dz}{m aR:b5}{a b:List cD}(h:g0 ms m (a++b))(F:aR.top.bw=m.top.bw)(O:aR.top.f=m.top.f)(af:aR.top.bs=m.top.bs+a.length):g0 ms aR b:=by obtain⟨pre,post,e,aB⟩:=h;exact⟨pre++a,post,by rw[F,O,e];simp,by rw[af,aB];simp⟩
def ja(ms:dz)(m:b5)(k:Nat)(q:bp×ak×Int):Prop:=
 if q.2.2≠0 then jP ms m (.fail q.1 q.2.2)else ∀r,jP ms (m.after q.1 k [q.2.1]) r->jP ms m r
def x6(ms:dz)(m:b5)(k:Nat)(acc:List ak)(q:bp×List ak×Int):Prop:=
 if q.2.2≠0 then jP ms m (.fail q.1 q.2.2)else ∃o3,q.2.1=acc++o3/\∀r,jP ms (m.after q.1 k o3) r->jP ms m r
theorem ja.no{ms:dz}{m:b5}{k:Nat}{S:bp}{c:Int}(aj:c≠0)(h:jP ms m (.fail S c)):ja ms m k (S.no c):=by unfold ja;rw[if_pos (show(S.no c).2.2≠0 from aj)];exact h
theorem ja.ok{ms:dz}{m:b5}{k:Nat}{S:bp}{v:ak}(h:∀r,jP ms (m.after S k [v]) r->jP ms m r):ja ms m k (S.ok v):=by unfold ja;rw[if_neg (by simp[bp.ok])];exact h
theorem ai7{ms:dz}{m:b5}{c:List cD}(dR:m.Good ms)(h:g0 ms m (⟨100,0,0⟩::c))(al:m.S.left≠0){r:oQ}(ah:jP ms (m.after m.S.tick 1 []) r):jP ms m r:=by refine .go (h.at dR (.tick m)) ?_ ah;unfold mw;simp only[h.get,if_true];rw[if_neg al];simp[b5.after]
theorem Ub{ms:dz}{m:b5}{c:List cD}(dR:m.Good ms)(h:g0 ms m (⟨100,0,0⟩::c))(al:m.S.left=0):jP ms m (.fail m.S 12):=by refine .fail (h.at dR (.tick m)) ?_;unfold mw;simp only[h.get,if_true];rw[if_pos al]
theorem Cp(st o3:List ak):qd (st++o3) o3.length=o3:=by unfold qd;rw[eP,Nat.add_sub_cancel];exact List.drop_left
theorem Cq(st o3:List ak):sg (st++o3) o3.length=st:=by unfold sg;rw[eP,Nat.add_sub_cancel];exact List.take_left
theorem tJ(st:List ak)(v:ak):qd (st++[v]) 1=[v]:=Cp st [v]
theorem x7(st:List ak)(v:ak):sg (st++[v]) 1=st:=Cq st [v]
theorem Uc(x:bk)(an:∃cL E,x.fault cL E=0)(p:Nat):∃c,ce x p=⟨100,0,0⟩::c:=by
 obtain⟨cL,E,h⟩:=an;obtain⟨F,O,_⟩:=IV h;rw[y9];unfold sa;split
 ·rename_i bg;rw[bg]at O;have:x.l.length=2:=by simp[bv]at O;omega
  match al:x.l,this with
  |[a,b],_=>exact⟨_,rfl⟩
 ·split
  ·rename_i cT;rw[cT]at O;have:x.l.length=3:=by simp[bv]at O;omega
   match al:x.l,this with
   |[a,b,c],_=>exact⟨_,rfl⟩
  ·exact⟨_,rfl⟩
theorem ai8{p:Int}{x y:bk}{arg:ak}{names:List ak}{S:bp}(F:x.op=y.op)(O:x.k=y.k)(af:x.n=y.n):jn p x arg names S=jn p y arg names S:=by unfold jn;rw[F,O,af]
theorem zS(m:b5)(S bx:bp)(a b:Nat)(br o3:List ak):(m.after S a br).after bx b o3=m.after bx (a+b) (br++o3):=by simp[b5.after,oE]
theorem ai9(m:b5):m.after m.S 0 []=m:=by simp[b5.after]
theorem Ud{ms:dz}{m:b5}{k n:Int}{c:List cD}(h:g0 ms m (⟨op,k,n⟩::c))(am:op<100):mw ms m=mv ms (m.after m.S 1 []) ⟨op,k,n⟩:=by unfold mw;simp only[h.get];rw[if_neg (by omega),if_neg (by omega),if_neg (by omega),if_neg (by omega),if_neg (by omega),if_neg (by omega)];simp[b5.after]
def Ue(ms:dz)(N:Nat):Prop:=∀(x:bk) (m:b5),m.Good ms->m.S.left<=N->x.fault (hG ms m.top.bw).length m.top.names.length=0->g0 ms m (ce x m.top.bs)->ja ms m (ce x m.top.bs).length (dL ms N m.top.bw x m.top.arg m.top.names (m.below.length+1) m.S)
theorem b5.Good.ww{ms:dz}{m:b5}{bx:bp}{c:Int}{k:Nat}(h:m.Good ms)(kk:Em m.S (bx,v,c))(aj:c=0):(m.after bx k [v]).Good ms:=by have F:=kk.1.a2;have O:=kk.2 aj;have af:=kk.1.val aj;simp only at F O af;exact h.after kk.1.dk (by omega) (by simp only[gp];omega) (λw hw=>by simp only[List.mem_singleton]at hw;rw[hw];exact af)
theorem Uf{ms:dz}{N:Nat}(aW:Ue ms N):∀(l:List bk) (m:b5) (acc:List ak),m.Good ms->m.S.left<=N->(∀y∈l,y.fault (hG ms m.top.bw).length m.top.names.length=0)->g0 ms m (jZ (l.map ce) m.top.bs)->x6 ms m (jZ (l.map ce) m.top.bs).length acc (iW (λy S=>dL ms N m.top.bw y m.top.arg m.top.names (m.below.length+1) S) l m.S acc)
 |[],m,acc,_,_,_,_=>by unfold x6;simp only[iW,qQ,jZ,gK];rw[if_neg (by simp)];exact⟨[],by simp,λr ah=>by rw[ai9]at ah;exact ah⟩
 |x::l,m,acc,dR,al,bc,av=>by
   simp only[jU,jZ]at av ⊢;have F:=aW x m dR al (bc x (by simp)) av.left;have hle:=ze ms N m.top.bw x m.top.arg m.top.names (m.below.length+1) m.S;have kk:=rk ms N m.top.bw x m.top.arg m.top.names (m.below.length+1) m.S dR.S dR.top.arg dR.top.names;rw[iW];rcases aG:dL ms N m.top.bw x m.top.arg m.top.names (m.below.length+1) m.S with⟨bx,v,c⟩;rw[aG]at F hle kk;simp only at F hle ⊢;unfold ja at F;simp only at F;by_cases aj:c=0
   ·rw[if_neg (by simpa using aj)]at F ⊢;have O:=Uf aW l (m.after bx (ce x m.top.bs).length [v]) (acc++[v]) (dR.ww kk aj) (ef hle al) (λy bF=>bc y (by simp[bF])) (av.right rfl rfl rfl);have ao:(m.after bx (ce x m.top.bs).length [v]).top.bs=m.top.bs+(ce x m.top.bs).length:=rfl;rw[ao]at O;change x6 ms _ _ _ (iW (λy S=>dL ms N m.top.bw y m.top.arg m.top.names (m.below.length+1) S) l bx (acc++[v]))at O;generalize iW (λy S=>dL ms N m.top.bw y m.top.arg m.top.names (m.below.length+1) S) l bx (acc++[v])=q at O ⊢;unfold x6 at O ⊢;by_cases aN:q.2.2=0
    ·rw[if_neg (by simpa using aN)]at O ⊢;obtain⟨o3,e,O⟩:=O;refine⟨v::o3,by rw[e];simp,λr ah=>F r (O r ?_)⟩;rw[zS,List.singleton_append];rw[eP]at ah;exact ah
    ·rw[if_pos aN]at O ⊢;exact F _ O
   ·rw[if_pos aj]at F ⊢;unfold x6;simp only;rw[if_pos aj];exact F
theorem ai'(h:0<=bv op):1<=op/\op<=21:=by
 unfold bv at h;split at h
 ·omega
 ·split at h
  ·omega
  ·split at h
   ·omega
   ·split at h
    ·omega
    ·omega
theorem LP{ms:dz}{m:b5}{c:List cD}(h:g0 ms m (⟨105,0,0⟩::c)){st:List ak}(R:m.top.stack=st++[v]):mw ms m=(let q:=if m.top.asked then mu m.top.ec v m.S else m.S.ok v
  if q.2.2≠0 then .fail q.1 q.2.2 else match m.below.getLast? with
   |none=>.over q.1 q.2.1
   |some t=>.go ⟨q.1,{t with stack:=t.stack++[q.2.1]},m.below.dropLast⟩):=by
 unfold mw;simp only[h.get];rw[if_neg (by omega),if_neg (by omega),if_neg (by omega),if_neg (by omega),if_neg (by omega),if_pos trivial];unfold b5.back;simp only[R,tJ,rB];rfl
theorem Ug{α:Type}(l:List α)(a:α):(l++[a]).getLast? =j a/\(l++[a]).dropLast=l:=⟨by simp,by simp⟩
theorem aja{cL k n E:Int}(h:rh cL 18 k n E=0):0<=k/\k<cL:=by
 unfold rh at h;split at h
 ·cases h
 ·rw[if_neg (by decide),if_neg (by decide),if_neg (by decide),if_pos rfl]at h;split at h
  ·cases h
  ·omega
theorem ajb{cL k n E:Int}(h:rh cL 4 k n E=0):0<=k/\k<E:=by
 unfold rh at h;split at h
 ·cases h
 ·rw[if_pos rfl]at h;split at h
  ·cases h
  ·omega
theorem Uh{ms:dz}{x:ak}{aU:Nat}{S bx:bp}{q:tn}(h:im ms v x aU S=(bx,q,0)):q.func.toNat<(hG ms q.bw).length/\aU≠20:=by
 unfold im at h;simp only at h;split at h
 ·simp only[jH]at h;omega
 ·split at h
  ·simp only[jH]at h;omega
  ·split at h
   ·simp only[jH]at h;omega
   ·split at h
    ·simp only[jH]at h;omega
    ·rename_i au;split at h
     ·simp only[jH]at h;omega
     ·rename_i bc;simp only[jH]at h;obtain⟨_,rfl,_⟩:=h;exact⟨by
       simp only;have:¬((hG ms (S.G.target v.n).1.bw).length:Int)<=(S.G.target v.n).1.func:=λe=>au (.inr (.inl e));have af:¬(S.G.target v.n).1.func<0:=λe=>au (.inr (.inr e));omega,bc⟩
theorem Ui{f:bk->bp->bp×ak×Int}:∀(l:List bk) (S:bp) (acc:List ak),(iW f l S acc).2.2=0->(iW f l S acc).2.1.length=acc.length+l.length
 |[],S,acc,_=>rfl
 |x::l,S,acc,h=>by
   rw[iW]at h ⊢;rcases aG:f x S with⟨bx,v,c⟩;rw[aG]at h;simp only at h ⊢;by_cases aj:c=0
   ·rw[if_neg (by simpa using aj)]at h ⊢;rw[Ui l bx _ h];simp;omega
   ·rw[if_pos aj]at h;exact absurd h aj
theorem x8{p:Int}{x:bk}{arg:ak}{names:List ak}{S:bp}:jn p x arg names S=ab↔¬(x.op=1\/x.op=2\/x.op=3\/x.op=4\/x.op=21):=by
 unfold jn;constructor
 ·intro h
  repeat' split at h
  all_goals first
   |omega
   |cases h
 ·intro h;rw[if_neg (by omega),if_neg (by omega),if_neg (by omega),if_neg (by omega),if_neg (by omega)]
theorem Uj{α:Type}{l:List α}(h:l.length=2):∃a b,l=[a,b]:=by
 match l,h with
 |[a,b],_=>exact⟨a,b,rfl⟩
theorem ajc{α:Type}{l:List α}(h:l.length=3):∃a b c,l=[a,b,c]:=by
 match l,h with
 |[a,b,c],_=>exact⟨a,b,c,rfl⟩
theorem Uk{ms:dz}(aX:vR ms):∀N:Nat,Ue ms N
 |0,x,m,dR,al,bc,av=>by
   obtain⟨c,aj⟩:=Uc x ⟨_,_,bc⟩ m.top.bs;have ae:m.S.left=0:=by omega
   rw[aj]at av;exact ja.no (by decide) (Ub dR av ae)
 |N+1,x,m,dR,al,bc,av=>by
   have aW:=Uk aX N;obtain⟨c,aj⟩:=Uc x ⟨_,_,bc⟩ m.top.bs;have LQ:=av;rw[aj]at LQ;obtain⟨f1,f2,f3,f4,f5⟩:=IV bc;rw[dL];by_cases ae:m.S.left=0
   ·rw[if_pos ae];exact ja.no (by decide) (Ub dR LQ ae)
   rw[if_neg ae];have wx:∀r,jP ms (m.after m.S.tick 1 []) r->jP ms m r:=λr ah=>ai7 dR LQ ae ah;have zT:(m.after m.S.tick 1 []).Good ms:=dR.after dR.S.tick (by have:=A5 ae;omega) (by have:=A5 ae;simp only[gK];omega) (by simp);have qW:m.S.tick.left<=N:=by show m.S.left - 1<=N;omega
   have ib:=ai' f1;by_cases iS:x.op=5
   ·have sI:jn m.top.bw x m.top.arg m.top.names m.S.tick=ab:=x8.2 (by omega);rw[sI];simp only;rw[if_pos iS];have hlen:x.l.length=2:=by rw[iS]at f2;simp[bv]at f2;omega
    obtain⟨a,b,s9⟩:=Uj hlen;rw[iS]at f5;rw[s9]at f5 ⊢;obtain⟨Gs,f6⟩:=A0 f5;obtain⟨a5,_⟩:=A0 f6;rw[if_neg (by omega)]at Gs;rw[if_pos (by omega)]at a5;simp only[rB,List.getD_cons_succ];have pJ:ce x m.top.bs=⟨100,0,0⟩::(ce a (m.top.bs+1)++(⟨101,0,0⟩::(ce b (m.top.bs+1+(ce a (m.top.bs+1)).length+1)++[⟨102,0,0⟩]))):=by rw[y9,s9];unfold sa;rw[if_pos iS];rfl
    rw[pJ]at av ⊢;have k1:g0 ms (m.after m.S.tick 1 []) _:=g0.right (a:=[⟨100,0,0⟩]) av rfl rfl rfl;have F:=aW a (m.after m.S.tick 1 []) zT qW Gs k1.left;have hle:=ze ms N m.top.bw a m.top.arg m.top.names (m.below.length+1) m.S.tick;have kk:=rk ms N m.top.bw a m.top.arg m.top.names (m.below.length+1) m.S.tick dR.S.tick dR.top.arg dR.top.names;change ja ms _ _ (dL ms N m.top.bw a m.top.arg m.top.names (m.below.length+1) m.S.tick)at F;rcases aG:dL ms N m.top.bw a m.top.arg m.top.names (m.below.length+1) m.S.tick with⟨bx,v,c⟩;rw[aG]at F hle kk;simp only at F hle ⊢;unfold ja at F;simp only at F;by_cases aj:c=0
    ·rw[if_neg (by simpa using aj)]at F ⊢;rw[zS]at F;generalize dD:ce a (m.top.bs+1)=A at*;have B8:ce a (m.after m.S.tick 1 []).top.bs=A:=dD;rw[B8]at F;have kB:g0 ms (m.after bx (1+A.length) ([]++[v])) (⟨101,0,0⟩::(ce b (m.top.bs+1+A.length+1)++[⟨102,0,0⟩])):=g0.right k1 rfl rfl (by simp only[b5.after];omega);have u5:(m.after bx (1+A.length) ([]++[v])).Good ms:=by have:=b5.Good.ww (k:=A.length) zT kk aj;rwa [zS]at this
     have m7:=kB.at u5 ⟨by simp,by simp[b5.after],by simp,by simp,by simp,by simp⟩;have ajd:v.code=0:=kk.1.val aj;have bh:bx.left<m.S.tick.left:=kk.2 aj;have F3:=(A5 ae).2;have o4:(⟨bx,{m.top with bs:=m.top.bs+1+A.length+1,names:=m.top.names++[v]},m.below⟩:b5).Good ms:=by
      refine u5.next rfl rfl ⟨dR.top.gN,dR.top.there,dR.top.f0,dR.top.f1,dR.top.arg,λw hw=>?_,dR.top.stack,dR.top.ec⟩ (by simp[b5.after]) ?_
      ·rcases List.mem_append.1 hw with hw|hw
       ·exact dR.top.names w hw
       ·simp only[List.mem_singleton]at hw;rw[hw];exact ajd
      ·have:=dR.tp;simp only[eP,gp];omega
     have ao:mw ms (m.after bx (1+A.length) ([]++[v]))= .go {S:=bx,top:={m.top with bs:=m.top.bs+1+A.length+1,names:=m.top.names++[v]},below:=m.below}:=by unfold mw;simp only[kB.get];rw[if_neg (by decide),if_pos trivial];simp only[b5.after,k5,tJ,x7,rB];rw[oE m.top.bs 1]
     have sm:g0 ms {S:=bx,top:={m.top with bs:=m.top.bs+1+A.length+1,names:=m.top.names++[v]},below:=m.below} (ce b (m.top.bs+1+A.length+1)++[⟨102,0,0⟩]):=g0.right (a:=[⟨101,0,0⟩]) kB rfl rfl (by simp only[b5.after,gp];omega);have O:=aW b {S:=bx,top:={m.top with bs:=m.top.bs+1+A.length+1,names:=m.top.names++[v]},below:=m.below} o4 (ef hle qW) (by simp only[eP,gp];exact a5) sm.left;simp only at O;have pK:=rk ms N m.top.bw b m.top.arg (m.top.names++[v]) (m.below.length+1) bx o4.S o4.top.arg o4.top.names;generalize dL ms N m.top.bw b m.top.arg (m.top.names++[v]) (m.below.length+1) bx=q at O pK ⊢;unfold ja at O ⊢;by_cases aN:q.2.2=0
     ·rw[if_neg (by simpa using aN)]at O ⊢;intro r ah;refine wx r (F r (.go m7 ao (O r ?_)));generalize ce b (m.top.bs+1+A.length+1)=B at*;have Cr:g0 ms (b5.after {S:=bx,top:={m.top with bs:=m.top.bs+1+A.length+1,names:=m.top.names++[v]},below:=m.below} q.1 B.length [q.2.1]) [⟨102,0,0⟩]:=g0.right sm rfl rfl rfl;refine .go (Cr.at (b5.Good.ww (c:=q.2.2) o4 pK aN) ⟨by simp,by simp,by simp[b5.after],by simp,by simp,by simp⟩) (aR:=m.after q.1 (⟨100,0,0⟩::(A++(⟨101,0,0⟩::(B++[⟨102,0,0⟩]))):List cD).length [q.2.1]) ?_ ah;unfold mw;simp only[Cr.get];rw[if_neg (by decide),if_neg (by decide),if_pos trivial];simp only[b5.after,List.dropLast_concat,gT,eP,gK];congr 3;omega
     ·rw[if_pos aN]at O ⊢;exact wx _ (F _ (.go m7 ao O))
    ·rw[if_pos aj]at F ⊢;exact ja.no aj (wx _ F)
   by_cases r1:x.op=7
   ·have sI:jn m.top.bw x m.top.arg m.top.names m.S.tick=ab:=x8.2 (by omega);rw[sI];simp only;rw[if_neg iS,if_pos r1];have hlen:x.l.length=3:=by rw[r1]at f2;simp[bv]at f2;omega
    obtain⟨a,b,fy,s9⟩:=ajc hlen;have LR:=Ee iS f5;have Gs:=LR a (by rw[s9];simp);have a5:=LR b (by rw[s9];simp);have aje:=LR fy (by rw[s9];simp);rw[s9];simp only[rB,List.getD_cons_succ];have pJ:ce x m.top.bs=⟨100,0,0⟩::(ce a (m.top.bs+1)++(⟨103,((oa (ce a) (ce b) m.top.bs:Nat):Int),0⟩::(ce b (m.top.bs+1+(ce a (m.top.bs+1)).length+1)++ (⟨104,((oa (ce a) (ce b) m.top.bs+(ce fy (oa (ce a) (ce b) m.top.bs)).length:Nat):Int),0⟩::ce fy (oa (ce a) (ce b) m.top.bs))))):=by rw[y9,s9];unfold sa;rw[if_neg iS,if_pos r1];rfl
    have QT:oa (ce a) (ce b) m.top.bs=m.top.bs+1+(ce a (m.top.bs+1)).length+1+(ce b (m.top.bs+1+(ce a (m.top.bs+1)).length+1)).length+1:=rfl;rw[pJ]at av ⊢;have k1:g0 ms (m.after m.S.tick 1 []) _:=g0.right (a:=[⟨100,0,0⟩]) av rfl rfl rfl;have F:=aW a (m.after m.S.tick 1 []) zT qW Gs k1.left;have hle:=ze ms N m.top.bw a m.top.arg m.top.names (m.below.length+1) m.S.tick;have kk:=rk ms N m.top.bw a m.top.arg m.top.names (m.below.length+1) m.S.tick dR.S.tick dR.top.arg dR.top.names;change ja ms _ _ (dL ms N m.top.bw a m.top.arg m.top.names (m.below.length+1) m.S.tick)at F;rcases aG:dL ms N m.top.bw a m.top.arg m.top.names (m.below.length+1) m.S.tick with⟨bx,v,c⟩;rw[aG]at F hle kk;simp only at F hle ⊢;unfold ja at F;simp only at F;by_cases aj:c=0
    ·rw[if_neg (by simpa using aj)]at F ⊢;rw[zS]at F;have B8:ce a (m.after m.S.tick 1 []).top.bs=ce a (m.top.bs+1):=rfl;rw[B8]at F;have F1:∀q,q=m.top.bs+1+(ce a (m.top.bs+1)).length+1->ce b q=ce b (m.top.bs+1+(ce a (m.top.bs+1)).length+1):=λq e=>by rw[e]
     have Ul:∀q,q=oa (ce a) (ce b) m.top.bs->ce fy q=ce fy (oa (ce a) (ce b) m.top.bs):=λq e=>by rw[e]
     generalize ce fy (oa (ce a) (ce b) m.top.bs)=C at*;generalize oa (ce a) (ce b) m.top.bs=el at*;generalize ce b (m.top.bs+1+(ce a (m.top.bs+1)).length+1)=B at*;generalize ce a (m.top.bs+1)=A at*;have kB:g0 ms (m.after bx (1+A.length) ([]++[v])) (⟨103,(el:Int),0⟩::(B++(⟨104,((el+C.length:Nat):Int),0⟩::C))):=g0.right k1 rfl rfl (by simp only[b5.after];omega);have Z:(⟨100,0,0⟩::(A++(⟨103,(el:Int),0⟩::(B++(⟨104,((el+C.length:Nat):Int),0⟩::C)))):List cD).length=1+A.length+1+B.length+1+C.length:=by simp only[gT,eP];omega
     rw[Z];have mC:∀r,jP ms (m.after bx (1+A.length) ([]++[v])) r->jP ms m r:=λr ah=>wx r (F r ah);have u5:(m.after bx (1+A.length) ([]++[v])).Good ms:=by have:=b5.Good.ww (k:=A.length) zT kk aj;rwa [zS]at this
     have m7:=kB.at u5 ⟨by simp,by simp[b5.after],by simp,by simp,by simp,by simp⟩;have o4:∀bs,(⟨bx,{m.top with bs:=bs},m.below⟩:b5).Good ms:=λbs=>by refine u5.next rfl rfl ⟨dR.top.gN,dR.top.there,dR.top.f0,dR.top.f1,dR.top.arg,dR.top.names,dR.top.stack,dR.top.ec⟩ (by simp[b5.after]) u5.tp
     by_cases R:v.kind=1
     ·rw[if_neg (by simpa using R)];have ao:mw ms (m.after bx (1+A.length) ([]++[v]))= .go {S:=bx,top:={m.top with bs:=if v.n=0 then el else m.top.bs+(1+A.length)+1},below:=m.below}:=by unfold mw;simp only[kB.get];rw[if_neg (by decide),if_neg (by decide),if_neg (by decide),if_pos trivial];simp only[b5.after,k5,tJ,x7,rB,n9];rw[if_neg (by simpa using R)]
      by_cases au:v.n=0
      ·rw[if_neg (by simpa using au)];rw[if_pos au]at ao;have sm:g0 ms {S:=bx,top:={m.top with bs:=el},below:=m.below} C:=by have:=g0.right (aR:={S:=bx,top:={m.top with bs:=el},below:=m.below}) (a:=⟨100,0,0⟩::(A++(⟨103,(el:Int),0⟩::(B++[⟨104,((el+C.length:Nat):Int),0⟩])))) (b:=C) (ms:=ms) (m:=m) (by simpa using av) rfl rfl (by simp only[gT,eP,gK];omega);exact this
       have O:=aW fy {S:=bx,top:={m.top with bs:=el},below:=m.below} (o4 _) (ef hle qW) aje (by simp only;rw[Ul el rfl];exact sm);simp only at O;rw[Ul el rfl]at O;generalize dL ms N m.top.bw fy m.top.arg m.top.names (m.below.length+1) bx=q at O ⊢;unfold ja at O ⊢;by_cases aN:q.2.2=0
       ·rw[if_neg (by simpa using aN)]at O ⊢;intro r ah;refine mC r (.go m7 ao (O r ?_));have:(b5.after {S:=bx,top:={m.top with bs:=el},below:=m.below} q.1 C.length [q.2.1])=m.after q.1 (1+A.length+1+B.length+1+C.length) [q.2.1]:=by simp only[b5.after];rw[show el+C.length=m.top.bs+(1+A.length+1+B.length+1+C.length) by omega]
        rw[this];exact ah
       ·rw[if_pos aN]at O ⊢;exact mC _ (.go m7 ao O)
      ·rw[if_pos au];rw[if_neg au]at ao;have sm:g0 ms {S:=bx,top:={m.top with bs:=m.top.bs+(1+A.length)+1},below:=m.below} (B++(⟨104,((el+C.length:Nat):Int),0⟩::C)):=g0.right (a:=[⟨103,(el:Int),0⟩]) kB rfl rfl (by simp only[b5.after,gp]);have kZ:ce b (m.top.bs+(1+A.length)+1)=B:=F1 _ (by omega);have O:=aW b {S:=bx,top:={m.top with bs:=m.top.bs+(1+A.length)+1},below:=m.below} (o4 _) (ef hle qW) a5 (by simp only;rw[kZ];exact sm.left);simp only at O;rw[kZ]at O;have pK:=rk ms N m.top.bw b m.top.arg m.top.names (m.below.length+1) bx u5.S dR.top.arg dR.top.names;generalize dL ms N m.top.bw b m.top.arg m.top.names (m.below.length+1) bx=q at O pK ⊢;unfold ja at O ⊢;by_cases aN:q.2.2=0
       ·rw[if_neg (by simpa using aN)]at O ⊢;intro r ah;refine mC r (.go m7 ao (O r ?_));have Cr:g0 ms (b5.after {S:=bx,top:={m.top with bs:=m.top.bs+(1+A.length)+1},below:=m.below} q.1 B.length [q.2.1]) (⟨104,((el+C.length:Nat):Int),0⟩::C):=g0.right sm rfl rfl rfl;refine .go (Cr.at (b5.Good.ww (c:=q.2.2) (o4 _) pK aN) ⟨by simp,by simp,by simp,λ_=>Int.natCast_nonneg _,by simp,by simp⟩) (aR:=m.after q.1 (1+A.length+1+B.length+1+C.length) [q.2.1]) ?_ ah;unfold mw;simp only[Cr.get];rw[if_neg (by decide),if_neg (by decide),if_neg (by decide),if_neg (by decide),if_pos trivial];simp only[b5.after,n9];congr 3;omega
       ·rw[if_pos aN]at O ⊢;exact mC _ (.go m7 ao O)
     ·rw[if_pos R];refine ja.no (by decide) (mC _ (.fail m7 ?_));unfold mw;simp only[kB.get];rw[if_neg (by decide),if_neg (by decide),if_neg (by decide),if_pos trivial];simp only[b5.after,k5,tJ,rB];rw[if_pos R]
    ·rw[if_pos aj]at F ⊢;exact ja.no aj (wx _ F)
   have pJ:ce x m.top.bs=⟨100,0,0⟩::(jZ (x.l.map ce) (m.top.bs+1)++[⟨x.op,x.k,x.n⟩]):=by rw[y9];unfold sa;rw[if_neg iS,if_neg r1]
   rw[pJ]at av ⊢;have k1:g0 ms (m.after m.S.tick 1 []) (jZ (x.l.map ce) (m.top.bs+1)++[⟨x.op,x.k,x.n⟩]):=g0.right (a:=[⟨100,0,0⟩]) av rfl rfl rfl;cases sI:jn m.top.bw x m.top.arg m.top.names m.S.tick with
   |some v=>
     have aN:x.l=[]:=by
      have:x.op=1\/x.op=2\/x.op=3\/x.op=4\/x.op=21:=by
       rcases Classical.em (x.op=1\/x.op=2\/x.op=3\/x.op=4\/x.op=21)with h|h
       ·exact h
       ·rw[x8.2 h]at sI;cases sI
      have aB:bv x.op=0:=by rw[bv,if_pos this]
      rw[aB]at f2;exact p4.1 (by omega)
     rw[aN]at k1 ⊢;simp only[qQ,jZ,k5]at k1 ⊢;refine ja.ok λr ah=>wx r (.go (k1.at zT ⟨.inl ⟨ib.1,ib.2,iS,r1⟩,λh=>by simp only at h;omega,λh=>by simp only at h;omega,λh=>by simp only at h;omega,λ_=>by simp only;rw[aN]at f2;rw[<-f2];simp,λh=>?_⟩) ?_ ah)
     ·simp only at h;rw[h]at f3;exact ajb f3
     rw[Ud k1 (by omega)];unfold mv;have LS:jn m.top.bw (.mk x.op x.k x.n []) m.top.arg m.top.names m.S.tick=j v:=by rw[<-sI];exact ai8 rfl rfl rfl
     simp only[b5.after,q9,LS,b5.push,gT,gK]
   |none=>
     simp only;rw[if_neg iS,if_neg r1];have dH:=Uf aW x.l (m.after m.S.tick 1 []) [] zT qW (Ee iS f5) k1.left;have hlen:=Ui (f:=λy S=>dL ms N m.top.bw y m.top.arg m.top.names (m.below.length+1) S) x.l m.S.tick [];have hle:=I4 (f:=λy S=>dL ms N m.top.bw y m.top.arg m.top.names (m.below.length+1) S) (λy S=>ze ms N m.top.bw y m.top.arg m.top.names (m.below.length+1) S) x.l m.S.tick [];have Um:=I9 (f:=λy S=>dL ms N m.top.bw y m.top.arg m.top.names (m.below.length+1) S) (λy S h=>rk ms N m.top.bw y m.top.arg m.top.names (m.below.length+1) S h dR.top.arg dR.top.names) x.l m.S.tick [] dR.S.tick (by simp);change x6 ms _ _ _ (iW (λy S=>dL ms N m.top.bw y m.top.arg m.top.names (m.below.length+1) S) x.l m.S.tick [])at dH;rcases aG:iW (λy S=>dL ms N m.top.bw y m.top.arg m.top.names (m.below.length+1) S) x.l m.S.tick []with⟨bx,l,c⟩;rw[aG]at dH hlen hle Um;obtain⟨Cs,ajf,ajg,Un⟩:=Um;simp only[gK,hk]at dH hlen hle ⊢;unfold x6 at dH;simp only at dH;by_cases aj:c=0
     ·subst aj;rw[if_neg (by simp)]at dH ⊢;obtain⟨o3,Uo,dH⟩:=dH;rw[k5]at Uo;subst Uo;have hlen:=hlen rfl;change ∀r,jP ms ((m.after m.S.tick 1 []).after bx (jZ (x.l.map ce) (m.top.bs+1)).length l) r->_ at dH;rw[zS,k5]at dH;generalize jZ (x.l.map ce) (m.top.bs+1)=A at*;have mC:∀r,jP ms (m.after bx (1+A.length) l) r->jP ms m r:=λr ah=>wx r (dH r ah);have kB:g0 ms (m.after bx (1+A.length) l) [⟨x.op,x.k,x.n⟩]:=g0.right k1 rfl rfl (by simp only[b5.after];omega);have LS:jn m.top.bw (.mk x.op x.k x.n []) m.top.arg m.top.names bx=ab:=x8.2 (x8.1 sI);have iu:=Ud kB (by omega);have Ct:=A5 ae;have ro:=(Un rfl).1;have lJ:=(Un rfl).2;simp only[gK,Nat.add_zero]at Cs ajf ajg ro lJ;have u5:(m.after bx (1+A.length) l).Good ms:=dR.after Cs (by omega) (by omega) ro;have m7:uG ms (m.after bx (1+A.length) l):=kB.at u5 ⟨.inl ⟨ib.1,ib.2,iS,r1⟩,λh=>by simp only at h;omega,λh=>by simp only at h;omega,λh=>by simp only at h;omega,λ_=>by
       simp only[b5.after,eP];omega,λh=>by
       have:=x8.1 sI;simp only at h;omega⟩
      have ajh:(bv x.op).toNat=l.length:=by omega
      have Z:(⟨100,0,0⟩::(A++[⟨x.op,x.k,x.n⟩]):List cD).length=1+A.length+1:=by simp only[gT,eP,gK];omega
      rw[Z];clear Z pJ av k1;unfold mv at iu;simp only[b5.after,q9,LS]at iu;by_cases Gt:x.op=18
      ·rw[if_pos Gt]at iu ⊢;rw[Gt]at f2 f3;obtain⟨ia,dc⟩:=aja f3;obtain⟨v,rfl⟩:∃v,l=[v]:=by
        have:l.length=1:=by rw[hlen];simp[bv]at f2;omega
        match l,this with
        |[v],_=>exact⟨v,rfl⟩
       rw[tJ,x7]at iu;simp only[rB]at iu ⊢;unfold b5.call at iu;simp only at iu;by_cases u3:m.below.length+1=20
       ·rw[if_pos u3]at iu ⊢;exact ja.no (by decide) (mC _ (.fail m7 iu))
       ·rw[if_neg u3]at iu ⊢;have LU:=LO aX (p:=m.top.bw) (k:=x.k) (by omega);have o4:(⟨bx,⟨m.top.bw,x.k,0,v,[],[],T,[]⟩,m.below++[{m.top with bs:=m.top.bs+(1+A.length)+1}]⟩:b5).Good ms:=by
         have c1:=dR.cA;have cr:=dR.ps;have eg:=dR.a2;refine⟨Cs,⟨dR.top.gN,dR.top.there,ia,by simp only;omega,ro v (by simp),by simp,by simp,by simp⟩,by simp only;omega,?_,?_,?_⟩
         ·simp only[gK];omega
         ·simp only[gK];omega
         ·simp only[eP,gp];omega
        have pK:=rk ms N m.top.bw (fp ms m.top.bw x.k) v [] (m.below.length+1+1) bx Cs (ro v (by simp)) (by simp);have af:=aW (fp ms m.top.bw x.k) ⟨bx,⟨m.top.bw,x.k,0,v,[],[],T,[]⟩,m.below++[{m.top with bs:=m.top.bs+(1+A.length)+1}]⟩ o4 (ef hle qW) LU ⟨[],[⟨105,0,0⟩],by simp[kg],rfl⟩;simp only[eP,gp]at af;generalize dL ms N m.top.bw (fp ms m.top.bw x.k) v [] (m.below.length+1+1) bx=q at af pK ⊢;unfold ja at af ⊢;by_cases aN:q.2.2=0
        ·rw[if_neg (by simpa using aN)]at af ⊢;intro r ah;refine mC r (.go m7 iu (af r (.go (g0.at (c:=[]) (x:=⟨105,0,0⟩) ⟨ce (fp ms m.top.bw x.k) 0,[],by simp[kg,b5.after],by simp[b5.after]⟩ (b5.Good.ww (c:=q.2.2) o4 pK aN) ⟨by simp,by simp[b5.after],by simp,by simp,by simp,by simp⟩) ?_ ah)));rw[LP (c:=[]) (st:=[]) (v:=q.2.1) ⟨ce (fp ms m.top.bw x.k) 0,[],by simp[kg,b5.after],by simp[b5.after]⟩ rfl];simp only[b5.after,bp.ok,Ug];rw[if_neg (by simp)];simp only[mI,if_false];simp[oE]
        ·rw[if_pos aN]at af ⊢;exact mC _ (.go m7 iu af)
      by_cases LV:x.op=19
      ·rw[if_neg Gt,if_pos LV]at iu ⊢;rw[LV]at f2;obtain⟨v,w,rfl⟩:∃v w,l=[v,w]:=Uj (by rw[hlen];simp[bv]at f2;omega);have Ct:=Cp m.top.stack [v,w];have cN:=Cq m.top.stack [v,w];simp only[gT,gK,hk,aD]at Ct cN;rw[Ct,cN]at iu;simp only[rB,List.getD_cons_succ]at iu ⊢;have LW:=I3 ms v w (m.below.length+1) bx;have LX:=Pu (ms:=ms) (v:=v) (x:=w) (aU:=m.below.length+1) Cs;rcases Up:im ms v w (m.below.length+1) bx with⟨ld,q,c⟩;rw[Up]at iu LW LX;simp only at iu LW LX ⊢;by_cases aj:c=0
       ·subst aj;rw[if_neg (by simp)]at iu ⊢;obtain⟨aji,u3⟩:=Uh Up;unfold b5.call at iu;simp only at iu;rw[if_neg u3]at iu;have LU:=LO aX (p:=q.bw) (k:=q.func) aji;obtain⟨c9,dx,gH⟩:=LX;obtain⟨p9,v2,Cu,Gu,LY,Uq⟩:=gH rfl;have o4:(⟨ld,⟨q.bw,q.func,0,q.arg,[],[],Q,q.ec⟩,m.below++[{m.top with bs:=m.top.bs+(1+A.length)+1}]⟩:b5).Good ms:=by
         have c1:=dR.cA;have cr:=dR.ps;have eg:=dR.a2;refine⟨c9,⟨Gu,Cu,LY,Uq,p9,by simp,by simp,v2⟩,by simp only;omega,?_,?_,?_⟩
         ·simp only[gK];omega
         ·simp only[gK];omega
         ·simp only[eP,gp];omega
        have pK:=rk ms N q.bw (fp ms q.bw q.func) q.arg [] (m.below.length+1+1) ld c9 p9 (by simp);have af:=aW (fp ms q.bw q.func) ⟨ld,⟨q.bw,q.func,0,q.arg,[],[],Q,q.ec⟩,m.below++[{m.top with bs:=m.top.bs+(1+A.length)+1}]⟩ o4 (ef (pg LW) (ef hle qW)) LU ⟨[],[⟨105,0,0⟩],by simp[kg],rfl⟩;simp only[eP,gp]at af;rcases vQ:dL ms N q.bw (fp ms q.bw q.func) q.arg [] (m.below.length+1+1) ld with⟨px,gw,b'⟩;rw[vQ]at af pK;unfold ja at af;simp only at af ⊢;by_cases aN:b'=0
        ·rw[if_neg (by simpa using aN)]at af ⊢;have tK:=LP (ms:=ms) (m:=b5.after ⟨ld,⟨q.bw,q.func,0,q.arg,[],[],Q,q.ec⟩,m.below++[{m.top with bs:=m.top.bs+(1+A.length)+1}]⟩ px (ce (fp ms q.bw q.func) 0).length [gw]) (c:=[]) (st:=[]) (v:=gw) ⟨ce (fp ms q.bw q.func) 0,[],by simp[kg,b5.after],by simp[b5.after]⟩ rfl;have Gv:uG ms (b5.after ⟨ld,⟨q.bw,q.func,0,q.arg,[],[],Q,q.ec⟩,m.below++[{m.top with bs:=m.top.bs+(1+A.length)+1}]⟩ px (ce (fp ms q.bw q.func) 0).length [gw]):=g0.at (c:=[]) (x:=⟨105,0,0⟩) ⟨ce (fp ms q.bw q.func) 0,[],by simp[kg,b5.after],by simp[b5.after]⟩ (o4.ww pK aN) ⟨by simp,by simp[b5.after],by simp,by simp,by simp,by simp⟩;simp only[b5.after,if_true,Ug]at tK;generalize mu q.ec gw px=fm at tK ⊢;unfold ja;by_cases Ur:fm.2.2=0
         ·rw[if_neg (by simpa using Ur)]at tK ⊢;intro r ah;refine mC r (.go m7 iu (af r (.go Gv tK ?_)));simpa[b5.after,oE]using ah
         ·rw[if_pos Ur]at tK ⊢;exact mC _ (.go m7 iu (af _ (.fail Gv tK)))
        ·rw[if_pos aN]at af ⊢;exact ja.no aN (mC _ (.go m7 iu af))
       ·rw[if_pos aj]at iu ⊢;exact ja.no aj (mC _ (.fail m7 iu))
      rw[if_neg Gt,if_neg LV]at iu ⊢;rw[ajh,Cp,Cq]at iu;generalize gC m.top.bw x.op x.k x.n l bx=q at iu ⊢;unfold ja;unfold b5.done b5.push at iu;by_cases aN:q.2.2=0
      ·rw[if_neg (by simpa using aN)]at iu ⊢;intro r ah;refine mC r (.go m7 iu ?_);simpa only[b5.after,oE]using ah
      ·rw[if_pos aN]at iu ⊢;exact mC _ (.fail m7 iu)
     ·rw[if_pos aj]at dH ⊢;exact ja.no aj (wx _ dH)
theorem nN{α:Type}{l:List α}(h:1<=l.length):∃st v,l=st++[v]:=⟨l.dropLast,l.getLast (λe=>by rw[e]at h;simp at h),(List.dropLast_concat_getLast _).symm⟩
theorem Gw{α:Type}{l:List α}(h:2<=l.length):∃st v w,l=st++[v]++[w]:=by obtain⟨st,w,rfl⟩:=nN (l:=l) (by omega);obtain⟨st,v,rfl⟩:=nN (l:=st) (by simp at h;omega);exact⟨st,v,w,rfl⟩
section
variable{h J ae:ad}{ag ap aH aA:Nat->Prop}{L:List cd}{c:hf}{i:Nat}{n:eN}
abbrev eN.m(n:eN):b5:=⟨n.S,n.top,n.below⟩
theorem ea.oo{st:List ak}{q:bp×ak×Int}{aU:I⊕I}(r:ea ae aH aA c L i (n.cA st) q aU J):IR ae aH aA c L i (b5.done n.m st q) aU J:=by
 unfold b5.done;rcases r with⟨e,b,s⟩|⟨e,b,bS,aq,s⟩
 ·rw[if_neg (by simpa using e)];exact⟨b,n.a5,s⟩
 ·rw[if_pos e];exact⟨b,bS,aq,s⟩
theorem m6.oo{st:List ak}{q:bp×tn×Int}{aU:I⊕I}(r:m6 ae aH aA c L i (n.cA st) q aU J)(py:q.2.2=0->n.below.length+1≠20):IR ae aH aA c L i (match q with
   |(bx,q,k)=>if k≠0 then .fail bx k else b5.call n.m bx st q.bw q.func q.arg Q q.ec) aU J:=by
 obtain⟨bx,q,k⟩:=q;rcases r with⟨e,b,a5,s⟩|⟨e,b,bS,aq,s⟩
 ·simp only at e s py ⊢;rw[if_neg (by simpa using e)];unfold b5.call;rw[if_neg (py e)];exact⟨b,a5,s⟩
 ·simp only at e b aq s ⊢;rw[if_pos e];exact⟨b,bS,aq,s⟩
theorem LM.oo{st:List ak}{k:Int}{aU:I⊕I}(r:LM ae aH aA c L i (n.cA st) k v aU J):IR ae aH aA c L i (b5.call n.m n.S st n.top.bw k v T []) aU J:=by
 unfold b5.call;rcases r with⟨e,b,a5,s⟩|⟨e,b,s⟩
 ·rw[if_neg e];exact⟨b,a5,s⟩
 ·rw[if_pos e];exact⟨b,n.cA st,rfl,s⟩
theorem Us{ms:dz}{m:b5}{k x:Int}(h:¬(op=1\/op=2\/op=3\/op=4\/op=21))(hA:op≠18)(qe:op≠19):mv ms m ⟨op,k,x⟩=m.done (sg m.top.stack (bv op).toNat) (gC m.top.bw op k x (qd m.top.stack (bv op).toNat) m.S):=by unfold mv;have al:jn m.top.bw (.mk op k x []) m.top.arg m.top.names m.S=ab:=x8.2 h;simp only;rw[al];simp only;rw[if_neg hA,if_neg qe]
theorem ajj{ms:dz}{m:b5}{k x:Int}(h:jn m.top.bw (.mk op k x []) m.top.arg m.top.names m.S=j v):mv ms m ⟨op,k,x⟩=m.push m.S m.top.stack v:=by unfold mv;simp only;rw[h]
theorem u6{ms:dz}{st:List ak}{k x:Int}(bB:n.top.stack=st++[v])(h:¬(op=1\/op=2\/op=3\/op=4\/op=21))(hA:op≠18)(qe:op≠19)(aB:(bv op).toNat=1):mv ms n.m ⟨op,k,x⟩=b5.done n.m st (gC n.top.bw op k x [v] n.S):=by rw[Us h hA qe,aB];simp only[bB,tJ,x7]
theorem LZ{ms:dz}{st:List ak}{w:ak}{k x:Int}(bB:n.top.stack=st++[v]++[w])(h:¬(op=1\/op=2\/op=3\/op=4\/op=21))(hA:op≠18)(qe:op≠19)(aB:(bv op).toNat=2):mv ms n.m ⟨op,k,x⟩=b5.done n.m st (gC n.top.bw op k x [v,w] n.S):=by
 rw[Us h hA qe,aB];have e:n.top.stack=st++[v,w]:=by rw[bB,kv];rfl
 have t:=Cp st [v,w];have d:=Cq st [v,w];simp only[gT,gK,hk,aD]at t d;simp only[e,t,d]
theorem Cv{ms:dz}{k x:Int}{F:ad}(al:jn n.top.bw (.mk op k x []) n.top.arg n.top.names n.S=j v)(s:aQ ae aH aA F (put c L i (n.cA (n.top.stack++[v])))):IR ae aH aA c L i (mv ms n.m ⟨op,k,x⟩) (.inl (.bW [])) F:=by rw[ajj al];exact⟨rfl,n.a5,s⟩
theorem L0{st:List ak}(aX:n.top.Good c.ms)(bB:n.top.stack=st++l)(R:v∈l):v.code=0:=aX.stack v (by rw[bB];exact List.mem_append_right _ R)
theorem ajk(s:aQ ae aH aA h L)(a:d' c L i n)(E:ha c n)(aX:n.top.Good c.ms){x:cD}(an:zf n.m x)(ib:x.op<100):∃aU J,a3 ar W lN [.ptr c.a' 0 0,.agg (ci x)] h=j (aU,J)/\IR ae aH aA c L i (mv c.ms n.m x) aU J:=by
 obtain⟨op,k,m⟩:=x;simp only at ib;have Z:=an.kind;have mM:=an.parts ib;have Ut:=an.var;simp only at Z mM Ut;obtain⟨P,h6⟩:=Int.eq_ofNat_of_zero_le aX.gN;have nM:P<4:=by
  have:=aX.there;rw[h6]at this;have this:(c.ms.getD P ab).isSome=Q:=this;rcases mc P 4 with h|h
  ·exact h
  ·rw[cK,lU (by rw[E.ms];exact h)]at this;cases this
 have Gx:n.top.bw.toNat=P:=by rw[h6];rfl
 have uj:op=1\/op=2\/op=3\/op=4\/op=6\/op=8\/op=9\/op=10\/op=11\/op=12\/op=13\/op=14\/op=15\/op=16\/op=17\/op=18\/op=19\/op=20\/op=21:=by omega
 rcases uj with rfl|rfl|rfl|rfl|rfl|rfl|rfl|rfl|rfl|rfl|rfl|rfl|rfl|rfl|rfl|rfl|rfl|rfl|rfl
 ·obtain⟨J,e,dW⟩:=aiF s a E k m;exact⟨_,J,e,Cv rfl dW⟩
 ·obtain⟨J,e,dW⟩:=aiG s a E k m;exact⟨_,J,e,Cv rfl dW⟩
 ·obtain⟨J,e,dW⟩:=aiH s a E k m;exact⟨_,J,e,Cv rfl dW⟩
 ·obtain⟨J,e,dW⟩:=aiI s a E (Ut rfl) m;exact⟨_,J,e,Cv rfl dW⟩
 ·obtain⟨st,v,w,bB⟩:=Gw (l:=n.top.stack) mM;obtain⟨aU,J,e,r⟩:=aiw s a E bB k m;exact⟨aU,J,e,by rw[LZ bB (by decide) (by decide) (by decide) rfl];exact r.oo⟩
 ·obtain⟨st,v,w,bB⟩:=Gw (l:=n.top.stack) mM;obtain⟨aU,J,e,r⟩:=aiA s a E bB k m;exact⟨aU,J,e,by rw[LZ bB (by decide) (by decide) (by decide) rfl];exact r.oo⟩
 ·obtain⟨st,v,bB⟩:=nN (l:=n.top.stack) mM;obtain⟨aU,J,e,r⟩:=aiB s a E bB (L0 aX bB (by simp)) k m;exact⟨aU,J,e,by rw[u6 bB (by decide) (by decide) (by decide) rfl];exact r.oo⟩
 ·obtain⟨st,v,bB⟩:=nN (l:=n.top.stack) mM;obtain⟨aU,J,e,r⟩:=aiC s a E bB (L0 aX bB (by simp)) k m;exact⟨aU,J,e,by rw[u6 bB (by decide) (by decide) (by decide) rfl];exact r.oo⟩
 ·obtain⟨st,v,bB⟩:=nN (l:=n.top.stack) mM;obtain⟨aU,J,e,r⟩:=aiD s a E bB k m;exact⟨aU,J,e,by rw[u6 bB (by decide) (by decide) (by decide) rfl];exact r.oo⟩
 ·obtain⟨st,v,bB⟩:=nN (l:=n.top.stack) mM;obtain⟨aU,J,e,r⟩:=aiE s a E bB (L0 aX bB (by simp)) k m;exact⟨aU,J,e,by rw[u6 bB (by decide) (by decide) (by decide) rfl];exact r.oo⟩
 ·obtain⟨st,v,bB⟩:=nN (l:=n.top.stack) mM;obtain⟨aU,J,e,r⟩:=aiT s a E bB k m;exact⟨aU,J,e,by rw[u6 bB (by decide) (by decide) (by decide) rfl];exact r.oo⟩
 ·obtain⟨st,v,w,bB⟩:=Gw (l:=n.top.stack) mM;obtain⟨aU,J,e,r⟩:=aiV s a E bB k m;exact⟨aU,J,e,by rw[LZ bB (by decide) (by decide) (by decide) rfl];exact r.oo⟩
 ·obtain⟨st,v,bB⟩:=nN (l:=n.top.stack) mM;obtain⟨aU,J,e,r⟩:=ai0 s a E bB k m;exact⟨aU,J,e,by rw[u6 bB (by decide) (by decide) (by decide) rfl];exact r.oo⟩
 ·obtain⟨st,v,bB⟩:=nN (l:=n.top.stack) mM;obtain⟨aU,J,e,r⟩:=aiU s a E bB k m;exact⟨aU,J,e,by rw[u6 bB (by decide) (by decide) (by decide) rfl];exact r.oo⟩
 ·obtain⟨st,v,bB⟩:=nN (l:=n.top.stack) mM;obtain⟨aU,J,e,r⟩:=ai1 s a E bB k m;exact⟨aU,J,e,by rw[u6 bB (by decide) (by decide) (by decide) rfl];exact r.oo⟩
 ·obtain⟨st,v,bB⟩:=nN (l:=n.top.stack) mM;obtain⟨aU,J,e,r⟩:=ai2 s a E bB k m;refine⟨aU,J,e,?_⟩;have:mv c.ms n.m ⟨18,k,m⟩=b5.call n.m n.S st n.top.bw k v T []:=by unfold mv;simp only;have al:jn n.top.bw (.mk 18 k m []) n.top.arg n.top.names n.S=ab:=rfl;rw[al];simp only[bB,tJ,x7,if_true];rfl
  rw[this];exact r.oo
 ·obtain⟨st,v,w,bB⟩:=Gw (l:=n.top.stack) mM;obtain⟨aU,J,e,r⟩:=aiW s a E bB k m;refine⟨aU,J,e,?_⟩;have aq:n.top.stack=st++[v,w]:=by rw[bB,kv];rfl
  have t:=Cp st [v,w];have d:=Cq st [v,w];simp only[gT,gK,hk,aD]at t d;have:mv c.ms n.m ⟨19,k,m⟩=match im c.ms v w (n.below.length+1) n.S with
   |(bx,q,k)=>if k≠0 then .fail bx k else b5.call n.m bx st q.bw q.func q.arg Q q.ec:=by
   unfold mv;simp only;have al:jn n.top.bw (.mk 19 k m []) n.top.arg n.top.names n.S=ab:=rfl;rw[al];simp only[aq,t,d,if_true];rw[if_neg (by decide)];rfl
  rw[this];refine m6.oo (q:=im c.ms v w (n.below.length+1) n.S) r λae=>?_;exact(Uh (bx:=(im c.ms v w (n.below.length+1) n.S).1) (q:=(im c.ms v w (n.below.length+1) n.S).2.1) (by rw[<-ae])).2
 ·obtain⟨st,v,bB⟩:=nN (l:=n.top.stack) mM;obtain⟨aU,J,e,r⟩:=ai5 s a E bB h6 nM k m;exact⟨aU,J,e,by rw[u6 bB (by decide) (by decide) (by decide) rfl];exact r.oo⟩
 ·obtain⟨J,e,dW⟩:=ai6 s a E h6 nM k m;refine⟨_,J,e,Cv ?_ dW⟩;show j (n.S.kept.getD n.top.bw.toNat bE)=_;rw[Gx]
end
def m8(c:hf)(L:List cd)(i a5:Nat)(S:bp):List cd:=(put c L i ⟨a5,S,[],⟨0,0,0,bE,[],[],T,[]⟩⟩).set i (xX c.a' c.az a5 (S.left:Int))
theorem ajl{c:hf}{L:List cd}{i:Nat}{n bS:eN}{X:cd}(cl:n.S=bS.S):(put c L i n).set i X=(put c L i bS).set i X:=by
 refine xZ λD=>?_;rw[sv,sv,F8,F8,rF,rF,cl];by_cases U:i=D
 ·rw[if_pos U,if_pos U]
 ·rw[if_neg U,if_neg U,if_neg (show ¬D=i from kw U),if_neg (show ¬D=i from kw U)]
theorem Uu{c:hf}{L:List cd}{i a5:Nat}{n:eN}:(put c L i n).set i (xX c.a' c.az a5 (n.S.left:Int))=m8 c L i a5 n.S:=ajl rfl
def u7(ae:ad)(aH aA:Nat->Prop)(c:hf)(L:List cd)(i:Nat)(q:oQ)(aU:I⊕I)(J:ad):Prop:=match q with
 |.go m=>∃r,aU= .inl (.bW [.agg r,.bool T])/\(r.length=3/\r.all I.one=Q)/\∃gq,aQ ae aH aA J (put c L i ⟨gq,m.S,m.below,m.top⟩)
 |.fail S k=>aU= .inr (.iface kS (.int o k))/\∃bS:eN,bS.S=S/\aQ ae aH aA J (put c L i bS)
 |.over S v=>∃r,aU= .inl (.bW [.agg r,.bool Q])/\b1 v r/\∃gq,aQ ae aH aA J (m8 c L i gq S)
abbrev ajm:cJ:=85
section
variable{h J ae:ad}{ag ap aH aA:Nat->Prop}{L:List cd}{c:hf}{i:Nat}{n:eN}
theorem ajn{α:Type}(l:List α):l=[]\/∃a t,l=a++[t]:=by
 rcases Nat.eq_zero_or_pos l.length with h|h
 ·exact .inl (p4.1 h)
 ·obtain⟨a,t,e⟩:=nN (l:=l) h;exact .inr ⟨a,t,e⟩
theorem Uv{dD:ad}{zU:List cd}{tL:Nat}{js:eN}(s:aQ ae aH aA dD zU)(a:d' c zU tL js)(ai:js.below.length<=100)(aL:∀t,js.below.getLast? =j t->t.stack.length<=100000)(R:b1 v r):(∀k:Nat,c0 T k dD (.ptr c.a' 0 1)=j (.bd js.a5 0 (js.below.length+1) eM))/\((js.below=[]/\∃F,ew 1 dD (.ptr c.a' 0 1) (.bd js.a5 0 js.below.length eM)=j F/\(∀k:Nat,c0 T k F (.ptr c.a' 0 1)=j (.bd js.a5 0 js.below.length eM))/\aQ ae aH aA F (zU.set tL (xX c.a' c.az js.a5 (js.S.left:Int))))\/(∃mD t,js.below=mD++[t]/\∃F O,ew 1 dD (.ptr c.a' 0 1) (.bd js.a5 0 js.below.length eM)=j F/\(∀k:Nat,c0 T k F (.ptr c.a' 0 1)=j (.bd js.a5 0 js.below.length eM))/\aQ ae aH aA F (put c zU tL ⟨js.a5,js.S,mD,t⟩)/\a3 ar W m2 [.ptr c.a' 0 0,.agg r] F=j (.inl (.bW []),O)/\aQ ae aH aA O (put c zU tL ⟨js.a5,js.S,mD,{t with stack:=t.stack++[v]}⟩))):=by
 obtain⟨_,_,_,_,ba⟩:=nK s tL a.m;refine⟨λk=>by rw[hD,ba.m];rfl,?_⟩;rcases ajn js.below with au|⟨mD,t,au⟩
 ·refine .inl ⟨au,?_⟩;have zV:=a.m;rw[au]at zV ⊢;obtain⟨F,ao,a4⟩:=ahi s tL zV;refine⟨F,ao,λk=>?_,a4⟩;have al:tL<zU.length:=(gg.1 zV).1;have aj:=(a4.cell tL (by rw[List.getElem?_set_self al];rfl)).1;rw[hD,aj];rfl
 ·refine .inr ⟨mD,t,au,?_⟩;have zV:=a.m;rw[au]at zV;obtain⟨F,ao,a4⟩:=ahg s tL zV;rw[a.tE]at a4;have aJ:=a.put ⟨js.a5,js.S,mD,t⟩;obtain⟨_,_,_,_,Lh⟩:=nK a4 tL aJ.m;have hlen:js.below.length=mD.length+1:=by rw[au];simp
  obtain⟨O,aq,bn⟩:=nL a4 aJ (by simp only;omega) (aL t (by rw[au];simp)) R;rw[gP]at bn;exact⟨F,O,by rw[hlen];exact ao,λk=>by rw[hD,Lh.m,hlen];rfl,a4,aq,bn⟩
theorem Uw{ec:List Int}{S:bp}:mu ec v S=if(iM ec S.G v).2.2≠0 then({S with G:=(iM ec S.G v).1}:bp).no (iM ec S.G v).2.2 else({S with G:=(iM ec S.G v).1}:bp).ok (iM ec S.G v).2.1:=rfl
theorem L1{st:List ak}(bB:n.top.stack=st++[v]):b5.back n.m=(if(if n.top.asked then mu n.top.ec v n.S else n.S.ok v).2.2≠0 then .fail (if n.top.asked then mu n.top.ec v n.S else n.S.ok v).1 (if n.top.asked then mu n.top.ec v n.S else n.S.ok v).2.2 else match n.below.getLast? with
  |none=>.over (if n.top.asked then mu n.top.ec v n.S else n.S.ok v).1 (if n.top.asked then mu n.top.ec v n.S else n.S.ok v).2.1
  |some t=>.go ⟨(if n.top.asked then mu n.top.ec v n.S else n.S.ok v).1,{t with stack:=t.stack++[(if n.top.asked then mu n.top.ec v n.S else n.S.ok v).2.1]},n.below.dropLast⟩):=by
 unfold b5.back;simp only[bB,tJ,rB];rfl
theorem ajo(s:aQ ae aH aA h L)(a:d' c L i n)(E:ha c n){st:List ak}(bB:n.top.stack=st++[v])(OS:n.top.ec.length<=80)(kR:∀aR,b5.back n.m= .go aR->aR.top.stack.length<=100000):∃aU J,a3 ar W ajm [.ptr c.a' 0 0] h=j (aU,J)/\u7 ae aH aA c L i (b5.back n.m) aU J:=by
 have DP:n.top.asked=T->∀t,n.below.getLast? =j t->t.stack.length<=100000:=λZ t aL=>by rw[L1 bB,Z]at kR;simp only[mI,if_false]at kR;rw[if_neg (by simp[bp.ok]),aL]at kR;have:=kR _ rfl;simp at this;omega
 have zi:n.top.asked=Q->(iM n.top.ec n.S.G v).2.2=0->∀t,n.below.getLast? =j t->t.stack.length<=100000:=λZ aj t aL=>by
  have ai:(mu n.top.ec v n.S).2.2=0:=by rw[Uw,if_neg (λe=>e aj)];rfl
  rw[L1 bB,Z]at kR;simp only[if_true]at kR;rw[if_neg (λe=>e ai),aL]at kR;have:=kR _ rfl;simp at this;omega
 clear kR;rw[L1 bB];have fq:=s.push [bt];have hT:=a.cons (a9 h.n [bt]);obtain⟨O,r,aq,R,bn,a1⟩:=rG fq hT E bB;have dE:=E.pI bB;rw[dM]at bn a1;obtain⟨bG,bD⟩:=R.cZ;have b0:=bn.push [r];have bf:=a1.cons (a9 O.n [r]);obtain⟨db,_⟩:=l9 b0 bf E.below;obtain⟨hs,dv,aI,g,ba⟩:=nK b0 (i+1+1) bf.m;have Cw:=ba.all;have kR:g.one=Q:=by have:=ba.aX;rcases this with⟨_,rfl⟩|⟨id,rfl⟩<;>rfl
 have ajp:fE 3 g (jY n.top.ec):=ba.aX;have hN:=m4 (n.cA st).top hs dv aI g ba.aM.cZ.1;have Cx:=FD (f:=(n.cA st).top) (g:=g) ba.aM.cZ ba.dv.1 ba.aI.1 kR;generalize fP (n.cA st).top hs dv aI g=row at*;have cc:aQ ae aH aA _ (a9 (O.n+1) [row]::a9 O.n [r]::a9 h.n [bt]::put c L i (n.cA st)):=b0.push [row];have cv:=bf.cons (a9 (O.n+1) [row]);have a8:=(cc.cell 0 rfl).1;have bZ:=(cc.cell 1 rfl).1;have xT:jN o (((n.below.length+1:Nat):Int) - 1)=(n.below.length:Int):=xE (by omega) (by have:=E.below;omega) (by have:=E.below;omega);have ry:=KP (e:=eM) (b:=n.a5) (n:=n.below.length+1) (m:=n.below.length) (by omega);have Cy:cf 1 (.ptr c.a' 0 0)=j (.ptr c.a' 0 1):=rfl;have iN:row[8]? =j (.bool n.top.asked):=hN.2.2.2.2.1;have L2:row[9]? =j g:=hN.2.2.2.1;have Cz:row.length=10:=hN.2.1;clear hN;cases Gy:n.top.asked with
 |false=>
   rw[Gy]at iN;simp only[mI,if_false,bp.ok];rw[if_neg (by simp)];obtain⟨hx,n2⟩:=Uv cc cv E.below (DP Gy) R;rcases n2 with⟨mN,F,eB,n1,cE⟩|⟨mD,t,pe,F,bg,eB,n1,cE,nD,ee⟩
   ·have mN:n.below=[]:=mN;rw[mN];have wv:aQ ae aH aA F (a9 (O.n+1) [row]::a9 O.n [r]::a9 h.n [bt]::(put c L i (n.cA st)).set i (xX c.a' c.az n.a5 (n.S.left:Int))):=cE;have d1:=(wv.cell 1 rfl).1;have d2:=(wv.cell 2 rfl).1;have ee:=wv.set 2 rfl [r];have d3:=(ee.cell 2 rfl).1;refine⟨.inl (.bW [.agg r,.bool Q]),_,?_,r,rfl,R,n.a5,by have:=ee.drop.drop.drop;rw[<-Uu (n:=n.cA st)];exact this⟩;have o5:decide ((n.below.length:Int)=0)=Q:=decide_eq_true (by rw[mN];rfl);refine bC BP rfl ?_;unfold zC;simp only[ay,aD,aO,ax,ct,aq,bG,bD,db,Cw,Cz,Cx,a8,iN,Cy,hx,xT,ry,eB,n1,o5,d1,d2]
   ·have pe:n.below=mD++[t]:=pe;have hlen:n.below.length=mD.length+1:=by rw[pe];simp
    have AG:n.below.getLast? =j t:=by rw[pe];simp
    have L3:n.below.dropLast=mD:=by rw[pe];simp
    rw[AG,L3];have wv:aQ ae aH aA F (a9 (O.n+1) [row]::a9 O.n [r]::a9 h.n [bt]::put c (put c L i (n.cA st)) i ⟨n.a5,n.S,mD,t⟩):=cE;have L4:aQ ae aH aA bg (a9 (O.n+1) [row]::a9 O.n [r]::a9 h.n [bt]::put c (put c L i (n.cA st)) i ⟨n.a5,n.S,mD,{t with stack:=t.stack++[v]}⟩):=ee;have d1:=(wv.cell 1 rfl).1;have d2:=(L4.cell 1 rfl).1;have d3:=(L4.cell 2 rfl).1;have jS:=L4.set 2 rfl [r];have d4:=(jS.cell 2 rfl).1;refine⟨.inl (.bW [.agg r,.bool T]),_,?_,r,rfl,R.cZ,n.a5,by have:=jS.drop.drop.drop;rw[gP]at this;exact this⟩;have o5:decide ((n.below.length:Int)=0)=T:=decide_eq_false (by rw[hlen];omega);refine bC BP rfl ?_;unfold zC;simp only[ay,aD,aO,ax,ct,aq,bG,bD,db,Cw,Cz,Cx,a8,iN,Cy,hx,xT,ry,eB,n1,o5,d1,nD,d2,d3]
 |true=>
   rw[Gy]at iN;simp only[if_true];have FX:=zi Gy;clear DP zi;rw[Uw];obtain⟨hC,dh,_⟩:=o2 cc cv E.len;have f0:cf 0 (.ptr c.a' 0 0)=j (.ptr c.a' 0 0):=rfl;have f1:cf 0 (.ptr c.az 0 0)=j (.ptr c.az 0 0):=rfl;obtain⟨bg,⟨y,eB,bF⟩,cE⟩:=Cg cc cv (dG:=λJ=>∃bM,a3 ar W 106 [.ptr c.b6 0 0,.agg r,g] ((O.push [r]).push [row])=j (.inl (.bW [.agg bM,.int o (iM n.top.ec n.S.G v).2.2]),J)/\b1 (iM n.top.ec n.S.G v).2.1 bM) λag ap ws=>TV ws E.S.wf R ajp (by omega);generalize iM n.top.ec n.S.G v=q at*;obtain⟨cU,bu,jR⟩:=q;simp only at eB bF cE ⊢;rw[dM,dM,dM,gP]at cE;obtain⟨e8,g9⟩:=bF.cZ;have ez:=(((a.put {(n.cA st)with S:={n.S with G:=cU}}).cons (a9 h.n [bt])).cons (a9 O.n [r])).cons (a9 (O.n+1) [row]);have ee:=cE.push [bt];have i8:=ez.cons (a9 bg.n [bt]);obtain⟨gE,ek,_⟩:=o2 ee i8 E.len;have d0:=(ee.cell 1 rfl).1;have d1:=(ee.cell 2 rfl).1;have jS:=cE.push [y];have v0:=ez.cons (a9 bg.n [y]);have d2:=(jS.cell 0 rfl).1;have d3:=(jS.cell 2 rfl).1;by_cases s0:jR=0
   ·subst s0;rw[if_neg (λh=>h rfl)];simp only[bp.ok];rw[if_neg (by simp)];have d5:decide ((0:Int)=0)=Q:=rfl;have j1:aQ ae aH aA _ (a9 bg.n [y]::a9 (O.n+1) [row]::a9 O.n [y]::a9 h.n [bt]::put c L i {(n.cA st)with S:={n.S with G:=cU}}):=jS.set 2 rfl [y];have xF:=(((a.put {(n.cA st)with S:={n.S with G:=cU}}).cons (a9 h.n [bt])).cons (a9 O.n [y])).cons (a9 (O.n+1) [row]) |>.cons (a9 bg.n [y]);obtain⟨hx,n2⟩:=Uv j1 xF E.below (FX rfl) bF;rcases n2 with⟨mN,F,oY,CA,kX⟩|⟨mD,t,pe,F,qe,oY,CA,kX,Gq,CB⟩
    ·have mN:n.below=[]:=mN;rw[mN];have CC:aQ ae aH aA F (a9 bg.n [y]::a9 (O.n+1) [row]::a9 O.n [y]::a9 h.n [bt]::(put c L i {(n.cA st)with S:={n.S with G:=cU}}).set i (xX c.a' c.az n.a5 (n.S.left:Int))):=kX;have c1:=(CC.cell 2 rfl).1;have cr:=(CC.cell 3 rfl).1;have u9:=CC.set 3 rfl [y];have eg:=(u9.cell 3 rfl).1;refine⟨.inl (.bW [.agg y,.bool Q]),_,?_,y,rfl,bF,n.a5,by have:=u9.drop.drop.drop.drop;rw[<-Uu (n:={(n.cA st)with S:={n.S with G:=cU}})];exact this⟩;have o5:decide ((n.below.length:Int)=0)=Q:=decide_eq_true (by rw[mN];rfl);refine bC BP rfl ?_;unfold zC;simp only[ay,aD,aO,ax,ct,aq,bG,bD,db,Cw,Cz,Cx,a8,bZ,iN,L2,Cy,f0,f1,hC,dh,eB,gE,ek,d0,d1,d2,d3,m5,e8,g9,hx,xT,ry,oY,CA,o5,c1,cr]
    ·have pe:n.below=mD++[t]:=pe;have hlen:n.below.length=mD.length+1:=by rw[pe];simp
     have AG:n.below.getLast? =j t:=by rw[pe];simp
     have L3:n.below.dropLast=mD:=by rw[pe];simp
     rw[AG,L3];have CC:aQ ae aH aA F (a9 bg.n [y]::a9 (O.n+1) [row]::a9 O.n [y]::a9 h.n [bt]::put c (put c L i {(n.cA st)with S:={n.S with G:=cU}}) i ⟨n.a5,{n.S with G:=cU},mD,t⟩):=kX;have L5:aQ ae aH aA qe (a9 bg.n [y]::a9 (O.n+1) [row]::a9 O.n [y]::a9 h.n [bt]::put c (put c L i {(n.cA st)with S:={n.S with G:=cU}}) i ⟨n.a5,{n.S with G:=cU},mD,{t with stack:=t.stack++[bu]}⟩):=CB;have c1:=(CC.cell 2 rfl).1;have cr:=(L5.cell 2 rfl).1;have eg:=(L5.cell 3 rfl).1;have u9:=L5.set 3 rfl [y];have kO:=(u9.cell 3 rfl).1;refine⟨.inl (.bW [.agg y,.bool T]),_,?_,y,rfl,bF.cZ,n.a5,by have:=u9.drop.drop.drop.drop;rw[gP]at this;exact this⟩;have o5:decide ((n.below.length:Int)=0)=T:=decide_eq_false (by rw[hlen];omega);refine bC BP rfl ?_;unfold zC;simp only[ay,aD,aO,ax,ct,aq,bG,bD,db,Cw,Cz,Cx,a8,bZ,iN,L2,Cy,f0,f1,hC,dh,eB,gE,ek,d0,d1,d2,d3,m5,e8,g9,hx,xT,ry,oY,CA,o5,c1,Gq,cr,eg]
   ·rw[if_pos s0,if_pos (show((({n.S with G:=cU}:bp).no jR).2.2≠0) from s0)];simp only[bp.no];have d5:decide (jR=0)=T:=decide_eq_false s0;refine⟨_,_,?_,rfl,{(n.cA st)with S:={n.S with G:=cU}},rfl,jS.drop.drop.drop.drop⟩;refine bC BP rfl ?_;unfold zC;simp only[ay,aD,aO,ax,ct,aq,bG,bD,db,Cw,Cz,Cx,a8,bZ,iN,L2,Cy,f0,f1,hC,dh,eB,gE,ek,d0,d1,d5,oj,e8,g9]
end
abbrev L6:aT:=158
abbrev Gz:aT:=169
abbrev wy:cJ:=48
abbrev L7:List I:=[.int o 0,.int o 0,.int o 0]
theorem ajq{ms:dz}{p f:Int}{L:List bk}{ag:Nat}(dH:ms.getD p.toNat ab=j L)(bc:f=(ag:Int)):kg ms p f=ce (L.getD ag il) 0++[⟨105,0,0⟩]:=by unfold kg fp hG;rw[dH,bc];rfl
theorem ajr{L:List bk}{ag bs:Nat}{x:cD}(bc:ag<L.length)(an:(ce (L.getD ag il) 0++[(⟨105,0,0⟩:cD)])[bs]? =j x):∃row dy,(∀q,ft (j L6) ab (kE L) (.int q (ag:Int))=j (.ip row 0))/\(∀k,gG T k row 0=j dy)/\(∀q,ft (j Gz) ab dy (.int q (bs:Int))=j (.ip (ci x) 0))/\gG Q 3 (ci x) 0=j (.agg (ci x)):=by
 have ao:L[ag]? =j L[ag]:=fz bc;have aq:L.getD ag il=L[ag]:=by simp[cK,bc]
 rw[aq]at an;refine⟨[.bR ab Gz ((ce L[ag] 0++[(⟨105,0,0⟩:cD)]).map ci)],.bR ab Gz ((ce L[ag] 0++[(⟨105,0,0⟩:cD)]).map ci),λq=>?_,λk=>?_,λq=>?_,kQ rfl⟩
 ·exact Eb (q:=q) rfl (by rw[s6,ao];rfl)
 ·rw[pq];rfl
 ·exact Eb (q:=q) rfl (by rw[s6,an];rfl)
structure L8(bP:ad)(c:hf)(n:eN)(P ag:Nat)(L:List bk):Prop where
 m:∀k:Nat,c0 T k bP (.ptr c.a' 0 0)=j (.ptr c.az 0 0)
 p:∀k:Nat,c0 T k bP (.ptr n.a5 n.below.length 0)=j (.int o (P:Int))
 hI:∀k:Nat,c0 T k bP (.ptr c.az 0 (2+P*5+1))=j (kE L)
 f:∀k:Nat,c0 T k bP (.ptr n.a5 n.below.length 1)=j (.int o (ag:Int))
 bs:∀k:Nat,c0 T k bP (.ptr n.a5 n.below.length 2)=j (.int o (n.top.bs:Int))
 b8:∀q:jC,ft ab (j (4,5)) (.ptr c.az 0 2) (.int q (P:Int))=j (.ptr c.az 0 (2+P*5))
section
variable{h J ae:ad}{ag ap aH aA:Nat->Prop}{L:List cd}{c:hf}{i:Nat}{n:eN}
theorem L9(s:aQ ae aH aA h L)(a:d' c L i n)(E:ha c n){P K:Nat}{kY:List bk}(h6:n.top.bw=(P:Int))(cR:n.top.f=(K:Int))(nM:P<4)(dH:c.ms.getD P ab=j kY):L8 h c n P K kY:=by obtain⟨hC,_,_⟩:=o2 s a E.len;obtain⟨hs,dv,aI,g,ba⟩:=nK s i a.m;have hN:=m4 n.top hs dv aI g ba.aM.cZ.1;obtain⟨b8,hI,_⟩:=Gl s a E nM;rw[dH]at hI;exact⟨hC,λk=>by rw[<-h6];exact ba.rd k 0 _ hN.2.2.2.2.2.1,hI,λk=>by rw[<-cR];exact ba.rd k 1 _ hN.2.2.2.2.2.2.1,λk=>ba.rd k 2 _ hN.2.2.2.2.2.2.2,b8⟩
abbrev eN.at(n:eN)(k:Nat):eN:={n with top:={n.top with bs:=k}}
structure Ux(ae:ad)(aH aA:Nat->Prop)(h af:ad)(c:hf)(L:List cd)(i:Nat)(n:eN)(P K:Nat)(kY:List bk)(x:cD):Prop where
 s:aQ ae aH aA af (a9 (h.n+1) [ci x]::a9 h.n [bt]::put c L i (n.at (n.top.bs+1)))
 a:d' c (a9 (h.n+1) [ci x]::a9 h.n [bt]::put c L i (n.at (n.top.bs+1))) (i+1+1) (n.at (n.top.bs+1))
 E:ha c (n.at (n.top.bs+1))
 db:a3 ar W Ff [.ptr c.a' 0 0] (h.push [bt])=j (.inl (.ptr n.a5 n.below.length 0),h.push [bt])
 ao:L8 (h.push [bt]) c n P K kY
 aq:L8 ((h.push [bt]).push [L7]) c n P K kY
 bm:∀k:Nat,c0 T k ((h.push [bt]).push [ci x]) (.ptr n.a5 n.below.length 2)=j (.int o (n.top.bs:Int))
 w:jN o ((n.top.bs:Int)+1)=((n.top.bs+1:Nat):Int)
 st:ew 1 ((h.push [bt]).push [ci x]) (.ptr n.a5 n.below.length 2) (.int o ((n.top.bs+1:Nat):Int))=j af
 l':af.cell (h.n+1)=j [ci x]
theorem ajs(s:aQ ae aH aA h L)(a:d' c L i n)(E:ha c n)(hm:uH c.ms){P K:Nat}{kY:List bk}(h6:n.top.bw=(P:Int))(cR:n.top.f=(K:Int))(nM:P<4)(dH:c.ms.getD P ab=j kY)(GA:n.top.bs<(kg c.ms n.top.bw n.top.f).length)(x:cD):∃af,Ux ae aH aA h af c L i n P K kY x:=by have a4:=s.push [bt];have aJ:=a.cons (a9 h.n [bt]);obtain⟨db,_⟩:=l9 a4 aJ E.below;have ao:=L9 a4 aJ E h6 cR nM dH;have bn:=a4.push [L7];have a1:=aJ.cons (a9 (h.push [bt]).n [L7]);have aq:=L9 bn a1 E h6 cR nM dH;have b0:aQ ae aH aA ((h.push [bt]).push [ci x]) (a9 (h.n+1) [ci x]::a9 h.n [bt]::L):=a4.push [ci x];have bf:=aJ.cons (a9 (h.n+1) [ci x]);have bm:=L9 b0 bf E h6 cR nM dH;obtain⟨aw,ck,cc⟩:=Lm b0 (i+1+1) bf.m (n.top.bs+1);rw[bf.tE]at cc;have cE:aQ ae aH aA aw (a9 (h.n+1) [ci x]::a9 h.n [bt]::put c L i (n.at (n.top.bs+1))):=cc;have b:=hm n.top.bw n.top.f;exact⟨aw,cE,((a.put _).cons _).cons _,⟨E.ms,E.S,E.below,E.cA,E.tp,E.log⟩,db,ao,aq,bm.bs,xE (by omega) (by omega) (by omega),ck,(cE.cell 0 rfl).1⟩
theorem qv{A B:cd}{bS:eN}:put c (A::B::L) (i+1+1) bS=A::B::put c L i bS:=rfl
structure tM(ae:ad)(aH aA:Nat->Prop)(h:ad)(c:hf)(L:List cd)(i:Nat)(n:eN)(x:cD):Prop where
 s:aQ ae aH aA h L
 a:d' c L i n
 E:ha c n
 hm:uH c.ms
 ok:uG c.ms n.m
 get:(kg c.ms n.top.bw n.top.f).getD n.top.bs uE=x
theorem tM.pre{x:cD}(b:tM ae aH aA h c L i n x):∃(af:ad) (P K:Nat) (kY:List bk) (row:List I) (dy:I),Ux ae aH aA h af c L i n P K kY x/\(∀q,ft (j L6) ab (kE kY) (.int q (K:Int))=j (.ip row 0))/\(∀k,gG T k row 0=j dy)/\(∀q,ft (j Gz) ab dy (.int q (n.top.bs:Int))=j (.ip (ci x) 0))/\gG Q 3 (ci x) 0=j (.agg (ci x)):=by
 have aX:=b.ok.dk.top;obtain⟨P,h6⟩:=Int.eq_ofNat_of_zero_le aX.gN;obtain⟨K,ei⟩:=Int.eq_ofNat_of_zero_le aX.f0;have h6:n.top.bw=(P:Int):=h6;have ei:n.top.f=(K:Int):=ei;have x9:=aX.there;have Gx:n.top.bw.toNat=P:=by rw[h6];rfl
 have nM:P<4:=by
  rcases mc P 4 with h|h
  ·exact h
  ·have x9:(c.ms.getD n.top.bw.toNat ab).isSome=Q:=x9;rw[Gx,cK,lU (by rw[b.E.ms];exact h)]at x9;cases x9
 obtain⟨kY,dH⟩:=Option.isSome_iff_exists.1 x9;have dH:c.ms.getD n.top.bw.toNat ab=j kY:=dH;have GA:n.top.bs<(kg c.ms n.top.bw n.top.f).length:=b.ok.bs;have rx:n.top.f.toNat<(hG c.ms n.top.bw).length:=aX.f1;have ajt:K<kY.length:=by
  have e:n.top.f.toNat=K:=by rw[ei];rfl
  rw[e]at rx;unfold hG at rx;rw[dH]at rx;exact rx
 obtain⟨af,p⟩:=ajs b.s b.a b.E b.hm h6 ei nM (by rw[<-Gx];exact dH) GA x;have an:(ce (kY.getD K il) 0++[(⟨105,0,0⟩:cD)])[n.top.bs]? =j x:=by rw[<-ajq dH ei];have:=b.get;rw[cK,fz GA]at this;rw[fz GA];exact congrArg j this
 obtain⟨row,dy,bN,bL,c2,fm⟩:=ajr ajt an;exact⟨af,P,K,kY,row,dy,p,bN,bL,c2,fm⟩
theorem aju{k m:Int}(b:tM ae aH aA h c L i n ⟨100,k,m⟩):∃aU J,a3 ar W wy [.ptr c.a' 0 0] h=j (aU,J)/\u7 ae aH aA c L i (if n.S.left=0 then .fail n.S 12 else .go ⟨n.S.tick,(n.at (n.top.bs+1)).top,n.below⟩) aU J:=by
 obtain⟨af,P,K,kY,row,dy,p,bN,bL,c2,fm⟩:=b.pre;have f0:cf 0 (.ptr c.a' 0 0)=j (.ptr c.a' 0 0):=rfl;have f1:cf 2 (.ptr c.az 0 0)=j (.ptr c.az 0 2):=rfl;have f2:cf 0 (.ptr n.a5 n.below.length 0)=j (.ptr n.a5 n.below.length 0):=rfl;have f3:cf 1 (.ptr c.az 0 (2+P*5))=j (.ptr c.az 0 (2+P*5+1)):=rfl;have f4:cf 1 (.ptr n.a5 n.below.length 0)=j (.ptr n.a5 n.below.length 1):=rfl;have f5:cf 2 (.ptr n.a5 n.below.length 0)=j (.ptr n.a5 n.below.length 2):=rfl;have f6:cf 2 (.ptr c.a' 0 0)=j (.ptr c.a' 0 2):=rfl;have f7:cf 7 (.ptr n.a5 n.below.length 0)=j (.ptr n.a5 n.below.length 7):=rfl;obtain⟨hs,dv,aI,g,ba⟩:=nK p.s (i+1+1) p.a.m;have te:∀k:Nat,c0 T k af (.ptr c.a' 0 2)=j (.int o (n.S.left:Int)):=λk=>by rw[hD,ba.m];rfl
 by_cases al:n.S.left=0
 ·rw[if_pos al];refine⟨_,_,?_,rfl,n.at (n.top.bs+1),rfl,p.s.drop.drop⟩;have d:decide ((n.S.left:Int)=0)=Q:=decide_eq_true (by omega);refine bC qo rfl ?_;unfold pD;simp only[ay,aD,aO,ax,ct,eD,p.db,p.ao.m,p.ao.p,p.ao.hI,p.ao.f,p.ao.bs,p.ao.b8,p.aq.m,p.aq.p,p.aq.hI,p.aq.f,p.aq.bs,p.bm,p.w,p.st,p.l',bN,bL,c2,fm,f0,f1,f2,f3,f4,f5,f6,f7,te,d,oj]
 ·rw[if_neg al];have d:decide ((n.S.left:Int)=0)=T:=decide_eq_false (by omega);have ai:=b.ok.dk.cA;have ai:n.top.stack.length+n.S.left<=100000:=ai;have w:jN o ((n.S.left:Int) - 1)=((n.S.left - 1:Nat):Int):=xE (by omega) (by omega) (by omega);obtain⟨aw,ck,cc⟩:=aha p.s (i+1+1) p.a.m ((n.S.left - 1:Nat):Int);rw[p.a.tE,qv,gP]at cc;have cE:=cc.set 1 rfl [bt];have du:=(cc.cell 1 rfl).1;have fk:=(cE.cell 1 rfl).1;refine⟨.inl (.bW [.agg bt,.bool T]),_,?_,bt,rfl,⟨rfl,rfl⟩,n.a5,cE.drop.drop⟩;refine bC qo rfl ?_;unfold pD;simp only[ay,aD,aO,ax,ct,eD,p.db,p.ao.m,p.ao.p,p.ao.hI,p.ao.f,p.ao.bs,p.ao.b8,p.aq.m,p.aq.p,p.aq.hI,p.aq.f,p.aq.bs,p.bm,p.w,p.st,p.l',bN,bL,c2,fm,f0,f1,f2,f3,f4,f5,f6,f7,te,d,m5,w,ck,du]
theorem ajv{k m:Int}(b:tM ae aH aA h c L i n ⟨101,k,m⟩){st:List ak}(bB:n.top.stack=st++[v]):∃aU J,a3 ar W wy [.ptr c.a' 0 0] h=j (aU,J)/\u7 ae aH aA c L i (.go ⟨n.S,{(n.at (n.top.bs+1)).top with stack:=st,names:=n.top.names++[v]},n.below⟩) aU J:=by
 obtain⟨af,P,K,kY,row,dy,p,bN,bL,c2,fm⟩:=b.pre;have f0:cf 0 (.ptr c.a' 0 0)=j (.ptr c.a' 0 0):=rfl;have f1:cf 2 (.ptr c.az 0 0)=j (.ptr c.az 0 2):=rfl;have f2:cf 0 (.ptr n.a5 n.below.length 0)=j (.ptr n.a5 n.below.length 0):=rfl;have f3:cf 1 (.ptr c.az 0 (2+P*5))=j (.ptr c.az 0 (2+P*5+1)):=rfl;have f4:cf 1 (.ptr n.a5 n.below.length 0)=j (.ptr n.a5 n.below.length 1):=rfl;have f5:cf 2 (.ptr n.a5 n.below.length 0)=j (.ptr n.a5 n.below.length 2):=rfl;have f6:cf 2 (.ptr c.a' 0 0)=j (.ptr c.a' 0 2):=rfl;have f7:cf 7 (.ptr n.a5 n.below.length 0)=j (.ptr n.a5 n.below.length 7):=rfl;obtain⟨aw,r,ck,R,cc,cv⟩:=rG p.s p.a p.E (st:=st) (v:=v) bB;rw[qv,gP]at cc;rw[qv,gP]at cv;have cE:aQ ae aH aA ((aw.push [r]).push [bt]) (a9 (aw.n+1) [bt]::a9 aw.n [r]::a9 (h.n+1) [ci ⟨101,k,m⟩]::a9 h.n [bt]::put c L i ((n.at (n.top.bs+1)).cA st)):=(cc.push [r]).push [bt];have ez:=(cv.cons (a9 aw.n [r])).cons (a9 (aw.n+1) [bt]);obtain⟨hs,dv,aI,g,ba⟩:=nK cE (i+1+1+1+1) ez.m;have hN:=m4 {(n.at (n.top.bs+1)).top with stack:=st} hs dv aI g ba.aM.cZ.1;have wq:=λk=>ba.rd k 7 _ hN.2.2.1;have i7:=cc.push [r];have ajw:=cv.cons (a9 aw.n [r]);obtain⟨ajx,wo,lM,fa,L'⟩:=nK i7 (i+1+1+1) ajw.m;have Uy:=m4 {(n.at (n.top.bs+1)).top with stack:=st} ajx wo lM fa L'.aM.cZ.1;have rC:=λk=>L'.rd k 7 _ Uy.2.2.1;clear hN Uy;have aN:=(cE.cell 0 rfl).1;obtain⟨bG,bD⟩:=R.cZ;have IB:lM=aI:=by have e:=(T3 (h:=aw.push [r]) (b:=n.a5) (i:=n.below.length) (off:=7) (k:=0) (g:=T) (es:=[bt]) L'.ag').symm.trans (wq 0);rw[rC 0]at e;exact nW e
 subst IB;obtain⟨q,cj,cT,hA,c9,dx,gH,p9,j1⟩:=ahd cE (i+1+1+1+1) ez.m R (by have:=p.E.tp;simp only at this ⊢;omega) aN ba;rw[ez.tE,dM,dM,qv,gP]at j1;have kX:=j1.set 3 rfl [bt];have du:=(i7.cell 0 rfl).1;have fk:=(cE.cell 1 rfl).1;have Ma:=(j1.cell 1 rfl).1;have zW:=(j1.cell 3 rfl).1;have ant:=(kX.cell 3 rfl).1;have zO:=ba.aI.2.2.1;have hg:=ba.aI.1;have AO:=ba.aI.2.2.2.1;have ajy:ft (j cg) ab (.bd q 0 (n.top.names.length+1) cg) (.int o (n.top.names.length:Int))=j (.ptr q n.top.names.length 0):=by have:=y5 (q:= o) (e:=cg) (el:=cg) (b:=q) (E:=0) (n:=n.top.names.length+1) (i:=n.top.names.length) rfl (by omega);rwa [hk]at this
 refine⟨.inl (.bW [.agg bt,.bool T]),_,?_,bt,rfl,⟨rfl,rfl⟩,n.a5,kX.drop.drop.drop.drop⟩;refine bC qo rfl ?_;unfold pD;simp only[ay,aD,aO,ax,ct,eD,p.db,p.ao.m,p.ao.p,p.ao.hI,p.ao.f,p.ao.bs,p.ao.b8,p.aq.m,p.aq.p,p.aq.hI,p.aq.f,p.aq.bs,p.bm,p.w,p.st,p.l',bN,bL,c2,fm,f0,f1,f2,f3,f4,f5,f6,f7,ck,bG,bD,du,fk,wq,rC,zO,AO,ajy,c9,dx,gH,p9,zW]
theorem ajz{k m:Int}(b:tM ae aH aA h c L i n ⟨102,k,m⟩){kW:List ak}(bB:n.top.names=kW++[v]):∃aU J,a3 ar W wy [.ptr c.a' 0 0] h=j (aU,J)/\u7 ae aH aA c L i (.go ⟨n.S,{(n.at (n.top.bs+1)).top with names:=kW},n.below⟩) aU J:=by
 obtain⟨af,P,K,kY,row,dy,p,bN,bL,c2,fm⟩:=b.pre;have f0:cf 0 (.ptr c.a' 0 0)=j (.ptr c.a' 0 0):=rfl;have f1:cf 2 (.ptr c.az 0 0)=j (.ptr c.az 0 2):=rfl;have f2:cf 0 (.ptr n.a5 n.below.length 0)=j (.ptr n.a5 n.below.length 0):=rfl;have f3:cf 1 (.ptr c.az 0 (2+P*5))=j (.ptr c.az 0 (2+P*5+1)):=rfl;have f4:cf 1 (.ptr n.a5 n.below.length 0)=j (.ptr n.a5 n.below.length 1):=rfl;have f5:cf 2 (.ptr n.a5 n.below.length 0)=j (.ptr n.a5 n.below.length 2):=rfl;have f6:cf 2 (.ptr c.a' 0 0)=j (.ptr c.a' 0 2):=rfl;have f7:cf 7 (.ptr n.a5 n.below.length 0)=j (.ptr n.a5 n.below.length 7):=rfl;obtain⟨hs,dv,aI,g,ba⟩:=nK p.s (i+1+1) p.a.m;have hN:=m4 (n.at (n.top.bs+1)).top hs dv aI g ba.aM.cZ.1;have wq:=λk=>ba.rd k 7 _ hN.2.2.1;clear hN;obtain⟨lM,aw,c9,dx,gH,p9,cc⟩:=ahb p.s (i+1+1) p.a.m (kW:=kW) (v:=v) bB ba;rw[p.a.tE,qv,gP]at cc;have cE:=cc.set 1 rfl [bt];have du:=(cc.cell 1 rfl).1;have fk:=(cE.cell 1 rfl).1;have zO:=ba.aI.2.2.1;have hlen:(n.at (n.top.bs+1)).top.names.length=kW.length+1:=by show n.top.names.length=_;rw[bB];simp
 rw[hlen]at zO;have au:=p.E.tp;rw[hlen]at au;have hg:=ba.aI.1;have AO:=ba.aI.2.2.2.1;have w:jN o (((kW.length+1:Nat):Int) - 1)=(kW.length:Int):=xE (by omega) (by omega) (by omega);refine⟨.inl (.bW [.agg bt,.bool T]),_,?_,bt,rfl,⟨rfl,rfl⟩,n.a5,cE.drop.drop⟩;refine bC qo rfl ?_;unfold pD;simp only[ay,aD,aO,ax,ct,eD,p.db,p.ao.m,p.ao.p,p.ao.hI,p.ao.f,p.ao.bs,p.ao.b8,p.aq.m,p.aq.p,p.aq.hI,p.aq.f,p.aq.bs,p.bm,p.w,p.st,p.l',bN,bL,c2,fm,f0,f1,f2,f3,f4,f5,f6,f7,wq,zO,AO,w,c9,p9,du]
theorem ajA{k m:Int}(b:tM ae aH aA h c L i n ⟨103,k,m⟩){st:List ak}(bB:n.top.stack=st++[v])(jF:0<=k):∃aU J,a3 ar W wy [.ptr c.a' 0 0] h=j (aU,J)/\u7 ae aH aA c L i (if v.kind≠1 then .fail n.S 2 else .go ⟨n.S,{(n.at (n.top.bs+1)).top with stack:=st,bs:=if v.n=0 then k.toNat else n.top.bs+1},n.below⟩) aU J:=by
 obtain⟨af,P,K,kY,row,dy,p,bN,bL,c2,fm⟩:=b.pre;have f0:cf 0 (.ptr c.a' 0 0)=j (.ptr c.a' 0 0):=rfl;have f1:cf 2 (.ptr c.az 0 0)=j (.ptr c.az 0 2):=rfl;have f2:cf 0 (.ptr n.a5 n.below.length 0)=j (.ptr n.a5 n.below.length 0):=rfl;have f3:cf 1 (.ptr c.az 0 (2+P*5))=j (.ptr c.az 0 (2+P*5+1)):=rfl;have f4:cf 1 (.ptr n.a5 n.below.length 0)=j (.ptr n.a5 n.below.length 1):=rfl;have f5:cf 2 (.ptr n.a5 n.below.length 0)=j (.ptr n.a5 n.below.length 2):=rfl;have f6:cf 2 (.ptr c.a' 0 0)=j (.ptr c.a' 0 2):=rfl;have f7:cf 7 (.ptr n.a5 n.below.length 0)=j (.ptr n.a5 n.below.length 7):=rfl;obtain⟨aw,r,ck,R,cc,cv⟩:=rG p.s p.a p.E (st:=st) (v:=v) bB;rw[qv,gP]at cc;rw[qv,gP]at cv;obtain⟨bG,bD⟩:=R.cZ;by_cases Z:v.kind=1
 ·rw[if_neg (by simpa using Z)];obtain⟨bM,eA,fZ⟩:=rD (h:=aw) R Z;obtain⟨w,hw,_⟩:=fZ.o0;have au:DZ T 1 1 (.agg bM)=j (.int o v.n):=by rw[hw];rfl
  obtain⟨dE,fl⟩:=fZ.cZ;clear hw;by_cases aN:v.n=0
  ·rw[if_pos aN];have d:decide (v.n=0)=Q:=decide_eq_true aN;have du:=(cc.cell 0 rfl).1;obtain⟨bg,eB,cE⟩:=Lm cc (i+1+1) cv.m k.toNat
   rw[Int.toNat_of_nonneg jF]at eB;rw[cv.tE,qv,gP]at cE;have ee:=cE.set 1 rfl [bt];have fk:=(cE.cell 1 rfl).1;have hW:=(ee.cell 1 rfl).1;refine⟨.inl (.bW [.agg bt,.bool T]),_,?_,bt,rfl,⟨rfl,rfl⟩,n.a5,ee.drop.drop⟩;refine bC qo rfl ?_;unfold pD;simp only[ay,aD,aO,ax,ct,eD,p.db,p.ao.m,p.ao.p,p.ao.hI,p.ao.f,p.ao.bs,p.ao.b8,p.aq.m,p.aq.p,p.aq.hI,p.aq.f,p.aq.bs,p.bm,p.w,p.st,p.l',bN,bL,c2,fm,f0,f1,f2,f3,f4,f5,f6,f7,ck,bG,bD,eA,au,d,du,eB,fk]
  ·rw[if_neg aN];have d:decide (v.n=0)=T:=decide_eq_false aN;have ee:=cc.set 1 rfl [bt];have fk:=(cc.cell 1 rfl).1;have hW:=(ee.cell 1 rfl).1;refine⟨.inl (.bW [.agg bt,.bool T]),_,?_,bt,rfl,⟨rfl,rfl⟩,n.a5,ee.drop.drop⟩;refine bC qo rfl ?_;unfold pD;simp only[ay,aD,aO,ax,ct,eD,p.db,p.ao.m,p.ao.p,p.ao.hI,p.ao.f,p.ao.bs,p.ao.b8,p.aq.m,p.aq.p,p.aq.hI,p.aq.f,p.aq.bs,p.bm,p.w,p.st,p.l',bN,bL,c2,fm,f0,f1,f2,f3,f4,f5,f6,f7,ck,bG,bD,eA,au,d,fk]
 ·rw[if_pos Z];have eA:=rE (h:=aw) R Z;refine⟨_,_,?_,rfl,(n.at (n.top.bs+1)).cA st,rfl,cc.drop.drop⟩;refine bC qo rfl ?_;unfold pD;simp only[ay,aD,aO,ax,ct,eD,p.db,p.ao.m,p.ao.p,p.ao.hI,p.ao.f,p.ao.bs,p.ao.b8,p.aq.m,p.aq.p,p.aq.hI,p.aq.f,p.aq.bs,p.bm,p.w,p.st,p.l',bN,bL,c2,fm,f0,f1,f2,f3,f4,f5,f6,f7,ck,bG,bD,eA]
theorem ajB{k m:Int}(b:tM ae aH aA h c L i n ⟨104,k,m⟩)(jF:0<=k):∃aU J,a3 ar W wy [.ptr c.a' 0 0] h=j (aU,J)/\u7 ae aH aA c L i (.go ⟨n.S,{(n.at (n.top.bs+1)).top with bs:=k.toNat},n.below⟩) aU J:=by
 obtain⟨af,P,K,kY,row,dy,p,bN,bL,c2,fm⟩:=b.pre;have f0:cf 0 (.ptr c.a' 0 0)=j (.ptr c.a' 0 0):=rfl;have f1:cf 2 (.ptr c.az 0 0)=j (.ptr c.az 0 2):=rfl;have f2:cf 0 (.ptr n.a5 n.below.length 0)=j (.ptr n.a5 n.below.length 0):=rfl;have f3:cf 1 (.ptr c.az 0 (2+P*5))=j (.ptr c.az 0 (2+P*5+1)):=rfl;have f4:cf 1 (.ptr n.a5 n.below.length 0)=j (.ptr n.a5 n.below.length 1):=rfl;have f5:cf 2 (.ptr n.a5 n.below.length 0)=j (.ptr n.a5 n.below.length 2):=rfl;have f6:cf 2 (.ptr c.a' 0 0)=j (.ptr c.a' 0 2):=rfl;have f7:cf 7 (.ptr n.a5 n.below.length 0)=j (.ptr n.a5 n.below.length 7):=rfl;have du:=(p.s.cell 0 rfl).1;obtain⟨bg,eB,cE⟩:=Lm p.s (i+1+1) p.a.m k.toNat
 rw[Int.toNat_of_nonneg jF]at eB;rw[p.a.tE,qv,gP]at cE;have ee:=cE.set 1 rfl [bt];have fk:=(cE.cell 1 rfl).1;have hW:=(ee.cell 1 rfl).1;refine⟨.inl (.bW [.agg bt,.bool T]),_,?_,bt,rfl,⟨rfl,rfl⟩,n.a5,ee.drop.drop⟩;refine bC qo rfl ?_;unfold pD;simp only[ay,aD,aO,ax,ct,eD,p.db,p.ao.m,p.ao.p,p.ao.hI,p.ao.f,p.ao.bs,p.ao.b8,p.aq.m,p.aq.p,p.aq.hI,p.aq.f,p.aq.bs,p.bm,p.w,p.st,p.l',bN,bL,c2,fm,f0,f1,f2,f3,f4,f5,f6,f7,eB,fk]
theorem ajC{A B:cd}{bS:eN}{gq:Nat}{S:bp}:m8 c (A::B::put c L i bS) (i+1+1) gq S=A::B::m8 c L i gq S:=by
 have:m8 c (put c L i bS) i gq S=m8 c L i gq S:=by unfold m8;rw[gP]
 exact congrArg (λl=>A::B::l) this
theorem ajD{k m:Int}(b:tM ae aH aA h c L i n ⟨105,k,m⟩){st:List ak}(bB:n.top.stack=st++[v])(kR:∀aR,b5.back (n.at (n.top.bs+1)).m= .go aR->aR.top.stack.length<=100000):∃aU J,a3 ar W wy [.ptr c.a' 0 0] h=j (aU,J)/\u7 ae aH aA c L i (b5.back (n.at (n.top.bs+1)).m) aU J:=by
 obtain⟨af,P,K,kY,row,dy,p,bN,bL,c2,fm⟩:=b.pre;have f0:cf 0 (.ptr c.a' 0 0)=j (.ptr c.a' 0 0):=rfl;have f1:cf 2 (.ptr c.az 0 0)=j (.ptr c.az 0 2):=rfl;have f2:cf 0 (.ptr n.a5 n.below.length 0)=j (.ptr n.a5 n.below.length 0):=rfl;have f3:cf 1 (.ptr c.az 0 (2+P*5))=j (.ptr c.az 0 (2+P*5+1)):=rfl;have f4:cf 1 (.ptr n.a5 n.below.length 0)=j (.ptr n.a5 n.below.length 1):=rfl;have f5:cf 2 (.ptr n.a5 n.below.length 0)=j (.ptr n.a5 n.below.length 2):=rfl;have f6:cf 2 (.ptr c.a' 0 0)=j (.ptr c.a' 0 2):=rfl;have f7:cf 7 (.ptr n.a5 n.below.length 0)=j (.ptr n.a5 n.below.length 7):=rfl;obtain⟨aU,aw,ck,rI⟩:=ajo p.s p.a p.E (st:=st) (v:=v) bB b.ok.dk.top.ec kR;generalize b5.back (n.at (n.top.bs+1)).m=q at*;cases q with
 |go aR=>obtain⟨r,rfl,⟨bG,bD⟩,gq,cc⟩:=rI;rw[qv,gP]at cc;have cE:=cc.set 1 rfl [r];have du:=(cc.cell 1 rfl).1;have fk:=(cE.cell 1 rfl).1;refine⟨.inl (.bW [.agg r,.bool T]),_,?_,r,rfl,⟨bG,bD⟩,gq,cE.drop.drop⟩;refine bC qo rfl ?_;unfold pD;simp only[ay,aD,aO,ax,ct,eD,p.db,p.ao.m,p.ao.p,p.ao.hI,p.ao.f,p.ao.bs,p.ao.b8,p.aq.m,p.aq.p,p.aq.hI,p.aq.f,p.aq.bs,p.bm,p.w,p.st,p.l',bN,bL,c2,fm,f0,f1,f2,f3,f4,f5,f6,f7,ck,bG,bD,du]
 |fail S cn=>obtain⟨rfl,bS,q2,cc⟩:=rI;rw[qv,gP]at cc;refine⟨_,_,?_,rfl,bS,q2,cc.drop.drop⟩;refine bC qo rfl ?_;unfold pD;simp only[ay,aD,aO,ax,ct,eD,p.db,p.ao.m,p.ao.p,p.ao.hI,p.ao.f,p.ao.bs,p.ao.b8,p.aq.m,p.aq.p,p.aq.hI,p.aq.f,p.aq.bs,p.bm,p.w,p.st,p.l',bN,bL,c2,fm,f0,f1,f2,f3,f4,f5,f6,f7,ck]
 |over S bu=>obtain⟨r,rfl,R,gq,cc⟩:=rI;rw[ajC]at cc;obtain⟨bG,bD⟩:=R.cZ;have cE:=cc.set 1 rfl [r];have du:=(cc.cell 1 rfl).1;have fk:=(cE.cell 1 rfl).1;refine⟨.inl (.bW [.agg r,.bool Q]),_,?_,r,rfl,R,gq,cE.drop.drop⟩;refine bC qo rfl ?_;unfold pD;simp only[ay,aD,aO,ax,ct,eD,p.db,p.ao.m,p.ao.p,p.ao.hI,p.ao.f,p.ao.bs,p.ao.b8,p.aq.m,p.aq.p,p.aq.hI,p.aq.f,p.aq.bs,p.bm,p.w,p.st,p.l',bN,bL,c2,fm,f0,f1,f2,f3,f4,f5,f6,f7,ck,bG,bD,du]
theorem ajE{x:cD}(b:tM ae aH aA h c L i n x)(ib:x.op<100):∃aU J,a3 ar W wy [.ptr c.a' 0 0] h=j (aU,J)/\u7 ae aH aA c L i (mv c.ms (n.at (n.top.bs+1)).m x) aU J:=by
 obtain⟨af,P,K,kY,row,dy,p,bN,bL,c2,fm⟩:=b.pre;have f0:cf 0 (.ptr c.a' 0 0)=j (.ptr c.a' 0 0):=rfl;have f1:cf 2 (.ptr c.az 0 0)=j (.ptr c.az 0 2):=rfl;have f2:cf 0 (.ptr n.a5 n.below.length 0)=j (.ptr n.a5 n.below.length 0):=rfl;have f3:cf 1 (.ptr c.az 0 (2+P*5))=j (.ptr c.az 0 (2+P*5+1)):=rfl;have f4:cf 1 (.ptr n.a5 n.below.length 0)=j (.ptr n.a5 n.below.length 1):=rfl;have f5:cf 2 (.ptr n.a5 n.below.length 0)=j (.ptr n.a5 n.below.length 2):=rfl;have f6:cf 2 (.ptr c.a' 0 0)=j (.ptr c.a' 0 2):=rfl;have f7:cf 7 (.ptr n.a5 n.below.length 0)=j (.ptr n.a5 n.below.length 7):=rfl;have aX:=b.ok.dk.top;have an:=b.ok.op;have p8:(kg c.ms n.m.top.bw n.m.top.f).getD n.m.top.bs uE=x:=b.get;rw[p8]at an;obtain⟨aU,aw,ck,Mb⟩:=ajk p.s p.a p.E (x:=x) ⟨aX.gN,aX.there,aX.f0,aX.f1,aX.arg,aX.names,aX.stack,aX.ec⟩ ⟨an.kind,an.one,an.Pv,an.jump,an.parts,an.var⟩ ib;have d:∀D:Int,100<=D->decide (x.op=D)=T:=λD U=>decide_eq_false (by omega);have d0:=d 100 (by decide);have d1:=d 101 (by decide);have d2:=d 102 (by decide);have d3:=d 103 (by decide);have d4:=d 104 (by decide);have d5:=d 105 (by decide);have b':=(p.s.cell 0 rfl).1;generalize mv c.ms (n.at (n.top.bs+1)).m x=q at*;cases q with
 |go aR=>obtain⟨rfl,gq,cc⟩:=Mb;rw[qv,gP]at cc;have cE:=cc.set 1 rfl [bt];have du:=(cc.cell 1 rfl).1;have fk:=(cE.cell 1 rfl).1;refine⟨.inl (.bW [.agg bt,.bool T]),_,?_,bt,rfl,⟨rfl,rfl⟩,gq,cE.drop.drop⟩;refine bC qo rfl ?_;unfold pD;simp only[ay,aD,aO,ax,ct,p.db,p.ao.m,p.ao.p,p.ao.hI,p.ao.f,p.ao.bs,p.ao.b8,p.aq.m,p.aq.p,p.aq.hI,p.aq.f,p.aq.bs,p.bm,p.w,p.st,p.l',bN,bL,c2,fm,f0,f1,f2,f3,f4,f5,f6,f7,ck,du,d0,d1,d2,d3,d4,d5]
 |fail S cn=>obtain⟨rfl,bS,q2,cc⟩:=Mb;rw[qv,gP]at cc;refine⟨_,_,?_,rfl,bS,q2,cc.drop.drop⟩;refine bC qo rfl ?_;unfold pD;simp only[ay,aD,aO,ax,ct,p.db,p.ao.m,p.ao.p,p.ao.hI,p.ao.f,p.ao.bs,p.ao.b8,p.aq.m,p.aq.p,p.aq.hI,p.aq.f,p.aq.bs,p.bm,p.w,p.st,p.l',bN,bL,c2,fm,f0,f1,f2,f3,f4,f5,f6,f7,ck,d0,d1,d2,d3,d4,d5]
 |over S bu=>exact Mb.elim
end
section
variable{h J ae:ad}{ag ap aH aA:Nat->Prop}{L:List cd}{c:hf}{i:Nat}{n:eN}
theorem ajF{c:hf}{n:eN}(aj:c.ms.length=4)(g:n.m.Good c.ms):ha c n:=by have c1:n.S.a2<=1000000:=g.a2;have cr:n.top.stack.length+n.S.left<=100000:=g.cA;have eg:n.top.names.length+n.S.left<=100000:=g.tp;have kO:n.below.length+1<=20:=g.ps;unfold bp.a2 at c1;exact⟨aj,g.S,by omega,by omega,by omega,by omega⟩
theorem Mc(s:aQ ae aH aA h L)(a:d' c L i n)(aj:c.ms.length=4)(hm:uH c.ms)(ok:uG c.ms n.m)(GB:∀aR,mw c.ms n.m= .go aR->aR.Good c.ms):∃aU J,a3 ar W wy [.ptr c.a' 0 0] h=j (aU,J)/\u7 ae aH aA c L i (mw c.ms n.m) aU J:=by
 have b:tM ae aH aA h c L i n ((kg c.ms n.top.bw n.top.f).getD n.top.bs uE):=⟨s,a,ajF aj ok.dk,hm,ok,rfl⟩;have an:=ok.op;have an:zf n.m ((kg c.ms n.top.bw n.top.f).getD n.top.bs uE):=an;have av:mw c.ms n.m=(let x:=(kg c.ms n.top.bw n.top.f).getD n.top.bs uE
  let m:b5:=(n.at (n.top.bs+1)).m;let t:=m.top
  if x.op=100 then(if m.S.left=0 then .fail m.S 12 else .go {m with S:=m.S.tick})
  else if x.op=101 then .go {m with top:={t with stack:=sg t.stack 1,names:=t.names++[(qd t.stack 1).getD 0 bE]}}
  else if x.op=102 then .go {m with top:={t with names:=t.names.dropLast}}
  else if x.op=103 then(let v:=(qd t.stack 1).getD 0 bE
   if v.kind≠1 then .fail m.S 2 else .go {m with top:={t with stack:=sg t.stack 1,bs:=if v.n=0 then x.k.toNat else t.bs}})
  else if x.op=104 then .go {m with top:={t with bs:=x.k.toNat}}
  else if x.op=105 then m.back
  else mv c.ms m x):=rfl
 rw[av]at GB ⊢;generalize (kg c.ms n.top.bw n.top.f).getD n.top.bs uE=x at*;clear av;obtain⟨op,k,m⟩:=x;simp only at GB ⊢;have Uz:=an.kind;simp only at Uz;rcases Uz with Z|Z
 ·rw[if_neg (by omega),if_neg (by omega),if_neg (by omega),if_neg (by omega),if_neg (by omega),if_neg (by omega)];exact ajE b (by show op<100;omega)
 ·have ops:op=100\/op=101\/op=102\/op=103\/op=104\/op=105:=by omega
  rcases ops with rfl|rfl|rfl|rfl|rfl|rfl
  ·rw[if_pos rfl];exact aju b
  ·obtain⟨st,v,bB⟩:=nN (l:=n.top.stack) (by have:=an.one (.inl rfl);exact List.length_pos_iff.2 this);rw[if_neg (by decide),if_pos rfl];have:=ajv b bB;simp only[bB,tJ,x7];exact this
  ·obtain⟨kW,v,bB⟩:=nN (l:=n.top.names) (by have:=an.Pv rfl;exact List.length_pos_iff.2 this);rw[if_neg (by decide),if_neg (by decide),if_pos rfl];have:=ajz b bB;simp only[bB,List.dropLast_concat];exact this
  ·obtain⟨st,v,bB⟩:=nN (l:=n.top.stack) (by have:=an.one (.inr (.inl rfl));exact List.length_pos_iff.2 this);rw[if_neg (by decide),if_neg (by decide),if_neg (by decide),if_pos rfl];have:=ajA b bB (an.jump (.inl rfl));simp only[bB,tJ,x7,rB];exact this
  ·rw[if_neg (by decide),if_neg (by decide),if_neg (by decide),if_neg (by decide),if_pos rfl];exact ajB b (an.jump (.inr rfl))
  ·obtain⟨st,v,bB⟩:=nN (l:=n.top.stack) (by have:=an.one (.inr (.inr rfl));exact List.length_pos_iff.2 this);simp only[eD,if_false,if_true]at GB ⊢;refine ajD b bB λaR e=>?_;have g:=(GB aR e).cA;omega
end
theorem UA:∀(N:Nat) (x:ak),lB x<=N->x.size<=100000->∀(r:List I) (h:ad),b1 x r->∃bM,a3 ar W 46 [.agg r] h=j (.inl (.agg bM),h)/\b1 (id x) bM:=by
 intro N;induction N with
 |zero=>intro x an;have:=x.n';omega
 |succ N aW=>
   intro x an ey r h he;obtain⟨v,es,rfl,gc,R,au,gt⟩:=he.facts;have hlen:=x.r';suffices key:∃bu,a3 ar W 46 [.agg [.int o x.kind,.int o x.n,v]] h=j (.inl bu,h)/\∃bM,bu= .agg bM/\b1 (id x) bM by obtain⟨_,e,bM,rfl,O⟩:=key;exact⟨bM,e,O⟩
   have rest:∀(cH:kD->Prop) (ae:ad) (ir uZ:I) (z:Int),ae=((h.push [[.int o x.kind,.int o x.n,v]]).push [[.int o 0,.int o 0,.aF]]).push [[.int o x.kind,.int o z,.aF]]->z=(id x).n->(∀V J v bu,(ie V J [.cell Q 3 2]).map iH=j v->aK h J->dA v=j bu->(∃bM,bu= .agg bM/\b1 (id x) bM)->cH (j (.ret,V,J)))->cH (bo (a3 ar W) 9 (.fI Fm::.bO []::.cb 0::[.bO [.ops [qn,zy],.ret]]) [.agg [.int o x.kind,.int o x.n,v],.ptr h.n 0 0,.ptr (h.n+1) 0 0,.ptr (h.n+1+1) 0 0,ir,v,.int o es.length,.int o 0,uZ] [] ae):=by
    intro cH ae ir uZ z BY aN cY;subst BY;refine ru (λi V J=>∃ir uZ acc rows,V=[.agg [.int o x.kind,.int o x.n,v],.ptr h.n 0 0,.ptr (h.n+1) 0 0,.ptr (h.n+1+1) 0 0,ir,v,.int o es.length,.int o (i:Nat),uZ]/\aK h J/\h.n+1+1<J.n/\J.cell h.n=j [[.int o x.kind,.int o x.n,v]]/\J.cell (h.n+1)=j [[.int o 0,.int o 0,.aF]]/\J.cell (h.n+1+1)=j [[.int o x.kind,.int o z,acc]]/\Acc h J cg acc rows/\eF ((x.l.take i).map id) rows) x.l.length ⟨_,_,_,[],rfl,(by repeat (first|exact aK.refl _|refine aK.trans ?_ (aK.push _ _)|refine aK.trans ?_ (aK.fresh _ _))),by simp only[fo];omega,th,xk,vO,xi _ _ _,rfl⟩ ?_ ?_
    ·rintro i V J aa ⟨ir,uZ,acc,rows,rfl,g,hm,a8,bZ,b',aM,ah⟩ next
     have bh:(i:Int)<(es.length:Int):=by rw[au];omega
     obtain⟨y,bF⟩:=uS aa;obtain⟨q,dJ,d1,b2⟩:=gt i y bF;have hw:=ht (n:=(i:Int)+1) (by omega) (by omega);obtain⟨eH,ao,ds⟩:=aW y (by have:=ak.oN (qq bF);omega) (by have:=ak.sb (qq bF);omega) q (J.push [q]) b2;obtain⟨ed,gJ⟩:=b2.one
     replace a8:=(bi (es:=[q]) (show h.n<J.n by omega)).trans a8
     replace bZ:=(bi (es:=[q]) (show h.n+1<J.n by omega)).trans bZ
     replace b':=(bi (es:=[q]) hm).trans b'
     obtain⟨bG,bD⟩:=ds.one;have fU:rows.length<=1000000:=by rw[ah.len,iX,List.length_take];omega
     obtain⟨pE,O,aq,aJ,a1,bf,cv⟩:=y6 (show Acc h (J.push [q]) cg acc rows from aM) (g.trans (aK.push _ _)) (row:=eH) bG fU;simp only[AV]at aq;have c9:(O.set (h.n+1+1) (j [[.int o x.kind,.int o z,pE]])).cell h.n=j [[.int o x.kind,.int o x.n,v]]:=by rw[gB (by omega),bf];exact a8
     have dx:(O.set (h.n+1+1) (j [[.int o x.kind,.int o z,pE]])).cell (h.n+1)=j [[.int o 0,.int o 0,.aF]]:=by rw[gB (by omega),bf];exact bZ
     have kj:pE.one=Q:=by rcases aJ with⟨_,rfl⟩|⟨id,_,_,_,_,rfl⟩<;>rfl
     have jr:pE.cells=[pE]:=by rcases aJ with⟨_,rfl⟩|⟨id,_,_,_,_,rfl⟩<;>rfl
     rw[dP Fm.eq_1];simp only[ay,aD,aO,ax,cF,b',bh,dJ,d1,ao,ed,gJ,bG,bD,aq,bf,kj,jr,hw];refine next _ _ ⟨_,_,_,_,rfl,a1.set (by omega),by rw[lA,cv];show _<J.n+1;omega,c9,dx,lz,aJ,?_⟩
     rw[xD bF,List.map_append];exact ah.append ds
    ·rintro V J ⟨ir,uZ,acc,rows,rfl,g,hm,a8,bZ,b',aM,ah⟩;have bh:¬((x.l.length:Int)<(es.length:Int)):=by rw[au];omega
     rw[List.take_length]at ah;have kj:acc.one=Q:=by rcases aM with⟨_,rfl⟩|⟨id,_,_,_,_,rfl⟩<;>rfl
     have B9:fE cg acc rows:=by
      rcases aM with⟨bN,bL⟩|⟨id,_,_,_,_,bL⟩
      ·exact .inl ⟨bN,bL⟩
      ·exact .inr ⟨_,bL⟩
     have sY:b1 (id x) [.int o x.kind,.int o z,acc]:=by rw[aN];have:=b1.mk (x:=id x) B9 (by rw[ae4];exact ah);rw[ae3]at this;exact this
     obtain⟨bM,hw,fZ⟩:=BC sY;have uT:dA (.agg [.int o x.kind,.int o z,acc])=j (.agg bM):=by simp only[dA,hw,hj]
     rw[dP Fm.eq_1];simp only[ay,aD,aO,ax,cF,bZ,b',bh,kj];exact cY _ _ _ _ (by simp only[ay,gT,gK,hj,c7,rB,List.getD_cons_succ]) (g.set (by omega)) uT ⟨bM,rfl,fZ⟩
   refine ET aeK rfl λcH cY=>?_;unfold R3;simp only[ay,aD,aO,ax,dI,R,gc.len,gc.fits];exact rest _ _ _ _ x.n rfl rfl cY
open Go Go.RowKit
abbrev iG:cJ:=17
abbrev pL:cJ:=47
noncomputable def zX:ff:=Try.f17.body.getD .skip
noncomputable def qw:ff:=Try.f47.body.getD .skip
theorem Md:(ar).funcs[pL]? =j Try.f47:=Try.func47
theorem UB:Try.f47.body=j qw:=rfl
theorem UC:qw= .seq (eC qw) (gf qw):=rfl
theorem UD:Try.f47.ntmps=27:=rfl
noncomputable def Me:a0:={dst:=j 8,op:=.call {callee:=.builtin .recover,args:= #[],argTypes:= #[]},type:=((lf (eC qw)).getD 0 default).type,pos:=((lf (eC qw)).getD 0 default).pos,after:= #[],guard:=ab}
noncomputable def Mf:a0:={dst:=j 5,op:=.assign (.tmp 8),type:=((lf (eC qw)).getD 1 default).type,pos:=((lf (eC qw)).getD 1 default).pos,after:=((lf (eC qw)).getD 1 default).after,guard:=ab}
theorem ajG:eC qw= .region 0 #[Me,Mf] T:=rfl
abbrev Mg:List Nat:=[0,1,2,3,4,5,6,7,10,17]
theorem UE:gW ar (W.a2 pL) (W.cm pL) 27 Mg (gf qw) []=j Jo:=by kernel_rfl
theorem UF:iJ (W.cm pL) (W.e3 pL) (gf qw)=Q:=by kernel_rfl
theorem UG:r7 5 27 (W.aI pL) 10 Mg=Q:=by kernel_rfl
theorem UH(a:Array bK)(w:cQ):∃v,(results Try.f47 a).run ar w= .ok v w:=⟨.tuple #[],by simp[results,Try.results47]⟩
theorem UI:PF ar (eC qw) 27 8 5:=by
 intro b7 v cs fM w ey h;rw[ajG];apply wpS_region;rcases h with F|⟨F,O,af⟩
 ·simp[wpOpsS,go_sem,Me,Mf,F,Act.put,Act.eval,ey]
 ·simp[wpOpsS,go_sem,Me,Mf,F,Act.put,Act.eval,ey,O,af]
theorem UJ(x y z u t e:I):fV 27 Mg [] (ev (ev ([x,y,z,u,t]++ax (27 - [x,y,z,u,t].length) .aP) (j 8) e) (j 5) e) [x,y,z,u,t,e,.aP,.aP,.aP,.aP] []:=by
 refine⟨by simp[ev],rfl,rfl,λD s U=>?_,λD s U=>by simp at U⟩
 match D,U with
 |0,U|1,U|2,U|3,U|4,U|5,U|6,U|7,U|8,U|9,U=>obtain rfl:=nW U;exact⟨by decide,rfl⟩
 |D+10,U=>simp at U
theorem zY:(ar).funcs[iG]? =j Try.f17:=Try.func17
theorem ajH:Try.f17.body=j zX:=rfl
theorem ajI:Try.f17.ntmps=93:=rfl
noncomputable abbrev tN:ff:=gf zX
noncomputable abbrev sJ:ff:=gf tN
noncomputable abbrev u':ff:=gf sJ
noncomputable abbrev va:ff:=gf u'
noncomputable abbrev o6:ff:=gf va
noncomputable abbrev CD:ff:=gf o6
theorem ajJ:zX= .seq (eC zX) tN:=rfl
theorem GC:tN= .seq (eC tN) sJ:=rfl
theorem UK:sJ= .seq (eC sJ) u':=rfl
theorem ajK:u'= .seq (eC u') va:=rfl
theorem ajL:va= .seq (eC va) o6:=rfl
theorem ajM:o6= .seq (eC o6) CD:=rfl
abbrev qx:List Nat:=[0,1,2,3,4,8,9,10,11,12,13,14,15,16,17,33,62,84]
theorem sK:r7 5 93 (W.aI iG) 18 qx=Q:=by kernel_rfl
theorem ajN:gW ar (W.a2 iG) (W.cm iG) 93 qx (eC zX) []=j Ev:=by kernel_rfl
theorem GD:gW ar (W.a2 iG) (W.cm iG) 93 qx (eC tN) []=j vU:=by kernel_rfl
theorem UL:gW ar (W.a2 iG) (W.cm iG) 93 qx (eC sJ) []=j Ez:=by kernel_rfl
theorem ajO:gW ar (W.a2 iG) (W.cm iG) 93 qx (eC u') []=j EB:=by kernel_rfl
theorem ajP:gW ar (W.a2 iG) (W.cm iG) 93 qx (eC va) []=j EC:=by kernel_rfl
theorem UM:gW ar (W.a2 iG) (W.cm iG) 93 qx CD []=j Bg:=by kernel_rfl
theorem ajQ:iJ (W.cm iG) (W.e3 iG) (eC zX)=Q:=by kernel_rfl
theorem GF:iJ (W.cm iG) (W.e3 iG) (eC tN)=Q:=by kernel_rfl
theorem UN:iJ (W.cm iG) (W.e3 iG) (eC sJ)=Q:=by kernel_rfl
theorem ajR:iJ (W.cm iG) (W.e3 iG) (eC u')=Q:=by kernel_rfl
theorem ajS:iJ (W.cm iG) (W.e3 iG) (eC va)=Q:=by kernel_rfl
theorem UO:iJ (W.cm iG) (W.e3 iG) CD=Q:=by kernel_rfl
theorem CE:po ar qx Try.f17.results.toList=j [.cell Q 3 7,.cell T 1 8,.cell T 1 9]:=by kernel_rfl
theorem ajT(x y z u t:I):fV 93 qx [] ([x,y,z,u,t]++ax (93 - [x,y,z,u,t].length) .aP) ([x,y,z,u,t]++ax (qx.length - [x,y,z,u,t].length) .aP) []:=by
 refine⟨by simp,rfl,rfl,λD s U=>?_,λD s U=>by simp at U⟩
 match D,U with
 |0,U|1,U|2,U|3,U|4,U|5,U|6,U|7,U|8,U|9,U|10,U|11,U|12,U|13,U|14,U|15,U|16,U|17,U=>obtain rfl:=nW U;exact⟨by decide,rfl⟩
 |D+18,U=>simp at U
noncomputable def UP:a0:={dst:=j 78,op:=.makeFunc (.func pL) #[] #[.tmp 9,.tmp 14,.tmp 10,.tmp 11,.tmp 12],type:=((lf (eC o6)).getD 0 default).type,pos:=((lf (eC o6)).getD 0 default).pos,after:= #[],guard:=ab}
noncomputable def UQ:a0:={dst:=ab,op:=.defer {callee:=.value (.tmp 78),args:= #[],argTypes:= #[]},type:=((lf (eC o6)).getD 1 default).type,pos:=((lf (eC o6)).getD 1 default).pos,after:=((lf (eC o6)).getD 1 default).after,guard:=ab}
theorem ajU:eC o6= .region 10 #[UP,UQ] T:=rfl
theorem UR(eS:fs)(a:Act)(cs:List fs)(w:cQ)(ey:a.tmps.size=93):Steps ar (ej (eS.at a [.code o6]) cs w) (ej (eS.at {a.put (j 78) (zh pL (sh a [9,14,10,11,12]))with defers:=rn pL (sh a [9,14,10,11,12])::a.defers} [.code CD]) cs w):=by
 have hw:(eC o6).wp ar (λe dO aV=>e= .normal/\aV=w/\dO={a.put (j 78) (zh pL (sh a [9,14,10,11,12]))with defers:=rn pL (sh a [9,14,10,11,12])::a.defers}) a w:=by have ahZ:∀(fn:Fn) (first cap:Array bK) (w:cQ),(Instr.makeFunc fn first cap).run ar w= .ok (.func fn first cap) w:=λ_ _ _ _=>rfl;rw[ajU];apply wp_region;simp[wpOps,go_sem,UP,UQ,Act.put,Act.eval,ey,zh,rn,sh]
 obtain⟨e,dO,aV,⟨rfl,rfl,rfl⟩,xv⟩:=hw eS [.code CD] cs
 conv=>lhs;rw[ajM]
 exact .head step_seq xv
theorem US:∀r∈Try.f17.results.toList,∃i ty,r= .cell i ty/\W.e3 iG i=Q:=by
 have h:Try.f17.results.toList.all (λr=>match r with|.cell i _=>W.e3 iG i|_=>T)=Q:=by kernel_rfl
 rw[iR]at h;intro r ah;have:=h r ah;cases r with
 |tmp i=>cases this
 |cell i ty=>exact⟨i,ty,rfl,this⟩
open Go Go.RowKit
theorem ajV{ms:dz}(aX:vR ms){p f:Int}{S:bp}(cl:S.Good)(Dv:S.a2<=1000000)(al:S.left<=2000)(R:v.code=0)(aB:0<=p)(aL:(ms.getD p.toNat ab).isSome)(bc:0<=f)(rx:f.toNat<(hG ms p).length){N:Nat}(eZ:S.left<=N):jP ms ⟨S,⟨p,f,0,v,[],[],T,[]⟩,[]⟩ (match dL ms N p (fp ms p f) v [] 1 S with
   |(bx,w,c)=>if c≠0 then .fail bx c else .over bx w):=by
 have dR:(⟨S,⟨p,f,0,v,[],[],T,[]⟩,[]⟩:b5).Good ms:=⟨cl,⟨aB,aL,bc,rx,R,by simp,by simp,by simp⟩,Dv,by simp only[gK];omega,by simp only[gK];omega,by simp⟩;have af:=Uk aX N (fp ms p f) ⟨S,⟨p,f,0,v,[],[],T,[]⟩,[]⟩ dR eZ (LO aX rx) ⟨[],[⟨105,0,0⟩],by simp[kg],rfl⟩;have pK:=rk ms N p (fp ms p f) v [] 1 S cl R (by simp);simp only[gK,hk]at af;rcases vQ:dL ms N p (fp ms p f) v [] 1 S with⟨px,gw,b'⟩;rw[vQ]at af pK;unfold ja at af;simp only at af ⊢;by_cases aN:b'=0
 ·rw[if_neg (by simpa using aN)]at af ⊢;have UT:g0 ms (b5.after ⟨S,⟨p,f,0,v,[],[],T,[]⟩,[]⟩ px (ce (fp ms p f) 0).length [gw]) [⟨105,0,0⟩]:=⟨ce (fp ms p f) 0,[],by simp[kg,b5.after],by simp[b5.after]⟩;have tK:=LP (c:=[]) (st:=[]) (v:=gw) UT rfl;have Gv:=g0.at UT (dR.ww pK aN) ⟨by simp,by simp[b5.after],by simp,by simp,by simp,by simp⟩;simp only[b5.after,mI,if_false,List.getLast?_nil,bp.ok]at tK;rw[if_neg (by simp)]at tK;exact af _ (.over Gv tK)
 ·rw[if_pos aN]at af ⊢;exact af
theorem jP.ok{ms:dz}{m:b5}{r:oQ}(h:jP ms m r):uG ms m:=by cases h<;>assumption
theorem ajW{h:ad}{a b c d e:I}{m:dw}{w:cQ}{f':List bK}(hw:bU ar m h w)(R:dj ar m h [a,b,c,d,e] f'):CallsD ar pL f'.toArray .returning w λe mz aV=>(∃v,e= .returned v)/\mz= .returning/\∃aR,Ext m h aR h/\bU ar aR h aV/\Below m.base w aV:=by refine PG cX Md UB UC UD UH UI (l5 UG) UE UF (fB:=[a,b,c,d,e,.hb,.aP,.aP,.bool T,.aP]) ?_ (UJ _ _ _ _ _ .hb) hw R (by simp) .hb .returning λc aj cs=>.inr ⟨acZ c aj cs,rfl,rfl⟩;unfold Jo;have ajX:pn .iface ab Q .neq .hb .hb=j (.bool T):=rfl;simp only[ay,ajX]
theorem ajY{h:ad}{sw CF co vb jR a':Nat}{m:dw}{w:cQ}{f':List bK}{u:bK}{k left:Int}{e8 g9:I}{bG:List I}{bD dE:I}(hw:bU ar m h w)(R:dj ar m h [.ptr sw 0 0,.ptr CF 0 0,.ptr co 0 0,.ptr vb 0 0,.ptr jR 0 0] f')(Lw:bI ar m h (.iface kS (.int o k)) u)(bc:h.cell sw=j [[.int o fuel]])(hm:h.cell CF=j [[.ptr a' 0 0]])(ai:h.cell a'=j [[e8,g9,.int o left]])(am:h.cell co=j [bG])(al:bG.length=3)(bH:h.cell vb=j [[bD]])(aj:h.cell jR=j [[dE]])(ek:vb≠co)(iA:jR≠co)(og:jR≠vb)(zt:jN o (fuel - left)=fuel - left):CallsD ar pL f'.toArray (.panicking [{v:=u,recovered:=T}]) w λe mz aV=>(∃v,e= .returned v)/\mz= .panicking [{v:=u,recovered:=Q}]/\∃aR,Ext m h aR (((h.set co (j [bt])).set vb (j [[.int o (fuel - left)]])).set jR (j [[.int o k]]))/\bU ar aR (((h.set co (j [bt])).set vb (j [[.int o (fuel - left)]])).set jR (j [[.int o k]])) aV/\Below m.base w aV:=by
 have tb:(h.set co (j [bt])).cell vb=j [[bD]]:=(gB ek).trans bH;have ajZ:((h.set co (j [bt])).set vb (j [[.int o (fuel - left)]])).cell jR=j [[dE]]:=(gB og).trans ((gB iA).trans aj);refine PG cX Md UB UC UD UH UI (l5 UG) UE UF (fB:=[.ptr sw 0 0,.ptr CF 0 0,.ptr co 0 0,.ptr vb 0 0,.ptr jR 0 0,.iface kS (.int o k),.int o k,.bool Q,.bool Q,.bool T]) ?_ (UJ _ _ _ _ _ (.iface kS (.int o k))) hw R (by simp) Lw (.panicking [{v:=u,recovered:=Q}]) λc aj cs=>.inl (ac0 c aj cs);unfold Jo;have aj0:pn .iface ab Q .neq (.iface kS (.int o k)) .hb=j (.bool Q):=rfl;have aj1:yV kS Q (.iface kS (.int o k))=j (.bW [.int o k,.bool Q]):=by simp[yV]
 simp only[ay,aD,aj0,aj1,bc,hm,ai,am,al,tb,ajZ,zt]
open Go Go.RowKit
abbrev qy(b a':Nat)(code used:Int)(out:List I)(fuel:Int)(r:List I)(L:List cd):List cd:=a9 (b+1+1+1+1+1+1) [[.ptr a' 0 0]]::a9 (b+1+1+1+1) [[.int o code]]::a9 (b+1+1+1) [[.int o used]]::a9 (b+1+1) [out]::a9 (b+1) [[.int o fuel]]::a9 b [r]::L
abbrev tO(az b:Nat)(p f:Int)(r:List I)(fuel:Int)(x y z:I):List I:=[.ptr az 0 0,.int o p,.int o f,.agg r,.int o fuel,.ptr b 0 0,.ptr (b+1) 0 0,.ptr (b+1+1) 0 0,.ptr (b+1+1+1) 0 0,.ptr (b+1+1+1+1) 0 0,.int o 0,.ptr (b+1+1+1+1+1+1) 0 0,x,y,.bool T,.bool T,.bool T,z]
def aj2(ae:ad)(aH aA:Nat->Prop)(c:hf)(L:List cd)(b:Nat)(p f:Int)(r:List I)(fuel:Int)(q:oQ)(x:jd)(V:List I)(J:ad):Prop:=(∃x y z,V=tO c.az b p f r fuel x y z)/\match q with
 |.go _=>False
 |.over S v=>x= .ret/\∃gq bM,b1 v bM/\aQ ae aH aA J (qy b c.a' 0 (fuel - (S.left:Int)) bM fuel r (m8 c L 0 gq S))
 |.fail S k=>x= .panic (.iface kS (.int o k))/\∃bS:eN,bS.S=S/\aQ ae aH aA J (qy b c.a' 0 0 bt fuel r (put c L 0 bS))
section
variable{h J ae:ad}{ag ap aH aA:Nat->Prop}{L:List cd}{c:hf}
theorem aj3{x' ya yb yc yd ye:cd}{bS:eN}{gq:Nat}{S:bp}:m8 c (x'::ya::yb::yc::yd::ye::put c L 0 bS) (0+1+1+1+1+1+1) gq S=x'::ya::yb::yc::yd::ye::m8 c L 0 gq S:=by
 have:m8 c (put c L 0 bS) 0 gq S=m8 c L 0 gq S:=by unfold m8;rw[gP]
 exact congrArg (λl=>x'::ya::yb::yc::yd::ye::l) this
theorem UU{x' ya yb yc yd ye:cd}{n bS:eN}:put c (x'::ya::yb::yc::yd::ye::put c L 0 n) (0+1+1+1+1+1+1) bS=x'::ya::yb::yc::yd::ye::put c L 0 bS:=by have:put c (put c L 0 n) 0 bS=put c L 0 bS:=gP;exact congrArg (λl=>x'::ya::yb::yc::yd::ye::l) this
theorem aj4{i:Nat}(al:i+3<L.length)(bS:eN):d' c (put c L i bS) i bS:=by
 refine⟨?_,?_,?_,?_⟩<;>rw[rF]
 ·rw[if_pos (by omega),if_neg (by omega),if_neg (by omega),if_neg (by omega),if_pos rfl]
 ·rw[if_pos (by omega),if_neg (by omega),if_neg (by omega),if_pos rfl]
 ·rw[if_pos (by omega),if_neg (by omega),if_pos rfl]
 ·rw[if_pos (by omega),if_pos rfl]
theorem Mh{b a':Nat}{used:Int}{out:List I}(al:3<L.length)(n:eN):d' c (qy b a' code used out fuel r (put c L 0 n)) (0+1+1+1+1+1+1) n:=((((((aj4 (i:=0) al n).cons (a9 b [r])).cons (a9 (b+1) [[.int o fuel]])).cons (a9 (b+1+1) [out])).cons (a9 (b+1+1+1) [[.int o used]])).cons (a9 (b+1+1+1+1) [[.int o code]])).cons (a9 (b+1+1+1+1+1+1) [[.ptr a' 0 0]])
def aj5:oQ->Prop
 |.go _=>False
 |.over S v=>S.left<=2000/\v.size<=100000
 |.fail S _=>S.left<=2000
theorem UW(dH:3<L.length)(aj:c.ms.length=4)(hm:uH c.ms){b:Nat}{p f:Int}(anu:0<=fuel/\fuel<=2000){m:b5}{q:oQ}(ah:jP c.ms m q):aj5 q->∀(n:eN) (h:ad) (x y z:I),n.m=m->aQ ae aH aA h (qy b c.a' 0 0 bt fuel r (put c L 0 n))->∃e fB af,bo (a3 ar W) 18 [.fI zk,.bO [],.cb 1,.bO [],.halt []] (tO c.az b p f r fuel x y z) [] h=j (e,fB,af)/\aj2 ae aH aA c L b p f r fuel q e fB af:=by
 induction ah with
 |@go m aR q ok av ah aW=>
   intro aG n h x y z au s;subst au;have i8:=Mh (c:=c) (b:=b) (a':=c.a') (code:=0) (used:=0) (out:=bt) (fuel:=fuel) (r:=r) dH n;obtain⟨aU,F,ao,rI⟩:=Mc s i8 aj hm ok λUX e=>by rw[av]at e;cases e;exact ah.ok.dk
   rw[av]at rI;obtain⟨bT,rfl,⟨bG,bD⟩,gq,a4⟩:=rI;rw[UU]at a4;have hr:=(s.cell 0 rfl).1;have bn:=a4.push [bT];obtain⟨e,fB,af,bm,dE⟩:=aW aG ⟨gq,aR.S,aR.below,aR.top⟩ (F.push [bT]) (.ptr F.n 0 0) (.bool T) (.bool T) rfl bn.drop;refine⟨e,fB,af,?_,dE⟩;rw[<-bm];rw[dP zk.eq_1];simp only[ay,aD,aO,ax,cF,ct,hr,ao,bG,bD]
 |@over m S v ok av=>
   intro aG n h x y z au s;subst au;have i8:=Mh (c:=c) (b:=b) (a':=c.a') (code:=0) (used:=0) (out:=bt) (fuel:=fuel) (r:=r) dH n;obtain⟨aU,F,ao,rI⟩:=Mc s i8 aj hm ok λUX e=>by rw[av]at e;cases e
   rw[av]at rI;obtain⟨bT,rfl,R,gq,a4⟩:=rI;rw[aj3]at a4;obtain⟨DV,rc⟩:=aG;obtain⟨bG,bD⟩:=R.cZ;have hr:=(s.cell 0 rfl).1;have bn:aQ ae aH aA (F.push [bT]) (a9 F.n [bT]::qy b c.a' 0 0 bt fuel r (m8 c L 0 gq S)):=a4.push [bT];obtain⟨bQ,aq,hd⟩:=UA _ v (bV _) rc bT (F.push [bT]) R;have hd:b1 v bQ:=by rw[id_eq]at hd;exact hd
   obtain⟨dE,fl⟩:=hd.cZ;have UY:(m8 c L 0 gq S)[0]? =j (xX c.a' c.az gq (S.left:Int)):=by unfold m8;rw[List.getElem?_set_self (by rw[F8];omega)]
   have CF:=(bn.cell 7 UY).1;have K6:=(bn.cell 1 rfl).1;have sw:=(bn.cell 5 rfl).1;have co:=(bn.cell 4 rfl).1;have b0:=bn.set 4 rfl [bQ];have b0:aQ ae aH aA _ (a9 F.n [bT]::qy b c.a' 0 0 bQ fuel r (m8 c L 0 gq S)):=b0;have aj6:=(b0.cell 7 UY).1;have aj7:=(b0.cell 1 rfl).1;have aj8:=(b0.cell 5 rfl).1;have aj9:=(b0.cell 3 rfl).1;have cc:=b0.set 3 rfl [[.int o (fuel - (S.left:Int))]];have cc:aQ ae aH aA _ (a9 F.n [bT]::qy b c.a' 0 (fuel - (S.left:Int)) bQ fuel r (m8 c L 0 gq S)):=cc;have aj':=(cc.cell 2 rfl).1;have cE:=cc.set 2 rfl [[.int o 0]];have w:jN o (fuel - (S.left:Int))=fuel - (S.left:Int):=ht (by omega) (by omega);have f2:cf 2 (.ptr c.a' 0 0)=j (.ptr c.a' 0 2):=rfl;refine⟨.ret,tO c.az b p f r fuel (.ptr F.n 0 0) (.bool Q) (.bool Q),_,?_,⟨_,_,_,rfl⟩,rfl,gq,bQ,hd,cE.drop⟩;rw[dP zk.eq_1];simp only[ay,aD,aO,ax,cF,ct,hr,ao,bG,bD,dE,fl,aq,CF,K6,sw,co,aj6,aj7,aj8,aj9,aj',w,f2]
 |@fail m S k ok av=>
   intro aG n h x y z au s;subst au;have i8:=Mh (c:=c) (b:=b) (a':=c.a') (code:=0) (used:=0) (out:=bt) (fuel:=fuel) (r:=r) dH n;obtain⟨aU,F,ao,rI⟩:=Mc s i8 aj hm ok λUX e=>by rw[av]at e;cases e
   rw[av]at rI;obtain⟨rfl,bS,q2,a4⟩:=rI;rw[UU]at a4;have hr:=(s.cell 0 rfl).1;refine⟨.panic (.iface kS (.int o k)),tO c.az b p f r fuel x y z,_,?_,⟨_,_,_,rfl⟩,rfl,bS,q2,a4⟩;rw[dP zk.eq_1];simp only[ay,aD,aO,ax,cF,ct,hr,ao]
end
open Go Go.RowKit
abbrev Mi:List mS:=[.cell Q 3 7,.cell T 1 8,.cell T 1 9]
noncomputable def wz(V:List I)(h:ad):Option ((I⊕I)×ad):=((ie V h Mi).map iH).map λv=>(.inl v,h)
noncomputable def vc(x:kD)(k:List I->ad->Option ((I⊕I)×ad)):Option ((I⊕I)×ad):=match x with
 |some (.halt _,V,h)=>k V h
 |some (.ret,V,h)=>wz V h
 |_=>ab
noncomputable def GG(args:List I)(h:ad)(x:kD):Option ((I⊕I)×ad):=match x with
 |some (.ret,V,cj)=>wz V cj
 |some (.panic (.iface _ (.int _ k)),V,cj)=>match cj.cell (h.n+1+1+1+1+1),args with
   |some [[_,_,.int _ left]],[_,_,_,_,.int _ fuel]=>wz V (((cj.set (h.n+1+1) (j [bt])).set (h.n+1+1+1) (j [[.int o (fuel - left)]])).set (h.n+1+1+1+1) (j [[.int o k]]))
   |_,_=>ab
 |_=>ab
noncomputable abbrev oq:=a3 (ar) W
noncomputable def zZ(args:List I)(h:ad):Option ((I⊕I)×ad):=vc (bo oq 18 [.bO Ev,.halt [.code tN]] (args++ax (qx.length - args.length) .aP) [] h) λaka F=>
 vc (bo oq 18 [.bO vU,.halt [.code sJ]] aka [] F) λx0 O=>
 vc (bo oq 18 [.bO Ez,.halt [.code u']] x0 [] O) λakb af=>
 vc (bo oq 18 [.bO EB,.halt [.code va]] akb [] af) λakc aw=>
 vc (bo oq 18 [.bO EC,.halt [.code o6]] akc [] aw) λakd bg=>
 GG args h (bo oq 18 [.bO Bg,.halt []] akd [] bg)
def UZ(ag ap:Nat->Prop)(az b6 ca:Nat)(ms:dz)(S:bp)(h:ad)(d:bp×ak×Int×Int)(q:(I⊕I)×ad):Prop:=∃bM J,q=(.inl (.bW [.agg bM,.int o d.2.2.1,.int o d.2.2.2]),J)/\b1 d.2.1 bM/\gx h ag ap J (c4 [gZ az b6 ca ms d.1.kept,hM b6 d.1.G,gY ca d.1.cells d.1.log])
def GH(ag ap:Nat->Prop)(az b6 ca:Nat)(ms:dz)(S:bp)(h:ad)(args:List I)(d:bp×ak×Int×Int):Prop:=∃q,zZ args h=j q/\AC ar iG args h q/\UZ ag ap az b6 ca ms S h d q
section
variable{h J ae:ad}{ag ap aH aA:Nat->Prop}{L:List cd}{az b6 ca:Nat}{ms:dz}{S:bp}{p f fuel:Int}{v:ak}{r:List I}
abbrev kl(b:Nat)(code used:Int)(out:List I)(fuel:Int)(r:List I)(L:List cd):List cd:=a9 (b+1+1+1+1) [[.int o code]]::a9 (b+1+1+1) [[.int o used]]::a9 (b+1+1) [out]::a9 (b+1) [[.int o fuel]]::a9 b [r]::L
abbrev rJ(az b:Nat)(p f:Int)(r:List I)(fuel:Int)(c x y z:I):List I:=[.ptr az 0 0,.int o p,.int o f,.agg r,.int o fuel,.ptr b 0 0,.ptr (b+1) 0 0,.ptr (b+1+1) 0 0,.ptr (b+1+1+1) 0 0,.ptr (b+1+1+1+1) 0 0,c,.aP,.aP,.aP,x,y,z,.aP]
abbrev jt(h:ad)(r:List I)(fuel:Int):ad:=((((h.push [r]).push [[.int o fuel]]).push [bt]).push [[.int o 0]]).push [[.int o 0]]
abbrev pM(az:Nat)(p f:Int)(r:List I)(fuel:Int):List I:=[.ptr az 0 0,.int o p,.int o f,.agg r,.int o fuel]
theorem CG(R:b1 v r):bo oq 18 [.bO Ev,.halt [.code tN]] (pM az p f r fuel++ax (qx.length - (pM az p f r fuel).length) .aP) [] h=j (.halt [.code tN],rJ az h.n p f r fuel .aP .aP .aP .aP,jt h r fuel):=by obtain⟨bG,bD⟩:=R.cZ;unfold Ev;simp only[ay,aD,aO,ax,bG,bD]
theorem CH(s:aQ ae aH aA h L):aQ ae aH aA (jt h r fuel) (kl h.n 0 0 bt fuel r L):=((((s.push [r]).push [[.int o fuel]]).push [bt]).push [[.int o 0]]).push [[.int o 0]]
theorem Mj{J:ad}{E u c:Nat}{bM:List I}{used:Int}(cT:V.getD 7 .aP= .ptr E 0 0)(hA:V.getD 8 .aP= .ptr u 0 0)(qe:V.getD 9 .aP= .ptr c 0 0)(am:J.cell E=j [bM])(ah:bM.length=3)(bH:J.cell u=j [[.int o used]])(aj:J.cell c=j [[.int o code]]):(ie V J Mi).map iH=j (.bW [.agg bM,.int o used,.int o code]):=by
 have ao:c0 Q 3 J (.ptr E 0 0)=j (.agg bM):=by rw[hD,am];exact kQ ah
 have aq:c0 T 1 J (.ptr u 0 0)=j (.int o used):=by rw[hD,bH];rfl
 have bm:c0 T 1 J (.ptr c 0 0)=j (.int o code):=by rw[hD,aj];rfl
 simp only[ie,cT,hA,qe,ao,aq,bm,c7,hj,iH]
theorem GI(R:b1 v r):oS ar W iG 93 qx (pM az p f r fuel) h (.halt [.code tN]) (rJ az h.n p f r fuel .aP .aP .aP .aP) (jt h r fuel):=(oS.start zY ajH ajI (ajT _ _ _ _ _)).next (aI:=18) cX ajJ (l5 sK) ajN ajQ (CG R)
abbrev yf(h:ad)(r:List I)(fuel code:Int):ad:=(((jt h r fuel).set (h.n+1+1) (j [bt])).set (h.n+1+1+1) (j [[.int o 0]])).set (h.n+1+1+1+1) (j [[.int o code]])
theorem U0(s:aQ ae aH aA h L)(code:Int):aQ ae aH aA (yf h r fuel code) (kl h.n code 0 bt fuel r L):=by have a4:aQ ae aH aA (jt h r fuel) (kl h.n 0 0 bt fuel r L):=CH s;have bn:aQ ae aH aA _ (kl h.n 0 0 bt fuel r L):=a4.set 2 rfl [bt];have b0:aQ ae aH aA _ (kl h.n 0 0 bt fuel r L):=bn.set 1 rfl [[.int o 0]];exact b0.set 0 rfl [[.int o code]]
theorem z0(cT:V.getD 7 .aP= .ptr (h.n+1+1) 0 0)(hA:V.getD 8 .aP= .ptr (h.n+1+1+1) 0 0)(qe:V.getD 9 .aP= .ptr (h.n+1+1+1+1) 0 0)(s:aQ ae aH aA h L)(code:Int):(ie V (yf h r fuel code) Mi).map iH=j (.bW [.agg bt,.int o 0,.int o code]):=by have a4:aQ ae aH aA (yf h r fuel code) (kl h.n code 0 bt fuel r L):=U0 s code;exact Mj cT hA qe (a4.cell 2 rfl).1 rfl (a4.cell 1 rfl).1 (a4.cell 0 rfl).1
theorem Mk(x:(c4 [gZ az b6 ca ms S.kept,hM b6 S.G,gY ca S.cells S.log]).A h ag ap)(code:Int):UZ ag ap az b6 ca ms S h (S,bE,0,code) (.inl (.bW [.agg bt,.int o 0,.int o code]),yf h r fuel code):=⟨bt,_,rfl,pG,(U0 (aQ.start x) code).drop.drop.drop.drop.drop⟩
theorem ake(R:b1 v r)(x:(c4 [gZ az b6 ca ms S.kept,hM b6 S.G,gY ca S.cells S.log]).A h ag ap)(ah:fuel<0\/2000<fuel\/p<0\/4<=p):GH ag ap az b6 ca ms S h (pM az p f r fuel) (S,bE,0,1):=by
 have a4:aQ h ag ap (jt h r fuel) (kl h.n 0 0 bt fuel r _):=CH (aQ.start x);have a8:=(a4.cell 0 rfl).1;have bZ:=(a4.cell 1 rfl).1;have b':=(a4.cell 2 rfl).1;have du:=(a4.cell 3 rfl).1;have bn:aQ h ag ap _ (kl h.n 0 0 bt fuel r _):=a4.set 2 rfl [bt];have d2:=(bn.cell 1 rfl).1;have b0:aQ h ag ap _ (kl h.n 0 0 bt fuel r _):=bn.set 1 rfl [[.int o 0]];have aq:=(b0.cell 0 rfl).1;have run:bo oq 18 [.bO vU,.halt [.code sJ]] (rJ az h.n p f r fuel .aP .aP .aP .aP) [] (jt h r fuel)=j (.ret,rJ az h.n p f r fuel .aP (.bool Q) .aP .aP,yf h r fuel 1):=by
  unfold vU;by_cases F:fuel<0
  ·have dc:decide (fuel<0)=Q:=decide_eq_true F;simp only[ay,aD,b',du,d2,aq,dc]
  ·have dc:decide (fuel<0)=T:=decide_eq_false F;by_cases O:2000<fuel
   ·have dr:decide (2000<fuel)=Q:=decide_eq_true O;simp only[ay,aD,b',du,d2,aq,dc,dr]
   ·have dr:decide (2000<fuel)=T:=decide_eq_false O;by_cases af:p<0
    ·have g6:decide (p<0)=Q:=decide_eq_true af;simp only[ay,aD,b',du,d2,aq,dc,dr,g6]
    ·have g6:decide (p<0)=T:=decide_eq_false af;have fA:decide (4<=p)=Q:=decide_eq_true (by omega);simp only[ay,aD,b',du,d2,aq,dc,dr,g6,fA]
 refine⟨_,?_,((GI R).next (aI:=18) cX GC (l5 sK) GD GF run).ret zY CE (z0 rfl rfl rfl (aQ.start x) 1),Mk x 1⟩;unfold zZ;rw[CG R];simp only[vc];rw[run];simp only[wz];rw[z0 rfl rfl rfl (aQ.start x) 1];rfl
theorem U1{i:Nat}(s:aQ ae aH aA h L){kept:List ak}(aa:L[i]? =j (gZ az b6 ca ms kept))(al:ms.length=kept.length)(aw:ms.length=4){P:Nat}(aB:P<4):(∀q:jC,ft ab (j (4,5)) (.ptr az 0 2) (.int q (P:Int))=j (.ptr az 0 (2+P*5)))/\(∀k:Nat,c0 T k h (.ptr az 0 (2+P*5))=j (.bool (ms.getD P ab).isSome))/\(∀k:Nat,c0 T k h (.ptr az 0 (2+P*5+1))=j (oR (ms.getD P ab))):=by
 obtain⟨ag,ap,x⟩:=s.get i aa;obtain⟨row,a8,T2,_,_,_,ky⟩:=Ld x al;obtain⟨bN,bL,_⟩:=ky P (by rw[aw];exact aB);refine⟨λq=>by simp[ft,aB],λk=>?_,λk=>?_⟩
 ·rw[hD,a8,c7,n4,c7,pq,bN]
 ·rw[hD,a8,c7,n4,c7,pq,bL]
theorem U2(m:Option (List bk)):h0 (oR m)=j (m.getD []).length/\∀s,jL s (j L6) (oR m)=Q:=by
 cases m with
 |none=>exact⟨rfl,λs=>rfl⟩
 |some L=>exact⟨(x5 L).1,λs=>(x5 L).2.1 s⟩
theorem akf(R:b1 v r)(x:(c4 [gZ az b6 ca ms S.kept,hM b6 S.G,gY ca S.cells S.log]).A h ag ap)(aw:ms.length=4)(cl:S.Good)(ah:¬(fuel<0\/2000<fuel\/p<0\/4<=p))(au:(ms.getD p.toNat ab).isNone\/f<0\/((hG ms p).length:Int)<=f):GH ag ap az b6 ca ms S h (pM az p f r fuel) (S,bE,0,8):=by
 have a4:aQ h ag ap (jt h r fuel) (kl h.n 0 0 bt fuel r [gZ az b6 ca ms S.kept,hM b6 S.G,gY ca S.cells S.log]):=CH (aQ.start x);have a8:=(a4.cell 0 rfl).1;have bZ:=(a4.cell 1 rfl).1;have b':=(a4.cell 2 rfl).1;have du:=(a4.cell 3 rfl).1;have bn:aQ h ag ap _ (kl h.n 0 0 bt fuel r _):=a4.set 2 rfl [bt];have d2:=(bn.cell 1 rfl).1;have b0:aQ h ag ap _ (kl h.n 0 0 bt fuel r _):=bn.set 1 rfl [[.int o 0]];have aq:=(b0.cell 0 rfl).1;have dc:decide (fuel<0)=T:=decide_eq_false (by omega);have dr:decide (2000<fuel)=T:=decide_eq_false (by omega);have g6:decide (p<0)=T:=decide_eq_false (by omega);have fA:decide (4<=p)=T:=decide_eq_false (by omega);obtain⟨P,h6⟩:=Int.eq_ofNat_of_zero_le (show 0<=p by omega);subst h6;obtain⟨b8,lk,c9⟩:=U1 a4 (i:=5) (kept:=S.kept) rfl (aw.trans cl.kept.symm) aw (P:=P) (by omega);obtain⟨jK,sw⟩:=U2 (ms.getD P ab);have f2:cf 2 (.ptr az 0 0)=j (.ptr az 0 2):=rfl;have f0:cf 0 (.ptr az 0 (2+P*5))=j (.ptr az 0 (2+P*5)):=rfl;have f1:cf 1 (.ptr az 0 (2+P*5))=j (.ptr az 0 (2+P*5+1)):=rfl;have run:bo oq 18 [.bO vU,.halt [.code sJ]] (rJ az h.n P f r fuel .aP .aP .aP .aP) [] (jt h r fuel)=j (.ret,rJ az h.n P f r fuel .aP (.bool T) (.bool Q) .aP,yf h r fuel 8):=by
  unfold vU;by_cases F:(ms.getD P ab).isSome=Q
  ·by_cases O:f<0
   ·have g7:decide (f<0)=Q:=decide_eq_true O;simp only[ay,aD,b',du,d2,aq,dc,dr,g6,fA,b8,lk,f0,f2,F,g7]
   ·have g7:decide (f<0)=T:=decide_eq_false O;have ji:decide ((((ms.getD P ab).getD []).length:Int)<=f)=Q:=decide_eq_true (by
     rcases au with au|au|au
     ·rw[show((P:Nat):Int).toNat=P from rfl]at au;cases hm:ms.getD P ab with
      |none=>rw[hm]at F;cases F
      |some l=>rw[hm]at au;cases au
     ·exact absurd au O
     ·exact au)
    simp only[ay,aD,b',du,d2,aq,dc,dr,g6,fA,b8,lk,c9,f0,f1,f2,F,g7,jK,sw,ji]
  ·have mP:(ms.getD P ab).isSome=T:=by simpa using F
   simp only[ay,aD,b',du,d2,aq,dc,dr,g6,fA,b8,lk,f0,f2,mP]
 refine⟨_,?_,((GI R).next (aI:=18) cX GC (l5 sK) GD GF run).ret zY CE (z0 rfl rfl rfl (aQ.start x) 8),Mk x 8⟩;unfold zZ;rw[CG R];simp only[vc];rw[run];simp only[wz];rw[z0 rfl rfl rfl (aQ.start x) 8];rfl
theorem U3(a4:aQ ae aH aA (jt h r fuel) (kl h.n 0 0 bt fuel r (gZ az b6 ca ms S.kept::L)))(aw:ms.length=4)(cl:S.Good)(ah:¬(fuel<0\/2000<fuel\/p<0\/4<=p))(au:¬((ms.getD p.toNat ab).isNone\/f<0\/((hG ms p).length:Int)<=f)):bo oq 18 [.bO vU,.halt [.code sJ]] (rJ az h.n p f r fuel .aP .aP .aP .aP) [] (jt h r fuel)=j (.halt [.code sJ],rJ az h.n p f r fuel .aP (.bool T) (.bool T) .aP,jt h r fuel):=by
 have du:=(a4.cell 3 rfl).1;have dc:decide (fuel<0)=T:=decide_eq_false (by omega);have dr:decide (2000<fuel)=T:=decide_eq_false (by omega);have g6:decide (p<0)=T:=decide_eq_false (by omega);have fA:decide (4<=p)=T:=decide_eq_false (by omega);obtain⟨P,h6⟩:=Int.eq_ofNat_of_zero_le (show 0<=p by omega);subst h6;obtain⟨b8,lk,c9⟩:=U1 a4 (i:=5) (kept:=S.kept) rfl (aw.trans cl.kept.symm) aw (P:=P) (by omega);obtain⟨jK,sw⟩:=U2 (ms.getD P ab);have f2:cf 2 (.ptr az 0 0)=j (.ptr az 0 2):=rfl;have f0:cf 0 (.ptr az 0 (2+P*5))=j (.ptr az 0 (2+P*5)):=rfl;have f1:cf 1 (.ptr az 0 (2+P*5))=j (.ptr az 0 (2+P*5+1)):=rfl;have U4:¬(ms.getD P ab).isNone=Q:=λe=>au (.inl e);have F:(ms.getD P ab).isSome=Q:=by cases hm:ms.getD P ab with
  |none=>rw[hm]at U4;exact absurd rfl U4
  |some l=>rfl
 have g7:decide (f<0)=T:=decide_eq_false λe=>au (.inr (.inl e));have ji:decide ((((ms.getD P ab).getD []).length:Int)<=f)=T:=decide_eq_false λe=>au (.inr (.inr e));unfold vU;simp only[ay,du,dc,dr,g6,fA,b8,lk,c9,f0,f1,f2,F,g7,jK,sw,ji]
theorem U5(a4:aQ ae aH aA (jt h r fuel) (kl h.n 0 0 bt fuel r L))(R:b1 v r):bo oq 18 [.bO Ez,.halt [.code u']] (rJ az h.n p f r fuel .aP (.bool T) (.bool T) .aP) [] (jt h r fuel)=if v.code=0 then j (.halt [.code u'],rJ az h.n p f r fuel (.int o 0) (.bool T) (.bool T) (.bool T),jt h r fuel)else j (.ret,rJ az h.n p f r fuel (.int o v.code) (.bool T) (.bool T) (.bool Q),yf h r fuel v.code):=by
 have a8:=(a4.cell 0 rfl).1;have bZ:=(a4.cell 1 rfl).1;have b':=(a4.cell 2 rfl).1;have fk:=(a4.cell 4 rfl).1;have bn:aQ ae aH aA _ (kl h.n 0 0 bt fuel r _):=a4.set 2 rfl [bt];have d2:=(bn.cell 1 rfl).1;have b0:aQ ae aH aA _ (kl h.n 0 0 bt fuel r _):=bn.set 1 rfl [[.int o 0]];have aq:=(b0.cell 0 rfl).1;have bX:=FC (h:=jt h r fuel) R;obtain⟨bG,bD⟩:=R.cZ;unfold Ez;by_cases aN:v.code=0
 ·have k:decide (v.code=0)=Q:=decide_eq_true aN;rw[if_pos aN];rw[aN]at bX k;simp only[ay,aD,ct,b',fk,d2,aq,bG,bX]
 ·have k:decide (v.code=0)=T:=decide_eq_false aN;rw[if_neg aN];simp only[ay,aD,ct,b',fk,d2,aq,bG,bX,k]
end
end Go.Proofs.Ytkdbjfncchmmpaa
