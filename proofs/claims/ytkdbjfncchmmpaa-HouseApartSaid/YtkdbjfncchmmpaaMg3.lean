/- The steps of 'runR', one equation each: for 'simp only'. -/
import Derived.Test.YtkdbjfncchmmpaaMg2
import Derived.WalkKit
import Derived.Test.YtkdbjfncchmmpaaRows
import Derived.Recover
import Derived.ProofKit
import Derived.OpenShut
import Derived.ShutString
import Derived.ChangeOld
import Derived.Deep.Slices
import Derived.Deep.Fields
import Derived.Lib.SmallJoins
set_option linter.unusedSimpArgs false
set_option linter.unusedVariables false
set_option maxHeartbeats 4000000
set_option maxRecDepth 1000000
open Option renaming some→j,bind_eq_some_iff→c',map_eq_some_iff→dd,none→ab,bind_some→c7,map_some→hj,getD_some→pf
open List renaming replicate→ax,getElem?_eq_getElem→fz,getElem?_eq_some_iff→gg,length_append→eP,length_singleton→gp,getD→cK,length_cons→gT,length_nil→gK,getElem_mem→h2,all_eq_true→iR,length_map→iX,mem_range→jl,append_assoc→kv,getElem?_append_left→mJ,getElem?_eq_none→lU,map_cons→jU,range→iQ,nil_append→k5,cons_append→l0,getElem?_append_right→pY,length_eq_zero_iff→p4,mem_of_getElem?→p6,mem_map→n0,mem_cons→pi,getElem?_take_of_lt→rW,append_nil→q9,map_nil→qQ,getElem?_map→s6
open Go.IntKind renaming i64→o,wrap→jN
open Nat renaming reduceAdd→aD,reduceSub→aO,le_refl→bV,reduceLeDiff→dI,lt_of_lt_of_le→eL,le_trans→ef,zero_add→hk,zero_le→k4,lt_or_ge→mc,add_assoc→oE,le_of_eq→pg
open Go.Proofs.Try renaming prog→ar
open Bool renaming false→T,true→Q,and_eq_true→gS,false_eq_true→mI,and_true→r9
open Go renaming TypeId→aT,Oper→a0,Program→cp,Value→bK,FuncId→cJ,World→cQ,undef→fg,Frame→fs,lone→ej,IntKind→jC,Code→ff
open Array renaming getD_eq_getD_getElem?→hB,getElem?_toList→pd
open Int renaming toNat_natCast→n9,natCast_zero→oU
open Go.Frame renaming enter→i4
open Go.Region renaming binds→j8
open SizeOf renaming sizeOf→lB
open Go.RowKit.Below renaming refl→k0
open BitVec renaming ofInt→nU
open Go.DataW renaming TrodAll→pA
open Go.Addr renaming add_lit→oC
open Ne renaming symm→kw
open Iff renaming rfl→mY
namespace Go.Proofs.Ytkdbjfncchmmpaa
open Go
variable{es acc:List (List I)}{aZ:List Int}{K:List Item}{fn:Func}{args V fB:List I}{O:ad}{dG:ad->Prop}{bu:I}
abbrev y3:=cJ->List I->ad->Option ((I⊕I)×ad)
abbrev kD:=Option (jd×List I×ad)
section
variable(C:y3)(aI:Nat)
noncomputable def kP(d:nw)(bA:List aE)(k:List ic)(V L:List I)(h:ad):Option I->kD
 |some v=>bo C aI (.ops bA::k) (jz V v d) (jX L v d) h
 |none=>ab
noncomputable def OY(bA:List aE)(k:List ic)(V L:List I):Option ad->kD
 |some h=>bo C aI (.ops bA::k) V L h
 |none=>ab
noncomputable def nA(d:nw)(bA:List aE)(k:List ic)(V L:List I):Option (I×ad)->kD
 |some (v,h)=>bo C aI (.ops bA::k) (jz V v d) (jX L v d) h
 |none=>ab
noncomputable def qa(d:nw)(bA:List aE)(k:List ic)(V L:List I):Option ((I⊕I)×ad)->kD
 |some (.inl v,h)=>bo C aI (.ops bA::k) (jz V v d) (jX L v d) h
 |some (.inr v,h)=>j (.panic v,V,h)
 |none=>ab
noncomputable def D'(d:nw)(bA:List aE)(k:List ic)(V L:List I)(h:ad):Option (cJ×List I)->kD
 |some (g,args)=>qa C aI d bA k V L (C g args h)
 |none=>ab
noncomputable def Ea(d:nw)(E:fC)(bA:List aE)(k:List ic)(V L:List I)(h:ad):Option Bool->kD
 |some Q=>bo C aI (.ops (.i d E::bA)::k) V L h
 |some T=>bo C aI (.ops bA::k) (jz V (.bW []) d) (jX L (.bW []) d) h
 |none=>ab
noncomputable def OZ(x y l:List bl)(k:List ic)(V:List I)(h:ad):I->kD
 |.bool b=>if b then bo C aI (.bO x::.bO l::k) V [] h else bo C aI (.bO y::.bO l::k) V [] h
 |_=>ab
noncomputable def O0(V L:List I)(h:ad):Option (List ic)->kD
 |some k=>bo C aI k V L h
 |none=>ab
end
section
variable{C:y3}{aI:Nat}{k:List ic}{V L:List I}{h:ad}{d:nw}{bA:List aE}
theorem Zt:bo C aI [] V L h=j (.ret,V,h):=by rw[bo]
theorem Zu:bo C aI (.bO []::k) V L h=bo C aI k V L h:=by rw[bo]
theorem O1{l:List bl}:bo C aI (.bO (.ops bA::l)::k) V L h=bo C aI (.ops bA::.bO l::k) V [] h:=by rw[bo]
theorem Zv{a:Arg}{x y l:List bl}:bo C aI (.bO (.cond a x y::l)::k) V L h=OZ C aI x y l k V h (arg V [] a):=by rw[bo];cases arg V [] a<;>rfl
theorem O2{id:Nat}{b l:List bl}:bo C aI (.bO (.block id b::l)::k) V L h=bo C aI (.bO b::.cb id::.bO l::k) V L h:=by rw[bo]
theorem O3{b l:List bl}:bo C aI (.bO (.loop b::l)::k) V L h=bo C aI (.fI b::.bO l::k) V L h:=by conv=>lhs;rw[bo]
theorem Zw{id:Nat}{l:List bl}:bo C aI (.bO (.exit id::l)::k) V L h=O0 C aI V L h (ly id k):=by rw[bo];cases ly id k<;>rfl
theorem Zx{l:List bl}:bo C aI (.bO (.ret::l)::k) V L h=j (.ret,V,h):=by rw[bo]
theorem Zy{id:Nat}:bo C aI (.cb id::k) V L h=bo C aI k V L h:=by rw[bo]
theorem Zz{b:List bl}:bo C aI (.fI b::k) V L h=bo C aI (.bO b::.fI b::k) (cF aI V) L h:=by rw[bo]
theorem O4:bo C aI (.ops []::k) V L h=bo C aI k V [] h:=by rw[bo]
theorem ZA{l:List tc}(aj:td V L h l):bo C aI (.ops (.bX l::bA)::k) V L h=bo C aI (.ops bA::k) V L h:=by rw[bo];simp[aj]
theorem iT{E:fC}(au:gV V L E=ab)(aB:vH V L E=ab):bo C aI (.ops (.i d E::bA)::k) V L h=nA C aI d bA k V L (gA V L h E):=by rw[bo];simp only[au,aB];rcases gA V L h E with _|⟨v,J⟩<;>rfl
theorem O5{x:Arg}{q:aT}{v:I}(an:arg V L x= .iface q v):bo C aI (.ops (.i d (.vG x)::bA)::k) V L h=j (.panic (.iface q v),V,h):=by rw[bo];simp[vH,an]
theorem ZB{K:List Item}:bo C aI (.halt K::k) V L h=j (.halt K,V,h):=by rw[bo]
theorem IJ{f:Arg}{args:List Arg}:bo C aI (.ops (.i d (.call f args)::bA)::k) V L h=D' C aI d bA k V L h (gV V L (.call f args)):=by
 rw[bo];simp only[vH];rcases aj:gV V L (.call f args)with _|⟨g,aS⟩
 ·rfl
 ·simp only[D'];rcases C g aS h with _|⟨_|_,J⟩<;>rfl
theorem ZC{g:cJ}{args:List Arg}:bo C aI (.ops (.i d (.call (.c (.fn g [] [])) args)::bA)::k) V L h=qa C aI d bA k V L (C g (args.map (arg V L)) h):=by rw[IJ];simp[gV,arg,D']
theorem ZD{a:Arg}{w:Bool}{E:fC}:bo C aI (.ops (.g a w d E::bA)::k) V L h=Ea C aI d E bA k V L h (xc V L a w):=by
 rw[bo];rcases xc V L a w with _|⟨_|_⟩
 ·rfl
 ·rfl
 ·simp only[Ea]
  conv=>rhs;rw[bo]
theorem n8{x:Option I}:nA C aI d bA k V L (x.map λv=>(v,h))=kP C aI d bA k V L h x:=by cases x<;>rfl
theorem ZE{x:Arg}:bo C aI (.ops (.i d (.ba x)::bA)::k) V L h=bo C aI (.ops bA::k) (jz V (arg V L x) d) (jX L (arg V L x) d) h:=by rw[iT rfl rfl];rfl
theorem ZF{c x y:Arg}:bo C aI (.ops (.i d (.pick c x y)::bA)::k) V L h=kP C aI d bA k V L h (Iv (arg V L c) (arg V L x) (arg V L y)):=by rw[iT rfl rfl];exact n8
theorem ZG{z:List I}{pl:List (Nat×Nat)}{f':List (Nat×Arg)}:bo C aI (.ops (.i d (.build z pl f')::bA)::k) V L h=kP C aI d bA k V L h ((nS pl z (f'.map λq=>(q.1,arg V L q.2))).map .agg):=by rw[iT rfl rfl];simp only[gA];cases nS pl z (f'.map λq=>(q.1,arg V L q.2))<;>rfl
theorem ZH{x:Arg}:bo C aI (.ops (.i d (.k9 x)::bA)::k) V L h=kP C aI d bA k V L h (AL (arg V L x)):=by rw[iT rfl rfl];exact n8
theorem ZI{eV:jw}{op:BinOp}{x y:Arg}:bo C aI (.ops (.i d (.bin eV op x y)::bA)::k) V L h=kP C aI d bA k V L h (dV eV op (arg V L x) (arg V L y)):=by rw[iT rfl rfl];exact n8
theorem ZJ{eV:jw}{aZ:Option (List jw)}{kc:Bool}{op:BinOp}{x y:Arg}:bo C aI (.ops (.i d (.yT eV aZ kc op x y)::bA)::k) V L h=kP C aI d bA k V L h (pn eV aZ kc op (arg V L x) (arg V L y)):=by rw[iT rfl rfl];exact n8
theorem ZK{op:UnOp}{x:Arg}:bo C aI (.ops (.i d (.un op x)::bA)::k) V L h=kP C aI d bA k V L h (wM op (arg V L x)):=by rw[iT rfl rfl];exact n8
theorem ZL{eV:jw}{x:Arg}:bo C aI (.ops (.i d (.conv eV x)::bA)::k) V L h=kP C aI d bA k V L h (vp eV (arg V L x)):=by rw[iT rfl rfl];exact n8
theorem ZM{t:aT}{x:Arg}:bo C aI (.ops (.i d (.AH t x)::bA)::k) V L h=kP C aI d bA k V L h (DY t (arg V L x)):=by rw[iT rfl rfl];exact n8
theorem ZN{g:cJ}{f c:List Arg}:bo C aI (.ops (.i d (.DW g f c)::bA)::k) V L h=kP C aI d bA k V L h (j (.fn g (f.map (arg V L)) (c.map (arg V L)))):=by rw[iT rfl rfl];rfl
theorem ZO{s:Bool}{e:Option aT}{x:Arg}{hg aa:Option Arg}:bo C aI (.ops (.i d (.yU s e x hg aa)::bA)::k) V L h=kP C aI d bA k V L h (if jL s e (arg V L x)then tV (arg V L x) (hg.map (arg V L)) (aa.map (arg V L))else ab):=by
 rw[iT rfl rfl];simp only[gA];split
 ·exact n8
 ·rfl
theorem ZP{off:Nat}{x:Arg}:bo C aI (.ops (.i d (.cy off x)::bA)::k) V L h=kP C aI d bA k V L h (cf off (arg V L x)):=by rw[iT rfl rfl];exact n8
theorem ZQ{agg:Bool}{n off:Nat}{x:Arg}:bo C aI (.ops (.i d (.AI agg n off x)::bA)::k) V L h=kP C aI d bA k V L h (DZ agg n off (arg V L x)):=by rw[iT rfl rfl];exact n8
theorem ZR{e:Option aT}{hs:Option (Nat×Nat)}{x q:Arg}:bo C aI (.ops (.i d (.ga e hs x q)::bA)::k) V L h=kP C aI d bA k V L h (ft e hs (arg V L x) (arg V L q)):=by rw[iT rfl rfl];exact n8
theorem ZS{s:Bool}{hs:Option (Nat×Nat×Bool)}{x q:Arg}:bo C aI (.ops (.i d (.b8 s hs x q)::bA)::k) V L h=kP C aI d bA k V L h (AK s hs (arg V L x) (arg V L q)):=by rw[iT rfl rfl];exact n8
theorem ZT{t:aT}{ok:Bool}{x:Arg}:bo C aI (.ops (.i d (.AJ t ok x)::bA)::k) V L h=kP C aI d bA k V L h (yV t ok (arg V L x)):=by rw[iT rfl rfl];exact n8
theorem ZU{x:Arg}{i:Nat}:bo C aI (.ops (.i d (.ext x i)::bA)::k) V L h=kP C aI d bA k V L h (Iw (arg V L x) i):=by rw[iT rfl rfl];exact n8
theorem ZV{s:Bool}{e:Option aT}{x:Arg}:bo C aI (.ops (.i d (.len s e x)::bA)::k) V L h=kP C aI d bA k V L h (if jL s e (arg V L x)then(h0 (arg V L x)).map λ(n:Nat)=>C6 n else ab):=by
 rw[iT rfl rfl];simp only[gA];split
 ·cases h0 (arg V L x)<;>rfl
 ·rfl
theorem ZW{z:List I}:bo C aI (.ops (.i d (.alloc z)::bA)::k) V L h=bo C aI (.ops bA::k) (jz V (.ptr h.n 0 0) d) (jX L (.ptr h.n 0 0) d) (h.push [z]):=by rw[iT rfl rfl];rfl
theorem IK{n:Nat}{x:Arg}(F:(arg V L x).cells.all I.one=Q)(O:(arg V L x).cells.length=n):bo C aI (.ops (.i d (.box n x)::bA)::k) V L h=bo C aI (.ops bA::k) (jz V (.ptr h.n 0 0) d) (jX L (.ptr h.n 0 0) d) (h.push [(arg V L x).cells]):=by rw[iT rfl rfl];simp[gA,F,O,nA]
theorem ZX{e:aT}{z:List I}{n len:Nat}{f':List (Nat×Arg)}:bo C aI (.ops (.i d (.kC T e z n len f')::bA)::k) V L h=nA C aI d bA k V L ((nT n (ax len z) (f'.map λq=>(q.1,arg V L q.2))).map λes=>(.bR (j h.ids) e es,h.fresh len)):=by rw[iT rfl rfl];rfl
theorem ZY{e:aT}{z:List I}{n len:Nat}{f':List (Nat×Arg)}:bo C aI (.ops (.i d (.It e z n len f')::bA)::k) V L h=nA C aI d bA k V L ((nT n (ax len z) (f'.map λq=>(q.1,arg V L q.2))).map λes=>(.bR ab e es,h)):=by rw[iT rfl rfl];rfl
theorem ZZ{e:aT}{z:List I}{n len:Nat}{f':List (Nat×Arg)}:bo C aI (.ops (.i d (.kC Q e z n len f')::bA)::k) V L h=nA C aI d bA k V L ((nT n (ax len z) (f'.map λq=>(q.1,arg V L q.2))).map λes=>(.bd h.n 0 len e,h.push es)):=by rw[iT rfl rfl];rfl
theorem Z0{agg:Bool}{n:Nat}{x:Arg}:bo C aI (.ops (.i d (.load agg n x)::bA)::k) V L h=kP C aI d bA k V L h (c0 agg n h (arg V L x)):=by rw[iT rfl rfl];exact n8
theorem Z1{n:Nat}{a x:Arg}:bo C aI (.ops (.i .n (.store n a x)::bA)::k) V L h=OY C aI bA k V L (ew n h (arg V L a) (arg V L x)):=by rw[iT rfl rfl];simp only[gA];cases ew n h (arg V L a) (arg V L x)<;>rfl
theorem Z2{e:aT}{z:List I}{l c:Arg}:bo C aI (.ops (.i d (.DX e z l c)::bA)::k) V L h=nA C aI d bA k V L (Ix e z (arg V L l) (arg V L c) h):=by rw[iT rfl rfl];rfl
theorem Z3{a2:Bool}{e:aT}{x y:Arg}:bo C aI (.ops (.i d (.app a2 e x y)::bA)::k) V L h=nA C aI d bA k V L (fx a2 e (arg V L x) (arg V L y) h):=by rw[iT rfl rfl];rfl
theorem Z4{a2:Bool}{e:aT}{x y:Arg}:bo C aI (.ops (.i d (.apps a2 e x y)::bA)::k) V L h=nA C aI d bA k V L (z' a2 e (arg V L x) (arg V L y) h):=by rw[iT rfl rfl];rfl
theorem Z5{t:aT}{n:Nat}{x:Arg}(F:(arg V L x).cells.all I.one=Q)(O:(arg V L x).cells.length=n):bo C aI (.ops (.i d (.Is t n x)::bA)::k) V L h=bo C aI (.ops bA::k) (jz V (.e2 t h.n) d) (jX L (.e2 t h.n) d) (h.push [(arg V L x).cells]):=by rw[iT rfl rfl];simp[gA,F,O,nA]
theorem Z6{t:aT}{z:List I}:bo C aI (.ops (.i d (.Ir t z)::bA)::k) V L h=bo C aI (.ops bA::k) (jz V (.e2 t h.n) d) (jX L (.e2 t h.n) d) (h.push [z]):=by rw[iT rfl rfl];rfl
theorem Z7{lP:Bool}{x y:Arg}:bo C aI (.ops (.i d (.jG lP x y)::bA)::k) V L h=kP C aI d bA k V L h (vq lP (arg V L x) (arg V L y)):=by rw[iT rfl rfl];exact n8
theorem Z8{v:I}:kP C aI d bA k V L h (j v)=bo C aI (.ops bA::k) (jz V v d) (jX L v d) h:=rfl
theorem Z9:OY C aI bA k V L (j h)=bo C aI (.ops bA::k) V L h:=rfl
theorem Z'{v:I}:nA C aI d bA k V L (j (v,h))=bo C aI (.ops bA::k) (jz V v d) (jX L v d) h:=rfl
theorem aaa{v:I}:qa C aI d bA k V L (j (.inl v,h))=bo C aI (.ops bA::k) (jz V v d) (jX L v d) h:=rfl
theorem aab{v:I}:qa C aI d bA k V L (j (.inr v,h))=j (.panic v,V,h):=rfl
theorem aac{E:fC}:Ea C aI d E bA k V L h (j Q)=bo C aI (.ops (.i d E::bA)::k) V L h:=rfl
theorem aad{E:fC}:Ea C aI d E bA k V L h (j T)=bo C aI (.ops bA::k) (jz V (.bW []) d) (jX L (.bW []) d) h:=rfl
theorem aae{x y l:List bl}{b:Bool}:OZ C aI x y l k V h (.bool b)=if b=Q then bo C aI (.bO x::.bO l::k) V [] h else bo C aI (.bO y::.bO l::k) V [] h:=rfl
theorem aaf:O0 C aI V L h (j k)=bo C aI k V L h:=rfl
theorem aag{b:Bool}{x y:I}:Iv (.bool b) x y=j (if b=Q then x else y):=rfl
theorem y4{p:Bool}{rs:List mS}{ae:ad}:oL p rs ae (j (.ret,V,h))=wO.gf p ae h ((ie V h rs).map iH):=rfl
theorem O6{p:Bool}{rs:List mS}{ae:ad}{v:I}:oL p rs ae (j (.panic v,V,h))=lS p ae (.inr v,h):=rfl
theorem aah{D:Nat}:arg V L (.v D)=V.getD D .aP:=rfl
theorem aai{D:Nat}:arg V L (.l D)=L.getD D .aP:=rfl
theorem aaj{a:I}:arg V L (.c a)=a:=rfl
theorem aak{v:I}{D:Nat}:jz V v (.v D)=V.set D v:=rfl
theorem aal{v:I}:jz V v .l=V:=rfl
theorem aam{v:I}:jz V v .n=V:=rfl
theorem aan{v:I}{D:Nat}:jX L v (.v D)=L:=rfl
theorem aao{v:I}:jX L v .l=v::L:=rfl
theorem aap{v:I}:jX L v .n=L:=rfl
end
section
variable{C:y3}{aI:Nat}{k:List ic}{V L:List I}{h ae:ad}{eV:jw}{q:jC}
theorem aaq{a b:Int}:dV eV .add (.int q a) (.int q b)=j (.int q (q.wrap (a+b))):=by simp[dV,nd]
theorem aar{a b:Int}:dV eV .sub (.int q a) (.int q b)=j (.int q (q.wrap (a - b))):=by simp[dV,nd]
theorem aas{a b:Int}:dV eV .mul (.int q a) (.int q b)=j (.int q (q.wrap (a*b))):=by simp[dV,nd]
theorem aat{a b:Int}:dV eV .eql (.int q a) (.int q b)=j (.bool (decide (a=b))):=by simp[dV,nd];rfl
theorem aau{a b:Int}:dV eV .neq (.int q a) (.int q b)=j (.bool (!decide (a=b))):=by simp[dV,nd];rfl
theorem aav{a b:Int}:dV eV .lss (.int q a) (.int q b)=j (.bool (decide (a<b))):=by simp[dV,nd]
theorem aaw{a b:Int}:dV eV .leq (.int q a) (.int q b)=j (.bool (decide (a<=b))):=by simp[dV,nd]
theorem aax{a b:Int}:dV eV .gtr (.int q a) (.int q b)=j (.bool (decide (b<a))):=by simp[dV,nd]
theorem aay{a b:Int}:dV eV .geq (.int q a) (.int q b)=j (.bool (decide (b<=a))):=by simp[dV,nd]
theorem aaz{a b:Int}:dV eV .and (.int q a) (.int q b)=j (.int q (q.wrap (nU q.bits a&&& nU q.bits b).toNat)):=by simp[dV,nd]
theorem aaA{a b:Int}:dV eV .or (.int q a) (.int q b)=j (.int q (q.wrap (nU q.bits a|||nU q.bits b).toNat)):=by simp[dV,nd]
theorem aaB{a b:Int}:dV eV .andNot (.int q a) (.int q b)=j (.int q (q.wrap (nU q.bits a&&& ~~~(nU q.bits b)).toNat)):=by simp[dV,nd]
theorem aaC{a b:List UInt8}:dV eV .eql (.str a) (.str b)=j (.bool (decide (a=b))):=by by_cases bP:a=b<;>simp[dV,bP]
theorem aaD{a b:List UInt8}:dV eV .neq (.str a) (.str b)=j (.bool (!decide (a=b))):=by by_cases bP:a=b<;>simp[dV,bP]
theorem aaE{a b:Bool}:dV .bool .eql (.bool a) (.bool b)=j (.bool (a==b)):=by simp[dV,mG]
theorem aaF{a b:Bool}:dV .bool .neq (.bool a) (.bool b)=j (.bool (!(a==b))):=by simp[dV,mG]
theorem aaG{z:aT}{es:List (List I)}{i:Option Nat}:dV .slice .eql (.bR i z es) .aF=j (.bool T):=by simp[dV,mG]
theorem aaH:dV .slice .eql .aF .aF=j (.bool Q):=by simp[dV,mG]
theorem aaI{b E n:Nat}{z:aT}:dV .slice .eql (.bd b E n z) .aF=j (.bool T):=by simp[dV,mG]
theorem aaJ{b:Bool}:wM .not (.bool b)=j (.bool !b):=rfl
theorem aaK{a:Int}:wM .neg (.int q a)=j (.int q (q.wrap (0 - a))):=rfl
theorem aaL{p:jC}{a:Int}:vp (.int q) (.int p a)=j (.int q (q.wrap a)):=rfl
theorem aaM{s:List UInt8}:vp .str (.str s)=j (.str s):=rfl
theorem hD{agg:Bool}{n b i off:Nat}:c0 agg n h (.ptr b i off)=((h.cell b).bind (·[i]?)).bind λe=>gG agg n e off:=rfl
theorem aaN{agg:Bool}{n off:Nat}{e:List I}:c0 agg n h (.ip e off)=gG agg n e off:=rfl
theorem pq{n off:Nat}{e:List I}:gG T n e off=e[off]? :=rfl
theorem kQ{n:Nat}{e:List I}(he:e.length=n):gG Q n e 0=j (.agg e):=by subst he;simp[gG]
theorem Eb{e el:aT}{id:Option Nat}{i:Nat}{r:List I}(he:e=el)(aa:es[i]? =j r):ft (j e) ab (.bR id el es) (.int q (i:Int))=j (.ip r 0):=by simp[ft,he,aa]
theorem y5{e el:aT}{b E n i:Nat}(he:e=el)(aa:i<n):ft (j e) ab (.bd b E n el) (.int q (i:Int))=j (.ptr b (E+i) 0):=by simp[ft,he,aa]
theorem aaO{b i E off:Nat}:cf off (.ptr b i E)=j (.ptr b i (E+off)):=rfl
theorem aaP{e:List I}{E off:Nat}:cf off (.ip e E)=j (.ip e (E+off)):=rfl
theorem aaQ{b i E:Nat}:AL (.ptr b i E)=j (.ptr b i E):=rfl
theorem aaR{e:List I}{E:Nat}:AL (.ip e E)=j (.ip e E):=rfl
theorem aaS:h0 .aF=j 0:=rfl
theorem aaT{id:Option Nat}{el:aT}{es:List (List I)}:h0 (.bR id el es)=j es.length:=rfl
theorem aaU{b E n:Nat}{el:aT}:h0 (.bd b E n el)=j n:=rfl
theorem aaV{s:List UInt8}:h0 (.str s)=j s.length:=rfl
theorem aaW{s:Bool}{e:aT}:jL s (j e) .aF=Q:=rfl
theorem AR{s:Bool}{e:aT}{id:Option Nat}{es:List (List I)}:jL s (j e) (.bR id e es)=Q:=by simp[jL]
theorem AS{s:Bool}{e:aT}{b E n:Nat}:jL s (j e) (.bd b E n e)=Q:=by simp[jL]
theorem aaX{e:Option aT}{l:List UInt8}:jL Q e (.str l)=Q:=rfl
theorem lz{b:Nat}{es:Option (List (List I))}:(h.set b es).cell b=es:=by simp[ad.set]
theorem gB{b D:Nat}{es:Option (List (List I))}(U:D≠b):(h.set b es).cell D=h.cell D:=by simp[ad.set,U]
theorem lA{b:Nat}{es:Option (List (List I))}:(h.set b es).n=h.n:=rfl
theorem AT{b:Nat}{es:Option (List (List I))}:(h.set b es).ids=h.ids:=rfl
theorem AU{b:Nat}{es:Option (List (List I))}:(h.set b es).hw=h.hw:=rfl
theorem kd{es:List (List I)}:(h.push es).cell h.n=j es:=by simp[ad.push]
theorem vM{D:Nat}(U:D≠h.n):(h.push es).cell D=h.cell D:=by simp[ad.push,U]
theorem fo{es:List (List I)}:(h.push es).n=h.n+1:=rfl
theorem AV{es:List (List I)}:(h.push es).ids=h.ids:=rfl
theorem aaY{es:List (List I)}:(h.push es).hw=h.hw:=rfl
theorem aaZ{m:Nat}:(h.fresh m).cell=h.cell:=rfl
theorem aa0{m:Nat}:(h.fresh m).n=h.n:=rfl
theorem O7{m:Nat}:(h.fresh m).ids=h.ids+1:=rfl
theorem pu{m:Nat}:(h.fresh m).hw h.ids=m:=by simp[ad.fresh]
theorem AW{m D:Nat}(U:D≠h.ids):(h.fresh m).hw D=h.hw D:=by simp[ad.fresh,U]
theorem aa1{i m:Nat}:(h.grow i m).cell=h.cell:=rfl
theorem aa2{i m:Nat}:(h.grow i m).n=h.n:=rfl
theorem aa3{i m:Nat}:(h.grow i m).ids=h.ids:=rfl
theorem aa4{i m:Nat}:(h.grow i m).hw i=m:=by simp[ad.grow]
theorem O8{i m D:Nat}(U:D≠i):(h.grow i m).hw D=h.hw D:=by simp[ad.grow,U]
def Acc(ae h:ad)(e:aT)(v:I)(acc:List (List I)):Prop:=(acc=[]/\v= .aF)\/∃id,acc≠[]/\ae.ids<=id/\id<h.ids/\h.hw id=acc.length/\v= .bR (j id) e acc
theorem xi(ae h:ad)(e:aT):Acc ae h e .aF []:=.inl ⟨rfl,rfl⟩
theorem y6{e:aT}{v:I}(aM:Acc ae h e v acc)(g:aK ae h){row:List I}(F:row.all I.one=Q)(al:acc.length<=1000000):∃bu J,fx T e v (.bR (j h.ids) e [row]) (h.fresh 1)=j (bu,J)/\Acc ae J e bu (acc++[row])/\aK ae J/\J.cell=h.cell/\J.n=h.n:=by
 have c1:aK ae (h.fresh 1):=g.trans (aK.fresh h 1);have mP:∀x,x∈row->x.one=Q:=by simpa using F
 rcases aM with⟨rfl,rfl⟩|⟨id,hT,aJ,a1,bf,rfl⟩
 ·refine⟨.bR (j (h.ids+1)) e [row],(h.fresh 1).fresh 1,?_,.inr ⟨h.ids+1,by simp,?_,?_,?_,by simp⟩,c1.trans (aK.fresh _ 1),rfl,rfl⟩
  ·simp only[fx,iO,if_true,c7,gp,Nat.one_ne_zero,if_false,kr];rw[if_pos ⟨by omega,by omega,by simpa using mP⟩];rfl
  ·have:=g.ids;omega
  ·simp[ad.fresh]
  ·simp[ad.fresh]
 ·have cO:id≠h.ids:=by omega
  refine⟨.bR (j id) e (acc++[row]),(h.fresh 1).grow id (acc.length+1),?_,.inr ⟨id,by simp,aJ,?_,?_,rfl⟩,c1.grow aJ,rfl,rfl⟩
  ·simp only[fx,iO,if_true,c7,gp,Nat.one_ne_zero,if_false,kr];rw[if_pos ⟨by omega,by omega,by simpa using mP⟩,AW cO,bf];simp only[true_and,al,if_true]
  ·simp[ad.grow,ad.fresh];omega
  ·simp[ad.grow]
def r8:I->Bool
 |.bool _|.int _ _|.str _|.gd|.aF|.mb|.hb=>Q
 |_=>T
theorem aa5{v:I}(h:r8 v=Q):dA v=j v:=by cases v<;>simp_all [r8,dA]
theorem O9:∀{l:List I},l.all r8=Q->o' l=j l
 |[],_=>rfl
 |v::l,h=>by simp only[List.all_cons,gS]at h;simp[o',aa5 h.1,O9 h.2]
theorem xj:∀{l:List (List I)},(∀r∈l,r.all r8=Q)->pT l=j l
 |[],_=>rfl
 |v::l,h=>by simp only[pT,O9 (h v (List.mem_cons_self ..)),xj λr ah=>h r (List.mem_cons_of_mem _ ah)]
def jM(e:aT)(es:List (List I)):I:=if es=[]then .aF else .bR ab e es
theorem IL{e:aT}{v:I}(aM:Acc ae h e v acc)(bc:∀r∈acc,r.all r8=Q):dA v=j (jM e acc):=by
 rcases aM with⟨rfl,rfl⟩|⟨id,hT,_,a1,bf,rfl⟩
 ·rfl
 ·simp only[dA,xj bc,hj,jM,if_neg hT]
structure oM(e:aT)(v:I)(rows:List (List I)):Prop where
 len:h0 v=j rows.length
 fits:∀s,jL s (j e) v=Q
 b8:∀(q:jC) (i:Nat) row,rows[i]? =j row->ft (j e) ab v (.int q (i:Int))=j (.ip row 0)
theorem AX(id:Option Nat)(e:aT)(rows:List (List I)):oM e (.bR id e rows) rows:=⟨rfl,λs=>AR,λq i row h=>Eb rfl h⟩
theorem IM(e:aT):oM e .aF []:=⟨rfl,λs=>rfl,λq i row h=>by simp at h⟩
theorem Ec(e:aT)(rows:List (List I)):oM e (jM e rows) rows:=by
 unfold jM;split
 ·rename_i h;subst h;exact IM e
 ·exact AX _ _ _
def tg(w:Bool):I->Option Bool
 |.bool b=>j (if w then b else !b)
 |.bW _=>j T
 |_=>ab
theorem aa6{w:Bool}{br:List I}:tg w (.bW br)=j T:=rfl
theorem O'{a:Arg}{w:Bool}:xc V L a w=tg w (arg V L a):=by unfold xc tg;cases arg V L a<;>rfl
theorem aa7{b w:Bool}:tg w (.bool b)=j (if w=Q then b else !b):=rfl
theorem aa8{i id:Nat}:ly id (.cb i::k)=if i=id then j k else ly id k:=rfl
theorem aa9{l:List bl}{id:Nat}:ly id (.bO l::k)=ly id k:=rfl
theorem aa'{l:List bl}{id:Nat}:ly id (.fI l::k)=ly id k:=rfl
theorem aba{l:List aE}{id:Nat}:ly id (.ops l::k)=ly id k:=rfl
theorem abb:ie V h []=j []:=rfl
theorem abc{D:Nat}{rs:List mS}:ie V h (.v D::rs)=(ie V h rs).map λl=>V.getD D .aP::l:=rfl
theorem abd{agg:Bool}{n D:Nat}{rs:List mS}:ie V h (.cell agg n D::rs)=(c0 agg n h (V.getD D .aP)).bind λv=>(ie V h rs).map λl=>v::l:=rfl
theorem abe:iH []= .bW []:=rfl
theorem abf{a:I}:iH [a]=a:=rfl
theorem abg{a b:I}:iH [a,b]= .bW [a,b]:=rfl
theorem abh{a b c:I}:iH [a,b,c]= .bW [a,b,c]:=rfl
theorem abi{a d:I}{l:List I}:(a::l).getD 0 d=a:=rfl
theorem abj{a d:I}{l:List I}{n:Nat}:(a::l).getD (n+1) d=l.getD n d:=rfl
theorem abk{d:I}{n:Nat}:([]:List I).getD n d=d:=rfl
theorem abl{a b:I}{l:List I}:(a::l).set 0 b=b::l:=rfl
theorem abm{a b:I}{l:List I}{n:Nat}:(a::l).set (n+1) b=a::l.set n b:=rfl
theorem abn{α:Type}{a:α}{l:List α}:(a::l)[0]? =j a:=rfl
theorem abo{α:Type}{a:α}{l:List α}{n:Nat}:(a::l)[n+1]? =l[n]? :=rfl
theorem abp{α:Type}{n:Nat}:([]:List α)[n]? =ab:=rfl
theorem abq{cs:List I}:(I.agg cs).cells=cs:=rfl
theorem abr{n:Int}:(I.int q n).cells=[.int q n]:=rfl
theorem abt{b:Bool}:(I.bool b).cells=[.bool b]:=rfl
theorem abu{b:List UInt8}:(I.str b).cells=[.str b]:=rfl
theorem abv:I.aF.cells=[.aF]:=rfl
theorem abw:I.gd.cells=[.gd]:=rfl
theorem abx{i:Option Nat}{z:aT}{es:List (List I)}:(I.bR i z es).cells=[.bR i z es]:=rfl
theorem aby{b E n:Nat}{z:aT}:(I.bd b E n z).cells=[.bd b E n z]:=rfl
theorem abz{b E n:Nat}:(I.ptr b E n).cells=[.ptr b E n]:=rfl
theorem abA{n:Int}:(I.int q n).one=Q:=rfl
theorem abB{b:Bool}:(I.bool b).one=Q:=rfl
theorem abC{b:List UInt8}:(I.str b).one=Q:=rfl
theorem abD:I.aF.one=Q:=rfl
theorem abE:I.gd.one=Q:=rfl
theorem abF{i:Option Nat}{z:aT}{es:List (List I)}:(I.bR i z es).one=Q:=rfl
theorem abG{b E n:Nat}{z:aT}:(I.bd b E n z).one=Q:=rfl
theorem abH{b E n:Nat}:(I.ptr b E n).one=Q:=rfl
theorem abI{t:aT}{v:I}:(I.iface t v).one=Q:=rfl
theorem abJ{p:I->Bool}{a:I}{l:List I}:(a::l).all p=(p a&&l.all p):=rfl
theorem abK{p:I->Bool}:([]:List I).all p=Q:=rfl
theorem abL{br:List I}{i:Nat}:Iw (.bW br) i=br[i]? :=rfl
theorem abM{pl:List (Nat×Nat)}{cs:List I}:nS pl cs []=j cs:=by cases pl<;>rfl
def IN(pl:List (Nat×Nat))(cs:List I)(v:I)(r:List (Nat×I)):Option (Nat×Nat)->Option (List I)
 |some (off,size)=>if v.cells.length=size/\off+size<=cs.length/\v.cells.all I.one=Q then nS pl (dt cs off v.cells) r else ab
 |none=>ab
theorem abN{pl:List (Nat×Nat)}{cs:List I}{i:Nat}{v:I}{r:List (Nat×I)}:nS pl cs ((i,v)::r)=IN pl cs v r pl[i]? :=by
 conv=>lhs;unfold nS
 cases pl[i]? with
 |none=>rfl
 |some q=>rfl
theorem abO{pl:List (Nat×Nat)}{cs:List I}{off size:Nat}{v:I}{r:List (Nat×I)}(F:v.cells.length=size)(O:off+size<=cs.length)(af:v.cells.all I.one=Q):IN pl cs v r (j (off,size))=nS pl (dt cs off v.cells) r:=by simp[IN,F,O,af]
def Ed(n:Nat)(h:ad)(b i off:Nat)(cs:List I):Option (List (List I))->Option ad
 |some es=>(es[i]?).bind λe=>if cs.all I.one=Q/\cs.length=n/\off+n<=e.length then j (h.set b (j (es.set i (dt e off cs))))else ab
 |none=>ab
def IP(n:Nat)(h:ad)(b i off:Nat)(cs:List I)(es:List (List I)):Option (List I)->Option ad
 |some e=>if cs.all I.one=Q/\cs.length=n/\off+n<=e.length then j (h.set b (j (es.set i (dt e off cs))))else ab
 |none=>ab
theorem abP{n b i off:Nat}{x:I}:ew n h (.ptr b i off) x=Ed n h b i off x.cells (h.cell b):=by simp only[ew];cases h.cell b<;>rfl
theorem abQ{n b i off:Nat}{cs:List I}{es:List (List I)}:Ed n h b i off cs (j es)=IP n h b i off cs es es[i]? :=by simp only[Ed];cases es[i]? <;>rfl
theorem abR{n b i off:Nat}{cs:List I}{es:List (List I)}{e:List I}(F:cs.all I.one=Q)(O:cs.length=n)(af:off+n<=e.length):IP n h b i off cs es (j e)=j (h.set b (j (es.set i (dt e off cs)))):=by simp[IP,F,O,af]
theorem abS{n:Nat}{es:List (List I)}:nT n es []=j es:=by cases es<;>rfl
theorem abT{n:Nat}{es:List (List I)}{i:Nat}{v:I}{r:List (Nat×I)}(F:v.cells.length=n)(O:i<es.length)(af:v.cells.all I.one=Q):nT n es ((i,v)::r)=nT n (es.set i v.cells) r:=by
 conv=>lhs;unfold nT
 simp[F,O,af]
theorem abU{e cs:List I}(he:e.length=cs.length):dt e 0 cs=cs:=by simp[dt,he]
theorem abV{e:List I}:dt e 0 []=e:=by simp[dt]
theorem abW{a c:I}{e cs:List I}:dt (a::e) 0 (c::cs)=c::dt e 0 cs:=by simp[dt]
theorem abX{a:I}{e cs:List I}{n:Nat}:dt (a::e) (n+1) cs=a::dt e n cs:=by simp[dt,Nat.add_right_comm]
theorem abY{b:Nat}{x y:Option (List (List I))}:(h.set b x).set b y=h.set b y:=by unfold ad.set;congr 1;funext D;by_cases U:D=b<;>simp[U]
theorem vN{x y:List (List I)}:(h.push x).set h.n (j y)=h.push y:=by unfold ad.push ad.set;congr 1;funext D;by_cases U:D=h.n<;>simp[U]
theorem abZ:td V L h []=True:=rfl
theorem ab0{agg:Bool}{n:Nat}{a d:Arg}{r:List tc}:td V L h (⟨ab,agg,n,a,d⟩::r)=(c0 agg n h (arg V L a)=j (arg V L d)/\td V L h r):=rfl
theorem ab1{agg:Bool}{n:Nat}{g a d:Arg}{w:Bool}{r:List tc}:td V L h (⟨j (g,w),agg,n,a,d⟩::r)=((match tg w (arg V L g)with|some Q=>c0 agg n h (arg V L a)=j (arg V L d)|_=>True)/\td V L h r):=by simp only[td,yW,O']<;>rfl
theorem ab2{b:Bool}:lS Q h (.inl (.bool b),h)=j (.inl (.bool b),h):=fR (aK.refl h) rfl
theorem ab3{n:Int}:lS Q h (.inl (.int q n),h)=j (.inl (.int q n),h):=fR (aK.refl h) rfl
theorem ab4{n:List UInt8}:lS Q h (.inl (.str n),h)=j (.inl (.str n),h):=fR (aK.refl h) rfl
theorem ht{n:Int}(F: -9223372036854775808<=n)(O:n<=9223372036854775807):jN o n=n:=by rw[IntKind.wrap_i64];omega
theorem y7{a b:List (List I)}:((h.push a).push b).cell (h.n+1)=j b:=by simp[ad.push]
theorem IQ{a b:List (List I)}:((h.push a).push b).cell h.n=j a:=by simp[ad.push]
theorem ab5{a x y:List (List I)}:((h.push a).push x).set (h.n+1) (j y)=(h.push a).push y:=vN (h:=h.push a)
theorem vO{a b c:List (List I)}:(((h.push a).push b).push c).cell (h.n+1+1)=j c:=by simp[ad.push]
theorem xk{a b c:List (List I)}:(((h.push a).push b).push c).cell (h.n+1)=j b:=by simp[ad.push]
theorem th{a b c:List (List I)}:(((h.push a).push b).push c).cell h.n=j a:=by simp[ad.push,show ¬h.n=h.n+1+1 by omega]
theorem ab6{a b x y:List (List I)}:(((h.push a).push b).push x).set (h.n+1+1) (j y)=((h.push a).push b).push y:=vN (h:=(h.push a).push b)
theorem bi{D:Nat}(U:D<h.n):(h.push es).cell D=h.cell D:=vM (by omega)
theorem dP{b e5:List bl}(ai:b=e5):bo C aI (.fI b::k) V L h=bo C aI (.bO e5::.fI b::k) (cF aI V) L h:=by subst ai;exact Zz
theorem ab7{agg:Bool}{n b:Nat}{t:aT}:c0 agg n h (.e2 t b)=((h.cell b).bind (·[0]?)).bind λe=>gG agg n e 0:=rfl
theorem ab8{t:aT}{b:Nat}:cf 0 (.e2 t b)=j (.e2 t b):=rfl
theorem ab9{t:aT}{b:Nat}:cf 1 (.e2 t b)=j (.ptr b 0 1):=rfl
theorem ab'{t:aT}{b:Nat}:cf 2 (.e2 t b)=j (.ptr b 0 2):=rfl
theorem aca{t:aT}{b:Nat}:cf 3 (.e2 t b)=j (.ptr b 0 3):=rfl
theorem acb{t:aT}{b:Nat}:AL (.e2 t b)=j (.e2 t b):=rfl
theorem acd{n b:Nat}{t:aT}{x:I}:ew n h (.e2 t b) x=Ed n h b 0 0 x.cells (h.cell b):=by simp only[ew];cases h.cell b<;>rfl
theorem ace{t:aT}{b:Nat}:(I.e2 t b).cells=[.e2 t b]:=rfl
theorem acf{t:aT}{b:Nat}:(I.e2 t b).one=Q:=rfl
theorem acg{a b:Int}:vq T (.int q a) (.int q b)=j (.int q (if b<a then b else a)):=rfl
theorem ach{a b:Int}:vq Q (.int q a) (.int q b)=j (.int q (if b>a then b else a)):=rfl
theorem aci{a b:Int}:dV eV .rem (.int q a) (.int q b)=if b=0 then ab else j (.int q (a.tmod b)):=by simp[dV,nd]
theorem acj{b i E:Nat}:dV .ptr .eql (.ptr b i E) .gd=j (.bool T):=by simp[dV,mG]
theorem ack{t:aT}{b:Nat}:dV .ptr .eql (.e2 t b) .gd=j (.bool T):=by simp[dV,mG]
theorem acm:dV .ptr .eql .gd .gd=j (.bool Q):=by simp[dV,mG]
theorem acn{b i E:Nat}:dV .ptr .neq (.ptr b i E) .gd=j (.bool Q):=by simp[dV,mG]
theorem aco{t:aT}{b:Nat}:dV .ptr .neq (.e2 t b) .gd=j (.bool Q):=by simp[dV,mG]
theorem acp:dV .ptr .neq .gd .gd=j (.bool T):=by simp[dV,mG]
theorem acq{t:aT}{v:I}{aZ:Option (List jw)}{kc:Bool}:pn .iface aZ kc .neq (.iface t v) .hb=j (.bool Q):=by simp[pn,dV,mG]
theorem acr{aZ:Option (List jw)}:pn .iface aZ Q .neq .hb .hb=j (.bool T):=by simp[pn,Iu]
theorem acs{t:aT}{v:I}{aZ:Option (List jw)}{kc:Bool}:pn .iface aZ kc .eql (.iface t v) .hb=j (.bool T):=by simp[pn,dV,mG]
theorem acu{aZ:Option (List jw)}:pn .iface aZ Q .eql .hb .hb=j (.bool Q):=by simp[pn,Iu]
theorem a7{P cH:Prop}(a:P)(b:cH):P/\cH:=⟨a,b⟩
theorem ay:(type_of% @gT.{0})/\(type_of% @gK.{0})/\(type_of% @l0.{0})/\(type_of% @k5.{0})/\(type_of% @jU.{0,0})/\(type_of% @qQ.{0,0})/\(type_of% @c7.{0,0})/\(type_of% @hj.{0,0})/\(type_of% @Option.bind_none.{0,0})/\(type_of% @Option.map_none.{0,0})/\(type_of% @if_true.{1})/\(type_of% @if_false.{1})/\(type_of% @decide_true)/\(type_of% @decide_false)/\(type_of% @mI)/\(type_of% @Bool.true_eq_false)/\(type_of% @Bool.not_true)/\(type_of% @Bool.not_false)/\(type_of% @r9)/\(type_of% @Bool.true_and)/\(type_of% @Bool.and_false)/\(type_of% @Bool.false_and)/\(type_of% @Bool.or_true)/\(type_of% @Bool.true_or)/\(type_of% @Bool.or_false)/\(type_of% @Bool.false_or)/\(type_of% @true_and)/\(type_of% @and_true)/\(type_of% @false_and)/\(type_of% @and_false)/\(type_of% @List.take_zero.{0})/\(type_of% @List.take_succ_cons.{0})/\(type_of% @List.drop_zero.{0})/\(type_of% @List.drop_succ_cons.{0})/\(type_of% @List.take_nil.{0})/\(type_of% @List.drop_nil.{0})/\(type_of% @List.set_cons_zero.{0})/\(type_of% @List.set_cons_succ.{0})/\(type_of% @hk)/\(type_of% @Nat.lt_add_one)/\(type_of% @bV)/\(type_of% @n9)/\(type_of% @Zt)/\(type_of% @Zu)/\(type_of% @O1)/\(type_of% @Zv)/\(type_of% @O2)/\(type_of% @O3)/\(type_of% @Zw)/\(type_of% @Zx)/\(type_of% @Zy)/\(type_of% @O4)/\(type_of% @ZC)/\(type_of% @ZD)/\(type_of% @O5)/\(type_of% @ZB)/\(type_of% @ZE)/\(type_of% @ZF)/\(type_of% @ZG)/\(type_of% @ZH)/\(type_of% @ZI)/\(type_of% @ZJ)/\(type_of% @ZK)/\(type_of% @ZL)/\(type_of% @ZM)/\(type_of% @ZN)/\(type_of% @ZO)/\(type_of% @ZP)/\(type_of% @ZQ)/\(type_of% @ZR)/\(type_of% @ZS)/\(type_of% @ZT)/\(type_of% @ZU)/\(type_of% @ZV)/\(type_of% @ZW)/\(type_of% @ZX)/\(type_of% @ZZ)/\(type_of% @ZY)/\(type_of% @Z0)/\(type_of% @Z1)/\(type_of% @Z2)/\(type_of% @Z3)/\(type_of% @Z8)/\(type_of% @Z9)/\(type_of% @Z')/\(type_of% @aaa)/\(type_of% @aab)/\(type_of% @aac)/\(type_of% @aad)/\(type_of% @aae)/\(type_of% @aaf)/\(type_of% @aag)/\(type_of% @y4)/\(type_of% @O6)/\(type_of% @aah)/\(type_of% @aai)/\(type_of% @aaj)/\(type_of% @aak)/\(type_of% @aal)/\(type_of% @aam)/\(type_of% @aan)/\(type_of% @aao)/\(type_of% @aap)/\(type_of% @O')/\(type_of% @aa7)/\(type_of% @aa6)/\(type_of% @aa8)/\(type_of% @aa9)/\(type_of% @aa')/\(type_of% @aba)/\(type_of% @abb)/\(type_of% @abc)/\(type_of% @abd)/\(type_of% @abf)/\(type_of% @abg)/\(type_of% @abh)/\(type_of% @abe)/\(type_of% @wP)/\(type_of% @yv)/\(type_of% @aaq)/\(type_of% @aar)/\(type_of% @aas)/\(type_of% @aat)/\(type_of% @aau)/\(type_of% @aav)/\(type_of% @aaw)/\(type_of% @aax)/\(type_of% @aay)/\(type_of% @aaz)/\(type_of% @aaA)/\(type_of% @aaB)/\(type_of% @aaC)/\(type_of% @aaD)/\(type_of% @aaE)/\(type_of% @aaF)/\(type_of% @aaG)/\(type_of% @aaH)/\(type_of% @aaI)/\(type_of% @aaJ)/\(type_of% @aaK)/\(type_of% @aaL)/\(type_of% @aaM)/\(type_of% @hD)/\(type_of% @aaN)/\(type_of% @pq)/\(type_of% @aaO)/\(type_of% @aaP)/\(type_of% @aaQ)/\(type_of% @aaR)/\(type_of% @aaS)/\(type_of% @aaT)/\(type_of% @aaU)/\(type_of% @aaV)/\(type_of% @aaW)/\(type_of% @AR)/\(type_of% @AS)/\(type_of% @aaX)/\(type_of% @lz)/\(type_of% @lA)/\(type_of% @AT)/\(type_of% @AU)/\(type_of% @kd)/\(type_of% @fo)/\(type_of% @AV)/\(type_of% @aaY)/\(type_of% @aaZ)/\(type_of% @aa0)/\(type_of% @O7)/\(type_of% @pu)/\(type_of% @aa1)/\(type_of% @aa2)/\(type_of% @aa3)/\(type_of% @aa4)/\(type_of% @abi)/\(type_of% @abj)/\(type_of% @abl)/\(type_of% @abm)/\(type_of% @abk)/\(type_of% @abn)/\(type_of% @abo)/\(type_of% @abp)/\(type_of% @IK)/\(type_of% @ZA)/\(type_of% @abP)/\(type_of% @abQ)/\(type_of% @abR)/\(type_of% @abq)/\(type_of% @abr)/\(type_of% @abt)/\(type_of% @abu)/\(type_of% @abv)/\(type_of% @abw)/\(type_of% @abx)/\(type_of% @aby)/\(type_of% @abz)/\(type_of% @abA)/\(type_of% @abB)/\(type_of% @abC)/\(type_of% @abD)/\(type_of% @abE)/\(type_of% @abF)/\(type_of% @abG)/\(type_of% @abH)/\(type_of% @abI)/\(type_of% @abJ)/\(type_of% @abK)/\(type_of% @abL)/\(type_of% @abM)/\(type_of% @abN)/\(type_of% @abO)/\(type_of% @abS)/\(type_of% @abT)/\(type_of% @abU)/\(type_of% @abV)/\(type_of% @abW)/\(type_of% @abX)/\(type_of% @abY)/\(type_of% @vN)/\(type_of% @Z4)/\(type_of% @Z5)/\(type_of% @Z6)/\(type_of% @Z7)/\(type_of% @ab7)/\(type_of% @ab8)/\(type_of% @ab9)/\(type_of% @ab')/\(type_of% @aca)/\(type_of% @acb)/\(type_of% @acd)/\(type_of% @ace)/\(type_of% @acf)/\(type_of% @acg)/\(type_of% @ach)/\(type_of% @aci)/\(type_of% @acj)/\(type_of% @ack)/\(type_of% @acm)/\(type_of% @acn)/\(type_of% @aco)/\(type_of% @acp)/\(type_of% @acq)/\(type_of% @acr)/\(type_of% @acs)/\(type_of% @acu)/\(type_of% @abZ)/\(type_of% @ab0)/\(type_of% @ab1)/\(type_of% @ab2)/\(type_of% @ab3)/\(type_of% @ab4)/\(type_of% @kQ)/\(type_of% @y7)/\(type_of% @IQ)/\(type_of% @ab5)/\(type_of% @vO)/\(type_of% @xk)/\(type_of% @th)/\(type_of% @ab6):=⟨@gT.{0},@gK.{0},@l0.{0},@k5.{0},@jU.{0,0},@qQ.{0,0},@c7.{0,0},@hj.{0,0},@Option.bind_none.{0,0},@Option.map_none.{0,0},@if_true.{1},@if_false.{1},@decide_true,@decide_false,@mI,@Bool.true_eq_false,@Bool.not_true,@Bool.not_false,@r9,@Bool.true_and,@Bool.and_false,@Bool.false_and,@Bool.or_true,@Bool.true_or,@Bool.or_false,@Bool.false_or,@true_and,@and_true,@false_and,@and_false,@List.take_zero.{0},@List.take_succ_cons.{0},@List.drop_zero.{0},@List.drop_succ_cons.{0},@List.take_nil.{0},@List.drop_nil.{0},@List.set_cons_zero.{0},@List.set_cons_succ.{0},@hk,@Nat.lt_add_one,@bV,@n9,@Zt,@Zu,@O1,@Zv,@O2,@O3,@Zw,@Zx,@Zy,@O4,@ZC,@ZD,@O5,@ZB,@ZE,@ZF,@ZG,@ZH,@ZI,@ZJ,@ZK,@ZL,@ZM,@ZN,@ZO,@ZP,@ZQ,@ZR,@ZS,@ZT,@ZU,@ZV,@ZW,@ZX,@ZZ,@ZY,@Z0,@Z1,@Z2,@Z3,@Z8,@Z9,@Z',@aaa,@aab,@aac,@aad,@aae,@aaf,@aag,@y4,@O6,@aah,@aai,@aaj,@aak,@aal,@aam,@aan,@aao,@aap,@O',@aa7,@aa6,@aa8,@aa9,@aa',@aba,@abb,@abc,@abd,@abf,@abg,@abh,@abe,@wP,@yv,@aaq,@aar,@aas,@aat,@aau,@aav,@aaw,@aax,@aay,@aaz,@aaA,@aaB,@aaC,@aaD,@aaE,@aaF,@aaG,@aaH,@aaI,@aaJ,@aaK,@aaL,@aaM,@hD,@aaN,@pq,@aaO,@aaP,@aaQ,@aaR,@aaS,@aaT,@aaU,@aaV,@aaW,@AR,@AS,@aaX,@lz,@lA,@AT,@AU,@kd,@fo,@AV,@aaY,@aaZ,@aa0,@O7,@pu,@aa1,@aa2,@aa3,@aa4,@abi,@abj,@abl,@abm,@abk,@abn,@abo,@abp,@IK,@ZA,@abP,@abQ,@abR,@abq,@abr,@abt,@abu,@abv,@abw,@abx,@aby,@abz,@abA,@abB,@abC,@abD,@abE,@abF,@abG,@abH,@abI,@abJ,@abK,@abL,@abM,@abN,@abO,@abS,@abT,@abU,@abV,@abW,@abX,@abY,@vN,@Z4,@Z5,@Z6,@Z7,@ab7,@ab8,@ab9,@ab',@aca,@acb,@acd,@ace,@acf,@acg,@ach,@aci,@acj,@ack,@acm,@acn,@aco,@acp,@acq,@acr,@acs,@acu,@abZ,@ab0,@ab1,@ab2,@ab3,@ab4,@kQ,@y7,@IQ,@ab5,@vO,@xk,@th,@ab6⟩
end
def fE(e:aT)(v:I)(es:List (List I)):Prop:=(es=[]/\v= .aF)\/∃id,v= .bR id e es
abbrev jY(l:List Int):List (List I):=l.map λx=>[.int o x]
inductive bk where
 |mk (op k n:Int) (l:List bk)
def bk.op:bk->Int
 |.mk op _ _ _=>op
def bk.k:bk->Int
 |.mk _ k _ _=>k
def bk.n:bk->Int
 |.mk _ _ n _=>n
def bk.l:bk->List bk
 |.mk _ _ _ l=>l
theorem bk.oN{x y:bk}(h:y∈x.l):lB y<lB x:=by
 cases x with
 |mk op k n l=>have:=List.sizeOf_lt_of_mem (show y∈l from h);simp only[bk.mk.sizeOf_spec];omega
mutual
def bk.size:bk->Nat
 |.mk _ _ _ l=>1+eE l
def eE:List bk->Nat
 |[]=>0
 |x::l=>x.size+eE l
end
mutual
def bk.depth:bk->Nat
 |.mk _ _ _ l=>y8 l
def y8:List bk->Nat
 |[]=>0
 |x::l=>max (1+x.depth) (y8 l)
end
theorem bk.size_eq(x:bk):x.size=1+eE x.l:=by cases x;simp[bk.size,bk.l]
theorem bk.acv(x:bk):x.depth=y8 x.l:=by cases x;simp[bk.depth,bk.l]
theorem AY:∀(l bJ:List bk),eE (l++bJ)=eE l+eE bJ
 |[],bJ=>by simp[eE]
 |x::l,bJ=>by simp[eE,AY l bJ,oE]
theorem Pa(x:bk):eE [x]=x.size:=by simp[eE]
theorem bk.size_pos(x:bk):1<=x.size:=by rw[x.size_eq];omega
theorem bk.r'(x:bk):x.l.length<x.size:=by
 have:∀l:List bk,l.length<=eE l:=by
  intro l;induction l with
  |nil=>simp
  |cons y l aW=>have:=y.size_pos;simp only[eE,gT];omega
 have:=this x.l;rw[x.size_eq];omega
theorem bk.n'(x:bk):1<=lB x:=by cases x;simp only[bk.mk.sizeOf_spec];omega
theorem Pb{n:Nat}:∀{l:List bk},y8 l<=n↔∀y∈l,1+y.depth<=n
 |[]=>by simp[y8]
 |x::l=>by have:=Pb (n:=n) (l:=l);simp only[y8,pi,forall_eq_or_imp,<-this];omega
theorem acw(x:bk){left:Int}(ae:0<=left):(!(x.l.any λy=> !decide ((y.depth:Int)<=left - 1)))=decide ((x.depth:Int)<=left):=by
 obtain⟨n,rfl⟩:∃n:Nat,left=n:=⟨left.toNat,by omega⟩;have h:=Pb (n:=n) (l:=x.l);rw[<-x.acv]at h;by_cases an:x.depth<=n
 ·have F:((x.depth:Nat):Int)<=(n:Int):=by omega
  have O:(x.l.any λy=> !decide ((y.depth:Int)<=(n:Int) - 1))=T:=by
   rw[List.any_eq_false];intro y bF;have:=h.1 an y bF;have af:(y.depth:Int)<=(n:Int) - 1:=by omega
   simp[af]
  rw[O];simp[F]
 ·have F:¬((x.depth:Nat):Int)<=(n:Int):=by omega
  have O:(x.l.any λy=> !decide ((y.depth:Int)<=(n:Int) - 1))=Q:=by
   cases ai:(x.l.any λy=> !decide ((y.depth:Int)<=(n:Int) - 1))
   ·exfalso;apply an;apply h.2;intro y bF;have:=(List.any_eq_false.1 ai) y bF;simp at this;omega
   ·rfl
  rw[O];simp[F]
def bv(op:Int):Int:=
 if op=1\/op=2\/op=3\/op=4\/op=21 then 0
 else if op=9\/op=10\/op=11\/op=12\/op=13\/op=15\/op=16\/op=17\/op=18\/op=20 then 1
 else if op=5\/op=6\/op=8\/op=14\/op=19 then 2
 else if op=7 then 3 else -1
def rh(cL op k n E:Int):Int:=
 if n≠0/\op≠2 then 5
 else if op=4 then(if k<0\/E<=k then 1 else 0)
 else if op=6 then(if k<1\/5<k then 1 else 0)
 else if op=15 then(if k<0\/15<k then 1 else 0)
 else if op=18 then(if k<0\/cL<=k then 1 else 0)
 else if k≠0 then 5 else 0
def ti(cL op k n:Int)(len:Nat)(E:Int):Int:=
 if bv op<0 then 2 else if(len:Int)≠bv op then 5
 else if rh cL op k n E≠0 then rh cL op k n E
 else if op=5/\E=12 then 3 else 0
mutual
def bk.fault(cL:Int):bk->Int->Int
 |.mk op k n l,E=>if ti cL op k n l.length E≠0 then ti cL op k n l.length E else qb cL op 0 l E
def qb(cL op:Int):Nat->List bk->Int->Int
 |_,[],_=>0
 |i,x::l,E=>if x.fault cL (if op=5/\i=1 then E+1 else E)≠0 then x.fault cL (if op=5/\i=1 then E+1 else E)else qb cL op (i+1) l E
end
def qc(cL:Int)(x:bk):Int:=if 30<x.depth then 4 else if 120<x.size then 3 else x.fault cL 0
def tj(cL:Int):Nat->List bk->Int×Int
 |_,[]=>(0,0)
 |i,x::l=>if qc cL x≠0 then(qc cL x,i)else tj cL (i+1) l
def hE(l:List bk):Int×Int:=if l.length=0\/6<l.length then(3, -1)else tj l.length 0 l
def pr(l:List bk):Bool:=decide (20<l.length)||l.any λx=>decide (600<x.size)
abbrev hu:aT:=46
mutual
def i5:bk->List I->Prop
 |.mk op k n l,r=>∃v es,r=[.int o op,.int o k,.int o n,v]/\fE hu v es/\ih l es
def ih:List bk->List (List I)->Prop
 |[],es=>es=[]
 |x::l,es=>∃r rs,es=r::rs/\i5 x r/\ih l rs
end
structure cD where
 op:Int
 k:Int
 n:Int
def jZ:List (Nat->List cD)->Nat->List cD
 |[],_=>[]
 |f::cP,p=>f p++jZ cP (p+(f p).length)
def IS(f0 f1:Nat->List cD)(p:Nat):List cD:=⟨100,0,0⟩::(f0 (p+1)++⟨101,0,0⟩::(f1 (p+1+(f0 (p+1)).length+1)++[⟨102,0,0⟩]))
def oa(f0 f1:Nat->List cD)(p:Nat):Nat:=p+1+(f0 (p+1)).length+1+(f1 (p+1+(f0 (p+1)).length+1)).length+1
def IT(f0 f1 f2:Nat->List cD)(p:Nat):List cD:=⟨100,0,0⟩::(f0 (p+1)++⟨103,(oa f0 f1 p:Nat),0⟩::(f1 (p+1+(f0 (p+1)).length+1)++⟨104,((oa f0 f1 p+(f2 (oa f0 f1 p)).length:Nat):Int),0⟩::f2 (oa f0 f1 p)))
def sa(op k n:Int)(cP:List (Nat->List cD))(p:Nat):List cD:=
 if op=5 then(match cP with|[f0,f1]=>IS f0 f1 p|_=>[])
 else if op=7 then(match cP with|[f0,f1,f2]=>IT f0 f1 f2 p|_=>[])
 else⟨100,0,0⟩::(jZ cP (p+1)++[⟨op,k,n⟩])
mutual
def ce:bk->Nat->List cD
 |.mk op k n l=>sa op k n (AZ l)
def AZ:List bk->List (Nat->List cD)
 |[]=>[]
 |x::l=>ce x::AZ l
end
theorem acx(x:bk):ce x=sa x.op x.k x.n (AZ x.l):=by cases x;simp only[ce,bk.op,bk.k,bk.n,bk.l]
open Classical in
theorem Pc:∀l:List bk,AZ l=l.map ce
 |[]=>rfl
 |x::l=>by simp only[AZ,jU,Pc l]
theorem y9(x:bk):ce x=sa x.op x.k x.n (x.l.map ce):=by rw[acx,Pc]
theorem IU:∀(l:List bk) (p:Nat),(∀y∈l,∀p,(ce y p).length<=3*y.size)->(jZ (l.map ce) p).length<=3*eE l
 |[],p,_=>by simp[jZ]
 |x::l,p,h=>by have F:=h x (by simp) p;have O:=IU l (p+(ce x p).length) λy bF=>h y (by simp[bF]);simp only[jU,jZ,eP,eE];omega
theorem uy:∀(N:Nat) (x:bk),lB x<=N->∀p:Nat,(ce x p).length<=3*x.size:=by
 intro N;induction N with
 |zero=>intro x an;have:=x.n';omega
 |succ N aW=>
   intro x an p;have aj:∀y∈x.l,∀p,(ce y p).length<=3*y.size:=λy bF=>aW y (by have:=bk.oN bF;omega);have av:=x.size_eq;rw[y9];generalize x.l=l at aj av;unfold sa;split
   ·match l,aj,av with
    |[],_,_=>simp
    |[a],_,_=>simp
    |[a,b],aj,av=>have F:=aj a (by simp) (p+1);have O:=aj b (by simp) (p+1+(ce a (p+1)).length+1);simp only[eE]at av;simp only[jU,qQ,IS,gT,eP,gK];have:=a.size_pos;omega
    |a::b::c::l,_,_=>simp
   ·split
    ·match l,aj,av with
     |[],_,_=>simp
     |[a],_,_=>simp
     |[a,b],_,_=>simp
     |[a,b,c],aj,av=>have F:=aj a (by simp) (p+1);have O:=aj b (by simp) (p+1+(ce a (p+1)).length+1);have af:=aj c (by simp) (oa (ce a) (ce b) p);simp only[eE]at av;simp only[jU,qQ,IT,gT,eP];omega
     |a::b::c::d::l,_,_=>simp
    ·have:=IU l (p+1) aj;simp only[gT,eP,gK];omega
theorem IV{cL E:Int}{x:bk}(h:x.fault cL E=0):0<=bv x.op/\(x.l.length:Int)=bv x.op/\rh cL x.op x.k x.n E=0/\¬(x.op=5/\E=12)/\qb cL x.op 0 x.l E=0:=by
 cases x with
 |mk op k n l=>
   simp only[bk.fault]at h;split at h
   ·rename_i F;exact absurd h F
   ·rename_i F;have F:ti cL op k n l.length E=0:=by simpa using F
    unfold ti at F;split at F
    ·cases F
    ·split at F
     ·cases F
     ·split at F
      ·rename_i O;exact absurd F O
      ·split at F
       ·cases F
       ·rename_i a b c d;simp only[bk.op,bk.k,bk.n,bk.l];exact⟨by omega,by simpa using b,by simpa using c,d,h⟩
theorem A0{cL op E:Int}{i:Nat}{x:bk}{l:List bk}(h:qb cL op i (x::l) E=0):x.fault cL (if op=5/\i=1 then E+1 else E)=0/\qb cL op (i+1) l E=0:=by
 simp only[qb]at h;generalize x.fault cL (if op=5/\i=1 then E+1 else E)=c at h;by_cases aj:c=0
 ·exact⟨aj,by simpa[aj]using h⟩
 ·simp[aj]at h
theorem Ee{cL op E:Int}(ib:op≠5):∀{l:List bk} {i:Nat},qb cL op i l E=0->∀y∈l,y.fault cL E=0
 |[],_,_,y,bF=>by simp at bF
 |x::l,i,h,y,bF=>by
   obtain⟨F,O⟩:=A0 h;rw[if_neg (λh=>ib h.1)]at F;rcases pi.1 bF with rfl|bF
   ·exact F
   ·exact Ee ib O y bF
inductive ak where
 |mk (kind n:Int) (l:List ak)
def ak.kind:ak->Int
 |.mk k _ _=>k
def ak.n:ak->Int
 |.mk _ n _=>n
def ak.l:ak->List ak
 |.mk _ _ l=>l
theorem ak.eta(x:ak):x= .mk x.kind x.n x.l:=by cases x;rfl
theorem ak.oN{x y:ak}(h:y∈x.l):lB y<lB x:=by
 cases x with
 |mk kind n l=>have:=List.sizeOf_lt_of_mem (show y∈l from h);simp only[ak.mk.sizeOf_spec];omega
theorem ak.n'(x:ak):1<=lB x:=by cases x;simp only[ak.mk.sizeOf_spec];omega
mutual
def ak.size:ak->Nat
 |.mk _ _ l=>1+hU l
def hU:List ak->Nat
 |[]=>0
 |x::l=>x.size+hU l
end
theorem ak.size_eq(x:ak):x.size=1+hU x.l:=by cases x;simp[ak.size,ak.l]
theorem Ef:∀(l bJ:List ak),hU (l++bJ)=hU l+hU bJ
 |[],bJ=>by simp[hU]
 |x::l,bJ=>by simp[hU,Ef l bJ,oE]
theorem acy(x:ak):hU [x]=x.size:=by simp[hU]
theorem ak.size_pos(x:ak):1<=x.size:=by rw[x.size_eq];omega
theorem IW:∀l:List ak,l.length<=hU l
 |[]=>by simp
 |y::l=>by have:=y.size_pos;have:=IW l;simp only[hU,gT];omega
theorem ak.r'(x:ak):x.l.length<x.size:=by have:=IW x.l;rw[x.size_eq];omega
theorem ak.sb{x y:ak}(h:y∈x.l):y.size<x.size:=by
 have:∀l:List ak,y∈l->y.size<=hU l:=by
  intro l;induction l with
  |nil=>intro hm;simp at hm
  |cons z l aW=>
    intro hm;simp only[hU];rcases pi.1 hm with rfl|hm
    ·omega
    ·have:=aW hm;omega
 have:=this x.l h;rw[x.size_eq];omega
def oO(kind:Int):Nat:=if kind=2 then 2 else if kind=3 then 1 else 0
def iU(kind n:Int)(len:Nat):Int:=
 if kind<0\/5<kind then 2 else if len≠oO kind then 5 else if(kind=0\/kind=2)/\n≠0 then 5 else if 3<=kind/\n<0 then 1 else 0
mutual
def ak.fault:ak->Int
 |.mk kind n l=>if iU kind n l.length≠0 then iU kind n l.length else mq l
def mq:List ak->Int
 |[]=>0
 |x::l=>if x.fault≠0 then x.fault else mq l
end
def ak.code(x:ak):Int:=if 40<x.size then 3 else x.fault
theorem ak.Eg(x:ak):x.fault=if iU x.kind x.n x.l.length≠0 then iU x.kind x.n x.l.length else mq x.l:=by cases x;rfl
theorem xl(x:ak)(l:List ak):mq (x::l)=if x.fault≠0 then x.fault else mq l:=rfl
mutual
def tk:ak->ak->Bool
 |.mk k n l,.mk cn bS bJ=>decide (k=cn)&&(decide (n=bS)&&ob l bJ)
def ob:List ak->List ak->Bool
 |[],[]=>Q
 |x::l,y::bJ=>tk x y&&ob l bJ
 |_,_=>T
end
mutual
theorem Pd:∀x:ak,tk x x=Q
 |.mk kind n l=>by simp[tk,Pe l]
theorem Pe:∀l:List ak,ob l l=Q
 |[]=>rfl
 |x::l=>by simp[ob,Pd x,Pe l]
end
mutual
theorem acz:∀{x y:ak},tk x y=Q->x=y
 |.mk k n l,.mk cn bS bJ,h=>by simp only[tk,gS,decide_eq_true_eq]at h;obtain⟨rfl,rfl,h⟩:=h;rw[IX h]
theorem IX:∀{l bJ:List ak},ob l bJ=Q->l=bJ
 |[],[],_=>rfl
 |x::l,y::bJ,h=>by simp only[ob,gS]at h;rw[acz h.1,IX h.2]
 |[],_::_,h=>by simp[ob]at h
 |_::_,[],h=>by simp[ob]at h
end
theorem acA{l bJ:List ak}(h:decide ((l.length:Int)=(bJ.length:Int))=T):ob l bJ=T:=by
 cases av:ob l bJ
 ·rfl
 ·rw[IX av]at h;simp at h
theorem acB(x y:ak):tk x y=(decide (x.kind=y.kind)&&(decide (x.n=y.n)&&ob x.l y.l)):=by cases x;cases y;rfl
mutual
def ak.ij:ak->List Int
 |.mk kind n l=>(if kind=4 then[n]else[])++oc l
def oc:List ak->List Int
 |[]=>[]
 |x::l=>x.ij++oc l
end
theorem ak.acC(x:ak):x.ij=(if x.kind=4 then[x.n]else[])++oc x.l:=by cases x;rfl
theorem Pf:∀(l bJ:List ak),oc (l++bJ)=oc l++oc bJ
 |[],bJ=>by simp[oc]
 |x::l,bJ=>by simp[oc,Pf l bJ,kv]
mutual
theorem ak.IY:∀x:ak,x.ij.length<=x.size
 |.mk kind n l=>by have:=IZ l;simp only[ak.ij,ak.size,eP];split<;>simp<;>omega
theorem IZ:∀l:List ak,(oc l).length<=hU l
 |[]=>by simp[oc]
 |x::l=>by have:=ak.IY x;have:=IZ l;simp only[oc,hU,eP];omega
end
mutual
def ak.gate:ak->Bool
 |.mk kind _ l=>decide (kind=5)||y' l
def y':List ak->Bool
 |[]=>T
 |x::l=>x.gate||y' l
end
theorem ak.acD(x:ak):x.gate=(decide (x.kind=5)||y' x.l):=by cases x;rfl
theorem Pg:∀l:List ak,y' l=l.any ak.gate
 |[]=>rfl
 |x::l=>by simp only[y',List.any_cons,Pg l]
abbrev cg:aT:=29
mutual
def b1:ak->List I->Prop
 |.mk kind n l,r=>∃v es,r=[.int o kind,.int o n,v]/\fE cg v es/\eF l es
def eF:List ak->List (List I)->Prop
 |[],es=>es=[]
 |x::l,es=>∃r rs,es=r::rs/\b1 x r/\eF l rs
end
open Go.RowKit
theorem acE(x:BitVec 64):o.wrap (x.toNat:Int)=x.toInt:=by have h:=x.isLt;rw[BitVec.toInt_eq_toNat_cond,IntKind.wrap_i64];split<;>omega
theorem I0(a b:Int):bits .and o a b=(nU 64 a&&& nU 64 b).toInt:=acE _
theorem Eh(x:BitVec 64):nU 64 x.toInt=x:=BitVec.ofInt_toInt
def ri(a b:Int):Int:=bits .and o a b
def za(a b:Int):Bool:=ri a b==b
theorem acF(x y:BitVec 64):ri x.toInt y.toInt=(x&&& y).toInt:=by unfold ri;rw[I0,Eh,Eh]
theorem Ph(x y:BitVec 64):za x.toInt y.toInt=decide (x&&& y=y):=by unfold za;rw[acF,Bool.eq_iff_iff,beq_iff_eq,BitVec.toInt_inj,decide_eq_true_eq]
def uz(a:Int):Bool:=decide (0<=a/\a<=15)
def iV(a:Int)(i:Nat):Bool:=bits .and o (a / 2 ^ i) 1==1
open Go.RowKit
structure er where
 (parent gate et cell bw func:Int)
def ik:er:=⟨0,0,0,0,0,0⟩
structure aC where
 nodes:List er
 shut:List Bool
def aC.has(G:aC)(n:Int):Bool:=decide (0<=n/\n<G.nodes.length)
def aC.gb(G:aC)(k:Int):Bool:=decide (0<=k/\k<G.shut.length)
def aC.zb(G:aC)(k:Int):Bool:=G.gb k&& !(G.shut.getD k.toNat T)
def aC.gate(G:aC):aC×Int×Int:=if G.shut.length=20 then(G,0,11)else(⟨G.nodes,G.shut++[T]⟩,G.shut.length,0)
def aC.cut(G:aC)(k:Int):aC×Int:=if G.gb k then(⟨G.nodes,G.shut.set k.toNat Q⟩,0)else(G,8)
def aC.add(G:aC)(n:er):aC×Int×Int:=
 if uz n.et=T then(G,0,1)
 else if n.gate≠ -1/\G.gb n.gate=T then(G,0,8)
 else if G.nodes.length=80 then(G,0,11)
 else(⟨G.nodes++[n],G.shut⟩,G.nodes.length,0)
def mV(c:Int):Bool:=decide (0<=c/\c<12)
def A1(p f:Int):Bool:=decide (0<=p/\p<4/\0<=f/\f<6)
def aC.eh(G:aC)(c r g:Int):aC×Int×Int:=if mV c then G.add ⟨-1,g,r,c, -1,0⟩else(G,0,1)
def aC.l1(G:aC)(p f r g:Int):aC×Int×Int:=if A1 p f then G.add ⟨-1,g,r,0,p,f⟩else(G,0,1)
def aC.derive(G:aC)(p r g:Int):aC×Int×Int:=if G.has p then G.add ⟨p,g,r,0, -1,0⟩else(G,0,8)
structure zc(s:Nat)(i:Nat)(n:er):Prop where
 gN: -1<=n.parent
 ed:n.parent<i
 r:uz n.et=Q
 g:n.gate= -1\/0<=n.gate/\n.gate<s
 t:n.parent= -1->n.bw= -1/\0<=n.cell/\n.cell<12/\n.func=0\/0<=n.bw/\n.bw<4/\0<=n.func/\n.func<6/\n.cell=0
structure aC.cz(G:aC):Prop where
 ps:G.nodes.length<=80
 ec:G.shut.length<=20
 node:∀(i:Nat) (n:er),G.nodes[i]? =j n->zc G.shut.length i n
theorem zc.more{s dW i:Nat}{n:er}(h:zc s i n)(av:s<=dW):zc dW i n:=⟨h.gN,h.ed,h.r,h.g.imp id (λ⟨a,b⟩=>⟨a,by omega⟩),h.t⟩
theorem acG:aC.cz ⟨[],[]⟩:=⟨by simp,by simp,λi n h=>by simp at h⟩
theorem aC.cz.gate{G:aC}(h:G.cz):G.gate.1.cz:=by
 unfold aC.gate;split
 ·exact h
 ·have:=h.ec;exact⟨h.ps,by simp;omega,λi n au=>(h.node i n au).more (by simp)⟩
theorem aC.cz.cut{G:aC}(h:G.cz)(k:Int):(G.cut k).1.cz:=by
 unfold aC.cut;split
 ·exact⟨h.ps,by simpa using h.ec,λi n au=>by simpa using h.node i n au⟩
 ·exact h
theorem aC.cz.add{G:aC}(h:G.cz){n:er}(ae: -1<=n.parent)(F:n.parent<G.nodes.length)(aL:n.parent= -1->n.bw= -1/\0<=n.cell/\n.cell<12/\n.func=0\/0<=n.bw/\n.bw<4/\0<=n.func/\n.func<6/\n.cell=0):(G.add n).1.cz:=by
 unfold aC.add;split
 ·exact h
 ·rename_i ah;split
  ·exact h
  ·rename_i aX;split
   ·exact h
   ·have:=h.ps;refine⟨by simp;omega,h.ec,λi m hm=>?_⟩;show zc G.shut.length i m;simp only at hm;by_cases aa:i<G.nodes.length
    ·rw[mJ aa]at hm;exact h.node i m hm
    ·rw[pY (by omega)]at hm;have gh:i - G.nodes.length=0:=by have:=(gg.1 hm).1;simpa using this
     rw[gh]at hm;simp at hm;subst hm;refine⟨ae,by omega,by simpa using ah,?_,aL⟩;by_cases e:n.gate= -1
     ·exact .inl e
     ·right;have fr:G.gb n.gate=Q:=by
       cases bP:G.gb n.gate
       ·exact absurd ⟨e,bP⟩ aX
       ·rfl
      simpa[aC.gb]using fr
theorem aC.cz.eh{G:aC}(h:G.cz)(c r g:Int):(G.eh c r g).1.cz:=by
 unfold aC.eh;split
 ·rename_i aj;simp[mV]at aj;exact h.add (by simp) (by simp;omega) (λ_=>.inl ⟨rfl,aj.1,aj.2,rfl⟩)
 ·exact h
theorem aC.cz.l1{G:aC}(h:G.cz)(p f r g:Int):(G.l1 p f r g).1.cz:=by
 unfold aC.l1;split
 ·rename_i aj;simp[A1]at aj;exact h.add (by simp) (by simp;omega) (λ_=>.inr ⟨aj.1,aj.2.1,aj.2.2.1,aj.2.2.2,rfl⟩)
 ·exact h
theorem aC.cz.derive{G:aC}(h:G.cz)(p r g:Int):(G.derive p r g).1.cz:=by
 unfold aC.derive;split
 ·rename_i aj;simp[aC.has]at aj;exact h.add (by simp;omega) (by simp;omega) (λe=>by simp at e;omega)
 ·exact h
def aC.mr(G:aC):Nat->Int->List er
 |0,_=>[]
 |f+1,i=>if G.has i then(G.nodes.getD i.toNat ik)::G.mr f (G.nodes.getD i.toNat ik).parent else[]
def aC.path(G:aC)(i:Int):List er:=G.mr (i.toNat+1) i
theorem aC.cz.get{G:aC}(h:G.cz){i:Int}(aa:G.has i=Q):zc G.shut.length i.toNat (G.nodes.getD i.toNat ik):=by
 simp[aC.has]at aa;have al:i.toNat<G.nodes.length:=by omega
 have e:G.nodes[i.toNat]? =j (G.nodes.getD i.toNat ik):=by simp[cK,al]
 exact h.node _ _ e
theorem aC.acH{G:aC}(h:G.cz):∀(f:Nat) (i:Int),i.toNat<f->G.mr f i=G.path i:=by
 intro f;induction f using Nat.strongRecOn with
 |_ f aW=>
   intro i aa;cases f with
   |zero=>omega
   |succ f=>
     unfold aC.path;by_cases bP:G.has i=Q
     ·have ok:=h.get bP;have aB:=ok.gN;have rb:=ok.ed;have gh:0<=i:=by simp[aC.has]at bP;exact bP.1
      unfold aC.mr;rw[if_pos bP,if_pos bP];congr 1;generalize (G.nodes.getD i.toNat ik).parent=p at*;by_cases IH:p<0
      ·have n3:G.has p=T:=by simp[aC.has];omega
       cases f with
       |zero=>cases au:i.toNat<;>simp[aC.mr,n3]
       |succ f=>cases au:i.toNat<;>simp[aC.mr,n3]
      ·have ao:=aW f (by omega) p (by omega);rw[ao];rcases mc i.toNat (f+1)with O|O
       ·have aq:=aW i.toNat (by omega) p (by omega);rw[aq]
       ·omega
     ·cases f<;>simp[aC.mr,bP]
theorem aC.xm{G:aC}(h:G.cz){i:Int}(aa:G.has i=Q):G.path i=(G.nodes.getD i.toNat ik)::G.path (G.nodes.getD i.toNat ik).parent:=by
 have ok:=h.get aa;have rb:=ok.ed;have xn:=ok.gN;have gh:0<=i:=by simp[aC.has]at aa;exact aa.1
 rw[aC.path,aC.mr,if_pos aa];congr 1;generalize (G.nodes.getD i.toNat ik).parent=p at*;by_cases IH:p<0
 ·have n3:G.has p=T:=by simp[aC.has];omega
  unfold aC.path;cases i.toNat<;>simp[aC.mr,n3]
 ·exact aC.acH h _ _ (by omega)
theorem aC.tl{G:aC}{i:Int}(aa:G.has i=T):G.path i=[]:=by rw[aC.path,aC.mr,aa];rfl
def od(G:aC)(n:er):Bool:=decide (0<=n.gate)&& !G.zb n.gate
def aC.et(G:aC)(i:Int):Int:=if G.path i=[]\/(G.path i).any (od G)then 0 else(G.path i).foldl (λr n=>ri r n.et) 15
def aC.target(G:aC)(i:Int):er×Bool:=((G.path i).getLastD ik,!(G.path i).isEmpty)
def pt(l:List er):List Int:=(l.filter λn=>decide (0<=n.gate)).map (·.gate)
def aC.uA(G:aC)(i:Int):List Int:=pt (G.path i)
def dS(n:er):List I:=[.int o n.parent,.int o n.gate,.int o n.et,.int o n.cell,.int o n.bw,.int o n.func]
abbrev iB:aT:=103
abbrev oe:aT:=4
def uB(h:ad)(ap:Nat->Prop)(e:aT)(v:I)(rows:List (List I)):Prop:=(rows=[]/\v= .aF)\/∃id,ap id/\rows≠[]/\id<h.ids/\h.hw id=rows.length/\v= .bR (j id) e rows
def uC(h:ad)(ag:Nat->Prop)(b:Nat)(e:aT)(v:I)(rows:List (List I)):Prop:=(rows=[]/\v= .aF)\/∃q,ag q/\q≠b/\q<h.n/\h.cell q=j rows/\v= .bd q 0 rows.length e
structure fO(h:ad)(ag ap:Nat->Prop)(b:Nat)(G:aC):Prop where
 ai:ag b/\b<h.n
 lt:(∀k,ag k->k<h.n)/\∀D,ap D->D<h.ids
 ex:∃aI dv,h.cell b=j [[aI,dv]]/\uB h ap iB aI (G.nodes.map dS)/\uC h ag b oe dv (G.shut.map λx=>[.bool x])
structure lc(ag ap:Nat->Prop)(h J:ad):Prop where
 n:h.n<=J.n
 ids:h.ids<=J.ids
 cell:∀k,k<h.n->¬ag k->J.cell k=h.cell k
 hw:∀D,D<h.ids->¬ap D->J.hw D=h.hw D
def hF(h:ad)(ag ap:Nat->Prop)(b:Nat)(J:ad)(cU:aC):Prop:=∃ke kf,fO J ke kf b cU/\lc ag ap h J/\(∀k,ke k->ag k\/h.n<=k)/\(∀D,kf D->ap D\/h.ids<=D)
def l2:List Int->aC->Int->aC×Int×Int
 |[],G,n=>(G,n,0)
 |k::l,G,n=>if(G.derive n 15 k).2.2≠0 then((G.derive n 15 k).1,0,(G.derive n 15 k).2.2)else l2 l (G.derive n 15 k).1 (G.derive n 15 k).2.1
def bE:ak:=.mk 0 0 []
def jm(aZ:List Int)(G:aC)(kind n:Int):aC×Int×Int:=if kind=4 then l2 aZ G n else(G,n,0)
mutual
def d9(aZ:List Int):ak->aC->aC×ak×Int
 |.mk kind n l,G=>
   if(jm aZ G kind n).2.2≠0 then((jm aZ G kind n).1,bE,(jm aZ G kind n).2.2)
   else if(gX aZ l (jm aZ G kind n).1).2.2≠0 then((gX aZ l (jm aZ G kind n).1).1,bE,(gX aZ l (jm aZ G kind n).1).2.2)
   else((gX aZ l (jm aZ G kind n).1).1,.mk kind (jm aZ G kind n).2.1 (gX aZ l (jm aZ G kind n).1).2.1,0)
def gX(aZ:List Int):List ak->aC->aC×List ak×Int
 |[],G=>(G,[],0)
 |x::l,G=>
   if(d9 aZ x G).2.2≠0 then((d9 aZ x G).1,[],(d9 aZ x G).2.2)
   else((gX aZ l (d9 aZ x G).1).1,(d9 aZ x G).2.1::(gX aZ l (d9 aZ x G).1).2.1,(gX aZ l (d9 aZ x G).1).2.2)
end
theorem Pj(aZ:List Int)(x:ak)(G:aC):d9 aZ x G=if(jm aZ G x.kind x.n).2.2≠0 then((jm aZ G x.kind x.n).1,bE,(jm aZ G x.kind x.n).2.2) else if(gX aZ x.l (jm aZ G x.kind x.n).1).2.2≠0 then((gX aZ x.l (jm aZ G x.kind x.n).1).1,bE,(gX aZ x.l (jm aZ G x.kind x.n).1).2.2) else((gX aZ x.l (jm aZ G x.kind x.n).1).1,.mk x.kind (jm aZ G x.kind x.n).2.1 (gX aZ x.l (jm aZ G x.kind x.n).1).2.1,0):=by cases x;rfl
def sc(G:aC)(x:ak):Int:=
 if x.code≠0 then x.code else if x.gate then 9 else if x.ij.any λn=> !iV (G.et n) 2 then 9 else 0
def iM(aZ:List Int)(G:aC)(x:ak):aC×ak×Int:=if sc G x≠0 then(G,bE,sc G x)else d9 aZ x G
theorem Pk(aZ:List Int):∀(G:aC) (n:Int),G.cz->(l2 aZ G n).1.cz:=by
 induction aZ with
 |nil=>intro G n h;exact h
 |cons k l aW=>
   intro G n h;simp only[l2];split
   ·exact h.derive _ _ _
   ·exact aW _ _ (h.derive _ _ _)
theorem I1{G:aC}{kind n:Int}(h:G.cz):(jm aZ G kind n).1.cz:=by
 unfold jm;split
 ·exact Pk aZ G n h
 ·exact h
mutual
theorem Ei(aZ:List Int):∀(x:ak) (G:aC),G.cz->(d9 aZ x G).1.cz
 |.mk kind n l,G,h=>by
   simp only[d9];split
   ·exact I1 h
   ·split
    ·exact I2 aZ l _ (I1 h)
    ·exact I2 aZ l _ (I1 h)
theorem I2(aZ:List Int):∀(l:List ak) (G:aC),G.cz->(gX aZ l G).1.cz
 |[],G,h=>h
 |x::l,G,h=>by
   simp only[gX];split
   ·exact Ei aZ x G h
   ·exact I2 aZ l _ (Ei aZ x G h)
end
theorem Pl{G:aC}{x:ak}(h:G.cz):(iM aZ G x).1.cz:=by
 unfold iM;split
 ·exact h
 ·exact Ei aZ x G h
theorem lc.refl(ag ap:Nat->Prop)(h:ad):lc ag ap h h:=⟨bV _,bV _,λ_ _ _=>rfl,λ_ _ _=>rfl⟩
theorem aK.tm{h J:ad}(g:aK h J)(ag ap:Nat->Prop):lc ag ap h J:=⟨g.n,g.ids,λk Z _=>g.cell k Z,λD U _=>g.hw D U⟩
theorem lc.trans{ag ap:Nat->Prop}{a b c:ad}(x:lc ag ap a b)(y:lc ag ap b c):lc ag ap a c:=⟨ef x.n y.n,ef x.ids y.ids,λk Z cR=>(y.cell k (eL Z x.n) cR).trans (x.cell k Z cR),λD U fD=>(y.hw D (eL U x.ids) fD).trans (x.hw D U fD)⟩
theorem lc.then{ag ap ke kf:Nat->Prop}{a b c:ad}(x:lc ag ap a b)(y:lc ke kf b c)(cR:∀k,ke k->ag k\/a.n<=k)(fD:∀D,kf D->ap D\/a.ids<=D):lc ag ap a c:=⟨ef x.n y.n,ef x.ids y.ids,
  λk Z F=>(y.cell k (eL Z x.n) λO=>by rcases cR k O with h|h;exact F h;omega).trans (x.cell k Z F),
  λD U F=>(y.hw D (eL U x.ids) λO=>by rcases fD D O with h|h;exact F h;omega).trans (x.hw D U F)⟩
theorem fO.fH{h J:ad}{ag ap dQ dT:Nat->Prop}{b:Nat}{G:aC}(g:fO h ag ap b G)(c:lc dQ dT h J)(cR:∀k,ag k->¬dQ k)(fD:∀D,ap D->¬dT D):fO J ag ap b G:=by
 obtain⟨aI,dv,F,O,af⟩:=g.ex;refine⟨⟨g.ai.1,eL g.ai.2 c.n⟩,⟨λk Z=>eL (g.lt.1 k Z) c.n,λD U=>eL (g.lt.2 D U) c.ids⟩,aI,dv,(c.cell b g.ai.2 (cR b g.ai.1)).trans F,?_,?_⟩
 ·rcases O with O|⟨id,aJ,hT,a1,bf,cv⟩
  ·exact .inl O
  ·exact .inr ⟨id,aJ,hT,eL a1 c.ids,(c.hw id a1 (fD id aJ)).trans bf,cv⟩
 ·rcases af with af|⟨q,aJ,a1,bf,cv,ez⟩
  ·exact .inl af
  ·exact .inr ⟨q,aJ,a1,eL bf c.n,(c.cell q bf (cR q aJ)).trans cv,ez⟩
structure cd where
 A:ad->(Nat->Prop)->(Nat->Prop)->Prop
 lt:∀{h:ad} {ag ap:Nat->Prop},A h ag ap->(∀k,ag k->k<h.n)/\∀D,ap D->D<h.ids
 fH:∀{h J:ad} {ag ap X Y:Nat->Prop},A h ag ap->lc X Y h J->(∀k,ag k->¬X k)->(∀D,ap D->¬Y D)->A J ag ap
def uD(p:Prop):cd where
 A _ ag ap:=p/\(∀k,¬ag k)/\∀D,¬ap D
 lt:=λ⟨_,a,b⟩=>⟨λk Z=>absurd Z (a k),λD U=>absurd U (b D)⟩
 fH:=λh _ _ _=>h
def a9(b:Nat)(es:List (List I)):cd where
 A h ag ap:=(∀k,ag k↔k=b)/\(∀D,¬ap D)/\b<h.n/\h.cell b=j es
 lt:=λ⟨a,b,c,_⟩=>⟨λk Z=>by rw[(a k).1 Z];exact c,λD U=>absurd U (b D)⟩
 fH:=λ⟨a,b,c,d⟩ x cR _=>⟨a,b,eL c x.n,(x.cell _ c (cR _ ((a _).2 rfl))).trans d⟩
def A2(id n:Nat):cd where
 A h ag ap:=(∀k,¬ag k)/\(∀D,ap D↔D=id)/\id<h.ids/\h.hw id=n
 lt:=λ⟨a,b,c,_⟩=>⟨λk Z=>absurd Z (a k),λD U=>by rw[(b D).1 U];exact c⟩
 fH:=λ⟨a,b,c,d⟩ x _ fD=>⟨a,b,eL c x.ids,(x.hw _ c (fD _ ((b _).2 rfl))).trans d⟩
def hv(X Y:cd):cd where
 A h ag ap:=∃eQ eR dQ dT,X.A h eQ eR/\Y.A h dQ dT/\(∀k,ag k↔eQ k\/dQ k)/\(∀D,ap D↔eR D\/dT D)/\(∀k,eQ k->¬dQ k)/\(∀D,eR D->¬dT D)
 lt:=λ⟨eQ,eR,dQ,dT,x,y,cR,fD,_,_⟩=>⟨λk Z=>((cR k).1 Z).elim ((X.lt x).1 k) ((Y.lt y).1 k),λD U=>((fD D).1 U).elim ((X.lt x).2 D) ((Y.lt y).2 D)⟩
 fH:=λ⟨eQ,eR,dQ,dT,x,y,cR,fD,pv,pw⟩ c sd se=>
  ⟨eQ,eR,dQ,dT,X.fH x c (λk Z=>sd k ((cR k).2 (.inl Z))) (λD U=>se D ((fD D).2 (.inl U))),Y.fH y c (λk Z=>sd k ((cR k).2 (.inr Z))) (λD U=>se D ((fD D).2 (.inr U))),cR,fD,pv,pw⟩
def vP{α:Type}(X:α->cd):cd where
 A h ag ap:=∃a,(X a).A h ag ap
 lt:=λ⟨a,x⟩=>(X a).lt x
 fH:=λ⟨a,x⟩ c sd se=>⟨a,(X a).fH x c sd se⟩
def Pm(X Y:cd):cd where
 A h ag ap:=X.A h ag ap\/Y.A h ag ap
 lt:=λh=>h.elim X.lt Y.lt
 fH:=λh c sd se=>h.imp (λx=>X.fH x c sd se) (λy=>Y.fH y c sd se)
def zd(p:Prop)(X:cd):cd where
 A h ag ap:=p/\X.A h ag ap
 lt:=λh=>X.lt h.2
 fH:=λh c sd se=>⟨h.1,X.fH h.2 c sd se⟩
def hM(b:Nat)(G:aC):cd where
 A h ag ap:=fO h ag ap b G
 lt:=λg=>g.lt
 fH:=λg c sd se=>g.fH c sd se
def c4:List cd->cd
 |[]=>uD True
 |X::L=>hv X (c4 L)
def gx(h:ad)(ag ap:Nat->Prop)(J:ad)(X:cd):Prop:=∃ke kf,X.A J ke kf/\lc ag ap h J/\(∀k,ke k->ag k\/h.n<=k)/\(∀D,kf D->ap D\/h.ids<=D)
structure oP where
 (bw cell right node:Int)
structure bp where
 G:aC
 cells:List Int
 log:List oP
 kept:List ak
 left:Nat
abbrev dz:=List (Option (List bk))
def il:bk:=.mk 0 0 0 []
def iC(n:Int):ak:=.mk 1 n []
def jO(n:Int):ak:=.mk 4 n []
def hG(ms:dz)(p:Int):List bk:=(ms.getD p.toNat ab).getD []
def fp(ms:dz)(p k:Int):bk:=(hG ms p).getD k.toNat il
def A3(k a b:Int):Int:=if k=1 then jN o (a+b)else if k=2 then jN o (a - b)else if k=3 then jN o (a*b)else if k=4 then(if a<b then 1 else 0)else if k=5 then(if a=b then 1 else 0)else 0
def bp.ok(S:bp)(v:ak):bp×ak×Int:=(S,v,0)
def bp.no(S:bp)(c:Int):bp×ak×Int:=(S,bE,c)
def bp.tick(S:bp):bp:={S with left:=S.left - 1}
def sf(S:bp)(q:aC×Int×Int):bp×ak×Int:=if q.2.2≠0 then({S with G:=q.1}).no q.2.2 else({S with G:=q.1}).ok (jO q.2.1)
def gC(p op k n:Int)(l:List ak)(S:bp):bp×ak×Int:=
 let a:=l.getD 0 bE;let b:=l.getD 1 bE
 if op=6 then(if a.kind≠1\/b.kind≠1 then S.no 2 else S.ok (iC (A3 k a.n b.n)))
 else if op=8 then(if(ak.mk 2 0 [a,b]).code≠0 then S.no 3 else S.ok (.mk 2 0 [a,b]))
 else if op=9 then(if a.kind≠2 then S.no 2 else S.ok (a.l.getD 0 bE))
 else if op=10 then(if a.kind≠2 then S.no 2 else S.ok (a.l.getD 1 bE))
 else if op=11 then(if(ak.mk 3 p [a]).code≠0 then S.no 3 else S.ok (.mk 3 p [a]))
 else if op=12 then(if a.kind≠3 then S.no 2 else if a.n≠p then S.no 10 else S.ok (a.l.getD 0 bE))
 else if op=13 then(if a.kind≠4 then S.no 2 else if iV (S.G.et a.n) 0=T then S.no 9 else if 0<=(S.G.target a.n).1.bw then S.no 2 else({S with log:=S.log++[oP.mk p (S.G.target a.n).1.cell 1 a.n]}).ok (iC (S.cells.getD (S.G.target a.n).1.cell.toNat 0)))
 else if op=14 then(if a.kind≠4\/b.kind≠1 then S.no 2 else if iV (S.G.et a.n) 1=T then S.no 9 else if 0<=(S.G.target a.n).1.bw then S.no 2 else({S with log:=S.log++[oP.mk p (S.G.target a.n).1.cell 2 a.n],cells:=S.cells.set (S.G.target a.n).1.cell.toNat b.n}).ok b)
 else if op=15 then(if a.kind≠4 then S.no 2 else sf S (S.G.derive a.n k (-1)))
 else if op=16 then(if a.kind≠4 then S.no 2 else if S.G.gate.2.2≠0 then({S with G:=S.G.gate.1}).no S.G.gate.2.2 else match S.G.gate.1.derive a.n 15 S.G.gate.2.1 with
   |(cU,m,c)=>if c≠0 then({S with G:=cU}).no c else({S with G:=cU}).ok (.mk 2 0 [jO m,.mk 5 S.G.gate.2.1 []]))
 else if op=17 then(if a.kind≠5 then S.no 2 else({S with G:=(S.G.cut a.n).1}).ok bE)
 else if op=20 then({S with kept:=S.kept.set p.toNat a}).ok (S.kept.getD p.toNat bE)
 else S.no 0
structure tn where
 (bw func:Int)
 arg:ak
 ec:List Int
def im(ms:dz)(v x:ak)(aU:Nat)(S:bp):bp×tn×Int:=
 let t:=(S.G.target v.n).1;let z:tn:=⟨0,0,bE,[]⟩
 if v.kind≠4 then(S,z,2)else if iV (S.G.et v.n) 3=T then(S,z,9)else if t.bw<0 then(S,z,2)
 else if(ms.getD t.bw.toNat ab).isNone\/((hG ms t.bw).length:Int)<=t.func\/t.func<0 then(S,z,8)
 else if aU=20 then(S,z,4)
 else match iM (S.G.uA v.n) S.G x with
  |(cU,y,c)=>({S with G:=cU},⟨t.bw,t.func,y,S.G.uA v.n⟩,c)
def mu(ec:List Int)(v:ak)(S:bp):bp×ak×Int:=match iM ec S.G v with
 |(cU,y,c)=>if c≠0 then({S with G:=cU}).no c else({S with G:=cU}).ok y
def iW(f:bk->bp->bp×ak×Int):List bk->bp->List ak->bp×List ak×Int
 |[],S,acc=>(S,acc,0)
 |x::l,S,acc=>match f x S with
   |(bx,v,c)=>if c≠0 then(bx,[],c)else iW f l bx (acc++[v])
def jn(p:Int)(x:bk)(arg:ak)(names:List ak)(S:bp):Option ak:=
 if x.op=1 then j bE else if x.op=2 then j (iC x.n)else if x.op=3 then j arg
 else if x.op=4 then j (names.getD (names.length - 1 - x.k.toNat) bE)else if x.op=21 then j (S.kept.getD p.toNat bE)else ab
def dL(ms:dz):Nat->Int->bk->ak->List ak->Nat->bp->bp×ak×Int
 |0,_,_,_,_,_,S=>S.no 12
 |N+1,p,x,arg,names,aU,S=>
   if S.left=0 then S.no 12
   else match jn p x arg names S.tick with
   |some v=>S.tick.ok v
   |none=>
     if x.op=5 then(match dL ms N p (x.l.getD 0 il) arg names aU S.tick with
      |(bx,v,c)=>if c≠0 then bx.no c else dL ms N p (x.l.getD 1 il) arg (names++[v]) aU bx)
     else if x.op=7 then(match dL ms N p (x.l.getD 0 il) arg names aU S.tick with
      |(bx,v,c)=>if c≠0 then bx.no c else if v.kind≠1 then bx.no 2 else if v.n≠0 then dL ms N p (x.l.getD 1 il) arg names aU bx else dL ms N p (x.l.getD 2 il) arg names aU bx)
     else match iW (λy S=>dL ms N p y arg names aU S) x.l S.tick []with
      |(bx,l,c)=>if c≠0 then bx.no c else if x.op=18 then(if aU=20 then bx.no 4 else dL ms N p (fp ms p x.k) (l.getD 0 bE) [] (aU+1) bx) else if x.op=19 then(match im ms (l.getD 0 bE) (l.getD 1 bE) aU bx with
         |(ld,q,c)=>if c≠0 then ld.no c else match dL ms N q.bw (fp ms q.bw q.func) q.arg [] (aU+1) ld with
           |(px,v,c)=>if c≠0 then px.no c else mu q.ec v px)
        else gC p x.op x.k x.n l bx
structure hH where
 (bw f:Int)
 bs:Nat
 arg:ak
 (stack names:List ak)
 asked:Bool
 ec:List Int
structure b5 where
 S:bp
 top:hH
 below:List hH
inductive oQ where
 |go (m:b5)
 |over (S:bp) (v:ak)
 |fail (S:bp) (c:Int)
def uE:cD:=⟨0,0,0⟩
def kg(ms:dz)(p f:Int):List cD:=ce (fp ms p f) 0++[⟨105,0,0⟩]
def b5.push(m:b5)(S:bp)(st:List ak)(v:ak):oQ:=.go {m with S:=S,top:={m.top with stack:=st++[v]}}
def b5.done(m:b5)(st:List ak)(q:bp×ak×Int):oQ:=if q.2.2≠0 then .fail q.1 q.2.2 else m.push q.1 st q.2.1
def b5.call(m:b5)(S:bp)(st:List ak)(p f:Int)(arg:ak)(asked:Bool)(ec:List Int):oQ:=
 if m.below.length+1=20 then .fail S 4 else .go ⟨S,⟨p,f,0,arg,[],[],asked,ec⟩,m.below++[{m.top with stack:=st}]⟩
def qd(st:List ak)(k:Nat):List ak:=st.drop (st.length - k)
def sg(st:List ak)(k:Nat):List ak:=st.take (st.length - k)
def mv(ms:dz)(m:b5)(x:cD):oQ:=
 let t:=m.top
 match jn t.bw (.mk x.op x.k x.n []) t.arg t.names m.S with
 |some v=>m.push m.S t.stack v
 |none=>
   if x.op=18 then m.call m.S (sg t.stack 1) t.bw x.k ((qd t.stack 1).getD 0 bE) T []
   else if x.op=19 then(match im ms ((qd t.stack 2).getD 0 bE) ((qd t.stack 2).getD 1 bE) (m.below.length+1) m.S with
    |(bx,q,c)=>if c≠0 then .fail bx c else m.call bx (sg t.stack 2) q.bw q.func q.arg Q q.ec)
   else m.done (sg t.stack (bv x.op).toNat) (gC t.bw x.op x.k x.n (qd t.stack (bv x.op).toNat) m.S)
def b5.back(m:b5):oQ:=
 let v:=(qd m.top.stack 1).getD 0 bE;let q:=if m.top.asked then mu m.top.ec v m.S else m.S.ok v
 if q.2.2≠0 then .fail q.1 q.2.2
 else match m.below.getLast? with
  |none=>.over q.1 q.2.1
  |some t=>.go ⟨q.1,{t with stack:=t.stack++[q.2.1]},m.below.dropLast⟩
def mw(ms:dz)(lC:b5):oQ:=
 let x:=(kg ms lC.top.bw lC.top.f).getD lC.top.bs uE;let m:b5:={lC with top:={lC.top with bs:=lC.top.bs+1}};let t:=m.top
 if x.op=100 then(if m.S.left=0 then .fail m.S 12 else .go {m with S:=m.S.tick})
 else if x.op=101 then .go {m with top:={t with stack:=sg t.stack 1,names:=t.names++[(qd t.stack 1).getD 0 bE]}}
 else if x.op=102 then .go {m with top:={t with names:=t.names.dropLast}}
 else if x.op=103 then(let v:=(qd t.stack 1).getD 0 bE
  if v.kind≠1 then .fail m.S 2 else .go {m with top:={t with stack:=sg t.stack 1,bs:=if v.n=0 then x.k.toNat else t.bs}})
 else if x.op=104 then .go {m with top:={t with bs:=x.k.toNat}}
 else if x.op=105 then m.back
 else mv ms m x
theorem Ej{α:Type}{c:Prop}[Decidable c]{a b:bp×α}{n:Nat}(F:a.1.left=n)(O:b.1.left=n):(if c then a else b).1.left=n:=by split<;>assumption
theorem acI(S:bp)(q:aC×Int×Int):(sf S q).1.left=S.left:=by unfold sf;exact Ej rfl rfl
theorem acJ(p op k n:Int)(l:List ak)(S:bp):(gC p op k n l S).1.left=S.left:=by
 unfold gC
 repeat' (first|rfl|exact acI _ _|refine Ej ?_ ?_)
theorem I3(ms:dz)(v x:ak)(aU:Nat)(S:bp):(im ms v x aU S).1.left=S.left:=by
 unfold im
 repeat' (first|rfl|refine Ej ?_ ?_)
theorem acK(ec:List Int)(v:ak)(S:bp):(mu ec v S).1.left=S.left:=by unfold mu;split;exact Ej rfl rfl
theorem I4{f:bk->bp->bp×ak×Int}(bc:∀x S,(f x S).1.left<=S.left):∀(l:List bk) (S:bp) (acc:List ak),(iW f l S acc).1.left<=S.left
 |[],S,acc=>bV _
 |x::l,S,acc=>by
   have F:=bc x S;rw[iW];rcases aG:f x S with⟨bx,v,c⟩;rw[aG]at F;simp only at F ⊢;split
   ·exact F
   ·exact ef (I4 bc l bx _) F
theorem ze(ms:dz):∀(N:Nat) (p:Int) (x:bk) (arg:ak) (names:List ak) (aU:Nat) (S:bp),(dL ms N p x arg names aU S).1.left<=S.left
 |0,p,x,arg,names,aU,S=>bV _
 |N+1,p,x,arg,names,aU,S=>by
   have aW:=ze ms N;have aL:S.tick.left<=S.left:=Nat.sub_le _ _;rw[dL];split
   ·exact bV _
   ·split
    ·exact aL
    ·split
     ·have F:=aW p (x.l.getD 0 il) arg names aU S.tick;rcases aG:dL ms N p (x.l.getD 0 il) arg names aU S.tick with⟨bx,v,c⟩;rw[aG]at F;simp only at F ⊢;split
      ·exact ef F aL
      ·exact ef (aW _ _ _ _ _ _) (ef F aL)
     ·split
      ·have F:=aW p (x.l.getD 0 il) arg names aU S.tick;rcases aG:dL ms N p (x.l.getD 0 il) arg names aU S.tick with⟨bx,v,c⟩;rw[aG]at F;simp only at F ⊢;split
       ·exact ef F aL
       ·split
        ·exact ef F aL
        ·split
         ·exact ef (aW _ _ _ _ _ _) (ef F aL)
         ·exact ef (aW _ _ _ _ _ _) (ef F aL)
      ·have F:=I4 (f:=λy S=>dL ms N p y arg names aU S) (λy S=>aW p y arg names aU S) x.l S.tick [];rcases aG:iW (λy S=>dL ms N p y arg names aU S) x.l S.tick []with⟨bx,l,c⟩;rw[aG]at F;simp only at F ⊢;split
       ·exact ef F aL
       ·split
        ·split
         ·exact ef F aL
         ·exact ef (aW _ _ _ _ _ _) (ef F aL)
        ·split
         ·have O:=I3 ms (l.getD 0 bE) (l.getD 1 bE) aU bx;rcases rc:im ms (l.getD 0 bE) (l.getD 1 bE) aU bx with⟨ld,q,bZ⟩;rw[rc]at O;simp only at O ⊢;split
          ·exact ef (pg O) (ef F aL)
          ·have af:=aW q.bw (fp ms q.bw q.func) q.arg [] (aU+1) ld;rcases vQ:dL ms N q.bw (fp ms q.bw q.func) q.arg [] (aU+1) ld with⟨px,v,b'⟩;rw[vQ]at af;simp only at af ⊢;split
           ·exact ef af (ef (pg O) (ef F aL))
           ·rw[acK];exact ef af (ef (pg O) (ef F aL))
         ·rw[acJ];exact ef F aL
def bp.a2(S:bp):Nat:=S.log.length+S.left
structure bp.Good(S:bp):Prop where
 wf:S.G.cz
 cells:S.cells.length=12
 kept:S.kept.length=4
 rj:∀v∈S.kept,v.code=0
theorem d7:bE.code=0:=by decide
theorem A4(n:Int):(iC n).code=0:=rfl
theorem uF{l:List ak}(h:∀v∈l,v.code=0)(i:Nat):(l.getD i bE).code=0:=by
 by_cases aa:i<l.length
 ·simp only[cK,fz aa,pf];exact h _ (h2 aa)
 ·simp only[cK,lU (Nat.le_of_not_lt aa),Option.getD_none];exact d7
theorem Pn:∀{l:List ak},mq l=0->∀x∈l,x.fault=0
 |[],_,x,an=>by simp at an
 |y::l,h,x,an=>by
   rw[xl]at h;split at h
   ·rename_i F;exact absurd h F
   ·rename_i F;rcases pi.1 an with rfl|an
    ·omega
    ·exact Pn h x an
theorem xo{v:ak}(h:v.code=0):v.size<=40/\iU v.kind v.n v.l.length=0/\∀x∈v.l,x.code=0:=by
 unfold ak.code at h;split at h
 ·cases h
 ·rename_i av;rw[v.Eg]at h;split at h
  ·rename_i F;exact absurd h F
  ·rename_i F;refine⟨by omega,by omega,λx an=>?_⟩;unfold ak.code;have:=ak.sb an;rw[if_neg (by omega)];exact Pn h x an
theorem I5{kind n:Int}{l:List ak}(av:(ak.mk kind n l).size<=40)(bP:iU kind n l.length=0)(al:∀x∈l,x.code=0):(ak.mk kind n l).code=0:=by
 have key:∀l:List ak,(∀x∈l,x.code=0)->mq l=0:=by
  intro l al;induction l with
  |nil=>rfl
  |cons x l aW=>
    have F:=al x (by simp);unfold ak.code at F;split at F
    ·cases F
    ·rw[xl,if_neg (by omega)];exact aW λy bF=>al y (by simp[bF])
 unfold ak.code;rw[if_neg (by omega)];show(if iU kind n l.length≠0 then iU kind n l.length else mq l)=0;rw[if_neg (by omega)];exact key l al
theorem Po{v:ak}(h:v.code=0):(v.kind=2->∃a b,v.l=[a,b])/\(v.kind=3->∃a,v.l=[a]):=by
 obtain⟨_,F,_⟩:=xo h;unfold iU at F;split at F
 ·cases F
 ·split at F
  ·cases F
  ·rename_i O;constructor
   ·intro af;simp only[oO,af,if_true,Decidable.not_not]at O
    match al:v.l,O with
    |[a,b],_=>exact⟨a,b,rfl⟩
   ·intro af;simp only[oO,af,if_true,Decidable.not_not]at O;rw[if_neg (by decide)]at O
    match al:v.l,O with
    |[a],_=>exact⟨a,rfl⟩
theorem Ek{n:Int}(h:0<=n):(jO n).code=0:=I5 (by simp[ak.size,hU]) (by simp[iU,oO];omega) (by simp)
theorem acL{n:Int}(h:0<=n):(ak.mk 5 n []).code=0:=I5 (by simp[ak.size,hU]) (by simp[iU,oO];omega) (by simp)
mutual
theorem Pp(aZ:List Int):∀(x:ak) (G:aC),(d9 aZ x G).2.2=0->(d9 aZ x G).2.1.size=x.size
 |.mk kind n l,G,h=>by
   simp only[d9]at h ⊢;split at h
   ·rename_i F;exact absurd h F
   ·rename_i F;split at h
    ·rename_i O;exact absurd h O
    ·rename_i O;rw[if_neg F,if_neg O];simp only[ak.size];rw[(I6 aZ l _ (by omega)).1]
theorem I6(aZ:List Int):∀(l:List ak) (G:aC),(gX aZ l G).2.2=0->hU (gX aZ l G).2.1=hU l/\(gX aZ l G).2.1.length=l.length
 |[],G,h=>⟨rfl,rfl⟩
 |x::l,G,h=>by
   simp only[gX]at h ⊢;split at h
   ·rename_i F;exact absurd h F
   ·rename_i F;rw[if_neg F];have O:=I6 aZ l _ h;simp only[hU,gT];rw[Pp aZ x G (by omega),O.1,O.2];exact⟨rfl,rfl⟩
end
theorem I7{G:aC}{n r k:Int}:0<=(G.derive n r k).2.1:=by
 unfold aC.derive aC.add;split
 ·split
  ·exact Int.le_refl _
  ·split
   ·exact Int.le_refl _
   ·split
    ·exact Int.le_refl _
    ·exact Int.natCast_nonneg _
 ·exact Int.le_refl _
theorem acM(aZ:List Int):∀(G:aC) (n:Int),0<=n->0<=(l2 aZ G n).2.1:=by
 induction aZ with
 |nil=>intro G n h;exact h
 |cons k l aW=>
   intro G n h;simp only[l2];split
   ·exact Int.le_refl _
   ·exact aW _ _ I7
mutual
theorem Pq(aZ:List Int):∀(x:ak) (G:aC),x.fault=0->(d9 aZ x G).2.2=0->(d9 aZ x G).2.1.fault=0
 |.mk kind n l,G,bc,h=>by
   change (if iU kind n l.length≠0 then iU kind n l.length else mq l)=0 at bc;split at bc
   ·rename_i F;exact absurd bc F
   rename_i bP;simp only[d9]at h ⊢;split at h
   ·rename_i F;exact absurd h F
   ·rename_i F;split at h
    ·rename_i O;exact absurd h O
    ·rename_i O;rw[if_neg F,if_neg O];have al:=(I6 aZ l (jm aZ G kind n).1 (by omega)).2;show(if iU kind _ (gX aZ l (jm aZ G kind n).1).2.1.length≠0 then iU kind _ (gX aZ l (jm aZ G kind n).1).2.1.length else mq (gX aZ l (jm aZ G kind n).1).2.1)=0;rw[al,if_neg]
     ·exact Pr aZ l _ bc (by omega)
     ·unfold jm;by_cases aw:kind=4
      ·rw[if_pos aw];have:0<=n:=by
        unfold iU at bP;split at bP
        ·simp at bP
        ·split at bP
         ·simp at bP
         ·split at bP
          ·simp at bP
          ·split at bP
           ·simp at bP
           ·omega
       have bg:=acM aZ G n this;unfold iU at bP ⊢;subst aw;rw[if_neg (by omega)]at bP ⊢;split at bP
       ·simp at bP
       ·rename_i cj;rw[if_neg cj,if_neg (by omega),if_neg (by omega)];decide
      ·rw[if_neg aw];exact bP
theorem Pr(aZ:List Int):∀(l:List ak) (G:aC),mq l=0->(gX aZ l G).2.2=0->mq (gX aZ l G).2.1=0
 |[],G,bc,h=>rfl
 |x::l,G,bc,h=>by
   rw[xl]at bc;split at bc
   ·rename_i F;exact absurd bc F
   rename_i an;simp only[gX]at h ⊢;split at h
   ·rename_i F;exact absurd h F
   ·rename_i F;rw[if_neg F,xl,if_neg (by rw[Pq aZ x G (by omega) (by omega)];decide)];exact Pr aZ l _ bc h
end
theorem Ps{G:aC}{x:ak}(h:(iM aZ G x).2.2=0):(iM aZ G x).2.1.code=0:=by
 unfold iM at h ⊢;split at h
 ·rename_i F;exact absurd h F
 ·rename_i F;rw[if_neg F];have an:x.code=0:=by
   unfold sc at F;split at F
   ·rename_i O;exact absurd F (by simpa using O)
   ·omega
  have av:=(xo an).1;unfold ak.code at an ⊢;rw[if_neg (by omega)]at an;rw[if_neg (by rw[Pp aZ x G h];omega)];exact Pq aZ x G an h
structure iq(n:Nat)(S:bp)(q:bp×ak×Int):Prop where
 dk:q.1.Good
 a2:q.1.a2<=S.a2+n
 left:q.1.left<=S.left
 val:q.2.2=0->q.2.1.code=0
theorem bp.Good.with{S:bp}(h:S.Good){G:aC}(dR:G.cz):({S with G:=G}:bp).Good:=⟨dR,h.cells,h.kept,h.rj⟩
theorem iq.no{S bx:bp}{n:Nat}{c:Int}(h:bx.Good)(F:bx.a2<=S.a2+n)(O:bx.left<=S.left):iq n S (bx.no c):=⟨h,F,O,λ_=>d7⟩
theorem iq.ok{S bx:bp}{n:Nat}{v:ak}(h:bx.Good)(F:bx.a2<=S.a2+n)(O:bx.left<=S.left)(R:v.code=0):iq n S (bx.ok v):=⟨h,F,O,λ_=>R⟩
theorem iq.ite{S:bp}{n:Nat}{p:Prop}[Decidable p]{a b:bp×ak×Int}(F:p->iq n S a)(O:¬p->iq n S b):iq n S (if p then a else b):=by
 split
 ·exact F ‹_›
 ·exact O ‹_›
theorem acN{p op k n:Int}{l:List ak}{S:bp}(cl:S.Good)(al:∀v∈l,v.code=0):iq 1 S (gC p op k n l S):=by
 have aM:=uF al 0;have ai:=uF al 1;have lC:S.a2<=S.a2+1:=Nat.le_succ _;have no:∀{c:Int},iq 1 S (S.no c):=.no cl lC (bV _);have ok:∀{v:ak},v.code=0->iq 1 S (S.ok v):=λR=>.ok cl lC (bV _) R;unfold gC;refine .ite (λ_=>.ite (λ_=>no) λ_=>ok (A4 _)) λcj=>?_;refine .ite (λ_=>.ite (λ_=>no) λh=>ok (by simpa using h)) λhA=>?_;refine .ite (λ_=>.ite (λ_=>no) λh=>ok (uF (xo aM).2.2 0)) λqe=>?_;refine .ite (λ_=>.ite (λ_=>no) λh=>ok (uF (xo aM).2.2 1)) λam4=>?_;refine .ite (λ_=>.ite (λ_=>no) λh=>ok (by simpa using h)) λam5=>?_;refine .ite (λ_=>.ite (λ_=>no) λ_=>.ite (λ_=>no) λ_=>ok (uF (xo aM).2.2 0)) λmx=>?_;refine .ite (λ_=>.ite (λ_=>no) λ_=>.ite (λ_=>no) λ_=>.ite (λ_=>no) λ_=>?_) λam6=>?_
 ·exact .ok ⟨cl.wf,cl.cells,cl.kept,cl.rj⟩ (by simp[bp.a2];omega) (bV _) (A4 _)
 refine .ite (λ_=>.ite (λ_=>no) λ_=>.ite (λ_=>no) λ_=>.ite (λ_=>no) λ_=>?_) λam7=>?_
 ·exact .ok ⟨cl.wf,by simpa using cl.cells,cl.kept,cl.rj⟩ (by simp[bp.a2];omega) (bV _) ai
 refine .ite (λ_=>.ite (λ_=>no) λ_=>?_) λEl=>?_
 ·unfold sf;exact .ite (λ_=>.no (cl.with (cl.wf.derive _ _ _)) lC (bV _)) λ_=>.ok (cl.with (cl.wf.derive _ _ _)) lC (bV _) (Ek I7)
 refine .ite (λ_=>.ite (λ_=>no) λ_=>.ite (λ_=>.no (cl.with cl.wf.gate) lC (bV _)) λaX=>?_) λam8=>?_
 ·have hw:=cl.wf.gate.derive (l.getD 0 bE).n 15 S.G.gate.2.1;have au:=I7 (G:=S.G.gate.1) (n:=(l.getD 0 bE).n) (r:=15) (k:=S.G.gate.2.1);generalize S.G.gate.1.derive (l.getD 0 bE).n 15 S.G.gate.2.1=q at hw au ⊢;obtain⟨cU,m,c⟩:=q;refine .ite (λ_=>.no (cl.with hw) lC (bV _)) λ_=>.ok (cl.with hw) lC (bV _) ?_;refine I5 (by simp[ak.size,hU,jO]) (by simp[iU,oO]) ?_;intro x an;rcases pi.1 an with rfl|an
  ·exact Ek au
  ·simp only[List.mem_singleton]at an;subst an;refine acL ?_;unfold aC.gate;split
   ·exact Int.le_refl _
   ·exact Int.natCast_nonneg _
 refine .ite (λ_=>.ite (λ_=>no) λ_=>?_) λam9=>?_
 ·exact .ok (cl.with (cl.wf.cut _)) lC (bV _) d7
 refine .ite (λ_=>?_) λpy=>no;refine .ok ⟨cl.wf,cl.cells,by simpa using cl.kept,λv R=>?_⟩ lC (bV _) (uF cl.rj _);rcases List.mem_or_eq_of_mem_set R with h|rfl
 ·exact cl.rj v h
 ·exact aM
theorem wt(G:aC):∀(f:Nat) (i:Int),(G.mr f i).length<=f
 |0,_=>by simp[aC.mr]
 |f+1,i=>by
   unfold aC.mr;split
   ·have:=wt G f (G.nodes.getD i.toNat ik).parent;simp only[gT];omega
   ·simp
theorem Pt{G:aC}(h:G.cz){i:Int}:(G.uA i).length<=80:=by
 unfold aC.uA pt;rw[iX];refine ef (List.length_filter_le _ _) ?_;cases bP:G.has i with
 |false=>rw[aC.tl bP];simp
 |true=>have:=wt G (i.toNat+1) i;simp only[aC.has,decide_eq_true_eq]at bP;have:=h.ps;unfold aC.path;omega
theorem Pu{ms:dz}{v x:ak}{aU:Nat}{S:bp}(cl:S.Good):(im ms v x aU S).1.Good/\(im ms v x aU S).1.a2<=S.a2/\((im ms v x aU S).2.2=0->(im ms v x aU S).2.1.arg.code=0/\(im ms v x aU S).2.1.ec.length<=80/\(ms.getD (im ms v x aU S).2.1.bw.toNat ab).isSome/\0<=(im ms v x aU S).2.1.bw/\0<=(im ms v x aU S).2.1.func/\(im ms v x aU S).2.1.func.toNat<(hG ms (im ms v x aU S).2.1.bw).length):=by
 unfold im;simp only;split
 ·exact⟨cl,bV _,λh=>by simp at h⟩
 split
 ·exact⟨cl,bV _,λh=>by simp at h⟩
 split
 ·exact⟨cl,bV _,λh=>by simp at h⟩
 rename_i aB;split
 ·exact⟨cl,bV _,λh=>by simp at h⟩
 rename_i au;simp only[not_or]at au;split
 ·exact⟨cl,bV _,λh=>by simp at h⟩
 refine⟨cl.with (Pl cl.wf),bV _,λh=>⟨Ps h,?_,by simpa[Option.isNone_iff_eq_none,Option.isSome_iff_ne_none]using au.1,by simp only;omega,by simp only;omega,?_⟩⟩
 ·exact Pt cl.wf
 ·have:=au.2.1;have:=au.2.2;simp only;omega
theorem acO{ec:List Int}{v:ak}{S:bp}(cl:S.Good):iq 0 S (mu ec v S):=by unfold mu;have hw:=Pl (aZ:=ec) (x:=v) cl.wf;have aj:=Ps (aZ:=ec) (G:=S.G) (x:=v);generalize iM ec S.G v=q at hw aj ⊢;obtain⟨cU,y,c⟩:=q;refine .ite (λ_=>.no (cl.with hw) (bV _) (bV _)) λh=>.ok (cl.with hw) (bV _) (bV _) (aj (by simpa using h))
def Em(S:bp)(q:bp×ak×Int):Prop:=iq 0 S q/\(q.2.2=0->q.1.left<S.left)
theorem iq.trans{n k:Nat}{S I8:bp}{q:bp×ak×Int}(F:I8.a2<=S.a2+n)(O:I8.left<=S.left)(h:iq k I8 q):iq (n+k) S q:=⟨h.dk,by have:=h.a2;omega,ef h.left O,h.val⟩
theorem iq.oK{n k:Nat}{S:bp}{q:bp×ak×Int}(h:iq k S q)(Z:k<=n):iq n S q:=⟨h.dk,by have:=h.a2;omega,h.left,h.val⟩
theorem I9{f:bk->bp->bp×ak×Int}(bc:∀x S,S.Good->Em S (f x S)):∀(l:List bk) (S:bp) (acc:List ak),S.Good->(∀v∈acc,v.code=0)->(iW f l S acc).1.Good/\(iW f l S acc).1.a2<=S.a2/\(iW f l S acc).1.left<=S.left/\((iW f l S acc).2.2=0->(∀v∈(iW f l S acc).2.1,v.code=0)/\(iW f l S acc).1.left+(iW f l S acc).2.1.length<=S.left+acc.length)
 |[],S,acc,cl,aM=>⟨cl,bV _,bV _,λ_=>⟨aM,bV _⟩⟩
 |x::l,S,acc,cl,aM=>by
   obtain⟨F,O⟩:=bc x S cl;rw[iW];rcases aG:f x S with⟨bx,v,c⟩;rw[aG]at F O;simp only at O ⊢;split
   ·rename_i aj;exact⟨F.dk,F.a2,F.left,λe=>absurd e aj⟩
   ·rename_i aj;have aj:c=0:=by omega
    have af:=O aj;have R:=F.val aj;obtain⟨c1,cr,eg,kO⟩:=I9 bc l bx (acc++[v]) F.dk (λw hw=>by
     rcases List.mem_append.1 hw with h|h
     ·exact aM w h
     ·simp only[List.mem_singleton]at h;rw[h];exact R)
    have hm:bx.a2<=S.a2:=F.a2;have hle:bx.left<=S.left:=F.left;refine⟨c1,ef cr hm,ef eg hle,λe=>⟨(kO e).1,?_⟩⟩;have:=(kO e).2;simp only[eP,gp]at this;omega
theorem A5{S:bp}(h:S.left≠0):S.tick.a2+1=S.a2/\S.tick.left+1=S.left:=by simp only[bp.a2,bp.tick];omega
theorem bp.Good.tick{S:bp}(h:S.Good):S.tick.Good:=⟨h.wf,h.cells,h.kept,h.rj⟩
theorem acP{p:Int}{x:bk}{arg:ak}{names:List ak}{S:bp}{v:ak}(cl:S.Good)(aM:arg.code=0)(au:∀v∈names,v.code=0)(h:jn p x arg names S=j v):v.code=0:=by
 unfold jn at h;split at h
 ·injection h with h;rw[<-h];exact d7
 split at h
 ·injection h with h;rw[<-h];exact A4 _
 split at h
 ·injection h with h;rw[<-h];exact aM
 split at h
 ·injection h with h;rw[<-h];exact uF au _
 split at h
 ·injection h with h;rw[<-h];exact uF cl.rj _
 cases h
theorem rk(ms:dz):∀(N:Nat) (p:Int) (x:bk) (arg:ak) (names:List ak) (aU:Nat) (S:bp),S.Good->arg.code=0->(∀v∈names,v.code=0)->Em S (dL ms N p x arg names aU S)
 |0,p,x,arg,names,aU,S,cl,_,_=>⟨.no cl (bV _) (bV _),λh=>by simp[dL,bp.no]at h⟩
 |N+1,p,x,arg,names,aU,S,cl,aM,au=>by
   have aW:=rk ms N;rw[dL];split
   ·exact⟨.no cl (bV _) (bV _),λh=>by simp[bp.no]at h⟩
   rename_i ae;obtain⟨rS,lD⟩:=A5 ae;suffices h:∀q,iq 1 S.tick q->Em S q by
    refine h _ ?_;split
    ·rename_i v R;exact .ok cl.tick (Nat.le_succ _) (bV _) (acP cl.tick aM au R)
    ·split
     ·have F:=(aW p (x.l.getD 0 il) arg names aU S.tick cl.tick aM au).1;rcases aG:dL ms N p (x.l.getD 0 il) arg names aU S.tick with⟨bx,v,c⟩;rw[aG]at F;refine .ite (λ_=>(iq.no (c:=c) F.dk F.a2 F.left).oK (k4 _)) λaj=>?_;have O:=(aW p (x.l.getD 1 il) arg (names++[v]) aU bx F.dk aM (λw hw=>by
       rcases List.mem_append.1 hw with h|h
       ·exact au w h
       ·simp only[List.mem_singleton]at h;rw[h];exact F.val (by simpa using aj))).1
      exact(iq.trans F.a2 F.left O).oK (k4 _)
     ·split
      ·have F:=(aW p (x.l.getD 0 il) arg names aU S.tick cl.tick aM au).1;rcases aG:dL ms N p (x.l.getD 0 il) arg names aU S.tick with⟨bx,v,c⟩;rw[aG]at F;refine .ite (λ_=>(iq.no (c:=c) F.dk F.a2 F.left).oK (k4 _)) λaj=>?_;refine .ite (λ_=>(iq.no (c:=2) F.dk F.a2 F.left).oK (k4 _)) λ_=>?_;refine .ite (λ_=>?_) λ_=>?_
       ·exact(iq.trans F.a2 F.left (aW p (x.l.getD 1 il) arg names aU bx F.dk aM au).1).oK (k4 _)
       ·exact(iq.trans F.a2 F.left (aW p (x.l.getD 2 il) arg names aU bx F.dk aM au).1).oK (k4 _)
      ·have F:=I9 (f:=λy S=>dL ms N p y arg names aU S) (λy S h=>aW p y arg names aU S h aM au) x.l S.tick [] cl.tick (by simp);rcases aG:iW (λy S=>dL ms N p y arg names aU S) x.l S.tick []with⟨bx,l,c⟩;rw[aG]at F;obtain⟨c1,cr,eg,kO⟩:=F;simp only at c1 cr eg kO;refine .ite (λ_=>(iq.no (n:=0) (c:=c) c1 cr eg).oK (k4 _)) λaj=>?_;have q':=(kO (by simpa using aj)).1;refine .ite (λ_=>.ite (λ_=>(iq.no (n:=0) (c:=4) c1 cr eg).oK (k4 _)) λ_=>?_) λ_=>.ite (λ_=>?_) λ_=>?_
       ·exact(iq.trans (n:=0) cr eg (aW p (fp ms p x.k) (l.getD 0 bE) [] (aU+1) bx c1 (uF q' 0) (by simp)).1).oK (k4 _)
       ·obtain⟨aJ,a1,bf⟩:=Pu (ms:=ms) (v:=l.getD 0 bE) (x:=l.getD 1 bE) (aU:=aU) c1;have cv:=I3 ms (l.getD 0 bE) (l.getD 1 bE) aU bx;rcases rc:im ms (l.getD 0 bE) (l.getD 1 bE) aU bx with⟨ld,q,bZ⟩;rw[rc]at aJ a1 bf cv;simp only at aJ a1 bf cv;have c9:ld.a2<=S.tick.a2+0:=ef a1 cr;have dx:ld.left<=S.tick.left:=ef (pg cv) eg;refine .ite (λ_=>(iq.no (n:=0) (c:=bZ) aJ c9 dx).oK (k4 _)) λjx=>?_;have af:=(aW q.bw (fp ms q.bw q.func) q.arg [] (aU+1) ld aJ (bf (by simpa using jx)).1 (by simp)).1;rcases vQ:dL ms N q.bw (fp ms q.bw q.func) q.arg [] (aU+1) ld with⟨px,v,b'⟩;rw[vQ]at af;have aw:=iq.trans c9 dx af;refine .ite (λ_=>(iq.no (c:=b') aw.dk aw.a2 aw.left).oK (k4 _)) λ_=>?_;exact(iq.trans aw.a2 aw.left (acO af.dk)).oK (k4 _)
       ·exact iq.trans (n:=0) cr eg (acN c1 q')
   intro q h;have F:=h.a2;have O:=h.left;exact⟨⟨h.dk,by omega,by omega,h.val⟩,λ_=>by omega⟩
structure hH.Good(ms:dz)(t:hH):Prop where
 gN:0<=t.bw
 there:(ms.getD t.bw.toNat ab).isSome
 f0:0<=t.f
 f1:t.f.toNat<(hG ms t.bw).length
 arg:t.arg.code=0
 names:∀v∈t.names,v.code=0
 stack:∀v∈t.stack,v.code=0
 ec:t.ec.length<=80
structure b5.Good(ms:dz)(m:b5):Prop where
 S:m.S.Good
 top:m.top.Good ms
 a2:m.S.a2<=1000000
 cA:m.top.stack.length+m.S.left<=100000
 tp:m.top.names.length+m.S.left<=100000
 ps:m.below.length+1<=20
structure zf(m:b5)(x:cD):Prop where
 kind:(1<=x.op/\x.op<=21/\x.op≠5/\x.op≠7)\/(100<=x.op/\x.op<=105)
 one:x.op=101\/x.op=103\/x.op=105->m.top.stack≠[]
 Pv:x.op=102->m.top.names≠[]
 jump:x.op=103\/x.op=104->0<=x.k
 parts:x.op<100->(bv x.op).toNat<=m.top.stack.length
 var:x.op=4->0<=x.k/\x.k<m.top.names.length
structure uG(ms:dz)(m:b5):Prop where
 dk:m.Good ms
 bs:m.top.bs<(kg ms m.top.bw m.top.f).length
 op:zf m ((kg ms m.top.bw m.top.f).getD m.top.bs uE)
inductive jP(ms:dz):b5->oQ->Prop
 |go {m aR:b5} {r:oQ}:uG ms m->mw ms m= .go aR->jP ms aR r->jP ms m r
 |over {m:b5} {S:bp} {v:ak}:uG ms m->mw ms m= .over S v->jP ms m (.over S v)
 |fail {m:b5} {S:bp} {c:Int}:uG ms m->mw ms m= .fail S c->jP ms m (.fail S c)
def vR(ms:dz):Prop:=∀p:Int,∀x∈hG ms p,x.fault (hG ms p).length 0=0
def uH(ms:dz):Prop:=∀p f:Int,(kg ms p f).length<=1000000000
def fu(ms:dz)(p f:Int)(v:ak)(fuel:Int)(S:bp):bp×ak×Int×Int:=
 if fuel<0\/2000<fuel\/p<0\/4<=p then(S,bE,0,1)
 else if(ms.getD p.toNat ab).isNone\/f<0\/((hG ms p).length:Int)<=f then(S,bE,0,8)
 else if v.code≠0 then(S,bE,0,v.code)
 else match dL ms fuel.toNat p (fp ms p f) v [] 1 {S with left:=fuel.toNat}with
  |(bx,w,c)=>({bx with left:=S.left},if c=0 then w else bE,fuel - (bx.left:Int),c)
def kE(L:List bk):I:=.bR ab 158 (L.map λx=>[.bR ab 169 ((ce x 0++[(⟨105,0,0⟩:cD)]).map λi:cD=>[.int o i.op,.int o i.k,.int o i.n])])
abbrev lE:aT:=98
abbrev zg:aT:=2
def my(e:oP):List I:=[.int o e.bw,.int o e.cell,.int o e.right,.int o e.node]
def xp(e:aT)(v:I)(rows:List (List I)):cd:=Pm (uD (rows=[]/\v= .aF)) (vP λid:Nat=>zd (rows≠[]/\v= .bR (j id) e rows) (A2 id rows.length))
def gY(b:Nat)(cells:List Int)(log:List oP):cd:=vP λv:I=>hv (a9 b [cells.map (.int o)++[v]]) (xp lE v (log.map my))
def oR(m:Option (List bk)):I:=match m with
 |some L=>kE L
 |none=>.aF
def l3:dz->List (List I)->List I
 |m::ms,k::aZ=>.bool m.isSome::oR m::k++l3 ms aZ
 |_,_=>[]
def l4(b6 ca:Nat)(ms:dz)(aZ:List (List I)):List I:=.ptr b6 0 0::.ptr ca 0 0::l3 ms aZ
def gZ(b b6 ca:Nat)(ms:dz)(kept:List ak):cd:=vP λaZ:List (List I)=>zd (eF kept aZ) (a9 b [l4 b6 ca ms aZ])
def I'(args:List I)(h:ad)(q:(I⊕I)×ad):Prop:=∀(ag ap:Nat->Prop) (az b6 ca:Nat) (ms:dz) (S:bp) (p f fuel:Int) (v:ak) (r:List I),args=[.ptr az 0 0,.int o p,.int o f,.agg r,.int o fuel]->b1 v r->v.size<=100000->ms.length=4->vR ms->uH ms->S.Good->S.log.length<=900000->(c4 [gZ az b6 ca ms S.kept,hM b6 S.G,gY ca S.cells S.log]).A h ag ap->∃bM J,q=(.inl (.bW [.agg bM,.int o (fu ms p f v fuel S).2.2.1,.int o (fu ms p f v fuel S).2.2.2]),J)/\b1 (fu ms p f v fuel S).2.1 bM/\gx h ag ap J (c4 [gZ az b6 ca ms (fu ms p f v fuel S).1.kept,hM b6 (fu ms p f v fuel S).1.G,gY ca (fu ms p f v fuel S).1.cells (fu ms p f v fuel S).1.log])
def acQ:List cJ:=[112,141,58,89,57,140,94,88,53,55,79,67,133,38,138,30,68,62,87,32,75,104,76,105,77,78,80,45,117,95,96,116,115,129,97,118,98,70,100,119,101,60,102,73,26,103,74,41,72,99,71,40,49,18,50,46,131,130,139,143,19,29,42,15,132,142,134,122,120,39,82,81,83,108,84,109,12,135,123,124,125,126,127,128,110,86,111,85,48,69,136,137,25,31,59,63,33,13,43,44,11,14,16,3,4,5,22,52,51,54,56,23,27,28,61,20,21,24,6,7,8,35,90,64,92,91,113,93,114,65,36,66,37,34,9,10]
def acR:List cJ:=[112,141,89,140,94,67,133,38,138,30,62,87,32,104,117,96,116,115,129,97,70,100,119,101,60,102,73,26,103,74,41,49,18,50,46,131,130,139,143,19,29,42,15,132,142,120,82,108,84,109,12,135,25,31,59,63,33,13,11,14,3,4,5,52,27,28,61,20,21,24,6,7,8,90,64,92,91,113,93,114,66,37,34,9,10]
def acS:cJ->aT->Bool:=λg t=>t==145||t==158||t==122||(t==27&&(g==107||g==48||g==54))
def Pw(args:List I)(h:ad)(q:(I⊕I)×ad):Prop:=∀(ag ap:Nat->Prop) (b:Nat) (G:aC) (x:ak) (r:List I) (dU:I) (aZ:List Int),args=[.ptr b 0 0,.agg r,dU]->fO h ag ap b G->G.cz->b1 x r->fE 3 dU (jY aZ)->aZ.length<=1000000->∃bM J,q=(.inl (.bW [.agg bM,.int o (iM aZ G x).2.2]),J)/\b1 (iM aZ G x).2.1 bM/\hF h ag ap b J (iM aZ G x).1
open Classical in
noncomputable def A6(args:List I)(h:ad):Option ((I⊕I)×ad):=
 if H:∃q,AC ar 106 args h q/\Pw args h q then j (Classical.choose H)else ab
def Ja(args:List I)(h:ad):Option ad:=match args with
 |[.ptr a' 0 0,.agg r]=>(h.cell a').bind λes=>match es with
   |[[_,.bd a5 0 k _,_]]=>(h.cell a5).bind λrows=>(rows[k - 1]?).bind λrow=>(row[6]?).bind λs=>(fx Q cg s (.bd (h.n+1) 0 1 cg) ((h.push [r]).push [r])).map λq=>q.2.set a5 (j (rows.set (k - 1) (row.set 6 q.1)))
   |_=>ab
 |_=>ab
open Classical in
noncomputable def En(args:List I)(h:ad):Option ((I⊕I)×ad):=match Ja args h with
 |some J=>if AC ar 107 args h (.inl (.bW []),J)then j (.inl (.bW []),J)else ab
 |none=>ab
def xq(L:List bk):I:=.bW [if(hE L).1=0 then kE L else .aF,.agg [.int o (hE L).1,.int o (hE L).2]]
open Classical in
noncomputable def Eo(args:List I)(h:ad):Option ((I⊕I)×ad):=
 if H:∃L:List bk,(∃v es,args=[.agg [v]]/\fE hu v es/\ih L es)/\AC ar 40 args h (.inl (xq L),h)then j (.inl (xq (Classical.choose H)),h)else ab
open Classical in
noncomputable def Ep(args:List I)(h:ad):Option ((I⊕I)×ad):=
 if H:∃cs:List Int,(∃b dy,args=[.ptr b 0 0]/\h.cell b=j [cs.map (.int o)++[dy]]/\cs.length=12)/\AC ar 25 args h (.inl (.bR ab 2 (cs.map λx=>[.int o x])),h)then j (.inl (.bR ab 2 ((Classical.choose H).map λx=>[.int o x])),h)else ab
open Classical in
noncomputable def A7(args:List I)(h:ad):Option ((I⊕I)×ad):=
 if H:∃q,AC ar 17 args h q/\I' args h q then j (Classical.choose H)else ab
noncomputable def rl:cJ->Option (List I->ad->Option ((I⊕I)×ad)):=λg=>if g=106 then j A6 else if g=107 then j En else if g=40 then j Eo else if g=25 then j Ep else if g=17 then j A7 else ab
noncomputable def W:hh:=xh ar acS rl acQ acR
theorem acT:W.ext 17=j A7:=by show rl 17=_;unfold rl;rw[if_neg (by decide),if_neg (by decide),if_neg (by decide),if_neg (by decide),if_pos rfl]
theorem cX:k6 ar W:=Zs (Zr (by kernel_rfl)) (by kernel_rfl) (by kernel_rfl) (λg ag h=>by
 unfold rl at h;split at h
 ·rename_i e;subst e;injection h with h;subst h;refine⟨_,Try.func106,⟨by kernel_rfl,by kernel_rfl⟩,λargs h r ah=>?_⟩;unfold A6 at ah;split at ah
  ·rename_i H;injection ah with ah;rw[<-ah];exact(Classical.choose_spec H).1
  ·cases ah
 split at h
 ·rename_i e;subst e;injection h with h;subst h;refine⟨_,Try.func107,⟨by kernel_rfl,by kernel_rfl⟩,λargs h r ah=>?_⟩;unfold En at ah;split at ah
  ·split at ah
   ·rename_i H;injection ah with ah;rw[<-ah];exact H
   ·cases ah
  ·cases ah
 split at h
 ·rename_i e;subst e;injection h with h;subst h;refine⟨_,Try.func40,⟨by kernel_rfl,by kernel_rfl⟩,λargs h r ah=>?_⟩;unfold Eo at ah;split at ah
  ·rename_i H;injection ah with ah;rw[<-ah];exact(Classical.choose_spec H).2
  ·cases ah
 split at h
 ·rename_i e;subst e;injection h with h;subst h;refine⟨_,Try.func25,⟨by kernel_rfl,by kernel_rfl⟩,λargs h r ah=>?_⟩;unfold Ep at ah;split at ah
  ·rename_i H;injection ah with ah;rw[<-ah];exact(Classical.choose_spec H).2
  ·cases ah
 split at h
 ·rename_i e;subst e;injection h with h;subst h;refine⟨_,Try.func17,⟨by kernel_rfl,by kernel_rfl⟩,λargs h r ah=>?_⟩;unfold A7 at ah;split at ah
  ·rename_i H;injection ah with ah;rw[<-ah];exact(Classical.choose_spec H).1
  ·cases ah
 cases h)
def eC:ff->ff
 |.seq a _=>a
 |c=>c
def gf:ff->ff
 |.seq _ b=>b
 |c=>c
def lf:ff->Array a0
 |.region _ ops _=>ops
 |_=> #[]
section
variable{P:cp}{W:hh}{f:cJ}{n aI:Nat}{aY:List Nat}{h J:ad}{t V fB:List I}
theorem l5{a:Nat}(cT:r7 a n (W.aI f) aI aY=Q):aY.Nodup/\∀D s,aY[D]? =j s->(D<aI↔s<W.aI f):=by
 unfold r7 at cT;simp only[gS,decide_eq_true_eq,iR,jl,beq_iff_eq,bne_iff_ne,ne_eq]at cT;obtain⟨⟨aJ,a1⟩,bf⟩:=cT;have get:∀D s,aY[D]? =j s->D<aY.length/\aY.getD D 0=s:=λD s U=>⟨(gg.1 U).1,by simp[cK,U]⟩;refine⟨?_,λD s U=>?_⟩
 ·rw[List.nodup_iff_pairwise_ne,List.pairwise_iff_getElem];intro i D aa U gk e;have:=(bf D U).2 i gk;apply this;simp[cK,aa,U,e]
 ·obtain⟨c1,cr⟩:=get D s U;have:=(bf D c1).1.1.2;rw[cr]at this;exact decide_eq_decide.1 this
theorem vS(cX:k6 P W){c:ff}{l:List bl}{x:jd}(qf:aY.Nodup/\∀D s,aY[D]? =j s->(D<aI↔s<W.aI f))(ig:gW P (W.a2 f) (W.cm f) n aY c []=j l)(xr:iJ (W.cm f) (W.e3 f) c=Q)(ah:bo (a3 P W) aI [.bO l,.halt K] V [] h=j (x,fB,J))(b4:fV n aY [] t V []):∃cV,(∀(m:dw) (w:cQ) (a:Act) (b:fs) (cs:List fs),bU P m h w->dp P m h t a.tmps->a.defers=b.defers->dX P (W.e3 f) m h w b cs (ej (b.at a (.code c::K)) cs w) (x,cV,J))/\fV n aY [] cV fB []:=by obtain⟨cV,e,uw⟩:=(D7 (n:=n) (f:=f) qf.1 qf.2 _ _ _ _ _ ah).1 [.code c,.halt K] t (.bO [c] l [.halt K] [.halt K] (by simp[lb,ig]) (.halt K [] [])) b4;refine⟨cV,λm w a b cs hw aL a6=>?_,uw⟩;exact(DU cX f _ t h _ e).dk (.code c::K) (.code c _ _ xr (.halt K [])) b cs m w a hw aL a6
theorem Er{g:cJ}{c:ff}(bc:P.funcs[g]? =j fn)(ai:fn.body=j c)(br:List bK)(eV:CallKind):(i4 P g br.toArray eV).at {tmps:=(br++ax (fn.ntmps - br.length) fg).toArray,defers:=[]} [.code c]=i4 P g br.toArray eV:=by simp[i4,Frame.at,bc,ai]
theorem Es{m:dw}{k:Nat}{br:List bK}(R:dj P m h args br):dp P m h (args++ax (k - args.length) .aP) (br++ax (k - br.length) fg).toArray:=by
 have al:=R.1;have O:dj P m h (args++ax (k - args.length) .aP) (br++ax (k - br.length) fg):=by rw[al];exact dj.append R ⟨by simp,λD U cS=>by simp only[List.getElem_replicate];exact .aP _⟩
 refine⟨by simpa using O.1,λi aa=>?_⟩;have g8:i<(br++ax (k - br.length) fg).length:=by rw[O.1];exact aa
 have:=O.2 i aa g8;simp only[hB,List.getElem?_toArray,fz g8,pf];exact this
theorem Px{m:dw}{b7:Array bK}(aL:dp P m h t b7){i:Nat}(aa:i<t.length):bI P m h (t.getD i .aP) (b7.getD i fg):=by have:=aL.2 i aa;simpa[cK,aa]using this
end
open Go Go.RowKit
section
variable{P:cp}{W:hh}{f:cJ}{n aI:Nat}{aY:List Nat}{h:ad}
def oS(P:cp)(W:hh)(f:cJ)(n:Nat)(aY:List Nat)(args:List I)(h:ad)(x:jd)(V:List I)(O:ad):Prop:=∀(m:dw) (w:cQ) (br:List bK),bU P m h w->dj P m h args br->∀cs:List fs,∃(eS:fs) (t2:List I),eS.fn=f/\eS.kind= .normal/\eS.defers=[]/\fV n aY [] t2 V []/\dX P (W.e3 f) m h w eS cs (ej (i4 P f br.toArray .normal) cs w) (x,t2,O)
theorem oS.start{c:ff}(bc:P.funcs[f]? =j fn)(ai:fn.body=j c)(au:fn.ntmps=n)(b4:fV n aY [] (args++ax (n - args.length) .aP) (args++ax (aY.length - args.length) .aP) []):oS P W f n aY args h (.halt [.code c]) (args++ax (aY.length - args.length) .aP) h:=by
 intro m w br hw e6 cs;have he:=Er bc ai br .normal;have aL:=Es (P:=P) (h:=h) (k:=n) e6;rw[au]at he;refine⟨i4 P f br.toArray .normal,_,by simp[i4],by simp[i4],by simp[i4],b4,m,w,Ext.refl _ _,hw,k0 _ _,{tmps:=_,defers:=[]},aL,?_,?_⟩
 ·simp[i4]
 ·conv=>lhs;rw[<-he]
  exact .refl _ _
theorem oS.next(cX:k6 P W){c A B:ff}{l:List bl}{af:ad}{x:jd}(p:oS P W f n aY args h (.halt [.code c]) V O)(aj:c= .seq A B)(qf:aY.Nodup/\∀D s,aY[D]? =j s->(D<aI↔s<W.aI f))(ig:gW P (W.a2 f) (W.cm f) n aY A []=j l)(xr:iJ (W.cm f) (W.e3 f) A=Q)(ah:bo (a3 P W) aI [.bO l,.halt [.code B]] V [] O=j (x,fB,af)):oS P W f n aY args h x fB af:=by
 intro m w br hw e6 cs;obtain⟨eS,t2,c9,dx,gH,b4,c8,dm,b2,ds,fb,aJ,gU,gz,i6⟩:=p m w br hw e6 cs;obtain⟨t3,aB,xt⟩:=vS cX qf ig xr ah b4;have oJ:=aB c8 dm aJ eS cs ds gU gz;have fq:Steps P (ej (i4 P f br.toArray .normal) cs w) (ej (eS.at aJ [.code A,.code B]) cs dm):=by
  refine i6.trans ?_
  conv=>lhs;rw[aj]
  exact .one step_seq
 exact⟨eS,t3,c9,dx,gH,xt,dX.steps fq (dX.after b2 fb oJ)⟩
theorem Py{rs:List mS}{t:List I}{h:ad}{v:I}(jW:po P aY fn.results.toList=j rs)(b4:fV n aY [] t V [])(R:(ie V h rs).map iH=j v):oB fn t h P=j v:=by unfold oB;rw[y1 (h:=h) b4 jW];exact R
theorem oS.ret{fn:Func}{rs:List mS}{args V:List I}{O:ad}{v:I}(p:oS P W f n aY args h .ret V O)(bc:P.funcs[f]? =j fn)(jW:po P aY fn.results.toList=j rs)(R:(ie V O rs).map iH=j v):AC P f args h (.inl v,O):=by intro m w br hw e6 cs;obtain⟨eS,t2,c9,dx,gH,b4,aR,aV,b2,ds,fb,dO,todo,gU,gz,i6⟩:=p m w br hw e6 cs;rw[gH]at gz;obtain⟨u,cT,hA⟩:=w2 ds gU (Py (h:=O) jW b4 R);exact⟨.returned u,aV,_,⟨aR,b2,ds,fb,u,rfl,hA⟩,i6,c9,rfl,gz,dx,_,by simp[Frame.at,c9,bc],cT⟩
theorem NE{t:List I}{i:Nat}{v:I}(b4:fV n aY [] t V [])(aa:i ∉ aY):fV n aY [] (ev t (j i) v) V []:=by refine⟨by simpa[ev]using b4.len,b4.dy,b4.te,λD s U=>?_,λD s U=>by simp at U⟩;obtain⟨F,O⟩:=b4.v D s U;refine⟨F,?_⟩;rw[<-O];have cO:i≠s:=λe=>aa (by rw[e];exact p6 U);simp[ev,cK,cO]
def sh(a:Act)(ij:List Nat):List bK:=ij.map λi=>a.tmps.getD i fg
theorem acU{m:dw}{t:List I}{a:Act}{ij rm:List Nat}(b4:fV n aY [] t V [])(aL:dp P m O t a.tmps)(aj:ij=rm.map λD=>aY.getD D 0)(U:∀D∈rm,D<aY.length):dj P m O (rm.map λD=>V.getD D .aP) (sh a ij):=by
 subst aj;refine⟨by simp[sh],λi F O=>?_⟩;simp only[iX]at F;have bh:=U _ (h2 F);have av:aY[rm[i]]? =j (aY.getD rm[i] 0):=by simp[cK,bh]
 obtain⟨bN,bL⟩:=b4.v _ _ av;have:=Px aL (i:=aY.getD rm[i] 0) (by rw[b4.len];exact bN);rw[bL]at this;simpa[sh]using this
theorem dj.acV{m aR:dw}{h J:ad}{l:List I}{us:List bK}(v:dj P m h l us)(x:Ext m h aR J):dj P aR J l us:=⟨v.1,λD F O=>(v.2 D F O).ext x⟩
theorem Pz{P:cp}{t cV:List I}{h:ad}:∀{l:List ResultVar},(∀r∈l,∃i ty,r= .cell i ty/\t.getD i .aP=cV.getD i .aP)->oA P t h l=oA P cV h l
 |[],_=>rfl
 |r::l,al=>by obtain⟨i,ty,rfl,e⟩:=al r (List.mem_cons_self ..);have aW:oA P t h l=oA P cV h l:=Pz λq aG=>al q (List.mem_cons_of_mem _ aG);simp only[oA,e,aW]
def zh(eI:cJ)(us:List bK):bK:=.func (.func eI) #[] us.toArray
def rn(eI:cJ)(us:List bK):Deferred:={target:=.fn (.func eI) us.toArray,args:= #[]}
inductive Jb(P:cp)(eI:cJ)(Et:List I)(af aw:ad):jd->Prop
 |ret (jK:∀(m:dw) (w:cQ) (f':List bK),bU P m af w->dj P m af Et f'->CallsD P eI f'.toArray .returning w λe mz aV=>(∃v,e= .returned v)/\mz= .returning/\∃aR,Ext m af aR aw/\bU P aR aw aV/\Below m.base w aV):Jb P eI Et af aw .ret
 |panic (v:I) (jK:∀(m:dw) (w:cQ) (f':List bK) (u:bK),bU P m af w->dj P m af Et f'->bI P m af v u->CallsD P eI f'.toArray (.panicking [{v:=u,recovered:=T}]) w λe mz aV=>(∃v,e= .returned v)/\mz= .panicking [{v:=u,recovered:=Q}]/\∃aR,Ext m af aR aw/\bU P aR aw aV/\Below m.base w aV):Jb P eI Et af aw (.panic v)
theorem PA(cX:k6 P W){rs:List mS}{af aw:ad}{lF lG:ff}{eI:cJ}{k:Nat}{ij rm:List Nat}{l:List bl}{x:jd}{r:I}(p:oS P W f n aY args h (.halt [.code lF]) V O)(bc:P.funcs[f]? =j fn)(Eu:∃nB,P.funcs[(eI:Nat)]? =j nB/\(nB.body.isNone=T/\(nB.name== "runtime.NumGoroutine")=T))(Z:k ∉ aY)(aj:ij=rm.map λD=>aY.getD D 0)(U:∀D∈rm,D<aY.length)(lay:∀(eS:fs) (a:Act) (cs:List fs) (w:cQ),a.tmps.size=n->Steps P (ej (eS.at a [.code lF]) cs w) (ej (eS.at {a.put (j k) (zh eI (sh a ij))with defers:=rn eI (sh a ij)::a.defers} [.code lG]) cs w))(qf:aY.Nodup/\∀D s,aY[D]? =j s->(D<aI↔s<W.aI f))(ig:gW P (W.a2 f) (W.cm f) n aY lG []=j l)(xr:iJ (W.cm f) (W.e3 f) lG=Q)(ah:bo (a3 P W) aI [.bO l,.halt []] V [] O=j (x,fB,af))(mm:∀r∈fn.results.toList,∃i ty,r= .cell i ty/\W.e3 f i=Q)(he:Jb P eI (rm.map λD=>V.getD D .aP) af aw x)(jW:po P aY fn.results.toList=j rs)(R:(ie fB aw rs).map iH=j r):AC P f args h (.inl r,aw):=by
 intro m w br hw e6 cs;obtain⟨eS,t2,c9,dx,gH,b4,cu,gu,b2,ds,fb,a1,gU,gz,i6⟩:=p m w br hw e6 cs;rw[gH]at gz;have ey:a1.tmps.size=n:=by rw[gU.1,b4.len]
 have lay:=lay eS a1 cs gu ey;have PB:=acU b4 gU aj U;generalize sh a1 ij=us at lay PB;rw[gz]at lay;have A8:=gU.put (bI.aP (zh eI us)) (j k);have xt:=NE (i:=k) (v:=.aP) b4 Z;obtain⟨t5,aB,vT⟩:=vS cX qf ig xr ah xt;obtain⟨je,jA,fT,jf,lx,mQ⟩:=aB cu gu {a1.put (j k) (zh eI us)with defers:=[rn eI us]} {eS with defers:=[rn eI us]} cs ds A8 rfl;have PC:=dj.acV PB fT;have fv:oB fn t5 aw P=j r:=Py jW vT R;have PD:(invoke (.fn (.func eI) us.toArray) #[]).run P jA= .ok (.enter eI us.toArray) jA:=by
  obtain⟨nB,c1,cr,eg⟩:=Eu;have acW:¬nB.name= "runtime.NumGoroutine":=by simpa using eg
  have acX:¬nB.body=ab:=by cases ai:nB.body with|none=>rw[ai]at cr;cases cr|some c=>simp
  simp[go_sem,callFunc,c1,acX,acW]
 have PE:∀{i7:dw} {aV:cQ},Below je.base jA aV->Below m.base w aV:=by intro i7 aV ho;have bN:cu.base=m.base:=b2.base;have bL:je.base=cu.base:=fT.base;rw[bL,bN]at ho;rw[bN]at lx;exact(fb.trans lx).trans ho
 cases he with
 |ret jK=>
   obtain⟨ez,todo,e8,g9,ho⟩:=mQ;have ro:Leaves P fn ez.tmps (λe aV=>∃aR,Ext m h aR aw/\bU P aR aw aV/\Below m.base w aV/\∃u,e= .returned u/\bI P aR aw r u) [rn eI us] .returning jA:=by refine leaves_cons (f:=eI) (args:=us.toArray) (by simp) PD ?_;refine(jK je jA us jf PC).mono ?_;rintro e mz aV ⟨⟨v,rfl⟩,rfl,i7,ek,iA,og⟩;obtain⟨u,cT,hA⟩:=w2 iA (e8.ext ek) fv;exact⟨u,cT,i7,(b2.trans fT).trans ek,iA,PE (i7:=i7) og,u,rfl,hA⟩
   obtain⟨e,ir,xu,jk,av,mR,al⟩:=leaves_steps [rn eI us] .returning jA {(({eS with defers:=[rn eI us]}:fs).at ez todo)with mode:=.returning} cs rfl g9 rfl (by simp[Frame.at,c9,bc]) (by simpa[Frame.at]using dx) ro;exact⟨e,ir,xu,jk,Comes.of_steps (i6.trans (lay.trans ho)) av,mR.trans c9,al⟩
 |panic v jK=>
   obtain⟨ez,todo,u,⟨rS,tq,e8⟩,g9,nt,ho⟩:=mQ;have acY:oB fn rS aw P=j r:=by rw[<-fv];unfold oB;rw[Pz λq aG=>by obtain⟨i,ty,e,aa⟩:=mm q aG;exact⟨i,ty,e,e8 i aa⟩]
   have ro:Leaves P fn ez.tmps (λe aV=>∃aR,Ext m h aR aw/\bU P aR aw aV/\Below m.base w aV/\∃u,e= .returned u/\bI P aR aw r u) [rn eI us] (.panicking [{v:=u,recovered:=T}]) jA:=by refine leaves_cons (f:=eI) (args:=us.toArray) (by simp) PD ?_;refine(jK je jA us u jf PC nt).mono ?_;rintro e mz aV ⟨⟨v,rfl⟩,rfl,i7,ek,iA,og⟩;obtain⟨mi,cT,hA⟩:=w2 iA (tq.ext ek) acY;exact⟨mi,cT,i7,(b2.trans fT).trans ek,iA,PE (i7:=i7) og,mi,rfl,hA⟩
   obtain⟨e,ir,xu,jk,av,mR,al⟩:=leaves_steps [rn eI us] (.panicking [{v:=u,recovered:=T}]) jA {(({eS with defers:=[rn eI us]}:fs).at ez todo)with mode:=.panicking [{v:=u,recovered:=T}]} cs rfl g9 rfl (by simp[Frame.at,c9,bc]) (by simpa[Frame.at]using dx) ro;exact⟨e,ir,xu,jk,Comes.of_steps (i6.trans (lay.trans ho)) av,mR.trans c9,al⟩
theorem acZ(c:fs)(h:c.mode= .returning)(cs:List fs):recoverD (c::cs)=ab:=by simp[recoverD,h]
theorem ac0{v:bK}(c:fs)(h:c.mode= .panicking [{v:=v,recovered:=T}])(cs:List fs):recoverD (c::cs)=j (v,{c with mode:=.panicking [{v:=v,recovered:=Q}]}::cs):=by simp[recoverD,h]
def PF(P:cp)(c:ff)(n a4 bn:Nat):Prop:=∀(b7:Array bK) (v:bK) (cs fM:List fs) (w:cQ),b7.size=n->(recoverD cs=j (v,fM)\/(recoverD cs=ab/\v= .nilIface/\fM=cs))->c.wpS P (λe dO ac1 aV=>e= .normal/\ac1=fM/\aV=w/\dO=(({tmps:=b7,defers:=[]}:Act).put (j a4) v).put (j bn) v) {tmps:=b7,defers:=[]} cs w
theorem PG{nB:Func}{tr:ff}{a4 bn:Nat}(cX:k6 P W){l:List bl}{ij:List I}{J:ad}{e:I}(bc:P.funcs[f]? =j nB)(ai:nB.body=j tr)(ac2:tr= .seq (eC tr) (gf tr))(au:nB.ntmps=n)(s4:∀(a:Array bK) (w:cQ),∃v,(results nB a).run P w= .ok v w)(Jc:PF P (eC tr) n a4 bn)(qf:aY.Nodup/\∀D s,aY[D]? =j s->(D<aI↔s<W.aI f))(ig:gW P (W.a2 f) (W.cm f) n aY (gf tr) []=j l)(xr:iJ (W.cm f) (W.e3 f) (gf tr)=Q)(ah:bo (a3 P W) aI [.bO l,.halt []] V [] h=j (.halt [],fB,J))(b4:fV n aY [] (ev (ev (ij++ax (n - ij.length) .aP) (j a4) e) (j bn) e) V []){m:dw}{w:cQ}{f':List bK}{v:bK}(hw:bU P m h w)(e6:dj P m h ij f')(jh:ij.length<=n)(A9:bI P m h e v){u:FrameMode}(fj:FrameMode)(Al:∀c:fs,c.mode=u->∀cs,(recoverD (c::cs)=j (v,{c with mode:=fj}::cs))\/(recoverD (c::cs)=ab/\v= .nilIface/\fj=u)):CallsD P f f'.toArray u w λe mz aV=>(∃v,e= .returned v)/\mz=fj/\∃aR,Ext m h aR J/\bU P aR J aV/\Below m.base w aV:=by
 intro c cs bH;have he:=Er bc ai f' .deferred;have aL:=Es (P:=P) (h:=h) (k:=n) e6;generalize Jd:i4 P f f'.toArray .deferred=b at he;have qT:b.kind= .deferred:=by rw[<-Jd];simp[i4]
 have A':b.fn=f:=by rw[<-Jd];simp[i4]
 have Je:b.roundOf=ab:=by rw[<-Jd];simp[i4]
 rw[au]at he;generalize aM:(f'++ax (n - f'.length) fg).toArray=b7 at he aL;have F:Steps P (ej b (c::cs) w) (ej (b.at {tmps:=b7,defers:=[]} [.code (eC tr),.code (gf tr)]) (c::cs) w):=by
  rw[<-he]
  conv=>lhs;rw[ac2]
  exact .one step_seq
 have ey:b7.size=n:=by rw[aL.1];simp only[eP,List.length_replicate];omega
 have nf:recoverD (c::cs)=j (v,{c with mode:=fj}::cs)\/(recoverD (c::cs)=ab/\v= .nilIface/\({c with mode:=fj}:fs)::cs=c::cs):=by
  rcases Al c bH cs with F|⟨F,O,af⟩
  ·exact .inl F
  ·have aw:({c with mode:=fj}:fs)=c:=by rw[af,<-bH]
   exact .inr ⟨F,O,by rw[aw]⟩
 obtain⟨ao,aJ,ID,dm,⟨rfl,rfl,rfl,rfl⟩,xv⟩:=Jc b7 v _ _ w ey nf b [.code (gf tr)] qT Je;have zi:=(aL.put (a:={tmps:=b7,defers:=[]}) A9 (j a4)).put A9 (j bn);obtain⟨cV,aB,ac3⟩:=vS cX qf ig xr ah b4;obtain⟨aR,aV,b2,ds,fb,dO,gU,gz,i6⟩:=aB m dm _ {b with defers:=[]} ({c with mode:=fj}::cs) hw zi rfl;have n2:Steps P (ej b (c::cs) dm) (ej {b.at dO []with mode:=.returning} ({c with mode:=fj}::cs) aV):=F.trans (xv.trans (i6.trans (.one step_end)));obtain⟨mo,AB⟩:=s4 dO.tmps aV;refine⟨.returned mo,fj,aV,_,⟨⟨_,rfl⟩,rfl,aR,b2,ds,fb⟩,n2,qT,rfl,gz,nB,?_,AB⟩;show P.funcs[b.fn]? =_;rw[A'];exact bc
end
def Ev:List bl:=[.ops [.i (.v 5) (.box 3 (.v 3)),.i (.v 6) (.box 1 (.v 4)),Jf,.i (.v 8) Jg,.i (.v 9) Jg]]
def vU:List bl:=[.block 0 [.ops [Jh,si,di,.g (.l 0) T .l (.load T 1 (.v 6)),.g (.l 1) T .l (.bin (.int o) .gtr (.l 0) (.c (.int o 2000))),zj,di,Ji,Jj,zj,di,Ji,PH,zj,Jk],.cond (.v 14) [.ops [uI,Ew,Jl,.i .n (.store 1 (.v 9) (.c (.int o 1)))],.ret] [.ops [bj,en,Ba,mW,Bb,eT,bb,ts,di,Ex,Jj,zj,di,Ex,.g (.l 1) T .l (.ba (.v 0)),.g (.l 2) T .l (.ba (.v 1)),.g (.l 3) T .l (.k9 (.l 1)),.g (.l 4) T .l (.cy 2 (.l 0)),.g (.l 5) T .l (.ga ab (j (4,5)) (.l 0) (.l 2)),PI,.g (.l 7) T .l rp,.g (.l 8) T .l (.len T (j 158) (.l 0)),.g (.l 9) T .l PJ,.i .l (.pick (.l 10) (.c (.bool Q)) (.l 0)),Ey],.cond (.v 15) [.ops [uI,Ew,Jl,.i .n (.store 1 (.v 9) (.c (.int o 8)))],.ret] []]]]
def Ez:List bl:=[.ops [sj,Jm,Bc],.ops [EA,.i (.v 16) Bd],.cond (.v 16) [.ops [uI,EA,.i .n (.store 3 (.v 7) (.l 1)),Jl,.i .n (.store 1 (.v 9) (.l 0))],.ret] []]
def EB:List bl:=[.ops [bj,Jh,.i .l (.build [.gd,.aF,.int o 0] [(0,1),(1,1),(2,1)] [(0,(.l 1)),(2,(.l 0))]),.i .l (.box 3 (.l 0)),.i (.v 11) (.alloc [.gd]),.i .n (.store 1 (.v 11) (.l 0))]]
def EC:List bl:=[.ops [Jn,en,iY,sj,PK,.bX [⟨ab,T,1,.v 11,(.l 4)⟩],.i .l (.build [.int o 0,.int o 0,.int o 0,.int o 0,.int o 0,.aF,.aF,.aF,.bool T,.aF] [(0,1),(1,1),(2,1),(3,3),(6,1),(7,1),(8,1),(9,1)] [(0,(.l 3)),(1,(.l 2)),(3,(.l 0))]),PL,.bX [⟨ab,T,1,.v 11,(.l 6)⟩],Be,iD,mA]]
def zk:List bl:=[.block 2 [.ops [Jn,.i .l (.call (.c (.fn 48 [] [])) [.l 0]),di,lg,lh,.i (.v 12) PM,.i .n (.store 3 (.v 12) (.l 1)),Bf],.ops [.i (.v 17) (.ba (.v 13))],.cond (.v 17) [.ops [.i .l (.load Q 3 (.v 12)),Jh,Jn,cM,mW,bb,PN,.i .l (.call (.c (.fn 46 [] [])) [.l 6]),.bX [⟨ab,T,1,.v 6,(.l 6)⟩,⟨ab,T,1,.v 11,(.l 5)⟩,⟨ab,T,1,.l 3,(.l 2)⟩],Ew,.bX [⟨ab,T,1,.v 6,(.l 6)⟩,⟨ab,T,1,.v 11,(.l 5)⟩,⟨ab,T,1,.l 3,(.l 2)⟩],.i .n (.store 1 (.v 8) (.l 1)),.i .n (.store 1 (.v 9) (.c (.int o 0)))],.ret] []]]
def Bg:List bl:=[.block 1 [.loop zk]]
def Jo:List bl:=[.ops [h5,.i (.v 8) (.yT .iface ab Q .neq (.l 0) (.c .hb))],.cond (.v 8) [.ops [h5,.i .l (.AJ 127 Q (.l 0)),di,lg,lh,ED,l6],.ops [mX,.i (.v 9) vV],.cond (.v 9) [.ops [h5,EE]] [],.ops [uI,.i .l (.load T 1 (.v 0)),.i .l (.load T 1 (.v 1)),cM,mW,bb,PN,pz,.i .n (.store 3 (.v 2) (.l 7)),.i .n (.store 1 (.v 3) (.l 1)),.i .n (.store 1 (.v 4) (.l 0))]] []]
def Jp:List bl:=[.ops [Jq,zl],.ops [bj,cM,iD,bb,PO,.i (.v 3) (.bin (.int o) .eql (.l 0) (.c (.int o 20)))],.cond (.v 3) [.ops [Jq,.i (.v 2) (.ba (.c (.int o 11)))],.ret] [],.ops [bj,bj,cM,iD,bb,.i .l (.kC Q 4 [.bool T] 1 1 [(0,(.c (.bool T)))]),.i .l (.app Q 4 (.l 1) (.l 0)),Be,iD,mA],.ops [bj,cM,iD,bb,PO,qg,ge,zl],.ret]
theorem PQ:c3 ar W 58 1 4 [0,2,3,9] Jp [(.v 1),(.v 2)] T:=by refine⟨_,_,Try.func58,rfl,rfl,?_,?_,?_,?_,?_⟩<;>kernel_rfl
def PR:List bl:=[nC,.ops [en,qh,di,Bh,PS,PT,.g (.l 3) Q .l (.cy 1 (.l 0)),EF,.g (.l 5) Q .l (.len T (j 4) (.l 0)),PU,PV,lj],.ret]
theorem ac4:c3 ar W 89 2 3 [0,1,4] PR [(.v 2)] Q:=by refine⟨_,_,Try.func89,rfl,rfl,?_,?_,?_,?_,?_⟩<;>kernel_rfl
def Jr:List bl:=[uJ,.ops [bj,en,PW,.i (.v 3) vV],.cond (.v 3) [.ops [.i (.v 2) Js],.ret] [],.ops [bj,cM,iD,bb,en,.i .l PX,.i .n (.store 1 (.l 0) (.c (.bool Q)))],uJ,.ret]
theorem PY:c3 ar W 57 2 4 [0,1,4,8] Jr [(.v 2)] T:=by refine⟨_,_,Try.func57,rfl,rfl,?_,?_,?_,?_,?_⟩<;>kernel_rfl
def PZ:List bl:=[nC,.ops [bj,en,PW,di,xw,P0,P1,zm,.g (.l 4) Q .l (.ba (.v 1)),.g (.l 5) Q .l PX,Jt,.g (.l 7) Q .l vV,.i .l Ju,lj],.ret]
theorem ac5:c3 ar W 140 2 3 [0,1,4] PZ [(.v 2)] Q:=by refine⟨_,_,Try.func140,rfl,rfl,?_,?_,?_,?_,?_⟩<;>kernel_rfl
def P2:List bl:=[nC,.ops [en,qh,di,Bh,PS,PT,.g (.l 3) Q .l (.cy 0 (.l 0)),EF,.g (.l 5) Q .l (.len T (j 103) (.l 0)),PU,PV,lj],.ret]
theorem ac6:c3 ar W 94 2 3 [0,1,4] P2 [(.v 2)] Q:=by refine⟨_,_,Try.func94,rfl,rfl,?_,?_,?_,?_,?_⟩<;>kernel_rfl
def xx:List bl:=[.ops [.i (.v 2) (.box 6 (.v 1)),uK,sk],.block 0 [.ops [vW,bb,EG,ts,oh],.cond (.v 5) [.ops [uK,Jv],.ret] [.ops [oT,bb,.i .l (.bin (.int o) .neq (.l 0) (.c (.int o (-1)))),di,xw,.g (.l 1) Q .l (.cy 1 (.v 2)),zn,.g (.l 3) Q .l (.call (.c (.fn 89 [] [])) [.l 2,.l 0]),Jw,Bi,tt],.cond (.v 6) [.ops [uK,.i (.v 4) Js],.ret] [.ops [bj,cM,eT,bb,EH,.i .l (.bin (.int o) .eql (.l 0) (.c (.int o 80))),l6],.cond (.v 7) [.ops [uK,.i (.v 4) (.ba (.c (.int o 11)))],.ret] []]]],.ops [bj,bj,cM,eT,bb,.i .l (.load Q 6 (.v 2)),P3,.bX [⟨ab,T,1,.l 3,(.l 2)⟩],.i .l (.app T 103 (.l 2) (.l 0)),Jx,eT,mA],.ops [bj,cM,eT,bb,EH,qg,kF,sk],.ret]
theorem zo:c3 ar W 88 2 8 [0,1,3,4,5,6,11,22] xx [(.v 3),(.v 4)] T:=by refine⟨_,_,Try.func88,rfl,rfl,?_,?_,?_,?_,?_⟩<;>kernel_rfl
def Jy:List bl:=[.ops [sk,xy],.ops [en,Jz,zp],.cond (.v 6) [.ops [sk,.i (.v 5) EI],.ret] [],.ops [bj,eY,iY,en,.i .l (.build [.int o 0,.int o 0,.int o 0,.int o 0,.int o 0,.int o 0] [(0,1),(1,1),(2,1),(3,1),(4,1),(5,1)] [(0,(.c (.int o (-1)))),(1,(.l 2)),(2,(.l 1)),(3,(.l 0)),(4,(.c (.int o (-1))))]),P4,lg,lh,Bj,oh],.ret]
theorem P5:c3 ar W 53 4 7 [0,1,2,3,8,9,12] Jy [(.v 4),(.v 5)] T:=by refine⟨_,_,Try.func53,rfl,rfl,?_,?_,?_,?_,?_⟩<;>kernel_rfl
def JA:List bl:=[.ops [xy,P6],.ops [en,si,di,Ji,PH,zj,di,Ex,Jj,zj,di,Ex,.g (.l 1) T .l (.bin (.int o) .geq (.l 0) (.c (.int o 6))),.i (.v 7) P7],.cond (.v 7) [.ops [xy,.i (.v 6) EI],.ret] [],.ops [bj,jo,eY,en,iY,.i .l (.build [.int o 0,.int o 0,.int o 0,.int o 0,.int o 0,.int o 0] [(0,1),(1,1),(2,1),(3,1),(4,1),(5,1)] [(0,(.c (.int o (-1)))),(1,(.l 3)),(2,(.l 2)),(4,(.l 1)),(5,(.l 0))]),.i .l (.call (.c (.fn 88 [] [])) [.l 5,.l 0]),lg,lh,Bk,tt],.ret]
theorem P8:c3 ar W 55 5 8 [0,1,2,3,4,10,11,25] JA [(.v 5),(.v 6)] T:=by refine⟨_,_,Try.func55,rfl,rfl,?_,?_,?_,?_,?_⟩<;>kernel_rfl
def JB:List bl:=[.ops [sk,xy],.ops [bj,en,.i .l P9,zp],.cond (.v 6) [.ops [sk,.i (.v 5) Js],.ret] [],.ops [bj,en,eY,iY,.i .l (.build [.int o 0,.int o 0,.int o 0,.int o 0,.int o 0,.int o 0] [(0,1),(1,1),(2,1),(3,1),(4,1),(5,1)] [(0,(.l 2)),(1,(.l 1)),(2,(.l 0)),(4,(.c (.int o (-1))))]),P4,lg,lh,Bj,oh],.ret]
theorem P':c3 ar W 79 4 7 [0,1,2,3,8,9,13] JB [(.v 4),(.v 5)] T:=by refine⟨_,_,Try.func79,rfl,rfl,?_,?_,?_,?_,?_⟩<;>kernel_rfl
def EJ:List bl:=[.ops [bj,en,.i (.v 4) P9],.cond (.v 4) [] [.exit 0],.block 1 [.ops [eY,bj,cM,eT,bb,en,Qa,EK,P3,.i .l (.app T 103 (.l 8) (.l 0)),kF],.ops [bj,cM,eT,bb,en,Qa,eT,bb,ge]]]
def Qb:List bl:=[EL,.ops [JC],.block 0 [.loop EJ],zq,.ret]
theorem ac7:c3 ar W 67 2 5 [0,1,4,5,8] Qb [(.v 2)] Q:=by refine⟨_,_,Try.func67,rfl,rfl,?_,?_,?_,?_,?_⟩<;>kernel_rfl
def Bl:List bl:=[.ops [JD],.cond (.v 9) [] [.exit 0],.block 1 [.ops [EM,.i .l (.ga (j 103) ab (.v 6) (.v 8)),EK,Qc,.i (.v 4) (.ba (.l 2)),In],.ops [.i .l (.cy 1 (.v 5)),bb,qh,di,xw,.g (.l 1) Q .l (.cy 1 (.v 5)),zn,.g (.l 3) Q .l (.call (.c (.fn 140 [] [])) [.l 2,.l 0]),Jw,.i (.v 10) EN],.cond (.v 10) [uJ,.ret] [],.ops [jo,JE],.cond (.v 11) [.ops [.i (.v 3) (.ba (.c (.int o 15)))]] [],.ops [eY,.i .l (.cy 2 (.v 5)),bb,.i .l (.call (.c (.fn 141 [] [])) [.l 2,.l 0]),kF]],JF]
def Qd:List bl:=[uJ,xz,.ops [bj,en,.i (.v 6) JG,.i (.v 7) (.len T (j 103) (.v 6)),JH],.block 0 [.loop Bl],zq,.ret]
theorem ac8:c3 ar W 133 2 12 [0,1,4,5,6,7,10,11,12,13,26,28] Qd [(.v 2)] Q:=by refine⟨_,_,Try.func133,rfl,rfl,?_,?_,?_,?_,?_⟩<;>kernel_rfl
def Qe:List bl:=[.ops [.i (.v 2) Qf,JI],.ops [bj,en,.i .l JG,oi],.ops [jo,EH,.i (.v 5) Bm],.cond (.v 5) [.ops [.i .l (.build [.int o 0,.int o 0,.int o 0,.int o 0,.int o 0,.int o 0] [(0,1),(1,1),(2,1),(3,1),(4,1),(5,1)] []),Qg,JI],.ret] [],.ops [jo,jo,EH,qg,.i .l (.ga (j 103) ab (.l 3) (.l 0)),EK,Qg,.i (.v 3) (.ba (.c (.bool Q)))],.ret]
theorem ac9:c3 ar W 38 2 6 [0,1,4,5,6,12] Qe [(.cell Q 6 2),(.v 3)] Q:=by refine⟨_,_,Try.func38,rfl,rfl,?_,?_,?_,?_,?_⟩<;>kernel_rfl
def EO:List bl:=[.ops [Qh],.cond (.v 8) [] [.exit 0],.block 1 [.ops [.i .l (.ga (j 103) ab (.v 5) (.v 7)),EK,Qi,Qj],.ops [xA,bb,.i (.v 9) Bn],.cond (.v 9) [.ops [eY,xA,bb,Qk,Ql,kF]] []],.ops [Qm,l6]]
def Qn:List bl:=[EL,.ops [JC],.ops [bj,en,.i (.v 5) JG,.i (.v 6) (.len T (j 103) (.v 5)),JJ],.block 0 [.loop EO],zq,.ret]
theorem ac':c3 ar W 138 2 10 [0,1,4,5,7,10,11,12,13,18] Qn [(.v 2)] Q:=by refine⟨_,_,Try.func138,rfl,rfl,?_,?_,?_,?_,?_⟩<;>kernel_rfl
def Qo:List bl:=[vX,.ops [bj,cM,eT,bb,.i .l (.call (.c (.fn 62 [] [])) [.l 0]),ge],.ret]
theorem ada:c3 ar W 30 1 2 [0,2] Qo [(.v 1)] Q:=by refine⟨_,_,Try.func30,rfl,rfl,?_,?_,?_,?_,?_⟩<;>kernel_rfl
def Qp:List bl:=[EP,.ops [.i .l (.build [.aF,.aF] [(0,1),(1,1)] []),JK,Bo],.ret]
theorem adb:c3 ar W 68 0 1 [0] Qp [(.v 0)] T:=by refine⟨_,_,Try.func68,rfl,rfl,?_,?_,?_,?_,?_⟩<;>kernel_rfl
def JL:List bl:=[vX,JM,.cond (.v 2) [vX,.ret] [],.ops [.i .l (.kC T 103 [.int o 0,.int o 0,.int o 0,.int o 0,.int o 0,.int o 0] 6 0 []),bj,.i .l (.app T 103 (.l 1) (.l 0)),ge],.ret]
theorem Qq:c3 ar W 62 1 3 [0,2,4] JL [(.v 1)] Q:=by refine⟨_,_,Try.func62,rfl,rfl,?_,?_,?_,?_,?_⟩<;>kernel_rfl
def Qr:List bl:=[.ops [JN],.ops [bj,qh,di,xw,.g (.l 1) Q .l (.bin (.int o) .lss (.l 0) (.c (.int o 12))),ER,ge],.ret]
theorem ade:c3 ar W 87 1 2 [0,2] Qr [(.v 1)] Q:=by refine⟨_,_,Try.func87,rfl,rfl,?_,?_,?_,?_,?_⟩<;>kernel_rfl
open Go.RowKit
theorem adf(y:BitVec 64):((y&&& 1#64).toInt==1)=y.getLsbD 0:=by
 have h:(y&&& 1#64).toNat=y.toNat % 2:=by rw[BitVec.toNat_and];exact Nat.and_one_is_mod _
 have ai:y.getLsbD 0=decide (y.toNat % 2=1):=by rw[BitVec.getLsbD,Nat.testBit_zero]
 rw[ai,Bool.eq_iff_iff,beq_iff_eq,decide_eq_true_eq,BitVec.toInt_eq_toNat_cond,h];split<;>omega
theorem Qs(x:BitVec 64){k:Nat}(Z:k<64):iV x.toInt k=x.getLsbD k:=by
 unfold iV;have e:x.toInt / 2 ^ k=(x.sshiftRight k).toInt:=by rw[BitVec.toInt_sshiftRight,Int.shiftRight_eq_div_pow];simp
 rw[e,I0,Eh];show((_&&& 1#64).toInt==1)=_;rw[adf,BitVec.getLsbD_sshiftRight];simp;omega
open Go.RowKit
theorem adg(P:List er)(h6:∀n∈P,uz n.et=Q)(v:BitVec 64):P.foldl (λr n=>ri r n.et) v.toInt=(P.foldl (λv n=>v&&& nU 64 n.et) v).toInt:=by
 induction P generalizing v with
 |nil=>rfl
 |cons n P aW=>
   rw[List.foldl_cons,List.foldl_cons];have e:ri v.toInt n.et=(v&&& nU 64 n.et).toInt:=by unfold ri;rw[I0,Eh]
   rw[e,aW (λm hm=>h6 m (by simp[hm]))]
theorem adh(n:er):(dS n).length=6:=rfl
theorem adi(n:er):(dS n).all I.one=Q:=rfl
theorem adj(n:er):(dS n)[0]? =j (.int o n.parent):=rfl
theorem adk(n:er):(dS n)[1]? =j (.int o n.gate):=rfl
theorem adl(n:er):(dS n)[2]? =j (.int o n.et):=rfl
theorem adm(n:er):(dS n)[3]? =j (.int o n.cell):=rfl
theorem adn(n:er):(dS n)[4]? =j (.int o n.bw):=rfl
theorem ado(n:er):(dS n)[5]? =j (.int o n.func):=rfl
theorem qi:(∀n,(dS n).length=6)/\(∀n,(dS n).all I.one=Q)/\(∀n:er,(dS n)[0]? =j (.int o n.parent))/\(∀n:er,(dS n)[1]? =j (.int o n.gate))/\(∀n:er,(dS n)[2]? =j (.int o n.et))/\(∀n:er,(dS n)[3]? =j (.int o n.cell))/\(∀n:er,(dS n)[4]? =j (.int o n.bw))/\(∀n:er,(dS n)[5]? =j (.int o n.func)):=⟨adh,adi,adj,adk,adl,adm,adn,ado⟩
theorem uB.e'{h:ad}{ap:Nat->Prop}{e:aT}{v:I}{rows:List (List I)}(g:uB h ap e v rows):oM e v rows:=by
 rcases g with⟨rfl,rfl⟩|⟨id,_,_,_,_,rfl⟩
 ·exact IM e
 ·exact AX _ _ _
theorem uC.len{h:ad}{ag:Nat->Prop}{b:Nat}{e:aT}{v:I}{rows:List (List I)}(g:uC h ag b e v rows):h0 v=j rows.length/\∀s,jL s (j e) v=Q:=by
 rcases g with⟨rfl,rfl⟩|⟨q,_,_,_,_,rfl⟩
 ·exact⟨rfl,λs=>rfl⟩
 ·exact⟨rfl,λs=>AS⟩
theorem uB.iZ{h J:ad}{ap:Nat->Prop}{e:aT}{v:I}{rows:List (List I)}(g:uB h ap e v rows)(x:aK h J):uB J ap e v rows:=by
 rcases g with F|⟨id,F,ae,O,af,aw⟩
 ·exact .inl F
 ·exact .inr ⟨id,F,ae,eL O x.ids,(x.hw id O).trans af,aw⟩
theorem uC.iZ{h J:ad}{ag:Nat->Prop}{b:Nat}{e:aT}{v:I}{rows:List (List I)}(g:uC h ag b e v rows)(x:aK h J):uC J ag b e v rows:=by
 rcases g with F|⟨q,F,O,af,aw,bg⟩
 ·exact .inl F
 ·exact .inr ⟨q,F,O,eL af x.n,(x.cell q af).trans aw,bg⟩
theorem fO.iZ{h J:ad}{ag ap:Nat->Prop}{b:Nat}{G:aC}(g:fO h ag ap b G)(x:aK h J):fO J ag ap b G:=by obtain⟨aI,dv,F,O,af⟩:=g.ex;exact⟨⟨g.ai.1,eL g.ai.2 x.n⟩,⟨λk Z=>eL (g.lt.1 k Z) x.n,λD U=>eL (g.lt.2 D U) x.ids⟩,aI,dv,(x.cell b g.ai.2).trans F,O.iZ x,af.iZ x⟩
theorem Qt{h:ad}{ag:Nat->Prop}{b:Nat}{dv:I}{l:List Bool}(g:uC h ag b oe dv (l.map λx=>[.bool x])){m:Nat}(hm:m<l.length):∃q,ft (j oe) ab dv (.int o (m:Int))=j (.ptr q m 0)/\h.cell q=j (l.map λx=>[.bool x])/\(l.map λx=>[I.bool x])[m]? =j [.bool (l.getD m T)]/\ag q/\q≠b/\q<h.n/\dv= .bd q 0 l.length oe:=by
 rcases g with⟨F,_⟩|⟨q,F,O,af,aw,rfl⟩
 ·simp at F;subst F;simp at hm
 ·exact⟨q,by simp[ft,hm],aw,by simp[hm,cK],F,O,af,by simp⟩
theorem aC.Qu{G:aC}{k:Int}(bP:G.gb k=Q):∃m:Nat,k=m/\m<G.shut.length:=by simp[aC.gb]at bP;exact⟨k.toNat,by omega,by omega⟩
theorem aC.adp{G:aC}{k:Int}(bP:G.has k=Q):0<=k:=by simp[aC.has]at bP;exact bP.1
theorem aC.adq{G:aC}{k:Int}(bP:G.has k=Q):∃m:Nat,k=m/\m<G.nodes.length/\(G.nodes.map dS)[m]? =j (dS (G.nodes.getD m ik)):=by
 simp[aC.has]at bP;have al:k.toNat<G.nodes.length:=by omega
 exact⟨k.toNat,by omega,al,by simp[al,cK]⟩
section
variable{h:ad}{ag ap:Nat->Prop}{b:Nat}{G:aC}
theorem Bp(g:fO h ag ap b G)(k:Int):a3 ar W 89 [.ptr b 0 0,.int o k] h=j (.inl (.bool (G.gb k)),h):=by obtain⟨aI,dv,F, -,af⟩:=g.ex;refine bC ac4 rfl ?_;unfold PR;by_cases ae:0<=k<;>simp only[ay,aD,aO,ax,ae,F,af.len.1,af.len.2,aC.gb,iX]
theorem Bq(g:fO h ag ap b G)(k:Int):a3 ar W 94 [.ptr b 0 0,.int o k] h=j (.inl (.bool (G.has k)),h):=by obtain⟨aI,dv,F,O, -⟩:=g.ex;refine bC ac6 rfl ?_;unfold P2;by_cases ae:0<=k<;>simp only[ay,aD,aO,ax,ae,F,O.e'.len,O.e'.fits,aC.has,iX]
theorem adr(g:fO h ag ap b G)(k:Int):a3 ar W 140 [.ptr b 0 0,.int o k] h=j (.inl (.bool (G.zb k)),h):=by
 obtain⟨aI,dv,F, -,af⟩:=g.ex;refine bC ac5 rfl ?_;unfold PZ;cases bP:G.gb k
 ·simp only[ay,aD,aO,ax,Bp g,bP,aC.zb]
 ·obtain⟨m,rfl,hm⟩:=aC.Qu bP;obtain⟨q,ao,aq,bm, -⟩:=Qt af hm;simp only[ay,aD,aO,ax,Bp g,bP,F,ao,aq,bm,aC.zb]
theorem ads(g:fO h ag ap b G)(dl:G.cz)(rest:List bl):∀(f:Nat) (i:Int) (acc:List er) (J:ad) (v Br:I),i+1<=f->(G.has i=Q->acc.length+i.toNat<200)->Acc h J iB v (acc.map dS)->aK h J->∃fW bu h' t,bo (a3 ar W) 5 [.fI EJ,.bO [],.cb 0,.bO rest] [.ptr b 0 0,.int o i,.aF,v,Br] [] J=bo (a3 ar W) 5 [.bO rest] [.ptr b 0 0,h',.aF,bu,t] [] fW/\Acc h fW iB bu ((acc++G.path i).map dS)/\aK h fW:=by
 intro f;induction f with
 |zero=>
   intro i acc J v Br aa bc aM aX;have fa:=g.iZ aX;have bP:G.has i=T:=by simp[aC.has];omega
   rw[dP EJ.eq_1];refine⟨J,v,.int o i,.bool T,?_,by rw[aC.tl bP,q9];exact aM,aX⟩;simp only[ay,aD,aO,ax,cF,Bq fa,bP]
 |succ f aW=>
   intro i acc J v Br aa bc aM aX;have fa:=g.iZ aX;obtain⟨aI,dv,F,O, -⟩:=fa.ex;rw[dP EJ.eq_1];cases bP:G.has i
   ·refine⟨J,v,.int o i,.bool T,?_,by rw[aC.tl bP,q9];exact aM,aX⟩;simp only[ay,aD,aO,ax,cF,Bq fa,bP]
   ·obtain⟨m,rfl,hm,JO⟩:=aC.adq bP;have bc:=bc bP;have gt:=O.e'.b8 o m _ JO;obtain⟨bu,uo,ao,aJ,a1,bf,cv⟩:=y6 aM aX (row:=dS (G.nodes.getD m ik)) rfl (by simp;omega);simp only[ay,aD,aO,ax,cF,Bq fa,bP,F,gt,ao,bf,qi];have ok:=dl.get bP;have aB:=ok.ed;have xn:=ok.gN;simp only[n9]at aB xn bc;obtain⟨fW,aV,h',t,bT,bQ,gL⟩:=aW (G.nodes.getD m ik).parent (acc++[G.nodes.getD m ik]) uo bu (.bool Q) (by omega) (by intro DA;have:=aC.adp DA;simp only[eP,gp];omega) (by simpa using aJ) a1;refine⟨fW,aV,h',t,bT,?_,gL⟩;rw[aC.xm dl bP];simpa using bQ
theorem aC.JP{G:aC}(dl:G.cz)(i:Int):(G.path i).length<=81:=by
 have key:∀(f:Nat) (i:Int),(G.mr f i).length<=f:=by
  intro f;induction f with
  |zero=>intro i;simp[aC.mr]
  |succ f aW=>
    intro i;unfold aC.mr;split
    ·have:=aW (G.nodes.getD i.toNat ik).parent;rw[gT];omega
    ·simp
 by_cases bP:G.has i=Q
 ·have:=key (i.toNat+1) i;simp[aC.has]at bP;have:=dl.ps;unfold aC.path;omega
 ·rw[aC.tl (by simpa using bP)];simp
theorem JQ(l:List er):∀r∈l.map dS,r.all r8=Q:=by intro r ah;obtain⟨n,_,rfl⟩:=n0.1 ah;rfl
theorem adt(l:List Int):∀r∈l.map (λx=>[I.int o x]),r.all r8=Q:=by intro r ah;obtain⟨n,_,rfl⟩:=n0.1 ah;rfl
theorem JR(g:fO h ag ap b G)(dl:G.cz)(i:Int):a3 ar W 67 [.ptr b 0 0,.int o i] h=j (.inl (jM iB ((G.path i).map dS)),h):=by refine bC ac7 rfl ?_;unfold Qb;obtain⟨fW,bu,h',t,bT,bQ,gL⟩:=ads g dl [.ops [eY,lj],.ret] (i+1).toNat i [] h .aF .aP (by omega) (by intro bP;have:=dl.ps;simp[aC.has]at bP;simp;omega) (xi _ _ _) (aK.refl h);simp only[ay,aD,aO,ax,bT,fR gL (IL bQ (JQ _))]
end
def JS:List bl:=[.ops [JN],.ops [bj,qh,di,xw,.g (.l 1) Q .l (.bin (.int o) .leq (.l 0) (.c (.int o 15))),ER,ge],.ret]
theorem Qv:c3 ar W 112 1 2 [0,2] JS [(.v 1)] Q:=by refine⟨_,_,Try.func112,rfl,rfl,?_,?_,?_,?_,?_⟩<;>kernel_rfl
def Qw:List bl:=[uJ,.ops [bj,en,Qx,lj],.ret]
theorem adu:c3 ar W 141 2 3 [0,1,4] Qw [(.v 2)] Q:=by refine⟨_,_,Try.func141,rfl,rfl,?_,?_,?_,?_,?_⟩<;>kernel_rfl
section
variable{h:ad}{ag ap:Nat->Prop}{b:Nat}{G:aC}
theorem Qy(x y:Int):a3 ar W 141 [.int o x,.int o y] h=j (.inl (.int o (ri x y)),h):=by refine bC adu rfl ?_;unfold Qw;simp only[ay,aD,aO,ax];rfl
theorem zr(x:Int):a3 ar W 112 [.int o x] h=j (.inl (.bool (uz x)),h):=by refine bC Qv rfl ?_;unfold JS;by_cases ae:0<=x<;>simp only[ay,aD,aO,ax,ae,uz]
theorem ES(x:Int):a3 ar W 87 [.int o x] h=j (.inl (.bool (mV x)),h):=by refine bC ade rfl ?_;unfold Qr;by_cases ae:0<=x<;>simp only[ay,aD,aO,ax,ae,mV]
def rq(G:aC):Bool->Int->List er->Int
 |_,r,[]=>r
 |first,r,n::l=>if od G n then 0 else rq G T (ri (if first then 15 else r) n.et) l
theorem Qz(G:aC):∀(l:List er) (r:Int),rq G T r l=if l.any (od G)then 0 else l.foldl (λr n=>ri r n.et) r
 |[],r=>rfl
 |n::l,r=>by simp only[rq,List.any_cons,List.foldl_cons,mI,if_false];rw[Qz G l];by_cases aj:od G n=Q<;>simp[aj]
theorem adv(G:aC)(i:Int):rq G Q 0 (G.path i)=G.et i:=by
 unfold aC.et;cases aB:G.path i with
 |nil=>simp[rq]
 |cons n l=>simp only[rq,if_true,Qz,reduceCtorEq,false_or,List.any_cons,List.foldl_cons];cases aj:od G n<;>simp
theorem adw(g:fO h ag ap b G)(v1 p:I)(P:List er)(aB:oM iB p (P.map dS))(h6:P.length<=1000):∀(l pre:List er) (r:Int) (J:ad) (v4 da t1 t2 t3:I),P=pre++l->aK h J->oL Q [.v 2] h (bo (a3 ar W) 12 [.fI Bl,.bO [],.cb 0,.bO [.ops [eY,lj],.ret]] [.ptr b 0 0,v1,.int o 0,.int o r,v4,da,p,.int o P.length,.int o pre.length,t1,t2,t3] [] J)=j (.inl (.int o (rq G pre.isEmpty r l)),h):=by
 intro l;induction l with
 |nil=>
   intro pre r J v4 da t1 t2 t3 e aX;rw[dP Bl.eq_1];have:¬((pre.length:Int)<(P.length:Int)):=by rw[e];simp
   simp only[ay,aD,aO,ax,cF,this,rq,fR aX (rfl:dA (.int o r)=_)]
 |cons n l aW=>
   intro pre r J v4 da t1 t2 t3 e aX;rw[dP Bl.eq_1];have bh:(pre.length:Int)<(P.length:Int):=by rw[e];simp;omega
   have gt:=aB.b8 o pre.length (dS n) (by rw[e];simp);have mK:aK h (J.push [dS n]):=aX.trans (aK.push _ _);have hw:=ht (n:=(pre.length:Int)+1) (by omega) (by omega);have Bs:=adr (g.iZ mK);have QA:pre.isEmpty=decide ((pre.length:Int)=0):=by cases pre<;>simp<;>omega
   have kx:∀(bM:Int) (v4 da t1 t2 t3:I),oL Q [.v 2] h (bo (a3 ar W) 12 [.fI Bl,.bO [],.cb 0,.bO [.ops [eY,lj],.ret]] [.ptr b 0 0,v1,.int o 0,.int o bM,v4,da,p,.int o P.length,.int o ((pre.length:Int)+1),t1,t2,t3] [] (J.push [dS n]))=j (.inl (.int o (rq G T bM l)),h):=by
    intro bM v4 da t1 t2 t3;have:=aW (pre++[n]) bM (J.push [dS n]) v4 da t1 t2 t3 (by simp[e]) mK;have ao:(pre++[n]).isEmpty=T:=by cases pre<;>rfl
    have aq:((pre++[n]).length:Int)=(pre.length:Int)+1:=by simp
    rw[ao,aq]at this;exact this
   by_cases ae:0<=n.gate
   ·cases h3:G.zb n.gate
    ·have aj:od G n=Q:=by simp[od,ae,h3]
     simp only[ay,aD,aO,ax,cF,bh,gt,qi,ae,Bs,h3,rq,aj,fR mK (rfl:dA (.int o 0)=_)]
    ·have aj:od G n=T:=by simp[od,h3]
     cases aN:decide ((pre.length:Int)=0)<;>simp only[ay,aD,aO,ax,cF,bh,gt,qi,ae,Bs,h3,rq,aj,Qy,hw,aN,QA,kx]
   ·have aj:od G n=T:=by simp[od,ae]
    cases aN:decide ((pre.length:Int)=0)<;>simp only[ay,aD,aO,ax,cF,bh,gt,qi,ae,rq,aj,Qy,hw,aN,QA,kx]
theorem QB(g:fO h ag ap b G)(dl:G.cz)(i:Int):a3 ar W 133 [.ptr b 0 0,.int o i] h=j (.inl (.int o (G.et i)),h):=by refine bC ac8 rfl ?_;unfold Qd;have al:=Ec iB ((G.path i).map dS);have Bt:=adw g (.int o i) (jM iB ((G.path i).map dS)) (G.path i) al (by have:=aC.JP dl i;omega) (G.path i) [] 0 h .aP .aP .aP .aP .aP rfl (aK.refl h);simp only[gK,oU,List.isEmpty_nil,adv]at Bt;simp only[ay,aD,aO,ax,JR g dl,al.len,al.fits,iX];exact Bt
theorem adx(id:Option Nat)(rows:List (List I))(bc:∀r∈rows,r.all I.one=Q/\r.all r8=Q)(al:rows.length<=1000):a3 ar W 62 [.bR id iB rows] h=j (.inl (.bR ab iB rows),h):=by
 refine bC Qq rfl ?_;unfold JL;have ao:fx T iB (.bR (j h.ids) iB []) (.bR id iB rows) (h.fresh 0)=j (.bR (j h.ids) iB rows,if rows.length=0 then h.fresh 0 else(h.fresh 0).grow h.ids rows.length):=by
  simp only[fx,iO,if_true,c7];by_cases aN:rows.length=0
  ·simp[qL,p4.1 aN]
  ·rw[if_neg aN,if_neg aN];unfold kr;rw[if_pos ⟨by omega,by omega,by rw[iR];exact λr ah=>(bc r ah).1⟩];simp[pu]
 have aX:aK h (if rows.length=0 then h.fresh 0 else(h.fresh 0).grow h.ids rows.length):=by
  split
  ·exact aK.fresh h 0
  ·exact(aK.fresh h 0).grow (bV _)
 have hw:dA (.bR (j h.ids) iB rows)=j (.bR ab iB rows):=by simp only[dA,xj λr ah=>(bc r ah).2,hj]
 simp only[ay,aD,aO,ax,ao,fR aX hw]
theorem ady:a3 ar W 62 [.aF] h=j (.inl .aF,h):=by refine bC Qq rfl ?_;unfold JL;simp only[ay,aD,aO,ax];exact fR (aK.refl h) rfl
theorem adz(g:fO h ag ap b G)(dl:G.cz):a3 ar W 30 [.ptr b 0 0] h=j (.inl (jM iB (G.nodes.map dS)),h):=by
 obtain⟨aI,dv,F,O, -⟩:=g.ex;refine bC ada rfl ?_;unfold Qo;rcases O with⟨ao,rfl⟩|⟨id,_,gM,_,_,rfl⟩
 ·simp only[ay,aD,aO,ax,F,ady];rw[ao];exact fR (aK.refl h) rfl
 ·have aj:=adx (h:=h) (j id) (G.nodes.map dS) (λr ah=>⟨by obtain⟨n,_,rfl⟩:=n0.1 ah;rfl,JQ _ r ah⟩) (by have:=dl.ps;simp;omega);have hw:dA (.bR ab iB (G.nodes.map dS))=j (jM iB (G.nodes.map dS)):=by simp only[dA,xj (JQ _),hj,jM,if_neg gM]
  simp only[ay,aD,aO,ax,F,aj,fR (aK.refl h) hw]
theorem adA(g:fO h ag ap b G)(dl:G.cz)(i:Int):a3 ar W 38 [.ptr b 0 0,.int o i] h=j (.inl (.bW [.agg (dS (G.target i).1),.bool (G.target i).2]),h):=by
 refine bC ac9 rfl ?_;unfold Qe;have al:=Ec iB ((G.path i).map dS);have hw:∀(n:er) (x:Bool),dA (.bW [.agg (dS n),.bool x])=j (.bW [.agg (dS n),.bool x]):=λn x=>rfl;have QC:=JR (g.iZ (aK.push h [[.int o 0,.int o 0,.int o 0,.int o 0,.int o 0,.int o 0]])) dl;have vY:∀n:er,aK h (h.push [dS n]):=λn=>aK.push _ _;have a6:∀m:Nat,jN o (m:Int)=m->True:=λ_ _=>trivial;rcases List.eq_nil_or_concat (G.path i)with aN|⟨pre,n,aN⟩
 ·have aL:G.target i=(ik,T):=by simp[aC.target,aN]
  rw[aL];have hlen:(G.path i).length=0:=by rw[aN];rfl
  simp only[ay,aD,aO,ax,QC,al.len,al.fits,iX,hlen,oU];exact fR (vY ik) (hw ik T)
 ·rw[List.concat_eq_append]at aN;have aL:G.target i=(n,Q):=by unfold aC.target;rw[aN];simp[List.getLastD_eq_getLast?]
  have an:¬(((pre.length+1:Nat):Int)=0):=by omega
  have av:jN o (((pre.length+1:Nat):Int) - 1)=(pre.length:Int):=by rw[ht]<;>(have:=aC.JP dl i;rw[aN]at this;simp at this;omega)
  have gt:=al.b8 o pre.length (dS n) (by rw[aN];simp);rw[aL];have hlen:(G.path i).length=pre.length+1:=by rw[aN];simp
  simp only[ay,aD,aO,ax,QC,al.len,al.fits,iX,hlen,an,av,gt,qi];exact fR (vY n) (hw n Q)
theorem adB(p:I)(P:List er)(aB:oM iB p (P.map dS))(h6:P.length<=1000)(mo v1:I):∀(l pre:List er) (J:ad) (v v4 t1 t2:I),P=pre++l->aK h J->Acc h J 3 v ((pt pre).map λx=>[.int o x])->oL Q [.v 2] h (bo (a3 ar W) 10 [.fI EO,.bO [],.cb 0,.bO [.ops [eY,lj],.ret]] [mo,v1,.aF,v,v4,p,.int o P.length,.int o pre.length,t1,t2] [] J)=j (.inl (jM 3 ((pt P).map λx=>[.int o x])),h):=by
 intro l;induction l with
 |nil=>
   intro pre J v v4 t1 t2 e aX aM;rw[dP EO.eq_1];have bh:¬((pre.length:Int)<(P.length:Int)):=by rw[e];simp
   rw[q9]at e;rw[<-e]at aM;simp only[ay,aD,aO,ax,cF,bh,fR aX (IL aM (adt _))]
 |cons n l aW=>
   intro pre J v v4 t1 t2 e aX aM;rw[dP EO.eq_1];have bh:(pre.length:Int)<(P.length:Int):=by rw[e];simp;omega
   have gt:=aB.b8 o pre.length (dS n) (by rw[e];simp);have mK:aK h (J.push [dS n]):=aX.trans (aK.push _ _);have hw:=ht (n:=(pre.length:Int)+1) (by omega) (by omega);have aq:((pre++[n]).length:Int)=(pre.length:Int)+1:=by simp
   have QD:((pt pre).map λx=>[I.int o x]).length<=1000000:=by
    have:=List.length_filter_le (λn:er=>decide (0<=n.gate)) pre;have O:pre.length<=P.length:=by rw[e];simp
    simp[pt];omega
   by_cases ae:0<=n.gate
   ·have kR:pt (pre++[n])=pt pre++[n.gate]:=by simp[pt,ae]
    have JT:Acc h (J.push [dS n]) 3 v ((pt pre).map λx=>[.int o x]):=aM;obtain⟨bu,uo,ao,aJ,a1,bf,cv⟩:=y6 JT mK (row:=[.int o n.gate]) rfl QD;simp only[AV]at ao;have:=aW (pre++[n]) uo bu (.ptr J.n 0 0) (.bool Q) (.bool Q) (by simp[e]) a1 (by rw[kR,List.map_append];exact aJ);rw[aq]at this;simp only[ay,aD,aO,ax,cF,bh,gt,qi,ae,hw,ao,this]
   ·have kR:pt (pre++[n])=pt pre:=by simp[pt,ae]
    have JT:Acc h (J.push [dS n]) 3 v ((pt pre).map λx=>[.int o x]):=aM;have:=aW (pre++[n]) (J.push [dS n]) v (.ptr J.n 0 0) (.bool Q) (.bool T) (by simp[e]) mK (by rw[kR];exact JT);rw[aq]at this;simp only[ay,aD,aO,ax,cF,bh,gt,qi,ae,hw,this]
theorem adC(g:fO h ag ap b G)(dl:G.cz)(i:Int):a3 ar W 138 [.ptr b 0 0,.int o i] h=j (.inl (jM 3 ((G.uA i).map λx=>[.int o x])),h):=by refine bC ac' rfl ?_;unfold Qn;have al:=Ec iB ((G.path i).map dS);have Bt:=adB (h:=h) (jM iB ((G.path i).map dS)) (G.path i) al (by have:=aC.JP dl i;omega) (.ptr b 0 0) (.int o i) (G.path i) [] h .aF .aP .aP .aP rfl (aK.refl h) (xi _ _ _);simp only[gK,oU]at Bt;simp only[ay,aD,aO,ax,JR g dl,al.len,al.fits,iX];exact Bt
end
open Go.ChangeShapes Go.WideShapes Go.ChangeAt Go.RowKit Go.Deep Go.Joins
open Go.ChangeMaps (open_string shut_string)
theorem own:ownKnob ar.godebug=ab:=by kernel_rfl
theorem adD:laidOutB ar=Q:=by kernel_rfl
section
variable{H:Type}{enc:aT×bK->H}{P:cp}{fw vZ:cQ}
theorem QE(al:laidOutB P=Q):∀{b7:List aT} {br:List bK} {fN:List (DataW H)} {p:List MemPlace},pA enc P fw 0 (λ_=>Q) Q b7 br fN p->(∀t∈b7,P.readableRec t=Q/\t<P.types.size)->Below fw.heap.size fw vZ->(∀x∈p,x.block<fw.heap.size)->pA enc P vZ 0 (λb=>decide (b<fw.heap.size)) Q b7 br fN p
 |[],[],[],p,h,_,_,_=>h
 |t::b7,v::br,d::fN,p,h,aL,ai,aB=>by obtain⟨ed,bN,F,O,rfl⟩:=h;obtain⟨ah,av⟩:=aL t (by simp);exact⟨ed,bN,Below.trod al ah av F ai (λx an=>aB x (by simp[an])),QE al O (λcV J=>aL cV (by simp[J])) ai (λx an=>aB x (by simp[an])),rfl⟩
 |[],_::_,_,_,h,_,_,_=>by simp[pA]at h
 |_::_,[],_,_,h,_,_,_=>by simp[pA]at h
 |_::_,_::_,[],_,h,_,_,_=>by simp[pA]at h
 |[],[],_::_,_,h,_,_,_=>by simp[pA]at h
theorem QF:∀{b7:List aT} {br:List bK} {fN:List (DataW H)} {p:List MemPlace},pA enc P fw 0 (λ_=>Q) Q b7 br fN p->∀x∈p,x.block<fw.heap.size
 |[],[],[],p,h,x,an=>by have:p=[]:=h;subst this;simp at an
 |t::b7,v::br,d::fN,p,h,x,an=>by
   obtain⟨ed,bN,⟨n,F⟩,O,rfl⟩:=h;rcases List.mem_append.1 an with an|an
   ·exact DataW.trod_lt n _ _ _ F x an
   ·exact QF O x an
 |[],_::_,_,_,h,_,_=>by simp[pA]at h
 |_::_,[],_,_,h,_,_=>by simp[pA]at h
 |_::_,_::_,[],_,h,_,_=>by simp[pA]at h
 |[],[],_::_,_,h,_,_=>by simp[pA]at h
def QG(P:cp)(f:cJ)(args:Array bK)(fw:cQ):Prop:=Calls P f args fw λe vZ=>e= .returned (.bool Q)/\Below fw.heap.size fw vZ
theorem adE{f:Func}{s:ChangeSpec}{args:Array bK}{fN xB:List (DataW H)}{before:List MemPlace}{Bu:aT}(al:laidOutB P=Q)(adF:P.underlying Bu=j .bool)(jW:f.resultTypes= #[Bu])(R:s.vars=[])(adG:∀t∈f.params.toList,P.readableRec t=Q/\t<P.types.size)(av:∀fN:List (DataW H),fN.length=f.params.size->s.fn H fN={results:=[.lit (.bool Q)],args:=fN})(dl:DataW.Whole enc P f.params.toList s.vars T fw args.toList fN xB before)(ai:Below fw.heap.size fw vZ):s.post enc P f T Q T T fw args (.bool Q) vZ:=by
 have adH:=dl;obtain⟨p,q,dD,rr,rfl,am',rf⟩:=dl;rw[R]at rr;obtain⟨rfl,rfl⟩:=trodVars_none rr;have hlen:fN.length=f.params.size:=by
  have:∀{b7:List aT} {br:List bK} {fN:List (DataW H)} {p:List MemPlace},pA enc P fw 0 (λ_=>Q) Q b7 br fN p->fN.length=b7.length:=by
   intro b7;induction b7 with
   |nil=>intro br fN p h;cases br<;>cases fN<;>simp[pA]at h ⊢
   |cons t b7 aW=>intro br fN p h;cases br<;>cases fN<;>simp[pA]at h ⊢;obtain⟨_,_,_,O,_⟩:=h;exact aW O
  simpa using this dD
 have e:=av (fN++[]) (by simpa using hlen);refine⟨fN,[],_,[],p,[],adH,?_,?_,?_,ai.frame _,λh=>by cases h⟩
 ·rw[e,jW];exact trodAll_mk1 (shut_bool adF _)
 ·rw[e];simp only[q9];exact QE al dD adG ai (QF dD)
 ·rw[e,R];rfl
def Id(z:Int):Prop:= -9223372036854775808<=z/\z<=9223372036854775807
end
open Go Go.RowKit
def pB:ad:={n:=0,cell:=λ_=>ab,ids:=0,hw:=λ_=>0}
def sl(fw:cQ):dw:={base:=fw.heap.size,cb:=λ_=>0,fY:=λ_=>0,md:=λ_=>0,dF:=λg E=>fw.cell? ⟨g,E,ab⟩,h1:=λ_=>0,qR:=λ_=>0,kJ:=λ_=>0,e4:=λ_=>ab}
theorem adI{P:cp}{b:Nat}{w:cQ}(h:Ni P=[]/\Nj P=[]):wS P b w:=by
 refine⟨λq aG=>?_,λn au=>?_⟩
 ·rw[h.1]at aG;cases aG
 ·rw[h.2]at au;cases au
theorem adJ(P:cp)(fw:cQ)(aX:wS P fw.heap.size fw):bU P (sl fw) pB fw where
 dk:=aX
 size:=bV _
 lt:=λb es ai=>by simp[pB]at ai
 live:=λb es ai=>by simp[pB]at ai
 inj:=λb e5 es fL ai=>by simp[pB]at ai
 dF:=λg E v h=>h
 sep:=λb es ai=>by simp[pB]at ai
 oD:=λk Z=>absurd Z (Nat.not_lt_zero _)
 ng:=λk Z=>absurd Z (Nat.not_lt_zero _)
 mf:=λk Z=>absurd Z (Nat.not_lt_zero _)
 nY:=λk cn Z=>absurd Z (Nat.not_lt_zero _)
 e4:=λg x U=>by simp[sl]at U
theorem adK{f:cJ}{rt:List I}{br:List bK}{fw:cQ}{J:ad}(ah:a3 ar W f rt pB=j (.inl (.bool Q),J))(R:dj ar (sl fw) pB rt br)(aX:wS ar fw.heap.size fw:=by exact adI ⟨by kernel_rfl,by kernel_rfl⟩):QG ar f br.toArray fw:=by refine(OI cX ah (sl fw) fw br (adJ _ fw aX) R).mono λe vZ ⟨aR,_,_,ai,an⟩=>?_;obtain⟨u,rfl,bH⟩:=an;cases bH;exact⟨rfl,ai⟩
theorem adL{P:cp}{m:dw}{h:ad}(n:Int):bI P m h (.int o n) (.int o n):=.int _ _
theorem adM{P:cp}{m:dw}{h:ad}(s:ByteArray):bI P m h (.str s.data.toList) (.string s):=by have:=bI.str (P:=P) (m:=m) (h:=h) s.data.toList;simpa using this
section
variable{P:cp}{W:hh}{g:cJ}{a aI:Nat}{aY:List Nat}{bO:List bl}{rs:List mS}{args:List I}{h:ad}
theorem JU{p:Bool}{qj:(I⊕I)×ad->Prop}(bc:c3 P W g a aI aY bO rs p)(aM:args.length=a)(H:∀cH:kD->Prop,(∀r q,oL p rs h r=j q->qj q->cH r)->cH (bo (a3 P W) aI [.bO bO] (args++ax (aY.length - args.length) .aP) [] h)):∃q,a3 P W g args h=j q/\qj q:=by obtain⟨q,F,O⟩:=H (λr=>∃q,oL p rs h r=j q/\qj q) (λr q F O=>⟨q,F,O⟩);exact⟨q,bC bc aM F,O⟩
theorem JV{v:I}(bc:c3 P W g a aI aY bO rs T)(aM:args.length=a)(H:∀cH:kD->Prop,(∀V J,(ie V J rs).map iH=j v->dG J->cH (j (.ret,V,J)))->cH (bo (a3 P W) aI [.bO bO] (args++ax (aY.length - args.length) .aP) [] h)):∃J,a3 P W g args h=j (.inl v,J)/\dG J:=by obtain⟨q,F,J,rfl,O⟩:=JU (qj:=λq=>∃J,q=(.inl v,J)/\dG J) bc aM λcH cY=>H cH λV J e r=>cY _ (.inl v,J) (by simp only[y4,e,yv,wP]) ⟨J,rfl,r⟩;exact⟨J,F,O⟩
theorem ET{dG:I->Prop}(bc:c3 P W g a aI aY bO rs Q)(aM:args.length=a)(H:∀cH:kD->Prop,(∀V J v bu,(ie V J rs).map iH=j v->aK h J->dA v=j bu->dG bu->cH (j (.ret,V,J)))->cH (bo (a3 P W) aI [.bO bO] (args++ax (aY.length - args.length) .aP) [] h)):∃v,a3 P W g args h=j (.inl v,h)/\dG v:=by obtain⟨q,F,v,rfl,O⟩:=JU (qj:=λq=>∃v,q=(.inl v,h)/\dG v) bc aM λcH cY=>H cH λV J v bu e aX w r=>cY _ (.inl bu,h) (by simp only[y4,e,yv];exact fR aX w) ⟨bu,rfl,r⟩;exact⟨v,F,O⟩
theorem pC(bc:c3 P W g a aI aY bO rs Q)(aM:args.length=a)(H:∀cH:kD->Prop,(∀V J v,(ie V J rs).map iH=j v->aK h J->dA v=j bu->cH (j (.ret,V,J)))->cH (bo (a3 P W) aI [.bO bO] (args++ax (aY.length - args.length) .aP) [] h)):a3 P W g args h=j (.inl bu,h):=by obtain⟨v,F,rfl⟩:=ET (dG:=λv=>v=bu) bc aM λcH cY=>H cH λV J v e aX w=>cY V J v bu e aX w rfl;exact F
end
section
variable{P:cp}{W:hh}{g:cJ}{a aI:Nat}{aY:List Nat}{bO:List bl}{rs:List mS}{args:List I}{h:ad}
theorem QH{qj:(I⊕I)->ad->Prop}(bc:c3 P W g a aI aY bO rs T)(aM:args.length=a)(H:∀cH:kD->Prop,(∀V J v,(ie V J rs).map iH=j v->qj (.inl v) J->cH (j (.ret,V,J)))->(∀V J v,qj (.inr v) J->cH (j (.panic v,V,J)))->cH (bo (a3 P W) aI [.bO bO] (args++ax (aY.length - args.length) .aP) [] h)):∃q J,a3 P W g args h=j (q,J)/\qj q J:=by obtain⟨⟨q,J⟩,e,p⟩:=JU (qj:=λq=>qj q.1 q.2) bc aM λcH cY=>H cH (λV J v e r=>cY _ (.inl v,J) (by simp only[y4,e,yv,wP]) r) (λV J v r=>cY _ (.inr v,J) (by simp only[O6,wP]) r);exact⟨q,J,e,p⟩
end
theorem ru{C:y3}{aI:Nat}{b:List bl}{K:List ic}{h:ad}{cH:kD->Prop}(ch:Nat->List I->ad->Prop)(n:Nat)(ae:ch 0 V h)(step:∀i V h,i<n->ch i V h->(∀fB J,ch (i+1) fB J->cH (bo C aI (.fI b::K) fB [] J))->cH (bo C aI (.fI b::K) V [] h))(stop:∀V h,ch n V h->cH (bo C aI (.fI b::K) V [] h)):cH (bo C aI (.fI b::K) V [] h):=by
 have key:∀(d i:Nat) (V:List I) (h:ad),i+d=n->ch i V h->cH (bo C aI (.fI b::K) V [] h):=by
  intro d;induction d with
  |zero=>
    intro i V h aa xC;obtain rfl:i=n:=by omega
    exact stop V h xC
  |succ d aW=>exact λi V h aa xC=>step i V h (by omega) xC λfB J adN=>aW (i+1) fB J (by omega) adN
 exact key n 0 V h (by omega) ae
theorem adO{n:Nat}:(n<n+1)=True:=by simp
theorem JW{α:Type}(A B:List α)(x y:α){n:Nat}(au:n=A.length):(A++x::B).set n y=A++y::B:=by subst au;simp
theorem QI{α:Type}(A B:List α)(x:α){n:Nat}(au:n=A.length):(A++x::B)[n]? =j x:=by subst au;simp
theorem xD{α:Type}{l:List α}{i:Nat}{y:α}(h:l[i]? =j y):l.take (i+1)=l.take i++[y]:=by rw[List.take_add_one,h];rfl
theorem xE{n m:Int}(e:n=m)(F: -9223372036854775808<=n)(O:n<=9223372036854775807):jN o n=m:=by rw[<-e];exact ht F O
theorem adP{ae h:ad}{e:aT}{v:I}(aM:Acc ae h e v acc)(g:aK ae h){x:I}{rows:List (List I)}(an:(x= .aF/\rows=[])\/∃id,x= .bR id e rows)(F:∀r∈rows,r.all I.one=Q)(al:acc.length<=1000000)(ah:rows.length<=1000000):∃bu J,fx T e v x h=j (bu,J)/\Acc ae J e bu (acc++rows)/\aK ae J/\J.cell=h.cell/\J.n=h.n:=by
 have mP:rows.all (·.all I.one)=Q:=by rw[iR];exact F
 by_cases aN:rows.length=0
 ·have p7:=p4.1 aN;subst p7;refine⟨v,h,?_,by simpa using aM,g,rfl,rfl⟩;have av:qL e v h=j (v,h):=by rcases aM with⟨_,rfl⟩|⟨id,_,_,_,_,rfl⟩<;>simp[qL]
  rcases an with⟨rfl,_⟩|⟨id,rfl⟩
  ·exact av
  ·simp[fx,iO,av]
 ·obtain⟨adQ,rfl⟩:∃id,x= .bR id e rows:=by
   rcases an with⟨_,rfl⟩|an
   ·simp at aN
   ·exact an
  have ao:fx T e v (.bR adQ e rows) h=kr T e v rows h:=by simp only[fx,iO,if_true,c7];rw[if_neg aN]
  rw[ao];unfold kr;rw[if_pos ⟨by omega,by omega,mP⟩];have cO:rows≠[]:=λe=>aN (by rw[e];rfl);rcases aM with⟨rfl,rfl⟩|⟨id,hT,aJ,a1,bf,rfl⟩
  ·refine⟨_,_,rfl,.inr ⟨h.ids,by simpa using cO,g.ids,by simp[ad.fresh],by simp[ad.fresh],by simp⟩,g.trans (aK.fresh _ _),rfl,rfl⟩
  ·refine⟨.bR (j id) e (acc++rows),h.grow id (acc.length+rows.length),?_,.inr ⟨id,by simp[hT],aJ,a1,by simp[ad.grow],rfl⟩,g.grow aJ,rfl,rfl⟩;simp[bf,al]
theorem adR(e:aT)(rows:List (List I)):(jM e rows= .aF/\rows=[])\/∃id,jM e rows= .bR id e rows:=by
 unfold jM;by_cases aN:rows=[]
 ·exact .inl ⟨by rw[if_pos aN],aN⟩
 ·exact .inr ⟨ab,by rw[if_neg aN]⟩
theorem adS(l:List Int):∀r∈jY l,r.all I.one=Q:=by intro r ah;obtain⟨n,_,rfl⟩:=n0.1 ah;rfl
def QJ(f:I)(xs:List I):Option (cJ×List I):=match f with
 |.fn g a c=>j (g,a++xs++c)
 |_=>ab
section
variable{C:y3}{aI:Nat}{k:List ic}{V L:List I}{h:ad}{d:nw}{bA:List aE}
theorem QK{f:Arg}{args:List Arg}:gV V L (.call f args)=QJ (arg V L f) (args.map (arg V L)):=by simp only[gV];cases arg V L f<;>rfl
theorem QL{g:cJ}{a c xs:List I}:QJ (.fn g a c) xs=j (g,a++xs++c):=rfl
theorem QM{g:cJ}{xs:List I}:D' C aI d bA k V L h (j (g,xs))=qa C aI d bA k V L (C g xs h):=rfl
theorem ct:(type_of% @IJ)/\(type_of% @QK)/\(type_of% @QL)/\(type_of% @QM):=⟨@IJ,@QK,@QL,@QM⟩
end
def er.ints(n:er):List Int:=[n.parent,n.gate,n.et,n.cell,n.bw,n.func]
instance:DecidableEq er:=λa b=>decidable_of_iff (a.ints=b.ints) ⟨λe=>by cases a;cases b;simp[er.ints]at e;simp[e],λe=>by rw[e]⟩
section
variable{h:ad}
end
theorem hF.same{h:ad}{ag ap:Nat->Prop}{b:Nat}{G:aC}(g:fO h ag ap b G):hF h ag ap b h G:=⟨ag,ap,g,lc.refl _ _ _,λ_=>.inl,λ_=>.inl⟩
theorem hF.iZ{h J:ad}{ag ap:Nat->Prop}{b:Nat}{G:aC}(g:fO h ag ap b G)(x:aK h J):hF h ag ap b J G:=⟨ag,ap,g.iZ x,x.tm _ _,λ_=>.inl,λ_=>.inl⟩
theorem hF.after{h F:ad}{ag ap:Nat->Prop}{b:Nat}{cU:aC}(x:aK h F)(d:hF F ag ap b O cU):hF h ag ap b O cU:=by obtain⟨ke,kf,g,c,cR,fD⟩:=d;have:=x.n;have:=x.ids;exact⟨ke,kf,g,(x.tm ag ap).trans c,λk Z=>(cR k Z).imp id (by omega),λD U=>(fD D U).imp id (by omega)⟩
section
variable{h:ad}{ag ap:Nat->Prop}{b:Nat}{G:aC}
theorem adT(h:ad){ag:Nat->Prop}{b:Nat}{dv:I}{l:List Bool}(g:uC h ag b oe dv (l.map λx=>[.bool x]))(al:l.length<=1000):∃J bu,fx Q oe dv (.bd h.n 0 1 oe) (h.push [[.bool T]])=j (bu,J)/\h0 bu=j (l.length+1)/\(∀s,jL s (j oe) bu=Q)/\bu.one=Q/\bu.cells=[bu]/\J.ids=h.ids/\J.hw=h.hw/\J.n=h.n+2/\J.cell (h.n+1)=j ((l++[T]).map λx=>[.bool x])/\bu= .bd (h.n+1) 0 (l.length+1) oe/\∀k,k<h.n->¬(ag k/\k≠b)->J.cell k=h.cell k:=by
 have gM:iO (h.push [[.bool T]]) oe (.bd h.n 0 1 oe)=j [[.bool T]]:=by simp[iO,kd]
 rcases g with⟨F,rfl⟩|⟨q,F,O,af,aw,rfl⟩
 ·have s3:l=[]:=by simpa using F
  subst s3;refine⟨(h.push [[.bool T]]).push [[.bool T]],.bd (h.n+1) 0 1 oe,?_,rfl,λs=>AS,rfl,rfl,rfl,rfl,rfl,?_,rfl,λk Z _=>?_⟩
  ·simp[fx,gM,kr,I.one,fo]
  ·simp[ad.push]
  ·simp[ad.push,show k≠h.n by omega,show k≠h.n+1 by omega]
 ·have aG:q≠h.n:=by omega
  refine⟨((h.push [[.bool T]]).set q ab).push ((l.map λx=>[.bool x])++[[.bool T]]),.bd (h.n+1) 0 (l.length+1) oe,?_,rfl,λs=>AS,rfl,rfl,rfl,rfl,rfl,?_,rfl,λk Z qk=>?_⟩
  ·have ao:(h.push [[.bool T]]).cell q=j (l.map λx=>[.bool x]):=by rw[vM aG];exact aw
   simp only[fx,gM,c7,gp,Nat.one_ne_zero,if_false,kr,iX];rw[if_pos ⟨by omega,by omega,rfl⟩,if_pos ⟨trivial,trivial,by omega⟩,ao];have aq:List.take l.length (l.map λx=>[I.bool x])=l.map λx=>[.bool x]:=List.take_of_length_le (by simp);simp[fo,aq]
  ·simp[ad.push,ad.set]
  ·have:k≠q:=λe=>qk (by subst e;exact⟨F,O⟩);simp[ad.push,ad.set,show k≠h.n by omega,show k≠h.n+1 by omega,this]
theorem adU{J:ad}{aI:I}(g:fO h ag ap b G)(O:uB h ap iB aI (G.nodes.map dS))(ao:J.ids=h.ids)(aq:J.hw=h.hw)(bm:J.n=h.n+2)(ck:J.cell (h.n+1)=j ((G.shut++[T]).map λx=>[.bool x]))(eB:bu= .bd (h.n+1) 0 (G.shut.length+1) oe)(nD:∀k,k<h.n->¬(ag k/\k≠b)->J.cell k=h.cell k):hF h ag ap b (J.set b (j [[aI,bu]])) ⟨G.nodes,G.shut++[T]⟩:=by
 have hL:=g.ai.2;refine⟨λk=>k=b\/k=h.n+1,ap,⟨⟨.inl rfl,by rw[lA,bm];omega⟩,⟨by rintro k (rfl|rfl)<;>(rw[lA,bm];omega),λD U=>by rw[AT,ao];exact g.lt.2 D U⟩,aI,bu,lz,?_,.inr ⟨h.n+1,.inr rfl,by omega,by rw[lA,bm];omega,by rw[gB (by omega)];exact ck,?_⟩⟩,⟨by rw[lA,bm];omega,by rw[AT,ao];omega,λk Z cR=>?_,λD U fD=>by rw[AU,aq]⟩,?_,λ_=>.inl⟩
 ·rcases O with O|⟨id,aJ,hT,a1,bf,cv⟩
  ·exact .inl O
  ·exact .inr ⟨id,aJ,hT,by rw[AT,ao];exact a1,by rw[AU,aq];exact bf,cv⟩
 ·rw[eB];simp
 ·have:k≠b:=λe=>cR (by rw[e];exact g.ai.1);rw[gB this];exact nD k Z λx=>cR x.1
 ·rintro k (rfl|rfl)
  ·exact .inl g.ai.1
  ·exact .inr (by omega)
theorem QN(g:fO h ag ap b G)(dl:G.cz):∃J,a3 ar W 58 [.ptr b 0 0] h=j (.inl (.bW [.int o G.gate.2.1,.int o G.gate.2.2]),J)/\hF h ag ap b J G.gate.1:=by
 obtain⟨aI,dv,F,O,af⟩:=g.ex;have ana:=dl.ec;cases a6:decide ((G.shut.length:Int)=20)
 ·have cO:¬G.shut.length=20:=by simp at a6;omega
  have dR:G.gate=(⟨G.nodes,G.shut++[T]⟩,(G.shut.length:Int),0):=by unfold aC.gate;rw[if_neg cO]
  obtain⟨J,bu,aJ,a1,bf,cv,ez,i8,v0,xF,JX,adV,zs⟩:=adT h af (by omega);have hL:b≠h.n:=by have:=g.ai.2;omega
  have adW:J.cell b=j [[aI,dv]]:=(zs b g.ai.2 (λx=>x.2 rfl)).trans F;have zt:jN o (((G.shut.length+1:Nat):Int) - 1)=(G.shut.length:Int):=by rw[ht]<;>omega
  refine⟨J.set b (j [[aI,bu]]),?_,by rw[dR];exact adU g O i8 v0 xF JX adV zs⟩;rw[dR];refine bC PQ rfl ?_;unfold Jp;simp only[ay,aD,aO,ax,F,af.len.1,af.len.2,iX,a6,aJ,adW,cv,ez,a1,bf,zt]
 ·have he:G.shut.length=20:=by simp at a6;omega
  have dR:G.gate=(G,0,11):=by unfold aC.gate;rw[if_pos he]
  refine⟨h,?_,by rw[dR];exact hF.same g⟩;rw[dR];refine bC PQ rfl ?_;unfold Jp;simp only[ay,aD,aO,ax,F,af.len.1,af.len.2,iX,a6]
theorem adX{aI dv:I}(g:fO h ag ap b G)(F:h.cell b=j [[aI,dv]])(O:uB h ap iB aI (G.nodes.map dS)){m q:Nat}(hm:m<G.shut.length)(ao:ag q)(aq:q≠b)(bm:q<h.n)(ck:dv= .bd q 0 G.shut.length oe):hF h ag ap b (h.set q (j ((G.shut.map λx=>[I.bool x]).set m [.bool Q]))) ⟨G.nodes,G.shut.set m Q⟩:=by
 refine⟨ag,ap,⟨⟨g.ai.1,g.ai.2⟩,g.lt,aI,dv,by rw[gB (kw aq)];exact F,?_,.inr ⟨q,ao,aq,bm,by rw[lz,List.map_set],by rw[ck];simp⟩⟩,⟨bV _,bV _,λk Z cR=>gB (λe=>cR (by rw[e];exact ao)),λ_ _ _=>rfl⟩,λ_=>.inl,λ_=>.inl⟩;rcases O with O|⟨id,aJ,hT,a1,bf,cv⟩
 ·exact .inl O
 ·exact .inr ⟨id,aJ,hT,a1,bf,cv⟩
theorem QO(g:fO h ag ap b G)(k:Int):∃J,a3 ar W 57 [.ptr b 0 0,.int o k] h=j (.inl (.int o (G.cut k).2),J)/\hF h ag ap b J (G.cut k).1:=by
 obtain⟨aI,dv,F,O,af⟩:=g.ex;cases bP:G.gb k
 ·have dR:G.cut k=(G,8):=by unfold aC.cut;rw[if_neg (by simp[bP])]
  rw[dR];refine⟨h,?_,hF.same g⟩;refine bC PY rfl ?_;unfold Jr;simp only[ay,aD,aO,ax,Bp g,bP]
 ·obtain⟨m,rfl,hm⟩:=aC.Qu bP;have dR:G.cut (m:Int)=(⟨G.nodes,G.shut.set m Q⟩,0):=by unfold aC.cut;rw[if_pos bP];simp
  obtain⟨q,ao,aq,bm,ck,eB,nD,oV⟩:=Qt af hm;rw[dR];refine⟨_,?_,adX g F O hm ck eB nD oV⟩;refine bC PY rfl ?_;unfold Jr;simp only[ay,aD,aO,ax,Bp g,bP,F,ao,aq,bm]
theorem adY(h:ad){ap:Nat->Prop}{aI:I}{rows:List (List I)}(g:uB h ap iB aI rows){row:List I}(ah:row.all I.one=Q)(al:rows.length<=1000):∃J bu,fx T iB aI (.bR (j h.ids) iB [row]) (h.fresh 1)=j (bu,J)/\h0 bu=j (rows.length+1)/\(∀s,jL s (j iB) bu=Q)/\bu.one=Q/\bu.cells=[bu]/\J.cell=h.cell/\J.n=h.n/\h.ids<=J.ids/\(∃id,(ap id\/h.ids<=id)/\id<J.ids/\J.hw id=rows.length+1/\bu= .bR (j id) iB (rows++[row])/\∀D,D<h.ids->¬ap D->J.hw D=h.hw D):=by
 have fZ:[row].all (·.all I.one)=Q:=by simpa using ah
 rcases g with⟨rfl,rfl⟩|⟨id,aJ,hT,a1,bf,rfl⟩
 ·refine⟨(h.fresh 1).fresh 1,.bR (j (h.ids+1)) iB [row],?_,rfl,λs=>AR,rfl,rfl,rfl,rfl,by simp[ad.fresh];omega,h.ids+1,.inr (by omega),by simp[ad.fresh],by simp[ad.fresh],by simp,λD U _=>by simp[ad.fresh,show D≠h.ids by omega,show D≠h.ids+1 by omega]⟩;simp only[fx,iO,if_true,c7,gp,Nat.one_ne_zero,if_false,kr];rw[if_pos ⟨by omega,by omega,fZ⟩];rfl
 ·have cO:id≠h.ids:=by omega
  refine⟨(h.fresh 1).grow id (rows.length+1),.bR (j id) iB (rows++[row]),?_,by simp[h0],λs=>AR,rfl,rfl,rfl,rfl,by simp[ad.fresh,ad.grow],id,.inl aJ,by simp[ad.fresh,ad.grow];omega,by simp[ad.grow],rfl,λD U fD=>?_⟩
  ·simp only[fx,iO,if_true,c7,gp,Nat.one_ne_zero,if_false,kr];rw[if_pos ⟨by omega,by omega,fZ⟩,AW cO,bf,if_pos ⟨trivial,rfl,by omega⟩]
  ·have F:D≠id:=λe=>fD (by rw[e];exact aJ);simp[ad.grow,ad.fresh,F,show D≠h.ids by omega]
theorem adZ{J:ad}{dv:I}{n:er}(g:fO h ag ap b G)(af:uC h ag b oe dv (G.shut.map λx=>[.bool x]))(ao:J.cell=h.cell)(aq:J.n=h.n)(gM:h.ids<=J.ids)(bm:∃id,(ap id\/h.ids<=id)/\id<J.ids/\J.hw id=G.nodes.length+1/\bu= .bR (j id) iB (G.nodes.map dS++[dS n])/\∀D,D<h.ids->¬ap D->J.hw D=h.hw D):hF h ag ap b (J.set b (j [[bu,dv]])) ⟨G.nodes++[n],G.shut⟩:=by
 obtain⟨id,aJ,a1,bf,cv,ez⟩:=bm;refine⟨ag,λD=>D=id,⟨⟨g.ai.1,by rw[lA,aq];exact g.ai.2⟩,⟨λk Z=>by rw[lA,aq];exact g.lt.1 k Z,λD U=>by rw[U];exact a1⟩,bu,dv,lz,.inr ⟨id,rfl,by simp,a1,by rw[AU,bf];simp,by rw[cv];simp⟩,?_⟩,⟨by rw[lA,aq];exact bV _,by rw[AT];exact gM,λk Z cR=>?_,λD U fD=>by rw[AU];exact ez D U fD⟩,λ_=>.inl,λD U=>by rw[U];exact aJ⟩
 ·rcases af with af|⟨q,c9,dx,gH,p9,v2⟩
  ·exact .inl af
  ·exact .inr ⟨q,c9,dx,by rw[lA,aq];exact gH,by rw[gB dx,ao];exact p9,v2⟩
 ·rw[gB (λe=>cR (by rw[e];exact g.ai.1)),ao]
theorem JY(g:fO h ag ap b G)(dl:G.cz)(n:er):∃J,a3 ar W 88 [.ptr b 0 0,.agg (dS n)] h=j (.inl (.bW [.int o (G.add n).2.1,.int o (G.add n).2.2]),J)/\hF h ag ap b J (G.add n).1:=by
 have vY:=aK.push h [dS n];have c1:=g.iZ vY;have hL:h.n≠b:=by have:=g.ai.2;omega
 obtain⟨aI,dv,F,O,af⟩:=c1.ex;have QD:=dl.ps;have JZ:=Bp c1;unfold aC.add
 skip
 cases aj:uz n.et
 ·rw[if_pos rfl];refine⟨h.push [dS n],?_,hF.iZ g vY⟩;refine bC zo rfl ?_;unfold xx;simp only[ay,aD,aO,ax,qi,zr,aj]
 ·rw[if_neg (by simp)];have stop:(n.gate≠ -1/\G.gb n.gate=T)\/(n.gate= -1\/G.gb n.gate=Q):=by
   by_cases e:n.gate= -1
   ·exact .inr (.inl e)
   ·cases bP:G.gb n.gate
    ·exact .inl ⟨e,rfl⟩
    ·exact .inr (.inr rfl)
  rcases stop with av|av
  ·rw[if_pos av];refine⟨h.push [dS n],?_,hF.iZ g vY⟩;obtain⟨a4,bn⟩:=av;refine bC zo rfl ?_;unfold xx;simp only[ay,aD,aO,ax,qi,zr,aj,JZ,a4,bn]
  ·have w4:¬(n.gate≠ -1/\G.gb n.gate=T):=by
    rintro⟨a,b⟩;rcases av with av|av
    ·exact a av
    ·rw[b]at av;cases av
   rw[if_neg w4];have kB:decide (n.gate= -1)=Q\/decide (n.gate= -1)=T/\G.gb n.gate=Q:=by
    rcases av with av|av
    ·exact .inl (by simp[av])
    ·by_cases e:n.gate= -1
     ·exact .inl (by simp[e])
     ·exact .inr ⟨by simp[e],av⟩
   cases a6:decide ((G.nodes.length:Int)=80)
   ·have cO:¬G.nodes.length=80:=by simp at a6;omega
    rw[if_neg cO];obtain⟨J,bu,aJ,a1,bf,cv,ez,i8,v0,xF,JX⟩:=adY (h.push [dS n]) O (row:=dS n) rfl (by simp;omega);have zt:jN o (((G.nodes.length+1:Nat):Int) - 1)=(G.nodes.length:Int):=by rw[ht]<;>omega
    refine⟨J.set b (j [[bu,dv]]),?_,hF.after vY (adZ c1 af i8 v0 xF (by simpa using JX))⟩;simp only[AV,iX]at aJ a1;rcases kB with kB|⟨kB,sm⟩
    ·refine bC zo rfl ?_;unfold xx;simp only[ay,aD,aO,ax,dI,qi,zr,aj,kB,a6,F,O.e'.len,O.e'.fits,iX,aJ,a1,bf,cv,ez,i8,zt]
    ·refine bC zo rfl ?_;unfold xx;simp only[ay,aD,aO,ax,dI,qi,zr,aj,JZ,kB,sm,a6,F,O.e'.len,O.e'.fits,iX,aJ,a1,bf,cv,ez,i8,zt]
   ·have he:G.nodes.length=80:=by simp at a6;omega
    rw[if_pos he];refine⟨h.push [dS n],?_,hF.iZ g vY⟩;rcases kB with kB|⟨kB,sm⟩
    ·refine bC zo rfl ?_;unfold xx;simp only[ay,aD,aO,ax,qi,zr,aj,kB,a6,F,O.e'.len,O.e'.fits,iX]
    ·refine bC zo rfl ?_;unfold xx;simp only[ay,aD,aO,ax,qi,zr,aj,JZ,kB,sm,a6,F,O.e'.len,O.e'.fits,iX]
end
section
variable{h J ae:ad}{ag ap aH aA:Nat->Prop}{X Y cq:cd}{L:List cd}
theorem gx.same(x:X.A h ag ap):gx h ag ap h X:=⟨ag,ap,x,lc.refl _ _ _,λ_=>.inl,λ_=>.inl⟩
theorem gx.imp(Bv:∀h ag ap,X.A h ag ap->Y.A h ag ap)(d:gx h ag ap J X):gx h ag ap J Y:=by obtain⟨ke,kf,x,r⟩:=d;exact⟨ke,kf,Bv _ _ _ x,r⟩
theorem gx.chain(kb:lc aH aA ae h)(a:∀k,ag k->aH k\/ae.n<=k)(b:∀D,ap D->aA D\/ae.ids<=D)(d:gx h ag ap J Y):gx ae aH aA J Y:=by
 obtain⟨dQ,dT,y,bZ,a1,dx⟩:=d;refine⟨dQ,dT,y,kb.then bZ a b,λk Z=>?_,λD U=>?_⟩
 ·rcases a1 k Z with h|h
  ·exact a k h
  ·exact .inr (ef kb.n h)
 ·rcases dx D U with h|h
  ·exact b D h
  ·exact .inr (ef kb.ids h)
theorem QP(x:(hv X cq).A h ag ap)(c:∀eQ eR,X.A h eQ eR->∃J,dG J/\gx h eQ eR J Y):∃J,dG J/\gx h ag ap J (hv Y cq):=by
 obtain⟨eQ,eR,dQ,dT,b2,z,cR,fD,pv,pw⟩:=x;obtain⟨J,r,nE,nF,y,b',bf,gH⟩:=c eQ eR b2;have kz:=cq.lt z;refine⟨J,r,λk=>nE k\/dQ k,λD=>nF D\/dT D,⟨nE,nF,dQ,dT,y,cq.fH z b' (λk Z F=>pv k F Z) (λD U F=>pw D F U),λ_=>mY,λ_=>mY,λk af O=>?_,λD af O=>?_⟩,?_,λk Z=>?_,λD U=>?_⟩
 ·rcases bf k af with h|h
  ·exact pv k h O
  ·have:=kz.1 k O;omega
 ·rcases gH D af with h|h
  ·exact pw D h O
  ·have:=kz.2 D O;omega
 ·exact⟨b'.n,b'.ids,λk Z au=>b'.cell k Z λF=>au ((cR k).2 (.inl F)),λD U au=>b'.hw D U λF=>au ((fD D).2 (.inl F))⟩
 ·rcases Z with h|h
  ·exact(bf k h).imp (λh=>(cR k).2 (.inl h)) id
  ·exact .inl ((cR k).2 (.inr h))
 ·rcases U with h|h
  ·exact(gH D h).imp (λh=>(fD D).2 (.inl h)) id
  ·exact .inl ((fD D).2 (.inr h))
theorem Bw(x:(hv X Y).A h ag ap):(hv Y X).A h ag ap:=by obtain⟨eQ,eR,dQ,dT,b2,z,cR,fD,pv,pw⟩:=x;exact⟨dQ,dT,eQ,eR,z,b2,λk=>(cR k).trans or_comm,λD=>(fD D).trans or_comm,λk O F=>pv k F O,λD O F=>pw D F O⟩
theorem Bx(x:(hv (hv X Y) cq).A h ag ap):(hv X (hv Y cq)).A h ag ap:=by
 obtain⟨eQ,eR,dQ,dT,⟨nE,nF,sn,so,fb,mQ,J0,J1,ad0,ad1⟩,z,cR,fD,pv,pw⟩:=x;refine⟨nE,nF,λk=>sn k\/dQ k,λD=>so D\/dT D,fb,⟨sn,so,dQ,dT,mQ,z,λ_=>mY,λ_=>mY,λk aw=>pv k ((J0 k).2 (.inr aw)),λD aw=>pw D ((J1 D).2 (.inr aw))⟩,λk=>?_,λD=>?_,λk af h=>?_,λD af h=>?_⟩
 ·rw[cR k,J0 k,or_assoc]
 ·rw[fD D,J1 D,or_assoc]
 ·rcases h with h|h
  ·exact ad0 k af h
  ·exact pv k ((J0 k).2 (.inl af)) h
 ·rcases h with h|h
  ·exact ad1 D af h
  ·exact pw D ((J1 D).2 (.inl af)) h
theorem By(x:(hv X (hv Y cq)).A h ag ap):(hv Y (hv X cq)).A h ag ap:=by have a:=Bx (Bw x);obtain⟨eQ,eR,dQ,dT,y,ad2,r⟩:=a;exact⟨eQ,eR,dQ,dT,y,Bw ad2,r⟩
theorem tu{s1 s2:cd}(an:∀h ag ap,X.A h ag ap->s1.A h ag ap)(bF:∀h ag ap,Y.A h ag ap->s2.A h ag ap)(x:(hv X Y).A h ag ap):(hv s1 s2).A h ag ap:=by obtain⟨eQ,eR,dQ,dT,b2,fT,r⟩:=x;exact⟨eQ,eR,dQ,dT,an _ _ _ b2,bF _ _ _ fT,r⟩
def aQ(ae:ad)(aH aA:Nat->Prop)(h:ad)(L:List cd):Prop:=gx ae aH aA h (c4 L)
theorem aQ.perm{mn:List cd}(aB:List.Perm L mn):∀{h ag ap},(c4 L).A h ag ap->(c4 mn).A h ag ap:=by
 induction aB with
 |nil=>exact λx=>x
 |cons X _ aW=>exact λx=>tu (λ_ _ _ y=>y) (λ_ _ _ y=>aW y) x
 |swap X Y l=>exact λx=>By x
 |trans _ _ vs qS=>exact λx=>qS (vs x)
theorem c4.front:∀{L:List cd} {i:Nat} {X:cd},L[i]? =j X->∀{h ag ap},(c4 L).A h ag ap↔(hv X (c4 (L.eraseIdx i))).A h ag ap
 |[],i,X,aa,_,_,_=>by simp at aa
 |Y::L,0,X,aa,h,ag,ap=>by
   obtain rfl:Y=X:=by simpa using aa
   exact mY
 |Y::L,i+1,X,aa,h,ag,ap=>by
   have aW:∀{h:ad} {ag ap:Nat->Prop},(c4 L).A h ag ap↔(hv X (c4 (L.eraseIdx i))).A h ag ap:=c4.front (by simpa using aa);constructor
   ·intro x;exact By (tu (λ_ _ _ y=>y) (λ_ _ _ y=>aW.1 y) x)
   ·intro x;exact tu (λ_ _ _ y=>y) (λ_ _ _ y=>aW.2 y) (By x)
theorem c4.back{i:Nat}(aa:i<L.length)(x:(hv X (c4 (L.eraseIdx i))).A h ag ap):(c4 (L.set i X)).A h ag ap:=by rw[c4.front (L:=L.set i X) (i:=i) (X:=X) (by simp[aa])];rw[show(L.set i X).eraseIdx i=L.eraseIdx i from List.eraseIdx_set_eq];exact x
theorem aQ.call(s:aQ ae aH aA h L)(i:Nat)(aa:L[i]? =j X)(c:∀ag ap,X.A h ag ap->∃J,dG J/\gx h ag ap J Y):∃J,dG J/\aQ ae aH aA J (L.set i Y):=by have al:i<L.length:=(gg.1 aa).1;obtain⟨ag,ap,x,kb,a,b⟩:=s;obtain⟨J,r,d⟩:=QP ((c4.front aa).1 x) c;exact⟨J,r,gx.chain kb a b (d.imp λ_ _ _ y=>c4.back al y)⟩
theorem aQ.start(x:(c4 L).A h ag ap):aQ h ag ap h L:=gx.same x
theorem aQ.get(s:aQ ae aH aA h L)(i:Nat)(aa:L[i]? =j X):∃ag ap,X.A h ag ap:=by obtain⟨ag,ap,x,_⟩:=s;obtain⟨eQ,eR,_,_,b2,_⟩:=(c4.front aa).1 x;exact⟨eQ,eR,b2⟩
theorem aQ.cell(s:aQ ae aH aA h L)(i:Nat){b:Nat}{es:List (List I)}(aa:L[i]? =j (a9 b es)):h.cell b=j es/\b<h.n:=by obtain⟨_,_,_,_,c,d⟩:=s.get i aa;exact⟨d,c⟩
theorem aQ.imp{mn:List cd}(s:aQ ae aH aA h L)(an:∀h ag ap,(c4 L).A h ag ap->(c4 mn).A h ag ap):aQ ae aH aA h mn:=gx.imp an s
theorem aQ.iZ(s:aQ ae aH aA h L)(g:aK h J):aQ ae aH aA J L:=by obtain⟨ag,ap,x,kb,a,b⟩:=s;have lt:=(c4 L).lt x;exact⟨ag,ap,(c4 L).fH x (g.tm (λ_=>False) λ_=>False) (λ_ _ h=>h) (λ_ _ h=>h),kb.trans (g.tm _ _),a,b⟩
theorem aQ.add(s:aQ ae aH aA h L)(g:aK h J){eQ eR:Nat->Prop}(b2:X.A J eQ eR)(cR:∀k,eQ k->h.n<=k)(fD:∀D,eR D->h.ids<=D):aQ ae aH aA J (X::L):=by
 obtain⟨ag,ap,x,kb,a,b⟩:=s;have lt:=(c4 L).lt x;have iI:=(c4 L).fH x (g.tm (λ_=>False) λ_=>False) (λ_ _ h=>h) (λ_ _ h=>h);refine⟨λk=>eQ k\/ag k,λD=>eR D\/ap D,⟨eQ,eR,ag,ap,b2,iI,λ_=>mY,λ_=>mY,λk F O=>?_,λD F O=>?_⟩,kb.trans (g.tm _ _),λk Z=>?_,λD U=>?_⟩
 ·have:=lt.1 k O;have:=cR k F;omega
 ·have:=lt.2 D O;have:=fD D F;omega
 ·exact Z.elim (λh=>.inr (ef kb.n (cR k h))) (a k)
 ·exact U.elim (λh=>.inr (ef kb.ids (fD D h))) (b D)
theorem aQ.push(s:aQ ae aH aA h L)(es:List (List I)):aQ ae aH aA (h.push es) (a9 h.n es::L):=s.add (aK.push h es) (eQ:=λk=>k=h.n) (eR:=λ_=>False) ⟨λ_=>mY,λ_ h=>h,Nat.lt_succ_self _,kd⟩ (λk Z=>pg Z.symm) (λ_ h=>h.elim)
theorem aQ.fresh(s:aQ ae aH aA h L)(m:Nat):aQ ae aH aA (h.fresh m) (A2 h.ids m::L):=s.add (aK.fresh h m) (eQ:=λ_=>False) (eR:=λD=>D=h.ids) ⟨λ_ h=>h,λ_=>mY,Nat.lt_succ_self _,by simp[ad.fresh]⟩ (λ_ h=>h.elim) (λD U=>pg U.symm)
theorem aQ.set(s:aQ ae aH aA h L)(i:Nat){b:Nat}{es:List (List I)}(aa:L[i]? =j (a9 b es))(cP:List (List I)):aQ ae aH aA (h.set b (j cP)) (L.set i (a9 b cP)):=by obtain⟨J,rfl,d⟩:=s.call (dG:=λq=>q=h.set b (j cP)) i aa (Y:=a9 b cP) λag ap ⟨aJ,a1,bf,cv⟩=>⟨_,rfl,ag,ap,⟨aJ,a1,bf,lz⟩,⟨bV _,bV _,λk _ Z=>gB λe=>Z ((aJ k).2 e),λ_ _ _=>rfl⟩,λ_=>.inl,λ_=>.inl⟩;exact d
theorem aQ.del(s:aQ ae aH aA h L)(i:Nat){b:Nat}(aa:L[i]? =j (a9 b es)):aQ ae aH aA (h.set b ab) (L.set i (uD True)):=by obtain⟨J,rfl,d⟩:=s.call (dG:=λq=>q=h.set b ab) i aa (Y:=uD True) λag ap ⟨aJ,a1,bf,cv⟩=>⟨_,rfl,λ_=>False,λ_=>False,⟨trivial,λ_ h=>h,λ_ h=>h⟩,⟨bV _,bV _,λk _ Z=>gB λe=>Z ((aJ k).2 e),λ_ _ _=>rfl⟩,λ_ h=>h.elim,λ_ h=>h.elim⟩;exact d
theorem aQ.drop(s:aQ ae aH aA h (X::L)):aQ ae aH aA h L:=by obtain⟨ag,ap,⟨eQ,eR,dQ,dT,_,ds,cR,fD,_,_⟩,kb,a,b⟩:=s;exact⟨dQ,dT,ds,kb,λk Z=>a k ((cR k).2 (.inr Z)),λD U=>b D ((fD D).2 (.inr U))⟩
end
open Go Go.ChangeShapes Go.WideShapes Go.ChangeAt Go.RowKit Go.Deep
def lH(P:cp):Nat->aT->List I->Prop
 |0,_,_=>False
 |n+1,t,cs=>match P.underlying t with
   |some .bool=>∃b,cs=[.bool b]
   |some (.int k)=>∃z,cs=[.int k z]/\(Lit.int k z).wf=Q
   |some .string=>∃s,cs=[.str s]/\s.length<=maxLen
   |some (.slice e)=>cs=[.aF]\/∃es,cs=[.bR ab e es]/\es.length<=maxLen/\∀r∈es,r.length=P.cellsOf e/\lH P n e r
   |some (.struct cP)=>∃parts:List (List I),cs=parts.flatten/\parts.length=cP.size/\∀(i:Nat) (f:Field),cP[i]? =j f->∃p,parts[i]? =j p/\p.length=P.cellsOf f.type/\lH P n f.type p
   |_=>False
def v3(P:cp):Nat->List Field->Nat->Bool
 |E,[],m=>E==m
 |E,f::r,m=>f.offset==E&&v3 P (E+P.cellsOf f.type) r m
def J2(P:cp)(S:List aT):Bool:=S.all λt=>match P.underlying t with
 |some .bool|some (.int _)|some .string=>Q
 |some (.slice e)=>S.contains e&&P.cellsOf e != 0
 |some (.struct cP)=>v3 P 0 cP.toList (P.cellsOf t)&&cP.toList.all λf=>S.contains f.type
 |_=>T
theorem QQ{P:cp}:∀{l:List Field} {E m:Nat},v3 P E l m=Q->E<=m
 |[],E,m,h=>by simp[v3]at h;omega
 |f::r,E,m,h=>by simp only[v3,gS]at h;have:=QQ h.2;omega
section
variable{H:Type}{enc:aT×bK->H}{P:cp}{fw:cQ}{S:List aT}
theorem QR{n:Nat}(aW:∀t cs x,t∈S->DataW.trod enc P fw 0 (λ_=>Q) Q n t cs=j x->∃rt,lH P n t rt/\dj P (sl fw) pB rt cs):∀(tv:List Field) (E m:Nat) (cs:List bK),v3 P E tv m=Q->cs.length=m->(∀f∈tv,f.type∈S/\∃x,DataW.trod enc P fw 0 (λ_=>Q) Q n f.type ((cs.drop f.offset).take (P.cellsOf f.type))=j x)->∃parts:List (List I),parts.length=tv.length/\(∀(i:Nat) (f:Field),tv[i]? =j f->∃p,parts[i]? =j p/\p.length=P.cellsOf f.type/\lH P n f.type p)/\dj P (sl fw) pB parts.flatten (cs.drop E)
 |[],E,m,cs,h,aj,bc=>by simp only[v3,beq_iff_eq]at h;refine⟨[],rfl,λi f aa=>by simp at aa,?_⟩;rw[List.drop_eq_nil_of_le (by omega)];exact dj.nil
 |f::tv,E,m,cs,h,aj,bc=>by
   simp only[v3,gS,beq_iff_eq]at h;obtain⟨F,O⟩:=h;have hle:=QQ O;obtain⟨av,x,an⟩:=bc f (by simp);obtain⟨p,rb,Bz⟩:=aW _ _ _ av an;obtain⟨parts,bN,bL,c2⟩:=QR aW tv (E+P.cellsOf f.type) m cs O aj (λg aX=>bc g (by simp[aX]));rw[F]at Bz;have al:p.length=P.cellsOf f.type:=by have:=Bz.1;rw[List.length_take,List.length_drop]at this;omega
   refine⟨p::parts,by simp[bN],?_,?_⟩
   ·intro i g aa;cases i with
    |zero=>
      obtain rfl:f=g:=by simpa using aa
      exact⟨p,rfl,al,rb⟩
    |succ i=>exact bL i g (by simpa using aa)
   ·have e:cs.drop E=(cs.drop E).take (P.cellsOf f.type)++cs.drop (E+P.cellsOf f.type):=by rw[<-List.drop_drop,List.take_append_drop]
    rw[e,List.flatten_cons];exact dj.append Bz c2
theorem J3(cl:J2 P S=Q):∀(fuel:Nat) (t:aT) (cs:List bK) (x:DataW H×List MemPlace),t∈S->DataW.trod enc P fw 0 (λ_=>Q) Q fuel t cs=j x->∃rt,lH P fuel t rt/\dj P (sl fw) pB rt cs
 |0,t,cs,x,_,h=>by simp[DataW.trod]at h
 |n+1,t,cs,x,aL,h=>by
   have QS:=cl;have aj:=iR.1 cl t aL;simp only[lH];split at aj
   ·rename_i bH;obtain⟨b,rfl, -⟩:=DataW.trod_bool bH h;exact⟨_,⟨b,rfl⟩,dj.cons (.bool b) dj.nil⟩
   ·rename_i k bH;obtain⟨z,rfl, -,hw⟩:=DataW.trod_int bH h;exact⟨_,⟨z,rfl,hw⟩,dj.cons (.int k z) dj.nil⟩
   ·rename_i bH;obtain⟨s,rfl, -,hw⟩:=DataW.trod_string bH h;exact⟨_,⟨s.data.toList,rfl,by simpa using hw⟩,dj.cons (adM s) dj.nil⟩
   ·rename_i e bH;simp only[gS,bne_iff_ne,ne_eq,List.contains_iff_mem]at aj;rcases DataW.trod_slice bH h with⟨rfl, -⟩|⟨a,len,cap,elems,rest,bS,au,rfl, -,ai,al,hm,hlen,QT, -, -⟩
    ·exact⟨_,Or.inl rfl,dj.cons .aF dj.nil⟩
    ·obtain rfl:n=bS:=by omega
     have key:∀i,i<len->∃q:List I×List bK,fw.cells? 0 (a.add (i*P.cellsOf e)) (P.cellsOf e)=j q.2/\lH P n e q.1/\dj P (sl fw) pB q.1 q.2:=by intro i aa;have F:=QT i aa;rw[fz (by omega)]at F;obtain⟨fM,O,af⟩:=c'.1 F;obtain⟨rt,aw,bg⟩:=J3 QS n e fM _ aj.1 af;exact⟨(rt,fM),O,aw,bg⟩
     obtain⟨V,rr⟩:=choose_lt key;have EU:∀i,i<len->(V i).1.length=P.cellsOf e/\(V i).2.length=P.cellsOf e:=λi aa=>by obtain⟨F,O,af⟩:=rr i aa;have:=(World.cells?_some F).2.1;exact⟨by rw[<-this,af.1],this⟩
     refine⟨_,Or.inr ⟨(iQ len).map λi=>(V i).1,rfl,by simp;omega,?_⟩,dj.cons ?_ dj.nil⟩
     ·intro r ah;obtain⟨i,aa,rfl⟩:=n0.1 ah;have aa:=jl.1 aa;exact⟨(EU i aa).1,(rr i aa).2.1⟩
     ·by_cases aN:len=0
      ·subst aN;exact .me e a cap
      ·have aM:a=⟨a.block,a.off,ab⟩:=by obtain⟨F,O,af⟩:=rr 0 (by omega);have:=(World.cells?_some F).2.2 0 (by omega);rw[fz (by rw[(EU 0 (by omega)).2];omega)]at this;have QU:=World.cell?_spot this;obtain⟨b,E,W4⟩:=a;simp[Addr.add]at QU;subst QU;rfl
       have:=bI.bR (P:=P) (m:=sl fw) (h:=pB) ab e ((iQ len).map λi=>(V i).1) a.block a.off cap (λi D=>(V i).2.getD D default) (λr ah=>?_) (λi aa D U=>?_) (λi aa D U=>?_) (by simpa using al) (λq aG=>by cases aG)
       ·rw[<-aM]at this;simpa using this
       ·obtain⟨i,aa,rfl⟩:=n0.1 ah;exact(EU i (jl.1 aa)).1
       ·simp only[iX,List.length_range]at aa;obtain⟨F,O,af⟩:=rr i aa;have aw:=(World.cells?_some F).2.2 D U;rw[Go.Deep.add_add,aM,oC]at aw;have bg:D<(V i).2.length:=by rw[(EU i aa).2];exact U
        rw[fz bg]at aw;show fw.cell? _=_;rw[aw];simp[cK,bg]
       ·simp only[iX,List.length_range]at aa;obtain⟨F,O,af⟩:=rr i aa;simp only[List.getElem_map,List.getElem_range]at U ⊢;have bg:D<(V i).2.length:=by rw[af.1];exact U
        have:=af.2 D U bg;simpa[cK,bg]using this
   ·rename_i cP bH;simp only[gS,iR,List.contains_iff_mem]at aj;obtain⟨xs,bS,au, -,al,qX,bc⟩:=DataW.trod_struct bH h;obtain rfl:n=bS:=by omega
    obtain⟨parts,bN,bL,c2⟩:=QR (S:=S) (n:=n) (λt cs x aL h=>J3 QS n t cs x aL h) cP.toList 0 (P.cellsOf t) cs aj.1 al (λf hm=>⟨aj.2 f hm,by
     obtain⟨i,aa⟩:=List.mem_iff_getElem?.1 hm;rw[pd]at aa;have F:=bc i f aa;have O:=(Array.getElem?_eq_some_iff.1 aa).1;rw[fz (by omega)]at F;exact⟨_,F⟩⟩)
    exact⟨_,⟨parts,rfl,by simpa using bN,λi f aa=>bL i f (by rw[pd];exact aa)⟩,by simpa using c2⟩
   ·cases aj
theorem ad3{t e:aT}(cl:J2 P S=Q)(hm:t∈S)(bH:P.underlying t=j (.slice e)){v:bK}{d:DataW H}{p:List MemPlace}{r:Reach}{lk:Nat}(pj:Value.okWide P fw r lk t v)(h:DataW.Trod enc P fw 0 (λ_=>Q) Q t v d p):∃n v5,lH P n t [v5]/\bI P (sl fw) pB v5 v:=by
 obtain⟨a,len,cap,rfl⟩:=okWide_slice bH pj;obtain⟨fuel,bc⟩:=h;obtain⟨rt,F,O⟩:=J3 cl fuel t _ _ hm bc;have al:=O.1
 match rt,al with
 |[v5],_=>exact⟨fuel,v5,F,O.2 0 (by simp) (by simp[Value.cells])⟩
end
section
variable{P:cp}{t e:aT}{cs:List I}
theorem sp{n:Nat}{k:jC}(bH:P.underlying t=j (.int k))(h:lH P n t cs):∃z,cs=[.int k z]/\(Lit.int k z).wf=Q:=by
 cases n with
 |zero=>exact h.elim
 |succ n=>simpa only[lH,bH]using h
def J4(e:aT)(v:I)(es:List (List I)):Prop:=(es=[]/\v= .aF)\/v= .bR ab e es
theorem J5{n:Nat}(bH:P.underlying t=j (.slice e))(h:lH P n t cs):∃m v es,n=m+1/\cs=[v]/\J4 e v es/\es.length<=maxLen/\∀r∈es,r.length=P.cellsOf e/\lH P m e r:=by
 cases n with
 |zero=>exact h.elim
 |succ n=>
   simp only[lH,bH]at h;rcases h with rfl|⟨es,rfl,F,O⟩
   ·exact⟨n,.aF,[],rfl,rfl,.inl ⟨rfl,rfl⟩,by simp,λr ah=>by simp at ah⟩
   ·exact⟨n,_,es,rfl,rfl,.inr rfl,F,O⟩
def BA(P:cp)(t:aT):Option (List aT):=match P.underlying t with
 |some (.struct cP)=>j (cP.toList.map (·.type))
 |_=>ab
theorem J6{n:Nat}{b7:List aT}(bH:BA P t=j b7)(h:lH P n t cs):∃m,n=m+1/\∃parts:List (List I),cs=parts.flatten/\parts.length=b7.length/\∀(i:Nat) (cV:aT),b7[i]? =j cV->∃p,parts[i]? =j p/\p.length=P.cellsOf cV/\lH P m cV p:=by
 cases n with
 |zero=>exact h.elim
 |succ n=>
   unfold BA at bH;simp only[lH]at h;split at bH
   ·rename_i cP bc;cases bH;rw[bc]at h;obtain⟨parts,F,O,af⟩:=h;refine⟨n,rfl,parts,F,by simpa using O,λi cV aa=>?_⟩;rw[s6]at aa;obtain⟨f,aw,bg⟩:=dd.1 aa;subst bg;exact af i f (by rw[<-pd];exact aw)
   ·cases bH
theorem ad4{α:Type}{l:List α}(h:l.length=1):∃a,l=[a]:=by
 match l,h with
 |[a],_=>exact⟨a,rfl⟩
theorem ST{α:Type}{l:List α}(h:l.length=2):∃a b,l=[a,b]:=by
 match l,h with
 |[a,b],_=>exact⟨a,b,rfl⟩
theorem ad5{α:Type}{l:List α}(h:l.length=3):∃a b c,l=[a,b,c]:=by
 match l,h with
 |[a,b,c],_=>exact⟨a,b,c,rfl⟩
theorem ad6{α:Type}{l:List α}(h:l.length=4):∃a b c d,l=[a,b,c,d]:=by
 match l,h with
 |[a,b,c,d],_=>exact⟨a,b,c,d,rfl⟩
end
theorem fE.e'{e:aT}{v:I}(h:fE e v es):oM e v es:=by
 rcases h with⟨rfl,rfl⟩|⟨id,rfl⟩
 ·exact IM e
 ·exact AX _ _ _
theorem J4.BB{e:aT}{v:I}(h:J4 e v es):fE e v es:=by
 rcases h with h|h
 ·exact .inl h
 ·exact .inr ⟨_,h⟩
theorem eF.len:∀{l:List ak} {es:List (List I)},eF l es->es.length=l.length
 |[],es,h=>by simp only[eF]at h;subst h;rfl
 |x::l,es,h=>by simp only[eF]at h;obtain⟨r,rs,rfl,_,O⟩:=h;simp[eF.len O]
theorem eF.get:∀{l:List ak} {es:List (List I)} {i:Nat} {x:ak},eF l es->l[i]? =j x->∃r,es[i]? =j r/\b1 x r
 |[],es,i,x,h,an=>by simp at an
 |y::l,es,i,x,h,an=>by
   simp only[eF]at h;obtain⟨r,rs,rfl,F,O⟩:=h;cases i with
   |zero=>
     obtain rfl:y=x:=by simpa using an
     exact⟨r,rfl,F⟩
   |succ i=>simpa using eF.get O (by simpa using an)
theorem eF.append{l:List ak}{x:ak}{r:List I}(h:eF l es)(an:b1 x r):eF (l++[x]) (es++[r]):=by
 induction l generalizing es with
 |nil=>simp only[eF]at h;subst h;simp[eF,an]
 |cons y l aW=>simp only[eF]at h;obtain⟨q,rs,rfl,F,O⟩:=h;exact⟨q,rs++[r],rfl,F,aW O⟩
theorem b1.row{x:ak}{r:List I}(h:b1 x r):∃v es,r=[.int o x.kind,.int o x.n,v]/\fE cg v es/\eF x.l es:=by
 cases x with
 |mk kind n l=>simp only[b1]at h;exact h
theorem b1.one{x:ak}{r:List I}(h:b1 x r):r.all I.one=Q/\r.length=3:=by obtain⟨v,es,rfl,R,_⟩:=h.row;rcases R with⟨_,rfl⟩|⟨id,rfl⟩<;>exact⟨rfl,rfl⟩
mutual
theorem BC:∀{x:ak} {r:List I},b1 x r->∃bM,o' r=j bM/\b1 x bM
 |.mk kind n l,r,h=>by
   simp only[b1]at h;obtain⟨v,es,rfl,R,al⟩:=h;obtain⟨fL,F,O⟩:=EV al;rcases R with⟨rfl,rfl⟩|⟨id,rfl⟩
   ·exact⟨_,rfl,by simp only[b1];exact⟨_,[],rfl,.inl ⟨rfl,rfl⟩,al⟩⟩
   ·refine⟨[.int o kind,.int o n,.bR ab cg fL],?_,?_⟩
    ·simp only[o',dA,F,hj]
    ·simp only[b1];exact⟨_,fL,rfl,.inr ⟨_,rfl⟩,O⟩
theorem EV:∀{l:List ak} {es:List (List I)},eF l es->∃fL,pT es=j fL/\eF l fL
 |[],es,h=>by simp only[eF]at h;subst h;exact⟨[],rfl,rfl⟩
 |x::l,es,h=>by simp only[eF]at h;obtain⟨r,rs,rfl,F,O⟩:=h;obtain⟨bM,bN,bL⟩:=BC F;obtain⟨tf,c2,fm⟩:=EV O;exact⟨bM::tf,by simp only[pT,bN,c2],by simp only[eF];exact⟨bM,tf,rfl,bL,fm⟩⟩
end
structure sq(h:ad)(v:I)(l:List ak):Prop where
 len:h0 v=j l.length
 fits:∀s,jL s (j cg) v=Q
 one:v.one=Q
 b8:∀(i:Nat) (y:ak),l[i]? =j y->∃a q,ft (j cg) ab v (.int o (i:Int))=j a/\(∀J,aK h J->c0 Q 3 J a=j (.agg q))/\b1 y q
theorem sq.of{h:ad}{v:I}{l:List ak}(R:fE cg v es)(al:eF l es):sq h v l:=by
 refine⟨?_,R.e'.fits,?_,λi y bF=>?_⟩
 ·rw[<-al.len];exact R.e'.len
 ·rcases R with⟨_,rfl⟩|⟨id,rfl⟩<;>rfl
 ·obtain⟨q,F,O⟩:=al.get bF;exact⟨.ip q 0,q,R.e'.b8 o i q F,λJ _=>kQ O.one.2,O⟩
theorem b1.mk{x:ak}{v:I}(R:fE cg v es)(al:eF x.l es):b1 x [.int o x.kind,.int o x.n,v]:=by rw[x.eta];simp only[b1];exact⟨v,es,rfl,R,by simpa[ak.l]using al⟩
theorem b1.facts{x:ak}{r:List I}(h:b1 x r):∃v es,r=[.int o x.kind,.int o x.n,v]/\oM cg v es/\v.one=Q/\es.length=x.l.length/\∀(i:Nat) (y:ak),x.l[i]? =j y->∃q,ft (j cg) ab v (.int o (i:Int))=j (.ip q 0)/\gG Q 3 q 0=j (.agg q)/\b1 y q:=by
 obtain⟨v,es,rfl,R,al⟩:=h.row;refine⟨v,es,rfl,R.e',?_,al.len,λi y bF=>?_⟩
 ·rcases R with⟨_,rfl⟩|⟨id,rfl⟩<;>rfl
 ·obtain⟨q,F,O⟩:=al.get bF;exact⟨q,R.e'.b8 o i q F,kQ O.one.2,O⟩
abbrev eM:aT:=126
abbrev kS:aT:=127
theorem b1.cZ{x:ak}{r:List I}(h:b1 x r):r.length=3/\r.all I.one=Q:=by
 cases x with
 |mk k n l=>obtain⟨v,es,rfl,F,_⟩:=h;rcases F with⟨_,rfl⟩|⟨id,rfl⟩<;>exact⟨rfl,rfl⟩
theorem eF.app:∀{l m:List ak} {es cP:List (List I)},eF l es->eF m cP->eF (l++m) (es++cP)
 |[],m,es,cP,h,g=>by simp only[eF]at h;subst h;exact g
 |x::l,m,es,cP,h,g=>by obtain⟨r,rs,rfl,F,O⟩:=h;exact⟨r,rs++cP,rfl,F,eF.app O g⟩
theorem eF.one{x:ak}{r:List I}(h:b1 x r):eF [x] [r]:=⟨r,[],rfl,h,rfl⟩
theorem eF.take:∀{l:List ak} {es:List (List I)},eF l es->∀n,eF (l.take n) (es.take n)
 |[],_,h,n=>by simp only[eF]at h;subst h;simp[eF]
 |y::l,es,h,n=>by
   obtain⟨r,rs,rfl,F,O⟩:=h;cases n with
   |zero=>simp[eF]
   |succ n=>exact⟨r,rs.take n,rfl,F,eF.take O n⟩
def ad7(e:aT)(v:I)(rows:List (List I)):cd:=Pm (uD (rows=[]/\v= .aF)) (vP λq:Nat×List (List I)=>zd (v= .bd q.1 0 rows.length e/\rows.length<=q.2.length/\rows=q.2.take rows.length) (a9 q.1 q.2))
def it(v:I)(l:List ak):cd:=vP λrows:List (List I)=>zd (eF l rows) (ad7 cg v rows)
def fP(f:hH)(a:List I)(s n g:I):List I:=[.int o f.bw,.int o f.f,.int o (f.bs:Int)]++a++[s,n,.bool f.asked,g]
def xG(row:List I)(f:hH):cd:=vP λq:List I×I×I×I=>zd (row=fP f q.1 q.2.1 q.2.2.1 q.2.2.2/\b1 f.arg q.1/\fE 3 q.2.2.2 (jY f.ec)) (hv (it q.2.1 f.stack) (it q.2.2.1 f.names))
def ql:List (List I)->List hH->cd
 |[],[]=>uD True
 |r::rs,f::cP=>hv (xG r f) (ql rs cP)
 |_,_=>uD False
def hV(a' az a5:Nat)(left:Int)(below:List hH)(top:hH):cd:=vP λq:List (List I)×List I×List (List I)=>
 hv (a9 a' [[.ptr az 0 0,.bd a5 0 (below.length+1) eM,.int o left]]) (hv (a9 a5 (q.1++q.2.1::q.2.2)) (hv (xG q.2.1 top) (ql q.1 below)))
section
variable{h J ae:ad}{ag ap aH aA:Nat->Prop}{L:List cd}{a' az a5:Nat}{left:Int}{below:List hH}{top:hH}
theorem J7:∀{rs:List (List I)} {cP:List hH} {h:ad} {ag ap:Nat->Prop},(ql rs cP).A h ag ap->rs.length=cP.length
 |[],[],_,_,_,_=>rfl
 |r::rs,f::cP,_,_,_,h=>by obtain⟨_,_,_,_,_,y,_⟩:=h;simp[J7 y]
 |[],_::_,_,_,_,h=>h.1.elim
 |_::_,[],_,_,_,h=>h.1.elim
theorem c4.nil(ag ap:Nat->Prop)(h:ad)(cR:∀k,¬ag k)(fD:∀D,¬ap D):(c4 []).A h ag ap:=⟨trivial,cR,fD⟩
theorem c4.two{X Y:cd}(x:(hv X Y).A h ag ap):(c4 [X,Y]).A h ag ap:=by obtain⟨eQ,eR,dQ,dT,b2,y,cR,fD,pv,pw⟩:=x;exact⟨eQ,eR,dQ,dT,b2,⟨dQ,dT,λ_=>False,λ_=>False,y,⟨trivial,λ_ h=>h,λ_ h=>h⟩,λk=>by simp,λD=>by simp,λ_ _ h=>h,λ_ _ h=>h⟩,cR,fD,pv,pw⟩
theorem c4.one{X:cd}(x:X.A h ag ap):(c4 [X]).A h ag ap:=⟨ag,ap,λ_=>False,λ_=>False,x,⟨trivial,λ_ h=>h,λ_ h=>h⟩,λk=>by simp,λD=>by simp,λ_ _ h=>h,λ_ _ h=>h⟩
theorem c4.zu{X:cd}(x:(c4 [X]).A h ag ap):X.A h ag ap:=by
 obtain⟨eQ,eR,dQ,dT,b2,⟨_,ao,aq⟩,cR,fD,_,_⟩:=x;have bm:ag=eQ:=by funext k;exact propext ((cR k).trans ⟨λh=>h.resolve_right (ao k),.inl⟩)
 have ck:ap=eR:=by funext D;exact propext ((fD D).trans ⟨λh=>h.resolve_right (aq D),.inl⟩)
 rw[bm,ck];exact b2
theorem c4.QV{X Y:cd}(x:(c4 (hv X Y::L)).A h ag ap):(c4 (X::Y::L)).A h ag ap:=Bx x
theorem J8{X Y cq:cd}(x:(hv X (hv Y cq)).A h ag ap):(hv (hv X Y) cq).A h ag ap:=Bw (Bx (Bw (Bx (Bw x))))
theorem c4.QW{X Y:cd}(x:(c4 (X::Y::L)).A h ag ap):(c4 (hv X Y::L)).A h ag ap:=J8 x
abbrev BD(a' az a5:Nat)(left:Int)(below:List hH)(top:hH)(rs ex:List (List I))(a:List I)(s n g:I):List cd:=[a9 a' [[.ptr az 0 0,.bd a5 0 (below.length+1) eM,.int o left]],a9 a5 (rs++fP top a s n g::ex),it s top.stack,it n top.names,ql rs below]
theorem xH(x:(hV a' az a5 left below top).A h ag ap):∃rs ex a s n g,rs.length=below.length/\b1 top.arg a/\fE 3 g (jY top.ec)/\aQ h ag ap h (BD a' az a5 left below top rs ex a s n g):=by obtain⟨⟨rs,row,ex⟩,x⟩:=x;obtain⟨eQ,eR,dQ,dT,b2,⟨nE,nF,sn,so,fb,⟨v7,v8,xI,xJ,⟨⟨a,s,n,g⟩,⟨e,aM,aX⟩,gz⟩,i6,tw⟩,kG⟩,bQ⟩:=x;simp only at e;subst e;refine⟨rs,ex,a,s,n,g,J7 i6,aM,aX,aQ.start ?_⟩;exact⟨eQ,eR,dQ,dT,b2,⟨nE,nF,sn,so,fb,c4.QV (L:=[ql rs below]) ⟨v7,v8,xI,xJ,gz,c4.one i6,tw⟩,kG⟩,bQ⟩
theorem ad8{rs ex:List (List I)}{a:List I}{s n g:I}(aM:b1 top.arg a)(aX:fE 3 g (jY top.ec))(x:(c4 (BD a' az a5 left below top rs ex a s n g)).A h ag ap):(hV a' az a5 left below top).A h ag ap:=by obtain⟨eQ,eR,dQ,dT,b2,⟨nE,nF,sn,so,fb,gU,kG⟩,bQ⟩:=x;obtain⟨v7,v8,xI,xJ,gz,i6,tw⟩:=c4.QW (X:=it s top.stack) (Y:=it n top.names) (L:=[ql rs below]) gU;exact⟨⟨rs,fP top a s n g,ex⟩,eQ,eR,dQ,dT,b2,⟨nE,nF,sn,so,fb,⟨v7,v8,xI,xJ,⟨⟨a,s,n,g⟩,⟨rfl,aM,aX⟩,gz⟩,c4.zu i6,tw⟩,kG⟩,bQ⟩
theorem zv{rs ex:List (List I)}{a:List I}{s n g:I}(aM:b1 top.arg a)(aX:fE 3 g (jY top.ec))(fq:aQ ae aH aA h (BD a' az a5 left below top rs ex a s n g)):gx ae aH aA h (hV a' az a5 left below top):=gx.imp (λ_ _ _ x=>ad8 aM aX x) fq
theorem xK{v:I}{l:List ak}(x:(it v l).A h ag ap):v.one=Q/\v.cells=[v]/\h0 v=j l.length/\(∀s,jL s (j cg) v=Q)/\(∀(q:jC) (i:Nat) (y:ak),l[i]? =j y->∃p r,ft (j cg) ab v (.int q (i:Int))=j p/\c0 Q 3 h p=j (.agg r)/\b1 y r):=by
 obtain⟨rows,al,x⟩:=x;have hlen:=al.len;rcases x with⟨⟨rfl,rfl⟩,_⟩|⟨⟨b,es⟩,⟨rfl,F,O⟩,x⟩
 ·simp only[gK]at hlen;refine⟨rfl,rfl,by rw[<-hlen];rfl,λs=>rfl,λq i y bF=>?_⟩;have:=p4.1 hlen.symm;subst this;simp at bF
 ·refine⟨rfl,rfl,by rw[<-hlen];rfl,λs=>AS,λq i y bF=>?_⟩;obtain⟨r,bN,bL⟩:=al.get bF;have aa:i<rows.length:=(gg.1 bN).1;refine⟨.ptr b (0+i) 0,r,y5 rfl aa,?_,bL⟩;obtain⟨_,_,_,aj⟩:=x;have af:es[i]? =j r:=by
   have:(es.take rows.length)[i]? =j r:=by rw[<-O];exact bN
   rwa [rW aa]at this
  simp only at aj;rw[hD,aj,hk,c7,af,c7];exact kQ bL.cZ.1
theorem ad9{v:I}{l:List ak}{y:ak}{r:List I}{kT:Nat}(x:(it v l).A h ag ap)(aN:h.cell kT=j [r])(bF:b1 y r)(al:l.length<=1000000):∃J,fx Q cg v (.bd kT 0 1 cg) h=j (.bd h.n 0 (l.length+1) cg,J)/\gx h ag ap J (it (.bd h.n 0 (l.length+1) cg) (l++[y])):=by
 have he:iO h cg (.bd kT 0 1 cg)=j [r]:=by simp[iO,aN]
 have aM:∀s,fx Q cg s (.bd kT 0 1 cg) h=kr Q cg s [r] h:=λs=>by simp only[fx,he,c7,gp];rw[if_neg (by decide)]
 have ah:([r].all λx=>x.all I.one)=Q:=by simp only[List.all_cons,List.all_nil,r9];exact bF.cZ.2
 obtain⟨rows,R,x⟩:=x;have hlen:=R.len;rcases x with⟨⟨rfl,rfl⟩,ao,aq⟩|⟨⟨b,es⟩,⟨rfl,F,O⟩,aJ,a1,bf,cv⟩
 ·have s3:l=[]:=p4.1 (by simpa using hlen.symm);subst s3;refine⟨h.push [r],?_,λk=>k=h.n,λ_=>False,⟨[r],eF.one bF,.inr ⟨⟨h.n,[r]⟩,⟨rfl,bV _,rfl⟩,λ_=>mY,λ_ h=>h,Nat.lt_succ_self _,kd⟩⟩,(aK.push h [r]).tm _ _,λk Z=>.inr (pg Z.symm),λ_ h=>h.elim⟩;rw[aM];simp only[kr];rw[if_pos ⟨by simp,by simp,ah⟩];rfl
 ·simp only at F O aJ bf cv;have au:((h.set b ab).push (es.take rows.length++[r])).cell h.n=j (es.take rows.length++[r]):=by have:=kd (h:=h.set b ab) (es:=es.take rows.length++[r]);exact this
  refine⟨(h.set b ab).push (es.take rows.length++[r]),?_,λk=>k=h.n,λ_=>False,⟨rows++[r],R.app (eF.one bF),.inr ⟨⟨h.n,es.take rows.length++[r]⟩,⟨by simp[hlen],?_,?_⟩,λ_=>mY,λ_ h=>h,Nat.lt_succ_self _,au⟩⟩,⟨Nat.le_succ _,bV _,λk Z cR=>?_,λ_ _ _=>rfl⟩,λk Z=>.inr (pg Z.symm),λ_ h=>h.elim⟩
  ·rw[aM];simp only[kr,cv,c7];rw[if_pos ⟨by simp,by simp,ah⟩,if_pos ⟨trivial,trivial,by omega⟩,if_pos F];simp[hlen]
  ·simp;omega
  ·rw[<-O,List.take_of_length_le (by simp)]
  ·rw[vM (by rw[lA];omega),gB λe=>cR ((aJ k).2 e)]
theorem QX{b m:Nat}{l:List ak}{y:ak}(x:(it (.bd b 0 m cg) (l++[y])).A h ag ap):(it (.bd b 0 l.length cg) l).A h ag ap:=by
 obtain⟨rows,R,x⟩:=x;have hlen:=R.len;rw[eP,gp]at hlen;rcases x with⟨⟨_,e⟩,_⟩|⟨⟨e5,es⟩,⟨e,F,O⟩,x⟩
 ·cases e
 ·injection e with ao _ aq _;have hd:=R.take l.length;rw[List.take_left]at hd;simp only at ao F O;refine⟨rows.take l.length,hd,.inr ⟨⟨e5,es⟩,⟨by rw[ao];congr 1;simp;omega,by simp;omega,?_⟩,x⟩⟩;have af:(rows.take l.length).length=l.length:=by simp;omega
  rw[af]
  conv=>lhs;rw[O]
  rw[List.take_take];congr 1;omega
theorem QY{v:I}{l:List ak}(x:(it v l).A h ag ap)(al:l≠[]):∃b,v= .bd b 0 l.length cg:=by
 obtain⟨rows,R,x⟩:=x;have hlen:=R.len;rcases x with⟨⟨rfl,rfl⟩,_⟩|⟨⟨e5,es⟩,⟨e,_⟩,_⟩
 ·exact absurd (p4.1 (by simpa using hlen.symm)) al
 ·exact⟨e5,by rw[e,hlen]⟩
theorem aQ.QZ{X Y:cd}(s:aQ ae aH aA h L)(i:Nat)(aa:L[i]? =j X)(Bv:∀h ag ap,X.A h ag ap->Y.A h ag ap):aQ ae aH aA h (L.set i Y):=by obtain⟨J,rfl,d⟩:=s.call (dG:=λq=>q=h) i aa (Y:=Y) λag ap x=>⟨h,rfl,gx.imp Bv (gx.same x)⟩;exact d
theorem ad'{α:Type}{X cq:cd}{Y:α->cd}(x:(hv X cq).A h ag ap){dG:ad->α->Prop}(c:∀eQ eR,X.A h eQ eR->∃J a,dG J a/\gx h eQ eR J (Y a)):∃J a,dG J a/\gx h ag ap J (hv (Y a) cq):=by
 obtain⟨eQ,eR,dQ,dT,b2,z,cR,fD,pv,pw⟩:=x;obtain⟨J,hT,r,nE,nF,y,b',bf,gH⟩:=c eQ eR b2;have kz:=cq.lt z;refine⟨J,hT,r,λk=>nE k\/dQ k,λD=>nF D\/dT D,⟨nE,nF,dQ,dT,y,cq.fH z b' (λk Z F=>pv k F Z) (λD U F=>pw D F U),λ_=>mY,λ_=>mY,λk af O=>?_,λD af O=>?_⟩,?_,λk Z=>?_,λD U=>?_⟩
 ·rcases bf k af with h|h
  ·exact pv k h O
  ·have:=kz.1 k O;omega
 ·rcases gH D af with h|h
  ·exact pw D h O
  ·have:=kz.2 D O;omega
 ·exact⟨b'.n,b'.ids,λk Z au=>b'.cell k Z λF=>au ((cR k).2 (.inl F)),λD U au=>b'.hw D U λF=>au ((fD D).2 (.inl F))⟩
 ·rcases Z with h|h
  ·exact(bf k h).imp (λh=>(cR k).2 (.inl h)) id
  ·exact .inl ((cR k).2 (.inr h))
 ·rcases U with h|h
  ·exact(gH D h).imp (λh=>(fD D).2 (.inl h)) id
  ·exact .inl ((fD D).2 (.inr h))
theorem aQ.zw{α:Type}{X:cd}{dG:ad->α->Prop}{Y:α->cd}(s:aQ ae aH aA h L)(i:Nat)(aa:L[i]? =j X)(c:∀ag ap,X.A h ag ap->∃J a,dG J a/\gx h ag ap J (Y a)):∃J a,dG J a/\aQ ae aH aA J (L.set i (Y a)):=by have al:i<L.length:=(gg.1 aa).1;obtain⟨ag,ap,x,kb,a,b⟩:=s;obtain⟨J,hT,r,d⟩:=ad' ((c4.front aa).1 x) c;exact⟨J,hT,r,gx.chain kb a b (d.imp λ_ _ _ y=>c4.back al y)⟩
theorem aQ.app(s:aQ ae aH aA h L)(i:Nat){v:I}{l:List ak}(aa:L[i]? =j (it v l)){y:ak}{r:List I}{kT:Nat}(aN:h.cell kT=j [r])(bF:b1 y r)(al:l.length<=1000000):∃J,fx Q cg v (.bd kT 0 1 cg) h=j (.bd h.n 0 (l.length+1) cg,J)/\aQ ae aH aA J (L.set i (it (.bd h.n 0 (l.length+1) cg) (l++[y]))):=s.call (dG:=λJ=>fx Q cg v (.bd kT 0 1 cg) h=j (.bd h.n 0 (l.length+1) cg,J)) i aa λ_ _ x=>ad9 x aN bF al
end
def Q0:List bl:=[EP,.ops [.i .l (.call (.c (.fn 68 [] [])) []),.i .l (.call (.c (.fn 69 [] [])) []),.i .l (.build [.gd,.gd,.bool T,.aF,.int o 0,.int o 0,.aF,.bool T,.aF,.int o 0,.int o 0,.aF,.bool T,.aF,.int o 0,.int o 0,.aF,.bool T,.aF,.int o 0,.int o 0,.aF] [(0,1),(1,1),(2,20)] [(0,(.l 1)),(1,(.l 0))]),.i .l (.box 22 (.l 0)),Bo],.ret]
theorem aea:c3 ar W 39 0 1 [0] Q0 [(.v 0)] T:=by refine⟨_,_,Try.func39,rfl,rfl,?_,?_,?_,?_,?_⟩<;>kernel_rfl
def J9:List bl:=[Q1,.cond (.v 2) [.ops [en,.i .l (.AH 127 (.l 0)),EE]] []]
theorem Q2:c3 ar W 82 2 3 [0,1,4] J9 [] Q:=by refine⟨_,_,Try.func82,rfl,rfl,?_,?_,?_,?_,?_⟩<;>kernel_rfl
def Q3:List bl:=[.ops [.i (.v 1) (.ba (.c .gd))],.ops [bj,cM,iD,bb,bj,cM,iD,bb,EW,qg,.i .l (.ga (j 126) ab (.l 6) (.l 0)),ge],.ret]
theorem aeb:c3 ar W 81 1 2 [0,2] Q3 [(.v 1)] T:=by refine⟨_,_,Try.func81,rfl,rfl,?_,?_,?_,?_,?_⟩<;>kernel_rfl
def Q4:List bl:=[.ops [EX],.ops [bj,J',lj],.ops [iY,cM,tx,bb,uL,qg,kF],.ops [iY,cM,tx,bb,eY,xL,mZ,v9,uM],.ops [iY,iY,cM,tx,bb,eY,.i .l (.yU T (j 29) (.l 1) ab (j (.l 0))),Be,tx,mA],.ops [qm,BE],.ret]
theorem aec:c3 ar W 83 1 5 [0,2,3,4,5] Q4 [(.cell Q 3 1)] T:=by refine⟨_,_,Try.func83,rfl,rfl,?_,?_,?_,?_,?_⟩<;>kernel_rfl
def Q5:List bl:=[.ops [EX],.ops [bj,Ka,BE],.ret]
theorem aed:c3 ar W 108 1 2 [0,2] Q5 [(.cell Q 3 1)] Q:=by refine⟨_,_,Try.func108,rfl,rfl,?_,?_,?_,?_,?_⟩<;>kernel_rfl
def Kb:List bl:=[.ops [Kc,EY],.ops [sr,bb,en,EZ,E0],.ops [ss,zx],.ret]
theorem Q6:c3 ar W 84 2 4 [0,1,2,4] Kb [(.cell Q 3 3)] Q:=by refine⟨_,_,Try.func84,rfl,rfl,?_,?_,?_,?_,?_⟩<;>kernel_rfl
def Kd:List bl:=[Ke,.ops [E1,Jm,su,.i .l (.call (.c (.fn 82 [] [])) [.l 0,.c (.int o 3)])],.ops [E1,zy],.ret]
theorem Q7:c3 ar W 109 1 3 [0,1,2] Kd [(.cell Q 3 2)] Q:=by refine⟨_,_,Try.func109,rfl,rfl,?_,?_,?_,?_,?_⟩<;>kernel_rfl
def uN:List bl:=[xz,.ops [Kf],.ops [.i (.v 5) (.ba (.v 0))],.block 0 [.ops [.i .l (.bin (.int o) .eql (.v 5) (.c (.int o 1))),tt],.cond (.v 6) [.ops [en,iY,.i .l (.bin (.int o) .add (.l 1) (.l 0)),kF],.ret] [.ops [.i .l (.bin (.int o) .eql (.v 5) (.c (.int o 2))),l6],.cond (.v 7) [.ops [en,iY,Q8,kF],.ret] [.ops [.i .l (.bin (.int o) .eql (.v 5) (.c (.int o 3))),v'],.cond (.v 8) [.ops [en,iY,.i .l (.bin (.int o) .mul (.l 1) (.l 0)),kF],.ret] [.ops [.i .l (.bin (.int o) .eql (.v 5) (.c (.int o 4))),BF],.cond (.v 9) [.ops [en,iY,.i .l Q9,oi]] [.ops [.i .l (.bin (.int o) .eql (.v 5) (.c (.int o 5))),Bc],.cond (.v 10) [.ops [en,iY,Q',oi]] []]]]]],.ops [.i (.v 11) (.ba (.v 4))],.cond (.v 11) [.ops [.i (.v 3) EI],.ret] [],xz,.ret]
theorem wa:c3 ar W 12 3 12 [0,1,2,6,7,8,9,14,19,24,29,34] uN [(.v 3)] Q:=by refine⟨_,_,Try.func12,rfl,rfl,?_,?_,?_,?_,?_⟩<;>kernel_rfl
def Kg:List bl:=[.ops [E2,sk,Qc],.ops [nG,bb,tt],.ops [bj,cM,eT,bb,cM,eT,bb,pz,Ra,iY,.i .l (.call (.c (.fn 132 [] [])) [.l 1,.l 0]),ts,.i .l (.call (.c (.fn 82 [] [])) [.l 0,.c (.int o 9)])],.ops [bj,cM,eT,bb,cM,eT,bb,pz,.i .l (.call (.c (.fn 38 [] [])) [.l 1,.l 0]),di,lg,lh,.i (.v 7) Qf,.i .n (.store 6 (.v 7) (.l 1)),di],.ops [pz,.i .l (.load Q 6 (.v 7)),Bj,In],.ret]
theorem Rb:c3 ar W 135 3 8 [0,1,2,4,6,7,8,9] Kg [(.v 4),(.cell Q 6 5)] Q:=by refine⟨_,_,Try.func135,rfl,rfl,?_,?_,?_,?_,?_⟩<;>kernel_rfl
def mp:List bl:=[BG,.ops [bj,ss,BH,.i .l (.call (.c (.fn 135 [] [])) [.l 2,.l 0,.c (.int o 1)]),di,lg,lh,Qi,E3,Qj],.ops [.i .l (.cy 4 (.v 4)),bb,qh,E0],.ops [bj,cM,eT,bb,cM,iD,bb,bj,.i .l (.cy 3 (.v 4)),bb,eY,.i .l (.call (.c (.fn 81 [] [])) [.l 3]),.bX [⟨ab,T,1,.l 9,(.l 8)⟩,⟨ab,T,1,.l 6,(.l 5)⟩,⟨ab,T,1,.l 3,(.l 2)⟩],cM,eT,bb,.i .l (.call (.c (.fn 136 [] [])) [.l 8,.l 0,.l 5,.l 4]),di,lg,lh,Bk,di],.ops [bj,h5,Kh,.i .l (.call (.c (.fn 107 [] [])) [.l 2,.l 0])]]
theorem E4:c3 ar W 123 2 6 [0,1,3,4,5,6] mp [] T:=by refine⟨_,_,Try.func123,rfl,rfl,?_,?_,?_,?_,?_⟩<;>kernel_rfl
def zz:List bl:=[Rc,.ops [qn,BH],.ops [qm,EQ],.ops [bj,qn,.i .l (.call (.c (.fn 135 [] [])) [.l 1,.l 0,.c (.int o 2)]),di,lg,lh,Rd,Bk,Re],.ops [E5,bb,qh,E0],.ops [bj,cM,eT,bb,cM,iD,bb,bj,.i .l (.cy 3 (.v 6)),bb,h5,xA,bb,.i .l (.call (.c (.fn 81 [] [])) [.l 5]),.bX [⟨ab,T,1,.l 11,(.l 10)⟩,⟨ab,T,1,.l 8,(.l 7)⟩,⟨ab,T,1,.l 5,(.l 4)⟩,⟨ab,T,1,.l 2,(.l 1)⟩],cM,eT,bb,.i .l (.call (.c (.fn 137 [] [])) [.l 10,.l 0,.l 7,.l 6,.l 4])],.ops [bj,qm,BI]]
theorem BJ:c3 ar W 124 3 7 [0,1,2,4,5,6,7] zz [] T:=by refine⟨_,_,Try.func124,rfl,rfl,?_,?_,?_,?_,?_⟩<;>kernel_rfl
def Ki:List bl:=[.ops [.i (.v 4) (.box 3 (.v 1)),wb],.ops [bj,cM,eT,bb,cM,eT,bb,xA,bb,iY,eY,.i .l (.call (.c (.fn 79 [] [])) [.l 4,.l 2,.l 1,.l 0]),di,lg,lh,ED,l6],.ops [mX,su,mX,E6],.ops [pz,LT,zA],.ret]
theorem Rf:c3 ar W 125 4 8 [0,1,2,3,5,8,9,10] Ki [(.cell Q 3 5)] T:=by refine⟨_,_,Try.func125,rfl,rfl,?_,?_,?_,?_,?_⟩<;>kernel_rfl
def BK:List bl:=[BG,.ops [ss,BH],.ops [bj,cM,eT,bb,cM,eT,bb,LE,di,lg,lh,E3,oi],.ops [jo,su,jo,E6],.ops [bj,ss,eY,.i .l (.call (.c (.fn 125 [] [])) [.l 2,.l 1,.c (.int o 15),.l 0]),wb,zA],.ops [bj,sj,eY,.i .l (.build [.int o 0,.int o 0,.aF] [(0,1),(1,1),(2,1)] [(0,(.c (.int o 5))),(1,(.l 0))]),.i .l (.kC T 29 [.int o 0,.int o 0,.aF] 3 2 [(0,(.l 2)),(1,(.l 0))]),Rg,BT]]
theorem E7:c3 ar W 126 2 6 [0,1,3,4,5,6] BK [] T:=by refine⟨_,_,Try.func126,rfl,rfl,?_,?_,?_,?_,?_⟩<;>kernel_rfl
def Kj:List bl:=[.ops [.i (.v 2) (.box 10 (.v 1))],Rh,.ops [bj,bj,cM,iD,bb,.i .l (.load Q 10 (.v 2)),PL,.bX [⟨ab,T,1,.l 3,(.l 2)⟩],.i .l (.app Q 126 (.l 2) (.l 0)),Jx,iD,mA]]
theorem Ri:c3 ar W 127 2 3 [0,1,3] Kj [] T:=by refine⟨_,_,Try.func127,rfl,rfl,?_,?_,?_,?_,?_⟩<;>kernel_rfl
def uO:List bl:=[Rc,.ops [bj,qn,BH,.i .l (.call (.c (.fn 135 [] [])) [.l 2,.l 0,.c (.int o 8)]),di,lg,lh,Rd,Bk,Re],.ops [E5,bb,si,E0],.ops [bj,cM,eT,bb,E5,bb,BL,mW,Bb,.i .l (.load Q 5 (.l 0)),.i (.v 7) (.alloc [.bool T,.aF,.int o 0,.int o 0,.aF]),.bX [⟨ab,T,1,.l 7,(.l 6)⟩,⟨ab,T,1,.l 5,(.l 4)⟩,⟨ab,Q,5,.l 1,(.l 0)⟩],.i .n (.store 5 (.v 7) (.l 0))],.ops [.i .l (.cy 0 (.v 7)),bb,ts,di,.g (.l 0) T .l (.cy 5 (.v 6)),m0,.g (.l 2) T .l (.cy 1 (.v 7)),Rj,.g (.l 4) T .l (.len T (j 158) (.l 0)),.g (.l 5) T .l (.bin (.int o) .geq (.l 3) (.l 0)),.i .l (.pick (.l 6) (.c (.bool Q)) (.l 0)),.i .l (.call (.c (.fn 82 [] [])) [.l 0,.c (.int o 8)])],Rh,.ops [bj,cM,eT,bb,cM,eT,bb,h5,.i .l (.call (.c (.fn 138 [] [])) [.l 1,.l 0]),v'],.ops [bj,cM,eT,bb,cM,eT,bb,qm,EM,.i .l (.call (.c (.fn 106 [] [])) [.l 2,.l 1,.l 0]),di,lg,lh,Rk,.bX [⟨ab,T,1,.l 10,(.l 9)⟩,⟨ab,T,1,.l 7,(.l 6)⟩,⟨ab,Q,3,.v 4,(.l 5)⟩],.i .n (.store 3 (.v 9) (.l 1)),Bc],.ops [EA,su,EA,E6],.ops [bj,E5,bb,.i .l (.cy 5 (.v 6)),bb,.i .l (.load Q 3 (.v 9)),EM,.i .l (.build [.int o 0,.int o 0,.int o 0,.int o 0,.int o 0,.aF,.aF,.aF,.bool T,.aF] [(0,1),(1,1),(2,1),(3,3),(6,1),(7,1),(8,1),(9,1)] [(0,(.l 4)),(1,(.l 2)),(3,(.l 1)),(6,(.c (.bool Q))),(7,(.l 0))]),.i .l (.call (.c (.fn 127 [] [])) [.l 7,.l 0])]]
theorem wc:c3 ar W 128 3 11 [0,1,2,4,5,6,7,8,9,10,11] uO [] T:=by refine⟨_,_,Try.func128,rfl,rfl,?_,?_,?_,?_,?_⟩<;>kernel_rfl
def Kk:List bl:=[.ops [bj,mt,.i .l (.call (.c (.fn 84 [] [])) [.l 0,.c (.int o 2)]),Rl,zy],.ops [bj,vW,bb,en,xL,mZ,BT]]
theorem Rm:c3 ar W 110 2 3 [0,1,4] Kk [] T:=by refine⟨_,_,Try.func110,rfl,rfl,?_,?_,?_,?_,?_⟩<;>kernel_rfl
def lI:List bl:=[BG,Kl,.ops [sr,Rn],.block 0 [.ops [Ro,BM],.cond (.v 11) [.ops [bj,uI,BI]] [.ops [Rp,xM],.cond (.v 12) [.ops [bj,vW,bb,Kh,.i .l (.call (.c (.fn 107 [] [])) [.l 3,.l 0])]] [.ops [Rq,Bf],.cond (.v 13) [.ops [bj,eY,cM,.i .l (.cy 3 (.l 0)),mZ,Rr]] [.ops [Rs,Jk],.cond (.v 14) [.ops [bj,eY,cM,xN,bb,eY,cM,xN,bb,uL,qg,oT,bb,.i .l (.bin (.int o) .sub (.l 2) (.l 0)),.i .l (.ga (j 29) ab (.l 9) (.l 0)),mZ,.i .l (.call (.c (.fn 107 [] [])) [.l 15,.l 0])]] [.ops [Rt,Ey],.cond (.v 15) [Ru,.ops [sj,EQ],.ops [qm,EQ],.ops [bj,oT,bb,.i .l (.cy 1 (.v 5)),bb,xA,bb,.i .l (.call (.c (.fn 12 [] [])) [.l 4,.l 2,.l 0]),Kh,Rv]] [.ops [.i .l (.bin (.int o) .eql (.v 10) (.c (.int o 8))),Km],.cond (.v 16) [.ops [bj,mt,bj,mt,Rw,Jf,.i .n (.store 3 (.v 6) (.l 2)),Ew],.ops [bj,.i .l (.load Q 3 (.v 7)),.i .l (.load Q 3 (.v 6)),.i .l (.kC T 29 [.int o 0,.int o 0,.aF] 3 2 [(0,(.l 1)),(1,(.l 0))]),Rg,Rx,BT]] [.ops [.i .l (.bin (.int o) .eql (.v 10) (.c (.int o 9))),Kn],.cond (.v 17) [.ops [bj,.i .l (.call (.c (.fn 110 [] [])) [.l 0,.c (.int o 0)])]] [.ops [.i .l (.bin (.int o) .eql (.v 10) (.c (.int o 10))),.i (.v 18) wd],.cond (.v 18) [.ops [bj,.i .l (.call (.c (.fn 110 [] [])) [.l 0,.c (.int o 1)])]] [.ops [.i .l (.bin (.int o) .eql (.v 10) (.c (.int o 11))),.i (.v 19) wd],.cond (.v 19) [.ops [bj,mt,Ry,Rz],.ops [bj,eY,cM,eT,bb,.i .l (.load Q 3 (.v 8)),E8,.bX [⟨ab,T,1,.l 3,(.l 2)⟩],.i .l (.build [.int o 0,.int o 0,.aF] [(0,1),(1,1),(2,1)] [(0,(.c (.int o 3))),(1,(.l 2)),(2,(.l 0))]),Rx,Rv]] [.ops [.i .l (.bin (.int o) .eql (.v 10) (.c (.int o 12))),.i (.v 20) wd],.cond (.v 20) [.ops [bj,mt,.i .l (.call (.c (.fn 84 [] [])) [.l 0,.c (.int o 3)]),Rk,.i .n (.store 3 (.v 9) (.l 0))],.ops [.i .l (.cy 1 (.v 9)),bb,eY,cM,eT,bb,.i .l RA,.i .l (.call (.c (.fn 82 [] [])) [.l 0,.c (.int o 10)])],.ops [bj,.i .l (.cy 2 (.v 9)),bb,.i .l (.ga (j 29) ab (.l 0) (.c (.int o 0))),mZ,Rr]] [.ops [bj,ss,.i .l (.call (.c (.fn 111 [] [])) [.l 1,.l 0])]]]]]]]]]]]]]
theorem l7:c3 ar W 86 2 21 [0,1,3,4,5,6,7,8,9,10,14,18,23,30,38,57,77,90,94,98,112] lI [] T:=by refine⟨_,_,Try.func86,rfl,rfl,?_,?_,?_,?_,?_⟩<;>kernel_rfl
def m1:List bl:=[BG,Kl,.ops [sr,.i (.v 11) rp],.block 0 [.ops [.i .l (.bin (.int o) .eql (.v 11) (.c (.int o 13))),xM],.cond (.v 12) [.ops [bj,bj,mt,.i .l (.call (.c (.fn 123 [] [])) [.l 2,.l 0])]] [.ops [.i .l (.bin (.int o) .eql (.v 11) (.c (.int o 14))),Bf],.cond (.v 13) [Ru,.ops [bj,sj,qm,.i .l (.call (.c (.fn 124 [] [])) [.l 2,.l 1,.l 0])]] [.ops [.i .l (.bin (.int o) .eql (.v 11) (.c (.int o 15))),Jk],.cond (.v 14) [.ops [bj,bj,bj,oT,bb,.i .l (.call (.c (.fn 83 [] [])) [.l 2]),.bX [⟨ab,T,1,.l 2,(.l 1)⟩],BH,.bX [⟨ab,T,1,.l 3,(.l 2)⟩],.i .l (.call (.c (.fn 125 [] [])) [.l 5,.l 0,.l 2,.c (.int o (-1))]),.i .l (.call (.c (.fn 107 [] [])) [.l 7,.l 0])]] [.ops [.i .l (.bin (.int o) .eql (.v 11) (.c (.int o 16))),Ey],.cond (.v 15) [.ops [bj,bj,mt,.i .l (.call (.c (.fn 126 [] [])) [.l 2,.l 0])]] [.ops [.i .l (.bin (.int o) .eql (.v 11) (.c (.int o 17))),Km],.cond (.v 16) [.ops [bj,cM,eT,bb,cM,eT,bb,bj,mt,.bX [⟨ab,T,1,.l 6,(.l 5)⟩,⟨ab,T,1,.l 3,(.l 2)⟩],.i .l (.call (.c (.fn 84 [] [])) [.l 0,.c (.int o 5)]),.bX [⟨ab,T,1,.l 7,(.l 6)⟩,⟨ab,T,1,.l 4,(.l 3)⟩],.i .l (.AI T 1 1 (.l 0)),.i .l (.call (.c (.fn 57 [] [])) [.l 4,.l 0])],.ops [bj,uI,BI]] [.ops [.i .l (.bin (.int o) .eql (.v 11) (.c (.int o 18))),Kn],.cond (.v 17) [.ops [bj,mt,Rw,.i .n (.store 3 (.v 6) (.l 0))],.ops [bj,eY,cM,eT,bb,oT,bb,.i .l (.load Q 3 (.v 6)),.i .l (.build [.int o 0,.int o 0,.int o 0,.int o 0,.int o 0,.aF,.aF,.aF,.bool T,.aF] [(0,1),(1,1),(2,1),(3,3),(6,1),(7,1),(8,1),(9,1)] [(0,(.l 3)),(1,(.l 1)),(3,(.l 0))]),.i .l (.call (.c (.fn 127 [] [])) [.l 8,.l 0])]] [.ops [.i .l (.bin (.int o) .eql (.v 11) (.c (.int o 19))),.i (.v 18) wd],.cond (.v 18) [.ops [bj,mt,bj,mt,Jf,Ry,.i .n (.store 3 (.v 7) (.l 2)),Rz],.ops [bj,.i .l (.load Q 3 (.v 8)),.i .l (.load Q 3 (.v 7)),.i .l (.call (.c (.fn 128 [] [])) [.l 2,.l 1,.l 0])]] [.ops [.i .l (.bin (.int o) .eql (.v 11) (.c (.int o 20))),.i (.v 19) wd],.cond (.v 19) [.ops [bj,cM,eT,bb,eY,cM,eT,bb,BN,mW,Bb,BF],.ops [zB,cM,mW,mZ,.i (.v 10) PM,.i .n (.store 3 (.v 10) (.l 0))],.ops [zB,bj,mt,BL,mW,.i .n (.store 3 (.l 0) (.l 2))],.ops [bj,.i .l (.load Q 3 (.v 10)),BI]] [.ops [.i .l (.bin (.int o) .eql (.v 11) (.c (.int o 21))),.i (.v 20) wd],.cond (.v 20) [.ops [bj,bj,cM,eT,bb,eY,cM,eT,bb,BN,mW,Bb,mW,mZ,.i .l (.call (.c (.fn 107 [] [])) [.l 13,.l 0])]] []]]]]]]]]]]
theorem nH:c3 ar W 111 2 21 [0,1,3,4,5,6,7,8,9,10,11,15,16,22,32,43,49,66,80,90,115] m1 [] T:=by refine⟨_,_,Try.func111,rfl,rfl,?_,?_,?_,?_,?_⟩<;>kernel_rfl
def zC:List bl:=[.ops [EX,we],.ops [bj,mt,EY,zx],.ops [bj,J',cM,.i .l (.load Q 10 (.l 0)),.i (.v 4) (.alloc [.int o 0,.int o 0,.int o 0,.int o 0,.int o 0,.aF,.aF,.aF,.bool T,.aF]),.i .n (.store 10 (.v 4) (.l 0))],.ops [.i .l (.cy 8 (.v 4)),BO],.cond (.v 7) [.ops [bj,cM,eT,bb,cM,eT,bb,qn,.i .l (.cy 9 (.v 4)),bb,.i .l (.call (.c (.fn 106 [] [])) [.l 3,.l 2,.l 0]),di,lg,lh,wb,.bX [⟨ab,T,1,.l 11,(.l 10)⟩,⟨ab,T,1,.l 8,(.l 7)⟩,⟨ab,Q,3,.v 3,(.l 6)⟩,⟨ab,T,1,.l 5,(.l 4)⟩],.i .n (.store 3 (.v 5) (.l 1)),tt],.ops [pz,su,pz,E6],.ops [sj,zx]] [],.ops [bj,bj,cM,iD,bb,bj,cM,iD,bb,EW,qg,.i .l (.yU T (j 126) (.l 6) ab (j (.l 0))),.i .l (.k9 (.l 11)),iD,mA],.ops [bj,cM,iD,bb,EW,.i (.v 8) Bm],.cond (.v 8) [.ops [qn,BE,PP],.ret] [],.ops [bj,qn,BI],.ops [qn,BE,we],.ret]
theorem BP:c3 ar W 85 1 9 [0,2,3,4,5,6,7,15,54] zC [(.cell Q 3 1),(.v 2)] T:=by refine⟨_,_,Try.func85,rfl,rfl,?_,?_,?_,?_,?_⟩<;>kernel_rfl
def pD:List bl:=[.ops [EX,we],Kl,.ops [bj,cM,eT,bb,eY,cM,eT,bb,BN,mW,Bb,iD,bb,eY,cM,iD,bb,.i .l (.ga (j 158) ab (.l 4) (.l 0)),bb,eY,cM,mW,bb,.i .l (.ga (j 169) ab (.l 4) (.l 0)),mZ,.i (.v 4) (.alloc [.int o 0,.int o 0,.int o 0]),.bX [⟨ab,T,1,.l 22,(.l 21)⟩,⟨ab,T,1,.l 18,(.l 17)⟩,⟨ab,T,1,.l 13,(.l 12)⟩,⟨ab,T,1,.l 9,(.l 8)⟩,⟨ab,T,1,.l 7,(.l 6)⟩,⟨ab,T,1,.l 3,(.l 2)⟩,⟨ab,Q,3,.l 1,(.l 0)⟩],uM],.ops [eY,cM,mW,bb,rv,BN,mW,mA],.ops [.i .l (.cy 0 (.v 4)),E9],.block 0 [.ops [.i .l (.bin (.int o) .eql (.v 6) (.c (.int o 100))),l6],.cond (.v 7) [.ops [bj,cM,mW,bb,E',.i .l (.call (.c (.fn 82 [] [])) [.l 0,.c (.int o 12)])],.ops [bj,cM,mW,bb,qg,BN,mW,mA]] [.ops [.i .l (.bin (.int o) .eql (.v 6) (.c (.int o 101))),v'],.cond (.v 8) [.ops [bj,mt,wb,zA],.ops [eY,cM,xN,bb,sj,RB,RC,.bX [⟨ab,T,1,.l 4,(.l 3)⟩,⟨ab,Q,3,.v 5,(.l 2)⟩],.i .l (.app Q 29 (.l 3) (.l 0)),.i .l (.ga (j 29) ab (.l 0) (.l 2)),.i .l (.k9 (.l 8)),xN,.i .n (.store 3 (.l 2) (.l 6)),RD,.bX [⟨ab,Q,3,.l 2,(.l 6)⟩]]] [.ops [.i .l (.bin (.int o) .eql (.v 6) (.c (.int o 102))),BF],.cond (.v 9) [.ops [eY,eY,cM,xN,bb,eY,cM,xN,bb,uL,qg,.i .l (.yU T (j 29) (.l 6) ab (j (.l 0))),.i .l (.k9 (.l 11)),xN,mA]] [.ops [.i .l (.bin (.int o) .eql (.v 6) (.c (.int o 103))),Bc],.cond (.v 10) [.ops [bj,mt,EQ,.i .l (.AI T 1 1 (.l 0)),JE],.cond (.v 11) [RE] []] [.ops [.i .l (.bin (.int o) .eql (.v 6) (.c (.int o 104))),xM],.cond (.v 12) [RE] [.ops [.i .l (.bin (.int o) .eql (.v 6) (.c (.int o 105))),Bf],.cond (.v 13) [.ops [bj,.i .l (.call (.c (.fn 85 [] [])) [.l 0]),lg,lh,.i .n (.store 3 (.v 1) (.l 1)),lj],.ret] [.ops [bj,qm,.i .l (.call (.c (.fn 86 [] [])) [.l 1,.l 0])]]]]]]]],.ops [uI,BE,we],.ret]
theorem qo:c3 ar W 48 1 14 [0,2,3,4,5,6,42,46,61,76,92,98,104,111] pD [(.cell Q 3 1),(.v 2)] T:=by refine⟨_,_,Try.func48,rfl,rfl,?_,?_,?_,?_,?_⟩<;>kernel_rfl
def RF:List bl:=[EP,.ops [.i .l (.build [.int o 0,.int o 0,.int o 0,.int o 0,.int o 0,.int o 0,.int o 0,.int o 0,.int o 0,.int o 0,.int o 0,.int o 0,.aF] [(0,12),(12,1)] []),.i .l (.box 13 (.l 0)),Bo],.ret]
theorem aee:c3 ar W 69 0 1 [0] RF [(.v 0)] T:=by refine⟨_,_,Try.func69,rfl,rfl,?_,?_,?_,?_,?_⟩<;>kernel_rfl
def RG:List bl:=[.ops [sk,Fa],.ops [iY,Jz,zp],.cond (.v 6) [.ops [sk,Fa],.ret] [],.ops [bj,bj,cM,BQ,bb,en,iY,eY,.i .l (.build [.int o 0,.int o 0,.int o 0,.int o 0] [(0,1),(1,1),(2,1),(3,1)] [(0,(.l 2)),(1,(.l 1)),(2,(.c (.int o 1))),(3,(.l 0))]),RH,RI,Ko,BQ,mA],.ops [bj,iY,Ba,eT,.i .l (.ga ab (j (12,1)) (.l 0) (.l 2)),bb,oi,RJ],.ret]
theorem aef:c3 ar W 136 4 7 [0,1,2,3,8,9,12] RG [(.v 4),(.v 5)] T:=by refine⟨_,_,Try.func136,rfl,rfl,?_,?_,?_,?_,?_⟩<;>kernel_rfl
def RK:List bl:=[.ops [Fa],.ops [iY,Jz,zp],.cond (.v 6) [.ops [Fa],.ret] [],.ops [bj,bj,cM,BQ,bb,en,iY,eY,.i .l (.build [.int o 0,.int o 0,.int o 0,.int o 0] [(0,1),(1,1),(2,1),(3,1)] [(0,(.l 2)),(1,(.l 1)),(2,(.c (.int o 2))),(3,(.l 0))]),RH,RI,Ko,BQ,mA],.ops [bj,iY,jo,BL,eT,.i .l (.ga ab (j (12,1)) (.l 0) (.l 3)),RD],.ops [RJ],.ret]
theorem aeg:c3 ar W 137 5 7 [0,1,2,3,4,10,13] RK [(.v 5)] T:=by refine⟨_,_,Try.func137,rfl,rfl,?_,?_,?_,?_,?_⟩<;>kernel_rfl
def Kp:List bl:=[vX,.ops [bj,cM,BQ,bb,.i .l (.call (.c (.fn 63 [] [])) [.l 0]),ge],.ret]
theorem RL:c3 ar W 31 1 2 [0,2] Kp [(.v 1)] Q:=by refine⟨_,_,Try.func31,rfl,rfl,?_,?_,?_,?_,?_⟩<;>kernel_rfl
def Kq:List bl:=[vX,JM,.cond (.v 2) [vX,.ret] [],.ops [.i .l (.kC T 98 [.int o 0,.int o 0,.int o 0,.int o 0] 4 0 []),bj,.i .l (.app T 98 (.l 1) (.l 0)),ge],.ret]
theorem RM:c3 ar W 63 1 3 [0,2,4] Kq [(.v 1)] Q:=by refine⟨_,_,Try.func63,rfl,rfl,?_,?_,?_,?_,?_⟩<;>kernel_rfl
def RN:List bl:=[BG]
def Fb:List aE:=[bj,bj,ss,(.i .l (.kC Q 29 [(.int o 0),(.int o 0),.aF] 3 1 [(0,(.l 0))])),(.i .l (.call (.c (.fn 81 [] [])) [(.l 3)])),(.bX [⟨ab,Q,3,(.v 2),(.l 2)⟩]),(.i .l (.call (.c (.fn 81 [] [])) [(.l 3)])),(.bX [⟨ab,Q,3,(.v 2),(.l 3)⟩]),cM,tx,bb,(.i .l (.app Q 29 (.l 0) (.l 5))),(.i .l (.k9 (.l 5))),tx,mA]
def Fc:List aE:=[bj,bj,ss,(.i .l (.call (.c (.fn 81 [] [])) [(.l 2)])),(.bX [⟨ab,Q,3,(.v 2),(.l 1)⟩]),(.i .l (.kC Q 29 [(.int o 0),(.int o 0),.aF] 3 1 [(0,(.l 1))])),(.i .l (.call (.c (.fn 81 [] [])) [(.l 3)])),(.bX [⟨ab,Q,3,(.v 2),(.l 3)⟩]),cM,tx,bb,(.i .l (.app Q 29 (.l 0) (.l 4))),Be,tx,mA]
def Fe:List aE:=[bj,bj,ss,(.i .l (.call (.c (.fn 81 [] [])) [(.l 2)])),(.bX [⟨ab,Q,3,(.v 2),(.l 1)⟩]),(.i .l (.call (.c (.fn 81 [] [])) [(.l 2)])),(.bX [⟨ab,Q,3,(.v 2),(.l 2)⟩]),cM,tx,bb,(.i .l (.kC Q 29 [(.int o 0),(.int o 0),.aF] 3 1 [(0,(.l 5))])),(.bX [⟨ab,T,1,(.l 2),(.l 1)⟩]),(.i .l (.app Q 29 (.l 1) (.l 0))),Be,tx,mA]
open Go Go.RowKit
section
variable{P:cp}{W:hh}{f:cJ}{n aI:Nat}{aY:List Nat}{h J:ad}{t V fB:List I}{all:Array a0}{pl:List (Nat×List Nat)}{bY:Nat->Nat->Prop}
theorem GE(cX:k6 P W){bA:List aE}{x:jd}(pp:rZ all pl (λ_=>T) bY)(mm:yr (W.e3 f) all=Q)(qf:aY.Nodup/\∀D s,aY[D]? =j s->(D<aI↔s<W.aI f))(ig:nx P (W.a2 f) n aY all [] (iK Q all pl)=j bA)(ah:bo (a3 P W) aI [.ops bA,.halt K] V [] h=j (x,fB,J))(b4:fV n aY [] t V []):∃cV,(∀(m:dw) (w:cQ) (a:Act) (b:fs) (cs:List fs) (L:List Nat),kN all bY (lX all) L->bU P m h w->dp P m h t a.tmps->a.defers=b.defers->dX P (W.e3 f) m h w b cs (ej (b.at a (.inRegion all L::K)) cs w) (x,cV,J))/\fV n aY [] cV fB []:=by
 obtain⟨cV,e,uw⟩:=(D7 (n:=n) (f:=f) qf.1 qf.2 _ _ _ _ _ ah).2.1 Q all (iK Q all pl) bA [.halt K] [] t [.halt K] rfl ig (.halt K [] []) b4;refine⟨cV,λm w a b cs L dH hw aL a6=>?_,uw⟩;obtain⟨aq,t2,O,aB,he⟩:=DU cX f _ t h _ e;refine Ij cX pp mm aB (λgM=>?_) (λv gM=>?_) dH hw aL a6
 ·subst gM;exact λc8 dm aJ bN bL c2=>he K (.halt K []) b cs c8 dm aJ bN bL c2
 ·subst gM;exact he
theorem aeh(cX:k6 P W)(w8:∀D,D<all.size->∀e∈(ep all D).after,j8 .any e=Q->e.on<D){id:Nat}{b:fs}{a:Act}{cs:List fs}{w:cQ}:∃L aV,kN all (λ_ _=>False) (lX all) L/\Steps P (ej (b.at a (.code (.region id all Q)::K)) cs w) (ej (b.at a (.inRegion all L::K)) cs aV)/\(∀(m:dw) (h:ad),bU P m h w->bU P m h aV)/\∀base,Below base w aV:=by refine⟨_,_,?_,.one step_region_draw,λm h hw=>hw.drew,λbase=>(k0 _ _).drew⟩;simp only[Region.schedule,cX.mixed,Bool.true_or,if_true,Region.linearise];exact DB w8 _ _ _ (by simp) (by simp[List.countP_replicate])
end
end Go.Proofs.Ytkdbjfncchmmpaa
