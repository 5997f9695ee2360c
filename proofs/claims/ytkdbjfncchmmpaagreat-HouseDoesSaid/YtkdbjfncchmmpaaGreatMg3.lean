/- Orders for statements whose order is open, which slots are variables: computed. And what must hold of a program, checked. -/
import Derived.Test.YtkdbjfncchmmpaaGreatMg2
import Derived.WalkKit
import Derived.Test.YtkdbjfncchmmpaaGreatRows
import Derived.ProofKit
import Derived.OpenShut
import Derived.ShutString
import Derived.ChangeOld
import Derived.Deep.Slices
import Derived.Deep.Fields
import Derived.Lib.SmallJoins
set_option linter.unusedSimpArgs false
set_option linter.unusedVariables false
set_option maxHeartbeats 4000000
set_option maxRecDepth 1000000
open List renaming replicate→al,getElem?_eq_getElem→fr,getElem?_eq_some_iff→fQ,length_append→ff,length_singleton→gM,length_map→fa,length_nil→gf,getD→dz,length_cons→hk,getElem_mem→iX,all_eq_true→jq,getElem?_append_right→mx,mem_range→j1,append_assoc→k',range→i7,map_cons→kT,nil_append→lQ,getElem?_append_left→o4,cons_append→m3,getElem?_eq_none→o3,length_eq_zero_iff→pR,append_nil→n3,mem_cons→n0,length_take→pN,mem_map→o8,all_cons→pO,getElem?_take_of_lt→uv,map_nil→s2,map_append→uR,set_cons_zero→vR,getElem?_map→vF
open Nat renaming reduceAdd→aq,reduceSub→ar,reduceLeDiff→bW,le_refl→b4,lt_of_lt_of_le→fq,le_trans→e7,zero_add→hH,zero_le→mz,lt_or_ge→ox,add_assoc→qv,le_of_eq→qA,one_ne_zero→sd
open Go.IntKind renaming i64→j,wrap→kK
open Option renaming some→o,none→ad,bind_eq_some_iff→dK,map_eq_some_iff→dN,bind_some→c2,map_some→hF,getD_some→rf
open Go.Proofs.Tryz renaming prog→ap
open Bool renaming false→T,true→O,and_eq_true→hx,false_eq_true→l9,and_true→pZ
open Int renaming natCast_zero→k6,toNat_natCast→mE
open Go renaming TypeId→a6,Oper→bh,Program→cT,Value→b1,FuncId→c',World→dy,IntKind→gx,Code→fK
open Array renaming getElem?_toList→rc
open SizeOf renaming sizeOf→kL
open Go.Region renaming before→mQ
open BitVec renaming ofInt→mP
open Go.DataW renaming TrodAll→rz
open Go.Addr renaming add_lit→qt
open Ne renaming symm→lP
open Iff renaming rfl→nF
namespace Go.Proofs.YtkdbjfncchmmpaaGreat
open Go
variable{P:cT}{es acc:List (List E)}{aT:List Int}{cF:ag->Prop}{bs:E}
def UP(ops:Array bh)(M:Array Nat):Nat->List Nat->List Nat->List (Nat×List Nat)
 |0,_,_=>[]
 |n+1,rest,done=>
   let yE:=rest.filter λi=>rest.all λD=>D==i|| !lM M D i
   match((yE.find? λi=>nk (ops.getD i default)).or (yE.find? λi=>match(ops.getD i default).op with|.alloc _=>T|_=>O)).or yE.head? with
   |none=>[]
   |some i=>(i,if nk (ops.getD i default)then[]else done.filter λD=>sZ (ops.getD D default)&& !lM M D i)::UP ops M n (rest.filter (· != i)) (done++[i])
def UQ(ops:Array bh)(M:Array Nat)(pl:List (Nat×List Nat)):List (Nat×List Nat):=match pl.reverse with
 |(y,[])::(x,[])::r=>if rY (ops.getD x default)&&rY (ops.getD y default)&& !lM M x y then r.reverse++[(x,[]),(y,[x])]else pl
 |_=>pl
def UR(ops:Array bh)(M:Array Nat):Nat->List Nat->List Nat->List (Nat×List Nat)
 |0,_,_=>[]
 |n+1,rest,done=>
   let yE:=rest.filter λi=>rest.all λD=>D==i|| !lM M D i
   match(((yE.find? λi=>nk (ops.getD i default)).or (yE.find? λi=>match(ops.getD i default).op with|.buildSlice .. =>O|_=>T)).or (yE.find? λi=>match(ops.getD i default).op with|.alloc _=>T|_=>O)).or yE.head? with
   |none=>[]
   |some i=>(i,if nk (ops.getD i default)then[]else done.filter λD=>sZ (ops.getD D default)&& !lM M D i)::UR ops M n (rest.filter (· != i)) (done++[i])
def ahM(ops:Array bh):List (Nat×List Nat):=UQ ops (mQ ops) (UP ops (mQ ops) ops.size (i7 ops.size) [])
def ahN(ops:Array bh):List (Nat×List Nat):=UQ ops (mQ ops) (UR ops (mQ ops) ops.size (i7 ops.size) [])
def ahO(a':a6->Bool)(ops:Array bh):Bool:=ops.any λI=>match I.op with|.buildSlice ty _ _=> !a' ty&&a' (ty+1000000)|_=>T
def z8(id:Nat):fK->Option (Array bh)
 |.region i ops _=>if i=id then o ops else ad
 |.seq a b=>(z8 id a).or (z8 id b)
 |.cond _ a b=>(z8 id a).or (z8 id b)
 |.block _ b=>z8 id b
 |.loop b=>z8 id b
 |_=>ad
def ahP(fn:Func):Nat:=fn.ntmps
def z9(P:cT)(a':c'->a6->Bool)(ext:c'->Option (List E->ag->Option ((E⊕E)×ag)))(use pure:List c'):h8 where
 ext:=ext
 a':=a'
 aL g:=match P.funcs[g]? with
  |some fn=>ahP fn
  |none=>0
 cz g id:=match((P.funcs[g]?).bind (·.body)).bind (z8 id)with
  |some ops=>if ahO (a' g) ops then ahN ops else ahM ops
  |none=>[]
 use:=use.contains
 pure:=pure.contains
 e9 g d:=if 3000000<=d then !a' g (d - 3000000)&&a' g (d - 3000000+1000000)else if 1000000<=d then(kG P (d - 1000000)).isSome else match P.funcs[g]? with
  |some fn=>fn.results.toList.any λr=>match r with|.cell i _=>i==d|_=>T
  |none=>T
def US(P:cT):Bool:=(i7 P.types.size).all λt=>(match P.info? t with
 |some i=>decide (i.bytes<=100000)&&(match i.zero with|some v=>v.cells.size==i.size|none=>O)
 |none=>O)&&(match P.underlying t with
 |some (.slice e)=>decide (0<P.cellsOf e)
 |_=>O)
def xj(P:cT)(W:h8)(use:List c'):Bool:=use.all λg=>match P.funcs[g]? with
 |some fn=>(match fn.body with|some c=>iz (W.cz g) (W.e9 g) c|none=>O)&& !(fn.name== "runtime.NumGoroutine")
 |none=>O
theorem ahQ(h:US P=O):pM P:=by
 unfold US at h;rw[jq]at h;refine⟨λt i v bf J R=>?_,λt i bf J=>?_,λt e bf he=>?_⟩
 ·have:=h t (j1.2 bf);simp only[J,R,hx,beq_iff_eq]at this;exact this.1.2
 ·have:=h t (j1.2 bf);simp only[J,hx,decide_eq_true_eq]at this;exact this.1.1
 ·have:=h t (j1.2 bf);simp only[he,hx,decide_eq_true_eq]at this;exact this.2
theorem ahR{a':c'->a6->Bool}{ext:c'->Option (List E->ag->Option ((E⊕E)×ag))}{use pure:List c'}(r5:pM P)(hm:P.follows .mixedOrders=O)(bl:xj P (z9 P a' ext use pure) use=O)(aw:∀g ae,ext g=o ae->∃fn,P.funcs[g]? =o fn/\(fn.body.isNone=T/\(fn.name== "runtime.NumGoroutine")=T)/\∀args h r,ae args h=o r->AC P g args h r):l' P (z9 P a' ext use pure):=by
 unfold xj at bl;rw[jq]at bl;have uy:∀g,(z9 P a' ext use pure).use g=O->g∈use:=λg a8=>by simpa[z9]using a8
 refine⟨r5,λg fn J R=>?_,aw,λg fn c J R ah=>?_,hm,λg e J he=>?_,λg ty he=>?_⟩
 ·have:=bl g (uy g R);rw[J]at this;simp only[hx]at this;simpa using this.2
 ·have:=bl g (uy g ah);rw[J]at this;simp only[R,hx]at this;exact this.1
 ·simp only[z9]at he;rw[if_neg (by omega),if_pos (Nat.le_add_right _ _),Nat.add_sub_cancel_left]at he;exact he
 ·simp only[z9]at he ⊢;rw[if_pos (by omega),show 1000000+(ty+2000000) - 3000000=ty by omega,hx,Bool.not_eq_true']at he;exact he
abbrev Cd:=c'->List E->ag->Option ((E⊕E)×ag)
abbrev ls:=Option (kw×List E×ag)
section
variable(C:Cd)(aL:Nat)
noncomputable def me(d:pc)(bN:List ay)(k:List i')(V L:List E)(h:ag):Option E->ls
 |some v=>bB C aL (.ops bN::k) (kJ V v d) (ld L v d) h
 |none=>ad
noncomputable def UT(bN:List ay)(k:List i')(V L:List E):Option ag->ls
 |some h=>bB C aL (.ops bN::k) V L h
 |none=>ad
noncomputable def pg(d:pc)(bN:List ay)(k:List i')(V L:List E):Option (E×ag)->ls
 |some (v,h)=>bB C aL (.ops bN::k) (kJ V v d) (ld L v d) h
 |none=>ad
noncomputable def sc(d:pc)(bN:List ay)(k:List i')(V L:List E):Option ((E⊕E)×ag)->ls
 |some (.inl v,h)=>bB C aL (.ops bN::k) (kJ V v d) (ld L v d) h
 |some (.inr v,h)=>o (.panic v,V,h)
 |none=>ad
noncomputable def Ig(d:pc)(bN:List ay)(k:List i')(V L:List E)(h:ag):Option (c'×List E)->ls
 |some (g,args)=>sc C aL d bN k V L (C g args h)
 |none=>ad
noncomputable def Ih(d:pc)(I:e0)(bN:List ay)(k:List i')(V L:List E)(h:ag):Option Bool->ls
 |some O=>bB C aL (.ops (.i d I::bN)::k) V L h
 |some T=>bB C aL (.ops bN::k) (kJ V (.bU []) d) (ld L (.bU []) d) h
 |none=>ad
noncomputable def UU(x y l:List be)(k:List i')(V:List E)(h:ag):E->ls
 |.bool b=>if b then bB C aL (.bP x::.bP l::k) V [] h else bB C aL (.bP y::.bP l::k) V [] h
 |_=>ad
noncomputable def UW(V L:List E)(h:ag):Option (List i')->ls
 |some k=>bB C aL k V L h
 |none=>ad
end
section
variable{C:Cd}{aL:Nat}{k:List i'}{V L:List E}{h:ag}{d:pc}{bN:List ay}
theorem ahS:bB C aL [] V L h=o (.ret,V,h):=by rw[bB]
theorem ahT:bB C aL (.bP []::k) V L h=bB C aL k V L h:=by rw[bB]
theorem UX{l:List be}:bB C aL (.bP (.ops bN::l)::k) V L h=bB C aL (.ops bN::.bP l::k) V [] h:=by rw[bB]
theorem ahU{a:Arg}{x y l:List be}:bB C aL (.bP (.cond a x y::l)::k) V L h=UU C aL x y l k V h (arg V [] a):=by rw[bB];cases arg V [] a<;>rfl
theorem UY{id:Nat}{b l:List be}:bB C aL (.bP (.block id b::l)::k) V L h=bB C aL (.bP b::.cm id::.bP l::k) V L h:=by rw[bB]
theorem UZ{b l:List be}:bB C aL (.bP (.loop b::l)::k) V L h=bB C aL (.e' b::.bP l::k) V L h:=by conv=>lhs;rw[bB]
theorem ahV{id:Nat}{l:List be}:bB C aL (.bP (.exit id::l)::k) V L h=UW C aL V L h (m2 id k):=by rw[bB];cases m2 id k<;>rfl
theorem ahW{l:List be}:bB C aL (.bP (.ret::l)::k) V L h=o (.ret,V,h):=by rw[bB]
theorem ahX{id:Nat}:bB C aL (.cm id::k) V L h=bB C aL k V L h:=by rw[bB]
theorem ahY{b:List be}:bB C aL (.e' b::k) V L h=bB C aL (.bP b::.e' b::k) (cb aL V) L h:=by rw[bB]
theorem U0:bB C aL (.ops []::k) V L h=bB C aL k V [] h:=by rw[bB]
theorem ahZ{l:List vK}(an:vL V L h l):bB C aL (.ops (.bZ l::bN)::k) V L h=bB C aL (.ops bN::k) V L h:=by rw[bB];simp[an]
theorem j4{I:e0}(aE:h2 V L I=ad)(aH:yA V L I=ad):bB C aL (.ops (.i d I::bN)::k) V L h=pg C aL d bN k V L (hJ V L h I):=by rw[bB];simp only[aE,aH];rcases hJ V L h I with _|⟨v,F⟩<;>rfl
theorem U1{x:Arg}{q:a6}{v:E}(aw:arg V L x= .iface q v):bB C aL (.ops (.i d (.yz x)::bN)::k) V L h=o (.panic (.iface q v),V,h):=by rw[bB];simp[yA,aw]
theorem ah0{K:List Item}:bB C aL (.halt K::k) V L h=o (.halt K,V,h):=by rw[bB]
theorem ND{f:Arg}{args:List Arg}:bB C aL (.ops (.i d (.call f args)::bN)::k) V L h=Ig C aL d bN k V L h (h2 V L (.call f args)):=by
 rw[bB];simp only[yA];rcases an:h2 V L (.call f args)with _|⟨g,aS⟩
 ·rfl
 ·simp only[Ig];rcases C g aS h with _|⟨_|_,F⟩<;>rfl
theorem ah1{g:c'}{args:List Arg}:bB C aL (.ops (.i d (.call (.c (.fn g [] [])) args)::bN)::k) V L h=sc C aL d bN k V L (C g (args.map (arg V L)) h):=by rw[ND];simp[h2,arg,Ig]
theorem ah2{a:Arg}{w:Bool}{I:e0}:bB C aL (.ops (.g a w d I::bN)::k) V L h=Ih C aL d I bN k V L h (z4 V L a w):=by
 rw[bB];rcases z4 V L a w with _|⟨_|_⟩
 ·rfl
 ·rfl
 ·simp only[Ih]
  conv=>rhs;rw[bB]
theorem pY{x:Option E}:pg C aL d bN k V L (x.map λv=>(v,h))=me C aL d bN k V L h x:=by cases x<;>rfl
theorem ah3{x:Arg}:bB C aL (.ops (.i d (.a4 x)::bN)::k) V L h=bB C aL (.ops bN::k) (kJ V (arg V L x) d) (ld L (arg V L x) d) h:=by rw[j4 rfl rfl];rfl
theorem ah4{c x y:Arg}:bB C aL (.ops (.i d (.pick c x y)::bN)::k) V L h=me C aL d bN k V L h (Nr (arg V L c) (arg V L x) (arg V L y)):=by rw[j4 rfl rfl];exact pY
theorem ah5{z:List E}{pl:List (Nat×Nat)}{hj:List (Nat×Arg)}:bB C aL (.ops (.i d (.build z pl hj)::bN)::k) V L h=me C aL d bN k V L h ((pF pl z (hj.map λq=>(q.1,arg V L q.2))).map .agg):=by rw[j4 rfl rfl];simp only[hJ];cases pF pl z (hj.map λq=>(q.1,arg V L q.2))<;>rfl
theorem ah6{x:Arg}:bB C aL (.ops (.i d (.j2 x)::bN)::k) V L h=me C aL d bN k V L h (D' (arg V L x)):=by rw[j4 rfl rfl];exact pY
theorem ah7{eI:jP}{op:BinOp}{x y:Arg}:bB C aL (.ops (.i d (.bin eI op x y)::bN)::k) V L h=me C aL d bN k V L h (en eI op (arg V L x) (arg V L y)):=by rw[j4 rfl rfl];exact pY
theorem ah8{eI:jP}{aT:Option (List jP)}{gQ:Bool}{op:BinOp}{x y:Arg}:bB C aL (.ops (.i d (.yy eI aT gQ op x y)::bN)::k) V L h=me C aL d bN k V L h (oG eI aT gQ op (arg V L x) (arg V L y)):=by rw[j4 rfl rfl];exact pY
theorem ah9{op:UnOp}{x:Arg}:bB C aL (.ops (.i d (.un op x)::bN)::k) V L h=me C aL d bN k V L h (zI op (arg V L x)):=by rw[j4 rfl rfl];exact pY
theorem ah'{eI:jP}{x:Arg}:bB C aL (.ops (.i d (.conv eI x)::bN)::k) V L h=me C aL d bN k V L h (yb eI (arg V L x)):=by rw[j4 rfl rfl];exact pY
theorem aia{t:a6}{x:Arg}:bB C aL (.ops (.i d (.D6 t x)::bN)::k) V L h=me C aL d bN k V L h (H4 t (arg V L x)):=by rw[j4 rfl rfl];exact pY
theorem aib{g:c'}{f c:List Arg}:bB C aL (.ops (.i d (.H0 g f c)::bN)::k) V L h=me C aL d bN k V L h (o (.fn g (f.map (arg V L)) (c.map (arg V L)))):=by rw[j4 rfl rfl];rfl
theorem aic{s:Bool}{e:Option a6}{x:Arg}{ih af:Option Arg}:bB C aL (.ops (.i d (.B6 s e x ih af)::bN)::k) V L h=me C aL d bN k V L h (if j3 s e (arg V L x)then wP (arg V L x) (ih.map (arg V L)) (af.map (arg V L))else ad):=by
 rw[j4 rfl rfl];simp only[hJ];split
 ·exact pY
 ·rfl
theorem aid{off:Nat}{x:Arg}:bB C aL (.ops (.i d (.c0 off x)::bN)::k) V L h=me C aL d bN k V L h (b5 off (arg V L x)):=by rw[j4 rfl rfl];exact pY
theorem aie{agg:Bool}{n off:Nat}{x:Arg}:bB C aL (.ops (.i d (.D7 agg n off x)::bN)::k) V L h=me C aL d bN k V L h (H5 agg n off (arg V L x)):=by rw[j4 rfl rfl];exact pY
theorem aif{e:Option a6}{gu:Option (Nat×Nat)}{x q:Arg}:bB C aL (.ops (.i d (.fG e gu x q)::bN)::k) V L h=me C aL d bN k V L h (dO e gu (arg V L x) (arg V L q)):=by rw[j4 rfl rfl];exact pY
theorem aih{s:Bool}{gu:Option (Nat×Nat×Bool)}{x q:Arg}:bB C aL (.ops (.i d (.bV s gu x q)::bN)::k) V L h=me C aL d bN k V L h (D9 s gu (arg V L x) (arg V L q)):=by rw[j4 rfl rfl];exact pY
theorem aii{t:a6}{ok:Bool}{x:Arg}:bB C aL (.ops (.i d (.D8 t ok x)::bN)::k) V L h=me C aL d bN k V L h (B7 t ok (arg V L x)):=by rw[j4 rfl rfl];exact pY
theorem aij{x:Arg}{i:Nat}:bB C aL (.ops (.i d (.ext x i)::bN)::k) V L h=me C aL d bN k V L h (Ns (arg V L x) i):=by rw[j4 rfl rfl];exact pY
theorem aik{s:Bool}{e:Option a6}{x:Arg}:bB C aL (.ops (.i d (.len s e x)::bN)::k) V L h=me C aL d bN k V L h (if j3 s e (arg V L x)then(hX (arg V L x)).map λ(n:Nat)=>Hc n else ad):=by
 rw[j4 rfl rfl];simp only[hJ];split
 ·cases hX (arg V L x)<;>rfl
 ·rfl
theorem ail{z:List E}:bB C aL (.ops (.i d (.alloc z)::bN)::k) V L h=bB C aL (.ops bN::k) (kJ V (.ptr h.n 0 0) d) (ld L (.ptr h.n 0 0) d) (h.push [z]):=by rw[j4 rfl rfl];rfl
theorem Eh{n:Nat}{x:Arg}(J:(arg V L x).cells.all E.one=O)(R:(arg V L x).cells.length=n):bB C aL (.ops (.i d (.box n x)::bN)::k) V L h=bB C aL (.ops bN::k) (kJ V (.ptr h.n 0 0) d) (ld L (.ptr h.n 0 0) d) (h.push [(arg V L x).cells]):=by rw[j4 rfl rfl];simp[hJ,J,R,pg]
theorem aim{e:a6}{z:List E}{n len:Nat}{hj:List (Nat×Arg)}:bB C aL (.ops (.i d (.lr T e z n len hj)::bN)::k) V L h=pg C aL d bN k V L ((pG n (al len z) (hj.map λq=>(q.1,arg V L q.2))).map λes=>(.b0 (o h.ids) e es,h.fresh len)):=by rw[j4 rfl rfl];rfl
theorem ain{e:a6}{z:List E}{n len:Nat}{hj:List (Nat×Arg)}:bB C aL (.ops (.i d (.H2 e z n len hj)::bN)::k) V L h=pg C aL d bN k V L ((pG n (al len z) (hj.map λq=>(q.1,arg V L q.2))).map λes=>(.b0 ad e es,h)):=by rw[j4 rfl rfl];rfl
theorem aio{e:a6}{z:List E}{n len:Nat}{hj:List (Nat×Arg)}:bB C aL (.ops (.i d (.lr O e z n len hj)::bN)::k) V L h=pg C aL d bN k V L ((pG n (al len z) (hj.map λq=>(q.1,arg V L q.2))).map λes=>(.bn h.n 0 len e,h.push es)):=by rw[j4 rfl rfl];rfl
theorem aip{agg:Bool}{n:Nat}{x:Arg}:bB C aL (.ops (.i d (.load agg n x)::bN)::k) V L h=me C aL d bN k V L h (cS agg n h (arg V L x)):=by rw[j4 rfl rfl];exact pY
theorem aiq{n:Nat}{a x:Arg}:bB C aL (.ops (.i .n (.store n a x)::bN)::k) V L h=UT C aL bN k V L (eQ n h (arg V L a) (arg V L x)):=by rw[j4 rfl rfl];simp only[hJ];cases eQ n h (arg V L a) (arg V L x)<;>rfl
theorem air{e:a6}{z:List E}{l c:Arg}:bB C aL (.ops (.i d (.H3 e z l c)::bN)::k) V L h=pg C aL d bN k V L (Nt e z (arg V L l) (arg V L c) h):=by rw[j4 rfl rfl];rfl
theorem ais{a':Bool}{e:a6}{x y:Arg}:bB C aL (.ops (.i d (.app a' e x y)::bN)::k) V L h=pg C aL d bN k V L (eU a' e (arg V L x) (arg V L y) h):=by rw[j4 rfl rfl];rfl
theorem ait{a':Bool}{e:a6}{x y:Arg}:bB C aL (.ops (.i d (.apps a' e x y)::bN)::k) V L h=pg C aL d bN k V L (Dy a' e (arg V L x) (arg V L y) h):=by rw[j4 rfl rfl];rfl
theorem aiu{t:a6}{n:Nat}{x:Arg}(J:(arg V L x).cells.all E.one=O)(R:(arg V L x).cells.length=n):bB C aL (.ops (.i d (.Np t n x)::bN)::k) V L h=bB C aL (.ops bN::k) (kJ V (.gc t h.n) d) (ld L (.gc t h.n) d) (h.push [(arg V L x).cells]):=by rw[j4 rfl rfl];simp[hJ,J,R,pg]
theorem aiv{t:a6}{z:List E}:bB C aL (.ops (.i d (.No t z)::bN)::k) V L h=bB C aL (.ops bN::k) (kJ V (.gc t h.n) d) (ld L (.gc t h.n) d) (h.push [z]):=by rw[j4 rfl rfl];rfl
theorem aiw{ni:Bool}{x y:Arg}:bB C aL (.ops (.i d (.kg ni x y)::bN)::k) V L h=me C aL d bN k V L h (yc ni (arg V L x) (arg V L y)):=by rw[j4 rfl rfl];exact pY
theorem aix{v:E}:me C aL d bN k V L h (o v)=bB C aL (.ops bN::k) (kJ V v d) (ld L v d) h:=rfl
theorem aiy:UT C aL bN k V L (o h)=bB C aL (.ops bN::k) V L h:=rfl
theorem aiz{v:E}:pg C aL d bN k V L (o (v,h))=bB C aL (.ops bN::k) (kJ V v d) (ld L v d) h:=rfl
theorem aiA{v:E}:sc C aL d bN k V L (o (.inl v,h))=bB C aL (.ops bN::k) (kJ V v d) (ld L v d) h:=rfl
theorem aiB{v:E}:sc C aL d bN k V L (o (.inr v,h))=o (.panic v,V,h):=rfl
theorem aiC{I:e0}:Ih C aL d I bN k V L h (o O)=bB C aL (.ops (.i d I::bN)::k) V L h:=rfl
theorem aiD{I:e0}:Ih C aL d I bN k V L h (o T)=bB C aL (.ops bN::k) (kJ V (.bU []) d) (ld L (.bU []) d) h:=rfl
theorem aiE{x y l:List be}{b:Bool}:UU C aL x y l k V h (.bool b)=if b=O then bB C aL (.bP x::.bP l::k) V [] h else bB C aL (.bP y::.bP l::k) V [] h:=rfl
theorem aiF:UW C aL V L h (o k)=bB C aL k V L h:=rfl
theorem aiG{b:Bool}{x y:E}:Nr (.bool b) x y=o (if b=O then x else y):=rfl
theorem z'{p:Bool}{rs:List n5}{aj:ag}:lT p rs aj (o (.ret,V,h))=zJ.gK p aj h ((iF V h rs).map iV):=rfl
theorem U2{p:Bool}{rs:List n5}{aj:ag}{v:E}:lT p rs aj (o (.panic v,V,h))=nl p aj (.inr v,h):=rfl
theorem aiH{D:Nat}:arg V L (.v D)=V.getD D .az:=rfl
theorem aiI{D:Nat}:arg V L (.l D)=L.getD D .az:=rfl
theorem aiJ{a:E}:arg V L (.c a)=a:=rfl
theorem aiK{v:E}{D:Nat}:kJ V v (.v D)=V.set D v:=rfl
theorem aiL{v:E}:kJ V v .l=V:=rfl
theorem aiM{v:E}:kJ V v .n=V:=rfl
theorem aiN{v:E}{D:Nat}:ld L v (.v D)=L:=rfl
theorem aiO{v:E}:ld L v .l=v::L:=rfl
theorem aiP{v:E}:ld L v .n=L:=rfl
end
section
variable{C:Cd}{aL:Nat}{k:List i'}{V L:List E}{h aj:ag}{eI:jP}{q:gx}
theorem aiQ{a b:Int}:en eI .add (.int q a) (.int q b)=o (.int q (q.wrap (a+b))):=by simp[en,oZ]
theorem aiR{a b:Int}:en eI .sub (.int q a) (.int q b)=o (.int q (q.wrap (a - b))):=by simp[en,oZ]
theorem aiS{a b:Int}:en eI .mul (.int q a) (.int q b)=o (.int q (q.wrap (a*b))):=by simp[en,oZ]
theorem aiT{a b:Int}:en eI .eql (.int q a) (.int q b)=o (.bool (decide (a=b))):=by simp[en,oZ];rfl
theorem aiU{a b:Int}:en eI .neq (.int q a) (.int q b)=o (.bool (!decide (a=b))):=by simp[en,oZ];rfl
theorem aiV{a b:Int}:en eI .lss (.int q a) (.int q b)=o (.bool (decide (a<b))):=by simp[en,oZ]
theorem aiW{a b:Int}:en eI .leq (.int q a) (.int q b)=o (.bool (decide (a<=b))):=by simp[en,oZ]
theorem aiX{a b:Int}:en eI .gtr (.int q a) (.int q b)=o (.bool (decide (b<a))):=by simp[en,oZ]
theorem aiY{a b:Int}:en eI .geq (.int q a) (.int q b)=o (.bool (decide (b<=a))):=by simp[en,oZ]
theorem aiZ{a b:Int}:en eI .and (.int q a) (.int q b)=o (.int q (q.wrap (mP q.bits a&&& mP q.bits b).toNat)):=by simp[en,oZ]
theorem ai0{a b:Int}:en eI .or (.int q a) (.int q b)=o (.int q (q.wrap (mP q.bits a|||mP q.bits b).toNat)):=by simp[en,oZ]
theorem ai1{a b:Int}:en eI .andNot (.int q a) (.int q b)=o (.int q (q.wrap (mP q.bits a&&& ~~~(mP q.bits b)).toNat)):=by simp[en,oZ]
theorem ai2{a b:List UInt8}:en eI .eql (.str a) (.str b)=o (.bool (decide (a=b))):=by by_cases bC:a=b<;>simp[en,bC]
theorem ai3{a b:List UInt8}:en eI .neq (.str a) (.str b)=o (.bool (!decide (a=b))):=by by_cases bC:a=b<;>simp[en,bC]
theorem ai4{a b:Bool}:en .bool .eql (.bool a) (.bool b)=o (.bool (a==b)):=by simp[en,ov]
theorem ai5{a b:Bool}:en .bool .neq (.bool a) (.bool b)=o (.bool (!(a==b))):=by simp[en,ov]
theorem ai6{z:a6}{es:List (List E)}{i:Option Nat}:en .slice .eql (.b0 i z es) .aA=o (.bool T):=by simp[en,ov]
theorem ai7:en .slice .eql .aA .aA=o (.bool O):=by simp[en,ov]
theorem ai8{b I n:Nat}{z:a6}:en .slice .eql (.bn b I n z) .aA=o (.bool T):=by simp[en,ov]
theorem ai9{b:Bool}:zI .not (.bool b)=o (.bool !b):=rfl
theorem ai'{a:Int}:zI .neg (.int q a)=o (.int q (q.wrap (0 - a))):=rfl
theorem aja{p:gx}{a:Int}:yb (.int q) (.int p a)=o (.int q (q.wrap a)):=rfl
theorem ajb{s:List UInt8}:yb .str (.str s)=o (.str s):=rfl
theorem fL{agg:Bool}{n b i off:Nat}:cS agg n h (.ptr b i off)=((h.cell b).bind (·[i]?)).bind λe=>gO agg n e off:=rfl
theorem ajc{agg:Bool}{n off:Nat}{e:List E}:cS agg n h (.ip e off)=gO agg n e off:=rfl
theorem gi{n off:Nat}{e:List E}:gO T n e off=e[off]? :=rfl
theorem gX{n:Nat}{e:List E}(he:e.length=n):gO O n e 0=o (.agg e):=by subst he;simp[gO]
theorem Ii{e el:a6}{id:Option Nat}{i:Nat}{r:List E}(he:e=el)(af:es[i]? =o r):dO (o e) ad (.b0 id el es) (.int q (i:Int))=o (.ip r 0):=by simp[dO,he,af]
theorem vO{e el:a6}{b I n i:Nat}(he:e=el)(af:i<n):dO (o e) ad (.bn b I n el) (.int q (i:Int))=o (.ptr b (I+i) 0):=by simp[dO,he,af]
theorem ajd{b i I off:Nat}:b5 off (.ptr b i I)=o (.ptr b i (I+off)):=rfl
theorem aje{e:List E}{I off:Nat}:b5 off (.ip e I)=o (.ip e (I+off)):=rfl
theorem ajf{b i I:Nat}:D' (.ptr b i I)=o (.ptr b i I):=rfl
theorem ajg{e:List E}{I:Nat}:D' (.ip e I)=o (.ip e I):=rfl
theorem ajh:hX .aA=o 0:=rfl
theorem aji{id:Option Nat}{el:a6}{es:List (List E)}:hX (.b0 id el es)=o es.length:=rfl
theorem ajj{b I n:Nat}{el:a6}:hX (.bn b I n el)=o n:=rfl
theorem ajk{s:List UInt8}:hX (.str s)=o s.length:=rfl
theorem ajl{s:Bool}{e:a6}:j3 s (o e) .aA=O:=rfl
theorem Ei{s:Bool}{e:a6}{id:Option Nat}{es:List (List E)}:j3 s (o e) (.b0 id e es)=O:=by simp[j3]
theorem Ej{s:Bool}{e:a6}{b I n:Nat}:j3 s (o e) (.bn b I n e)=O:=by simp[j3]
theorem ajm{e:Option a6}{l:List UInt8}:j3 O e (.str l)=O:=rfl
theorem k1{b:Nat}{es:Option (List (List E))}:(h.set b es).cell b=es:=by simp[ag.set]
theorem eu{b D:Nat}{es:Option (List (List E))}(aa:D≠b):(h.set b es).cell D=h.cell D:=by simp[ag.set,aa]
theorem ny{b:Nat}{es:Option (List (List E))}:(h.set b es).n=h.n:=rfl
theorem Ek{b:Nat}{es:Option (List (List E))}:(h.set b es).ids=h.ids:=rfl
theorem El{b:Nat}{es:Option (List (List E))}:(h.set b es).hw=h.hw:=rfl
theorem iG{es:List (List E)}:(h.push es).cell h.n=o es:=by simp[ag.push]
theorem tk{D:Nat}(aa:D≠h.n):(h.push es).cell D=h.cell D:=by simp[ag.push,aa]
theorem ey{es:List (List E)}:(h.push es).n=h.n+1:=rfl
theorem i4{es:List (List E)}:(h.push es).ids=h.ids:=rfl
theorem ajn{es:List (List E)}:(h.push es).hw=h.hw:=rfl
theorem U3{m:Nat}:(h.fresh m).cell=h.cell:=rfl
theorem ajo{m:Nat}:(h.fresh m).n=h.n:=rfl
theorem U4{m:Nat}:(h.fresh m).ids=h.ids+1:=rfl
theorem Ij{m:Nat}:(h.fresh m).hw h.ids=m:=by simp[ag.fresh]
theorem Em{m D:Nat}(aa:D≠h.ids):(h.fresh m).hw D=h.hw D:=by simp[ag.fresh,aa]
theorem ajp{i m:Nat}:(h.grow i m).cell=h.cell:=rfl
theorem ajq{i m:Nat}:(h.grow i m).n=h.n:=rfl
theorem ajr{i m:Nat}:(h.grow i m).ids=h.ids:=rfl
theorem ajs{i m:Nat}:(h.grow i m).hw i=m:=by simp[ag.grow]
theorem NF{i m D:Nat}(aa:D≠i):(h.grow i m).hw D=h.hw D:=by simp[ag.grow,aa]
def Acc(aj h:ag)(e:a6)(v:E)(acc:List (List E)):Prop:=(acc=[]/\v= .aA)\/∃id,acc≠[]/\aj.ids<=id/\id<h.ids/\h.hw id=acc.length/\v= .b0 (o id) e acc
theorem uF(aj h:ag)(e:a6):Acc aj h e .aA []:=.inl ⟨rfl,rfl⟩
theorem mp{e:a6}{v:E}(aX:Acc aj h e v acc)(g:aB aj h){row:List E}(J:row.all E.one=O)(am:acc.length<=1000000):∃bs F,eU T e v (.b0 (o h.ids) e [row]) (h.fresh 1)=o (bs,F)/\Acc aj F e bs (acc++[row])/\aB aj F/\F.cell=h.cell/\F.n=h.n:=by
 have da:aB aj (h.fresh 1):=g.trans (aB.fresh h 1);have kW:∀x,x∈row->x.one=O:=by simpa using J
 rcases aX with⟨rfl,rfl⟩|⟨id,ja,aR,a5,bp,rfl⟩
 ·refine⟨.b0 (o (h.ids+1)) e [row],(h.fresh 1).fresh 1,?_,.inr ⟨h.ids+1,by simp,?_,?_,?_,by simp⟩,da.trans (aB.fresh _ 1),rfl,rfl⟩
  ·simp only[eU,iT,if_true,c2,gM,sd,if_false,jX];rw[if_pos ⟨by omega,by omega,by simpa using kW⟩];rfl
  ·have:=g.ids;omega
  ·simp[ag.fresh]
  ·simp[ag.fresh]
 ·have di:id≠h.ids:=by omega
  refine⟨.b0 (o id) e (acc++[row]),(h.fresh 1).grow id (acc.length+1),?_,.inr ⟨id,by simp,aR,?_,?_,rfl⟩,da.grow aR,rfl,rfl⟩
  ·simp only[eU,iT,if_true,c2,gM,sd,if_false,jX];rw[if_pos ⟨by omega,by omega,by simpa using kW⟩,Em di,bp];simp only[true_and,am,if_true]
  ·simp[ag.grow,ag.fresh];omega
  ·simp[ag.grow]
def uG:E->Bool
 |.bool _|.int _ _|.str _|.e2|.aA|.nQ|.ig=>O
 |_=>T
theorem ajt{v:E}(h:uG v=O):c7 v=o v:=by cases v<;>simp_all [uG,c7]
theorem U5:∀{l:List E},l.all uG=O->o0 l=o l
 |[],_=>rfl
 |v::l,h=>by simp only[pO,hx]at h;simp[o0,ajt h.1,U5 h.2]
theorem Aa:∀{l:List (List E)},(∀r∈l,r.all uG=O)->qs l=o l
 |[],_=>rfl
 |v::l,h=>by simp only[qs,U5 (h v (List.mem_cons_self ..)),Aa λr ao=>h r (List.mem_cons_of_mem _ ao)]
def i2(e:a6)(es:List (List E)):E:=if es=[]then .aA else .b0 ad e es
theorem Ce{e:a6}{v:E}(aX:Acc aj h e v acc)(bl:∀r∈acc,r.all uG=O):c7 v=o (i2 e acc):=by
 rcases aX with⟨rfl,rfl⟩|⟨id,ja,_,a5,bp,rfl⟩
 ·rfl
 ·simp only[c7,Aa bl,hF,i2,if_neg ja]
structure hn(e:a6)(v:E)(rows:List (List E)):Prop where
 len:hX v=o rows.length
 fits:∀s,j3 s (o e) v=O
 bV:∀(q:gx) (i:Nat) row,rows[i]? =o row->dO (o e) ad v (.int q (i:Int))=o (.ip row 0)
theorem En(id:Option Nat)(e:a6)(rows:List (List E)):hn e (.b0 id e rows) rows:=⟨rfl,λs=>Ei,λq i row h=>Ii rfl h⟩
theorem Ik(e:a6):hn e .aA []:=⟨rfl,λs=>rfl,λq i row h=>by simp at h⟩
theorem uH(e:a6)(rows:List (List E)):hn e (i2 e rows) rows:=by
 unfold i2;split
 ·rename_i h;subst h;exact Ik e
 ·exact En _ _ _
def yF(w:Bool):E->Option Bool
 |.bool b=>o (if w then b else !b)
 |.bU _=>o T
 |_=>ad
theorem aju{w:Bool}{bA:List E}:yF w (.bU bA)=o T:=rfl
theorem U6{a:Arg}{w:Bool}:z4 V L a w=yF w (arg V L a):=by unfold z4 yF;cases arg V L a<;>rfl
theorem ajv{b w:Bool}:yF w (.bool b)=o (if w=O then b else !b):=rfl
theorem ajw{i id:Nat}:m2 id (.cm i::k)=if i=id then o k else m2 id k:=rfl
theorem ajx{l:List be}{id:Nat}:m2 id (.bP l::k)=m2 id k:=rfl
theorem ajy{l:List be}{id:Nat}:m2 id (.e' l::k)=m2 id k:=rfl
theorem ajz{l:List ay}{id:Nat}:m2 id (.ops l::k)=m2 id k:=rfl
theorem ajA:iF V h []=o []:=rfl
theorem ajB{D:Nat}{rs:List n5}:iF V h (.v D::rs)=(iF V h rs).map λl=>V.getD D .az::l:=rfl
theorem ajC{agg:Bool}{n D:Nat}{rs:List n5}:iF V h (.cell agg n D::rs)=(cS agg n h (V.getD D .az)).bind λv=>(iF V h rs).map λl=>v::l:=rfl
theorem ajD:iV []= .bU []:=rfl
theorem ajE{a:E}:iV [a]=a:=rfl
theorem ajF{a b:E}:iV [a,b]= .bU [a,b]:=rfl
theorem ajG{a b c:E}:iV [a,b,c]= .bU [a,b,c]:=rfl
theorem ajH{a d:E}{l:List E}:(a::l).getD 0 d=a:=rfl
theorem ajI{a d:E}{l:List E}{n:Nat}:(a::l).getD (n+1) d=l.getD n d:=rfl
theorem ajJ{d:E}{n:Nat}:([]:List E).getD n d=d:=rfl
theorem ajK{a b:E}{l:List E}:(a::l).set 0 b=b::l:=rfl
theorem ajL{a b:E}{l:List E}{n:Nat}:(a::l).set (n+1) b=a::l.set n b:=rfl
theorem ajM{α:Type}{a:α}{l:List α}:(a::l)[0]? =o a:=rfl
theorem ajN{α:Type}{a:α}{l:List α}{n:Nat}:(a::l)[n+1]? =l[n]? :=rfl
theorem ajO{α:Type}{n:Nat}:([]:List α)[n]? =ad:=rfl
theorem ajP{cs:List E}:(E.agg cs).cells=cs:=rfl
theorem ajQ{n:Int}:(E.int q n).cells=[.int q n]:=rfl
theorem ajR{b:Bool}:(E.bool b).cells=[.bool b]:=rfl
theorem ajS{b:List UInt8}:(E.str b).cells=[.str b]:=rfl
theorem ajT:E.aA.cells=[.aA]:=rfl
theorem ajU:E.e2.cells=[.e2]:=rfl
theorem ajV{i:Option Nat}{z:a6}{es:List (List E)}:(E.b0 i z es).cells=[.b0 i z es]:=rfl
theorem ajW{b I n:Nat}{z:a6}:(E.bn b I n z).cells=[.bn b I n z]:=rfl
theorem ajX{b I n:Nat}:(E.ptr b I n).cells=[.ptr b I n]:=rfl
theorem ajY{n:Int}:(E.int q n).one=O:=rfl
theorem ajZ{b:Bool}:(E.bool b).one=O:=rfl
theorem UV{b:List UInt8}:(E.str b).one=O:=rfl
theorem aj0:E.aA.one=O:=rfl
theorem aj1:E.e2.one=O:=rfl
theorem aj2{i:Option Nat}{z:a6}{es:List (List E)}:(E.b0 i z es).one=O:=rfl
theorem aj3{b I n:Nat}{z:a6}:(E.bn b I n z).one=O:=rfl
theorem aj4{b I n:Nat}:(E.ptr b I n).one=O:=rfl
theorem aj5{t:a6}{v:E}:(E.iface t v).one=O:=rfl
theorem aj6{p:E->Bool}{a:E}{l:List E}:(a::l).all p=(p a&&l.all p):=rfl
theorem aj7{p:E->Bool}:([]:List E).all p=O:=rfl
theorem aj8{bA:List E}{i:Nat}:Ns (.bU bA) i=bA[i]? :=rfl
theorem aj9{pl:List (Nat×Nat)}{cs:List E}:pF pl cs []=o cs:=by cases pl<;>rfl
def NG(pl:List (Nat×Nat))(cs:List E)(v:E)(r:List (Nat×E)):Option (Nat×Nat)->Option (List E)
 |some (off,size)=>if v.cells.length=size/\off+size<=cs.length/\v.cells.all E.one=O then pF pl (dh cs off v.cells) r else ad
 |none=>ad
theorem aj'{pl:List (Nat×Nat)}{cs:List E}{i:Nat}{v:E}{r:List (Nat×E)}:pF pl cs ((i,v)::r)=NG pl cs v r pl[i]? :=by
 conv=>lhs;unfold pF
 cases pl[i]? with
 |none=>rfl
 |some q=>rfl
theorem aka{pl:List (Nat×Nat)}{cs:List E}{off size:Nat}{v:E}{r:List (Nat×E)}(J:v.cells.length=size)(R:off+size<=cs.length)(ah:v.cells.all E.one=O):NG pl cs v r (o (off,size))=pF pl (dh cs off v.cells) r:=by simp[NG,J,R,ah]
def Il(n:Nat)(h:ag)(b i off:Nat)(cs:List E):Option (List (List E))->Option ag
 |some es=>(es[i]?).bind λe=>if cs.all E.one=O/\cs.length=n/\off+n<=e.length then o (h.set b (o (es.set i (dh e off cs))))else ad
 |none=>ad
def NH(n:Nat)(h:ag)(b i off:Nat)(cs:List E)(es:List (List E)):Option (List E)->Option ag
 |some e=>if cs.all E.one=O/\cs.length=n/\off+n<=e.length then o (h.set b (o (es.set i (dh e off cs))))else ad
 |none=>ad
theorem akb{n b i off:Nat}{x:E}:eQ n h (.ptr b i off) x=Il n h b i off x.cells (h.cell b):=by simp only[eQ];cases h.cell b<;>rfl
theorem akc{n b i off:Nat}{cs:List E}{es:List (List E)}:Il n h b i off cs (o es)=NH n h b i off cs es es[i]? :=by simp only[Il];cases es[i]? <;>rfl
theorem akd{n b i off:Nat}{cs:List E}{es:List (List E)}{e:List E}(J:cs.all E.one=O)(R:cs.length=n)(ah:off+n<=e.length):NH n h b i off cs es (o e)=o (h.set b (o (es.set i (dh e off cs)))):=by simp[NH,J,R,ah]
theorem ake{n:Nat}{es:List (List E)}:pG n es []=o es:=by cases es<;>rfl
theorem akf{n:Nat}{es:List (List E)}{i:Nat}{v:E}{r:List (Nat×E)}(J:v.cells.length=n)(R:i<es.length)(ah:v.cells.all E.one=O):pG n es ((i,v)::r)=pG n (es.set i v.cells) r:=by
 conv=>lhs;unfold pG
 simp[J,R,ah]
theorem akg{e cs:List E}(he:e.length=cs.length):dh e 0 cs=cs:=by simp[dh,he]
theorem akh{e:List E}:dh e 0 []=e:=by simp[dh]
theorem aki{a c:E}{e cs:List E}:dh (a::e) 0 (c::cs)=c::dh e 0 cs:=by simp[dh]
theorem akj{a:E}{e cs:List E}{n:Nat}:dh (a::e) (n+1) cs=a::dh e n cs:=by simp[dh,Nat.add_right_comm]
theorem akk{b:Nat}{x y:Option (List (List E))}:(h.set b x).set b y=h.set b y:=by unfold ag.set;congr 1;funext D;by_cases aa:D=b<;>simp[aa]
theorem i9{x y:List (List E)}:(h.push x).set h.n (o y)=h.push y:=by unfold ag.push ag.set;congr 1;funext D;by_cases aa:D=h.n<;>simp[aa]
theorem akl:vL V L h []=True:=rfl
theorem akm{agg:Bool}{n:Nat}{a d:Arg}{r:List vK}:vL V L h (⟨ad,agg,n,a,d⟩::r)=(cS agg n h (arg V L a)=o (arg V L d)/\vL V L h r):=rfl
theorem akn{agg:Bool}{n:Nat}{g a d:Arg}{w:Bool}{r:List vK}:vL V L h (⟨o (g,w),agg,n,a,d⟩::r)=((match yF w (arg V L g)with|some O=>cS agg n h (arg V L a)=o (arg V L d)|_=>True)/\vL V L h r):=by simp only[vL,B8,U6]<;>rfl
theorem ako{b:Bool}:nl O h (.inl (.bool b),h)=o (.inl (.bool b),h):=dI (aB.refl h) rfl
theorem akp{n:Int}:nl O h (.inl (.int q n),h)=o (.inl (.int q n),h):=dI (aB.refl h) rfl
theorem akq{n:List UInt8}:nl O h (.inl (.str n),h)=o (.inl (.str n),h):=dI (aB.refl h) rfl
theorem eL{n:Int}(J: -9223372036854775808<=n)(R:n<=9223372036854775807):kK j n=n:=by rw[IntKind.wrap_i64];omega
theorem yG{a b:List (List E)}:((h.push a).push b).cell (h.n+1)=o b:=by simp[ag.push]
theorem qG{a b:List (List E)}:((h.push a).push b).cell h.n=o a:=by simp[ag.push]
theorem akr{a x y:List (List E)}:((h.push a).push x).set (h.n+1) (o y)=(h.push a).push y:=i9 (h:=h.push a)
theorem vP{a b c:List (List E)}:(((h.push a).push b).push c).cell (h.n+1+1)=o c:=by simp[ag.push]
theorem vQ{a b c:List (List E)}:(((h.push a).push b).push c).cell (h.n+1)=o b:=by simp[ag.push]
theorem tl{a b c:List (List E)}:(((h.push a).push b).push c).cell h.n=o a:=by simp[ag.push,show ¬h.n=h.n+1+1 by omega]
theorem aks{a b x y:List (List E)}:(((h.push a).push b).push x).set (h.n+1+1) (o y)=((h.push a).push b).push y:=i9 (h:=(h.push a).push b)
theorem ir{D:Nat}(aa:D<h.n):(h.push es).cell D=h.cell D:=tk (by omega)
theorem cV{b gz:List be}(ab:b=gz):bB C aL (.e' b::k) V L h=bB C aL (.bP gz::.e' b::k) (cb aL V) L h:=by subst ab;exact ahY
theorem akt{agg:Bool}{n b:Nat}{t:a6}:cS agg n h (.gc t b)=((h.cell b).bind (·[0]?)).bind λe=>gO agg n e 0:=rfl
theorem aku{t:a6}{b:Nat}:b5 0 (.gc t b)=o (.gc t b):=rfl
theorem akv{t:a6}{b:Nat}:b5 1 (.gc t b)=o (.ptr b 0 1):=rfl
theorem akw{t:a6}{b:Nat}:b5 2 (.gc t b)=o (.ptr b 0 2):=rfl
theorem akx{t:a6}{b:Nat}:b5 3 (.gc t b)=o (.ptr b 0 3):=rfl
theorem aky{t:a6}{b:Nat}:D' (.gc t b)=o (.gc t b):=rfl
theorem akz{n b:Nat}{t:a6}{x:E}:eQ n h (.gc t b) x=Il n h b 0 0 x.cells (h.cell b):=by simp only[eQ];cases h.cell b<;>rfl
theorem akA{t:a6}{b:Nat}:(E.gc t b).cells=[.gc t b]:=rfl
theorem akB{t:a6}{b:Nat}:(E.gc t b).one=O:=rfl
theorem akC{a b:Int}:yc T (.int q a) (.int q b)=o (.int q (if b<a then b else a)):=rfl
theorem akD{a b:Int}:yc O (.int q a) (.int q b)=o (.int q (if b>a then b else a)):=rfl
theorem akE{a b:Int}:en eI .rem (.int q a) (.int q b)=if b=0 then ad else o (.int q (a.tmod b)):=by simp[en,oZ]
theorem akF{b i I:Nat}:en .ptr .eql (.ptr b i I) .e2=o (.bool T):=by simp[en,ov]
theorem akG{t:a6}{b:Nat}:en .ptr .eql (.gc t b) .e2=o (.bool T):=by simp[en,ov]
theorem acl:en .ptr .eql .e2 .e2=o (.bool O):=by simp[en,ov]
theorem akH{b i I:Nat}:en .ptr .neq (.ptr b i I) .e2=o (.bool O):=by simp[en,ov]
theorem akI{t:a6}{b:Nat}:en .ptr .neq (.gc t b) .e2=o (.bool O):=by simp[en,ov]
theorem akJ:en .ptr .neq .e2 .e2=o (.bool T):=by simp[en,ov]
theorem akK{t:a6}{v:E}{aT:Option (List jP)}{gQ:Bool}:oG .iface aT gQ .neq (.iface t v) .ig=o (.bool O):=by simp[oG,en,ov]
theorem akL{aT:Option (List jP)}:oG .iface aT O .neq .ig .ig=o (.bool T):=by simp[oG,Nq]
theorem akM{t:a6}{v:E}{aT:Option (List jP)}{gQ:Bool}:oG .iface aT gQ .eql (.iface t v) .ig=o (.bool T):=by simp[oG,en,ov]
theorem akN{aT:Option (List jP)}:oG .iface aT O .eql .ig .ig=o (.bool O):=by simp[oG,Nq]
theorem bm{P Q:Prop}(a:P)(b:Q):P/\Q:=⟨a,b⟩
theorem ak:(type_of% @hk.{0})/\(type_of% @gf.{0})/\(type_of% @m3.{0})/\(type_of% @lQ.{0})/\(type_of% @kT.{0,0})/\(type_of% @s2.{0,0})/\(type_of% @c2.{0,0})/\(type_of% @hF.{0,0})/\(type_of% @Option.bind_none.{0,0})/\(type_of% @Option.map_none.{0,0})/\(type_of% @if_true.{1})/\(type_of% @if_false.{1})/\(type_of% @decide_true)/\(type_of% @decide_false)/\(type_of% @l9)/\(type_of% @Bool.true_eq_false)/\(type_of% @Bool.not_true)/\(type_of% @Bool.not_false)/\(type_of% @pZ)/\(type_of% @Bool.true_and)/\(type_of% @Bool.and_false)/\(type_of% @Bool.false_and)/\(type_of% @Bool.or_true)/\(type_of% @Bool.true_or)/\(type_of% @Bool.or_false)/\(type_of% @Bool.false_or)/\(type_of% @true_and)/\(type_of% @and_true)/\(type_of% @false_and)/\(type_of% @and_false)/\(type_of% @List.take_zero.{0})/\(type_of% @List.take_succ_cons.{0})/\(type_of% @List.drop_zero.{0})/\(type_of% @List.drop_succ_cons.{0})/\(type_of% @List.take_nil.{0})/\(type_of% @List.drop_nil.{0})/\(type_of% @vR.{0})/\(type_of% @List.set_cons_succ.{0})/\(type_of% @hH)/\(type_of% @Nat.lt_add_one)/\(type_of% @b4)/\(type_of% @mE)/\(type_of% @ahS)/\(type_of% @ahT)/\(type_of% @UX)/\(type_of% @ahU)/\(type_of% @UY)/\(type_of% @UZ)/\(type_of% @ahV)/\(type_of% @ahW)/\(type_of% @ahX)/\(type_of% @U0)/\(type_of% @ah1)/\(type_of% @ah2)/\(type_of% @U1)/\(type_of% @ah0)/\(type_of% @ah3)/\(type_of% @ah4)/\(type_of% @ah5)/\(type_of% @ah6)/\(type_of% @ah7)/\(type_of% @ah8)/\(type_of% @ah9)/\(type_of% @ah')/\(type_of% @aia)/\(type_of% @aib)/\(type_of% @aic)/\(type_of% @aid)/\(type_of% @aie)/\(type_of% @aif)/\(type_of% @aih)/\(type_of% @aii)/\(type_of% @aij)/\(type_of% @aik)/\(type_of% @ail)/\(type_of% @aim)/\(type_of% @aio)/\(type_of% @ain)/\(type_of% @aip)/\(type_of% @aiq)/\(type_of% @air)/\(type_of% @ais)/\(type_of% @aix)/\(type_of% @aiy)/\(type_of% @aiz)/\(type_of% @aiA)/\(type_of% @aiB)/\(type_of% @aiC)/\(type_of% @aiD)/\(type_of% @aiE)/\(type_of% @aiF)/\(type_of% @aiG)/\(type_of% @z')/\(type_of% @U2)/\(type_of% @aiH)/\(type_of% @aiI)/\(type_of% @aiJ)/\(type_of% @aiK)/\(type_of% @aiL)/\(type_of% @aiM)/\(type_of% @aiN)/\(type_of% @aiO)/\(type_of% @aiP)/\(type_of% @U6)/\(type_of% @ajv)/\(type_of% @aju)/\(type_of% @ajw)/\(type_of% @ajx)/\(type_of% @ajy)/\(type_of% @ajz)/\(type_of% @ajA)/\(type_of% @ajB)/\(type_of% @ajC)/\(type_of% @ajE)/\(type_of% @ajF)/\(type_of% @ajG)/\(type_of% @ajD)/\(type_of% @yf)/\(type_of% @zK)/\(type_of% @aiQ)/\(type_of% @aiR)/\(type_of% @aiS)/\(type_of% @aiT)/\(type_of% @aiU)/\(type_of% @aiV)/\(type_of% @aiW)/\(type_of% @aiX)/\(type_of% @aiY)/\(type_of% @aiZ)/\(type_of% @ai0)/\(type_of% @ai1)/\(type_of% @ai2)/\(type_of% @ai3)/\(type_of% @ai4)/\(type_of% @ai5)/\(type_of% @ai6)/\(type_of% @ai7)/\(type_of% @ai8)/\(type_of% @ai9)/\(type_of% @ai')/\(type_of% @aja)/\(type_of% @ajb)/\(type_of% @fL)/\(type_of% @ajc)/\(type_of% @gi)/\(type_of% @ajd)/\(type_of% @aje)/\(type_of% @ajf)/\(type_of% @ajg)/\(type_of% @ajh)/\(type_of% @aji)/\(type_of% @ajj)/\(type_of% @ajk)/\(type_of% @ajl)/\(type_of% @Ei)/\(type_of% @Ej)/\(type_of% @ajm)/\(type_of% @k1)/\(type_of% @ny)/\(type_of% @Ek)/\(type_of% @El)/\(type_of% @iG)/\(type_of% @ey)/\(type_of% @i4)/\(type_of% @ajn)/\(type_of% @U3)/\(type_of% @ajo)/\(type_of% @U4)/\(type_of% @Ij)/\(type_of% @ajp)/\(type_of% @ajq)/\(type_of% @ajr)/\(type_of% @ajs)/\(type_of% @ajH)/\(type_of% @ajI)/\(type_of% @ajK)/\(type_of% @ajL)/\(type_of% @ajJ)/\(type_of% @ajM)/\(type_of% @ajN)/\(type_of% @ajO)/\(type_of% @Eh)/\(type_of% @ahZ)/\(type_of% @akb)/\(type_of% @akc)/\(type_of% @akd)/\(type_of% @ajP)/\(type_of% @ajQ)/\(type_of% @ajR)/\(type_of% @ajS)/\(type_of% @ajT)/\(type_of% @ajU)/\(type_of% @ajV)/\(type_of% @ajW)/\(type_of% @ajX)/\(type_of% @ajY)/\(type_of% @ajZ)/\(type_of% @UV)/\(type_of% @aj0)/\(type_of% @aj1)/\(type_of% @aj2)/\(type_of% @aj3)/\(type_of% @aj4)/\(type_of% @aj5)/\(type_of% @aj6)/\(type_of% @aj7)/\(type_of% @aj8)/\(type_of% @aj9)/\(type_of% @aj')/\(type_of% @aka)/\(type_of% @ake)/\(type_of% @akf)/\(type_of% @akg)/\(type_of% @akh)/\(type_of% @aki)/\(type_of% @akj)/\(type_of% @akk)/\(type_of% @i9)/\(type_of% @ait)/\(type_of% @aiu)/\(type_of% @aiv)/\(type_of% @aiw)/\(type_of% @akt)/\(type_of% @aku)/\(type_of% @akv)/\(type_of% @akw)/\(type_of% @akx)/\(type_of% @aky)/\(type_of% @akz)/\(type_of% @akA)/\(type_of% @akB)/\(type_of% @akC)/\(type_of% @akD)/\(type_of% @akE)/\(type_of% @akF)/\(type_of% @akG)/\(type_of% @acl)/\(type_of% @akH)/\(type_of% @akI)/\(type_of% @akJ)/\(type_of% @akK)/\(type_of% @akL)/\(type_of% @akM)/\(type_of% @akN)/\(type_of% @akl)/\(type_of% @akm)/\(type_of% @akn)/\(type_of% @ako)/\(type_of% @akp)/\(type_of% @akq)/\(type_of% @gX)/\(type_of% @yG)/\(type_of% @qG)/\(type_of% @akr)/\(type_of% @vP)/\(type_of% @vQ)/\(type_of% @tl)/\(type_of% @aks):=⟨@hk.{0},@gf.{0},@m3.{0},@lQ.{0},@kT.{0,0},@s2.{0,0},@c2.{0,0},@hF.{0,0},@Option.bind_none.{0,0},@Option.map_none.{0,0},@if_true.{1},@if_false.{1},@decide_true,@decide_false,@l9,@Bool.true_eq_false,@Bool.not_true,@Bool.not_false,@pZ,@Bool.true_and,@Bool.and_false,@Bool.false_and,@Bool.or_true,@Bool.true_or,@Bool.or_false,@Bool.false_or,@true_and,@and_true,@false_and,@and_false,@List.take_zero.{0},@List.take_succ_cons.{0},@List.drop_zero.{0},@List.drop_succ_cons.{0},@List.take_nil.{0},@List.drop_nil.{0},@vR.{0},@List.set_cons_succ.{0},@hH,@Nat.lt_add_one,@b4,@mE,@ahS,@ahT,@UX,@ahU,@UY,@UZ,@ahV,@ahW,@ahX,@U0,@ah1,@ah2,@U1,@ah0,@ah3,@ah4,@ah5,@ah6,@ah7,@ah8,@ah9,@ah',@aia,@aib,@aic,@aid,@aie,@aif,@aih,@aii,@aij,@aik,@ail,@aim,@aio,@ain,@aip,@aiq,@air,@ais,@aix,@aiy,@aiz,@aiA,@aiB,@aiC,@aiD,@aiE,@aiF,@aiG,@z',@U2,@aiH,@aiI,@aiJ,@aiK,@aiL,@aiM,@aiN,@aiO,@aiP,@U6,@ajv,@aju,@ajw,@ajx,@ajy,@ajz,@ajA,@ajB,@ajC,@ajE,@ajF,@ajG,@ajD,@yf,@zK,@aiQ,@aiR,@aiS,@aiT,@aiU,@aiV,@aiW,@aiX,@aiY,@aiZ,@ai0,@ai1,@ai2,@ai3,@ai4,@ai5,@ai6,@ai7,@ai8,@ai9,@ai',@aja,@ajb,@fL,@ajc,@gi,@ajd,@aje,@ajf,@ajg,@ajh,@aji,@ajj,@ajk,@ajl,@Ei,@Ej,@ajm,@k1,@ny,@Ek,@El,@iG,@ey,@i4,@ajn,@U3,@ajo,@U4,@Ij,@ajp,@ajq,@ajr,@ajs,@ajH,@ajI,@ajK,@ajL,@ajJ,@ajM,@ajN,@ajO,@Eh,@ahZ,@akb,@akc,@akd,@ajP,@ajQ,@ajR,@ajS,@ajT,@ajU,@ajV,@ajW,@ajX,@ajY,@ajZ,@UV,@aj0,@aj1,@aj2,@aj3,@aj4,@aj5,@aj6,@aj7,@aj8,@aj9,@aj',@aka,@ake,@akf,@akg,@akh,@aki,@akj,@akk,@i9,@ait,@aiu,@aiv,@aiw,@akt,@aku,@akv,@akw,@akx,@aky,@akz,@akA,@akB,@akC,@akD,@akE,@akF,@akG,@acl,@akH,@akI,@akJ,@akK,@akL,@akM,@akN,@akl,@akm,@akn,@ako,@akp,@akq,@gX,@yG,@qG,@akr,@vP,@vQ,@tl,@aks⟩
end
def fo(e:a6)(v:E)(es:List (List E)):Prop:=(es=[]/\v= .aA)\/∃id,v= .b0 id e es
abbrev gl(l:List Int):List (List E):=l.map λx=>[.int j x]
inductive bx where
 |mk (op k n:Int) (l:List bx)
def bx.op:bx->Int
 |.mk op _ _ _=>op
def bx.k:bx->Int
 |.mk _ k _ _=>k
def bx.n:bx->Int
 |.mk _ _ n _=>n
def bx.l:bx->List bx
 |.mk _ _ _ l=>l
theorem bx.eta(x:bx):x= .mk x.op x.k x.n x.l:=by cases x;rfl
theorem bx.mF{x y:bx}(h:y∈x.l):kL y<kL x:=by
 cases x with
 |mk op k n l=>have:=List.sizeOf_lt_of_mem (show y∈l from h);simp only[bx.mk.sizeOf_spec];omega
mutual
def bx.size:bx->Nat
 |.mk _ _ _ l=>1+fw l
def fw:List bx->Nat
 |[]=>0
 |x::l=>x.size+fw l
end
mutual
def bx.depth:bx->Nat
 |.mk _ _ _ l=>ji l
def ji:List bx->Nat
 |[]=>0
 |x::l=>max (1+x.depth) (ji l)
end
theorem bx.size_eq(x:bx):x.size=1+fw x.l:=by cases x;simp[bx.size,bx.l]
theorem bx.NI(x:bx):x.depth=ji x.l:=by cases x;simp[bx.depth,bx.l]
theorem Eo:∀(l b2:List bx),fw (l++b2)=fw l+fw b2
 |[],b2=>by simp[fw]
 |x::l,b2=>by simp[fw,Eo l b2,qv]
theorem NJ:∀(l b2:List bx),ji (l++b2)=max (ji l) (ji b2)
 |[],b2=>by simp[ji]
 |x::l,b2=>by simp[ji,NJ l b2,Nat.max_assoc]
theorem U7(x:bx):fw [x]=x.size:=by simp[fw]
theorem akO(x:bx):ji [x]=1+x.depth:=by simp[ji]
theorem bx.size_pos(x:bx):1<=x.size:=by rw[x.size_eq];omega
theorem bx.p0(x:bx):x.l.length<x.size:=by
 have:∀l:List bx,l.length<=fw l:=by
  intro l;induction l with
  |nil=>simp
  |cons y l aZ=>have:=y.size_pos;simp only[fw,hk];omega
 have:=this x.l;rw[x.size_eq];omega
theorem bx.mf(x:bx):1<=kL x:=by cases x;simp only[bx.mk.sizeOf_spec];omega
theorem U8{n:Nat}:∀{l:List bx},ji l<=n↔∀y∈l,1+y.depth<=n
 |[]=>by simp[ji]
 |x::l=>by have:=U8 (n:=n) (l:=l);simp only[ji,n0,forall_eq_or_imp,<-this];omega
theorem akP(x:bx){left:Int}(aj:0<=left):(!(x.l.any λy=> !decide ((y.depth:Int)<=left - 1)))=decide ((x.depth:Int)<=left):=by
 obtain⟨n,rfl⟩:∃n:Nat,left=n:=⟨left.toNat,by omega⟩;have h:=U8 (n:=n) (l:=x.l);rw[<-x.NI]at h;by_cases aw:x.depth<=n
 ·have J:((x.depth:Nat):Int)<=(n:Int):=by omega
  have R:(x.l.any λy=> !decide ((y.depth:Int)<=(n:Int) - 1))=T:=by
   rw[List.any_eq_false];intro y bE;have:=h.1 aw y bE;have ah:(y.depth:Int)<=(n:Int) - 1:=by omega
   simp[ah]
  rw[R];simp[J]
 ·have J:¬((x.depth:Nat):Int)<=(n:Int):=by omega
  have R:(x.l.any λy=> !decide ((y.depth:Int)<=(n:Int) - 1))=O:=by
   cases ab:(x.l.any λy=> !decide ((y.depth:Int)<=(n:Int) - 1))
   ·exfalso;apply aw;apply h.2;intro y bE;have:=(List.any_eq_false.1 ab) y bE;simp at this;omega
   ·rfl
  rw[R];simp[J]
def fM(op:Int):Int:=
 if op=1\/op=2\/op=3\/op=4\/op=21 then 0
 else if op=9\/op=10\/op=11\/op=12\/op=13\/op=15\/op=16\/op=17\/op=18\/op=20 then 1
 else if op=5\/op=6\/op=8\/op=14\/op=19 then 2
 else if op=7 then 3 else -1
def ro(cj op k n I:Int):Int:=
 if n≠0/\op≠2 then 5
 else if op=4 then(if k<0\/I<=k then 1 else 0)
 else if op=6 then(if k<1\/5<k then 1 else 0)
 else if op=15 then(if k<0\/15<k then 1 else 0)
 else if op=18 then(if k<0\/cj<=k then 1 else 0)
 else if k≠0 then 5 else 0
def mG(cj op k n:Int)(len:Nat)(I:Int):Int:=
 if fM op<0 then 2 else if(len:Int)≠fM op then 5
 else if ro cj op k n I≠0 then ro cj op k n I
 else if op=5/\I=12 then 3 else 0
mutual
def bx.fault(cj:Int):bx->Int->Int
 |.mk op k n l,I=>if mG cj op k n l.length I≠0 then mG cj op k n l.length I else qH cj op 0 l I
def qH(cj op:Int):Nat->List bx->Int->Int
 |_,[],_=>0
 |i,x::l,I=>if x.fault cj (if op=5/\i=1 then I+1 else I)≠0 then x.fault cj (if op=5/\i=1 then I+1 else I)else qH cj op (i+1) l I
end
def n6(cj:Int)(x:bx):Int:=if 30<x.depth then 4 else if 120<x.size then 3 else x.fault cj 0
def rp(cj:Int):Nat->List bx->Int×Int
 |_,[]=>(0,0)
 |i,x::l=>if n6 cj x≠0 then(n6 cj x,i)else rp cj (i+1) l
def e1(l:List bx):Int×Int:=if l.length=0\/6<l.length then(3, -1)else rp l.length 0 l
def rq(l:List bx):Bool:=decide (20<l.length)||l.any λx=>decide (600<x.size)
abbrev fp:a6:=109
mutual
def gR:bx->List E->Prop
 |.mk op k n l,r=>∃v es,r=[.int j op,.int j k,.int j n,v]/\fo fp v es/\gE l es
def gE:List bx->List (List E)->Prop
 |[],es=>es=[]
 |x::l,es=>∃r rs,es=r::rs/\gR x r/\gE l rs
end
structure df where
 op:Int
 k:Int
 n:Int
def lf:List (Nat->List df)->Nat->List df
 |[],_=>[]
 |f::dD,p=>f p++lf dD (p+(f p).length)
def NK(f0 f1:Nat->List df)(p:Nat):List df:=⟨100,0,0⟩::(f0 (p+1)++⟨101,0,0⟩::(f1 (p+1+(f0 (p+1)).length+1)++[⟨102,0,0⟩]))
def p1(f0 f1:Nat->List df)(p:Nat):Nat:=p+1+(f0 (p+1)).length+1+(f1 (p+1+(f0 (p+1)).length+1)).length+1
def NL(f0 f1 f2:Nat->List df)(p:Nat):List df:=⟨100,0,0⟩::(f0 (p+1)++⟨103,(p1 f0 f1 p:Nat),0⟩::(f1 (p+1+(f0 (p+1)).length+1)++⟨104,((p1 f0 f1 p+(f2 (p1 f0 f1 p)).length:Nat):Int),0⟩::f2 (p1 f0 f1 p)))
def uI(op k n:Int)(dD:List (Nat->List df))(p:Nat):List df:=
 if op=5 then(match dD with|[f0,f1]=>NK f0 f1 p|_=>[])
 else if op=7 then(match dD with|[f0,f1,f2]=>NL f0 f1 f2 p|_=>[])
 else⟨100,0,0⟩::(lf dD (p+1)++[⟨op,k,n⟩])
mutual
def cI:bx->Nat->List df
 |.mk op k n l=>uI op k n (Ep l)
def Ep:List bx->List (Nat->List df)
 |[]=>[]
 |x::l=>cI x::Ep l
end
theorem akQ(x:bx):cI x=uI x.op x.k x.n (Ep x.l):=by cases x;simp only[cI,bx.op,bx.k,bx.n,bx.l]
open Classical in
theorem U9:∀l:List bx,Ep l=l.map cI
 |[]=>rfl
 |x::l=>by simp only[Ep,kT,U9 l]
theorem Cf(x:bx):cI x=uI x.op x.k x.n (x.l.map cI):=by rw[akQ,U9]
theorem NM:∀(l:List bx) (p:Nat),(∀y∈l,∀p,(cI y p).length<=3*y.size)->(lf (l.map cI) p).length<=3*fw l
 |[],p,_=>by simp[lf]
 |x::l,p,h=>by have J:=h x (by simp) p;have R:=NM l (p+(cI x p).length) λy bE=>h y (by simp[bE]);simp only[kT,lf,ff,fw];omega
theorem xk:∀(N:Nat) (x:bx),kL x<=N->∀p:Nat,(cI x p).length<=3*x.size:=by
 intro N;induction N with
 |zero=>intro x aw;have:=x.mf;omega
 |succ N aZ=>
   intro x aw p;have an:∀y∈x.l,∀p,(cI y p).length<=3*y.size:=λy bE=>aZ y (by have:=bx.mF bE;omega);have aC:=x.size_eq;rw[Cf];generalize x.l=l at an aC;unfold uI;split
   ·match l,an,aC with
    |[],_,_=>simp
    |[a],_,_=>simp
    |[a,b],an,aC=>have J:=an a (by simp) (p+1);have R:=an b (by simp) (p+1+(cI a (p+1)).length+1);simp only[fw]at aC;simp only[kT,s2,NK,hk,ff,gf];have:=a.size_pos;omega
    |a::b::c::l,_,_=>simp
   ·split
    ·match l,an,aC with
     |[],_,_=>simp
     |[a],_,_=>simp
     |[a,b],_,_=>simp
     |[a,b,c],an,aC=>have J:=an a (by simp) (p+1);have R:=an b (by simp) (p+1+(cI a (p+1)).length+1);have ah:=an c (by simp) (p1 (cI a) (cI b) p);simp only[fw]at aC;simp only[kT,s2,NL,hk,ff];omega
     |a::b::c::d::l,_,_=>simp
    ·have:=NM l (p+1) an;simp only[hk,ff,gf];omega
theorem Im{cj I:Int}{x:bx}(h:x.fault cj I=0):0<=fM x.op/\(x.l.length:Int)=fM x.op/\ro cj x.op x.k x.n I=0/\¬(x.op=5/\I=12)/\qH cj x.op 0 x.l I=0:=by
 cases x with
 |mk op k n l=>
   simp only[bx.fault]at h;split at h
   ·rename_i J;exact absurd h J
   ·rename_i J;have J:mG cj op k n l.length I=0:=by simpa using J
    unfold mG at J;split at J
    ·cases J
    ·split at J
     ·cases J
     ·split at J
      ·rename_i R;exact absurd J R
      ·split at J
       ·cases J
       ·rename_i a b c d;simp only[bx.op,bx.k,bx.n,bx.l];exact⟨by omega,by simpa using b,by simpa using c,d,h⟩
theorem Ab{cj op I:Int}{i:Nat}{x:bx}{l:List bx}(h:qH cj op i (x::l) I=0):x.fault cj (if op=5/\i=1 then I+1 else I)=0/\qH cj op (i+1) l I=0:=by
 simp only[qH]at h;generalize x.fault cj (if op=5/\i=1 then I+1 else I)=c at h;by_cases an:c=0
 ·exact⟨an,by simpa[an]using h⟩
 ·simp[an]at h
theorem jp{cj op I:Int}(h0:op≠5):∀{l:List bx} {i:Nat},qH cj op i l I=0->∀y∈l,y.fault cj I=0
 |[],_,_,y,bE=>by simp at bE
 |x::l,i,h,y,bE=>by
   obtain⟨J,R⟩:=Ab h;rw[if_neg (λh=>h0 h.1)]at J;rcases n0.1 bE with rfl|bE
   ·exact J
   ·exact jp h0 R y bE
inductive av where
 |mk (kind n:Int) (l:List av)
def av.kind:av->Int
 |.mk k _ _=>k
def av.n:av->Int
 |.mk _ n _=>n
def av.l:av->List av
 |.mk _ _ l=>l
theorem av.eta(x:av):x= .mk x.kind x.n x.l:=by cases x;rfl
theorem av.mF{x y:av}(h:y∈x.l):kL y<kL x:=by
 cases x with
 |mk kind n l=>have:=List.sizeOf_lt_of_mem (show y∈l from h);simp only[av.mk.sizeOf_spec];omega
theorem av.mf(x:av):1<=kL x:=by cases x;simp only[av.mk.sizeOf_spec];omega
mutual
def av.size:av->Nat
 |.mk _ _ l=>1+jj l
def jj:List av->Nat
 |[]=>0
 |x::l=>x.size+jj l
end
theorem av.size_eq(x:av):x.size=1+jj x.l:=by cases x;simp[av.size,av.l]
theorem Io:∀(l b2:List av),jj (l++b2)=jj l+jj b2
 |[],b2=>by simp[jj]
 |x::l,b2=>by simp[jj,Io l b2,qv]
theorem akR(x:av):jj [x]=x.size:=by simp[jj]
theorem av.size_pos(x:av):1<=x.size:=by rw[x.size_eq];omega
theorem NN:∀l:List av,l.length<=jj l
 |[]=>by simp
 |y::l=>by have:=y.size_pos;have:=NN l;simp only[jj,hk];omega
theorem av.p0(x:av):x.l.length<x.size:=by have:=NN x.l;rw[x.size_eq];omega
theorem av.ph{x y:av}(h:y∈x.l):y.size<x.size:=by
 have:∀l:List av,y∈l->y.size<=jj l:=by
  intro l;induction l with
  |nil=>intro hm;simp at hm
  |cons z l aZ=>
    intro hm;simp only[jj];rcases n0.1 hm with rfl|hm
    ·omega
    ·have:=aZ hm;omega
 have:=this x.l h;rw[x.size_eq];omega
def lg(kind:Int):Nat:=if kind=2 then 2 else if kind=3 then 1 else 0
def jb(kind n:Int)(len:Nat):Int:=
 if kind<0\/5<kind then 2 else if len≠lg kind then 5 else if(kind=0\/kind=2)/\n≠0 then 5 else if 3<=kind/\n<0 then 1 else 0
mutual
def av.fault:av->Int
 |.mk kind n l=>if jb kind n l.length≠0 then jb kind n l.length else nz l
def nz:List av->Int
 |[]=>0
 |x::l=>if x.fault≠0 then x.fault else nz l
end
def av.code(x:av):Int:=if 40<x.size then 3 else x.fault
theorem av.Cg(x:av):x.fault=if jb x.kind x.n x.l.length≠0 then jb x.kind x.n x.l.length else nz x.l:=by cases x;rfl
theorem Er(x:av)(l:List av):nz (x::l)=if x.fault≠0 then x.fault else nz l:=rfl
mutual
def rr:av->av->Bool
 |.mk k n l,.mk dQ b' b2=>decide (k=dQ)&&(decide (n=b')&&n7 l b2)
def n7:List av->List av->Bool
 |[],[]=>O
 |x::l,y::b2=>rr x y&&n7 l b2
 |_,_=>T
end
mutual
theorem Ip:∀x:av,rr x x=O
 |.mk kind n l=>by simp[rr,NO l]
theorem NO:∀l:List av,n7 l l=O
 |[]=>rfl
 |x::l=>by simp[n7,Ip x,NO l]
end
mutual
theorem akS:∀{x y:av},rr x y=O->x=y
 |.mk k n l,.mk dQ b' b2,h=>by simp only[rr,hx,decide_eq_true_eq]at h;obtain⟨rfl,rfl,h⟩:=h;rw[NP h]
theorem NP:∀{l b2:List av},n7 l b2=O->l=b2
 |[],[],_=>rfl
 |x::l,y::b2,h=>by simp only[n7,hx]at h;rw[akS h.1,NP h.2]
 |[],_::_,h=>by simp[n7]at h
 |_::_,[],h=>by simp[n7]at h
end
theorem U'{l b2:List av}(h:decide ((l.length:Int)=(b2.length:Int))=T):n7 l b2=T:=by
 cases aC:n7 l b2
 ·rfl
 ·rw[NP aC]at h;simp at h
theorem akT(x y:av):rr x y=(decide (x.kind=y.kind)&&(decide (x.n=y.n)&&n7 x.l y.l)):=by cases x;cases y;rfl
mutual
def av.hC:av->List Int
 |.mk kind n l=>(if kind=4 then[n]else[])++m4 l
def m4:List av->List Int
 |[]=>[]
 |x::l=>x.hC++m4 l
end
theorem av.Va(x:av):x.hC=(if x.kind=4 then[x.n]else[])++m4 x.l:=by cases x;rfl
theorem NQ:∀(l b2:List av),m4 (l++b2)=m4 l++m4 b2
 |[],b2=>by simp[m4]
 |x::l,b2=>by simp[m4,NQ l b2,k']
mutual
theorem av.Es:∀x:av,x.hC.length<=x.size
 |.mk kind n l=>by have:=Iq l;simp only[av.hC,av.size,ff];split<;>simp<;>omega
theorem Iq:∀l:List av,(m4 l).length<=jj l
 |[]=>by simp[m4]
 |x::l=>by have:=av.Es x;have:=Iq l;simp only[m4,jj,ff];omega
end
mutual
def av.gate:av->Bool
 |.mk kind _ l=>decide (kind=5)||vS l
def vS:List av->Bool
 |[]=>T
 |x::l=>x.gate||vS l
end
theorem av.Vb(x:av):x.gate=(decide (x.kind=5)||vS x.l):=by cases x;rfl
theorem Vc:∀l:List av,vS l=l.any av.gate
 |[]=>rfl
 |x::l=>by simp only[vS,List.any_cons,Vc l]
abbrev bG:a6:=35
mutual
def bT:av->List E->Prop
 |.mk kind n l,r=>∃v es,r=[.int j kind,.int j n,v]/\fo bG v es/\c8 l es
def c8:List av->List (List E)->Prop
 |[],es=>es=[]
 |x::l,es=>∃r rs,es=r::rs/\bT x r/\c8 l rs
end
open Go.RowKit
theorem akU(x:BitVec 64):j.wrap (x.toNat:Int)=x.toInt:=by have h:=x.isLt;rw[BitVec.toInt_eq_toNat_cond,IntKind.wrap_i64];split<;>omega
theorem NR(a b:Int):bits .and j a b=(mP 64 a&&& mP 64 b).toInt:=akU _
theorem Ir(x:BitVec 64):mP 64 x.toInt=x:=BitVec.ofInt_toInt
def vT(a b:Int):Int:=bits .and j a b
def Ch(a b:Int):Bool:=vT a b==b
theorem akV(x y:BitVec 64):vT x.toInt y.toInt=(x&&& y).toInt:=by unfold vT;rw[NR,Ir,Ir]
theorem Vd(x y:BitVec 64):Ch x.toInt y.toInt=decide (x&&& y=y):=by unfold Ch;rw[akV,Bool.eq_iff_iff,beq_iff_eq,BitVec.toInt_inj,decide_eq_true_eq]
def qI(a:Int):Bool:=decide (0<=a/\a<=15)
def fS(a:Int)(i:Nat):Bool:=bits .and j (a / 2 ^ i) 1==1
open Go.RowKit
structure e5 where
 (parent gate dn cell bI func:Int)
def gN:e5:=⟨0,0,0,0,0,0⟩
structure a0 where
 nodes:List e5
 shut:List Bool
def a0.has(G:a0)(n:Int):Bool:=decide (0<=n/\n<G.nodes.length)
def a0.lh(G:a0)(k:Int):Bool:=decide (0<=k/\k<G.shut.length)
def a0.vU(G:a0)(k:Int):Bool:=G.lh k&& !(G.shut.getD k.toNat T)
def a0.gate(G:a0):a0×Int×Int:=if G.shut.length=20 then(G,0,11)else(⟨G.nodes,G.shut++[T]⟩,G.shut.length,0)
def a0.cut(G:a0)(k:Int):a0×Int:=if G.lh k then(⟨G.nodes,G.shut.set k.toNat O⟩,0)else(G,8)
def a0.add(G:a0)(n:e5):a0×Int×Int:=
 if qI n.dn=T then(G,0,1)
 else if n.gate≠ -1/\G.lh n.gate=T then(G,0,8)
 else if G.nodes.length=80 then(G,0,11)
 else(⟨G.nodes++[n],G.shut⟩,G.nodes.length,0)
def se(c:Int):Bool:=decide (0<=c/\c<12)
def Et(p f:Int):Bool:=decide (0<=p/\p<4/\0<=f/\f<6)
def a0.j5(G:a0)(c r g:Int):a0×Int×Int:=if se c then G.add ⟨-1,g,r,c, -1,0⟩else(G,0,1)
def a0.j6(G:a0)(p f r g:Int):a0×Int×Int:=if Et p f then G.add ⟨-1,g,r,0,p,f⟩else(G,0,1)
def a0.derive(G:a0)(p r g:Int):a0×Int×Int:=if G.has p then G.add ⟨p,g,r,0, -1,0⟩else(G,0,8)
structure Ci(s:Nat)(i:Nat)(n:e5):Prop where
 d': -1<=n.parent
 dA:n.parent<i
 r:qI n.dn=O
 g:n.gate= -1\/0<=n.gate/\n.gate<s
 t:n.parent= -1->n.bI= -1/\0<=n.cell/\n.cell<12/\n.func=0\/0<=n.bI/\n.bI<4/\0<=n.func/\n.func<6/\n.cell=0
structure a0.dE(G:a0):Prop where
 p2:G.nodes.length<=80
 eW:G.shut.length<=20
 node:∀(i:Nat) (n:e5),G.nodes[i]? =o n->Ci G.shut.length i n
theorem Ci.more{s ew i:Nat}{n:e5}(h:Ci s i n)(aC:s<=ew):Ci ew i n:=⟨h.d',h.dA,h.r,h.g.imp id (λ⟨a,b⟩=>⟨a,by omega⟩),h.t⟩
theorem akW:a0.dE ⟨[],[]⟩:=⟨by simp,by simp,λi n h=>by simp at h⟩
theorem a0.dE.gate{G:a0}(h:G.dE):G.gate.1.dE:=by
 unfold a0.gate;split
 ·exact h
 ·have:=h.eW;exact⟨h.p2,by simp;omega,λi n aE=>(h.node i n aE).more (by simp)⟩
theorem a0.dE.cut{G:a0}(h:G.dE)(k:Int):(G.cut k).1.dE:=by
 unfold a0.cut;split
 ·exact⟨h.p2,by simpa using h.eW,λi n aE=>by simpa using h.node i n aE⟩
 ·exact h
theorem a0.dE.add{G:a0}(h:G.dE){n:e5}(aj: -1<=n.parent)(J:n.parent<G.nodes.length)(a3:n.parent= -1->n.bI= -1/\0<=n.cell/\n.cell<12/\n.func=0\/0<=n.bI/\n.bI<4/\0<=n.func/\n.func<6/\n.cell=0):(G.add n).1.dE:=by
 unfold a0.add;split
 ·exact h
 ·rename_i ao;split
  ·exact h
  ·rename_i a8;split
   ·exact h
   ·have:=h.p2;refine⟨by simp;omega,h.eW,λi m hm=>?_⟩;show Ci G.shut.length i m;simp only at hm;by_cases af:i<G.nodes.length
    ·rw[o4 af]at hm;exact h.node i m hm
    ·rw[mx (by omega)]at hm;have g9:i - G.nodes.length=0:=by have:=(fQ.1 hm).1;simpa using this
     rw[g9]at hm;simp at hm;subst hm;refine⟨aj,by omega,by simpa using ao,?_,a3⟩;by_cases e:n.gate= -1
     ·exact .inl e
     ·right;have fY:G.lh n.gate=O:=by
       cases bC:G.lh n.gate
       ·exact absurd ⟨e,bC⟩ a8
       ·rfl
      simpa[a0.lh]using fY
theorem a0.dE.j5{G:a0}(h:G.dE)(c r g:Int):(G.j5 c r g).1.dE:=by
 unfold a0.j5;split
 ·rename_i an;simp[se]at an;exact h.add (by simp) (by simp;omega) (λ_=>.inl ⟨rfl,an.1,an.2,rfl⟩)
 ·exact h
theorem a0.dE.j6{G:a0}(h:G.dE)(p f r g:Int):(G.j6 p f r g).1.dE:=by
 unfold a0.j6;split
 ·rename_i an;simp[Et]at an;exact h.add (by simp) (by simp;omega) (λ_=>.inr ⟨an.1,an.2.1,an.2.2.1,an.2.2.2,rfl⟩)
 ·exact h
theorem a0.dE.derive{G:a0}(h:G.dE)(p r g:Int):(G.derive p r g).1.dE:=by
 unfold a0.derive;split
 ·rename_i an;simp[a0.has]at an;exact h.add (by simp;omega) (by simp;omega) (λe=>by simp at e;omega)
 ·exact h
def a0.lU(G:a0):Nat->Int->List e5
 |0,_=>[]
 |f+1,i=>if G.has i then(G.nodes.getD i.toNat gN)::G.lU f (G.nodes.getD i.toNat gN).parent else[]
def a0.path(G:a0)(i:Int):List e5:=G.lU (i.toNat+1) i
theorem a0.dE.get{G:a0}(h:G.dE){i:Int}(af:G.has i=O):Ci G.shut.length i.toNat (G.nodes.getD i.toNat gN):=by
 simp[a0.has]at af;have am:i.toNat<G.nodes.length:=by omega
 have e:G.nodes[i.toNat]? =o (G.nodes.getD i.toNat gN):=by simp[dz,am]
 exact h.node _ _ e
theorem a0.akX{G:a0}(h:G.dE):∀(f:Nat) (i:Int),i.toNat<f->G.lU f i=G.path i:=by
 intro f;induction f using Nat.strongRecOn with
 |_ f aZ=>
   intro i af;cases f with
   |zero=>omega
   |succ f=>
     unfold a0.path;by_cases bC:G.has i=O
     ·have ok:=h.get bC;have aH:=ok.d';have pb:=ok.dA;have g9:0<=i:=by simp[a0.has]at bC;exact bC.1
      unfold a0.lU;rw[if_pos bC,if_pos bC];congr 1;generalize (G.nodes.getD i.toNat gN).parent=p at*;by_cases Ee:p<0
      ·have mX:G.has p=T:=by simp[a0.has];omega
       cases f with
       |zero=>cases aE:i.toNat<;>simp[a0.lU,mX]
       |succ f=>cases aE:i.toNat<;>simp[a0.lU,mX]
      ·have au:=aZ f (by omega) p (by omega);rw[au];rcases ox i.toNat (f+1)with R|R
       ·have ax:=aZ i.toNat (by omega) p (by omega);rw[ax]
       ·omega
     ·cases f<;>simp[a0.lU,bC]
theorem a0.Ve{G:a0}(h:G.dE){i:Int}(af:G.has i=O):G.path i=(G.nodes.getD i.toNat gN)::G.path (G.nodes.getD i.toNat gN).parent:=by
 have ok:=h.get af;have pb:=ok.dA;have rt:=ok.d';have g9:0<=i:=by simp[a0.has]at af;exact af.1
 rw[a0.path,a0.lU,if_pos af];congr 1;generalize (G.nodes.getD i.toNat gN).parent=p at*;by_cases Ee:p<0
 ·have mX:G.has p=T:=by simp[a0.has];omega
  unfold a0.path;cases i.toNat<;>simp[a0.lU,mX]
 ·exact a0.akX h _ _ (by omega)
theorem a0.Ac{G:a0}{i:Int}(af:G.has i=T):G.path i=[]:=by rw[a0.path,a0.lU,af];rfl
def pi(G:a0)(n:e5):Bool:=decide (0<=n.gate)&& !G.vU n.gate
def a0.dn(G:a0)(i:Int):Int:=if G.path i=[]\/(G.path i).any (pi G)then 0 else(G.path i).foldl (λr n=>vT r n.dn) 15
def a0.target(G:a0)(i:Int):e5×Bool:=((G.path i).getLastD gN,!(G.path i).isEmpty)
def lV(l:List e5):List Int:=(l.filter λn=>decide (0<=n.gate)).map (·.gate)
def a0.oJ(G:a0)(i:Int):List Int:=lV (G.path i)
def cQ(n:e5):List E:=[.int j n.parent,.int j n.gate,.int j n.dn,.int j n.cell,.int j n.bI,.int j n.func]
abbrev iN:a6:=132
abbrev p3:a6:=4
def xl(h:ag)(ai:Nat->Prop)(e:a6)(v:E)(rows:List (List E)):Prop:=(rows=[]/\v= .aA)\/∃id,ai id/\rows≠[]/\id<h.ids/\h.hw id=rows.length/\v= .b0 (o id) e rows
def xm(h:ag)(ae:Nat->Prop)(b:Nat)(e:a6)(v:E)(rows:List (List E)):Prop:=(rows=[]/\v= .aA)\/∃q,ae q/\q≠b/\q<h.n/\h.cell q=o rows/\v= .bn q 0 rows.length e
structure eX(h:ag)(ae ai:Nat->Prop)(b:Nat)(G:a0):Prop where
 ab:ae b/\b<h.n
 lt:(∀k,ae k->k<h.n)/\∀D,ai D->D<h.ids
 ex:∃aL dm,h.cell b=o [[aL,dm]]/\xl h ai iN aL (G.nodes.map cQ)/\xm h ae b p3 dm (G.shut.map λx=>[.bool x])
structure lW(ae ai:Nat->Prop)(h F:ag):Prop where
 n:h.n<=F.n
 ids:h.ids<=F.ids
 cell:∀k,k<h.n->¬ae k->F.cell k=h.cell k
 hw:∀D,D<h.ids->¬ai D->F.hw D=h.hw D
def fN(h:ag)(ae ai:Nat->Prop)(b:Nat)(F:ag)(cN:a0):Prop:=∃lu lv,eX F lu lv b cN/\lW ae ai h F/\(∀k,lu k->ae k\/h.n<=k)/\(∀D,lv D->ai D\/h.ids<=D)
def k2:List Int->a0->Int->a0×Int×Int
 |[],G,n=>(G,n,0)
 |k::l,G,n=>if(G.derive n 15 k).2.2≠0 then((G.derive n 15 k).1,0,(G.derive n 15 k).2.2)else k2 l (G.derive n 15 k).1 (G.derive n 15 k).2.1
def cv:av:=.mk 0 0 []
def jA(aT:List Int)(G:a0)(kind n:Int):a0×Int×Int:=if kind=4 then k2 aT G n else(G,n,0)
mutual
def fO(aT:List Int):av->a0->a0×av×Int
 |.mk kind n l,G=>
   if(jA aT G kind n).2.2≠0 then((jA aT G kind n).1,cv,(jA aT G kind n).2.2)
   else if(gv aT l (jA aT G kind n).1).2.2≠0 then((gv aT l (jA aT G kind n).1).1,cv,(gv aT l (jA aT G kind n).1).2.2)
   else((gv aT l (jA aT G kind n).1).1,.mk kind (jA aT G kind n).2.1 (gv aT l (jA aT G kind n).1).2.1,0)
def gv(aT:List Int):List av->a0->a0×List av×Int
 |[],G=>(G,[],0)
 |x::l,G=>
   if(fO aT x G).2.2≠0 then((fO aT x G).1,[],(fO aT x G).2.2)
   else((gv aT l (fO aT x G).1).1,(fO aT x G).2.1::(gv aT l (fO aT x G).1).2.1,(gv aT l (fO aT x G).1).2.2)
end
theorem Is(aT:List Int)(x:av)(G:a0):fO aT x G=if(jA aT G x.kind x.n).2.2≠0 then((jA aT G x.kind x.n).1,cv,(jA aT G x.kind x.n).2.2) else if(gv aT x.l (jA aT G x.kind x.n).1).2.2≠0 then((gv aT x.l (jA aT G x.kind x.n).1).1,cv,(gv aT x.l (jA aT G x.kind x.n).1).2.2) else((gv aT x.l (jA aT G x.kind x.n).1).1,.mk x.kind (jA aT G x.kind x.n).2.1 (gv aT x.l (jA aT G x.kind x.n).1).2.1,0):=by cases x;rfl
def pj(G:a0)(x:av):Int:=
 if x.code≠0 then x.code else if x.gate then 9 else if x.hC.any λn=> !fS (G.dn n) 2 then 9 else 0
def fC(aT:List Int)(G:a0)(x:av):a0×av×Int:=if pj G x≠0 then(G,cv,pj G x)else fO aT x G
theorem Vf(aT:List Int):∀(G:a0) (n:Int),G.dE->(k2 aT G n).1.dE:=by
 induction aT with
 |nil=>intro G n h;exact h
 |cons k l aZ=>
   intro G n h;simp only[k2];split
   ·exact h.derive _ _ _
   ·exact aZ _ _ (h.derive _ _ _)
theorem NS{G:a0}{kind n:Int}(h:G.dE):(jA aT G kind n).1.dE:=by
 unfold jA;split
 ·exact Vf aT G n h
 ·exact h
mutual
theorem Eu(aT:List Int):∀(x:av) (G:a0),G.dE->(fO aT x G).1.dE
 |.mk kind n l,G,h=>by
   simp only[fO];split
   ·exact NS h
   ·split
    ·exact NT aT l _ (NS h)
    ·exact NT aT l _ (NS h)
theorem NT(aT:List Int):∀(l:List av) (G:a0),G.dE->(gv aT l G).1.dE
 |[],G,h=>h
 |x::l,G,h=>by
   simp only[gv];split
   ·exact Eu aT x G h
   ·exact NT aT l _ (Eu aT x G h)
end
theorem NU{G:a0}{x:av}(h:G.dE):(fC aT G x).1.dE:=by
 unfold fC;split
 ·exact h
 ·exact Eu aT x G h
theorem lW.refl(ae ai:Nat->Prop)(h:ag):lW ae ai h h:=⟨b4 _,b4 _,λ_ _ _=>rfl,λ_ _ _=>rfl⟩
theorem aB.uJ{h F:ag}(g:aB h F)(ae ai:Nat->Prop):lW ae ai h F:=⟨g.n,g.ids,λk Z _=>g.cell k Z,λD aa _=>g.hw D aa⟩
theorem lW.trans{ae ai:Nat->Prop}{a b c:ag}(x:lW ae ai a b)(y:lW ae ai b c):lW ae ai a c:=⟨e7 x.n y.n,e7 x.ids y.ids,λk Z dt=>(y.cell k (fq Z x.n) dt).trans (x.cell k Z dt),λD aa gs=>(y.hw D (fq aa x.ids) gs).trans (x.hw D aa gs)⟩
theorem lW.then{ae ai lu lv:Nat->Prop}{a b c:ag}(x:lW ae ai a b)(y:lW lu lv b c)(dt:∀k,lu k->ae k\/a.n<=k)(gs:∀D,lv D->ai D\/a.ids<=D):lW ae ai a c:=⟨e7 x.n y.n,e7 x.ids y.ids,
  λk Z J=>(y.cell k (fq Z x.n) λR=>by rcases dt k R with h|h;exact J h;omega).trans (x.cell k Z J),
  λD aa J=>(y.hw D (fq aa x.ids) λR=>by rcases gs D R with h|h;exact J h;omega).trans (x.hw D aa J)⟩
theorem eX.g2{h F:ag}{ae ai dX ec:Nat->Prop}{b:Nat}{G:a0}(g:eX h ae ai b G)(c:lW dX ec h F)(dt:∀k,ae k->¬dX k)(gs:∀D,ai D->¬ec D):eX F ae ai b G:=by
 obtain⟨aL,dm,J,R,ah⟩:=g.ex;refine⟨⟨g.ab.1,fq g.ab.2 c.n⟩,⟨λk Z=>fq (g.lt.1 k Z) c.n,λD aa=>fq (g.lt.2 D aa) c.ids⟩,aL,dm,(c.cell b g.ab.2 (dt b g.ab.1)).trans J,?_,?_⟩
 ·rcases R with R|⟨id,aR,ja,a5,bp,cA⟩
  ·exact .inl R
  ·exact .inr ⟨id,aR,ja,fq a5 c.ids,(c.hw id a5 (gs id aR)).trans bp,cA⟩
 ·rcases ah with ah|⟨q,aR,a5,bp,cA,et⟩
  ·exact .inl ah
  ·exact .inr ⟨q,aR,a5,fq bp c.n,(c.cell q bp (dt q aR)).trans cA,et⟩
structure b6 where
 A:ag->(Nat->Prop)->(Nat->Prop)->Prop
 lt:∀{h:ag} {ae ai:Nat->Prop},A h ae ai->(∀k,ae k->k<h.n)/\∀D,ai D->D<h.ids
 g2:∀{h F:ag} {ae ai X Y:Nat->Prop},A h ae ai->lW X Y h F->(∀k,ae k->¬X k)->(∀D,ai D->¬Y D)->A F ae ai
def vV(p:Prop):b6 where
 A _ ae ai:=p/\(∀k,¬ae k)/\∀D,¬ai D
 lt:=λ⟨_,a,b⟩=>⟨λk Z=>absurd Z (a k),λD aa=>absurd aa (b D)⟩
 g2:=λh _ _ _=>h
def aY(b:Nat)(es:List (List E)):b6 where
 A h ae ai:=(∀k,ae k↔k=b)/\(∀D,¬ai D)/\b<h.n/\h.cell b=o es
 lt:=λ⟨a,b,c,_⟩=>⟨λk Z=>by rw[(a k).1 Z];exact c,λD aa=>absurd aa (b D)⟩
 g2:=λ⟨a,b,c,d⟩ x dt _=>⟨a,b,fq c x.n,(x.cell _ c (dt _ ((a _).2 rfl))).trans d⟩
def Ev(id n:Nat):b6 where
 A h ae ai:=(∀k,¬ae k)/\(∀D,ai D↔D=id)/\id<h.ids/\h.hw id=n
 lt:=λ⟨a,b,c,_⟩=>⟨λk Z=>absurd Z (a k),λD aa=>by rw[(b D).1 aa];exact c⟩
 g2:=λ⟨a,b,c,d⟩ x _ gs=>⟨a,b,fq c x.ids,(x.hw _ c (gs _ ((b _).2 rfl))).trans d⟩
def it(X Y:b6):b6 where
 A h ae ai:=∃ez eA dX ec,X.A h ez eA/\Y.A h dX ec/\(∀k,ae k↔ez k\/dX k)/\(∀D,ai D↔eA D\/ec D)/\(∀k,ez k->¬dX k)/\(∀D,eA D->¬ec D)
 lt:=λ⟨ez,eA,dX,ec,x,y,dt,gs,_,_⟩=>⟨λk Z=>((dt k).1 Z).elim ((X.lt x).1 k) ((Y.lt y).1 k),λD aa=>((gs D).1 aa).elim ((X.lt x).2 D) ((Y.lt y).2 D)⟩
 g2:=λ⟨ez,eA,dX,ec,x,y,dt,gs,p4,p5⟩ c uK uL=>
  ⟨ez,eA,dX,ec,X.g2 x c (λk Z=>uK k ((dt k).2 (.inl Z))) (λD aa=>uL D ((gs D).2 (.inl aa))),Y.g2 y c (λk Z=>uK k ((dt k).2 (.inr Z))) (λD aa=>uL D ((gs D).2 (.inr aa))),dt,gs,p4,p5⟩
def uM{α:Type}(X:α->b6):b6 where
 A h ae ai:=∃a,(X a).A h ae ai
 lt:=λ⟨a,x⟩=>(X a).lt x
 g2:=λ⟨a,x⟩ c uK uL=>⟨a,(X a).g2 x c uK uL⟩
def Vg(X Y:b6):b6 where
 A h ae ai:=X.A h ae ai\/Y.A h ae ai
 lt:=λh=>h.elim X.lt Y.lt
 g2:=λh c uK uL=>h.imp (λx=>X.g2 x c uK uL) (λy=>Y.g2 y c uK uL)
def xn(p:Prop)(X:b6):b6 where
 A h ae ai:=p/\X.A h ae ai
 lt:=λh=>X.lt h.2
 g2:=λh c uK uL=>⟨h.1,X.g2 h.2 c uK uL⟩
def bi(b:Nat)(G:a0):b6 where
 A h ae ai:=eX h ae ai b G
 lt:=λg=>g.lt
 g2:=λg c uK uL=>g.g2 c uK uL
def cf:List b6->b6
 |[]=>vV True
 |X::L=>it X (cf L)
def gw(h:ag)(ae ai:Nat->Prop)(F:ag)(X:b6):Prop:=∃lu lv,X.A F lu lv/\lW ae ai h F/\(∀k,lu k->ae k\/h.n<=k)/\(∀D,lv D->ai D\/h.ids<=D)
structure nA where
 (bI cell right node:Int)
structure bK where
 G:a0
 cells:List Int
 log:List nA
 kept:List av
 left:Nat
abbrev dj:=List (Option (List bx))
def lX:bx:=.mk 0 0 0 []
def lx(n:Int):av:=.mk 1 n []
def ly(n:Int):av:=.mk 4 n []
def gS(ms:dj)(p:Int):List bx:=(ms.getD p.toNat ad).getD []
def gY(ms:dj)(p k:Int):bx:=(gS ms p).getD k.toNat lX
def yH(k a b:Int):Int:=if k=1 then kK j (a+b)else if k=2 then kK j (a - b)else if k=3 then kK j (a*b)else if k=4 then(if a<b then 1 else 0)else if k=5 then(if a=b then 1 else 0)else 0
def bK.ok(S:bK)(v:av):bK×av×Int:=(S,v,0)
def bK.no(S:bK)(c:Int):bK×av×Int:=(S,cv,c)
def bK.tick(S:bK):bK:={S with left:=S.left - 1}
def Ad(S:bK)(q:a0×Int×Int):bK×av×Int:=if q.2.2≠0 then({S with G:=q.1}).no q.2.2 else({S with G:=q.1}).ok (ly q.2.1)
def gZ(p op k n:Int)(l:List av)(S:bK):bK×av×Int:=
 let a:=l.getD 0 cv;let b:=l.getD 1 cv
 if op=6 then(if a.kind≠1\/b.kind≠1 then S.no 2 else S.ok (lx (yH k a.n b.n)))
 else if op=8 then(if(av.mk 2 0 [a,b]).code≠0 then S.no 3 else S.ok (.mk 2 0 [a,b]))
 else if op=9 then(if a.kind≠2 then S.no 2 else S.ok (a.l.getD 0 cv))
 else if op=10 then(if a.kind≠2 then S.no 2 else S.ok (a.l.getD 1 cv))
 else if op=11 then(if(av.mk 3 p [a]).code≠0 then S.no 3 else S.ok (.mk 3 p [a]))
 else if op=12 then(if a.kind≠3 then S.no 2 else if a.n≠p then S.no 10 else S.ok (a.l.getD 0 cv))
 else if op=13 then(if a.kind≠4 then S.no 2 else if fS (S.G.dn a.n) 0=T then S.no 9 else if 0<=(S.G.target a.n).1.bI then S.no 2 else({S with log:=S.log++[nA.mk p (S.G.target a.n).1.cell 1 a.n]}).ok (lx (S.cells.getD (S.G.target a.n).1.cell.toNat 0)))
 else if op=14 then(if a.kind≠4\/b.kind≠1 then S.no 2 else if fS (S.G.dn a.n) 1=T then S.no 9 else if 0<=(S.G.target a.n).1.bI then S.no 2 else({S with log:=S.log++[nA.mk p (S.G.target a.n).1.cell 2 a.n],cells:=S.cells.set (S.G.target a.n).1.cell.toNat b.n}).ok b)
 else if op=15 then(if a.kind≠4 then S.no 2 else Ad S (S.G.derive a.n k (-1)))
 else if op=16 then(if a.kind≠4 then S.no 2 else if S.G.gate.2.2≠0 then({S with G:=S.G.gate.1}).no S.G.gate.2.2 else match S.G.gate.1.derive a.n 15 S.G.gate.2.1 with
   |(cN,m,c)=>if c≠0 then({S with G:=cN}).no c else({S with G:=cN}).ok (.mk 2 0 [ly m,.mk 5 S.G.gate.2.1 []]))
 else if op=17 then(if a.kind≠5 then S.no 2 else({S with G:=(S.G.cut a.n).1}).ok cv)
 else if op=20 then({S with kept:=S.kept.set p.toNat a}).ok (S.kept.getD p.toNat cv)
 else S.no 0
structure tm where
 (bI func:Int)
 arg:av
 eW:List Int
def hO(ms:dj)(v x:av)(aI:Nat)(S:bK):bK×tm×Int:=
 let t:=(S.G.target v.n).1;let z:tm:=⟨0,0,cv,[]⟩
 if v.kind≠4 then(S,z,2)else if fS (S.G.dn v.n) 3=T then(S,z,9)else if t.bI<0 then(S,z,2)
 else if(ms.getD t.bI.toNat ad).isNone\/((gS ms t.bI).length:Int)<=t.func\/t.func<0 then(S,z,8)
 else if aI=20 then(S,z,4)
 else match fC (S.G.oJ v.n) S.G x with
  |(cN,y,c)=>({S with G:=cN},⟨t.bI,t.func,y,S.G.oJ v.n⟩,c)
def m5(eW:List Int)(v:av)(S:bK):bK×av×Int:=match fC eW S.G v with
 |(cN,y,c)=>if c≠0 then({S with G:=cN}).no c else({S with G:=cN}).ok y
def jB(f:bx->bK->bK×av×Int):List bx->bK->List av->bK×List av×Int
 |[],S,acc=>(S,acc,0)
 |x::l,S,acc=>match f x S with
   |(ca,v,c)=>if c≠0 then(ca,[],c)else jB f l ca (acc++[v])
def kl(p:Int)(x:bx)(arg:av)(names:List av)(S:bK):Option av:=
 if x.op=1 then o cv else if x.op=2 then o (lx x.n)else if x.op=3 then o arg
 else if x.op=4 then o (names.getD (names.length - 1 - x.k.toNat) cv)else if x.op=21 then o (S.kept.getD p.toNat cv)else ad
def ea(ms:dj):Nat->Int->bx->av->List av->Nat->bK->bK×av×Int
 |0,_,_,_,_,_,S=>S.no 12
 |N+1,p,x,arg,names,aI,S=>
   if S.left=0 then S.no 12
   else match kl p x arg names S.tick with
   |some v=>S.tick.ok v
   |none=>
     if x.op=5 then(match ea ms N p (x.l.getD 0 lX) arg names aI S.tick with
      |(ca,v,c)=>if c≠0 then ca.no c else ea ms N p (x.l.getD 1 lX) arg (names++[v]) aI ca)
     else if x.op=7 then(match ea ms N p (x.l.getD 0 lX) arg names aI S.tick with
      |(ca,v,c)=>if c≠0 then ca.no c else if v.kind≠1 then ca.no 2 else if v.n≠0 then ea ms N p (x.l.getD 1 lX) arg names aI ca else ea ms N p (x.l.getD 2 lX) arg names aI ca)
     else match jB (λy S=>ea ms N p y arg names aI S) x.l S.tick []with
      |(ca,l,c)=>if c≠0 then ca.no c else if x.op=18 then(if aI=20 then ca.no 4 else ea ms N p (gY ms p x.k) (l.getD 0 cv) [] (aI+1) ca) else if x.op=19 then(match hO ms (l.getD 0 cv) (l.getD 1 cv) aI ca with
         |(lY,q,c)=>if c≠0 then lY.no c else match ea ms N q.bI (gY ms q.bI q.func) q.arg [] (aI+1) lY with
           |(n8,v,c)=>if c≠0 then n8.no c else m5 q.eW v n8)
        else gZ p x.op x.k x.n l ca
structure iO where
 (bI f:Int)
 bO:Nat
 arg:av
 (stack names:List av)
 asked:Bool
 eW:List Int
structure ct where
 S:bK
 top:iO
 below:List iO
inductive qJ where
 |go (m:ct)
 |over (S:bK) (v:av)
 |fail (S:bK) (c:Int)
def xo:df:=⟨0,0,0⟩
def lz(ms:dj)(p f:Int):List df:=cI (gY ms p f) 0++[⟨105,0,0⟩]
def ct.push(m:ct)(S:bK)(st:List av)(v:av):qJ:=.go {m with S:=S,top:={m.top with stack:=st++[v]}}
def ct.done(m:ct)(st:List av)(q:bK×av×Int):qJ:=if q.2.2≠0 then .fail q.1 q.2.2 else m.push q.1 st q.2.1
def ct.call(m:ct)(S:bK)(st:List av)(p f:Int)(arg:av)(asked:Bool)(eW:List Int):qJ:=
 if m.below.length+1=20 then .fail S 4 else .go ⟨S,⟨p,f,0,arg,[],[],asked,eW⟩,m.below++[{m.top with stack:=st}]⟩
def sf(st:List av)(k:Nat):List av:=st.drop (st.length - k)
def uN(st:List av)(k:Nat):List av:=st.take (st.length - k)
def n9(ms:dj)(m:ct)(x:df):qJ:=
 let t:=m.top
 match kl t.bI (.mk x.op x.k x.n []) t.arg t.names m.S with
 |some v=>m.push m.S t.stack v
 |none=>
   if x.op=18 then m.call m.S (uN t.stack 1) t.bI x.k ((sf t.stack 1).getD 0 cv) T []
   else if x.op=19 then(match hO ms ((sf t.stack 2).getD 0 cv) ((sf t.stack 2).getD 1 cv) (m.below.length+1) m.S with
    |(ca,q,c)=>if c≠0 then .fail ca c else m.call ca (uN t.stack 2) q.bI q.func q.arg O q.eW)
   else m.done (uN t.stack (fM x.op).toNat) (gZ t.bI x.op x.k x.n (sf t.stack (fM x.op).toNat) m.S)
def ct.back(m:ct):qJ:=
 let v:=(sf m.top.stack 1).getD 0 cv;let q:=if m.top.asked then m5 m.top.eW v m.S else m.S.ok v
 if q.2.2≠0 then .fail q.1 q.2.2
 else match m.below.getLast? with
  |none=>.over q.1 q.2.1
  |some t=>.go ⟨q.1,{t with stack:=t.stack++[q.2.1]},m.below.dropLast⟩
def n'(ms:dj)(mH:ct):qJ:=
 let x:=(lz ms mH.top.bI mH.top.f).getD mH.top.bO xo;let m:ct:={mH with top:={mH.top with bO:=mH.top.bO+1}};let t:=m.top
 if x.op=100 then(if m.S.left=0 then .fail m.S 12 else .go {m with S:=m.S.tick})
 else if x.op=101 then .go {m with top:={t with stack:=uN t.stack 1,names:=t.names++[(sf t.stack 1).getD 0 cv]}}
 else if x.op=102 then .go {m with top:={t with names:=t.names.dropLast}}
 else if x.op=103 then(let v:=(sf t.stack 1).getD 0 cv
  if v.kind≠1 then .fail m.S 2 else .go {m with top:={t with stack:=uN t.stack 1,bO:=if v.n=0 then x.k.toNat else t.bO}})
 else if x.op=104 then .go {m with top:={t with bO:=x.k.toNat}}
 else if x.op=105 then m.back
 else n9 ms m x
theorem It{α:Type}{c:Prop}[Decidable c]{a b:bK×α}{n:Nat}(J:a.1.left=n)(R:b.1.left=n):(if c then a else b).1.left=n:=by split<;>assumption
theorem akY(S:bK)(q:a0×Int×Int):(Ad S q).1.left=S.left:=by unfold Ad;exact It rfl rfl
theorem akZ(p op k n:Int)(l:List av)(S:bK):(gZ p op k n l S).1.left=S.left:=by
 unfold gZ
 repeat' (first|rfl|exact akY _ _|refine It ?_ ?_)
theorem NV(ms:dj)(v x:av)(aI:Nat)(S:bK):(hO ms v x aI S).1.left=S.left:=by
 unfold hO
 repeat' (first|rfl|refine It ?_ ?_)
theorem ak0(eW:List Int)(v:av)(S:bK):(m5 eW v S).1.left=S.left:=by unfold m5;split;exact It rfl rfl
theorem NW{f:bx->bK->bK×av×Int}(bl:∀x S,(f x S).1.left<=S.left):∀(l:List bx) (S:bK) (acc:List av),(jB f l S acc).1.left<=S.left
 |[],S,acc=>b4 _
 |x::l,S,acc=>by
   have J:=bl x S;rw[jB];rcases aW:f x S with⟨ca,v,c⟩;rw[aW]at J;simp only at J ⊢;split
   ·exact J
   ·exact e7 (NW bl l ca _) J
theorem Cj(ms:dj):∀(N:Nat) (p:Int) (x:bx) (arg:av) (names:List av) (aI:Nat) (S:bK),(ea ms N p x arg names aI S).1.left<=S.left
 |0,p,x,arg,names,aI,S=>b4 _
 |N+1,p,x,arg,names,aI,S=>by
   have aZ:=Cj ms N;have a3:S.tick.left<=S.left:=Nat.sub_le _ _;rw[ea];split
   ·exact b4 _
   ·split
    ·exact a3
    ·split
     ·have J:=aZ p (x.l.getD 0 lX) arg names aI S.tick;rcases aW:ea ms N p (x.l.getD 0 lX) arg names aI S.tick with⟨ca,v,c⟩;rw[aW]at J;simp only at J ⊢;split
      ·exact e7 J a3
      ·exact e7 (aZ _ _ _ _ _ _) (e7 J a3)
     ·split
      ·have J:=aZ p (x.l.getD 0 lX) arg names aI S.tick;rcases aW:ea ms N p (x.l.getD 0 lX) arg names aI S.tick with⟨ca,v,c⟩;rw[aW]at J;simp only at J ⊢;split
       ·exact e7 J a3
       ·split
        ·exact e7 J a3
        ·split
         ·exact e7 (aZ _ _ _ _ _ _) (e7 J a3)
         ·exact e7 (aZ _ _ _ _ _ _) (e7 J a3)
      ·have J:=NW (f:=λy S=>ea ms N p y arg names aI S) (λy S=>aZ p y arg names aI S) x.l S.tick [];rcases aW:jB (λy S=>ea ms N p y arg names aI S) x.l S.tick []with⟨ca,l,c⟩;rw[aW]at J;simp only at J ⊢;split
       ·exact e7 J a3
       ·split
        ·split
         ·exact e7 J a3
         ·exact e7 (aZ _ _ _ _ _ _) (e7 J a3)
        ·split
         ·have R:=NV ms (l.getD 0 cv) (l.getD 1 cv) aI ca;rcases tf:hO ms (l.getD 0 cv) (l.getD 1 cv) aI ca with⟨lY,q,bu⟩;rw[tf]at R;simp only at R ⊢;split
          ·exact e7 (qA R) (e7 J a3)
          ·have ah:=aZ q.bI (gY ms q.bI q.func) q.arg [] (aI+1) lY;rcases yI:ea ms N q.bI (gY ms q.bI q.func) q.arg [] (aI+1) lY with⟨n8,v,cd⟩;rw[yI]at ah;simp only at ah ⊢;split
           ·exact e7 ah (e7 (qA R) (e7 J a3))
           ·rw[ak0];exact e7 ah (e7 (qA R) (e7 J a3))
         ·rw[akZ];exact e7 J a3
def bK.a'(S:bK):Nat:=S.log.length+S.left
structure bK.Good(S:bK):Prop where
 wf:S.G.dE
 cells:S.cells.length=12
 kept:S.kept.length=4
 qK:∀v∈S.kept,v.code=0
theorem vW:cv.code=0:=by decide
theorem Ew(n:Int):(lx n).code=0:=rfl
theorem uO{l:List av}(h:∀v∈l,v.code=0)(i:Nat):(l.getD i cv).code=0:=by
 by_cases af:i<l.length
 ·simp only[dz,fr af,rf];exact h _ (iX af)
 ·simp only[dz,o3 (Nat.le_of_not_lt af),Option.getD_none];exact vW
theorem Vh:∀{l:List av},nz l=0->∀x∈l,x.fault=0
 |[],_,x,aw=>by simp at aw
 |y::l,h,x,aw=>by
   rw[Er]at h;split at h
   ·rename_i J;exact absurd h J
   ·rename_i J;rcases n0.1 aw with rfl|aw
    ·omega
    ·exact Vh h x aw
theorem xp{v:av}(h:v.code=0):v.size<=40/\jb v.kind v.n v.l.length=0/\∀x∈v.l,x.code=0:=by
 unfold av.code at h;split at h
 ·cases h
 ·rename_i aC;rw[v.Cg]at h;split at h
  ·rename_i J;exact absurd h J
  ·rename_i J;refine⟨by omega,by omega,λx aw=>?_⟩;unfold av.code;have:=av.ph aw;rw[if_neg (by omega)];exact Vh h x aw
theorem Do{kind n:Int}{l:List av}(aC:(av.mk kind n l).size<=40)(bC:jb kind n l.length=0)(am:∀x∈l,x.code=0):(av.mk kind n l).code=0:=by
 have key:∀l:List av,(∀x∈l,x.code=0)->nz l=0:=by
  intro l am;induction l with
  |nil=>rfl
  |cons x l aZ=>
    have J:=am x (by simp);unfold av.code at J;split at J
    ·cases J
    ·rw[Er,if_neg (by omega)];exact aZ λy bE=>am y (by simp[bE])
 unfold av.code;rw[if_neg (by omega)];show(if jb kind n l.length≠0 then jb kind n l.length else nz l)=0;rw[if_neg (by omega)];exact key l am
theorem Ex{v:av}(h:v.code=0):(v.kind=2->∃a b,v.l=[a,b])/\(v.kind=3->∃a,v.l=[a]):=by
 obtain⟨_,J,_⟩:=xp h;unfold jb at J;split at J
 ·cases J
 ·split at J
  ·cases J
  ·rename_i R;constructor
   ·intro ah;simp only[lg,ah,if_true,Decidable.not_not]at R
    match am:v.l,R with
    |[a,b],_=>exact⟨a,b,rfl⟩
   ·intro ah;simp only[lg,ah,if_true,Decidable.not_not]at R;rw[if_neg (by decide)]at R
    match am:v.l,R with
    |[a],_=>exact⟨a,rfl⟩
theorem Iu{n:Int}(h:0<=n):(ly n).code=0:=Do (by simp[av.size,jj]) (by simp[jb,lg];omega) (by simp)
theorem ak1{n:Int}(h:0<=n):(av.mk 5 n []).code=0:=Do (by simp[av.size,jj]) (by simp[jb,lg];omega) (by simp)
mutual
theorem Vi(aT:List Int):∀(x:av) (G:a0),(fO aT x G).2.2=0->(fO aT x G).2.1.size=x.size
 |.mk kind n l,G,h=>by
   simp only[fO]at h ⊢;split at h
   ·rename_i J;exact absurd h J
   ·rename_i J;split at h
    ·rename_i R;exact absurd h R
    ·rename_i R;rw[if_neg J,if_neg R];simp only[av.size];rw[(NX aT l _ (by omega)).1]
theorem NX(aT:List Int):∀(l:List av) (G:a0),(gv aT l G).2.2=0->jj (gv aT l G).2.1=jj l/\(gv aT l G).2.1.length=l.length
 |[],G,h=>⟨rfl,rfl⟩
 |x::l,G,h=>by
   simp only[gv]at h ⊢;split at h
   ·rename_i J;exact absurd h J
   ·rename_i J;rw[if_neg J];have R:=NX aT l _ h;simp only[jj,hk];rw[Vi aT x G (by omega),R.1,R.2];exact⟨rfl,rfl⟩
end
theorem NY{G:a0}{n r k:Int}:0<=(G.derive n r k).2.1:=by
 unfold a0.derive a0.add;split
 ·split
  ·exact Int.le_refl _
  ·split
   ·exact Int.le_refl _
   ·split
    ·exact Int.le_refl _
    ·exact Int.natCast_nonneg _
 ·exact Int.le_refl _
theorem ak2(aT:List Int):∀(G:a0) (n:Int),0<=n->0<=(k2 aT G n).2.1:=by
 induction aT with
 |nil=>intro G n h;exact h
 |cons k l aZ=>
   intro G n h;simp only[k2];split
   ·exact Int.le_refl _
   ·exact aZ _ _ NY
mutual
theorem Vj(aT:List Int):∀(x:av) (G:a0),x.fault=0->(fO aT x G).2.2=0->(fO aT x G).2.1.fault=0
 |.mk kind n l,G,bl,h=>by
   change (if jb kind n l.length≠0 then jb kind n l.length else nz l)=0 at bl;split at bl
   ·rename_i J;exact absurd bl J
   rename_i bC;simp only[fO]at h ⊢;split at h
   ·rename_i J;exact absurd h J
   ·rename_i J;split at h
    ·rename_i R;exact absurd h R
    ·rename_i R;rw[if_neg J,if_neg R];have am:=(NX aT l (jA aT G kind n).1 (by omega)).2;show(if jb kind _ (gv aT l (jA aT G kind n).1).2.1.length≠0 then jb kind _ (gv aT l (jA aT G kind n).1).2.1.length else nz (gv aT l (jA aT G kind n).1).2.1)=0;rw[am,if_neg]
     ·exact Vk aT l _ bl (by omega)
     ·unfold jA;by_cases aD:kind=4
      ·rw[if_pos aD];have:0<=n:=by
        unfold jb at bC;split at bC
        ·simp at bC
        ·split at bC
         ·simp at bC
         ·split at bC
          ·simp at bC
          ·split at bC
           ·simp at bC
           ·omega
       have bo:=ak2 aT G n this;unfold jb at bC ⊢;subst aD;rw[if_neg (by omega)]at bC ⊢;split at bC
       ·simp at bC
       ·rename_i b9;rw[if_neg b9,if_neg (by omega),if_neg (by omega)];decide
      ·rw[if_neg aD];exact bC
theorem Vk(aT:List Int):∀(l:List av) (G:a0),nz l=0->(gv aT l G).2.2=0->nz (gv aT l G).2.1=0
 |[],G,bl,h=>rfl
 |x::l,G,bl,h=>by
   rw[Er]at bl;split at bl
   ·rename_i J;exact absurd bl J
   rename_i aw;simp only[gv]at h ⊢;split at h
   ·rename_i J;exact absurd h J
   ·rename_i J;rw[if_neg J,Er,if_neg (by rw[Vj aT x G (by omega) (by omega)];decide)];exact Vk aT l _ bl h
end
theorem NZ{G:a0}{x:av}(h:(fC aT G x).2.2=0):(fC aT G x).2.1.code=0:=by
 unfold fC at h ⊢;split at h
 ·rename_i J;exact absurd h J
 ·rename_i J;rw[if_neg J];have aw:x.code=0:=by
   unfold pj at J;split at J
   ·rename_i R;exact absurd J (by simpa using R)
   ·omega
  have aC:=(xp aw).1;unfold av.code at aw ⊢;rw[if_neg (by omega)]at aw;rw[if_neg (by rw[Vi aT x G h];omega)];exact Vj aT x G aw h
structure jt(n:Nat)(S:bK)(q:bK×av×Int):Prop where
 cG:q.1.Good
 a':q.1.a'<=S.a'+n
 left:q.1.left<=S.left
 val:q.2.2=0->q.2.1.code=0
theorem bK.Good.with{S:bK}(h:S.Good){G:a0}(ee:G.dE):({S with G:=G}:bK).Good:=⟨ee,h.cells,h.kept,h.qK⟩
theorem jt.no{S ca:bK}{n:Nat}{c:Int}(h:ca.Good)(J:ca.a'<=S.a'+n)(R:ca.left<=S.left):jt n S (ca.no c):=⟨h,J,R,λ_=>vW⟩
theorem jt.ok{S ca:bK}{n:Nat}{v:av}(h:ca.Good)(J:ca.a'<=S.a'+n)(R:ca.left<=S.left)(U:v.code=0):jt n S (ca.ok v):=⟨h,J,R,λ_=>U⟩
theorem jt.ite{S:bK}{n:Nat}{p:Prop}[Decidable p]{a b:bK×av×Int}(J:p->jt n S a)(R:¬p->jt n S b):jt n S (if p then a else b):=by
 split
 ·exact J ‹_›
 ·exact R ‹_›
theorem ak3{p op k n:Int}{l:List av}{S:bK}(cO:S.Good)(am:∀v∈l,v.code=0):jt 1 S (gZ p op k n l S):=by
 have aX:=uO am 0;have ab:=uO am 1;have mH:S.a'<=S.a'+1:=Nat.le_succ _;have no:∀{c:Int},jt 1 S (S.no c):=.no cO mH (b4 _);have ok:∀{v:av},v.code=0->jt 1 S (S.ok v):=λU=>.ok cO mH (b4 _) U;unfold gZ;refine .ite (λ_=>.ite (λ_=>no) λ_=>ok (Ew _)) λb9=>?_;refine .ite (λ_=>.ite (λ_=>no) λh=>ok (by simpa using h)) λhh=>?_;refine .ite (λ_=>.ite (λ_=>no) λh=>ok (uO (xp aX).2.2 0)) λru=>?_;refine .ite (λ_=>.ite (λ_=>no) λh=>ok (uO (xp aX).2.2 1)) λaxe=>?_;refine .ite (λ_=>.ite (λ_=>no) λh=>ok (by simpa using h)) λaxf=>?_;refine .ite (λ_=>.ite (λ_=>no) λ_=>.ite (λ_=>no) λ_=>ok (uO (xp aX).2.2 0)) λVl=>?_;refine .ite (λ_=>.ite (λ_=>no) λ_=>.ite (λ_=>no) λ_=>.ite (λ_=>no) λ_=>?_) λaxg=>?_
 ·exact .ok ⟨cO.wf,cO.cells,cO.kept,cO.qK⟩ (by simp[bK.a'];omega) (b4 _) (Ew _)
 refine .ite (λ_=>.ite (λ_=>no) λ_=>.ite (λ_=>no) λ_=>.ite (λ_=>no) λ_=>?_) λaxh=>?_
 ·exact .ok ⟨cO.wf,by simpa using cO.cells,cO.kept,cO.qK⟩ (by simp[bK.a'];omega) (b4 _) ab
 refine .ite (λ_=>.ite (λ_=>no) λ_=>?_) λtn=>?_
 ·unfold Ad;exact .ite (λ_=>.no (cO.with (cO.wf.derive _ _ _)) mH (b4 _)) λ_=>.ok (cO.with (cO.wf.derive _ _ _)) mH (b4 _) (Iu NY)
 refine .ite (λ_=>.ite (λ_=>no) λ_=>.ite (λ_=>.no (cO.with cO.wf.gate) mH (b4 _)) λa8=>?_) λaxi=>?_
 ·have hw:=cO.wf.gate.derive (l.getD 0 cv).n 15 S.G.gate.2.1;have aE:=NY (G:=S.G.gate.1) (n:=(l.getD 0 cv).n) (r:=15) (k:=S.G.gate.2.1);generalize S.G.gate.1.derive (l.getD 0 cv).n 15 S.G.gate.2.1=q at hw aE ⊢;obtain⟨cN,m,c⟩:=q;refine .ite (λ_=>.no (cO.with hw) mH (b4 _)) λ_=>.ok (cO.with hw) mH (b4 _) ?_;refine Do (by simp[av.size,jj,ly]) (by simp[jb,lg]) ?_;intro x aw;rcases n0.1 aw with rfl|aw
  ·exact Iu aE
  ·simp only[List.mem_singleton]at aw;subst aw;refine ak1 ?_;unfold a0.gate;split
   ·exact Int.le_refl _
   ·exact Int.natCast_nonneg _
 refine .ite (λ_=>.ite (λ_=>no) λ_=>?_) λaxj=>?_
 ·exact .ok (cO.with (cO.wf.cut _)) mH (b4 _) vW
 refine .ite (λ_=>?_) λm6=>no;refine .ok ⟨cO.wf,cO.cells,by simpa using cO.kept,λv U=>?_⟩ mH (b4 _) (uO cO.qK _);rcases List.mem_or_eq_of_mem_set U with h|rfl
 ·exact cO.qK v h
 ·exact aX
theorem Vm(G:a0):∀(f:Nat) (i:Int),(G.lU f i).length<=f
 |0,_=>by simp[a0.lU]
 |f+1,i=>by
   unfold a0.lU;split
   ·have:=Vm G f (G.nodes.getD i.toNat gN).parent;simp only[hk];omega
   ·simp
theorem N0{G:a0}(h:G.dE){i:Int}:(G.oJ i).length<=80:=by
 unfold a0.oJ lV;rw[fa];refine e7 (List.length_filter_le _ _) ?_;cases bC:G.has i with
 |false=>rw[a0.Ac bC];simp
 |true=>have:=Vm G (i.toNat+1) i;simp only[a0.has,decide_eq_true_eq]at bC;have:=h.p2;unfold a0.path;omega
theorem Vn{ms:dj}{v x:av}{aI:Nat}{S:bK}(cO:S.Good):(hO ms v x aI S).1.Good/\(hO ms v x aI S).1.a'<=S.a'/\((hO ms v x aI S).2.2=0->(hO ms v x aI S).2.1.arg.code=0/\(hO ms v x aI S).2.1.eW.length<=80/\(ms.getD (hO ms v x aI S).2.1.bI.toNat ad).isSome/\0<=(hO ms v x aI S).2.1.bI/\0<=(hO ms v x aI S).2.1.func/\(hO ms v x aI S).2.1.func.toNat<(gS ms (hO ms v x aI S).2.1.bI).length):=by
 unfold hO;simp only;split
 ·exact⟨cO,b4 _,λh=>by simp at h⟩
 split
 ·exact⟨cO,b4 _,λh=>by simp at h⟩
 split
 ·exact⟨cO,b4 _,λh=>by simp at h⟩
 rename_i aH;split
 ·exact⟨cO,b4 _,λh=>by simp at h⟩
 rename_i aE;simp only[not_or]at aE;split
 ·exact⟨cO,b4 _,λh=>by simp at h⟩
 refine⟨cO.with (NU cO.wf),b4 _,λh=>⟨NZ h,?_,by simpa[Option.isNone_iff_eq_none,Option.isSome_iff_ne_none]using aE.1,by simp only;omega,by simp only;omega,?_⟩⟩
 ·exact N0 cO.wf
 ·have:=aE.2.1;have:=aE.2.2;simp only;omega
theorem ak4{eW:List Int}{v:av}{S:bK}(cO:S.Good):jt 0 S (m5 eW v S):=by unfold m5;have hw:=NU (aT:=eW) (x:=v) cO.wf;have an:=NZ (aT:=eW) (G:=S.G) (x:=v);generalize fC eW S.G v=q at hw an ⊢;obtain⟨cN,y,c⟩:=q;refine .ite (λ_=>.no (cO.with hw) (b4 _) (b4 _)) λh=>.ok (cO.with hw) (b4 _) (b4 _) (an (by simpa using h))
def Iv(S:bK)(q:bK×av×Int):Prop:=jt 0 S q/\(q.2.2=0->q.1.left<S.left)
theorem jt.trans{n k:Nat}{S N1:bK}{q:bK×av×Int}(J:N1.a'<=S.a'+n)(R:N1.left<=S.left)(h:jt k N1 q):jt (n+k) S q:=⟨h.cG,by have:=h.a';omega,e7 h.left R,h.val⟩
theorem jt.qF{n k:Nat}{S:bK}{q:bK×av×Int}(h:jt k S q)(Z:k<=n):jt n S q:=⟨h.cG,by have:=h.a';omega,h.left,h.val⟩
theorem Iw{f:bx->bK->bK×av×Int}(bl:∀x S,S.Good->Iv S (f x S)):∀(l:List bx) (S:bK) (acc:List av),S.Good->(∀v∈acc,v.code=0)->(jB f l S acc).1.Good/\(jB f l S acc).1.a'<=S.a'/\(jB f l S acc).1.left<=S.left/\((jB f l S acc).2.2=0->(∀v∈(jB f l S acc).2.1,v.code=0)/\(jB f l S acc).1.left+(jB f l S acc).2.1.length<=S.left+acc.length)
 |[],S,acc,cO,aX=>⟨cO,b4 _,b4 _,λ_=>⟨aX,b4 _⟩⟩
 |x::l,S,acc,cO,aX=>by
   obtain⟨J,R⟩:=bl x S cO;rw[jB];rcases aW:f x S with⟨ca,v,c⟩;rw[aW]at J R;simp only at R ⊢;split
   ·rename_i an;exact⟨J.cG,J.a',J.left,λe=>absurd e an⟩
   ·rename_i an;have an:c=0:=by omega
    have ah:=R an;have U:=J.val an;obtain⟨da,ch,eF,kk⟩:=Iw bl l ca (acc++[v]) J.cG (λw hw=>by
     rcases List.mem_append.1 hw with h|h
     ·exact aX w h
     ·simp only[List.mem_singleton]at h;rw[h];exact U)
    have hm:ca.a'<=S.a':=J.a';have hle:ca.left<=S.left:=J.left;refine⟨da,e7 ch hm,e7 eF hle,λe=>⟨(kk e).1,?_⟩⟩;have:=(kk e).2;simp only[ff,gM]at this;omega
theorem Ey{S:bK}(h:S.left≠0):S.tick.a'+1=S.a'/\S.tick.left+1=S.left:=by simp only[bK.a',bK.tick];omega
theorem bK.Good.tick{S:bK}(h:S.Good):S.tick.Good:=⟨h.wf,h.cells,h.kept,h.qK⟩
theorem ak5{p:Int}{x:bx}{arg:av}{names:List av}{S:bK}{v:av}(cO:S.Good)(aX:arg.code=0)(aE:∀v∈names,v.code=0)(h:kl p x arg names S=o v):v.code=0:=by
 unfold kl at h;split at h
 ·injection h with h;rw[<-h];exact vW
 split at h
 ·injection h with h;rw[<-h];exact Ew _
 split at h
 ·injection h with h;rw[<-h];exact aX
 split at h
 ·injection h with h;rw[<-h];exact uO aE _
 split at h
 ·injection h with h;rw[<-h];exact uO cO.qK _
 cases h
theorem oa(ms:dj):∀(N:Nat) (p:Int) (x:bx) (arg:av) (names:List av) (aI:Nat) (S:bK),S.Good->arg.code=0->(∀v∈names,v.code=0)->Iv S (ea ms N p x arg names aI S)
 |0,p,x,arg,names,aI,S,cO,_,_=>⟨.no cO (b4 _) (b4 _),λh=>by simp[ea,bK.no]at h⟩
 |N+1,p,x,arg,names,aI,S,cO,aX,aE=>by
   have aZ:=oa ms N;rw[ea];split
   ·exact⟨.no cO (b4 _) (b4 _),λh=>by simp[bK.no]at h⟩
   rename_i aj;obtain⟨uo,lA⟩:=Ey aj;suffices h:∀q,jt 1 S.tick q->Iv S q by
    refine h _ ?_;split
    ·rename_i v U;exact .ok cO.tick (Nat.le_succ _) (b4 _) (ak5 cO.tick aX aE U)
    ·split
     ·have J:=(aZ p (x.l.getD 0 lX) arg names aI S.tick cO.tick aX aE).1;rcases aW:ea ms N p (x.l.getD 0 lX) arg names aI S.tick with⟨ca,v,c⟩;rw[aW]at J;refine .ite (λ_=>(jt.no (c:=c) J.cG J.a' J.left).qF (mz _)) λan=>?_;have R:=(aZ p (x.l.getD 1 lX) arg (names++[v]) aI ca J.cG aX (λw hw=>by
       rcases List.mem_append.1 hw with h|h
       ·exact aE w h
       ·simp only[List.mem_singleton]at h;rw[h];exact J.val (by simpa using an))).1
      exact(jt.trans J.a' J.left R).qF (mz _)
     ·split
      ·have J:=(aZ p (x.l.getD 0 lX) arg names aI S.tick cO.tick aX aE).1;rcases aW:ea ms N p (x.l.getD 0 lX) arg names aI S.tick with⟨ca,v,c⟩;rw[aW]at J;refine .ite (λ_=>(jt.no (c:=c) J.cG J.a' J.left).qF (mz _)) λan=>?_;refine .ite (λ_=>(jt.no (c:=2) J.cG J.a' J.left).qF (mz _)) λ_=>?_;refine .ite (λ_=>?_) λ_=>?_
       ·exact(jt.trans J.a' J.left (aZ p (x.l.getD 1 lX) arg names aI ca J.cG aX aE).1).qF (mz _)
       ·exact(jt.trans J.a' J.left (aZ p (x.l.getD 2 lX) arg names aI ca J.cG aX aE).1).qF (mz _)
      ·have J:=Iw (f:=λy S=>ea ms N p y arg names aI S) (λy S h=>aZ p y arg names aI S h aX aE) x.l S.tick [] cO.tick (by simp);rcases aW:jB (λy S=>ea ms N p y arg names aI S) x.l S.tick []with⟨ca,l,c⟩;rw[aW]at J;obtain⟨da,ch,eF,kk⟩:=J;simp only at da ch eF kk;refine .ite (λ_=>(jt.no (n:=0) (c:=c) da ch eF).qF (mz _)) λan=>?_;have td:=(kk (by simpa using an)).1;refine .ite (λ_=>.ite (λ_=>(jt.no (n:=0) (c:=4) da ch eF).qF (mz _)) λ_=>?_) λ_=>.ite (λ_=>?_) λ_=>?_
       ·exact(jt.trans (n:=0) ch eF (aZ p (gY ms p x.k) (l.getD 0 cv) [] (aI+1) ca da (uO td 0) (by simp)).1).qF (mz _)
       ·obtain⟨aR,a5,bp⟩:=Vn (ms:=ms) (v:=l.getD 0 cv) (x:=l.getD 1 cv) (aI:=aI) da;have cA:=NV ms (l.getD 0 cv) (l.getD 1 cv) aI ca;rcases tf:hO ms (l.getD 0 cv) (l.getD 1 cv) aI ca with⟨lY,q,bu⟩;rw[tf]at aR a5 bp cA;simp only at aR a5 bp cA;have cg:lY.a'<=S.tick.a'+0:=e7 a5 ch;have dw:lY.left<=S.tick.left:=e7 (qA cA) eF;refine .ite (λ_=>(jt.no (n:=0) (c:=bu) aR cg dw).qF (mz _)) λiC=>?_;have ah:=(aZ q.bI (gY ms q.bI q.func) q.arg [] (aI+1) lY aR (bp (by simpa using iC)).1 (by simp)).1;rcases yI:ea ms N q.bI (gY ms q.bI q.func) q.arg [] (aI+1) lY with⟨n8,v,cd⟩;rw[yI]at ah;have aD:=jt.trans cg dw ah;refine .ite (λ_=>(jt.no (c:=cd) aD.cG aD.a' aD.left).qF (mz _)) λ_=>?_;exact(jt.trans aD.a' aD.left (ak4 ah.cG)).qF (mz _)
       ·exact jt.trans (n:=0) ch eF (ak3 da td)
   intro q h;have J:=h.a';have R:=h.left;exact⟨⟨h.cG,by omega,by omega,h.val⟩,λ_=>by omega⟩
structure iO.Good(ms:dj)(t:iO):Prop where
 d':0<=t.bI
 there:(ms.getD t.bI.toNat ad).isSome
 f0:0<=t.f
 f1:t.f.toNat<(gS ms t.bI).length
 arg:t.arg.code=0
 names:∀v∈t.names,v.code=0
 stack:∀v∈t.stack,v.code=0
 eW:t.eW.length<=80
structure ct.Good(ms:dj)(m:ct):Prop where
 S:m.S.Good
 top:m.top.Good ms
 a':m.S.a'<=1000000
 db:m.top.stack.length+m.S.left<=100000
 vX:m.top.names.length+m.S.left<=100000
 p2:m.below.length+1<=20
structure Ck(m:ct)(x:df):Prop where
 kind:(1<=x.op/\x.op<=21/\x.op≠5/\x.op≠7)\/(100<=x.op/\x.op<=105)
 one:x.op=101\/x.op=103\/x.op=105->m.top.stack≠[]
 Vo:x.op=102->m.top.names≠[]
 jump:x.op=103\/x.op=104->0<=x.k
 parts:x.op<100->(fM x.op).toNat<=m.top.stack.length
 var:x.op=4->0<=x.k/\x.k<m.top.names.length
structure xq(ms:dj)(m:ct):Prop where
 cG:m.Good ms
 bO:m.top.bO<(lz ms m.top.bI m.top.f).length
 op:Ck m ((lz ms m.top.bI m.top.f).getD m.top.bO xo)
inductive k3(ms:dj):ct->qJ->Prop
 |go {m a9:ct} {r:qJ}:xq ms m->n' ms m= .go a9->k3 ms a9 r->k3 ms m r
 |over {m:ct} {S:bK} {v:av}:xq ms m->n' ms m= .over S v->k3 ms m (.over S v)
 |fail {m:ct} {S:bK} {c:Int}:xq ms m->n' ms m= .fail S c->k3 ms m (.fail S c)
def vY(ms:dj):Prop:=∀p:Int,∀x∈gS ms p,x.fault (gS ms p).length 0=0
def xr(ms:dj):Prop:=∀p f:Int,(lz ms p f).length<=1000000000
def ci(ms:dj)(p f:Int)(v:av)(fuel:Int)(S:bK):bK×av×Int×Int:=
 if fuel<0\/2000<fuel\/p<0\/4<=p then(S,cv,0,1)
 else if(ms.getD p.toNat ad).isNone\/f<0\/((gS ms p).length:Int)<=f then(S,cv,0,8)
 else if v.code≠0 then(S,cv,0,v.code)
 else match ea ms fuel.toNat p (gY ms p f) v [] 1 {S with left:=fuel.toNat}with
  |(ca,w,c)=>({ca with left:=S.left},if c=0 then w else cv,fuel - (ca.left:Int),c)
def lZ(L:List bx):E:=.b0 ad 174 (L.map λx=>[.b0 ad 184 ((cI x 0++[(⟨105,0,0⟩:df)]).map λi:df=>[.int j i.op,.int j i.k,.int j i.n])])
abbrev hP:a6:=137
abbrev ob:a6:=2
def g0(e:nA):List E:=[.int j e.bI,.int j e.cell,.int j e.right,.int j e.node]
def ju(e:a6)(v:E)(rows:List (List E)):b6:=Vg (vV (rows=[]/\v= .aA)) (uM λid:Nat=>xn (rows≠[]/\v= .b0 (o id) e rows) (Ev id rows.length))
def h3(b:Nat)(cells:List Int)(log:List nA):b6:=uM λv:E=>it (aY b [cells.map (.int j)++[v]]) (ju hP v (log.map g0))
def qL(m:Option (List bx)):E:=match m with
 |some L=>lZ L
 |none=>.aA
def nB:dj->List (List E)->List E
 |m::ms,k::aT=>.bool m.isSome::qL m::k++nB ms aT
 |_,_=>[]
def nC(ck cr:Nat)(ms:dj)(aT:List (List E)):List E:=.ptr ck 0 0::.ptr cr 0 0::nB ms aT
def hQ(b ck cr:Nat)(ms:dj)(kept:List av):b6:=uM λaT:List (List E)=>xn (c8 kept aT) (aY b [nC ck cr ms aT])
def N2(args:List E)(h:ag)(q:(E⊕E)×ag):Prop:=∀(ae ai:Nat->Prop) (aO ck cr:Nat) (ms:dj) (S:bK) (p f fuel:Int) (v:av) (r:List E),args=[.ptr aO 0 0,.int j p,.int j f,.agg r,.int j fuel]->bT v r->v.size<=100000->ms.length=4->vY ms->xr ms->S.Good->S.log.length<=900000->(cf [hQ aO ck cr ms S.kept,bi ck S.G,h3 cr S.cells S.log]).A h ae ai->∃bj F,q=(.inl (.bU [.agg bj,.int j (ci ms p f v fuel S).2.2.1,.int j (ci ms p f v fuel S).2.2.2]),F)/\bT (ci ms p f v fuel S).2.1 bj/\gw h ae ai F (cf [hQ aO ck cr ms (ci ms p f v fuel S).1.kept,bi ck (ci ms p f v fuel S).1.G,h3 cr (ci ms p f v fuel S).1.cells (ci ms p f v fuel S).1.log])
def Ix:List c':=[120,160,63,98,62,159,112,97,58,60,84,158,145,162,150,15,76,51,96,151,14,68,100,67,163,99,66,64,85,154,152,45,139,153,123,103,104,122,121,141,105,124,106,78,108,125,109,81,110,82,43,111,83,41,80,107,79,40,86,47,87,48,143,142,157,166,19,30,46,94,53,11,165,164,144,161,146,128,126,155,156,140,39,89,88,90,115,91,116,42,147,129,130,131,132,133,134,117,93,118,92,50,77,148,149,21,17,55,52,20,16,136,25,44,8,9,10,3,13,34,24,57,56,59,61,26,28,29,69,22,23,138,137,135,119,54,95,18,27,33,4,5,6,35,71,37,73,72,101,74,102,70,36,75,38,31,32,7]
def ak6:List c':=[120,160,98,159,112,158,145,162,150,15,51,96,151,14,100,163,154,152,139,153,123,104,122,121,141,105,78,108,125,109,81,110,82,43,111,83,41,86,47,87,48,143,142,157,166,19,30,46,94,53,11,165,164,144,161,126,155,89,115,91,116,42,147,21,17,55,52,20,16,136,8,9,3,13,34,57,28,29,69,22,23,138,135,4,5,6,71,37,73,72,101,74,102,75,38,31,7]
def ak7:c'->a6->Bool:=λg t=>t==69||t==174||t==120||(t==33&&(g==114||g==50||g==59||g==65))||(g==95&&t==33+1000000)
def Vp(args:List E)(h:ag)(q:(E⊕E)×ag):Prop:=∀(ae ai:Nat->Prop) (b:Nat) (G:a0) (x:av) (r:List E) (dS:E) (aT:List Int),args=[.ptr b 0 0,.agg r,dS]->eX h ae ai b G->G.dE->bT x r->fo 3 dS (gl aT)->aT.length<=1000000->∃bj F,q=(.inl (.bU [.agg bj,.int j (fC aT G x).2.2]),F)/\bT (fC aT G x).2.1 bj/\fN h ae ai b F (fC aT G x).1
open Classical in
noncomputable def Ez(args:List E)(h:ag):Option ((E⊕E)×ag):=
 if H:∃q,AC ap 113 args h q/\Vp args h q then o (Classical.choose H)else ad
def N3(args:List E)(h:ag):Option ag:=match args with
 |[.ptr bw 0 0,.agg r]=>(h.cell bw).bind λes=>match es with
   |[[_,.bn bk 0 k _,_]]=>(h.cell bk).bind λrows=>(rows[k - 1]?).bind λrow=>(row[6]?).bind λs=>(eU O bG s (.bn (h.n+1) 0 1 bG) ((h.push [r]).push [r])).map λq=>q.2.set bk (o (rows.set (k - 1) (row.set 6 q.1)))
   |_=>ad
 |_=>ad
open Classical in
noncomputable def Iy(args:List E)(h:ag):Option ((E⊕E)×ag):=match N3 args h with
 |some F=>if AC ap 114 args h (.inl (.bU []),F)then o (.inl (.bU []),F)else ad
 |none=>ad
def Ae(L:List bx):E:=.bU [if(e1 L).1=0 then lZ L else .aA,.agg [.int j (e1 L).1,.int j (e1 L).2]]
open Classical in
noncomputable def Iz(args:List E)(h:ag):Option ((E⊕E)×ag):=
 if H:∃L:List bx,(∃v es,args=[.agg [v]]/\fo fp v es/\gE L es)/\AC ap 40 args h (.inl (Ae L),h)then o (.inl (Ae (Classical.choose H)),h)else ad
open Classical in
noncomputable def IA(args:List E)(h:ag):Option ((E⊕E)×ag):=
 if H:∃cs:List Int,(∃b bF,args=[.ptr b 0 0]/\h.cell b=o [cs.map (.int j)++[bF]]/\cs.length=12)/\AC ap 21 args h (.inl (.b0 ad 2 (cs.map λx=>[.int j x])),h)then o (.inl (.b0 ad 2 ((Classical.choose H).map λx=>[.int j x])),h)else ad
open Classical in
noncomputable def EA(args:List E)(h:ag):Option ((E⊕E)×ag):=
 if H:∃q,AC ap 12 args h q/\N2 args h q then o (Classical.choose H)else ad
def IB(args:List E)(h:ag):Option (E×ag):=match args with
 |[.ptr ab 0 0,.agg x,.int j n,.int j c]=>
   if c≠0 then o (.agg [.int j c,.int j 0,.int j 0,.int j 0,.aA],(h.push [x]).push [[.int j c,.int j 0,.int j 0,.int j 0,.aA]])
   else match x[1]?,h.cell ab with
   |some (E.int _ p),o [row]=>(row[19+p.toNat]?).bind λs=>(eU O 35 s (.bn (h.n+1+1+1+1) 0 1 35) (((((h.push [x]).push [[.int j 0,.int j 0,.int j 0,.int j 0,.aA]]).push [[.int j 4,.int j n,.aA]]).push [[.bool T]]).push [[.int j 4,.int j n,.aA]])).map λq=>(.agg [.int j 0,.int j 0,.int j 4,.int j n,.aA],(((q.2.set ab (o [row.set (19+p.toNat) q.1])).set (h.n+1) (o [[.int j 0,.int j 0,.int j 4,.int j n,.aA]])).set (h.n+1+1+1) ad).set (h.n+1+1+1+1) ad)
   |_,_=>ad
 |_=>ad
open Classical in
noncomputable def IC(args:List E)(h:ag):Option ((E⊕E)×ag):=match IB args h with
 |some q=>if AC ap 65 args h (.inl q.1,q.2)then o (.inl q.1,q.2)else ad
 |none=>ad
noncomputable def rv:c'->Option (List E->ag->Option ((E⊕E)×ag)):=λg=>if g=113 then o Ez else if g=114 then o Iy else if g=40 then o Iz else if g=21 then o IA else if g=12 then o EA else if g=65 then o IC else ad
noncomputable def W:h8:=z9 ap ak7 rv Ix ak6
theorem ak8:W.ext 12=o EA:=by show rv 12=_;unfold rv;rw[if_neg (by decide),if_neg (by decide),if_neg (by decide),if_neg (by decide),if_pos rfl]
theorem ak9:W.ext 65=o IC:=by show rv 65=_;unfold rv;rw[if_neg (by decide),if_neg (by decide),if_neg (by decide),if_neg (by decide),if_neg (by decide),if_pos rfl]
def N4:List be:=[.ops [.i (.v 4) (.box 9 (.v 1)),Vq]]
def N5:List be:=[.ops [cR,N6],.cond (.v 7) [.ops [cR,yJ,Vr],.ret] []]
def Vs:List be:=[.ops [gT,ID,EB,EC]]
def N7:List ay:=[(.i .l (.alloc [(.bool T)])),N8,(.i .n (.store 1 (.l 0) (.c (.bool T)))),(.i (.v 8) oc)]
def N9:List ay:=[(.i .l (.alloc [(.bool T)])),(.i .n (.store 1 (.l 0) (.c (.bool T)))),N8,(.i (.v 8) oc)]
def N':List be:=[.cond (.v 8) [.ops [bd,od,aM,vZ,Cl,uP,aM,.i (.v 9) (.load O 3 (.v 6)),.i (.v 10) Oa,Cm,Cl,Ob,.bZ [⟨ad,T,1,.l 8,(.l 7)⟩,⟨ad,T,1,.l 4,(.l 3)⟩,⟨ad,O,3,.v 6,(.v 9)⟩],.i (.v 11) (.app O 35 (.l 3) (.l 0)),.i .l (.fG ad (o (4,1)) (.l 1) (.l 7)),.i .n (.store 1 (.l 0) (.v 11))],.ops [.i .l (.fG (o 35) ad (.v 11) (.v 10)),.i .n (.store 3 (.l 0) (.v 9))]] [.ops [bd,od,aM,bd,od,aM,vZ,Cl,uP,aM,sg,IE,Cl,.i .l (.lr O 35 [.int j 0,.int j 0,.aA] 3 1 [(0,(.l 2))]),.bZ [⟨ad,T,1,.l 12,(.l 11)⟩,⟨ad,T,1,.l 9,(.l 8)⟩,⟨ad,T,1,.l 5,(.l 4)⟩],.i .l (.app O 35 (.l 4) (.l 0)),.bZ [⟨ad,T,1,.l 13,(.l 12)⟩],.i .l (.fG ad (o (4,1)) (.l 2) (.l 12)),xt]]]
def Oc:List be:=[.ops [sg,IF,Vr],.ret]
def Od:List be:=[.ops [Af,yK],.ops [bd,cu,gU,aM,Oe,.i (.v 3) Of],.cond (.v 3) [.ops [Af,Vt],.ret] [],Vu,Vv,.ret]
theorem Vw:cq ap W 63 1 4 [0,2,3,9] Od [(.v 1),(.v 2)] T:=by refine⟨_,_,Tryz.func63,rfl,rfl,?_,?_,?_,?_,?_⟩<;>kernel_rfl
def Vx:List be:=[mg,Vy,.ret]
theorem ak':cq ap W 98 2 3 [0,1,4] Vx [(.v 2)] O:=by refine⟨_,_,Tryz.func98,rfl,rfl,?_,?_,?_,?_,?_⟩<;>kernel_rfl
def Og:List be:=[sh,.ops [bd,cW,Vz,IG],.cond (.v 3) [.ops [VA],.ret] [],VB,sh,.ret]
theorem VC:cq ap W 62 2 4 [0,1,4,8] Og [(.v 2)] T:=by refine⟨_,_,Tryz.func62,rfl,rfl,?_,?_,?_,?_,?_⟩<;>kernel_rfl
def VD:List be:=[mg,.ops [bd,cW,Vz,cl,xu,Oh,Oi,Cn,VE,VF,VG,VH,VI,jv],.ret]
theorem ala:cq ap W 159 2 3 [0,1,4] VD [(.v 2)] O:=by refine⟨_,_,Tryz.func159,rfl,rfl,?_,?_,?_,?_,?_⟩<;>kernel_rfl
def VJ:List be:=[mg,.ops [cW,tp,cl,ED,VK,VL,.g (.l 3) O .l EE,VM,.g (.l 5) O .l (.len T (o 132) (.l 0)),VN,VO,jv],.ret]
theorem alb:cq ap W 112 2 3 [0,1,4] VJ [(.v 2)] O:=by refine⟨_,_,Tryz.func112,rfl,rfl,?_,?_,?_,?_,?_⟩<;>kernel_rfl
def Ag:List be:=[VP,.block 0 [.ops [tq,aM,IH,si,jT],.cond (.v 5) [.ops [qM,Oj],.ret] [.ops [nD,aM,VQ,cl,xu,VR,EF,.g (.l 3) O .l (.call (.c (.fn 98 [] [])) [.l 2,.l 0]),II,Co,jC],.cond (.v 6) [.ops [qM,VS],.ret] [.ops [bd,cu,dB,aM,yL,.i .l (.bin (.int j) .eql (.l 0) (.c (.int j 80))),mI],.cond (.v 7) [.ops [qM,VT],.ret] []]]],VU,VV,.ret]
theorem Cp:cq ap W 97 2 8 [0,1,3,4,5,6,11,22] Ag [(.v 3),(.v 4)] T:=by refine⟨_,_,Tryz.func97,rfl,rfl,?_,?_,?_,?_,?_⟩<;>kernel_rfl
def Ok:List be:=[IJ,.ops [cW,Ol,Cq],.cond (.v 6) [.ops [tr,EG],.ret] [],.ops [bd,cR,gT,cW,VW,VX,fx,fy,Ah,jT],.ret]
theorem VY:cq ap W 58 4 7 [0,1,2,3,8,9,12] Ok [(.v 4),(.v 5)] T:=by refine⟨_,_,Tryz.func58,rfl,rfl,?_,?_,?_,?_,?_⟩<;>kernel_rfl
def Om:List be:=[.ops [p6,rx],VZ,.cond (.v 7) [.ops [p6,On],.ret] [],.ops [bd,fb,cR,cW,gT,V0,.i .l (.call (.c (.fn 97 [] [])) [.l 5,.l 0]),fx,fy,Ai,jC],.ret]
theorem V1:cq ap W 60 5 8 [0,1,2,3,4,10,11,25] Om [(.v 5),(.v 6)] T:=by refine⟨_,_,Tryz.func60,rfl,rfl,?_,?_,?_,?_,?_⟩<;>kernel_rfl
def Oo:List be:=[IJ,.ops [bd,cW,.i .l V2,Cq],.cond (.v 6) [.ops [tr,V3],.ret] [],.ops [bd,cW,cR,gT,V4,VX,fx,fy,Ah,jT],.ret]
theorem V5:cq ap W 84 4 7 [0,1,2,3,8,9,13] Oo [(.v 4),(.v 5)] T:=by refine⟨_,_,Tryz.func84,rfl,rfl,?_,?_,?_,?_,?_⟩<;>kernel_rfl
def IK:List be:=[.ops [bd,cW,.i (.v 4) V2],.cond (.v 4) [] [.exit 0],.block 1 [.ops [cR,bd,cu,dB,aM,cW,EH,yM,V6,.i .l (.app T 132 (.l 8) (.l 0)),jk],.ops [bd,cu,dB,aM,cW,EH,dB,aM,oK]]]
def V7:List be:=[Aj,EI,.block 0 [.loop IK],yN,.ret]
theorem alc:cq ap W 158 2 5 [0,1,4,5,8] V7 [(.v 2)] O:=by refine⟨_,_,Tryz.func158,rfl,rfl,?_,?_,?_,?_,?_⟩<;>kernel_rfl
def EJ:List be:=[.ops [Oq],.cond (.v 9) [] [.exit 0],.block 1 [.ops [p7,.i .l (.fG (o 132) ad (.v 6) (.v 8)),yM,V8,.i (.v 4) (.a4 (.l 2)),V9],.ops [Ot,aM,tp,cl,xu,.g (.l 1) O .l (.c0 1 (.v 5)),EF,.g (.l 3) O .l (.call (.c (.fn 159 [] [])) [.l 2,.l 0]),II,.i (.v 10) Ou],.cond (.v 10) [sh,.ret] [],.ops [fb,Ov],.cond (.v 11) [.ops [.i (.v 3) (.a4 (.c (.int j 15)))]] [],.ops [cR,.i .l (.c0 2 (.v 5)),aM,.i .l (.call (.c (.fn 160 [] [])) [.l 2,.l 0]),jk]],Ow]
def V':List be:=[sh,p8,.ops [bd,cW,.i (.v 6) Ox,.i (.v 7) (.len T (o 132) (.v 6)),qN],.block 0 [.loop EJ],yN,.ret]
theorem ald:cq ap W 145 2 12 [0,1,4,5,6,7,10,11,12,13,26,28] V' [(.v 2)] O:=by refine⟨_,_,Tryz.func145,rfl,rfl,?_,?_,?_,?_,?_⟩<;>kernel_rfl
def Wa:List be:=[.ops [Wb,EK],.ops [bd,cW,.i .l Ox,jl],.ops [fb,yL,Wc],.cond (.v 5) [.ops [Oy,IL,EK],.ret] [],.ops [fb,fb,yL,mh,.i .l (.fG (o 132) ad (.l 3) (.l 0)),yM,IL,Wd],.ret]
theorem ale:cq ap W 162 2 6 [0,1,4,5,6,12] Wa [(.cell O 6 2),(.v 3)] O:=by refine⟨_,_,Tryz.func162,rfl,rfl,?_,?_,?_,?_,?_⟩<;>kernel_rfl
def IM:List be:=[.ops [We],.cond (.v 8) [] [.exit 0],.block 1 [.ops [.i .l (.fG (o 132) ad (.v 5) (.v 7)),yM,Oz,IN],.ops [od,aM,.i (.v 9) IP],.cond (.v 9) [.ops [cR,od,aM,EL,Wf,jk]] []],.ops [Wg,mI]]
def Wh:List be:=[Aj,EI,.ops [bd,cW,.i (.v 5) Ox,.i (.v 6) (.len T (o 132) (.v 5)),v0],.block 0 [.loop IM],yN,.ret]
theorem alf:cq ap W 150 2 10 [0,1,4,5,7,10,11,12,13,18] Wh [(.v 2)] O:=by refine⟨_,_,Tryz.func150,rfl,rfl,?_,?_,?_,?_,?_⟩<;>kernel_rfl
def Wi:List be:=[yO,.ops [bd,cu,dB,aM,.i .l (.call (.c (.fn 51 [] [])) [.l 0]),oK],.ret]
theorem alg:cq ap W 15 1 2 [0,2] Wi [(.v 1)] O:=by refine⟨_,_,Tryz.func15,rfl,rfl,?_,?_,?_,?_,?_⟩<;>kernel_rfl
def Wj:List be:=[EM,.ops [Wk,IQ,Cr],.ret]
theorem alh:cq ap W 76 0 1 [0] Wj [(.v 0)] T:=by refine⟨_,_,Tryz.func76,rfl,rfl,?_,?_,?_,?_,?_⟩<;>kernel_rfl
def OA:List be:=[yO,OB,.cond (.v 2) [yO,.ret] [],.ops [.i .l (.lr T 132 [.int j 0,.int j 0,.int j 0,.int j 0,.int j 0,.int j 0] 6 0 []),bd,.i .l (.app T 132 (.l 1) (.l 0)),oK],.ret]
theorem Wl:cq ap W 51 1 3 [0,2,4] OA [(.v 1)] O:=by refine⟨_,_,Tryz.func51,rfl,rfl,?_,?_,?_,?_,?_⟩<;>kernel_rfl
def Wm:List be:=[yP,.ops [bd,tp,cl,xu,.g (.l 1) O .l (.bin (.int j) .lss (.l 0) (.c (.int j 12))),IS,oK],.ret]
theorem ali:cq ap W 96 1 2 [0,2] Wm [(.v 1)] O:=by refine⟨_,_,Tryz.func96,rfl,rfl,?_,?_,?_,?_,?_⟩<;>kernel_rfl
def Wn:List be:=[mg,.ops [bd,cW,OC,.i .l (.bin (.int j) .shr (.l 2) (.l 0)),.i .l (.bin (.int j) .and (.l 0) (.c (.int j 1))),.i .l (.bin (.int j) .eql (.l 0) (.c (.int j 1))),jv],.ret]
theorem alj:cq ap W 151 2 3 [0,1,4] Wn [(.v 2)] O:=by refine⟨_,_,Tryz.func151,rfl,rfl,?_,?_,?_,?_,?_⟩<;>kernel_rfl
def IT:List be:=[.ops [cR,bd,yL,IU],.cond (.v 5) [] [.exit 0],.block 1 [.ops [bd,cR,EH,yM,cW,cR,EH,yM,.i (.v 6) (.yy .agg (o [.int j,.int j,.int j,.int j,.int j,.int j]) T .neq (.l 4) (.l 0))],.cond (.v 6) [mg,.ret] []],yQ]
def Wo:List be:=[mg,.ops [bd,yL,cW,yL,IV],.cond (.v 4) [mg,.ret] [],p8,.block 0 [.loop IT],yR,.ret]
theorem alk:cq ap W 14 2 7 [0,1,4,5,10,14,25] Wo [(.v 2)] O:=by refine⟨_,_,Tryz.func14,rfl,rfl,?_,?_,?_,?_,?_⟩<;>kernel_rfl
def OD:List be:=[.ops [Af,yK],.ops [bd,cu,gU,aM,Oe,.i (.v 3) (.bin (.int j) .geq (.l 0) (.c (.int j 20)))],.cond (.v 3) [.ops [Af,Vt],.ret] [],Vu,Vv,.ret]
theorem Wp:cq ap W 68 1 4 [0,2,3,9] OD [(.v 1),(.v 2)] T:=by refine⟨_,_,Tryz.func68,rfl,rfl,?_,?_,?_,?_,?_⟩<;>kernel_rfl
def Wq:List be:=[mg,Vy,.ret]
theorem alm:cq ap W 100 2 3 [0,1,4] Wq [(.v 2)] O:=by refine⟨_,_,Tryz.func100,rfl,rfl,?_,?_,?_,?_,?_⟩<;>kernel_rfl
def OE:List be:=[sh,.ops [bd,cW,Wr,IG],.cond (.v 3) [.ops [VA],.ret] [],VB,sh,.ret]
theorem Ws:cq ap W 67 2 4 [0,1,4,8] OE [(.v 2)] T:=by refine⟨_,_,Tryz.func67,rfl,rfl,?_,?_,?_,?_,?_⟩<;>kernel_rfl
def Wt:List be:=[mg,.ops [bd,cW,Wr,cl,xu,Oh,Oi,Cn,VE,VF,VG,VH,VI,jv],.ret]
theorem aln:cq ap W 163 2 3 [0,1,4] Wt [(.v 2)] O:=by refine⟨_,_,Tryz.func163,rfl,rfl,?_,?_,?_,?_,?_⟩<;>kernel_rfl
def Ak:List be:=[VP,.ops [tq,aM,oL,cl,.g (.l 0) T .l (.c0 2 (.v 2)),k4,.g (.l 2) T .l (.bin (.int j) .gtr (.l 0) (.c (.int j 15))),.i (.v 5) Wu],.cond (.v 5) [.ops [qM,Oj],.ret] [],.ops [nD,aM,VQ,cl,xu,VR,EF,.g (.l 3) O .l (.call (.c (.fn 100 [] [])) [.l 2,.l 0]),II,.i (.v 6) Ou],.cond (.v 6) [.ops [qM,VS],.ret] [],.ops [bd,cu,dB,aM,yL,.i (.v 7) (.bin (.int j) .geq (.l 0) (.c (.int j 80)))],.cond (.v 7) [.ops [qM,VT],.ret] [],VU,VV,.ret]
theorem Cs:cq ap W 99 2 8 [0,1,3,4,5,13,23,29] Ak [(.v 3),(.v 4)] T:=by refine⟨_,_,Tryz.func99,rfl,rfl,?_,?_,?_,?_,?_⟩<;>kernel_rfl
def OF:List be:=[IJ,.ops [cW,oL,cl,xv,.g (.l 1) T .l (.bin (.int j) .geq (.l 0) (.c (.int j 12))),.i (.v 6) IW],.cond (.v 6) [.ops [tr,EG],.ret] [],.ops [bd,cR,gT,cW,VW,Wv,fx,fy,Ah,jT],.ret]
theorem Ww:cq ap W 66 4 7 [0,1,2,3,8,9,15] OF [(.v 4),(.v 5)] T:=by refine⟨_,_,Tryz.func66,rfl,rfl,?_,?_,?_,?_,?_⟩<;>kernel_rfl
def OG:List be:=[.ops [p6,rx],VZ,.cond (.v 7) [.ops [p6,On],.ret] [],.ops [bd,fb,cR,cW,gT,V0,.i .l (.call (.c (.fn 99 [] [])) [.l 5,.l 0]),fx,fy,Ai,jC],.ret]
theorem Wx:cq ap W 64 5 8 [0,1,2,3,4,10,11,25] OG [(.v 5),(.v 6)] T:=by refine⟨_,_,Tryz.func64,rfl,rfl,?_,?_,?_,?_,?_⟩<;>kernel_rfl
def OH:List be:=[IJ,.ops [cW,oL,cl,xv,IX,Wy,Wz,IY,WA,PP,.i (.v 6) OI],.cond (.v 6) [.ops [tr,V3],.ret] [],.ops [bd,cW,cR,gT,V4,Wv,fx,fy,Ah,jT],.ret]
theorem WB:cq ap W 85 4 7 [0,1,2,3,8,9,20] OH [(.v 4),(.v 5)] T:=by refine⟨_,_,Tryz.func85,rfl,rfl,?_,?_,?_,?_,?_⟩<;>kernel_rfl
def OJ:List be:=[Aj,.ops [cW,oL,cl,xv,IX,Wy,Wz,IY,WA,PP,.i (.v 3) OI],.cond (.v 3) [Aj,.ret] [],.ops [cW,EL,bd,bd,cu,dB,aM,cW,EH,dB,aM,.i .l (.call (.c (.fn 154 [] [])) [.l 8,.l 0]),.i .l (.app T 3 (.l 10) (.l 0)),jv],.ret]
theorem WC:cq ap W 154 2 4 [0,1,4,15] OJ [(.v 2)] O:=by refine⟨_,_,Tryz.func154,rfl,rfl,?_,?_,?_,?_,?_⟩<;>kernel_rfl
def IZ:List be:=[.ops [j7,cR,Ct,WD],.cond (.v 10) [] [.exit 2],.block 3 [.ops [bd,cu,dB,aM,cR,j7,I0,aM,WE,yM,.i (.v 8) EN,.bZ [⟨ad,T,1,.l 7,(.l 6)⟩,⟨ad,T,1,.l 3,(.l 2)⟩,⟨ad,O,6,.l 1,(.l 0)⟩],.i .n (.store 6 (.v 8) (.l 0))],.ops [k5,cl,.g (.l 0) O .l (.c0 2 (.v 8)),oM,.g (.l 2) O .l (.a4 (.v 5)),.g (.l 3) O .l (.call (.c (.fn 151 [] [])) [.l 1,.l 0]),I1,cl,.g (.l 0) O .l (.c0 1 (.v 8)),oM,I2,.g (.l 3) O .l nE,WG,.g (.l 1) T .l (.c0 1 (.v 8)),.g (.l 2) T .l oc,.g (.l 3) T .l (.call (.c (.fn 163 [] [])) [.l 2,.l 0]),.g (.l 8) O .l Al,.i .l (.pick (.l 9) (.l 0) (.c (.bool T))),jC]],.ops [j7,ry,mI]]
def f9:List be:=[.ops [hK,.i .l OK,cl,WH,.g (.l 1) O .l (.len T (o 3) (.l 0)),.g (.l 2) O .l OL,.i (.v 9) Cu],.cond (.v 9) [] [.exit 0],.block 1 [.ops [.i (.v 6) (.a4 (.c (.bool O)))],.ops [v0],.block 2 [.loop IZ],.ops [.i (.v 11) (.a4 (.v 6))],.cond (.v 11) [.ops [fb,hK,OC,.i .l (.bin (.int j) .shl (.c (.int j 1)) (.l 0)),.i .l (.bin (.int j) .add (.l 3) (.l 0)),jl]] []],EO]
def WI:List be:=[sh,.ops [bd,cW,OM,jk],ts,yS,.block 0 [.loop f9],.ops [fb,jv],.ret]
theorem alo:cq ap W 152 2 12 [0,1,4,5,6,7,8,9,10,20,26,57] WI [(.v 2)] O:=by refine⟨_,_,Tryz.func152,rfl,rfl,?_,?_,?_,?_,?_⟩<;>kernel_rfl
open Go.RowKit
theorem alp(y:BitVec 64):((y&&& 1#64).toInt==1)=y.getLsbD 0:=by
 have h:(y&&& 1#64).toNat=y.toNat % 2:=by rw[BitVec.toNat_and];exact Nat.and_one_is_mod _
 have ab:y.getLsbD 0=decide (y.toNat % 2=1):=by rw[BitVec.getLsbD,Nat.testBit_zero]
 rw[ab,Bool.eq_iff_iff,beq_iff_eq,decide_eq_true_eq,BitVec.toInt_eq_toNat_cond,h];split<;>omega
theorem I3(x:BitVec 64){k:Nat}(Z:k<64):fS x.toInt k=x.getLsbD k:=by
 unfold fS;have e:x.toInt / 2 ^ k=(x.sshiftRight k).toInt:=by rw[BitVec.toInt_sshiftRight,Int.shiftRight_eq_div_pow];simp
 rw[e,NR,Ir];show((_&&& 1#64).toInt==1)=_;rw[alp,BitVec.getLsbD_sshiftRight];simp;omega
open Go.RowKit
def a0.qO(G:a0):Nat->Int->List Int
 |0,_=>[]
 |f+1,i=>if G.has i then i::G.qO f (G.nodes.getD i.toNat gN).parent else[]
def a0.jD(G:a0)(i:Int):List Int:=G.qO (i.toNat+1) i
def a0.at_(G:a0)(i:Int):e5:=G.nodes.getD i.toNat gN
theorem a0.alq{G:a0}(h:G.dE):∀(f:Nat) (i:Int),i.toNat<f->G.qO f i=G.jD i:=by
 intro f;induction f using Nat.strongRecOn with
 |_ f aZ=>
   intro i af;cases f with
   |zero=>omega
   |succ f=>
     unfold a0.jD;by_cases bC:G.has i=O
     ·have ok:=h.get bC;have aH:=ok.d';have pb:=ok.dA;have g9:0<=i:=by simp[a0.has]at bC;exact bC.1
      unfold a0.qO;rw[if_pos bC,if_pos bC];congr 1;generalize (G.nodes.getD i.toNat gN).parent=p at*;by_cases Ee:p<0
      ·have mX:G.has p=T:=by simp[a0.has];omega
       cases f with
       |zero=>cases aE:i.toNat<;>simp[a0.qO,mX]
       |succ f=>cases aE:i.toNat<;>simp[a0.qO,mX]
      ·have au:=aZ f (by omega) p (by omega);rw[au];rcases ox i.toNat (f+1)with R|R
       ·have ax:=aZ i.toNat (by omega) p (by omega);rw[ax]
       ·omega
     ·cases f<;>simp[a0.qO,bC]
theorem a0.alr{G:a0}(h:G.dE){i:Int}(af:G.has i=O):G.jD i=i::G.jD (G.nodes.getD i.toNat gN).parent:=by
 have ok:=h.get af;have pb:=ok.dA;have rt:=ok.d';have g9:0<=i:=by simp[a0.has]at af;exact af.1
 rw[a0.jD,a0.qO,if_pos af];congr 1;generalize (G.nodes.getD i.toNat gN).parent=p at*;by_cases Ee:p<0
 ·have mX:G.has p=T:=by simp[a0.has];omega
  unfold a0.jD;cases i.toNat<;>simp[a0.qO,mX]
 ·exact a0.alq h _ _ (by omega)
theorem a0.ON{G:a0}{i:Int}(af:G.has i=T):G.jD i=[]:=by rw[a0.jD,a0.qO,af];rfl
theorem a0.als{G:a0}:∀(f:Nat) (i:Int),(G.qO f i).map G.at_=G.lU f i:=by
 intro f;induction f with
 |zero=>intro i;rfl
 |succ f aZ=>
   intro i;unfold a0.qO a0.lU;split
   ·rw[kT,aZ];rfl
   ·rfl
theorem a0.Am{G:a0}(i:Int):(G.jD i).map G.at_=G.path i:=a0.als _ _
theorem a0.alu{G:a0}(i:Int):(G.jD i).length=(G.path i).length:=by rw[<-a0.Am,fa]
theorem a0.alv{G:a0}:∀(f:Nat) (i:Int),∀k∈G.qO f i,G.has k=O:=by
 intro f;induction f with
 |zero=>intro i k Z;simp[a0.qO]at Z
 |succ f aZ=>
   intro i k Z;unfold a0.qO at Z;split at Z
   ·rcases n0.1 Z with rfl|Z
    ·assumption
    ·exact aZ _ k Z
   ·simp at Z
theorem a0.OO{G:a0}(i:Int):∀k∈G.jD i,G.has k=O:=a0.alv _ _
def An(G:a0)(P:List e5)(k:Nat):Bool:=P.all λn=>fS n.dn k&& !pi G n
def Cv(G:a0)(i:Int)(k:Nat):Int:=if G.path i=[]then 0 else((i7 k).map λD=>if An G (G.path i) D then(2:Int) ^ D else 0).sum
def yT(P:List e5):BitVec 64:=P.foldl (λv n=>v&&& mP 64 n.dn) 15#64
theorem WJ(P:List e5)(fT:∀n∈P,qI n.dn=O)(v:BitVec 64):P.foldl (λr n=>vT r n.dn) v.toInt=(P.foldl (λv n=>v&&& mP 64 n.dn) v).toInt:=by
 induction P generalizing v with
 |nil=>rfl
 |cons n P aZ=>
   rw[List.foldl_cons,List.foldl_cons];have e:vT v.toInt n.dn=(v&&& mP 64 n.dn).toInt:=by unfold vT;rw[NR,Ir]
   rw[e,aZ (λm hm=>fT m (by simp[hm]))]
theorem alw(P:List e5)(v:BitVec 64)(k:Nat):(P.foldl (λv n=>v&&& mP 64 n.dn) v).getLsbD k=(v.getLsbD k&&P.all λn=>(mP 64 n.dn).getLsbD k):=by
 induction P generalizing v with
 |nil=>simp
 |cons n P aZ=>rw[List.foldl_cons,aZ,BitVec.getLsbD_and,pO,Bool.and_assoc]
theorem alx:∀n:Nat,n<16->((n:Nat):Int)=((i7 4).map λD=>if n.testBit D then(2:Int) ^ D else 0).sum:=by decide
theorem WK{a:Int}(h:qI a=O):a=(mP 64 a).toInt:=by
 have F:0<=a/\a<=15:=by simpa[qI]using h
 rw[BitVec.toInt_ofInt,Int.bmod_def];split<;>omega
theorem aly{G:a0}(h:G.dE)(i:Int):Cv G i 4=G.dn i:=by
 unfold Cv a0.dn;by_cases aH:G.path i=[]
 ·rw[if_pos aH,if_pos (.inl aH)]
 ·rw[if_neg aH];cases an:(G.path i).any (pi G)
  ·rw[if_neg (by simp[aH])];have gL:∀(f:Nat) (k:Int),∀n∈G.lU f k,qI n.dn=O:=by
    intro f;induction f with
    |zero=>intro k n aE;simp[a0.lU]at aE
    |succ f aZ=>
      intro k n aE;unfold a0.lU at aE;split at aE
      ·rename_i Z;rcases n0.1 aE with rfl|aE
       ·exact(h.get Z).r
       ·exact aZ _ n aE
      ·simp at aE
   have fT:∀n∈G.path i,qI n.dn=O:=gL _ i;have alz:(15:Int)=(15#64).toInt:=rfl;rw[alz,WJ _ fT];have U:∀k,(yT (G.path i)).getLsbD k=((15#64).getLsbD k&&(G.path i).all λn=>(mP 64 n.dn).getLsbD k):=alw _ _;show _=(yT (G.path i)).toInt;have bf:(yT (G.path i)).toNat<16:=by
    have:(yT (G.path i))=(yT (G.path i))&&& 15#64:=by apply BitVec.eq_of_getLsbD_eq;intro k Z;rw[BitVec.getLsbD_and,U k];cases (15#64).getLsbD k<;>simp
    rw[this,BitVec.toNat_and];have R:(15#64).toNat=2 ^ 4 - 1:=rfl;rw[R,Nat.and_two_pow_sub_one_eq_mod];omega
   have alA:(yT (G.path i)).toInt=((yT (G.path i)).toNat:Int):=by rw[BitVec.toInt_eq_toNat_cond];split<;>omega
   rw[alA,alx _ bf];congr 1;apply List.map_congr_left;intro D aa;have EP:D<4:=j1.1 aa;have ab:An G (G.path i) D=(yT (G.path i)).toNat.testBit D:=by
    have J:=U D;rw[BitVec.getLsbD]at J;rw[J];have tn:(15#64).getLsbD D=O:=by
     have:D=0\/D=1\/D=2\/D=3:=by omega
     rcases this with rfl|rfl|rfl|rfl<;>rfl
    rw[tn,Bool.true_and];unfold An;rw[List.any_eq_false]at an;rw[Bool.eq_iff_iff,jq,jq];constructor
    ·intro bC n aE;have:=bC n aE;rw[hx]at this;rw[<-I3 _ (by omega),<-WK (fT n aE)];exact this.1
    ·intro bC n aE;have R:=bC n aE;rw[<-I3 _ (by omega),<-WK (fT n aE)]at R;rw[R];simpa using an n aE
   rw[ab]
  ·rw[if_pos (.inr rfl)];have aN:∀D,An G (G.path i) D=T:=by intro D;obtain⟨n,aE,alB⟩:=List.any_eq_true.1 an;unfold An;rw[List.all_eq_false];exact⟨n,aE,by simp[alB]⟩
   simp[aN,List.range_succ]
theorem alC(n:e5):(cQ n).length=6:=rfl
theorem alD(n:e5):(cQ n).all E.one=O:=rfl
theorem alE(n:e5):(cQ n)[0]? =o (.int j n.parent):=rfl
theorem alF(n:e5):(cQ n)[1]? =o (.int j n.gate):=rfl
theorem alG(n:e5):(cQ n)[2]? =o (.int j n.dn):=rfl
theorem alH(n:e5):(cQ n)[3]? =o (.int j n.cell):=rfl
theorem alI(n:e5):(cQ n)[4]? =o (.int j n.bI):=rfl
theorem alJ(n:e5):(cQ n)[5]? =o (.int j n.func):=rfl
theorem kM:(∀n,(cQ n).length=6)/\(∀n,(cQ n).all E.one=O)/\(∀n:e5,(cQ n)[0]? =o (.int j n.parent))/\(∀n:e5,(cQ n)[1]? =o (.int j n.gate))/\(∀n:e5,(cQ n)[2]? =o (.int j n.dn))/\(∀n:e5,(cQ n)[3]? =o (.int j n.cell))/\(∀n:e5,(cQ n)[4]? =o (.int j n.bI))/\(∀n:e5,(cQ n)[5]? =o (.int j n.func)):=⟨alC,alD,alE,alF,alG,alH,alI,alJ⟩
theorem xl.ed{h:ag}{ai:Nat->Prop}{e:a6}{v:E}{rows:List (List E)}(g:xl h ai e v rows):hn e v rows:=by
 rcases g with⟨rfl,rfl⟩|⟨id,_,_,_,_,rfl⟩
 ·exact Ik e
 ·exact En _ _ _
theorem xm.len{h:ag}{ae:Nat->Prop}{b:Nat}{e:a6}{v:E}{rows:List (List E)}(g:xm h ae b e v rows):hX v=o rows.length/\∀s,j3 s (o e) v=O:=by
 rcases g with⟨rfl,rfl⟩|⟨q,_,_,_,_,rfl⟩
 ·exact⟨rfl,λs=>rfl⟩
 ·exact⟨rfl,λs=>Ej⟩
theorem xl.hb{h F:ag}{ai:Nat->Prop}{e:a6}{v:E}{rows:List (List E)}(g:xl h ai e v rows)(x:aB h F):xl F ai e v rows:=by
 rcases g with J|⟨id,J,aj,R,ah,aD⟩
 ·exact .inl J
 ·exact .inr ⟨id,J,aj,fq R x.ids,(x.hw id R).trans ah,aD⟩
theorem xm.hb{h F:ag}{ae:Nat->Prop}{b:Nat}{e:a6}{v:E}{rows:List (List E)}(g:xm h ae b e v rows)(x:aB h F):xm F ae b e v rows:=by
 rcases g with J|⟨q,J,R,ah,aD,bo⟩
 ·exact .inl J
 ·exact .inr ⟨q,J,R,fq ah x.n,(x.cell q ah).trans aD,bo⟩
theorem eX.hb{h F:ag}{ae ai:Nat->Prop}{b:Nat}{G:a0}(g:eX h ae ai b G)(x:aB h F):eX F ae ai b G:=by obtain⟨aL,dm,J,R,ah⟩:=g.ex;exact⟨⟨g.ab.1,fq g.ab.2 x.n⟩,⟨λk Z=>fq (g.lt.1 k Z) x.n,λD aa=>fq (g.lt.2 D aa) x.ids⟩,aL,dm,(x.cell b g.ab.2).trans J,R.hb x,ah.hb x⟩
theorem I4{h:ag}{ae:Nat->Prop}{b:Nat}{dm:E}{l:List Bool}(g:xm h ae b p3 dm (l.map λx=>[.bool x])){m:Nat}(hm:m<l.length):∃q,dO (o p3) ad dm (.int j (m:Int))=o (.ptr q m 0)/\h.cell q=o (l.map λx=>[.bool x])/\(l.map λx=>[E.bool x])[m]? =o [.bool (l.getD m T)]/\ae q/\q≠b/\q<h.n/\dm= .bn q 0 l.length p3:=by
 rcases g with⟨J,_⟩|⟨q,J,R,ah,aD,rfl⟩
 ·simp at J;subst J;simp at hm
 ·exact⟨q,by simp[dO,hm],aD,by simp[hm,dz],J,R,ah,by simp⟩
theorem a0.I5{G:a0}{k:Int}(bC:G.lh k=O):∃m:Nat,k=m/\m<G.shut.length:=by simp[a0.lh]at bC;exact⟨k.toNat,by omega,by omega⟩
theorem a0.alK{G:a0}{k:Int}(bC:G.has k=O):0<=k:=by simp[a0.has]at bC;exact bC.1
theorem a0.ER{G:a0}{k:Int}(bC:G.has k=O):∃m:Nat,k=m/\m<G.nodes.length/\(G.nodes.map cQ)[m]? =o (cQ (G.nodes.getD m gN)):=by
 simp[a0.has]at bC;have am:k.toNat<G.nodes.length:=by omega
 exact⟨k.toNat,by omega,am,by simp[am,dz]⟩
section
variable{h:ag}{ae ai:Nat->Prop}{b:Nat}{G:a0}
theorem ES(g:eX h ae ai b G)(k:Int):aQ ap W 98 [.ptr b 0 0,.int j k] h=o (.inl (.bool (G.lh k)),h):=by obtain⟨aL,dm,J, -,ah⟩:=g.ex;refine a2 ak' rfl ?_;unfold Vx;by_cases aj:0<=k<;>simp only[ak,aq,ar,al,aj,J,ah.len.1,ah.len.2,a0.lh,fa]
theorem ET(g:eX h ae ai b G)(k:Int):aQ ap W 100 [.ptr b 0 0,.int j k] h=o (.inl (.bool (G.lh k)),h):=by obtain⟨aL,dm,J, -,ah⟩:=g.ex;refine a2 alm rfl ?_;unfold Wq;by_cases aj:0<=k<;>simp only[ak,aq,ar,al,aj,J,ah.len.1,ah.len.2,a0.lh,fa]
theorem EU(g:eX h ae ai b G)(k:Int):aQ ap W 112 [.ptr b 0 0,.int j k] h=o (.inl (.bool (G.has k)),h):=by obtain⟨aL,dm,J,R, -⟩:=g.ex;refine a2 alb rfl ?_;unfold VJ;by_cases aj:0<=k<;>simp only[ak,aq,ar,al,aj,J,R.ed.len,R.ed.fits,a0.has,fa]
theorem alL(g:eX h ae ai b G)(k:Int):aQ ap W 159 [.ptr b 0 0,.int j k] h=o (.inl (.bool (G.vU k)),h):=by
 obtain⟨aL,dm,J, -,ah⟩:=g.ex;refine a2 ala rfl ?_;unfold VD;cases bC:G.lh k
 ·simp only[ak,aq,ar,al,ES g,bC,a0.vU]
 ·obtain⟨m,rfl,hm⟩:=a0.I5 bC;obtain⟨q,au,ax,bc, -⟩:=I4 ah hm;simp only[ak,aq,ar,al,ES g,bC,J,au,ax,bc,a0.vU]
theorem alM(g:eX h ae ai b G)(k:Int):aQ ap W 163 [.ptr b 0 0,.int j k] h=o (.inl (.bool (G.vU k)),h):=by
 obtain⟨aL,dm,J, -,ah⟩:=g.ex;refine a2 aln rfl ?_;unfold Wt;cases bC:G.lh k
 ·simp only[ak,aq,ar,al,ET g,bC,a0.vU]
 ·obtain⟨m,rfl,hm⟩:=a0.I5 bC;obtain⟨q,au,ax,bc, -⟩:=I4 ah hm;simp only[ak,aq,ar,al,ET g,bC,J,au,ax,bc,a0.vU]
theorem alN(g:eX h ae ai b G)(cH:G.dE)(rest:List be):∀(f:Nat) (i:Int) (acc:List e5) (F:ag) (v EV:E),i+1<=f->(G.has i=O->acc.length+i.toNat<200)->Acc h F iN v (acc.map cQ)->aB h F->∃gF bs ik t,bB (aQ ap W) 5 [.e' IK,.bP [],.cm 0,.bP rest] [.ptr b 0 0,.int j i,.aA,v,EV] [] F=bB (aQ ap W) 5 [.bP rest] [.ptr b 0 0,ik,.aA,bs,t] [] gF/\Acc h gF iN bs ((acc++G.path i).map cQ)/\aB h gF:=by
 intro f;induction f with
 |zero=>
   intro i acc F v EV af bl aX a8;have fu:=g.hb a8;have bC:G.has i=T:=by simp[a0.has];omega
   rw[cV IK.eq_1];refine⟨F,v,.int j i,.bool T,?_,by rw[a0.Ac bC,n3];exact aX,a8⟩;simp only[ak,aq,ar,al,cb,EU fu,bC]
 |succ f aZ=>
   intro i acc F v EV af bl aX a8;have fu:=g.hb a8;obtain⟨aL,dm,J,R, -⟩:=fu.ex;rw[cV IK.eq_1];cases bC:G.has i
   ·refine⟨F,v,.int j i,.bool T,?_,by rw[a0.Ac bC,n3];exact aX,a8⟩;simp only[ak,aq,ar,al,cb,EU fu,bC]
   ·obtain⟨m,rfl,hm,uQ⟩:=a0.ER bC;have bl:=bl bC;have eV:=R.ed.bV j m _ uQ;obtain⟨bs,nZ,au,aR,a5,bp,cA⟩:=mp aX a8 (row:=cQ (G.nodes.getD m gN)) rfl (by simp;omega);simp only[ak,aq,ar,al,cb,EU fu,bC,J,eV,au,bp,kM];have ok:=cH.get bC;have aH:=ok.dA;have rt:=ok.d';simp only[mE]at aH rt bl;obtain⟨gF,ba,ik,t,bH,bR,hz⟩:=aZ (G.nodes.getD m gN).parent (acc++[G.nodes.getD m gN]) nZ bs (.bool O) (by omega) (by intro HI;have:=a0.alK HI;simp only[ff,gM];omega) (by simpa using aR) a5;refine⟨gF,ba,ik,t,bH,?_,hz⟩;rw[a0.Ve cH bC];simpa using bR
theorem a0.I6{G:a0}(cH:G.dE)(i:Int):(G.path i).length<=81:=by
 have key:∀(f:Nat) (i:Int),(G.lU f i).length<=f:=by
  intro f;induction f with
  |zero=>intro i;simp[a0.lU]
  |succ f aZ=>
    intro i;unfold a0.lU;split
    ·have:=aZ (G.nodes.getD i.toNat gN).parent;rw[hk];omega
    ·simp
 by_cases bC:G.has i=O
 ·have:=key (i.toNat+1) i;simp[a0.has]at bC;have:=cH.p2;unfold a0.path;omega
 ·rw[a0.Ac (by simpa using bC)];simp
theorem OP(l:List e5):∀r∈l.map cQ,r.all uG=O:=by intro r ao;obtain⟨n,_,rfl⟩:=o8.1 ao;rfl
theorem OQ(l:List Int):∀r∈l.map (λx=>[E.int j x]),r.all uG=O:=by intro r ao;obtain⟨n,_,rfl⟩:=o8.1 ao;rfl
theorem OR(g:eX h ae ai b G)(cH:G.dE)(i:Int):aQ ap W 158 [.ptr b 0 0,.int j i] h=o (.inl (i2 iN ((G.path i).map cQ)),h):=by refine a2 alc rfl ?_;unfold V7;obtain⟨gF,bs,ik,t,bH,bR,hz⟩:=alN g cH [.ops [cR,jv],.ret] (i+1).toNat i [] h .aA .az (by omega) (by intro bC;have:=cH.p2;simp[a0.has]at bC;simp;omega) (uF _ _ _) (aB.refl h);simp only[ak,aq,ar,al,bH,dI hz (Ce bR (OP _))]
end
def OS:List be:=[yP,.ops [bd,tp,cl,xu,.g (.l 1) O .l (.bin (.int j) .leq (.l 0) (.c (.int j 15))),IS,oK],.ret]
theorem WL:cq ap W 120 1 2 [0,2] OS [(.v 1)] O:=by refine⟨_,_,Tryz.func120,rfl,rfl,?_,?_,?_,?_,?_⟩<;>kernel_rfl
def WM:List be:=[sh,.ops [bd,cW,WN,jv],.ret]
theorem alO:cq ap W 160 2 3 [0,1,4] WM [(.v 2)] O:=by refine⟨_,_,Tryz.func160,rfl,rfl,?_,?_,?_,?_,?_⟩<;>kernel_rfl
section
variable{h:ag}{ae ai:Nat->Prop}{b:Nat}{G:a0}
theorem WO(x y:Int):aQ ap W 160 [.int j x,.int j y] h=o (.inl (.int j (vT x y)),h):=by refine a2 alO rfl ?_;unfold WM;simp only[ak,aq,ar,al];rfl
theorem Cw(x:Int):aQ ap W 120 [.int j x] h=o (.inl (.bool (qI x)),h):=by refine a2 WL rfl ?_;unfold OS;by_cases aj:0<=x<;>simp only[ak,aq,ar,al,aj,qI]
theorem I7(x:Int):aQ ap W 96 [.int j x] h=o (.inl (.bool (se x)),h):=by refine a2 ali rfl ?_;unfold Wm;by_cases aj:0<=x<;>simp only[ak,aq,ar,al,aj,se]
def tt(G:a0):Bool->Int->List e5->Int
 |_,r,[]=>r
 |first,r,n::l=>if pi G n then 0 else tt G T (vT (if first then 15 else r) n.dn) l
theorem WQ(G:a0):∀(l:List e5) (r:Int),tt G T r l=if l.any (pi G)then 0 else l.foldl (λr n=>vT r n.dn) r
 |[],r=>rfl
 |n::l,r=>by simp only[tt,List.any_cons,List.foldl_cons,l9,if_false];rw[WQ G l];by_cases an:pi G n=O<;>simp[an]
theorem alP(G:a0)(i:Int):tt G O 0 (G.path i)=G.dn i:=by
 unfold a0.dn;cases aH:G.path i with
 |nil=>simp[tt]
 |cons n l=>simp only[tt,if_true,WQ,reduceCtorEq,false_or,List.any_cons,List.foldl_cons];cases an:pi G n<;>simp
theorem alQ(g:eX h ae ai b G)(dL p:E)(P:List e5)(aH:hn iN p (P.map cQ))(fT:P.length<=1000):∀(l pre:List e5) (r:Int) (F:ag) (du b7 t1 t2 t3:E),P=pre++l->aB h F->lT O [.v 2] h (bB (aQ ap W) 12 [.e' EJ,.bP [],.cm 0,.bP [.ops [cR,jv],.ret]] [.ptr b 0 0,dL,.int j 0,.int j r,du,b7,p,.int j P.length,.int j pre.length,t1,t2,t3] [] F)=o (.inl (.int j (tt G pre.isEmpty r l)),h):=by
 intro l;induction l with
 |nil=>
   intro pre r F du b7 t1 t2 t3 e a8;rw[cV EJ.eq_1];have:¬((pre.length:Int)<(P.length:Int)):=by rw[e];simp
   simp only[ak,aq,ar,al,cb,this,tt,dI a8 (rfl:c7 (.int j r)=_)]
 |cons n l aZ=>
   intro pre r F du b7 t1 t2 t3 e a8;rw[cV EJ.eq_1];have bf:(pre.length:Int)<(P.length:Int):=by rw[e];simp;omega
   have eV:=aH.bV j pre.length (cQ n) (by rw[e];simp);have mU:aB h (F.push [cQ n]):=a8.trans (aB.push _ _);have hw:=eL (n:=(pre.length:Int)+1) (by omega) (by omega);have jU:=alL (g.hb mU);have WR:pre.isEmpty=decide ((pre.length:Int)=0):=by cases pre<;>simp<;>omega
   have kf:∀(bj:Int) (du b7 t1 t2 t3:E),lT O [.v 2] h (bB (aQ ap W) 12 [.e' EJ,.bP [],.cm 0,.bP [.ops [cR,jv],.ret]] [.ptr b 0 0,dL,.int j 0,.int j bj,du,b7,p,.int j P.length,.int j ((pre.length:Int)+1),t1,t2,t3] [] (F.push [cQ n]))=o (.inl (.int j (tt G T bj l)),h):=by
    intro bj du b7 t1 t2 t3;have:=aZ (pre++[n]) bj (F.push [cQ n]) du b7 t1 t2 t3 (by simp[e]) mU;have au:(pre++[n]).isEmpty=T:=by cases pre<;>rfl
    have ax:((pre++[n]).length:Int)=(pre.length:Int)+1:=by simp
    rw[au,ax]at this;exact this
   by_cases aj:0<=n.gate
   ·cases iY:G.vU n.gate
    ·have an:pi G n=O:=by simp[pi,aj,iY]
     simp only[ak,aq,ar,al,cb,bf,eV,kM,aj,jU,iY,tt,an,dI mU (rfl:c7 (.int j 0)=_)]
    ·have an:pi G n=T:=by simp[pi,iY]
     cases aN:decide ((pre.length:Int)=0)<;>simp only[ak,aq,ar,al,cb,bf,eV,kM,aj,jU,iY,tt,an,WO,hw,aN,WR,kf]
   ·have an:pi G n=T:=by simp[pi,aj]
    cases aN:decide ((pre.length:Int)=0)<;>simp only[ak,aq,ar,al,cb,bf,eV,kM,aj,tt,an,WO,hw,aN,WR,kf]
theorem WS(g:eX h ae ai b G)(cH:G.dE)(i:Int):aQ ap W 145 [.ptr b 0 0,.int j i] h=o (.inl (.int j (G.dn i)),h):=by refine a2 ald rfl ?_;unfold V';have am:=uH iN ((G.path i).map cQ);have xw:=alQ g (.int j i) (i2 iN ((G.path i).map cQ)) (G.path i) am (by have:=a0.I6 cH i;omega) (G.path i) [] 0 h .az .az .az .az .az rfl (aB.refl h);simp only[gf,k6,List.isEmpty_nil,alP]at xw;simp only[ak,aq,ar,al,OR g cH,am.len,am.fits,fa];exact xw
theorem alR(id:Option Nat)(rows:List (List E))(bl:∀r∈rows,r.all E.one=O/\r.all uG=O)(am:rows.length<=1000):aQ ap W 51 [.b0 id iN rows] h=o (.inl (.b0 ad iN rows),h):=by
 refine a2 Wl rfl ?_;unfold OA;have au:eU T iN (.b0 (o h.ids) iN []) (.b0 id iN rows) (h.fresh 0)=o (.b0 (o h.ids) iN rows,if rows.length=0 then h.fresh 0 else(h.fresh 0).grow h.ids rows.length):=by
  simp only[eU,iT,if_true,c2];by_cases aN:rows.length=0
  ·simp[sY,pR.1 aN]
  ·rw[if_neg aN,if_neg aN];unfold jX;rw[if_pos ⟨by omega,by omega,by rw[jq];exact λr ao=>(bl r ao).1⟩];simp[Ij]
 have a8:aB h (if rows.length=0 then h.fresh 0 else(h.fresh 0).grow h.ids rows.length):=by
  split
  ·exact aB.fresh h 0
  ·exact(aB.fresh h 0).grow (b4 _)
 have hw:c7 (.b0 (o h.ids) iN rows)=o (.b0 ad iN rows):=by simp only[c7,Aa λr ao=>(bl r ao).2,hF]
 simp only[ak,aq,ar,al,au,dI a8 hw]
theorem In:aQ ap W 51 [.aA] h=o (.inl .aA,h):=by refine a2 Wl rfl ?_;unfold OA;simp only[ak,aq,ar,al];exact dI (aB.refl h) rfl
theorem alS(g:eX h ae ai b G)(cH:G.dE):aQ ap W 15 [.ptr b 0 0] h=o (.inl (i2 iN (G.nodes.map cQ)),h):=by
 obtain⟨aL,dm,J,R, -⟩:=g.ex;refine a2 alg rfl ?_;unfold Wi;rcases R with⟨au,rfl⟩|⟨id,_,dV,_,_,rfl⟩
 ·simp only[ak,aq,ar,al,J,In];rw[au];exact dI (aB.refl h) rfl
 ·have an:=alR (h:=h) (o id) (G.nodes.map cQ) (λr ao=>⟨by obtain⟨n,_,rfl⟩:=o8.1 ao;rfl,OP _ r ao⟩) (by have:=cH.p2;simp;omega);have hw:c7 (.b0 ad iN (G.nodes.map cQ))=o (i2 iN (G.nodes.map cQ)):=by simp only[c7,Aa (OP _),hF,i2,if_neg dV]
  simp only[ak,aq,ar,al,J,an,dI (aB.refl h) hw]
theorem alT(g:eX h ae ai b G)(cH:G.dE)(i:Int):aQ ap W 162 [.ptr b 0 0,.int j i] h=o (.inl (.bU [.agg (cQ (G.target i).1),.bool (G.target i).2]),h):=by
 refine a2 ale rfl ?_;unfold Wa;have am:=uH iN ((G.path i).map cQ);have hw:∀(n:e5) (x:Bool),c7 (.bU [.agg (cQ n),.bool x])=o (.bU [.agg (cQ n),.bool x]):=λn x=>rfl;have EW:=OR (g.hb (aB.push h [[.int j 0,.int j 0,.int j 0,.int j 0,.int j 0,.int j 0]])) cH;have pk:∀n:e5,aB h (h.push [cQ n]):=λn=>aB.push _ _;have a7:∀m:Nat,kK j (m:Int)=m->True:=λ_ _=>trivial;rcases List.eq_nil_or_concat (G.path i)with aN|⟨pre,n,aN⟩
 ·have a3:G.target i=(gN,T):=by simp[a0.target,aN]
  rw[a3];have hlen:(G.path i).length=0:=by rw[aN];rfl
  simp only[ak,aq,ar,al,EW,am.len,am.fits,fa,hlen,k6];exact dI (pk gN) (hw gN T)
 ·rw[List.concat_eq_append]at aN;have a3:G.target i=(n,O):=by unfold a0.target;rw[aN];simp[List.getLastD_eq_getLast?]
  have aw:¬(((pre.length+1:Nat):Int)=0):=by omega
  have aC:kK j (((pre.length+1:Nat):Int) - 1)=(pre.length:Int):=by rw[eL]<;>(have:=a0.I6 cH i;rw[aN]at this;simp at this;omega)
  have eV:=am.bV j pre.length (cQ n) (by rw[aN];simp);rw[a3];have hlen:(G.path i).length=pre.length+1:=by rw[aN];simp
  simp only[ak,aq,ar,al,EW,am.len,am.fits,fa,hlen,aw,aC,eV,kM];exact dI (pk n) (hw n O)
theorem alU(p:E)(P:List e5)(aH:hn iN p (P.map cQ))(fT:P.length<=1000)(iq dL:E):∀(l pre:List e5) (F:ag) (v du t1 t2:E),P=pre++l->aB h F->Acc h F 3 v ((lV pre).map λx=>[.int j x])->lT O [.v 2] h (bB (aQ ap W) 10 [.e' IM,.bP [],.cm 0,.bP [.ops [cR,jv],.ret]] [iq,dL,.aA,v,du,p,.int j P.length,.int j pre.length,t1,t2] [] F)=o (.inl (i2 3 ((lV P).map λx=>[.int j x])),h):=by
 intro l;induction l with
 |nil=>
   intro pre F v du t1 t2 e a8 aX;rw[cV IM.eq_1];have bf:¬((pre.length:Int)<(P.length:Int)):=by rw[e];simp
   rw[n3]at e;rw[<-e]at aX;simp only[ak,aq,ar,al,cb,bf,dI a8 (Ce aX (OQ _))]
 |cons n l aZ=>
   intro pre F v du t1 t2 e a8 aX;rw[cV IM.eq_1];have bf:(pre.length:Int)<(P.length:Int):=by rw[e];simp;omega
   have eV:=aH.bV j pre.length (cQ n) (by rw[e];simp);have mU:aB h (F.push [cQ n]):=a8.trans (aB.push _ _);have hw:=eL (n:=(pre.length:Int)+1) (by omega) (by omega);have ax:((pre++[n]).length:Int)=(pre.length:Int)+1:=by simp
   have Ao:((lV pre).map λx=>[E.int j x]).length<=1000000:=by
    have:=List.length_filter_le (λn:e5=>decide (0<=n.gate)) pre;have R:pre.length<=P.length:=by rw[e];simp
    simp[lV];omega
   by_cases aj:0<=n.gate
   ·have k7:lV (pre++[n])=lV pre++[n.gate]:=by simp[lV,aj]
    have OT:Acc h (F.push [cQ n]) 3 v ((lV pre).map λx=>[.int j x]):=aX;obtain⟨bs,nZ,au,aR,a5,bp,cA⟩:=mp OT mU (row:=[.int j n.gate]) rfl Ao;simp only[i4]at au;have:=aZ (pre++[n]) nZ bs (.ptr F.n 0 0) (.bool O) (.bool O) (by simp[e]) a5 (by rw[k7,uR];exact aR);rw[ax]at this;simp only[ak,aq,ar,al,cb,bf,eV,kM,aj,hw,au,this]
   ·have k7:lV (pre++[n])=lV pre:=by simp[lV,aj]
    have OT:Acc h (F.push [cQ n]) 3 v ((lV pre).map λx=>[.int j x]):=aX;have:=aZ (pre++[n]) (F.push [cQ n]) v (.ptr F.n 0 0) (.bool O) (.bool T) (by simp[e]) mU (by rw[k7];exact OT);rw[ax]at this;simp only[ak,aq,ar,al,cb,bf,eV,kM,aj,hw,this]
theorem alV(g:eX h ae ai b G)(cH:G.dE)(i:Int):aQ ap W 150 [.ptr b 0 0,.int j i] h=o (.inl (i2 3 ((G.oJ i).map λx=>[.int j x])),h):=by refine a2 alf rfl ?_;unfold Wh;have am:=uH iN ((G.path i).map cQ);have xw:=alU (h:=h) (i2 iN ((G.path i).map cQ)) (G.path i) am (by have:=a0.I6 cH i;omega) (.ptr b 0 0) (.int j i) (G.path i) [] h .aA .az .az .az rfl (aB.refl h) (uF _ _ _);simp only[gf,k6]at xw;simp only[ak,aq,ar,al,OR g cH,am.len,am.fits,fa];exact xw
end
theorem WT{p:h8}(n:Nat)(l:List c')(J:xj P p (l.take n)=O)(R:xj P p (l.drop n)=O):xj P p l=O:=by rw[<-List.take_append_drop n l];unfold xj at J R ⊢;rw[List.all_append,J,R];rfl
theorem alW:xj ap W (Ix.take 55)=O:=by kernel_rfl
theorem alX:xj ap W ((Ix.drop 55).take 55)=O:=by kernel_rfl
theorem alY:xj ap W ((Ix.drop 55).drop 55)=O:=by kernel_rfl
theorem dg:l' ap W:=ahR (ahQ (by kernel_rfl)) (by kernel_rfl) (WT 55 _ alW (WT 55 _ alX alY)) (λg ae h=>by
 unfold rv at h;split at h
 ·rename_i e;subst e;injection h with h;subst h;refine⟨_,Tryz.func113,⟨by kernel_rfl,by kernel_rfl⟩,λargs h r ao=>?_⟩;unfold Ez at ao;split at ao
  ·rename_i H;injection ao with ao;rw[<-ao];exact(Classical.choose_spec H).1
  ·cases ao
 split at h
 ·rename_i e;subst e;injection h with h;subst h;refine⟨_,Tryz.func114,⟨by kernel_rfl,by kernel_rfl⟩,λargs h r ao=>?_⟩;unfold Iy at ao;split at ao
  ·split at ao
   ·rename_i H;injection ao with ao;rw[<-ao];exact H
   ·cases ao
  ·cases ao
 split at h
 ·rename_i e;subst e;injection h with h;subst h;refine⟨_,Tryz.func40,⟨by kernel_rfl,by kernel_rfl⟩,λargs h r ao=>?_⟩;unfold Iz at ao;split at ao
  ·rename_i H;injection ao with ao;rw[<-ao];exact(Classical.choose_spec H).2
  ·cases ao
 split at h
 ·rename_i e;subst e;injection h with h;subst h;refine⟨_,Tryz.func21,⟨by kernel_rfl,by kernel_rfl⟩,λargs h r ao=>?_⟩;unfold IA at ao;split at ao
  ·rename_i H;injection ao with ao;rw[<-ao];exact(Classical.choose_spec H).2
  ·cases ao
 split at h
 ·rename_i e;subst e;injection h with h;subst h;refine⟨_,Tryz.func12,⟨by kernel_rfl,by kernel_rfl⟩,λargs h r ao=>?_⟩;unfold EA at ao;split at ao
  ·rename_i H;injection ao with ao;rw[<-ao];exact(Classical.choose_spec H).1
  ·cases ao
 split at h
 ·rename_i e;subst e;injection h with h;subst h;refine⟨_,Tryz.func65,⟨by kernel_rfl,by kernel_rfl⟩,λargs h r ao=>?_⟩;unfold IC at ao;split at ao
  ·split at ao
   ·rename_i H;injection ao with ao;rw[<-ao];exact H
   ·cases ao
  ·cases ao
 cases h)
open Go.ChangeShapes Go.WideShapes Go.ChangeAt Go.RowKit Go.Deep Go.Joins
open Go.ChangeMaps (open_string shut_string)
theorem own:ownKnob ap.godebug=ad:=by kernel_rfl
theorem alZ:laidOutB ap=O:=by kernel_rfl
section
variable{H:Type}{enc:a6×b1->H}{P:cT}{dC yU:dy}
theorem WU(am:laidOutB P=O):∀{cw:List a6} {bA:List b1} {iJ:List (DataW H)} {p:List MemPlace},rz enc P dC 0 (λ_=>O) O cw bA iJ p->(∀t∈cw,P.readableRec t=O/\t<P.types.size)->Below dC.heap.size dC yU->(∀x∈p,x.block<dC.heap.size)->rz enc P yU 0 (λb=>decide (b<dC.heap.size)) O cw bA iJ p
 |[],[],[],p,h,_,_,_=>h
 |t::cw,v::bA,d::iJ,p,h,a3,ab,aH=>by obtain⟨dA,bM,J,R,rfl⟩:=h;obtain⟨ao,aC⟩:=a3 t (by simp);exact⟨dA,bM,Below.trod am ao aC J ab (λx aw=>aH x (by simp[aw])),WU am R (λdF F=>a3 dF (by simp[F])) ab (λx aw=>aH x (by simp[aw])),rfl⟩
 |[],_::_,_,_,h,_,_,_=>by simp[rz]at h
 |_::_,[],_,_,h,_,_,_=>by simp[rz]at h
 |_::_,_::_,[],_,h,_,_,_=>by simp[rz]at h
 |[],[],_::_,_,h,_,_,_=>by simp[rz]at h
theorem WV:∀{cw:List a6} {bA:List b1} {iJ:List (DataW H)} {p:List MemPlace},rz enc P dC 0 (λ_=>O) O cw bA iJ p->∀x∈p,x.block<dC.heap.size
 |[],[],[],p,h,x,aw=>by have:p=[]:=h;subst this;simp at aw
 |t::cw,v::bA,d::iJ,p,h,x,aw=>by
   obtain⟨dA,bM,⟨n,J⟩,R,rfl⟩:=h;rcases List.mem_append.1 aw with aw|aw
   ·exact DataW.trod_lt n _ _ _ J x aw
   ·exact WV R x aw
 |[],_::_,_,_,h,_,_=>by simp[rz]at h
 |_::_,[],_,_,h,_,_=>by simp[rz]at h
 |_::_,_::_,[],_,h,_,_=>by simp[rz]at h
 |[],[],_::_,_,h,_,_=>by simp[rz]at h
def WW(P:cT)(f:c')(args:Array b1)(dC:dy):Prop:=Calls P f args dC λe yU=>e= .returned (.bool O)/\Below dC.heap.size dC yU
theorem al0{f:Func}{s:ChangeSpec}{args:Array b1}{iJ yV:List (DataW H)}{before:List MemPlace}{Cx:a6}(am:laidOutB P=O)(al1:P.underlying Cx=o .bool)(kH:f.resultTypes= #[Cx])(U:s.vars=[])(al2:∀t∈f.params.toList,P.readableRec t=O/\t<P.types.size)(aC:∀iJ:List (DataW H),iJ.length=f.params.size->s.fn H iJ={results:=[.lit (.bool O)],args:=iJ})(cH:DataW.Whole enc P f.params.toList s.vars T dC args.toList iJ yV before)(ab:Below dC.heap.size dC yU):s.post enc P f T O T T dC args (.bool O) yU:=by
 have OU:=cH;obtain⟨p,q,fg,yW,rfl,axk,th⟩:=cH;rw[U]at yW;obtain⟨rfl,rfl⟩:=trodVars_none yW;have hlen:iJ.length=f.params.size:=by
  have:∀{cw:List a6} {bA:List b1} {iJ:List (DataW H)} {p:List MemPlace},rz enc P dC 0 (λ_=>O) O cw bA iJ p->iJ.length=cw.length:=by
   intro cw;induction cw with
   |nil=>intro bA iJ p h;cases bA<;>cases iJ<;>simp[rz]at h ⊢
   |cons t cw aZ=>intro bA iJ p h;cases bA<;>cases iJ<;>simp[rz]at h ⊢;obtain⟨_,_,_,R,_⟩:=h;exact aZ R
  simpa using this fg
 have e:=aC (iJ++[]) (by simpa using hlen);refine⟨iJ,[],_,[],p,[],OU,?_,?_,?_,ab.frame _,λh=>by cases h⟩
 ·rw[e,kH];exact trodAll_mk1 (shut_bool al1 _)
 ·rw[e];simp only[n3];exact WU am fg al2 ab (WV fg)
 ·rw[e,U];rfl
end
open Go Go.RowKit
def rA:ag:={n:=0,cell:=λ_=>ad,ids:=0,hw:=λ_=>0}
def uS(dC:dy):eh:={base:=dC.heap.size,cm:=λ_=>0,hg:=λ_=>0,nR:=λ_=>0,eo:=λg I=>dC.cell? ⟨g,I,ad⟩,iB:=λ_=>0,pK:=λ_=>0,l8:=λ_=>0,gd:=λ_=>ad}
theorem al3{b:Nat}{w:dy}(h:Tj P=[]/\Tk P=[]):zN P b w:=by
 refine⟨λq aW=>?_,λn aE=>?_⟩
 ·rw[h.1]at aW;cases aW
 ·rw[h.2]at aE;cases aE
theorem al4(P:cT)(dC:dy)(a8:zN P dC.heap.size dC):cc P (uS dC) rA dC where
 cG:=a8
 size:=b4 _
 lt:=λb es ab=>by simp[rA]at ab
 live:=λb es ab=>by simp[rA]at ab
 inj:=λb gz es gk ab=>by simp[rA]at ab
 eo:=λg I v h=>h
 sep:=λb es ab=>by simp[rA]at ab
 qu:=λk Z=>absurd Z (Nat.not_lt_zero _)
 o2:=λk Z=>absurd Z (Nat.not_lt_zero _)
 nT:=λk Z=>absurd Z (Nat.not_lt_zero _)
 pL:=λk dQ Z=>absurd Z (Nat.not_lt_zero _)
 gd:=λg x aa=>by simp[uS]at aa
theorem al5{f:c'}{tu:List E}{bA:List b1}{dC:dy}{F:ag}(ao:aQ ap W f tu rA=o (.inl (.bool O),F))(U:dT ap (uS dC) rA tu bA)(a8:zN ap dC.heap.size dC:=by exact al3 ⟨by kernel_rfl,by kernel_rfl⟩):WW ap f bA.toArray dC:=by refine(UE dg ao (uS dC) dC bA (al4 _ dC a8) U).mono λe yU ⟨a9,_,_,ab,aw⟩=>?_;obtain⟨u,rfl,bQ⟩:=aw;cases bQ;exact⟨rfl,ab⟩
theorem al6{m:eh}{h:ag}(s:ByteArray):bX P m h (.str s.data.toList) (.string s):=by have:=bX.str (P:=P) (m:=m) (h:=h) s.data.toList;simpa using this
section
variable{P:cT}{W:h8}{g:c'}{a aL:Nat}{bb:List Nat}{bP:List be}{rs:List n5}{args:List E}{h:ag}
theorem I8{p:Bool}{rB:(E⊕E)×ag->Prop}(bl:cq P W g a aL bb bP rs p)(aX:args.length=a)(H:∀Q:ls->Prop,(∀r q,lT p rs h r=o q->rB q->Q r)->Q (bB (aQ P W) aL [.bP bP] (args++al (bb.length - args.length) .az) [] h)):∃q,aQ P W g args h=o q/\rB q:=by obtain⟨q,J,R⟩:=H (λr=>∃q,lT p rs h r=o q/\rB q) (λr q J R=>⟨q,J,R⟩);exact⟨q,a2 bl aX J,R⟩
theorem OV{v:E}(bl:cq P W g a aL bb bP rs T)(aX:args.length=a)(H:∀Q:ls->Prop,(∀V F,(iF V F rs).map iV=o v->cF F->Q (o (.ret,V,F)))->Q (bB (aQ P W) aL [.bP bP] (args++al (bb.length - args.length) .az) [] h)):∃F,aQ P W g args h=o (.inl v,F)/\cF F:=by obtain⟨q,J,F,rfl,R⟩:=I8 (rB:=λq=>∃F,q=(.inl v,F)/\cF F) bl aX λQ cy=>H Q λV F e r=>cy _ (.inl v,F) (by simp only[z',e,zK,yf]) ⟨F,rfl,r⟩;exact⟨F,J,R⟩
theorem WX{cF:E->ag->Prop}(bl:cq P W g a aL bb bP rs T)(aX:args.length=a)(H:∀Q:ls->Prop,(∀V F v,(iF V F rs).map iV=o v->cF v F->Q (o (.ret,V,F)))->Q (bB (aQ P W) aL [.bP bP] (args++al (bb.length - args.length) .az) [] h)):∃v F,aQ P W g args h=o (.inl v,F)/\cF v F:=by obtain⟨q,J,v,F,rfl,R⟩:=I8 (rB:=λq=>∃v F,q=(.inl v,F)/\cF v F) bl aX λQ cy=>H Q λV F v e r=>cy _ (.inl v,F) (by simp only[z',e,zK,yf]) ⟨v,F,rfl,r⟩;exact⟨v,F,J,R⟩
theorem OW{cF:E->Prop}(bl:cq P W g a aL bb bP rs O)(aX:args.length=a)(H:∀Q:ls->Prop,(∀V F v bs,(iF V F rs).map iV=o v->aB h F->c7 v=o bs->cF bs->Q (o (.ret,V,F)))->Q (bB (aQ P W) aL [.bP bP] (args++al (bb.length - args.length) .az) [] h)):∃v,aQ P W g args h=o (.inl v,h)/\cF v:=by obtain⟨q,J,v,rfl,R⟩:=I8 (rB:=λq=>∃v,q=(.inl v,h)/\cF v) bl aX λQ cy=>H Q λV F v bs e a8 w r=>cy _ (.inl bs,h) (by simp only[z',e,zK];exact dI a8 w) ⟨bs,rfl,r⟩;exact⟨v,J,R⟩
theorem l0(bl:cq P W g a aL bb bP rs O)(aX:args.length=a)(H:∀Q:ls->Prop,(∀V F v,(iF V F rs).map iV=o v->aB h F->c7 v=o bs->Q (o (.ret,V,F)))->Q (bB (aQ P W) aL [.bP bP] (args++al (bb.length - args.length) .az) [] h)):aQ P W g args h=o (.inl bs,h):=by obtain⟨v,J,rfl⟩:=OW (cF:=λv=>v=bs) bl aX λQ cy=>H Q λV F v e a8 w=>cy V F v bs e a8 w rfl;exact J
end
section
variable{P:cT}{W:h8}{g:c'}{a aL:Nat}{bb:List Nat}{bP:List be}{rs:List n5}{args:List E}{h:ag}
theorem WY{rB:(E⊕E)->ag->Prop}(bl:cq P W g a aL bb bP rs T)(aX:args.length=a)(H:∀Q:ls->Prop,(∀V F v,(iF V F rs).map iV=o v->rB (.inl v) F->Q (o (.ret,V,F)))->(∀V F v,rB (.inr v) F->Q (o (.panic v,V,F)))->Q (bB (aQ P W) aL [.bP bP] (args++al (bb.length - args.length) .az) [] h)):∃q F,aQ P W g args h=o (q,F)/\rB q F:=by obtain⟨⟨q,F⟩,e,p⟩:=I8 (rB:=λq=>rB q.1 q.2) bl aX λQ cy=>H Q (λV F v e r=>cy _ (.inl v,F) (by simp only[z',e,zK,yf]) r) (λV F v r=>cy _ (.inr v,F) (by simp only[U2,yf]) r);exact⟨q,F,e,p⟩
end
theorem oe{C:Cd}{aL:Nat}{b:List be}{K:List i'}{V:List E}{h:ag}{Q:ls->Prop}(cB:Nat->List E->ag->Prop)(n:Nat)(aj:cB 0 V h)(step:∀i V h,i<n->cB i V h->(∀ga F,cB (i+1) ga F->Q (bB C aL (.e' b::K) ga [] F))->Q (bB C aL (.e' b::K) V [] h))(stop:∀V h,cB n V h->Q (bB C aL (.e' b::K) V [] h)):Q (bB C aL (.e' b::K) V [] h):=by
 have key:∀(d i:Nat) (V:List E) (h:ag),i+d=n->cB i V h->Q (bB C aL (.e' b::K) V [] h):=by
  intro d;induction d with
  |zero=>
    intro i V h af Ap;obtain rfl:i=n:=by omega
    exact stop V h Ap
  |succ d aZ=>exact λi V h af Ap=>step i V h (by omega) Ap λga F al7=>aZ (i+1) ga F (by omega) al7
 exact key n 0 V h (by omega) aj
theorem al8{n:Nat}:(n<n+1)=True:=by simp
theorem OX{α:Type}(A B:List α)(x y:α){n:Nat}(aE:n=A.length):(A++x::B).set n y=A++y::B:=by subst aE;simp
theorem WZ{α:Type}(A B:List α)(x:α){n:Nat}(aE:n=A.length):(A++x::B)[n]? =o x:=by subst aE;simp
theorem Aq{α:Type}{l:List α}{i:Nat}{y:α}(h:l[i]? =o y):l.take (i+1)=l.take i++[y]:=by rw[List.take_add_one,h];rfl
theorem Ar{n m:Int}(e:n=m)(J: -9223372036854775808<=n)(R:n<=9223372036854775807):kK j n=m:=by rw[<-e];exact eL J R
theorem I9{aj h:ag}{e:a6}{v:E}(aX:Acc aj h e v acc)(g:aB aj h){x:E}{rows:List (List E)}(aw:(x= .aA/\rows=[])\/∃id,x= .b0 id e rows)(J:∀r∈rows,r.all E.one=O)(am:acc.length<=1000000)(ao:rows.length<=1000000):∃bs F,eU T e v x h=o (bs,F)/\Acc aj F e bs (acc++rows)/\aB aj F/\F.cell=h.cell/\F.n=h.n:=by
 have kW:rows.all (·.all E.one)=O:=by rw[jq];exact J
 by_cases aN:rows.length=0
 ·have yw:=pR.1 aN;subst yw;refine⟨v,h,?_,by simpa using aX,g,rfl,rfl⟩;have aC:sY e v h=o (v,h):=by rcases aX with⟨_,rfl⟩|⟨id,_,_,_,_,rfl⟩<;>simp[sY]
  rcases aw with⟨rfl,_⟩|⟨id,rfl⟩
  ·exact aC
  ·simp[eU,iT,aC]
 ·obtain⟨al9,rfl⟩:∃id,x= .b0 id e rows:=by
   rcases aw with⟨_,rfl⟩|aw
   ·simp at aN
   ·exact aw
  have au:eU T e v (.b0 al9 e rows) h=jX T e v rows h:=by simp only[eU,iT,if_true,c2];rw[if_neg aN]
  rw[au];unfold jX;rw[if_pos ⟨by omega,by omega,kW⟩];have di:rows≠[]:=λe=>aN (by rw[e];rfl);rcases aX with⟨rfl,rfl⟩|⟨id,ja,aR,a5,bp,rfl⟩
  ·refine⟨_,_,rfl,.inr ⟨h.ids,by simpa using di,g.ids,by simp[ag.fresh],by simp[ag.fresh],by simp⟩,g.trans (aB.fresh _ _),rfl,rfl⟩
  ·refine⟨.b0 (o id) e (acc++rows),h.grow id (acc.length+rows.length),?_,.inr ⟨id,by simp[ja],aR,a5,by simp[ag.grow],rfl⟩,g.grow aR,rfl,rfl⟩;simp[bp,am]
theorem OY(e:a6)(rows:List (List E)):(i2 e rows= .aA/\rows=[])\/∃id,i2 e rows= .b0 id e rows:=by
 unfold i2;by_cases aN:rows=[]
 ·exact .inl ⟨by rw[if_pos aN],aN⟩
 ·exact .inr ⟨ad,by rw[if_neg aN]⟩
theorem OZ(l:List Int):∀r∈gl l,r.all E.one=O:=by intro r ao;obtain⟨n,_,rfl⟩:=o8.1 ao;rfl
def W0(f:E)(xs:List E):Option (c'×List E):=match f with
 |.fn g a c=>o (g,a++xs++c)
 |_=>ad
section
variable{C:Cd}{aL:Nat}{k:List i'}{V L:List E}{h:ag}{d:pc}{bN:List ay}
theorem W1{f:Arg}{args:List Arg}:h2 V L (.call f args)=W0 (arg V L f) (args.map (arg V L)):=by simp only[h2];cases arg V L f<;>rfl
theorem W2{g:c'}{a c xs:List E}:W0 (.fn g a c) xs=o (g,a++xs++c):=rfl
theorem W3{g:c'}{xs:List E}:Ig C aL d bN k V L h (o (g,xs))=sc C aL d bN k V L (C g xs h):=rfl
theorem bJ:(type_of% @ND)/\(type_of% @W1)/\(type_of% @W2)/\(type_of% @W3):=⟨@ND,@W1,@W2,@W3⟩
end
section
variable{h:ag}{ae ai:Nat->Prop}{b:Nat}{G:a0}
theorem a0.I'{G:a0}(cH:G.dE)(i:Int):(G.jD i).length<=81:=by rw[a0.alu];exact a0.I6 cH i
theorem al'(cH:G.dE):∀(f:Nat) (i:Int) (h:ag) (ae ai:Nat->Prop) (b:Nat),i+1<=f->eX h ae ai b G->aQ ap W 154 [.ptr b 0 0,.int j i] h=o (.inl (i2 3 (gl (G.jD i))),h):=by
 intro f;induction f with
 |zero=>
   intro i h ae ai b af g;obtain⟨aL,dm,J,R, -⟩:=g.ex;have aj:i<0:=by omega
   have bC:G.has i=T:=by simp[a0.has];omega
   refine a2 WC rfl ?_;unfold OJ;simp only[ak,aq,ar,al,aj,J,a0.ON bC];exact dI (aB.refl h) rfl
 |succ f aZ=>
   intro i h ae ai b af g;obtain⟨aL,dm,J,R, -⟩:=g.ex;refine a2 WC rfl ?_;unfold OJ;cases bC:G.has i
   ·have:decide (i<0)=O\/decide (i<0)=T/\decide ((G.nodes.length:Int)<=i)=O:=by simp[a0.has]at bC;simp only[decide_eq_true_eq,decide_eq_false_iff_not];omega
    rcases this with aj|⟨aj,ah⟩
    ·simp only[ak,aq,ar,al,aj,J,a0.ON bC];exact dI (aB.refl h) rfl
    ·simp only[ak,aq,ar,al,aj,ah,J,R.ed.len,R.ed.fits,fa,a0.ON bC];exact dI (aB.refl h) rfl
   ·obtain⟨m,rfl,hm,uQ⟩:=a0.ER bC;have eV:=R.ed.bV j m _ uQ;have aj:decide ((m:Int)<0)=T:=by simp
    have ah:decide ((G.nodes.length:Int)<=(m:Int))=T:=by simp;omega
    have ok:=cH.get bC;have aH:=ok.dA;have rt:=ok.d';simp only[mE]at aH rt;have da:aB h (h.fresh 1):=aB.fresh h 1;have B1:=aZ (G.nodes.getD m gN).parent (h.fresh 1) ae ai b (by omega) (g.hb da);have aX:Acc h (h.fresh 1) 3 (.b0 (o h.ids) 3 [[.int j (m:Int)]]) [[.int j (m:Int)]]:=.inr ⟨h.ids,by simp,b4 _,by simp[ag.fresh],by simp[ag.fresh],rfl⟩;obtain⟨bs,F,au,aR,a5, -, -⟩:=I9 aX da (OY 3 (gl (G.jD (G.nodes.getD m gN).parent))) (OZ _) (by simp) (by have:=a0.I' cH (G.nodes.getD m gN).parent;rw[fa];omega);have W4:=a0.alr cH bC;simp only[mE]at W4;have oD:c7 bs=o (i2 3 (gl (G.jD m))):=by rw[W4];exact Ce aR (OQ (m::G.jD (G.nodes.getD m gN).parent))
    simp only[ak,aq,ar,al,aj,ah,J,R.ed.len,R.ed.fits,fa,eV,kM,B1,au,dI a5 oD]
theorem Ja(g:eX h ae ai b G)(cH:G.dE)(i:Int):aQ ap W 154 [.ptr b 0 0,.int j i] h=o (.inl (i2 3 (gl (G.jD i))),h):=al' cH (i+1).toNat i h ae ai b (by omega) g
theorem ama{eI:jP}{q bL:gx}{x:Int}{k:Nat}(Z:k<=q.bits):en eI .shr (.int q x) (.int bL (k:Int))=o (.int q (x.fdiv (2 ^ k))):=by simp[en,Nat.min_eq_left Z]
theorem amb{eI:jP}{q bL:gx}{x:Int}{k:Nat}(Z:k<=q.bits):en eI .shl (.int q x) (.int bL (k:Int))=o (.int q (q.wrap (x*2 ^ k))):=by simp[en,Nat.min_eq_left Z]
theorem O0{k:Nat}(Z:k<1000):kK .u64 (k:Int)=k:=by rw[IntKind.wrap_u64];omega
theorem O1(x:Int)(k:Nat)(Z:k<64):aQ ap W 151 [.int j x,.int j (k:Int)] h=o (.inl (.bool (fS x k)),h):=by refine a2 alj rfl ?_;unfold Wn;have aC:∀eI,en eI .shr (.int j x) (.int .u64 (k:Int))=o (.int j (x.fdiv (2 ^ k))):=λeI=>ama (by simp[IntKind.bits];omega);simp only[ak,aq,ar,al,O0 (k:=k) (by omega),aC];have e:x.fdiv (2 ^ k)=x / 2 ^ k:=Int.fdiv_eq_ediv_of_nonneg _ (by exact Int.le_of_lt (Int.pow_pos (by decide)));rw[e];rfl
def v1(G:a0)(k:Nat)(l:List Int):Bool:=l.all λi=>fS (G.at_ i).dn k&& !pi G (G.at_ i)
theorem amc(g:eX h ae ai b G)(cH:G.dE)(dC:List Int)(w:E)(hw:hn 3 w (gl dC))(O2:dC.length<=1000)(EX:∀i∈dC,G.has i=O)(k:Nat)(Z:k<64)(dL cn du gJ:E)(K:List i'):∀(l pre:List Int) (a:Bool) (F:ag) (fi fz hs:E),dC=pre++l->aB h F->∃gF eB O3 O4,bB (aQ ap W) 12 (.e' IZ::.bP []::.cm 2::K) [.ptr b 0 0,dL,cn,w,du,.int j (k:Int),.bool a,.int j (pre.length:Int),fi,gJ,fz,hs] [] F=bB (aQ ap W) 12 K [.ptr b 0 0,dL,cn,w,du,.int j (k:Int),.bool (a&&v1 G k l),eB,O3,gJ,O4,hs] [] gF/\aB h gF:=by
 intro l;induction l with
 |nil=>
   intro pre a F fi fz hs e a8;rw[cV IZ.eq_1];have bf:¬((pre.length:Int)<(dC.length:Int)):=by rw[e];simp
   refine⟨F,.int j (pre.length:Int),fi,.bool T,?_,a8⟩;simp only[ak,aq,ar,al,cb,hw.len,hw.fits,fa,bf,v1,List.all_nil]
 |cons i l aZ=>
   intro pre a F fi fz hs e a8;have fu:=g.hb a8;obtain⟨aL,dm,J,R, -⟩:=fu.ex;have bf:(pre.length:Int)<(dC.length:Int):=by rw[e];simp;omega
   have amd:=EX i (by rw[e];simp);obtain⟨m,rfl,hm,uQ⟩:=a0.ER amd;have eV:=hw.bV j pre.length [.int j (m:Int)] (by rw[e];simp);have v2:=R.ed.bV j m _ uQ;have Jb:G.at_ (m:Int)=G.nodes.getD m gN:=rfl;have mU:aB h (F.push [cQ (G.nodes.getD m gN)]):=a8.trans (aB.push _ _);have og:=eL (n:=(pre.length:Int)+1) (by omega) (by omega);have hE:b≠F.n:=by have:=fu.ab.2;omega
   have jU:=alM (g.hb mU);have ax:((pre++[(m:Int)]).length:Int)=(pre.length:Int)+1:=by simp
   have q':=O1 (h:=F.push [cQ (G.nodes.getD m gN)]) (G.nodes.getD m gN).dn k Z;obtain⟨gF,eB,O3,O4,bH,bR⟩:=aZ (pre++[(m:Int)]) (a&&(fS (G.nodes.getD m gN).dn k&& !pi G (G.nodes.getD m gN))) (F.push [cQ (G.nodes.getD m gN)]) (.ptr F.n 0 0) (.bool O) hs (by simp[e]) mU;refine⟨gF,eB,O3,O4,?_,bR⟩;rw[ax]at bH;rw[cV IZ.eq_1];generalize G.nodes.getD m gN=n at*;have EY:v1 G k ((m:Int)::l)=((fS n.dn k&& !pi G n)&&v1 G k l):=by simp only[v1,pO,Jb]
   rw[EY,<-Bool.and_assoc,<-bH];have kV:pi G n=(decide (0<=n.gate)&& !G.vU n.gate):=rfl;by_cases aj:n.gate<0
   ·have sj:¬(0<=n.gate):=by omega
    cases a<;>cases ab:fS n.dn k<;>simp only[ak,aq,ar,al,cb,hw.len,hw.fits,fa,bf,eV,v2,J,kM,tk hE,q',ab,aj,sj,kV,og]
   ·have sj:0<=n.gate:=by omega
    cases a<;>cases ab:fS n.dn k<;>cases iY:G.vU n.gate<;>simp only[ak,aq,ar,al,cb,hw.len,hw.fits,fa,bf,eV,v2,J,kM,tk hE,q',ab,aj,sj,kV,og,jU,iY]
def rC(G:a0)(dC:List Int)(k:Nat):Int:=((i7 k).map λD=>if v1 G D dC then(2:Int) ^ D else 0).sum
theorem O5(G:a0)(dC:List Int)(k:Nat):rC G dC (k+1)=rC G dC k+(if v1 G k dC then(2:Int) ^ k else 0):=by simp[rC,List.range_succ]
theorem W5(G:a0)(dC:List Int):∀k,0<=rC G dC k/\rC G dC k<2 ^ k
 |0=>by simp[rC]
 |k+1=>by
   have:=W5 G dC k;have R:(2:Int) ^ (k+1)=2 ^ k+2 ^ k:=by rw[Int.pow_succ];omega
   rw[O5,R];split<;>omega
theorem ame(g:eX h ae ai b G)(cH:G.dE)(dC:List Int)(w:E)(hw:hn 3 w (gl dC))(O2:dC.length<=1000)(OU:dC≠[])(EX:∀i∈dC,G.has i=O)(dL:E):∀(d k:Nat) (F:ag) (dd eB fi gJ fz hs:E),k+d=4->aB h F->lT O [.v 2] h (bB (aQ ap W) 12 [.e' f9,.bP [],.cm 0,.bP [.ops [fb,jv],.ret]] [.ptr b 0 0,dL,.int j 0,w,.int j (rC G dC k),.int j (k:Int),dd,eB,fi,gJ,fz,hs] [] F)=o (.inl (.int j (rC G dC 4)),h):=by
 intro d;induction d with
 |zero=>
   intro k F dd eB fi gJ fz hs Z a8;obtain rfl:k=4:=by omega
   rw[cV f9.eq_1];have aD:((4:Nat):Int)=4:=rfl;simp only[ak,aq,ar,al,cb,aD,Int.lt_irrefl,dI a8 (rfl:c7 (.int j (rC G dC 4))=_)]
 |succ d aZ=>
   intro k F dd eB fi gJ fz hs Z a8;have bf:(k:Int)<4:=by omega
   have nn:(0:Int)<(dC.length:Int):=by have:0<dC.length:=List.length_pos_iff.2 OU;omega
   have Hz:=W5 G dC k;have axl:(2:Int) ^ k<=16:=by
    have:k=0\/k=1\/k=2\/k=3:=by omega
    rcases this with rfl|rfl|rfl|rfl<;>decide
   have rt:(0:Int)<(2:Int) ^ k:=Int.pow_pos (by decide);have gA:kK j (1*2 ^ k:Int)=2 ^ k:=by rw[Int.one_mul];exact eL (by omega) (by omega)
   have xx:=eL (n:=rC G dC k+2 ^ k) (by omega) (by omega);have uT:=eL (n:=(k:Int)+1) (by omega) (by omega);have W6:∀eI,en eI .shl (.int j 1) (.int .u64 (k:Int))=o (.int j (kK j (1*2 ^ k))):=λeI=>amb (by simp[IntKind.bits];omega);have au:((k+1:Nat):Int)=(k:Int)+1:=by omega
   obtain⟨gF,sk,u8,W7,bH,bR⟩:=amc g cH dC w hw O2 EX k (by omega) dL (.int j 0) (.int j (rC G dC k)) (.bool O) [.bP [.ops [(.i (.v 11) (.a4 (.v 6)))],.cond (.v 11) [.ops [fb,hK,OC,(.i .l (.bin (.int j) .shl (.c (.int j 1)) (.l 0))),(.i .l (.bin (.int j) .add (.l 3) (.l 0))),jl]] []],.cm 1,.bP [.ops [hK,ry,jT]],.e' f9,.bP [],.cm 0,.bP [.ops [fb,jv],.ret]] dC [] O F fi fz hs rfl a8;simp only[gf,k6,Bool.true_and]at bH;rw[cV f9.eq_1];cases aX:v1 G k dC
   ·have:=aZ (k+1) gF (.bool T) sk u8 (.bool O) W7 (.bool T) (by omega) bR;rw[O5,aX,au]at this;simp only[l9,if_false,Int.add_zero]at this;simp only[ak,aq,ar,al,cb,bf,hw.len,hw.fits,fa,nn,bH,aX,O0 (k:=k) (by omega),W6,gA,xx,uT,this]
   ·have:=aZ (k+1) gF (.bool O) sk u8 (.bool O) W7 (.bool O) (by omega) bR;rw[O5,aX,au]at this;simp only[if_true]at this;simp only[ak,aq,ar,al,cb,bf,hw.len,hw.fits,fa,nn,bH,aX,O0 (k:=k) (by omega),W6,gA,xx,uT,this]
theorem amf(G:a0)(k:Nat)(i:Int):v1 G k (G.jD i)=An G (G.path i) k:=by unfold v1 An;rw[<-a0.Am,List.all_map];rfl
theorem W8(g:eX h ae ai b G)(cH:G.dE)(i:Int):aQ ap W 152 [.ptr b 0 0,.int j i] h=o (.inl (.int j (G.dn i)),h):=by
 refine a2 alo rfl ?_;unfold WI;have am:=uH 3 (gl (G.jD i));have Ao:=a0.I' cH i;rw[<-aly cH i];by_cases aN:G.jD i=[]
 ·have aH:G.path i=[]:=by rw[<-a0.Am,aN];rfl
  have hlen:(G.jD i).length=0:=by rw[aN];rfl
  have ao:Cv G i 4=0:=by unfold Cv;rw[if_pos aH]
  have amg:(0:Int)<4:=by decide
  rw[ao];simp only[ak,aq,ar,al,Ja g cH];rw[cV f9.eq_1];simp only[ak,aq,ar,al,cb,am.len,am.fits,fa,hlen,k6,Int.lt_irrefl,amg]
 ·have aH:G.path i≠[]:=by intro e;rw[<-a0.Am]at e;exact aN (List.map_eq_nil_iff.1 e)
  have ao:Cv G i 4=rC G (G.jD i) 4:=by unfold Cv rC;rw[if_neg aH];simp only[amf]
  rw[ao];have:=ame g cH (G.jD i) (i2 3 (gl (G.jD i))) am (by omega) aN (a0.OO i) (.int j i) 4 0 h .az .az .az .az .az .az rfl (aB.refl h);have aj:rC G (G.jD i) 0=0:=rfl;rw[aj]at this;simp only[ak,aq,ar,al,Ja g cH];exact this
end
def e5.ints(n:e5):List Int:=[n.parent,n.gate,n.dn,n.cell,n.bI,n.func]
instance:DecidableEq e5:=λa b=>decidable_of_iff (a.ints=b.ints) ⟨λe=>by cases a;cases b;simp[e5.ints]at e;simp[e],λe=>by rw[e]⟩
section
variable{h:ag}
theorem amh(n m:e5):pH [.int j,.int j,.int j,.int j,.int j,.int j] (cQ n) (cQ m)=o (decide (n=m)):=by
 unfold cQ;simp only[pH,if_true,hF,pZ];congr 1;rw[Bool.eq_iff_iff];simp only[hx,beq_iff_eq,decide_eq_true_eq];constructor
 ·rintro⟨J,R,ah,aD,bo,b9⟩;cases n;cases m
  simp_all
 ·rintro rfl;exact⟨rfl,rfl,rfl,rfl,rfl,rfl⟩
theorem W9(n m:e5)(eI:jP)(gQ:Bool):oG eI (o [.int j,.int j,.int j,.int j,.int j,.int j]) gQ .neq (.agg (cQ n)) (.agg (cQ m))=o (.bool (!decide (n=m))):=by simp only[oG,c2,amh,hF]
theorem ami(l m:List e5)(v w:E)(U:hn iN v (l.map cQ))(hw:hn iN w (m.map cQ))(am:l.length<=1000):∀(r bj pre EZ:List e5) (t1 t2 t3:E),l=pre++r->m=EZ++bj->pre.length=EZ.length->r.length=bj.length->lT O [.v 2] h (bB (aQ ap W) 7 [.e' IT,.bP [],.cm 0,.bP [.ops [Jc],.ret]] [v,w,.bool T,.int j pre.length,t1,t2,t3] [] h)=o (.inl (.bool (decide (r=bj))),h):=by
 intro r;induction r with
 |nil=>
   intro bj pre EZ t1 t2 t3 e dG aH ao;obtain rfl:bj=[]:=pR.1 ao.symm;rw[cV IT.eq_1];have bf:¬((pre.length:Int)<(l.length:Int)):=by rw[e];simp
   simp only[ak,aq,ar,al,cb,U.len,U.fits,fa,bf]
 |cons i r aZ=>
   intro bj pre EZ t1 t2 t3 e dG aH ao;obtain⟨ik,bj,rfl⟩:∃ik s,bj=ik::s:=by cases bj with|nil=>simp at ao|cons a s=>exact⟨a,s,rfl⟩
   rw[cV IT.eq_1];have bf:(pre.length:Int)<(l.length:Int):=by rw[e];simp;omega
   have eV:=U.bV j pre.length (cQ i) (by rw[e];simp);have v2:=hw.bV j pre.length (cQ ik) (by rw[dG,aH];simp);have og:=eL (n:=(pre.length:Int)+1) (by omega) (by omega);have ax:((pre++[i]).length:Int)=(pre.length:Int)+1:=by simp
   cases a7:decide (i=ik)
   ·have an:decide (i::r=ik::bj)=T:=by
     have:¬i=ik:=by simpa using a7
     simp[this]
    simp only[ak,aq,ar,al,cb,U.len,U.fits,fa,bf,eV,v2,kM,W9,a7,an]
   ·have:=aZ bj (pre++[i]) (EZ++[ik]) t1 (.bool O) (.bool T) (by simp[e]) (by simp[dG]) (by simp[aH]) (by simpa using ao);rw[ax]at this;have an:decide (i::r=ik::bj)=decide (r=bj):=by
     have:i=ik:=by simpa using a7
     simp[this]
    simp only[ak,aq,ar,al,cb,U.len,U.fits,fa,bf,eV,v2,kM,W9,a7,og,this,an]
theorem amj(l m:List e5)(v w:E)(U:hn iN v (l.map cQ))(hw:hn iN w (m.map cQ))(am:l.length<=1000):aQ ap W 14 [v,w] h=o (.inl (.bool (decide (l=m))),h):=by
 refine a2 alk rfl ?_;unfold Wo;cases a7:decide ((l.length:Int)=(m.length:Int))
 ·have di:decide (l=m)=T:=by simp at a7 ⊢;intro e;rw[e]at a7;exact a7 rfl
  simp only[ak,aq,ar,al,U.len,U.fits,hw.len,hw.fits,fa,a7,di]
 ·have:=ami (h:=h) l m v w U hw am l m [] [] (.bool T) .az .az rfl rfl rfl (by simp at a7;omega);simp only[gf,k6]at this;simp only[ak,aq,ar,al,U.len,U.fits,hw.len,hw.fits,fa,a7];exact this
end
theorem fN.same{h:ag}{ae ai:Nat->Prop}{b:Nat}{G:a0}(g:eX h ae ai b G):fN h ae ai b h G:=⟨ae,ai,g,lW.refl _ _ _,λ_=>.inl,λ_=>.inl⟩
theorem fN.hb{h F:ag}{ae ai:Nat->Prop}{b:Nat}{G:a0}(g:eX h ae ai b G)(x:aB h F):fN h ae ai b F G:=⟨ae,ai,g.hb x,x.uJ _ _,λ_=>.inl,λ_=>.inl⟩
theorem fN.after{h J R:ag}{ae ai:Nat->Prop}{b:Nat}{cN:a0}(x:aB h J)(d:fN J ae ai b R cN):fN h ae ai b R cN:=by obtain⟨lu,lv,g,c,dt,gs⟩:=d;have:=x.n;have:=x.ids;exact⟨lu,lv,g,(x.uJ ae ai).trans c,λk Z=>(dt k Z).imp id (by omega),λD aa=>(gs D aa).imp id (by omega)⟩
section
variable{h:ag}{ae ai:Nat->Prop}{b:Nat}{G:a0}
theorem W'(h:ag){ae:Nat->Prop}{b:Nat}{dm:E}{l:List Bool}(g:xm h ae b p3 dm (l.map λx=>[.bool x]))(am:l.length<=1000):∃F bs,eU O p3 dm (.bn h.n 0 1 p3) (h.push [[.bool T]])=o (bs,F)/\hX bs=o (l.length+1)/\(∀s,j3 s (o p3) bs=O)/\bs.one=O/\bs.cells=[bs]/\F.ids=h.ids/\F.hw=h.hw/\F.n=h.n+2/\F.cell (h.n+1)=o ((l++[T]).map λx=>[.bool x])/\bs= .bn (h.n+1) 0 (l.length+1) p3/\∀k,k<h.n->¬(ae k/\k≠b)->F.cell k=h.cell k:=by
 have dV:iT (h.push [[.bool T]]) p3 (.bn h.n 0 1 p3)=o [[.bool T]]:=by simp[iT,iG]
 rcases g with⟨J,rfl⟩|⟨q,J,R,ah,aD,rfl⟩
 ·have s6:l=[]:=by simpa using J
  subst s6;refine⟨(h.push [[.bool T]]).push [[.bool T]],.bn (h.n+1) 0 1 p3,?_,rfl,λs=>Ej,rfl,rfl,rfl,rfl,rfl,?_,rfl,λk Z _=>?_⟩
  ·simp[eU,dV,jX,E.one,ey]
  ·simp[ag.push]
  ·simp[ag.push,show k≠h.n by omega,show k≠h.n+1 by omega]
 ·have aW:q≠h.n:=by omega
  refine⟨((h.push [[.bool T]]).set q ad).push ((l.map λx=>[.bool x])++[[.bool T]]),.bn (h.n+1) 0 (l.length+1) p3,?_,rfl,λs=>Ej,rfl,rfl,rfl,rfl,rfl,?_,rfl,λk Z sl=>?_⟩
  ·have au:(h.push [[.bool T]]).cell q=o (l.map λx=>[.bool x]):=by rw[tk aW];exact aD
   simp only[eU,dV,c2,gM,sd,if_false,jX,fa];rw[if_pos ⟨by omega,by omega,rfl⟩,if_pos ⟨trivial,trivial,by omega⟩,au];have ax:List.take l.length (l.map λx=>[E.bool x])=l.map λx=>[.bool x]:=List.take_of_length_le (by simp);simp[ey,ax]
  ·simp[ag.push,ag.set]
  ·have:k≠q:=λe=>sl (by subst e;exact⟨J,R⟩);simp[ag.push,ag.set,show k≠h.n by omega,show k≠h.n+1 by omega,this]
theorem Xa{F:ag}{aL:E}(g:eX h ae ai b G)(R:xl h ai iN aL (G.nodes.map cQ))(au:F.ids=h.ids)(ax:F.hw=h.hw)(bc:F.n=h.n+2)(bY:F.cell (h.n+1)=o ((G.shut++[T]).map λx=>[.bool x]))(cU:bs= .bn (h.n+1) 0 (G.shut.length+1) p3)(lB:∀k,k<h.n->¬(ae k/\k≠b)->F.cell k=h.cell k):fN h ae ai b (F.set b (o [[aL,bs]])) ⟨G.nodes,G.shut++[T]⟩:=by
 have hE:=g.ab.2;refine⟨λk=>k=b\/k=h.n+1,ai,⟨⟨.inl rfl,by rw[ny,bc];omega⟩,⟨by rintro k (rfl|rfl)<;>(rw[ny,bc];omega),λD aa=>by rw[Ek,au];exact g.lt.2 D aa⟩,aL,bs,k1,?_,.inr ⟨h.n+1,.inr rfl,by omega,by rw[ny,bc];omega,by rw[eu (by omega)];exact bY,?_⟩⟩,⟨by rw[ny,bc];omega,by rw[Ek,au];omega,λk Z dt=>?_,λD aa gs=>by rw[El,ax]⟩,?_,λ_=>.inl⟩
 ·rcases R with R|⟨id,aR,ja,a5,bp,cA⟩
  ·exact .inl R
  ·exact .inr ⟨id,aR,ja,by rw[Ek,au];exact a5,by rw[El,ax];exact bp,cA⟩
 ·rw[cU];simp
 ·have:k≠b:=λe=>dt (by rw[e];exact g.ab.1);rw[eu this];exact lB k Z λx=>dt x.1
 ·rintro k (rfl|rfl)
  ·exact .inl g.ab.1
  ·exact .inr (by omega)
theorem Xb(g:eX h ae ai b G)(cH:G.dE):∃F,aQ ap W 63 [.ptr b 0 0] h=o (.inl (.bU [.int j G.gate.2.1,.int j G.gate.2.2]),F)/\fN h ae ai b F G.gate.1:=by
 obtain⟨aL,dm,J,R,ah⟩:=g.ex;have amk:=cH.eW;cases a7:decide ((G.shut.length:Int)=20)
 ·have di:¬G.shut.length=20:=by simp at a7;omega
  have ee:G.gate=(⟨G.nodes,G.shut++[T]⟩,(G.shut.length:Int),0):=by unfold a0.gate;rw[if_neg di]
  obtain⟨F,bs,aR,a5,bp,cA,et,i3,tv,uU,As,O6,E0⟩:=W' h ah (by omega);have hE:b≠h.n:=by have:=g.ab.2;omega
  have E1:F.cell b=o [[aL,dm]]:=(E0 b g.ab.2 (λx=>x.2 rfl)).trans J;have og:kK j (((G.shut.length+1:Nat):Int) - 1)=(G.shut.length:Int):=by rw[eL]<;>omega
  refine⟨F.set b (o [[aL,bs]]),?_,by rw[ee];exact Xa g R i3 tv uU As O6 E0⟩;rw[ee];refine a2 Vw rfl ?_;unfold Od;simp only[ak,aq,ar,al,J,ah.len.1,ah.len.2,fa,a7,aR,E1,cA,et,a5,bp,og]
 ·have he:G.shut.length=20:=by simp at a7;omega
  have ee:G.gate=(G,0,11):=by unfold a0.gate;rw[if_pos he]
  refine⟨h,?_,by rw[ee];exact fN.same g⟩;rw[ee];refine a2 Vw rfl ?_;unfold Od;simp only[ak,aq,ar,al,J,ah.len.1,ah.len.2,fa,a7]
theorem Xc(g:eX h ae ai b G)(cH:G.dE):∃F,aQ ap W 68 [.ptr b 0 0] h=o (.inl (.bU [.int j G.gate.2.1,.int j G.gate.2.2]),F)/\fN h ae ai b F G.gate.1:=by
 obtain⟨aL,dm,J,R,ah⟩:=g.ex;have amk:=cH.eW;cases a7:decide (20<=(G.shut.length:Int))
 ·have di:¬G.shut.length=20:=by simp at a7;omega
  have ee:G.gate=(⟨G.nodes,G.shut++[T]⟩,(G.shut.length:Int),0):=by unfold a0.gate;rw[if_neg di]
  obtain⟨F,bs,aR,a5,bp,cA,et,i3,tv,uU,As,O6,E0⟩:=W' h ah (by omega);have hE:b≠h.n:=by have:=g.ab.2;omega
  have E1:F.cell b=o [[aL,dm]]:=(E0 b g.ab.2 (λx=>x.2 rfl)).trans J;have og:kK j (((G.shut.length+1:Nat):Int) - 1)=(G.shut.length:Int):=by rw[eL]<;>omega
  refine⟨F.set b (o [[aL,bs]]),?_,by rw[ee];exact Xa g R i3 tv uU As O6 E0⟩;rw[ee];refine a2 Wp rfl ?_;unfold OD;simp only[ak,aq,ar,al,J,ah.len.1,ah.len.2,fa,a7,aR,E1,cA,et,a5,bp,og]
 ·have he:G.shut.length=20:=by simp at a7;omega
  have ee:G.gate=(G,0,11):=by unfold a0.gate;rw[if_pos he]
  refine⟨h,?_,by rw[ee];exact fN.same g⟩;rw[ee];refine a2 Wp rfl ?_;unfold OD;simp only[ak,aq,ar,al,J,ah.len.1,ah.len.2,fa,a7]
theorem Xd{aL dm:E}(g:eX h ae ai b G)(J:h.cell b=o [[aL,dm]])(R:xl h ai iN aL (G.nodes.map cQ)){m q:Nat}(hm:m<G.shut.length)(au:ae q)(ax:q≠b)(bc:q<h.n)(bY:dm= .bn q 0 G.shut.length p3):fN h ae ai b (h.set q (o ((G.shut.map λx=>[E.bool x]).set m [.bool O]))) ⟨G.nodes,G.shut.set m O⟩:=by
 refine⟨ae,ai,⟨⟨g.ab.1,g.ab.2⟩,g.lt,aL,dm,by rw[eu (lP ax)];exact J,?_,.inr ⟨q,au,ax,bc,by rw[k1,List.map_set],by rw[bY];simp⟩⟩,⟨b4 _,b4 _,λk Z dt=>eu (λe=>dt (by rw[e];exact au)),λ_ _ _=>rfl⟩,λ_=>.inl,λ_=>.inl⟩;rcases R with R|⟨id,aR,ja,a5,bp,cA⟩
 ·exact .inl R
 ·exact .inr ⟨id,aR,ja,a5,bp,cA⟩
theorem Xe(g:eX h ae ai b G)(k:Int):∃F,aQ ap W 62 [.ptr b 0 0,.int j k] h=o (.inl (.int j (G.cut k).2),F)/\fN h ae ai b F (G.cut k).1:=by
 obtain⟨aL,dm,J,R,ah⟩:=g.ex;cases bC:G.lh k
 ·have ee:G.cut k=(G,8):=by unfold a0.cut;rw[if_neg (by simp[bC])]
  rw[ee];refine⟨h,?_,fN.same g⟩;refine a2 VC rfl ?_;unfold Og;simp only[ak,aq,ar,al,ES g,bC]
 ·obtain⟨m,rfl,hm⟩:=a0.I5 bC;have ee:G.cut (m:Int)=(⟨G.nodes,G.shut.set m O⟩,0):=by unfold a0.cut;rw[if_pos bC];simp
  obtain⟨q,au,ax,bc,bY,cU,lB,km⟩:=I4 ah hm;rw[ee];refine⟨_,?_,Xd g J R hm bY cU lB km⟩;refine a2 VC rfl ?_;unfold Og;simp only[ak,aq,ar,al,ES g,bC,J,au,ax,bc]
theorem Xf(g:eX h ae ai b G)(k:Int):∃F,aQ ap W 67 [.ptr b 0 0,.int j k] h=o (.inl (.int j (G.cut k).2),F)/\fN h ae ai b F (G.cut k).1:=by
 obtain⟨aL,dm,J,R,ah⟩:=g.ex;cases bC:G.lh k
 ·have ee:G.cut k=(G,8):=by unfold a0.cut;rw[if_neg (by simp[bC])]
  rw[ee];refine⟨h,?_,fN.same g⟩;refine a2 Ws rfl ?_;unfold OE;simp only[ak,aq,ar,al,ET g,bC]
 ·obtain⟨m,rfl,hm⟩:=a0.I5 bC;have ee:G.cut (m:Int)=(⟨G.nodes,G.shut.set m O⟩,0):=by unfold a0.cut;rw[if_pos bC];simp
  obtain⟨q,au,ax,bc,bY,cU,lB,km⟩:=I4 ah hm;rw[ee];refine⟨_,?_,Xd g J R hm bY cU lB km⟩;refine a2 Ws rfl ?_;unfold OE;simp only[ak,aq,ar,al,ET g,bC,J,au,ax,bc]
theorem Xg(h:ag){ai:Nat->Prop}{aL:E}{rows:List (List E)}(g:xl h ai iN aL rows){row:List E}(ao:row.all E.one=O)(am:rows.length<=1000):∃F bs,eU T iN aL (.b0 (o h.ids) iN [row]) (h.fresh 1)=o (bs,F)/\hX bs=o (rows.length+1)/\(∀s,j3 s (o iN) bs=O)/\bs.one=O/\bs.cells=[bs]/\F.cell=h.cell/\F.n=h.n/\h.ids<=F.ids/\(∃id,(ai id\/h.ids<=id)/\id<F.ids/\F.hw id=rows.length+1/\bs= .b0 (o id) iN (rows++[row])/\∀D,D<h.ids->¬ai D->F.hw D=h.hw D):=by
 have hG:[row].all (·.all E.one)=O:=by simpa using ao
 rcases g with⟨rfl,rfl⟩|⟨id,aR,ja,a5,bp,rfl⟩
 ·refine⟨(h.fresh 1).fresh 1,.b0 (o (h.ids+1)) iN [row],?_,rfl,λs=>Ei,rfl,rfl,rfl,rfl,by simp[ag.fresh];omega,h.ids+1,.inr (by omega),by simp[ag.fresh],by simp[ag.fresh],by simp,λD aa _=>by simp[ag.fresh,show D≠h.ids by omega,show D≠h.ids+1 by omega]⟩;simp only[eU,iT,if_true,c2,gM,sd,if_false,jX];rw[if_pos ⟨by omega,by omega,hG⟩];rfl
 ·have di:id≠h.ids:=by omega
  refine⟨(h.fresh 1).grow id (rows.length+1),.b0 (o id) iN (rows++[row]),?_,by simp[hX],λs=>Ei,rfl,rfl,rfl,rfl,by simp[ag.fresh,ag.grow],id,.inl aR,by simp[ag.fresh,ag.grow];omega,by simp[ag.grow],rfl,λD aa gs=>?_⟩
  ·simp only[eU,iT,if_true,c2,gM,sd,if_false,jX];rw[if_pos ⟨by omega,by omega,hG⟩,Em di,bp,if_pos ⟨trivial,rfl,by omega⟩]
  ·have J:D≠id:=λe=>gs (by rw[e];exact aR);simp[ag.grow,ag.fresh,J,show D≠h.ids by omega]
theorem Xh{F:ag}{dm:E}{n:e5}(g:eX h ae ai b G)(ah:xm h ae b p3 dm (G.shut.map λx=>[.bool x]))(au:F.cell=h.cell)(ax:F.n=h.n)(dV:h.ids<=F.ids)(bc:∃id,(ai id\/h.ids<=id)/\id<F.ids/\F.hw id=G.nodes.length+1/\bs= .b0 (o id) iN (G.nodes.map cQ++[cQ n])/\∀D,D<h.ids->¬ai D->F.hw D=h.hw D):fN h ae ai b (F.set b (o [[bs,dm]])) ⟨G.nodes++[n],G.shut⟩:=by
 obtain⟨id,aR,a5,bp,cA,et⟩:=bc;refine⟨ae,λD=>D=id,⟨⟨g.ab.1,by rw[ny,ax];exact g.ab.2⟩,⟨λk Z=>by rw[ny,ax];exact g.lt.1 k Z,λD aa=>by rw[aa];exact a5⟩,bs,dm,k1,.inr ⟨id,rfl,by simp,a5,by rw[El,bp];simp,by rw[cA];simp⟩,?_⟩,⟨by rw[ny,ax];exact b4 _,by rw[Ek];exact dV,λk Z dt=>?_,λD aa gs=>by rw[El];exact et D aa gs⟩,λ_=>.inl,λD aa=>by rw[aa];exact aR⟩
 ·rcases ah with ah|⟨q,cg,dw,fW,qE,jE⟩
  ·exact .inl ah
  ·exact .inr ⟨q,cg,dw,by rw[ny,ax];exact fW,by rw[eu dw,au];exact qE,jE⟩
 ·rw[eu (λe=>dt (by rw[e];exact g.ab.1)),au]
theorem O7(g:eX h ae ai b G)(cH:G.dE)(n:e5):∃F,aQ ap W 97 [.ptr b 0 0,.agg (cQ n)] h=o (.inl (.bU [.int j (G.add n).2.1,.int j (G.add n).2.2]),F)/\fN h ae ai b F (G.add n).1:=by
 have pk:=aB.push h [cQ n];have da:=g.hb pk;have hE:h.n≠b:=by have:=g.ab.2;omega
 obtain⟨aL,dm,J,R,ah⟩:=da.ex;have Ao:=cH.p2;have m7:=ES da;unfold a0.add
 skip
 cases an:qI n.dn
 ·rw[if_pos rfl];refine⟨h.push [cQ n],?_,fN.hb g pk⟩;refine a2 Cp rfl ?_;unfold Ag;simp only[ak,aq,ar,al,kM,Cw,an]
 ·rw[if_neg (by simp)];have stop:(n.gate≠ -1/\G.lh n.gate=T)\/(n.gate= -1\/G.lh n.gate=O):=by
   by_cases e:n.gate= -1
   ·exact .inr (.inl e)
   ·cases bC:G.lh n.gate
    ·exact .inl ⟨e,rfl⟩
    ·exact .inr (.inr rfl)
  rcases stop with aC|aC
  ·rw[if_pos aC];refine⟨h.push [cQ n],?_,fN.hb g pk⟩;obtain⟨bg,aV⟩:=aC;refine a2 Cp rfl ?_;unfold Ag;simp only[ak,aq,ar,al,kM,Cw,an,m7,bg,aV]
  ·have w7:¬(n.gate≠ -1/\G.lh n.gate=T):=by
    rintro⟨a,b⟩;rcases aC with aC|aC
    ·exact a aC
    ·rw[b]at aC;cases aC
   rw[if_neg w7];have iZ:decide (n.gate= -1)=O\/decide (n.gate= -1)=T/\G.lh n.gate=O:=by
    rcases aC with aC|aC
    ·exact .inl (by simp[aC])
    ·by_cases e:n.gate= -1
     ·exact .inl (by simp[e])
     ·exact .inr ⟨by simp[e],aC⟩
   cases a7:decide ((G.nodes.length:Int)=80)
   ·have di:¬G.nodes.length=80:=by simp at a7;omega
    rw[if_neg di];obtain⟨F,bs,aR,a5,bp,cA,et,i3,tv,uU,As⟩:=Xg (h.push [cQ n]) R (row:=cQ n) rfl (by simp;omega);have og:kK j (((G.nodes.length+1:Nat):Int) - 1)=(G.nodes.length:Int):=by rw[eL]<;>omega
    refine⟨F.set b (o [[bs,dm]]),?_,fN.after pk (Xh da ah i3 tv uU (by simpa using As))⟩;simp only[i4,fa]at aR a5;rcases iZ with iZ|⟨iZ,qP⟩
    ·refine a2 Cp rfl ?_;unfold Ag;simp only[ak,aq,ar,al,bW,kM,Cw,an,iZ,a7,J,R.ed.len,R.ed.fits,fa,aR,a5,bp,cA,et,i3,og]
    ·refine a2 Cp rfl ?_;unfold Ag;simp only[ak,aq,ar,al,bW,kM,Cw,an,m7,iZ,qP,a7,J,R.ed.len,R.ed.fits,fa,aR,a5,bp,cA,et,i3,og]
   ·have he:G.nodes.length=80:=by simp at a7;omega
    rw[if_pos he];refine⟨h.push [cQ n],?_,fN.hb g pk⟩;rcases iZ with iZ|⟨iZ,qP⟩
    ·refine a2 Cp rfl ?_;unfold Ag;simp only[ak,aq,ar,al,kM,Cw,an,iZ,a7,J,R.ed.len,R.ed.fits,fa]
    ·refine a2 Cp rfl ?_;unfold Ag;simp only[ak,aq,ar,al,kM,Cw,an,m7,iZ,qP,a7,J,R.ed.len,R.ed.fits,fa]
theorem O8(g:eX h ae ai b G)(cH:G.dE)(n:e5):∃F,aQ ap W 99 [.ptr b 0 0,.agg (cQ n)] h=o (.inl (.bU [.int j (G.add n).2.1,.int j (G.add n).2.2]),F)/\fN h ae ai b F (G.add n).1:=by
 have pk:=aB.push h [cQ n];have da:=g.hb pk;have hE:h.n≠b:=by have:=g.ab.2;omega
 obtain⟨aL,dm,J,R,ah⟩:=da.ex;have Ao:=cH.p2;have m7:=ET da;unfold a0.add
 skip
 cases an:qI n.dn
 ·rw[if_pos rfl];refine⟨h.push [cQ n],?_,fN.hb g pk⟩;refine a2 Cs rfl ?_;unfold Ak;have ki:decide (n.dn<0)=O\/decide (n.dn<0)=T/\decide (15<n.dn)=O:=by simp[qI]at an;simp only[decide_eq_true_eq,decide_eq_false_iff_not];omega
  rcases ki with ki|⟨ki,iC⟩
  ·simp only[ak,aq,ar,al,kM,ki]
  ·simp only[ak,aq,ar,al,kM,ki,iC]
 ·rw[if_neg (by simp)];have lb:decide (n.dn<0)=T:=by simp[qI]at an;simp;omega
  have xa:decide (15<n.dn)=T:=by simp[qI]at an;simp;omega
  have stop:(n.gate≠ -1/\G.lh n.gate=T)\/(n.gate= -1\/G.lh n.gate=O):=by
   by_cases e:n.gate= -1
   ·exact .inr (.inl e)
   ·cases bC:G.lh n.gate
    ·exact .inl ⟨e,rfl⟩
    ·exact .inr (.inr rfl)
  rcases stop with aC|aC
  ·rw[if_pos aC];refine⟨h.push [cQ n],?_,fN.hb g pk⟩;obtain⟨bg,aV⟩:=aC;refine a2 Cs rfl ?_;unfold Ak;simp only[ak,aq,ar,al,kM,lb,xa,m7,bg,aV]
  ·have w7:¬(n.gate≠ -1/\G.lh n.gate=T):=by
    rintro⟨a,b⟩;rcases aC with aC|aC
    ·exact a aC
    ·rw[b]at aC;cases aC
   rw[if_neg w7];have iZ:decide (n.gate= -1)=O\/decide (n.gate= -1)=T/\G.lh n.gate=O:=by
    rcases aC with aC|aC
    ·exact .inl (by simp[aC])
    ·by_cases e:n.gate= -1
     ·exact .inl (by simp[e])
     ·exact .inr ⟨by simp[e],aC⟩
   cases a7:decide (80<=(G.nodes.length:Int))
   ·have di:¬G.nodes.length=80:=by simp at a7;omega
    rw[if_neg di];obtain⟨F,bs,aR,a5,bp,cA,et,i3,tv,uU,As⟩:=Xg (h.push [cQ n]) R (row:=cQ n) rfl (by simp;omega);have og:kK j (((G.nodes.length+1:Nat):Int) - 1)=(G.nodes.length:Int):=by rw[eL]<;>omega
    refine⟨F.set b (o [[bs,dm]]),?_,fN.after pk (Xh da ah i3 tv uU (by simpa using As))⟩;simp only[i4,fa]at aR a5;rcases iZ with iZ|⟨iZ,qP⟩
    ·refine a2 Cs rfl ?_;unfold Ak;simp only[ak,aq,ar,al,bW,kM,lb,xa,iZ,a7,J,R.ed.len,R.ed.fits,fa,aR,a5,bp,cA,et,i3,og]
    ·refine a2 Cs rfl ?_;unfold Ak;simp only[ak,aq,ar,al,bW,kM,lb,xa,m7,iZ,qP,a7,J,R.ed.len,R.ed.fits,fa,aR,a5,bp,cA,et,i3,og]
   ·have he:G.nodes.length=80:=by simp at a7;omega
    rw[if_pos he];refine⟨h.push [cQ n],?_,fN.hb g pk⟩;rcases iZ with iZ|⟨iZ,qP⟩
    ·refine a2 Cs rfl ?_;unfold Ak;simp only[ak,aq,ar,al,kM,lb,xa,iZ,a7,J,R.ed.len,R.ed.fits,fa]
    ·refine a2 Cs rfl ?_;unfold Ak;simp only[ak,aq,ar,al,kM,lb,xa,m7,iZ,qP,a7,J,R.ed.len,R.ed.fits,fa]
end
section
variable{h F aj:ag}{ae ai aJ aG:Nat->Prop}{X Y c1:b6}{L:List b6}
theorem gw.same(x:X.A h ae ai):gw h ae ai h X:=⟨ae,ai,x,lW.refl _ _ _,λ_=>.inl,λ_=>.inl⟩
theorem gw.imp(uV:∀h ae ai,X.A h ae ai->Y.A h ae ai)(d:gw h ae ai F X):gw h ae ai F Y:=by obtain⟨lu,lv,x,r⟩:=d;exact⟨lu,lv,uV _ _ _ x,r⟩
theorem gw.chain(gr:lW aJ aG aj h)(a:∀k,ae k->aJ k\/aj.n<=k)(b:∀D,ai D->aG D\/aj.ids<=D)(d:gw h ae ai F Y):gw aj aJ aG F Y:=by
 obtain⟨dX,ec,y,bu,a5,dw⟩:=d;refine⟨dX,ec,y,gr.then bu a b,λk Z=>?_,λD aa=>?_⟩
 ·rcases a5 k Z with h|h
  ·exact a k h
  ·exact .inr (e7 gr.n h)
 ·rcases dw D aa with h|h
  ·exact b D h
  ·exact .inr (e7 gr.ids h)
theorem Xi(x:(it X c1).A h ae ai)(c:∀ez eA,X.A h ez eA->∃F,cF F/\gw h ez eA F Y):∃F,cF F/\gw h ae ai F (it Y c1):=by
 obtain⟨ez,eA,dX,ec,b3,z,dt,gs,p4,p5⟩:=x;obtain⟨F,r,pm,pn,y,cd,bp,fW⟩:=c ez eA b3;have lR:=c1.lt z;refine⟨F,r,λk=>pm k\/dX k,λD=>pn D\/ec D,⟨pm,pn,dX,ec,y,c1.g2 z cd (λk Z J=>p4 k J Z) (λD aa J=>p5 D J aa),λ_=>nF,λ_=>nF,λk ah R=>?_,λD ah R=>?_⟩,?_,λk Z=>?_,λD aa=>?_⟩
 ·rcases bp k ah with h|h
  ·exact p4 k h R
  ·have:=lR.1 k R;omega
 ·rcases fW D ah with h|h
  ·exact p5 D h R
  ·have:=lR.2 D R;omega
 ·exact⟨cd.n,cd.ids,λk Z aE=>cd.cell k Z λJ=>aE ((dt k).2 (.inl J)),λD aa aE=>cd.hw D aa λJ=>aE ((gs D).2 (.inl J))⟩
 ·rcases Z with h|h
  ·exact(bp k h).imp (λh=>(dt k).2 (.inl h)) id
  ·exact .inl ((dt k).2 (.inr h))
 ·rcases aa with h|h
  ·exact(fW D h).imp (λh=>(gs D).2 (.inl h)) id
  ·exact .inl ((gs D).2 (.inr h))
theorem E2(x:(it X Y).A h ae ai):(it Y X).A h ae ai:=by obtain⟨ez,eA,dX,ec,b3,z,dt,gs,p4,p5⟩:=x;exact⟨dX,ec,ez,eA,z,b3,λk=>(dt k).trans or_comm,λD=>(gs D).trans or_comm,λk R J=>p4 k J R,λD R J=>p5 D J R⟩
theorem E3(x:(it (it X Y) c1).A h ae ai):(it X (it Y c1)).A h ae ai:=by
 obtain⟨ez,eA,dX,ec,⟨pm,pn,tw,tx,f',nu,O9,O',aml,amm⟩,z,dt,gs,p4,p5⟩:=x;refine⟨pm,pn,λk=>tw k\/dX k,λD=>tx D\/ec D,f',⟨tw,tx,dX,ec,nu,z,λ_=>nF,λ_=>nF,λk aD=>p4 k ((O9 k).2 (.inr aD)),λD aD=>p5 D ((O' D).2 (.inr aD))⟩,λk=>?_,λD=>?_,λk ah h=>?_,λD ah h=>?_⟩
 ·rw[dt k,O9 k,or_assoc]
 ·rw[gs D,O' D,or_assoc]
 ·rcases h with h|h
  ·exact aml k ah h
  ·exact p4 k ((O9 k).2 (.inl ah)) h
 ·rcases h with h|h
  ·exact amm D ah h
  ·exact p5 D ((O' D).2 (.inl ah)) h
theorem yX(x:(it X (it Y c1)).A h ae ai):(it Y (it X c1)).A h ae ai:=by have a:=E3 (E2 x);obtain⟨ez,eA,dX,ec,y,amn,r⟩:=a;exact⟨ez,eA,dX,ec,y,E2 amn,r⟩
theorem rD{qz vC:b6}(aw:∀h ae ai,X.A h ae ai->qz.A h ae ai)(bE:∀h ae ai,Y.A h ae ai->vC.A h ae ai)(x:(it X Y).A h ae ai):(it qz vC).A h ae ai:=by obtain⟨ez,eA,dX,ec,b3,fs,r⟩:=x;exact⟨ez,eA,dX,ec,aw _ _ _ b3,bE _ _ _ fs,r⟩
def aK(aj:ag)(aJ aG:Nat->Prop)(h:ag)(L:List b6):Prop:=gw aj aJ aG h (cf L)
theorem aK.perm{pV:List b6}(aH:List.Perm L pV):∀{h ae ai},(cf L).A h ae ai->(cf pV).A h ae ai:=by
 induction aH with
 |nil=>exact λx=>x
 |cons X _ aZ=>exact λx=>rD (λ_ _ _ y=>y) (λ_ _ _ y=>aZ y) x
 |swap X Y l=>exact λx=>yX x
 |trans _ _ yh oy=>exact λx=>oy (yh x)
theorem cf.front:∀{L:List b6} {i:Nat} {X:b6},L[i]? =o X->∀{h ae ai},(cf L).A h ae ai↔(it X (cf (L.eraseIdx i))).A h ae ai
 |[],i,X,af,_,_,_=>by simp at af
 |Y::L,0,X,af,h,ae,ai=>by
   obtain rfl:Y=X:=by simpa using af
   exact nF
 |Y::L,i+1,X,af,h,ae,ai=>by
   have aZ:∀{h:ag} {ae ai:Nat->Prop},(cf L).A h ae ai↔(it X (cf (L.eraseIdx i))).A h ae ai:=cf.front (by simpa using af);constructor
   ·intro x;exact yX (rD (λ_ _ _ y=>y) (λ_ _ _ y=>aZ.1 y) x)
   ·intro x;exact rD (λ_ _ _ y=>y) (λ_ _ _ y=>aZ.2 y) (yX x)
theorem cf.back{i:Nat}(af:i<L.length)(x:(it X (cf (L.eraseIdx i))).A h ae ai):(cf (L.set i X)).A h ae ai:=by rw[cf.front (L:=L.set i X) (i:=i) (X:=X) (by simp[af])];rw[show(L.set i X).eraseIdx i=L.eraseIdx i from List.eraseIdx_set_eq];exact x
theorem aK.call(s:aK aj aJ aG h L)(i:Nat)(af:L[i]? =o X)(c:∀ae ai,X.A h ae ai->∃F,cF F/\gw h ae ai F Y):∃F,cF F/\aK aj aJ aG F (L.set i Y):=by have am:i<L.length:=(fQ.1 af).1;obtain⟨ae,ai,x,gr,a,b⟩:=s;obtain⟨F,r,d⟩:=Xi ((cf.front af).1 x) c;exact⟨F,r,gw.chain gr a b (d.imp λ_ _ _ y=>cf.back am y)⟩
theorem aK.start(x:(cf L).A h ae ai):aK h ae ai h L:=gw.same x
theorem aK.get(s:aK aj aJ aG h L)(i:Nat)(af:L[i]? =o X):∃ae ai,X.A h ae ai:=by obtain⟨ae,ai,x,_⟩:=s;obtain⟨ez,eA,_,_,b3,_⟩:=(cf.front af).1 x;exact⟨ez,eA,b3⟩
theorem aK.cell(s:aK aj aJ aG h L)(i:Nat){b:Nat}{es:List (List E)}(af:L[i]? =o (aY b es)):h.cell b=o es/\b<h.n:=by obtain⟨_,_,_,_,c,d⟩:=s.get i af;exact⟨d,c⟩
theorem aK.imp{pV:List b6}(s:aK aj aJ aG h L)(aw:∀h ae ai,(cf L).A h ae ai->(cf pV).A h ae ai):aK aj aJ aG h pV:=gw.imp aw s
theorem aK.hb(s:aK aj aJ aG h L)(g:aB h F):aK aj aJ aG F L:=by obtain⟨ae,ai,x,gr,a,b⟩:=s;have lt:=(cf L).lt x;exact⟨ae,ai,(cf L).g2 x (g.uJ (λ_=>False) λ_=>False) (λ_ _ h=>h) (λ_ _ h=>h),gr.trans (g.uJ _ _),a,b⟩
theorem aK.add(s:aK aj aJ aG h L)(g:aB h F){ez eA:Nat->Prop}(b3:X.A F ez eA)(dt:∀k,ez k->h.n<=k)(gs:∀D,eA D->h.ids<=D):aK aj aJ aG F (X::L):=by
 obtain⟨ae,ai,x,gr,a,b⟩:=s;have lt:=(cf L).lt x;have kc:=(cf L).g2 x (g.uJ (λ_=>False) λ_=>False) (λ_ _ h=>h) (λ_ _ h=>h);refine⟨λk=>ez k\/ae k,λD=>eA D\/ai D,⟨ez,eA,ae,ai,b3,kc,λ_=>nF,λ_=>nF,λk J R=>?_,λD J R=>?_⟩,gr.trans (g.uJ _ _),λk Z=>?_,λD aa=>?_⟩
 ·have:=lt.1 k R;have:=dt k J;omega
 ·have:=lt.2 D R;have:=gs D J;omega
 ·exact Z.elim (λh=>.inr (e7 gr.n (dt k h))) (a k)
 ·exact aa.elim (λh=>.inr (e7 gr.ids (gs D h))) (b D)
theorem aK.push(s:aK aj aJ aG h L)(es:List (List E)):aK aj aJ aG (h.push es) (aY h.n es::L):=s.add (aB.push h es) (ez:=λk=>k=h.n) (eA:=λ_=>False) ⟨λ_=>nF,λ_ h=>h,Nat.lt_succ_self _,iG⟩ (λk Z=>qA Z.symm) (λ_ h=>h.elim)
theorem aK.fresh(s:aK aj aJ aG h L)(m:Nat):aK aj aJ aG (h.fresh m) (Ev h.ids m::L):=s.add (aB.fresh h m) (ez:=λ_=>False) (eA:=λD=>D=h.ids) ⟨λ_ h=>h,λ_=>nF,Nat.lt_succ_self _,by simp[ag.fresh]⟩ (λ_ h=>h.elim) (λD aa=>qA aa.symm)
theorem aK.set(s:aK aj aJ aG h L)(i:Nat){b:Nat}{es:List (List E)}(af:L[i]? =o (aY b es))(dD:List (List E)):aK aj aJ aG (h.set b (o dD)) (L.set i (aY b dD)):=by obtain⟨F,rfl,d⟩:=s.call (cF:=λq=>q=h.set b (o dD)) i af (Y:=aY b dD) λae ai ⟨aR,a5,bp,cA⟩=>⟨_,rfl,ae,ai,⟨aR,a5,bp,k1⟩,⟨b4 _,b4 _,λk _ Z=>eu λe=>Z ((aR k).2 e),λ_ _ _=>rfl⟩,λ_=>.inl,λ_=>.inl⟩;exact d
theorem aK.del(s:aK aj aJ aG h L)(i:Nat){b:Nat}(af:L[i]? =o (aY b es)):aK aj aJ aG (h.set b ad) (L.set i (vV True)):=by obtain⟨F,rfl,d⟩:=s.call (cF:=λq=>q=h.set b ad) i af (Y:=vV True) λae ai ⟨aR,a5,bp,cA⟩=>⟨_,rfl,λ_=>False,λ_=>False,⟨trivial,λ_ h=>h,λ_ h=>h⟩,⟨b4 _,b4 _,λk _ Z=>eu λe=>Z ((aR k).2 e),λ_ _ _=>rfl⟩,λ_ h=>h.elim,λ_ h=>h.elim⟩;exact d
theorem aK.drop(s:aK aj aJ aG h (X::L)):aK aj aJ aG h L:=by obtain⟨ae,ai,⟨ez,eA,dX,ec,_,dH,dt,gs,_,_⟩,gr,a,b⟩:=s;exact⟨dX,ec,dH,gr,λk Z=>a k ((dt k).2 (.inr Z)),λD aa=>b D ((gs D).2 (.inr aa))⟩
end
open Go Go.ChangeShapes Go.WideShapes Go.ChangeAt Go.RowKit Go.Deep
def m8(P:cT):Nat->a6->List E->Prop
 |0,_,_=>False
 |n+1,t,cs=>match P.underlying t with
   |some .bool=>∃b,cs=[.bool b]
   |some (.int k)=>∃z,cs=[.int k z]/\(Lit.int k z).wf=O
   |some .string=>∃s,cs=[.str s]/\s.length<=maxLen
   |some (.slice e)=>cs=[.aA]\/∃es,cs=[.b0 ad e es]/\es.length<=maxLen/\∀r∈es,r.length=P.cellsOf e/\m8 P n e r
   |some (.struct dD)=>∃parts:List (List E),cs=parts.flatten/\parts.length=dD.size/\∀(i:Nat) (f:Field),dD[i]? =o f->∃p,parts[i]? =o p/\p.length=P.cellsOf f.type/\m8 P n f.type p
   |_=>False
def yY(P:cT):Nat->List Field->Nat->Bool
 |I,[],m=>I==m
 |I,f::r,m=>f.offset==I&&yY P (I+P.cellsOf f.type) r m
def Pa(P:cT)(S:List a6):Bool:=S.all λt=>match P.underlying t with
 |some .bool|some (.int _)|some .string=>O
 |some (.slice e)=>S.contains e&&P.cellsOf e != 0
 |some (.struct dD)=>yY P 0 dD.toList (P.cellsOf t)&&dD.toList.all λf=>S.contains f.type
 |_=>T
theorem Xj{P:cT}:∀{l:List Field} {I m:Nat},yY P I l m=O->I<=m
 |[],I,m,h=>by simp[yY]at h;omega
 |f::r,I,m,h=>by simp only[yY,hx]at h;have:=Xj h.2;omega
section
variable{H:Type}{enc:a6×b1->H}{P:cT}{dC:dy}{S:List a6}
theorem Xk{n:Nat}(aZ:∀t cs x,t∈S->DataW.trod enc P dC 0 (λ_=>O) O n t cs=o x->∃tu,m8 P n t tu/\dT P (uS dC) rA tu cs):∀(v3:List Field) (I m:Nat) (cs:List b1),yY P I v3 m=O->cs.length=m->(∀f∈v3,f.type∈S/\∃x,DataW.trod enc P dC 0 (λ_=>O) O n f.type ((cs.drop f.offset).take (P.cellsOf f.type))=o x)->∃parts:List (List E),parts.length=v3.length/\(∀(i:Nat) (f:Field),v3[i]? =o f->∃p,parts[i]? =o p/\p.length=P.cellsOf f.type/\m8 P n f.type p)/\dT P (uS dC) rA parts.flatten (cs.drop I)
 |[],I,m,cs,h,an,bl=>by simp only[yY,beq_iff_eq]at h;refine⟨[],rfl,λi f af=>by simp at af,?_⟩;rw[List.drop_eq_nil_of_le (by omega)];exact dT.nil
 |f::v3,I,m,cs,h,an,bl=>by
   simp only[yY,hx,beq_iff_eq]at h;obtain⟨J,R⟩:=h;have hle:=Xj R;obtain⟨aC,x,aw⟩:=bl f (by simp);obtain⟨p,pb,E4⟩:=aZ _ _ _ aC aw;obtain⟨parts,bM,bL,de⟩:=Xk aZ v3 (I+P.cellsOf f.type) m cs R an (λg a8=>bl g (by simp[a8]));rw[J]at E4;have am:p.length=P.cellsOf f.type:=by have:=E4.1;rw[pN,List.length_drop]at this;omega
   refine⟨p::parts,by simp[bM],?_,?_⟩
   ·intro i g af;cases i with
    |zero=>
      obtain rfl:f=g:=by simpa using af
      exact⟨p,rfl,am,pb⟩
    |succ i=>exact bL i g (by simpa using af)
   ·have e:cs.drop I=(cs.drop I).take (P.cellsOf f.type)++cs.drop (I+P.cellsOf f.type):=by rw[<-List.drop_drop,List.take_append_drop]
    rw[e,List.flatten_cons];exact dT.append E4 de
theorem Pb(cO:Pa P S=O):∀(fuel:Nat) (t:a6) (cs:List b1) (x:DataW H×List MemPlace),t∈S->DataW.trod enc P dC 0 (λ_=>O) O fuel t cs=o x->∃tu,m8 P fuel t tu/\dT P (uS dC) rA tu cs
 |0,t,cs,x,_,h=>by simp[DataW.trod]at h
 |n+1,t,cs,x,a3,h=>by
   have Xl:=cO;have an:=jq.1 cO t a3;simp only[m8];split at an
   ·rename_i bQ;obtain⟨b,rfl, -⟩:=DataW.trod_bool bQ h;exact⟨_,⟨b,rfl⟩,dT.cons (.bool b) dT.nil⟩
   ·rename_i k bQ;obtain⟨z,rfl, -,hw⟩:=DataW.trod_int bQ h;exact⟨_,⟨z,rfl,hw⟩,dT.cons (.int k z) dT.nil⟩
   ·rename_i bQ;obtain⟨s,rfl, -,hw⟩:=DataW.trod_string bQ h;exact⟨_,⟨s.data.toList,rfl,by simpa using hw⟩,dT.cons (al6 s) dT.nil⟩
   ·rename_i e bQ;simp only[hx,bne_iff_ne,ne_eq,List.contains_iff_mem]at an;rcases DataW.trod_slice bQ h with⟨rfl, -⟩|⟨a,len,cap,elems,rest,b',aE,rfl, -,ab,am,hm,hlen,Xm, -, -⟩
    ·exact⟨_,Or.inl rfl,dT.cons .aA dT.nil⟩
    ·obtain rfl:n=b':=by omega
     have key:∀i,i<len->∃q:List E×List b1,dC.cells? 0 (a.add (i*P.cellsOf e)) (P.cellsOf e)=o q.2/\m8 P n e q.1/\dT P (uS dC) rA q.1 q.2:=by intro i af;have J:=Xm i af;rw[fr (by omega)]at J;obtain⟨g3,R,ah⟩:=dK.1 J;obtain⟨tu,aD,bo⟩:=Pb Xl n e g3 _ an.1 ah;exact⟨(tu,g3),R,aD,bo⟩
     obtain⟨V,yW⟩:=choose_lt key;have Jd:∀i,i<len->(V i).1.length=P.cellsOf e/\(V i).2.length=P.cellsOf e:=λi af=>by obtain⟨J,R,ah⟩:=yW i af;have:=(World.cells?_some J).2.1;exact⟨by rw[<-this,ah.1],this⟩
     refine⟨_,Or.inr ⟨(i7 len).map λi=>(V i).1,rfl,by simp;omega,?_⟩,dT.cons ?_ dT.nil⟩
     ·intro r ao;obtain⟨i,af,rfl⟩:=o8.1 ao;have af:=j1.1 af;exact⟨(Jd i af).1,(yW i af).2.1⟩
     ·by_cases aN:len=0
      ·subst aN;exact .nS e a cap
      ·have aX:a=⟨a.block,a.off,ad⟩:=by obtain⟨J,R,ah⟩:=yW 0 (by omega);have:=(World.cells?_some J).2.2 0 (by omega);rw[fr (by rw[(Jd 0 (by omega)).2];omega)]at this;have Xn:=World.cell?_spot this;obtain⟨b,I,afy⟩:=a;simp[Addr.add]at Xn;subst Xn;rfl
       have:=bX.b0 (P:=P) (m:=uS dC) (h:=rA) ad e ((i7 len).map λi=>(V i).1) a.block a.off cap (λi D=>(V i).2.getD D default) (λr ao=>?_) (λi af D aa=>?_) (λi af D aa=>?_) (by simpa using am) (λq aW=>by cases aW)
       ·rw[<-aX]at this;simpa using this
       ·obtain⟨i,af,rfl⟩:=o8.1 ao;exact(Jd i (j1.1 af)).1
       ·simp only[fa,List.length_range]at af;obtain⟨J,R,ah⟩:=yW i af;have aD:=(World.cells?_some J).2.2 D aa;rw[Go.Deep.add_add,aX,qt]at aD;have bo:D<(V i).2.length:=by rw[(Jd i af).2];exact aa
        rw[fr bo]at aD;show dC.cell? _=_;rw[aD];simp[dz,bo]
       ·simp only[fa,List.length_range]at af;obtain⟨J,R,ah⟩:=yW i af;simp only[List.getElem_map,List.getElem_range]at aa ⊢;have bo:D<(V i).2.length:=by rw[ah.1];exact aa
        have:=ah.2 D aa bo;simpa[dz,bo]using this
   ·rename_i dD bQ;simp only[hx,jq,List.contains_iff_mem]at an;obtain⟨xs,b',aE, -,am,rg,bl⟩:=DataW.trod_struct bQ h;obtain rfl:n=b':=by omega
    obtain⟨parts,bM,bL,de⟩:=Xk (S:=S) (n:=n) (λt cs x a3 h=>Pb Xl n t cs x a3 h) dD.toList 0 (P.cellsOf t) cs an.1 am (λf hm=>⟨an.2 f hm,by
     obtain⟨i,af⟩:=List.mem_iff_getElem?.1 hm;rw[rc]at af;have J:=bl i f af;have R:=(Array.getElem?_eq_some_iff.1 af).1;rw[fr (by omega)]at J;exact⟨_,J⟩⟩)
    exact⟨_,⟨parts,rfl,by simpa using bM,λi f af=>bL i f (by rw[rc];exact af)⟩,by simpa using de⟩
   ·cases an
theorem amo{t e:a6}(cO:Pa P S=O)(hm:t∈S)(bQ:P.underlying t=o (.slice e)){v:b1}{d:DataW H}{p:List MemPlace}{r:Reach}{hR:Nat}(rl:Value.okWide P dC r hR t v)(h:DataW.Trod enc P dC 0 (λ_=>O) O t v d p):∃n yZ,m8 P n t [yZ]/\bX P (uS dC) rA yZ v:=by
 obtain⟨a,len,cap,rfl⟩:=okWide_slice bQ rl;obtain⟨fuel,bl⟩:=h;obtain⟨tu,J,R⟩:=Pb cO fuel t _ _ hm bl;have am:=R.1
 match tu,am with
 |[yZ],_=>exact⟨fuel,yZ,J,R.2 0 (by simp) (by simp[Value.cells])⟩
end
section
variable{P:cT}{t e:a6}{cs:List E}
theorem uW{n:Nat}{k:gx}(bQ:P.underlying t=o (.int k))(h:m8 P n t cs):∃z,cs=[.int k z]/\(Lit.int k z).wf=O:=by
 cases n with
 |zero=>exact h.elim
 |succ n=>simpa only[m8,bQ]using h
def Pc(e:a6)(v:E)(es:List (List E)):Prop:=(es=[]/\v= .aA)\/v= .b0 ad e es
theorem Pd{n:Nat}(bQ:P.underlying t=o (.slice e))(h:m8 P n t cs):∃m v es,n=m+1/\cs=[v]/\Pc e v es/\es.length<=maxLen/\∀r∈es,r.length=P.cellsOf e/\m8 P m e r:=by
 cases n with
 |zero=>exact h.elim
 |succ n=>
   simp only[m8,bQ]at h;rcases h with rfl|⟨es,rfl,J,R⟩
   ·exact⟨n,.aA,[],rfl,rfl,.inl ⟨rfl,rfl⟩,by simp,λr ao=>by simp at ao⟩
   ·exact⟨n,_,es,rfl,rfl,.inr rfl,J,R⟩
def E5(P:cT)(t:a6):Option (List a6):=match P.underlying t with
 |some (.struct dD)=>o (dD.toList.map (·.type))
 |_=>ad
theorem Pe{n:Nat}{cw:List a6}(bQ:E5 P t=o cw)(h:m8 P n t cs):∃m,n=m+1/\∃parts:List (List E),cs=parts.flatten/\parts.length=cw.length/\∀(i:Nat) (dF:a6),cw[i]? =o dF->∃p,parts[i]? =o p/\p.length=P.cellsOf dF/\m8 P m dF p:=by
 cases n with
 |zero=>exact h.elim
 |succ n=>
   unfold E5 at bQ;simp only[m8]at h;split at bQ
   ·rename_i dD bl;cases bQ;rw[bl]at h;obtain⟨parts,J,R,ah⟩:=h;refine⟨n,rfl,parts,J,by simpa using R,λi dF af=>?_⟩;rw[vF]at af;obtain⟨f,aD,bo⟩:=dN.1 af;subst bo;exact ah i f (by rw[<-rc];exact aD)
   ·cases bQ
theorem amp{α:Type}{l:List α}(h:l.length=1):∃a,l=[a]:=by
 match l,h with
 |[a],_=>exact⟨a,rfl⟩
theorem amq{α:Type}{l:List α}(h:l.length=2):∃a b,l=[a,b]:=by
 match l,h with
 |[a,b],_=>exact⟨a,b,rfl⟩
theorem amr{α:Type}{l:List α}(h:l.length=3):∃a b c,l=[a,b,c]:=by
 match l,h with
 |[a,b,c],_=>exact⟨a,b,c,rfl⟩
theorem ams{α:Type}{l:List α}(h:l.length=4):∃a b c d,l=[a,b,c,d]:=by
 match l,h with
 |[a,b,c,d],_=>exact⟨a,b,c,d,rfl⟩
end
theorem fo.ed{e:a6}{v:E}(h:fo e v es):hn e v es:=by
 rcases h with⟨rfl,rfl⟩|⟨id,rfl⟩
 ·exact Ik e
 ·exact En _ _ _
theorem Pc.Cy{e:a6}{v:E}(h:Pc e v es):fo e v es:=by
 rcases h with h|h
 ·exact .inl h
 ·exact .inr ⟨_,h⟩
theorem c8.len:∀{l:List av} {es:List (List E)},c8 l es->es.length=l.length
 |[],es,h=>by simp only[c8]at h;subst h;rfl
 |x::l,es,h=>by simp only[c8]at h;obtain⟨r,rs,rfl,_,R⟩:=h;simp[c8.len R]
theorem c8.get:∀{l:List av} {es:List (List E)} {i:Nat} {x:av},c8 l es->l[i]? =o x->∃r,es[i]? =o r/\bT x r
 |[],es,i,x,h,aw=>by simp at aw
 |y::l,es,i,x,h,aw=>by
   simp only[c8]at h;obtain⟨r,rs,rfl,J,R⟩:=h;cases i with
   |zero=>
     obtain rfl:y=x:=by simpa using aw
     exact⟨r,rfl,J⟩
   |succ i=>simpa using c8.get R (by simpa using aw)
theorem c8.append{l:List av}{x:av}{r:List E}(h:c8 l es)(aw:bT x r):c8 (l++[x]) (es++[r]):=by
 induction l generalizing es with
 |nil=>simp only[c8]at h;subst h;simp[c8,aw]
 |cons y l aZ=>simp only[c8]at h;obtain⟨q,rs,rfl,J,R⟩:=h;exact⟨q,rs++[r],rfl,J,aZ R⟩
theorem bT.row{x:av}{r:List E}(h:bT x r):∃v es,r=[.int j x.kind,.int j x.n,v]/\fo bG v es/\c8 x.l es:=by
 cases x with
 |mk kind n l=>simp only[bT]at h;exact h
theorem bT.one{x:av}{r:List E}(h:bT x r):r.all E.one=O/\r.length=3:=by obtain⟨v,es,rfl,U,_⟩:=h.row;rcases U with⟨_,rfl⟩|⟨id,rfl⟩<;>exact⟨rfl,rfl⟩
mutual
theorem E6:∀{x:av} {r:List E},bT x r->∃bj,o0 r=o bj/\bT x bj
 |.mk kind n l,r,h=>by
   simp only[bT]at h;obtain⟨v,es,rfl,U,am⟩:=h;obtain⟨gk,J,R⟩:=Je am;rcases U with⟨rfl,rfl⟩|⟨id,rfl⟩
   ·exact⟨_,rfl,by simp only[bT];exact⟨_,[],rfl,.inl ⟨rfl,rfl⟩,am⟩⟩
   ·refine⟨[.int j kind,.int j n,.b0 ad bG gk],?_,?_⟩
    ·simp only[o0,c7,J,hF]
    ·simp only[bT];exact⟨_,gk,rfl,.inr ⟨_,rfl⟩,R⟩
theorem Je:∀{l:List av} {es:List (List E)},c8 l es->∃gk,qs es=o gk/\c8 l gk
 |[],es,h=>by simp only[c8]at h;subst h;exact⟨[],rfl,rfl⟩
 |x::l,es,h=>by simp only[c8]at h;obtain⟨r,rs,rfl,J,R⟩:=h;obtain⟨bj,bM,bL⟩:=E6 J;obtain⟨sb,de,fv⟩:=Je R;exact⟨bj::sb,by simp only[qs,bM,de],by simp only[c8];exact⟨bj,sb,rfl,bL,fv⟩⟩
end
structure oh(h:ag)(v:E)(l:List av):Prop where
 len:hX v=o l.length
 fits:∀s,j3 s (o bG) v=O
 one:v.one=O
 bV:∀(i:Nat) (y:av),l[i]? =o y->∃a q,dO (o bG) ad v (.int j (i:Int))=o a/\(∀F,aB h F->cS O 3 F a=o (.agg q))/\bT y q
theorem oh.hb{h F:ag}{v:E}{l:List av}(m:oh h v l)(g:aB h F):oh F v l:=⟨m.len,m.fits,m.one,λi y bE=>by obtain⟨a,q,J,R,ah⟩:=m.bV i y bE;exact⟨a,q,J,λgF fu=>R gF (g.trans fu),ah⟩⟩
theorem oh.of{h:ag}{v:E}{l:List av}(U:fo bG v es)(am:c8 l es):oh h v l:=by
 refine⟨?_,U.ed.fits,?_,λi y bE=>?_⟩
 ·rw[<-am.len];exact U.ed.len
 ·rcases U with⟨_,rfl⟩|⟨id,rfl⟩<;>rfl
 ·obtain⟨q,J,R⟩:=am.get bE;exact⟨.ip q 0,q,U.ed.bV j i q J,λF _=>gX R.one.2,R⟩
theorem bT.mk{x:av}{v:E}(U:fo bG v es)(am:c8 x.l es):bT x [.int j x.kind,.int j x.n,v]:=by rw[x.eta];simp only[bT];exact⟨v,es,rfl,U,by simpa[av.l]using am⟩
theorem bT.facts{x:av}{r:List E}(h:bT x r):∃v es,r=[.int j x.kind,.int j x.n,v]/\hn bG v es/\v.one=O/\es.length=x.l.length/\∀(i:Nat) (y:av),x.l[i]? =o y->∃q,dO (o bG) ad v (.int j (i:Int))=o (.ip q 0)/\gO O 3 q 0=o (.agg q)/\bT y q:=by
 obtain⟨v,es,rfl,U,am⟩:=h.row;refine⟨v,es,rfl,U.ed,?_,am.len,λi y bE=>?_⟩
 ·rcases U with⟨_,rfl⟩|⟨id,rfl⟩<;>rfl
 ·obtain⟨q,J,R⟩:=am.get bE;exact⟨q,U.ed.bV j i q J,gX R.one.2,R⟩
abbrev fH:a6:=126
abbrev mi:a6:=127
theorem bT.cD{x:av}{r:List E}(h:bT x r):r.length=3/\r.all E.one=O:=by
 cases x with
 |mk k n l=>obtain⟨v,es,rfl,J,_⟩:=h;rcases J with⟨_,rfl⟩|⟨id,rfl⟩<;>exact⟨rfl,rfl⟩
theorem c8.app:∀{l m:List av} {es dD:List (List E)},c8 l es->c8 m dD->c8 (l++m) (es++dD)
 |[],m,es,dD,h,g=>by simp only[c8]at h;subst h;exact g
 |x::l,m,es,dD,h,g=>by obtain⟨r,rs,rfl,J,R⟩:=h;exact⟨r,rs++dD,rfl,J,c8.app R g⟩
theorem c8.one{x:av}{r:List E}(h:bT x r):c8 [x] [r]:=⟨r,[],rfl,h,rfl⟩
theorem c8.take:∀{l:List av} {es:List (List E)},c8 l es->∀n,c8 (l.take n) (es.take n)
 |[],_,h,n=>by simp only[c8]at h;subst h;simp[c8]
 |y::l,es,h,n=>by
   obtain⟨r,rs,rfl,J,R⟩:=h;cases n with
   |zero=>simp[c8]
   |succ n=>exact⟨r,rs.take n,rfl,J,c8.take R n⟩
def amt(e:a6)(v:E)(rows:List (List E)):b6:=Vg (vV (rows=[]/\v= .aA)) (uM λq:Nat×List (List E)=>xn (v= .bn q.1 0 rows.length e/\rows.length<=q.2.length/\rows=q.2.take rows.length) (aY q.1 q.2))
def h4(v:E)(l:List av):b6:=uM λrows:List (List E)=>xn (c8 l rows) (amt bG v rows)
def g7(f:iO)(a:List E)(s n g:E):List E:=[.int j f.bI,.int j f.f,.int j (f.bO:Int)]++a++[s,n,.bool f.asked,g]
def At(row:List E)(f:iO):b6:=uM λq:List E×E×E×E=>xn (row=g7 f q.1 q.2.1 q.2.2.1 q.2.2.2/\bT f.arg q.1/\fo 3 q.2.2.2 (gl f.eW)) (it (h4 q.2.1 f.stack) (h4 q.2.2.1 f.names))
def sm:List (List E)->List iO->b6
 |[],[]=>vV True
 |r::rs,f::dD=>it (At r f) (sm rs dD)
 |_,_=>vV False
def jc(bw aO bk:Nat)(left:Int)(below:List iO)(top:iO):b6:=uM λq:List (List E)×List E×List (List E)=>
 it (aY bw [[.ptr aO 0 0,.bn bk 0 (below.length+1) fH,.int j left]]) (it (aY bk (q.1++q.2.1::q.2.2)) (it (At q.2.1 top) (sm q.1 below)))
section
variable{h F aj:ag}{ae ai aJ aG:Nat->Prop}{L:List b6}{bw aO bk:Nat}{left:Int}{below:List iO}{top:iO}
theorem Pf:∀{rs:List (List E)} {dD:List iO} {h:ag} {ae ai:Nat->Prop},(sm rs dD).A h ae ai->rs.length=dD.length
 |[],[],_,_,_,_=>rfl
 |r::rs,f::dD,_,_,_,h=>by obtain⟨_,_,_,_,_,y,_⟩:=h;simp[Pf y]
 |[],_::_,_,_,_,h=>h.1.elim
 |_::_,[],_,_,_,h=>h.1.elim
theorem cf.nil(ae ai:Nat->Prop)(h:ag)(dt:∀k,¬ae k)(gs:∀D,¬ai D):(cf []).A h ae ai:=⟨trivial,dt,gs⟩
theorem cf.two{X Y:b6}(x:(it X Y).A h ae ai):(cf [X,Y]).A h ae ai:=by obtain⟨ez,eA,dX,ec,b3,y,dt,gs,p4,p5⟩:=x;exact⟨ez,eA,dX,ec,b3,⟨dX,ec,λ_=>False,λ_=>False,y,⟨trivial,λ_ h=>h,λ_ h=>h⟩,λk=>by simp,λD=>by simp,λ_ _ h=>h,λ_ _ h=>h⟩,dt,gs,p4,p5⟩
theorem cf.one{X:b6}(x:X.A h ae ai):(cf [X]).A h ae ai:=⟨ae,ai,λ_=>False,λ_=>False,x,⟨trivial,λ_ h=>h,λ_ h=>h⟩,λk=>by simp,λD=>by simp,λ_ _ h=>h,λ_ _ h=>h⟩
theorem cf.Cz{X:b6}(x:(cf [X]).A h ae ai):X.A h ae ai:=by
 obtain⟨ez,eA,dX,ec,b3,⟨_,au,ax⟩,dt,gs,_,_⟩:=x;have bc:ae=ez:=by funext k;exact propext ((dt k).trans ⟨λh=>h.resolve_right (au k),.inl⟩)
 have bY:ai=eA:=by funext D;exact propext ((gs D).trans ⟨λh=>h.resolve_right (ax D),.inl⟩)
 rw[bc,bY];exact b3
theorem cf.Xo{X Y:b6}(x:(cf (it X Y::L)).A h ae ai):(cf (X::Y::L)).A h ae ai:=E3 x
theorem E7{X Y c1:b6}(x:(it X (it Y c1)).A h ae ai):(it (it X Y) c1).A h ae ai:=E2 (E3 (E2 (E3 (E2 x))))
theorem cf.Xp{X Y:b6}(x:(cf (X::Y::L)).A h ae ai):(cf (it X Y::L)).A h ae ai:=E7 x
abbrev E8(bw aO bk:Nat)(left:Int)(below:List iO)(top:iO)(rs ex:List (List E))(a:List E)(s n g:E):List b6:=[aY bw [[.ptr aO 0 0,.bn bk 0 (below.length+1) fH,.int j left]],aY bk (rs++g7 top a s n g::ex),h4 s top.stack,h4 n top.names,sm rs below]
theorem Au(x:(jc bw aO bk left below top).A h ae ai):∃rs ex a s n g,rs.length=below.length/\bT top.arg a/\fo 3 g (gl top.eW)/\aK h ae ai h (E8 bw aO bk left below top rs ex a s n g):=by obtain⟨⟨rs,row,ex⟩,x⟩:=x;obtain⟨ez,eA,dX,ec,b3,⟨pm,pn,tw,tx,f',⟨y0,y1,y2,y3,⟨⟨a,s,n,g⟩,⟨e,aX,a8⟩,ha⟩,jw,Av⟩,jV⟩,bR⟩:=x;simp only at e;subst e;refine⟨rs,ex,a,s,n,g,Pf jw,aX,a8,aK.start ?_⟩;exact⟨ez,eA,dX,ec,b3,⟨pm,pn,tw,tx,f',cf.Xo (L:=[sm rs below]) ⟨y0,y1,y2,y3,ha,cf.one jw,Av⟩,jV⟩,bR⟩
theorem amu{rs ex:List (List E)}{a:List E}{s n g:E}(aX:bT top.arg a)(a8:fo 3 g (gl top.eW))(x:(cf (E8 bw aO bk left below top rs ex a s n g)).A h ae ai):(jc bw aO bk left below top).A h ae ai:=by obtain⟨ez,eA,dX,ec,b3,⟨pm,pn,tw,tx,f',hI,jV⟩,bR⟩:=x;obtain⟨y0,y1,y2,y3,ha,jw,Av⟩:=cf.Xp (X:=h4 s top.stack) (Y:=h4 n top.names) (L:=[sm rs below]) hI;exact⟨⟨rs,g7 top a s n g,ex⟩,ez,eA,dX,ec,b3,⟨pm,pn,tw,tx,f',⟨y0,y1,y2,y3,⟨⟨a,s,n,g⟩,⟨rfl,aX,a8⟩,ha⟩,cf.Cz jw,Av⟩,jV⟩,bR⟩
theorem CA{rs ex:List (List E)}{a:List E}{s n g:E}(aX:bT top.arg a)(a8:fo 3 g (gl top.eW))(gG:aK aj aJ aG h (E8 bw aO bk left below top rs ex a s n g)):gw aj aJ aG h (jc bw aO bk left below top):=gw.imp (λ_ _ _ x=>amu aX a8 x) gG
theorem Aw{v:E}{l:List av}(x:(h4 v l).A h ae ai):v.one=O/\v.cells=[v]/\hX v=o l.length/\(∀s,j3 s (o bG) v=O)/\(∀(q:gx) (i:Nat) (y:av),l[i]? =o y->∃p r,dO (o bG) ad v (.int q (i:Int))=o p/\cS O 3 h p=o (.agg r)/\bT y r):=by
 obtain⟨rows,am,x⟩:=x;have hlen:=am.len;rcases x with⟨⟨rfl,rfl⟩,_⟩|⟨⟨b,es⟩,⟨rfl,J,R⟩,x⟩
 ·simp only[gf]at hlen;refine⟨rfl,rfl,by rw[<-hlen];rfl,λs=>rfl,λq i y bE=>?_⟩;have:=pR.1 hlen.symm;subst this;simp at bE
 ·refine⟨rfl,rfl,by rw[<-hlen];rfl,λs=>Ej,λq i y bE=>?_⟩;obtain⟨r,bM,bL⟩:=am.get bE;have af:i<rows.length:=(fQ.1 bM).1;refine⟨.ptr b (0+i) 0,r,vO rfl af,?_,bL⟩;obtain⟨_,_,_,an⟩:=x;have ah:es[i]? =o r:=by
   have:(es.take rows.length)[i]? =o r:=by rw[<-R];exact bM
   rwa [uv af]at this
  simp only at an;rw[fL,an,hH,c2,ah,c2];exact gX bL.cD.1
theorem amv{v:E}{l:List av}{y:av}{r:List E}{jF:Nat}(x:(h4 v l).A h ae ai)(aN:h.cell jF=o [r])(bE:bT y r)(am:l.length<=1000000):∃F,eU O bG v (.bn jF 0 1 bG) h=o (.bn h.n 0 (l.length+1) bG,F)/\gw h ae ai F (h4 (.bn h.n 0 (l.length+1) bG) (l++[y])):=by
 have he:iT h bG (.bn jF 0 1 bG)=o [r]:=by simp[iT,aN]
 have aX:∀s,eU O bG s (.bn jF 0 1 bG) h=jX O bG s [r] h:=λs=>by simp only[eU,he,c2,gM];rw[if_neg (by decide)]
 have ao:([r].all λx=>x.all E.one)=O:=by simp only[pO,List.all_nil,pZ];exact bE.cD.2
 obtain⟨rows,U,x⟩:=x;have hlen:=U.len;rcases x with⟨⟨rfl,rfl⟩,au,ax⟩|⟨⟨b,es⟩,⟨rfl,J,R⟩,aR,a5,bp,cA⟩
 ·have s6:l=[]:=pR.1 (by simpa using hlen.symm);subst s6;refine⟨h.push [r],?_,λk=>k=h.n,λ_=>False,⟨[r],c8.one bE,.inr ⟨⟨h.n,[r]⟩,⟨rfl,b4 _,rfl⟩,λ_=>nF,λ_ h=>h,Nat.lt_succ_self _,iG⟩⟩,(aB.push h [r]).uJ _ _,λk Z=>.inr (qA Z.symm),λ_ h=>h.elim⟩;rw[aX];simp only[jX];rw[if_pos ⟨by simp,by simp,ao⟩];rfl
 ·simp only at J R aR bp cA;have aE:((h.set b ad).push (es.take rows.length++[r])).cell h.n=o (es.take rows.length++[r]):=by have:=iG (h:=h.set b ad) (es:=es.take rows.length++[r]);exact this
  refine⟨(h.set b ad).push (es.take rows.length++[r]),?_,λk=>k=h.n,λ_=>False,⟨rows++[r],U.app (c8.one bE),.inr ⟨⟨h.n,es.take rows.length++[r]⟩,⟨by simp[hlen],?_,?_⟩,λ_=>nF,λ_ h=>h,Nat.lt_succ_self _,aE⟩⟩,⟨Nat.le_succ _,b4 _,λk Z dt=>?_,λ_ _ _=>rfl⟩,λk Z=>.inr (qA Z.symm),λ_ h=>h.elim⟩
  ·rw[aX];simp only[jX,cA,c2];rw[if_pos ⟨by simp,by simp,ao⟩,if_pos ⟨trivial,trivial,by omega⟩,if_pos J];simp[hlen]
  ·simp;omega
  ·rw[<-R,List.take_of_length_le (by simp)]
  ·rw[tk (by rw[ny];omega),eu λe=>dt ((aR k).2 e)]
theorem Xq{b m:Nat}{l:List av}{y:av}(x:(h4 (.bn b 0 m bG) (l++[y])).A h ae ai):(h4 (.bn b 0 l.length bG) l).A h ae ai:=by
 obtain⟨rows,U,x⟩:=x;have hlen:=U.len;rw[ff,gM]at hlen;rcases x with⟨⟨_,e⟩,_⟩|⟨⟨gz,es⟩,⟨e,J,R⟩,x⟩
 ·cases e
 ·injection e with au _ ax _;have hN:=U.take l.length;rw[List.take_left]at hN;simp only at au J R;refine⟨rows.take l.length,hN,.inr ⟨⟨gz,es⟩,⟨by rw[au];congr 1;simp;omega,by simp;omega,?_⟩,x⟩⟩;have ah:(rows.take l.length).length=l.length:=by simp;omega
  rw[ah]
  conv=>lhs;rw[R]
  rw[List.take_take];congr 1;omega
theorem EQ{v:E}{l:List av}(x:(h4 v l).A h ae ai)(am:l≠[]):∃b,v= .bn b 0 l.length bG:=by
 obtain⟨rows,U,x⟩:=x;have hlen:=U.len;rcases x with⟨⟨rfl,rfl⟩,_⟩|⟨⟨gz,es⟩,⟨e,_⟩,_⟩
 ·exact absurd (pR.1 (by simpa using hlen.symm)) am
 ·exact⟨gz,by rw[e,hlen]⟩
theorem aK.Xr{X Y:b6}(s:aK aj aJ aG h L)(i:Nat)(af:L[i]? =o X)(uV:∀h ae ai,X.A h ae ai->Y.A h ae ai):aK aj aJ aG h (L.set i Y):=by obtain⟨F,rfl,d⟩:=s.call (cF:=λq=>q=h) i af (Y:=Y) λae ai x=>⟨h,rfl,gw.imp uV (gw.same x)⟩;exact d
theorem IR{α:Type}{X c1:b6}{Y:α->b6}(x:(it X c1).A h ae ai){cF:ag->α->Prop}(c:∀ez eA,X.A h ez eA->∃F a,cF F a/\gw h ez eA F (Y a)):∃F a,cF F a/\gw h ae ai F (it (Y a) c1):=by
 obtain⟨ez,eA,dX,ec,b3,z,dt,gs,p4,p5⟩:=x;obtain⟨F,ja,r,pm,pn,y,cd,bp,fW⟩:=c ez eA b3;have lR:=c1.lt z;refine⟨F,ja,r,λk=>pm k\/dX k,λD=>pn D\/ec D,⟨pm,pn,dX,ec,y,c1.g2 z cd (λk Z J=>p4 k J Z) (λD aa J=>p5 D J aa),λ_=>nF,λ_=>nF,λk ah R=>?_,λD ah R=>?_⟩,?_,λk Z=>?_,λD aa=>?_⟩
 ·rcases bp k ah with h|h
  ·exact p4 k h R
  ·have:=lR.1 k R;omega
 ·rcases fW D ah with h|h
  ·exact p5 D h R
  ·have:=lR.2 D R;omega
 ·exact⟨cd.n,cd.ids,λk Z aE=>cd.cell k Z λJ=>aE ((dt k).2 (.inl J)),λD aa aE=>cd.hw D aa λJ=>aE ((gs D).2 (.inl J))⟩
 ·rcases Z with h|h
  ·exact(bp k h).imp (λh=>(dt k).2 (.inl h)) id
  ·exact .inl ((dt k).2 (.inr h))
 ·rcases aa with h|h
  ·exact(fW D h).imp (λh=>(gs D).2 (.inl h)) id
  ·exact .inl ((gs D).2 (.inr h))
theorem aK.y4{α:Type}{X:b6}{cF:ag->α->Prop}{Y:α->b6}(s:aK aj aJ aG h L)(i:Nat)(af:L[i]? =o X)(c:∀ae ai,X.A h ae ai->∃F a,cF F a/\gw h ae ai F (Y a)):∃F a,cF F a/\aK aj aJ aG F (L.set i (Y a)):=by have am:i<L.length:=(fQ.1 af).1;obtain⟨ae,ai,x,gr,a,b⟩:=s;obtain⟨F,ja,r,d⟩:=IR ((cf.front af).1 x) c;exact⟨F,ja,r,gw.chain gr a b (d.imp λ_ _ _ y=>cf.back am y)⟩
theorem aK.app(s:aK aj aJ aG h L)(i:Nat){v:E}{l:List av}(af:L[i]? =o (h4 v l)){y:av}{r:List E}{jF:Nat}(aN:h.cell jF=o [r])(bE:bT y r)(am:l.length<=1000000):∃F,eU O bG v (.bn jF 0 1 bG) h=o (.bn h.n 0 (l.length+1) bG,F)/\aK aj aJ aG F (L.set i (h4 (.bn h.n 0 (l.length+1) bG) (l++[y]))):=s.call (cF:=λF=>eU O bG v (.bn jF 0 1 bG) h=o (.bn h.n 0 (l.length+1) bG,F)) i af λ_ _ x=>amv x aN bE am
end
end Go.Proofs.YtkdbjfncchmmpaaGreat
