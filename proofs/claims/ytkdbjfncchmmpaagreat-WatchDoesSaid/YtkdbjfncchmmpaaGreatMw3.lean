/- What simple steps come to: for 'simp only'. -/
import Derived.Test.YtkdbjfncchmmpaaGreatMw2
import Derived.WalkKit
import Derived.Test.YtkdbjfncchmmpaaGreatRows
import Derived.ProofKit
import Derived.OpenShut
import Derived.ShutString
import Derived.ChangeOld
import Derived.Deep.Slices
import Derived.Deep.Fields
import Derived.Lib.SmallJoins
import Derived.Recover
set_option linter.unusedSimpArgs false
set_option linter.unusedVariables false
set_option maxHeartbeats 4000000
set_option maxRecDepth 1000000
open List renaming replicate→ap,getElem?_eq_some_iff→fO,getElem?_eq_getElem→fT,length_append→fz,length_singleton→hj,getD→cZ,length_nil→fG,length_map→fM,length_cons→ho,getElem?_append_right→l1,getElem_mem→jl,getElem?_append_left→l0,all_eq_true→jW,append_assoc→kS,getElem?_eq_none→mE,mem_range→kD,map_cons→kf,nil_append→l3,range→jG,mem_of_getElem?→o6,cons_append→nz,mem_cons→mJ,append_nil→ou,mem_map→nt,length_take→pv,length_eq_zero_iff→sy,mem_append→qV,map_nil→pt,all_cons→qa,getElem?_take_of_lt→v1,map_append→u5,foldl_cons→u3,set_cons_zero→we,mem_singleton→xq,getElem?_map→xl
open Nat renaming reduceAdd→ar,reduceSub→av,reduceLeDiff→bY,le_refl→b9,lt_of_lt_of_le→fS,le_trans→e6,zero_add→ir,zero_le→mI,lt_or_ge→oj,lt_succ_self→sR,le_of_eq→qU,add_assoc→rC,one_ne_zero→tE
open Go.IntKind renaming i64→j,wrap→kw
open Option renaming some→o,none→ag,bind_eq_some_iff→dX,map_eq_some_iff→ed,bind_some→du,map_some→i3,getD_some→qT
open Go.Proofs.Tryz renaming prog→aq
open Bool renaming false→U,true→J,and_eq_true→gv,false_eq_true→mF,and_true→rN
open Int renaming natCast_zero→j',toNat_natCast→m9
open Go renaming TypeId→a9,Oper→bm,Program→c',Value→b',FuncId→di,World→dO,IntKind→gZ,undef→g0,Frame→g',lone→fr,Code→gu
open Array renaming getD_eq_getD_getElem?→jo,getElem?_toList→sv
open SizeOf renaming sizeOf→lz
open Go.Frame renaming enter→kC
open Go.Region renaming binds→lF
open BitVec renaming ofInt→lY
open Go.RowKit.Below renaming refl→nq
open Go.DataW renaming TrodAll→sM
open Go.Addr renaming add_lit→rA
open Ne renaming symm→mG
open Iff renaming rfl→n0
namespace Go.Proofs.YtkdbjfncchmmpaaGreat
open Go
variable{es acc:List (List F)}{aQ:List Int}{cJ:ai->Prop}{a':F}{K:List Item}{V args gI:List F}{R:ai}{fn:Func}
section
variable{C:D8}{aZ:Nat}{k:List j0}{V L:List F}{h ak:ai}{fj:kO}{q:gZ}
theorem ZC{a b:Int}:eO fj .add (.int q a) (.int q b)=o (.int q (q.wrap (a+b))):=by simp[eO,p5]
theorem ZD{a b:Int}:eO fj .sub (.int q a) (.int q b)=o (.int q (q.wrap (a - b))):=by simp[eO,p5]
theorem ZE{a b:Int}:eO fj .mul (.int q a) (.int q b)=o (.int q (q.wrap (a*b))):=by simp[eO,p5]
theorem ZF{a b:Int}:eO fj .eql (.int q a) (.int q b)=o (.bool (decide (a=b))):=by simp[eO,p5];rfl
theorem ZG{a b:Int}:eO fj .neq (.int q a) (.int q b)=o (.bool (!decide (a=b))):=by simp[eO,p5];rfl
theorem ZH{a b:Int}:eO fj .lss (.int q a) (.int q b)=o (.bool (decide (a<b))):=by simp[eO,p5]
theorem ZI{a b:Int}:eO fj .leq (.int q a) (.int q b)=o (.bool (decide (a<=b))):=by simp[eO,p5]
theorem ZJ{a b:Int}:eO fj .gtr (.int q a) (.int q b)=o (.bool (decide (b<a))):=by simp[eO,p5]
theorem ZK{a b:Int}:eO fj .geq (.int q a) (.int q b)=o (.bool (decide (b<=a))):=by simp[eO,p5]
theorem ZL{a b:Int}:eO fj .and (.int q a) (.int q b)=o (.int q (q.wrap (lY q.bits a&&& lY q.bits b).toNat)):=by simp[eO,p5]
theorem ZM{a b:Int}:eO fj .or (.int q a) (.int q b)=o (.int q (q.wrap (lY q.bits a|||lY q.bits b).toNat)):=by simp[eO,p5]
theorem ZN{a b:Int}:eO fj .andNot (.int q a) (.int q b)=o (.int q (q.wrap (lY q.bits a&&& ~~~(lY q.bits b)).toNat)):=by simp[eO,p5]
theorem ZO{a b:List UInt8}:eO fj .eql (.str a) (.str b)=o (.bool (decide (a=b))):=by by_cases bA:a=b<;>simp[eO,bA]
theorem ZP{a b:List UInt8}:eO fj .neq (.str a) (.str b)=o (.bool (!decide (a=b))):=by by_cases bA:a=b<;>simp[eO,bA]
theorem ZQ{a b:Bool}:eO .bool .eql (.bool a) (.bool b)=o (.bool (a==b)):=by simp[eO,pr]
theorem ZR{a b:Bool}:eO .bool .neq (.bool a) (.bool b)=o (.bool (!(a==b))):=by simp[eO,pr]
theorem ZS{z:a9}{es:List (List F)}{i:Option Nat}:eO .slice .eql (.b5 i z es) .aJ=o (.bool U):=by simp[eO,pr]
theorem Do:eO .slice .eql .aJ .aJ=o (.bool J):=by simp[eO,pr]
theorem ZT{b O n:Nat}{z:a9}:eO .slice .eql (.bw b O n z) .aJ=o (.bool U):=by simp[eO,pr]
theorem ZU{b:Bool}:Bt .not (.bool b)=o (.bool !b):=rfl
theorem ZV{a:Int}:Bt .neg (.int q a)=o (.int q (q.wrap (0 - a))):=rfl
theorem ZW{p:gZ}{a:Int}:z2 (.int q) (.int p a)=o (.int q (q.wrap a)):=rfl
theorem adc{s:List UInt8}:z2 .str (.str s)=o (.str s):=rfl
theorem gb{agg:Bool}{n b i off:Nat}:cR agg n h (.ptr b i off)=((h.cell b).bind (·[i]?)).bind λe=>fZ agg n e off:=rfl
theorem ZX{agg:Bool}{n off:Nat}{e:List F}:cR agg n h (.ip e off)=fZ agg n e off:=rfl
theorem pI{n off:Nat}{e:List F}:fZ U n e off=e[off]? :=rfl
theorem gA{n:Nat}{e:List F}(he:e.length=n):fZ J n e 0=o (.agg e):=by subst he;simp[fZ]
theorem KF{e el:a9}{id:Option Nat}{i:Nat}{r:List F}(he:e=el)(af:es[i]? =o r):dY (o e) ag (.b5 id el es) (.int q (i:Int))=o (.ip r 0):=by simp[dY,he,af]
theorem Au{e el:a9}{b O n i:Nat}(he:e=el)(af:i<n):dY (o e) ag (.bw b O n el) (.int q (i:Int))=o (.ptr b (O+i) 0):=by simp[dY,he,af]
theorem ZY{b i O off:Nat}:cd off (.ptr b i O)=o (.ptr b i (O+off)):=rfl
theorem ZZ{e:List F}{O off:Nat}:cd off (.ip e O)=o (.ip e (O+off)):=rfl
theorem Z0{b i O:Nat}:Gp (.ptr b i O)=o (.ptr b i O):=rfl
theorem Z1{e:List F}{O:Nat}:Gp (.ip e O)=o (.ip e O):=rfl
theorem Z2:hX .aJ=o 0:=rfl
theorem Z3{id:Option Nat}{el:a9}{es:List (List F)}:hX (.b5 id el es)=o es.length:=rfl
theorem Z4{b O n:Nat}{el:a9}:hX (.bw b O n el)=o n:=rfl
theorem Z5{s:List UInt8}:hX (.str s)=o s.length:=rfl
theorem Z6{s:Bool}{e:a9}:kE s (o e) .aJ=J:=rfl
theorem D'{s:Bool}{e:a9}{id:Option Nat}{es:List (List F)}:kE s (o e) (.b5 id e es)=J:=by simp[kE]
theorem Ea{s:Bool}{e:a9}{b O n:Nat}:kE s (o e) (.bw b O n e)=J:=by simp[kE]
theorem Z7{e:Option a9}{l:List UInt8}:kE J e (.str l)=J:=rfl
theorem lc{b:Nat}{es:Option (List (List F))}:(h.set b es).cell b=es:=by simp[ai.set]
theorem eN{b D:Nat}{es:Option (List (List F))}(ae:D≠b):(h.set b es).cell D=h.cell D:=by simp[ai.set,ae]
theorem nY{b:Nat}{es:Option (List (List F))}:(h.set b es).n=h.n:=rfl
theorem Eb{b:Nat}{es:Option (List (List F))}:(h.set b es).ids=h.ids:=rfl
theorem wn{b:Nat}{es:Option (List (List F))}:(h.set b es).hw=h.hw:=rfl
theorem hb{es:List (List F)}:(h.push es).cell h.n=o es:=by simp[ai.push]
theorem uX{D:Nat}(ae:D≠h.n):(h.push es).cell D=h.cell D:=by simp[ai.push,ae]
theorem eC{es:List (List F)}:(h.push es).n=h.n+1:=rfl
theorem v'{es:List (List F)}:(h.push es).ids=h.ids:=rfl
theorem Z8{es:List (List F)}:(h.push es).hw=h.hw:=rfl
theorem Qk{m:Nat}:(h.fresh m).cell=h.cell:=rfl
theorem Z9{m:Nat}:(h.fresh m).n=h.n:=rfl
theorem Ql{m:Nat}:(h.fresh m).ids=h.ids+1:=rfl
theorem Ec{m:Nat}:(h.fresh m).hw h.ids=m:=by simp[ai.fresh]
theorem Gw{m D:Nat}(ae:D≠h.ids):(h.fresh m).hw D=h.hw D:=by simp[ai.fresh,ae]
theorem Z'{i m:Nat}:(h.grow i m).cell=h.cell:=rfl
theorem aac{i m:Nat}:(h.grow i m).n=h.n:=rfl
theorem aad{i m:Nat}:(h.grow i m).ids=h.ids:=rfl
theorem aae{i m:Nat}:(h.grow i m).hw i=m:=by simp[ai.grow]
theorem Qm{i m D:Nat}(ae:D≠i):(h.grow i m).hw D=h.hw D:=by simp[ai.grow,ae]
def Acc(ak h:ai)(e:a9)(v:F)(acc:List (List F)):Prop:=(acc=[]/\v= .aJ)\/∃id,acc≠[]/\ak.ids<=id/\id<h.ids/\h.hw id=acc.length/\v= .b5 (o id) e acc
theorem wa(ak h:ai)(e:a9):Acc ak h e .aJ []:=.inl ⟨rfl,rfl⟩
theorem y4{e:a9}{v:F}(aV:Acc ak h e v acc)(g:aG ak h){row:List F}(I:row.all F.one=J)(am:acc.length<=1000000):∃a' E,eH U e v (.b5 (o h.ids) e [row]) (h.fresh 1)=o (a',E)/\Acc ak E e a' (acc++[row])/\aG ak E/\E.cell=h.cell/\E.n=h.n:=by
 have cS:aG ak (h.fresh 1):=g.trans (aG.fresh h 1);have lJ:∀x,x∈row->x.one=J:=by simpa using I
 rcases aV with⟨rfl,rfl⟩|⟨id,jI,aP,a2,bl,rfl⟩
 ·refine⟨.b5 (o (h.ids+1)) e [row],(h.fresh 1).fresh 1,?_,.inr ⟨h.ids+1,by simp,?_,?_,?_,by simp⟩,cS.trans (aG.fresh _ 1),rfl,rfl⟩
  ·simp only[eH,js,if_true,du,hj,tE,if_false,kA];rw[if_pos ⟨by omega,by omega,by simpa using lJ⟩];rfl
  ·have:=g.ids;omega
  ·simp[ai.fresh]
  ·simp[ai.fresh]
 ·have dw:id≠h.ids:=by omega
  refine⟨.b5 (o id) e (acc++[row]),(h.fresh 1).grow id (acc.length+1),?_,.inr ⟨id,by simp,aP,?_,?_,rfl⟩,cS.grow aP,rfl,rfl⟩
  ·simp only[eH,js,if_true,du,hj,tE,if_false,kA];rw[if_pos ⟨by omega,by omega,by simpa using lJ⟩,Gw dw,bl];simp only[true_and,am,if_true]
  ·simp[ai.grow,ai.fresh];omega
  ·simp[ai.grow]
def wb:F->Bool
 |.bool _|.int _ _|.str _|.e'|.aJ|.oW|.iZ=>J
 |_=>U
theorem apV{v:F}(h:wb v=J):dl v=o v:=by cases v<;>simp_all [wb,dl]
theorem aaf:∀{l:List F},l.all wb=J->p6 l=o l
 |[],_=>rfl
 |v::l,h=>by simp only[qa,gv]at h;simp[p6,apV h.1,aaf h.2]
theorem BV:∀{l:List (List F)},(∀r∈l,r.all wb=J)->rz l=o l
 |[],_=>rfl
 |v::l,h=>by simp only[rz,aaf (h v (List.mem_cons_self ..)),BV λr au=>h r (List.mem_cons_of_mem _ au)]
def hy(e:a9)(es:List (List F)):F:=if es=[]then .aJ else .b5 ag e es
theorem BW{e:a9}{v:F}(aV:Acc ak h e v acc)(bo:∀r∈acc,r.all wb=J):dl v=o (hy e acc):=by
 rcases aV with⟨rfl,rfl⟩|⟨id,jI,_,a2,bl,rfl⟩
 ·rfl
 ·simp only[dl,BV bo,i3,hy,if_neg jI]
structure gB(e:a9)(v:F)(rows:List (List F)):Prop where
 len:hX v=o rows.length
 fits:∀s,kE s (o e) v=J
 bJ:∀(q:gZ) (i:Nat) row,rows[i]? =o row->dY (o e) ag v (.int q (i:Int))=o (.ip row 0)
theorem BX(id:Option Nat)(e:a9)(rows:List (List F)):gB e (.b5 id e rows) rows:=⟨rfl,λs=>D',λq i row h=>KF rfl h⟩
theorem BY(e:a9):gB e .aJ []:=⟨rfl,λs=>rfl,λq i row h=>by simp at h⟩
theorem uY(e:a9)(rows:List (List F)):gB e (hy e rows) rows:=by
 unfold hy;split
 ·rename_i h;subst h;exact BY e
 ·exact BX _ _ _
theorem aag{e:a9}{v:F}(aV:Acc ak h e v acc):gB e v acc:=by
 rcases aV with⟨rfl,rfl⟩|⟨id,_,_,_,_,rfl⟩
 ·exact BY e
 ·exact BX _ _ _
def Av(w:Bool):F->Option Bool
 |.bool b=>o (if w then b else !b)
 |.bS _=>o U
 |_=>ag
theorem aah{w:Bool}{bI:List F}:Av w (.bS bI)=o U:=rfl
theorem Qn{a:Arg}{w:Bool}:BO V L a w=Av w (arg V L a):=by unfold BO Av;cases arg V L a<;>rfl
theorem aai{b w:Bool}:Av w (.bool b)=o (if w=J then b else !b):=rfl
theorem aaj{i id:Nat}:nX id (.cu i::k)=if i=id then o k else nX id k:=rfl
theorem aak{l:List bb}{id:Nat}:nX id (.bP l::k)=nX id k:=rfl
theorem aal{l:List bb}{id:Nat}:nX id (.eM l::k)=nX id k:=rfl
theorem aam{l:List aE}{id:Nat}:nX id (.ops l::k)=nX id k:=rfl
theorem aan:jc V h []=o []:=rfl
theorem aao{D:Nat}{rs:List o8}:jc V h (.v D::rs)=(jc V h rs).map λl=>V.getD D .aD::l:=rfl
theorem aap{agg:Bool}{n D:Nat}{rs:List o8}:jc V h (.cell agg n D::rs)=(cR agg n h (V.getD D .aD)).bind λv=>(jc V h rs).map λl=>v::l:=rfl
theorem aaq:ju []= .bS []:=rfl
theorem aar{a:F}:ju [a]=a:=rfl
theorem aas{a b:F}:ju [a,b]= .bS [a,b]:=rfl
theorem aat{a b c:F}:ju [a,b,c]= .bS [a,b,c]:=rfl
theorem aau{a d:F}{l:List F}:(a::l).getD 0 d=a:=rfl
theorem aav{a d:F}{l:List F}{n:Nat}:(a::l).getD (n+1) d=l.getD n d:=rfl
theorem aaw{d:F}{n:Nat}:([]:List F).getD n d=d:=rfl
theorem aax{a b:F}{l:List F}:(a::l).set 0 b=b::l:=rfl
theorem aay{a b:F}{l:List F}{n:Nat}:(a::l).set (n+1) b=a::l.set n b:=rfl
theorem aaz{α:Type}{a:α}{l:List α}:(a::l)[0]? =o a:=rfl
theorem aaA{α:Type}{a:α}{l:List α}{n:Nat}:(a::l)[n+1]? =l[n]? :=rfl
theorem aaB{α:Type}{n:Nat}:([]:List α)[n]? =ag:=rfl
theorem aaC{cs:List F}:(F.agg cs).cells=cs:=rfl
theorem Eq{n:Int}:(F.int q n).cells=[.int q n]:=rfl
theorem aaD{b:Bool}:(F.bool b).cells=[.bool b]:=rfl
theorem aaE{b:List UInt8}:(F.str b).cells=[.str b]:=rfl
theorem aaF:F.aJ.cells=[.aJ]:=rfl
theorem aaG:F.e'.cells=[.e']:=rfl
theorem aaH{i:Option Nat}{z:a9}{es:List (List F)}:(F.b5 i z es).cells=[.b5 i z es]:=rfl
theorem aaI{b O n:Nat}{z:a9}:(F.bw b O n z).cells=[.bw b O n z]:=rfl
theorem aaJ{b O n:Nat}:(F.ptr b O n).cells=[.ptr b O n]:=rfl
theorem aaK{n:Int}:(F.int q n).one=J:=rfl
theorem aaL{b:Bool}:(F.bool b).one=J:=rfl
theorem aaM{b:List UInt8}:(F.str b).one=J:=rfl
theorem aaN:F.aJ.one=J:=rfl
theorem aaO:F.e'.one=J:=rfl
theorem aaP{i:Option Nat}{z:a9}{es:List (List F)}:(F.b5 i z es).one=J:=rfl
theorem aaQ{b O n:Nat}{z:a9}:(F.bw b O n z).one=J:=rfl
theorem aaR{b O n:Nat}:(F.ptr b O n).one=J:=rfl
theorem aaS{t:a9}{v:F}:(F.iface t v).one=J:=rfl
theorem aaT{p:F->Bool}{a:F}{l:List F}:(a::l).all p=(p a&&l.all p):=rfl
theorem aaU{p:F->Bool}:([]:List F).all p=J:=rfl
theorem aaV{bI:List F}{i:Nat}:P2 (.bS bI) i=bI[i]? :=rfl
theorem aaW{pl:List (Nat×Nat)}{cs:List F}:qL pl cs []=o cs:=by cases pl<;>rfl
def Qo(pl:List (Nat×Nat))(cs:List F)(v:F)(r:List (Nat×F)):Option (Nat×Nat)->Option (List F)
 |some (off,size)=>if v.cells.length=size/\off+size<=cs.length/\v.cells.all F.one=J then qL pl (dy cs off v.cells) r else ag
 |none=>ag
theorem aaX{pl:List (Nat×Nat)}{cs:List F}{i:Nat}{v:F}{r:List (Nat×F)}:qL pl cs ((i,v)::r)=Qo pl cs v r pl[i]? :=by
 conv=>lhs;unfold qL
 cases pl[i]? with
 |none=>rfl
 |some q=>rfl
theorem aaY{pl:List (Nat×Nat)}{cs:List F}{off size:Nat}{v:F}{r:List (Nat×F)}(I:v.cells.length=size)(R:off+size<=cs.length)(aj:v.cells.all F.one=J):Qo pl cs v r (o (off,size))=qL pl (dy cs off v.cells) r:=by simp[Qo,I,R,aj]
def KG(n:Nat)(h:ai)(b i off:Nat)(cs:List F):Option (List (List F))->Option ai
 |some es=>(es[i]?).bind λe=>if cs.all F.one=J/\cs.length=n/\off+n<=e.length then o (h.set b (o (es.set i (dy e off cs))))else ag
 |none=>ag
def KH(n:Nat)(h:ai)(b i off:Nat)(cs:List F)(es:List (List F)):Option (List F)->Option ai
 |some e=>if cs.all F.one=J/\cs.length=n/\off+n<=e.length then o (h.set b (o (es.set i (dy e off cs))))else ag
 |none=>ag
theorem aaZ{n b i off:Nat}{x:F}:e0 n h (.ptr b i off) x=KG n h b i off x.cells (h.cell b):=by simp only[e0];cases h.cell b<;>rfl
theorem aa0{n b i off:Nat}{cs:List F}{es:List (List F)}:KG n h b i off cs (o es)=KH n h b i off cs es es[i]? :=by simp only[KG];cases es[i]? <;>rfl
theorem aa1{n b i off:Nat}{cs:List F}{es:List (List F)}{e:List F}(I:cs.all F.one=J)(R:cs.length=n)(aj:off+n<=e.length):KH n h b i off cs es (o e)=o (h.set b (o (es.set i (dy e off cs)))):=by simp[KH,I,R,aj]
theorem aa2{n:Nat}{es:List (List F)}:qM n es []=o es:=by cases es<;>rfl
theorem aa3{n:Nat}{es:List (List F)}{i:Nat}{v:F}{r:List (Nat×F)}(I:v.cells.length=n)(R:i<es.length)(aj:v.cells.all F.one=J):qM n es ((i,v)::r)=qM n (es.set i v.cells) r:=by
 conv=>lhs;unfold qM
 simp[I,R,aj]
theorem aa4{e cs:List F}(he:e.length=cs.length):dy e 0 cs=cs:=by simp[dy,he]
theorem aa5{e:List F}:dy e 0 []=e:=by simp[dy]
theorem aa6{a c:F}{e cs:List F}:dy (a::e) 0 (c::cs)=c::dy e 0 cs:=by simp[dy]
theorem aa7{a:F}{e cs:List F}{n:Nat}:dy (a::e) (n+1) cs=a::dy e n cs:=by simp[dy,Nat.add_right_comm]
theorem aa8{b:Nat}{x y:Option (List (List F))}:(h.set b x).set b y=h.set b y:=by unfold ai.set;congr 1;funext D;by_cases ae:D=b<;>simp[ae]
theorem nA{x y:List (List F)}:(h.push x).set h.n (o y)=h.push y:=by unfold ai.push ai.set;congr 1;funext D;by_cases ae:D=h.n<;>simp[ae]
theorem aa9:xt V L h []=True:=rfl
theorem aa'{agg:Bool}{n:Nat}{a d:Arg}{r:List xr}:xt V L h (⟨ag,agg,n,a,d⟩::r)=(cR agg n h (arg V L a)=o (arg V L d)/\xt V L h r):=rfl
theorem aba{agg:Bool}{n:Nat}{g a d:Arg}{w:Bool}{r:List xr}:xt V L h (⟨o (g,w),agg,n,a,d⟩::r)=((match Av w (arg V L g)with|some J=>cR agg n h (arg V L a)=o (arg V L d)|_=>True)/\xt V L h r):=by simp only[xt,D2,Qn]<;>rfl
theorem abb{b:Bool}:oh J h (.inl (.bool b),h)=o (.inl (.bool b),h):=dE (aG.refl h) rfl
theorem abc{n:Int}:oh J h (.inl (.int q n),h)=o (.inl (.int q n),h):=dE (aG.refl h) rfl
theorem abd{n:List UInt8}:oh J h (.inl (.str n),h)=o (.inl (.str n),h):=dE (aG.refl h) rfl
theorem ew{n:Int}(I: -9223372036854775808<=n)(R:n<=9223372036854775807):kw j n=n:=by rw[IntKind.wrap_i64];omega
theorem uZ{a b:List (List F)}:((h.push a).push b).cell (h.n+1)=o b:=by simp[ai.push]
theorem o9{a b:List (List F)}:((h.push a).push b).cell h.n=o a:=by simp[ai.push]
theorem abe{a x y:List (List F)}:((h.push a).push x).set (h.n+1) (o y)=(h.push a).push y:=nA (h:=h.push a)
theorem wc{a b c:List (List F)}:(((h.push a).push b).push c).cell (h.n+1+1)=o c:=by simp[ai.push]
theorem wd{a b c:List (List F)}:(((h.push a).push b).push c).cell (h.n+1)=o b:=by simp[ai.push]
theorem tF{a b c:List (List F)}:(((h.push a).push b).push c).cell h.n=o a:=by simp[ai.push,show ¬h.n=h.n+1+1 by omega]
theorem abf{a b x y:List (List F)}:(((h.push a).push b).push x).set (h.n+1+1) (o y)=((h.push a).push b).push y:=nA (h:=(h.push a).push b)
theorem hp{D:Nat}(ae:D<h.n):(h.push es).cell D=h.cell D:=uX (by omega)
theorem cy{b gl:List bb}(ad:b=gl):bB C aZ (.eM b::k) V L h=bB C aZ (.bP gl::.eM b::k) (b2 aZ V) L h:=by subst ad;exact apU
theorem abg{agg:Bool}{n b:Nat}{t:a9}:cR agg n h (.gM t b)=((h.cell b).bind (·[0]?)).bind λe=>fZ agg n e 0:=rfl
theorem abh{t:a9}{b:Nat}:cd 0 (.gM t b)=o (.gM t b):=rfl
theorem abi{t:a9}{b:Nat}:cd 1 (.gM t b)=o (.ptr b 0 1):=rfl
theorem abj{t:a9}{b:Nat}:cd 2 (.gM t b)=o (.ptr b 0 2):=rfl
theorem abk{t:a9}{b:Nat}:cd 3 (.gM t b)=o (.ptr b 0 3):=rfl
theorem abl{t:a9}{b:Nat}:Gp (.gM t b)=o (.gM t b):=rfl
theorem abm{n b:Nat}{t:a9}{x:F}:e0 n h (.gM t b) x=KG n h b 0 0 x.cells (h.cell b):=by simp only[e0];cases h.cell b<;>rfl
theorem abn{t:a9}{b:Nat}:(F.gM t b).cells=[.gM t b]:=rfl
theorem abo{t:a9}{b:Nat}:(F.gM t b).one=J:=rfl
theorem abp{a b:Int}:z3 U (.int q a) (.int q b)=o (.int q (if b<a then b else a)):=rfl
theorem abq{a b:Int}:z3 J (.int q a) (.int q b)=o (.int q (if b>a then b else a)):=rfl
theorem abr{a b:Int}:eO fj .rem (.int q a) (.int q b)=if b=0 then ag else o (.int q (a.tmod b)):=by simp[eO,p5]
theorem abs{b i O:Nat}:eO .ptr .eql (.ptr b i O) .e'=o (.bool U):=by simp[eO,pr]
theorem abt{t:a9}{b:Nat}:eO .ptr .eql (.gM t b) .e'=o (.bool U):=by simp[eO,pr]
theorem abu:eO .ptr .eql .e' .e'=o (.bool J):=by simp[eO,pr]
theorem abv{b i O:Nat}:eO .ptr .neq (.ptr b i O) .e'=o (.bool J):=by simp[eO,pr]
theorem abw{t:a9}{b:Nat}:eO .ptr .neq (.gM t b) .e'=o (.bool J):=by simp[eO,pr]
theorem abx:eO .ptr .neq .e' .e'=o (.bool U):=by simp[eO,pr]
theorem aby{t:a9}{v:F}{aQ:Option (List kO)}{hU:Bool}:rK .iface aQ hU .neq (.iface t v) .iZ=o (.bool J):=by simp[rK,eO,pr]
theorem abz{aQ:Option (List kO)}:rK .iface aQ J .neq .iZ .iZ=o (.bool U):=by simp[rK,P0]
theorem abA{t:a9}{v:F}{aQ:Option (List kO)}{hU:Bool}:rK .iface aQ hU .eql (.iface t v) .iZ=o (.bool U):=by simp[rK,eO,pr]
theorem abB{aQ:Option (List kO)}:rK .iface aQ J .eql .iZ .iZ=o (.bool J):=by simp[rK,P0]
theorem ao:(type_of% @ho.{0})/\(type_of% @fG.{0})/\(type_of% @nz.{0})/\(type_of% @l3.{0})/\(type_of% @kf.{0,0})/\(type_of% @pt.{0,0})/\(type_of% @du.{0,0})/\(type_of% @i3.{0,0})/\(type_of% @Option.bind_none.{0,0})/\(type_of% @Option.map_none.{0,0})/\(type_of% @if_true.{1})/\(type_of% @if_false.{1})/\(type_of% @decide_true)/\(type_of% @decide_false)/\(type_of% @mF)/\(type_of% @Bool.true_eq_false)/\(type_of% @Bool.not_true)/\(type_of% @Bool.not_false)/\(type_of% @rN)/\(type_of% @Bool.true_and)/\(type_of% @Bool.and_false)/\(type_of% @Bool.false_and)/\(type_of% @Bool.or_true)/\(type_of% @Bool.true_or)/\(type_of% @Bool.or_false)/\(type_of% @Bool.false_or)/\(type_of% @true_and)/\(type_of% @and_true)/\(type_of% @false_and)/\(type_of% @and_false)/\(type_of% @List.take_zero.{0})/\(type_of% @List.take_succ_cons.{0})/\(type_of% @List.drop_zero.{0})/\(type_of% @List.drop_succ_cons.{0})/\(type_of% @List.take_nil.{0})/\(type_of% @List.drop_nil.{0})/\(type_of% @we.{0})/\(type_of% @List.set_cons_succ.{0})/\(type_of% @ir)/\(type_of% @Nat.lt_add_one)/\(type_of% @b9)/\(type_of% @m9)/\(type_of% @YG)/\(type_of% @YH)/\(type_of% @Qd)/\(type_of% @YI)/\(type_of% @Qe)/\(type_of% @Qf)/\(type_of% @YJ)/\(type_of% @YK)/\(type_of% @YL)/\(type_of% @Qg)/\(type_of% @YO)/\(type_of% @YP)/\(type_of% @Qh)/\(type_of% @YN)/\(type_of% @YQ)/\(type_of% @YR)/\(type_of% @YS)/\(type_of% @YT)/\(type_of% @YU)/\(type_of% @YV)/\(type_of% @YW)/\(type_of% @YX)/\(type_of% @YY)/\(type_of% @YZ)/\(type_of% @Y0)/\(type_of% @Y1)/\(type_of% @Y2)/\(type_of% @Y3)/\(type_of% @Y4)/\(type_of% @Y5)/\(type_of% @Y6)/\(type_of% @Y7)/\(type_of% @Y8)/\(type_of% @Y9)/\(type_of% @Za)/\(type_of% @Y')/\(type_of% @Zb)/\(type_of% @Zc)/\(type_of% @Zd)/\(type_of% @Ze)/\(type_of% @Zj)/\(type_of% @Zk)/\(type_of% @Zl)/\(type_of% @Zm)/\(type_of% @Zn)/\(type_of% @Zo)/\(type_of% @Zp)/\(type_of% @Zq)/\(type_of% @Zr)/\(type_of% @Zs)/\(type_of% @At)/\(type_of% @Qj)/\(type_of% @Zt)/\(type_of% @Zu)/\(type_of% @Zv)/\(type_of% @Zw)/\(type_of% @Zx)/\(type_of% @Zy)/\(type_of% @Zz)/\(type_of% @ZA)/\(type_of% @ZB)/\(type_of% @Qn)/\(type_of% @aai)/\(type_of% @aah)/\(type_of% @aaj)/\(type_of% @aak)/\(type_of% @aal)/\(type_of% @aam)/\(type_of% @aan)/\(type_of% @aao)/\(type_of% @aap)/\(type_of% @aar)/\(type_of% @aas)/\(type_of% @aat)/\(type_of% @aaq)/\(type_of% @yB)/\(type_of% @z6)/\(type_of% @ZC)/\(type_of% @ZD)/\(type_of% @ZE)/\(type_of% @ZF)/\(type_of% @ZG)/\(type_of% @ZH)/\(type_of% @ZI)/\(type_of% @ZJ)/\(type_of% @ZK)/\(type_of% @ZL)/\(type_of% @ZM)/\(type_of% @ZN)/\(type_of% @ZO)/\(type_of% @ZP)/\(type_of% @ZQ)/\(type_of% @ZR)/\(type_of% @ZS)/\(type_of% @Do)/\(type_of% @ZT)/\(type_of% @ZU)/\(type_of% @ZV)/\(type_of% @ZW)/\(type_of% @adc)/\(type_of% @gb)/\(type_of% @ZX)/\(type_of% @pI)/\(type_of% @ZY)/\(type_of% @ZZ)/\(type_of% @Z0)/\(type_of% @Z1)/\(type_of% @Z2)/\(type_of% @Z3)/\(type_of% @Z4)/\(type_of% @Z5)/\(type_of% @Z6)/\(type_of% @D')/\(type_of% @Ea)/\(type_of% @Z7)/\(type_of% @lc)/\(type_of% @nY)/\(type_of% @Eb)/\(type_of% @wn)/\(type_of% @hb)/\(type_of% @eC)/\(type_of% @v')/\(type_of% @Z8)/\(type_of% @Qk)/\(type_of% @Z9)/\(type_of% @Ql)/\(type_of% @Ec)/\(type_of% @Z')/\(type_of% @aac)/\(type_of% @aad)/\(type_of% @aae)/\(type_of% @aau)/\(type_of% @aav)/\(type_of% @aax)/\(type_of% @aay)/\(type_of% @aaw)/\(type_of% @aaz)/\(type_of% @aaA)/\(type_of% @aaB)/\(type_of% @D9)/\(type_of% @YM)/\(type_of% @aaZ)/\(type_of% @aa0)/\(type_of% @aa1)/\(type_of% @aaC)/\(type_of% @Eq)/\(type_of% @aaD)/\(type_of% @aaE)/\(type_of% @aaF)/\(type_of% @aaG)/\(type_of% @aaH)/\(type_of% @aaI)/\(type_of% @aaJ)/\(type_of% @aaK)/\(type_of% @aaL)/\(type_of% @aaM)/\(type_of% @aaN)/\(type_of% @aaO)/\(type_of% @aaP)/\(type_of% @aaQ)/\(type_of% @aaR)/\(type_of% @aaS)/\(type_of% @aaT)/\(type_of% @aaU)/\(type_of% @aaV)/\(type_of% @aaW)/\(type_of% @aaX)/\(type_of% @aaY)/\(type_of% @aa2)/\(type_of% @aa3)/\(type_of% @aa4)/\(type_of% @aa5)/\(type_of% @aa6)/\(type_of% @aa7)/\(type_of% @aa8)/\(type_of% @nA)/\(type_of% @Zf)/\(type_of% @Zg)/\(type_of% @Zh)/\(type_of% @Zi)/\(type_of% @abg)/\(type_of% @abh)/\(type_of% @abi)/\(type_of% @abj)/\(type_of% @abk)/\(type_of% @abl)/\(type_of% @abm)/\(type_of% @abn)/\(type_of% @abo)/\(type_of% @abp)/\(type_of% @abq)/\(type_of% @abr)/\(type_of% @abs)/\(type_of% @abt)/\(type_of% @abu)/\(type_of% @abv)/\(type_of% @abw)/\(type_of% @abx)/\(type_of% @aby)/\(type_of% @abz)/\(type_of% @abA)/\(type_of% @abB)/\(type_of% @aa9)/\(type_of% @aa')/\(type_of% @aba)/\(type_of% @abb)/\(type_of% @abc)/\(type_of% @abd)/\(type_of% @gA)/\(type_of% @uZ)/\(type_of% @o9)/\(type_of% @abe)/\(type_of% @wc)/\(type_of% @wd)/\(type_of% @tF)/\(type_of% @abf):=⟨@ho.{0},@fG.{0},@nz.{0},@l3.{0},@kf.{0,0},@pt.{0,0},@du.{0,0},@i3.{0,0},@Option.bind_none.{0,0},@Option.map_none.{0,0},@if_true.{1},@if_false.{1},@decide_true,@decide_false,@mF,@Bool.true_eq_false,@Bool.not_true,@Bool.not_false,@rN,@Bool.true_and,@Bool.and_false,@Bool.false_and,@Bool.or_true,@Bool.true_or,@Bool.or_false,@Bool.false_or,@true_and,@and_true,@false_and,@and_false,@List.take_zero.{0},@List.take_succ_cons.{0},@List.drop_zero.{0},@List.drop_succ_cons.{0},@List.take_nil.{0},@List.drop_nil.{0},@we.{0},@List.set_cons_succ.{0},@ir,@Nat.lt_add_one,@b9,@m9,@YG,@YH,@Qd,@YI,@Qe,@Qf,@YJ,@YK,@YL,@Qg,@YO,@YP,@Qh,@YN,@YQ,@YR,@YS,@YT,@YU,@YV,@YW,@YX,@YY,@YZ,@Y0,@Y1,@Y2,@Y3,@Y4,@Y5,@Y6,@Y7,@Y8,@Y9,@Za,@Y',@Zb,@Zc,@Zd,@Ze,@Zj,@Zk,@Zl,@Zm,@Zn,@Zo,@Zp,@Zq,@Zr,@Zs,@At,@Qj,@Zt,@Zu,@Zv,@Zw,@Zx,@Zy,@Zz,@ZA,@ZB,@Qn,@aai,@aah,@aaj,@aak,@aal,@aam,@aan,@aao,@aap,@aar,@aas,@aat,@aaq,@yB,@z6,@ZC,@ZD,@ZE,@ZF,@ZG,@ZH,@ZI,@ZJ,@ZK,@ZL,@ZM,@ZN,@ZO,@ZP,@ZQ,@ZR,@ZS,@Do,@ZT,@ZU,@ZV,@ZW,@adc,@gb,@ZX,@pI,@ZY,@ZZ,@Z0,@Z1,@Z2,@Z3,@Z4,@Z5,@Z6,@D',@Ea,@Z7,@lc,@nY,@Eb,@wn,@hb,@eC,@v',@Z8,@Qk,@Z9,@Ql,@Ec,@Z',@aac,@aad,@aae,@aau,@aav,@aax,@aay,@aaw,@aaz,@aaA,@aaB,@D9,@YM,@aaZ,@aa0,@aa1,@aaC,@Eq,@aaD,@aaE,@aaF,@aaG,@aaH,@aaI,@aaJ,@aaK,@aaL,@aaM,@aaN,@aaO,@aaP,@aaQ,@aaR,@aaS,@aaT,@aaU,@aaV,@aaW,@aaX,@aaY,@aa2,@aa3,@aa4,@aa5,@aa6,@aa7,@aa8,@nA,@Zf,@Zg,@Zh,@Zi,@abg,@abh,@abi,@abj,@abk,@abl,@abm,@abn,@abo,@abp,@abq,@abr,@abs,@abt,@abu,@abv,@abw,@abx,@aby,@abz,@abA,@abB,@aa9,@aa',@aba,@abb,@abc,@abd,@gA,@uZ,@o9,@abe,@wc,@wd,@tF,@abf⟩
end
def e9(e:a9)(v:F)(es:List (List F)):Prop:=(es=[]/\v= .aJ)\/∃id,v= .b5 id e es
abbrev eI(l:List Int):List (List F):=l.map λx=>[.int j x]
inductive bC where
 |mk (op k n:Int) (l:List bC)
def bC.op:bC->Int
 |.mk op _ _ _=>op
def bC.k:bC->Int
 |.mk _ k _ _=>k
def bC.n:bC->Int
 |.mk _ _ n _=>n
def bC.l:bC->List bC
 |.mk _ _ _ l=>l
theorem bC.eta(x:bC):x= .mk x.op x.k x.n x.l:=by cases x;rfl
theorem bC.nB{x y:bC}(h:y∈x.l):lz y<lz x:=by
 cases x with
 |mk op k n l=>have:=List.sizeOf_lt_of_mem (show y∈l from h);simp only[bC.mk.sizeOf_spec];omega
mutual
def bC.size:bC->Nat
 |.mk _ _ _ l=>1+fW l
def fW:List bC->Nat
 |[]=>0
 |x::l=>x.size+fW l
end
mutual
def bC.depth:bC->Nat
 |.mk _ _ _ l=>j1 l
def j1:List bC->Nat
 |[]=>0
 |x::l=>max (1+x.depth) (j1 l)
end
theorem bC.size_eq(x:bC):x.size=1+fW x.l:=by cases x;simp[bC.size,bC.l]
theorem bC.Qp(x:bC):x.depth=j1 x.l:=by cases x;simp[bC.depth,bC.l]
theorem Gx:∀(l ch:List bC),fW (l++ch)=fW l+fW ch
 |[],ch=>by simp[fW]
 |x::l,ch=>by simp[fW,Gx l ch,rC]
theorem Qq:∀(l ch:List bC),j1 (l++ch)=max (j1 l) (j1 ch)
 |[],ch=>by simp[j1]
 |x::l,ch=>by simp[j1,Qq l ch,Nat.max_assoc]
theorem abC(x:bC):fW [x]=x.size:=by simp[fW]
theorem apW(x:bC):j1 [x]=1+x.depth:=by simp[j1]
theorem bC.size_pos(x:bC):1<=x.size:=by rw[x.size_eq];omega
theorem bC.q5(x:bC):x.l.length<x.size:=by
 have:∀l:List bC,l.length<=fW l:=by
  intro l;induction l with
  |nil=>simp
  |cons y l aR=>have:=y.size_pos;simp only[fW,ho];omega
 have:=this x.l;rw[x.size_eq];omega
theorem bC.m'(x:bC):1<=lz x:=by cases x;simp only[bC.mk.sizeOf_spec];omega
theorem abD{n:Nat}:∀{l:List bC},j1 l<=n↔∀y∈l,1+y.depth<=n
 |[]=>by simp[j1]
 |x::l=>by have:=abD (n:=n) (l:=l);simp only[j1,mJ,forall_eq_or_imp,<-this];omega
theorem apX(x:bC){left:Int}(ak:0<=left):(!(x.l.any λy=> !decide ((y.depth:Int)<=left - 1)))=decide ((x.depth:Int)<=left):=by
 obtain⟨n,rfl⟩:∃n:Nat,left=n:=⟨left.toNat,by omega⟩;have h:=abD (n:=n) (l:=x.l);rw[<-x.Qp]at h;by_cases aF:x.depth<=n
 ·have I:((x.depth:Nat):Int)<=(n:Int):=by omega
  have R:(x.l.any λy=> !decide ((y.depth:Int)<=(n:Int) - 1))=U:=by
   rw[List.any_eq_false];intro y bH;have:=h.1 aF y bH;have aj:(y.depth:Int)<=(n:Int) - 1:=by omega
   simp[aj]
  rw[R];simp[I]
 ·have I:¬((x.depth:Nat):Int)<=(n:Int):=by omega
  have R:(x.l.any λy=> !decide ((y.depth:Int)<=(n:Int) - 1))=J:=by
   cases ad:(x.l.any λy=> !decide ((y.depth:Int)<=(n:Int) - 1))
   ·exfalso;apply aF;apply h.2;intro y bH;have:=(List.any_eq_false.1 ad) y bH;simp at this;omega
   ·rfl
  rw[R];simp[I]
def gw(op:Int):Int:=
 if op=1\/op=2\/op=3\/op=4\/op=21 then 0
 else if op=9\/op=10\/op=11\/op=12\/op=13\/op=15\/op=16\/op=17\/op=18\/op=20 then 1
 else if op=5\/op=6\/op=8\/op=14\/op=19 then 2
 else if op=7 then 3 else -1
def sG(cC op k n O:Int):Int:=
 if n≠0/\op≠2 then 5
 else if op=4 then(if k<0\/O<=k then 1 else 0)
 else if op=6 then(if k<1\/5<k then 1 else 0)
 else if op=15 then(if k<0\/15<k then 1 else 0)
 else if op=18 then(if k<0\/cC<=k then 1 else 0)
 else if k≠0 then 5 else 0
def nC(cC op k n:Int)(len:Nat)(O:Int):Int:=
 if gw op<0 then 2 else if(len:Int)≠gw op then 5
 else if sG cC op k n O≠0 then sG cC op k n O
 else if op=5/\O=12 then 3 else 0
mutual
def bC.fault(cC:Int):bC->Int->Int
 |.mk op k n l,O=>if nC cC op k n l.length O≠0 then nC cC op k n l.length O else rO cC op 0 l O
def rO(cC op:Int):Nat->List bC->Int->Int
 |_,[],_=>0
 |i,x::l,O=>if x.fault cC (if op=5/\i=1 then O+1 else O)≠0 then x.fault cC (if op=5/\i=1 then O+1 else O)else rO cC op (i+1) l O
end
def o'(cC:Int)(x:bC):Int:=if 30<x.depth then 4 else if 120<x.size then 3 else x.fault cC 0
def sH(cC:Int):Nat->List bC->Int×Int
 |_,[]=>(0,0)
 |i,x::l=>if o' cC x≠0 then(o' cC x,i)else sH cC (i+1) l
def fl(l:List bC):Int×Int:=if l.length=0\/6<l.length then(3, -1)else sH l.length 0 l
def sI(l:List bC):Bool:=decide (20<l.length)||l.any λx=>decide (600<x.size)
abbrev gp:a9:=109
mutual
def hq:bC->List F->Prop
 |.mk op k n l,r=>∃v es,r=[.int j op,.int j k,.int j n,v]/\e9 gp v es/\g3 l es
def g3:List bC->List (List F)->Prop
 |[],es=>es=[]
 |x::l,es=>∃r rs,es=r::rs/\hq x r/\g3 l rs
end
structure bv where
 op:Int
 k:Int
 n:Int
def l7:List (Nat->List bv)->Nat->List bv
 |[],_=>[]
 |f::dN,p=>f p++l7 dN (p+(f p).length)
def Qr(f0 f1:Nat->List bv)(p:Nat):List bv:=⟨100,0,0⟩::(f0 (p+1)++⟨101,0,0⟩::(f1 (p+1+(f0 (p+1)).length+1)++[⟨102,0,0⟩]))
def q6(f0 f1:Nat->List bv)(p:Nat):Nat:=p+1+(f0 (p+1)).length+1+(f1 (p+1+(f0 (p+1)).length+1)).length+1
def Qs(f0 f1 f2:Nat->List bv)(p:Nat):List bv:=⟨100,0,0⟩::(f0 (p+1)++⟨103,(q6 f0 f1 p:Nat),0⟩::(f1 (p+1+(f0 (p+1)).length+1)++⟨104,((q6 f0 f1 p+(f2 (q6 f0 f1 p)).length:Nat):Int),0⟩::f2 (q6 f0 f1 p)))
def wg(op k n:Int)(dN:List (Nat->List bv))(p:Nat):List bv:=
 if op=5 then(match dN with|[f0,f1]=>Qr f0 f1 p|_=>[])
 else if op=7 then(match dN with|[f0,f1,f2]=>Qs f0 f1 f2 p|_=>[])
 else⟨100,0,0⟩::(l7 dN (p+1)++[⟨op,k,n⟩])
mutual
def cW:bC->Nat->List bv
 |.mk op k n l=>wg op k n (Gy l)
def Gy:List bC->List (Nat->List bv)
 |[]=>[]
 |x::l=>cW x::Gy l
end
theorem apY(x:bC):cW x=wg x.op x.k x.n (Gy x.l):=by cases x;simp only[cW,bC.op,bC.k,bC.n,bC.l]
open Classical in
theorem abE:∀l:List bC,Gy l=l.map cW
 |[]=>rfl
 |x::l=>by simp only[Gy,kf,abE l]
theorem mp(x:bC):cW x=wg x.op x.k x.n (x.l.map cW):=by rw[apY,abE]
theorem Qt:∀(l:List bC) (p:Nat),(∀y∈l,∀p,(cW y p).length<=3*y.size)->(l7 (l.map cW) p).length<=3*fW l
 |[],p,_=>by simp[l7]
 |x::l,p,h=>by have I:=h x (by simp) p;have R:=Qt l (p+(cW x p).length) λy bH=>h y (by simp[bH]);simp only[kf,l7,fz,fW];omega
theorem y5:∀(N:Nat) (x:bC),lz x<=N->∀p:Nat,(cW x p).length<=3*x.size:=by
 intro N;induction N with
 |zero=>intro x aF;have:=x.m';omega
 |succ N aR=>
   intro x aF p;have an:∀y∈x.l,∀p,(cW y p).length<=3*y.size:=λy bH=>aR y (by have:=bC.nB bH;omega);have aC:=x.size_eq;rw[mp];generalize x.l=l at an aC;unfold wg;split
   ·match l,an,aC with
    |[],_,_=>simp
    |[a],_,_=>simp
    |[a,b],an,aC=>have I:=an a (by simp) (p+1);have R:=an b (by simp) (p+1+(cW a (p+1)).length+1);simp only[fW]at aC;simp only[kf,pt,Qr,ho,fz,fG];have:=a.size_pos;omega
    |a::b::c::l,_,_=>simp
   ·split
    ·match l,an,aC with
     |[],_,_=>simp
     |[a],_,_=>simp
     |[a,b],_,_=>simp
     |[a,b,c],an,aC=>have I:=an a (by simp) (p+1);have R:=an b (by simp) (p+1+(cW a (p+1)).length+1);have aj:=an c (by simp) (q6 (cW a) (cW b) p);simp only[fW]at aC;simp only[kf,pt,Qs,ho,fz];omega
     |a::b::c::d::l,_,_=>simp
    ·have:=Qt l (p+1) an;simp only[ho,fz,fG];omega
theorem KI{cC O:Int}{x:bC}(h:x.fault cC O=0):0<=gw x.op/\(x.l.length:Int)=gw x.op/\sG cC x.op x.k x.n O=0/\¬(x.op=5/\O=12)/\rO cC x.op 0 x.l O=0:=by
 cases x with
 |mk op k n l=>
   simp only[bC.fault]at h;split at h
   ·rename_i I;exact absurd h I
   ·rename_i I;have I:nC cC op k n l.length O=0:=by simpa using I
    unfold nC at I;split at I
    ·cases I
    ·split at I
     ·cases I
     ·split at I
      ·rename_i R;exact absurd I R
      ·split at I
       ·cases I
       ·rename_i a b c d;simp only[bC.op,bC.k,bC.n,bC.l];exact⟨by omega,by simpa using b,by simpa using c,d,h⟩
theorem BZ{cC op O:Int}{i:Nat}{x:bC}{l:List bC}(h:rO cC op i (x::l) O=0):x.fault cC (if op=5/\i=1 then O+1 else O)=0/\rO cC op (i+1) l O=0:=by
 simp only[rO]at h;generalize x.fault cC (if op=5/\i=1 then O+1 else O)=c at h;by_cases an:c=0
 ·exact⟨an,by simpa[an]using h⟩
 ·simp[an]at h
theorem Ed{cC op O:Int}(iH:op≠5):∀{l:List bC} {i:Nat},rO cC op i l O=0->∀y∈l,y.fault cC O=0
 |[],_,_,y,bH=>by simp at bH
 |x::l,i,h,y,bH=>by
   obtain⟨I,R⟩:=BZ h;rw[if_neg (λh=>iH h.1)]at I;rcases mJ.1 bH with rfl|bH
   ·exact I
   ·exact Ed iH R y bH
inductive ax where
 |mk (kind n:Int) (l:List ax)
def ax.kind:ax->Int
 |.mk k _ _=>k
def ax.n:ax->Int
 |.mk _ n _=>n
def ax.l:ax->List ax
 |.mk _ _ l=>l
theorem ax.eta(x:ax):x= .mk x.kind x.n x.l:=by cases x;rfl
theorem ax.nB{x y:ax}(h:y∈x.l):lz y<lz x:=by
 cases x with
 |mk kind n l=>have:=List.sizeOf_lt_of_mem (show y∈l from h);simp only[ax.mk.sizeOf_spec];omega
theorem ax.m'(x:ax):1<=lz x:=by cases x;simp only[ax.mk.sizeOf_spec];omega
mutual
def ax.size:ax->Nat
 |.mk _ _ l=>1+j2 l
def j2:List ax->Nat
 |[]=>0
 |x::l=>x.size+j2 l
end
theorem ax.size_eq(x:ax):x.size=1+j2 x.l:=by cases x;simp[ax.size,ax.l]
theorem KJ:∀(l ch:List ax),j2 (l++ch)=j2 l+j2 ch
 |[],ch=>by simp[j2]
 |x::l,ch=>by simp[j2,KJ l ch,rC]
theorem apZ(x:ax):j2 [x]=x.size:=by simp[j2]
theorem ax.size_pos(x:ax):1<=x.size:=by rw[x.size_eq];omega
theorem Qu:∀l:List ax,l.length<=j2 l
 |[]=>by simp
 |y::l=>by have:=y.size_pos;have:=Qu l;simp only[j2,ho];omega
theorem ax.q5(x:ax):x.l.length<x.size:=by have:=Qu x.l;rw[x.size_eq];omega
theorem ax.ql{x y:ax}(h:y∈x.l):y.size<x.size:=by
 have:∀l:List ax,y∈l->y.size<=j2 l:=by
  intro l;induction l with
  |nil=>intro hm;simp at hm
  |cons z l aR=>
    intro hm;simp only[j2];rcases mJ.1 hm with rfl|hm
    ·omega
    ·have:=aR hm;omega
 have:=this x.l h;rw[x.size_eq];omega
def l8(kind:Int):Nat:=if kind=2 then 2 else if kind=3 then 1 else 0
def jJ(kind n:Int)(len:Nat):Int:=
 if kind<0\/5<kind then 2 else if len≠l8 kind then 5 else if(kind=0\/kind=2)/\n≠0 then 5 else if 3<=kind/\n<0 then 1 else 0
mutual
def ax.fault:ax->Int
 |.mk kind n l=>if jJ kind n l.length≠0 then jJ kind n l.length else oz l
def oz:List ax->Int
 |[]=>0
 |x::l=>if x.fault≠0 then x.fault else oz l
end
def ax.code(x:ax):Int:=if 40<x.size then 3 else x.fault
theorem ax.Ee(x:ax):x.fault=if jJ x.kind x.n x.l.length≠0 then jJ x.kind x.n x.l.length else oz x.l:=by cases x;rfl
theorem Gz(x:ax)(l:List ax):oz (x::l)=if x.fault≠0 then x.fault else oz l:=rfl
mutual
def wh:ax->ax->Bool
 |.mk k n l,.mk ee cj ch=>decide (k=ee)&&(decide (n=cj)&&q7 l ch)
def q7:List ax->List ax->Bool
 |[],[]=>J
 |x::l,y::ch=>wh x y&&q7 l ch
 |_,_=>U
end
mutual
theorem Qv:∀x:ax,wh x x=J
 |.mk kind n l=>by simp[wh,abF l]
theorem abF:∀l:List ax,q7 l l=J
 |[]=>rfl
 |x::l=>by simp[q7,Qv x,abF l]
end
mutual
theorem ap0:∀{x y:ax},wh x y=J->x=y
 |.mk k n l,.mk ee cj ch,h=>by simp only[wh,gv,decide_eq_true_eq]at h;obtain⟨rfl,rfl,h⟩:=h;rw[Qw h]
theorem Qw:∀{l ch:List ax},q7 l ch=J->l=ch
 |[],[],_=>rfl
 |x::l,y::ch,h=>by simp only[q7,gv]at h;rw[ap0 h.1,Qw h.2]
 |[],_::_,h=>by simp[q7]at h
 |_::_,[],h=>by simp[q7]at h
end
theorem ap1{l ch:List ax}(h:decide ((l.length:Int)=(ch.length:Int))=U):q7 l ch=U:=by
 cases aC:q7 l ch
 ·rfl
 ·rw[Qw aC]at h;simp at h
theorem ap2(x y:ax):wh x y=(decide (x.kind=y.kind)&&(decide (x.n=y.n)&&q7 x.l y.l)):=by cases x;cases y;rfl
mutual
def ax.fX:ax->List Int
 |.mk kind n l=>(if kind=4 then[n]else[])++lO l
def lO:List ax->List Int
 |[]=>[]
 |x::l=>x.fX++lO l
end
theorem ax.y6(x:ax):x.fX=(if x.kind=4 then[x.n]else[])++lO x.l:=by cases x;rfl
theorem Qx:∀(l ch:List ax),lO (l++ch)=lO l++lO ch
 |[],ch=>by simp[lO]
 |x::l,ch=>by simp[lO,Qx l ch,kS]
mutual
theorem ax.GA:∀x:ax,x.fX.length<=x.size
 |.mk kind n l=>by have:=KK l;simp only[ax.fX,ax.size,fz];split<;>simp<;>omega
theorem KK:∀l:List ax,(lO l).length<=j2 l
 |[]=>by simp[lO]
 |x::l=>by have:=ax.GA x;have:=KK l;simp only[lO,j2,fz];omega
end
mutual
def ax.gate:ax->Bool
 |.mk kind _ l=>decide (kind=5)||xv l
def xv:List ax->Bool
 |[]=>U
 |x::l=>x.gate||xv l
end
theorem ax.abG(x:ax):x.gate=(decide (x.kind=5)||xv x.l):=by cases x;rfl
theorem abH:∀l:List ax,xv l=l.any ax.gate
 |[]=>rfl
 |x::l=>by simp only[xv,List.any_cons,abH l]
abbrev bO:a9:=35
mutual
def bZ:ax->List F->Prop
 |.mk kind n l,r=>∃v es,r=[.int j kind,.int j n,v]/\e9 bO v es/\dk l es
def dk:List ax->List (List F)->Prop
 |[],es=>es=[]
 |x::l,es=>∃r rs,es=r::rs/\bZ x r/\dk l rs
end
open Go.RowKit
theorem ap3(x:BitVec 64):j.wrap (x.toNat:Int)=x.toInt:=by have h:=x.isLt;rw[BitVec.toInt_eq_toNat_cond,IntKind.wrap_i64];split<;>omega
theorem Qy(a b:Int):bits .and j a b=(lY 64 a&&& lY 64 b).toInt:=ap3 _
theorem KL(x:BitVec 64):lY 64 x.toInt=x:=BitVec.ofInt_toInt
def mL(a b:Int):Int:=bits .and j a b
def B0(a b:Int):Bool:=mL a b==b
theorem ap4(x y:BitVec 64):mL x.toInt y.toInt=(x&&& y).toInt:=by unfold mL;rw[Qy,KL,KL]
theorem abI(x y:BitVec 64):B0 x.toInt y.toInt=decide (x&&& y=y):=by unfold B0;rw[ap4,Bool.eq_iff_iff,beq_iff_eq,BitVec.toInt_inj,decide_eq_true_eq]
def qm(a:Int):Bool:=decide (0<=a/\a<=15)
def fK(a:Int)(i:Nat):Bool:=bits .and j (a / 2 ^ i) 1==1
open Go.RowKit
structure bi where
 (parent gate c5 cell bu func:Int)
def fL:bi:=⟨0,0,0,0,0,0⟩
structure aI where
 nodes:List bi
 shut:List Bool
def aI.has(G:aI)(n:Int):Bool:=decide (0<=n/\n<G.nodes.length)
def aI.lA(G:aI)(k:Int):Bool:=decide (0<=k/\k<G.shut.length)
def aI.xw(G:aI)(k:Int):Bool:=G.lA k&& !(G.shut.getD k.toNat U)
def aI.gate(G:aI):aI×Int×Int:=if G.shut.length=20 then(G,0,11)else(⟨G.nodes,G.shut++[U]⟩,G.shut.length,0)
def aI.cut(G:aI)(k:Int):aI×Int:=if G.lA k then(⟨G.nodes,G.shut.set k.toNat J⟩,0)else(G,8)
def aI.add(G:aI)(n:bi):aI×Int×Int:=
 if qm n.c5=U then(G,0,1)
 else if n.gate≠ -1/\G.lA n.gate=U then(G,0,8)
 else if G.nodes.length=80 then(G,0,11)
 else(⟨G.nodes++[n],G.shut⟩,G.nodes.length,0)
def sJ(c:Int):Bool:=decide (0<=c/\c<12)
def Aw(p f:Int):Bool:=decide (0<=p/\p<4/\0<=f/\f<6)
def aI.iv(G:aI)(c r g:Int):aI×Int×Int:=if sJ c then G.add ⟨-1,g,r,c, -1,0⟩else(G,0,1)
def aI.ih(G:aI)(p f r g:Int):aI×Int×Int:=if Aw p f then G.add ⟨-1,g,r,0,p,f⟩else(G,0,1)
def aI.derive(G:aI)(p r g:Int):aI×Int×Int:=if G.has p then G.add ⟨p,g,r,0, -1,0⟩else(G,0,8)
structure Ef(s:Nat)(i:Nat)(n:bi):Prop where
 en: -1<=n.parent
 dB:n.parent<i
 r:qm n.c5=J
 g:n.gate= -1\/0<=n.gate/\n.gate<s
 t:n.parent= -1->n.bu= -1/\0<=n.cell/\n.cell<12/\n.func=0\/0<=n.bu/\n.bu<4/\0<=n.func/\n.func<6/\n.cell=0
structure aI.dg(G:aI):Prop where
 oA:G.nodes.length<=80
 eU:G.shut.length<=20
 node:∀(i:Nat) (n:bi),G.nodes[i]? =o n->Ef G.shut.length i n
theorem Ef.more{s ek i:Nat}{n:bi}(h:Ef s i n)(aC:s<=ek):Ef ek i n:=⟨h.en,h.dB,h.r,h.g.imp id (λ⟨a,b⟩=>⟨a,by omega⟩),h.t⟩
theorem abJ:aI.dg ⟨[],[]⟩:=⟨by simp,by simp,λi n h=>by simp at h⟩
theorem aI.dg.gate{G:aI}(h:G.dg):G.gate.1.dg:=by
 unfold aI.gate;split
 ·exact h
 ·have:=h.eU;exact⟨h.oA,by simp;omega,λi n aA=>(h.node i n aA).more (by simp)⟩
theorem aI.dg.cut{G:aI}(h:G.dg)(k:Int):(G.cut k).1.dg:=by
 unfold aI.cut;split
 ·exact⟨h.oA,by simpa using h.eU,λi n aA=>by simpa using h.node i n aA⟩
 ·exact h
theorem aI.dg.add{G:aI}(h:G.dg){n:bi}(ak: -1<=n.parent)(I:n.parent<G.nodes.length)(a6:n.parent= -1->n.bu= -1/\0<=n.cell/\n.cell<12/\n.func=0\/0<=n.bu/\n.bu<4/\0<=n.func/\n.func<6/\n.cell=0):(G.add n).1.dg:=by
 unfold aI.add;split
 ·exact h
 ·rename_i au;split
  ·exact h
  ·rename_i a5;split
   ·exact h
   ·have:=h.oA;refine⟨by simp;omega,h.eU,λi m hm=>?_⟩;show Ef G.shut.length i m;simp only at hm;by_cases af:i<G.nodes.length
    ·rw[l0 af]at hm;exact h.node i m hm
    ·rw[l1 (by omega)]at hm;have hg:i - G.nodes.length=0:=by have:=(fO.1 hm).1;simpa using this
     rw[hg]at hm;simp at hm;subst hm;refine⟨ak,by omega,by simpa using au,?_,a6⟩;by_cases e:n.gate= -1
     ·exact .inl e
     ·right;have gF:G.lA n.gate=J:=by
       cases bA:G.lA n.gate
       ·exact absurd ⟨e,bA⟩ a5
       ·rfl
      simpa[aI.lA]using gF
theorem aI.dg.iv{G:aI}(h:G.dg)(c r g:Int):(G.iv c r g).1.dg:=by
 unfold aI.iv;split
 ·rename_i an;simp[sJ]at an;exact h.add (by simp) (by simp;omega) (λ_=>.inl ⟨rfl,an.1,an.2,rfl⟩)
 ·exact h
theorem aI.dg.ih{G:aI}(h:G.dg)(p f r g:Int):(G.ih p f r g).1.dg:=by
 unfold aI.ih;split
 ·rename_i an;simp[Aw]at an;exact h.add (by simp) (by simp;omega) (λ_=>.inr ⟨an.1,an.2.1,an.2.2.1,an.2.2.2,rfl⟩)
 ·exact h
theorem aI.dg.derive{G:aI}(h:G.dg)(p r g:Int):(G.derive p r g).1.dg:=by
 unfold aI.derive;split
 ·rename_i an;simp[aI.has]at an;exact h.add (by simp;omega) (by simp;omega) (λe=>by simp at e;omega)
 ·exact h
def aI.mM(G:aI):Nat->Int->List bi
 |0,_=>[]
 |f+1,i=>if G.has i then(G.nodes.getD i.toNat fL)::G.mM f (G.nodes.getD i.toNat fL).parent else[]
def aI.path(G:aI)(i:Int):List bi:=G.mM (i.toNat+1) i
theorem aI.dg.get{G:aI}(h:G.dg){i:Int}(af:G.has i=J):Ef G.shut.length i.toNat (G.nodes.getD i.toNat fL):=by
 simp[aI.has]at af;have am:i.toNat<G.nodes.length:=by omega
 have e:G.nodes[i.toNat]? =o (G.nodes.getD i.toNat fL):=by simp[cZ,am]
 exact h.node _ _ e
theorem aI.ap5{G:aI}(h:G.dg):∀(f:Nat) (i:Int),i.toNat<f->G.mM f i=G.path i:=by
 intro f;induction f using Nat.strongRecOn with
 |_ f aR=>
   intro i af;cases f with
   |zero=>omega
   |succ f=>
     unfold aI.path;by_cases bA:G.has i=J
     ·have ok:=h.get bA;have az:=ok.en;have ox:=ok.dB;have hg:0<=i:=by simp[aI.has]at bA;exact bA.1
      unfold aI.mM;rw[if_pos bA,if_pos bA];congr 1;generalize (G.nodes.getD i.toNat fL).parent=p at*;by_cases Gt:p<0
      ·have m1:G.has p=U:=by simp[aI.has];omega
       cases f with
       |zero=>cases aA:i.toNat<;>simp[aI.mM,m1]
       |succ f=>cases aA:i.toNat<;>simp[aI.mM,m1]
      ·have aw:=aR f (by omega) p (by omega);rw[aw];rcases oj i.toNat (f+1)with R|R
       ·have ay:=aR i.toNat (by omega) p (by omega);rw[ay]
       ·omega
     ·cases f<;>simp[aI.mM,bA]
theorem aI.Eg{G:aI}(h:G.dg){i:Int}(af:G.has i=J):G.path i=(G.nodes.getD i.toNat fL)::G.path (G.nodes.getD i.toNat fL).parent:=by
 have ok:=h.get af;have ox:=ok.dB;have q8:=ok.en;have hg:0<=i:=by simp[aI.has]at af;exact af.1
 rw[aI.path,aI.mM,if_pos af];congr 1;generalize (G.nodes.getD i.toNat fL).parent=p at*;by_cases Gt:p<0
 ·have m1:G.has p=U:=by simp[aI.has];omega
  unfold aI.path;cases i.toNat<;>simp[aI.mM,m1]
 ·exact aI.ap5 h _ _ (by omega)
theorem aI.xx{G:aI}{i:Int}(af:G.has i=U):G.path i=[]:=by rw[aI.path,aI.mM,af];rfl
def qn(G:aI)(n:bi):Bool:=decide (0<=n.gate)&& !G.xw n.gate
def aI.c5(G:aI)(i:Int):Int:=if G.path i=[]\/(G.path i).any (qn G)then 0 else(G.path i).foldl (λr n=>mL r n.c5) 15
def aI.target(G:aI)(i:Int):bi×Bool:=((G.path i).getLastD fL,!(G.path i).isEmpty)
def mN(l:List bi):List Int:=(l.filter λn=>decide (0<=n.gate)).map (·.gate)
def aI.kx(G:aI)(i:Int):List Int:=mN (G.path i)
def dv(n:bi):List F:=[.int j n.parent,.int j n.gate,.int j n.c5,.int j n.cell,.int j n.bu,.int j n.func]
abbrev kl:a9:=132
abbrev q9:a9:=4
def y7(h:ai)(al:Nat->Prop)(e:a9)(v:F)(rows:List (List F)):Prop:=(rows=[]/\v= .aJ)\/∃id,al id/\rows≠[]/\id<h.ids/\h.hw id=rows.length/\v= .b5 (o id) e rows
def y8(h:ai)(ah:Nat->Prop)(b:Nat)(e:a9)(v:F)(rows:List (List F)):Prop:=(rows=[]/\v= .aJ)\/∃q,ah q/\q≠b/\q<h.n/\h.cell q=o rows/\v= .bw q 0 rows.length e
structure fm(h:ai)(ah al:Nat->Prop)(b:Nat)(G:aI):Prop where
 ad:ah b/\b<h.n
 lt:(∀k,ah k->k<h.n)/\∀D,al D->D<h.ids
 ex:∃aZ dS,h.cell b=o [[aZ,dS]]/\y7 h al kl aZ (G.nodes.map dv)/\y8 h ah b q9 dS (G.shut.map λx=>[.bool x])
structure mO(ah al:Nat->Prop)(h E:ai):Prop where
 n:h.n<=E.n
 ids:h.ids<=E.ids
 cell:∀k,k<h.n->¬ah k->E.cell k=h.cell k
 hw:∀D,D<h.ids->¬al D->E.hw D=h.hw D
def gx(h:ai)(ah al:Nat->Prop)(b:Nat)(E:ai)(b7:aI):Prop:=∃mj ml,fm E mj ml b b7/\mO ah al h E/\(∀k,mj k->ah k\/h.n<=k)/\(∀D,ml D->al D\/h.ids<=D)
def hr:List Int->aI->Int->aI×Int×Int
 |[],G,n=>(G,n,0)
 |k::l,G,n=>if(G.derive n 15 k).2.2≠0 then((G.derive n 15 k).1,0,(G.derive n 15 k).2.2)else hr l (G.derive n 15 k).1 (G.derive n 15 k).2.1
def ce:ax:=.mk 0 0 []
def iU(aQ:List Int)(G:aI)(kind n:Int):aI×Int×Int:=if kind=4 then hr aQ G n else(G,n,0)
mutual
def fw(aQ:List Int):ax->aI->aI×ax×Int
 |.mk kind n l,G=>
   if(iU aQ G kind n).2.2≠0 then((iU aQ G kind n).1,ce,(iU aQ G kind n).2.2)
   else if(gq aQ l (iU aQ G kind n).1).2.2≠0 then((gq aQ l (iU aQ G kind n).1).1,ce,(gq aQ l (iU aQ G kind n).1).2.2)
   else((gq aQ l (iU aQ G kind n).1).1,.mk kind (iU aQ G kind n).2.1 (gq aQ l (iU aQ G kind n).1).2.1,0)
def gq(aQ:List Int):List ax->aI->aI×List ax×Int
 |[],G=>(G,[],0)
 |x::l,G=>
   if(fw aQ x G).2.2≠0 then((fw aQ x G).1,[],(fw aQ x G).2.2)
   else((gq aQ l (fw aQ x G).1).1,(fw aQ x G).2.1::(gq aQ l (fw aQ x G).1).2.1,(gq aQ l (fw aQ x G).1).2.2)
end
theorem KM(aQ:List Int)(x:ax)(G:aI):fw aQ x G=if(iU aQ G x.kind x.n).2.2≠0 then((iU aQ G x.kind x.n).1,ce,(iU aQ G x.kind x.n).2.2) else if(gq aQ x.l (iU aQ G x.kind x.n).1).2.2≠0 then((gq aQ x.l (iU aQ G x.kind x.n).1).1,ce,(gq aQ x.l (iU aQ G x.kind x.n).1).2.2) else((gq aQ x.l (iU aQ G x.kind x.n).1).1,.mk x.kind (iU aQ G x.kind x.n).2.1 (gq aQ x.l (iU aQ G x.kind x.n).1).2.1,0):=by cases x;rfl
def qo(G:aI)(x:ax):Int:=
 if x.code≠0 then x.code else if x.gate then 9 else if x.fX.any λn=> !fK (G.c5 n) 2 then 9 else 0
def fg(aQ:List Int)(G:aI)(x:ax):aI×ax×Int:=if qo G x≠0 then(G,ce,qo G x)else fw aQ x G
theorem abK(aQ:List Int):∀(G:aI) (n:Int),G.dg->(hr aQ G n).1.dg:=by
 induction aQ with
 |nil=>intro G n h;exact h
 |cons k l aR=>
   intro G n h;simp only[hr];split
   ·exact h.derive _ _ _
   ·exact aR _ _ (h.derive _ _ _)
theorem Qz{G:aI}{kind n:Int}(h:G.dg):(iU aQ G kind n).1.dg:=by
 unfold iU;split
 ·exact abK aQ G n h
 ·exact h
mutual
theorem GB(aQ:List Int):∀(x:ax) (G:aI),G.dg->(fw aQ x G).1.dg
 |.mk kind n l,G,h=>by
   simp only[fw];split
   ·exact Qz h
   ·split
    ·exact QA aQ l _ (Qz h)
    ·exact QA aQ l _ (Qz h)
theorem QA(aQ:List Int):∀(l:List ax) (G:aI),G.dg->(gq aQ l G).1.dg
 |[],G,h=>h
 |x::l,G,h=>by
   simp only[gq];split
   ·exact GB aQ x G h
   ·exact QA aQ l _ (GB aQ x G h)
end
theorem QB{G:aI}{x:ax}(h:G.dg):(fg aQ G x).1.dg:=by
 unfold fg;split
 ·exact h
 ·exact GB aQ x G h
theorem mO.refl(ah al:Nat->Prop)(h:ai):mO ah al h h:=⟨b9 _,b9 _,λ_ _ _=>rfl,λ_ _ _=>rfl⟩
theorem aG.wi{h E:ai}(g:aG h E)(ah al:Nat->Prop):mO ah al h E:=⟨g.n,g.ids,λk ab _=>g.cell k ab,λD ae _=>g.hw D ae⟩
theorem mO.trans{ah al:Nat->Prop}{a b c:ai}(x:mO ah al a b)(y:mO ah al b c):mO ah al a c:=⟨e6 x.n y.n,e6 x.ids y.ids,λk ab dJ=>(y.cell k (fS ab x.n) dJ).trans (x.cell k ab dJ),λD ae g1=>(y.hw D (fS ae x.ids) g1).trans (x.hw D ae g1)⟩
theorem mO.then{ah al mj ml:Nat->Prop}{a b c:ai}(x:mO ah al a b)(y:mO mj ml b c)(dJ:∀k,mj k->ah k\/a.n<=k)(g1:∀D,ml D->al D\/a.ids<=D):mO ah al a c:=⟨e6 x.n y.n,e6 x.ids y.ids,
  λk ab I=>(y.cell k (fS ab x.n) λR=>by rcases dJ k R with h|h;exact I h;omega).trans (x.cell k ab I),
  λD ae I=>(y.hw D (fS ae x.ids) λR=>by rcases g1 D R with h|h;exact I h;omega).trans (x.hw D ae I)⟩
theorem fm.g9{h E:ai}{ah al dZ eh:Nat->Prop}{b:Nat}{G:aI}(g:fm h ah al b G)(c:mO dZ eh h E)(dJ:∀k,ah k->¬dZ k)(g1:∀D,al D->¬eh D):fm E ah al b G:=by
 obtain⟨aZ,dS,I,R,aj⟩:=g.ex;refine⟨⟨g.ad.1,fS g.ad.2 c.n⟩,⟨λk ab=>fS (g.lt.1 k ab) c.n,λD ae=>fS (g.lt.2 D ae) c.ids⟩,aZ,dS,(c.cell b g.ad.2 (dJ b g.ad.1)).trans I,?_,?_⟩
 ·rcases R with R|⟨id,aP,jI,a2,bl,cr⟩
  ·exact .inl R
  ·exact .inr ⟨id,aP,jI,fS a2 c.ids,(c.hw id a2 (g1 id aP)).trans bl,cr⟩
 ·rcases aj with aj|⟨q,aP,a2,bl,cr,ej⟩
  ·exact .inl aj
  ·exact .inr ⟨q,aP,a2,fS bl c.n,(c.cell q bl (dJ q aP)).trans cr,ej⟩
structure cc where
 A:ai->(Nat->Prop)->(Nat->Prop)->Prop
 lt:∀{h:ai} {ah al:Nat->Prop},A h ah al->(∀k,ah k->k<h.n)/\∀D,al D->D<h.ids
 g9:∀{h E:ai} {ah al X Y:Nat->Prop},A h ah al->mO X Y h E->(∀k,ah k->¬X k)->(∀D,al D->¬Y D)->A E ah al
def xy(p:Prop):cc where
 A _ ah al:=p/\(∀k,¬ah k)/\∀D,¬al D
 lt:=λ⟨_,a,b⟩=>⟨λk ab=>absurd ab (a k),λD ae=>absurd ae (b D)⟩
 g9:=λh _ _ _=>h
def a1(b:Nat)(es:List (List F)):cc where
 A h ah al:=(∀k,ah k↔k=b)/\(∀D,¬al D)/\b<h.n/\h.cell b=o es
 lt:=λ⟨a,b,c,_⟩=>⟨λk ab=>by rw[(a k).1 ab];exact c,λD ae=>absurd ae (b D)⟩
 g9:=λ⟨a,b,c,d⟩ x dJ _=>⟨a,b,fS c x.n,(x.cell _ c (dJ _ ((a _).2 rfl))).trans d⟩
def GC(id n:Nat):cc where
 A h ah al:=(∀k,¬ah k)/\(∀D,al D↔D=id)/\id<h.ids/\h.hw id=n
 lt:=λ⟨a,b,c,_⟩=>⟨λk ab=>absurd ab (a k),λD ae=>by rw[(b D).1 ae];exact c⟩
 g9:=λ⟨a,b,c,d⟩ x _ g1=>⟨a,b,fS c x.ids,(x.hw _ c (g1 _ ((b _).2 rfl))).trans d⟩
def ij(X Y:cc):cc where
 A h ah al:=∃eJ eK dZ eh,X.A h eJ eK/\Y.A h dZ eh/\(∀k,ah k↔eJ k\/dZ k)/\(∀D,al D↔eK D\/eh D)/\(∀k,eJ k->¬dZ k)/\(∀D,eK D->¬eh D)
 lt:=λ⟨eJ,eK,dZ,eh,x,y,dJ,g1,_,_⟩=>⟨λk ab=>((dJ k).1 ab).elim ((X.lt x).1 k) ((Y.lt y).1 k),λD ae=>((g1 D).1 ae).elim ((X.lt x).2 D) ((Y.lt y).2 D)⟩
 g9:=λ⟨eJ,eK,dZ,eh,x,y,dJ,g1,q',ra⟩ c wj wk=>
  ⟨eJ,eK,dZ,eh,X.g9 x c (λk ab=>wj k ((dJ k).2 (.inl ab))) (λD ae=>wk D ((g1 D).2 (.inl ae))),Y.g9 y c (λk ab=>wj k ((dJ k).2 (.inr ab))) (λD ae=>wk D ((g1 D).2 (.inr ae))),dJ,g1,q',ra⟩
def u0{α:Type}(X:α->cc):cc where
 A h ah al:=∃a,(X a).A h ah al
 lt:=λ⟨a,x⟩=>(X a).lt x
 g9:=λ⟨a,x⟩ c wj wk=>⟨a,(X a).g9 x c wj wk⟩
def abL(X Y:cc):cc where
 A h ah al:=X.A h ah al\/Y.A h ah al
 lt:=λh=>h.elim X.lt Y.lt
 g9:=λh c wj wk=>h.imp (λx=>X.g9 x c wj wk) (λy=>Y.g9 y c wj wk)
def y9(p:Prop)(X:cc):cc where
 A h ah al:=p/\X.A h ah al
 lt:=λh=>X.lt h.2
 g9:=λh c wj wk=>⟨h.1,X.g9 h.2 c wj wk⟩
def gU(b:Nat)(G:aI):cc where
 A h ah al:=fm h ah al b G
 lt:=λg=>g.lt
 g9:=λg c wj wk=>g.g9 c wj wk
def cm:List cc->cc
 |[]=>xy True
 |X::L=>ij X (cm L)
def gJ(h:ai)(ah al:Nat->Prop)(E:ai)(X:cc):Prop:=∃mj ml,X.A E mj ml/\mO ah al h E/\(∀k,mj k->ah k\/h.n<=k)/\(∀D,ml D->al D\/h.ids<=D)
structure lP where
 (bu cell right node:Int)
structure bt where
 G:aI
 cells:List Int
 log:List lP
 kept:List ax
 left:Nat
abbrev dn:=List (Option (List bC))
def jK:bC:=.mk 0 0 0 []
def kG(n:Int):ax:=.mk 1 n []
def ge(n:Int):ax:=.mk 4 n []
def hs(ms:dn)(p:Int):List bC:=(ms.getD p.toNat ag).getD []
def gK(ms:dn)(p k:Int):bC:=(hs ms p).getD k.toNat jK
def Ax(k a b:Int):Int:=if k=1 then kw j (a+b)else if k=2 then kw j (a - b)else if k=3 then kw j (a*b)else if k=4 then(if a<b then 1 else 0)else if k=5 then(if a=b then 1 else 0)else 0
def bt.ok(S:bt)(v:ax):bt×ax×Int:=(S,v,0)
def bt.no(S:bt)(c:Int):bt×ax×Int:=(S,ce,c)
def bt.tick(S:bt):bt:={S with left:=S.left - 1}
def xz(S:bt)(q:aI×Int×Int):bt×ax×Int:=if q.2.2≠0 then({S with G:=q.1}).no q.2.2 else({S with G:=q.1}).ok (ge q.2.1)
def gV(p op k n:Int)(l:List ax)(S:bt):bt×ax×Int:=
 let a:=l.getD 0 ce;let b:=l.getD 1 ce
 if op=6 then(if a.kind≠1\/b.kind≠1 then S.no 2 else S.ok (kG (Ax k a.n b.n)))
 else if op=8 then(if(ax.mk 2 0 [a,b]).code≠0 then S.no 3 else S.ok (.mk 2 0 [a,b]))
 else if op=9 then(if a.kind≠2 then S.no 2 else S.ok (a.l.getD 0 ce))
 else if op=10 then(if a.kind≠2 then S.no 2 else S.ok (a.l.getD 1 ce))
 else if op=11 then(if(ax.mk 3 p [a]).code≠0 then S.no 3 else S.ok (.mk 3 p [a]))
 else if op=12 then(if a.kind≠3 then S.no 2 else if a.n≠p then S.no 10 else S.ok (a.l.getD 0 ce))
 else if op=13 then(if a.kind≠4 then S.no 2 else if fK (S.G.c5 a.n) 0=U then S.no 9 else if 0<=(S.G.target a.n).1.bu then S.no 2 else({S with log:=S.log++[lP.mk p (S.G.target a.n).1.cell 1 a.n]}).ok (kG (S.cells.getD (S.G.target a.n).1.cell.toNat 0)))
 else if op=14 then(if a.kind≠4\/b.kind≠1 then S.no 2 else if fK (S.G.c5 a.n) 1=U then S.no 9 else if 0<=(S.G.target a.n).1.bu then S.no 2 else({S with log:=S.log++[lP.mk p (S.G.target a.n).1.cell 2 a.n],cells:=S.cells.set (S.G.target a.n).1.cell.toNat b.n}).ok b)
 else if op=15 then(if a.kind≠4 then S.no 2 else xz S (S.G.derive a.n k (-1)))
 else if op=16 then(if a.kind≠4 then S.no 2 else if S.G.gate.2.2≠0 then({S with G:=S.G.gate.1}).no S.G.gate.2.2 else match S.G.gate.1.derive a.n 15 S.G.gate.2.1 with
   |(b7,m,c)=>if c≠0 then({S with G:=b7}).no c else({S with G:=b7}).ok (.mk 2 0 [ge m,.mk 5 S.G.gate.2.1 []]))
 else if op=17 then(if a.kind≠5 then S.no 2 else({S with G:=(S.G.cut a.n).1}).ok ce)
 else if op=20 then({S with kept:=S.kept.set p.toNat a}).ok (S.kept.getD p.toNat ce)
 else S.no 0
structure rP where
 (bu func:Int)
 arg:ax
 eU:List Int
def hH(ms:dn)(v x:ax)(aM:Nat)(S:bt):bt×rP×Int:=
 let t:=(S.G.target v.n).1;let z:rP:=⟨0,0,ce,[]⟩
 if v.kind≠4 then(S,z,2)else if fK (S.G.c5 v.n) 3=U then(S,z,9)else if t.bu<0 then(S,z,2)
 else if(ms.getD t.bu.toNat ag).isNone\/((hs ms t.bu).length:Int)<=t.func\/t.func<0 then(S,z,8)
 else if aM=20 then(S,z,4)
 else match fg (S.G.kx v.n) S.G x with
  |(b7,y,c)=>({S with G:=b7},⟨t.bu,t.func,y,S.G.kx v.n⟩,c)
def lQ(eU:List Int)(v:ax)(S:bt):bt×ax×Int:=match fg eU S.G v with
 |(b7,y,c)=>if c≠0 then({S with G:=b7}).no c else({S with G:=b7}).ok y
def jd(f:bC->bt->bt×ax×Int):List bC->bt->List ax->bt×List ax×Int
 |[],S,acc=>(S,acc,0)
 |x::l,S,acc=>match f x S with
   |(b0,v,c)=>if c≠0 then(b0,[],c)else jd f l b0 (acc++[v])
def jL(p:Int)(x:bC)(arg:ax)(names:List ax)(S:bt):Option ax:=
 if x.op=1 then o ce else if x.op=2 then o (kG x.n)else if x.op=3 then o arg
 else if x.op=4 then o (names.getD (names.length - 1 - x.k.toNat) ce)else if x.op=21 then o (S.kept.getD p.toNat ce)else ag
def dp(ms:dn):Nat->Int->bC->ax->List ax->Nat->bt->bt×ax×Int
 |0,_,_,_,_,_,S=>S.no 12
 |N+1,p,x,arg,names,aM,S=>
   if S.left=0 then S.no 12
   else match jL p x arg names S.tick with
   |some v=>S.tick.ok v
   |none=>
     if x.op=5 then(match dp ms N p (x.l.getD 0 jK) arg names aM S.tick with
      |(b0,v,c)=>if c≠0 then b0.no c else dp ms N p (x.l.getD 1 jK) arg (names++[v]) aM b0)
     else if x.op=7 then(match dp ms N p (x.l.getD 0 jK) arg names aM S.tick with
      |(b0,v,c)=>if c≠0 then b0.no c else if v.kind≠1 then b0.no 2 else if v.n≠0 then dp ms N p (x.l.getD 1 jK) arg names aM b0 else dp ms N p (x.l.getD 2 jK) arg names aM b0)
     else match jd (λy S=>dp ms N p y arg names aM S) x.l S.tick []with
      |(b0,l,c)=>if c≠0 then b0.no c else if x.op=18 then(if aM=20 then b0.no 4 else dp ms N p (gK ms p x.k) (l.getD 0 ce) [] (aM+1) b0) else if x.op=19 then(match hH ms (l.getD 0 ce) (l.getD 1 ce) aM b0 with
         |(lB,q,c)=>if c≠0 then lB.no c else match dp ms N q.bu (gK ms q.bu q.func) q.arg [] (aM+1) lB with
           |(na,v,c)=>if c≠0 then na.no c else lQ q.eU v na)
        else gV p x.op x.k x.n l b0
structure jq where
 (bu f:Int)
 bU:Nat
 arg:ax
 (stack names:List ax)
 asked:Bool
 eU:List Int
structure cH where
 S:bt
 top:jq
 below:List jq
inductive rQ where
 |go (m:cH)
 |over (S:bt) (v:ax)
 |fail (S:bt) (c:Int)
def y':bv:=⟨0,0,0⟩
def mm(ms:dn)(p f:Int):List bv:=cW (gK ms p f) 0++[⟨105,0,0⟩]
def cH.push(m:cH)(S:bt)(st:List ax)(v:ax):rQ:=.go {m with S:=S,top:={m.top with stack:=st++[v]}}
def cH.done(m:cH)(st:List ax)(q:bt×ax×Int):rQ:=if q.2.2≠0 then .fail q.1 q.2.2 else m.push q.1 st q.2.1
def cH.call(m:cH)(S:bt)(st:List ax)(p f:Int)(arg:ax)(asked:Bool)(eU:List Int):rQ:=
 if m.below.length+1=20 then .fail S 4 else .go ⟨S,⟨p,f,0,arg,[],[],asked,eU⟩,m.below++[{m.top with stack:=st}]⟩
def tG(st:List ax)(k:Nat):List ax:=st.drop (st.length - k)
def wl(st:List ax)(k:Nat):List ax:=st.take (st.length - k)
def pa(ms:dn)(m:cH)(x:bv):rQ:=
 let t:=m.top
 match jL t.bu (.mk x.op x.k x.n []) t.arg t.names m.S with
 |some v=>m.push m.S t.stack v
 |none=>
   if x.op=18 then m.call m.S (wl t.stack 1) t.bu x.k ((tG t.stack 1).getD 0 ce) U []
   else if x.op=19 then(match hH ms ((tG t.stack 2).getD 0 ce) ((tG t.stack 2).getD 1 ce) (m.below.length+1) m.S with
    |(b0,q,c)=>if c≠0 then .fail b0 c else m.call b0 (wl t.stack 2) q.bu q.func q.arg J q.eU)
   else m.done (wl t.stack (gw x.op).toNat) (gV t.bu x.op x.k x.n (tG t.stack (gw x.op).toNat) m.S)
def cH.back(m:cH):rQ:=
 let v:=(tG m.top.stack 1).getD 0 ce;let q:=if m.top.asked then lQ m.top.eU v m.S else m.S.ok v
 if q.2.2≠0 then .fail q.1 q.2.2
 else match m.below.getLast? with
  |none=>.over q.1 q.2.1
  |some t=>.go ⟨q.1,{t with stack:=t.stack++[q.2.1]},m.below.dropLast⟩
def pb(ms:dn)(nD:cH):rQ:=
 let x:=(mm ms nD.top.bu nD.top.f).getD nD.top.bU y';let m:cH:={nD with top:={nD.top with bU:=nD.top.bU+1}};let t:=m.top
 if x.op=100 then(if m.S.left=0 then .fail m.S 12 else .go {m with S:=m.S.tick})
 else if x.op=101 then .go {m with top:={t with stack:=wl t.stack 1,names:=t.names++[(tG t.stack 1).getD 0 ce]}}
 else if x.op=102 then .go {m with top:={t with names:=t.names.dropLast}}
 else if x.op=103 then(let v:=(tG t.stack 1).getD 0 ce
  if v.kind≠1 then .fail m.S 2 else .go {m with top:={t with stack:=wl t.stack 1,bU:=if v.n=0 then x.k.toNat else t.bU}})
 else if x.op=104 then .go {m with top:={t with bU:=x.k.toNat}}
 else if x.op=105 then m.back
 else pa ms m x
theorem KN{α:Type}{c:Prop}[Decidable c]{a b:bt×α}{n:Nat}(I:a.1.left=n)(R:b.1.left=n):(if c then a else b).1.left=n:=by split<;>assumption
theorem ap6(S:bt)(q:aI×Int×Int):(xz S q).1.left=S.left:=by unfold xz;exact KN rfl rfl
theorem ap7(p op k n:Int)(l:List ax)(S:bt):(gV p op k n l S).1.left=S.left:=by
 unfold gV
 repeat' (first|rfl|exact ap6 _ _|refine KN ?_ ?_)
theorem QC(ms:dn)(v x:ax)(aM:Nat)(S:bt):(hH ms v x aM S).1.left=S.left:=by
 unfold hH
 repeat' (first|rfl|refine KN ?_ ?_)
theorem ap8(eU:List Int)(v:ax)(S:bt):(lQ eU v S).1.left=S.left:=by unfold lQ;split;exact KN rfl rfl
theorem QD{f:bC->bt->bt×ax×Int}(bo:∀x S,(f x S).1.left<=S.left):∀(l:List bC) (S:bt) (acc:List ax),(jd f l S acc).1.left<=S.left
 |[],S,acc=>b9 _
 |x::l,S,acc=>by
   have I:=bo x S;rw[jd];rcases aX:f x S with⟨b0,v,c⟩;rw[aX]at I;simp only at I ⊢;split
   ·exact I
   ·exact e6 (QD bo l b0 _) I
theorem Eh(ms:dn):∀(N:Nat) (p:Int) (x:bC) (arg:ax) (names:List ax) (aM:Nat) (S:bt),(dp ms N p x arg names aM S).1.left<=S.left
 |0,p,x,arg,names,aM,S=>b9 _
 |N+1,p,x,arg,names,aM,S=>by
   have aR:=Eh ms N;have a6:S.tick.left<=S.left:=Nat.sub_le _ _;rw[dp];split
   ·exact b9 _
   ·split
    ·exact a6
    ·split
     ·have I:=aR p (x.l.getD 0 jK) arg names aM S.tick;rcases aX:dp ms N p (x.l.getD 0 jK) arg names aM S.tick with⟨b0,v,c⟩;rw[aX]at I;simp only at I ⊢;split
      ·exact e6 I a6
      ·exact e6 (aR _ _ _ _ _ _) (e6 I a6)
     ·split
      ·have I:=aR p (x.l.getD 0 jK) arg names aM S.tick;rcases aX:dp ms N p (x.l.getD 0 jK) arg names aM S.tick with⟨b0,v,c⟩;rw[aX]at I;simp only at I ⊢;split
       ·exact e6 I a6
       ·split
        ·exact e6 I a6
        ·split
         ·exact e6 (aR _ _ _ _ _ _) (e6 I a6)
         ·exact e6 (aR _ _ _ _ _ _) (e6 I a6)
      ·have I:=QD (f:=λy S=>dp ms N p y arg names aM S) (λy S=>aR p y arg names aM S) x.l S.tick [];rcases aX:jd (λy S=>dp ms N p y arg names aM S) x.l S.tick []with⟨b0,l,c⟩;rw[aX]at I;simp only at I ⊢;split
       ·exact e6 I a6
       ·split
        ·split
         ·exact e6 I a6
         ·exact e6 (aR _ _ _ _ _ _) (e6 I a6)
        ·split
         ·have R:=QC ms (l.getD 0 ce) (l.getD 1 ce) aM b0;rcases uT:hH ms (l.getD 0 ce) (l.getD 1 ce) aM b0 with⟨lB,q,bD⟩;rw[uT]at R;simp only at R ⊢;split
          ·exact e6 (qU R) (e6 I a6)
          ·have aj:=aR q.bu (gK ms q.bu q.func) q.arg [] (aM+1) lB;rcases Ay:dp ms N q.bu (gK ms q.bu q.func) q.arg [] (aM+1) lB with⟨na,v,cl⟩;rw[Ay]at aj;simp only at aj ⊢;split
           ·exact e6 aj (e6 (qU R) (e6 I a6))
           ·rw[ap8];exact e6 aj (e6 (qU R) (e6 I a6))
         ·rw[ap7];exact e6 I a6
def bt.bh(S:bt):Nat:=S.log.length+S.left
structure bt.Good(S:bt):Prop where
 wf:S.G.dg
 cells:S.cells.length=12
 kept:S.kept.length=4
 tH:∀v∈S.kept,v.code=0
theorem za:ce.code=0:=by decide
theorem GD(n:Int):(kG n).code=0:=rfl
theorem zb{l:List ax}(h:∀v∈l,v.code=0)(i:Nat):(l.getD i ce).code=0:=by
 by_cases af:i<l.length
 ·simp only[cZ,fT af,qT];exact h _ (jl af)
 ·simp only[cZ,mE (Nat.le_of_not_lt af),Option.getD_none];exact za
theorem abM:∀{l:List ax},oz l=0->∀x∈l,x.fault=0
 |[],_,x,aF=>by simp at aF
 |y::l,h,x,aF=>by
   rw[Gz]at h;split at h
   ·rename_i I;exact absurd h I
   ·rename_i I;rcases mJ.1 aF with rfl|aF
    ·omega
    ·exact abM h x aF
theorem B1{v:ax}(h:v.code=0):v.size<=40/\jJ v.kind v.n v.l.length=0/\∀x∈v.l,x.code=0:=by
 unfold ax.code at h;split at h
 ·cases h
 ·rename_i aC;rw[v.Ee]at h;split at h
  ·rename_i I;exact absurd h I
  ·rename_i I;refine⟨by omega,by omega,λx aF=>?_⟩;unfold ax.code;have:=ax.ql aF;rw[if_neg (by omega)];exact abM h x aF
theorem QE{kind n:Int}{l:List ax}(aC:(ax.mk kind n l).size<=40)(bA:jJ kind n l.length=0)(am:∀x∈l,x.code=0):(ax.mk kind n l).code=0:=by
 have key:∀l:List ax,(∀x∈l,x.code=0)->oz l=0:=by
  intro l am;induction l with
  |nil=>rfl
  |cons x l aR=>
    have I:=am x (by simp);unfold ax.code at I;split at I
    ·cases I
    ·rw[Gz,if_neg (by omega)];exact aR λy bH=>am y (by simp[bH])
 unfold ax.code;rw[if_neg (by omega)];show(if jJ kind n l.length≠0 then jJ kind n l.length else oz l)=0;rw[if_neg (by omega)];exact key l am
theorem GF{v:ax}(h:v.code=0):(v.kind=2->∃a b,v.l=[a,b])/\(v.kind=3->∃a,v.l=[a]):=by
 obtain⟨_,I,_⟩:=B1 h;unfold jJ at I;split at I
 ·cases I
 ·split at I
  ·cases I
  ·rename_i R;constructor
   ·intro aj;simp only[l8,aj,if_true,Decidable.not_not]at R
    match am:v.l,R with
    |[a,b],_=>exact⟨a,b,rfl⟩
   ·intro aj;simp only[l8,aj,if_true,Decidable.not_not]at R;rw[if_neg (by decide)]at R
    match am:v.l,R with
    |[a],_=>exact⟨a,rfl⟩
theorem KO{n:Int}(h:0<=n):(ge n).code=0:=QE (by simp[ax.size,j2]) (by simp[jJ,l8];omega) (by simp)
theorem ap9{n:Int}(h:0<=n):(ax.mk 5 n []).code=0:=QE (by simp[ax.size,j2]) (by simp[jJ,l8];omega) (by simp)
mutual
theorem abN(aQ:List Int):∀(x:ax) (G:aI),(fw aQ x G).2.2=0->(fw aQ x G).2.1.size=x.size
 |.mk kind n l,G,h=>by
   simp only[fw]at h ⊢;split at h
   ·rename_i I;exact absurd h I
   ·rename_i I;split at h
    ·rename_i R;exact absurd h R
    ·rename_i R;rw[if_neg I,if_neg R];simp only[ax.size];rw[(QF aQ l _ (by omega)).1]
theorem QF(aQ:List Int):∀(l:List ax) (G:aI),(gq aQ l G).2.2=0->j2 (gq aQ l G).2.1=j2 l/\(gq aQ l G).2.1.length=l.length
 |[],G,h=>⟨rfl,rfl⟩
 |x::l,G,h=>by
   simp only[gq]at h ⊢;split at h
   ·rename_i I;exact absurd h I
   ·rename_i I;rw[if_neg I];have R:=QF aQ l _ h;simp only[j2,ho];rw[abN aQ x G (by omega),R.1,R.2];exact⟨rfl,rfl⟩
end
theorem QG{G:aI}{n r k:Int}:0<=(G.derive n r k).2.1:=by
 unfold aI.derive aI.add;split
 ·split
  ·exact Int.le_refl _
  ·split
   ·exact Int.le_refl _
   ·split
    ·exact Int.le_refl _
    ·exact Int.natCast_nonneg _
 ·exact Int.le_refl _
theorem ap'(aQ:List Int):∀(G:aI) (n:Int),0<=n->0<=(hr aQ G n).2.1:=by
 induction aQ with
 |nil=>intro G n h;exact h
 |cons k l aR=>
   intro G n h;simp only[hr];split
   ·exact Int.le_refl _
   ·exact aR _ _ QG
mutual
theorem abO(aQ:List Int):∀(x:ax) (G:aI),x.fault=0->(fw aQ x G).2.2=0->(fw aQ x G).2.1.fault=0
 |.mk kind n l,G,bo,h=>by
   change (if jJ kind n l.length≠0 then jJ kind n l.length else oz l)=0 at bo;split at bo
   ·rename_i I;exact absurd bo I
   rename_i bA;simp only[fw]at h ⊢;split at h
   ·rename_i I;exact absurd h I
   ·rename_i I;split at h
    ·rename_i R;exact absurd h R
    ·rename_i R;rw[if_neg I,if_neg R];have am:=(QF aQ l (iU aQ G kind n).1 (by omega)).2;show(if jJ kind _ (gq aQ l (iU aQ G kind n).1).2.1.length≠0 then jJ kind _ (gq aQ l (iU aQ G kind n).1).2.1.length else oz (gq aQ l (iU aQ G kind n).1).2.1)=0;rw[am,if_neg]
     ·exact abP aQ l _ bo (by omega)
     ·unfold iU;by_cases aH:kind=4
      ·rw[if_pos aH];have:0<=n:=by
        unfold jJ at bA;split at bA
        ·simp at bA
        ·split at bA
         ·simp at bA
         ·split at bA
          ·simp at bA
          ·split at bA
           ·simp at bA
           ·omega
       have bq:=ap' aQ G n this;unfold jJ at bA ⊢;subst aH;rw[if_neg (by omega)]at bA ⊢;split at bA
       ·simp at bA
       ·rename_i cq;rw[if_neg cq,if_neg (by omega),if_neg (by omega)];decide
      ·rw[if_neg aH];exact bA
theorem abP(aQ:List Int):∀(l:List ax) (G:aI),oz l=0->(gq aQ l G).2.2=0->oz (gq aQ l G).2.1=0
 |[],G,bo,h=>rfl
 |x::l,G,bo,h=>by
   rw[Gz]at bo;split at bo
   ·rename_i I;exact absurd bo I
   rename_i aF;simp only[gq]at h ⊢;split at h
   ·rename_i I;exact absurd h I
   ·rename_i I;rw[if_neg I,Gz,if_neg (by rw[abO aQ x G (by omega) (by omega)];decide)];exact abP aQ l _ bo h
end
theorem QH{G:aI}{x:ax}(h:(fg aQ G x).2.2=0):(fg aQ G x).2.1.code=0:=by
 unfold fg at h ⊢;split at h
 ·rename_i I;exact absurd h I
 ·rename_i I;rw[if_neg I];have aF:x.code=0:=by
   unfold qo at I;split at I
   ·rename_i R;exact absurd I (by simpa using R)
   ·omega
  have aC:=(B1 aF).1;unfold ax.code at aF ⊢;rw[if_neg (by omega)]at aF;rw[if_neg (by rw[abN aQ x G h];omega)];exact abO aQ x G aF h
structure d9(n:Nat)(S:bt)(q:bt×ax×Int):Prop where
 cY:q.1.Good
 bh:q.1.bh<=S.bh+n
 left:q.1.left<=S.left
 val:q.2.2=0->q.2.1.code=0
theorem bt.Good.with{S:bt}(h:S.Good){G:aI}(dm:G.dg):({S with G:=G}:bt).Good:=⟨dm,h.cells,h.kept,h.tH⟩
theorem d9.no{S b0:bt}{n:Nat}{c:Int}(h:b0.Good)(I:b0.bh<=S.bh+n)(R:b0.left<=S.left):d9 n S (b0.no c):=⟨h,I,R,λ_=>za⟩
theorem d9.ok{S b0:bt}{n:Nat}{v:ax}(h:b0.Good)(I:b0.bh<=S.bh+n)(R:b0.left<=S.left)(Z:v.code=0):d9 n S (b0.ok v):=⟨h,I,R,λ_=>Z⟩
theorem d9.ite{S:bt}{n:Nat}{p:Prop}[Decidable p]{a b:bt×ax×Int}(I:p->d9 n S a)(R:¬p->d9 n S b):d9 n S (if p then a else b):=by
 split
 ·exact I ‹_›
 ·exact R ‹_›
theorem aqa{p op k n:Int}{l:List ax}{S:bt}(cw:S.Good)(am:∀v∈l,v.code=0):d9 1 S (gV p op k n l S):=by
 have aV:=zb am 0;have ad:=zb am 1;have nD:S.bh<=S.bh+1:=Nat.le_succ _;have no:∀{c:Int},d9 1 S (S.no c):=.no cw nD (b9 _);have ok:∀{v:ax},v.code=0->d9 1 S (S.ok v):=λZ=>.ok cw nD (b9 _) Z;unfold gV;refine .ite (λ_=>.ite (λ_=>no) λ_=>ok (GD _)) λcq=>?_;refine .ite (λ_=>.ite (λ_=>no) λh=>ok (by simpa using h)) λhu=>?_;refine .ite (λ_=>.ite (λ_=>no) λh=>ok (zb (B1 aV).2.2 0)) λrR=>?_;refine .ite (λ_=>.ite (λ_=>no) λh=>ok (zb (B1 aV).2.2 1)) λaqb=>?_;refine .ite (λ_=>.ite (λ_=>no) λh=>ok (by simpa using h)) λaqc=>?_;refine .ite (λ_=>.ite (λ_=>no) λ_=>.ite (λ_=>no) λ_=>ok (zb (B1 aV).2.2 0)) λQI=>?_;refine .ite (λ_=>.ite (λ_=>no) λ_=>.ite (λ_=>no) λ_=>.ite (λ_=>no) λ_=>?_) λaqd=>?_
 ·exact .ok ⟨cw.wf,cw.cells,cw.kept,cw.tH⟩ (by simp[bt.bh];omega) (b9 _) (GD _)
 refine .ite (λ_=>.ite (λ_=>no) λ_=>.ite (λ_=>no) λ_=>.ite (λ_=>no) λ_=>?_) λaqe=>?_
 ·exact .ok ⟨cw.wf,by simpa using cw.cells,cw.kept,cw.tH⟩ (by simp[bt.bh];omega) (b9 _) ad
 refine .ite (λ_=>.ite (λ_=>no) λ_=>?_) λtI=>?_
 ·unfold xz;exact .ite (λ_=>.no (cw.with (cw.wf.derive _ _ _)) nD (b9 _)) λ_=>.ok (cw.with (cw.wf.derive _ _ _)) nD (b9 _) (KO QG)
 refine .ite (λ_=>.ite (λ_=>no) λ_=>.ite (λ_=>.no (cw.with cw.wf.gate) nD (b9 _)) λa5=>?_) λaqf=>?_
 ·have hw:=cw.wf.gate.derive (l.getD 0 ce).n 15 S.G.gate.2.1;have aA:=QG (G:=S.G.gate.1) (n:=(l.getD 0 ce).n) (r:=15) (k:=S.G.gate.2.1);generalize S.G.gate.1.derive (l.getD 0 ce).n 15 S.G.gate.2.1=q at hw aA ⊢;obtain⟨b7,m,c⟩:=q;refine .ite (λ_=>.no (cw.with hw) nD (b9 _)) λ_=>.ok (cw.with hw) nD (b9 _) ?_;refine QE (by simp[ax.size,j2,ge]) (by simp[jJ,l8]) ?_;intro x aF;rcases mJ.1 aF with rfl|aF
  ·exact KO aA
  ·simp only[xq]at aF;subst aF;refine ap9 ?_;unfold aI.gate;split
   ·exact Int.le_refl _
   ·exact Int.natCast_nonneg _
 refine .ite (λ_=>.ite (λ_=>no) λ_=>?_) λaqg=>?_
 ·exact .ok (cw.with (cw.wf.cut _)) nD (b9 _) za
 refine .ite (λ_=>?_) λnE=>no;refine .ok ⟨cw.wf,cw.cells,by simpa using cw.kept,λv Z=>?_⟩ nD (b9 _) (zb cw.tH _);rcases List.mem_or_eq_of_mem_set Z with h|rfl
 ·exact cw.tH v h
 ·exact aV
theorem abQ(G:aI):∀(f:Nat) (i:Int),(G.mM f i).length<=f
 |0,_=>by simp[aI.mM]
 |f+1,i=>by
   unfold aI.mM;split
   ·have:=abQ G f (G.nodes.getD i.toNat fL).parent;simp only[ho];omega
   ·simp
theorem QJ{G:aI}(h:G.dg){i:Int}:(G.kx i).length<=80:=by
 unfold aI.kx mN;rw[fM];refine e6 (List.length_filter_le _ _) ?_;cases bA:G.has i with
 |false=>rw[aI.xx bA];simp
 |true=>have:=abQ G (i.toNat+1) i;simp only[aI.has,decide_eq_true_eq]at bA;have:=h.oA;unfold aI.path;omega
theorem abR{ms:dn}{v x:ax}{aM:Nat}{S:bt}(cw:S.Good):(hH ms v x aM S).1.Good/\(hH ms v x aM S).1.bh<=S.bh/\((hH ms v x aM S).2.2=0->(hH ms v x aM S).2.1.arg.code=0/\(hH ms v x aM S).2.1.eU.length<=80/\(ms.getD (hH ms v x aM S).2.1.bu.toNat ag).isSome/\0<=(hH ms v x aM S).2.1.bu/\0<=(hH ms v x aM S).2.1.func/\(hH ms v x aM S).2.1.func.toNat<(hs ms (hH ms v x aM S).2.1.bu).length):=by
 unfold hH;simp only;split
 ·exact⟨cw,b9 _,λh=>by simp at h⟩
 split
 ·exact⟨cw,b9 _,λh=>by simp at h⟩
 split
 ·exact⟨cw,b9 _,λh=>by simp at h⟩
 rename_i az;split
 ·exact⟨cw,b9 _,λh=>by simp at h⟩
 rename_i aA;simp only[not_or]at aA;split
 ·exact⟨cw,b9 _,λh=>by simp at h⟩
 refine⟨cw.with (QB cw.wf),b9 _,λh=>⟨QH h,?_,by simpa[Option.isNone_iff_eq_none,Option.isSome_iff_ne_none]using aA.1,by simp only;omega,by simp only;omega,?_⟩⟩
 ·exact QJ cw.wf
 ·have:=aA.2.1;have:=aA.2.2;simp only;omega
theorem aqh{eU:List Int}{v:ax}{S:bt}(cw:S.Good):d9 0 S (lQ eU v S):=by unfold lQ;have hw:=QB (aQ:=eU) (x:=v) cw.wf;have an:=QH (aQ:=eU) (G:=S.G) (x:=v);generalize fg eU S.G v=q at hw an ⊢;obtain⟨b7,y,c⟩:=q;refine .ite (λ_=>.no (cw.with hw) (b9 _) (b9 _)) λh=>.ok (cw.with hw) (b9 _) (b9 _) (an (by simpa using h))
def KP(S:bt)(q:bt×ax×Int):Prop:=d9 0 S q/\(q.2.2=0->q.1.left<S.left)
theorem d9.trans{n k:Nat}{S QK:bt}{q:bt×ax×Int}(I:QK.bh<=S.bh+n)(R:QK.left<=S.left)(h:d9 k QK q):d9 (n+k) S q:=⟨h.cY,by have:=h.bh;omega,e6 h.left R,h.val⟩
theorem d9.rJ{n k:Nat}{S:bt}{q:bt×ax×Int}(h:d9 k S q)(ab:k<=n):d9 n S q:=⟨h.cY,by have:=h.bh;omega,h.left,h.val⟩
theorem KQ{f:bC->bt->bt×ax×Int}(bo:∀x S,S.Good->KP S (f x S)):∀(l:List bC) (S:bt) (acc:List ax),S.Good->(∀v∈acc,v.code=0)->(jd f l S acc).1.Good/\(jd f l S acc).1.bh<=S.bh/\(jd f l S acc).1.left<=S.left/\((jd f l S acc).2.2=0->(∀v∈(jd f l S acc).2.1,v.code=0)/\(jd f l S acc).1.left+(jd f l S acc).2.1.length<=S.left+acc.length)
 |[],S,acc,cw,aV=>⟨cw,b9 _,b9 _,λ_=>⟨aV,b9 _⟩⟩
 |x::l,S,acc,cw,aV=>by
   obtain⟨I,R⟩:=bo x S cw;rw[jd];rcases aX:f x S with⟨b0,v,c⟩;rw[aX]at I R;simp only at R ⊢;split
   ·rename_i an;exact⟨I.cY,I.bh,I.left,λe=>absurd e an⟩
   ·rename_i an;have an:c=0:=by omega
    have aj:=R an;have Z:=I.val an;obtain⟨cS,cf,eQ,lv⟩:=KQ bo l b0 (acc++[v]) I.cY (λw hw=>by
     rcases qV.1 hw with h|h
     ·exact aV w h
     ·simp only[xq]at h;rw[h];exact Z)
    have hm:b0.bh<=S.bh:=I.bh;have hle:b0.left<=S.left:=I.left;refine⟨cS,e6 cf hm,e6 eQ hle,λe=>⟨(lv e).1,?_⟩⟩;have:=(lv e).2;simp only[fz,hj]at this;omega
theorem GG{S:bt}(h:S.left≠0):S.tick.bh+1=S.bh/\S.tick.left+1=S.left:=by simp only[bt.bh,bt.tick];omega
theorem bt.Good.tick{S:bt}(h:S.Good):S.tick.Good:=⟨h.wf,h.cells,h.kept,h.tH⟩
theorem aqi{p:Int}{x:bC}{arg:ax}{names:List ax}{S:bt}{v:ax}(cw:S.Good)(aV:arg.code=0)(aA:∀v∈names,v.code=0)(h:jL p x arg names S=o v):v.code=0:=by
 unfold jL at h;split at h
 ·injection h with h;rw[<-h];exact za
 split at h
 ·injection h with h;rw[<-h];exact GD _
 split at h
 ·injection h with h;rw[<-h];exact aV
 split at h
 ·injection h with h;rw[<-h];exact zb aA _
 split at h
 ·injection h with h;rw[<-h];exact zb cw.tH _
 cases h
theorem pc(ms:dn):∀(N:Nat) (p:Int) (x:bC) (arg:ax) (names:List ax) (aM:Nat) (S:bt),S.Good->arg.code=0->(∀v∈names,v.code=0)->KP S (dp ms N p x arg names aM S)
 |0,p,x,arg,names,aM,S,cw,_,_=>⟨.no cw (b9 _) (b9 _),λh=>by simp[dp,bt.no]at h⟩
 |N+1,p,x,arg,names,aM,S,cw,aV,aA=>by
   have aR:=pc ms N;rw[dp];split
   ·exact⟨.no cw (b9 _) (b9 _),λh=>by simp[bt.no]at h⟩
   rename_i ak;obtain⟨vX,nZ⟩:=GG ak;suffices h:∀q,d9 1 S.tick q->KP S q by
    refine h _ ?_;split
    ·rename_i v Z;exact .ok cw.tick (Nat.le_succ _) (b9 _) (aqi cw.tick aV aA Z)
    ·split
     ·have I:=(aR p (x.l.getD 0 jK) arg names aM S.tick cw.tick aV aA).1;rcases aX:dp ms N p (x.l.getD 0 jK) arg names aM S.tick with⟨b0,v,c⟩;rw[aX]at I;refine .ite (λ_=>(d9.no (c:=c) I.cY I.bh I.left).rJ (mI _)) λan=>?_;have R:=(aR p (x.l.getD 1 jK) arg (names++[v]) aM b0 I.cY aV (λw hw=>by
       rcases qV.1 hw with h|h
       ·exact aA w h
       ·simp only[xq]at h;rw[h];exact I.val (by simpa using an))).1
      exact(d9.trans I.bh I.left R).rJ (mI _)
     ·split
      ·have I:=(aR p (x.l.getD 0 jK) arg names aM S.tick cw.tick aV aA).1;rcases aX:dp ms N p (x.l.getD 0 jK) arg names aM S.tick with⟨b0,v,c⟩;rw[aX]at I;refine .ite (λ_=>(d9.no (c:=c) I.cY I.bh I.left).rJ (mI _)) λan=>?_;refine .ite (λ_=>(d9.no (c:=2) I.cY I.bh I.left).rJ (mI _)) λ_=>?_;refine .ite (λ_=>?_) λ_=>?_
       ·exact(d9.trans I.bh I.left (aR p (x.l.getD 1 jK) arg names aM b0 I.cY aV aA).1).rJ (mI _)
       ·exact(d9.trans I.bh I.left (aR p (x.l.getD 2 jK) arg names aM b0 I.cY aV aA).1).rJ (mI _)
      ·have I:=KQ (f:=λy S=>dp ms N p y arg names aM S) (λy S h=>aR p y arg names aM S h aV aA) x.l S.tick [] cw.tick (by simp);rcases aX:jd (λy S=>dp ms N p y arg names aM S) x.l S.tick []with⟨b0,l,c⟩;rw[aX]at I;obtain⟨cS,cf,eQ,lv⟩:=I;simp only at cS cf eQ lv;refine .ite (λ_=>(d9.no (n:=0) (c:=c) cS cf eQ).rJ (mI _)) λan=>?_;have pE:=(lv (by simpa using an)).1;refine .ite (λ_=>.ite (λ_=>(d9.no (n:=0) (c:=4) cS cf eQ).rJ (mI _)) λ_=>?_) λ_=>.ite (λ_=>?_) λ_=>?_
       ·exact(d9.trans (n:=0) cf eQ (aR p (gK ms p x.k) (l.getD 0 ce) [] (aM+1) b0 cS (zb pE 0) (by simp)).1).rJ (mI _)
       ·obtain⟨aP,a2,bl⟩:=abR (ms:=ms) (v:=l.getD 0 ce) (x:=l.getD 1 ce) (aM:=aM) cS;have cr:=QC ms (l.getD 0 ce) (l.getD 1 ce) aM b0;rcases uT:hH ms (l.getD 0 ce) (l.getD 1 ce) aM b0 with⟨lB,q,bD⟩;rw[uT]at aP a2 bl cr;simp only at aP a2 bl cr;have cg:lB.bh<=S.tick.bh+0:=e6 a2 cf;have c0:lB.left<=S.tick.left:=e6 (qU cr) eQ;refine .ite (λ_=>(d9.no (n:=0) (c:=bD) aP cg c0).rJ (mI _)) λja=>?_;have aj:=(aR q.bu (gK ms q.bu q.func) q.arg [] (aM+1) lB aP (bl (by simpa using ja)).1 (by simp)).1;rcases Ay:dp ms N q.bu (gK ms q.bu q.func) q.arg [] (aM+1) lB with⟨na,v,cl⟩;rw[Ay]at aj;have aH:=d9.trans cg c0 aj;refine .ite (λ_=>(d9.no (c:=cl) aH.cY aH.bh aH.left).rJ (mI _)) λ_=>?_;exact(d9.trans aH.bh aH.left (aqh aj.cY)).rJ (mI _)
       ·exact d9.trans (n:=0) cf eQ (aqa cS pE)
   intro q h;have I:=h.bh;have R:=h.left;exact⟨⟨h.cY,by omega,by omega,h.val⟩,λ_=>by omega⟩
structure jq.Good(ms:dn)(t:jq):Prop where
 en:0<=t.bu
 there:(ms.getD t.bu.toNat ag).isSome
 f0:0<=t.f
 f1:t.f.toNat<(hs ms t.bu).length
 arg:t.arg.code=0
 names:∀v∈t.names,v.code=0
 stack:∀v∈t.stack,v.code=0
 eU:t.eU.length<=80
structure cH.Good(ms:dn)(m:cH):Prop where
 S:m.S.Good
 top:m.top.Good ms
 bh:m.S.bh<=1000000
 dq:m.top.stack.length+m.S.left<=100000
 xA:m.top.names.length+m.S.left<=100000
 oA:m.below.length+1<=20
structure Ei(m:cH)(x:bv):Prop where
 kind:(1<=x.op/\x.op<=21/\x.op≠5/\x.op≠7)\/(100<=x.op/\x.op<=105)
 one:x.op=101\/x.op=103\/x.op=105->m.top.stack≠[]
 abS:x.op=102->m.top.names≠[]
 jump:x.op=103\/x.op=104->0<=x.k
 parts:x.op<100->(gw x.op).toNat<=m.top.stack.length
 var:x.op=4->0<=x.k/\x.k<m.top.names.length
structure zc(ms:dn)(m:cH):Prop where
 cY:m.Good ms
 bU:m.top.bU<(mm ms m.top.bu m.top.f).length
 op:Ei m ((mm ms m.top.bu m.top.f).getD m.top.bU y')
inductive lR(ms:dn):cH->rQ->Prop
 |go {m bf:cH} {r:rQ}:zc ms m->pb ms m= .go bf->lR ms bf r->lR ms m r
 |over {m:cH} {S:bt} {v:ax}:zc ms m->pb ms m= .over S v->lR ms m (.over S v)
 |fail {m:cH} {S:bt} {c:Int}:zc ms m->pb ms m= .fail S c->lR ms m (.fail S c)
def xB(ms:dn):Prop:=∀p:Int,∀x∈hs ms p,x.fault (hs ms p).length 0=0
def zd(ms:dn):Prop:=∀p f:Int,(mm ms p f).length<=1000000000
def eu(ms:dn)(p f:Int)(v:ax)(fuel:Int)(S:bt):bt×ax×Int×Int:=
 if fuel<0\/2000<fuel\/p<0\/4<=p then(S,ce,0,1)
 else if(ms.getD p.toNat ag).isNone\/f<0\/((hs ms p).length:Int)<=f then(S,ce,0,8)
 else if v.code≠0 then(S,ce,0,v.code)
 else match dp ms fuel.toNat p (gK ms p f) v [] 1 {S with left:=fuel.toNat}with
  |(b0,w,c)=>({b0 with left:=S.left},if c=0 then w else ce,fuel - (b0.left:Int),c)
def mP(L:List bC):F:=.b5 ag 174 (L.map λx=>[.b5 ag 184 ((cW x 0++[(⟨105,0,0⟩:bv)]).map λi:bv=>[.int j i.op,.int j i.k,.int j i.n])])
abbrev iw:a9:=137
abbrev wm:a9:=2
def hc(e:lP):List F:=[.int j e.bu,.int j e.cell,.int j e.right,.int j e.node]
def gc(e:a9)(v:F)(rows:List (List F)):cc:=abL (xy (rows=[]/\v= .aJ)) (u0 λid:Nat=>y9 (rows≠[]/\v= .b5 (o id) e rows) (GC id rows.length))
def iL(b:Nat)(cells:List Int)(log:List lP):cc:=u0 λv:F=>ij (a1 b [cells.map (.int j)++[v]]) (gc iw v (log.map hc))
def rS(m:Option (List bC)):F:=match m with
 |some L=>mP L
 |none=>.aJ
def oB:dn->List (List F)->List F
 |m::ms,k::aQ=>.bool m.isSome::rS m::k++oB ms aQ
 |_,_=>[]
def oC(cE cG:Nat)(ms:dn)(aQ:List (List F)):List F:=.ptr cE 0 0::.ptr cG 0 0::oB ms aQ
def ix(b cE cG:Nat)(ms:dn)(kept:List ax):cc:=u0 λaQ:List (List F)=>y9 (dk kept aQ) (a1 b [oC cE cG ms aQ])
def QL(args:List F)(h:ai)(q:(F⊕F)×ai):Prop:=∀(ah al:Nat->Prop) (a0 cE cG:Nat) (ms:dn) (S:bt) (p f fuel:Int) (v:ax) (r:List F),args=[.ptr a0 0 0,.int j p,.int j f,.agg r,.int j fuel]->bZ v r->v.size<=100000->ms.length=4->xB ms->zd ms->S.Good->S.log.length<=900000->(cm [ix a0 cE cG ms S.kept,gU cE S.G,iL cG S.cells S.log]).A h ah al->∃br E,q=(.inl (.bS [.agg br,.int j (eu ms p f v fuel S).2.2.1,.int j (eu ms p f v fuel S).2.2.2]),E)/\bZ (eu ms p f v fuel S).2.1 br/\gJ h ah al E (cm [ix a0 cE cG ms (eu ms p f v fuel S).1.kept,gU cE (eu ms p f v fuel S).1.G,iL cG (eu ms p f v fuel S).1.cells (eu ms p f v fuel S).1.log])
def KR:List di:=[120,160,63,98,62,159,112,97,58,60,84,158,145,162,150,15,76,51,96,151,14,68,100,67,163,99,66,64,85,154,152,45,139,153,123,103,104,122,121,141,105,124,106,78,108,125,109,81,110,82,43,111,83,41,80,107,79,40,86,47,87,48,143,142,157,166,19,30,46,94,53,11,165,164,144,161,146,128,126,155,156,140,39,89,88,90,115,91,116,42,147,129,130,131,132,133,134,117,93,118,92,50,77,148,149,21,17,55,52,20,16,136,25,44,8,9,10,3,13,34,24,57,56,59,61,26,28,29,69,22,23,138,137,135,119,54,95,18,27,33,4,5,6,35,71,37,73,72,101,74,102,70,36,75,38,31,32,7]
def aqj:List di:=[120,160,98,159,112,158,145,162,150,15,51,96,151,14,100,163,154,152,139,153,123,104,122,121,141,105,78,108,125,109,81,110,82,43,111,83,41,86,47,87,48,143,142,157,166,19,30,46,94,53,11,165,164,144,161,126,155,89,115,91,116,42,147,21,17,55,52,20,16,136,8,9,3,13,34,57,28,29,69,22,23,138,135,4,5,6,71,37,73,72,101,74,102,75,38,31,7]
def aqk:di->a9->Bool:=λg t=>t==69||t==174||t==120||(t==33&&(g==114||g==50||g==59||g==65))||(g==95&&t==33+1000000)
def abT(args:List F)(h:ai)(q:(F⊕F)×ai):Prop:=∀(ah al:Nat->Prop) (b:Nat) (G:aI) (x:ax) (r:List F) (cT:F) (aQ:List Int),args=[.ptr b 0 0,.agg r,cT]->fm h ah al b G->G.dg->bZ x r->e9 3 cT (eI aQ)->aQ.length<=1000000->∃br E,q=(.inl (.bS [.agg br,.int j (fg aQ G x).2.2]),E)/\bZ (fg aQ G x).2.1 br/\gx h ah al b E (fg aQ G x).1
open Classical in
noncomputable def GH(args:List F)(h:ai):Option ((F⊕F)×ai):=
 if H:∃q,AC aq 113 args h q/\abT args h q then o (Classical.choose H)else ag
def QM(args:List F)(h:ai):Option ai:=match args with
 |[.ptr bF 0 0,.agg r]=>(h.cell bF).bind λes=>match es with
   |[[_,.bw bp 0 k _,_]]=>(h.cell bp).bind λrows=>(rows[k - 1]?).bind λrow=>(row[6]?).bind λs=>(eH J bO s (.bw (h.n+1) 0 1 bO) ((h.push [r]).push [r])).map λq=>q.2.set bp (o (rows.set (k - 1) (row.set 6 q.1)))
   |_=>ag
 |_=>ag
open Classical in
noncomputable def KS(args:List F)(h:ai):Option ((F⊕F)×ai):=match QM args h with
 |some E=>if AC aq 114 args h (.inl (.bS []),E)then o (.inl (.bS []),E)else ag
 |none=>ag
def B2(L:List bC):F:=.bS [if(fl L).1=0 then mP L else .aJ,.agg [.int j (fl L).1,.int j (fl L).2]]
open Classical in
noncomputable def KT(args:List F)(h:ai):Option ((F⊕F)×ai):=
 if H:∃L:List bC,(∃v es,args=[.agg [v]]/\e9 gp v es/\g3 L es)/\AC aq 40 args h (.inl (B2 L),h)then o (.inl (B2 (Classical.choose H)),h)else ag
open Classical in
noncomputable def KU(args:List F)(h:ai):Option ((F⊕F)×ai):=
 if H:∃cs:List Int,(∃b bn,args=[.ptr b 0 0]/\h.cell b=o [cs.map (.int j)++[bn]]/\cs.length=12)/\AC aq 21 args h (.inl (.b5 ag 2 (cs.map λx=>[.int j x])),h)then o (.inl (.b5 ag 2 ((Classical.choose H).map λx=>[.int j x])),h)else ag
open Classical in
noncomputable def GI(args:List F)(h:ai):Option ((F⊕F)×ai):=
 if H:∃q,AC aq 12 args h q/\QL args h q then o (Classical.choose H)else ag
def KV(args:List F)(h:ai):Option (F×ai):=match args with
 |[.ptr ad 0 0,.agg x,.int j n,.int j c]=>
   if c≠0 then o (.agg [.int j c,.int j 0,.int j 0,.int j 0,.aJ],(h.push [x]).push [[.int j c,.int j 0,.int j 0,.int j 0,.aJ]])
   else match x[1]?,h.cell ad with
   |some (F.int _ p),o [row]=>(row[19+p.toNat]?).bind λs=>(eH J 35 s (.bw (h.n+1+1+1+1) 0 1 35) (((((h.push [x]).push [[.int j 0,.int j 0,.int j 0,.int j 0,.aJ]]).push [[.int j 4,.int j n,.aJ]]).push [[.bool U]]).push [[.int j 4,.int j n,.aJ]])).map λq=>(.agg [.int j 0,.int j 0,.int j 4,.int j n,.aJ],(((q.2.set ad (o [row.set (19+p.toNat) q.1])).set (h.n+1) (o [[.int j 0,.int j 0,.int j 4,.int j n,.aJ]])).set (h.n+1+1+1) ag).set (h.n+1+1+1+1) ag)
   |_,_=>ag
 |_=>ag
open Classical in
noncomputable def KW(args:List F)(h:ai):Option ((F⊕F)×ai):=match KV args h with
 |some q=>if AC aq 65 args h (.inl q.1,q.2)then o (.inl q.1,q.2)else ag
 |none=>ag
noncomputable def sK:di->Option (List F->ai->Option ((F⊕F)×ai)):=λg=>if g=113 then o GH else if g=114 then o KS else if g=40 then o KT else if g=21 then o KU else if g=12 then o GI else if g=65 then o KW else ag
noncomputable def aa:iQ:=BU aq aqk sK KR aqj
theorem aql:aa.ext 12=o GI:=by show sK 12=_;unfold sK;rw[if_neg (by decide),if_neg (by decide),if_neg (by decide),if_neg (by decide),if_pos rfl]
theorem aqm:aa.ext 65=o KW:=by show sK 65=_;unfold sK;rw[if_neg (by decide),if_neg (by decide),if_neg (by decide),if_neg (by decide),if_neg (by decide),if_pos rfl]
def QN:List bb:=[.ops [.i (.v 4) (.box 9 (.v 1)),.i (.v 5) KX]]
def QO:List bb:=[.ops [c6,QP],.cond (.v 7) [.ops [c6,Az,abU],.ret] []]
def abV:List bb:=[.ops [hd,KY,GJ,GK]]
def QQ:List aE:=[(.i .l (.alloc [(.bool U)])),Ej,(.i .n (.store 1 (.l 0) (.c (.bool U)))),(.i (.v 8) oD)]
def QR:List aE:=[(.i .l (.alloc [(.bool U)])),(.i .n (.store 1 (.l 0) (.c (.bool U)))),Ej,(.i (.v 8) oD)]
def QS:List bb:=[.cond (.v 8) [.ops [bc,oE,aT,xC,GL,xD,aT,.i (.v 9) (.load J 3 (.v 6)),.i (.v 10) QT,Ek,GL,QU,.ca [⟨ag,U,1,.l 8,(.l 7)⟩,⟨ag,U,1,.l 4,(.l 3)⟩,⟨ag,J,3,.v 6,(.v 9)⟩],.i (.v 11) (.app J 35 (.l 3) (.l 0)),.i .l (.fe ag (o (4,1)) (.l 1) (.l 7)),.i .n (.store 1 (.l 0) (.v 11))],.ops [.i .l (.fe (o 35) ag (.v 11) (.v 10)),.i .n (.store 3 (.l 0) (.v 9))]] [.ops [bc,oE,aT,bc,oE,aT,xC,GL,xD,aT,tJ,KZ,GL,.i .l (.lx J 35 [.int j 0,.int j 0,.aJ] 3 1 [(0,(.l 2))]),.ca [⟨ag,U,1,.l 12,(.l 11)⟩,⟨ag,U,1,.l 9,(.l 8)⟩,⟨ag,U,1,.l 5,(.l 4)⟩],.i .l (.app J 35 (.l 4) (.l 0)),.ca [⟨ag,U,1,.l 13,(.l 12)⟩],.i .l (.fe ag (o (4,1)) (.l 2) (.l 12)),ze]]]
def M2:List bb:=[.ops [tJ,K0,abU],.ret]
def QV:List bb:=[.ops [B3,AA],.ops [bc,ct,g4,aT,QW,.i (.v 3) QX],.cond (.v 3) [.ops [B3,abW],.ret] [],abX,abY,.ret]
theorem abZ:cv aq aa 63 1 4 [0,2,3,9] QV [(.v 1),(.v 2)] U:=by refine⟨_,_,Tryz.func63,rfl,rfl,?_,?_,?_,?_,?_⟩<;>kernel_rfl
def ab0:List bb:=[pd,ab1,.ret]
theorem aqn:cv aq aa 98 2 3 [0,1,4] ab0 [(.v 2)] J:=by refine⟨_,_,Tryz.func98,rfl,rfl,?_,?_,?_,?_,?_⟩<;>kernel_rfl
def QY:List bb:=[rT,.ops [bc,dc,ab2,QZ],.cond (.v 3) [.ops [ab3],.ret] [],ab4,rT,.ret]
theorem ab5:cv aq aa 62 2 4 [0,1,4,8] QY [(.v 2)] U:=by refine⟨_,_,Tryz.func62,rfl,rfl,?_,?_,?_,?_,?_⟩<;>kernel_rfl
def ab6:List bb:=[pd,.ops [bc,dc,ab2,cn,wo,K1,Q0,zf,ab7,ab8,Q1,ab9,ab',jz],.ret]
theorem aqo:cv aq aa 159 2 3 [0,1,4] ab6 [(.v 2)] J:=by refine⟨_,_,Tryz.func159,rfl,rfl,?_,?_,?_,?_,?_⟩<;>kernel_rfl
def aca:List bb:=[pd,.ops [dc,rU,cn,xE,acb,acd,Q2,El,.g (.l 5) J .l (.len U (o 132) (.l 0)),ace,Q3,jz],.ret]
theorem aqp:cv aq aa 112 2 3 [0,1,4] aca [(.v 2)] J:=by refine⟨_,_,Tryz.func112,rfl,rfl,?_,?_,?_,?_,?_⟩<;>kernel_rfl
def B4:List bb:=[acf,.block 0 [.ops [tK,aT,K2,wq,d8],.cond (.v 5) [.ops [rV,Q4],.ret] [.ops [nF,aT,acg,cn,wo,ach,GM,.g (.l 3) J .l (.call (.c (.fn 98 [] [])) [.l 2,.l 0]),K3,Em,jM],.cond (.v 6) [.ops [rV,aci],.ret] [.ops [bc,ct,dC,aT,GN,.i .l (.bin (.int j) .eql (.l 0) (.c (.int j 80))),nG],.cond (.v 7) [.ops [rV,acj],.ret] []]]],ack,acl,.ret]
theorem En:cv aq aa 97 2 8 [0,1,3,4,5,6,11,22] B4 [(.v 3),(.v 4)] U:=by refine⟨_,_,Tryz.func97,rfl,rfl,?_,?_,?_,?_,?_⟩<;>kernel_rfl
def Q5:List bb:=[K4,.ops [dc,Q6,B5],.cond (.v 6) [.ops [u1,GO],.ret] [],.ops [bc,c6,hd,dc,acm,acn,fs,ft,B6,d8],.ret]
theorem aco:cv aq aa 58 4 7 [0,1,2,3,8,9,12] Q5 [(.v 4),(.v 5)] U:=by refine⟨_,_,Tryz.func58,rfl,rfl,?_,?_,?_,?_,?_⟩<;>kernel_rfl
def Q7:List bb:=[.ops [pJ,rW],acp,.cond (.v 7) [.ops [pJ,Q8],.ret] [],.ops [bc,fu,c6,dc,hd,acq,.i .l (.call (.c (.fn 97 [] [])) [.l 5,.l 0]),fs,ft,AB,jM],.ret]
theorem acr:cv aq aa 60 5 8 [0,1,2,3,4,10,11,25] Q7 [(.v 5),(.v 6)] U:=by refine⟨_,_,Tryz.func60,rfl,rfl,?_,?_,?_,?_,?_⟩<;>kernel_rfl
def Q9:List bb:=[K4,.ops [bc,dc,.i .l acs,B5],.cond (.v 6) [.ops [u1,act],.ret] [],.ops [bc,dc,c6,hd,acu,acn,fs,ft,B6,d8],.ret]
theorem acv:cv aq aa 84 4 7 [0,1,2,3,8,9,13] Q9 [(.v 4),(.v 5)] U:=by refine⟨_,_,Tryz.func84,rfl,rfl,?_,?_,?_,?_,?_⟩<;>kernel_rfl
def K5:List bb:=[.ops [bc,dc,.i (.v 4) acs],.cond (.v 4) [] [.exit 0],.block 1 [.ops [c6,bc,ct,dC,aT,dc,Q',Eo,acw,.i .l (.app U 132 (.l 8) (.l 0)),jA],.ops [bc,ct,dC,aT,dc,Q',dC,aT,pK]]]
def acx:List bb:=[AD,GP,.block 0 [.loop K5],wu,.ret]
theorem aqq:cv aq aa 158 2 5 [0,1,4,5,8] acx [(.v 2)] J:=by refine⟨_,_,Tryz.func158,rfl,rfl,?_,?_,?_,?_,?_⟩<;>kernel_rfl
def GQ:List bb:=[.ops [Ra],.cond (.v 9) [] [.exit 0],.block 1 [.ops [pL,.i .l (.fe (o 132) ag (.v 6) (.v 8)),Eo,acy,.i (.v 4) (.a8 (.l 2)),acz],.ops [Rb,aT,rU,cn,wo,.g (.l 1) J .l (.db 1 (.v 5)),GM,.g (.l 3) J .l (.call (.c (.fn 159 [] [])) [.l 2,.l 0]),K3,.i (.v 10) Rc],.cond (.v 10) [rT,.ret] [],.ops [fu,Rd],.cond (.v 11) [.ops [.i (.v 3) (.a8 (.c (.int j 15)))]] [],.ops [c6,.i .l (.db 2 (.v 5)),aT,.i .l (.call (.c (.fn 160 [] [])) [.l 2,.l 0]),jA]],Re]
def acA:List bb:=[rT,sL,.ops [bc,dc,.i (.v 6) Rf,.i (.v 7) (.len U (o 132) (.v 6)),rX],.block 0 [.loop GQ],wu,.ret]
theorem aqr:cv aq aa 145 2 12 [0,1,4,5,6,7,10,11,12,13,26,28] acA [(.v 2)] J:=by refine⟨_,_,Tryz.func145,rfl,rfl,?_,?_,?_,?_,?_⟩<;>kernel_rfl
def acB:List bb:=[.ops [acC,GR],.ops [bc,dc,.i .l Rf,je],.ops [fu,GN,acD],.cond (.v 5) [.ops [Rg,K6,GR],.ret] [],.ops [fu,fu,GN,nb,.i .l (.fe (o 132) ag (.l 3) (.l 0)),Eo,K6,acE],.ret]
theorem aqs:cv aq aa 162 2 6 [0,1,4,5,6,12] acB [(.cell J 6 2),(.v 3)] J:=by refine⟨_,_,Tryz.func162,rfl,rfl,?_,?_,?_,?_,?_⟩<;>kernel_rfl
def K7:List bb:=[.ops [acF],.cond (.v 8) [] [.exit 0],.block 1 [.ops [.i .l (.fe (o 132) ag (.v 5) (.v 7)),Eo,Rh,K8],.ops [oE,aT,.i (.v 9) K9],.cond (.v 9) [.ops [c6,oE,aT,B7,acG,jA]] []],.ops [acH,nG]]
def acI:List bb:=[AD,GP,.ops [bc,dc,.i (.v 5) Rf,.i (.v 6) (.len U (o 132) (.v 5)),wv],.block 0 [.loop K7],wu,.ret]
theorem aqt:cv aq aa 150 2 10 [0,1,4,5,7,10,11,12,13,18] acI [(.v 2)] J:=by refine⟨_,_,Tryz.func150,rfl,rfl,?_,?_,?_,?_,?_⟩<;>kernel_rfl
def acJ:List bb:=[AE,.ops [bc,ct,dC,aT,.i .l (.call (.c (.fn 51 [] [])) [.l 0]),pK],.ret]
theorem aqu:cv aq aa 15 1 2 [0,2] acJ [(.v 1)] J:=by refine⟨_,_,Tryz.func15,rfl,rfl,?_,?_,?_,?_,?_⟩<;>kernel_rfl
def acK:List bb:=[Ep,.ops [acL,K',B8],.ret]
theorem aqv:cv aq aa 76 0 1 [0] acK [(.v 0)] U:=by refine⟨_,_,Tryz.func76,rfl,rfl,?_,?_,?_,?_,?_⟩<;>kernel_rfl
def Ri:List bb:=[AE,Rj,.cond (.v 2) [AE,.ret] [],.ops [.i .l (.lx U 132 [.int j 0,.int j 0,.int j 0,.int j 0,.int j 0,.int j 0] 6 0 []),bc,.i .l (.app U 132 (.l 1) (.l 0)),pK],.ret]
theorem acM:cv aq aa 51 1 3 [0,2,4] Ri [(.v 1)] J:=by refine⟨_,_,Tryz.func51,rfl,rfl,?_,?_,?_,?_,?_⟩<;>kernel_rfl
def acN:List bb:=[.ops [Rk],.ops [bc,rU,cn,wo,.g (.l 1) J .l (.bin (.int j) .lss (.l 0) (.c (.int j 12))),GS,pK],.ret]
theorem aqw:cv aq aa 96 1 2 [0,2] acN [(.v 1)] J:=by refine⟨_,_,Tryz.func96,rfl,rfl,?_,?_,?_,?_,?_⟩<;>kernel_rfl
def acO:List bb:=[pd,.ops [bc,dc,Rl,.i .l (.bin (.int j) .shr (.l 2) (.l 0)),.i .l (.bin (.int j) .and (.l 0) (.c (.int j 1))),.i .l acP,jz],.ret]
theorem aqx:cv aq aa 151 2 3 [0,1,4] acO [(.v 2)] J:=by refine⟨_,_,Tryz.func151,rfl,rfl,?_,?_,?_,?_,?_⟩<;>kernel_rfl
def Rm:List bb:=[.ops [B3,AA],.ops [bc,ct,g4,aT,QW,.i (.v 3) (.bin (.int j) .geq (.l 0) (.c (.int j 20)))],.cond (.v 3) [.ops [B3,abW],.ret] [],abX,abY,.ret]
theorem acQ:cv aq aa 68 1 4 [0,2,3,9] Rm [(.v 1),(.v 2)] U:=by refine⟨_,_,Tryz.func68,rfl,rfl,?_,?_,?_,?_,?_⟩<;>kernel_rfl
def acR:List bb:=[pd,ab1,.ret]
theorem aqy:cv aq aa 100 2 3 [0,1,4] acR [(.v 2)] J:=by refine⟨_,_,Tryz.func100,rfl,rfl,?_,?_,?_,?_,?_⟩<;>kernel_rfl
def Rn:List bb:=[rT,.ops [bc,dc,acS,QZ],.cond (.v 3) [.ops [ab3],.ret] [],ab4,rT,.ret]
theorem acT:cv aq aa 67 2 4 [0,1,4,8] Rn [(.v 2)] U:=by refine⟨_,_,Tryz.func67,rfl,rfl,?_,?_,?_,?_,?_⟩<;>kernel_rfl
def acU:List bb:=[pd,.ops [bc,dc,acS,cn,wo,K1,Q0,zf,ab7,ab8,Q1,ab9,ab',jz],.ret]
theorem aqz:cv aq aa 163 2 3 [0,1,4] acU [(.v 2)] J:=by refine⟨_,_,Tryz.func163,rfl,rfl,?_,?_,?_,?_,?_⟩<;>kernel_rfl
def B9:List bb:=[acf,.ops [tK,aT,qp,cn,.g (.l 0) U .l (.db 2 (.v 2)),ld,.g (.l 2) U .l (.bin (.int j) .gtr (.l 0) (.c (.int j 15))),.i (.v 5) acV],.cond (.v 5) [.ops [rV,Q4],.ret] [],.ops [nF,aT,acg,cn,wo,ach,GM,.g (.l 3) J .l (.call (.c (.fn 100 [] [])) [.l 2,.l 0]),K3,.i (.v 6) Rc],.cond (.v 6) [.ops [rV,aci],.ret] [],.ops [bc,ct,dC,aT,GN,.i (.v 7) (.bin (.int j) .geq (.l 0) (.c (.int j 80)))],.cond (.v 7) [.ops [rV,acj],.ret] [],ack,acl,.ret]
theorem Er:cv aq aa 99 2 8 [0,1,3,4,5,13,23,29] B9 [(.v 3),(.v 4)] U:=by refine⟨_,_,Tryz.func99,rfl,rfl,?_,?_,?_,?_,?_⟩<;>kernel_rfl
def Ro:List bb:=[K4,.ops [dc,qp,cn,zg,.g (.l 1) U .l (.bin (.int j) .geq (.l 0) (.c (.int j 12))),.i (.v 6) Rp],.cond (.v 6) [.ops [u1,GO],.ret] [],.ops [bc,c6,hd,dc,acm,acW,fs,ft,B6,d8],.ret]
theorem acX:cv aq aa 66 4 7 [0,1,2,3,8,9,15] Ro [(.v 4),(.v 5)] U:=by refine⟨_,_,Tryz.func66,rfl,rfl,?_,?_,?_,?_,?_⟩<;>kernel_rfl
def Rq:List bb:=[.ops [pJ,rW],acp,.cond (.v 7) [.ops [pJ,Q8],.ret] [],.ops [bc,fu,c6,dc,hd,acq,.i .l (.call (.c (.fn 99 [] [])) [.l 5,.l 0]),fs,ft,AB,jM],.ret]
theorem acY:cv aq aa 64 5 8 [0,1,2,3,4,10,11,25] Rq [(.v 5),(.v 6)] U:=by refine⟨_,_,Tryz.func64,rfl,rfl,?_,?_,?_,?_,?_⟩<;>kernel_rfl
def Rr:List bb:=[K4,.ops [dc,qp,cn,zg,La,acZ,ac0,Lb,ac1,ac2,.i (.v 6) Lc],.cond (.v 6) [.ops [u1,act],.ret] [],.ops [bc,dc,c6,hd,acu,acW,fs,ft,B6,d8],.ret]
theorem ac3:cv aq aa 85 4 7 [0,1,2,3,8,9,20] Rr [(.v 4),(.v 5)] U:=by refine⟨_,_,Tryz.func85,rfl,rfl,?_,?_,?_,?_,?_⟩<;>kernel_rfl
def Rs:List bb:=[AD,.ops [dc,qp,cn,zg,La,acZ,ac0,Lb,ac1,ac2,.i (.v 3) Lc],.cond (.v 3) [AD,.ret] [],.ops [dc,B7,bc,bc,ct,dC,aT,dc,Q',dC,aT,.i .l (.call (.c (.fn 154 [] [])) [.l 8,.l 0]),.i .l (.app U 3 (.l 10) (.l 0)),jz],.ret]
theorem ac4:cv aq aa 154 2 4 [0,1,4,15] Rs [(.v 2)] J:=by refine⟨_,_,Tryz.func154,rfl,rfl,?_,?_,?_,?_,?_⟩<;>kernel_rfl
def Ld:List bb:=[.ops [kH,c6,B',.i (.v 10) GU],.cond (.v 10) [] [.exit 2],.block 3 [.ops [bc,ct,dC,aT,c6,kH,Es,aT,ac5,Eo,.i (.v 8) GV,.ca [⟨ag,U,1,.l 7,(.l 6)⟩,⟨ag,U,1,.l 3,(.l 2)⟩,⟨ag,J,6,.l 1,(.l 0)⟩],.i .n (.store 6 (.v 8) (.l 0))],.ops [ky,cn,.g (.l 0) J .l (.db 2 (.v 8)),nH,.g (.l 2) J .l (.a8 (.v 5)),.g (.l 3) J .l (.call (.c (.fn 151 [] [])) [.l 1,.l 0]),Rt,cn,ac6,nH,Le,.g (.l 3) J .l oF,ac7,.g (.l 1) U .l (.db 1 (.v 8)),.g (.l 2) U .l oD,.g (.l 3) U .l (.call (.c (.fn 163 [] [])) [.l 2,.l 0]),.g (.l 8) J .l AF,.i .l ac8,jM]],.ops [kH,oG,nG]]
def Et:List bb:=[.ops [hV,.i .l Ru,cn,Rv,.g (.l 1) J .l (.len U (o 3) (.l 0)),.g (.l 2) J .l ac9,.i (.v 9) Ca],.cond (.v 9) [] [.exit 0],.block 1 [.ops [.i (.v 6) (.a8 (.c (.bool J)))],.ops [wv],.block 2 [.loop Ld],.ops [.i (.v 11) (.a8 (.v 6))],.cond (.v 11) [.ops [fu,hV,Rl,.i .l (.bin (.int j) .shl (.c (.int j 1)) (.l 0)),.i .l (.bin (.int j) .add (.l 3) (.l 0)),je]] []],Cb]
def ac':List bb:=[rT,.ops [bc,dc,Rw,jA],u2,xF,.block 0 [.loop Et],.ops [fu,jz],.ret]
theorem aqA:cv aq aa 152 2 12 [0,1,4,5,6,7,8,9,10,20,26,57] ac' [(.v 2)] J:=by refine⟨_,_,Tryz.func152,rfl,rfl,?_,?_,?_,?_,?_⟩<;>kernel_rfl
open Go.RowKit
theorem aqB(y:BitVec 64):((y&&& 1#64).toInt==1)=y.getLsbD 0:=by
 have h:(y&&& 1#64).toNat=y.toNat % 2:=by rw[BitVec.toNat_and];exact Nat.and_one_is_mod _
 have ad:y.getLsbD 0=decide (y.toNat % 2=1):=by rw[BitVec.getLsbD,Nat.testBit_zero]
 rw[ad,Bool.eq_iff_iff,beq_iff_eq,decide_eq_true_eq,BitVec.toInt_eq_toNat_cond,h];split<;>omega
theorem Eu(x:BitVec 64){k:Nat}(ab:k<64):fK x.toInt k=x.getLsbD k:=by
 unfold fK;have e:x.toInt / 2 ^ k=(x.sshiftRight k).toInt:=by rw[BitVec.toInt_sshiftRight,Int.shiftRight_eq_div_pow];simp
 rw[e,Qy,KL];show((_&&& 1#64).toInt==1)=_;rw[aqB,BitVec.getLsbD_sshiftRight];simp;omega
open Go.RowKit
def aI.rY(G:aI):Nat->Int->List Int
 |0,_=>[]
 |f+1,i=>if G.has i then i::G.rY f (G.nodes.getD i.toNat fL).parent else[]
def aI.hM(G:aI)(i:Int):List Int:=G.rY (i.toNat+1) i
def aI.at_(G:aI)(i:Int):bi:=G.nodes.getD i.toNat fL
theorem aI.aqC{G:aI}(h:G.dg):∀(f:Nat) (i:Int),i.toNat<f->G.rY f i=G.hM i:=by
 intro f;induction f using Nat.strongRecOn with
 |_ f aR=>
   intro i af;cases f with
   |zero=>omega
   |succ f=>
     unfold aI.hM;by_cases bA:G.has i=J
     ·have ok:=h.get bA;have az:=ok.en;have ox:=ok.dB;have hg:0<=i:=by simp[aI.has]at bA;exact bA.1
      unfold aI.rY;rw[if_pos bA,if_pos bA];congr 1;generalize (G.nodes.getD i.toNat fL).parent=p at*;by_cases Gt:p<0
      ·have m1:G.has p=U:=by simp[aI.has];omega
       cases f with
       |zero=>cases aA:i.toNat<;>simp[aI.rY,m1]
       |succ f=>cases aA:i.toNat<;>simp[aI.rY,m1]
      ·have aw:=aR f (by omega) p (by omega);rw[aw];rcases oj i.toNat (f+1)with R|R
       ·have ay:=aR i.toNat (by omega) p (by omega);rw[ay]
       ·omega
     ·cases f<;>simp[aI.rY,bA]
theorem aI.Ev{G:aI}(h:G.dg){i:Int}(af:G.has i=J):G.hM i=i::G.hM (G.nodes.getD i.toNat fL).parent:=by
 have ok:=h.get af;have ox:=ok.dB;have q8:=ok.en;have hg:0<=i:=by simp[aI.has]at af;exact af.1
 rw[aI.hM,aI.rY,if_pos af];congr 1;generalize (G.nodes.getD i.toNat fL).parent=p at*;by_cases Gt:p<0
 ·have m1:G.has p=U:=by simp[aI.has];omega
  unfold aI.hM;cases i.toNat<;>simp[aI.rY,m1]
 ·exact aI.aqC h _ _ (by omega)
theorem aI.Ew{G:aI}{i:Int}(af:G.has i=U):G.hM i=[]:=by rw[aI.hM,aI.rY,af];rfl
theorem aI.aqD{G:aI}:∀(f:Nat) (i:Int),(G.rY f i).map G.at_=G.mM f i:=by
 intro f;induction f with
 |zero=>intro i;rfl
 |succ f aR=>
   intro i;unfold aI.rY aI.mM;split
   ·rw[kf,aR];rfl
   ·rfl
theorem aI.zh{G:aI}(i:Int):(G.hM i).map G.at_=G.path i:=aI.aqD _ _
theorem aI.aqE{G:aI}(i:Int):(G.hM i).length=(G.path i).length:=by rw[<-aI.zh,fM]
theorem aI.aqF{G:aI}:∀(f:Nat) (i:Int),∀k∈G.rY f i,G.has k=J:=by
 intro f;induction f with
 |zero=>intro i k ab;simp[aI.rY]at ab
 |succ f aR=>
   intro i k ab;unfold aI.rY at ab;split at ab
   ·rcases mJ.1 ab with rfl|ab
    ·assumption
    ·exact aR _ k ab
   ·simp at ab
theorem aI.Lf{G:aI}(i:Int):∀k∈G.hM i,G.has k=J:=aI.aqF _ _
def Cc(G:aI)(P:List bi)(k:Nat):Bool:=P.all λn=>fK n.c5 k&& !qn G n
def Ex(G:aI)(i:Int)(k:Nat):Int:=if G.path i=[]then 0 else((jG k).map λD=>if Cc G (G.path i) D then(2:Int) ^ D else 0).sum
def AG(P:List bi):BitVec 64:=P.foldl (λv n=>v&&& lY 64 n.c5) 15#64
theorem Rx(P:List bi)(gd:∀n∈P,qm n.c5=J)(v:BitVec 64):P.foldl (λr n=>mL r n.c5) v.toInt=(P.foldl (λv n=>v&&& lY 64 n.c5) v).toInt:=by
 induction P generalizing v with
 |nil=>rfl
 |cons n P aR=>
   rw[u3,u3];have e:mL v.toInt n.c5=(v&&& lY 64 n.c5).toInt:=by unfold mL;rw[Qy,KL]
   rw[e,aR (λm hm=>gd m (by simp[hm]))]
theorem ada(P:List bi)(v:BitVec 64)(k:Nat):(P.foldl (λv n=>v&&& lY 64 n.c5) v).getLsbD k=(v.getLsbD k&&P.all λn=>(lY 64 n.c5).getLsbD k):=by
 induction P generalizing v with
 |nil=>simp
 |cons n P aR=>rw[u3,aR,BitVec.getLsbD_and,qa,Bool.and_assoc]
theorem aqG:∀n:Nat,n<16->((n:Nat):Int)=((jG 4).map λD=>if n.testBit D then(2:Int) ^ D else 0).sum:=by decide
theorem Ry{a:Int}(h:qm a=J):a=(lY 64 a).toInt:=by
 have E:0<=a/\a<=15:=by simpa[qm]using h
 rw[BitVec.toInt_ofInt,Int.bmod_def];split<;>omega
theorem aqH{G:aI}(h:G.dg)(i:Int):Ex G i 4=G.c5 i:=by
 unfold Ex aI.c5;by_cases az:G.path i=[]
 ·rw[if_pos az,if_pos (.inl az)]
 ·rw[if_neg az];cases an:(G.path i).any (qn G)
  ·rw[if_neg (by simp[az])];have ga:∀(f:Nat) (k:Int),∀n∈G.mM f k,qm n.c5=J:=by
    intro f;induction f with
    |zero=>intro k n aA;simp[aI.mM]at aA
    |succ f aR=>
      intro k n aA;unfold aI.mM at aA;split at aA
      ·rename_i ab;rcases mJ.1 aA with rfl|aA
       ·exact(h.get ab).r
       ·exact aR _ n aA
      ·simp at aA
   have gd:∀n∈G.path i,qm n.c5=J:=ga _ i;have Rz:(15:Int)=(15#64).toInt:=rfl;rw[Rz,Rx _ gd];have Z:∀k,(AG (G.path i)).getLsbD k=((15#64).getLsbD k&&(G.path i).all λn=>(lY 64 n.c5).getLsbD k):=ada _ _;show _=(AG (G.path i)).toInt;have ba:(AG (G.path i)).toNat<16:=by
    have:(AG (G.path i))=(AG (G.path i))&&& 15#64:=by apply BitVec.eq_of_getLsbD_eq;intro k ab;rw[BitVec.getLsbD_and,Z k];cases (15#64).getLsbD k<;>simp
    rw[this,BitVec.toNat_and];have R:(15#64).toNat=2 ^ 4 - 1:=rfl;rw[R,Nat.and_two_pow_sub_one_eq_mod];omega
   have aqI:(AG (G.path i)).toInt=((AG (G.path i)).toNat:Int):=by rw[BitVec.toInt_eq_toNat_cond];split<;>omega
   rw[aqI,aqG _ ba];congr 1;apply List.map_congr_left;intro D ae;have aDF:D<4:=kD.1 ae;have ad:Cc G (G.path i) D=(AG (G.path i)).toNat.testBit D:=by
    have I:=Z D;rw[BitVec.getLsbD]at I;rw[I];have tI:(15#64).getLsbD D=J:=by
     have:D=0\/D=1\/D=2\/D=3:=by omega
     rcases this with rfl|rfl|rfl|rfl<;>rfl
    rw[tI,Bool.true_and];unfold Cc;rw[List.any_eq_false]at an;rw[Bool.eq_iff_iff,jW,jW];constructor
    ·intro bA n aA;have:=bA n aA;rw[gv]at this;rw[<-Eu _ (by omega),<-Ry (gd n aA)];exact this.1
    ·intro bA n aA;have R:=bA n aA;rw[<-Eu _ (by omega),<-Ry (gd n aA)]at R;rw[R];simpa using an n aA
   rw[ad]
  ·rw[if_pos (.inr rfl)];have aB:∀D,Cc G (G.path i) D=U:=by intro D;obtain⟨n,aA,aqJ⟩:=List.any_eq_true.1 an;unfold Cc;rw[List.all_eq_false];exact⟨n,aA,by simp[aqJ]⟩
   simp[aB,List.range_succ]
theorem aqK(n:bi):(dv n).length=6:=rfl
theorem aqL(n:bi):(dv n).all F.one=J:=rfl
theorem aqM(n:bi):(dv n)[0]? =o (.int j n.parent):=rfl
theorem aqN(n:bi):(dv n)[1]? =o (.int j n.gate):=rfl
theorem aqO(n:bi):(dv n)[2]? =o (.int j n.c5):=rfl
theorem aqP(n:bi):(dv n)[3]? =o (.int j n.cell):=rfl
theorem aqQ(n:bi):(dv n)[4]? =o (.int j n.bu):=rfl
theorem aqR(n:bi):(dv n)[5]? =o (.int j n.func):=rfl
theorem l9:(∀n,(dv n).length=6)/\(∀n,(dv n).all F.one=J)/\(∀n:bi,(dv n)[0]? =o (.int j n.parent))/\(∀n:bi,(dv n)[1]? =o (.int j n.gate))/\(∀n:bi,(dv n)[2]? =o (.int j n.c5))/\(∀n:bi,(dv n)[3]? =o (.int j n.cell))/\(∀n:bi,(dv n)[4]? =o (.int j n.bu))/\(∀n:bi,(dv n)[5]? =o (.int j n.func)):=⟨aqK,aqL,aqM,aqN,aqO,aqP,aqQ,aqR⟩
theorem y7.dH{h:ai}{al:Nat->Prop}{e:a9}{v:F}{rows:List (List F)}(g:y7 h al e v rows):gB e v rows:=by
 rcases g with⟨rfl,rfl⟩|⟨id,_,_,_,_,rfl⟩
 ·exact BY e
 ·exact BX _ _ _
theorem y8.len{h:ai}{ah:Nat->Prop}{b:Nat}{e:a9}{v:F}{rows:List (List F)}(g:y8 h ah b e v rows):hX v=o rows.length/\∀s,kE s (o e) v=J:=by
 rcases g with⟨rfl,rfl⟩|⟨q,_,_,_,_,rfl⟩
 ·exact⟨rfl,λs=>rfl⟩
 ·exact⟨rfl,λs=>Ea⟩
theorem y7.h1{h E:ai}{al:Nat->Prop}{e:a9}{v:F}{rows:List (List F)}(g:y7 h al e v rows)(x:aG h E):y7 E al e v rows:=by
 rcases g with I|⟨id,I,ak,R,aj,aH⟩
 ·exact .inl I
 ·exact .inr ⟨id,I,ak,fS R x.ids,(x.hw id R).trans aj,aH⟩
theorem y8.h1{h E:ai}{ah:Nat->Prop}{b:Nat}{e:a9}{v:F}{rows:List (List F)}(g:y8 h ah b e v rows)(x:aG h E):y8 E ah b e v rows:=by
 rcases g with I|⟨q,I,R,aj,aH,bq⟩
 ·exact .inl I
 ·exact .inr ⟨q,I,R,fS aj x.n,(x.cell q aj).trans aH,bq⟩
theorem fm.h1{h E:ai}{ah al:Nat->Prop}{b:Nat}{G:aI}(g:fm h ah al b G)(x:aG h E):fm E ah al b G:=by obtain⟨aZ,dS,I,R,aj⟩:=g.ex;exact⟨⟨g.ad.1,fS g.ad.2 x.n⟩,⟨λk ab=>fS (g.lt.1 k ab) x.n,λD ae=>fS (g.lt.2 D ae) x.ids⟩,aZ,dS,(x.cell b g.ad.2).trans I,R.h1 x,aj.h1 x⟩
theorem Lg{h:ai}{ah:Nat->Prop}{b:Nat}{dS:F}{l:List Bool}(g:y8 h ah b q9 dS (l.map λx=>[.bool x])){m:Nat}(hm:m<l.length):∃q,dY (o q9) ag dS (.int j (m:Int))=o (.ptr q m 0)/\h.cell q=o (l.map λx=>[.bool x])/\(l.map λx=>[F.bool x])[m]? =o [.bool (l.getD m U)]/\ah q/\q≠b/\q<h.n/\dS= .bw q 0 l.length q9:=by
 rcases g with⟨I,_⟩|⟨q,I,R,aj,aH,rfl⟩
 ·simp at I;subst I;simp at hm
 ·exact⟨q,by simp[dY,hm],aH,by simp[hm,cZ],I,R,aj,by simp⟩
theorem aI.Lh{G:aI}{k:Int}(bA:G.lA k=J):∃m:Nat,k=m/\m<G.shut.length:=by simp[aI.lA]at bA;exact⟨k.toNat,by omega,by omega⟩
theorem aI.aqS{G:aI}{k:Int}(bA:G.has k=J):0<=k:=by simp[aI.has]at bA;exact bA.1
theorem aI.GW{G:aI}{k:Int}(bA:G.has k=J):∃m:Nat,k=m/\m<G.nodes.length/\(G.nodes.map dv)[m]? =o (dv (G.nodes.getD m fL)):=by
 simp[aI.has]at bA;have am:k.toNat<G.nodes.length:=by omega
 exact⟨k.toNat,by omega,am,by simp[am,cZ]⟩
section
variable{h:ai}{ah al:Nat->Prop}{b:Nat}{G:aI}
theorem GX(g:fm h ah al b G)(k:Int):aU aq aa 98 [.ptr b 0 0,.int j k] h=o (.inl (.bool (G.lA k)),h):=by obtain⟨aZ,dS,I, -,aj⟩:=g.ex;refine a4 aqn rfl ?_;unfold ab0;by_cases ak:0<=k<;>simp only[ao,ar,av,ap,ak,I,aj.len.1,aj.len.2,aI.lA,fM]
theorem GY(g:fm h ah al b G)(k:Int):aU aq aa 100 [.ptr b 0 0,.int j k] h=o (.inl (.bool (G.lA k)),h):=by obtain⟨aZ,dS,I, -,aj⟩:=g.ex;refine a4 aqy rfl ?_;unfold acR;by_cases ak:0<=k<;>simp only[ao,ar,av,ap,ak,I,aj.len.1,aj.len.2,aI.lA,fM]
theorem GZ(g:fm h ah al b G)(k:Int):aU aq aa 112 [.ptr b 0 0,.int j k] h=o (.inl (.bool (G.has k)),h):=by obtain⟨aZ,dS,I,R, -⟩:=g.ex;refine a4 aqp rfl ?_;unfold aca;by_cases ak:0<=k<;>simp only[ao,ar,av,ap,ak,I,R.dH.len,R.dH.fits,aI.has,fM]
theorem aqT(g:fm h ah al b G)(k:Int):aU aq aa 159 [.ptr b 0 0,.int j k] h=o (.inl (.bool (G.xw k)),h):=by
 obtain⟨aZ,dS,I, -,aj⟩:=g.ex;refine a4 aqo rfl ?_;unfold ab6;cases bA:G.lA k
 ·simp only[ao,ar,av,ap,GX g,bA,aI.xw]
 ·obtain⟨m,rfl,hm⟩:=aI.Lh bA;obtain⟨q,aw,ay,be, -⟩:=Lg aj hm;simp only[ao,ar,av,ap,GX g,bA,I,aw,ay,be,aI.xw]
theorem aqU(g:fm h ah al b G)(k:Int):aU aq aa 163 [.ptr b 0 0,.int j k] h=o (.inl (.bool (G.xw k)),h):=by
 obtain⟨aZ,dS,I, -,aj⟩:=g.ex;refine a4 aqz rfl ?_;unfold acU;cases bA:G.lA k
 ·simp only[ao,ar,av,ap,GY g,bA,aI.xw]
 ·obtain⟨m,rfl,hm⟩:=aI.Lh bA;obtain⟨q,aw,ay,be, -⟩:=Lg aj hm;simp only[ao,ar,av,ap,GY g,bA,I,aw,ay,be,aI.xw]
theorem aqV(g:fm h ah al b G)(ck:G.dg)(rest:List bb):∀(f:Nat) (i:Int) (acc:List bi) (E:ai) (v G0:F),i+1<=f->(G.has i=J->acc.length+i.toNat<200)->Acc h E kl v (acc.map dv)->aG h E->∃cP a' kU t,bB (aU aq aa) 5 [.eM K5,.bP [],.cu 0,.bP rest] [.ptr b 0 0,.int j i,.aJ,v,G0] [] E=bB (aU aq aa) 5 [.bP rest] [.ptr b 0 0,kU,.aJ,a',t] [] cP/\Acc h cP kl a' ((acc++G.path i).map dv)/\aG h cP:=by
 intro f;induction f with
 |zero=>
   intro i acc E v G0 af bo aV a5;have fH:=g.h1 a5;have bA:G.has i=U:=by simp[aI.has];omega
   rw[cy K5.eq_1];refine⟨E,v,.int j i,.bool U,?_,by rw[aI.xx bA,ou];exact aV,a5⟩;simp only[ao,ar,av,ap,b2,GZ fH,bA]
 |succ f aR=>
   intro i acc E v G0 af bo aV a5;have fH:=g.h1 a5;obtain⟨aZ,dS,I,R, -⟩:=fH.ex;rw[cy K5.eq_1];cases bA:G.has i
   ·refine⟨E,v,.int j i,.bool U,?_,by rw[aI.xx bA,ou];exact aV,a5⟩;simp only[ao,ar,av,ap,b2,GZ fH,bA]
   ·obtain⟨m,rfl,hm,ww⟩:=aI.GW bA;have bo:=bo bA;have fv:=R.dH.bJ j m _ ww;obtain⟨a',o5,aw,aP,a2,bl,cr⟩:=y4 aV a5 (row:=dv (G.nodes.getD m fL)) rfl (by simp;omega);simp only[ao,ar,av,ap,b2,GZ fH,bA,I,fv,aw,bl,l9];have ok:=ck.get bA;have az:=ok.dB;have q8:=ok.en;simp only[m9]at az q8 bo;obtain⟨cP,bj,kU,t,bx,bL,gE⟩:=aR (G.nodes.getD m fL).parent (acc++[G.nodes.getD m fL]) o5 a' (.bool J) (by omega) (by intro J9;have:=aI.aqS J9;simp only[fz,hj];omega) (by simpa using aP) a2;refine⟨cP,bj,kU,t,bx,?_,gE⟩;rw[aI.Eg ck bA];simpa using bL
theorem aI.Li{G:aI}(ck:G.dg)(i:Int):(G.path i).length<=81:=by
 have key:∀(f:Nat) (i:Int),(G.mM f i).length<=f:=by
  intro f;induction f with
  |zero=>intro i;simp[aI.mM]
  |succ f aR=>
    intro i;unfold aI.mM;split
    ·have:=aR (G.nodes.getD i.toNat fL).parent;rw[ho];omega
    ·simp
 by_cases bA:G.has i=J
 ·have:=key (i.toNat+1) i;simp[aI.has]at bA;have:=ck.oA;unfold aI.path;omega
 ·rw[aI.xx (by simpa using bA)];simp
theorem RA(l:List bi):∀r∈l.map dv,r.all wb=J:=by intro r au;obtain⟨n,_,rfl⟩:=nt.1 au;rfl
theorem RB(l:List Int):∀r∈l.map (λx=>[F.int j x]),r.all wb=J:=by intro r au;obtain⟨n,_,rfl⟩:=nt.1 au;rfl
theorem RC(g:fm h ah al b G)(ck:G.dg)(i:Int):aU aq aa 158 [.ptr b 0 0,.int j i] h=o (.inl (hy kl ((G.path i).map dv)),h):=by refine a4 aqq rfl ?_;unfold acx;obtain⟨cP,a',kU,t,bx,bL,gE⟩:=aqV g ck [.ops [c6,jz],.ret] (i+1).toNat i [] h .aJ .aD (by omega) (by intro bA;have:=ck.oA;simp[aI.has]at bA;simp;omega) (wa _ _ _) (aG.refl h);simp only[ao,ar,av,ap,bx,dE gE (BW bL (RA _))]
end
def RD:List bb:=[.ops [Rk],.ops [bc,rU,cn,wo,.g (.l 1) J .l (.bin (.int j) .leq (.l 0) (.c (.int j 15))),GS,pK],.ret]
theorem adb:cv aq aa 120 1 2 [0,2] RD [(.v 1)] J:=by refine⟨_,_,Tryz.func120,rfl,rfl,?_,?_,?_,?_,?_⟩<;>kernel_rfl
def ade:List bb:=[rT,.ops [bc,dc,adf,jz],.ret]
theorem aqW:cv aq aa 160 2 3 [0,1,4] ade [(.v 2)] J:=by refine⟨_,_,Tryz.func160,rfl,rfl,?_,?_,?_,?_,?_⟩<;>kernel_rfl
section
variable{h:ai}{ah al:Nat->Prop}{b:Nat}{G:aI}
theorem adg(x y:Int):aU aq aa 160 [.int j x,.int j y] h=o (.inl (.int j (mL x y)),h):=by refine a4 aqW rfl ?_;unfold ade;simp only[ao,ar,av,ap];rfl
theorem Ey(x:Int):aU aq aa 120 [.int j x] h=o (.inl (.bool (qm x)),h):=by refine a4 adb rfl ?_;unfold RD;by_cases ak:0<=x<;>simp only[ao,ar,av,ap,ak,qm]
theorem Lj(x:Int):aU aq aa 96 [.int j x] h=o (.inl (.bool (sJ x)),h):=by refine a4 aqw rfl ?_;unfold acN;by_cases ak:0<=x<;>simp only[ao,ar,av,ap,ak,sJ]
def u4(G:aI):Bool->Int->List bi->Int
 |_,r,[]=>r
 |first,r,n::l=>if qn G n then 0 else u4 G U (mL (if first then 15 else r) n.c5) l
theorem adh(G:aI):∀(l:List bi) (r:Int),u4 G U r l=if l.any (qn G)then 0 else l.foldl (λr n=>mL r n.c5) r
 |[],r=>rfl
 |n::l,r=>by simp only[u4,List.any_cons,u3,mF,if_false];rw[adh G l];by_cases an:qn G n=J<;>simp[an]
theorem aqX(G:aI)(i:Int):u4 G J 0 (G.path i)=G.c5 i:=by
 unfold aI.c5;cases az:G.path i with
 |nil=>simp[u4]
 |cons n l=>simp only[u4,if_true,adh,reduceCtorEq,false_or,List.any_cons,u3];cases an:qn G n<;>simp
theorem aqY(g:fm h ah al b G)(cI p:F)(P:List bi)(az:gB kl p (P.map dv))(gd:P.length<=1000):∀(l pre:List bi) (r:Int) (E:ai) (dL b4 t1 t2 t3:F),P=pre++l->aG h E->m7 J [.v 2] h (bB (aU aq aa) 12 [.eM GQ,.bP [],.cu 0,.bP [.ops [c6,jz],.ret]] [.ptr b 0 0,cI,.int j 0,.int j r,dL,b4,p,.int j P.length,.int j pre.length,t1,t2,t3] [] E)=o (.inl (.int j (u4 G pre.isEmpty r l)),h):=by
 intro l;induction l with
 |nil=>
   intro pre r E dL b4 t1 t2 t3 e a5;rw[cy GQ.eq_1];have:¬((pre.length:Int)<(P.length:Int)):=by rw[e];simp
   simp only[ao,ar,av,ap,b2,this,u4,dE a5 (rfl:dl (.int j r)=_)]
 |cons n l aR=>
   intro pre r E dL b4 t1 t2 t3 e a5;rw[cy GQ.eq_1];have ba:(pre.length:Int)<(P.length:Int):=by rw[e];simp;omega
   have fv:=az.bJ j pre.length (dv n) (by rw[e];simp);have lq:aG h (E.push [dv n]):=a5.trans (aG.push _ _);have hw:=ew (n:=(pre.length:Int)+1) (by omega) (by omega);have kz:=aqT (g.h1 lq);have adi:pre.isEmpty=decide ((pre.length:Int)=0):=by cases pre<;>simp<;>omega
   have ki:∀(br:Int) (dL b4 t1 t2 t3:F),m7 J [.v 2] h (bB (aU aq aa) 12 [.eM GQ,.bP [],.cu 0,.bP [.ops [c6,jz],.ret]] [.ptr b 0 0,cI,.int j 0,.int j br,dL,b4,p,.int j P.length,.int j ((pre.length:Int)+1),t1,t2,t3] [] (E.push [dv n]))=o (.inl (.int j (u4 G U br l)),h):=by
    intro br dL b4 t1 t2 t3;have:=aR (pre++[n]) br (E.push [dv n]) dL b4 t1 t2 t3 (by simp[e]) lq;have aw:(pre++[n]).isEmpty=U:=by cases pre<;>rfl
    have ay:((pre++[n]).length:Int)=(pre.length:Int)+1:=by simp
    rw[aw,ay]at this;exact this
   by_cases ak:0<=n.gate
   ·cases kh:G.xw n.gate
    ·have an:qn G n=J:=by simp[qn,ak,kh]
     simp only[ao,ar,av,ap,b2,ba,fv,l9,ak,kz,kh,u4,an,dE lq (rfl:dl (.int j 0)=_)]
    ·have an:qn G n=U:=by simp[qn,kh]
     cases aB:decide ((pre.length:Int)=0)<;>simp only[ao,ar,av,ap,b2,ba,fv,l9,ak,kz,kh,u4,an,adg,hw,aB,adi,ki]
   ·have an:qn G n=U:=by simp[qn,ak]
    cases aB:decide ((pre.length:Int)=0)<;>simp only[ao,ar,av,ap,b2,ba,fv,l9,ak,u4,an,adg,hw,aB,adi,ki]
theorem adj(g:fm h ah al b G)(ck:G.dg)(i:Int):aU aq aa 145 [.ptr b 0 0,.int j i] h=o (.inl (.int j (G.c5 i)),h):=by refine a4 aqr rfl ?_;unfold acA;have am:=uY kl ((G.path i).map dv);have zi:=aqY g (.int j i) (hy kl ((G.path i).map dv)) (G.path i) am (by have:=aI.Li ck i;omega) (G.path i) [] 0 h .aD .aD .aD .aD .aD rfl (aG.refl h);simp only[fG,j',List.isEmpty_nil,aqX]at zi;simp only[ao,ar,av,ap,RC g ck,am.len,am.fits,fM];exact zi
theorem aqZ(id:Option Nat)(rows:List (List F))(bo:∀r∈rows,r.all F.one=J/\r.all wb=J)(am:rows.length<=1000):aU aq aa 51 [.b5 id kl rows] h=o (.inl (.b5 ag kl rows),h):=by
 refine a4 acM rfl ?_;unfold Ri;have aw:eH U kl (.b5 (o h.ids) kl []) (.b5 id kl rows) (h.fresh 0)=o (.b5 (o h.ids) kl rows,if rows.length=0 then h.fresh 0 else(h.fresh 0).grow h.ids rows.length):=by
  simp only[eH,js,if_true,du];by_cases aB:rows.length=0
  ·simp[uz,sy.1 aB]
  ·rw[if_neg aB,if_neg aB];unfold kA;rw[if_pos ⟨by omega,by omega,by rw[jW];exact λr au=>(bo r au).1⟩];simp[Ec]
 have a5:aG h (if rows.length=0 then h.fresh 0 else(h.fresh 0).grow h.ids rows.length):=by
  split
  ·exact aG.fresh h 0
  ·exact(aG.fresh h 0).grow (b9 _)
 have hw:dl (.b5 (o h.ids) kl rows)=o (.b5 ag kl rows):=by simp only[dl,BV λr au=>(bo r au).2,i3]
 simp only[ao,ar,av,ap,aw,dE a5 hw]
theorem aq0:aU aq aa 51 [.aJ] h=o (.inl .aJ,h):=by refine a4 acM rfl ?_;unfold Ri;simp only[ao,ar,av,ap];exact dE (aG.refl h) rfl
theorem aq1(g:fm h ah al b G)(ck:G.dg):aU aq aa 15 [.ptr b 0 0] h=o (.inl (hy kl (G.nodes.map dv)),h):=by
 obtain⟨aZ,dS,I,R, -⟩:=g.ex;refine a4 aqu rfl ?_;unfold acJ;rcases R with⟨aw,rfl⟩|⟨id,_,dj,_,_,rfl⟩
 ·simp only[ao,ar,av,ap,I,aq0];rw[aw];exact dE (aG.refl h) rfl
 ·have an:=aqZ (h:=h) (o id) (G.nodes.map dv) (λr au=>⟨by obtain⟨n,_,rfl⟩:=nt.1 au;rfl,RA _ r au⟩) (by have:=ck.oA;simp;omega);have hw:dl (.b5 ag kl (G.nodes.map dv))=o (hy kl (G.nodes.map dv)):=by simp only[dl,BV (RA _),i3,hy,if_neg dj]
  simp only[ao,ar,av,ap,I,an,dE (aG.refl h) hw]
theorem aq2(g:fm h ah al b G)(ck:G.dg)(i:Int):aU aq aa 162 [.ptr b 0 0,.int j i] h=o (.inl (.bS [.agg (dv (G.target i).1),.bool (G.target i).2]),h):=by
 refine a4 aqs rfl ?_;unfold acB;have am:=uY kl ((G.path i).map dv);have hw:∀(n:bi) (x:Bool),dl (.bS [.agg (dv n),.bool x])=o (.bS [.agg (dv n),.bool x]):=λn x=>rfl;have pM:=RC (g.h1 (aG.push h [[.int j 0,.int j 0,.int j 0,.int j 0,.int j 0,.int j 0]])) ck;have qq:∀n:bi,aG h (h.push [dv n]):=λn=>aG.push _ _;have bg:∀m:Nat,kw j (m:Int)=m->True:=λ_ _=>trivial;rcases List.eq_nil_or_concat (G.path i)with aB|⟨pre,n,aB⟩
 ·have a6:G.target i=(fL,U):=by simp[aI.target,aB]
  rw[a6];have hlen:(G.path i).length=0:=by rw[aB];rfl
  simp only[ao,ar,av,ap,pM,am.len,am.fits,fM,hlen,j'];exact dE (qq fL) (hw fL U)
 ·rw[List.concat_eq_append]at aB;have a6:G.target i=(n,J):=by unfold aI.target;rw[aB];simp[List.getLastD_eq_getLast?]
  have aF:¬(((pre.length+1:Nat):Int)=0):=by omega
  have aC:kw j (((pre.length+1:Nat):Int) - 1)=(pre.length:Int):=by rw[ew]<;>(have:=aI.Li ck i;rw[aB]at this;simp at this;omega)
  have fv:=am.bJ j pre.length (dv n) (by rw[aB];simp);rw[a6];have hlen:(G.path i).length=pre.length+1:=by rw[aB];simp
  simp only[ao,ar,av,ap,pM,am.len,am.fits,fM,hlen,aF,aC,fv,l9];exact dE (qq n) (hw n J)
theorem aq3(p:F)(P:List bi)(az:gB kl p (P.map dv))(gd:P.length<=1000)(fJ cI:F):∀(l pre:List bi) (E:ai) (v dL t1 t2:F),P=pre++l->aG h E->Acc h E 3 v ((mN pre).map λx=>[.int j x])->m7 J [.v 2] h (bB (aU aq aa) 10 [.eM K7,.bP [],.cu 0,.bP [.ops [c6,jz],.ret]] [fJ,cI,.aJ,v,dL,p,.int j P.length,.int j pre.length,t1,t2] [] E)=o (.inl (hy 3 ((mN P).map λx=>[.int j x])),h):=by
 intro l;induction l with
 |nil=>
   intro pre E v dL t1 t2 e a5 aV;rw[cy K7.eq_1];have ba:¬((pre.length:Int)<(P.length:Int)):=by rw[e];simp
   rw[ou]at e;rw[<-e]at aV;simp only[ao,ar,av,ap,b2,ba,dE a5 (BW aV (RB _))]
 |cons n l aR=>
   intro pre E v dL t1 t2 e a5 aV;rw[cy K7.eq_1];have ba:(pre.length:Int)<(P.length:Int):=by rw[e];simp;omega
   have fv:=az.bJ j pre.length (dv n) (by rw[e];simp);have lq:aG h (E.push [dv n]):=a5.trans (aG.push _ _);have hw:=ew (n:=(pre.length:Int)+1) (by omega) (by omega);have ay:((pre++[n]).length:Int)=(pre.length:Int)+1:=by simp
   have Cd:((mN pre).map λx=>[F.int j x]).length<=1000000:=by
    have:=List.length_filter_le (λn:bi=>decide (0<=n.gate)) pre;have R:pre.length<=P.length:=by rw[e];simp
    simp[mN];omega
   by_cases ak:0<=n.gate
   ·have lS:mN (pre++[n])=mN pre++[n.gate]:=by simp[mN,ak]
    have RE:Acc h (E.push [dv n]) 3 v ((mN pre).map λx=>[.int j x]):=aV;obtain⟨a',o5,aw,aP,a2,bl,cr⟩:=y4 RE lq (row:=[.int j n.gate]) rfl Cd;simp only[v']at aw;have:=aR (pre++[n]) o5 a' (.ptr E.n 0 0) (.bool J) (.bool J) (by simp[e]) a2 (by rw[lS,u5];exact aP);rw[ay]at this;simp only[ao,ar,av,ap,b2,ba,fv,l9,ak,hw,aw,this]
   ·have lS:mN (pre++[n])=mN pre:=by simp[mN,ak]
    have RE:Acc h (E.push [dv n]) 3 v ((mN pre).map λx=>[.int j x]):=aV;have:=aR (pre++[n]) (E.push [dv n]) v (.ptr E.n 0 0) (.bool J) (.bool U) (by simp[e]) lq (by rw[lS];exact RE);rw[ay]at this;simp only[ao,ar,av,ap,b2,ba,fv,l9,ak,hw,this]
theorem aq4(g:fm h ah al b G)(ck:G.dg)(i:Int):aU aq aa 150 [.ptr b 0 0,.int j i] h=o (.inl (hy 3 ((G.kx i).map λx=>[.int j x])),h):=by refine a4 aqt rfl ?_;unfold acI;have am:=uY kl ((G.path i).map dv);have zi:=aq3 (h:=h) (hy kl ((G.path i).map dv)) (G.path i) am (by have:=aI.Li ck i;omega) (.ptr b 0 0) (.int j i) (G.path i) [] h .aJ .aD .aD .aD rfl (aG.refl h) (wa _ _ _);simp only[fG,j']at zi;simp only[ao,ar,av,ap,RC g ck,am.len,am.fits,fM];exact zi
end
theorem adk{P:c'}{p:iQ}(n:Nat)(l:List di)(I:y3 P p (l.take n)=J)(R:y3 P p (l.drop n)=J):y3 P p l=J:=by rw[<-List.take_append_drop n l];unfold y3 at I R ⊢;rw[List.all_append,I,R];rfl
theorem aq5:y3 aq aa (KR.take 55)=J:=by kernel_rfl
theorem aq6:y3 aq aa ((KR.drop 55).take 55)=J:=by kernel_rfl
theorem aq7:y3 aq aa ((KR.drop 55).drop 55)=J:=by kernel_rfl
theorem dx:m0 aq aa:=apT (apS (by kernel_rfl)) (by kernel_rfl) (adk 55 _ aq5 (adk 55 _ aq6 aq7)) (λg ah h=>by
 unfold sK at h;split at h
 ·rename_i e;subst e;injection h with h;subst h;refine⟨_,Tryz.func113,⟨by kernel_rfl,by kernel_rfl⟩,λargs h r au=>?_⟩;unfold GH at au;split at au
  ·rename_i H;injection au with au;rw[<-au];exact(Classical.choose_spec H).1
  ·cases au
 split at h
 ·rename_i e;subst e;injection h with h;subst h;refine⟨_,Tryz.func114,⟨by kernel_rfl,by kernel_rfl⟩,λargs h r au=>?_⟩;unfold KS at au;split at au
  ·split at au
   ·rename_i H;injection au with au;rw[<-au];exact H
   ·cases au
  ·cases au
 split at h
 ·rename_i e;subst e;injection h with h;subst h;refine⟨_,Tryz.func40,⟨by kernel_rfl,by kernel_rfl⟩,λargs h r au=>?_⟩;unfold KT at au;split at au
  ·rename_i H;injection au with au;rw[<-au];exact(Classical.choose_spec H).2
  ·cases au
 split at h
 ·rename_i e;subst e;injection h with h;subst h;refine⟨_,Tryz.func21,⟨by kernel_rfl,by kernel_rfl⟩,λargs h r au=>?_⟩;unfold KU at au;split at au
  ·rename_i H;injection au with au;rw[<-au];exact(Classical.choose_spec H).2
  ·cases au
 split at h
 ·rename_i e;subst e;injection h with h;subst h;refine⟨_,Tryz.func12,⟨by kernel_rfl,by kernel_rfl⟩,λargs h r au=>?_⟩;unfold GI at au;split at au
  ·rename_i H;injection au with au;rw[<-au];exact(Classical.choose_spec H).1
  ·cases au
 split at h
 ·rename_i e;subst e;injection h with h;subst h;refine⟨_,Tryz.func65,⟨by kernel_rfl,by kernel_rfl⟩,λargs h r au=>?_⟩;unfold KW at au;split at au
  ·split at au
   ·rename_i H;injection au with au;rw[<-au];exact H
   ·cases au
  ·cases au
 cases h)
open Go.ChangeShapes Go.WideShapes Go.ChangeAt Go.RowKit Go.Deep Go.Joins
open Go.ChangeMaps (open_string shut_string)
theorem own:ownKnob aq.godebug=ag:=by kernel_rfl
theorem aq8:laidOutB aq=J:=by kernel_rfl
section
variable{H:Type}{enc:a9×b'->H}{P:c'}{W wx:dO}
theorem adl(am:laidOutB P=J):∀{cK:List a9} {bI:List b'} {jm:List (DataW H)} {p:List MemPlace},sM enc P W 0 (λ_=>J) J cK bI jm p->(∀t∈cK,P.readableRec t=J/\t<P.types.size)->Below W.heap.size W wx->(∀x∈p,x.block<W.heap.size)->sM enc P wx 0 (λb=>decide (b<W.heap.size)) J cK bI jm p
 |[],[],[],p,h,_,_,_=>h
 |t::cK,v::bI,d::jm,p,h,a6,ad,az=>by obtain⟨dB,bR,I,R,rfl⟩:=h;obtain⟨au,aC⟩:=a6 t (by simp);exact⟨dB,bR,Below.trod am au aC I ad (λx aF=>az x (by simp[aF])),adl am R (λdQ E=>a6 dQ (by simp[E])) ad (λx aF=>az x (by simp[aF])),rfl⟩
 |[],_::_,_,_,h,_,_,_=>by simp[sM]at h
 |_::_,[],_,_,h,_,_,_=>by simp[sM]at h
 |_::_,_::_,[],_,h,_,_,_=>by simp[sM]at h
 |[],[],_::_,_,h,_,_,_=>by simp[sM]at h
theorem adm:∀{cK:List a9} {bI:List b'} {jm:List (DataW H)} {p:List MemPlace},sM enc P W 0 (λ_=>J) J cK bI jm p->∀x∈p,x.block<W.heap.size
 |[],[],[],p,h,x,aF=>by have:p=[]:=h;subst this;simp at aF
 |t::cK,v::bI,d::jm,p,h,x,aF=>by
   obtain⟨dB,bR,⟨n,I⟩,R,rfl⟩:=h;rcases qV.1 aF with aF|aF
   ·exact DataW.trod_lt n _ _ _ I x aF
   ·exact adm R x aF
 |[],_::_,_,_,h,_,_=>by simp[sM]at h
 |_::_,[],_,_,h,_,_=>by simp[sM]at h
 |_::_,_::_,[],_,h,_,_=>by simp[sM]at h
 |[],[],_::_,_,h,_,_=>by simp[sM]at h
def adn(P:c')(f:di)(args:Array b')(W:dO):Prop:=Calls P f args W λe wx=>e= .returned (.bool J)/\Below W.heap.size W wx
theorem aq9{f:Func}{s:ChangeSpec}{args:Array b'}{jm gW:List (DataW H)}{before:List MemPlace}{ado:a9}(am:laidOutB P=J)(aq':P.underlying ado=o .bool)(lr:f.resultTypes= #[ado])(Z:s.vars=[])(ara:∀t∈f.params.toList,P.readableRec t=J/\t<P.types.size)(aC:∀jm:List (DataW H),jm.length=f.params.size->s.fn H jm={results:=[.lit (.bool J)],args:=jm})(ck:DataW.Whole enc P f.params.toList s.vars U W args.toList jm gW before)(ad:Below W.heap.size W wx):s.post enc P f U J U U W args (.bool J) wx:=by
 have RF:=ck;obtain⟨p,q,eA,u6,rfl,aDG,rL⟩:=ck;rw[Z]at u6;obtain⟨rfl,rfl⟩:=trodVars_none u6;have hlen:jm.length=f.params.size:=by
  have:∀{cK:List a9} {bI:List b'} {jm:List (DataW H)} {p:List MemPlace},sM enc P W 0 (λ_=>J) J cK bI jm p->jm.length=cK.length:=by
   intro cK;induction cK with
   |nil=>intro bI jm p h;cases bI<;>cases jm<;>simp[sM]at h ⊢
   |cons t cK aR=>intro bI jm p h;cases bI<;>cases jm<;>simp[sM]at h ⊢;obtain⟨_,_,_,R,_⟩:=h;exact aR R
  simpa using this eA
 have e:=aC (jm++[]) (by simpa using hlen);refine⟨jm,[],_,[],p,[],RF,?_,?_,?_,ad.frame _,λh=>by cases h⟩
 ·rw[e,lr];exact trodAll_mk1 (shut_bool aq' _)
 ·rw[e];simp only[ou];exact adl am eA ara ad (adm eA)
 ·rw[e,Z];rfl
def zj(z:Int):Prop:= -9223372036854775808<=z/\z<=9223372036854775807
end
open Go Go.RowKit
def rZ:ai:={n:=0,cell:=λ_=>ag,ids:=0,hw:=λ_=>0}
def wy(W:dO):ey:={base:=W.heap.size,cu:=λ_=>0,hQ:=λ_=>0,oX:=λ_=>0,eP:=λg O=>W.cell? ⟨g,O,ag⟩,jU:=λ_=>0,uD:=λ_=>0,mY:=λ_=>0,gN:=λ_=>ag}
theorem arb{P:c'}{b:Nat}{w:dO}(h:W5 P=[]/\W6 P=[]):Bw P b w:=by
 refine⟨λq aX=>?_,λn aA=>?_⟩
 ·rw[h.1]at aX;cases aX
 ·rw[h.2]at aA;cases aA
theorem arc(P:c')(W:dO)(a5:Bw P W.heap.size W):cp P (wy W) rZ W where
 cY:=a5
 size:=b9 _
 lt:=λb es ad=>by simp[rZ]at ad
 live:=λb es ad=>by simp[rZ]at ad
 inj:=λb gl es gS ad=>by simp[rZ]at ad
 eP:=λg O v h=>h
 sep:=λb es ad=>by simp[rZ]at ad
 rB:=λk ab=>absurd ab (Nat.not_lt_zero _)
 p8:=λk ab=>absurd ab (Nat.not_lt_zero _)
 oZ:=λk ab=>absurd ab (Nat.not_lt_zero _)
 qP:=λk ee ab=>absurd ab (Nat.not_lt_zero _)
 gN:=λg x ae=>by simp[wy]at ae
theorem ard{f:di}{u7:List F}{bI:List b'}{W:dO}{E:ai}(au:aU aq aa f u7 rZ=o (.inl (.bool J),E))(Z:eb aq (wy W) rZ u7 bI)(a5:Bw aq W.heap.size W:=by exact arb ⟨by kernel_rfl,by kernel_rfl⟩):adn aq f bI.toArray W:=by refine(Yo dx au (wy W) W bI (arc _ W a5) Z).mono λe wx ⟨bf,_,_,ad,aF⟩=>?_;obtain⟨u,rfl,bV⟩:=aF;cases bV;exact⟨rfl,ad⟩
theorem RG{P:c'}{m:ey}{h:ai}(n:Int):b8 P m h (.int j n) (.int j n):=.int _ _
theorem are{P:c'}{m:ey}{h:ai}(s:ByteArray):b8 P m h (.str s.data.toList) (.string s):=by have:=b8.str (P:=P) (m:=m) (h:=h) s.data.toList;simpa using this
section
variable{P:c'}{aa:iQ}{g:di}{a aZ:Nat}{bk:List Nat}{bP:List bb}{rs:List o8}{args:List F}{h:ai}
theorem Lk{p:Bool}{sN:(F⊕F)×ai->Prop}(bo:cv P aa g a aZ bk bP rs p)(aV:args.length=a)(H:∀Q:mi->Prop,(∀r q,m7 p rs h r=o q->sN q->Q r)->Q (bB (aU P aa) aZ [.bP bP] (args++ap (bk.length - args.length) .aD) [] h)):∃q,aU P aa g args h=o q/\sN q:=by obtain⟨q,I,R⟩:=H (λr=>∃q,m7 p rs h r=o q/\sN q) (λr q I R=>⟨q,I,R⟩);exact⟨q,a4 bo aV I,R⟩
theorem RH{v:F}(bo:cv P aa g a aZ bk bP rs U)(aV:args.length=a)(H:∀Q:mi->Prop,(∀V E,(jc V E rs).map ju=o v->cJ E->Q (o (.ret,V,E)))->Q (bB (aU P aa) aZ [.bP bP] (args++ap (bk.length - args.length) .aD) [] h)):∃E,aU P aa g args h=o (.inl v,E)/\cJ E:=by obtain⟨q,I,E,rfl,R⟩:=Lk (sN:=λq=>∃E,q=(.inl v,E)/\cJ E) bo aV λQ cQ=>H Q λV E e r=>cQ _ (.inl v,E) (by simp only[At,e,z6,yB]) ⟨E,rfl,r⟩;exact⟨E,I,R⟩
theorem adp{cJ:F->ai->Prop}(bo:cv P aa g a aZ bk bP rs U)(aV:args.length=a)(H:∀Q:mi->Prop,(∀V E v,(jc V E rs).map ju=o v->cJ v E->Q (o (.ret,V,E)))->Q (bB (aU P aa) aZ [.bP bP] (args++ap (bk.length - args.length) .aD) [] h)):∃v E,aU P aa g args h=o (.inl v,E)/\cJ v E:=by obtain⟨q,I,v,E,rfl,R⟩:=Lk (sN:=λq=>∃v E,q=(.inl v,E)/\cJ v E) bo aV λQ cQ=>H Q λV E v e r=>cQ _ (.inl v,E) (by simp only[At,e,z6,yB]) ⟨v,E,rfl,r⟩;exact⟨v,E,I,R⟩
theorem RI{cJ:F->Prop}(bo:cv P aa g a aZ bk bP rs J)(aV:args.length=a)(H:∀Q:mi->Prop,(∀V E v a',(jc V E rs).map ju=o v->aG h E->dl v=o a'->cJ a'->Q (o (.ret,V,E)))->Q (bB (aU P aa) aZ [.bP bP] (args++ap (bk.length - args.length) .aD) [] h)):∃v,aU P aa g args h=o (.inl v,h)/\cJ v:=by obtain⟨q,I,v,rfl,R⟩:=Lk (sN:=λq=>∃v,q=(.inl v,h)/\cJ v) bo aV λQ cQ=>H Q λV E v a' e a5 w r=>cQ _ (.inl a',h) (by simp only[At,e,z6];exact dE a5 w) ⟨a',rfl,r⟩;exact⟨v,I,R⟩
theorem nI(bo:cv P aa g a aZ bk bP rs J)(aV:args.length=a)(H:∀Q:mi->Prop,(∀V E v,(jc V E rs).map ju=o v->aG h E->dl v=o a'->Q (o (.ret,V,E)))->Q (bB (aU P aa) aZ [.bP bP] (args++ap (bk.length - args.length) .aD) [] h)):aU P aa g args h=o (.inl a',h):=by obtain⟨v,I,rfl⟩:=RI (cJ:=λv=>v=a') bo aV λQ cQ=>H Q λV E v e a5 w=>cQ V E v a' e a5 w rfl;exact I
end
section
variable{P:c'}{aa:iQ}{g:di}{a aZ:Nat}{bk:List Nat}{bP:List bb}{rs:List o8}{args:List F}{h:ai}
theorem adq{sN:(F⊕F)->ai->Prop}(bo:cv P aa g a aZ bk bP rs U)(aV:args.length=a)(H:∀Q:mi->Prop,(∀V E v,(jc V E rs).map ju=o v->sN (.inl v) E->Q (o (.ret,V,E)))->(∀V E v,sN (.inr v) E->Q (o (.panic v,V,E)))->Q (bB (aU P aa) aZ [.bP bP] (args++ap (bk.length - args.length) .aD) [] h)):∃q E,aU P aa g args h=o (q,E)/\sN q E:=by obtain⟨⟨q,E⟩,e,p⟩:=Lk (sN:=λq=>sN q.1 q.2) bo aV λQ cQ=>H Q (λV E v e r=>cQ _ (.inl v,E) (by simp only[At,e,z6,yB]) r) (λV E v r=>cQ _ (.inr v,E) (by simp only[Qj,yB]) r);exact⟨q,E,e,p⟩
end
theorem pN{C:D8}{aZ:Nat}{b:List bb}{K:List j0}{h:ai}{Q:mi->Prop}(bK:Nat->List F->ai->Prop)(n:Nat)(ak:bK 0 V h)(step:∀i V h,i<n->bK i V h->(∀gI E,bK (i+1) gI E->Q (bB C aZ (.eM b::K) gI [] E))->Q (bB C aZ (.eM b::K) V [] h))(stop:∀V h,bK n V h->Q (bB C aZ (.eM b::K) V [] h)):Q (bB C aZ (.eM b::K) V [] h):=by
 have key:∀(d i:Nat) (V:List F) (h:ai),i+d=n->bK i V h->Q (bB C aZ (.eM b::K) V [] h):=by
  intro d;induction d with
  |zero=>
    intro i V h af ds;obtain rfl:i=n:=by omega
    exact stop V h ds
  |succ d aR=>exact λi V h af ds=>step i V h (by omega) ds λgI E jN=>aR (i+1) gI E (by omega) jN
 exact key n 0 V h (by omega) ak
theorem arf{n:Nat}:(n<n+1)=True:=by simp
theorem RJ{α:Type}(A B:List α)(x y:α){n:Nat}(aA:n=A.length):(A++x::B).set n y=A++y::B:=by subst aA;simp
theorem adr{α:Type}(A B:List α)(x:α){n:Nat}(aA:n=A.length):(A++x::B)[n]? =o x:=by subst aA;simp
theorem Ce{α:Type}{l:List α}{i:Nat}{y:α}(h:l[i]? =o y):l.take (i+1)=l.take i++[y]:=by rw[List.take_add_one,h];rfl
theorem Cf{n m:Int}(e:n=m)(I: -9223372036854775808<=n)(R:n<=9223372036854775807):kw j n=m:=by rw[<-e];exact ew I R
theorem Ll{ak h:ai}{e:a9}{v:F}(aV:Acc ak h e v acc)(g:aG ak h){x:F}{rows:List (List F)}(aF:(x= .aJ/\rows=[])\/∃id,x= .b5 id e rows)(I:∀r∈rows,r.all F.one=J)(am:acc.length<=1000000)(au:rows.length<=1000000):∃a' E,eH U e v x h=o (a',E)/\Acc ak E e a' (acc++rows)/\aG ak E/\E.cell=h.cell/\E.n=h.n:=by
 have lJ:rows.all (·.all F.one)=J:=by rw[jW];exact I
 by_cases aB:rows.length=0
 ·have xp:=sy.1 aB;subst xp;refine⟨v,h,?_,by simpa using aV,g,rfl,rfl⟩;have aC:uz e v h=o (v,h):=by rcases aV with⟨_,rfl⟩|⟨id,_,_,_,_,rfl⟩<;>simp[uz]
  rcases aF with⟨rfl,_⟩|⟨id,rfl⟩
  ·exact aC
  ·simp[eH,js,aC]
 ·obtain⟨arh,rfl⟩:∃id,x= .b5 id e rows:=by
   rcases aF with⟨_,rfl⟩|aF
   ·simp at aB
   ·exact aF
  have aw:eH U e v (.b5 arh e rows) h=kA U e v rows h:=by simp only[eH,js,if_true,du];rw[if_neg aB]
  rw[aw];unfold kA;rw[if_pos ⟨by omega,by omega,lJ⟩];have dw:rows≠[]:=λe=>aB (by rw[e];rfl);rcases aV with⟨rfl,rfl⟩|⟨id,jI,aP,a2,bl,rfl⟩
  ·refine⟨_,_,rfl,.inr ⟨h.ids,by simpa using dw,g.ids,by simp[ai.fresh],by simp[ai.fresh],by simp⟩,g.trans (aG.fresh _ _),rfl,rfl⟩
  ·refine⟨.b5 (o id) e (acc++rows),h.grow id (acc.length+rows.length),?_,.inr ⟨id,by simp[jI],aP,a2,by simp[ai.grow],rfl⟩,g.grow aP,rfl,rfl⟩;simp[bl,am]
theorem RK(e:a9)(rows:List (List F)):(hy e rows= .aJ/\rows=[])\/∃id,hy e rows= .b5 id e rows:=by
 unfold hy;by_cases aB:rows=[]
 ·exact .inl ⟨by rw[if_pos aB],aB⟩
 ·exact .inr ⟨ag,by rw[if_neg aB]⟩
theorem RL(l:List Int):∀r∈eI l,r.all F.one=J:=by intro r au;obtain⟨n,_,rfl⟩:=nt.1 au;rfl
def ads(f:F)(xs:List F):Option (di×List F):=match f with
 |.fn g a c=>o (g,a++xs++c)
 |_=>ag
section
variable{C:D8}{aZ:Nat}{k:List j0}{V L:List F}{h:ai}{d:qg}{bT:List aE}
theorem adt{f:Arg}{args:List Arg}:iK V L (.call f args)=ads (arg V L f) (args.map (arg V L)):=by simp only[iK];cases arg V L f<;>rfl
theorem adu{g:di}{a c xs:List F}:ads (.fn g a c) xs=o (g,a++xs++c):=rfl
theorem adv{g:di}{xs:List F}:KD C aZ d bT k V L h (o (g,xs))=tD C aZ d bT k V L (C g xs h):=rfl
theorem bN:(type_of% @Qi)/\(type_of% @adt)/\(type_of% @adu)/\(type_of% @adv):=⟨@Qi,@adt,@adu,@adv⟩
end
section
variable{h:ai}{ah al:Nat->Prop}{b:Nat}{G:aI}
theorem aI.Lm{G:aI}(ck:G.dg)(i:Int):(G.hM i).length<=81:=by rw[aI.aqE];exact aI.Li ck i
theorem ari(ck:G.dg):∀(f:Nat) (i:Int) (h:ai) (ah al:Nat->Prop) (b:Nat),i+1<=f->fm h ah al b G->aU aq aa 154 [.ptr b 0 0,.int j i] h=o (.inl (hy 3 (eI (G.hM i))),h):=by
 intro f;induction f with
 |zero=>
   intro i h ah al b af g;obtain⟨aZ,dS,I,R, -⟩:=g.ex;have ak:i<0:=by omega
   have bA:G.has i=U:=by simp[aI.has];omega
   refine a4 ac4 rfl ?_;unfold Rs;simp only[ao,ar,av,ap,ak,I,aI.Ew bA];exact dE (aG.refl h) rfl
 |succ f aR=>
   intro i h ah al b af g;obtain⟨aZ,dS,I,R, -⟩:=g.ex;refine a4 ac4 rfl ?_;unfold Rs;cases bA:G.has i
   ·have:decide (i<0)=J\/decide (i<0)=U/\decide ((G.nodes.length:Int)<=i)=J:=by simp[aI.has]at bA;simp only[decide_eq_true_eq,decide_eq_false_iff_not];omega
    rcases this with ak|⟨ak,aj⟩
    ·simp only[ao,ar,av,ap,ak,I,aI.Ew bA];exact dE (aG.refl h) rfl
    ·simp only[ao,ar,av,ap,ak,aj,I,R.dH.len,R.dH.fits,fM,aI.Ew bA];exact dE (aG.refl h) rfl
   ·obtain⟨m,rfl,hm,ww⟩:=aI.GW bA;have fv:=R.dH.bJ j m _ ww;have ak:decide ((m:Int)<0)=U:=by simp
    have aj:decide ((G.nodes.length:Int)<=(m:Int))=U:=by simp;omega
    have ok:=ck.get bA;have az:=ok.dB;have q8:=ok.en;simp only[m9]at az q8;have cS:aG h (h.fresh 1):=aG.fresh h 1;have DW:=aR (G.nodes.getD m fL).parent (h.fresh 1) ah al b (by omega) (g.h1 cS);have aV:Acc h (h.fresh 1) 3 (.b5 (o h.ids) 3 [[.int j (m:Int)]]) [[.int j (m:Int)]]:=.inr ⟨h.ids,by simp,b9 _,by simp[ai.fresh],by simp[ai.fresh],rfl⟩;obtain⟨a',E,aw,aP,a2, -, -⟩:=Ll aV cS (RK 3 (eI (G.hM (G.nodes.getD m fL).parent))) (RL _) (by simp) (by have:=aI.Lm ck (G.nodes.getD m fL).parent;rw[fM];omega);have adw:=aI.Ev ck bA;simp only[m9]at adw;have pC:dl a'=o (hy 3 (eI (G.hM m))):=by rw[adw];exact BW aP (RB (m::G.hM (G.nodes.getD m fL).parent))
    simp only[ao,ar,av,ap,ak,aj,I,R.dH.len,R.dH.fits,fM,fv,l9,DW,aw,dE a2 pC]
theorem Ln(g:fm h ah al b G)(ck:G.dg)(i:Int):aU aq aa 154 [.ptr b 0 0,.int j i] h=o (.inl (hy 3 (eI (G.hM i))),h):=ari ck (i+1).toNat i h ah al b (by omega) g
theorem arj{fj:kO}{q bQ:gZ}{x:Int}{k:Nat}(ab:k<=q.bits):eO fj .shr (.int q x) (.int bQ (k:Int))=o (.int q (x.fdiv (2 ^ k))):=by simp[eO,Nat.min_eq_left ab]
theorem ark{fj:kO}{q bQ:gZ}{x:Int}{k:Nat}(ab:k<=q.bits):eO fj .shl (.int q x) (.int bQ (k:Int))=o (.int q (q.wrap (x*2 ^ k))):=by simp[eO,Nat.min_eq_left ab]
theorem RM{k:Nat}(ab:k<1000):kw .u64 (k:Int)=k:=by rw[IntKind.wrap_u64];omega
theorem RN(x:Int)(k:Nat)(ab:k<64):aU aq aa 151 [.int j x,.int j (k:Int)] h=o (.inl (.bool (fK x k)),h):=by refine a4 aqx rfl ?_;unfold acO;have aC:∀fj,eO fj .shr (.int j x) (.int .u64 (k:Int))=o (.int j (x.fdiv (2 ^ k))):=λfj=>arj (by simp[IntKind.bits];omega);simp only[ao,ar,av,ap,RM (k:=k) (by omega),aC];have e:x.fdiv (2 ^ k)=x / 2 ^ k:=Int.fdiv_eq_ediv_of_nonneg _ (by exact Int.le_of_lt (Int.pow_pos (by decide)));rw[e];rfl
def xG(G:aI)(k:Nat)(l:List Int):Bool:=l.all λi=>fK (G.at_ i).c5 k&& !qn G (G.at_ i)
theorem arl(g:fm h ah al b G)(ck:G.dg)(W:List Int)(w:F)(hw:gB 3 w (eI W))(RO:W.length<=1000)(G1:∀i∈W,G.has i=J)(k:Nat)(ab:k<64)(cI b6 dL eD:F)(K:List j0):∀(l pre:List Int) (a:Bool) (E:ai) (dz dU e1:F),W=pre++l->aG h E->∃cP c7 RP RQ,bB (aU aq aa) 12 (.eM Ld::.bP []::.cu 2::K) [.ptr b 0 0,cI,b6,w,dL,.int j (k:Int),.bool a,.int j (pre.length:Int),dz,eD,dU,e1] [] E=bB (aU aq aa) 12 K [.ptr b 0 0,cI,b6,w,dL,.int j (k:Int),.bool (a&&xG G k l),c7,RP,eD,RQ,e1] [] cP/\aG h cP:=by
 intro l;induction l with
 |nil=>
   intro pre a E dz dU e1 e a5;rw[cy Ld.eq_1];have ba:¬((pre.length:Int)<(W.length:Int)):=by rw[e];simp
   refine⟨E,.int j (pre.length:Int),dz,.bool U,?_,a5⟩;simp only[ao,ar,av,ap,b2,hw.len,hw.fits,fM,ba,xG,List.all_nil]
 |cons i l aR=>
   intro pre a E dz dU e1 e a5;have fH:=g.h1 a5;obtain⟨aZ,dS,I,R, -⟩:=fH.ex;have ba:(pre.length:Int)<(W.length:Int):=by rw[e];simp;omega
   have arn:=G1 i (by rw[e];simp);obtain⟨m,rfl,hm,ww⟩:=aI.GW arn;have fv:=hw.bJ j pre.length [.int j (m:Int)] (by rw[e];simp);have Cg:=R.dH.bJ j m _ ww;have Lo:G.at_ (m:Int)=G.nodes.getD m fL:=rfl;have lq:aG h (E.push [dv (G.nodes.getD m fL)]):=a5.trans (aG.push _ _);have qr:=ew (n:=(pre.length:Int)+1) (by omega) (by omega);have ie:b≠E.n:=by have:=fH.ad.2;omega
   have kz:=aqU (g.h1 lq);have ay:((pre++[(m:Int)]).length:Int)=(pre.length:Int)+1:=by simp
   have sq:=RN (h:=E.push [dv (G.nodes.getD m fL)]) (G.nodes.getD m fL).c5 k ab;obtain⟨cP,c7,RP,RQ,bx,bL⟩:=aR (pre++[(m:Int)]) (a&&(fK (G.nodes.getD m fL).c5 k&& !qn G (G.nodes.getD m fL))) (E.push [dv (G.nodes.getD m fL)]) (.ptr E.n 0 0) (.bool J) e1 (by simp[e]) lq;refine⟨cP,c7,RP,RQ,?_,bL⟩;rw[ay]at bx;rw[cy Ld.eq_1];generalize G.nodes.getD m fL=n at*;have G2:xG G k ((m:Int)::l)=((fK n.c5 k&& !qn G n)&&xG G k l):=by simp only[xG,qa,Lo]
   rw[G2,<-Bool.and_assoc,<-bx];have lI:qn G n=(decide (0<=n.gate)&& !G.xw n.gate):=rfl;by_cases ak:n.gate<0
   ·have tL:¬(0<=n.gate):=by omega
    cases a<;>cases ad:fK n.c5 k<;>simp only[ao,ar,av,ap,b2,hw.len,hw.fits,fM,ba,fv,Cg,I,l9,uX ie,sq,ad,ak,tL,lI,qr]
   ·have tL:0<=n.gate:=by omega
    cases a<;>cases ad:fK n.c5 k<;>cases kh:G.xw n.gate<;>simp only[ao,ar,av,ap,b2,hw.len,hw.fits,fM,ba,fv,Cg,I,l9,uX ie,sq,ad,ak,tL,lI,qr,kz,kh]
def sO(G:aI)(W:List Int)(k:Nat):Int:=((jG k).map λD=>if xG G D W then(2:Int) ^ D else 0).sum
theorem RR(G:aI)(W:List Int)(k:Nat):sO G W (k+1)=sO G W k+(if xG G k W then(2:Int) ^ k else 0):=by simp[sO,List.range_succ]
theorem adx(G:aI)(W:List Int):∀k,0<=sO G W k/\sO G W k<2 ^ k
 |0=>by simp[sO]
 |k+1=>by
   have:=adx G W k;have R:(2:Int) ^ (k+1)=2 ^ k+2 ^ k:=by rw[Int.pow_succ];omega
   rw[RR,R];split<;>omega
theorem aro(g:fm h ah al b G)(ck:G.dg)(W:List Int)(w:F)(hw:gB 3 w (eI W))(RO:W.length<=1000)(RF:W≠[])(G1:∀i∈W,G.has i=J)(cI:F):∀(d k:Nat) (E:ai) (cz c7 dz eD dU e1:F),k+d=4->aG h E->m7 J [.v 2] h (bB (aU aq aa) 12 [.eM Et,.bP [],.cu 0,.bP [.ops [fu,jz],.ret]] [.ptr b 0 0,cI,.int j 0,w,.int j (sO G W k),.int j (k:Int),cz,c7,dz,eD,dU,e1] [] E)=o (.inl (.int j (sO G W 4)),h):=by
 intro d;induction d with
 |zero=>
   intro k E cz c7 dz eD dU e1 ab a5;obtain rfl:k=4:=by omega
   rw[cy Et.eq_1];have aH:((4:Nat):Int)=4:=rfl;simp only[ao,ar,av,ap,b2,aH,Int.lt_irrefl,dE a5 (rfl:dl (.int j (sO G W 4))=_)]
 |succ d aR=>
   intro k E cz c7 dz eD dU e1 ab a5;have ba:(k:Int)<4:=by omega
   have ol:(0:Int)<(W.length:Int):=by have:0<W.length:=List.length_pos_iff.2 RF;omega
   have JY:=adx G W k;have aDH:(2:Int) ^ k<=16:=by
    have:k=0\/k=1\/k=2\/k=3:=by omega
    rcases this with rfl|rfl|rfl|rfl<;>decide
   have q8:(0:Int)<(2:Int) ^ k:=Int.pow_pos (by decide);have gT:kw j (1*2 ^ k:Int)=2 ^ k:=by rw[Int.one_mul];exact ew (by omega) (by omega)
   have pO:=ew (n:=sO G W k+2 ^ k) (by omega) (by omega);have tM:=ew (n:=(k:Int)+1) (by omega) (by omega);have ady:∀fj,eO fj .shl (.int j 1) (.int .u64 (k:Int))=o (.int j (kw j (1*2 ^ k))):=λfj=>ark (by simp[IntKind.bits];omega);have aw:((k+1:Nat):Int)=(k:Int)+1:=by omega
   obtain⟨cP,xH,u8,AH,bx,bL⟩:=arl g ck W w hw RO G1 k (by omega) cI (.int j 0) (.int j (sO G W k)) (.bool J) [.bP [.ops [(.i (.v 11) (.a8 (.v 6)))],.cond (.v 11) [.ops [fu,hV,Rl,(.i .l (.bin (.int j) .shl (.c (.int j 1)) (.l 0))),(.i .l (.bin (.int j) .add (.l 3) (.l 0))),je]] []],.cu 1,.bP [.ops [hV,oG,d8]],.eM Et,.bP [],.cu 0,.bP [.ops [fu,jz],.ret]] W [] J E dz dU e1 rfl a5;simp only[fG,j',Bool.true_and]at bx;rw[cy Et.eq_1];cases aV:xG G k W
   ·have:=aR (k+1) cP (.bool U) xH u8 (.bool J) AH (.bool U) (by omega) bL;rw[RR,aV,aw]at this;simp only[mF,if_false,Int.add_zero]at this;simp only[ao,ar,av,ap,b2,ba,hw.len,hw.fits,fM,ol,bx,aV,RM (k:=k) (by omega),ady,gT,pO,tM,this]
   ·have:=aR (k+1) cP (.bool J) xH u8 (.bool J) AH (.bool J) (by omega) bL;rw[RR,aV,aw]at this;simp only[if_true]at this;simp only[ao,ar,av,ap,b2,ba,hw.len,hw.fits,fM,ol,bx,aV,RM (k:=k) (by omega),ady,gT,pO,tM,this]
theorem arp(G:aI)(k:Nat)(i:Int):xG G k (G.hM i)=Cc G (G.path i) k:=by unfold xG Cc;rw[<-aI.zh,List.all_map];rfl
theorem adz(g:fm h ah al b G)(ck:G.dg)(i:Int):aU aq aa 152 [.ptr b 0 0,.int j i] h=o (.inl (.int j (G.c5 i)),h):=by
 refine a4 aqA rfl ?_;unfold ac';have am:=uY 3 (eI (G.hM i));have Cd:=aI.Lm ck i;rw[<-aqH ck i];by_cases aB:G.hM i=[]
 ·have az:G.path i=[]:=by rw[<-aI.zh,aB];rfl
  have hlen:(G.hM i).length=0:=by rw[aB];rfl
  have au:Ex G i 4=0:=by unfold Ex;rw[if_pos az]
  have arq:(0:Int)<4:=by decide
  rw[au];simp only[ao,ar,av,ap,Ln g ck];rw[cy Et.eq_1];simp only[ao,ar,av,ap,b2,am.len,am.fits,fM,hlen,j',Int.lt_irrefl,arq]
 ·have az:G.path i≠[]:=by intro e;rw[<-aI.zh]at e;exact aB (List.map_eq_nil_iff.1 e)
  have au:Ex G i 4=sO G (G.hM i) 4:=by unfold Ex sO;rw[if_neg az];simp only[arp]
  rw[au];have:=aro g ck (G.hM i) (hy 3 (eI (G.hM i))) am (by omega) aB (aI.Lf i) (.int j i) 4 0 h .aD .aD .aD .aD .aD .aD rfl (aG.refl h);have ak:sO G (G.hM i) 0=0:=rfl;rw[ak]at this;simp only[ao,ar,av,ap,Ln g ck];exact this
end
def bi.ints(n:bi):List Int:=[n.parent,n.gate,n.c5,n.cell,n.bu,n.func]
instance:DecidableEq bi:=λa b=>decidable_of_iff (a.ints=b.ints) ⟨λe=>by cases a;cases b;simp[bi.ints]at e;simp[e],λe=>by rw[e]⟩
section
variable{h:ai}
end
theorem gx.same{h:ai}{ah al:Nat->Prop}{b:Nat}{G:aI}(g:fm h ah al b G):gx h ah al b h G:=⟨ah,al,g,mO.refl _ _ _,λ_=>.inl,λ_=>.inl⟩
theorem gx.h1{h E:ai}{ah al:Nat->Prop}{b:Nat}{G:aI}(g:fm h ah al b G)(x:aG h E):gx h ah al b E G:=⟨ah,al,g.h1 x,x.wi _ _,λ_=>.inl,λ_=>.inl⟩
theorem gx.after{h I:ai}{ah al:Nat->Prop}{b:Nat}{b7:aI}(x:aG h I)(d:gx I ah al b R b7):gx h ah al b R b7:=by obtain⟨mj,ml,g,c,dJ,g1⟩:=d;have:=x.n;have:=x.ids;exact⟨mj,ml,g,(x.wi ah al).trans c,λk ab=>(dJ k ab).imp id (by omega),λD ae=>(g1 D ae).imp id (by omega)⟩
section
variable{h:ai}{ah al:Nat->Prop}{b:Nat}{G:aI}
theorem adA(h:ai){ah:Nat->Prop}{b:Nat}{dS:F}{l:List Bool}(g:y8 h ah b q9 dS (l.map λx=>[.bool x]))(am:l.length<=1000):∃E a',eH J q9 dS (.bw h.n 0 1 q9) (h.push [[.bool U]])=o (a',E)/\hX a'=o (l.length+1)/\(∀s,kE s (o q9) a'=J)/\a'.one=J/\a'.cells=[a']/\E.ids=h.ids/\E.hw=h.hw/\E.n=h.n+2/\E.cell (h.n+1)=o ((l++[U]).map λx=>[.bool x])/\a'= .bw (h.n+1) 0 (l.length+1) q9/\∀k,k<h.n->¬(ah k/\k≠b)->E.cell k=h.cell k:=by
 have dj:js (h.push [[.bool U]]) q9 (.bw h.n 0 1 q9)=o [[.bool U]]:=by simp[js,hb]
 rcases g with⟨I,rfl⟩|⟨q,I,R,aj,aH,rfl⟩
 ·have uH:l=[]:=by simpa using I
  subst uH;refine⟨(h.push [[.bool U]]).push [[.bool U]],.bw (h.n+1) 0 1 q9,?_,rfl,λs=>Ea,rfl,rfl,rfl,rfl,rfl,?_,rfl,λk ab _=>?_⟩
  ·simp[eH,dj,kA,F.one,eC]
  ·simp[ai.push]
  ·simp[ai.push,show k≠h.n by omega,show k≠h.n+1 by omega]
 ·have aX:q≠h.n:=by omega
  refine⟨((h.push [[.bool U]]).set q ag).push ((l.map λx=>[.bool x])++[[.bool U]]),.bw (h.n+1) 0 (l.length+1) q9,?_,rfl,λs=>Ea,rfl,rfl,rfl,rfl,rfl,?_,rfl,λk ab r0=>?_⟩
  ·have aw:(h.push [[.bool U]]).cell q=o (l.map λx=>[.bool x]):=by rw[uX aX];exact aH
   simp only[eH,dj,du,hj,tE,if_false,kA,fM];rw[if_pos ⟨by omega,by omega,rfl⟩,if_pos ⟨trivial,trivial,by omega⟩,aw];have ay:List.take l.length (l.map λx=>[F.bool x])=l.map λx=>[.bool x]:=List.take_of_length_le (by simp);simp[eC,ay]
  ·simp[ai.push,ai.set]
  ·have:k≠q:=λe=>r0 (by subst e;exact⟨I,R⟩);simp[ai.push,ai.set,show k≠h.n by omega,show k≠h.n+1 by omega,this]
theorem adB{E:ai}{aZ:F}(g:fm h ah al b G)(R:y7 h al kl aZ (G.nodes.map dv))(aw:E.ids=h.ids)(ay:E.hw=h.hw)(be:E.n=h.n+2)(b1:E.cell (h.n+1)=o ((G.shut++[U]).map λx=>[.bool x]))(c4:a'= .bw (h.n+1) 0 (G.shut.length+1) q9)(mn:∀k,k<h.n->¬(ah k/\k≠b)->E.cell k=h.cell k):gx h ah al b (E.set b (o [[aZ,a']])) ⟨G.nodes,G.shut++[U]⟩:=by
 have ie:=g.ad.2;refine⟨λk=>k=b\/k=h.n+1,al,⟨⟨.inl rfl,by rw[nY,be];omega⟩,⟨by rintro k (rfl|rfl)<;>(rw[nY,be];omega),λD ae=>by rw[Eb,aw];exact g.lt.2 D ae⟩,aZ,a',lc,?_,.inr ⟨h.n+1,.inr rfl,by omega,by rw[nY,be];omega,by rw[eN (by omega)];exact b1,?_⟩⟩,⟨by rw[nY,be];omega,by rw[Eb,aw];omega,λk ab dJ=>?_,λD ae g1=>by rw[wn,ay]⟩,?_,λ_=>.inl⟩
 ·rcases R with R|⟨id,aP,jI,a2,bl,cr⟩
  ·exact .inl R
  ·exact .inr ⟨id,aP,jI,by rw[Eb,aw];exact a2,by rw[wn,ay];exact bl,cr⟩
 ·rw[c4];simp
 ·have:k≠b:=λe=>dJ (by rw[e];exact g.ad.1);rw[eN this];exact mn k ab λx=>dJ x.1
 ·rintro k (rfl|rfl)
  ·exact .inl g.ad.1
  ·exact .inr (by omega)
theorem adC(g:fm h ah al b G)(ck:G.dg):∃E,aU aq aa 63 [.ptr b 0 0] h=o (.inl (.bS [.int j G.gate.2.1,.int j G.gate.2.2]),E)/\gx h ah al b E G.gate.1:=by
 obtain⟨aZ,dS,I,R,aj⟩:=g.ex;have ars:=ck.eU;cases bg:decide ((G.shut.length:Int)=20)
 ·have dw:¬G.shut.length=20:=by simp at bg;omega
  have dm:G.gate=(⟨G.nodes,G.shut++[U]⟩,(G.shut.length:Int),0):=by unfold aI.gate;rw[if_neg dw]
  obtain⟨E,a',aP,a2,bl,cr,ej,jB,u9,wz,Ch,RS,G3⟩:=adA h aj (by omega);have ie:b≠h.n:=by have:=g.ad.2;omega
  have RT:E.cell b=o [[aZ,dS]]:=(G3 b g.ad.2 (λx=>x.2 rfl)).trans I;have qr:kw j (((G.shut.length+1:Nat):Int) - 1)=(G.shut.length:Int):=by rw[ew]<;>omega
  refine⟨E.set b (o [[aZ,a']]),?_,by rw[dm];exact adB g R jB u9 wz Ch RS G3⟩;rw[dm];refine a4 abZ rfl ?_;unfold QV;simp only[ao,ar,av,ap,I,aj.len.1,aj.len.2,fM,bg,aP,RT,cr,ej,a2,bl,qr]
 ·have he:G.shut.length=20:=by simp at bg;omega
  have dm:G.gate=(G,0,11):=by unfold aI.gate;rw[if_pos he]
  refine⟨h,?_,by rw[dm];exact gx.same g⟩;rw[dm];refine a4 abZ rfl ?_;unfold QV;simp only[ao,ar,av,ap,I,aj.len.1,aj.len.2,fM,bg]
theorem adD(g:fm h ah al b G)(ck:G.dg):∃E,aU aq aa 68 [.ptr b 0 0] h=o (.inl (.bS [.int j G.gate.2.1,.int j G.gate.2.2]),E)/\gx h ah al b E G.gate.1:=by
 obtain⟨aZ,dS,I,R,aj⟩:=g.ex;have ars:=ck.eU;cases bg:decide (20<=(G.shut.length:Int))
 ·have dw:¬G.shut.length=20:=by simp at bg;omega
  have dm:G.gate=(⟨G.nodes,G.shut++[U]⟩,(G.shut.length:Int),0):=by unfold aI.gate;rw[if_neg dw]
  obtain⟨E,a',aP,a2,bl,cr,ej,jB,u9,wz,Ch,RS,G3⟩:=adA h aj (by omega);have ie:b≠h.n:=by have:=g.ad.2;omega
  have RT:E.cell b=o [[aZ,dS]]:=(G3 b g.ad.2 (λx=>x.2 rfl)).trans I;have qr:kw j (((G.shut.length+1:Nat):Int) - 1)=(G.shut.length:Int):=by rw[ew]<;>omega
  refine⟨E.set b (o [[aZ,a']]),?_,by rw[dm];exact adB g R jB u9 wz Ch RS G3⟩;rw[dm];refine a4 acQ rfl ?_;unfold Rm;simp only[ao,ar,av,ap,I,aj.len.1,aj.len.2,fM,bg,aP,RT,cr,ej,a2,bl,qr]
 ·have he:G.shut.length=20:=by simp at bg;omega
  have dm:G.gate=(G,0,11):=by unfold aI.gate;rw[if_pos he]
  refine⟨h,?_,by rw[dm];exact gx.same g⟩;rw[dm];refine a4 acQ rfl ?_;unfold Rm;simp only[ao,ar,av,ap,I,aj.len.1,aj.len.2,fM,bg]
theorem adE{aZ dS:F}(g:fm h ah al b G)(I:h.cell b=o [[aZ,dS]])(R:y7 h al kl aZ (G.nodes.map dv)){m q:Nat}(hm:m<G.shut.length)(aw:ah q)(ay:q≠b)(be:q<h.n)(b1:dS= .bw q 0 G.shut.length q9):gx h ah al b (h.set q (o ((G.shut.map λx=>[F.bool x]).set m [.bool J]))) ⟨G.nodes,G.shut.set m J⟩:=by
 refine⟨ah,al,⟨⟨g.ad.1,g.ad.2⟩,g.lt,aZ,dS,by rw[eN (mG ay)];exact I,?_,.inr ⟨q,aw,ay,be,by rw[lc,List.map_set],by rw[b1];simp⟩⟩,⟨b9 _,b9 _,λk ab dJ=>eN (λe=>dJ (by rw[e];exact aw)),λ_ _ _=>rfl⟩,λ_=>.inl,λ_=>.inl⟩;rcases R with R|⟨id,aP,jI,a2,bl,cr⟩
 ·exact .inl R
 ·exact .inr ⟨id,aP,jI,a2,bl,cr⟩
theorem adF(g:fm h ah al b G)(k:Int):∃E,aU aq aa 62 [.ptr b 0 0,.int j k] h=o (.inl (.int j (G.cut k).2),E)/\gx h ah al b E (G.cut k).1:=by
 obtain⟨aZ,dS,I,R,aj⟩:=g.ex;cases bA:G.lA k
 ·have dm:G.cut k=(G,8):=by unfold aI.cut;rw[if_neg (by simp[bA])]
  rw[dm];refine⟨h,?_,gx.same g⟩;refine a4 ab5 rfl ?_;unfold QY;simp only[ao,ar,av,ap,GX g,bA]
 ·obtain⟨m,rfl,hm⟩:=aI.Lh bA;have dm:G.cut (m:Int)=(⟨G.nodes,G.shut.set m J⟩,0):=by unfold aI.cut;rw[if_pos bA];simp
  obtain⟨q,aw,ay,be,b1,c4,mn,j3⟩:=Lg aj hm;rw[dm];refine⟨_,?_,adE g I R hm b1 c4 mn j3⟩;refine a4 ab5 rfl ?_;unfold QY;simp only[ao,ar,av,ap,GX g,bA,I,aw,ay,be]
theorem adG(g:fm h ah al b G)(k:Int):∃E,aU aq aa 67 [.ptr b 0 0,.int j k] h=o (.inl (.int j (G.cut k).2),E)/\gx h ah al b E (G.cut k).1:=by
 obtain⟨aZ,dS,I,R,aj⟩:=g.ex;cases bA:G.lA k
 ·have dm:G.cut k=(G,8):=by unfold aI.cut;rw[if_neg (by simp[bA])]
  rw[dm];refine⟨h,?_,gx.same g⟩;refine a4 acT rfl ?_;unfold Rn;simp only[ao,ar,av,ap,GY g,bA]
 ·obtain⟨m,rfl,hm⟩:=aI.Lh bA;have dm:G.cut (m:Int)=(⟨G.nodes,G.shut.set m J⟩,0):=by unfold aI.cut;rw[if_pos bA];simp
  obtain⟨q,aw,ay,be,b1,c4,mn,j3⟩:=Lg aj hm;rw[dm];refine⟨_,?_,adE g I R hm b1 c4 mn j3⟩;refine a4 acT rfl ?_;unfold Rn;simp only[ao,ar,av,ap,GY g,bA,I,aw,ay,be]
theorem adH(h:ai){al:Nat->Prop}{aZ:F}{rows:List (List F)}(g:y7 h al kl aZ rows){row:List F}(au:row.all F.one=J)(am:rows.length<=1000):∃E a',eH U kl aZ (.b5 (o h.ids) kl [row]) (h.fresh 1)=o (a',E)/\hX a'=o (rows.length+1)/\(∀s,kE s (o kl) a'=J)/\a'.one=J/\a'.cells=[a']/\E.cell=h.cell/\E.n=h.n/\h.ids<=E.ids/\(∃id,(al id\/h.ids<=id)/\id<E.ids/\E.hw id=rows.length+1/\a'= .b5 (o id) kl (rows++[row])/\∀D,D<h.ids->¬al D->E.hw D=h.hw D):=by
 have hR:[row].all (·.all F.one)=J:=by simpa using au
 rcases g with⟨rfl,rfl⟩|⟨id,aP,jI,a2,bl,rfl⟩
 ·refine⟨(h.fresh 1).fresh 1,.b5 (o (h.ids+1)) kl [row],?_,rfl,λs=>D',rfl,rfl,rfl,rfl,by simp[ai.fresh];omega,h.ids+1,.inr (by omega),by simp[ai.fresh],by simp[ai.fresh],by simp,λD ae _=>by simp[ai.fresh,show D≠h.ids by omega,show D≠h.ids+1 by omega]⟩;simp only[eH,js,if_true,du,hj,tE,if_false,kA];rw[if_pos ⟨by omega,by omega,hR⟩];rfl
 ·have dw:id≠h.ids:=by omega
  refine⟨(h.fresh 1).grow id (rows.length+1),.b5 (o id) kl (rows++[row]),?_,by simp[hX],λs=>D',rfl,rfl,rfl,rfl,by simp[ai.fresh,ai.grow],id,.inl aP,by simp[ai.fresh,ai.grow];omega,by simp[ai.grow],rfl,λD ae g1=>?_⟩
  ·simp only[eH,js,if_true,du,hj,tE,if_false,kA];rw[if_pos ⟨by omega,by omega,hR⟩,Gw dw,bl,if_pos ⟨trivial,rfl,by omega⟩]
  ·have I:D≠id:=λe=>g1 (by rw[e];exact aP);simp[ai.grow,ai.fresh,I,show D≠h.ids by omega]
theorem adI{E:ai}{dS:F}{n:bi}(g:fm h ah al b G)(aj:y8 h ah b q9 dS (G.shut.map λx=>[.bool x]))(aw:E.cell=h.cell)(ay:E.n=h.n)(dj:h.ids<=E.ids)(be:∃id,(al id\/h.ids<=id)/\id<E.ids/\E.hw id=G.nodes.length+1/\a'= .b5 (o id) kl (G.nodes.map dv++[dv n])/\∀D,D<h.ids->¬al D->E.hw D=h.hw D):gx h ah al b (E.set b (o [[a',dS]])) ⟨G.nodes++[n],G.shut⟩:=by
 obtain⟨id,aP,a2,bl,cr,ej⟩:=be;refine⟨ah,λD=>D=id,⟨⟨g.ad.1,by rw[nY,ay];exact g.ad.2⟩,⟨λk ab=>by rw[nY,ay];exact g.lt.1 k ab,λD ae=>by rw[ae];exact a2⟩,a',dS,lc,.inr ⟨id,rfl,by simp,a2,by rw[wn,bl];simp,by rw[cr];simp⟩,?_⟩,⟨by rw[nY,ay];exact b9 _,by rw[Eb];exact dj,λk ab dJ=>?_,λD ae g1=>by rw[wn];exact ej D ae g1⟩,λ_=>.inl,λD ae=>by rw[ae];exact aP⟩
 ·rcases aj with aj|⟨q,cg,c0,fq,l5,iV⟩
  ·exact .inl aj
  ·exact .inr ⟨q,cg,c0,by rw[nY,ay];exact fq,by rw[eN c0,aw];exact l5,iV⟩
 ·rw[eN (λe=>dJ (by rw[e];exact g.ad.1)),aw]
theorem RU(g:fm h ah al b G)(ck:G.dg)(n:bi):∃E,aU aq aa 97 [.ptr b 0 0,.agg (dv n)] h=o (.inl (.bS [.int j (G.add n).2.1,.int j (G.add n).2.2]),E)/\gx h ah al b E (G.add n).1:=by
 have qq:=aG.push h [dv n];have cS:=g.h1 qq;have ie:h.n≠b:=by have:=g.ad.2;omega
 obtain⟨aZ,dS,I,R,aj⟩:=cS.ex;have Cd:=ck.oA;have mQ:=GX cS;unfold aI.add
 skip
 cases an:qm n.c5
 ·rw[if_pos rfl];refine⟨h.push [dv n],?_,gx.h1 g qq⟩;refine a4 En rfl ?_;unfold B4;simp only[ao,ar,av,ap,l9,Ey,an]
 ·rw[if_neg (by simp)];have stop:(n.gate≠ -1/\G.lA n.gate=U)\/(n.gate= -1\/G.lA n.gate=J):=by
   by_cases e:n.gate= -1
   ·exact .inr (.inl e)
   ·cases bA:G.lA n.gate
    ·exact .inl ⟨e,rfl⟩
    ·exact .inr (.inr rfl)
  rcases stop with aC|aC
  ·rw[if_pos aC];refine⟨h.push [dv n],?_,gx.h1 g qq⟩;obtain⟨bd,aY⟩:=aC;refine a4 En rfl ?_;unfold B4;simp only[ao,ar,av,ap,l9,Ey,an,mQ,bd,aY]
  ·have yQ:¬(n.gate≠ -1/\G.lA n.gate=U):=by
    rintro⟨a,b⟩;rcases aC with aC|aC
    ·exact a aC
    ·rw[b]at aC;cases aC
   rw[if_neg yQ];have jy:decide (n.gate= -1)=J\/decide (n.gate= -1)=U/\G.lA n.gate=J:=by
    rcases aC with aC|aC
    ·exact .inl (by simp[aC])
    ·by_cases e:n.gate= -1
     ·exact .inl (by simp[e])
     ·exact .inr ⟨by simp[e],aC⟩
   cases bg:decide ((G.nodes.length:Int)=80)
   ·have dw:¬G.nodes.length=80:=by simp at bg;omega
    rw[if_neg dw];obtain⟨E,a',aP,a2,bl,cr,ej,jB,u9,wz,Ch⟩:=adH (h.push [dv n]) R (row:=dv n) rfl (by simp;omega);have qr:kw j (((G.nodes.length+1:Nat):Int) - 1)=(G.nodes.length:Int):=by rw[ew]<;>omega
    refine⟨E.set b (o [[a',dS]]),?_,gx.after qq (adI cS aj jB u9 wz (by simpa using Ch))⟩;simp only[v',fM]at aP a2;rcases jy with jy|⟨jy,r1⟩
    ·refine a4 En rfl ?_;unfold B4;simp only[ao,ar,av,ap,bY,l9,Ey,an,jy,bg,I,R.dH.len,R.dH.fits,fM,aP,a2,bl,cr,ej,jB,qr]
    ·refine a4 En rfl ?_;unfold B4;simp only[ao,ar,av,ap,bY,l9,Ey,an,mQ,jy,r1,bg,I,R.dH.len,R.dH.fits,fM,aP,a2,bl,cr,ej,jB,qr]
   ·have he:G.nodes.length=80:=by simp at bg;omega
    rw[if_pos he];refine⟨h.push [dv n],?_,gx.h1 g qq⟩;rcases jy with jy|⟨jy,r1⟩
    ·refine a4 En rfl ?_;unfold B4;simp only[ao,ar,av,ap,l9,Ey,an,jy,bg,I,R.dH.len,R.dH.fits,fM]
    ·refine a4 En rfl ?_;unfold B4;simp only[ao,ar,av,ap,l9,Ey,an,mQ,jy,r1,bg,I,R.dH.len,R.dH.fits,fM]
theorem RV(g:fm h ah al b G)(ck:G.dg)(n:bi):∃E,aU aq aa 99 [.ptr b 0 0,.agg (dv n)] h=o (.inl (.bS [.int j (G.add n).2.1,.int j (G.add n).2.2]),E)/\gx h ah al b E (G.add n).1:=by
 have qq:=aG.push h [dv n];have cS:=g.h1 qq;have ie:h.n≠b:=by have:=g.ad.2;omega
 obtain⟨aZ,dS,I,R,aj⟩:=cS.ex;have Cd:=ck.oA;have mQ:=GY cS;unfold aI.add
 skip
 cases an:qm n.c5
 ·rw[if_pos rfl];refine⟨h.push [dv n],?_,gx.h1 g qq⟩;refine a4 Er rfl ?_;unfold B9;have kY:decide (n.c5<0)=J\/decide (n.c5<0)=U/\decide (15<n.c5)=J:=by simp[qm]at an;simp only[decide_eq_true_eq,decide_eq_false_iff_not];omega
  rcases kY with kY|⟨kY,ja⟩
  ·simp only[ao,ar,av,ap,l9,kY]
  ·simp only[ao,ar,av,ap,l9,kY,ja]
 ·rw[if_neg (by simp)];have mH:decide (n.c5<0)=U:=by simp[qm]at an;simp;omega
  have yU:decide (15<n.c5)=U:=by simp[qm]at an;simp;omega
  have stop:(n.gate≠ -1/\G.lA n.gate=U)\/(n.gate= -1\/G.lA n.gate=J):=by
   by_cases e:n.gate= -1
   ·exact .inr (.inl e)
   ·cases bA:G.lA n.gate
    ·exact .inl ⟨e,rfl⟩
    ·exact .inr (.inr rfl)
  rcases stop with aC|aC
  ·rw[if_pos aC];refine⟨h.push [dv n],?_,gx.h1 g qq⟩;obtain⟨bd,aY⟩:=aC;refine a4 Er rfl ?_;unfold B9;simp only[ao,ar,av,ap,l9,mH,yU,mQ,bd,aY]
  ·have yQ:¬(n.gate≠ -1/\G.lA n.gate=U):=by
    rintro⟨a,b⟩;rcases aC with aC|aC
    ·exact a aC
    ·rw[b]at aC;cases aC
   rw[if_neg yQ];have jy:decide (n.gate= -1)=J\/decide (n.gate= -1)=U/\G.lA n.gate=J:=by
    rcases aC with aC|aC
    ·exact .inl (by simp[aC])
    ·by_cases e:n.gate= -1
     ·exact .inl (by simp[e])
     ·exact .inr ⟨by simp[e],aC⟩
   cases bg:decide (80<=(G.nodes.length:Int))
   ·have dw:¬G.nodes.length=80:=by simp at bg;omega
    rw[if_neg dw];obtain⟨E,a',aP,a2,bl,cr,ej,jB,u9,wz,Ch⟩:=adH (h.push [dv n]) R (row:=dv n) rfl (by simp;omega);have qr:kw j (((G.nodes.length+1:Nat):Int) - 1)=(G.nodes.length:Int):=by rw[ew]<;>omega
    refine⟨E.set b (o [[a',dS]]),?_,gx.after qq (adI cS aj jB u9 wz (by simpa using Ch))⟩;simp only[v',fM]at aP a2;rcases jy with jy|⟨jy,r1⟩
    ·refine a4 Er rfl ?_;unfold B9;simp only[ao,ar,av,ap,bY,l9,mH,yU,jy,bg,I,R.dH.len,R.dH.fits,fM,aP,a2,bl,cr,ej,jB,qr]
    ·refine a4 Er rfl ?_;unfold B9;simp only[ao,ar,av,ap,bY,l9,mH,yU,mQ,jy,r1,bg,I,R.dH.len,R.dH.fits,fM,aP,a2,bl,cr,ej,jB,qr]
   ·have he:G.nodes.length=80:=by simp at bg;omega
    rw[if_pos he];refine⟨h.push [dv n],?_,gx.h1 g qq⟩;rcases jy with jy|⟨jy,r1⟩
    ·refine a4 Er rfl ?_;unfold B9;simp only[ao,ar,av,ap,l9,mH,yU,jy,bg,I,R.dH.len,R.dH.fits,fM]
    ·refine a4 Er rfl ?_;unfold B9;simp only[ao,ar,av,ap,l9,mH,yU,mQ,jy,r1,bg,I,R.dH.len,R.dH.fits,fM]
end
section
variable{h E ak:ai}{ah al aO aL:Nat->Prop}{X Y dd:cc}{L:List cc}
theorem gJ.same(x:X.A h ah al):gJ h ah al h X:=⟨ah,al,x,mO.refl _ _ _,λ_=>.inl,λ_=>.inl⟩
theorem gJ.imp(wA:∀h ah al,X.A h ah al->Y.A h ah al)(d:gJ h ah al E X):gJ h ah al E Y:=by obtain⟨mj,ml,x,r⟩:=d;exact⟨mj,ml,wA _ _ _ x,r⟩
theorem gJ.chain(hv:mO aO aL ak h)(a:∀k,ah k->aO k\/ak.n<=k)(b:∀D,al D->aL D\/ak.ids<=D)(d:gJ h ah al E Y):gJ ak aO aL E Y:=by
 obtain⟨dZ,eh,y,bD,a2,c0⟩:=d;refine⟨dZ,eh,y,hv.then bD a b,λk ab=>?_,λD ae=>?_⟩
 ·rcases a2 k ab with h|h
  ·exact a k h
  ·exact .inr (e6 hv.n h)
 ·rcases c0 D ae with h|h
  ·exact b D h
  ·exact .inr (e6 hv.ids h)
theorem adJ(x:(ij X dd).A h ah al)(c:∀eJ eK,X.A h eJ eK->∃E,cJ E/\gJ h eJ eK E Y):∃E,cJ E/\gJ h ah al E (ij Y dd):=by
 obtain⟨eJ,eK,dZ,eh,cb,z,dJ,g1,q',ra⟩:=x;obtain⟨E,r,pe,pf,y,cl,bl,fq⟩:=c eJ eK cb;have mK:=dd.lt z;refine⟨E,r,λk=>pe k\/dZ k,λD=>pf D\/eh D,⟨pe,pf,dZ,eh,y,dd.g9 z cl (λk ab I=>q' k I ab) (λD ae I=>ra D I ae),λ_=>n0,λ_=>n0,λk aj R=>?_,λD aj R=>?_⟩,?_,λk ab=>?_,λD ae=>?_⟩
 ·rcases bl k aj with h|h
  ·exact q' k h R
  ·have:=mK.1 k R;omega
 ·rcases fq D aj with h|h
  ·exact ra D h R
  ·have:=mK.2 D R;omega
 ·exact⟨cl.n,cl.ids,λk ab aA=>cl.cell k ab λI=>aA ((dJ k).2 (.inl I)),λD ae aA=>cl.hw D ae λI=>aA ((g1 D).2 (.inl I))⟩
 ·rcases ab with h|h
  ·exact(bl k h).imp (λh=>(dJ k).2 (.inl h)) id
  ·exact .inl ((dJ k).2 (.inr h))
 ·rcases ae with h|h
  ·exact(fq D h).imp (λh=>(g1 D).2 (.inl h)) id
  ·exact .inl ((g1 D).2 (.inr h))
theorem G4(x:(ij X Y).A h ah al):(ij Y X).A h ah al:=by obtain⟨eJ,eK,dZ,eh,cb,z,dJ,g1,q',ra⟩:=x;exact⟨dZ,eh,eJ,eK,z,cb,λk=>(dJ k).trans or_comm,λD=>(g1 D).trans or_comm,λk R I=>q' k I R,λD R I=>ra D I R⟩
theorem G5(x:(ij (ij X Y) dd).A h ah al):(ij X (ij Y dd)).A h ah al:=by
 obtain⟨eJ,eK,dZ,eh,⟨pe,pf,sP,sQ,gH,ot,RW,RX,art,aru⟩,z,dJ,g1,q',ra⟩:=x;refine⟨pe,pf,λk=>sP k\/dZ k,λD=>sQ D\/eh D,gH,⟨sP,sQ,dZ,eh,ot,z,λ_=>n0,λ_=>n0,λk aH=>q' k ((RW k).2 (.inr aH)),λD aH=>ra D ((RX D).2 (.inr aH))⟩,λk=>?_,λD=>?_,λk aj h=>?_,λD aj h=>?_⟩
 ·rw[dJ k,RW k,or_assoc]
 ·rw[g1 D,RX D,or_assoc]
 ·rcases h with h|h
  ·exact art k aj h
  ·exact q' k ((RW k).2 (.inl aj)) h
 ·rcases h with h|h
  ·exact aru D aj h
  ·exact ra D ((RX D).2 (.inl aj)) h
theorem xI(x:(ij X (ij Y dd)).A h ah al):(ij Y (ij X dd)).A h ah al:=by have a:=G5 (G4 x);obtain⟨eJ,eK,dZ,eh,y,arv,r⟩:=a;exact⟨eJ,eK,dZ,eh,y,G4 arv,r⟩
theorem r2{rH xj:cc}(aF:∀h ah al,X.A h ah al->rH.A h ah al)(bH:∀h ah al,Y.A h ah al->xj.A h ah al)(x:(ij X Y).A h ah al):(ij rH xj).A h ah al:=by obtain⟨eJ,eK,dZ,eh,cb,fU,r⟩:=x;exact⟨eJ,eK,dZ,eh,aF _ _ _ cb,bH _ _ _ fU,r⟩
def aN(ak:ai)(aO aL:Nat->Prop)(h:ai)(L:List cc):Prop:=gJ ak aO aL h (cm L)
theorem aN.perm{q0:List cc}(az:List.Perm L q0):∀{h ah al},(cm L).A h ah al->(cm q0).A h ah al:=by
 induction az with
 |nil=>exact λx=>x
 |cons X _ aR=>exact λx=>r2 (λ_ _ _ y=>y) (λ_ _ _ y=>aR y) x
 |swap X Y l=>exact λx=>xI x
 |trans _ _ z8 sr=>exact λx=>sr (z8 x)
theorem cm.front:∀{L:List cc} {i:Nat} {X:cc},L[i]? =o X->∀{h ah al},(cm L).A h ah al↔(ij X (cm (L.eraseIdx i))).A h ah al
 |[],i,X,af,_,_,_=>by simp at af
 |Y::L,0,X,af,h,ah,al=>by
   obtain rfl:Y=X:=by simpa using af
   exact n0
 |Y::L,i+1,X,af,h,ah,al=>by
   have aR:∀{h:ai} {ah al:Nat->Prop},(cm L).A h ah al↔(ij X (cm (L.eraseIdx i))).A h ah al:=cm.front (by simpa using af);constructor
   ·intro x;exact xI (r2 (λ_ _ _ y=>y) (λ_ _ _ y=>aR.1 y) x)
   ·intro x;exact r2 (λ_ _ _ y=>y) (λ_ _ _ y=>aR.2 y) (xI x)
theorem cm.back{i:Nat}(af:i<L.length)(x:(ij X (cm (L.eraseIdx i))).A h ah al):(cm (L.set i X)).A h ah al:=by rw[cm.front (L:=L.set i X) (i:=i) (X:=X) (by simp[af])];rw[show(L.set i X).eraseIdx i=L.eraseIdx i from List.eraseIdx_set_eq];exact x
theorem aN.call(s:aN ak aO aL h L)(i:Nat)(af:L[i]? =o X)(c:∀ah al,X.A h ah al->∃E,cJ E/\gJ h ah al E Y):∃E,cJ E/\aN ak aO aL E (L.set i Y):=by have am:i<L.length:=(fO.1 af).1;obtain⟨ah,al,x,hv,a,b⟩:=s;obtain⟨E,r,d⟩:=adJ ((cm.front af).1 x) c;exact⟨E,r,gJ.chain hv a b (d.imp λ_ _ _ y=>cm.back am y)⟩
theorem aN.start(x:(cm L).A h ah al):aN h ah al h L:=gJ.same x
theorem aN.get(s:aN ak aO aL h L)(i:Nat)(af:L[i]? =o X):∃ah al,X.A h ah al:=by obtain⟨ah,al,x,_⟩:=s;obtain⟨eJ,eK,_,_,cb,_⟩:=(cm.front af).1 x;exact⟨eJ,eK,cb⟩
theorem aN.cell(s:aN ak aO aL h L)(i:Nat){b:Nat}{es:List (List F)}(af:L[i]? =o (a1 b es)):h.cell b=o es/\b<h.n:=by obtain⟨_,_,_,_,c,d⟩:=s.get i af;exact⟨d,c⟩
theorem aN.imp{q0:List cc}(s:aN ak aO aL h L)(aF:∀h ah al,(cm L).A h ah al->(cm q0).A h ah al):aN ak aO aL h q0:=gJ.imp aF s
theorem aN.h1(s:aN ak aO aL h L)(g:aG h E):aN ak aO aL E L:=by obtain⟨ah,al,x,hv,a,b⟩:=s;have lt:=(cm L).lt x;exact⟨ah,al,(cm L).g9 x (g.wi (λ_=>False) λ_=>False) (λ_ _ h=>h) (λ_ _ h=>h),hv.trans (g.wi _ _),a,b⟩
theorem aN.add(s:aN ak aO aL h L)(g:aG h E){eJ eK:Nat->Prop}(cb:X.A E eJ eK)(dJ:∀k,eJ k->h.n<=k)(g1:∀D,eK D->h.ids<=D):aN ak aO aL E (X::L):=by
 obtain⟨ah,al,x,hv,a,b⟩:=s;have lt:=(cm L).lt x;have kP:=(cm L).g9 x (g.wi (λ_=>False) λ_=>False) (λ_ _ h=>h) (λ_ _ h=>h);refine⟨λk=>eJ k\/ah k,λD=>eK D\/al D,⟨eJ,eK,ah,al,cb,kP,λ_=>n0,λ_=>n0,λk I R=>?_,λD I R=>?_⟩,hv.trans (g.wi _ _),λk ab=>?_,λD ae=>?_⟩
 ·have:=lt.1 k R;have:=dJ k I;omega
 ·have:=lt.2 D R;have:=g1 D I;omega
 ·exact ab.elim (λh=>.inr (e6 hv.n (dJ k h))) (a k)
 ·exact ae.elim (λh=>.inr (e6 hv.ids (g1 D h))) (b D)
theorem aN.push(s:aN ak aO aL h L)(es:List (List F)):aN ak aO aL (h.push es) (a1 h.n es::L):=s.add (aG.push h es) (eJ:=λk=>k=h.n) (eK:=λ_=>False) ⟨λ_=>n0,λ_ h=>h,sR _,hb⟩ (λk ab=>qU ab.symm) (λ_ h=>h.elim)
theorem aN.fresh(s:aN ak aO aL h L)(m:Nat):aN ak aO aL (h.fresh m) (GC h.ids m::L):=s.add (aG.fresh h m) (eJ:=λ_=>False) (eK:=λD=>D=h.ids) ⟨λ_ h=>h,λ_=>n0,sR _,by simp[ai.fresh]⟩ (λ_ h=>h.elim) (λD ae=>qU ae.symm)
theorem aN.set(s:aN ak aO aL h L)(i:Nat){b:Nat}{es:List (List F)}(af:L[i]? =o (a1 b es))(dN:List (List F)):aN ak aO aL (h.set b (o dN)) (L.set i (a1 b dN)):=by obtain⟨E,rfl,d⟩:=s.call (cJ:=λq=>q=h.set b (o dN)) i af (Y:=a1 b dN) λah al ⟨aP,a2,bl,cr⟩=>⟨_,rfl,ah,al,⟨aP,a2,bl,lc⟩,⟨b9 _,b9 _,λk _ ab=>eN λe=>ab ((aP k).2 e),λ_ _ _=>rfl⟩,λ_=>.inl,λ_=>.inl⟩;exact d
theorem aN.del(s:aN ak aO aL h L)(i:Nat){b:Nat}(af:L[i]? =o (a1 b es)):aN ak aO aL (h.set b ag) (L.set i (xy True)):=by obtain⟨E,rfl,d⟩:=s.call (cJ:=λq=>q=h.set b ag) i af (Y:=xy True) λah al ⟨aP,a2,bl,cr⟩=>⟨_,rfl,λ_=>False,λ_=>False,⟨trivial,λ_ h=>h,λ_ h=>h⟩,⟨b9 _,b9 _,λk _ ab=>eN λe=>ab ((aP k).2 e),λ_ _ _=>rfl⟩,λ_ h=>h.elim,λ_ h=>h.elim⟩;exact d
theorem aN.drop(s:aN ak aO aL h (X::L)):aN ak aO aL h L:=by obtain⟨ah,al,⟨eJ,eK,dZ,eh,_,dF,dJ,g1,_,_⟩,hv,a,b⟩:=s;exact⟨dZ,eh,dF,hv,λk ab=>a k ((dJ k).2 (.inr ab)),λD ae=>b D ((g1 D).2 (.inr ae))⟩
end
open Go Go.ChangeShapes Go.WideShapes Go.ChangeAt Go.RowKit Go.Deep
def n1(P:c'):Nat->a9->List F->Prop
 |0,_,_=>False
 |n+1,t,cs=>match P.underlying t with
   |some .bool=>∃b,cs=[.bool b]
   |some (.int k)=>∃z,cs=[.int k z]/\(Lit.int k z).wf=J
   |some .string=>∃s,cs=[.str s]/\s.length<=maxLen
   |some (.slice e)=>cs=[.aJ]\/∃es,cs=[.b5 ag e es]/\es.length<=maxLen/\∀r∈es,r.length=P.cellsOf e/\n1 P n e r
   |some (.struct dN)=>∃parts:List (List F),cs=parts.flatten/\parts.length=dN.size/\∀(i:Nat) (f:Field),dN[i]? =o f->∃p,parts[i]? =o p/\p.length=P.cellsOf f.type/\n1 P n f.type p
   |_=>False
def AI(P:c'):Nat->List Field->Nat->Bool
 |O,[],m=>O==m
 |O,f::r,m=>f.offset==O&&AI P (O+P.cellsOf f.type) r m
def RY(P:c')(S:List a9):Bool:=S.all λt=>match P.underlying t with
 |some .bool|some (.int _)|some .string=>J
 |some (.slice e)=>S.contains e&&P.cellsOf e != 0
 |some (.struct dN)=>AI P 0 dN.toList (P.cellsOf t)&&dN.toList.all λf=>S.contains f.type
 |_=>U
theorem adK{P:c'}:∀{l:List Field} {O m:Nat},AI P O l m=J->O<=m
 |[],O,m,h=>by simp[AI]at h;omega
 |f::r,O,m,h=>by simp only[AI,gv]at h;have:=adK h.2;omega
section
variable{H:Type}{enc:a9×b'->H}{P:c'}{W:dO}{S:List a9}
theorem adL{n:Nat}(aR:∀t cs x,t∈S->DataW.trod enc P W 0 (λ_=>J) J n t cs=o x->∃u7,n1 P n t u7/\eb P (wy W) rZ u7 cs):∀(xJ:List Field) (O m:Nat) (cs:List b'),AI P O xJ m=J->cs.length=m->(∀f∈xJ,f.type∈S/\∃x,DataW.trod enc P W 0 (λ_=>J) J n f.type ((cs.drop f.offset).take (P.cellsOf f.type))=o x)->∃parts:List (List F),parts.length=xJ.length/\(∀(i:Nat) (f:Field),xJ[i]? =o f->∃p,parts[i]? =o p/\p.length=P.cellsOf f.type/\n1 P n f.type p)/\eb P (wy W) rZ parts.flatten (cs.drop O)
 |[],O,m,cs,h,an,bo=>by simp only[AI,beq_iff_eq]at h;refine⟨[],rfl,λi f af=>by simp at af,?_⟩;rw[List.drop_eq_nil_of_le (by omega)];exact eb.nil
 |f::xJ,O,m,cs,h,an,bo=>by
   simp only[AI,gv,beq_iff_eq]at h;obtain⟨I,R⟩:=h;have hle:=adK R;obtain⟨aC,x,aF⟩:=bo f (by simp);obtain⟨p,ox,Ez⟩:=aR _ _ _ aC aF;obtain⟨parts,bR,bQ,da⟩:=adL aR xJ (O+P.cellsOf f.type) m cs R an (λg a5=>bo g (by simp[a5]));rw[I]at Ez;have am:p.length=P.cellsOf f.type:=by have:=Ez.1;rw[pv,List.length_drop]at this;omega
   refine⟨p::parts,by simp[bR],?_,?_⟩
   ·intro i g af;cases i with
    |zero=>
      obtain rfl:f=g:=by simpa using af
      exact⟨p,rfl,am,ox⟩
    |succ i=>exact bQ i g (by simpa using af)
   ·have e:cs.drop O=(cs.drop O).take (P.cellsOf f.type)++cs.drop (O+P.cellsOf f.type):=by rw[<-List.drop_drop,List.take_append_drop]
    rw[e,List.flatten_cons];exact eb.append Ez da
theorem RZ(cw:RY P S=J):∀(fuel:Nat) (t:a9) (cs:List b') (x:DataW H×List MemPlace),t∈S->DataW.trod enc P W 0 (λ_=>J) J fuel t cs=o x->∃u7,n1 P fuel t u7/\eb P (wy W) rZ u7 cs
 |0,t,cs,x,_,h=>by simp[DataW.trod]at h
 |n+1,t,cs,x,a6,h=>by
   have adM:=cw;have an:=jW.1 cw t a6;simp only[n1];split at an
   ·rename_i bV;obtain⟨b,rfl, -⟩:=DataW.trod_bool bV h;exact⟨_,⟨b,rfl⟩,eb.cons (.bool b) eb.nil⟩
   ·rename_i k bV;obtain⟨z,rfl, -,hw⟩:=DataW.trod_int bV h;exact⟨_,⟨z,rfl,hw⟩,eb.cons (.int k z) eb.nil⟩
   ·rename_i bV;obtain⟨s,rfl, -,hw⟩:=DataW.trod_string bV h;exact⟨_,⟨s.data.toList,rfl,by simpa using hw⟩,eb.cons (are s) eb.nil⟩
   ·rename_i e bV;simp only[gv,bne_iff_ne,ne_eq,List.contains_iff_mem]at an;rcases DataW.trod_slice bV h with⟨rfl, -⟩|⟨a,len,cap,elems,rest,cj,aA,rfl, -,ad,am,hm,hlen,wB, -, -⟩
    ·exact⟨_,Or.inl rfl,eb.cons .aJ eb.nil⟩
    ·obtain rfl:n=cj:=by omega
     have key:∀i,i<len->∃q:List F×List b',W.cells? 0 (a.add (i*P.cellsOf e)) (P.cellsOf e)=o q.2/\n1 P n e q.1/\eb P (wy W) rZ q.1 q.2:=by intro i af;have I:=wB i af;rw[fT (by omega)]at I;obtain⟨hB,R,aj⟩:=dX.1 I;obtain⟨u7,aH,bq⟩:=RZ adM n e hB _ an.1 aj;exact⟨(u7,hB),R,aH,bq⟩
     obtain⟨V,u6⟩:=choose_lt key;have Lp:∀i,i<len->(V i).1.length=P.cellsOf e/\(V i).2.length=P.cellsOf e:=λi af=>by obtain⟨I,R,aj⟩:=u6 i af;have:=(World.cells?_some I).2.1;exact⟨by rw[<-this,aj.1],this⟩
     refine⟨_,Or.inr ⟨(jG len).map λi=>(V i).1,rfl,by simp;omega,?_⟩,eb.cons ?_ eb.nil⟩
     ·intro r au;obtain⟨i,af,rfl⟩:=nt.1 au;have af:=kD.1 af;exact⟨(Lp i af).1,(u6 i af).2.1⟩
     ·by_cases aB:len=0
      ·subst aB;exact .oY e a cap
      ·have aV:a=⟨a.block,a.off,ag⟩:=by obtain⟨I,R,aj⟩:=u6 0 (by omega);have:=(World.cells?_some I).2.2 0 (by omega);rw[fT (by rw[(Lp 0 (by omega)).2];omega)]at this;have adN:=World.cell?_spot this;obtain⟨b,O,JJ⟩:=a;simp[Addr.add]at adN;subst adN;rfl
       have:=b8.b5 (P:=P) (m:=wy W) (h:=rZ) ag e ((jG len).map λi=>(V i).1) a.block a.off cap (λi D=>(V i).2.getD D default) (λr au=>?_) (λi af D ae=>?_) (λi af D ae=>?_) (by simpa using am) (λq aX=>by cases aX)
       ·rw[<-aV]at this;simpa using this
       ·obtain⟨i,af,rfl⟩:=nt.1 au;exact(Lp i (kD.1 af)).1
       ·simp only[fM,List.length_range]at af;obtain⟨I,R,aj⟩:=u6 i af;have aH:=(World.cells?_some I).2.2 D ae;rw[Go.Deep.add_add,aV,rA]at aH;have bq:D<(V i).2.length:=by rw[(Lp i af).2];exact ae
        rw[fT bq]at aH;show W.cell? _=_;rw[aH];simp[cZ,bq]
       ·simp only[fM,List.length_range]at af;obtain⟨I,R,aj⟩:=u6 i af;simp only[List.getElem_map,List.getElem_range]at ae ⊢;have bq:D<(V i).2.length:=by rw[aj.1];exact ae
        have:=aj.2 D ae bq;simpa[cZ,bq]using this
   ·rename_i dN bV;simp only[gv,jW,List.contains_iff_mem]at an;obtain⟨xs,cj,aA, -,am,om,bo⟩:=DataW.trod_struct bV h;obtain rfl:n=cj:=by omega
    obtain⟨parts,bR,bQ,da⟩:=adL (S:=S) (n:=n) (λt cs x a6 h=>RZ adM n t cs x a6 h) dN.toList 0 (P.cellsOf t) cs an.1 am (λf hm=>⟨an.2 f hm,by
     obtain⟨i,af⟩:=List.mem_iff_getElem?.1 hm;rw[sv]at af;have I:=bo i f af;have R:=(Array.getElem?_eq_some_iff.1 af).1;rw[fT (by omega)]at I;exact⟨_,I⟩⟩)
    exact⟨_,⟨parts,rfl,by simpa using bR,λi f af=>bQ i f (by rw[sv];exact af)⟩,by simpa using da⟩
   ·cases an
theorem arw{t e:a9}(cw:RY P S=J)(hm:t∈S)(bV:P.underlying t=o (.slice e)){v:b'}{d:DataW H}{p:List MemPlace}{r:Reach}{iy:Nat}(qX:Value.okWide P W r iy t v)(h:DataW.Trod enc P W 0 (λ_=>J) J t v d p):∃n AJ,n1 P n t [AJ]/\b8 P (wy W) rZ AJ v:=by
 obtain⟨a,len,cap,rfl⟩:=okWide_slice bV qX;obtain⟨fuel,bo⟩:=h;obtain⟨u7,I,R⟩:=RZ cw fuel t _ _ hm bo;have am:=R.1
 match u7,am with
 |[AJ],_=>exact⟨fuel,AJ,I,R.2 0 (by simp) (by simp[Value.cells])⟩
end
section
variable{P:c'}{t e:a9}{cs:List F}
theorem wC{n:Nat}{k:gZ}(bV:P.underlying t=o (.int k))(h:n1 P n t cs):∃z,cs=[.int k z]/\(Lit.int k z).wf=J:=by
 cases n with
 |zero=>exact h.elim
 |succ n=>simpa only[n1,bV]using h
def R0(e:a9)(v:F)(es:List (List F)):Prop:=(es=[]/\v= .aJ)\/v= .b5 ag e es
theorem R1{n:Nat}(bV:P.underlying t=o (.slice e))(h:n1 P n t cs):∃m v es,n=m+1/\cs=[v]/\R0 e v es/\es.length<=maxLen/\∀r∈es,r.length=P.cellsOf e/\n1 P m e r:=by
 cases n with
 |zero=>exact h.elim
 |succ n=>
   simp only[n1,bV]at h;rcases h with rfl|⟨es,rfl,I,R⟩
   ·exact⟨n,.aJ,[],rfl,rfl,.inl ⟨rfl,rfl⟩,by simp,λr au=>by simp at au⟩
   ·exact⟨n,_,es,rfl,rfl,.inr rfl,I,R⟩
def G6(P:c')(t:a9):Option (List a9):=match P.underlying t with
 |some (.struct dN)=>o (dN.toList.map (·.type))
 |_=>ag
theorem R2{n:Nat}{cK:List a9}(bV:G6 P t=o cK)(h:n1 P n t cs):∃m,n=m+1/\∃parts:List (List F),cs=parts.flatten/\parts.length=cK.length/\∀(i:Nat) (dQ:a9),cK[i]? =o dQ->∃p,parts[i]? =o p/\p.length=P.cellsOf dQ/\n1 P m dQ p:=by
 cases n with
 |zero=>exact h.elim
 |succ n=>
   unfold G6 at bV;simp only[n1]at h;split at bV
   ·rename_i dN bo;cases bV;rw[bo]at h;obtain⟨parts,I,R,aj⟩:=h;refine⟨n,rfl,parts,I,by simpa using R,λi dQ af=>?_⟩;rw[xl]at af;obtain⟨f,aH,bq⟩:=ed.1 af;subst bq;exact aj i f (by rw[<-sv];exact aH)
   ·cases bV
theorem arx{α:Type}{l:List α}(h:l.length=1):∃a,l=[a]:=by
 match l,h with
 |[a],_=>exact⟨a,rfl⟩
theorem ary{α:Type}{l:List α}(h:l.length=2):∃a b,l=[a,b]:=by
 match l,h with
 |[a,b],_=>exact⟨a,b,rfl⟩
theorem arz{α:Type}{l:List α}(h:l.length=3):∃a b c,l=[a,b,c]:=by
 match l,h with
 |[a,b,c],_=>exact⟨a,b,c,rfl⟩
theorem arA{α:Type}{l:List α}(h:l.length=4):∃a b c d,l=[a,b,c,d]:=by
 match l,h with
 |[a,b,c,d],_=>exact⟨a,b,c,d,rfl⟩
end
theorem e9.dH{e:a9}{v:F}(h:e9 e v es):gB e v es:=by
 rcases h with⟨rfl,rfl⟩|⟨id,rfl⟩
 ·exact BY e
 ·exact BX _ _ _
theorem R0.EA{e:a9}{v:F}(h:R0 e v es):e9 e v es:=by
 rcases h with h|h
 ·exact .inl h
 ·exact .inr ⟨_,h⟩
theorem dk.len:∀{l:List ax} {es:List (List F)},dk l es->es.length=l.length
 |[],es,h=>by simp only[dk]at h;subst h;rfl
 |x::l,es,h=>by simp only[dk]at h;obtain⟨r,rs,rfl,_,R⟩:=h;simp[dk.len R]
theorem dk.get:∀{l:List ax} {es:List (List F)} {i:Nat} {x:ax},dk l es->l[i]? =o x->∃r,es[i]? =o r/\bZ x r
 |[],es,i,x,h,aF=>by simp at aF
 |y::l,es,i,x,h,aF=>by
   simp only[dk]at h;obtain⟨r,rs,rfl,I,R⟩:=h;cases i with
   |zero=>
     obtain rfl:y=x:=by simpa using aF
     exact⟨r,rfl,I⟩
   |succ i=>simpa using dk.get R (by simpa using aF)
theorem dk.append{l:List ax}{x:ax}{r:List F}(h:dk l es)(aF:bZ x r):dk (l++[x]) (es++[r]):=by
 induction l generalizing es with
 |nil=>simp only[dk]at h;subst h;simp[dk,aF]
 |cons y l aR=>simp only[dk]at h;obtain⟨q,rs,rfl,I,R⟩:=h;exact⟨q,rs++[r],rfl,I,aR R⟩
theorem bZ.row{x:ax}{r:List F}(h:bZ x r):∃v es,r=[.int j x.kind,.int j x.n,v]/\e9 bO v es/\dk x.l es:=by
 cases x with
 |mk kind n l=>simp only[bZ]at h;exact h
theorem bZ.one{x:ax}{r:List F}(h:bZ x r):r.all F.one=J/\r.length=3:=by obtain⟨v,es,rfl,Z,_⟩:=h.row;rcases Z with⟨_,rfl⟩|⟨id,rfl⟩<;>exact⟨rfl,rfl⟩
mutual
theorem Lq:∀{x:ax} {r:List F},bZ x r->∃br,p6 r=o br/\bZ x br
 |.mk kind n l,r,h=>by
   simp only[bZ]at h;obtain⟨v,es,rfl,Z,am⟩:=h;obtain⟨gS,I,R⟩:=Lr am;rcases Z with⟨rfl,rfl⟩|⟨id,rfl⟩
   ·exact⟨_,rfl,by simp only[bZ];exact⟨_,[],rfl,.inl ⟨rfl,rfl⟩,am⟩⟩
   ·refine⟨[.int j kind,.int j n,.b5 ag bO gS],?_,?_⟩
    ·simp only[p6,dl,I,i3]
    ·simp only[bZ];exact⟨_,gS,rfl,.inr ⟨_,rfl⟩,R⟩
theorem Lr:∀{l:List ax} {es:List (List F)},dk l es->∃gS,rz es=o gS/\dk l gS
 |[],es,h=>by simp only[dk]at h;subst h;exact⟨[],rfl,rfl⟩
 |x::l,es,h=>by simp only[dk]at h;obtain⟨r,rs,rfl,I,R⟩:=h;obtain⟨br,bR,bQ⟩:=Lq I;obtain⟨tC,da,eS⟩:=Lr R;exact⟨br::tC,by simp only[rz,bR,da],by simp only[dk];exact⟨br,tC,rfl,bQ,eS⟩⟩
end
structure wD(h:ai)(v:F)(l:List ax):Prop where
 len:hX v=o l.length
 fits:∀s,kE s (o bO) v=J
 one:v.one=J
 bJ:∀(i:Nat) (y:ax),l[i]? =o y->∃a q,dY (o bO) ag v (.int j (i:Int))=o a/\(∀E,aG h E->cR J 3 E a=o (.agg q))/\bZ y q
theorem wD.of{h:ai}{v:F}{l:List ax}(Z:e9 bO v es)(am:dk l es):wD h v l:=by
 refine⟨?_,Z.dH.fits,?_,λi y bH=>?_⟩
 ·rw[<-am.len];exact Z.dH.len
 ·rcases Z with⟨_,rfl⟩|⟨id,rfl⟩<;>rfl
 ·obtain⟨q,I,R⟩:=am.get bH;exact⟨.ip q 0,q,Z.dH.bJ j i q I,λE _=>gA R.one.2,R⟩
theorem bZ.mk{x:ax}{v:F}(Z:e9 bO v es)(am:dk x.l es):bZ x [.int j x.kind,.int j x.n,v]:=by rw[x.eta];simp only[bZ];exact⟨v,es,rfl,Z,by simpa[ax.l]using am⟩
theorem bZ.facts{x:ax}{r:List F}(h:bZ x r):∃v es,r=[.int j x.kind,.int j x.n,v]/\gB bO v es/\v.one=J/\es.length=x.l.length/\∀(i:Nat) (y:ax),x.l[i]? =o y->∃q,dY (o bO) ag v (.int j (i:Int))=o (.ip q 0)/\fZ J 3 q 0=o (.agg q)/\bZ y q:=by
 obtain⟨v,es,rfl,Z,am⟩:=h.row;refine⟨v,es,rfl,Z.dH,?_,am.len,λi y bH=>?_⟩
 ·rcases Z with⟨_,rfl⟩|⟨id,rfl⟩<;>rfl
 ·obtain⟨q,I,R⟩:=am.get bH;exact⟨q,Z.dH.bJ j i q I,gA R.one.2,R⟩
abbrev gr:a9:=126
abbrev nc:a9:=127
theorem bZ.cV{x:ax}{r:List F}(h:bZ x r):r.length=3/\r.all F.one=J:=by
 cases x with
 |mk k n l=>obtain⟨v,es,rfl,I,_⟩:=h;rcases I with⟨_,rfl⟩|⟨id,rfl⟩<;>exact⟨rfl,rfl⟩
theorem dk.app:∀{l m:List ax} {es dN:List (List F)},dk l es->dk m dN->dk (l++m) (es++dN)
 |[],m,es,dN,h,g=>by simp only[dk]at h;subst h;exact g
 |x::l,m,es,dN,h,g=>by obtain⟨r,rs,rfl,I,R⟩:=h;exact⟨r,rs++dN,rfl,I,dk.app R g⟩
theorem dk.one{x:ax}{r:List F}(h:bZ x r):dk [x] [r]:=⟨r,[],rfl,h,rfl⟩
theorem dk.take:∀{l:List ax} {es:List (List F)},dk l es->∀n,dk (l.take n) (es.take n)
 |[],_,h,n=>by simp only[dk]at h;subst h;simp[dk]
 |y::l,es,h,n=>by
   obtain⟨r,rs,rfl,I,R⟩:=h;cases n with
   |zero=>simp[dk]
   |succ n=>exact⟨r,rs.take n,rfl,I,dk.take R n⟩
def arB(e:a9)(v:F)(rows:List (List F)):cc:=abL (xy (rows=[]/\v= .aJ)) (u0 λq:Nat×List (List F)=>y9 (v= .bw q.1 0 rows.length e/\rows.length<=q.2.length/\rows=q.2.take rows.length) (a1 q.1 q.2))
def i5(v:F)(l:List ax):cc:=u0 λrows:List (List F)=>y9 (dk l rows) (arB bO v rows)
def hI(f:jq)(a:List F)(s n g:F):List F:=[.int j f.bu,.int j f.f,.int j (f.bU:Int)]++a++[s,n,.bool f.asked,g]
def Ci(row:List F)(f:jq):cc:=u0 λq:List F×F×F×F=>y9 (row=hI f q.1 q.2.1 q.2.2.1 q.2.2.2/\bZ f.arg q.1/\e9 3 q.2.2.2 (eI f.eU)) (ij (i5 q.2.1 f.stack) (i5 q.2.2.1 f.names))
def tN:List (List F)->List jq->cc
 |[],[]=>xy True
 |r::rs,f::dN=>ij (Ci r f) (tN rs dN)
 |_,_=>xy False
def jO(bF a0 bp:Nat)(left:Int)(below:List jq)(top:jq):cc:=u0 λq:List (List F)×List F×List (List F)=>
 ij (a1 bF [[.ptr a0 0 0,.bw bp 0 (below.length+1) gr,.int j left]]) (ij (a1 bp (q.1++q.2.1::q.2.2)) (ij (Ci q.2.1 top) (tN q.1 below)))
section
variable{h E ak:ai}{ah al aO aL:Nat->Prop}{L:List cc}{bF a0 bp:Nat}{left:Int}{below:List jq}{top:jq}
theorem R3:∀{rs:List (List F)} {dN:List jq} {h:ai} {ah al:Nat->Prop},(tN rs dN).A h ah al->rs.length=dN.length
 |[],[],_,_,_,_=>rfl
 |r::rs,f::dN,_,_,_,h=>by obtain⟨_,_,_,_,_,y,_⟩:=h;simp[R3 y]
 |[],_::_,_,_,_,h=>h.1.elim
 |_::_,[],_,_,_,h=>h.1.elim
theorem cm.nil(ah al:Nat->Prop)(h:ai)(dJ:∀k,¬ah k)(g1:∀D,¬al D):(cm []).A h ah al:=⟨trivial,dJ,g1⟩
theorem cm.two{X Y:cc}(x:(ij X Y).A h ah al):(cm [X,Y]).A h ah al:=by obtain⟨eJ,eK,dZ,eh,cb,y,dJ,g1,q',ra⟩:=x;exact⟨eJ,eK,dZ,eh,cb,⟨dZ,eh,λ_=>False,λ_=>False,y,⟨trivial,λ_ h=>h,λ_ h=>h⟩,λk=>by simp,λD=>by simp,λ_ _ h=>h,λ_ _ h=>h⟩,dJ,g1,q',ra⟩
theorem cm.one{X:cc}(x:X.A h ah al):(cm [X]).A h ah al:=⟨ah,al,λ_=>False,λ_=>False,x,⟨trivial,λ_ h=>h,λ_ h=>h⟩,λk=>by simp,λD=>by simp,λ_ _ h=>h,λ_ _ h=>h⟩
theorem cm.Cj{X:cc}(x:(cm [X]).A h ah al):X.A h ah al:=by
 obtain⟨eJ,eK,dZ,eh,cb,⟨_,aw,ay⟩,dJ,g1,_,_⟩:=x;have be:ah=eJ:=by funext k;exact propext ((dJ k).trans ⟨λh=>h.resolve_right (aw k),.inl⟩)
 have b1:al=eK:=by funext D;exact propext ((g1 D).trans ⟨λh=>h.resolve_right (ay D),.inl⟩)
 rw[be,b1];exact cb
theorem cm.adO{X Y:cc}(x:(cm (ij X Y::L)).A h ah al):(cm (X::Y::L)).A h ah al:=G5 x
theorem G7{X Y dd:cc}(x:(ij X (ij Y dd)).A h ah al):(ij (ij X Y) dd).A h ah al:=G4 (G5 (G4 (G5 (G4 x))))
theorem cm.adP{X Y:cc}(x:(cm (X::Y::L)).A h ah al):(cm (ij X Y::L)).A h ah al:=G7 x
abbrev G8(bF a0 bp:Nat)(left:Int)(below:List jq)(top:jq)(rs ex:List (List F))(a:List F)(s n g:F):List cc:=[a1 bF [[.ptr a0 0 0,.bw bp 0 (below.length+1) gr,.int j left]],a1 bp (rs++hI top a s n g::ex),i5 s top.stack,i5 n top.names,tN rs below]
theorem Ck(x:(jO bF a0 bp left below top).A h ah al):∃rs ex a s n g,rs.length=below.length/\bZ top.arg a/\e9 3 g (eI top.eU)/\aN h ah al h (G8 bF a0 bp left below top rs ex a s n g):=by obtain⟨⟨rs,row,ex⟩,x⟩:=x;obtain⟨eJ,eK,dZ,eh,cb,⟨pe,pf,sP,sQ,gH,⟨xK,xL,Cl,Cm,⟨⟨a,s,n,g⟩,⟨e,aV,a5⟩,hE⟩,j4,xM⟩,ik⟩,bL⟩:=x;simp only at e;subst e;refine⟨rs,ex,a,s,n,g,R3 j4,aV,a5,aN.start ?_⟩;exact⟨eJ,eK,dZ,eh,cb,⟨pe,pf,sP,sQ,gH,cm.adO (L:=[tN rs below]) ⟨xK,xL,Cl,Cm,hE,cm.one j4,xM⟩,ik⟩,bL⟩
theorem arC{rs ex:List (List F)}{a:List F}{s n g:F}(aV:bZ top.arg a)(a5:e9 3 g (eI top.eU))(x:(cm (G8 bF a0 bp left below top rs ex a s n g)).A h ah al):(jO bF a0 bp left below top).A h ah al:=by obtain⟨eJ,eK,dZ,eh,cb,⟨pe,pf,sP,sQ,gH,h7,ik⟩,bL⟩:=x;obtain⟨xK,xL,Cl,Cm,hE,j4,xM⟩:=cm.adP (X:=i5 s top.stack) (Y:=i5 n top.names) (L:=[tN rs below]) h7;exact⟨⟨rs,hI top a s n g,ex⟩,eJ,eK,dZ,eh,cb,⟨pe,pf,sP,sQ,gH,⟨xK,xL,Cl,Cm,⟨⟨a,s,n,g⟩,⟨rfl,aV,a5⟩,hE⟩,cm.Cj j4,xM⟩,ik⟩,bL⟩
theorem EB{rs ex:List (List F)}{a:List F}{s n g:F}(aV:bZ top.arg a)(a5:e9 3 g (eI top.eU))(fB:aN ak aO aL h (G8 bF a0 bp left below top rs ex a s n g)):gJ ak aO aL h (jO bF a0 bp left below top):=gJ.imp (λ_ _ _ x=>arC aV a5 x) fB
theorem Cn{v:F}{l:List ax}(x:(i5 v l).A h ah al):v.one=J/\v.cells=[v]/\hX v=o l.length/\(∀s,kE s (o bO) v=J)/\(∀(q:gZ) (i:Nat) (y:ax),l[i]? =o y->∃p r,dY (o bO) ag v (.int q (i:Int))=o p/\cR J 3 h p=o (.agg r)/\bZ y r):=by
 obtain⟨rows,am,x⟩:=x;have hlen:=am.len;rcases x with⟨⟨rfl,rfl⟩,_⟩|⟨⟨b,es⟩,⟨rfl,I,R⟩,x⟩
 ·simp only[fG]at hlen;refine⟨rfl,rfl,by rw[<-hlen];rfl,λs=>rfl,λq i y bH=>?_⟩;have:=sy.1 hlen.symm;subst this;simp at bH
 ·refine⟨rfl,rfl,by rw[<-hlen];rfl,λs=>Ea,λq i y bH=>?_⟩;obtain⟨r,bR,bQ⟩:=am.get bH;have af:i<rows.length:=(fO.1 bR).1;refine⟨.ptr b (0+i) 0,r,Au rfl af,?_,bQ⟩;obtain⟨_,_,_,an⟩:=x;have aj:es[i]? =o r:=by
   have:(es.take rows.length)[i]? =o r:=by rw[<-R];exact bR
   rwa [v1 af]at this
  simp only at an;rw[gb,an,ir,du,aj,du];exact gA bQ.cV.1
theorem arD{v:F}{l:List ax}{y:ax}{r:List F}{km:Nat}(x:(i5 v l).A h ah al)(aB:h.cell km=o [r])(bH:bZ y r)(am:l.length<=1000000):∃E,eH J bO v (.bw km 0 1 bO) h=o (.bw h.n 0 (l.length+1) bO,E)/\gJ h ah al E (i5 (.bw h.n 0 (l.length+1) bO) (l++[y])):=by
 have he:js h bO (.bw km 0 1 bO)=o [r]:=by simp[js,aB]
 have aV:∀s,eH J bO s (.bw km 0 1 bO) h=kA J bO s [r] h:=λs=>by simp only[eH,he,du,hj];rw[if_neg (by decide)]
 have au:([r].all λx=>x.all F.one)=J:=by simp only[qa,List.all_nil,rN];exact bH.cV.2
 obtain⟨rows,Z,x⟩:=x;have hlen:=Z.len;rcases x with⟨⟨rfl,rfl⟩,aw,ay⟩|⟨⟨b,es⟩,⟨rfl,I,R⟩,aP,a2,bl,cr⟩
 ·have uH:l=[]:=sy.1 (by simpa using hlen.symm);subst uH;refine⟨h.push [r],?_,λk=>k=h.n,λ_=>False,⟨[r],dk.one bH,.inr ⟨⟨h.n,[r]⟩,⟨rfl,b9 _,rfl⟩,λ_=>n0,λ_ h=>h,sR _,hb⟩⟩,(aG.push h [r]).wi _ _,λk ab=>.inr (qU ab.symm),λ_ h=>h.elim⟩;rw[aV];simp only[kA];rw[if_pos ⟨by simp,by simp,au⟩];rfl
 ·simp only at I R aP bl cr;have aA:((h.set b ag).push (es.take rows.length++[r])).cell h.n=o (es.take rows.length++[r]):=by have:=hb (h:=h.set b ag) (es:=es.take rows.length++[r]);exact this
  refine⟨(h.set b ag).push (es.take rows.length++[r]),?_,λk=>k=h.n,λ_=>False,⟨rows++[r],Z.app (dk.one bH),.inr ⟨⟨h.n,es.take rows.length++[r]⟩,⟨by simp[hlen],?_,?_⟩,λ_=>n0,λ_ h=>h,sR _,aA⟩⟩,⟨Nat.le_succ _,b9 _,λk ab dJ=>?_,λ_ _ _=>rfl⟩,λk ab=>.inr (qU ab.symm),λ_ h=>h.elim⟩
  ·rw[aV];simp only[kA,cr,du];rw[if_pos ⟨by simp,by simp,au⟩,if_pos ⟨trivial,trivial,by omega⟩,if_pos I];simp[hlen]
  ·simp;omega
  ·rw[<-R,List.take_of_length_le (by simp)]
  ·rw[uX (by rw[nY];omega),eN λe=>dJ ((aP k).2 e)]
theorem adQ{b m:Nat}{l:List ax}{y:ax}(x:(i5 (.bw b 0 m bO) (l++[y])).A h ah al):(i5 (.bw b 0 l.length bO) l).A h ah al:=by
 obtain⟨rows,Z,x⟩:=x;have hlen:=Z.len;rw[fz,hj]at hlen;rcases x with⟨⟨_,e⟩,_⟩|⟨⟨gl,es⟩,⟨e,I,R⟩,x⟩
 ·cases e
 ·injection e with aw _ ay _;have iq:=Z.take l.length;rw[List.take_left]at iq;simp only at aw I R;refine⟨rows.take l.length,iq,.inr ⟨⟨gl,es⟩,⟨by rw[aw];congr 1;simp;omega,by simp;omega,?_⟩,x⟩⟩;have aj:(rows.take l.length).length=l.length:=by simp;omega
  rw[aj]
  conv=>lhs;rw[R]
  rw[List.take_take];congr 1;omega
theorem adR{v:F}{l:List ax}(x:(i5 v l).A h ah al)(am:l≠[]):∃b,v= .bw b 0 l.length bO:=by
 obtain⟨rows,Z,x⟩:=x;have hlen:=Z.len;rcases x with⟨⟨rfl,rfl⟩,_⟩|⟨⟨gl,es⟩,⟨e,_⟩,_⟩
 ·exact absurd (sy.1 (by simpa using hlen.symm)) am
 ·exact⟨gl,by rw[e,hlen]⟩
theorem aN.adS{X Y:cc}(s:aN ak aO aL h L)(i:Nat)(af:L[i]? =o X)(wA:∀h ah al,X.A h ah al->Y.A h ah al):aN ak aO aL h (L.set i Y):=by obtain⟨E,rfl,d⟩:=s.call (cJ:=λq=>q=h) i af (Y:=Y) λah al x=>⟨h,rfl,gJ.imp wA (gJ.same x)⟩;exact d
theorem arE{α:Type}{X dd:cc}{Y:α->cc}(x:(ij X dd).A h ah al){cJ:ai->α->Prop}(c:∀eJ eK,X.A h eJ eK->∃E a,cJ E a/\gJ h eJ eK E (Y a)):∃E a,cJ E a/\gJ h ah al E (ij (Y a) dd):=by
 obtain⟨eJ,eK,dZ,eh,cb,z,dJ,g1,q',ra⟩:=x;obtain⟨E,jI,r,pe,pf,y,cl,bl,fq⟩:=c eJ eK cb;have mK:=dd.lt z;refine⟨E,jI,r,λk=>pe k\/dZ k,λD=>pf D\/eh D,⟨pe,pf,dZ,eh,y,dd.g9 z cl (λk ab I=>q' k I ab) (λD ae I=>ra D I ae),λ_=>n0,λ_=>n0,λk aj R=>?_,λD aj R=>?_⟩,?_,λk ab=>?_,λD ae=>?_⟩
 ·rcases bl k aj with h|h
  ·exact q' k h R
  ·have:=mK.1 k R;omega
 ·rcases fq D aj with h|h
  ·exact ra D h R
  ·have:=mK.2 D R;omega
 ·exact⟨cl.n,cl.ids,λk ab aA=>cl.cell k ab λI=>aA ((dJ k).2 (.inl I)),λD ae aA=>cl.hw D ae λI=>aA ((g1 D).2 (.inl I))⟩
 ·rcases ab with h|h
  ·exact(bl k h).imp (λh=>(dJ k).2 (.inl h)) id
  ·exact .inl ((dJ k).2 (.inr h))
 ·rcases ae with h|h
  ·exact(fq D h).imp (λh=>(g1 D).2 (.inl h)) id
  ·exact .inl ((g1 D).2 (.inr h))
theorem aN.tO{α:Type}{X:cc}{cJ:ai->α->Prop}{Y:α->cc}(s:aN ak aO aL h L)(i:Nat)(af:L[i]? =o X)(c:∀ah al,X.A h ah al->∃E a,cJ E a/\gJ h ah al E (Y a)):∃E a,cJ E a/\aN ak aO aL E (L.set i (Y a)):=by have am:i<L.length:=(fO.1 af).1;obtain⟨ah,al,x,hv,a,b⟩:=s;obtain⟨E,jI,r,d⟩:=arE ((cm.front af).1 x) c;exact⟨E,jI,r,gJ.chain hv a b (d.imp λ_ _ _ y=>cm.back am y)⟩
theorem aN.app(s:aN ak aO aL h L)(i:Nat){v:F}{l:List ax}(af:L[i]? =o (i5 v l)){y:ax}{r:List F}{km:Nat}(aB:h.cell km=o [r])(bH:bZ y r)(am:l.length<=1000000):∃E,eH J bO v (.bw km 0 1 bO) h=o (.bw h.n 0 (l.length+1) bO,E)/\aN ak aO aL E (L.set i (i5 (.bw h.n 0 (l.length+1) bO) (l++[y]))):=s.call (cJ:=λE=>eH J bO v (.bw km 0 1 bO) h=o (.bw h.n 0 (l.length+1) bO,E)) i af λ_ _ x=>arD x aB bH am
end
def adT:List bb:=[Ep,.ops [.i .l (.call (.c (.fn 76 [] [])) []),.i .l (.call (.c (.fn 77 [] [])) []),.i .l (.build [.e',.e',.bool U,.aJ,.int j 0,.int j 0,.aJ,.bool U,.aJ,.int j 0,.int j 0,.aJ,.bool U,.aJ,.int j 0,.int j 0,.aJ,.bool U,.aJ,.int j 0,.int j 0,.aJ] [(0,1),(1,1),(2,20)] [(0,(.l 1)),(1,(.l 0))]),.i .l (.box 22 (.l 0)),B8],.ret]
theorem arF:cv aq aa 39 0 1 [0] adT [(.v 0)] U:=by refine⟨_,_,Tryz.func39,rfl,rfl,?_,?_,?_,?_,?_⟩<;>kernel_rfl
def R4:List bb:=[.ops [R5],.cond (.v 2) [.ops [dc,.i .l (.Gj 127 (.l 0)),Ls]] []]
theorem adU:cv aq aa 89 2 3 [0,1,4] R4 [] J:=by refine⟨_,_,Tryz.func89,rfl,rfl,?_,?_,?_,?_,?_⟩<;>kernel_rfl
def adV:List bb:=[.ops [.i (.v 1) (.a8 (.c .e'))],.ops [bc,ct,g4,aT,bc,ct,g4,aT,Lt,nb,.i .l (.fe (o 126) ag (.l 6) (.l 0)),pK],.ret]
theorem arG:cv aq aa 88 1 2 [0,2] adV [(.v 1)] U:=by refine⟨_,_,Tryz.func88,rfl,rfl,?_,?_,?_,?_,?_⟩<;>kernel_rfl
def adW:List bb:=[.ops [G9],.ops [bc,R6,jz],.ops [hd,ct,xN,aT,sS,nb,jA],.ops [hd,ct,xN,aT,c6,wE,jP,xO,wF],.ops [hd,hd,ct,xN,aT,c6,.i .l (.yZ U (o 35) (.l 1) ag (o (.l 0))),Ek,xN,lT],.ops [sT,G'],.ret]
theorem arH:cv aq aa 90 1 5 [0,2,3,4,5] adW [(.cell J 3 1)] U:=by refine⟨_,_,Tryz.func90,rfl,rfl,?_,?_,?_,?_,?_⟩<;>kernel_rfl
def adX:List bb:=[.ops [G9],.ops [bc,AK,G'],.ret]
theorem arI:cv aq aa 115 1 2 [0,2] adX [(.cell J 3 1)] J:=by refine⟨_,_,Tryz.func115,rfl,rfl,?_,?_,?_,?_,?_⟩<;>kernel_rfl
def R7:List bb:=[.ops [Lu,Fr],.ops [r3,aT,dc,Ha,Lv],.ops [sU,EC],.ret]
theorem adY:cv aq aa 91 2 4 [0,1,2,4] R7 [(.cell J 3 3)] J:=by refine⟨_,_,Tryz.func91,rfl,rfl,?_,?_,?_,?_,?_⟩<;>kernel_rfl
def R8:List bb:=[.ops [Co,Lw],.ops [ED,R9,tP,.i .l (.call (.c (.fn 89 [] [])) [.l 0,.c (.int j 3)])],.ops [ED,Hb],.ret]
theorem adZ:cv aq aa 116 1 3 [0,1,2] R8 [(.cell J 3 2)] J:=by refine⟨_,_,Tryz.func116,rfl,rfl,?_,?_,?_,?_,?_⟩<;>kernel_rfl
def zk:List bb:=[sL,EE,.ops [.i (.v 5) (.a8 (.v 0))],.block 0 [.ops [.i .l (.bin (.int j) .eql (.v 5) (.c (.int j 1))),jM],.cond (.v 6) [ad0,.ret] [.ops [.i .l (.bin (.int j) .eql (.v 5) (.c (.int j 2))),nG],.cond (.v 7) [ad1,.ret] [.ops [.i .l (.bin (.int j) .eql (.v 5) (.c (.int j 3))),kZ],.cond (.v 8) [ad2,.ret] [.ops [.i .l (.bin (.int j) .eql (.v 5) (.c (.int j 4))),u'],.cond (.v 9) [.ops [dc,hd,Lx,je]] [.ops [.i .l (.bin (.int j) .eql (.v 5) (.c (.int j 5))),va],.cond (.v 10) [.ops [dc,hd,R',je]] []]]]]],.ops [.i (.v 11) (.a8 (.v 4))],.cond (.v 11) [Ly,.ret] [],sL,.ret]
theorem AL:cv aq aa 42 3 12 [0,1,2,6,7,8,9,14,19,24,29,34] zk [(.v 3)] J:=by refine⟨_,_,Tryz.func42,rfl,rfl,?_,?_,?_,?_,?_⟩<;>kernel_rfl
def Sa:List bb:=[.ops [Cp,u1,acy],.ops [oH,aT,jM],.ops [bc,ct,dC,aT,ct,dC,aT,ky,ad3,hd,.i .l (.call (.c (.fn 144 [] [])) [.l 1,.l 0]),wq,.i .l (.call (.c (.fn 89 [] [])) [.l 0,.c (.int j 9)])],.ops [bc,ct,dC,aT,ct,dC,aT,ky,.i .l (.call (.c (.fn 162 [] [])) [.l 1,.l 0]),cn,fs,ft,.i (.v 7) GV,.i .n (.store 6 (.v 7) (.l 1)),cn],.ops [ky,.i .l (.load J 6 (.v 7)),B6,acz],.ret]
theorem ad4:cv aq aa 147 3 8 [0,1,2,4,6,7,8,9] Sa [(.v 4),(.cell J 6 5)] J:=by refine⟨_,_,Tryz.func147,rfl,rfl,?_,?_,?_,?_,?_⟩<;>kernel_rfl
def Hc:List bb:=[Hd,.ops [bc,sU,He,.i .l (.call (.c (.fn 147 [] [])) [.l 2,.l 0,.c (.int j 1)]),cn,fs,ft,Rh,Sb,K8],.ops [.i .l (.db 4 (.v 4)),aT,rU,Lv],.ops [bc,ct,dC,aT,ct,g4,aT,bc,Lz,aT,c6,.i .l (.call (.c (.fn 88 [] [])) [.l 3]),.ca [⟨ag,U,1,.l 9,(.l 8)⟩,⟨ag,U,1,.l 6,(.l 5)⟩,⟨ag,U,1,.l 3,(.l 2)⟩],ct,dC,aT,.i .l (.call (.c (.fn 148 [] [])) [.l 8,.l 0,.l 5,.l 4]),cn,fs,ft,AB,cn],.ops [bc,hV,Sc,.i .l (.call (.c (.fn 114 [] [])) [.l 2,.l 0])]]
theorem LA:cv aq aa 129 2 6 [0,1,3,4,5,6] Hc [] U:=by refine⟨_,_,Tryz.func129,rfl,rfl,?_,?_,?_,?_,?_⟩<;>kernel_rfl
def EF:List bb:=[ad5,.ops [tQ,He],.ops [sT,LB],.ops [bc,tQ,.i .l (.call (.c (.fn 147 [] [])) [.l 1,.l 0,.c (.int j 2)]),cn,fs,ft,Sd,AB,ad6],.ops [LC,aT,rU,Lv],.ops [bc,ct,dC,aT,ct,g4,aT,bc,.i .l (.db 3 (.v 6)),aT,hV,oE,aT,.i .l (.call (.c (.fn 88 [] [])) [.l 5]),.ca [⟨ag,U,1,.l 11,(.l 10)⟩,⟨ag,U,1,.l 8,(.l 7)⟩,⟨ag,U,1,.l 5,(.l 4)⟩,⟨ag,U,1,.l 2,(.l 1)⟩],ct,dC,aT,.i .l (.call (.c (.fn 149 [] [])) [.l 10,.l 0,.l 7,.l 6,.l 4])],.ops [bc,sT,Hf]]
theorem Hg:cv aq aa 130 3 7 [0,1,2,4,5,6,7] EF [] U:=by refine⟨_,_,Tryz.func130,rfl,rfl,?_,?_,?_,?_,?_⟩<;>kernel_rfl
def Se:List bb:=[.ops [.i (.v 4) (.box 3 (.v 1)),xP],.ops [bc,ct,dC,aT,ct,dC,aT,oE,aT,hd,c6,.i .l (.call (.c (.fn 84 [] [])) [.l 4,.l 2,.l 1,.l 0]),cn,fs,ft,LD,nG],.ops [kH,tP,kH,LF],.ops [ky,KY,rb],.ret]
theorem ad7:cv aq aa 131 4 8 [0,1,2,3,5,8,9,10] Se [(.cell J 3 5)] U:=by refine⟨_,_,Tryz.func131,rfl,rfl,?_,?_,?_,?_,?_⟩<;>kernel_rfl
def Hh:List bb:=[Hd,.ops [sU,He],.ops [bc,ct,dC,aT,ct,dC,aT,ad8,cn,fs,ft,Sb,je],.ops [fu,tP,fu,LF],.ops [bc,sU,c6,.i .l (.call (.c (.fn 131 [] [])) [.l 2,.l 1,.c (.int j 15),.l 0]),xP,rb],.ops [bc,tR,c6,ad9,ad',LG,Sf]]
theorem LH:cv aq aa 132 2 6 [0,1,3,4,5,6] Hh [] U:=by refine⟨_,_,Tryz.func132,rfl,rfl,?_,?_,?_,?_,?_⟩<;>kernel_rfl
def Sg:List bb:=[.ops [.i (.v 2) (.box 10 (.v 1))],aea,.ops [bc,bc,ct,g4,aT,.i .l (.load J 10 (.v 2)),aeb,.ca [⟨ag,U,1,.l 3,(.l 2)⟩],.i .l (.app J 126 (.l 2) (.l 0)),Sh,g4,lT]]
theorem aec:cv aq aa 133 2 3 [0,1,3] Sg [] U:=by refine⟨_,_,Tryz.func133,rfl,rfl,?_,?_,?_,?_,?_⟩<;>kernel_rfl
def zl:List bb:=[ad5,.ops [bc,tQ,He,.i .l (.call (.c (.fn 147 [] [])) [.l 2,.l 0,.c (.int j 8)]),cn,fs,ft,Sd,AB,ad6],.ops [LC,aT,qp,Lv],.ops [bc,ct,dC,aT,LC,aT,xC,kI,Hi,Si,.i (.v 7) (.alloc [.bool U,.aJ,.int j 0,.int j 0,.aJ]),.ca [⟨ag,U,1,.l 7,(.l 6)⟩,⟨ag,U,1,.l 5,(.l 4)⟩,⟨ag,J,5,.l 1,(.l 0)⟩],.i .n (.store 5 (.v 7) (.l 0))],.ops [Sj,aT,wq,cn,.g (.l 0) U .l (.db 5 (.v 6)),ld,.g (.l 2) U .l LI,LJ,.g (.l 4) U .l (.len U (o 174) (.l 0)),.g (.l 5) U .l (.bin (.int j) .geq (.l 3) (.l 0)),.i .l (.pick (.l 6) (.c (.bool J)) (.l 0)),.i .l (.call (.c (.fn 89 [] [])) [.l 0,.c (.int j 8)])],aea,.ops [bc,ct,dC,aT,ct,dC,aT,hV,.i .l (.call (.c (.fn 150 [] [])) [.l 1,.l 0]),kZ],.ops [bc,ct,dC,aT,ct,dC,aT,sT,pL,.i .l (.call (.c (.fn 113 [] [])) [.l 2,.l 1,.l 0]),cn,fs,ft,Hj,.ca [⟨ag,U,1,.l 10,(.l 9)⟩,⟨ag,U,1,.l 7,(.l 6)⟩,⟨ag,J,3,.v 4,(.l 5)⟩],aed,va],.ops [tS,tP,tS,LF],.ops [bc,LC,aT,.i .l (.db 5 (.v 6)),aT,Hk,pL,.i .l (.build [.int j 0,.int j 0,.int j 0,.int j 0,.int j 0,.aJ,.aJ,.aJ,.bool U,.aJ] [(0,1),(1,1),(2,1),(3,3),(6,1),(7,1),(8,1),(9,1)] [(0,(.l 4)),(1,(.l 2)),(3,(.l 1)),(6,(.c (.bool J))),(7,(.l 0))]),.i .l (.call (.c (.fn 133 [] [])) [.l 7,.l 0])]]
theorem AM:cv aq aa 134 3 11 [0,1,2,4,5,6,7,8,9,10,11] zl [] U:=by refine⟨_,_,Tryz.func134,rfl,rfl,?_,?_,?_,?_,?_⟩<;>kernel_rfl
def Sk:List bb:=[.ops [bc,qs,.i .l (.call (.c (.fn 91 [] [])) [.l 0,.c (.int j 2)]),Lw,Hb],.ops [bc,tK,aT,dc,wE,jP,Sf]]
theorem H1:cv aq aa 117 2 3 [0,1,4] Sk [] U:=by refine⟨_,_,Tryz.func117,rfl,rfl,?_,?_,?_,?_,?_⟩<;>kernel_rfl
def n2:List bb:=[Hd,Sl,.ops [r3,aee],.block 0 [.ops [aef,AN],.cond (.v 11) [.ops [bc,lU,Hf]] [.ops [aeg,zm],.cond (.v 12) [.ops [bc,tK,aT,Sc,.i .l (.call (.c (.fn 114 [] [])) [.l 3,.l 0])]] [.ops [aeh,Cq],.cond (.v 13) [.ops [bc,c6,ct,AO,jP,aei]] [.ops [aej,Hl],.cond (.v 14) [.ops [bc,c6,ct,wG,aT,c6,ct,wG,aT,sS,nb,nF,aT,aek,.i .l (.fe (o 35) ag (.l 9) (.l 0)),jP,.i .l (.call (.c (.fn 114 [] [])) [.l 15,.l 0])]] [.ops [ael,EG],.cond (.v 15) [aem,.ops [tR,LB],.ops [sT,LB],.ops [bc,nF,aT,Rb,aT,oE,aT,.i .l (.call (.c (.fn 42 [] [])) [.l 4,.l 2,.l 0]),Sc,aen]] [.ops [.i .l (.bin (.int j) .eql (.v 10) (.c (.int j 8))),Cr],.cond (.v 16) [.ops [bc,qs,bc,qs,GJ,Hm,.i .n (.store 3 (.v 6) (.l 2)),wH],.ops [bc,Sm,tJ,.i .l (.lx U 35 [.int j 0,.int j 0,.aJ] 3 2 [(0,(.l 1)),(1,(.l 0))]),LG,aeo,Sf]] [.ops [.i .l (.bin (.int j) .eql (.v 10) (.c (.int j 9))),vb],.cond (.v 17) [.ops [bc,.i .l (.call (.c (.fn 117 [] [])) [.l 0,.c (.int j 0)])]] [.ops [.i .l (.bin (.int j) .eql (.v 10) (.c (.int j 10))),Hn],.cond (.v 18) [.ops [bc,.i .l (.call (.c (.fn 117 [] [])) [.l 0,.c (.int j 1)])]] [.ops [.i .l (.bin (.int j) .eql (.v 10) (.c (.int j 11))),Ho],.cond (.v 19) [.ops [bc,qs,aep,aeq],.ops [bc,c6,ct,dC,aT,.i .l (.load J 3 (.v 8)),LK,.ca [⟨ag,U,1,.l 3,(.l 2)⟩],.i .l (.build [.int j 0,.int j 0,.aJ] [(0,1),(1,1),(2,1)] [(0,(.c (.int j 3))),(1,(.l 2)),(2,(.l 0))]),aeo,aen]] [.ops [.i .l (.bin (.int j) .eql (.v 10) (.c (.int j 12))),LL],.cond (.v 20) [.ops [bc,qs,.i .l (.call (.c (.fn 91 [] [])) [.l 0,.c (.int j 3)]),Hj,LM],.ops [.i .l (.db 1 (.v 9)),aT,c6,ct,dC,aT,.i .l (.bin (.int j) .neq (.l 4) (.l 0)),.i .l (.call (.c (.fn 89 [] [])) [.l 0,.c (.int j 10)])],.ops [bc,.i .l (.db 2 (.v 9)),aT,l',jP,aei]] [.ops [bc,sU,.i .l (.call (.c (.fn 118 [] [])) [.l 1,.l 0])]]]]]]]]]]]]]
theorem oI:cv aq aa 93 2 21 [0,1,3,4,5,6,7,8,9,10,14,18,23,30,38,57,77,90,94,98,112] n2 [] U:=by refine⟨_,_,Tryz.func93,rfl,rfl,?_,?_,?_,?_,?_⟩<;>kernel_rfl
def pP:List bb:=[Hd,Sl,.ops [r3,.i (.v 11) oD],.block 0 [.ops [.i .l (.bin (.int j) .eql (.v 11) (.c (.int j 13))),zm],.cond (.v 12) [.ops [bc,bc,qs,.i .l (.call (.c (.fn 129 [] [])) [.l 2,.l 0])]] [.ops [.i .l (.bin (.int j) .eql (.v 11) (.c (.int j 14))),Cq],.cond (.v 13) [aem,.ops [bc,tR,sT,.i .l (.call (.c (.fn 130 [] [])) [.l 2,.l 1,.l 0])]] [.ops [.i .l (.bin (.int j) .eql (.v 11) (.c (.int j 15))),Hl],.cond (.v 14) [.ops [bc,bc,bc,nF,aT,.i .l (.call (.c (.fn 90 [] [])) [.l 2]),.ca [⟨ag,U,1,.l 2,(.l 1)⟩],He,.ca [⟨ag,U,1,.l 3,(.l 2)⟩],.i .l (.call (.c (.fn 131 [] [])) [.l 5,.l 0,.l 2,.c (.int j (-1))]),.i .l (.call (.c (.fn 114 [] [])) [.l 7,.l 0])]] [.ops [.i .l (.bin (.int j) .eql (.v 11) (.c (.int j 16))),EG],.cond (.v 15) [.ops [bc,bc,qs,.i .l (.call (.c (.fn 132 [] [])) [.l 2,.l 0])]] [.ops [.i .l (.bin (.int j) .eql (.v 11) (.c (.int j 17))),Cr],.cond (.v 16) [.ops [bc,ct,dC,aT,ct,dC,aT,bc,qs,.ca [⟨ag,U,1,.l 6,(.l 5)⟩,⟨ag,U,1,.l 3,(.l 2)⟩],.i .l (.call (.c (.fn 91 [] [])) [.l 0,.c (.int j 5)]),.ca [⟨ag,U,1,.l 7,(.l 6)⟩,⟨ag,U,1,.l 4,(.l 3)⟩],.i .l (.Gl U 1 1 (.l 0)),.i .l (.call (.c (.fn 62 [] [])) [.l 4,.l 0])],.ops [bc,lU,Hf]] [.ops [.i .l (.bin (.int j) .eql (.v 11) (.c (.int j 18))),vb],.cond (.v 17) [.ops [bc,qs,GJ,GK],.ops [bc,c6,ct,dC,aT,nF,aT,tJ,.i .l (.build [.int j 0,.int j 0,.int j 0,.int j 0,.int j 0,.aJ,.aJ,.aJ,.bool U,.aJ] [(0,1),(1,1),(2,1),(3,3),(6,1),(7,1),(8,1),(9,1)] [(0,(.l 3)),(1,(.l 1)),(3,(.l 0))]),.i .l (.call (.c (.fn 133 [] [])) [.l 8,.l 0])]] [.ops [.i .l (.bin (.int j) .eql (.v 11) (.c (.int j 19))),Hn],.cond (.v 18) [.ops [bc,qs,bc,qs,Hm,aep,.i .n (.store 3 (.v 7) (.l 2)),aeq],.ops [bc,.i .l (.load J 3 (.v 8)),Sm,.i .l (.call (.c (.fn 134 [] [])) [.l 2,.l 1,.l 0])]] [.ops [.i .l (.bin (.int j) .eql (.v 11) (.c (.int j 20))),Ho],.cond (.v 19) [.ops [bc,ct,dC,aT,c6,ct,dC,aT,zn,kI,Hi,u'],.ops [qt,ct,kI,jP,aer,.i .n (.store 3 (.v 10) (.l 0))],.ops [qt,bc,qs,xC,kI,.i .n (.store 3 (.l 0) (.l 2))],.ops [bc,.i .l (.load J 3 (.v 10)),Hf]] [.ops [.i .l (.bin (.int j) .eql (.v 11) (.c (.int j 21))),LL],.cond (.v 20) [.ops [bc,bc,ct,dC,aT,c6,ct,dC,aT,zn,kI,Hi,kI,jP,.i .l (.call (.c (.fn 114 [] [])) [.l 13,.l 0])]] []]]]]]]]]]]
theorem qu:cv aq aa 118 2 21 [0,1,3,4,5,6,7,8,9,10,11,15,16,22,32,43,49,66,80,90,115] pP [] U:=by refine⟨_,_,Tryz.func118,rfl,rfl,?_,?_,?_,?_,?_⟩<;>kernel_rfl
def EH:List bb:=[.ops [G9,zo],.ops [bc,qs,Fr,EC],.ops [bc,R6,ct,.i .l (.load J 10 (.l 0)),.i (.v 4) (.alloc [.int j 0,.int j 0,.int j 0,.int j 0,.int j 0,.aJ,.aJ,.aJ,.bool U,.aJ]),.i .n (.store 10 (.v 4) (.l 0))],.ops [.i .l (.db 8 (.v 4)),Hp],.cond (.v 7) [.ops [bc,ct,dC,aT,ct,dC,aT,tQ,.i .l (.db 9 (.v 4)),aT,.i .l (.call (.c (.fn 113 [] [])) [.l 3,.l 2,.l 0]),cn,fs,ft,xP,.ca [⟨ag,U,1,.l 11,(.l 10)⟩,⟨ag,U,1,.l 8,(.l 7)⟩,⟨ag,J,3,.v 3,(.l 6)⟩,⟨ag,U,1,.l 5,(.l 4)⟩],sV,jM],.ops [ky,tP,ky,LF],.ops [tR,EC]] [],.ops [bc,bc,ct,g4,aT,bc,ct,g4,aT,Lt,nb,.i .l (.yZ U (o 126) (.l 6) ag (o (.l 0))),Sn,g4,lT],.ops [bc,ct,g4,aT,Lt,aes],.cond (.v 8) [.ops [tQ,G',aet],.ret] [],.ops [bc,tQ,Hf],.ops [tQ,G',zo],.ret]
theorem Hq:cv aq aa 92 1 9 [0,2,3,4,5,6,7,15,54] EH [(.cell J 3 1),(.v 2)] U:=by refine⟨_,_,Tryz.func92,rfl,rfl,?_,?_,?_,?_,?_⟩<;>kernel_rfl
def sW:List bb:=[.ops [G9,zo],Sl,.ops [bc,ct,dC,aT,c6,ct,dC,aT,zn,kI,Hi,g4,aT,c6,ct,g4,aT,.i .l (.fe (o 174) ag (.l 4) (.l 0)),aT,c6,ct,kI,aT,.i .l (.fe (o 184) ag (.l 4) (.l 0)),jP,.i (.v 4) (.alloc [.int j 0,.int j 0,.int j 0]),.ca [⟨ag,U,1,.l 22,(.l 21)⟩,⟨ag,U,1,.l 18,(.l 17)⟩,⟨ag,U,1,.l 13,(.l 12)⟩,⟨ag,U,1,.l 9,(.l 8)⟩,⟨ag,U,1,.l 7,(.l 6)⟩,⟨ag,U,1,.l 3,(.l 2)⟩,⟨ag,J,3,.l 1,(.l 0)⟩],wF],.ops [c6,ct,kI,aT,oG,zn,kI,lT],.ops [tT,Hr],.block 0 [.ops [.i .l (.bin (.int j) .eql (.v 6) (.c (.int j 100))),nG],.cond (.v 7) [.ops [bc,ct,kI,aT,EI,.i .l (.call (.c (.fn 89 [] [])) [.l 0,.c (.int j 12)])],aeu] [.ops [.i .l (.bin (.int j) .eql (.v 6) (.c (.int j 101))),kZ],.cond (.v 8) [.ops [bc,qs,xP,rb],.ops [c6,ct,wG,aT,tR,aev,QU,.ca [⟨ag,U,1,.l 4,(.l 3)⟩,⟨ag,J,3,.v 5,(.l 2)⟩],.i .l (.app J 35 (.l 3) (.l 0)),.i .l (.fe (o 35) ag (.l 0) (.l 2)),.i .l (.lN (.l 8)),wG,.i .n (.store 3 (.l 2) (.l 6)),aew,.ca [⟨ag,J,3,.l 2,(.l 6)⟩]]] [.ops [.i .l (.bin (.int j) .eql (.v 6) (.c (.int j 102))),u'],.cond (.v 9) [.ops [c6,c6,ct,wG,aT,c6,ct,wG,aT,sS,nb,.i .l (.yZ U (o 35) (.l 6) ag (o (.l 0))),Sn,wG,lT]] [.ops [.i .l (.bin (.int j) .eql (.v 6) (.c (.int j 103))),va],.cond (.v 10) [.ops [bc,qs,LB,.i .l (.Gl U 1 1 (.l 0)),Rd],.cond (.v 11) [aex] []] [.ops [.i .l (.bin (.int j) .eql (.v 6) (.c (.int j 104))),zm],.cond (.v 12) [aex] [.ops [.i .l (.bin (.int j) .eql (.v 6) (.c (.int j 105))),Cq],.cond (.v 13) [.ops [bc,.i .l (.call (.c (.fn 92 [] [])) [.l 0]),fs,ft,aey,jz],.ret] [.ops [bc,sT,.i .l (.call (.c (.fn 93 [] [])) [.l 1,.l 0])]]]]]]]],.ops [lU,G',zo],.ret]
theorem tU:cv aq aa 50 1 14 [0,2,3,4,5,6,42,46,61,76,92,98,104,111] sW [(.cell J 3 1),(.v 2)] U:=by refine⟨_,_,Tryz.func50,rfl,rfl,?_,?_,?_,?_,?_⟩<;>kernel_rfl
def aez:List bb:=[Ep,.ops [.i .l (.build [.int j 0,.int j 0,.int j 0,.int j 0,.int j 0,.int j 0,.int j 0,.int j 0,.int j 0,.int j 0,.int j 0,.int j 0,.aJ] [(0,12),(12,1)] []),.i .l (.box 13 (.l 0)),B8],.ret]
theorem arJ:cv aq aa 77 0 1 [0] aez [(.v 0)] U:=by refine⟨_,_,Tryz.func77,rfl,rfl,?_,?_,?_,?_,?_⟩<;>kernel_rfl
def aeA:List bb:=[.ops [u1,Hs],.ops [hd,Q6,B5],.cond (.v 6) [.ops [u1,Hs],.ret] [],.ops [bc,bc,ct,Ht,aT,dc,hd,c6,.i .l (.build [.int j 0,.int j 0,.int j 0,.int j 0] [(0,1),(1,1),(2,1),(3,1)] [(0,(.l 2)),(1,(.l 1)),(2,(.c (.int j 1))),(3,(.l 0))]),LN,aeB,KZ,Ht,lT],.ops [bc,hd,xQ,dC,.i .l (.fe ag (o (12,1)) (.l 0) (.l 2)),aT,je,So],.ret]
theorem arK:cv aq aa 148 4 7 [0,1,2,3,8,9,12] aeA [(.v 4),(.v 5)] U:=by refine⟨_,_,Tryz.func148,rfl,rfl,?_,?_,?_,?_,?_⟩<;>kernel_rfl
def aeC:List bb:=[LO,.ops [hd,Q6,B5],.cond (.v 6) [LO,.ret] [],.ops [bc,bc,ct,Ht,aT,dc,hd,c6,.i .l (.build [.int j 0,.int j 0,.int j 0,.int j 0] [(0,1),(1,1),(2,1),(3,1)] [(0,(.l 2)),(1,(.l 1)),(2,(.c (.int j 2))),(3,(.l 0))]),LN,aeB,KZ,Ht,lT],.ops [bc,hd,fu,xC,dC,.i .l (.fe ag (o (12,1)) (.l 0) (.l 3)),aew],.ops [So],.ret]
theorem arL:cv aq aa 149 5 7 [0,1,2,3,4,10,13] aeC [(.v 5)] U:=by refine⟨_,_,Tryz.func149,rfl,rfl,?_,?_,?_,?_,?_⟩<;>kernel_rfl
def Sp:List bb:=[AE,.ops [bc,ct,Ht,aT,.i .l (.call (.c (.fn 52 [] [])) [.l 0]),pK],.ret]
theorem aeD:cv aq aa 17 1 2 [0,2] Sp [(.v 1)] J:=by refine⟨_,_,Tryz.func17,rfl,rfl,?_,?_,?_,?_,?_⟩<;>kernel_rfl
def Sq:List bb:=[AE,Rj,.cond (.v 2) [AE,.ret] [],.ops [.i .l (.lx U 137 [.int j 0,.int j 0,.int j 0,.int j 0] 4 0 []),bc,.i .l (.app U 137 (.l 1) (.l 0)),pK],.ret]
theorem aeE:cv aq aa 52 1 3 [0,2,4] Sq [(.v 1)] J:=by refine⟨_,_,Tryz.func52,rfl,rfl,?_,?_,?_,?_,?_⟩<;>kernel_rfl
def aeF:List bb:=[sL,.ops [.i (.v 4) (.a8 (.v 0))],.block 0 [.ops [.i .l (.bin (.int j) .eql (.v 4) (.c (.int j 1))),d8],.cond (.v 5) [ad0,.ret] [.ops [.i .l (.bin (.int j) .eql (.v 4) (.c (.int j 2))),jM],.cond (.v 6) [ad1,.ret] [.ops [.i .l (.bin (.int j) .eql (.v 4) (.c (.int j 3))),nG],.cond (.v 7) [ad2,.ret] [.ops [LP,kZ],.cond (.v 8) [.ops [dc,hd,.i (.v 9) LQ],.cond (.v 9) [Ly,.ret] []] [.ops [.i .l (.bin (.int j) .eql (.v 4) (.c (.int j 5))),va],.cond (.v 10) [.ops [dc,hd,.i (.v 11) Sr],.cond (.v 11) [Ly,.ret] []] []]]]]],sL,.ret]
theorem arM:cv aq aa 136 3 12 [0,1,2,6,7,8,13,18,23,27,28,32] aeF [(.v 3)] J:=by refine⟨_,_,Tryz.func136,rfl,rfl,?_,?_,?_,?_,?_⟩<;>kernel_rfl
def aeG:List bb:=[Ep,.ops [acL,K',.i .l (.Kr 2 [.int j 0] (.c (.int j 12)) (.c (.int j 12))),.i .l (.build [.e',.aJ,.aJ,.e',.e',.e',.e',.int j 0,.int j 0,.aJ,.int j 0,.int j 0,.aJ,.int j 0,.int j 0,.aJ,.int j 0,.int j 0,.aJ,.aJ,.aJ,.aJ,.aJ] [(0,1),(1,1),(2,1),(3,4),(7,12),(19,4)] [(0,(.l 1)),(1,(.l 0))]),.i .l (.box 23 (.l 0)),B8],.ret]
theorem arN:cv aq aa 25 0 1 [0] aeG [(.v 0)] U:=by refine⟨_,_,Tryz.func25,rfl,rfl,?_,?_,?_,?_,?_⟩<;>kernel_rfl
def Hu:List bb:=[aeH,.ops [dc,qp,cn,zg,LR,aeI],.cond (.v 7) [LS,.ret] [],.ops [EJ,.i .l (.call (.c (.fn 82 [] [])) [.l 0]),aeJ,aeK],.ops [Ss,aT,FS],.cond (.v 8) [.ops [Ss,aT,je],.ret] [],.ops [EJ,.i .l (.call (.c (.fn 83 [] [])) [.l 0]),.i (.v 6) GT,.i .n (.store 1 (.v 6) (.l 0))],.ops [bc,dc,xQ,AO,xD,.i .n (.store 1 (.l 0) (.v 6))],.ops [bc,dc,lU,xC,wG,.i .l (.fe ag (o (4,3)) (.l 0) (.l 3)),aeL],u2,.ret]
theorem LU:cv aq aa 44 3 9 [0,1,2,5,6,7,8,14,19] Hu [(.v 4)] U:=by refine⟨_,_,Tryz.func44,rfl,rfl,?_,?_,?_,?_,?_⟩<;>kernel_rfl
def aeM:List bb:=[Hd]
def LV:List aE:=[bc,bc,sU,(.i .l (.lx J 35 [(.int j 0),(.int j 0),.aJ] 3 1 [(0,(.l 0))])),(.i .l (.call (.c (.fn 88 [] [])) [(.l 3)])),(.ca [⟨ag,J,3,(.v 2),(.l 2)⟩]),(.i .l (.call (.c (.fn 88 [] [])) [(.l 3)])),(.ca [⟨ag,J,3,(.v 2),(.l 3)⟩]),ct,xN,aT,(.i .l (.app J 35 (.l 0) (.l 5))),(.i .l (.lN (.l 5))),xN,lT]
def LW:List aE:=[bc,bc,sU,(.i .l (.call (.c (.fn 88 [] [])) [(.l 2)])),(.ca [⟨ag,J,3,(.v 2),(.l 1)⟩]),(.i .l (.lx J 35 [(.int j 0),(.int j 0),.aJ] 3 1 [(0,(.l 1))])),(.i .l (.call (.c (.fn 88 [] [])) [(.l 3)])),(.ca [⟨ag,J,3,(.v 2),(.l 3)⟩]),ct,xN,aT,(.i .l (.app J 35 (.l 0) (.l 4))),Ek,xN,lT]
def LX:List aE:=[bc,bc,sU,(.i .l (.call (.c (.fn 88 [] [])) [(.l 2)])),(.ca [⟨ag,J,3,(.v 2),(.l 1)⟩]),(.i .l (.call (.c (.fn 88 [] [])) [(.l 2)])),(.ca [⟨ag,J,3,(.v 2),(.l 2)⟩]),ct,xN,aT,(.i .l (.lx J 35 [(.int j 0),(.int j 0),.aJ] 3 1 [(0,(.l 5))])),(.ca [⟨ag,U,1,(.l 2),(.l 1)⟩]),(.i .l (.app J 35 (.l 1) (.l 0))),Ek,xN,lT]
def eV:gu->gu
 |.seq a _=>a
 |c=>c
def hf:gu->gu
 |.seq _ b=>b
 |c=>c
def nd:gu->Array bm
 |.region _ ops _=>ops
 |_=> #[]
section
variable{P:c'}{aa:iQ}{f:di}{n aZ:Nat}{bk:List Nat}{h E:ai}{t V gI:List F}
theorem ma{a:Nat}(de:uW a n (aa.aZ f) aZ bk=J):bk.Nodup/\∀D s,bk[D]? =o s->(D<aZ↔s<aa.aZ f):=by
 unfold uW at de;simp only[gv,decide_eq_true_eq,jW,kD,beq_iff_eq,bne_iff_ne,ne_eq]at de;obtain⟨⟨aP,a2⟩,bl⟩:=de;have get:∀D s,bk[D]? =o s->D<bk.length/\bk.getD D 0=s:=λD s ae=>⟨(fO.1 ae).1,by simp[cZ,ae]⟩;refine⟨?_,λD s ae=>?_⟩
 ·rw[List.nodup_iff_pairwise_ne,List.pairwise_iff_getElem];intro i D af ae hY e;have:=(bl D ae).2 i hY;apply this;simp[cZ,af,ae,e]
 ·obtain⟨cS,cf⟩:=get D s ae;have:=(bl D cS).1.1.2;rw[cf]at this;exact decide_eq_decide.1 this
theorem xR(dx:m0 P aa){c:gu}{l:List bb}{x:k8}(qv:bk.Nodup/\∀D s,bk[D]? =o s->(D<aZ↔s<aa.aZ f))(j9:hF P (aa.bh f) (aa.cM f) n bk c []=o l)(Cs:i9 (aa.cM f) (aa.fy f) c=J)(au:bB (aU P aa) aZ [.bP l,.halt K] V [] h=o (x,gI,E))(cL:hG n bk [] t V []):∃dQ,(∀(m:ey) (w:dO) (a:Act) (b:g') (cs:List g'),cp P m h w->ep P m h t a.tmps->a.defers=b.defers->fc P (aa.fy f) m h w b cs (fr (b.at a (.code c::K)) cs w) (x,dQ,E))/\hG n bk [] dQ gI []:=by obtain⟨dQ,e,v9⟩:=(KB (n:=n) (f:=f) qv.1 qv.2 _ _ _ _ _ au).1 [.code c,.halt K] t (.bP [c] l [.halt K] [.halt K] (by simp[ny,j9]) (.halt K [] [])) cL;refine⟨dQ,λm w a b cs hw a6 bg=>?_,v9⟩;exact(Ko dx f _ t h _ e).cY (.code c::K) (.code c _ _ Cs (.halt K [])) b cs m w a hw a6 bg
theorem LY{g:di}{c:gu}(bo:P.funcs[g]? =o fn)(ad:fn.body=o c)(bI:List b')(fj:CallKind):(kC P g bI.toArray fj).at {tmps:=(bI++ap (fn.ntmps - bI.length) g0).toArray,defers:=[]} [.code c]=kC P g bI.toArray fj:=by simp[kC,Frame.at,bo,ad]
theorem LZ{m:ey}{k:Nat}{bI:List b'}(Z:eb P m h args bI):ep P m h (args++ap (k - args.length) .aD) (bI++ap (k - bI.length) g0).toArray:=by
 have am:=Z.1;have R:eb P m h (args++ap (k - args.length) .aD) (bI++ap (k - bI.length) g0):=by rw[am];exact eb.append Z ⟨by simp,λD ae dM=>by simp only[List.getElem_replicate];exact .aD _⟩
 refine⟨by simpa using R.1,λi af=>?_⟩;have iG:i<(bI++ap (k - bI.length) g0).length:=by rw[R.1];exact af
 have:=R.2 i af iG;simp only[jo,List.getElem?_toArray,fT iG,qT];exact this
theorem aeN{m:ey}{cK:Array b'}(a6:ep P m h t cK){i:Nat}(af:i<t.length):b8 P m h (t.getD i .aD) (cK.getD i g0):=by have:=a6.2 i af;simpa[cZ,af]using this
end
open Go Go.RowKit
section
variable{P:c'}{aa:iQ}{f:di}{n aZ:Nat}{bk:List Nat}{h E:ai}{t V gI:List F}{all:Array bm}{pl:List (Nat×List Nat)}{dD:Nat->Nat->Prop}
theorem aeO(dx:m0 P aa){bT:List aE}{x:k8}(pp:uO all pl (λ_=>U) dD)(nV:z5 (aa.fy f) all=J)(qv:bk.Nodup/\∀D s,bk[D]? =o s->(D<aZ↔s<aa.aZ f))(j9:oy P (aa.bh f) n bk all [] (jT J all pl)=o bT)(au:bB (aU P aa) aZ [.ops bT,.halt K] V [] h=o (x,gI,E))(cL:hG n bk [] t V []):∃dQ,(∀(m:ey) (w:dO) (a:Act) (b:g') (cs:List g') (L:List Nat),mg all dD (m6 all) L->cp P m h w->ep P m h t a.tmps->a.defers=b.defers->fc P (aa.fy f) m h w b cs (fr (b.at a (.inRegion all L::K)) cs w) (x,dQ,E))/\hG n bk [] dQ gI []:=by
 obtain⟨dQ,e,v9⟩:=(KB (n:=n) (f:=f) qv.1 qv.2 _ _ _ _ _ au).2.1 J all (jT J all pl) bT [.halt K] [] t [.halt K] rfl j9 (.halt K [] []) cL;refine⟨dQ,λm w a b cs L c1 hw a6 bg=>?_,v9⟩;obtain⟨ay,t2,R,az,he⟩:=Ko dx f _ t h _ e;refine PS dx pp nV az (λdj=>?_) (λv dj=>?_) c1 hw a6 bg
 ·subst dj;exact λcO cx aP bR bQ da=>he K (.halt K []) b cs cO cx aP bR bQ da
 ·subst dj;exact he
theorem aeP(dx:m0 P aa)(xo:∀D,D<all.size->∀e∈(fI all D).after,lF .any e=J->e.on<D){id:Nat}{b:g'}{a:Act}{cs:List g'}{w:dO}:∃L bj,mg all (λ_ _=>False) (m6 all) L/\Steps P (fr (b.at a (.code (.region id all J)::K)) cs w) (fr (b.at a (.inRegion all L::K)) cs bj)/\(∀(m:ey) (h:ai),cp P m h w->cp P m h bj)/\∀base,Below base w bj:=by refine⟨_,_,?_,.one step_region_draw,λm h hw=>hw.drew,λbase=>(nq _ _).drew⟩;simp only[Region.schedule,dx.mixed,Bool.true_or,if_true,Region.linearise];exact J' xo _ _ _ (by simp) (by simp[List.countP_replicate])
end
open Go Go.RowKit
section
variable{P:c'}{aa:iQ}{f:di}{n aZ:Nat}{bk:List Nat}{h:ai}
def oJ(P:c')(aa:iQ)(f:di)(n:Nat)(bk:List Nat)(args:List F)(h:ai)(x:k8)(V:List F)(R:ai):Prop:=∀(m:ey) (w:dO) (bI:List b'),cp P m h w->eb P m h args bI->∀cs:List g',∃(fC:g') (t2:List F),fC.fn=f/\fC.kind= .normal/\fC.defers=[]/\hG n bk [] t2 V []/\fc P (aa.fy f) m h w fC cs (fr (kC P f bI.toArray .normal) cs w) (x,t2,R)
theorem oJ.start{c:gu}(bo:P.funcs[f]? =o fn)(ad:fn.body=o c)(aA:fn.ntmps=n)(cL:hG n bk [] (args++ap (n - args.length) .aD) (args++ap (bk.length - args.length) .aD) []):oJ P aa f n bk args h (.halt [.code c]) (args++ap (bk.length - args.length) .aD) h:=by
 intro m w bI hw fQ cs;have he:=LY bo ad bI .normal;have a6:=LZ (P:=P) (h:=h) (k:=n) fQ;rw[aA]at he;refine⟨kC P f bI.toArray .normal,_,by simp[kC],by simp[kC],by simp[kC],cL,m,w,Ext.refl _ _,hw,nq _ _,{tmps:=_,defers:=[]},a6,?_,?_⟩
 ·simp[kC]
 ·conv=>lhs;rw[<-he]
  exact .refl _ _
theorem oJ.next(dx:m0 P aa){c A B:gu}{l:List bb}{aj:ai}{x:k8}(p:oJ P aa f n bk args h (.halt [.code c]) V R)(an:c= .seq A B)(qv:bk.Nodup/\∀D s,bk[D]? =o s->(D<aZ↔s<aa.aZ f))(j9:hF P (aa.bh f) (aa.cM f) n bk A []=o l)(Cs:i9 (aa.cM f) (aa.fy f) A=J)(au:bB (aU P aa) aZ [.bP l,.halt [.code B]] V [] R=o (x,gI,aj)):oJ P aa f n bk args h x gI aj:=by
 intro m w bI hw fQ cs;obtain⟨fC,t2,cg,c0,fq,cL,cO,cx,cb,dF,gH,aP,h7,hE,j4⟩:=p m w bI hw fQ cs;obtain⟨t3,az,Ct⟩:=xR dx qv j9 Cs au cL;have m5:=az cO cx aP fC cs dF h7 hE;have fB:Steps P (fr (kC P f bI.toArray .normal) cs w) (fr (fC.at aP [.code A,.code B]) cs cx):=by
  refine j4.trans ?_
  conv=>lhs;rw[an]
  exact .one step_seq
 exact⟨fC,t3,cg,c0,fq,Ct,fc.steps fB (fc.after cb gH m5)⟩
theorem St{rs:List o8}{t:List F}{h:ai}{v:F}(lr:q3 P bk fn.results.toList=o rs)(cL:hG n bk [] t V [])(Z:(jc V h rs).map ju=o v):ry fn t h P=o v:=by unfold ry;rw[D6 (h:=h) cL lr];exact Z
theorem oJ.ret{fn:Func}{rs:List o8}{args V:List F}{R:ai}{v:F}(p:oJ P aa f n bk args h .ret V R)(bo:P.funcs[f]? =o fn)(lr:q3 P bk fn.results.toList=o rs)(Z:(jc V R rs).map ju=o v):AC P f args h (.inl v,R):=by intro m w bI hw fQ cs;obtain⟨fC,t2,cg,c0,fq,cL,bf,bj,cb,dF,gH,eR,todo,h7,hE,j4⟩:=p m w bI hw fQ cs;rw[fq]at hE;obtain⟨u,de,hu⟩:=Af dF h7 (St (h:=R) lr cL Z);exact⟨.returned u,bj,_,⟨bf,cb,dF,gH,u,rfl,hu⟩,j4,cg,rfl,hE,c0,_,by simp[Frame.at,cg,bo],de⟩
theorem arO{t:List F}{i:Nat}{v:F}(cL:hG n bk [] t V [])(af:i ∉ bk):hG n bk [] (fN t (o i) v) V []:=by refine⟨by simpa[fN]using cL.len,cL.bn,cL.sF,λD s ae=>?_,λD s ae=>by simp at ae⟩;obtain⟨I,R⟩:=cL.v D s ae;refine⟨I,?_⟩;rw[<-R];have dw:i≠s:=λe=>af (by rw[e];exact o6 ae);simp[fN,cZ,dw]
def wI(a:Act)(fX:List Nat):List b':=fX.map λi=>a.tmps.getD i g0
theorem arP{m:ey}{t:List F}{a:Act}{fX vc:List Nat}(cL:hG n bk [] t V [])(a6:ep P m R t a.tmps)(an:fX=vc.map λD=>bk.getD D 0)(ae:∀D∈vc,D<bk.length):eb P m R (vc.map λD=>V.getD D .aD) (wI a fX):=by
 subst an;refine⟨by simp[wI],λi I R=>?_⟩;simp only[fM]at I;have ba:=ae _ (jl I);have aC:bk[vc[i]]? =o (bk.getD vc[i] 0):=by simp[cZ,ba]
 obtain⟨bR,bQ⟩:=cL.v _ _ aC;have:=aeN a6 (i:=bk.getD vc[i] 0) (by rw[cL.len];exact bR);rw[bQ]at this;simpa[wI]using this
theorem eb.arQ{m bf:ey}{h E:ai}{l:List F}{us:List b'}(v:eb P m h l us)(x:Ext m h bf E):eb P bf E l us:=⟨v.1,λD I R=>(v.2 D I R).ext x⟩
theorem aeQ{P:c'}{t dQ:List F}{h:ai}:∀{l:List ResultVar},(∀r∈l,∃i ty,r= .cell i ty/\t.getD i .aD=dQ.getD i .aD)->rx P t h l=rx P dQ h l
 |[],_=>rfl
 |r::l,am=>by obtain⟨i,ty,rfl,e⟩:=am r (List.mem_cons_self ..);have aR:rx P t h l=rx P dQ h l:=aeQ λq aX=>am q (List.mem_cons_of_mem _ aX);simp only[rx,e,aR]
def EK(gf:di)(us:List b'):b':=.func (.func gf) #[] us.toArray
def vd(gf:di)(us:List b'):Deferred:={target:=.fn (.func gf) us.toArray,args:= #[]}
inductive Su(P:c')(gf:di)(zp:List F)(aj aH:ai):k8->Prop
 |ret (mh:∀(m:ey) (w:dO) (e7:List b'),cp P m aj w->eb P m aj zp e7->CallsD P gf e7.toArray .returning w λe pg bj=>(∃v,e= .returned v)/\pg= .returning/\∃bf,Ext m aj bf aH/\cp P bf aH bj/\Below m.base w bj):Su P gf zp aj aH .ret
 |panic (v:F) (mh:∀(m:ey) (w:dO) (e7:List b') (u:b'),cp P m aj w->eb P m aj zp e7->b8 P m aj v u->CallsD P gf e7.toArray (.panicking [{v:=u,recovered:=U}]) w λe pg bj=>(∃v,e= .returned v)/\pg= .panicking [{v:=u,recovered:=J}]/\∃bf,Ext m aj bf aH/\cp P bf aH bj/\Below m.base w bj):Su P gf zp aj aH (.panic v)
theorem aeR(dx:m0 P aa){rs:List o8}{aj aH:ai}{n3 n4:gu}{gf:di}{k:Nat}{fX vc:List Nat}{l:List bb}{x:k8}{r:F}(p:oJ P aa f n bk args h (.halt [.code n3]) V R)(bo:P.funcs[f]? =o fn)(L0:∃qw,P.funcs[(gf:Nat)]? =o qw/\(qw.body.isNone=U/\(qw.name== "runtime.NumGoroutine")=U))(ab:k ∉ bk)(an:fX=vc.map λD=>bk.getD D 0)(ae:∀D∈vc,D<bk.length)(lay:∀(fC:g') (a:Act) (cs:List g') (w:dO),a.tmps.size=n->Steps P (fr (fC.at a [.code n3]) cs w) (fr (fC.at {a.put (o k) (EK gf (wI a fX))with defers:=vd gf (wI a fX)::a.defers} [.code n4]) cs w))(qv:bk.Nodup/\∀D s,bk[D]? =o s->(D<aZ↔s<aa.aZ f))(j9:hF P (aa.bh f) (aa.cM f) n bk n4 []=o l)(Cs:i9 (aa.cM f) (aa.fy f) n4=J)(au:bB (aU P aa) aZ [.bP l,.halt []] V [] R=o (x,gI,aj))(nV:∀r∈fn.results.toList,∃i ty,r= .cell i ty/\aa.fy f i=J)(he:Su P gf (vc.map λD=>V.getD D .aD) aj aH x)(lr:q3 P bk fn.results.toList=o rs)(Z:(jc gI aH rs).map ju=o r):AC P f args h (.inl r,aH):=by
 intro m w bI hw fQ cs;obtain⟨fC,t2,cg,c0,fq,cL,c8,gn,cb,dF,gH,a2,h7,hE,j4⟩:=p m w bI hw fQ cs;rw[fq]at hE;have fa:a2.tmps.size=n:=by rw[h7.1,cL.len]
 have lay:=lay fC a2 cs gn fa;have Hv:=arP cL h7 an ae;generalize wI a2 fX=us at lay Hv;rw[hE]at lay;have Hw:=h7.put (b8.aD (EK gf us)) (o k);have Ct:=arO (i:=k) (v:=.aD) cL ab;obtain⟨t5,az,AP⟩:=xR dx qv j9 Cs au Ct;obtain⟨hK,iz,fU,jV,ls,ot⟩:=az c8 gn {a2.put (o k) (EK gf us)with defers:=[vd gf us]} {fC with defers:=[vd gf us]} cs dF Hw rfl;have aeS:=eb.arQ Hv fU;have cX:ry fn t5 aH P=o r:=St lr AP Z;have inv:(invoke (.fn (.func gf) us.toArray) #[]).run P iz= .ok (.enter gf us.toArray) iz:=by
  obtain⟨qw,cS,cf,eQ⟩:=L0;have arR:¬qw.name= "runtime.NumGoroutine":=by simpa using eQ
  have arS:¬qw.body=ag:=by cases ad:qw.body with|none=>rw[ad]at cf;cases cf|some c=>simp
  simp[go_sem,callFunc,cS,arS,arR]
 have aeT:∀{d':ey} {bj:dO},Below hK.base iz bj->Below m.base w bj:=by intro d' bj ha;have bR:c8.base=m.base:=cb.base;have bQ:hK.base=c8.base:=fU.base;rw[bQ,bR]at ha;rw[bR]at ls;exact(gH.trans ls).trans ha
 cases he with
 |ret mh=>
   obtain⟨ej,todo,ei,fd,ha⟩:=ot;have ve:Leaves P fn ej.tmps (λe bj=>∃bf,Ext m h bf aH/\cp P bf aH bj/\Below m.base w bj/\∃u,e= .returned u/\b8 P bf aH r u) [vd gf us] .returning iz:=by refine leaves_cons (f:=gf) (args:=us.toArray) (by simp) inv ?_;refine(mh hK iz us jV aeS).mono ?_;rintro e pg bj ⟨⟨v,rfl⟩,rfl,d',fA,kX,mb⟩;obtain⟨u,de,hu⟩:=Af kX (ei.ext fA) cX;exact⟨u,de,d',(cb.trans fU).trans fA,kX,aeT (d':=d') mb,u,rfl,hu⟩
   obtain⟨e,h8,Cu,hS,aC,pF,am⟩:=leaves_steps [vd gf us] .returning iz {(({fC with defers:=[vd gf us]}:g').at ej todo)with mode:=.returning} cs rfl fd rfl (by simp[Frame.at,cg,bo]) (by simpa[Frame.at]using c0) ve;exact⟨e,h8,Cu,hS,Comes.of_steps (j4.trans (lay.trans ha)) aC,pF.trans cg,am⟩
 |panic v mh=>
   obtain⟨ej,todo,u,⟨vX,qx,ei⟩,fd,l4,ha⟩:=ot;have arT:ry fn vX aH P=o r:=by rw[<-cX];unfold ry;rw[aeQ λq aX=>by obtain⟨i,ty,e,af⟩:=nV q aX;exact⟨i,ty,e,ei i af⟩]
   have ve:Leaves P fn ej.tmps (λe bj=>∃bf,Ext m h bf aH/\cp P bf aH bj/\Below m.base w bj/\∃u,e= .returned u/\b8 P bf aH r u) [vd gf us] (.panicking [{v:=u,recovered:=U}]) iz:=by refine leaves_cons (f:=gf) (args:=us.toArray) (by simp) inv ?_;refine(mh hK iz us u jV aeS l4).mono ?_;rintro e pg bj ⟨⟨v,rfl⟩,rfl,d',fA,kX,mb⟩;obtain⟨hD,de,hu⟩:=Af kX (qx.ext fA) arT;exact⟨hD,de,d',(cb.trans fU).trans fA,kX,aeT (d':=d') mb,hD,rfl,hu⟩
   obtain⟨e,h8,Cu,hS,aC,pF,am⟩:=leaves_steps [vd gf us] (.panicking [{v:=u,recovered:=U}]) iz {(({fC with defers:=[vd gf us]}:g').at ej todo)with mode:=.panicking [{v:=u,recovered:=U}]} cs rfl fd rfl (by simp[Frame.at,cg,bo]) (by simpa[Frame.at]using c0) ve;exact⟨e,h8,Cu,hS,Comes.of_steps (j4.trans (lay.trans ha)) aC,pF.trans cg,am⟩
theorem arU(c:g')(h:c.mode= .returning)(cs:List g'):recoverD (c::cs)=ag:=by simp[recoverD,h]
theorem arV{v:b'}(c:g')(h:c.mode= .panicking [{v:=v,recovered:=U}])(cs:List g'):recoverD (c::cs)=o (v,{c with mode:=.panicking [{v:=v,recovered:=J}]}::cs):=by simp[recoverD,h]
def aeU(P:c')(c:gu)(n bd aY:Nat):Prop:=∀(cK:Array b') (v:b') (cs hB:List g') (w:dO),cK.size=n->(recoverD cs=o (v,hB)\/(recoverD cs=ag/\v= .nilIface/\hB=cs))->c.wpS P (λe eR arW bj=>e= .normal/\arW=hB/\bj=w/\eR=(({tmps:=cK,defers:=[]}:Act).put (o bd) v).put (o aY) v) {tmps:=cK,defers:=[]} cs w
theorem aeV{qw:Func}{xS:gu}{bd aY:Nat}(dx:m0 P aa){l:List bb}{fX:List F}{E:ai}{e:F}(bo:P.funcs[f]? =o qw)(ad:qw.body=o xS)(arX:xS= .seq (eV xS) (hf xS))(aA:qw.ntmps=n)(mH:∀(a:Array b') (w:dO),∃v,(results qw a).run P w= .ok v w)(Sv:aeU P (eV xS) n bd aY)(qv:bk.Nodup/\∀D s,bk[D]? =o s->(D<aZ↔s<aa.aZ f))(j9:hF P (aa.bh f) (aa.cM f) n bk (hf xS) []=o l)(Cs:i9 (aa.cM f) (aa.fy f) (hf xS)=J)(au:bB (aU P aa) aZ [.bP l,.halt []] V [] h=o (.halt [],gI,E))(cL:hG n bk [] (fN (fN (fX++ap (n - fX.length) .aD) (o bd) e) (o aY) e) V []){m:ey}{w:dO}{e7:List b'}{v:b'}(hw:cp P m h w)(fQ:eb P m h fX e7)(lI:fX.length<=n)(Hx:b8 P m h e v){u:FrameMode}(g8:FrameMode)(nS:∀c:g',c.mode=u->∀cs,(recoverD (c::cs)=o (v,{c with mode:=g8}::cs))\/(recoverD (c::cs)=ag/\v= .nilIface/\g8=u)):CallsD P f e7.toArray u w λe pg bj=>(∃v,e= .returned v)/\pg=g8/\∃bf,Ext m h bf E/\cp P bf E bj/\Below m.base w bj:=by
 intro c cs bV;have he:=LY bo ad e7 .deferred;have a6:=LZ (P:=P) (h:=h) (k:=n) fQ;generalize Sw:kC P f e7.toArray .deferred=b at he;have uE:b.kind= .deferred:=by rw[<-Sw];simp[kC]
 have Hy:b.fn=f:=by rw[<-Sw];simp[kC]
 have Sx:b.roundOf=ag:=by rw[<-Sw];simp[kC]
 rw[aA]at he;generalize aV:(e7++ap (n - e7.length) g0).toArray=cK at he a6;have I:Steps P (fr b (c::cs) w) (fr (b.at {tmps:=cK,defers:=[]} [.code (eV xS),.code (hf xS)]) (c::cs) w):=by
  rw[<-he]
  conv=>lhs;rw[arX]
  exact .one step_seq
 have fa:cK.size=n:=by rw[a6.1];simp only[fz,List.length_replicate];omega
 have p7:recoverD (c::cs)=o (v,{c with mode:=g8}::cs)\/(recoverD (c::cs)=ag/\v= .nilIface/\({c with mode:=g8}:g')::cs=c::cs):=by
  rcases nS c bV cs with I|⟨I,R,aj⟩
  ·exact .inl I
  ·have aH:({c with mode:=g8}:g')=c:=by rw[aj,<-bV]
   exact .inr ⟨I,R,by rw[aH]⟩
 obtain⟨aw,aP,P9,cx,⟨rfl,rfl,rfl,rfl⟩,Cv⟩:=Sv cK v _ _ w fa p7 b [.code (hf xS)] uE Sx;have EL:=(a6.put (a:={tmps:=cK,defers:=[]}) Hx (o bd)).put Hx (o aY);obtain⟨dQ,az,Cw⟩:=xR dx qv j9 Cs au cL;obtain⟨bf,bj,cb,dF,gH,eR,h7,hE,j4⟩:=az m cx _ {b with defers:=[]} ({c with mode:=g8}::cs) hw EL rfl;have pC:Steps P (fr b (c::cs) cx) (fr {b.at eR []with mode:=.returning} ({c with mode:=g8}::cs) bj):=I.trans (Cv.trans (j4.trans (.one step_end)));obtain⟨fJ,o7⟩:=mH eR.tmps bj;refine⟨.returned fJ,g8,bj,_,⟨⟨_,rfl⟩,rfl,bf,cb,dF,gH⟩,pC,uE,rfl,hE,qw,?_,o7⟩;show P.funcs[b.fn]? =_;rw[Hy];exact bo
end
end Go.Proofs.YtkdbjfncchmmpaaGreat
