/- What simple steps come to: for 'simp only'. -/
import Derived.Test.YtkdbjfncchmmpaaGreatMg2
import Derived.WalkKit
import Derived.Test.YtkdbjfncchmmpaaGreatRows
import Derived.Recover
import Derived.ProofKit
import Derived.OpenShut
import Derived.ShutString
import Derived.ChangeOld
import Derived.Deep.Slices
import Derived.Deep.Fields
import Derived.Lib.SmallJoins
namespace Go.Proofs.YtkdbjfncchmmpaaGreat
open Nat (reduceAdd reduceSub reduceLeDiff reduceLT)
open List (replicate)
set_option linter.unusedSimpArgs false
set_option linter.unusedVariables false
open Go
section
variable {C:sV} {nv:Nat} {k:List RK} {V L:List AV} {h h0:AH} {kd:Kd} {q:IntKind}
theorem JB {a b:Int}:bk kd .add (.int q a) (.int q b)=some (.int q (q.wrap (a+b))):=by simp[bk,kh]
theorem Jo {a b:Int}:bk kd .sub (.int q a) (.int q b)=some (.int q (q.wrap (a - b))):=by simp[bk,kh]
theorem Js {a b:Int}:bk kd .mul (.int q a) (.int q b)=some (.int q (q.wrap (a*b))):=by simp[bk,kh]
theorem JC {a b:Int}:bk kd .eql (.int q a) (.int q b)=some (.bool (decide (a=b))):=by simp[bk,kh];rfl
theorem Jp {a b:Int}:bk kd .neq (.int q a) (.int q b)=some (.bool (!decide (a=b))):=by simp[bk,kh];rfl
theorem Jm {a b:Int}:bk kd .lss (.int q a) (.int q b)=some (.bool (decide (a<b))):=by simp[bk,kh]
theorem Jc {a b:Int}:bk kd .leq (.int q a) (.int q b)=some (.bool (decide (a≤b))):=by simp[bk,kh]
theorem Jk {a b:Int}:bk kd .gtr (.int q a) (.int q b)=some (.bool (decide (b<a))):=by simp[bk,kh]
theorem JS {a b:Int}:bk kd .geq (.int q a) (.int q b)=some (.bool (decide (b≤a))):=by simp[bk,kh]
theorem JE {a b:Int}:bk kd .and (.int q a) (.int q b)=some (.int q (q.wrap (BitVec.ofInt q.bits a &&& BitVec.ofInt q.bits b).toNat)):=by simp[bk,kh]
theorem Ma {a b:Int}:bk kd .or (.int q a) (.int q b)=some (.int q (q.wrap (BitVec.ofInt q.bits a ||| BitVec.ofInt q.bits b).toNat)):=by simp[bk,kh]
theorem yd {a b:Int}:bk kd .andNot (.int q a) (.int q b)=some (.int q (q.wrap (BitVec.ofInt q.bits a &&& ~~~(BitVec.ofInt q.bits b)).toNat)):=by simp[bk,kh]
theorem FY {a b:List UInt8}:bk kd .eql (.str a) (.str b)=some (.bool (decide (a=b))):=by by_cases hh:a=b<;>simp[bk,hh]
theorem Fz {a b:List UInt8}:bk kd .neq (.str a) (.str b)=some (.bool (!decide (a=b))):=by by_cases hh:a=b<;>simp[bk,hh]
theorem Ea {a b:Bool}:bk .bool .eql (.bool a) (.bool b)=some (.bool (a==b)):=by simp[bk,eqA]
theorem FS {a b:Bool}:bk .bool .neq (.bool a) (.bool b)=some (.bool (!(a==b))):=by simp[bk,eqA]
theorem EX {z:TypeId} {es:List (List AV)} {i:Option Nat}:bk .slice .eql (.isl i z es) .nils=some (.bool false):=by simp[bk,eqA]
theorem rZ:bk .slice .eql .nils .nils=some (.bool true):=by simp[bk,eqA]
theorem Br {b o n:Nat} {z:TypeId}:bk .slice .eql (.msl b o n z) .nils=some (.bool false):=by simp[bk,eqA]
theorem IR {b:Bool}:unA .not (.bool b)=some (.bool !b):=rfl
theorem JZ {a:Int}:unA .neg (.int q a)=some (.int q (q.wrap (0 - a))):=rfl
theorem IM {p:IntKind} {a:Int}:cvA (.int q) (.int p a)=some (.int q (q.wrap a)):=rfl
theorem IY {s:List UInt8}:cvA .str (.str s)=some (.str s):=rfl
theorem bV {agg:Bool} {n b i off:Nat}:aK agg n h (.ptr b i off)=((h.cell b).bind (·[i]?)).bind fun e=>ldA agg n e off:=rfl
theorem Mr {agg:Bool} {n off:Nat} {e:List AV}:aK agg n h (.ip e off)=ldA agg n e off:=rfl
theorem eN {n off:Nat} {e:List AV}:ldA false n e off=e[off]? :=rfl
theorem br {n:Nat} {e:List AV} (he:e.length=n):ldA true n e 0=some (.agg e):=by subst he;simp[ldA]
theorem uW {e el:TypeId} {id:Option Nat} {es:List (List AV)} {i:Nat} {r:List AV} (he:e=el) (hi:es[i]? =some r):cj (some e) none (.isl id el es) (.int q (i:Int))=some (.ip r 0):=by simp[cj,he,hi]
theorem vn {e el:TypeId} {b o n i:Nat} (he:e=el) (hi:i<n):cj (some e) none (.msl b o n el) (.int q (i:Int))=some (.ptr b (o+i) 0):=by simp[cj,he,hi]
theorem IP {b i o off:Nat}:aH off (.ptr b i o)=some (.ptr b i (o+off)):=rfl
theorem Mq {e:List AV} {o off:Nat}:aH off (.ip e o)=some (.ip e (o+off)):=rfl
theorem I8 {b i o:Nat}:wQ (.ptr b i o)=some (.ptr b i o):=rfl
theorem Mf {e:List AV} {o:Nat}:wQ (.ip e o)=some (.ip e o):=rfl
theorem vM:dO .nils=some 0:=rfl
theorem Bm {id:Option Nat} {el:TypeId} {es:List (List AV)}:dO (.isl id el es)=some es.length:=rfl
theorem BW {b o n:Nat} {el:TypeId}:dO (.msl b o n el)=some n:=rfl
theorem BQ {s:List UInt8}:dO (.str s)=some s.length:=rfl
theorem sQ {s:Bool} {e:TypeId}:cU s (some e) .nils=true:=rfl
theorem jh {s:Bool} {e:TypeId} {id:Option Nat} {es:List (List AV)}:cU s (some e) (.isl id e es)=true:=by simp[cU]
theorem ji {s:Bool} {e:TypeId} {b o n:Nat}:cU s (some e) (.msl b o n e)=true:=by simp[cU]
theorem xU {e:Option TypeId} {l:List UInt8}:cU true e (.str l)=true:=rfl
theorem bi {b:Nat} {es:Option (List (List AV))}:(h.set b es).cell b=es:=by simp[AH.set]
theorem aV {b j:Nat} {es:Option (List (List AV))} (hj:j≠b):(h.set b es).cell j=h.cell j:=by simp[AH.set,hj]
theorem dA {b:Nat} {es:Option (List (List AV))}:(h.set b es).n=h.n:=rfl
theorem kL {b:Nat} {es:Option (List (List AV))}:(h.set b es).ids=h.ids:=rfl
theorem nj {b:Nat} {es:Option (List (List AV))}:(h.set b es).hw=h.hw:=rfl
theorem aT {es:List (List AV)}:(h.push es).cell h.n=some es:=by simp[AH.push]
theorem fW {es:List (List AV)} {j:Nat} (hj:j≠h.n):(h.push es).cell j=h.cell j:=by simp[AH.push,hj]
theorem aJ {es:List (List AV)}:(h.push es).n=h.n+1:=rfl
theorem f8 {es:List (List AV)}:(h.push es).ids=h.ids:=rfl
theorem BZ {es:List (List AV)}:(h.push es).hw=h.hw:=rfl
theorem qt {m:Nat}:(h.fresh m).cell=h.cell:=rfl
theorem uC {m:Nat}:(h.fresh m).n=h.n:=rfl
theorem nQ {m:Nat}:(h.fresh m).ids=h.ids+1:=rfl
theorem mL {m:Nat}:(h.fresh m).hw h.ids=m:=by simp[AH.fresh]
theorem gd {m j:Nat} (hj:j≠h.ids):(h.fresh m).hw j=h.hw j:=by simp[AH.fresh,hj]
theorem sS {i m:Nat}:(h.grow i m).cell=h.cell:=rfl
theorem EU {i m:Nat}:(h.grow i m).n=h.n:=rfl
theorem wu {i m:Nat}:(h.grow i m).ids=h.ids:=rfl
theorem BB {i m:Nat}:(h.grow i m).hw i=m:=by simp[AH.grow]
theorem qR {i m j:Nat} (hj:j≠i):(h.grow i m).hw j=h.hw j:=by simp[AH.grow,hj]
def Acc (h0 h:AH) (e:TypeId) (v:AV) (acc:List (List AV)):Prop:=(acc=[]∧v= .nils)∨∃ id,acc≠[]∧h0.ids≤id∧id<h.ids∧h.hw id=acc.length∧v= .isl (some id) e acc
theorem gS (h0 h:AH) (e:TypeId):Acc h0 h e .nils []:= .inl ⟨rfl,rfl⟩
theorem jG {e:TypeId} {v:AV} {acc:List (List AV)} (ha:Acc h0 h e v acc) (g:ab h0 h) {row:List AV} (h1:row.all AV.one=true) (hl:acc.length≤1000000):
  ∃ v' h',aG false e v (.isl (some h.ids) e [row]) (h.fresh 1)=some (v',h')∧Acc h0 h' e v' (acc++[row])∧ab h0 h'∧h'.cell=h.cell∧h'.n=h.n:=by
 have g1:ab h0 (h.fresh 1):=g.trans (ab.fresh h 1)
 have h1':∀ x,x∈row→x.one=true:=by simpa using h1
 rcases ha with⟨rfl,rfl⟩ | ⟨id,a0,a1,a2,a3,rfl⟩
 ·refine⟨.isl (some (h.ids+1)) e [row],(h.fresh 1).fresh 1,?_,.inr ⟨h.ids+1,by simp,?_,?_,?_,by simp⟩,g1.trans (ab.fresh _ 1),rfl,rfl⟩
  ·simp only[aG,bS,if_true,Option.bind_some,List.length_singleton,Nat.one_ne_zero,if_false,dU]
   rw[if_pos ⟨by omega,by omega,by simpa using h1'⟩]
   rfl
  ·have:=g.ids;omega
  ·simp[AH.fresh]
  ·simp[AH.fresh]
 ·have hne:id≠h.ids:=by omega
  refine⟨.isl (some id) e (acc++[row]),(h.fresh 1).grow id (acc.length+1),?_,.inr ⟨id,by simp,a1,?_,?_,rfl⟩,g1.grow a1,rfl,rfl⟩
  ·simp only[aG,bS,if_true,Option.bind_some,List.length_singleton,Nat.one_ne_zero,if_false,dU]
   rw[if_pos ⟨by omega,by omega,by simpa using h1'⟩,gd hne,a3]
   simp only[true_and,hl,if_true]
  ·simp[AH.grow,AH.fresh];omega
  ·simp[AH.grow]
def ka:AV→Bool
 | .bool _ | .int _ _ | .str _ | .nilp | .nils | .nilf | .nili=>true
 | _=>false
theorem H3 {v:AV} (h:ka v=true):wkA v=some v:=by cases v<;>simp_all [ka,wkA]
theorem wO:∀ {l:List AV},l.all ka=true→wkL l=some l
 | [],_=>rfl
 | v::l,h=>by
   simp only[List.all_cons,Bool.and_eq_true]at h
   simp[wkL,H3 h.1,wO h.2]
theorem ir:∀ {l:List (List AV)},(∀ r∈l,r.all ka=true)→wkR l=some l
 | [],_=>rfl
 | v::l,h=>by simp only[wkR,wO (h v (List.mem_cons_self ..)),ir fun r hr=>h r (List.mem_cons_of_mem _ hr)]
def fI (e:TypeId) (es:List (List AV)):AV:=if es=[]then .nils else .isl none e es
theorem uP {e:TypeId} {v:AV} {acc:List (List AV)} (ha:Acc h0 h e v acc) (hf:∀ r∈acc,r.all ka=true):wkA v=some (fI e acc):=by
 rcases ha with⟨rfl,rfl⟩ | ⟨id,a0,_,a2,a3,rfl⟩
 ·rfl
 ·simp only[wkA,ir hf,Option.map_some,fI,if_neg a0]
structure IsL (e:TypeId) (v:AV) (rows:List (List AV)):Prop where
 len:dO v=some rows.length
 fits:∀ s,cU s (some e) v=true
 ix:∀ (q:IntKind) (i:Nat) row,rows[i]? =some row→cj (some e) none v (.int q (i:Int))=some (.ip row 0)
theorem oU (id:Option Nat) (e:TypeId) (rows:List (List AV)):IsL e (.isl id e rows) rows:=⟨rfl,fun s=>jh,fun q i row h=>uW rfl h⟩
theorem mp (e:TypeId):IsL e .nils []:=⟨rfl,fun s=>rfl,fun q i row h=>by simp at h⟩
theorem iJ (e:TypeId) (rows:List (List AV)):IsL e (fI e rows) rows:=by
 unfold fI
 split
 ·rename_i h
  subst h
  exact mp e
 ·exact oU _ _ _
def gB (w:Bool):AV→Option Bool
 | .bool b=>some (if w then b else !b)
 | .tup _=>some false
 | _=>none
theorem Gp {w:Bool} {vs:List AV}:gB w (.tup vs)=some false:=rfl
theorem Kf {a:Arg} {w:Bool}:lq V L a w=gB w (arg V L a):=by unfold lq gB;cases arg V L a<;>rfl
theorem AF {b w:Bool}:gB w (.bool b)=some (if w=true then b else !b):=rfl
theorem Jh {i id:Nat}:ez id (.blk i::k)=if i=id then some k else ez id k:=rfl
theorem Lz {l:List RS} {id:Nat}:ez id (.ss l::k)=ez id k:=rfl
theorem LL {l:List RS} {id:Nat}:ez id (.lp l::k)=ez id k:=rfl
theorem Jl {l:List RI} {id:Nat}:ez id (.ops l::k)=ez id k:=rfl
theorem AJ:ei V h []=some []:=rfl
theorem IX {j:Nat} {rs:List jV}:ei V h (.v j::rs)=(ei V h rs).map fun l=>V.getD j .junk::l:=rfl
theorem vU {agg:Bool} {n j:Nat} {rs:List jV}:ei V h (.cell agg n j::rs)=(aK agg n h (V.getD j .junk)).bind fun v=>(ei V h rs).map fun l=>v::l:=rfl
theorem Jd:eO []= .tup []:=rfl
theorem Jf {a:AV}:eO [a]=a:=rfl
theorem Jw {a b:AV}:eO [a,b]= .tup [a,b]:=rfl
theorem Jn {a b c:AV}:eO [a,b,c]= .tup [a,b,c]:=rfl
theorem GJ {a d:AV} {l:List AV}:(a::l).getD 0 d=a:=rfl
theorem Gt {a d:AV} {l:List AV} {n:Nat}:(a::l).getD (n+1) d=l.getD n d:=rfl
theorem Jq {d:AV} {n:Nat}:([]:List AV).getD n d=d:=rfl
theorem E2 {a b:AV} {l:List AV}:(a::l).set 0 b=b::l:=rfl
theorem Gn {a b:AV} {l:List AV} {n:Nat}:(a::l).set (n+1) b=a::l.set n b:=rfl
theorem DH {α:Type} {a:α} {l:List α}:(a::l)[0]? =some a:=rfl
theorem Ee {α:Type} {a:α} {l:List α} {n:Nat}:(a::l)[n+1]? =l[n]? :=rfl
theorem Jt {α:Type} {n:Nat}:([]:List α)[n]? =none:=rfl
theorem sM {cs:List AV}:(AV.agg cs).cells=cs:=rfl
theorem sa {n:Int}:(AV.int q n).cells=[.int q n]:=rfl
theorem qs {b:Bool}:(AV.bool b).cells=[.bool b]:=rfl
theorem sO {b:List UInt8}:(AV.str b).cells=[.str b]:=rfl
theorem qg:AV.nils.cells=[.nils]:=rfl
theorem rj:AV.nilp.cells=[.nilp]:=rfl
theorem tf {i:Option Nat} {z:TypeId} {es:List (List AV)}:(AV.isl i z es).cells=[.isl i z es]:=rfl
theorem sc {b o n:Nat} {z:TypeId}:(AV.msl b o n z).cells=[.msl b o n z]:=rfl
theorem tG {b o n:Nat}:(AV.ptr b o n).cells=[.ptr b o n]:=rfl
theorem AB {n:Int}:(AV.int q n).one=true:=rfl
theorem wX {b:Bool}:(AV.bool b).one=true:=rfl
theorem Aw {b:List UInt8}:(AV.str b).one=true:=rfl
theorem xJ:AV.nils.one=true:=rfl
theorem xk:AV.nilp.one=true:=rfl
theorem BP {i:Option Nat} {z:TypeId} {es:List (List AV)}:(AV.isl i z es).one=true:=rfl
theorem AR {b o n:Nat} {z:TypeId}:(AV.msl b o n z).one=true:=rfl
theorem Ab {b o n:Nat}:(AV.ptr b o n).one=true:=rfl
theorem sr {t:TypeId} {v:AV}:(AV.iface t v).one=true:=rfl
theorem xT {p:AV→Bool} {a:AV} {l:List AV}:(a::l).all p=(p a && l.all p):=rfl
theorem Am {p:AV→Bool}:([]:List AV).all p=true:=rfl
theorem BF {vs:List AV} {i:Nat}:Lp (.tup vs) i=vs[i]? :=rfl
theorem vX {pl:List (Nat×Nat)} {cs:List AV}:gA pl cs []=some cs:=by cases pl<;>rfl
def f1A (pl:List (Nat×Nat)) (cs:List AV) (v:AV) (r:List (Nat×AV)):Option (Nat×Nat)→Option (List AV)
 | some (off,size)=>if v.cells.length=size∧off+size≤cs.length∧v.cells.all AV.one=true then gA pl (stA cs off v.cells) r else none
 | none=>none
theorem tq {pl:List (Nat×Nat)} {cs:List AV} {i:Nat} {v:AV} {r:List (Nat×AV)}:gA pl cs ((i,v)::r)=f1A pl cs v r pl[i]? :=by
 conv=>lhs;unfold gA
 cases pl[i]? with
 | none=>rfl
 | some q=>rfl
theorem sW {pl:List (Nat×Nat)} {cs:List AV} {off size:Nat} {v:AV} {r:List (Nat×AV)} (h1:v.cells.length=size) (h2:off+size≤cs.length) (h3:v.cells.all AV.one=true):
  f1A pl cs v r (some (off,size))=gA pl (stA cs off v.cells) r:=by simp[f1A,h1,h2,h3]
def s1A (n:Nat) (h:AH) (b i off:Nat) (cs:List AV):Option (List (List AV))→Option AH
 | some es=>(es[i]?).bind fun e=>if cs.all AV.one=true∧cs.length=n∧off+n≤e.length then some (h.set b (some (es.set i (stA e off cs))))else none
 | none=>none
def s2A (n:Nat) (h:AH) (b i off:Nat) (cs:List AV) (es:List (List AV)):Option (List AV)→Option AH
 | some e=>if cs.all AV.one=true∧cs.length=n∧off+n≤e.length then some (h.set b (some (es.set i (stA e off cs))))else none
 | none=>none
theorem s_1 {n b i off:Nat} {x:AV}:aE n h (.ptr b i off) x=s1A n h b i off x.cells (h.cell b):=by
 simp only[aE]
 cases h.cell b<;>rfl
theorem s_2 {n b i off:Nat} {cs:List AV} {es:List (List AV)}:s1A n h b i off cs (some es)=s2A n h b i off cs es es[i]? :=by
 simp only[s1A]
 cases es[i]? <;>rfl
theorem s_3 {n b i off:Nat} {cs:List AV} {es:List (List AV)} {e:List AV} (h1:cs.all AV.one=true) (h2:cs.length=n) (h3:off+n≤e.length):s2A n h b i off cs es (some e)=some (h.set b (some (es.set i (stA e off cs)))):=by simp[s2A,h1,h2,h3]
theorem sH {n:Nat} {es:List (List AV)}:jc n es []=some es:=by cases es<;>rfl
theorem pO {n:Nat} {es:List (List AV)} {i:Nat} {v:AV} {r:List (Nat×AV)} (h1:v.cells.length=n) (h2:i<es.length) (h3:v.cells.all AV.one=true):jc n es ((i,v)::r)=jc n (es.set i v.cells) r:=by
 conv=>lhs;unfold jc
 simp[h1,h2,h3]
theorem Ei {e cs:List AV} (he:e.length=cs.length):stA e 0 cs=cs:=by simp[stA,he]
theorem EM {e:List AV}:stA e 0 []=e:=by simp[stA]
theorem Be {a c:AV} {e cs:List AV}:stA (a::e) 0 (c::cs)=c::stA e 0 cs:=by simp[stA]
theorem Bz {a:AV} {e cs:List AV} {n:Nat}:stA (a::e) (n+1) cs=a::stA e n cs:=by simp[stA,Nat.add_right_comm]
theorem Ba {b:Nat} {x y:Option (List (List AV))}:(h.set b x).set b y=h.set b y:=by
 unfold AH.set
 congr 1
 funext j
 by_cases hj:j=b<;>simp[hj]
theorem fz {x y:List (List AV)}:(h.push x).set h.n (some y)=h.push y:=by
 unfold AH.push AH.set
 congr 1
 funext j
 by_cases hj:j=h.n<;>simp[hj]
theorem BV:rW V L h []=True:=rfl
theorem xC {agg:Bool} {n:Nat} {a d:Arg} {r:List RCk}:rW V L h (⟨none,agg,n,a,d⟩::r)=(aK agg n h (arg V L a)=some (arg V L d)∧rW V L h r):=rfl
theorem xx {agg:Bool} {n:Nat} {g a d:Arg} {w:Bool} {r:List RCk}:rW V L h (⟨some (g,w),agg,n,a,d⟩::r)=((match gB w (arg V L g)with | some true=>aK agg n h (arg V L a)=some (arg V L d) | _=>True)∧rW V L h r):=by
 simp only[rW,nz,Kf]<;>rfl
theorem ml {b:Bool}:fgA true h (.inl (.bool b),h)=some (.inl (.bool b),h):=az (ab.refl h) rfl
theorem DW {n:Int}:fgA true h (.inl (.int q n),h)=some (.inl (.int q n),h):=az (ab.refl h) rfl
theorem EW {n:List UInt8}:fgA true h (.inl (.str n),h)=some (.inl (.str n),h):=az (ab.refl h) rfl
theorem w64 {n:Int} (h1: -9223372036854775808≤n) (h2:n≤9223372036854775807):IntKind.wrap .i64 n=n:=by
 rw[IntKind.wrap_i64]
 omega
theorem dP {a b:List (List AV)}:((h.push a).push b).cell (h.n+1)=some b:=by simp[AH.push]
theorem i5 {a b:List (List AV)}:((h.push a).push b).cell h.n=some a:=by simp[AH.push]
theorem sZ {a x y:List (List AV)}:((h.push a).push x).set (h.n+1) (some y)=(h.push a).push y:=fz (h:=h.push a)
theorem dk {a b c:List (List AV)}:(((h.push a).push b).push c).cell (h.n+1+1)=some c:=by simp[AH.push]
theorem gK {a b c:List (List AV)}:(((h.push a).push b).push c).cell (h.n+1)=some b:=by simp[AH.push]
theorem fA {a b c:List (List AV)}:(((h.push a).push b).push c).cell h.n=some a:=by simp[AH.push,show ¬ h.n=h.n+1+1 by omega]
theorem si {a b x y:List (List AV)}:(((h.push a).push b).push x).set (h.n+1+1) (some y)=((h.push a).push b).push y:=fz (h:=(h.push a).push b)
theorem aW {es:List (List AV)} {j:Nat} (hj:j<h.n):(h.push es).cell j=h.cell j:=fW (by omega)
theorem aC {b b':List RS} (hb:b=b'):ap C nv (.lp b::k) V L h=ap C nv (.ss b':: .lp b::k) (aa nv V) L h:=by subst hb;exact MG
theorem Ew {agg:Bool} {n b:Nat} {t:TypeId}:aK agg n h (.tptr t b)=((h.cell b).bind (·[0]?)).bind fun e=>ldA agg n e 0:=rfl
theorem Bq {t:TypeId} {b:Nat}:aH 0 (.tptr t b)=some (.tptr t b):=rfl
theorem Aj {t:TypeId} {b:Nat}:aH 1 (.tptr t b)=some (.ptr b 0 1):=rfl
theorem Ac {t:TypeId} {b:Nat}:aH 2 (.tptr t b)=some (.ptr b 0 2):=rfl
theorem B3 {t:TypeId} {b:Nat}:aH 3 (.tptr t b)=some (.ptr b 0 3):=rfl
theorem DS {t:TypeId} {b:Nat}:wQ (.tptr t b)=some (.tptr t b):=rfl
theorem LK {n b:Nat} {t:TypeId} {x:AV}:aE n h (.tptr t b) x=s1A n h b 0 0 x.cells (h.cell b):=by
 simp only[aE]
 cases h.cell b<;>rfl
theorem ql {t:TypeId} {b:Nat}:(AV.tptr t b).cells=[.tptr t b]:=rfl
theorem wh {t:TypeId} {b:Nat}:(AV.tptr t b).one=true:=rfl
theorem D0 {a b:Int}:mmA false (.int q a) (.int q b)=some (.int q (if b<a then b else a)):=rfl
theorem Ez {a b:Int}:mmA true (.int q a) (.int q b)=some (.int q (if b>a then b else a)):=rfl
theorem J7 {a b:Int}:bk kd .rem (.int q a) (.int q b)=if b=0 then none else some (.int q (a.tmod b)):=by simp[bk,kh]
theorem Fc {b i o:Nat}:bk .ptr .eql (.ptr b i o) .nilp=some (.bool false):=by simp[bk,eqA]
theorem An {t:TypeId} {b:Nat}:bk .ptr .eql (.tptr t b) .nilp=some (.bool false):=by simp[bk,eqA]
theorem Je:bk .ptr .eql .nilp .nilp=some (.bool true):=by simp[bk,eqA]
theorem Bp {b i o:Nat}:bk .ptr .neq (.ptr b i o) .nilp=some (.bool true):=by simp[bk,eqA]
theorem xy {t:TypeId} {b:Nat}:bk .ptr .neq (.tptr t b) .nilp=some (.bool true):=by simp[bk,eqA]
theorem EV:bk .ptr .neq .nilp .nilp=some (.bool false):=by simp[bk,eqA]
theorem EK {t:TypeId} {v:AV} {ks:Option (List Kd)} {cy:Bool}:je .iface ks cy .neq (.iface t v) .nili=some (.bool true):=by simp[je,bk,eqA]
theorem Ji {ks:Option (List Kd)}:je .iface ks true .neq .nili .nili=some (.bool false):=by simp[je,Kj]
theorem B2 {t:TypeId} {v:AV} {ks:Option (List Kd)} {cy:Bool}:je .iface ks cy .eql (.iface t v) .nili=some (.bool false):=by simp[je,bk,eqA]
theorem Ge {ks:Option (List Kd)}:je .iface ks true .eql .nili .nili=some (.bool true):=by simp[je,Kj]
theorem af:(type_of% @List.length_cons.{0})∧(type_of% @List.length_nil.{0})∧(type_of% @List.cons_append.{0})∧(type_of% @List.nil_append.{0})∧(type_of% @List.map_cons.{0,0})∧(type_of% @List.map_nil.{0,0})∧(type_of% @Option.bind_some.{0,0})∧(type_of% @Option.map_some.{0,0})∧(type_of% @Option.bind_none.{0,0})∧(type_of% @Option.map_none.{0,0})∧(type_of% @if_true.{1})∧(type_of% @if_false.{1})∧(type_of% @decide_true)∧(type_of% @decide_false)∧(type_of% @Bool.false_eq_true)∧(type_of% @Bool.true_eq_false)∧(type_of% @Bool.not_true)∧(type_of% @Bool.not_false)∧(type_of% @Bool.and_true)∧(type_of% @Bool.true_and)∧(type_of% @Bool.and_false)∧(type_of% @Bool.false_and)∧(type_of% @Bool.or_true)∧(type_of% @Bool.true_or)∧(type_of% @Bool.or_false)∧(type_of% @Bool.false_or)∧(type_of% @true_and)∧(type_of% @and_true)∧(type_of% @false_and)∧(type_of% @and_false)∧(type_of% @List.take_zero.{0})∧(type_of% @List.take_succ_cons.{0})∧(type_of% @List.drop_zero.{0})∧(type_of% @List.drop_succ_cons.{0})∧(type_of% @List.take_nil.{0})∧(type_of% @List.drop_nil.{0})∧(type_of% @List.set_cons_zero.{0})∧(type_of% @List.set_cons_succ.{0})∧(type_of% @Nat.zero_add)∧(type_of% @Nat.lt_add_one)∧(type_of% @Nat.le_refl)∧(type_of% @Int.toNat_natCast):=
 ⟨@List.length_cons.{0},@List.length_nil.{0},@List.cons_append.{0},@List.nil_append.{0},@List.map_cons.{0,0},@List.map_nil.{0,0},@Option.bind_some.{0,0},@Option.map_some.{0,0},@Option.bind_none.{0,0},@Option.map_none.{0,0},@if_true.{1},@if_false.{1},@decide_true,@decide_false,@Bool.false_eq_true,@Bool.true_eq_false,@Bool.not_true,@Bool.not_false,@Bool.and_true,@Bool.true_and,@Bool.and_false,@Bool.false_and,@Bool.or_true,@Bool.true_or,@Bool.or_false,@Bool.false_or,@true_and,@and_true,@false_and,@and_false,@List.take_zero.{0},@List.take_succ_cons.{0},@List.drop_zero.{0},@List.drop_succ_cons.{0},@List.take_nil.{0},@List.drop_nil.{0},@List.set_cons_zero.{0},@List.set_cons_succ.{0},@Nat.zero_add,@Nat.lt_add_one,@Nat.le_refl,@Int.toNat_natCast⟩
theorem sim:(type_of% @JF)∧(type_of% @xZ)∧(type_of% @FQ)∧(type_of% @D2)∧(type_of% @uI)∧(type_of% @zV)∧(type_of% @EQ)∧(type_of% @JN)∧(type_of% @JW)∧(type_of% @ns)∧(type_of% @Bg)∧(type_of% @r_g)∧(type_of% @FU)∧(type_of% @Gl)∧(type_of% @Mn)∧(type_of% @Dw)∧(type_of% @Bn)∧(type_of% @FM)∧(type_of% @IV)∧(type_of% @F9)∧(type_of% @LI)∧(type_of% @FK)∧(type_of% @I6)∧(type_of% @Jy)∧(type_of% @Jv)∧(type_of% @I9)∧(type_of% @JM)∧(type_of% @I4)∧(type_of% @LH)∧(type_of% @JQ)∧(type_of% @IN)∧(type_of% @IT)∧(type_of% @Bo)∧(type_of% @JL)∧(type_of% @FH)∧(type_of% @E4)∧(type_of% @BD)∧(type_of% @Ju)∧(type_of% @JY)∧(type_of% @Al)∧(type_of% @AS)∧(type_of% @Ae)∧(type_of% @FT)∧(type_of% @xi)∧(type_of% @AN)∧(type_of% @xg)∧(type_of% @A9)∧(type_of% @Bi)∧(type_of% @sG)∧(type_of% @jL)∧(type_of% @nx)∧(type_of% @JD)∧(type_of% @IZ)∧(type_of% @IW)∧(type_of% @Gb)∧(type_of% @Ep)∧(type_of% @Du)∧(type_of% @DY)∧(type_of% @Gy)∧(type_of% @E0)∧(type_of% @Kf)∧(type_of% @AF)∧(type_of% @Gp)∧(type_of% @Jh)∧(type_of% @Lz)∧(type_of% @LL)∧(type_of% @Jl)∧(type_of% @AJ)∧(type_of% @IX)∧(type_of% @vU)∧(type_of% @Jf)∧(type_of% @Jw)∧(type_of% @Jn)∧(type_of% @Jd)∧(type_of% @kl)∧(type_of% @jB)∧(type_of% @JB)∧(type_of% @Jo)∧(type_of% @Js)∧(type_of% @JC)∧(type_of% @Jp)∧(type_of% @Jm)∧(type_of% @Jc)∧(type_of% @Jk)∧(type_of% @JS)∧(type_of% @JE)∧(type_of% @Ma)∧(type_of% @yd)∧(type_of% @FY)∧(type_of% @Fz)∧(type_of% @Ea)∧(type_of% @FS)∧(type_of% @EX)∧(type_of% @rZ)∧(type_of% @Br)∧(type_of% @IR)∧(type_of% @JZ)∧(type_of% @IM)∧(type_of% @IY)∧(type_of% @bV)∧(type_of% @Mr)∧(type_of% @eN)∧(type_of% @IP)∧(type_of% @Mq)∧(type_of% @I8)∧(type_of% @Mf)∧(type_of% @vM)∧(type_of% @Bm)∧(type_of% @BW)∧(type_of% @BQ)∧(type_of% @sQ)∧(type_of% @jh)∧(type_of% @ji)∧(type_of% @xU)∧(type_of% @bi)∧(type_of% @dA)∧(type_of% @kL)∧(type_of% @nj)∧(type_of% @aT)∧(type_of% @aJ)∧(type_of% @f8)∧(type_of% @BZ)∧(type_of% @qt)∧(type_of% @uC)∧(type_of% @nQ)∧(type_of% @mL)∧(type_of% @sS)∧(type_of% @EU)∧(type_of% @wu)∧(type_of% @BB)∧(type_of% @GJ)∧(type_of% @Gt)∧(type_of% @E2)∧(type_of% @Gn)∧(type_of% @Jq)∧(type_of% @DH)∧(type_of% @Ee)∧(type_of% @Jt)∧(type_of% @AQ)∧(type_of% @Mc)∧(type_of% @s_1)∧(type_of% @s_2)∧(type_of% @s_3)∧(type_of% @sM)∧(type_of% @sa)∧(type_of% @qs)∧(type_of% @sO)∧(type_of% @qg)∧(type_of% @rj)∧(type_of% @tf)∧(type_of% @sc)∧(type_of% @tG)∧(type_of% @AB)∧(type_of% @wX)∧(type_of% @Aw)∧(type_of% @xJ)∧(type_of% @xk)∧(type_of% @BP)∧(type_of% @AR)∧(type_of% @Ab)∧(type_of% @sr)∧(type_of% @xT)∧(type_of% @Am)∧(type_of% @BF)∧(type_of% @vX)∧(type_of% @tq)∧(type_of% @sW)∧(type_of% @sH)∧(type_of% @pO)∧(type_of% @Ei)∧(type_of% @EM)∧(type_of% @Be)∧(type_of% @Bz)∧(type_of% @Ba)∧(type_of% @fz)∧(type_of% @Ff)∧(type_of% @Gd)∧(type_of% @wd)∧(type_of% @Lw)∧(type_of% @Ew)∧(type_of% @Bq)∧(type_of% @Aj)∧(type_of% @Ac)∧(type_of% @B3)∧(type_of% @DS)∧(type_of% @LK)∧(type_of% @ql)∧(type_of% @wh)∧(type_of% @D0)∧(type_of% @Ez)∧(type_of% @J7)∧(type_of% @Fc)∧(type_of% @An)∧(type_of% @Je)∧(type_of% @Bp)∧(type_of% @xy)∧(type_of% @EV)∧(type_of% @EK)∧(type_of% @Ji)∧(type_of% @B2)∧(type_of% @Ge)∧(type_of% @BV)∧(type_of% @xC)∧(type_of% @xx)∧(type_of% @ml)∧(type_of% @DW)∧(type_of% @EW)∧(type_of% @br)∧(type_of% @dP)∧(type_of% @i5)∧(type_of% @sZ)∧(type_of% @dk)∧(type_of% @gK)∧(type_of% @fA)∧(type_of% @si):=
 ⟨@JF,@xZ,@FQ,@D2,@uI,@zV,@EQ,@JN,@JW,@ns,@Bg,@r_g,@FU,@Gl,@Mn,@Dw,@Bn,@FM,@IV,@F9,@LI,@FK,@I6,@Jy,@Jv,@I9,@JM,@I4,@LH,@JQ,@IN,@IT,@Bo,@JL,@FH,@E4,@BD,@Ju,@JY,@Al,@AS,@Ae,@FT,@xi,@AN,@xg,@A9,@Bi,@sG,@jL,@nx,@JD,@IZ,@IW,@Gb,@Ep,@Du,@DY,@Gy,@E0,@Kf,@AF,@Gp,@Jh,@Lz,@LL,@Jl,@AJ,@IX,@vU,@Jf,@Jw,@Jn,@Jd,@kl,@jB,@JB,@Jo,@Js,@JC,@Jp,@Jm,@Jc,@Jk,@JS,@JE,@Ma,@yd,@FY,@Fz,@Ea,@FS,@EX,@rZ,@Br,@IR,@JZ,@IM,@IY,@bV,@Mr,@eN,@IP,@Mq,@I8,@Mf,@vM,@Bm,@BW,@BQ,@sQ,@jh,@ji,@xU,@bi,@dA,@kL,@nj,@aT,@aJ,@f8,@BZ,@qt,@uC,@nQ,@mL,@sS,@EU,@wu,@BB,@GJ,@Gt,@E2,@Gn,@Jq,@DH,@Ee,@Jt,@AQ,@Mc,@s_1,@s_2,@s_3,@sM,@sa,@qs,@sO,@qg,@rj,@tf,@sc,@tG,@AB,@wX,@Aw,@xJ,@xk,@BP,@AR,@Ab,@sr,@xT,@Am,@BF,@vX,@tq,@sW,@sH,@pO,@Ei,@EM,@Be,@Bz,@Ba,@fz,@Ff,@Gd,@wd,@Lw,@Ew,@Bq,@Aj,@Ac,@B3,@DS,@LK,@ql,@wh,@D0,@Ez,@J7,@Fc,@An,@Je,@Bp,@xy,@EV,@EK,@Ji,@B2,@Ge,@BV,@xC,@xx,@ml,@DW,@EW,@br,@dP,@i5,@sZ,@dk,@gK,@fA,@si⟩
end
def SlA (e:TypeId) (v:AV) (es:List (List AV)):Prop:=(es=[]∧v= .nils)∨∃ id,v= .isl id e es
abbrev cr (l:List Int):List (List AV):=l.map fun x=>[.int .i64 x]
inductive XD where
 | mk (op k n:Int) (l:List XD)
def XD.op:XD→Int
 | .mk op _ _ _=>op
def XD.k:XD→Int
 | .mk _ k _ _=>k
def XD.n:XD→Int
 | .mk _ _ n _=>n
def XD.l:XD→List XD
 | .mk _ _ _ l=>l
theorem XD.eta (x:XD):x= .mk x.op x.k x.n x.l:=by cases x;rfl
theorem XD.lt_mem {x y:XD} (h:y∈x.l):SizeOf.sizeOf y<SizeOf.sizeOf x:=by
 cases x with
 | mk op k n l=>
   have:=List.sizeOf_lt_of_mem (show y∈l from h)
   simp only[XD.mk.sizeOf_spec]
   omega
mutual
def XD.size:XD→Nat
 | .mk _ _ _ l=>1+aF l
def aF:List XD→Nat
 | []=>0
 | x::l=>x.size+aF l
end
mutual
def XD.depth:XD→Nat
 | .mk _ _ _ l=>aZ l
def aZ:List XD→Nat
 | []=>0
 | x::l=>max (1+x.depth) (aZ l)
end
theorem XD.size_eq (x:XD):x.size=1+aF x.l:=by cases x;simp[XD.size,XD.l]
theorem XD.depth_eq (x:XD):x.depth=aZ x.l:=by cases x;simp[XD.depth,XD.l]
theorem ew:∀ (l l':List XD),aF (l++l')=aF l+aF l'
 | [],l'=>by simp[aF]
 | x::l,l'=>by simp[aF,ew l l',Nat.add_assoc]
theorem iB:∀ (l l':List XD),aZ (l++l')=max (aZ l) (aZ l')
 | [],l'=>by simp[aZ]
 | x::l,l'=>by simp[aZ,iB l l',Nat.max_assoc]
theorem qZ (x:XD):aF [x]=x.size:=by simp[aF]
theorem xP (x:XD):aZ [x]=1+x.depth:=by simp[aZ]
theorem XD.size_pos (x:XD):1≤x.size:=by rw[x.size_eq];omega
theorem XD.len_size (x:XD):x.l.length<x.size:=by
 have:∀ l:List XD,l.length≤aF l:=by
  intro l
  induction l with
  | nil=>simp
  | cons y l ih=>
    have:=y.size_pos
    simp only[aF,List.length_cons]
    omega
 have:=this x.l
 rw[x.size_eq]
 omega
theorem XD.so_pos (x:XD):1≤SizeOf.sizeOf x:=by
 cases x
 simp only[XD.mk.sizeOf_spec]
 omega
theorem pz {n:Nat}:∀ {l:List XD},aZ l≤n↔∀ y∈l,1+y.depth≤n
 | []=>by simp[aZ]
 | x::l=>by
   have:=pz (n:=n) (l:=l)
   simp only[aZ,List.mem_cons,forall_eq_or_imp,←this]
   omega
theorem Em (x:XD) {left:Int} (h0:0≤left):(!(x.l.any fun y=> !decide ((y.depth:Int)≤left - 1)))=decide ((x.depth:Int)≤left):=by
 obtain⟨n,rfl⟩:∃ n:Nat,left=n:=⟨left.toNat,by omega⟩
 have h:=pz (n:=n) (l:=x.l)
 rw[←x.depth_eq]at h
 by_cases hx:x.depth≤n
 ·have h1:((x.depth:Nat):Int)≤(n:Int):=by omega
  have h2:(x.l.any fun y=> !decide ((y.depth:Int)≤(n:Int) - 1))=false:=by
   rw[List.any_eq_false]
   intro y hy
   have:=h.1 hx y hy
   have h3:(y.depth:Int)≤(n:Int) - 1:=by omega
   simp[h3]
  rw[h2]
  simp[h1]
 ·have h1:¬ ((x.depth:Nat):Int)≤(n:Int):=by omega
  have h2:(x.l.any fun y=> !decide ((y.depth:Int)≤(n:Int) - 1))=true:=by
   cases hb:(x.l.any fun y=> !decide ((y.depth:Int)≤(n:Int) - 1))
   ·exfalso
    apply hx
    apply h.2
    intro y hy
    have:=(List.any_eq_false.1 hb) y hy
    simp at this
    omega
   ·rfl
  rw[h2]
  simp[h1]
def aR (op:Int):Int:=
 if op=1∨op=2∨op=3∨op=4∨op=21 then 0
 else if op=9∨op=10∨op=11∨op=12∨op=13∨op=15∨op=16∨op=17∨op=18∨op=20 then 1
 else if op=5∨op=6∨op=8∨op=14∨op=19 then 2
 else if op=7 then 3 else -1
def iH (nf op k n o:Int):Int:=
 if n≠0∧op≠2 then 5
 else if op=4 then(if k<0∨o≤k then 1 else 0)
 else if op=6 then(if k<1∨5<k then 1 else 0)
 else if op=15 then(if k<0∨15<k then 1 else 0)
 else if op=18 then(if k<0∨nf≤k then 1 else 0)
 else if k≠0 then 5 else 0
def eh (nf op k n:Int) (len:Nat) (o:Int):Int:=
 if aR op<0 then 2 else if(len:Int)≠aR op then 5
 else if iH nf op k n o≠0 then iH nf op k n o
 else if op=5∧o=12 then 3 else 0
mutual
def XD.fault (nf:Int):XD→Int→Int
 | .mk op k n l,o=>if eh nf op k n l.length o≠0 then eh nf op k n l.length o else dt nf op 0 l o
def dt (nf op:Int):Nat→List XD→Int→Int
 | _,[],_=>0
 | i,x::l,o=>if x.fault nf (if op=5∧i=1 then o+1 else o)≠0 then x.fault nf (if op=5∧i=1 then o+1 else o)else dt nf op (i+1) l o
end
def fv (nf:Int) (x:XD):Int:=if 30<x.depth then 4 else if 120<x.size then 3 else x.fault nf 0
def fj (nf:Int):Nat→List XD→Int×Int
 | _,[]=>(0,0)
 | i,x::l=>if fv nf x≠0 then(fv nf x,i)else fj nf (i+1) l
def aL (l:List XD):Int×Int:=if l.length=0∨6<l.length then(3, -1)else fj l.length 0 l
def fR (l:List XD):Bool:=decide (20<l.length) || l.any fun x=>decide (600<x.size)
abbrev tE:TypeId:=109
mutual
def ExA:XD→List AV→Prop
 | .mk op k n l,r=>∃ v es,r=[.int .i64 op,.int .i64 k,.int .i64 n,v]∧SlA tE v es∧ExL l es
def ExL:List XD→List (List AV)→Prop
 | [],es=>es=[]
 | x::l,es=>∃ r rs,es=r::rs∧ExA x r∧ExL l rs
end
structure aP where
 op:Int
 k:Int
 n:Int
def f9:List (Nat→List aP)→Nat→List aP
 | [],_=>[]
 | f::fs,p=>f p++f9 fs (p+(f p).length)
def Kh (f0 f1:Nat→List aP) (p:Nat):List aP:=⟨100,0,0⟩::(f0 (p+1)++⟨101,0,0⟩::(f1 (p+1+(f0 (p+1)).length+1)++[⟨102,0,0⟩]))
def gC (f0 f1:Nat→List aP) (p:Nat):Nat:=p+1+(f0 (p+1)).length+1+(f1 (p+1+(f0 (p+1)).length+1)).length+1
def ifC (f0 f1 f2:Nat→List aP) (p:Nat):List aP:=
 ⟨100,0,0⟩::(f0 (p+1)++⟨103,(gC f0 f1 p:Nat),0⟩::(f1 (p+1+(f0 (p+1)).length+1)++⟨104,((gC f0 f1 p+(f2 (gC f0 f1 p)).length:Nat):Int),0⟩::f2 (gC f0 f1 p)))
def rn (op k n:Int) (fs:List (Nat→List aP)) (p:Nat):List aP:=
 if op=5 then(match fs with | [f0,f1]=>Kh f0 f1 p | _=>[])
 else if op=7 then(match fs with | [f0,f1,f2]=>ifC f0 f1 f2 p | _=>[])
 else⟨100,0,0⟩::(f9 fs (p+1)++[⟨op,k,n⟩])
mutual
def aw:XD→Nat→List aP
 | .mk op k n l=>rn op k n (qv l)
def qv:List XD→List (Nat→List aP)
 | []=>[]
 | x::l=>aw x::qv l
end
theorem Eg (x:XD):aw x=rn x.op x.k x.n (qv x.l):=by cases x;simp only[aw,XD.op,XD.k,XD.n,XD.l]
open Classical in
theorem qD:∀ l:List XD,qv l=l.map aw
 | []=>rfl
 | x::l=>by simp only[qv,List.map_cons,qD l]
theorem gY (x:XD):aw x=rn x.op x.k x.n (x.l.map aw):=by rw[Eg,qD]
theorem qG:∀ (l:List XD) (p:Nat),(∀ y∈l,∀ p,(aw y p).length≤3*y.size)→(f9 (l.map aw) p).length≤3*aF l
 | [],p,_=>by simp[f9]
 | x::l,p,h=>by
   have h1:=h x (by simp) p
   have h2:=qG l (p+(aw x p).length) fun y hy=>h y (by simp[hy])
   simp only[List.map_cons,f9,List.length_append,aF]
   omega
theorem d7:∀ (N:Nat) (x:XD),SizeOf.sizeOf x≤N→∀ p:Nat,(aw x p).length≤3*x.size:=by
 intro N
 induction N with
 | zero=>intro x hx;have:=x.so_pos;omega
 | succ N ih=>
   intro x hx p
   have hc:∀ y∈x.l,∀ p,(aw y p).length≤3*y.size:=fun y hy=>ih y (by have:=XD.lt_mem hy;omega)
   have hs:=x.size_eq
   rw[gY]
   generalize x.l=l at hc hs
   unfold rn
   split
   ·match l,hc,hs with
    | [],_,_=>simp
    | [a],_,_=>simp
    | [a,b],hc,hs=>
      have h1:=hc a (by simp) (p+1)
      have h2:=hc b (by simp) (p+1+(aw a (p+1)).length+1)
      simp only[aF]at hs
      simp only[List.map_cons,List.map_nil,Kh,List.length_cons,List.length_append,List.length_nil]
      have:=a.size_pos
      omega
    | a::b::c::l,_,_=>simp
   ·split
    ·match l,hc,hs with
     | [],_,_=>simp
     | [a],_,_=>simp
     | [a,b],_,_=>simp
     | [a,b,c],hc,hs=>
       have h1:=hc a (by simp) (p+1)
       have h2:=hc b (by simp) (p+1+(aw a (p+1)).length+1)
       have h3:=hc c (by simp) (gC (aw a) (aw b) p)
       simp only[aF]at hs
       simp only[List.map_cons,List.map_nil,ifC,List.length_cons,List.length_append]
       omega
     | a::b::c::d::l,_,_=>simp
    ·have:=qG l (p+1) hc
     simp only[List.length_cons,List.length_append,List.length_nil]
     omega
theorem kC {nf o:Int} {x:XD} (h:x.fault nf o=0):0≤aR x.op∧(x.l.length:Int)=aR x.op∧iH nf x.op x.k x.n o=0∧¬ (x.op=5∧o=12)∧dt nf x.op 0 x.l o=0:=by
 cases x with
 | mk op k n l=>
   simp only[XD.fault]at h
   split at h
   ·rename_i h1;exact absurd h h1
   ·rename_i h1
    have h1:eh nf op k n l.length o=0:=by simpa using h1
    unfold eh at h1
    split at h1
    ·cases h1
    ·split at h1
     ·cases h1
     ·split at h1
      ·rename_i h2;exact absurd h1 h2
      ·split at h1
       ·cases h1
       ·rename_i a b c d
        simp only[XD.op,XD.k,XD.n,XD.l]
        exact⟨by omega,by simpa using b,by simpa using c,d,h⟩
theorem gk {nf op o:Int} {i:Nat} {x:XD} {l:List XD} (h:dt nf op i (x::l) o=0):x.fault nf (if op=5∧i=1 then o+1 else o)=0∧dt nf op (i+1) l o=0:=by
 simp only[dt]at h
 generalize x.fault nf (if op=5∧i=1 then o+1 else o)=c at h
 by_cases hc:c=0
 ·exact⟨hc,by simpa[hc]using h⟩
 ·simp[hc]at h
theorem jy {nf op o:Int} (hop:op≠5):∀ {l:List XD} {i:Nat},dt nf op i l o=0→∀ y∈l,y.fault nf o=0
 | [],_,_,y,hy=>by simp at hy
 | x::l,i,h,y,hy=>by
   obtain⟨h1,h2⟩:=gk h
   rw[if_neg (fun h=>hop h.1)]at h1
   rcases List.mem_cons.1 hy with rfl | hy
   ·exact h1
   ·exact jy hop h2 y hy
inductive VD where
 | mk (kind n:Int) (l:List VD)
def VD.kind:VD→Int
 | .mk k _ _=>k
def VD.n:VD→Int
 | .mk _ n _=>n
def VD.l:VD→List VD
 | .mk _ _ l=>l
theorem VD.eta (x:VD):x= .mk x.kind x.n x.l:=by cases x;rfl
theorem VD.lt_mem {x y:VD} (h:y∈x.l):SizeOf.sizeOf y<SizeOf.sizeOf x:=by
 cases x with
 | mk kind n l=>
   have:=List.sizeOf_lt_of_mem (show y∈l from h)
   simp only[VD.mk.sizeOf_spec]
   omega
theorem VD.so_pos (x:VD):1≤SizeOf.sizeOf x:=by
 cases x
 simp only[VD.mk.sizeOf_spec]
 omega
mutual
def VD.size:VD→Nat
 | .mk _ _ l=>1+bp l
def bp:List VD→Nat
 | []=>0
 | x::l=>x.size+bp l
end
theorem VD.size_eq (x:VD):x.size=1+bp x.l:=by cases x;simp[VD.size,VD.l]
theorem fZ:∀ (l l':List VD),bp (l++l')=bp l+bp l'
 | [],l'=>by simp[bp]
 | x::l,l'=>by simp[bp,fZ l l',Nat.add_assoc]
theorem yZ (x:VD):bp [x]=x.size:=by simp[bp]
theorem VD.size_pos (x:VD):1≤x.size:=by rw[x.size_eq];omega
theorem lw:∀ l:List VD,l.length≤bp l
 | []=>by simp
 | y::l=>by
   have:=y.size_pos
   have:=lw l
   simp only[bp,List.length_cons]
   omega
theorem VD.len_size (x:VD):x.l.length<x.size:=by
 have:=lw x.l
 rw[x.size_eq]
 omega
theorem VD.size_mem {x y:VD} (h:y∈x.l):y.size<x.size:=by
 have:∀ l:List VD,y∈l→y.size≤bp l:=by
  intro l
  induction l with
  | nil=>intro hm;simp at hm
  | cons z l ih=>
    intro hm
    simp only[bp]
    rcases List.mem_cons.1 hm with rfl | hm
    ·omega
    ·have:=ih hm;omega
 have:=this x.l h
 rw[x.size_eq]
 omega
def iv (kind:Int):Nat:=if kind=2 then 2 else if kind=3 then 1 else 0
def de (kind n:Int) (len:Nat):Int:=
 if kind<0∨5<kind then 2 else if len≠iv kind then 5 else if(kind=0∨kind=2)∧n≠0 then 5 else if 3≤kind∧n<0 then 1 else 0
mutual
def VD.fault:VD→Int
 | .mk kind n l=>if de kind n l.length≠0 then de kind n l.length else cP l
def cP:List VD→Int
 | []=>0
 | x::l=>if x.fault≠0 then x.fault else cP l
end
def VD.code (x:VD):Int:=if 40<x.size then 3 else x.fault
theorem VD.fault_eq (x:VD):x.fault=if de x.kind x.n x.l.length≠0 then de x.kind x.n x.l.length else cP x.l:=by
 cases x
 rfl
theorem fg (x:VD) (l:List VD):cP (x::l)=if x.fault≠0 then x.fault else cP l:=rfl
mutual
def j7:VD→VD→Bool
 | .mk k n l,.mk k' n' l'=>decide (k=k') && (decide (n=n') && et l l')
def et:List VD→List VD→Bool
 | [],[]=>true
 | x::l,y::l'=>j7 x y && et l l'
 | _,_=>false
end
mutual
theorem pB:∀ x:VD,j7 x x=true
 | .mk kind n l=>by simp[j7,nY l]
theorem nY:∀ l:List VD,et l l=true
 | []=>rfl
 | x::l=>by simp[et,pB x,nY l]
end
mutual
theorem C8:∀ {x y:VD},j7 x y=true→x=y
 | .mk k n l,.mk k' n' l',h=>by
   simp only[j7,Bool.and_eq_true,decide_eq_true_eq]at h
   obtain⟨rfl,rfl,h⟩:=h
   rw[lK h]
theorem lK:∀ {l l':List VD},et l l'=true→l=l'
 | [],[],_=>rfl
 | x::l,y::l',h=>by
   simp only[et,Bool.and_eq_true]at h
   rw[C8 h.1,lK h.2]
 | [],_::_,h=>by simp[et]at h
 | _::_,[],h=>by simp[et]at h
end
theorem C3 {l l':List VD} (h:decide ((l.length:Int)=(l'.length:Int))=false):et l l'=false:=by
 cases hs:et l l'
 ·rfl
 ·rw[lK hs]at h
  simp at h
theorem FD (x y:VD):j7 x y=(decide (x.kind=y.kind) && (decide (x.n=y.n) && et x.l y.l)):=by
 cases x;cases y
 rfl
mutual
def VD.caps:VD→List Int
 | .mk kind n l=>(if kind=4 then[n]else[])++cS l
def cS:List VD→List Int
 | []=>[]
 | x::l=>x.caps++cS l
end
theorem VD.caps_eq (x:VD):x.caps=(if x.kind=4 then[x.n]else[])++cS x.l:=by
 cases x
 rfl
theorem iS:∀ (l l':List VD),cS (l++l')=cS l++cS l'
 | [],l'=>by simp[cS]
 | x::l,l'=>by simp[cS,iS l l',List.append_assoc]
mutual
theorem VD.caps_few:∀ x:VD,x.caps.length≤x.size
 | .mk kind n l=>by
   have:=jQ l
   simp only[VD.caps,VD.size,List.length_append]
   split<;>simp<;>omega
theorem jQ:∀ l:List VD,(cS l).length≤bp l
 | []=>by simp[cS]
 | x::l=>by
   have:=VD.caps_few x
   have:=jQ l
   simp only[cS,bp,List.length_append]
   omega
end
mutual
def VD.gate:VD→Bool
 | .mk kind _ l=>decide (kind=5) || kT l
def kT:List VD→Bool
 | []=>false
 | x::l=>x.gate || kT l
end
theorem VD.gate_eq (x:VD):x.gate=(decide (x.kind=5) || kT x.l):=by
 cases x
 rfl
theorem oa:∀ l:List VD,kT l=l.any VD.gate
 | []=>rfl
 | x::l=>by simp only[kT,List.any_cons,oa l]
def VD.great (x:VD):Bool:=decide (500<x.size)
abbrev tV:TypeId:=35
mutual
def VaA:VD→List AV→Prop
 | .mk kind n l,r=>∃ v es,r=[.int .i64 kind,.int .i64 n,v]∧SlA tV v es∧VaL l es
def VaL:List VD→List (List AV)→Prop
 | [],es=>es=[]
 | x::l,es=>∃ r rs,es=r::rs∧VaA x r∧VaL l rs
end
open Go.RowKit
theorem yV (x:BitVec 64):IntKind.i64.wrap (x.toNat:Int)=x.toInt:=by
 have h:=x.isLt
 rw[BitVec.toInt_eq_toNat_cond,IntKind.wrap_i64]
 split<;>omega
theorem qo (a b:Int):bits .and .i64 a b=(BitVec.ofInt 64 a &&& BitVec.ofInt 64 b).toInt:=yV _
theorem ma (x:BitVec 64):BitVec.ofInt 64 x.toInt=x:=BitVec.ofInt_toInt
def lj (a b:Int):Int:=bits .and .i64 a b
def CH (a b:Int):Bool:=lj a b==b
theorem Dd (x y:BitVec 64):lj x.toInt y.toInt=(x &&& y).toInt:=by
 unfold lj
 rw[qo,ma,ma]
theorem xr (x y:BitVec 64):CH x.toInt y.toInt=decide (x &&& y=y):=by
 unfold CH
 rw[Dd,Bool.eq_iff_iff,beq_iff_eq,BitVec.toInt_inj,decide_eq_true_eq]
def hD (a:Int):Bool:=decide (0≤a∧a≤15)
def eP (a:Int) (i:Nat):Bool:=bits .and .i64 (a / 2 ^ i) 1==1
open Go.RowKit
structure bg where
 (parent gate rights cell plugin func:Int)
def dQ:bg:=⟨0,0,0,0,0,0⟩
structure ae where
 nodes:List bg
 shut:List Bool
def ae.has (G:ae) (n:Int):Bool:=decide (0≤n∧n<G.nodes.length)
def ae.hasGate (G:ae) (k:Int):Bool:=decide (0≤k∧k<G.shut.length)
def ae.isOpen (G:ae) (k:Int):Bool:=G.hasGate k && !(G.shut.getD k.toNat false)
def ae.gate (G:ae):ae×Int×Int:=if G.shut.length=20 then(G,0,11)else(⟨G.nodes,G.shut++[false]⟩,G.shut.length,0)
def ae.cut (G:ae) (k:Int):ae×Int:=if G.hasGate k then(⟨G.nodes,G.shut.set k.toNat true⟩,0)else(G,8)
def ae.add (G:ae) (n:bg):ae×Int×Int:=
 if hD n.rights=false then(G,0,1)
 else if n.gate≠ -1∧G.hasGate n.gate=false then(G,0,8)
 else if G.nodes.length=80 then(G,0,11)
 else(⟨G.nodes++[n],G.shut⟩,G.nodes.length,0)
def fL (c:Int):Bool:=decide (0≤c∧c<12)
def rD (p f:Int):Bool:=decide (0≤p∧p<4∧0≤f∧f<6)
def ae.cellC (G:ae) (c r g:Int):ae×Int×Int:=if fL c then G.add ⟨-1,g,r,c, -1,0⟩else(G,0,1)
def ae.funcC (G:ae) (p f r g:Int):ae×Int×Int:=if rD p f then G.add ⟨-1,g,r,0,p,f⟩else(G,0,1)
def ae.derive (G:ae) (p r g:Int):ae×Int×Int:=if G.has p then G.add ⟨p,g,r,0, -1,0⟩else(G,0,8)
structure OkN (s:Nat) (i:Nat) (n:bg):Prop where
 p0: -1≤n.parent
 p1:n.parent<i
 r:hD n.rights=true
 g:n.gate= -1∨0≤n.gate∧n.gate<s
 t:n.parent= -1→n.plugin= -1∧0≤n.cell∧n.cell<12∧n.func=0∨0≤n.plugin∧n.plugin<4∧0≤n.func∧n.func<6∧n.cell=0
structure ae.Wf (G:ae):Prop where
 few:G.nodes.length≤80
 gates:G.shut.length≤20
 node:∀ (i:Nat) (n:bg),G.nodes[i]? =some n→OkN G.shut.length i n
theorem OkN.more {s s' i:Nat} {n:bg} (h:OkN s i n) (hs:s≤s'):OkN s' i n:=
 ⟨h.p0,h.p1,h.r,h.g.imp id (fun⟨a,b⟩=>⟨a,by omega⟩),h.t⟩
theorem ue:ae.Wf ⟨[],[]⟩:=⟨by simp,by simp,fun i n h=>by simp at h⟩
theorem ae.Wf.gate {G:ae} (h:G.Wf):G.gate.1.Wf:=by
 unfold ae.gate
 split
 ·exact h
 ·have:=h.gates
  exact⟨h.few,by simp;omega,fun i n hn=>(h.node i n hn).more (by simp)⟩
theorem ae.Wf.cut {G:ae} (h:G.Wf) (k:Int):(G.cut k).1.Wf:=by
 unfold ae.cut
 split
 ·exact⟨h.few,by simpa using h.gates,fun i n hn=>by simpa using h.node i n hn⟩
 ·exact h
theorem ae.Wf.add {G:ae} (h:G.Wf) {n:bg} (h0: -1≤n.parent) (h1:n.parent<G.nodes.length)
  (ht:n.parent= -1→n.plugin= -1∧0≤n.cell∧n.cell<12∧n.func=0∨0≤n.plugin∧n.plugin<4∧0≤n.func∧n.func<6∧n.cell=0):(G.add n).1.Wf:=by
 unfold ae.add
 split
 ·exact h
 ·rename_i hr
  split
  ·exact h
  ·rename_i hg
   split
   ·exact h
   ·have:=h.few
    refine⟨by simp;omega,h.gates,fun i m hm=> ?_⟩
    show OkN G.shut.length i m
    simp only at hm
    by_cases hi:i<G.nodes.length
    ·rw[List.getElem?_append_left hi]at hm
     exact h.node i m hm
    ·rw[List.getElem?_append_right (by omega)]at hm
     have hi0:i - G.nodes.length=0:=by
      have:=(List.getElem?_eq_some_iff.1 hm).1
      simpa using this
     rw[hi0]at hm
     simp at hm
     subst hm
     refine⟨h0,by omega,by simpa using hr,?_,ht⟩
     by_cases e:n.gate= -1
     ·exact .inl e
     ·right
      have hgt:G.hasGate n.gate=true:=by
       cases hh:G.hasGate n.gate
       ·exact absurd ⟨e,hh⟩ hg
       ·rfl
      simpa[ae.hasGate]using hgt
theorem ae.Wf.cellC {G:ae} (h:G.Wf) (c r g:Int):(G.cellC c r g).1.Wf:=by
 unfold ae.cellC
 split
 ·rename_i hc
  simp[fL]at hc
  exact h.add (by simp) (by simp;omega) (fun _=> .inl ⟨rfl,hc.1,hc.2,rfl⟩)
 ·exact h
theorem ae.Wf.funcC {G:ae} (h:G.Wf) (p f r g:Int):(G.funcC p f r g).1.Wf:=by
 unfold ae.funcC
 split
 ·rename_i hc
  simp[rD]at hc
  exact h.add (by simp) (by simp;omega) (fun _=> .inr ⟨hc.1,hc.2.1,hc.2.2.1,hc.2.2.2,rfl⟩)
 ·exact h
theorem ae.Wf.derive {G:ae} (h:G.Wf) (p r g:Int):(G.derive p r g).1.Wf:=by
 unfold ae.derive
 split
 ·rename_i hc
  simp[ae.has]at hc
  exact h.add (by simp;omega) (by simp;omega) (fun e=>by simp at e;omega)
 ·exact h
def ae.pathF (G:ae):Nat→Int→List bg
 | 0,_=>[]
 | f+1,i=>if G.has i then(G.nodes.getD i.toNat dQ)::G.pathF f (G.nodes.getD i.toNat dQ).parent else[]
def ae.path (G:ae) (i:Int):List bg:=G.pathF (i.toNat+1) i
theorem ae.Wf.get {G:ae} (h:G.Wf) {i:Int} (hi:G.has i=true):OkN G.shut.length i.toNat (G.nodes.getD i.toNat dQ):=by
 simp[ae.has]at hi
 have hl:i.toNat<G.nodes.length:=by omega
 have e:G.nodes[i.toNat]? =some (G.nodes.getD i.toNat dQ):=by simp[List.getD,hl]
 exact h.node _ _ e
theorem ae.pathF_more {G:ae} (h:G.Wf):∀ (f:Nat) (i:Int),i.toNat<f→G.pathF f i=G.path i:=by
 intro f
 induction f using Nat.strongRecOn with
 | _ f ih=>
   intro i hi
   cases f with
   | zero=>omega
   | succ f=>
     unfold ae.path
     by_cases hh:G.has i=true
     ·have ok:=h.get hh
      have hp:=ok.p0
      have hp1:=ok.p1
      have hi0:0≤i:=by simp[ae.has]at hh;exact hh.1
      unfold ae.pathF
      rw[if_pos hh,if_pos hh]
      congr 1
      generalize (G.nodes.getD i.toNat dQ).parent=p at*
      by_cases hpn:p<0
      ·have hno:G.has p=false:=by simp[ae.has];omega
       cases f with
       | zero=>cases hn:i.toNat<;>simp[ae.pathF,hno]
       | succ f=>cases hn:i.toNat<;>simp[ae.pathF,hno]
      ·have e1:=ih f (by omega) p (by omega)
       rw[e1]
       rcases Nat.lt_or_ge i.toNat (f+1)with h2 | h2
       ·have e2:=ih i.toNat (by omega) p (by omega)
        rw[e2]
       ·omega
     ·cases f<;>simp[ae.pathF,hh]
theorem ae.path_yes {G:ae} (h:G.Wf) {i:Int} (hi:G.has i=true):G.path i=(G.nodes.getD i.toNat dQ)::G.path (G.nodes.getD i.toNat dQ).parent:=by
 have ok:=h.get hi
 have hp1:=ok.p1
 have hp0:=ok.p0
 have hi0:0≤i:=by simp[ae.has]at hi;exact hi.1
 rw[ae.path,ae.pathF,if_pos hi]
 congr 1
 generalize (G.nodes.getD i.toNat dQ).parent=p at*
 by_cases hpn:p<0
 ·have hno:G.has p=false:=by simp[ae.has];omega
  unfold ae.path
  cases i.toNat<;>simp[ae.pathF,hno]
 ·exact ae.pathF_more h _ _ (by omega)
theorem ae.path_no {G:ae} {i:Int} (hi:G.has i=false):G.path i=[]:=by
 rw[ae.path,ae.pathF,hi]
 rfl
def dW (G:ae) (n:bg):Bool:=decide (0≤n.gate) && !G.isOpen n.gate
def ae.rights (G:ae) (i:Int):Int:=if G.path i=[]∨(G.path i).any (dW G)then 0 else(G.path i).foldl (fun r n=>lj r n.rights) 15
def ae.target (G:ae) (i:Int):bg×Bool:=((G.path i).getLastD dQ,!(G.path i).isEmpty)
def dH (l:List bg):List Int:=(l.filter fun n=>decide (0≤n.gate)).map (·.gate)
def ae.gatesC (G:ae) (i:Int):List Int:=dH (G.path i)
def aB (n:bg):List AV:=[.int .i64 n.parent,.int .i64 n.gate,.int .i64 n.rights,.int .i64 n.cell,.int .i64 n.plugin,.int .i64 n.func]
abbrev tN:TypeId:=132
abbrev tB:TypeId:=4
def me (h:AH) (J:Nat→Prop) (e:TypeId) (v:AV) (rows:List (List AV)):Prop:=(rows=[]∧v= .nils)∨∃ id,J id∧rows≠[]∧id<h.ids∧h.hw id=rows.length∧v= .isl (some id) e rows
def lZ (h:AH) (F:Nat→Prop) (b:Nat) (e:TypeId) (v:AV) (rows:List (List AV)):Prop:=(rows=[]∧v= .nils)∨∃ q,F q∧q≠b∧q<h.n∧h.cell q=some rows∧v= .msl q 0 rows.length e
structure IsG (h:AH) (F J:Nat→Prop) (b:Nat) (G:ae):Prop where
 hb:F b∧b<h.n
 lt:(∀ k,F k→k<h.n)∧∀ j,J j→j<h.ids
 ex:∃ nv sv,h.cell b=some [[nv,sv]]∧me h J tN nv (G.nodes.map aB)∧lZ h F b tB sv (G.shut.map fun x=>[.bool x])
structure Chg (F J:Nat→Prop) (h h':AH):Prop where
 n:h.n≤h'.n
 ids:h.ids≤h'.ids
 cell:∀ k,k<h.n→¬ F k→h'.cell k=h.cell k
 hw:∀ j,j<h.ids→¬ J j→h'.hw j=h.hw j
def bU (h:AH) (F J:Nat→Prop) (b:Nat) (h':AH) (G':ae):Prop:=
 ∃ F' J',IsG h' F' J' b G'∧Chg F J h h'∧(∀ k,F' k→F k∨h.n≤k)∧(∀ j,J' j→J j∨h.ids≤j)
def jr:List Int→ae→Int→ae×Int×Int
 | [],G,n=>(G,n,0)
 | k::l,G,n=>if(G.derive n 15 k).2.2≠0 then((G.derive n 15 k).1,0,(G.derive n 15 k).2.2)else jr l (G.derive n 15 k).1 (G.derive n 15 k).2.1
def aD:VD:= .mk 0 0 []
def cN (ks:List Int) (G:ae) (kind n:Int):ae×Int×Int:=if kind=4 then jr ks G n else(G,n,0)
mutual
def dm (ks:List Int):VD→ae→ae×VD×Int
 | .mk kind n l,G=>
   if(cN ks G kind n).2.2≠0 then((cN ks G kind n).1,aD,(cN ks G kind n).2.2)
   else if(bw ks l (cN ks G kind n).1).2.2≠0 then((bw ks l (cN ks G kind n).1).1,aD,(bw ks l (cN ks G kind n).1).2.2)
   else((bw ks l (cN ks G kind n).1).1,.mk kind (cN ks G kind n).2.1 (bw ks l (cN ks G kind n).1).2.1,0)
def bw (ks:List Int):List VD→ae→ae×List VD×Int
 | [],G=>(G,[],0)
 | x::l,G=>
   if(dm ks x G).2.2≠0 then((dm ks x G).1,[],(dm ks x G).2.2)
   else((bw ks l (dm ks x G).1).1,(dm ks x G).2.1::(bw ks l (dm ks x G).1).2.1,(bw ks l (dm ks x G).1).2.2)
end
theorem Bc (ks:List Int) (x:VD) (G:ae):dm ks x G=
  if(cN ks G x.kind x.n).2.2≠0 then((cN ks G x.kind x.n).1,aD,(cN ks G x.kind x.n).2.2)
  else if(bw ks x.l (cN ks G x.kind x.n).1).2.2≠0 then((bw ks x.l (cN ks G x.kind x.n).1).1,aD,(bw ks x.l (cN ks G x.kind x.n).1).2.2)
  else((bw ks x.l (cN ks G x.kind x.n).1).1,.mk x.kind (cN ks G x.kind x.n).2.1 (bw ks x.l (cN ks G x.kind x.n).1).2.1,0):=by
 cases x
 rfl
def qj (G:ae) (x:VD):Int:=
 if x.code≠0 then x.code else if x.gate then 9 else if x.caps.any fun n=> !eP (G.rights n) 2 then 9 else 0
def be (ks:List Int) (G:ae) (x:VD):ae×VD×Int:=if qj G x≠0 then(G,aD,qj G x)else dm ks x G
theorem Bh (ks:List Int):∀ (G:ae) (n:Int),G.Wf→(jr ks G n).1.Wf:=by
 induction ks with
 | nil=>intro G n h;exact h
 | cons k l ih=>
   intro G n h
   simp only[jr]
   split
   ·exact h.derive _ _ _
   ·exact ih _ _ (h.derive _ _ _)
theorem pa {ks:List Int} {G:ae} {kind n:Int} (h:G.Wf):(cN ks G kind n).1.Wf:=by
 unfold cN
 split
 ·exact Bh ks G n h
 ·exact h
mutual
theorem oK (ks:List Int):∀ (x:VD) (G:ae),G.Wf→(dm ks x G).1.Wf
 | .mk kind n l,G,h=>by
   simp only[dm]
   split
   ·exact pa h
   ·split
    ·exact pr ks l _ (pa h)
    ·exact pr ks l _ (pa h)
theorem pr (ks:List Int):∀ (l:List VD) (G:ae),G.Wf→(bw ks l G).1.Wf
 | [],G,h=>h
 | x::l,G,h=>by
   simp only[bw]
   split
   ·exact oK ks x G h
   ·exact pr ks l _ (oK ks x G h)
end
theorem q7 {ks:List Int} {G:ae} {x:VD} (h:G.Wf):(be ks G x).1.Wf:=by
 unfold be
 split
 ·exact h
 ·exact oK ks x G h
theorem Chg.refl (F J:Nat→Prop) (h:AH):Chg F J h h:=⟨Nat.le_refl _,Nat.le_refl _,fun _ _ _=>rfl,fun _ _ _=>rfl⟩
theorem ab.chg {h h':AH} (g:ab h h') (F J:Nat→Prop):Chg F J h h':=⟨g.n,g.ids,fun k hk _=>g.cell k hk,fun j hj _=>g.hw j hj⟩
theorem Chg.trans {F J:Nat→Prop} {a b c:AH} (x:Chg F J a b) (y:Chg F J b c):Chg F J a c:=
 ⟨Nat.le_trans x.n y.n,Nat.le_trans x.ids y.ids,fun k hk hF=>(y.cell k (Nat.lt_of_lt_of_le hk x.n) hF).trans (x.cell k hk hF),fun j hj hJ=>(y.hw j (Nat.lt_of_lt_of_le hj x.ids) hJ).trans (x.hw j hj hJ)⟩
theorem Chg.then {F J F' J':Nat→Prop} {a b c:AH} (x:Chg F J a b) (y:Chg F' J' b c) (hF:∀ k,F' k→F k∨a.n≤k) (hJ:∀ j,J' j→J j∨a.ids≤j):Chg F J a c:=
 ⟨Nat.le_trans x.n y.n,Nat.le_trans x.ids y.ids,
  fun k hk h1=>(y.cell k (Nat.lt_of_lt_of_le hk x.n) fun h2=>by rcases hF k h2 with h | h;exact h1 h;omega).trans (x.cell k hk h1),
  fun j hj h1=>(y.hw j (Nat.lt_of_lt_of_le hj x.ids) fun h2=>by rcases hJ j h2 with h | h;exact h1 h;omega).trans (x.hw j hj h1)⟩
theorem IsG.keep {h h':AH} {F J F2 J2:Nat→Prop} {b:Nat} {G:ae} (g:IsG h F J b G) (c:Chg F2 J2 h h') (hF:∀ k,F k→¬ F2 k) (hJ:∀ j,J j→¬ J2 j):IsG h' F J b G:=by
 obtain⟨nv,sv,h1,h2,h3⟩:=g.ex
 refine⟨⟨g.hb.1,Nat.lt_of_lt_of_le g.hb.2 c.n⟩,⟨fun k hk=>Nat.lt_of_lt_of_le (g.lt.1 k hk) c.n,fun j hj=>Nat.lt_of_lt_of_le (g.lt.2 j hj) c.ids⟩,nv,sv,(c.cell b g.hb.2 (hF b g.hb.1)).trans h1,?_,?_⟩
 ·rcases h2 with h2 | ⟨id,a1,a0,a2,a3,a4⟩
  ·exact .inl h2
  ·exact .inr ⟨id,a1,a0,Nat.lt_of_lt_of_le a2 c.ids,(c.hw id a2 (hJ id a1)).trans a3,a4⟩
 ·rcases h3 with h3 | ⟨q,a1,a2,a3,a4,a5⟩
  ·exact .inl h3
  ·exact .inr ⟨q,a1,a2,Nat.lt_of_lt_of_le a3 c.n,(c.cell q a3 (hF q a1)).trans a4,a5⟩
structure Asn where
 A:AH→(Nat→Prop)→(Nat→Prop)→Prop
 lt:∀ {h:AH} {F J:Nat→Prop},A h F J→(∀ k,F k→k<h.n)∧∀ j,J j→j<h.ids
 keep:∀ {h h':AH} {F J X Y:Nat→Prop},A h F J→Chg X Y h h'→(∀ k,F k→¬ X k)→(∀ j,J j→¬ Y j)→A h' F J
def uu (p:Prop):Asn where
 A _ F J:=p∧(∀ k,¬ F k)∧∀ j,¬ J j
 lt:=fun⟨_,a,b⟩=>⟨fun k hk=>absurd hk (a k),fun j hj=>absurd hj (b j)⟩
 keep:=fun h _ _ _=>h
def ah (b:Nat) (es:List (List AV)):Asn where
 A h F J:=(∀ k,F k↔k=b)∧(∀ j,¬ J j)∧b<h.n∧h.cell b=some es
 lt:=fun⟨a,b,c,_⟩=>⟨fun k hk=>by rw[(a k).1 hk];exact c,fun j hj=>absurd hj (b j)⟩
 keep:=fun⟨a,b,c,d⟩ x hF _=>⟨a,b,Nat.lt_of_lt_of_le c x.n,(x.cell _ c (hF _ ((a _).2 rfl))).trans d⟩
def idA (id n:Nat):Asn where
 A h F J:=(∀ k,¬ F k)∧(∀ j,J j↔j=id)∧id<h.ids∧h.hw id=n
 lt:=fun⟨a,b,c,_⟩=>⟨fun k hk=>absurd hk (a k),fun j hj=>by rw[(b j).1 hj];exact c⟩
 keep:=fun⟨a,b,c,d⟩ x _ hJ=>⟨a,b,Nat.lt_of_lt_of_le c x.ids,(x.hw _ c (hJ _ ((b _).2 rfl))).trans d⟩
def dx (X Y:Asn):Asn where
 A h F J:=∃ F1 J1 F2 J2,X.A h F1 J1∧Y.A h F2 J2∧(∀ k,F k↔F1 k∨F2 k)∧(∀ j,J j↔J1 j∨J2 j)∧(∀ k,F1 k→¬ F2 k)∧(∀ j,J1 j→¬ J2 j)
 lt:=fun⟨F1,J1,F2,J2,x,y,hF,hJ,_,_⟩=>⟨fun k hk=>((hF k).1 hk).elim ((X.lt x).1 k) ((Y.lt y).1 k),fun j hj=>((hJ j).1 hj).elim ((X.lt x).2 j) ((Y.lt y).2 j)⟩
 keep:=fun⟨F1,J1,F2,J2,x,y,hF,hJ,dF,dJ⟩ c nF nJ=>
  ⟨F1,J1,F2,J2,X.keep x c (fun k hk=>nF k ((hF k).2 (.inl hk))) (fun j hj=>nJ j ((hJ j).2 (.inl hj))),Y.keep y c (fun k hk=>nF k ((hF k).2 (.inr hk))) (fun j hj=>nJ j ((hJ j).2 (.inr hj))),hF,hJ,dF,dJ⟩
def n9 {α:Type} (X:α→Asn):Asn where
 A h F J:=∃ a,(X a).A h F J
 lt:=fun⟨a,x⟩=>(X a).lt x
 keep:=fun⟨a,x⟩ c nF nJ=>⟨a,(X a).keep x c nF nJ⟩
def orA (X Y:Asn):Asn where
 A h F J:=X.A h F J∨Y.A h F J
 lt:=fun h=>h.elim X.lt Y.lt
 keep:=fun h c nF nJ=>h.imp (fun x=>X.keep x c nF nJ) (fun y=>Y.keep y c nF nJ)
def tv (p:Prop) (X:Asn):Asn where
 A h F J:=p∧X.A h F J
 lt:=fun h=>X.lt h.2
 keep:=fun h c nF nJ=>⟨h.1,X.keep h.2 c nF nJ⟩
def aM (b:Nat) (G:ae):Asn where
 A h F J:=IsG h F J b G
 lt:=fun g=>g.lt
 keep:=fun g c nF nJ=>g.keep c nF nJ
def bh:List Asn→Asn
 | []=>uu True
 | X::L=>dx X (bh L)
def Did (h:AH) (F J:Nat→Prop) (h':AH) (X:Asn):Prop:=∃ F' J',X.A h' F' J'∧Chg F J h h'∧(∀ k,F' k→F k∨h.n≤k)∧(∀ j,J' j→J j∨h.ids≤j)
structure dE where
 (plugin cell right node:Int)
structure StD where
 G:ae
 cells:List Int
 log:List dE
 kept:List VD
 left:Nat
abbrev aI:=List (Option (List XD))
def dK:XD:= .mk 0 0 0 []
def np (n:Int):VD:= .mk 1 n []
def pH (n:Int):VD:= .mk 4 n []
def bW (ms:aI) (p:Int):List XD:=(ms.getD p.toNat none).getD []
def df (ms:aI) (p k:Int):XD:=(bW ms p).getD k.toNat dK
def qu (k a b:Int):Int:=if k=1 then IntKind.wrap .i64 (a+b)else if k=2 then IntKind.wrap .i64 (a - b)else if k=3 then IntKind.wrap .i64 (a*b)else if k=4 then(if a<b then 1 else 0)else if k=5 then(if a=b then 1 else 0)else 0
def StD.ok (S:StD) (v:VD):StD×VD×Int:=(S,v,0)
def StD.no (S:StD) (c:Int):StD×VD×Int:=(S,aD,c)
def StD.tick (S:StD):StD:={S with left:=S.left - 1}
def CW (S:StD) (q:ae×Int×Int):StD×VD×Int:=if q.2.2≠0 then({S with G:=q.1}).no q.2.2 else({S with G:=q.1}).ok (pH q.2.1)
def bR (p op k n:Int) (l:List VD) (S:StD):StD×VD×Int:=
 let a:=l.getD 0 aD
 let b:=l.getD 1 aD
 if op=6 then(if a.kind≠1∨b.kind≠1 then S.no 2 else S.ok (np (qu k a.n b.n)))
 else if op=8 then(if(VD.mk 2 0 [a,b]).code≠0 then S.no 3 else S.ok (.mk 2 0 [a,b]))
 else if op=9 then(if a.kind≠2 then S.no 2 else S.ok (a.l.getD 0 aD))
 else if op=10 then(if a.kind≠2 then S.no 2 else S.ok (a.l.getD 1 aD))
 else if op=11 then(if(VD.mk 3 p [a]).code≠0 then S.no 3 else S.ok (.mk 3 p [a]))
 else if op=12 then(if a.kind≠3 then S.no 2 else if a.n≠p then S.no 10 else S.ok (a.l.getD 0 aD))
 else if op=13 then(if a.kind≠4 then S.no 2 else if eP (S.G.rights a.n) 0=false then S.no 9 else if 0≤(S.G.target a.n).1.plugin then S.no 2
  else({S with log:=S.log++[dE.mk p (S.G.target a.n).1.cell 1 a.n]}).ok (np (S.cells.getD (S.G.target a.n).1.cell.toNat 0)))
 else if op=14 then(if a.kind≠4∨b.kind≠1 then S.no 2 else if eP (S.G.rights a.n) 1=false then S.no 9 else if 0≤(S.G.target a.n).1.plugin then S.no 2
  else({S with log:=S.log++[dE.mk p (S.G.target a.n).1.cell 2 a.n],cells:=S.cells.set (S.G.target a.n).1.cell.toNat b.n}).ok b)
 else if op=15 then(if a.kind≠4 then S.no 2 else CW S (S.G.derive a.n k (-1)))
 else if op=16 then(if a.kind≠4 then S.no 2 else if S.G.gate.2.2≠0 then({S with G:=S.G.gate.1}).no S.G.gate.2.2
  else match S.G.gate.1.derive a.n 15 S.G.gate.2.1 with
   | (G',m,c)=>if c≠0 then({S with G:=G'}).no c else({S with G:=G'}).ok (.mk 2 0 [pH m,.mk 5 S.G.gate.2.1 []]))
 else if op=17 then(if a.kind≠5 then S.no 2 else({S with G:=(S.G.cut a.n).1}).ok aD)
 else if op=20 then({S with kept:=S.kept.set p.toNat a}).ok (S.kept.getD p.toNat aD)
 else S.no 0
structure ww where
 (plugin func:Int)
 arg:VD
 gates:List Int
def fP (ms:aI) (v x:VD) (fr:Nat) (S:StD):StD×ww×Int:=
 let t:=(S.G.target v.n).1
 let z:ww:=⟨0,0,aD,[]⟩
 if v.kind≠4 then(S,z,2)else if eP (S.G.rights v.n) 3=false then(S,z,9)else if t.plugin<0 then(S,z,2)
 else if(ms.getD t.plugin.toNat none).isNone∨((bW ms t.plugin).length:Int)≤t.func∨t.func<0 then(S,z,8)
 else if fr=20 then(S,z,4)
 else match be (S.G.gatesC v.n) S.G x with
  | (G',y,c)=>({S with G:=G'},⟨t.plugin,t.func,y,S.G.gatesC v.n⟩,c)
def ge (gates:List Int) (v:VD) (S:StD):StD×VD×Int:=match be gates S.G v with
 | (G',y,c)=>if c≠0 then({S with G:=G'}).no c else({S with G:=G'}).ok y
def evL (f:XD→StD→StD×VD×Int):List XD→StD→List VD→StD×List VD×Int
 | [],S,acc=>(S,acc,0)
 | x::l,S,acc=>match f x S with
   | (S',v,c)=>if c≠0 then(S',[],c)else evL f l S' (acc++[v])
def fw (p:Int) (x:XD) (arg:VD) (names:List VD) (S:StD):Option VD:=
 if x.op=1 then some aD else if x.op=2 then some (np x.n)else if x.op=3 then some arg
 else if x.op=4 then some (names.getD (names.length - 1 - x.k.toNat) aD)else if x.op=21 then some (S.kept.getD p.toNat aD)else none
def ofD (ms:aI):Nat→Int→XD→VD→List VD→Nat→StD→StD×VD×Int
 | 0,_,_,_,_,_,S=>S.no 12
 | N+1,p,x,arg,names,fr,S=>
   if S.left=0 then S.no 12
   else match fw p x arg names S.tick with
   | some v=>S.tick.ok v
   | none=>
     if x.op=5 then(match ofD ms N p (x.l.getD 0 dK) arg names fr S.tick with
      | (S',v,c)=>if c≠0 then S'.no c else ofD ms N p (x.l.getD 1 dK) arg (names++[v]) fr S')
     else if x.op=7 then(match ofD ms N p (x.l.getD 0 dK) arg names fr S.tick with
      | (S',v,c)=>if c≠0 then S'.no c else if v.kind≠1 then S'.no 2 else if v.n≠0 then ofD ms N p (x.l.getD 1 dK) arg names fr S' else ofD ms N p (x.l.getD 2 dK) arg names fr S')
     else match evL (fun y S=>ofD ms N p y arg names fr S) x.l S.tick []with
      | (S',l,c)=>if c≠0 then S'.no c
        else if x.op=18 then(if fr=20 then S'.no 4 else ofD ms N p (df ms p x.k) (l.getD 0 aD) [] (fr+1) S')
        else if x.op=19 then(match fP ms (l.getD 0 aD) (l.getD 1 aD) fr S' with
         | (S2,q,c)=>if c≠0 then S2.no c else match ofD ms N q.plugin (df ms q.plugin q.func) q.arg [] (fr+1) S2 with
           | (S3,v,c)=>if c≠0 then S3.no c else ge q.gates v S3)
        else bR p x.op x.k x.n l S'
structure FrD where
 (plugin f:Int)
 pc:Nat
 arg:VD
 (stack names:List VD)
 asked:Bool
 gates:List Int
structure MaD where
 S:StD
 top:FrD
 below:List FrD
inductive iz where
 | go (m:MaD)
 | over (S:StD) (v:VD)
 | fail (S:StD) (c:Int)
def mV:aP:=⟨0,0,0⟩
def dw (ms:aI) (p f:Int):List aP:=aw (df ms p f) 0++[⟨105,0,0⟩]
def MaD.push (m:MaD) (S:StD) (st:List VD) (v:VD):iz:= .go {m with S:=S,top:={m.top with stack:=st++[v]}}
def MaD.done (m:MaD) (st:List VD) (q:StD×VD×Int):iz:=if q.2.2≠0 then .fail q.1 q.2.2 else m.push q.1 st q.2.1
def MaD.call (m:MaD) (S:StD) (st:List VD) (p f:Int) (arg:VD) (asked:Bool) (gates:List Int):iz:=
 if m.below.length+1=20 then .fail S 4 else .go ⟨S,⟨p,f,0,arg,[],[],asked,gates⟩,m.below++[{m.top with stack:=st}]⟩
def jq (st:List VD) (k:Nat):List VD:=st.drop (st.length - k)
def ke (st:List VD) (k:Nat):List VD:=st.take (st.length - k)
def jH (ms:aI) (m:MaD) (x:aP):iz:=
 let t:=m.top
 match fw t.plugin (.mk x.op x.k x.n []) t.arg t.names m.S with
 | some v=>m.push m.S t.stack v
 | none=>
   if x.op=18 then m.call m.S (ke t.stack 1) t.plugin x.k ((jq t.stack 1).getD 0 aD) false []
   else if x.op=19 then(match fP ms ((jq t.stack 2).getD 0 aD) ((jq t.stack 2).getD 1 aD) (m.below.length+1) m.S with
    | (S',q,c)=>if c≠0 then .fail S' c else m.call S' (ke t.stack 2) q.plugin q.func q.arg true q.gates)
   else m.done (ke t.stack (aR x.op).toNat) (bR t.plugin x.op x.k x.n (jq t.stack (aR x.op).toNat) m.S)
def MaD.back (m:MaD):iz:=
 let v:=(jq m.top.stack 1).getD 0 aD
 let q:=if m.top.asked then ge m.top.gates v m.S else m.S.ok v
 if q.2.2≠0 then .fail q.1 q.2.2
 else match m.below.getLast? with
  | none=> .over q.1 q.2.1
  | some t=> .go ⟨q.1,{t with stack:=t.stack++[q.2.1]},m.below.dropLast⟩
def fh (ms:aI) (m0:MaD):iz:=
 let x:=(dw ms m0.top.plugin m0.top.f).getD m0.top.pc mV
 let m:MaD:={m0 with top:={m0.top with pc:=m0.top.pc+1}}
 let t:=m.top
 if x.op=100 then(if m.S.left=0 then .fail m.S 12 else .go {m with S:=m.S.tick})
 else if x.op=101 then .go {m with top:={t with stack:=ke t.stack 1,names:=t.names++[(jq t.stack 1).getD 0 aD]}}
 else if x.op=102 then .go {m with top:={t with names:=t.names.dropLast}}
 else if x.op=103 then(let v:=(jq t.stack 1).getD 0 aD
  if v.kind≠1 then .fail m.S 2 else .go {m with top:={t with stack:=ke t.stack 1,pc:=if v.n=0 then x.k.toNat else t.pc}})
 else if x.op=104 then .go {m with top:={t with pc:=x.k.toNat}}
 else if x.op=105 then m.back
 else jH ms m x
theorem mG {α:Type} {c:Prop} [Decidable c] {a b:StD×α} {n:Nat} (h1:a.1.left=n) (h2:b.1.left=n):(if c then a else b).1.left=n:=by split<;>assumption
theorem Cv (S:StD) (q:ae×Int×Int):(CW S q).1.left=S.left:=by
 unfold CW
 exact mG rfl rfl
theorem zu (p op k n:Int) (l:List VD) (S:StD):(bR p op k n l S).1.left=S.left:=by
 unfold bR
 repeat' (first | rfl | exact Cv _ _ | refine mG ?_ ?_)
theorem nw (ms:aI) (v x:VD) (fr:Nat) (S:StD):(fP ms v x fr S).1.left=S.left:=by
 unfold fP
 repeat' (first | rfl | refine mG ?_ ?_)
theorem zo (gates:List Int) (v:VD) (S:StD):(ge gates v S).1.left=S.left:=by
 unfold ge
 split
 exact mG rfl rfl
theorem qI {f:XD→StD→StD×VD×Int} (hf:∀ x S,(f x S).1.left≤S.left):∀ (l:List XD) (S:StD) (acc:List VD),(evL f l S acc).1.left≤S.left
 | [],S,acc=>Nat.le_refl _
 | x::l,S,acc=>by
   have h1:=hf x S
   rw[evL]
   rcases hq:f x S with⟨S',v,c⟩
   rw[hq]at h1
   simp only at h1 ⊢
   split
   ·exact h1
   ·exact Nat.le_trans (qI hf l S' _) h1
theorem jp (ms:aI):∀ (N:Nat) (p:Int) (x:XD) (arg:VD) (names:List VD) (fr:Nat) (S:StD),(ofD ms N p x arg names fr S).1.left≤S.left
 | 0,p,x,arg,names,fr,S=>Nat.le_refl _
 | N+1,p,x,arg,names,fr,S=>by
   have ih:=jp ms N
   have ht:S.tick.left≤S.left:=Nat.sub_le _ _
   rw[ofD]
   split
   ·exact Nat.le_refl _
   ·split
    ·exact ht
    ·split
     ·have h1:=ih p (x.l.getD 0 dK) arg names fr S.tick
      rcases hq:ofD ms N p (x.l.getD 0 dK) arg names fr S.tick with⟨S',v,c⟩
      rw[hq]at h1
      simp only at h1 ⊢
      split
      ·exact Nat.le_trans h1 ht
      ·exact Nat.le_trans (ih _ _ _ _ _ _) (Nat.le_trans h1 ht)
     ·split
      ·have h1:=ih p (x.l.getD 0 dK) arg names fr S.tick
       rcases hq:ofD ms N p (x.l.getD 0 dK) arg names fr S.tick with⟨S',v,c⟩
       rw[hq]at h1
       simp only at h1 ⊢
       split
       ·exact Nat.le_trans h1 ht
       ·split
        ·exact Nat.le_trans h1 ht
        ·split
         ·exact Nat.le_trans (ih _ _ _ _ _ _) (Nat.le_trans h1 ht)
         ·exact Nat.le_trans (ih _ _ _ _ _ _) (Nat.le_trans h1 ht)
      ·have h1:=qI (f:=fun y S=>ofD ms N p y arg names fr S) (fun y S=>ih p y arg names fr S) x.l S.tick []
       rcases hq:evL (fun y S=>ofD ms N p y arg names fr S) x.l S.tick []with⟨S',l,c⟩
       rw[hq]at h1
       simp only at h1 ⊢
       split
       ·exact Nat.le_trans h1 ht
       ·split
        ·split
         ·exact Nat.le_trans h1 ht
         ·exact Nat.le_trans (ih _ _ _ _ _ _) (Nat.le_trans h1 ht)
        ·split
         ·have h2:=nw ms (l.getD 0 aD) (l.getD 1 aD) fr S'
          rcases hq2:fP ms (l.getD 0 aD) (l.getD 1 aD) fr S' with⟨S2,q,c2⟩
          rw[hq2]at h2
          simp only at h2 ⊢
          split
          ·exact Nat.le_trans (Nat.le_of_eq h2) (Nat.le_trans h1 ht)
          ·have h3:=ih q.plugin (df ms q.plugin q.func) q.arg [] (fr+1) S2
           rcases hq3:ofD ms N q.plugin (df ms q.plugin q.func) q.arg [] (fr+1) S2 with⟨S3,v,c3⟩
           rw[hq3]at h3
           simp only at h3 ⊢
           split
           ·exact Nat.le_trans h3 (Nat.le_trans (Nat.le_of_eq h2) (Nat.le_trans h1 ht))
           ·rw[zo]
            exact Nat.le_trans h3 (Nat.le_trans (Nat.le_of_eq h2) (Nat.le_trans h1 ht))
         ·rw[zu]
          exact Nat.le_trans h1 ht
def StD.mu (S:StD):Nat:=S.log.length+S.left
structure StD.Good (S:StD):Prop where
 wf:S.G.Wf
 cells:S.cells.length=12
 kept:S.kept.length=4
 keptV:∀ v∈S.kept,v.code=0
theorem fQ:aD.code=0:=by decide
theorem nt (n:Int):(np n).code=0:=rfl
theorem d9 {l:List VD} (h:∀ v∈l,v.code=0) (i:Nat):(l.getD i aD).code=0:=by
 by_cases hi:i<l.length
 ·simp only[List.getD,List.getElem?_eq_getElem hi,Option.getD_some]
  exact h _ (List.getElem_mem hi)
 ·simp only[List.getD,List.getElem?_eq_none (Nat.le_of_not_lt hi),Option.getD_none]
  exact fQ
theorem oo:∀ {l:List VD},cP l=0→∀ x∈l,x.fault=0
 | [],_,x,hx=>by simp at hx
 | y::l,h,x,hx=>by
   rw[fg]at h
   split at h
   ·rename_i h1;exact absurd h h1
   ·rename_i h1
    rcases List.mem_cons.1 hx with rfl | hx
    ·omega
    ·exact oo h x hx
theorem eQ {v:VD} (h:v.code=0):v.size≤40∧de v.kind v.n v.l.length=0∧∀ x∈v.l,x.code=0:=by
 unfold VD.code at h
 split at h
 ·cases h
 ·rename_i hs
  rw[v.fault_eq]at h
  split at h
  ·rename_i h1;exact absurd h h1
  ·rename_i h1
   refine⟨by omega,by omega,fun x hx=> ?_⟩
   unfold VD.code
   have:=VD.size_mem hx
   rw[if_neg (by omega)]
   exact oo h x hx
theorem tS {kind n:Int} {l:List VD} (hs:(VD.mk kind n l).size≤40) (hh:de kind n l.length=0) (hl:∀ x∈l,x.code=0):(VD.mk kind n l).code=0:=by
 have key:∀ l:List VD,(∀ x∈l,x.code=0)→cP l=0:=by
  intro l hl
  induction l with
  | nil=>rfl
  | cons x l ih=>
    have h1:=hl x (by simp)
    unfold VD.code at h1
    split at h1
    ·cases h1
    ·rw[fg,if_neg (by omega)]
     exact ih fun y hy=>hl y (by simp[hy])
 unfold VD.code
 rw[if_neg (by omega)]
 show(if de kind n l.length≠0 then de kind n l.length else cP l)=0
 rw[if_neg (by omega)]
 exact key l hl
theorem vH {v:VD} (h:v.code=0):(v.kind=2→∃ a b,v.l=[a,b])∧(v.kind=3→∃ a,v.l=[a]):=by
 obtain⟨_,h1,_⟩:=eQ h
 unfold de at h1
 split at h1
 ·cases h1
 ·split at h1
  ·cases h1
  ·rename_i h2
   constructor
   ·intro h3
    simp only[iv,h3,if_true,Decidable.not_not]at h2
    match hl:v.l,h2 with
    | [a,b],_=>exact⟨a,b,rfl⟩
   ·intro h3
    simp only[iv,h3,if_true,Decidable.not_not]at h2
    rw[if_neg (by decide)]at h2
    match hl:v.l,h2 with
    | [a],_=>exact⟨a,rfl⟩
theorem wC {n:Int} (h:0≤n):(pH n).code=0:=tS (by simp[VD.size,bp]) (by simp[de,iv];omega) (by simp)
theorem B9 {n:Int} (h:0≤n):(VD.mk 5 n []).code=0:=tS (by simp[VD.size,bp]) (by simp[de,iv];omega) (by simp)
mutual
theorem sR (ks:List Int):∀ (x:VD) (G:ae),(dm ks x G).2.2=0→(dm ks x G).2.1.size=x.size
 | .mk kind n l,G,h=>by
   simp only[dm]at h ⊢
   split at h
   ·rename_i h1;exact absurd h h1
   ·rename_i h1
    split at h
    ·rename_i h2;exact absurd h h2
    ·rename_i h2
     rw[if_neg h1,if_neg h2]
     simp only[VD.size]
     rw[(lz ks l _ (by omega)).1]
theorem lz (ks:List Int):∀ (l:List VD) (G:ae),(bw ks l G).2.2=0→bp (bw ks l G).2.1=bp l∧(bw ks l G).2.1.length=l.length
 | [],G,h=>⟨rfl,rfl⟩
 | x::l,G,h=>by
   simp only[bw]at h ⊢
   split at h
   ·rename_i h1;exact absurd h h1
   ·rename_i h1
    rw[if_neg h1]
    have h2:=lz ks l _ h
    simp only[bp,List.length_cons]
    rw[sR ks x G (by omega),h2.1,h2.2]
    exact⟨rfl,rfl⟩
end
theorem lG {G:ae} {n r k:Int}:0≤(G.derive n r k).2.1:=by
 unfold ae.derive ae.add
 split
 ·split
  ·exact Int.le_refl _
  ·split
   ·exact Int.le_refl _
   ·split
    ·exact Int.le_refl _
    ·exact Int.natCast_nonneg _
 ·exact Int.le_refl _
theorem DP (ks:List Int):∀ (G:ae) (n:Int),0≤n→0≤(jr ks G n).2.1:=by
 induction ks with
 | nil=>intro G n h;exact h
 | cons k l ih=>
   intro G n h
   simp only[jr]
   split
   ·exact Int.le_refl _
   ·exact ih _ _ lG
mutual
theorem rp (ks:List Int):∀ (x:VD) (G:ae),x.fault=0→(dm ks x G).2.2=0→(dm ks x G).2.1.fault=0
 | .mk kind n l,G,hf,h=>by
   change (if de kind n l.length≠0 then de kind n l.length else cP l)=0 at hf
   split at hf
   ·rename_i h1;exact absurd hf h1
   rename_i hh
   simp only[dm]at h ⊢
   split at h
   ·rename_i h1;exact absurd h h1
   ·rename_i h1
    split at h
    ·rename_i h2;exact absurd h h2
    ·rename_i h2
     rw[if_neg h1,if_neg h2]
     have hl:=(lz ks l (cN ks G kind n).1 (by omega)).2
     show(if de kind _ (bw ks l (cN ks G kind n).1).2.1.length≠0 then de kind _ (bw ks l (cN ks G kind n).1).2.1.length else cP (bw ks l (cN ks G kind n).1).2.1)=0
     rw[hl,if_neg]
     ·exact oh ks l _ hf (by omega)
     ·unfold cN
      by_cases h4:kind=4
      ·rw[if_pos h4]
       have:0≤n:=by
        unfold de at hh
        split at hh
        ·simp at hh
        ·split at hh
         ·simp at hh
         ·split at hh
          ·simp at hh
          ·split at hh
           ·simp at hh
           ·omega
       have h5:=DP ks G n this
       unfold de at hh ⊢
       subst h4
       rw[if_neg (by omega)]at hh ⊢
       split at hh
       ·simp at hh
       ·rename_i h6
        rw[if_neg h6,if_neg (by omega),if_neg (by omega)]
        decide
      ·rw[if_neg h4]
       exact hh
theorem oh (ks:List Int):∀ (l:List VD) (G:ae),cP l=0→(bw ks l G).2.2=0→cP (bw ks l G).2.1=0
 | [],G,hf,h=>rfl
 | x::l,G,hf,h=>by
   rw[fg]at hf
   split at hf
   ·rename_i h1;exact absurd hf h1
   rename_i hx
   simp only[bw]at h ⊢
   split at h
   ·rename_i h1;exact absurd h h1
   ·rename_i h1
    rw[if_neg h1,fg,if_neg (by rw[rp ks x G (by omega) (by omega)];decide)]
    exact oh ks l _ hf h
end
theorem mg {ks:List Int} {G:ae} {x:VD} (h:(be ks G x).2.2=0):(be ks G x).2.1.code=0:=by
 unfold be at h ⊢
 split at h
 ·rename_i h1;exact absurd h h1
 ·rename_i h1
  rw[if_neg h1]
  have hx:x.code=0:=by
   unfold qj at h1
   split at h1
   ·rename_i h2;exact absurd h1 (by simpa using h2)
   ·omega
  have hs:=(eQ hx).1
  unfold VD.code at hx ⊢
  rw[if_neg (by omega)]at hx
  rw[if_neg (by rw[sR ks x G h];omega)]
  exact rp ks x G hx h
structure bZ (n:Nat) (S:StD) (q:StD×VD×Int):Prop where
 good:q.1.Good
 mu:q.1.mu≤S.mu+n
 left:q.1.left≤S.left
 val:q.2.2=0→q.2.1.code=0
theorem StD.Good.with {S:StD} (h:S.Good) {G:ae} (hG:G.Wf):({S with G:=G}:StD).Good:=⟨hG,h.cells,h.kept,h.keptV⟩
theorem bZ.no {S S':StD} {n:Nat} {c:Int} (h:S'.Good) (h1:S'.mu≤S.mu+n) (h2:S'.left≤S.left):bZ n S (S'.no c):=⟨h,h1,h2,fun _=>fQ⟩
theorem bZ.ok {S S':StD} {n:Nat} {v:VD} (h:S'.Good) (h1:S'.mu≤S.mu+n) (h2:S'.left≤S.left) (hv:v.code=0):bZ n S (S'.ok v):=⟨h,h1,h2,fun _=>hv⟩
theorem bZ.ite {S:StD} {n:Nat} {p:Prop} [Decidable p] {a b:StD×VD×Int} (h1:p→bZ n S a) (h2:¬ p→bZ n S b):bZ n S (if p then a else b):=by
 split
 ·exact h1 ‹_›
 ·exact h2 ‹_›
theorem ES {p op k n:Int} {l:List VD} {S:StD} (hS:S.Good) (hl:∀ v∈l,v.code=0):bZ 1 S (bR p op k n l S):=by
 have ha:=d9 hl 0
 have hb:=d9 hl 1
 have m0:S.mu≤S.mu+1:=Nat.le_succ _
 have no:∀ {c:Int},bZ 1 S (S.no c):= .no hS m0 (Nat.le_refl _)
 have ok:∀ {v:VD},v.code=0→bZ 1 S (S.ok v):=fun hv=> .ok hS m0 (Nat.le_refl _) hv
 unfold bR
 refine .ite (fun _=> .ite (fun _=>no) fun _=>ok (nt _)) fun h6=> ?_
 refine .ite (fun _=> .ite (fun _=>no) fun h=>ok (by simpa using h)) fun h8=> ?_
 refine .ite (fun _=> .ite (fun _=>no) fun h=>ok (d9 (eQ ha).2.2 0)) fun h9=> ?_
 refine .ite (fun _=> .ite (fun _=>no) fun h=>ok (d9 (eQ ha).2.2 1)) fun h10=> ?_
 refine .ite (fun _=> .ite (fun _=>no) fun h=>ok (by simpa using h)) fun h11=> ?_
 refine .ite (fun _=> .ite (fun _=>no) fun _=> .ite (fun _=>no) fun _=>ok (d9 (eQ ha).2.2 0)) fun h12=> ?_
 refine .ite (fun _=> .ite (fun _=>no) fun _=> .ite (fun _=>no) fun _=> .ite (fun _=>no) fun _=> ?_) fun h13=> ?_
 ·exact .ok ⟨hS.wf,hS.cells,hS.kept,hS.keptV⟩ (by simp[StD.mu];omega) (Nat.le_refl _) (nt _)
 refine .ite (fun _=> .ite (fun _=>no) fun _=> .ite (fun _=>no) fun _=> .ite (fun _=>no) fun _=> ?_) fun h14=> ?_
 ·exact .ok ⟨hS.wf,by simpa using hS.cells,hS.kept,hS.keptV⟩ (by simp[StD.mu];omega) (Nat.le_refl _) hb
 refine .ite (fun _=> .ite (fun _=>no) fun _=> ?_) fun h15=> ?_
 ·unfold CW
  exact .ite (fun _=> .no (hS.with (hS.wf.derive _ _ _)) m0 (Nat.le_refl _)) fun _=> .ok (hS.with (hS.wf.derive _ _ _)) m0 (Nat.le_refl _) (wC lG)
 refine .ite (fun _=> .ite (fun _=>no) fun _=> .ite (fun _=> .no (hS.with hS.wf.gate) m0 (Nat.le_refl _)) fun hg=> ?_) fun h16=> ?_
 ·have hw:=hS.wf.gate.derive (l.getD 0 aD).n 15 S.G.gate.2.1
  have hn:=lG (G:=S.G.gate.1) (n:=(l.getD 0 aD).n) (r:=15) (k:=S.G.gate.2.1)
  generalize S.G.gate.1.derive (l.getD 0 aD).n 15 S.G.gate.2.1=q at hw hn ⊢
  obtain⟨G',m,c⟩:=q
  refine .ite (fun _=> .no (hS.with hw) m0 (Nat.le_refl _)) fun _=> .ok (hS.with hw) m0 (Nat.le_refl _) ?_
  refine tS (by simp[VD.size,bp,pH]) (by simp[de,iv]) ?_
  intro x hx
  rcases List.mem_cons.1 hx with rfl | hx
  ·exact wC hn
  ·simp only[List.mem_singleton]at hx
   subst hx
   refine B9 ?_
   unfold ae.gate
   split
   ·exact Int.le_refl _
   ·exact Int.natCast_nonneg _
 refine .ite (fun _=> .ite (fun _=>no) fun _=> ?_) fun h17=> ?_
 ·exact .ok (hS.with (hS.wf.cut _)) m0 (Nat.le_refl _) fQ
 refine .ite (fun _=> ?_) fun h20=>no
 refine .ok ⟨hS.wf,hS.cells,by simpa using hS.kept,fun v hv=> ?_⟩ m0 (Nat.le_refl _) (d9 hS.keptV _)
 rcases List.mem_or_eq_of_mem_set hv with h | rfl
 ·exact hS.keptV v h
 ·exact ha
theorem sD (G:ae):∀ (f:Nat) (i:Int),(G.pathF f i).length≤f
 | 0,_=>by simp[ae.pathF]
 | f+1,i=>by
   unfold ae.pathF
   split
   ·have:=sD G f (G.nodes.getD i.toNat dQ).parent
    simp only[List.length_cons]
    omega
   ·simp
theorem sF {G:ae} (h:G.Wf) {i:Int}:(G.gatesC i).length≤80:=by
 unfold ae.gatesC dH
 rw[List.length_map]
 refine Nat.le_trans (List.length_filter_le _ _) ?_
 cases hh:G.has i with
 | false=>rw[ae.path_no hh];simp
 | true=>
   have:=sD G (i.toNat+1) i
   simp only[ae.has,decide_eq_true_eq]at hh
   have:=h.few
   unfold ae.path
   omega
theorem BJ {ms:aI} {v x:VD} {fr:Nat} {S:StD} (hS:S.Good):(fP ms v x fr S).1.Good∧(fP ms v x fr S).1.mu≤S.mu∧((fP ms v x fr S).2.2=0→(fP ms v x fr S).2.1.arg.code=0∧(fP ms v x fr S).2.1.gates.length≤80∧
  (ms.getD (fP ms v x fr S).2.1.plugin.toNat none).isSome∧0≤(fP ms v x fr S).2.1.plugin∧0≤(fP ms v x fr S).2.1.func∧(fP ms v x fr S).2.1.func.toNat<(bW ms (fP ms v x fr S).2.1.plugin).length):=by
 unfold fP
 simp only
 split
 ·exact⟨hS,Nat.le_refl _,fun h=>by simp at h⟩
 split
 ·exact⟨hS,Nat.le_refl _,fun h=>by simp at h⟩
 split
 ·exact⟨hS,Nat.le_refl _,fun h=>by simp at h⟩
 rename_i hp
 split
 ·exact⟨hS,Nat.le_refl _,fun h=>by simp at h⟩
 rename_i hn
 simp only[not_or]at hn
 split
 ·exact⟨hS,Nat.le_refl _,fun h=>by simp at h⟩
 refine⟨hS.with (q7 hS.wf),Nat.le_refl _,fun h=>⟨mg h,?_,by simpa[Option.isNone_iff_eq_none,Option.isSome_iff_ne_none]using hn.1,by simp only;omega,by simp only;omega,?_⟩⟩
 ·exact sF hS.wf
 ·have:=hn.2.1;have:=hn.2.2
  simp only
  omega
theorem Gi {gates:List Int} {v:VD} {S:StD} (hS:S.Good):bZ 0 S (ge gates v S):=by
 unfold ge
 have hw:=q7 (ks:=gates) (x:=v) hS.wf
 have hc:=mg (ks:=gates) (G:=S.G) (x:=v)
 generalize be gates S.G v=q at hw hc ⊢
 obtain⟨G',y,c⟩:=q
 refine .ite (fun _=> .no (hS.with hw) (Nat.le_refl _) (Nat.le_refl _)) fun h=> .ok (hS.with hw) (Nat.le_refl _) (Nat.le_refl _) (hc (by simpa using h))
def Iz (S:StD) (q:StD×VD×Int):Prop:=bZ 0 S q∧(q.2.2=0→q.1.left<S.left)
theorem bZ.trans {n k:Nat} {S S1:StD} {q:StD×VD×Int} (h1:S1.mu≤S.mu+n) (h2:S1.left≤S.left) (h:bZ k S1 q):bZ (n+k) S q:=⟨h.good,by have:=h.mu;omega,Nat.le_trans h.left h2,h.val⟩
theorem bZ.weak {n k:Nat} {S:StD} {q:StD×VD×Int} (h:bZ k S q) (hk:k≤n):bZ n S q:=⟨h.good,by have:=h.mu;omega,h.left,h.val⟩
theorem y9 {f:XD→StD→StD×VD×Int} (hf:∀ x S,S.Good→Iz S (f x S)):∀ (l:List XD) (S:StD) (acc:List VD),S.Good→(∀ v∈acc,v.code=0)→
  (evL f l S acc).1.Good∧(evL f l S acc).1.mu≤S.mu∧(evL f l S acc).1.left≤S.left∧((evL f l S acc).2.2=0→(∀ v∈(evL f l S acc).2.1,v.code=0)∧(evL f l S acc).1.left+(evL f l S acc).2.1.length≤S.left+acc.length)
 | [],S,acc,hS,ha=>⟨hS,Nat.le_refl _,Nat.le_refl _,fun _=>⟨ha,Nat.le_refl _⟩⟩
 | x::l,S,acc,hS,ha=>by
   obtain⟨h1,h2⟩:=hf x S hS
   rw[evL]
   rcases hq:f x S with⟨S',v,c⟩
   rw[hq]at h1 h2
   simp only at h2 ⊢
   split
   ·rename_i hc
    exact⟨h1.good,h1.mu,h1.left,fun e=>absurd e hc⟩
   ·rename_i hc
    have hc:c=0:=by omega
    have h3:=h2 hc
    have hv:=h1.val hc
    obtain⟨g1,g2,g3,g4⟩:=y9 hf l S' (acc++[v]) h1.good (fun w hw=>by
     rcases List.mem_append.1 hw with h | h
     ·exact ha w h
     ·simp only[List.mem_singleton]at h
      rw[h];exact hv)
    have hm:S'.mu≤S.mu:=h1.mu
    have hle:S'.left≤S.left:=h1.left
    refine⟨g1,Nat.le_trans g2 hm,Nat.le_trans g3 hle,fun e=>⟨(g4 e).1,?_⟩⟩
    have:=(g4 e).2
    simp only[List.length_append,List.length_singleton]at this
    omega
theorem lR {S:StD} (h:S.left≠0):S.tick.mu+1=S.mu∧S.tick.left+1=S.left:=by
 simp only[StD.mu,StD.tick]
 omega
theorem StD.Good.tick {S:StD} (h:S.Good):S.tick.Good:=⟨h.wf,h.cells,h.kept,h.keptV⟩
theorem zC {p:Int} {x:XD} {arg:VD} {names:List VD} {S:StD} {v:VD} (hS:S.Good) (ha:arg.code=0) (hn:∀ v∈names,v.code=0) (h:fw p x arg names S=some v):v.code=0:=by
 unfold fw at h
 split at h
 ·injection h with h;rw[←h];exact fQ
 split at h
 ·injection h with h;rw[←h];exact nt _
 split at h
 ·injection h with h;rw[←h];exact ha
 split at h
 ·injection h with h;rw[←h];exact d9 hn _
 split at h
 ·injection h with h;rw[←h];exact d9 hS.keptV _
 cases h
theorem gu (ms:aI):∀ (N:Nat) (p:Int) (x:XD) (arg:VD) (names:List VD) (fr:Nat) (S:StD),S.Good→arg.code=0→(∀ v∈names,v.code=0)→Iz S (ofD ms N p x arg names fr S)
 | 0,p,x,arg,names,fr,S,hS,_,_=>⟨.no hS (Nat.le_refl _) (Nat.le_refl _),fun h=>by simp[ofD,StD.no]at h⟩
 | N+1,p,x,arg,names,fr,S,hS,ha,hn=>by
   have ih:=gu ms N
   rw[ofD]
   split
   ·exact⟨.no hS (Nat.le_refl _) (Nat.le_refl _),fun h=>by simp[StD.no]at h⟩
   rename_i h0
   obtain⟨tm,tl⟩:=lR h0
   -- what comes behind the tick
   suffices h:∀ q,bZ 1 S.tick q→Iz S q by
    refine h _ ?_
    split
    ·rename_i v hv
     exact .ok hS.tick (Nat.le_succ _) (Nat.le_refl _) (zC hS.tick ha hn hv)
    ·split
     ·have h1:=(ih p (x.l.getD 0 dK) arg names fr S.tick hS.tick ha hn).1
      rcases hq:ofD ms N p (x.l.getD 0 dK) arg names fr S.tick with⟨S',v,c⟩
      rw[hq]at h1
      refine .ite (fun _=>(bZ.no (c:=c) h1.good h1.mu h1.left).weak (Nat.zero_le _)) fun hc=> ?_
      have h2:=(ih p (x.l.getD 1 dK) arg (names++[v]) fr S' h1.good ha (fun w hw=>by
       rcases List.mem_append.1 hw with h | h
       ·exact hn w h
       ·simp only[List.mem_singleton]at h
        rw[h];exact h1.val (by simpa using hc))).1
      exact(bZ.trans h1.mu h1.left h2).weak (Nat.zero_le _)
     ·split
      ·have h1:=(ih p (x.l.getD 0 dK) arg names fr S.tick hS.tick ha hn).1
       rcases hq:ofD ms N p (x.l.getD 0 dK) arg names fr S.tick with⟨S',v,c⟩
       rw[hq]at h1
       refine .ite (fun _=>(bZ.no (c:=c) h1.good h1.mu h1.left).weak (Nat.zero_le _)) fun hc=> ?_
       refine .ite (fun _=>(bZ.no (c:=2) h1.good h1.mu h1.left).weak (Nat.zero_le _)) fun _=> ?_
       refine .ite (fun _=> ?_) fun _=> ?_
       ·exact(bZ.trans h1.mu h1.left (ih p (x.l.getD 1 dK) arg names fr S' h1.good ha hn).1).weak (Nat.zero_le _)
       ·exact(bZ.trans h1.mu h1.left (ih p (x.l.getD 2 dK) arg names fr S' h1.good ha hn).1).weak (Nat.zero_le _)
      ·have h1:=y9 (f:=fun y S=>ofD ms N p y arg names fr S) (fun y S h=>ih p y arg names fr S h ha hn) x.l S.tick [] hS.tick (by simp)
       rcases hq:evL (fun y S=>ofD ms N p y arg names fr S) x.l S.tick []with⟨S',l,c⟩
       rw[hq]at h1
       obtain⟨g1,g2,g3,g4⟩:=h1
       simp only at g1 g2 g3 g4
       refine .ite (fun _=>(bZ.no (n:=0) (c:=c) g1 g2 g3).weak (Nat.zero_le _)) fun hc=> ?_
       have g5:=(g4 (by simpa using hc)).1
       refine .ite (fun _=> .ite (fun _=>(bZ.no (n:=0) (c:=4) g1 g2 g3).weak (Nat.zero_le _)) fun _=> ?_) fun _=> .ite (fun _=> ?_) fun _=> ?_
       ·exact(bZ.trans (n:=0) g2 g3 (ih p (df ms p x.k) (l.getD 0 aD) [] (fr+1) S' g1 (d9 g5 0) (by simp)).1).weak (Nat.zero_le _)
       ·obtain⟨a1,a2,a3⟩:=BJ (ms:=ms) (v:=l.getD 0 aD) (x:=l.getD 1 aD) (fr:=fr) g1
        have a4:=nw ms (l.getD 0 aD) (l.getD 1 aD) fr S'
        rcases hq2:fP ms (l.getD 0 aD) (l.getD 1 aD) fr S' with⟨S2,q,c2⟩
        rw[hq2]at a1 a2 a3 a4
        simp only at a1 a2 a3 a4
        have b1:S2.mu≤S.tick.mu+0:=Nat.le_trans a2 g2
        have b2:S2.left≤S.tick.left:=Nat.le_trans (Nat.le_of_eq a4) g3
        refine .ite (fun _=>(bZ.no (n:=0) (c:=c2) a1 b1 b2).weak (Nat.zero_le _)) fun hc2=> ?_
        have h3:=(ih q.plugin (df ms q.plugin q.func) q.arg [] (fr+1) S2 a1 (a3 (by simpa using hc2)).1 (by simp)).1
        rcases hq3:ofD ms N q.plugin (df ms q.plugin q.func) q.arg [] (fr+1) S2 with⟨S3,v,c3⟩
        rw[hq3]at h3
        have h4:=bZ.trans b1 b2 h3
        refine .ite (fun _=>(bZ.no (c:=c3) h4.good h4.mu h4.left).weak (Nat.zero_le _)) fun _=> ?_
        exact(bZ.trans h4.mu h4.left (Gi h3.good)).weak (Nat.zero_le _)
       ·exact bZ.trans (n:=0) g2 g3 (ES g1 g5)
   intro q h
   have h1:=h.mu
   have h2:=h.left
   exact⟨⟨h.good,by omega,by omega,h.val⟩,fun _=>by omega⟩
structure FrD.Good (ms:aI) (t:FrD):Prop where
 p0:0≤t.plugin
 there:(ms.getD t.plugin.toNat none).isSome
 f0:0≤t.f
 f1:t.f.toNat<(bW ms t.plugin).length
 arg:t.arg.code=0
 names:∀ v∈t.names,v.code=0
 stack:∀ v∈t.stack,v.code=0
 gates:t.gates.length≤80
structure MaD.Good (ms:aI) (m:MaD):Prop where
 S:m.S.Good
 top:m.top.Good ms
 mu:m.S.mu≤1000000
 stk:m.top.stack.length+m.S.left≤100000
 nms:m.top.names.length+m.S.left≤100000
 few:m.below.length+1≤20
structure Dc (m:MaD) (x:aP):Prop where
 kind:(1≤x.op∧x.op≤21∧x.op≠5∧x.op≠7)∨(100≤x.op∧x.op≤105)
 one:x.op=101∨x.op=103∨x.op=105→m.top.stack≠[]
 nam:x.op=102→m.top.names≠[]
 jump:x.op=103∨x.op=104→0≤x.k
 parts:x.op<100→(aR x.op).toNat≤m.top.stack.length
 var:x.op=4→0≤x.k∧x.k<m.top.names.length
structure Ok (ms:aI) (m:MaD):Prop where
 good:m.Good ms
 pc:m.top.pc<(dw ms m.top.plugin m.top.f).length
 op:Dc m ((dw ms m.top.plugin m.top.f).getD m.top.pc mV)
inductive fO (ms:aI):MaD→iz→Prop
 | go {m m':MaD} {r:iz}:Ok ms m→fh ms m= .go m'→fO ms m' r→fO ms m r
 | over {m:MaD} {S:StD} {v:VD}:Ok ms m→fh ms m= .over S v→fO ms m (.over S v)
 | fail {m:MaD} {S:StD} {c:Int}:Ok ms m→fh ms m= .fail S c→fO ms m (.fail S c)
def lh (ms:aI):Prop:=∀ p:Int,∀ x∈bW ms p,x.fault (bW ms p).length 0=0
def ie (ms:aI):Prop:=∀ p f:Int,(dw ms p f).length≤1000000000
def cG (ms:aI) (p f:Int) (v:VD) (fuel:Int) (S:StD):StD×VD×Int×Int:=
 if fuel<0∨2000<fuel∨p<0∨4≤p then(S,aD,0,1)
 else if(ms.getD p.toNat none).isNone∨f<0∨((bW ms p).length:Int)≤f then(S,aD,0,8)
 else if v.code≠0 then(S,aD,0,v.code)
 else match ofD ms fuel.toNat p (df ms p f) v [] 1 {S with left:=fuel.toNat}with
  | (S',w,c)=>({S' with left:=S.left},if c=0 then w else aD,fuel - (S'.left:Int),c)
def cI (L:List XD):AV:= .isl none 174 (L.map fun x=>[.isl none 184 ((aw x 0++[(⟨105,0,0⟩:aP)]).map fun i:aP=>[.int .i64 i.op,.int .i64 i.k,.int .i64 i.n])])
abbrev tEn:TypeId:=137
abbrev tL:TypeId:=2
def eL (e:dE):List AV:=[.int .i64 e.plugin,.int .i64 e.cell,.int .i64 e.right,.int .i64 e.node]
def eU (e:TypeId) (v:AV) (rows:List (List AV)):Asn:=orA (uu (rows=[]∧v= .nils)) (n9 fun id:Nat=>tv (rows≠[]∧v= .isl (some id) e rows) (idA id rows.length))
def aY (b:Nat) (cells:List Int) (log:List dE):Asn:=n9 fun v:AV=>dx (ah b [cells.map (.int .i64)++[v]]) (eU tEn v (log.map eL))
def ic (m:Option (List XD)):AV:=match m with
 | some L=>cI L
 | none=> .nils
def dc:aI→List (List AV)→List AV
 | m::ms,k::ks=> .bool m.isSome::ic m::k++dc ms ks
 | _,_=>[]
def i6 (gb wb:Nat) (ms:aI) (ks:List (List AV)):List AV:= .ptr gb 0 0:: .ptr wb 0 0::dc ms ks
def cJ (b gb wb:Nat) (ms:aI) (kept:List VD):Asn:=n9 fun ks:List (List AV)=>tv (VaL kept ks) (ah b [i6 gb wb ms ks])
def uR (args:List AV) (h:AH) (q:(AV ⊕ AV)×AH):Prop:=
 ∀ (F J:Nat→Prop) (bb gb wb:Nat) (ms:aI) (S:StD) (p f fuel:Int) (v:VD) (r:List AV),args=[.ptr bb 0 0,.int .i64 p,.int .i64 f,.agg r,.int .i64 fuel]→VaA v r→v.size≤100000→ms.length=4→lh ms→ie ms→S.Good→S.log.length≤900000→
   (bh [cJ bb gb wb ms S.kept,aM gb S.G,aY wb S.cells S.log]).A h F J→
   ∃ r' h',q=(.inl (.tup [.agg r',.int .i64 (cG ms p f v fuel S).2.2.1,.int .i64 (cG ms p f v fuel S).2.2.2]),h')∧VaA (cG ms p f v fuel S).2.1 r'∧
     Did h F J h' (bh [cJ bb gb wb ms (cG ms p f v fuel S).1.kept,aM gb (cG ms p f v fuel S).1.G,aY wb (cG ms p f v fuel S).1.cells (cG ms p f v fuel S).1.log])
def GS:List FuncId:=[120,160,63,98,62,159,112,97,
 58,60,84,158,145,162,150,
 15,76,51,96,151,14,68,
 100,67,163,99,66,64,
 85,154,152,45,139,153,
 123,103,104,122,121,141,
 105,124,106,78,108,125,109,81,
 110,82,43,111,83,41,80,
 107,79,40,86,47,87,48,143,142,
 157,166,19,30,46,94,
 53,11,165,164,144,161,146,
 128,126,155,156,140,39,89,88,
 90,115,91,116,42,147,129,130,
 131,132,133,134,117,93,118,
 92,50,77,148,149,21,17,55,
 52,20,16,136,25,44,
 8,9,10,3,13,34,24,
 57,56,59,61,26,28,29,69,
 22,23,138,137,135,119,
 54,18,27,33,4,5,6,
 35,71,37,73,72,101,
 74,102,70,36,75,38,31,
 32,7]
def Fk:List FuncId:=[120,160,98,159,112,158,145,162,
 150,15,51,96,151,14,100,
 163,154,152,139,153,123,104,
 122,121,141,105,78,108,
 125,109,81,110,82,43,111,
 83,41,86,47,87,48,143,142,157,
 166,19,30,46,94,53,
 11,165,164,144,161,126,155,89,
 115,91,116,42,147,21,17,55,
 52,20,16,136,8,9,
 3,13,34,57,28,29,69,
 22,23,138,135,4,5,6,
 71,37,73,72,101,
 74,102,75,38,31,7]
def muF:FuncId→TypeId→Bool:=fun g t=>t==69 || t==174 || t==120 || (t==33 && (g==114 || g==50 || g==59))
def pj (args:List AV) (h:AH) (q:(AV ⊕ AV)×AH):Prop:=
 ∀ (F J:Nat→Prop) (b:Nat) (G:ae) (x:VD) (r:List AV) (gv:AV) (ks:List Int),args=[.ptr b 0 0,.agg r,gv]→IsG h F J b G→G.Wf→VaA x r→SlA 3 gv (cr ks)→ks.length≤1000000→
   ∃ r' h',q=(.inl (.tup [.agg r',.int .i64 (be ks G x).2.2]),h')∧VaA (be ks G x).2.1 r'∧bU h F J b h' (be ks G x).1
open Classical in
noncomputable def mt (args:List AV) (h:AH):Option ((AV ⊕ AV)×AH):=
 if H:∃ q,AC Tryz.prog 113 args h q∧pj args h q then some (Classical.choose H)else none
def F8 (args:List AV) (h:AH):Option AH:=match args with
 | [.ptr mb 0 0,.agg r]=>(h.cell mb).bind fun es=>match es with
   | [[_,.msl fb 0 k _,_]]=>(h.cell fb).bind fun rows=>(rows[k - 1]?).bind fun row=>(row[6]?).bind fun s=>(aG true tV s (.msl (h.n+1) 0 1 tV) ((h.push [r]).push [r])).map fun q=>q.2.set fb (some (rows.set (k - 1) (row.set 6 q.1)))
   | _=>none
 | _=>none
open Classical in
noncomputable def AY (args:List AV) (h:AH):Option ((AV ⊕ AV)×AH):=match F8 args h with
 | some h'=>if AC Tryz.prog 114 args h (.inl (.tup []),h')then some (.inl (.tup []),h')else none
 | none=>none
def ol (L:List XD):AV:= .tup [if(aL L).1=0 then cI L else .nils,.agg [.int .i64 (aL L).1,.int .i64 (aL L).2]]
open Classical in
noncomputable def BK (args:List AV) (h:AH):Option ((AV ⊕ AV)×AH):=
 if H:∃ L:List XD,(∃ v es,args=[.agg [v]]∧SlA tE v es∧ExL L es)∧AC Tryz.prog 40 args h (.inl (ol L),h)then some (.inl (ol (Classical.choose H)),h)else none
open Classical in
noncomputable def BO (args:List AV) (h:AH):Option ((AV ⊕ AV)×AH):=
 if H:∃ cs:List Int,(∃ b lv,args=[.ptr b 0 0]∧h.cell b=some [cs.map (.int .i64)++[lv]]∧cs.length=12)∧AC Tryz.prog 21 args h (.inl (.isl none 2 (cs.map fun x=>[.int .i64 x])),h)then some (.inl (.isl none 2 ((Classical.choose H).map fun x=>[.int .i64 x])),h)else none
open Classical in
noncomputable def qp (args:List AV) (h:AH):Option ((AV ⊕ AV)×AH):=
 if H:∃ q,AC Tryz.prog 12 args h q∧uR args h q then some (Classical.choose H)else none
noncomputable def rN:FuncId→Option (List AV→AH→Option ((AV ⊕ AV)×AH)):=fun g=>if g=113 then some mt else if g=114 then some AY else if g=40 then some BK else if g=21 then some BO else if g=12 then some qp else none
noncomputable def po:Pol:=nH Tryz.prog muF rN GS Fk
theorem Id:po.ext 12=some qp:=by
 show rN 12=_
 unfold rN
 rw[if_neg (by decide),if_neg (by decide),if_neg (by decide),if_neg (by decide),if_pos rfl]
theorem pok:POK Tryz.prog po:=KU (Hi (by kernel_rfl)) (by kernel_rfl) (by kernel_rfl) (fun g F h=>by
 unfold rN at h
 split at h
 ·rename_i e
  subst e
  injection h with h
  subst h
  refine⟨_,Tryz.func113,⟨by kernel_rfl,by kernel_rfl⟩,fun args h r hr=> ?_⟩
  unfold mt at hr
  split at hr
  ·rename_i H
   injection hr with hr
   rw[←hr]
   exact(Classical.choose_spec H).1
  ·cases hr
 split at h
 ·rename_i e
  subst e
  injection h with h
  subst h
  refine⟨_,Tryz.func114,⟨by kernel_rfl,by kernel_rfl⟩,fun args h r hr=> ?_⟩
  unfold AY at hr
  split at hr
  ·split at hr
   ·rename_i H
    injection hr with hr
    rw[←hr]
    exact H
   ·cases hr
  ·cases hr
 split at h
 ·rename_i e
  subst e
  injection h with h
  subst h
  refine⟨_,Tryz.func40,⟨by kernel_rfl,by kernel_rfl⟩,fun args h r hr=> ?_⟩
  unfold BK at hr
  split at hr
  ·rename_i H
   injection hr with hr
   rw[←hr]
   exact(Classical.choose_spec H).2
  ·cases hr
 split at h
 ·rename_i e
  subst e
  injection h with h
  subst h
  refine⟨_,Tryz.func21,⟨by kernel_rfl,by kernel_rfl⟩,fun args h r hr=> ?_⟩
  unfold BO at hr
  split at hr
  ·rename_i H
   injection hr with hr
   rw[←hr]
   exact(Classical.choose_spec H).2
  ·cases hr
 split at h
 ·rename_i e
  subst e
  injection h with h
  subst h
  refine⟨_,Tryz.func12,⟨by kernel_rfl,by kernel_rfl⟩,fun args h r hr=> ?_⟩
  unfold qp at hr
  split at hr
  ·rename_i H
   injection hr with hr
   rw[←hr]
   exact(Classical.choose_spec H).1
  ·cases hr
 cases h)
def cL:Code→Code
 | .seq a _=>a
 | c=>c
def cR:Code→Code
 | .seq _ b=>b
 | c=>c
def eg:Code→Array Oper
 | .region _ ops _=>ops
 | _=> #[]
section
variable {P:Program} {po:Pol} {f:FuncId} {n nv:Nat} {vm:List Nat} {h h':AH} {t V V':List AV}
theorem bG {a:Nat} (h7:rA a n (po.nv f) nv vm=true):vm.Nodup∧∀ j s,vm[j]? =some s→(j<nv↔s<po.nv f):=by
 unfold rA at h7
 simp only[Bool.and_eq_true,decide_eq_true_eq,List.all_eq_true,List.mem_range,beq_iff_eq,bne_iff_ne,ne_eq]at h7
 obtain⟨⟨a1,a2⟩,a3⟩:=h7
 have get:∀ j s,vm[j]? =some s→j<vm.length∧vm.getD j 0=s:=fun j s hj=>⟨(List.getElem?_eq_some_iff.1 hj).1,by simp[List.getD,hj]⟩
 refine⟨?_,fun j s hj=> ?_⟩
 ·rw[List.nodup_iff_pairwise_ne,List.pairwise_iff_getElem]
  intro i j hi hj hij e
  have:=(a3 j hj).2 i hij
  apply this
  simp[List.getD,hi,hj,e]
 ·obtain⟨g1,g2⟩:=get j s hj
  have:=(a3 j g1).1.1.2
  rw[g2]at this
  exact decide_eq_decide.1 this
theorem ot (pok:POK P po) {c:Code} {l:List RS} {K:List Item} {x:AEx} (hvm:vm.Nodup∧∀ j s,vm[j]? =some s→(j<nv↔s<po.nv f)) (htr:bc P (po.mu f) (po.plan f) n vm c []=some l) (hrg:cz (po.plan f) (po.kp f) c=true)
  (hr:ap (ai P po) nv [.ss l,.halt K] V [] h=some (x,V',h')) (rv:RV n vm [] t V []):
  ∃ t',(∀ (m:Mm) (w:World) (a:Act) (b:Frame) (cs:List Frame),WR P m h w→TR P m h t a.tmps→a.defers=b.defers→bK P (po.kp f) m h w b cs (lone (b.at a (.code c::K)) cs w) (x,t',h'))∧RV n vm [] t' V' []:=by
 obtain⟨t',e,rv'⟩:=(l8 (n:=n) (f:=f) hvm.1 hvm.2 _ _ _ _ _ hr).1 [.code c,.halt K] t (.ss [c] l [.halt K] [.halt K] (by simp[trL,htr]) (.halt K [] [])) rv
 refine⟨t',fun m w a b cs hw ht hd=> ?_,rv'⟩
 exact(iF pok f _ t h _ e).good (.code c::K) (.code c _ _ hrg (.halt K [])) b cs m w a hw ht hd
theorem mQ {g:FuncId} {fn:Func} {c:Code} (hf:P.funcs[g]? =some fn) (hb:fn.body=some c) (vs:List Value) (kd:CallKind):
  (Frame.enter P g vs.toArray kd).at {tmps:=(vs++replicate (fn.ntmps - vs.length) undef).toArray,defers:=[]} [.code c]=Frame.enter P g vs.toArray kd:=by
 simp[Frame.enter,Frame.at,hf,hb]
theorem mr {m:Mm} {k:Nat} {args:List AV} {vs:List Value} (hv:VRs P m h args vs):
  TR P m h (args++replicate (k - args.length) .junk) (vs++replicate (k - vs.length) undef).toArray:=by
 have hl:=hv.1
 have h2:VRs P m h (args++replicate (k - args.length) .junk) (vs++replicate (k - vs.length) undef):=by
  rw[hl]
  exact VRs.append hv ⟨by simp,fun j hj hj'=>by simp only[List.getElem_replicate];exact .junk _⟩
 refine⟨by simpa using h2.1,fun i hi=> ?_⟩
 have hi2:i<(vs++replicate (k - vs.length) undef).length:=by rw[h2.1];exact hi
 have:=h2.2 i hi hi2
 simp only[Array.getD_eq_getD_getElem?,List.getElem?_toArray,List.getElem?_eq_getElem hi2,Option.getD_some]
 exact this
theorem JR {m:Mm} {ts:Array Value} (ht:TR P m h t ts) {i:Nat} (hi:i<t.length):VR P m h (t.getD i .junk) (ts.getD i undef):=by
 have:=ht.2 i hi
 simpa[List.getD,hi]using this
end
open Go Go.RowKit
section
variable {P:Program} {po:Pol} {f:FuncId} {n nv:Nat} {vm:List Nat} {h:AH}
def lD (P:Program) (po:Pol) (f:FuncId) (n:Nat) (vm:List Nat) (args:List AV) (h:AH) (x:AEx) (V:List AV) (h2:AH):Prop:=
 ∀ (m:Mm) (w:World) (vs:List Value),WR P m h w→VRs P m h args vs→∀ cs:List Frame,∃ (bf:Frame) (t2:List AV),bf.fn=f∧bf.kind= .normal∧bf.defers=[]∧RV n vm [] t2 V []∧
   bK P (po.kp f) m h w bf cs (lone (Frame.enter P f vs.toArray .normal) cs w) (x,t2,h2)
theorem lD.start {fn:Func} {c:Code} {args:List AV} (hf:P.funcs[f]? =some fn) (hb:fn.body=some c) (hn:fn.ntmps=n)
  (rv:RV n vm [] (args++replicate (n - args.length) .junk) (args++replicate (vm.length - args.length) .junk) []):lD P po f n vm args h (.halt [.code c]) (args++replicate (vm.length - args.length) .junk) h:=by
 intro m w vs hw hvs cs
 have he:=mQ hf hb vs .normal
 have ht:=mr (P:=P) (h:=h) (k:=n) hvs
 rw[hn]at he
 refine⟨Frame.enter P f vs.toArray .normal,_,by simp[Frame.enter],by simp[Frame.enter],by simp[Frame.enter],rv,m,w,Ext.refl _ _,hw,Below.refl _ _,{tmps:=_,defers:=[]},ht,?_,?_⟩
 ·simp[Frame.enter]
 ·conv=>lhs;rw[←he]
  exact .refl _ _
theorem lD.next (pok:POK P po) {c A B:Code} {l:List RS} {args V V':List AV} {h2 h3:AH} {x:AEx} (p:lD P po f n vm args h (.halt [.code c]) V h2) (hc:c= .seq A B)
  (hvm:vm.Nodup∧∀ j s,vm[j]? =some s→(j<nv↔s<po.nv f)) (htr:bc P (po.mu f) (po.plan f) n vm A []=some l) (hrg:cz (po.plan f) (po.kp f) A=true)
  (hr:ap (ai P po) nv [.ss l,.halt [.code B]] V [] h2=some (x,V',h3)):lD P po f n vm args h x V' h3:=by
 intro m w vs hw hvs cs
 obtain⟨bf,t2,b1,b2,b3,rv,m1,w1,x1,x2,x3,a1,x4,x5,x6⟩:=p m w vs hw hvs cs
 obtain⟨t3,hp,rv3⟩:=ot pok hvm htr hrg hr rv
 have y5:=hp m1 w1 a1 bf cs x2 x4 x5
 have s0:Steps P (lone (Frame.enter P f vs.toArray .normal) cs w) (lone (bf.at a1 [.code A,.code B]) cs w1):=by
  refine x6.trans ?_
  conv=>lhs;rw[hc]
  exact .one step_seq
 exact⟨bf,t3,b1,b2,b3,rv3,bK.steps s0 (bK.after x1 x3 y5)⟩
theorem xH {fn:Func} {rs:List jV} {t V:List AV} {h:AH} {v:AV} (hres:iL P vm fn.results.toList=some rs) (rv:RV n vm [] t V []) (hv:(ei V h rs).map eO=some v):lu fn t h P=some v:=by
 unfold lu
 rw[fH (h:=h) rv hres]
 exact hv
theorem lD.ret {fn:Func} {rs:List jV} {args V:List AV} {h2:AH} {v:AV} (p:lD P po f n vm args h .ret V h2) (hf:P.funcs[f]? =some fn) (hres:iL P vm fn.results.toList=some rs) (hv:(ei V h2 rs).map eO=some v):AC P f args h (.inl v,h2):=by
 intro m w vs hw hvs cs
 obtain⟨bf,t2,b1,b2,b3,rv,m',w',x1,x2,x3,a',todo,x4,x5,x6⟩:=p m w vs hw hvs cs
 rw[b3]at x5
 obtain⟨u,h7,h8⟩:=fM x2 x4 (xH (h:=h2) hres rv hv)
 exact⟨.returned u,w',_,⟨m',x1,x2,x3,u,rfl,h8⟩,x6,b1,rfl,x5,b2,_,by simp[Frame.at,b1,hf],h7⟩
theorem Ix {t V:List AV} {i:Nat} {v:AV} (rv:RV n vm [] t V []) (hi:i ∉ vm):RV n vm [] (bu t (some i) v) V []:=by
 refine⟨by simpa[bu]using rv.len,rv.lv,rv.ll,fun j s hj=> ?_,fun j s hj=>by simp at hj⟩
 obtain⟨h1,h2⟩:=rv.v j s hj
 refine⟨h1,?_⟩
 rw[←h2]
 have hne:i≠s:=fun e=>hi (by rw[e];exact List.mem_of_getElem? hj)
 simp[bu,List.getD,List.getElem?_set,hne]
def pZ (a:Act) (caps:List Nat):List Value:=caps.map fun i=>a.tmps.getD i undef
theorem K1 {m:Mm} {h2:AH} {t V:List AV} {a:Act} {caps js:List Nat} (rv:RV n vm [] t V []) (ht:TR P m h2 t a.tmps) (hc:caps=js.map fun j=>vm.getD j 0) (hj:∀ j∈js,j<vm.length):
  VRs P m h2 (js.map fun j=>V.getD j .junk) (pZ a caps):=by
 subst hc
 refine⟨by simp[pZ],fun i h1 h2=> ?_⟩
 simp only[List.length_map]at h1
 have hlt:=hj _ (List.getElem_mem h1)
 have hs:vm[js[i]]? =some (vm.getD js[i] 0):=by simp[List.getD,hlt]
 obtain⟨q1,q2⟩:=rv.v _ _ hs
 have:=JR ht (i:=vm.getD js[i] 0) (by rw[rv.len];exact q1)
 rw[q2]at this
 simpa[pZ]using this
theorem VRs.extG {m m':Mm} {h h':AH} {l:List AV} {us:List Value} (v:VRs P m h l us) (x:Ext m h m' h'):VRs P m' h' l us:=⟨v.1,fun j h1 h2=>(v.2 j h1 h2).ext x⟩
theorem AT {P:Program} {t t':List AV} {h:AH}:∀ {l:List ResultVar},(∀ r∈l,∃ i ty,r= .cell i ty∧t.getD i .junk=t'.getD i .junk)→lC P t h l=lC P t' h l
 | [],_=>rfl
 | r::l,hl=>by
   obtain⟨i,ty,rfl,e⟩:=hl r (List.mem_cons_self ..)
   have ih:lC P t h l=lC P t' h l:=AT fun q hq=>hl q (List.mem_cons_of_mem _ hq)
   simp only[lC,e,ih]
def Dl (fCl:FuncId) (us:List Value):Value:= .func (.func fCl) #[] us.toArray
def oF (fCl:FuncId) (us:List Value):Deferred:={target:= .fn (.func fCl) us.toArray,args:= #[]}
inductive KV (P:Program) (fCl:FuncId) (capA:List AV) (h3 h4:AH):AEx→Prop
 | ret (cl:∀ (m:Mm) (w:World) (ps:List Value),WR P m h3 w→VRs P m h3 capA ps→CallsD P fCl ps.toArray .returning w fun e u'' w'=>(∃ v,e= .returned v)∧u''= .returning∧∃ m',Ext m h3 m' h4∧WR P m' h4 w'∧Below m.base w w'):KV P fCl capA h3 h4 .ret
 | panic (v:AV) (cl:∀ (m:Mm) (w:World) (ps:List Value) (u:Value),WR P m h3 w→VRs P m h3 capA ps→VR P m h3 v u→CallsD P fCl ps.toArray (.panicking [{v:=u,recovered:=false}]) w fun e u'' w'=>(∃ v,e= .returned v)∧u''= .panicking [{v:=u,recovered:=true}]∧∃ m',Ext m h3 m' h4∧WR P m' h4 w'∧Below m.base w w'):KV P fCl capA h3 h4 (.panic v)
theorem wW (pok:POK P po) {fn:Func} {rs:List jV} {args V V':List AV} {h2 h3 h4:AH} {cZ cW:Code} {fCl:FuncId} {k:Nat} {caps js:List Nat} {l:List RS} {x:AEx} {r:AV} (p:lD P po f n vm args h (.halt [.code cZ]) V h2) (hf:P.funcs[f]? =some fn) (hcf:∃ fnC,P.funcs[(fCl:Nat)]? =some fnC∧(fnC.body.isNone=false∧(fnC.name== "runtime.NumGoroutine")=false))
  (hk:k ∉ vm) (hc:caps=js.map fun j=>vm.getD j 0) (hj:∀ j∈js,j<vm.length)
  (lay:∀ (bf:Frame) (a:Act) (cs:List Frame) (w:World),a.tmps.size=n→Steps P (lone (bf.at a [.code cZ]) cs w) (lone (bf.at {a.put (some k) (Dl fCl (pZ a caps))with defers:=oF fCl (pZ a caps)::a.defers} [.code cW]) cs w))
  (hvm:vm.Nodup∧∀ j s,vm[j]? =some s→(j<nv↔s<po.nv f)) (htr:bc P (po.mu f) (po.plan f) n vm cW []=some l) (hrg:cz (po.plan f) (po.kp f) cW=true)
  (hr:ap (ai P po) nv [.ss l,.halt []] V [] h2=some (x,V',h3)) (hkp:∀ r∈fn.results.toList,∃ i ty,r= .cell i ty∧po.kp f i=true)
  (he:KV P fCl (js.map fun j=>V.getD j .junk) h3 h4 x) (hres:iL P vm fn.results.toList=some rs) (hv:(ei V' h4 rs).map eO=some r):AC P f args h (.inl r,h4):=by
 intro m w vs hw hvs cs
 obtain⟨bf,t2,b1,b2,b3,rv,m2,w2,x1,x2,x3,a2,x4,x5,x6⟩:=p m w vs hw hvs cs
 rw[b3]at x5
 have hsz:a2.tmps.size=n:=by rw[x4.1,rv.len]
 have lay:=lay bf a2 cs w2 hsz
 have vc:=K1 rv x4 hc hj
 generalize pZ a2 caps=us at lay vc
 rw[x5]at lay
 have ht3:=x4.put (VR.junk (Dl fCl us)) (some k)
 have rv3:=Ix (i:=k) (v:= .junk) rv hk
 obtain⟨t5,hp,rv5⟩:=ot pok hvm htr hrg hr rv3
 obtain⟨m3,w3,y1,y2,y3,y4⟩:=hp m2 w2 {a2.put (some k) (Dl fCl us)with defers:=[oF fCl us]} {bf with defers:=[oF fCl us]} cs x2 ht3 rfl
 have vc3:=VRs.extG vc y1
 have ra:lu fn t5 h4 P=some r:=xH hres rv5 hv
 have inv:(invoke (.fn (.func fCl) us.toArray) #[]).run P w3= .ok (.enter fCl us.toArray) w3:=by
  obtain⟨fnC,g1,g2,g3⟩:=hcf
  have g3':¬ fnC.name= "runtime.NumGoroutine":=by simpa using g3
  have g2':¬ fnC.body=none:=by cases hb:fnC.body with | none=>rw[hb]at g2;cases g2 | some c=>simp
  simp[go_sem,callFunc,g1,g2',g3']
 have bel:∀ {m4:Mm} {w':World},Below m3.base w3 w'→Below m.base w w':=by
  intro m4 w' z3
  have q1:m2.base=m.base:=x1.base
  have q2:m3.base=m2.base:=y1.base
  rw[q2,q1]at z3
  rw[q1]at y3
  exact(x3.trans y3).trans z3
 cases he with
 | ret cl=>
   obtain⟨a5,todo,z1,z2,z3⟩:=y4
   have hlv:Leaves P fn a5.tmps (fun e w'=>∃ m',Ext m h m' h4∧WR P m' h4 w'∧Below m.base w w'∧∃ u,e= .returned u∧VR P m' h4 r u) [oF fCl us] .returning w3:=by
    refine leaves_cons (f:=fCl) (args:=us.toArray) (by simp) inv ?_
    refine(cl m3 w3 us y2 vc3).mono ?_
    rintro e u'' w' ⟨⟨v,rfl⟩,rfl,m4,n1,n2,n3⟩
    obtain⟨u,h7,h8⟩:=fM n2 (z1.ext n1) ra
    exact⟨u,h7,m4,(x1.trans y1).trans n1,n2,bel (m4:=m4) n3,u,rfl,h8⟩
   obtain⟨e,w4,fr',hR,hs,hfn,hl⟩:=leaves_steps [oF fCl us] .returning w3 {(({bf with defers:=[oF fCl us]}:Frame).at a5 todo)with mode:= .returning} cs rfl z2 rfl (by simp[Frame.at,b1,hf]) (by simpa[Frame.at]using b2) hlv
   exact⟨e,w4,fr',hR,Comes.of_steps (x6.trans (lay.trans z3)) hs,hfn.trans b1,hl⟩
 | panic v cl=>
   obtain⟨a5,todo,u,⟨tm,z0,z1⟩,z2,z4,z3⟩:=y4
   have rm:lu fn tm h4 P=some r:=by
    rw[←ra]
    unfold lu
    rw[AT fun q hq=>by obtain⟨i,ty,e,hi⟩:=hkp q hq;exact⟨i,ty,e,z1 i hi⟩]
   have hlv:Leaves P fn a5.tmps (fun e w'=>∃ m',Ext m h m' h4∧WR P m' h4 w'∧Below m.base w w'∧∃ u,e= .returned u∧VR P m' h4 r u) [oF fCl us] (.panicking [{v:=u,recovered:=false}]) w3:=by
    refine leaves_cons (f:=fCl) (args:=us.toArray) (by simp) inv ?_
    refine(cl m3 w3 us u y2 vc3 z4).mono ?_
    rintro e u'' w' ⟨⟨v,rfl⟩,rfl,m4,n1,n2,n3⟩
    obtain⟨u2,h7,h8⟩:=fM n2 (z0.ext n1) rm
    exact⟨u2,h7,m4,(x1.trans y1).trans n1,n2,bel (m4:=m4) n3,u2,rfl,h8⟩
   obtain⟨e,w4,fr',hR,hs,hfn,hl⟩:=leaves_steps [oF fCl us] (.panicking [{v:=u,recovered:=false}]) w3 {(({bf with defers:=[oF fCl us]}:Frame).at a5 todo)with mode:= .panicking [{v:=u,recovered:=false}]} cs rfl z2 rfl (by simp[Frame.at,b1,hf]) (by simpa[Frame.at]using b2) hlv
   exact⟨e,w4,fr',hR,Comes.of_steps (x6.trans (lay.trans z3)) hs,hfn.trans b1,hl⟩
theorem Cy (c:Frame) (h:c.mode= .returning) (cs:List Frame):recoverD (c::cs)=none:=by simp[recoverD,h]
theorem yP {v:Value} (c:Frame) (h:c.mode= .panicking [{v:=v,recovered:=false}]) (cs:List Frame):recoverD (c::cs)=some (v,{c with mode:= .panicking [{v:=v,recovered:=true}]}::cs):=by simp[recoverD,h]
def D5 (P:Program) (c:Code) (n s1 s2:Nat):Prop:=∀ (ts:Array Value) (v:Value) (cs cs':List Frame) (w:World),ts.size=n→(recoverD cs=some (v,cs')∨(recoverD cs=none∧v= .nilIface∧cs'=cs))→
 c.wpS P (fun e a' cs2 w'=>e= .normal∧cs2=cs'∧w'=w∧a'=(({tmps:=ts,defers:=[]}:Act).put (some s1) v).put (some s2) v) {tmps:=ts,defers:=[]} cs w
theorem clG {fnC:Func} {cC:Code} {s1 s2:Nat} (pok:POK P po) {l:List RS} {caps V V':List AV} {h':AH} {e:AV} (hf:P.funcs[f]? =some fnC) (hb:fnC.body=some cC) (hseq:cC= .seq (cL cC) (cR cC)) (hn:fnC.ntmps=n) (hr0:∀ (a:Array Value) (w:World),∃ v,(results fnC a).run P w= .ok v w)
  (hrec:D5 P (cL cC) n s1 s2) (hvm:vm.Nodup∧∀ j s,vm[j]? =some s→(j<nv↔s<po.nv f)) (htr:bc P (po.mu f) (po.plan f) n vm (cR cC) []=some l) (hrg:cz (po.plan f) (po.kp f) (cR cC)=true)
  (hr:ap (ai P po) nv [.ss l,.halt []] V [] h=some (.halt [],V',h')) (rv:RV n vm [] (bu (bu (caps++replicate (n - caps.length) .junk) (some s1) e) (some s2) e) V [])
  {m:Mm} {w:World} {ps:List Value} {v:Value} (hw:WR P m h w) (hvs:VRs P m h caps ps) (hcl:caps.length≤n) (ve:VR P m h e v) {u:FrameMode} (u':FrameMode)
  (hu':∀ c:Frame,c.mode=u→∀ cs,(recoverD (c::cs)=some (v,{c with mode:=u'}::cs))∨(recoverD (c::cs)=none∧v= .nilIface∧u'=u)):
  CallsD P f ps.toArray u w fun e u'' w'=>(∃ v,e= .returned v)∧u''=u'∧∃ m',Ext m h m' h'∧WR P m' h' w'∧Below m.base w w':=by
 intro c cs hu
 have he:=mQ hf hb ps .deferred
 have ht:=mr (P:=P) (h:=h) (k:=n) hvs
 generalize hbb:Frame.enter P f ps.toArray .deferred=b at he
 have hbk:b.kind= .deferred:=by rw[←hbb];simp[Frame.enter]
 have hbf:b.fn=f:=by rw[←hbb];simp[Frame.enter]
 have hbr:b.roundOf=none:=by rw[←hbb];simp[Frame.enter]
 rw[hn]at he
 generalize ha:(ps++replicate (n - ps.length) undef).toArray=ts at he ht
 have h1:Steps P (lone b (c::cs) w) (lone (b.at {tmps:=ts,defers:=[]} [.code (cL cC),.code (cR cC)]) (c::cs) w):=by
  rw[←he]
  conv=>lhs;rw[hseq]
  exact .one step_seq
 have hsz:ts.size=n:=by
  rw[ht.1]
  simp only[List.length_append,List.length_replicate]
  omega
 have hcs:recoverD (c::cs)=some (v,{c with mode:=u'}::cs)∨(recoverD (c::cs)=none∧v= .nilIface∧({c with mode:=u'}:Frame)::cs=c::cs):=by
  rcases hu' c hu cs with h1 | ⟨h1,h2,h3⟩
  ·exact .inl h1
  ·have h4:({c with mode:=u'}:Frame)=c:=by rw[h3,←hu]
   exact .inr ⟨h1,h2,by rw[h4]⟩
 obtain⟨e1,a1,cs1,w1,⟨rfl,rfl,rfl,rfl⟩,harr⟩:=hrec ts v _ _ w hsz hcs b [.code (cR cC)] hbk hbr
 have ht1:=(ht.put (a:={tmps:=ts,defers:=[]}) ve (some s1)).put ve (some s2)
 obtain⟨t',hp,hrv⟩:=ot pok hvm htr hrg hr rv
 obtain⟨m',w',x1,x2,x3,a',x4,x5,x6⟩:=hp m w1 _ {b with defers:=[]} ({c with mode:=u'}::cs) hw ht1 rfl
 have hfin:Steps P (lone b (c::cs) w1) (lone {b.at a' []with mode:= .returning} ({c with mode:=u'}::cs) w'):=h1.trans (harr.trans (x6.trans (.one step_end)))
 obtain⟨v0,hv0⟩:=hr0 a'.tmps w'
 refine⟨.returned v0,u',w',_,⟨⟨_,rfl⟩,rfl,m',x1,x2,x3⟩,hfin,hbk,rfl,x5,fnC,?_,hv0⟩
 show P.funcs[b.fn]? =_
 rw[hbf]
 exact hf
end
def vg:List RS:=[(.ops [(.i (.v 5) (.box 3 (.v 3))),(.i (.v 6) (.box 1 (.v 4))),(.i (.v 7) (.alloc [(.int .i64 0),(.int .i64 0),.nils])),(.i (.v 8) (.alloc [(.int .i64 0)])),(.i (.v 9) (.alloc [(.int .i64 0)]))])]
def ki:List RS:=[(.block 0 [(.ops [(.i .l (.load false 1 (.v 6))),(.i .l (.bin (.int .i64) .lss (.l 0) (.c (.int .i64 0)))),(.i .l (.mv (.l 0))),(.g (.l 0) false .l (.load false 1 (.v 6))),(.g (.l 1) false .l (.bin (.int .i64) .gtr (.l 0) (.c (.int .i64 2000)))),(.i .l (.pick (.l 2) (.c (.bool true)) (.l 0))),(.i .l (.mv (.l 0))),(.g (.l 0) false .l (.mv (.v 1))),(.g (.l 1) false .l (.bin (.int .i64) .lss (.l 0) (.c (.int .i64 0)))),(.i .l (.pick (.l 2) (.c (.bool true)) (.l 0))),(.i .l (.mv (.l 0))),(.g (.l 0) false .l (.mv (.v 1))),(.g (.l 1) false .l (.bin (.int .i64) .geq (.l 0) (.c (.int .i64 4)))),(.i .l (.pick (.l 2) (.c (.bool true)) (.l 0))),(.i (.v 14) (.mv (.l 0)))]),(.cond (.v 14) [(.ops [(.i .l (.build [(.int .i64 0),(.int .i64 0),.nils] [(0,1),(1,1),(2,1)] [])),(.i .n (.store 3 (.v 7) (.l 0))),(.i .n (.store 1 (.v 8) (.c (.int .i64 0)))),(.i .n (.store 1 (.v 9) (.c (.int .i64 1))))]),.ret] [(.ops [(.i .l (.mv (.v 0))),(.i .l (.mv (.v 1))),(.i .l (.nilc (.l 1))),(.i .l (.fad 2 (.l 0))),(.i .l (.ixa none (some (4,5)) (.l 0) (.l 2))),(.i .l (.fad 0 (.l 0))),(.i .l (.load false 1 (.l 0))),(.i .l (.un .not (.l 0))),(.i .l (.mv (.l 0))),(.g (.l 0) false .l (.mv (.v 2))),(.g (.l 1) false .l (.bin (.int .i64) .lss (.l 0) (.c (.int .i64 0)))),(.i .l (.pick (.l 2) (.c (.bool true)) (.l 0))),(.i .l (.mv (.l 0))),(.g (.l 0) false .l (.mv (.v 2))),(.g (.l 1) false .l (.mv (.v 0))),(.g (.l 2) false .l (.mv (.v 1))),(.g (.l 3) false .l (.nilc (.l 1))),(.g (.l 4) false .l (.fad 2 (.l 0))),(.g (.l 5) false .l (.ixa none (some (4,5)) (.l 0) (.l 2))),(.g (.l 6) false .l (.fad 1 (.l 0))),(.g (.l 7) false .l (.load false 1 (.l 0))),(.g (.l 8) false .l (.len false (some 174) (.l 0))),(.g (.l 9) false .l (.bin (.int .i64) .geq (.l 8) (.l 0))),(.i .l (.pick (.l 10) (.c (.bool true)) (.l 0))),(.i (.v 15) (.mv (.l 0)))]),(.cond (.v 15) [(.ops [(.i .l (.build [(.int .i64 0),(.int .i64 0),.nils] [(0,1),(1,1),(2,1)] [])),(.i .n (.store 3 (.v 7) (.l 0))),(.i .n (.store 1 (.v 8) (.c (.int .i64 0)))),(.i .n (.store 1 (.v 9) (.c (.int .i64 8))))]),.ret] [])])])]
def uS:List RS:=[(.ops [(.i .l (.load true 3 (.v 5))),(.i .l (.call (.c (.fn 47 [] [])) [(.l 0)])),(.i (.v 10) (.mv (.l 0)))]),(.ops [(.i .l (.mv (.v 10))),(.i (.v 16) (.bin (.int .i64) .neq (.l 0) (.c (.int .i64 0))))]),(.cond (.v 16) [(.ops [(.i .l (.build [(.int .i64 0),(.int .i64 0),.nils] [(0,1),(1,1),(2,1)] [])),(.i .l (.mv (.v 10))),(.i .n (.store 3 (.v 7) (.l 1))),(.i .n (.store 1 (.v 8) (.c (.int .i64 0)))),(.i .n (.store 1 (.v 9) (.l 0)))]),.ret] [])]
def uw:List RS:=[(.ops [(.i .l (.mv (.v 0))),(.i .l (.load false 1 (.v 6))),(.i .l (.build [.nilp,.nils,(.int .i64 0)] [(0,1),(1,1),(2,1)] [(0,(.l 1)),(2,(.l 0))])),(.i .l (.box 3 (.l 0))),(.i (.v 11) (.alloc [.nilp])),(.i .n (.store 1 (.v 11) (.l 0)))])]
def uV:List RS:=[(.ops [(.i .l (.load false 1 (.v 11))),(.i .l (.mv (.v 1))),(.i .l (.mv (.v 2))),(.i .l (.load true 3 (.v 5))),(.i .l (.call (.c (.fn 48 [] [])) [(.l 0)])),(.ck [⟨none,false,1,(.v 11),(.l 4)⟩]),(.i .l (.build [(.int .i64 0),(.int .i64 0),(.int .i64 0),(.int .i64 0),(.int .i64 0),.nils,.nils,.nils,(.bool false),.nils] [(0,1),(1,1),(2,1),(3,3),(6,1),(7,1),(8,1),(9,1)] [(0,(.l 3)),(1,(.l 2)),(3,(.l 0))])),(.i .l (.bsl true 126 [(.int .i64 0),(.int .i64 0),(.int .i64 0),(.int .i64 0),(.int .i64 0),.nils,.nils,.nils,(.bool false),.nils] 10 1 [(0,(.l 0))])),(.ck [⟨none,false,1,(.v 11),(.l 6)⟩]),(.i .l (.nilc (.l 6))),(.i .l (.fad 1 (.l 0))),(.i .n (.store 1 (.l 0) (.l 2)))])]
def gZ:List RS:=[(.block 2 [(.ops [(.i .l (.load false 1 (.v 11))),(.i .l (.call (.c (.fn 50 [] [])) [(.l 0)])),(.i .l (.mv (.l 0))),(.i .l (.ext (.l 0) 0)),(.i .l (.ext (.l 1) 1)),(.i (.v 12) (.alloc [(.int .i64 0),(.int .i64 0),.nils])),(.i .n (.store 3 (.v 12) (.l 1))),(.i (.v 13) (.mv (.l 0)))]),(.ops [(.i (.v 17) (.mv (.v 13)))]),(.cond (.v 17) [(.ops [(.i .l (.load true 3 (.v 12))),(.i .l (.load false 1 (.v 6))),(.i .l (.load false 1 (.v 11))),(.i .l (.nilc (.l 0))),(.i .l (.fad 2 (.l 0))),(.i .l (.load false 1 (.l 0))),(.i .l (.bin (.int .i64) .sub (.l 4) (.l 0))),(.i .l (.call (.c (.fn 48 [] [])) [(.l 6)])),(.ck [⟨none,false,1,(.v 6),(.l 6)⟩,⟨none,false,1,(.v 11),(.l 5)⟩,⟨none,false,1,(.l 3),(.l 2)⟩]),(.i .n (.store 3 (.v 7) (.l 0))),(.ck [⟨none,false,1,(.v 6),(.l 6)⟩,⟨none,false,1,(.v 11),(.l 5)⟩,⟨none,false,1,(.l 3),(.l 2)⟩]),(.i .n (.store 1 (.v 8) (.l 1))),(.i .n (.store 1 (.v 9) (.c (.int .i64 0))))]),.ret] [])])]
def pU:List RS:=[(.block 1 [(.loop gZ)])]
def zQ:List RS:=[(.ops [(.i .l (.mv (.v 5))),(.i (.v 8) (.binG .iface none true .neq (.l 0) (.c .nili)))]),(.cond (.v 8) [(.ops [(.i .l (.mv (.v 5))),(.i .l (.tas 127 true (.l 0))),(.i .l (.mv (.l 0))),(.i .l (.ext (.l 0) 0)),(.i .l (.ext (.l 1) 1)),(.i (.v 6) (.mv (.l 1))),(.i (.v 7) (.mv (.l 0)))]),(.ops [(.i .l (.mv (.v 7))),(.i (.v 9) (.un .not (.l 0)))]),(.cond (.v 9) [(.ops [(.i .l (.mv (.v 5))),(.i .n (.pan (.l 0)))])] []),(.ops [(.i .l (.build [(.int .i64 0),(.int .i64 0),.nils] [(0,1),(1,1),(2,1)] [])),(.i .l (.load false 1 (.v 0))),(.i .l (.load false 1 (.v 1))),(.i .l (.nilc (.l 0))),(.i .l (.fad 2 (.l 0))),(.i .l (.load false 1 (.l 0))),(.i .l (.bin (.int .i64) .sub (.l 4) (.l 0))),(.i .l (.mv (.v 6))),(.i .n (.store 3 (.v 2) (.l 7))),(.i .n (.store 1 (.v 3) (.l 1))),(.i .n (.store 1 (.v 4) (.l 0)))])] [])]
def ru:List RS:=[(.ops [(.i (.v 1) (.mv (.c (.int .i64 0)))),(.i (.v 2) (.mv (.c (.int .i64 0))))]),(.ops [(.i .l (.mv (.v 0))),(.i .l (.nilc (.l 0))),(.i .l (.fad 1 (.l 0))),(.i .l (.load false 1 (.l 0))),(.i .l (.len false (some 4) (.l 0))),(.i (.v 3) (.bin (.int .i64) .eql (.l 0) (.c (.int .i64 20))))]),(.cond (.v 3) [(.ops [(.i (.v 1) (.mv (.c (.int .i64 0)))),(.i (.v 2) (.mv (.c (.int .i64 11))))]),.ret] []),(.ops [(.i .l (.mv (.v 0))),(.i .l (.mv (.v 0))),(.i .l (.nilc (.l 0))),(.i .l (.fad 1 (.l 0))),(.i .l (.load false 1 (.l 0))),(.i .l (.bsl true 4 [(.bool false)] 1 1 [(0,(.c (.bool false)))])),(.i .l (.app true 4 (.l 1) (.l 0))),(.i .l (.nilc (.l 6))),(.i .l (.fad 1 (.l 0))),(.i .n (.store 1 (.l 0) (.l 2)))]),(.ops [(.i .l (.mv (.v 0))),(.i .l (.nilc (.l 0))),(.i .l (.fad 1 (.l 0))),(.i .l (.load false 1 (.l 0))),(.i .l (.len false (some 4) (.l 0))),(.i .l (.bin (.int .i64) .sub (.l 0) (.c (.int .i64 1)))),(.i (.v 1) (.mv (.l 0))),(.i (.v 2) (.mv (.c (.int .i64 0))))]),.ret]
theorem vO:FnR Tryz.prog po 63 1 4 [0,2,3,9] ru [(.v 1),(.v 2)] false:=⟨_,_,Tryz.func63,rfl,rfl,by kernel_rfl,by kernel_rfl,by kernel_rfl,by kernel_rfl,by kernel_rfl⟩
def AI:List RS:=[(.ops [(.i (.v 2) (.mv (.c (.bool false))))]),(.ops [(.i .l (.mv (.v 1))),(.i .l (.bin (.int .i64) .geq (.l 0) (.c (.int .i64 0)))),(.i .l (.mv (.l 0))),(.g (.l 0) true .l (.mv (.v 1))),(.g (.l 1) true .l (.mv (.v 0))),(.g (.l 2) true .l (.nilc (.l 0))),(.g (.l 3) true .l (.fad 1 (.l 0))),(.g (.l 4) true .l (.load false 1 (.l 0))),(.g (.l 5) true .l (.len false (some 4) (.l 0))),(.g (.l 6) true .l (.bin (.int .i64) .lss (.l 5) (.l 0))),(.i .l (.pick (.l 7) (.l 0) (.c (.bool false)))),(.i (.v 2) (.mv (.l 0)))]),.ret]
theorem Ha:FnR Tryz.prog po 98 2 3 [0,1,4] AI [(.v 2)] true:=⟨_,_,Tryz.func98,rfl,rfl,by kernel_rfl,by kernel_rfl,by kernel_rfl,by kernel_rfl,by kernel_rfl⟩
def tX:List RS:=[(.ops [(.i (.v 2) (.mv (.c (.int .i64 0))))]),(.ops [(.i .l (.mv (.v 0))),(.i .l (.mv (.v 1))),(.i .l (.call (.c (.fn 98 [] [])) [(.l 1),(.l 0)])),(.i (.v 3) (.un .not (.l 0)))]),(.cond (.v 3) [(.ops [(.i (.v 2) (.mv (.c (.int .i64 8))))]),.ret] []),(.ops [(.i .l (.mv (.v 0))),(.i .l (.nilc (.l 0))),(.i .l (.fad 1 (.l 0))),(.i .l (.load false 1 (.l 0))),(.i .l (.mv (.v 1))),(.i .l (.ixa (some 4) none (.l 1) (.l 0))),(.i .n (.store 1 (.l 0) (.c (.bool true))))]),(.ops [(.i (.v 2) (.mv (.c (.int .i64 0))))]),.ret]
theorem Aq:FnR Tryz.prog po 62 2 4 [0,1,4,8] tX [(.v 2)] false:=⟨_,_,Tryz.func62,rfl,rfl,by kernel_rfl,by kernel_rfl,by kernel_rfl,by kernel_rfl,by kernel_rfl⟩
def yi:List RS:=[(.ops [(.i (.v 2) (.mv (.c (.bool false))))]),(.ops [(.i .l (.mv (.v 0))),(.i .l (.mv (.v 1))),(.i .l (.call (.c (.fn 98 [] [])) [(.l 1),(.l 0)])),(.i .l (.mv (.l 0))),(.g (.l 0) true .l (.mv (.v 0))),(.g (.l 1) true .l (.nilc (.l 0))),(.g (.l 2) true .l (.fad 1 (.l 0))),(.g (.l 3) true .l (.load false 1 (.l 0))),(.g (.l 4) true .l (.mv (.v 1))),(.g (.l 5) true .l (.ixa (some 4) none (.l 1) (.l 0))),(.g (.l 6) true .l (.load false 1 (.l 0))),(.g (.l 7) true .l (.un .not (.l 0))),(.i .l (.pick (.l 8) (.l 0) (.c (.bool false)))),(.i (.v 2) (.mv (.l 0)))]),.ret]
theorem DR:FnR Tryz.prog po 159 2 3 [0,1,4] yi [(.v 2)] true:=⟨_,_,Tryz.func159,rfl,rfl,by kernel_rfl,by kernel_rfl,by kernel_rfl,by kernel_rfl,by kernel_rfl⟩
def BL:List RS:=[(.ops [(.i (.v 2) (.mv (.c (.bool false))))]),(.ops [(.i .l (.mv (.v 1))),(.i .l (.bin (.int .i64) .geq (.l 0) (.c (.int .i64 0)))),(.i .l (.mv (.l 0))),(.g (.l 0) true .l (.mv (.v 1))),(.g (.l 1) true .l (.mv (.v 0))),(.g (.l 2) true .l (.nilc (.l 0))),(.g (.l 3) true .l (.fad 0 (.l 0))),(.g (.l 4) true .l (.load false 1 (.l 0))),(.g (.l 5) true .l (.len false (some 132) (.l 0))),(.g (.l 6) true .l (.bin (.int .i64) .lss (.l 5) (.l 0))),(.i .l (.pick (.l 7) (.l 0) (.c (.bool false)))),(.i (.v 2) (.mv (.l 0)))]),.ret]
theorem GY:FnR Tryz.prog po 112 2 3 [0,1,4] BL [(.v 2)] true:=⟨_,_,Tryz.func112,rfl,rfl,by kernel_rfl,by kernel_rfl,by kernel_rfl,by kernel_rfl,by kernel_rfl⟩
def jC:List RS:=[(.ops [(.i (.v 2) (.box 6 (.v 1))),(.i (.v 3) (.mv (.c (.int .i64 0)))),(.i (.v 4) (.mv (.c (.int .i64 0))))]),(.block 0 [(.ops [(.i .l (.fad 2 (.v 2))),(.i .l (.load false 1 (.l 0))),(.i .l (.call (.c (.fn 120 [] [])) [(.l 0)])),(.i .l (.un .not (.l 0))),(.i (.v 5) (.mv (.l 0)))]),(.cond (.v 5) [(.ops [(.i (.v 3) (.mv (.c (.int .i64 0)))),(.i (.v 4) (.mv (.c (.int .i64 1))))]),.ret] [(.ops [(.i .l (.fad 1 (.v 2))),(.i .l (.load false 1 (.l 0))),(.i .l (.bin (.int .i64) .neq (.l 0) (.c (.int .i64 (-1))))),(.i .l (.mv (.l 0))),(.g (.l 0) true .l (.mv (.v 0))),(.g (.l 1) true .l (.fad 1 (.v 2))),(.g (.l 2) true .l (.load false 1 (.l 0))),(.g (.l 3) true .l (.call (.c (.fn 98 [] [])) [(.l 2),(.l 0)])),(.g (.l 4) true .l (.un .not (.l 0))),(.i .l (.pick (.l 5) (.l 0) (.c (.bool false)))),(.i (.v 6) (.mv (.l 0)))]),(.cond (.v 6) [(.ops [(.i (.v 3) (.mv (.c (.int .i64 0)))),(.i (.v 4) (.mv (.c (.int .i64 8))))]),.ret] [(.ops [(.i .l (.mv (.v 0))),(.i .l (.nilc (.l 0))),(.i .l (.fad 0 (.l 0))),(.i .l (.load false 1 (.l 0))),(.i .l (.len false (some 132) (.l 0))),(.i .l (.bin (.int .i64) .eql (.l 0) (.c (.int .i64 80)))),(.i (.v 7) (.mv (.l 0)))]),(.cond (.v 7) [(.ops [(.i (.v 3) (.mv (.c (.int .i64 0)))),(.i (.v 4) (.mv (.c (.int .i64 11))))]),.ret] [])])])]),(.ops [(.i .l (.mv (.v 0))),(.i .l (.mv (.v 0))),(.i .l (.nilc (.l 0))),(.i .l (.fad 0 (.l 0))),(.i .l (.load false 1 (.l 0))),(.i .l (.load true 6 (.v 2))),(.i .l (.bsl false 132 [(.int .i64 0),(.int .i64 0),(.int .i64 0),(.int .i64 0),(.int .i64 0),(.int .i64 0)] 6 1 [(0,(.l 0))])),(.ck [⟨none,false,1,(.l 3),(.l 2)⟩]),(.i .l (.app false 132 (.l 2) (.l 0))),(.i .l (.nilc (.l 7))),(.i .l (.fad 0 (.l 0))),(.i .n (.store 1 (.l 0) (.l 2)))]),(.ops [(.i .l (.mv (.v 0))),(.i .l (.nilc (.l 0))),(.i .l (.fad 0 (.l 0))),(.i .l (.load false 1 (.l 0))),(.i .l (.len false (some 132) (.l 0))),(.i .l (.bin (.int .i64) .sub (.l 0) (.c (.int .i64 1)))),(.i (.v 3) (.mv (.l 0))),(.i (.v 4) (.mv (.c (.int .i64 0))))]),.ret]
theorem kO:FnR Tryz.prog po 97 2 8 [0,1,3,4,5,6,11,22] jC [(.v 3),(.v 4)] false:=⟨_,_,Tryz.func97,rfl,rfl,by kernel_rfl,by kernel_rfl,by kernel_rfl,by kernel_rfl,by kernel_rfl⟩
def ri:List RS:=[(.ops [(.i (.v 4) (.mv (.c (.int .i64 0)))),(.i (.v 5) (.mv (.c (.int .i64 0))))]),(.ops [(.i .l (.mv (.v 1))),(.i .l (.call (.c (.fn 96 [] [])) [(.l 0)])),(.i (.v 6) (.un .not (.l 0)))]),(.cond (.v 6) [(.ops [(.i (.v 4) (.mv (.c (.int .i64 0)))),(.i (.v 5) (.mv (.c (.int .i64 1))))]),.ret] []),(.ops [(.i .l (.mv (.v 0))),(.i .l (.mv (.v 3))),(.i .l (.mv (.v 2))),(.i .l (.mv (.v 1))),(.i .l (.build [(.int .i64 0),(.int .i64 0),(.int .i64 0),(.int .i64 0),(.int .i64 0),(.int .i64 0)] [(0,1),(1,1),(2,1),(3,1),(4,1),(5,1)] [(0,(.c (.int .i64 (-1)))),(1,(.l 2)),(2,(.l 1)),(3,(.l 0)),(4,(.c (.int .i64 (-1))))])),(.i .l (.call (.c (.fn 97 [] [])) [(.l 4),(.l 0)])),(.i .l (.ext (.l 0) 0)),(.i .l (.ext (.l 1) 1)),(.i (.v 4) (.mv (.l 1))),(.i (.v 5) (.mv (.l 0)))]),.ret]
theorem wo:FnR Tryz.prog po 58 4 7 [0,1,2,3,8,9,12] ri [(.v 4),(.v 5)] false:=⟨_,_,Tryz.func58,rfl,rfl,by kernel_rfl,by kernel_rfl,by kernel_rfl,by kernel_rfl,by kernel_rfl⟩
def qX:List RS:=[(.ops [(.i (.v 5) (.mv (.c (.int .i64 0)))),(.i (.v 6) (.mv (.c (.int .i64 0))))]),(.ops [(.i .l (.mv (.v 1))),(.i .l (.bin (.int .i64) .lss (.l 0) (.c (.int .i64 0)))),(.i .l (.mv (.l 0))),(.g (.l 0) false .l (.mv (.v 1))),(.g (.l 1) false .l (.bin (.int .i64) .geq (.l 0) (.c (.int .i64 4)))),(.i .l (.pick (.l 2) (.c (.bool true)) (.l 0))),(.i .l (.mv (.l 0))),(.g (.l 0) false .l (.mv (.v 2))),(.g (.l 1) false .l (.bin (.int .i64) .lss (.l 0) (.c (.int .i64 0)))),(.i .l (.pick (.l 2) (.c (.bool true)) (.l 0))),(.i .l (.mv (.l 0))),(.g (.l 0) false .l (.mv (.v 2))),(.g (.l 1) false .l (.bin (.int .i64) .geq (.l 0) (.c (.int .i64 6)))),(.i (.v 7) (.pick (.l 2) (.c (.bool true)) (.l 0)))]),(.cond (.v 7) [(.ops [(.i (.v 5) (.mv (.c (.int .i64 0)))),(.i (.v 6) (.mv (.c (.int .i64 1))))]),.ret] []),(.ops [(.i .l (.mv (.v 0))),(.i .l (.mv (.v 4))),(.i .l (.mv (.v 3))),(.i .l (.mv (.v 1))),(.i .l (.mv (.v 2))),(.i .l (.build [(.int .i64 0),(.int .i64 0),(.int .i64 0),(.int .i64 0),(.int .i64 0),(.int .i64 0)] [(0,1),(1,1),(2,1),(3,1),(4,1),(5,1)] [(0,(.c (.int .i64 (-1)))),(1,(.l 3)),(2,(.l 2)),(4,(.l 1)),(5,(.l 0))])),(.i .l (.call (.c (.fn 97 [] [])) [(.l 5),(.l 0)])),(.i .l (.ext (.l 0) 0)),(.i .l (.ext (.l 1) 1)),(.i (.v 5) (.mv (.l 1))),(.i (.v 6) (.mv (.l 0)))]),.ret]
theorem vT:FnR Tryz.prog po 60 5 8 [0,1,2,3,4,10,11,25] qX [(.v 5),(.v 6)] false:=⟨_,_,Tryz.func60,rfl,rfl,by kernel_rfl,by kernel_rfl,by kernel_rfl,by kernel_rfl,by kernel_rfl⟩
def ly:List RS:=[(.ops [(.i (.v 4) (.mv (.c (.int .i64 0)))),(.i (.v 5) (.mv (.c (.int .i64 0))))]),(.ops [(.i .l (.mv (.v 0))),(.i .l (.mv (.v 1))),(.i .l (.call (.c (.fn 112 [] [])) [(.l 1),(.l 0)])),(.i (.v 6) (.un .not (.l 0)))]),(.cond (.v 6) [(.ops [(.i (.v 4) (.mv (.c (.int .i64 0)))),(.i (.v 5) (.mv (.c (.int .i64 8))))]),.ret] []),(.ops [(.i .l (.mv (.v 0))),(.i .l (.mv (.v 1))),(.i .l (.mv (.v 3))),(.i .l (.mv (.v 2))),(.i .l (.build [(.int .i64 0),(.int .i64 0),(.int .i64 0),(.int .i64 0),(.int .i64 0),(.int .i64 0)] [(0,1),(1,1),(2,1),(3,1),(4,1),(5,1)] [(0,(.l 2)),(1,(.l 1)),(2,(.l 0)),(4,(.c (.int .i64 (-1))))])),(.i .l (.call (.c (.fn 97 [] [])) [(.l 4),(.l 0)])),(.i .l (.ext (.l 0) 0)),(.i .l (.ext (.l 1) 1)),(.i (.v 4) (.mv (.l 1))),(.i (.v 5) (.mv (.l 0)))]),.ret]
theorem ry:FnR Tryz.prog po 84 4 7 [0,1,2,3,8,9,13] ly [(.v 4),(.v 5)] false:=⟨_,_,Tryz.func84,rfl,rfl,by kernel_rfl,by kernel_rfl,by kernel_rfl,by kernel_rfl,by kernel_rfl⟩
def iG:List RS:=[(.ops [(.i .l (.mv (.v 0))),(.i .l (.mv (.v 1))),(.i (.v 4) (.call (.c (.fn 112 [] [])) [(.l 1),(.l 0)]))]),(.cond (.v 4) [] [(.exit 0)]),(.block 1 [(.ops [(.i .l (.mv (.v 3))),(.i .l (.mv (.v 0))),(.i .l (.nilc (.l 0))),(.i .l (.fad 0 (.l 0))),(.i .l (.load false 1 (.l 0))),(.i .l (.mv (.v 1))),(.i .l (.ixa (some 132) none (.l 1) (.l 0))),(.i .l (.load true 6 (.l 0))),(.i .l (.bsl false 132 [(.int .i64 0),(.int .i64 0),(.int .i64 0),(.int .i64 0),(.int .i64 0),(.int .i64 0)] 6 1 [(0,(.l 0))])),(.i .l (.app false 132 (.l 8) (.l 0))),(.i (.v 3) (.mv (.l 0)))]),(.ops [(.i .l (.mv (.v 0))),(.i .l (.nilc (.l 0))),(.i .l (.fad 0 (.l 0))),(.i .l (.load false 1 (.l 0))),(.i .l (.mv (.v 1))),(.i .l (.ixa (some 132) none (.l 1) (.l 0))),(.i .l (.fad 0 (.l 0))),(.i .l (.load false 1 (.l 0))),(.i (.v 1) (.mv (.l 0)))])])]
def wT:List RS:=[(.ops [(.i (.v 2) (.mv (.c .nils)))]),(.ops [(.i (.v 3) (.mv (.c .nils)))]),(.block 0 [(.loop iG)]),(.ops [(.i .l (.mv (.v 3))),(.i (.v 2) (.mv (.l 0)))]),.ret]
theorem Eu:FnR Tryz.prog po 158 2 5 [0,1,4,5,8] wT [(.v 2)] true:=⟨_,_,Tryz.func158,rfl,rfl,by kernel_rfl,by kernel_rfl,by kernel_rfl,by kernel_rfl,by kernel_rfl⟩
def eB:List RS:=[(.ops [(.i (.v 9) (.bin (.int .i64) .lss (.v 8) (.v 7)))]),(.cond (.v 9) [] [(.exit 0)]),(.block 1 [(.ops [(.i .l (.mv (.v 8))),(.i .l (.ixa (some 132) none (.v 6) (.v 8))),(.i .l (.load true 6 (.l 0))),(.i (.v 5) (.alloc [(.int .i64 0),(.int .i64 0),(.int .i64 0),(.int .i64 0),(.int .i64 0),(.int .i64 0)])),(.i (.v 4) (.mv (.l 2))),(.i .n (.store 6 (.v 5) (.l 0)))]),(.ops [(.i .l (.fad 1 (.v 5))),(.i .l (.load false 1 (.l 0))),(.i .l (.bin (.int .i64) .geq (.l 0) (.c (.int .i64 0)))),(.i .l (.mv (.l 0))),(.g (.l 0) true .l (.mv (.v 0))),(.g (.l 1) true .l (.fad 1 (.v 5))),(.g (.l 2) true .l (.load false 1 (.l 0))),(.g (.l 3) true .l (.call (.c (.fn 159 [] [])) [(.l 2),(.l 0)])),(.g (.l 4) true .l (.un .not (.l 0))),(.i (.v 10) (.pick (.l 5) (.l 0) (.c (.bool false))))]),(.cond (.v 10) [(.ops [(.i (.v 2) (.mv (.c (.int .i64 0))))]),.ret] []),(.ops [(.i .l (.mv (.v 4))),(.i (.v 11) (.bin (.int .i64) .eql (.l 0) (.c (.int .i64 0))))]),(.cond (.v 11) [(.ops [(.i (.v 3) (.mv (.c (.int .i64 15))))])] []),(.ops [(.i .l (.mv (.v 3))),(.i .l (.fad 2 (.v 5))),(.i .l (.load false 1 (.l 0))),(.i .l (.call (.c (.fn 160 [] [])) [(.l 2),(.l 0)])),(.i (.v 3) (.mv (.l 0)))])]),(.ops [(.i .l (.bin (.int .i64) .add (.v 8) (.c (.int .i64 1)))),(.i (.v 8) (.mv (.l 0)))])]
def qM:List RS:=[(.ops [(.i (.v 2) (.mv (.c (.int .i64 0))))]),(.ops [(.i (.v 3) (.mv (.c (.int .i64 0))))]),(.ops [(.i .l (.mv (.v 0))),(.i .l (.mv (.v 1))),(.i (.v 6) (.call (.c (.fn 158 [] [])) [(.l 1),(.l 0)])),(.i (.v 7) (.len false (some 132) (.v 6))),(.i (.v 8) (.mv (.c (.int .i64 0))))]),(.block 0 [(.loop eB)]),(.ops [(.i .l (.mv (.v 3))),(.i (.v 2) (.mv (.l 0)))]),.ret]
theorem yp:FnR Tryz.prog po 145 2 12 [0,1,4,5,6,7,10,11,12,13,26,28] qM [(.v 2)] true:=⟨_,_,Tryz.func145,rfl,rfl,by kernel_rfl,by kernel_rfl,by kernel_rfl,by kernel_rfl,by kernel_rfl⟩
def rb:List RS:=[(.ops [(.i (.v 2) (.alloc [(.int .i64 0),(.int .i64 0),(.int .i64 0),(.int .i64 0),(.int .i64 0),(.int .i64 0)])),(.i (.v 3) (.mv (.c (.bool false))))]),(.ops [(.i .l (.mv (.v 0))),(.i .l (.mv (.v 1))),(.i .l (.call (.c (.fn 158 [] [])) [(.l 1),(.l 0)])),(.i (.v 4) (.mv (.l 0)))]),(.ops [(.i .l (.mv (.v 4))),(.i .l (.len false (some 132) (.l 0))),(.i (.v 5) (.bin (.int .i64) .eql (.l 0) (.c (.int .i64 0))))]),(.cond (.v 5) [(.ops [(.i .l (.build [(.int .i64 0),(.int .i64 0),(.int .i64 0),(.int .i64 0),(.int .i64 0),(.int .i64 0)] [(0,1),(1,1),(2,1),(3,1),(4,1),(5,1)] [])),(.i .n (.store 6 (.v 2) (.l 0))),(.i (.v 3) (.mv (.c (.bool false))))]),.ret] []),(.ops [(.i .l (.mv (.v 4))),(.i .l (.mv (.v 4))),(.i .l (.len false (some 132) (.l 0))),(.i .l (.bin (.int .i64) .sub (.l 0) (.c (.int .i64 1)))),(.i .l (.ixa (some 132) none (.l 3) (.l 0))),(.i .l (.load true 6 (.l 0))),(.i .n (.store 6 (.v 2) (.l 0))),(.i (.v 3) (.mv (.c (.bool true))))]),.ret]
theorem za:FnR Tryz.prog po 162 2 6 [0,1,4,5,6,12] rb [(.cell true 6 2),(.v 3)] true:=⟨_,_,Tryz.func162,rfl,rfl,by kernel_rfl,by kernel_rfl,by kernel_rfl,by kernel_rfl,by kernel_rfl⟩
def gN:List RS:=[(.ops [(.i (.v 8) (.bin (.int .i64) .lss (.v 7) (.v 6)))]),(.cond (.v 8) [] [(.exit 0)]),(.block 1 [(.ops [(.i .l (.ixa (some 132) none (.v 5) (.v 7))),(.i .l (.load true 6 (.l 0))),(.i (.v 4) (.alloc [(.int .i64 0),(.int .i64 0),(.int .i64 0),(.int .i64 0),(.int .i64 0),(.int .i64 0)])),(.i .n (.store 6 (.v 4) (.l 0)))]),(.ops [(.i .l (.fad 1 (.v 4))),(.i .l (.load false 1 (.l 0))),(.i (.v 9) (.bin (.int .i64) .geq (.l 0) (.c (.int .i64 0))))]),(.cond (.v 9) [(.ops [(.i .l (.mv (.v 3))),(.i .l (.fad 1 (.v 4))),(.i .l (.load false 1 (.l 0))),(.i .l (.bsl false 3 [(.int .i64 0)] 1 1 [(0,(.l 0))])),(.i .l (.app false 3 (.l 3) (.l 0))),(.i (.v 3) (.mv (.l 0)))])] [])]),(.ops [(.i .l (.bin (.int .i64) .add (.v 7) (.c (.int .i64 1)))),(.i (.v 7) (.mv (.l 0)))])]
def sL:List RS:=[(.ops [(.i (.v 2) (.mv (.c .nils)))]),(.ops [(.i (.v 3) (.mv (.c .nils)))]),(.ops [(.i .l (.mv (.v 0))),(.i .l (.mv (.v 1))),(.i (.v 5) (.call (.c (.fn 158 [] [])) [(.l 1),(.l 0)])),(.i (.v 6) (.len false (some 132) (.v 5))),(.i (.v 7) (.mv (.c (.int .i64 0))))]),(.block 0 [(.loop gN)]),(.ops [(.i .l (.mv (.v 3))),(.i (.v 2) (.mv (.l 0)))]),.ret]
theorem Ce:FnR Tryz.prog po 150 2 10 [0,1,4,5,7,10,11,12,13,18] sL [(.v 2)] true:=⟨_,_,Tryz.func150,rfl,rfl,by kernel_rfl,by kernel_rfl,by kernel_rfl,by kernel_rfl,by kernel_rfl⟩
def sU:List RS:=[(.ops [(.i (.v 1) (.mv (.c .nils)))]),(.ops [(.i .l (.mv (.v 0))),(.i .l (.nilc (.l 0))),(.i .l (.fad 0 (.l 0))),(.i .l (.load false 1 (.l 0))),(.i .l (.call (.c (.fn 51 [] [])) [(.l 0)])),(.i (.v 1) (.mv (.l 0)))]),.ret]
theorem Dm:FnR Tryz.prog po 15 1 2 [0,2] sU [(.v 1)] true:=⟨_,_,Tryz.func15,rfl,rfl,by kernel_rfl,by kernel_rfl,by kernel_rfl,by kernel_rfl,by kernel_rfl⟩
def Ag:List RS:=[(.ops [(.i (.v 0) (.mv (.c .nilp)))]),(.ops [(.i .l (.build [.nils,.nils] [(0,1),(1,1)] [])),(.i .l (.box 2 (.l 0))),(.i (.v 0) (.mv (.l 0)))]),.ret]
theorem H4:FnR Tryz.prog po 76 0 1 [0] Ag [(.v 0)] false:=⟨_,_,Tryz.func76,rfl,rfl,by kernel_rfl,by kernel_rfl,by kernel_rfl,by kernel_rfl,by kernel_rfl⟩
def nu:List RS:=[(.ops [(.i (.v 1) (.mv (.c .nils)))]),(.ops [(.i .l (.mv (.v 0))),(.i (.v 2) (.bin .slice .eql (.l 0) (.c .nils)))]),(.cond (.v 2) [(.ops [(.i (.v 1) (.mv (.c .nils)))]),.ret] []),(.ops [(.i .l (.bsl false 132 [(.int .i64 0),(.int .i64 0),(.int .i64 0),(.int .i64 0),(.int .i64 0),(.int .i64 0)] 6 0 [])),(.i .l (.mv (.v 0))),(.i .l (.app false 132 (.l 1) (.l 0))),(.i (.v 1) (.mv (.l 0)))]),.ret]
theorem tx:FnR Tryz.prog po 51 1 3 [0,2,4] nu [(.v 1)] true:=⟨_,_,Tryz.func51,rfl,rfl,by kernel_rfl,by kernel_rfl,by kernel_rfl,by kernel_rfl,by kernel_rfl⟩
def A8:List RS:=[(.ops [(.i (.v 1) (.mv (.c (.bool false))))]),(.ops [(.i .l (.mv (.v 0))),(.i .l (.bin (.int .i64) .geq (.l 0) (.c (.int .i64 0)))),(.i .l (.mv (.l 0))),(.g (.l 0) true .l (.mv (.v 0))),(.g (.l 1) true .l (.bin (.int .i64) .lss (.l 0) (.c (.int .i64 12)))),(.i .l (.pick (.l 2) (.l 0) (.c (.bool false)))),(.i (.v 1) (.mv (.l 0)))]),.ret]
theorem Iu:FnR Tryz.prog po 96 1 2 [0,2] A8 [(.v 1)] true:=⟨_,_,Tryz.func96,rfl,rfl,by kernel_rfl,by kernel_rfl,by kernel_rfl,by kernel_rfl,by kernel_rfl⟩
def eH:List RS:=[(.ops [(.i .l (.mv (.v 3))),(.i .l (.mv (.v 0))),(.i .l (.len false (some 132) (.l 0))),(.i (.v 5) (.bin (.int .i64) .lss (.l 2) (.l 0)))]),(.cond (.v 5) [] [(.exit 0)]),(.block 1 [(.ops [(.i .l (.mv (.v 0))),(.i .l (.mv (.v 3))),(.i .l (.ixa (some 132) none (.l 1) (.l 0))),(.i .l (.load true 6 (.l 0))),(.i .l (.mv (.v 1))),(.i .l (.mv (.v 3))),(.i .l (.ixa (some 132) none (.l 1) (.l 0))),(.i .l (.load true 6 (.l 0))),(.i (.v 6) (.binG .agg (some [(.int .i64),(.int .i64),(.int .i64),(.int .i64),(.int .i64),(.int .i64)]) false .neq (.l 4) (.l 0)))]),(.cond (.v 6) [(.ops [(.i (.v 2) (.mv (.c (.bool false))))]),.ret] [])]),(.ops [(.i .l (.mv (.v 3))),(.i .l (.bin (.int .i64) .add (.l 0) (.c (.int .i64 1)))),(.i (.v 3) (.mv (.l 0)))])]
def mi:List RS:=[(.ops [(.i (.v 2) (.mv (.c (.bool false))))]),(.ops [(.i .l (.mv (.v 0))),(.i .l (.len false (some 132) (.l 0))),(.i .l (.mv (.v 1))),(.i .l (.len false (some 132) (.l 0))),(.i (.v 4) (.bin (.int .i64) .neq (.l 2) (.l 0)))]),(.cond (.v 4) [(.ops [(.i (.v 2) (.mv (.c (.bool false))))]),.ret] []),(.ops [(.i (.v 3) (.mv (.c (.int .i64 0))))]),(.block 0 [(.loop eH)]),(.ops [(.i (.v 2) (.mv (.c (.bool true))))]),.ret]
theorem vE:FnR Tryz.prog po 14 2 7 [0,1,4,5,10,14,25] mi [(.v 2)] true:=⟨_,_,Tryz.func14,rfl,rfl,by kernel_rfl,by kernel_rfl,by kernel_rfl,by kernel_rfl,by kernel_rfl⟩
def pM:List RS:=[(.ops [(.i (.v 1) (.mv (.c (.int .i64 0)))),(.i (.v 2) (.mv (.c (.int .i64 0))))]),(.ops [(.i .l (.mv (.v 0))),(.i .l (.nilc (.l 0))),(.i .l (.fad 1 (.l 0))),(.i .l (.load false 1 (.l 0))),(.i .l (.len false (some 4) (.l 0))),(.i (.v 3) (.bin (.int .i64) .geq (.l 0) (.c (.int .i64 20))))]),(.cond (.v 3) [(.ops [(.i (.v 1) (.mv (.c (.int .i64 0)))),(.i (.v 2) (.mv (.c (.int .i64 11))))]),.ret] []),(.ops [(.i .l (.mv (.v 0))),(.i .l (.mv (.v 0))),(.i .l (.nilc (.l 0))),(.i .l (.fad 1 (.l 0))),(.i .l (.load false 1 (.l 0))),(.i .l (.bsl true 4 [(.bool false)] 1 1 [(0,(.c (.bool false)))])),(.i .l (.app true 4 (.l 1) (.l 0))),(.i .l (.nilc (.l 6))),(.i .l (.fad 1 (.l 0))),(.i .n (.store 1 (.l 0) (.l 2)))]),(.ops [(.i .l (.mv (.v 0))),(.i .l (.nilc (.l 0))),(.i .l (.fad 1 (.l 0))),(.i .l (.load false 1 (.l 0))),(.i .l (.len false (some 4) (.l 0))),(.i .l (.bin (.int .i64) .sub (.l 0) (.c (.int .i64 1)))),(.i (.v 1) (.mv (.l 0))),(.i (.v 2) (.mv (.c (.int .i64 0))))]),.ret]
theorem wA:FnR Tryz.prog po 68 1 4 [0,2,3,9] pM [(.v 1),(.v 2)] false:=⟨_,_,Tryz.func68,rfl,rfl,by kernel_rfl,by kernel_rfl,by kernel_rfl,by kernel_rfl,by kernel_rfl⟩
def Au:List RS:=[(.ops [(.i (.v 2) (.mv (.c (.bool false))))]),(.ops [(.i .l (.mv (.v 1))),(.i .l (.bin (.int .i64) .geq (.l 0) (.c (.int .i64 0)))),(.i .l (.mv (.l 0))),(.g (.l 0) true .l (.mv (.v 1))),(.g (.l 1) true .l (.mv (.v 0))),(.g (.l 2) true .l (.nilc (.l 0))),(.g (.l 3) true .l (.fad 1 (.l 0))),(.g (.l 4) true .l (.load false 1 (.l 0))),(.g (.l 5) true .l (.len false (some 4) (.l 0))),(.g (.l 6) true .l (.bin (.int .i64) .lss (.l 5) (.l 0))),(.i .l (.pick (.l 7) (.l 0) (.c (.bool false)))),(.i (.v 2) (.mv (.l 0)))]),.ret]
theorem IC:FnR Tryz.prog po 100 2 3 [0,1,4] Au [(.v 2)] true:=⟨_,_,Tryz.func100,rfl,rfl,by kernel_rfl,by kernel_rfl,by kernel_rfl,by kernel_rfl,by kernel_rfl⟩
def uG:List RS:=[(.ops [(.i (.v 2) (.mv (.c (.int .i64 0))))]),(.ops [(.i .l (.mv (.v 0))),(.i .l (.mv (.v 1))),(.i .l (.call (.c (.fn 100 [] [])) [(.l 1),(.l 0)])),(.i (.v 3) (.un .not (.l 0)))]),(.cond (.v 3) [(.ops [(.i (.v 2) (.mv (.c (.int .i64 8))))]),.ret] []),(.ops [(.i .l (.mv (.v 0))),(.i .l (.nilc (.l 0))),(.i .l (.fad 1 (.l 0))),(.i .l (.load false 1 (.l 0))),(.i .l (.mv (.v 1))),(.i .l (.ixa (some 4) none (.l 1) (.l 0))),(.i .n (.store 1 (.l 0) (.c (.bool true))))]),(.ops [(.i (.v 2) (.mv (.c (.int .i64 0))))]),.ret]
theorem By:FnR Tryz.prog po 67 2 4 [0,1,4,8] uG [(.v 2)] false:=⟨_,_,Tryz.func67,rfl,rfl,by kernel_rfl,by kernel_rfl,by kernel_rfl,by kernel_rfl,by kernel_rfl⟩
def jN:List RS:=[(.ops [(.i (.v 2) (.box 6 (.v 1))),(.i (.v 3) (.mv (.c (.int .i64 0)))),(.i (.v 4) (.mv (.c (.int .i64 0))))]),(.ops [(.i .l (.fad 2 (.v 2))),(.i .l (.load false 1 (.l 0))),(.i .l (.bin (.int .i64) .lss (.l 0) (.c (.int .i64 0)))),(.i .l (.mv (.l 0))),(.g (.l 0) false .l (.fad 2 (.v 2))),(.g (.l 1) false .l (.load false 1 (.l 0))),(.g (.l 2) false .l (.bin (.int .i64) .gtr (.l 0) (.c (.int .i64 15)))),(.i (.v 5) (.pick (.l 3) (.c (.bool true)) (.l 0)))]),(.cond (.v 5) [(.ops [(.i (.v 3) (.mv (.c (.int .i64 0)))),(.i (.v 4) (.mv (.c (.int .i64 1))))]),.ret] []),(.ops [(.i .l (.fad 1 (.v 2))),(.i .l (.load false 1 (.l 0))),(.i .l (.bin (.int .i64) .neq (.l 0) (.c (.int .i64 (-1))))),(.i .l (.mv (.l 0))),(.g (.l 0) true .l (.mv (.v 0))),(.g (.l 1) true .l (.fad 1 (.v 2))),(.g (.l 2) true .l (.load false 1 (.l 0))),(.g (.l 3) true .l (.call (.c (.fn 100 [] [])) [(.l 2),(.l 0)])),(.g (.l 4) true .l (.un .not (.l 0))),(.i (.v 6) (.pick (.l 5) (.l 0) (.c (.bool false))))]),(.cond (.v 6) [(.ops [(.i (.v 3) (.mv (.c (.int .i64 0)))),(.i (.v 4) (.mv (.c (.int .i64 8))))]),.ret] []),(.ops [(.i .l (.mv (.v 0))),(.i .l (.nilc (.l 0))),(.i .l (.fad 0 (.l 0))),(.i .l (.load false 1 (.l 0))),(.i .l (.len false (some 132) (.l 0))),(.i (.v 7) (.bin (.int .i64) .geq (.l 0) (.c (.int .i64 80))))]),(.cond (.v 7) [(.ops [(.i (.v 3) (.mv (.c (.int .i64 0)))),(.i (.v 4) (.mv (.c (.int .i64 11))))]),.ret] []),(.ops [(.i .l (.mv (.v 0))),(.i .l (.mv (.v 0))),(.i .l (.nilc (.l 0))),(.i .l (.fad 0 (.l 0))),(.i .l (.load false 1 (.l 0))),(.i .l (.load true 6 (.v 2))),(.i .l (.bsl false 132 [(.int .i64 0),(.int .i64 0),(.int .i64 0),(.int .i64 0),(.int .i64 0),(.int .i64 0)] 6 1 [(0,(.l 0))])),(.ck [⟨none,false,1,(.l 3),(.l 2)⟩]),(.i .l (.app false 132 (.l 2) (.l 0))),(.i .l (.nilc (.l 7))),(.i .l (.fad 0 (.l 0))),(.i .n (.store 1 (.l 0) (.l 2)))]),(.ops [(.i .l (.mv (.v 0))),(.i .l (.nilc (.l 0))),(.i .l (.fad 0 (.l 0))),(.i .l (.load false 1 (.l 0))),(.i .l (.len false (some 132) (.l 0))),(.i .l (.bin (.int .i64) .sub (.l 0) (.c (.int .i64 1)))),(.i (.v 3) (.mv (.l 0))),(.i (.v 4) (.mv (.c (.int .i64 0))))]),.ret]
theorem kU:FnR Tryz.prog po 99 2 8 [0,1,3,4,5,13,23,29] jN [(.v 3),(.v 4)] false:=⟨_,_,Tryz.func99,rfl,rfl,by kernel_rfl,by kernel_rfl,by kernel_rfl,by kernel_rfl,by kernel_rfl⟩
def qz:List RS:=[(.ops [(.i (.v 4) (.mv (.c (.int .i64 0)))),(.i (.v 5) (.mv (.c (.int .i64 0))))]),(.ops [(.i .l (.mv (.v 1))),(.i .l (.bin (.int .i64) .lss (.l 0) (.c (.int .i64 0)))),(.i .l (.mv (.l 0))),(.g (.l 0) false .l (.mv (.v 1))),(.g (.l 1) false .l (.bin (.int .i64) .geq (.l 0) (.c (.int .i64 12)))),(.i (.v 6) (.pick (.l 2) (.c (.bool true)) (.l 0)))]),(.cond (.v 6) [(.ops [(.i (.v 4) (.mv (.c (.int .i64 0)))),(.i (.v 5) (.mv (.c (.int .i64 1))))]),.ret] []),(.ops [(.i .l (.mv (.v 0))),(.i .l (.mv (.v 3))),(.i .l (.mv (.v 2))),(.i .l (.mv (.v 1))),(.i .l (.build [(.int .i64 0),(.int .i64 0),(.int .i64 0),(.int .i64 0),(.int .i64 0),(.int .i64 0)] [(0,1),(1,1),(2,1),(3,1),(4,1),(5,1)] [(0,(.c (.int .i64 (-1)))),(1,(.l 2)),(2,(.l 1)),(3,(.l 0)),(4,(.c (.int .i64 (-1))))])),(.i .l (.call (.c (.fn 99 [] [])) [(.l 4),(.l 0)])),(.i .l (.ext (.l 0) 0)),(.i .l (.ext (.l 1) 1)),(.i (.v 4) (.mv (.l 1))),(.i (.v 5) (.mv (.l 0)))]),.ret]
theorem wB:FnR Tryz.prog po 66 4 7 [0,1,2,3,8,9,15] qz [(.v 4),(.v 5)] false:=⟨_,_,Tryz.func66,rfl,rfl,by kernel_rfl,by kernel_rfl,by kernel_rfl,by kernel_rfl,by kernel_rfl⟩
def pG:List RS:=[(.ops [(.i (.v 5) (.mv (.c (.int .i64 0)))),(.i (.v 6) (.mv (.c (.int .i64 0))))]),(.ops [(.i .l (.mv (.v 1))),(.i .l (.bin (.int .i64) .lss (.l 0) (.c (.int .i64 0)))),(.i .l (.mv (.l 0))),(.g (.l 0) false .l (.mv (.v 1))),(.g (.l 1) false .l (.bin (.int .i64) .geq (.l 0) (.c (.int .i64 4)))),(.i .l (.pick (.l 2) (.c (.bool true)) (.l 0))),(.i .l (.mv (.l 0))),(.g (.l 0) false .l (.mv (.v 2))),(.g (.l 1) false .l (.bin (.int .i64) .lss (.l 0) (.c (.int .i64 0)))),(.i .l (.pick (.l 2) (.c (.bool true)) (.l 0))),(.i .l (.mv (.l 0))),(.g (.l 0) false .l (.mv (.v 2))),(.g (.l 1) false .l (.bin (.int .i64) .geq (.l 0) (.c (.int .i64 6)))),(.i (.v 7) (.pick (.l 2) (.c (.bool true)) (.l 0)))]),(.cond (.v 7) [(.ops [(.i (.v 5) (.mv (.c (.int .i64 0)))),(.i (.v 6) (.mv (.c (.int .i64 1))))]),.ret] []),(.ops [(.i .l (.mv (.v 0))),(.i .l (.mv (.v 4))),(.i .l (.mv (.v 3))),(.i .l (.mv (.v 1))),(.i .l (.mv (.v 2))),(.i .l (.build [(.int .i64 0),(.int .i64 0),(.int .i64 0),(.int .i64 0),(.int .i64 0),(.int .i64 0)] [(0,1),(1,1),(2,1),(3,1),(4,1),(5,1)] [(0,(.c (.int .i64 (-1)))),(1,(.l 3)),(2,(.l 2)),(4,(.l 1)),(5,(.l 0))])),(.i .l (.call (.c (.fn 99 [] [])) [(.l 5),(.l 0)])),(.i .l (.ext (.l 0) 0)),(.i .l (.ext (.l 1) 1)),(.i (.v 5) (.mv (.l 1))),(.i (.v 6) (.mv (.l 0)))]),.ret]
theorem xf:FnR Tryz.prog po 64 5 8 [0,1,2,3,4,10,11,25] pG [(.v 5),(.v 6)] false:=⟨_,_,Tryz.func64,rfl,rfl,by kernel_rfl,by kernel_rfl,by kernel_rfl,by kernel_rfl,by kernel_rfl⟩
def lH:List RS:=[(.ops [(.i (.v 4) (.mv (.c (.int .i64 0)))),(.i (.v 5) (.mv (.c (.int .i64 0))))]),(.ops [(.i .l (.mv (.v 1))),(.i .l (.bin (.int .i64) .lss (.l 0) (.c (.int .i64 0)))),(.i .l (.mv (.l 0))),(.g (.l 0) false .l (.mv (.v 1))),(.g (.l 1) false .l (.mv (.v 0))),(.g (.l 2) false .l (.nilc (.l 0))),(.g (.l 3) false .l (.fad 0 (.l 0))),(.g (.l 4) false .l (.load false 1 (.l 0))),(.g (.l 5) false .l (.len false (some 132) (.l 0))),(.g (.l 6) false .l (.bin (.int .i64) .geq (.l 5) (.l 0))),(.i (.v 6) (.pick (.l 7) (.c (.bool true)) (.l 0)))]),(.cond (.v 6) [(.ops [(.i (.v 4) (.mv (.c (.int .i64 0)))),(.i (.v 5) (.mv (.c (.int .i64 8))))]),.ret] []),(.ops [(.i .l (.mv (.v 0))),(.i .l (.mv (.v 1))),(.i .l (.mv (.v 3))),(.i .l (.mv (.v 2))),(.i .l (.build [(.int .i64 0),(.int .i64 0),(.int .i64 0),(.int .i64 0),(.int .i64 0),(.int .i64 0)] [(0,1),(1,1),(2,1),(3,1),(4,1),(5,1)] [(0,(.l 2)),(1,(.l 1)),(2,(.l 0)),(4,(.c (.int .i64 (-1))))])),(.i .l (.call (.c (.fn 99 [] [])) [(.l 4),(.l 0)])),(.i .l (.ext (.l 0) 0)),(.i .l (.ext (.l 1) 1)),(.i (.v 4) (.mv (.l 1))),(.i (.v 5) (.mv (.l 0)))]),.ret]
theorem pb:FnR Tryz.prog po 85 4 7 [0,1,2,3,8,9,20] lH [(.v 4),(.v 5)] false:=⟨_,_,Tryz.func85,rfl,rfl,by kernel_rfl,by kernel_rfl,by kernel_rfl,by kernel_rfl,by kernel_rfl⟩
def dp:List RS:=[(.ops [(.i (.v 3) (.box 5 (.v 2))),(.i (.v 4) (.mv (.c (.bool false))))]),(.ops [(.i (.v 5) (.mv (.c (.int .i64 0)))),(.i (.v 6) (.mv (.c (.int .i64 0)))),(.i (.v 7) (.mv (.c (.int .i64 0)))),(.i (.v 8) (.mv (.c (.int .i64 0))))]),(.ops [(.i .l (.fad 0 (.v 3))),(.i (.v 9) (.load false 1 (.l 0)))]),(.block 0 [(.ops [(.i .l (.bin (.int .i64) .eql (.v 9) (.c (.int .i64 0)))),(.i (.v 10) (.mv (.l 0)))]),(.cond (.v 10) [(.ops [(.i .l (.mv (.v 0))),(.i .l (.call (.c (.fn 63 [] [])) [(.l 0)])),(.i .l (.mv (.l 0))),(.i .l (.ext (.l 0) 0)),(.i .l (.ext (.l 1) 1)),(.i (.v 5) (.mv (.l 1))),(.i (.v 7) (.mv (.l 0)))]),(.ops [(.i .l (.mv (.v 1))),(.i .l (.call (.c (.fn 68 [] [])) [(.l 0)])),(.i .l (.mv (.l 0))),(.i .l (.ext (.l 0) 0)),(.i .l (.ext (.l 1) 1)),(.i (.v 6) (.mv (.l 1))),(.i (.v 8) (.mv (.l 0)))])] [(.ops [(.i .l (.bin (.int .i64) .eql (.v 9) (.c (.int .i64 1)))),(.i (.v 11) (.mv (.l 0)))]),(.cond (.v 11) [(.ops [(.i .l (.mv (.v 0))),(.i .l (.fad 1 (.v 3))),(.i .l (.load false 1 (.l 0))),(.i .l (.mv (.v 1))),(.i .l (.fad 1 (.v 3))),(.i .l (.load false 1 (.l 0))),(.i .l (.call (.c (.fn 62 [] [])) [(.l 5),(.l 3)])),(.ck [⟨none,false,1,(.l 2),(.l 1)⟩]),(.i .l (.call (.c (.fn 67 [] [])) [(.l 3),(.l 1)])),(.i (.v 7) (.mv (.l 1))),(.i (.v 8) (.mv (.l 0)))])] [(.ops [(.i .l (.bin (.int .i64) .eql (.v 9) (.c (.int .i64 2)))),(.i (.v 12) (.mv (.l 0)))]),(.cond (.v 12) [(.ops [(.i .l (.mv (.v 0))),(.i .l (.fad 1 (.v 3))),(.i .l (.load false 1 (.l 0))),(.i .l (.fad 2 (.v 3))),(.i .l (.load false 1 (.l 0))),(.i .l (.fad 3 (.v 3))),(.i .l (.load false 1 (.l 0))),(.i .l (.call (.c (.fn 58 [] [])) [(.l 6),(.l 4),(.l 2),(.l 0)])),(.i .l (.mv (.l 0))),(.i .l (.ext (.l 0) 0)),(.i .l (.ext (.l 1) 1)),(.i (.v 5) (.mv (.l 1))),(.i (.v 7) (.mv (.l 0)))]),(.ops [(.i .l (.mv (.v 1))),(.i .l (.fad 1 (.v 3))),(.i .l (.load false 1 (.l 0))),(.i .l (.fad 2 (.v 3))),(.i .l (.load false 1 (.l 0))),(.i .l (.fad 3 (.v 3))),(.i .l (.load false 1 (.l 0))),(.i .l (.call (.c (.fn 66 [] [])) [(.l 6),(.l 4),(.l 2),(.l 0)])),(.i .l (.mv (.l 0))),(.i .l (.ext (.l 0) 0)),(.i .l (.ext (.l 1) 1)),(.i (.v 6) (.mv (.l 1))),(.i (.v 8) (.mv (.l 0)))])] [(.ops [(.i .l (.bin (.int .i64) .eql (.v 9) (.c (.int .i64 3)))),(.i (.v 13) (.mv (.l 0)))]),(.cond (.v 13) [(.ops [(.i .l (.mv (.v 0))),(.i .l (.fad 1 (.v 3))),(.i .l (.load false 1 (.l 0))),(.i .l (.fad 4 (.v 3))),(.i .l (.load false 1 (.l 0))),(.i .l (.fad 2 (.v 3))),(.i .l (.load false 1 (.l 0))),(.i .l (.fad 3 (.v 3))),(.i .l (.load false 1 (.l 0))),(.i .l (.call (.c (.fn 60 [] [])) [(.l 8),(.l 6),(.l 4),(.l 2),(.l 0)])),(.i .l (.mv (.l 0))),(.i .l (.ext (.l 0) 0)),(.i .l (.ext (.l 1) 1)),(.i (.v 5) (.mv (.l 1))),(.i (.v 7) (.mv (.l 0)))]),(.ops [(.i .l (.mv (.v 1))),(.i .l (.fad 1 (.v 3))),(.i .l (.load false 1 (.l 0))),(.i .l (.fad 4 (.v 3))),(.i .l (.load false 1 (.l 0))),(.i .l (.fad 2 (.v 3))),(.i .l (.load false 1 (.l 0))),(.i .l (.fad 3 (.v 3))),(.i .l (.load false 1 (.l 0))),(.i .l (.call (.c (.fn 64 [] [])) [(.l 8),(.l 6),(.l 4),(.l 2),(.l 0)])),(.i .l (.mv (.l 0))),(.i .l (.ext (.l 0) 0)),(.i .l (.ext (.l 1) 1)),(.i (.v 6) (.mv (.l 1))),(.i (.v 8) (.mv (.l 0)))])] [(.ops [(.i .l (.bin (.int .i64) .eql (.v 9) (.c (.int .i64 4)))),(.i (.v 14) (.mv (.l 0)))]),(.cond (.v 14) [(.ops [(.i .l (.mv (.v 0))),(.i .l (.fad 1 (.v 3))),(.i .l (.load false 1 (.l 0))),(.i .l (.fad 2 (.v 3))),(.i .l (.load false 1 (.l 0))),(.i .l (.fad 3 (.v 3))),(.i .l (.load false 1 (.l 0))),(.i .l (.call (.c (.fn 84 [] [])) [(.l 6),(.l 4),(.l 2),(.l 0)])),(.i .l (.mv (.l 0))),(.i .l (.ext (.l 0) 0)),(.i .l (.ext (.l 1) 1)),(.i (.v 5) (.mv (.l 1))),(.i (.v 7) (.mv (.l 0)))]),(.ops [(.i .l (.mv (.v 1))),(.i .l (.fad 1 (.v 3))),(.i .l (.load false 1 (.l 0))),(.i .l (.fad 2 (.v 3))),(.i .l (.load false 1 (.l 0))),(.i .l (.fad 3 (.v 3))),(.i .l (.load false 1 (.l 0))),(.i .l (.call (.c (.fn 85 [] [])) [(.l 6),(.l 4),(.l 2),(.l 0)])),(.i .l (.mv (.l 0))),(.i .l (.ext (.l 0) 0)),(.i .l (.ext (.l 1) 1)),(.i (.v 6) (.mv (.l 1))),(.i (.v 8) (.mv (.l 0)))])] [])])])])])]),(.ops [(.i .l (.mv (.v 5))),(.i .l (.mv (.v 6))),(.i .l (.bin (.int .i64) .eql (.l 1) (.l 0))),(.i .l (.mv (.l 0))),(.g (.l 0) true .l (.mv (.v 7))),(.g (.l 1) true .l (.mv (.v 8))),(.g (.l 2) true .l (.bin (.int .i64) .eql (.l 1) (.l 0))),(.i .l (.pick (.l 3) (.l 0) (.c (.bool false)))),(.i (.v 4) (.mv (.l 0)))]),.ret]
theorem dZ:FnR Tryz.prog po 45 3 15 [0,1,2,5,6,7,8,9,10,12,13,25,35,59,87] dp [(.v 4)] false:=⟨_,_,Tryz.func45,rfl,rfl,by kernel_rfl,by kernel_rfl,by kernel_rfl,by kernel_rfl,by kernel_rfl⟩
open Go.RowKit
theorem HB (y:BitVec 64):((y &&& 1#64).toInt==1)=y.getLsbD 0:=by
 have h:(y &&& 1#64).toNat=y.toNat % 2:=by
  rw[BitVec.toNat_and]
  exact Nat.and_one_is_mod _
 have hb:y.getLsbD 0=decide (y.toNat % 2=1):=by
  rw[BitVec.getLsbD,Nat.testBit_zero]
 rw[hb,Bool.eq_iff_iff,beq_iff_eq,decide_eq_true_eq,BitVec.toInt_eq_toNat_cond,h]
 split<;>omega
theorem AP (x:BitVec 64) {k:Nat} (hk:k<64):eP x.toInt k=x.getLsbD k:=by
 unfold eP
 have e:x.toInt / 2 ^ k=(x.sshiftRight k).toInt:=by
  rw[BitVec.toInt_sshiftRight,Int.shiftRight_eq_div_pow]
  simp
 rw[e,qo,ma]
 show((_ &&& 1#64).toInt==1)=_
 rw[HB,BitVec.getLsbD_sshiftRight]
 simp
 omega
open Go.RowKit
theorem z8 (P:List bg) (hP:∀ n∈P,hD n.rights=true) (v:BitVec 64):P.foldl (fun r n=>lj r n.rights) v.toInt=(P.foldl (fun v n=>v &&& BitVec.ofInt 64 n.rights) v).toInt:=by
 induction P generalizing v with
 | nil=>rfl
 | cons n P ih=>
   rw[List.foldl_cons,List.foldl_cons]
   have e:lj v.toInt n.rights=(v &&& BitVec.ofInt 64 n.rights).toInt:=by
    unfold lj
    rw[qo,ma]
   rw[e,ih (fun m hm=>hP m (by simp[hm]))]
theorem C4 (n:bg):(aB n).length=6:=rfl
theorem Ck (n:bg):(aB n).all AV.one=true:=rfl
theorem Ip (n:bg):(aB n)[0]? =some (.int .i64 n.parent):=rfl
theorem Hc (n:bg):(aB n)[1]? =some (.int .i64 n.gate):=rfl
theorem HR (n:bg):(aB n)[2]? =some (.int .i64 n.rights):=rfl
theorem H9 (n:bg):(aB n)[3]? =some (.int .i64 n.cell):=rfl
theorem Hg (n:bg):(aB n)[4]? =some (.int .i64 n.plugin):=rfl
theorem IG (n:bg):(aB n)[5]? =some (.int .i64 n.func):=rfl
theorem ed:(∀ n,(aB n).length=6)∧(∀ n,(aB n).all AV.one=true)∧(∀ n:bg,(aB n)[0]? =some (.int .i64 n.parent))∧(∀ n:bg,(aB n)[1]? =some (.int .i64 n.gate))∧(∀ n:bg,(aB n)[2]? =some (.int .i64 n.rights))∧(∀ n:bg,(aB n)[3]? =some (.int .i64 n.cell))∧
  (∀ n:bg,(aB n)[4]? =some (.int .i64 n.plugin))∧(∀ n:bg,(aB n)[5]? =some (.int .i64 n.func)):=⟨C4,Ck,Ip,Hc,HR,H9,Hg,IG⟩
theorem me.isL {h:AH} {J:Nat→Prop} {e:TypeId} {v:AV} {rows:List (List AV)} (g:me h J e v rows):IsL e v rows:=by
 rcases g with⟨rfl,rfl⟩ | ⟨id,_,_,_,_,rfl⟩
 ·exact mp e
 ·exact oU _ _ _
theorem lZ.len {h:AH} {F:Nat→Prop} {b:Nat} {e:TypeId} {v:AV} {rows:List (List AV)} (g:lZ h F b e v rows):dO v=some rows.length∧∀ s,cU s (some e) v=true:=by
 rcases g with⟨rfl,rfl⟩ | ⟨q,_,_,_,_,rfl⟩
 ·exact⟨rfl,fun s=>rfl⟩
 ·exact⟨rfl,fun s=>ji⟩
theorem me.grew {h h':AH} {J:Nat→Prop} {e:TypeId} {v:AV} {rows:List (List AV)} (g:me h J e v rows) (x:ab h h'):me h' J e v rows:=by
 rcases g with h1 | ⟨id,h1,h0,h2,h3,h4⟩
 ·exact .inl h1
 ·exact .inr ⟨id,h1,h0,Nat.lt_of_lt_of_le h2 x.ids,(x.hw id h2).trans h3,h4⟩
theorem lZ.grew {h h':AH} {F:Nat→Prop} {b:Nat} {e:TypeId} {v:AV} {rows:List (List AV)} (g:lZ h F b e v rows) (x:ab h h'):lZ h' F b e v rows:=by
 rcases g with h1 | ⟨q,h1,h2,h3,h4,h5⟩
 ·exact .inl h1
 ·exact .inr ⟨q,h1,h2,Nat.lt_of_lt_of_le h3 x.n,(x.cell q h3).trans h4,h5⟩
theorem IsG.grew {h h':AH} {F J:Nat→Prop} {b:Nat} {G:ae} (g:IsG h F J b G) (x:ab h h'):IsG h' F J b G:=by
 obtain⟨nv,sv,h1,h2,h3⟩:=g.ex
 exact⟨⟨g.hb.1,Nat.lt_of_lt_of_le g.hb.2 x.n⟩,⟨fun k hk=>Nat.lt_of_lt_of_le (g.lt.1 k hk) x.n,fun j hj=>Nat.lt_of_lt_of_le (g.lt.2 j hj) x.ids⟩,nv,sv,(x.cell b g.hb.2).trans h1,h2.grew x,h3.grew x⟩
theorem uf {h:AH} {F:Nat→Prop} {b:Nat} {sv:AV} {l:List Bool} (g:lZ h F b tB sv (l.map fun x=>[.bool x])) {m:Nat} (hm:m<l.length):
  ∃ q,cj (some tB) none sv (.int .i64 (m:Int))=some (.ptr q m 0)∧h.cell q=some (l.map fun x=>[.bool x])∧(l.map fun x=>[AV.bool x])[m]? =some [.bool (l.getD m false)]∧F q∧q≠b∧q<h.n∧sv= .msl q 0 l.length tB:=by
 rcases g with⟨h1,_⟩ | ⟨q,h1,h2,h3,h4,rfl⟩
 ·simp at h1;subst h1;simp at hm
 ·exact⟨q,by simp[cj,hm],h4,by simp[hm,List.getD],h1,h2,h3,by simp⟩
theorem ae.gate_nat {G:ae} {k:Int} (hh:G.hasGate k=true):∃ m:Nat,k=m∧m<G.shut.length:=by
 simp[ae.hasGate]at hh
 exact⟨k.toNat,by omega,by omega⟩
theorem ae.has_nn {G:ae} {k:Int} (hh:G.has k=true):0≤k:=by simp[ae.has]at hh;exact hh.1
theorem ae.node_nat {G:ae} {k:Int} (hh:G.has k=true):∃ m:Nat,k=m∧m<G.nodes.length∧(G.nodes.map aB)[m]? =some (aB (G.nodes.getD m dQ)):=by
 simp[ae.has]at hh
 have hl:k.toNat<G.nodes.length:=by omega
 exact⟨k.toNat,by omega,hl,by simp[hl,List.getD]⟩
section
variable {h:AH} {F J:Nat→Prop} {b:Nat} {G:ae}
theorem wV (g:IsG h F J b G) (k:Int):ai Tryz.prog po 98 [.ptr b 0 0,.int .i64 k] h=some (.inl (.bool (G.hasGate k)),h):=by
 obtain⟨nv,sv,h1, -,h3⟩:=g.ex
 refine ag Ha rfl ?_;unfold AI
 by_cases h0:0≤k<;>simp only[sim,af,reduceAdd,reduceSub,replicate,reduceCtorEq,reduceLeDiff,reduceLT,aa,h0,h1,h3.len.1,h3.len.2,ml,ae.hasGate,List.length_map]
theorem FV (g:IsG h F J b G) (k:Int):ai Tryz.prog po 100 [.ptr b 0 0,.int .i64 k] h=some (.inl (.bool (G.hasGate k)),h):=by
 obtain⟨nv,sv,h1, -,h3⟩:=g.ex
 refine ag IC rfl ?_;unfold Au
 by_cases h0:0≤k<;>simp only[sim,af,reduceAdd,reduceSub,replicate,reduceCtorEq,reduceLeDiff,reduceLT,aa,h0,h1,h3.len.1,h3.len.2,ml,ae.hasGate,List.length_map]
theorem wR (g:IsG h F J b G) (k:Int):ai Tryz.prog po 112 [.ptr b 0 0,.int .i64 k] h=some (.inl (.bool (G.has k)),h):=by
 obtain⟨nv,sv,h1,h2, -⟩:=g.ex
 refine ag GY rfl ?_;unfold BL
 by_cases h0:0≤k<;>simp only[sim,af,reduceAdd,reduceSub,replicate,reduceCtorEq,reduceLeDiff,reduceLT,aa,h0,h1,h2.isL.len,h2.isL.fits,ml,ae.has,List.length_map]
theorem KZ (g:IsG h F J b G) (k:Int):ai Tryz.prog po 159 [.ptr b 0 0,.int .i64 k] h=some (.inl (.bool (G.isOpen k)),h):=by
 obtain⟨nv,sv,h1, -,h3⟩:=g.ex
 refine ag DR rfl ?_;unfold yi
 cases hh:G.hasGate k
 ·simp only[sim,af,reduceAdd,reduceSub,replicate,reduceCtorEq,reduceLeDiff,reduceLT,aa,wV g,hh,ae.isOpen]
 ·obtain⟨m,rfl,hm⟩:=ae.gate_nat hh
  obtain⟨q,e1,e2,e3, -⟩:=uf h3 hm
  simp only[sim,af,reduceAdd,reduceSub,replicate,reduceCtorEq,reduceLeDiff,reduceLT,aa,wV g,hh,h1,e1,e2,e3,ae.isOpen,Int.toNat_natCast]
theorem zT (g:IsG h F J b G) (hW:G.Wf) (rest:List RS):∀ (f:Nat) (i:Int) (acc:List bg) (h':AH) (v tt:AV),i+1≤f→(G.has i=true→acc.length+i.toNat<200)→Acc h h' tN v (acc.map aB)→ab h h'→
  ∃ h'' v' i' t,ap (ai Tryz.prog po) 5 [.lp iG,.ss [],.blk 0,.ss rest] [.ptr b 0 0,.int .i64 i,.nils,v,tt] [] h'=ap (ai Tryz.prog po) 5 [.ss rest] [.ptr b 0 0,i',.nils,v',t] [] h''∧Acc h h'' tN v' ((acc++G.path i).map aB)∧ab h h'':=by
 intro f
 induction f with
 | zero=>
   intro i acc h' v tt hi hf ha hg
   have g':=g.grew hg
   have hh:G.has i=false:=by simp[ae.has];omega
   rw[aC iG.eq_1]
   refine⟨h',v,.int .i64 i,.bool false,?_,by rw[ae.path_no hh,List.append_nil];exact ha,hg⟩
   simp only[sim,af,reduceAdd,reduceSub,replicate,reduceCtorEq,reduceLeDiff,reduceLT,aa,wR g',hh]
 | succ f ih=>
   intro i acc h' v tt hi hf ha hg
   have g':=g.grew hg
   obtain⟨nv,sv,h1,h2, -⟩:=g'.ex
   rw[aC iG.eq_1]
   cases hh:G.has i
   ·refine⟨h',v,.int .i64 i,.bool false,?_,by rw[ae.path_no hh,List.append_nil];exact ha,hg⟩
    simp only[sim,af,reduceAdd,reduceSub,replicate,reduceCtorEq,reduceLeDiff,reduceLT,aa,wR g',hh]
   ·obtain⟨m,rfl,hm,hm2⟩:=ae.node_nat hh
    have hf:=hf hh
    have hix:=h2.isL.ix .i64 m _ hm2
    obtain⟨v',h2',e1,a1,a2,a3,a4⟩:=jG ha hg (row:=aB (G.nodes.getD m dQ)) rfl (by simp;omega)
    simp only[sim,af,reduceAdd,reduceSub,replicate,reduceCtorEq,reduceLeDiff,reduceLT,aa,wR g',hh,h1,hix,e1,a3,ed]
    have ok:=hW.get hh
    have hp:=ok.p1
    have hp0:=ok.p0
    simp only[Int.toNat_natCast]at hp hp0 hf
    obtain⟨h'',w',i',t,r1,r2,r3⟩:=ih (G.nodes.getD m dQ).parent (acc++[G.nodes.getD m dQ]) h2' v' (.bool true) (by omega) (by
     intro hpp
     have:=ae.has_nn hpp
     simp only[List.length_append,List.length_singleton]
     omega) (by simpa using a1) a2
    refine⟨h'',w',i',t,r1,?_,r3⟩
    rw[ae.path_yes hW hh]
    simpa using r2
theorem ae.path_few {G:ae} (hW:G.Wf) (i:Int):(G.path i).length≤81:=by
 have key:∀ (f:Nat) (i:Int),(G.pathF f i).length≤f:=by
  intro f
  induction f with
  | zero=>intro i;simp[ae.pathF]
  | succ f ih=>
    intro i
    unfold ae.pathF
    split
    ·have:=ih (G.nodes.getD i.toNat dQ).parent
     rw[List.length_cons]
     omega
    ·simp
 by_cases hh:G.has i=true
 ·have:=key (i.toNat+1) i
  simp[ae.has]at hh
  have:=hW.few
  unfold ae.path
  omega
 ·rw[ae.path_no (by simpa using hh)]
  simp
theorem lJ (l:List bg):∀ r∈l.map aB,r.all ka=true:=by
 intro r hr
 obtain⟨n,_,rfl⟩:=List.mem_map.1 hr
 rfl
theorem Cs (l:List Int):∀ r∈l.map (fun x=>[AV.int .i64 x]),r.all ka=true:=by
 intro r hr
 obtain⟨n,_,rfl⟩:=List.mem_map.1 hr
 rfl
theorem yK (g:IsG h F J b G) (hW:G.Wf) (i:Int):ai Tryz.prog po 158 [.ptr b 0 0,.int .i64 i] h=some (.inl (fI tN ((G.path i).map aB)),h):=by
 refine ag Eu rfl ?_;unfold wT
 obtain⟨h'',v',i',t,r1,r2,r3⟩:=zT g hW [.ops [(.i .l (.mv (.v 3))),(.i (.v 2) (.mv (.l 0)))],.ret] (i+1).toNat i [] h .nils .junk (by omega) (by
  intro hh
  have:=hW.few
  simp[ae.has]at hh
  simp;omega) (gS _ _ _) (ab.refl h)
 simp only[sim,af,reduceAdd,reduceSub,replicate,reduceCtorEq,reduceLeDiff,reduceLT,aa,r1,az r3 (uP r2 (lJ _))]
end
def nK:List RS:=[(.ops [(.i (.v 1) (.mv (.c (.bool false))))]),(.ops [(.i .l (.mv (.v 0))),(.i .l (.bin (.int .i64) .geq (.l 0) (.c (.int .i64 0)))),(.i .l (.mv (.l 0))),(.g (.l 0) true .l (.mv (.v 0))),(.g (.l 1) true .l (.bin (.int .i64) .leq (.l 0) (.c (.int .i64 15)))),(.i .l (.pick (.l 2) (.l 0) (.c (.bool false)))),(.i (.v 1) (.mv (.l 0)))]),.ret]
theorem sJ:FnR Tryz.prog po 120 1 2 [0,2] nK [(.v 1)] true:=⟨_,_,Tryz.func120,rfl,rfl,by kernel_rfl,by kernel_rfl,by kernel_rfl,by kernel_rfl,by kernel_rfl⟩
def xz:List RS:=[(.ops [(.i (.v 2) (.mv (.c (.int .i64 0))))]),(.ops [(.i .l (.mv (.v 0))),(.i .l (.mv (.v 1))),(.i .l (.bin (.int .i64) .and (.l 1) (.l 0))),(.i (.v 2) (.mv (.l 0)))]),.ret]
theorem Er:FnR Tryz.prog po 160 2 3 [0,1,4] xz [(.v 2)] true:=⟨_,_,Tryz.func160,rfl,rfl,by kernel_rfl,by kernel_rfl,by kernel_rfl,by kernel_rfl,by kernel_rfl⟩
section
variable {h:AH} {F J:Nat→Prop} {b:Nat} {G:ae}
theorem Gc (x y:Int):ai Tryz.prog po 160 [.int .i64 x,.int .i64 y] h=some (.inl (.int .i64 (lj x y)),h):=by
 refine ag Er rfl ?_;unfold xz
 simp only[sim,af,reduceAdd,reduceSub,replicate,reduceCtorEq,reduceLeDiff,reduceLT,aa]
 rfl
theorem kQ (x:Int):ai Tryz.prog po 120 [.int .i64 x] h=some (.inl (.bool (hD x)),h):=by
 refine ag sJ rfl ?_;unfold nK
 by_cases h0:0≤x<;>simp only[sim,af,reduceAdd,reduceSub,replicate,reduceCtorEq,reduceLeDiff,reduceLT,aa,h0,hD]
theorem Av (x:Int):ai Tryz.prog po 96 [.int .i64 x] h=some (.inl (.bool (fL x)),h):=by
 refine ag Iu rfl ?_;unfold A8
 by_cases h0:0≤x<;>simp only[sim,af,reduceAdd,reduceSub,replicate,reduceCtorEq,reduceLeDiff,reduceLT,aa,h0,fL]
def ci (G:ae):Bool→Int→List bg→Int
 | _,r,[]=>r
 | first,r,n::l=>if dW G n then 0 else ci G false (lj (if first then 15 else r) n.rights) l
theorem jS (G:ae):∀ (l:List bg) (r:Int),ci G false r l=if l.any (dW G)then 0 else l.foldl (fun r n=>lj r n.rights) r
 | [],r=>rfl
 | n::l,r=>by
   simp only[ci,List.any_cons,List.foldl_cons,Bool.false_eq_true,if_false]
   rw[jS G l]
   by_cases hc:dW G n=true<;>simp[hc]
theorem rR (G:ae) (i:Int):ci G true 0 (G.path i)=G.rights i:=by
 unfold ae.rights
 cases hp:G.path i with
 | nil=>simp[ci]
 | cons n l=>
   simp only[ci,if_true,jS,reduceCtorEq,false_or,List.any_cons,List.foldl_cons]
   cases hc:dW G n<;>simp
theorem tR (g:IsG h F J b G) (v1 p:AV) (P:List bg) (hp:IsL tN p (P.map aB)) (hP:P.length≤1000):∀ (l pre:List bg) (r:Int) (h':AH) (v4 v5 t1 t2 t3:AV),P=pre++l→ab h h'→
  cFR true [.v 2] h (ap (ai Tryz.prog po) 12 [.lp eB,.ss [],.blk 0,.ss [.ops [(.i .l (.mv (.v 3))),(.i (.v 2) (.mv (.l 0)))],.ret]] [.ptr b 0 0,v1,.int .i64 0,.int .i64 r,v4,v5,p,.int .i64 P.length,.int .i64 pre.length,t1,t2,t3] [] h')=
   some (.inl (.int .i64 (ci G pre.isEmpty r l)),h):=by
 intro l
 induction l with
 | nil=>
   intro pre r h' v4 v5 t1 t2 t3 e hg
   rw[aC eB.eq_1]
   have:¬ ((pre.length:Int)<(P.length:Int)):=by rw[e];simp
   simp only[sim,af,reduceAdd,reduceSub,replicate,reduceCtorEq,reduceLeDiff,reduceLT,aa,this,ci,az hg (rfl:wkA (.int .i64 r)=_)]
 | cons n l ih=>
   intro pre r h' v4 v5 t1 t2 t3 e hg
   rw[aC eB.eq_1]
   have hlt:(pre.length:Int)<(P.length:Int):=by rw[e];simp;omega
   have hix:=hp.ix .i64 pre.length (aB n) (by rw[e];simp)
   have hg2:ab h (h'.push [aB n]):=hg.trans (ab.push _ _)
   have hw:=w64 (n:=(pre.length:Int)+1) (by omega) (by omega)
   have gO:=KZ (g.grew hg2)
   have hemp:pre.isEmpty=decide ((pre.length:Int)=0):=by cases pre<;>simp<;>omega
   have fin:∀ (r':Int) (v4 v5 t1 t2 t3:AV),cFR true [.v 2] h (ap (ai Tryz.prog po) 12 [.lp eB,.ss [],.blk 0,.ss [.ops [(.i .l (.mv (.v 3))),(.i (.v 2) (.mv (.l 0)))],.ret]] [.ptr b 0 0,v1,.int .i64 0,.int .i64 r',v4,v5,p,.int .i64 P.length,.int .i64 ((pre.length:Int)+1),t1,t2,t3] [] (h'.push [aB n]))=some (.inl (.int .i64 (ci G false r' l)),h):=by
    intro r' v4 v5 t1 t2 t3
    have:=ih (pre++[n]) r' (h'.push [aB n]) v4 v5 t1 t2 t3 (by simp[e]) hg2
    have e1:(pre++[n]).isEmpty=false:=by cases pre<;>rfl
    have e2:((pre++[n]).length:Int)=(pre.length:Int)+1:=by simp
    rw[e1,e2]at this
    exact this
   by_cases h0:0≤n.gate
   ·cases hO:G.isOpen n.gate
    ·have hc:dW G n=true:=by simp[dW,h0,hO]
     simp only[sim,af,reduceAdd,reduceSub,replicate,reduceCtorEq,reduceLeDiff,reduceLT,aa,hlt,hix,ed,h0,gO,hO,ci,hc,az hg2 (rfl:wkA (.int .i64 0)=_)]
    ·have hc:dW G n=false:=by simp[dW,hO]
     cases hz:decide ((pre.length:Int)=0)<;>simp only[sim,af,reduceAdd,reduceSub,replicate,reduceCtorEq,reduceLeDiff,reduceLT,aa,hlt,hix,ed,h0,gO,hO,ci,hc,Gc,hw,hz,hemp,fin]
   ·have hc:dW G n=false:=by simp[dW,h0]
    cases hz:decide ((pre.length:Int)=0)<;>simp only[sim,af,reduceAdd,reduceSub,replicate,reduceCtorEq,reduceLeDiff,reduceLT,aa,hlt,hix,ed,h0,gO,ci,hc,Gc,hw,hz,hemp,fin]
theorem vW (g:IsG h F J b G) (hW:G.Wf) (i:Int):ai Tryz.prog po 145 [.ptr b 0 0,.int .i64 i] h=some (.inl (.int .i64 (G.rights i)),h):=by
 refine ag yp rfl ?_;unfold qM
 have hl:=iJ tN ((G.path i).map aB)
 have hloop:=tR g (.int .i64 i) (fI tN ((G.path i).map aB)) (G.path i) hl (by have:=ae.path_few hW i;omega) (G.path i) [] 0 h .junk .junk .junk .junk .junk rfl (ab.refl h)
 simp only[List.length_nil,Int.natCast_zero,List.isEmpty_nil,rR]at hloop
 simp only[sim,af,reduceAdd,reduceSub,replicate,reduceCtorEq,reduceLeDiff,reduceLT,aa,yK g hW,hl.len,hl.fits,List.length_map]
 exact hloop
theorem yr (id:Option Nat) (rows:List (List AV)) (hf:∀ r∈rows,r.all AV.one=true∧r.all ka=true) (hl:rows.length≤1000):
  ai Tryz.prog po 51 [.isl id tN rows] h=some (.inl (.isl none tN rows),h):=by
 refine ag tx rfl ?_;unfold nu
 have e1:aG false tN (.isl (some h.ids) tN []) (.isl id tN rows) (h.fresh 0)=some (.isl (some h.ids) tN rows,if rows.length=0 then h.fresh 0 else(h.fresh 0).grow h.ids rows.length):=by
  simp only[aG,bS,if_true,Option.bind_some]
  by_cases hz:rows.length=0
  ·simp[hz,kt,List.length_eq_zero_iff.1 hz]
  ·rw[if_neg hz,if_neg hz]
   unfold dU
   rw[if_pos ⟨by omega,by omega,by rw[List.all_eq_true];exact fun r hr=>(hf r hr).1⟩]
   simp[mL]
 have hg:ab h (if rows.length=0 then h.fresh 0 else(h.fresh 0).grow h.ids rows.length):=by
  split
  ·exact ab.fresh h 0
  ·exact(ab.fresh h 0).grow (Nat.le_refl _)
 have hw:wkA (.isl (some h.ids) tN rows)=some (.isl none tN rows):=by
  simp only[wkA,ir fun r hr=>(hf r hr).2,Option.map_some]
 simp only[sim,af,reduceAdd,reduceSub,replicate,reduceCtorEq,reduceLeDiff,reduceLT,aa,e1,az hg hw]
theorem yN:ai Tryz.prog po 51 [.nils] h=some (.inl .nils,h):=by
 refine ag tx rfl ?_;unfold nu
 simp only[sim,af,reduceAdd,reduceSub,replicate,reduceCtorEq,reduceLeDiff,reduceLT,aa]
 exact az (ab.refl h) rfl
theorem Bj (g:IsG h F J b G) (hW:G.Wf):ai Tryz.prog po 15 [.ptr b 0 0] h=some (.inl (fI tN (G.nodes.map aB)),h):=by
 obtain⟨nv,sv,h1,h2, -⟩:=g.ex
 refine ag Dm rfl ?_;unfold sU
 rcases h2 with⟨e1,rfl⟩ | ⟨id,_,e0,_,_,rfl⟩
 ·simp only[sim,af,reduceAdd,reduceSub,replicate,reduceCtorEq,reduceLeDiff,reduceLT,aa,h1,yN]
  rw[e1]
  exact az (ab.refl h) rfl
 ·have hc:=yr (h:=h) (some id) (G.nodes.map aB) (fun r hr=>⟨by obtain⟨n,_,rfl⟩:=List.mem_map.1 hr;rfl,lJ _ r hr⟩) (by have:=hW.few;simp;omega)
  have hw:wkA (.isl none tN (G.nodes.map aB))=some (fI tN (G.nodes.map aB)):=by
   simp only[wkA,ir (lJ _),Option.map_some,fI,if_neg e0]
  simp only[sim,af,reduceAdd,reduceSub,replicate,reduceCtorEq,reduceLeDiff,reduceLT,aa,h1,hc,az (ab.refl h) hw]
theorem GF (g:IsG h F J b G) (hW:G.Wf) (i:Int):ai Tryz.prog po 162 [.ptr b 0 0,.int .i64 i] h=some (.inl (.tup [.agg (aB (G.target i).1),.bool (G.target i).2]),h):=by
 refine ag za rfl ?_;unfold rb
 have hl:=iJ tN ((G.path i).map aB)
 have hw:∀ (n:bg) (x:Bool),wkA (.tup [.agg (aB n),.bool x])=some (.tup [.agg (aB n),.bool x]):=fun n x=>rfl
 have gp:=yK (g.grew (ab.push h [[.int .i64 0,.int .i64 0,.int .i64 0,.int .i64 0,.int .i64 0,.int .i64 0]])) hW
 have hg1:∀ n:bg,ab h (h.push [aB n]):=fun n=>ab.push _ _
 have hd:∀ m:Nat,IntKind.wrap .i64 (m:Int)=m→True:=fun _ _=>trivial
 rcases List.eq_nil_or_concat (G.path i)with hz | ⟨pre,n,hz⟩
 ·have ht:G.target i=(dQ,false):=by simp[ae.target,hz]
  rw[ht]
  have hlen:(G.path i).length=0:=by rw[hz];rfl
  simp only[sim,af,reduceAdd,reduceSub,replicate,reduceCtorEq,reduceLeDiff,reduceLT,aa,gp,hl.len,hl.fits,List.length_map,hlen,Int.natCast_zero]
  exact az (hg1 dQ) (hw dQ false)
 ·rw[List.concat_eq_append]at hz
  have ht:G.target i=(n,true):=by
   unfold ae.target
   rw[hz]
   simp[List.getLastD_eq_getLast?]
  have hx:¬ (((pre.length+1:Nat):Int)=0):=by omega
  have hs:IntKind.wrap .i64 (((pre.length+1:Nat):Int) - 1)=(pre.length:Int):=by rw[w64]<;>(have:=ae.path_few hW i;rw[hz]at this;simp at this;omega)
  have hix:=hl.ix .i64 pre.length (aB n) (by rw[hz];simp)
  rw[ht]
  have hlen:(G.path i).length=pre.length+1:=by rw[hz];simp
  simp only[sim,af,reduceAdd,reduceSub,replicate,reduceCtorEq,reduceLeDiff,reduceLT,aa,gp,hl.len,hl.fits,List.length_map,hlen,hx,hs,hix,ed]
  exact az (hg1 n) (hw n true)
theorem wk (p:AV) (P:List bg) (hp:IsL tN p (P.map aB)) (hP:P.length≤1000) (v0 v1:AV):∀ (l pre:List bg) (h':AH) (v v4 t1 t2:AV),P=pre++l→ab h h'→Acc h h' 3 v ((dH pre).map fun x=>[.int .i64 x])→
  cFR true [.v 2] h (ap (ai Tryz.prog po) 10 [.lp gN,.ss [],.blk 0,.ss [.ops [(.i .l (.mv (.v 3))),(.i (.v 2) (.mv (.l 0)))],.ret]] [v0,v1,.nils,v,v4,p,.int .i64 P.length,.int .i64 pre.length,t1,t2] [] h')=
   some (.inl (fI 3 ((dH P).map fun x=>[.int .i64 x])),h):=by
 intro l
 induction l with
 | nil=>
   intro pre h' v v4 t1 t2 e hg ha
   rw[aC gN.eq_1]
   have hlt:¬ ((pre.length:Int)<(P.length:Int)):=by rw[e];simp
   rw[List.append_nil]at e
   rw[←e]at ha
   simp only[sim,af,reduceAdd,reduceSub,replicate,reduceCtorEq,reduceLeDiff,reduceLT,aa,hlt,az hg (uP ha (Cs _))]
 | cons n l ih=>
   intro pre h' v v4 t1 t2 e hg ha
   rw[aC gN.eq_1]
   have hlt:(pre.length:Int)<(P.length:Int):=by rw[e];simp;omega
   have hix:=hp.ix .i64 pre.length (aB n) (by rw[e];simp)
   have hg2:ab h (h'.push [aB n]):=hg.trans (ab.push _ _)
   have hw:=w64 (n:=(pre.length:Int)+1) (by omega) (by omega)
   have e2:((pre++[n]).length:Int)=(pre.length:Int)+1:=by simp
   have hfew:((dH pre).map fun x=>[AV.int .i64 x]).length≤1000000:=by
    have:=List.length_filter_le (fun n:bg=>decide (0≤n.gate)) pre
    have h2:pre.length≤P.length:=by rw[e];simp
    simp[dH];omega
   by_cases h0:0≤n.gate
   ·have hgo:dH (pre++[n])=dH pre++[n.gate]:=by simp[dH,h0]
    have ha2:Acc h (h'.push [aB n]) 3 v ((dH pre).map fun x=>[.int .i64 x]):=ha
    obtain⟨v',h2',e1,a1,a2,a3,a4⟩:=jG ha2 hg2 (row:=[.int .i64 n.gate]) rfl hfew
    simp only[f8]at e1
    have:=ih (pre++[n]) h2' v' (.ptr h'.n 0 0) (.bool true) (.bool true) (by simp[e]) a2 (by rw[hgo,List.map_append];exact a1)
    rw[e2]at this
    simp only[sim,af,reduceAdd,reduceSub,replicate,reduceCtorEq,reduceLeDiff,reduceLT,aa,hlt,hix,ed,h0,hw,e1,this]
   ·have hgo:dH (pre++[n])=dH pre:=by simp[dH,h0]
    have ha2:Acc h (h'.push [aB n]) 3 v ((dH pre).map fun x=>[.int .i64 x]):=ha
    have:=ih (pre++[n]) (h'.push [aB n]) v (.ptr h'.n 0 0) (.bool true) (.bool false) (by simp[e]) hg2 (by rw[hgo];exact ha2)
    rw[e2]at this
    simp only[sim,af,reduceAdd,reduceSub,replicate,reduceCtorEq,reduceLeDiff,reduceLT,aa,hlt,hix,ed,h0,hw,this]
theorem Hv (g:IsG h F J b G) (hW:G.Wf) (i:Int):ai Tryz.prog po 150 [.ptr b 0 0,.int .i64 i] h=some (.inl (fI 3 ((G.gatesC i).map fun x=>[.int .i64 x])),h):=by
 refine ag Ce rfl ?_;unfold sL
 have hl:=iJ tN ((G.path i).map aB)
 have hloop:=wk (h:=h) (fI tN ((G.path i).map aB)) (G.path i) hl (by have:=ae.path_few hW i;omega) (.ptr b 0 0) (.int .i64 i) (G.path i) [] h .nils .junk .junk .junk rfl (ab.refl h) (gS _ _ _)
 simp only[List.length_nil,Int.natCast_zero]at hloop
 simp only[sim,af,reduceAdd,reduceSub,replicate,reduceCtorEq,reduceLeDiff,reduceLT,aa,yK g hW,hl.len,hl.fits,List.length_map]
 exact hloop
end
open Go.ChangeShapes Go.WideShapes Go.ChangeAt Go.RowKit Go.Deep Go.Joins
open Go.ChangeMaps (open_string shut_string)
theorem own:ownKnob Tryz.prog.godebug=none:=by kernel_rfl
theorem HX:laidOutB Tryz.prog=true:=by kernel_rfl
section
variable {H:Type} {enc:TypeId×Value→H} {P:Program} {W W':World}
theorem lg (hl:laidOutB P=true):∀ {ts:List TypeId} {vs:List Value} {ds:List (DataW H)} {p:List MemPlace},
  DataW.TrodAll enc P W 0 (fun _=>true) true ts vs ds p→(∀ t∈ts,P.readableRec t=true∧t<P.types.size)→Below W.heap.size W W'→(∀ x∈p,x.block<W.heap.size)→
  DataW.TrodAll enc P W' 0 (fun b=>decide (b<W.heap.size)) true ts vs ds p
 | [],[],[],p,h,_,_,_=>h
 | t::ts,v::vs,d::ds,p,h,ht,hb,hp=>by
   obtain⟨p1,q1,h1,h2,rfl⟩:=h
   obtain⟨hr,hs⟩:=ht t (by simp)
   exact⟨p1,q1,Below.trod hl hr hs h1 hb (fun x hx=>hp x (by simp[hx])),lg hl h2 (fun t' h'=>ht t' (by simp[h'])) hb (fun x hx=>hp x (by simp[hx])),rfl⟩
 | [],_::_,_,_,h,_,_,_=>by simp[DataW.TrodAll]at h
 | _::_,[],_,_,h,_,_,_=>by simp[DataW.TrodAll]at h
 | _::_,_::_,[],_,h,_,_,_=>by simp[DataW.TrodAll]at h
 | [],[],_::_,_,h,_,_,_=>by simp[DataW.TrodAll]at h
theorem re:∀ {ts:List TypeId} {vs:List Value} {ds:List (DataW H)} {p:List MemPlace},
  DataW.TrodAll enc P W 0 (fun _=>true) true ts vs ds p→∀ x∈p,x.block<W.heap.size
 | [],[],[],p,h,x,hx=>by
   have:p=[]:=h
   subst this
   simp at hx
 | t::ts,v::vs,d::ds,p,h,x,hx=>by
   obtain⟨p1,q1,⟨n,h1⟩,h2,rfl⟩:=h
   rcases List.mem_append.1 hx with hx | hx
   ·exact DataW.trod_lt n _ _ _ h1 x hx
   ·exact re h2 x hx
 | [],_::_,_,_,h,_,_=>by simp[DataW.TrodAll]at h
 | _::_,[],_,_,h,_,_=>by simp[DataW.TrodAll]at h
 | _::_,_::_,[],_,h,_,_=>by simp[DataW.TrodAll]at h
 | [],[],_::_,_,h,_,_=>by simp[DataW.TrodAll]at h
def Law (P:Program) (f:FuncId) (args:Array Value) (W:World):Prop:=
 Calls P f args W fun e W'=>e= .returned (.bool true)∧Below W.heap.size W W'
theorem Fw {f:Func} {s:ChangeSpec} {args:Array Value} {ds gs:List (DataW H)} {before:List MemPlace} {tb:TypeId} (hl:laidOutB P=true) (htb:P.underlying tb=some .bool) (hres:f.resultTypes= #[tb])
  (hv:s.vars=[]) (hparams:∀ t∈f.params.toList,P.readableRec t=true∧t<P.types.size)
  (hs:∀ ds:List (DataW H),ds.length=f.params.size→s.fn H ds={results:=[.lit (.bool true)],args:=ds})
  (hW:DataW.Whole enc P f.params.toList s.vars false W args.toList ds gs before) (hb:Below W.heap.size W W'):
  s.post enc P f false true false false W args (.bool true) W':=by
 have hW0:=hW
 obtain⟨p,q,hA,hV,rfl,hfz,hnd⟩:=hW
 rw[hv]at hV
 obtain⟨rfl,rfl⟩:=trodVars_none hV
 have hlen:ds.length=f.params.size:=by
  have:∀ {ts:List TypeId} {vs:List Value} {ds:List (DataW H)} {p:List MemPlace},DataW.TrodAll enc P W 0 (fun _=>true) true ts vs ds p→ds.length=ts.length:=by
   intro ts
   induction ts with
   | nil=>
     intro vs ds p h
     cases vs<;>cases ds<;>simp[DataW.TrodAll]at h ⊢
   | cons t ts ih=>
     intro vs ds p h
     cases vs<;>cases ds<;>simp[DataW.TrodAll]at h ⊢
     obtain⟨_,_,_,h2,_⟩:=h
     exact ih h2
  simpa using this hA
 have e:=hs (ds++[]) (by simpa using hlen)
 refine⟨ds,[],_,[],p,[],hW0,?_,?_,?_,hb.frame _,fun h=>by cases h⟩
 ·rw[e,hres]
  exact trodAll_mk1 (shut_bool htb _)
 ·rw[e]
  simp only[List.append_nil]
  exact lg hl hA hparams hb (re hA)
 ·rw[e,hv]
  rfl
def BR (z:Int):Prop:= -9223372036854775808≤z∧z≤9223372036854775807
end
open Go Go.RowKit
def h0A:AH:={n:=0,cell:=fun _=>none,ids:=0,hw:=fun _=>0}
def m0A (W:World):Mm:={base:=W.heap.size,blk:=fun _=>0,bt:=fun _=>0,bsz:=fun _=>0,imm:=fun g o=>W.cell? ⟨g,o,none⟩,tg:=fun _=>0,tc:=fun _=>0,te:=fun _=>0,jk:=fun _=>none}
theorem C7 {P:Program} {b:Nat} {w:World} (h:JK P=[]∧JG P=[]):pX P b w:=by
 refine⟨fun q hq=> ?_,fun n hn=> ?_⟩
 ·rw[h.1]at hq
  cases hq
 ·rw[h.2]at hn
  cases hn
theorem wr0 (P:Program) (W:World) (hg:pX P W.heap.size W):WR P (m0A W) h0A W where
 good:=hg
 size:=Nat.le_refl _
 lt:=fun b es hb=>by simp[h0A]at hb
 live:=fun b es hb=>by simp[h0A]at hb
 inj:=fun b b' es es' hb=>by simp[h0A]at hb
 imm:=fun g o v h=>h
 sep:=fun b es hb=>by simp[h0A]at hb
 tip:=fun k hk=>absurd hk (Nat.not_lt_zero _)
 tfree:=fun k hk=>absurd hk (Nat.not_lt_zero _)
 tblk:=fun k hk=>absurd hk (Nat.not_lt_zero _)
 tinj:=fun k k' hk=>absurd hk (Nat.not_lt_zero _)
 jk:=fun g x hj=>by simp[m0A]at hj
theorem Kq {f:FuncId} {avs:List AV} {vs:List Value} {W:World} {h':AH} (hr:ai Tryz.prog po f avs h0A=some (.inl (.bool true),h')) (hv:VRs Tryz.prog (m0A W) h0A avs vs) (hg:pX Tryz.prog W.heap.size W:=by exact C7 ⟨by kernel_rfl,by kernel_rfl⟩):Law Tryz.prog f vs.toArray W:=by
 refine(qd pok hr (m0A W) W vs (wr0 _ W hg) hv).mono fun e W' ⟨m',_,_,hb,hx⟩=> ?_
 obtain⟨u,rfl,hu⟩:=hx
 cases hu
 exact⟨rfl,hb⟩
theorem KA {P:Program} {m:Mm} {h:AH} (s:ByteArray):VR P m h (.str s.data.toList) (.string s):=by
 have:=VR.str (P:=P) (m:=m) (h:=h) s.data.toList
 simpa using this
section
variable {P:Program} {po:Pol} {g:FuncId} {a nv:Nat} {vm:List Nat} {ss:List RS} {rs:List jV} {args:List AV} {h:AH}
theorem yx {p:Bool} {Post:(AV ⊕ AV)×AH→Prop} (hf:FnR P po g a nv vm ss rs p) (ha:args.length=a)
  (H:∀ Q:iC→Prop,(∀ r q,cFR p rs h r=some q→Post q→Q r)→Q (ap (ai P po) nv [.ss ss] (args++replicate (vm.length - args.length) .junk) [] h)):
  ∃ q,ai P po g args h=some q∧Post q:=by
 obtain⟨q,h1,h2⟩:=H (fun r=>∃ q,cFR p rs h r=some q∧Post q) (fun r q h1 h2=>⟨q,h1,h2⟩)
 exact⟨q,ag hf ha h1,h2⟩
theorem zW {v:AV} {R:AH→Prop} (hf:FnR P po g a nv vm ss rs false) (ha:args.length=a)
  (H:∀ Q:iC→Prop,(∀ V h',(ei V h' rs).map eO=some v→R h'→Q (some (.ret,V,h')))→Q (ap (ai P po) nv [.ss ss] (args++replicate (vm.length - args.length) .junk) [] h)):
  ∃ h',ai P po g args h=some (.inl v,h')∧R h':=by
 obtain⟨q,h1,h',rfl,h2⟩:=yx (Post:=fun q=>∃ h',q=(.inl v,h')∧R h') hf ha fun Q hQ=>H Q fun V h' e r=>hQ _ (.inl v,h') (by simp only[jL,e,jB,kl]) ⟨h',rfl,r⟩
 exact⟨h',h1,h2⟩
theorem zH {R:AV→Prop} (hf:FnR P po g a nv vm ss rs true) (ha:args.length=a)
  (H:∀ Q:iC→Prop,(∀ V h' v v',(ei V h' rs).map eO=some v→ab h h'→wkA v=some v'→R v'→Q (some (.ret,V,h')))→Q (ap (ai P po) nv [.ss ss] (args++replicate (vm.length - args.length) .junk) [] h)):
  ∃ v,ai P po g args h=some (.inl v,h)∧R v:=by
 obtain⟨q,h1,v,rfl,h2⟩:=yx (Post:=fun q=>∃ v,q=(.inl v,h)∧R v) hf ha fun Q hQ=>H Q fun V h' v v' e hg w r=>hQ _ (.inl v',h) (by simp only[jL,e,jB];exact az hg w) ⟨v',rfl,r⟩
 exact⟨v,h1,h2⟩
theorem ep {v':AV} (hf:FnR P po g a nv vm ss rs true) (ha:args.length=a)
  (H:∀ Q:iC→Prop,(∀ V h' v,(ei V h' rs).map eO=some v→ab h h'→wkA v=some v'→Q (some (.ret,V,h')))→Q (ap (ai P po) nv [.ss ss] (args++replicate (vm.length - args.length) .junk) [] h)):
  ai P po g args h=some (.inl v',h):=by
 obtain⟨v,h1,rfl⟩:=zH (R:=fun v=>v=v') hf ha fun Q hQ=>H Q fun V h' v e hg w=>hQ V h' v v' e hg w rfl
 exact h1
end
section
variable {P:Program} {po:Pol} {g:FuncId} {a nv:Nat} {vm:List Nat} {ss:List RS} {rs:List jV} {args:List AV} {h:AH}
theorem Eq {Post:(AV ⊕ AV)→AH→Prop} (hf:FnR P po g a nv vm ss rs false) (ha:args.length=a)
  (H:∀ Q:iC→Prop,(∀ V h' v,(ei V h' rs).map eO=some v→Post (.inl v) h'→Q (some (.ret,V,h')))→(∀ V h' v,Post (.inr v) h'→Q (some (.panic v,V,h')))→Q (ap (ai P po) nv [.ss ss] (args++replicate (vm.length - args.length) .junk) [] h)):
  ∃ q h',ai P po g args h=some (q,h')∧Post q h':=by
 obtain⟨⟨q,h'⟩,e,p⟩:=yx (Post:=fun q=>Post q.1 q.2) hf ha fun Q hQ=>H Q (fun V h' v e r=>hQ _ (.inl v,h') (by simp only[jL,e,jB,kl]) r) (fun V h' v r=>hQ _ (.inr v,h') (by simp only[nx,kl]) r)
 exact⟨q,h',e,p⟩
end
theorem fJ {C:sV} {nv:Nat} {b:List RS} {K:List RK} {V:List AV} {h:AH} {Q:iC→Prop} (I:Nat→List AV→AH→Prop) (n:Nat) (h0:I 0 V h)
  (step:∀ i V h,i<n→I i V h→(∀ V' h',I (i+1) V' h'→Q (ap C nv (.lp b::K) V' [] h'))→Q (ap C nv (.lp b::K) V [] h))
  (stop:∀ V h,I n V h→Q (ap C nv (.lp b::K) V [] h)):Q (ap C nv (.lp b::K) V [] h):=by
 have key:∀ (d i:Nat) (V:List AV) (h:AH),i+d=n→I i V h→Q (ap C nv (.lp b::K) V [] h):=by
  intro d
  induction d with
  | zero=>
    intro i V h hi hI
    obtain rfl:i=n:=by omega
    exact stop V h hI
  | succ d ih=>exact fun i V h hi hI=>step i V h (by omega) hI fun V' h' hI'=>ih (i+1) V' h' (by omega) hI'
 exact key n 0 V h (by omega) h0
theorem Kb {a n:Nat} (h:a<n):(a<n+1)=True:=by simp;omega
theorem uk {n:Nat}:(n<n+1)=True:=by simp
theorem Bu {α:Type} (A B:List α) (x y:α) {n:Nat} (hn:n=A.length):(A++x::B).set n y=A++y::B:=by subst hn;simp
theorem AZ {α:Type} (A B:List α) (x:α) {n:Nat} (hn:n=A.length):(A++x::B)[n]? =some x:=by subst hn;simp
theorem iq {α:Type} {l:List α} {i:Nat} {y:α} (h:l[i]? =some y):l.take (i+1)=l.take i++[y]:=by
 rw[List.take_add_one,h]
 rfl
theorem yR {n m:Int} (e:n=m) (h1: -9223372036854775808≤n) (h2:n≤9223372036854775807):IntKind.wrap .i64 n=m:=by rw[←e];exact w64 h1 h2
theorem xS {h0 h:AH} {e:TypeId} {v:AV} {acc:List (List AV)} (ha:Acc h0 h e v acc) (g:ab h0 h) {x:AV} {rows:List (List AV)} (hx:(x= .nils∧rows=[])∨∃ id,x= .isl id e rows) (h1:∀ r∈rows,r.all AV.one=true) (hl:acc.length≤1000000) (hr:rows.length≤1000000):
  ∃ v' h',aG false e v x h=some (v',h')∧Acc h0 h' e v' (acc++rows)∧ab h0 h'∧h'.cell=h.cell∧h'.n=h.n:=by
 have h1':rows.all (·.all AV.one)=true:=by rw[List.all_eq_true];exact h1
 by_cases hz:rows.length=0
 ·have hz':=List.length_eq_zero_iff.1 hz
  subst hz'
  refine⟨v,h,?_,by simpa using ha,g,rfl,rfl⟩
  have hs:kt e v h=some (v,h):=by
   rcases ha with⟨_,rfl⟩ | ⟨id,_,_,_,_,rfl⟩<;>simp[kt]
  rcases hx with⟨rfl,_⟩ | ⟨id,rfl⟩
  ·exact hs
  ·simp[aG,bS,hs]
 ·obtain⟨id2,rfl⟩:∃ id,x= .isl id e rows:=by
   rcases hx with⟨_,rfl⟩ | hx
   ·simp at hz
   ·exact hx
  have e1:aG false e v (.isl id2 e rows) h=dU false e v rows h:=by
   simp only[aG,bS,if_true,Option.bind_some]
   rw[if_neg hz]
  rw[e1]
  unfold dU
  rw[if_pos ⟨by omega,by omega,h1'⟩]
  have hne:rows≠[]:=fun e=>hz (by rw[e];rfl)
  rcases ha with⟨rfl,rfl⟩ | ⟨id,a0,a1,a2,a3,rfl⟩
  ·refine⟨_,_,rfl,.inr ⟨h.ids,by simpa using hne,g.ids,by simp[AH.fresh],by simp[AH.fresh],by simp⟩,g.trans (ab.fresh _ _),rfl,rfl⟩
  ·refine⟨.isl (some id) e (acc++rows),h.grow id (acc.length+rows.length),?_,.inr ⟨id,by simp[a0],a1,a2,by simp[AH.grow],rfl⟩,g.grow a1,rfl,rfl⟩
   simp[a3,hl]
theorem BE (e:TypeId) (rows:List (List AV)):(fI e rows= .nils∧rows=[])∨∃ id,fI e rows= .isl id e rows:=by
 unfold fI
 by_cases hz:rows=[]
 ·exact .inl ⟨by rw[if_pos hz],hz⟩
 ·exact .inr ⟨none,by rw[if_neg hz]⟩
theorem xL (l:List Int):∀ r∈cr l,r.all AV.one=true:=by
 intro r hr
 obtain⟨n,_,rfl⟩:=List.mem_map.1 hr
 rfl
def LG (f:AV) (xs:List AV):Option (FuncId×List AV):=match f with
 | .fn g a c=>some (g,a++xs++c)
 | _=>none
section
variable {C:sV} {nv:Nat} {k:List RK} {V L:List AV} {h:AH} {d:RD} {is:List RI}
theorem tj {f:Arg} {args:List Arg}:aQ V L (.call f args)=LG (arg V L f) (args.map (arg V L)):=by
 simp only[aQ]
 cases arg V L f<;>rfl
theorem BN {g:FuncId} {a c xs:List AV}:LG (.fn g a c) xs=some (g,a++xs++c):=rfl
theorem Bw {g:FuncId} {xs:List AV}:rF C nv d is k V L h (some (g,xs))=rC C nv d is k V L (C g xs h):=rfl
theorem au:(type_of% @yY)∧(type_of% @tj)∧(type_of% @BN)∧(type_of% @Bw):=⟨@yY,@tj,@BN,@Bw⟩
end
def bg.ints (n:bg):List Int:=[n.parent,n.gate,n.rights,n.cell,n.plugin,n.func]
instance:DecidableEq bg:=fun a b=>decidable_of_iff (a.ints=b.ints) ⟨fun e=>by
 cases a
 cases b
 simp[bg.ints]at e
 simp[e],fun e=>by rw[e]⟩
section
variable {h:AH}
theorem HL (n m:bg):cX [.int .i64,.int .i64,.int .i64,.int .i64,.int .i64,.int .i64] (aB n) (aB m)=some (decide (n=m)):=by
 unfold aB
 simp only[cX,if_true,Option.map_some,Bool.and_true]
 congr 1
 rw[Bool.eq_iff_iff]
 simp only[Bool.and_eq_true,beq_iff_eq,decide_eq_true_eq]
 constructor
 ·rintro⟨h1,h2,h3,h4,h5,h6⟩
  cases n
  cases m
  simp_all
 ·rintro rfl
  exact⟨rfl,rfl,rfl,rfl,rfl,rfl⟩
theorem vZ (n m:bg) (kd:Kd) (cy:Bool):je kd (some [.int .i64,.int .i64,.int .i64,.int .i64,.int .i64,.int .i64]) cy .neq (.agg (aB n)) (.agg (aB m))=some (.bool (!decide (n=m))):=by
 simp only[je,Option.bind_some,HL,Option.map_some]
theorem rq (l m:List bg) (v w:AV) (hv:IsL tN v (l.map aB)) (hw:IsL tN w (m.map aB)) (hl:l.length≤1000):∀ (r r' pre pre':List bg) (t1 t2 t3:AV),l=pre++r→m=pre'++r'→pre.length=pre'.length→r.length=r'.length→
  cFR true [.v 2] h (ap (ai Tryz.prog po) 7 [.lp eH,.ss [],.blk 0,.ss [.ops [(.i (.v 2) (.mv (.c (.bool true))))],.ret]] [v,w,.bool false,.int .i64 pre.length,t1,t2,t3] [] h)=some (.inl (.bool (decide (r=r'))),h):=by
 intro r
 induction r with
 | nil=>
   intro r' pre pre' t1 t2 t3 e e' hp hr
   obtain rfl:r'=[]:=List.length_eq_zero_iff.1 hr.symm
   rw[aC eH.eq_1]
   have hlt:¬ ((pre.length:Int)<(l.length:Int)):=by rw[e];simp
   simp only[sim,af,reduceAdd,reduceSub,replicate,reduceCtorEq,reduceLeDiff,reduceLT,aa,hv.len,hv.fits,List.length_map,hlt]
 | cons i r ih=>
   intro r' pre pre' t1 t2 t3 e e' hp hr
   obtain⟨i',r',rfl⟩:∃ i' s,r'=i'::s:=by cases r' with | nil=>simp at hr | cons a s=>exact⟨a,s,rfl⟩
   rw[aC eH.eq_1]
   have hlt:(pre.length:Int)<(l.length:Int):=by rw[e];simp;omega
   have hix:=hv.ix .i64 pre.length (aB i) (by rw[e];simp)
   have hix2:=hw.ix .i64 pre.length (aB i') (by rw[e',hp];simp)
   have hwr:=w64 (n:=(pre.length:Int)+1) (by omega) (by omega)
   have e2:((pre++[i]).length:Int)=(pre.length:Int)+1:=by simp
   cases hd:decide (i=i')
   ·have hc:decide (i::r=i'::r')=false:=by
     have:¬ i=i':=by simpa using hd
     simp[this]
    simp only[sim,af,reduceAdd,reduceSub,replicate,reduceCtorEq,reduceLeDiff,reduceLT,aa,hv.len,hv.fits,List.length_map,hlt,hix,hix2,ed,vZ,hd,hc]
   ·have:=ih r' (pre++[i]) (pre'++[i']) t1 (.bool true) (.bool false) (by simp[e]) (by simp[e']) (by simp[hp]) (by simpa using hr)
    rw[e2]at this
    have hc:decide (i::r=i'::r')=decide (r=r'):=by
     have:i=i':=by simpa using hd
     simp[this]
    simp only[sim,af,reduceAdd,reduceSub,replicate,reduceCtorEq,reduceLeDiff,reduceLT,aa,hv.len,hv.fits,List.length_map,hlt,hix,hix2,ed,vZ,hd,hwr,this,hc]
theorem xc (l m:List bg) (v w:AV) (hv:IsL tN v (l.map aB)) (hw:IsL tN w (m.map aB)) (hl:l.length≤1000):ai Tryz.prog po 14 [v,w] h=some (.inl (.bool (decide (l=m))),h):=by
 refine ag vE rfl ?_;unfold mi
 cases hd:decide ((l.length:Int)=(m.length:Int))
 ·have hne:decide (l=m)=false:=by
   simp at hd ⊢
   intro e
   rw[e]at hd
   exact hd rfl
  simp only[sim,af,reduceAdd,reduceSub,replicate,reduceCtorEq,reduceLeDiff,reduceLT,aa,hv.len,hv.fits,hw.len,hw.fits,List.length_map,hd,hne]
 ·have:=rq (h:=h) l m v w hv hw hl l m [] [] (.bool false) .junk .junk rfl rfl rfl (by simp at hd;omega)
  simp only[List.length_nil,Int.natCast_zero]at this
  simp only[sim,af,reduceAdd,reduceSub,replicate,reduceCtorEq,reduceLeDiff,reduceLT,aa,hv.len,hv.fits,hw.len,hw.fits,List.length_map,hd]
  exact this
end
end Go.Proofs.YtkdbjfncchmmpaaGreat
