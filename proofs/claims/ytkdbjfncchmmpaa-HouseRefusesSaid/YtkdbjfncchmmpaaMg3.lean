/- What simple steps come to: for 'simp only'. What slices lie in memory as. Expressions as trees: how many, how deep, their first fault, the same. No program here. Expressions as cells: what they are. Instructions of an expression; what each jump, name and step of them is. No program here. Values as trees: of how many parts, their first fault, the same, what is in them. No program here. What values lie in memory as. Plain laws on '&', '|' of 64-bit integers, by bit vectors. No program in sight. The graph in plain Lean: what each method answers, and what becomes of the graph. No walk, no program. What a graph lies in memory as. What is handed on, in plain Lean: each capability through gates. No program here. What lies in memory apart from one another: what is said of it. A run in plain Lean: what expressions come to, what instructions do. No program here. What a box lies in memory as; what is asked of its Run. What is chosen for the walks of this part. What was chosen will do. A piece of a function's code in the plain model, behind which the walk goes on by hand. A function that defers one call of its own, which may take back a panic: pieces ahead, the deferred call laid by, the rest; what it comes to is what these come to. The pieces of Run The functions of the part 'graph' as lists of steps. The plain law of RightsDoes: what is reckoned bit by bit is what '&' answers. No walk. The reference's own way of rights, in plain Lean, and that it comes to the same. No walk. Graph and Net in the plain model: what each method that only looks answers. The functions of the part 'rights' as lists of steps. Graph in the plain model: rights, targets, gates, nodes. From what a statement says of its arguments ('they read as data') to what the walks ask; and back. No walk here. From a run in the plain model to what a law asks. Calls and loops in the plain model, told by what must hold behind them; small steps of memory. What compares lists, in the plain model. Graph and Net in the plain model: what turns them. What lies in memory apart from one another, each with the blocks and rows that it owns; steps and calls that turn one of them. -/
import Derived.Test.YtkdbjfncchmmpaaMg2
import Derived.WalkKit
import Derived.Test.YtkdbjfncchmmpaaRows
import Derived.Recover
import Derived.ProofKit
import Derived.OpenShut
import Derived.ShutString
import Derived.ChangeOld
import Derived.Deep.Slices
import Derived.Deep.Fields
import Derived.Lib.SmallJoins
namespace Go.Proofs.Ytkdbjfncchmmpaa
set_option linter.unusedSimpArgs false
set_option linter.unusedVariables false
open Go
section
variable {C:tQ} {nv:Nat} {k:List RK} {V L:List AV} {h h0:AH} {kd:Kd} {q:IntKind}
theorem Kc {a b:Int}:bq kd .add (.int q a) (.int q b)=some (.int q (q.wrap (a+b))):=by simp[bq,kH]
theorem JX {a b:Int}:bq kd .sub (.int q a) (.int q b)=some (.int q (q.wrap (a - b))):=by simp[bq,kH]
theorem Ji {a b:Int}:bq kd .mul (.int q a) (.int q b)=some (.int q (q.wrap (a*b))):=by simp[bq,kH]
theorem Jp {a b:Int}:bq kd .eql (.int q a) (.int q b)=some (.bool (decide (a=b))):=by simp[bq,kH];rfl
theorem Ke {a b:Int}:bq kd .neq (.int q a) (.int q b)=some (.bool (!decide (a=b))):=by simp[bq,kH];rfl
theorem JB {a b:Int}:bq kd .lss (.int q a) (.int q b)=some (.bool (decide (a<b))):=by simp[bq,kH]
theorem JY {a b:Int}:bq kd .leq (.int q a) (.int q b)=some (.bool (decide (a≤b))):=by simp[bq,kH]
theorem JF {a b:Int}:bq kd .gtr (.int q a) (.int q b)=some (.bool (decide (b<a))):=by simp[bq,kH]
theorem JN {a b:Int}:bq kd .geq (.int q a) (.int q b)=some (.bool (decide (b≤a))):=by simp[bq,kH]
theorem Kj {a b:Int}:bq kd .and (.int q a) (.int q b)=some (.int q (q.wrap (BitVec.ofInt q.bits a &&& BitVec.ofInt q.bits b).toNat)):=by simp[bq,kH]
theorem LB {a b:Int}:bq kd .or (.int q a) (.int q b)=some (.int q (q.wrap (BitVec.ofInt q.bits a ||| BitVec.ofInt q.bits b).toNat)):=by simp[bq,kH]
theorem xu {a b:Int}:bq kd .andNot (.int q a) (.int q b)=some (.int q (q.wrap (BitVec.ofInt q.bits a &&& ~~~(BitVec.ofInt q.bits b)).toNat)):=by simp[bq,kH]
theorem GB {a b:List UInt8}:bq kd .eql (.str a) (.str b)=some (.bool (decide (a=b))):=by by_cases hh:a=b<;>simp[bq,hh]
theorem Fz {a b:List UInt8}:bq kd .neq (.str a) (.str b)=some (.bool (!decide (a=b))):=by by_cases hh:a=b<;>simp[bq,hh]
theorem Ge {a b:Bool}:bq .bool .eql (.bool a) (.bool b)=some (.bool (a==b)):=by simp[bq,eqA]
theorem GN {a b:Bool}:bq .bool .neq (.bool a) (.bool b)=some (.bool (!(a==b))):=by simp[bq,eqA]
theorem F8 {z:TypeId} {es:List (List AV)} {i:Option Nat}:bq .slice .eql (.isl i z es) .nils=some (.bool false):=by simp[bq,eqA]
theorem sQ:bq .slice .eql .nils .nils=some (.bool true):=by simp[bq,eqA]
theorem B8 {b o n:Nat} {z:TypeId}:bq .slice .eql (.msl b o n z) .nils=some (.bool false):=by simp[bq,eqA]
theorem J8 {b:Bool}:unA .not (.bool b)=some (.bool !b):=rfl
theorem Jb {a:Int}:unA .neg (.int q a)=some (.int q (q.wrap (0 - a))):=rfl
theorem J7 {p:IntKind} {a:Int}:cvA (.int q) (.int p a)=some (.int q (q.wrap a)):=rfl
theorem Jl {s:List UInt8}:cvA .str (.str s)=some (.str s):=rfl
theorem bC {agg:Bool} {n b i off:Nat}:aD agg n h (.ptr b i off)=((h.cell b).bind (·[i]?)).bind fun e=>ldA agg n e off:=rfl
theorem LK {agg:Bool} {n off:Nat} {e:List AV}:aD agg n h (.ip e off)=ldA agg n e off:=rfl
theorem eY {n off:Nat} {e:List AV}:ldA false n e off=e[off]? :=rfl
theorem bI {n:Nat} {e:List AV} (he:e.length=n):ldA true n e 0=some (.agg e):=by subst he;simp[ldA]
theorem wc {e el:TypeId} {id:Option Nat} {es:List (List AV)} {i:Nat} {r:List AV} (he:e=el) (hi:es[i]? =some r):bQ (some e) none (.isl id el es) (.int q (i:Int))=some (.ip r 0):=by simp[bQ,he,hi]
theorem qO {e el:TypeId} {b o n i:Nat} (he:e=el) (hi:i<n):bQ (some e) none (.msl b o n el) (.int q (i:Int))=some (.ptr b (o+i) 0):=by simp[bQ,he,hi]
theorem Ja {b i o off:Nat}:aK off (.ptr b i o)=some (.ptr b i (o+off)):=rfl
theorem LN {e:List AV} {o off:Nat}:aK off (.ip e o)=some (.ip e (o+off)):=rfl
theorem Js {b i o:Nat}:xY (.ptr b i o)=some (.ptr b i o):=rfl
theorem L9 {e:List AV} {o:Nat}:xY (.ip e o)=some (.ip e o):=rfl
theorem xc:dR .nils=some 0:=rfl
theorem B7 {id:Option Nat} {el:TypeId} {es:List (List AV)}:dR (.isl id el es)=some es.length:=rfl
theorem Bg {b o n:Nat} {el:TypeId}:dR (.msl b o n el)=some n:=rfl
theorem BS {s:List UInt8}:dR (.str s)=some s.length:=rfl
theorem uA {s:Bool} {e:TypeId}:cN s (some e) .nils=true:=rfl
theorem i8 {s:Bool} {e:TypeId} {id:Option Nat} {es:List (List AV)}:cN s (some e) (.isl id e es)=true:=by simp[cN]
theorem i4 {s:Bool} {e:TypeId} {b o n:Nat}:cN s (some e) (.msl b o n e)=true:=by simp[cN]
theorem ye {e:Option TypeId} {l:List UInt8}:cN true e (.str l)=true:=rfl
theorem aP {b:Nat} {es:Option (List (List AV))}:(h.set b es).cell b=es:=by simp[AH.set]
theorem bc {b j:Nat} {es:Option (List (List AV))} (hj:j≠b):(h.set b es).cell j=h.cell j:=by simp[AH.set,hj]
theorem dN {b:Nat} {es:Option (List (List AV))}:(h.set b es).n=h.n:=rfl
theorem kO {b:Nat} {es:Option (List (List AV))}:(h.set b es).ids=h.ids:=rfl
theorem nR {b:Nat} {es:Option (List (List AV))}:(h.set b es).hw=h.hw:=rfl
theorem aE {es:List (List AV)}:(h.push es).cell h.n=some es:=by simp[AH.push]
theorem gH {es:List (List AV)} {j:Nat} (hj:j≠h.n):(h.push es).cell j=h.cell j:=by simp[AH.push,hj]
theorem aM {es:List (List AV)}:(h.push es).n=h.n+1:=rfl
theorem gU {es:List (List AV)}:(h.push es).ids=h.ids:=rfl
theorem AP {es:List (List AV)}:(h.push es).hw=h.hw:=rfl
theorem qX {m:Nat}:(h.fresh m).cell=h.cell:=rfl
theorem Cj {m:Nat}:(h.fresh m).n=h.n:=rfl
theorem nY {m:Nat}:(h.fresh m).ids=h.ids+1:=rfl
theorem kc {m:Nat}:(h.fresh m).hw h.ids=m:=by simp[AH.fresh]
theorem gi {m j:Nat} (hj:j≠h.ids):(h.fresh m).hw j=h.hw j:=by simp[AH.fresh,hj]
theorem tX {i m:Nat}:(h.grow i m).cell=h.cell:=rfl
theorem GT {i m:Nat}:(h.grow i m).n=h.n:=rfl
theorem xD {i m:Nat}:(h.grow i m).ids=h.ids:=rfl
theorem B5 {i m:Nat}:(h.grow i m).hw i=m:=by simp[AH.grow]
theorem qx {i m j:Nat} (hj:j≠i):(h.grow i m).hw j=h.hw j:=by simp[AH.grow,hj]
def Acc (h0 h:AH) (e:TypeId) (v:AV) (acc:List (List AV)):Prop:=(acc=[]∧v= .nils)∨∃ id,acc≠[]∧h0.ids≤id∧id<h.ids∧h.hw id=acc.length∧v= .isl (some id) e acc
theorem kU (h0 h:AH) (e:TypeId):Acc h0 h e .nils []:= .inl ⟨rfl,rfl⟩
theorem mr {e:TypeId} {v:AV} {acc:List (List AV)} (ha:Acc h0 h e v acc) (g:ae h0 h) {row:List AV} (h1:row.all AV.one=true) (hl:acc.length≤1000000):
  ∃ v' h',aH false e v (.isl (some h.ids) e [row]) (h.fresh 1)=some (v',h')∧Acc h0 h' e v' (acc++[row])∧ae h0 h'∧h'.cell=h.cell∧h'.n=h.n:=by
 have g1:ae h0 (h.fresh 1):=g.trans (ae.fresh h 1)
 have h1':∀ x,x∈row→x.one=true:=by simpa using h1
 rcases ha with⟨rfl,rfl⟩ | ⟨id,a0,a1,a2,a3,rfl⟩
 ·refine⟨.isl (some (h.ids+1)) e [row],(h.fresh 1).fresh 1,?_,.inr ⟨h.ids+1,by simp,?_,?_,?_,by simp⟩,g1.trans (ae.fresh _ 1),rfl,rfl⟩
  ·simp only[aH,bH,if_true,Option.bind_some,List.length_singleton,Nat.one_ne_zero,if_false,dX]
   rw[if_pos ⟨by omega,by omega,by simpa using h1'⟩]
   rfl
  ·have:=g.ids;omega
  ·simp[AH.fresh]
  ·simp[AH.fresh]
 ·have hne:id≠h.ids:=by omega
  refine⟨.isl (some id) e (acc++[row]),(h.fresh 1).grow id (acc.length+1),?_,.inr ⟨id,by simp,a1,?_,?_,rfl⟩,g1.grow a1,rfl,rfl⟩
  ·simp only[aH,bH,if_true,Option.bind_some,List.length_singleton,Nat.one_ne_zero,if_false,dX]
   rw[if_pos ⟨by omega,by omega,by simpa using h1'⟩,gi hne,a3]
   simp only[true_and,hl,if_true]
  ·simp[AH.grow,AH.fresh];omega
  ·simp[AH.grow]
def kv:AV→Bool
 | .bool _ | .int _ _ | .str _ | .nilp | .nils | .nilf | .nili=>true
 | _=>false
theorem HK {v:AV} (h:kv v=true):wkA v=some v:=by cases v<;>simp_all [kv,wkA]
theorem wz:∀ {l:List AV},l.all kv=true→wkL l=some l
 | [],_=>rfl
 | v::l,h=>by
   simp only[List.all_cons,Bool.and_eq_true]at h
   simp[wkL,HK h.1,wz h.2]
theorem ie:∀ {l:List (List AV)},(∀ r∈l,r.all kv=true)→wkR l=some l
 | [],_=>rfl
 | v::l,h=>by simp only[wkR,wz (h v (List.mem_cons_self ..)),ie fun r hr=>h r (List.mem_cons_of_mem _ hr)]
def eH (e:TypeId) (es:List (List AV)):AV:=if es=[]then .nils else .isl none e es
theorem yZ {e:TypeId} {v:AV} {acc:List (List AV)} (ha:Acc h0 h e v acc) (hf:∀ r∈acc,r.all kv=true):wkA v=some (eH e acc):=by
 rcases ha with⟨rfl,rfl⟩ | ⟨id,a0,_,a2,a3,rfl⟩
 ·rfl
 ·simp only[wkA,ie hf,Option.map_some,eH,if_neg a0]
structure IsL (e:TypeId) (v:AV) (rows:List (List AV)):Prop where
 len:dR v=some rows.length
 fits:∀ s,cN s (some e) v=true
 ix:∀ (q:IntKind) (i:Nat) row,rows[i]? =some row→bQ (some e) none v (.int q (i:Int))=some (.ip row 0)
theorem mZ (id:Option Nat) (e:TypeId) (rows:List (List AV)):IsL e (.isl id e rows) rows:=⟨rfl,fun s=>i8,fun q i row h=>wc rfl h⟩
theorem qv (e:TypeId):IsL e .nils []:=⟨rfl,fun s=>rfl,fun q i row h=>by simp at h⟩
theorem jJ (e:TypeId) (rows:List (List AV)):IsL e (eH e rows) rows:=by
 unfold eH
 split
 ·rename_i h
  subst h
  exact qv e
 ·exact mZ _ _ _
def gB (w:Bool):AV→Option Bool
 | .bool b=>some (if w then b else !b)
 | .tup _=>some false
 | _=>none
theorem E8 {w:Bool} {vs:List AV}:gB w (.tup vs)=some false:=rfl
theorem K0 {a:Arg} {w:Bool}:lP V L a w=gB w (arg V L a):=by unfold lP gB;cases arg V L a<;>rfl
theorem BP {b w:Bool}:gB w (.bool b)=some (if w=true then b else !b):=rfl
theorem I9 {i id:Nat}:eI id (.blk i::k)=if i=id then some k else eI id k:=rfl
theorem Me {l:List RS} {id:Nat}:eI id (.ss l::k)=eI id k:=rfl
theorem Mt {l:List RS} {id:Nat}:eI id (.lp l::k)=eI id k:=rfl
theorem Jv {l:List RI} {id:Nat}:eI id (.ops l::k)=eI id k:=rfl
theorem BR:eL V h []=some []:=rfl
theorem Ki {j:Nat} {rs:List j9}:eL V h (.v j::rs)=(eL V h rs).map fun l=>V.getD j .junk::l:=rfl
theorem wK {agg:Bool} {n j:Nat} {rs:List j9}:eL V h (.cell agg n j::rs)=(aD agg n h (V.getD j .junk)).bind fun v=>(eL V h rs).map fun l=>v::l:=rfl
theorem Jy:fq []= .tup []:=rfl
theorem Kg {a:AV}:fq [a]=a:=rfl
theorem Jz {a b:AV}:fq [a,b]= .tup [a,b]:=rfl
theorem JL {a b c:AV}:fq [a,b,c]= .tup [a,b,c]:=rfl
theorem FM {a d:AV} {l:List AV}:(a::l).getD 0 d=a:=rfl
theorem FU {a d:AV} {l:List AV} {n:Nat}:(a::l).getD (n+1) d=l.getD n d:=rfl
theorem Je {d:AV} {n:Nat}:([]:List AV).getD n d=d:=rfl
theorem Fq {a b:AV} {l:List AV}:(a::l).set 0 b=b::l:=rfl
theorem GY {a b:AV} {l:List AV} {n:Nat}:(a::l).set (n+1) b=a::l.set n b:=rfl
theorem GC {α:Type} {a:α} {l:List α}:(a::l)[0]? =some a:=rfl
theorem Gb {α:Type} {a:α} {l:List α} {n:Nat}:(a::l)[n+1]? =l[n]? :=rfl
theorem JI {α:Type} {n:Nat}:([]:List α)[n]? =none:=rfl
theorem tD {cs:List AV}:(AV.agg cs).cells=cs:=rfl
theorem ul {n:Int}:(AV.int q n).cells=[.int q n]:=rfl
theorem rW {b:Bool}:(AV.bool b).cells=[.bool b]:=rfl
theorem ui {b:List UInt8}:(AV.str b).cells=[.str b]:=rfl
theorem qn:AV.nils.cells=[.nils]:=rfl
theorem pV:AV.nilp.cells=[.nilp]:=rfl
theorem td {i:Option Nat} {z:TypeId} {es:List (List AV)}:(AV.isl i z es).cells=[.isl i z es]:=rfl
theorem tA {b o n:Nat} {z:TypeId}:(AV.msl b o n z).cells=[.msl b o n z]:=rfl
theorem ur {b o n:Nat}:(AV.ptr b o n).cells=[.ptr b o n]:=rfl
theorem Bw {n:Int}:(AV.int q n).one=true:=rfl
theorem yq {b:Bool}:(AV.bool b).one=true:=rfl
theorem B3 {b:List UInt8}:(AV.str b).one=true:=rfl
theorem wr:AV.nils.one=true:=rfl
theorem yc:AV.nilp.one=true:=rfl
theorem AF {i:Option Nat} {z:TypeId} {es:List (List AV)}:(AV.isl i z es).one=true:=rfl
theorem AZ {b o n:Nat} {z:TypeId}:(AV.msl b o n z).one=true:=rfl
theorem AS {b o n:Nat}:(AV.ptr b o n).one=true:=rfl
theorem ti {t:TypeId} {v:AV}:(AV.iface t v).one=true:=rfl
theorem yH {p:AV→Bool} {a:AV} {l:List AV}:(a::l).all p=(p a && l.all p):=rfl
theorem AN {p:AV→Bool}:([]:List AV).all p=true:=rfl
theorem Cl {vs:List AV} {i:Nat}:KS (.tup vs) i=vs[i]? :=rfl
theorem yl {pl:List (Nat×Nat)} {cs:List AV}:gz pl cs []=some cs:=by cases pl<;>rfl
def f1A (pl:List (Nat×Nat)) (cs:List AV) (v:AV) (r:List (Nat×AV)):Option (Nat×Nat)→Option (List AV)
 | some (off,size)=>if v.cells.length=size∧off+size≤cs.length∧v.cells.all AV.one=true then gz pl (stA cs off v.cells) r else none
 | none=>none
theorem ue {pl:List (Nat×Nat)} {cs:List AV} {i:Nat} {v:AV} {r:List (Nat×AV)}:gz pl cs ((i,v)::r)=f1A pl cs v r pl[i]? :=by
 conv=>lhs;unfold gz
 cases pl[i]? with
 | none=>rfl
 | some q=>rfl
theorem ua {pl:List (Nat×Nat)} {cs:List AV} {off size:Nat} {v:AV} {r:List (Nat×AV)} (h1:v.cells.length=size) (h2:off+size≤cs.length) (h3:v.cells.all AV.one=true):
  f1A pl cs v r (some (off,size))=gz pl (stA cs off v.cells) r:=by simp[f1A,h1,h2,h3]
def s1A (n:Nat) (h:AH) (b i off:Nat) (cs:List AV):Option (List (List AV))→Option AH
 | some es=>(es[i]?).bind fun e=>if cs.all AV.one=true∧cs.length=n∧off+n≤e.length then some (h.set b (some (es.set i (stA e off cs))))else none
 | none=>none
def s2A (n:Nat) (h:AH) (b i off:Nat) (cs:List AV) (es:List (List AV)):Option (List AV)→Option AH
 | some e=>if cs.all AV.one=true∧cs.length=n∧off+n≤e.length then some (h.set b (some (es.set i (stA e off cs))))else none
 | none=>none
theorem s_1 {n b i off:Nat} {x:AV}:aI n h (.ptr b i off) x=s1A n h b i off x.cells (h.cell b):=by
 simp only[aI]
 cases h.cell b<;>rfl
theorem s_2 {n b i off:Nat} {cs:List AV} {es:List (List AV)}:s1A n h b i off cs (some es)=s2A n h b i off cs es es[i]? :=by
 simp only[s1A]
 cases es[i]? <;>rfl
theorem s_3 {n b i off:Nat} {cs:List AV} {es:List (List AV)} {e:List AV} (h1:cs.all AV.one=true) (h2:cs.length=n) (h3:off+n≤e.length):s2A n h b i off cs es (some e)=some (h.set b (some (es.set i (stA e off cs)))):=by simp[s2A,h1,h2,h3]
theorem tY {n:Nat} {es:List (List AV)}:i9 n es []=some es:=by cases es<;>rfl
theorem qV {n:Nat} {es:List (List AV)} {i:Nat} {v:AV} {r:List (Nat×AV)} (h1:v.cells.length=n) (h2:i<es.length) (h3:v.cells.all AV.one=true):i9 n es ((i,v)::r)=i9 n (es.set i v.cells) r:=by
 conv=>lhs;unfold i9
 simp[h1,h2,h3]
theorem FZ {e cs:List AV} (he:e.length=cs.length):stA e 0 cs=cs:=by simp[stA,he]
theorem Ga {e:List AV}:stA e 0 []=e:=by simp[stA]
theorem BM {a c:AV} {e cs:List AV}:stA (a::e) 0 (c::cs)=c::stA e 0 cs:=by simp[stA]
theorem BB {a:AV} {e cs:List AV} {n:Nat}:stA (a::e) (n+1) cs=a::stA e n cs:=by simp[stA,Nat.add_right_comm]
theorem AB {b:Nat} {x y:Option (List (List AV))}:(h.set b x).set b y=h.set b y:=by
 unfold AH.set
 congr 1
 funext j
 by_cases hj:j=b<;>simp[hj]
theorem bw {x y:List (List AV)}:(h.push x).set h.n (some y)=h.push y:=by
 unfold AH.push AH.set
 congr 1
 funext j
 by_cases hj:j=h.n<;>simp[hj]
theorem AI:sC V L h []=True:=rfl
theorem yG {agg:Bool} {n:Nat} {a d:Arg} {r:List RCk}:sC V L h (⟨none,agg,n,a,d⟩::r)=(aD agg n h (arg V L a)=some (arg V L d)∧sC V L h r):=rfl
theorem yh {agg:Bool} {n:Nat} {g a d:Arg} {w:Bool} {r:List RCk}:sC V L h (⟨some (g,w),agg,n,a,d⟩::r)=((match gB w (arg V L g)with | some true=>aD agg n h (arg V L a)=some (arg V L d) | _=>True)∧sC V L h r):=by
 simp only[sC,ot,K0]<;>rfl
theorem nx {b:Bool}:fgA true h (.inl (.bool b),h)=some (.inl (.bool b),h):=aB (ae.refl h) rfl
theorem Es {n:Int}:fgA true h (.inl (.int q n),h)=some (.inl (.int q n),h):=aB (ae.refl h) rfl
theorem EB {n:List UInt8}:fgA true h (.inl (.str n),h)=some (.inl (.str n),h):=aB (ae.refl h) rfl
theorem w64 {n:Int} (h1: -9223372036854775808≤n) (h2:n≤9223372036854775807):IntKind.wrap .i64 n=n:=by
 rw[IntKind.wrap_i64]
 omega
theorem cI {a b:List (List AV)}:((h.push a).push b).cell (h.n+1)=some b:=by simp[AH.push]
theorem jf {a b:List (List AV)}:((h.push a).push b).cell h.n=some a:=by simp[AH.push]
theorem jm {a x y:List (List AV)}:((h.push a).push x).set (h.n+1) (some y)=(h.push a).push y:=bw (h:=h.push a)
theorem eZ {a b c:List (List AV)}:(((h.push a).push b).push c).cell (h.n+1+1)=some c:=by simp[AH.push]
theorem jO {a b c:List (List AV)}:(((h.push a).push b).push c).cell (h.n+1)=some b:=by simp[AH.push]
theorem gE {a b c:List (List AV)}:(((h.push a).push b).push c).cell h.n=some a:=by simp[AH.push,show ¬ h.n=h.n+1+1 by omega]
theorem ug {a b x y:List (List AV)}:(((h.push a).push b).push x).set (h.n+1+1) (some y)=((h.push a).push b).push y:=bw (h:=(h.push a).push b)
theorem aR {es:List (List AV)} {j:Nat} (hj:j<h.n):(h.push es).cell j=h.cell j:=gH (by omega)
theorem aG {b b':List RS} (hb:b=b'):aq C nv (.lp b::k) V L h=aq C nv (.ss b':: .lp b::k) (aa nv V) L h:=by subst hb;exact MF
theorem DT {agg:Bool} {n b:Nat} {t:TypeId}:aD agg n h (.tptr t b)=((h.cell b).bind (·[0]?)).bind fun e=>ldA agg n e 0:=rfl
theorem Bt {t:TypeId} {b:Nat}:aK 0 (.tptr t b)=some (.tptr t b):=rfl
theorem AT {t:TypeId} {b:Nat}:aK 1 (.tptr t b)=some (.ptr b 0 1):=rfl
theorem Cf {t:TypeId} {b:Nat}:aK 2 (.tptr t b)=some (.ptr b 0 2):=rfl
theorem Bu {t:TypeId} {b:Nat}:aK 3 (.tptr t b)=some (.ptr b 0 3):=rfl
theorem FO {t:TypeId} {b:Nat}:xY (.tptr t b)=some (.tptr t b):=rfl
theorem Ma {n b:Nat} {t:TypeId} {x:AV}:aI n h (.tptr t b) x=s1A n h b 0 0 x.cells (h.cell b):=by
 simp only[aI]
 cases h.cell b<;>rfl
theorem pJ {t:TypeId} {b:Nat}:(AV.tptr t b).cells=[.tptr t b]:=rfl
theorem xS {t:TypeId} {b:Nat}:(AV.tptr t b).one=true:=rfl
theorem Gh {a b:Int}:mmA false (.int q a) (.int q b)=some (.int q (if b<a then b else a)):=rfl
theorem Fy {a b:Int}:mmA true (.int q a) (.int q b)=some (.int q (if b>a then b else a)):=rfl
theorem Jr {a b:Int}:bq kd .rem (.int q a) (.int q b)=if b=0 then none else some (.int q (a.tmod b)):=by simp[bq,kH]
theorem GA {b i o:Nat}:bq .ptr .eql (.ptr b i o) .nilp=some (.bool false):=by simp[bq,eqA]
theorem Ba {t:TypeId} {b:Nat}:bq .ptr .eql (.tptr t b) .nilp=some (.bool false):=by simp[bq,eqA]
theorem JU:bq .ptr .eql .nilp .nilp=some (.bool true):=by simp[bq,eqA]
theorem AA {b i o:Nat}:bq .ptr .neq (.ptr b i o) .nilp=some (.bool true):=by simp[bq,eqA]
theorem wG {t:TypeId} {b:Nat}:bq .ptr .neq (.tptr t b) .nilp=some (.bool true):=by simp[bq,eqA]
theorem FN:bq .ptr .neq .nilp .nilp=some (.bool false):=by simp[bq,eqA]
theorem E1 {t:TypeId} {v:AV} {ks:Option (List Kd)} {cy:Bool}:ka .iface ks cy .neq (.iface t v) .nili=some (.bool true):=by simp[ka,bq,eqA]
theorem JM {ks:Option (List Kd)}:ka .iface ks true .neq .nili .nili=some (.bool false):=by simp[ka,Li]
theorem Ch {t:TypeId} {v:AV} {ks:Option (List Kd)} {cy:Bool}:ka .iface ks cy .eql (.iface t v) .nili=some (.bool false):=by simp[ka,bq,eqA]
theorem Ej {ks:Option (List Kd)}:ka .iface ks true .eql .nili .nili=some (.bool true):=by simp[ka,Li]
theorem ag:(type_of% @List.length_cons.{0})∧(type_of% @List.length_nil.{0})∧(type_of% @List.cons_append.{0})∧(type_of% @List.nil_append.{0})∧(type_of% @List.map_cons.{0,0})∧(type_of% @List.map_nil.{0,0})∧(type_of% @Option.bind_some.{0,0})∧(type_of% @Option.map_some.{0,0})∧(type_of% @Option.bind_none.{0,0})∧(type_of% @Option.map_none.{0,0})∧(type_of% @if_true.{1})∧(type_of% @if_false.{1})∧(type_of% @decide_true)∧(type_of% @decide_false)∧(type_of% @Bool.false_eq_true)∧(type_of% @Bool.true_eq_false)∧(type_of% @Bool.not_true)∧(type_of% @Bool.not_false)∧(type_of% @Bool.and_true)∧(type_of% @Bool.true_and)∧(type_of% @Bool.and_false)∧(type_of% @Bool.false_and)∧(type_of% @Bool.or_true)∧(type_of% @Bool.true_or)∧(type_of% @Bool.or_false)∧(type_of% @Bool.false_or)∧(type_of% @true_and)∧(type_of% @and_true)∧(type_of% @false_and)∧(type_of% @and_false)∧(type_of% @List.take_zero.{0})∧(type_of% @List.take_succ_cons.{0})∧(type_of% @List.drop_zero.{0})∧(type_of% @List.drop_succ_cons.{0})∧(type_of% @List.take_nil.{0})∧(type_of% @List.drop_nil.{0})∧(type_of% @List.set_cons_zero.{0})∧(type_of% @List.set_cons_succ.{0})∧(type_of% @Nat.zero_add)∧(type_of% @Nat.lt_add_one)∧(type_of% @Nat.le_refl)∧(type_of% @Int.toNat_natCast):=
 ⟨@List.length_cons.{0},@List.length_nil.{0},@List.cons_append.{0},@List.nil_append.{0},@List.map_cons.{0,0},@List.map_nil.{0,0},@Option.bind_some.{0,0},@Option.map_some.{0,0},@Option.bind_none.{0,0},@Option.map_none.{0,0},@if_true.{1},@if_false.{1},@decide_true,@decide_false,@Bool.false_eq_true,@Bool.true_eq_false,@Bool.not_true,@Bool.not_false,@Bool.and_true,@Bool.true_and,@Bool.and_false,@Bool.false_and,@Bool.or_true,@Bool.true_or,@Bool.or_false,@Bool.false_or,@true_and,@and_true,@false_and,@and_false,@List.take_zero.{0},@List.take_succ_cons.{0},@List.drop_zero.{0},@List.drop_succ_cons.{0},@List.take_nil.{0},@List.drop_nil.{0},@List.set_cons_zero.{0},@List.set_cons_succ.{0},@Nat.zero_add,@Nat.lt_add_one,@Nat.le_refl,@Int.toNat_natCast⟩
theorem sim:(type_of% @Jo)∧(type_of% @wZ)∧(type_of% @D8)∧(type_of% @Fb)∧(type_of% @vT)∧(type_of% @zo)∧(type_of% @FT)∧(type_of% @Jf)∧(type_of% @Jk)∧(type_of% @oq)∧(type_of% @Bp)∧(type_of% @r_g)∧(type_of% @FI)∧(type_of% @EF)∧(type_of% @LW)∧(type_of% @ET)∧(type_of% @AU)∧(type_of% @FF)∧(type_of% @Jd)∧(type_of% @Gj)∧(type_of% @Mj)∧(type_of% @EW)∧(type_of% @Jt)∧(type_of% @Jn)∧(type_of% @JE)∧(type_of% @Jm)∧(type_of% @JV)∧(type_of% @I7)∧(type_of% @LI)∧(type_of% @I8)∧(type_of% @Jj)∧(type_of% @JC)∧(type_of% @A9)∧(type_of% @JD)∧(type_of% @E7)∧(type_of% @FJ)∧(type_of% @BX)∧(type_of% @Ka)∧(type_of% @Jc)∧(type_of% @Bj)∧(type_of% @Bk)∧(type_of% @Bz)∧(type_of% @Gt)∧(type_of% @xR)∧(type_of% @BT)∧(type_of% @yf)∧(type_of% @By)∧(type_of% @B1)∧(type_of% @tO)∧(type_of% @jR)∧(type_of% @n7)∧(type_of% @JR)∧(type_of% @Kb)∧(type_of% @Jg)∧(type_of% @D5)∧(type_of% @Ft)∧(type_of% @EN)∧(type_of% @FC)∧(type_of% @Fg)∧(type_of% @D6)∧(type_of% @K0)∧(type_of% @BP)∧(type_of% @E8)∧(type_of% @I9)∧(type_of% @Me)∧(type_of% @Mt)∧(type_of% @Jv)∧(type_of% @BR)∧(type_of% @Ki)∧(type_of% @wK)∧(type_of% @Kg)∧(type_of% @Jz)∧(type_of% @JL)∧(type_of% @Jy)∧(type_of% @kE)∧(type_of% @jF)∧(type_of% @Kc)∧(type_of% @JX)∧(type_of% @Ji)∧(type_of% @Jp)∧(type_of% @Ke)∧(type_of% @JB)∧(type_of% @JY)∧(type_of% @JF)∧(type_of% @JN)∧(type_of% @Kj)∧(type_of% @LB)∧(type_of% @xu)∧(type_of% @GB)∧(type_of% @Fz)∧(type_of% @Ge)∧(type_of% @GN)∧(type_of% @F8)∧(type_of% @sQ)∧(type_of% @B8)∧(type_of% @J8)∧(type_of% @Jb)∧(type_of% @J7)∧(type_of% @Jl)∧(type_of% @bC)∧(type_of% @LK)∧(type_of% @eY)∧(type_of% @Ja)∧(type_of% @LN)∧(type_of% @Js)∧(type_of% @L9)∧(type_of% @xc)∧(type_of% @B7)∧(type_of% @Bg)∧(type_of% @BS)∧(type_of% @uA)∧(type_of% @i8)∧(type_of% @i4)∧(type_of% @ye)∧(type_of% @aP)∧(type_of% @dN)∧(type_of% @kO)∧(type_of% @nR)∧(type_of% @aE)∧(type_of% @aM)∧(type_of% @gU)∧(type_of% @AP)∧(type_of% @qX)∧(type_of% @Cj)∧(type_of% @nY)∧(type_of% @kc)∧(type_of% @tX)∧(type_of% @GT)∧(type_of% @xD)∧(type_of% @B5)∧(type_of% @FM)∧(type_of% @FU)∧(type_of% @Fq)∧(type_of% @GY)∧(type_of% @Je)∧(type_of% @GC)∧(type_of% @Gb)∧(type_of% @JI)∧(type_of% @Br)∧(type_of% @L6)∧(type_of% @s_1)∧(type_of% @s_2)∧(type_of% @s_3)∧(type_of% @tD)∧(type_of% @ul)∧(type_of% @rW)∧(type_of% @ui)∧(type_of% @qn)∧(type_of% @pV)∧(type_of% @td)∧(type_of% @tA)∧(type_of% @ur)∧(type_of% @Bw)∧(type_of% @yq)∧(type_of% @B3)∧(type_of% @wr)∧(type_of% @yc)∧(type_of% @AF)∧(type_of% @AZ)∧(type_of% @AS)∧(type_of% @ti)∧(type_of% @yH)∧(type_of% @AN)∧(type_of% @Cl)∧(type_of% @yl)∧(type_of% @ue)∧(type_of% @ua)∧(type_of% @tY)∧(type_of% @qV)∧(type_of% @FZ)∧(type_of% @Ga)∧(type_of% @BM)∧(type_of% @BB)∧(type_of% @AB)∧(type_of% @bw)∧(type_of% @DU)∧(type_of% @EL)∧(type_of% @xe)∧(type_of% @Mr)∧(type_of% @DT)∧(type_of% @Bt)∧(type_of% @AT)∧(type_of% @Cf)∧(type_of% @Bu)∧(type_of% @FO)∧(type_of% @Ma)∧(type_of% @pJ)∧(type_of% @xS)∧(type_of% @Gh)∧(type_of% @Fy)∧(type_of% @Jr)∧(type_of% @GA)∧(type_of% @Ba)∧(type_of% @JU)∧(type_of% @AA)∧(type_of% @wG)∧(type_of% @FN)∧(type_of% @E1)∧(type_of% @JM)∧(type_of% @Ch)∧(type_of% @Ej)∧(type_of% @AI)∧(type_of% @yG)∧(type_of% @yh)∧(type_of% @nx)∧(type_of% @Es)∧(type_of% @EB)∧(type_of% @bI)∧(type_of% @cI)∧(type_of% @jf)∧(type_of% @jm)∧(type_of% @eZ)∧(type_of% @jO)∧(type_of% @gE)∧(type_of% @ug):=
 ⟨@Jo,@wZ,@D8,@Fb,@vT,@zo,@FT,@Jf,@Jk,@oq,@Bp,@r_g,@FI,@EF,@LW,@ET,@AU,@FF,@Jd,@Gj,@Mj,@EW,@Jt,@Jn,@JE,@Jm,@JV,@I7,@LI,@I8,@Jj,@JC,@A9,@JD,@E7,@FJ,@BX,@Ka,@Jc,@Bj,@Bk,@Bz,@Gt,@xR,@BT,@yf,@By,@B1,@tO,@jR,@n7,@JR,@Kb,@Jg,@D5,@Ft,@EN,@FC,@Fg,@D6,@K0,@BP,@E8,@I9,@Me,@Mt,@Jv,@BR,@Ki,@wK,@Kg,@Jz,@JL,@Jy,@kE,@jF,@Kc,@JX,@Ji,@Jp,@Ke,@JB,@JY,@JF,@JN,@Kj,@LB,@xu,@GB,@Fz,@Ge,@GN,@F8,@sQ,@B8,@J8,@Jb,@J7,@Jl,@bC,@LK,@eY,@Ja,@LN,@Js,@L9,@xc,@B7,@Bg,@BS,@uA,@i8,@i4,@ye,@aP,@dN,@kO,@nR,@aE,@aM,@gU,@AP,@qX,@Cj,@nY,@kc,@tX,@GT,@xD,@B5,@FM,@FU,@Fq,@GY,@Je,@GC,@Gb,@JI,@Br,@L6,@s_1,@s_2,@s_3,@tD,@ul,@rW,@ui,@qn,@pV,@td,@tA,@ur,@Bw,@yq,@B3,@wr,@yc,@AF,@AZ,@AS,@ti,@yH,@AN,@Cl,@yl,@ue,@ua,@tY,@qV,@FZ,@Ga,@BM,@BB,@AB,@bw,@DU,@EL,@xe,@Mr,@DT,@Bt,@AT,@Cf,@Bu,@FO,@Ma,@pJ,@xS,@Gh,@Fy,@Jr,@GA,@Ba,@JU,@AA,@wG,@FN,@E1,@JM,@Ch,@Ej,@AI,@yG,@yh,@nx,@Es,@EB,@bI,@cI,@jf,@jm,@eZ,@jO,@gE,@ug⟩
end
def SlA (e:TypeId) (v:AV) (es:List (List AV)):Prop:=(es=[]∧v= .nils)∨∃ id,v= .isl id e es
abbrev dw (l:List Int):List (List AV):=l.map fun x=>[.int .i64 x]
inductive XD where
 | mk (op k n:Int) (l:List XD)
def XD.op:XD→Int
 | .mk op _ _ _=>op
def XD.k:XD→Int
 | .mk _ k _ _=>k
def XD.n:XD→Int
 | .mk _ _ n _=>n
def XD.l:XD→List XD
 | .mk _ _ _ l=>l
theorem XD.lt_mem {x y:XD} (h:y∈x.l):SizeOf.sizeOf y<SizeOf.sizeOf x:=by
 cases x with
 | mk op k n l=>
   have:=List.sizeOf_lt_of_mem (show y∈l from h)
   simp only[XD.mk.sizeOf_spec]
   omega
mutual
def XD.size:XD→Nat
 | .mk _ _ _ l=>1+aJ l
def aJ:List XD→Nat
 | []=>0
 | x::l=>x.size+aJ l
end
mutual
def XD.depth:XD→Nat
 | .mk _ _ _ l=>ba l
def ba:List XD→Nat
 | []=>0
 | x::l=>max (1+x.depth) (ba l)
end
theorem XD.size_eq (x:XD):x.size=1+aJ x.l:=by cases x;simp[XD.size,XD.l]
theorem XD.depth_eq (x:XD):x.depth=ba x.l:=by cases x;simp[XD.depth,XD.l]
theorem eN:∀ (l l':List XD),aJ (l++l')=aJ l+aJ l'
 | [],l'=>by simp[aJ]
 | x::l,l'=>by simp[aJ,eN l l',Nat.add_assoc]
theorem iz:∀ (l l':List XD),ba (l++l')=max (ba l) (ba l')
 | [],l'=>by simp[ba]
 | x::l,l'=>by simp[ba,iz l l',Nat.max_assoc]
theorem rM (x:XD):aJ [x]=x.size:=by simp[aJ]
theorem xf (x:XD):ba [x]=1+x.depth:=by simp[ba]
theorem XD.size_pos (x:XD):1≤x.size:=by rw[x.size_eq];omega
theorem XD.len_size (x:XD):x.l.length<x.size:=by
 have:∀ l:List XD,l.length≤aJ l:=by
  intro l
  induction l with
  | nil=>simp
  | cons y l ih=>
    have:=y.size_pos
    simp only[aJ,List.length_cons]
    omega
 have:=this x.l
 rw[x.size_eq]
 omega
theorem XD.so_pos (x:XD):1≤SizeOf.sizeOf x:=by
 cases x
 simp only[XD.mk.sizeOf_spec]
 omega
theorem qL {n:Nat}:∀ {l:List XD},ba l≤n↔∀ y∈l,1+y.depth≤n
 | []=>by simp[ba]
 | x::l=>by
   have:=qL (n:=n) (l:=l)
   simp only[ba,List.mem_cons,forall_eq_or_imp,←this]
   omega
theorem EY (x:XD) {left:Int} (h0:0≤left):(!(x.l.any fun y=> !decide ((y.depth:Int)≤left - 1)))=decide ((x.depth:Int)≤left):=by
 obtain⟨n,rfl⟩:∃ n:Nat,left=n:=⟨left.toNat,by omega⟩
 have h:=qL (n:=n) (l:=x.l)
 rw[←x.depth_eq]at h
 by_cases hx:x.depth≤n
 ·have h1:((x.depth:Nat):Int)≤(n:Int):=by omega
  have h2:(x.l.any fun y=> !decide ((y.depth:Int)≤(n:Int) - 1))=false:=by
   rw[List.any_eq_false]
   intro y hy
   have:=h.1 hx y hy
   have h3:(y.depth:Int)≤(n:Int) - 1:=by omega
   simp[h3]
  rw[h2]
  simp[h1]
 ·have h1:¬ ((x.depth:Nat):Int)≤(n:Int):=by omega
  have h2:(x.l.any fun y=> !decide ((y.depth:Int)≤(n:Int) - 1))=true:=by
   cases hb:(x.l.any fun y=> !decide ((y.depth:Int)≤(n:Int) - 1))
   ·exfalso
    apply hx
    apply h.2
    intro y hy
    have:=(List.any_eq_false.1 hb) y hy
    simp at this
    omega
   ·rfl
  rw[h2]
  simp[h1]
def aU (op:Int):Int:=
 if op=1∨op=2∨op=3∨op=4∨op=21 then 0
 else if op=9∨op=10∨op=11∨op=12∨op=13∨op=15∨op=16∨op=17∨op=18∨op=20 then 1
 else if op=5∨op=6∨op=8∨op=14∨op=19 then 2
 else if op=7 then 3 else -1
def iH (nf op k n o:Int):Int:=
 if n≠0∧op≠2 then 5
 else if op=4 then(if k<0∨o≤k then 1 else 0)
 else if op=6 then(if k<1∨5<k then 1 else 0)
 else if op=15 then(if k<0∨15<k then 1 else 0)
 else if op=18 then(if k<0∨nf≤k then 1 else 0)
 else if k≠0 then 5 else 0
def eC (nf op k n:Int) (len:Nat) (o:Int):Int:=
 if aU op<0 then 2 else if(len:Int)≠aU op then 5
 else if iH nf op k n o≠0 then iH nf op k n o
 else if op=5∧o=12 then 3 else 0
mutual
def XD.fault (nf:Int):XD→Int→Int
 | .mk op k n l,o=>if eC nf op k n l.length o≠0 then eC nf op k n l.length o else dD nf op 0 l o
def dD (nf op:Int):Nat→List XD→Int→Int
 | _,[],_=>0
 | i,x::l,o=>if x.fault nf (if op=5∧i=1 then o+1 else o)≠0 then x.fault nf (if op=5∧i=1 then o+1 else o)else dD nf op (i+1) l o
end
def fC (nf:Int) (x:XD):Int:=if 30<x.depth then 4 else if 120<x.size then 3 else x.fault nf 0
def fD (nf:Int):Nat→List XD→Int×Int
 | _,[]=>(0,0)
 | i,x::l=>if fC nf x≠0 then(fC nf x,i)else fD nf (i+1) l
def aZ (l:List XD):Int×Int:=if l.length=0∨6<l.length then(3, -1)else fD l.length 0 l
def fe (l:List XD):Bool:=decide (20<l.length) || l.any fun x=>decide (600<x.size)
abbrev tE:TypeId:=46
mutual
def ExA:XD→List AV→Prop
 | .mk op k n l,r=>∃ v es,r=[.int .i64 op,.int .i64 k,.int .i64 n,v]∧SlA tE v es∧ExL l es
def ExL:List XD→List (List AV)→Prop
 | [],es=>es=[]
 | x::l,es=>∃ r rs,es=r::rs∧ExA x r∧ExL l rs
end
structure aQ where
 op:Int
 k:Int
 n:Int
def gn:List (Nat→List aQ)→Nat→List aQ
 | [],_=>[]
 | f::fs,p=>f p++gn fs (p+(f p).length)
def KG (f0 f1:Nat→List aQ) (p:Nat):List aQ:=⟨100,0,0⟩::(f0 (p+1)++⟨101,0,0⟩::(f1 (p+1+(f0 (p+1)).length+1)++[⟨102,0,0⟩]))
def gy (f0 f1:Nat→List aQ) (p:Nat):Nat:=p+1+(f0 (p+1)).length+1+(f1 (p+1+(f0 (p+1)).length+1)).length+1
def ifC (f0 f1 f2:Nat→List aQ) (p:Nat):List aQ:=
 ⟨100,0,0⟩::(f0 (p+1)++⟨103,(gy f0 f1 p:Nat),0⟩::(f1 (p+1+(f0 (p+1)).length+1)++⟨104,((gy f0 f1 p+(f2 (gy f0 f1 p)).length:Nat):Int),0⟩::f2 (gy f0 f1 p)))
def qS (op k n:Int) (fs:List (Nat→List aQ)) (p:Nat):List aQ:=
 if op=5 then(match fs with | [f0,f1]=>KG f0 f1 p | _=>[])
 else if op=7 then(match fs with | [f0,f1,f2]=>ifC f0 f1 f2 p | _=>[])
 else⟨100,0,0⟩::(gn fs (p+1)++[⟨op,k,n⟩])
mutual
def aw:XD→Nat→List aQ
 | .mk op k n l=>qS op k n (rf l)
def rf:List XD→List (Nat→List aQ)
 | []=>[]
 | x::l=>aw x::rf l
end
theorem Fo (x:XD):aw x=qS x.op x.k x.n (rf x.l):=by cases x;simp only[aw,XD.op,XD.k,XD.n,XD.l]
open Classical in
theorem qR:∀ l:List XD,rf l=l.map aw
 | []=>rfl
 | x::l=>by simp only[rf,List.map_cons,qR l]
theorem gT (x:XD):aw x=qS x.op x.k x.n (x.l.map aw):=by rw[Fo,qR]
theorem qG:∀ (l:List XD) (p:Nat),(∀ y∈l,∀ p,(aw y p).length≤3*y.size)→(gn (l.map aw) p).length≤3*aJ l
 | [],p,_=>by simp[gn]
 | x::l,p,h=>by
   have h1:=h x (by simp) p
   have h2:=qG l (p+(aw x p).length) fun y hy=>h y (by simp[hy])
   simp only[List.map_cons,gn,List.length_append,aJ]
   omega
theorem eo:∀ (N:Nat) (x:XD),SizeOf.sizeOf x≤N→∀ p:Nat,(aw x p).length≤3*x.size:=by
 intro N
 induction N with
 | zero=>intro x hx;have:=x.so_pos;omega
 | succ N ih=>
   intro x hx p
   have hc:∀ y∈x.l,∀ p,(aw y p).length≤3*y.size:=fun y hy=>ih y (by have:=XD.lt_mem hy;omega)
   have hs:=x.size_eq
   rw[gT]
   generalize x.l=l at hc hs
   unfold qS
   split
   ·match l,hc,hs with
    | [],_,_=>simp
    | [a],_,_=>simp
    | [a,b],hc,hs=>
      have h1:=hc a (by simp) (p+1)
      have h2:=hc b (by simp) (p+1+(aw a (p+1)).length+1)
      simp only[aJ]at hs
      simp only[List.map_cons,List.map_nil,KG,List.length_cons,List.length_append,List.length_nil]
      have:=a.size_pos
      omega
    | a::b::c::l,_,_=>simp
   ·split
    ·match l,hc,hs with
     | [],_,_=>simp
     | [a],_,_=>simp
     | [a,b],_,_=>simp
     | [a,b,c],hc,hs=>
       have h1:=hc a (by simp) (p+1)
       have h2:=hc b (by simp) (p+1+(aw a (p+1)).length+1)
       have h3:=hc c (by simp) (gy (aw a) (aw b) p)
       simp only[aJ]at hs
       simp only[List.map_cons,List.map_nil,ifC,List.length_cons,List.length_append]
       omega
     | a::b::c::d::l,_,_=>simp
    ·have:=qG l (p+1) hc
     simp only[List.length_cons,List.length_append,List.length_nil]
     omega
theorem ki {nf o:Int} {x:XD} (h:x.fault nf o=0):0≤aU x.op∧(x.l.length:Int)=aU x.op∧iH nf x.op x.k x.n o=0∧¬ (x.op=5∧o=12)∧dD nf x.op 0 x.l o=0:=by
 cases x with
 | mk op k n l=>
   simp only[XD.fault]at h
   split at h
   ·rename_i h1;exact absurd h h1
   ·rename_i h1
    have h1:eC nf op k n l.length o=0:=by simpa using h1
    unfold eC at h1
    split at h1
    ·cases h1
    ·split at h1
     ·cases h1
     ·split at h1
      ·rename_i h2;exact absurd h1 h2
      ·split at h1
       ·cases h1
       ·rename_i a b c d
        simp only[XD.op,XD.k,XD.n,XD.l]
        exact⟨by omega,by simpa using b,by simpa using c,d,h⟩
theorem ge {nf op o:Int} {i:Nat} {x:XD} {l:List XD} (h:dD nf op i (x::l) o=0):x.fault nf (if op=5∧i=1 then o+1 else o)=0∧dD nf op (i+1) l o=0:=by
 simp only[dD]at h
 generalize x.fault nf (if op=5∧i=1 then o+1 else o)=c at h
 by_cases hc:c=0
 ·exact⟨hc,by simpa[hc]using h⟩
 ·simp[hc]at h
theorem jK {nf op o:Int} (hop:op≠5):∀ {l:List XD} {i:Nat},dD nf op i l o=0→∀ y∈l,y.fault nf o=0
 | [],_,_,y,hy=>by simp at hy
 | x::l,i,h,y,hy=>by
   obtain⟨h1,h2⟩:=ge h
   rw[if_neg (fun h=>hop h.1)]at h1
   rcases List.mem_cons.1 hy with rfl | hy
   ·exact h1
   ·exact jK hop h2 y hy
inductive VD where
 | mk (kind n:Int) (l:List VD)
def VD.kind:VD→Int
 | .mk k _ _=>k
def VD.n:VD→Int
 | .mk _ n _=>n
def VD.l:VD→List VD
 | .mk _ _ l=>l
theorem VD.eta (x:VD):x= .mk x.kind x.n x.l:=by cases x;rfl
theorem VD.lt_mem {x y:VD} (h:y∈x.l):SizeOf.sizeOf y<SizeOf.sizeOf x:=by
 cases x with
 | mk kind n l=>
   have:=List.sizeOf_lt_of_mem (show y∈l from h)
   simp only[VD.mk.sizeOf_spec]
   omega
theorem VD.so_pos (x:VD):1≤SizeOf.sizeOf x:=by
 cases x
 simp only[VD.mk.sizeOf_spec]
 omega
mutual
def VD.size:VD→Nat
 | .mk _ _ l=>1+bA l
def bA:List VD→Nat
 | []=>0
 | x::l=>x.size+bA l
end
theorem VD.size_eq (x:VD):x.size=1+bA x.l:=by cases x;simp[VD.size,VD.l]
theorem fY:∀ (l l':List VD),bA (l++l')=bA l+bA l'
 | [],l'=>by simp[bA]
 | x::l,l'=>by simp[bA,fY l l',Nat.add_assoc]
theorem zT (x:VD):bA [x]=x.size:=by simp[bA]
theorem VD.size_pos (x:VD):1≤x.size:=by rw[x.size_eq];omega
theorem l8:∀ l:List VD,l.length≤bA l
 | []=>by simp
 | y::l=>by
   have:=y.size_pos
   have:=l8 l
   simp only[bA,List.length_cons]
   omega
theorem VD.len_size (x:VD):x.l.length<x.size:=by
 have:=l8 x.l
 rw[x.size_eq]
 omega
theorem VD.size_mem {x y:VD} (h:y∈x.l):y.size<x.size:=by
 have:∀ l:List VD,y∈l→y.size≤bA l:=by
  intro l
  induction l with
  | nil=>intro hm;simp at hm
  | cons z l ih=>
    intro hm
    simp only[bA]
    rcases List.mem_cons.1 hm with rfl | hm
    ·omega
    ·have:=ih hm;omega
 have:=this x.l h
 rw[x.size_eq]
 omega
def g9 (kind:Int):Nat:=if kind=2 then 2 else if kind=3 then 1 else 0
def du (kind n:Int) (len:Nat):Int:=
 if kind<0∨5<kind then 2 else if len≠g9 kind then 5 else if(kind=0∨kind=2)∧n≠0 then 5 else if 3≤kind∧n<0 then 1 else 0
mutual
def VD.fault:VD→Int
 | .mk kind n l=>if du kind n l.length≠0 then du kind n l.length else cT l
def cT:List VD→Int
 | []=>0
 | x::l=>if x.fault≠0 then x.fault else cT l
end
def VD.code (x:VD):Int:=if 40<x.size then 3 else x.fault
theorem VD.fault_eq (x:VD):x.fault=if du x.kind x.n x.l.length≠0 then du x.kind x.n x.l.length else cT x.l:=by
 cases x
 rfl
theorem fE (x:VD) (l:List VD):cT (x::l)=if x.fault≠0 then x.fault else cT l:=rfl
mutual
def kA:VD→VD→Bool
 | .mk k n l,.mk k' n' l'=>decide (k=k') && (decide (n=n') && eF l l')
def eF:List VD→List VD→Bool
 | [],[]=>true
 | x::l,y::l'=>kA x y && eF l l'
 | _,_=>false
end
mutual
theorem jX:∀ x:VD,kA x x=true
 | .mk kind n l=>by simp[kA,iO l]
theorem iO:∀ l:List VD,eF l l=true
 | []=>rfl
 | x::l=>by simp[eF,jX x,iO l]
end
mutual
theorem CK:∀ {x y:VD},kA x y=true→x=y
 | .mk k n l,.mk k' n' l',h=>by
   simp only[kA,Bool.and_eq_true,decide_eq_true_eq]at h
   obtain⟨rfl,rfl,h⟩:=h
   rw[lS h]
theorem lS:∀ {l l':List VD},eF l l'=true→l=l'
 | [],[],_=>rfl
 | x::l,y::l',h=>by
   simp only[eF,Bool.and_eq_true]at h
   rw[CK h.1,lS h.2]
 | [],_::_,h=>by simp[eF]at h
 | _::_,[],h=>by simp[eF]at h
end
theorem CS {l l':List VD} (h:decide ((l.length:Int)=(l'.length:Int))=false):eF l l'=false:=by
 cases hs:eF l l'
 ·rfl
 ·rw[lS hs]at h
  simp at h
theorem DW (x y:VD):kA x y=(decide (x.kind=y.kind) && (decide (x.n=y.n) && eF x.l y.l)):=by
 cases x;cases y
 rfl
mutual
def VD.caps:VD→List Int
 | .mk kind n l=>(if kind=4 then[n]else[])++eE l
def eE:List VD→List Int
 | []=>[]
 | x::l=>x.caps++eE l
end
theorem VD.caps_eq (x:VD):x.caps=(if x.kind=4 then[x.n]else[])++eE x.l:=by
 cases x
 rfl
theorem lJ:∀ (l l':List VD),eE (l++l')=eE l++eE l'
 | [],l'=>by simp[eE]
 | x::l,l'=>by simp[eE,lJ l l',List.append_assoc]
mutual
theorem VD.caps_few:∀ x:VD,x.caps.length≤x.size
 | .mk kind n l=>by
   have:=mc l
   simp only[VD.caps,VD.size,List.length_append]
   split<;>simp<;>omega
theorem mc:∀ l:List VD,(eE l).length≤bA l
 | []=>by simp[eE]
 | x::l=>by
   have:=VD.caps_few x
   have:=mc l
   simp only[eE,bA,List.length_append]
   omega
end
mutual
def VD.gate:VD→Bool
 | .mk kind _ l=>decide (kind=5) || k9 l
def k9:List VD→Bool
 | []=>false
 | x::l=>x.gate || k9 l
end
theorem VD.gate_eq (x:VD):x.gate=(decide (x.kind=5) || k9 x.l):=by
 cases x
 rfl
theorem oU:∀ l:List VD,k9 l=l.any VD.gate
 | []=>rfl
 | x::l=>by simp only[k9,List.any_cons,oU l]
abbrev tV:TypeId:=29
mutual
def VaA:VD→List AV→Prop
 | .mk kind n l,r=>∃ v es,r=[.int .i64 kind,.int .i64 n,v]∧SlA tV v es∧VaL l es
def VaL:List VD→List (List AV)→Prop
 | [],es=>es=[]
 | x::l,es=>∃ r rs,es=r::rs∧VaA x r∧VaL l rs
end
open Go.RowKit
theorem Ah (x:BitVec 64):IntKind.i64.wrap (x.toNat:Int)=x.toInt:=by
 have h:=x.isLt
 rw[BitVec.toInt_eq_toNat_cond,IntKind.wrap_i64]
 split<;>omega
theorem rc (a b:Int):bits .and .i64 a b=(BitVec.ofInt 64 a &&& BitVec.ofInt 64 b).toInt:=Ah _
theorem nj (x:BitVec 64):BitVec.ofInt 64 x.toInt=x:=BitVec.ofInt_toInt
def lF (a b:Int):Int:=bits .and .i64 a b
def C5 (a b:Int):Bool:=lF a b==b
theorem DA (x y:BitVec 64):lF x.toInt y.toInt=(x &&& y).toInt:=by
 unfold lF
 rw[rc,nj,nj]
theorem yd (x y:BitVec 64):C5 x.toInt y.toInt=decide (x &&& y=y):=by
 unfold C5
 rw[DA,Bool.eq_iff_iff,beq_iff_eq,BitVec.toInt_inj,decide_eq_true_eq]
def hD (a:Int):Bool:=decide (0≤a∧a≤15)
def eX (a:Int) (i:Nat):Bool:=bits .and .i64 (a / 2 ^ i) 1==1
open Go.RowKit
structure bi where
 (parent gate rights cell plugin func:Int)
def d9:bi:=⟨0,0,0,0,0,0⟩
structure af where
 nodes:List bi
 shut:List Bool
def af.has (G:af) (n:Int):Bool:=decide (0≤n∧n<G.nodes.length)
def af.hasGate (G:af) (k:Int):Bool:=decide (0≤k∧k<G.shut.length)
def af.isOpen (G:af) (k:Int):Bool:=G.hasGate k && !(G.shut.getD k.toNat false)
def af.gate (G:af):af×Int×Int:=if G.shut.length=20 then(G,0,11)else(⟨G.nodes,G.shut++[false]⟩,G.shut.length,0)
def af.cut (G:af) (k:Int):af×Int:=if G.hasGate k then(⟨G.nodes,G.shut.set k.toNat true⟩,0)else(G,8)
def af.add (G:af) (n:bi):af×Int×Int:=
 if hD n.rights=false then(G,0,1)
 else if n.gate≠ -1∧G.hasGate n.gate=false then(G,0,8)
 else if G.nodes.length=80 then(G,0,11)
 else(⟨G.nodes++[n],G.shut⟩,G.nodes.length,0)
def fP (c:Int):Bool:=decide (0≤c∧c<12)
def so (p f:Int):Bool:=decide (0≤p∧p<4∧0≤f∧f<6)
def af.cellC (G:af) (c r g:Int):af×Int×Int:=if fP c then G.add ⟨-1,g,r,c, -1,0⟩else(G,0,1)
def af.funcC (G:af) (p f r g:Int):af×Int×Int:=if so p f then G.add ⟨-1,g,r,0,p,f⟩else(G,0,1)
def af.derive (G:af) (p r g:Int):af×Int×Int:=if G.has p then G.add ⟨p,g,r,0, -1,0⟩else(G,0,8)
structure OkN (s:Nat) (i:Nat) (n:bi):Prop where
 p0: -1≤n.parent
 p1:n.parent<i
 r:hD n.rights=true
 g:n.gate= -1∨0≤n.gate∧n.gate<s
 t:n.parent= -1→n.plugin= -1∧0≤n.cell∧n.cell<12∧n.func=0∨0≤n.plugin∧n.plugin<4∧0≤n.func∧n.func<6∧n.cell=0
structure af.Wf (G:af):Prop where
 few:G.nodes.length≤80
 gates:G.shut.length≤20
 node:∀ (i:Nat) (n:bi),G.nodes[i]? =some n→OkN G.shut.length i n
theorem OkN.more {s s' i:Nat} {n:bi} (h:OkN s i n) (hs:s≤s'):OkN s' i n:=
 ⟨h.p0,h.p1,h.r,h.g.imp id (fun⟨a,b⟩=>⟨a,by omega⟩),h.t⟩
theorem Ku:af.Wf ⟨[],[]⟩:=⟨by simp,by simp,fun i n h=>by simp at h⟩
theorem af.Wf.gate {G:af} (h:G.Wf):G.gate.1.Wf:=by
 unfold af.gate
 split
 ·exact h
 ·have:=h.gates
  exact⟨h.few,by simp;omega,fun i n hn=>(h.node i n hn).more (by simp)⟩
theorem af.Wf.cut {G:af} (h:G.Wf) (k:Int):(G.cut k).1.Wf:=by
 unfold af.cut
 split
 ·exact⟨h.few,by simpa using h.gates,fun i n hn=>by simpa using h.node i n hn⟩
 ·exact h
theorem af.Wf.add {G:af} (h:G.Wf) {n:bi} (h0: -1≤n.parent) (h1:n.parent<G.nodes.length)
  (ht:n.parent= -1→n.plugin= -1∧0≤n.cell∧n.cell<12∧n.func=0∨0≤n.plugin∧n.plugin<4∧0≤n.func∧n.func<6∧n.cell=0):(G.add n).1.Wf:=by
 unfold af.add
 split
 ·exact h
 ·rename_i hr
  split
  ·exact h
  ·rename_i hg
   split
   ·exact h
   ·have:=h.few
    refine⟨by simp;omega,h.gates,fun i m hm=> ?_⟩
    show OkN G.shut.length i m
    simp only at hm
    by_cases hi:i<G.nodes.length
    ·rw[List.getElem?_append_left hi]at hm
     exact h.node i m hm
    ·rw[List.getElem?_append_right (by omega)]at hm
     have hi0:i - G.nodes.length=0:=by
      have:=(List.getElem?_eq_some_iff.1 hm).1
      simpa using this
     rw[hi0]at hm
     simp at hm
     subst hm
     refine⟨h0,by omega,by simpa using hr,?_,ht⟩
     by_cases e:n.gate= -1
     ·exact .inl e
     ·right
      have hgt:G.hasGate n.gate=true:=by
       cases hh:G.hasGate n.gate
       ·exact absurd ⟨e,hh⟩ hg
       ·rfl
      simpa[af.hasGate]using hgt
theorem af.Wf.cellC {G:af} (h:G.Wf) (c r g:Int):(G.cellC c r g).1.Wf:=by
 unfold af.cellC
 split
 ·rename_i hc
  simp[fP]at hc
  exact h.add (by simp) (by simp;omega) (fun _=> .inl ⟨rfl,hc.1,hc.2,rfl⟩)
 ·exact h
theorem af.Wf.funcC {G:af} (h:G.Wf) (p f r g:Int):(G.funcC p f r g).1.Wf:=by
 unfold af.funcC
 split
 ·rename_i hc
  simp[so]at hc
  exact h.add (by simp) (by simp;omega) (fun _=> .inr ⟨hc.1,hc.2.1,hc.2.2.1,hc.2.2.2,rfl⟩)
 ·exact h
theorem af.Wf.derive {G:af} (h:G.Wf) (p r g:Int):(G.derive p r g).1.Wf:=by
 unfold af.derive
 split
 ·rename_i hc
  simp[af.has]at hc
  exact h.add (by simp;omega) (by simp;omega) (fun e=>by simp at e;omega)
 ·exact h
def af.pathF (G:af):Nat→Int→List bi
 | 0,_=>[]
 | f+1,i=>if G.has i then(G.nodes.getD i.toNat d9)::G.pathF f (G.nodes.getD i.toNat d9).parent else[]
def af.path (G:af) (i:Int):List bi:=G.pathF (i.toNat+1) i
theorem af.Wf.get {G:af} (h:G.Wf) {i:Int} (hi:G.has i=true):OkN G.shut.length i.toNat (G.nodes.getD i.toNat d9):=by
 simp[af.has]at hi
 have hl:i.toNat<G.nodes.length:=by omega
 have e:G.nodes[i.toNat]? =some (G.nodes.getD i.toNat d9):=by simp[List.getD,hl]
 exact h.node _ _ e
theorem af.pathF_more {G:af} (h:G.Wf):∀ (f:Nat) (i:Int),i.toNat<f→G.pathF f i=G.path i:=by
 intro f
 induction f using Nat.strongRecOn with
 | _ f ih=>
   intro i hi
   cases f with
   | zero=>omega
   | succ f=>
     unfold af.path
     by_cases hh:G.has i=true
     ·have ok:=h.get hh
      have hp:=ok.p0
      have hp1:=ok.p1
      have hi0:0≤i:=by simp[af.has]at hh;exact hh.1
      unfold af.pathF
      rw[if_pos hh,if_pos hh]
      congr 1
      generalize (G.nodes.getD i.toNat d9).parent=p at*
      by_cases hpn:p<0
      ·have hno:G.has p=false:=by simp[af.has];omega
       cases f with
       | zero=>cases hn:i.toNat<;>simp[af.pathF,hno]
       | succ f=>cases hn:i.toNat<;>simp[af.pathF,hno]
      ·have e1:=ih f (by omega) p (by omega)
       rw[e1]
       rcases Nat.lt_or_ge i.toNat (f+1)with h2 | h2
       ·have e2:=ih i.toNat (by omega) p (by omega)
        rw[e2]
       ·omega
     ·cases f<;>simp[af.pathF,hh]
theorem af.path_yes {G:af} (h:G.Wf) {i:Int} (hi:G.has i=true):G.path i=(G.nodes.getD i.toNat d9)::G.path (G.nodes.getD i.toNat d9).parent:=by
 have ok:=h.get hi
 have hp1:=ok.p1
 have hp0:=ok.p0
 have hi0:0≤i:=by simp[af.has]at hi;exact hi.1
 rw[af.path,af.pathF,if_pos hi]
 congr 1
 generalize (G.nodes.getD i.toNat d9).parent=p at*
 by_cases hpn:p<0
 ·have hno:G.has p=false:=by simp[af.has];omega
  unfold af.path
  cases i.toNat<;>simp[af.pathF,hno]
 ·exact af.pathF_more h _ _ (by omega)
theorem af.path_no {G:af} {i:Int} (hi:G.has i=false):G.path i=[]:=by
 rw[af.path,af.pathF,hi]
 rfl
def eh (G:af) (n:bi):Bool:=decide (0≤n.gate) && !G.isOpen n.gate
def af.rights (G:af) (i:Int):Int:=if G.path i=[]∨(G.path i).any (eh G)then 0 else(G.path i).foldl (fun r n=>lF r n.rights) 15
def af.target (G:af) (i:Int):bi×Bool:=((G.path i).getLastD d9,!(G.path i).isEmpty)
def dV (l:List bi):List Int:=(l.filter fun n=>decide (0≤n.gate)).map (·.gate)
def af.gatesC (G:af) (i:Int):List Int:=dV (G.path i)
def aC (n:bi):List AV:=[.int .i64 n.parent,.int .i64 n.gate,.int .i64 n.rights,.int .i64 n.cell,.int .i64 n.plugin,.int .i64 n.func]
abbrev tN:TypeId:=103
abbrev tB:TypeId:=4
def nh (h:AH) (J:Nat→Prop) (e:TypeId) (v:AV) (rows:List (List AV)):Prop:=(rows=[]∧v= .nils)∨∃ id,J id∧rows≠[]∧id<h.ids∧h.hw id=rows.length∧v= .isl (some id) e rows
def nC (h:AH) (F:Nat→Prop) (b:Nat) (e:TypeId) (v:AV) (rows:List (List AV)):Prop:=(rows=[]∧v= .nils)∨∃ q,F q∧q≠b∧q<h.n∧h.cell q=some rows∧v= .msl q 0 rows.length e
structure IsG (h:AH) (F J:Nat→Prop) (b:Nat) (G:af):Prop where
 hb:F b∧b<h.n
 lt:(∀ k,F k→k<h.n)∧∀ j,J j→j<h.ids
 ex:∃ nv sv,h.cell b=some [[nv,sv]]∧nh h J tN nv (G.nodes.map aC)∧nC h F b tB sv (G.shut.map fun x=>[.bool x])
structure Chg (F J:Nat→Prop) (h h':AH):Prop where
 n:h.n≤h'.n
 ids:h.ids≤h'.ids
 cell:∀ k,k<h.n→¬ F k→h'.cell k=h.cell k
 hw:∀ j,j<h.ids→¬ J j→h'.hw j=h.hw j
def cK (h:AH) (F J:Nat→Prop) (b:Nat) (h':AH) (G':af):Prop:=
 ∃ F' J',IsG h' F' J' b G'∧Chg F J h h'∧(∀ k,F' k→F k∨h.n≤k)∧(∀ j,J' j→J j∨h.ids≤j)
def i5:List Int→af→Int→af×Int×Int
 | [],G,n=>(G,n,0)
 | k::l,G,n=>if(G.derive n 15 k).2.2≠0 then((G.derive n 15 k).1,0,(G.derive n 15 k).2.2)else i5 l (G.derive n 15 k).1 (G.derive n 15 k).2.1
def ay:VD:= .mk 0 0 []
def cP (ks:List Int) (G:af) (kind n:Int):af×Int×Int:=if kind=4 then i5 ks G n else(G,n,0)
mutual
def dA (ks:List Int):VD→af→af×VD×Int
 | .mk kind n l,G=>
   if(cP ks G kind n).2.2≠0 then((cP ks G kind n).1,ay,(cP ks G kind n).2.2)
   else if(bF ks l (cP ks G kind n).1).2.2≠0 then((bF ks l (cP ks G kind n).1).1,ay,(bF ks l (cP ks G kind n).1).2.2)
   else((bF ks l (cP ks G kind n).1).1,.mk kind (cP ks G kind n).2.1 (bF ks l (cP ks G kind n).1).2.1,0)
def bF (ks:List Int):List VD→af→af×List VD×Int
 | [],G=>(G,[],0)
 | x::l,G=>
   if(dA ks x G).2.2≠0 then((dA ks x G).1,[],(dA ks x G).2.2)
   else((bF ks l (dA ks x G).1).1,(dA ks x G).2.1::(bF ks l (dA ks x G).1).2.1,(bF ks l (dA ks x G).1).2.2)
end
theorem BE (ks:List Int) (x:VD) (G:af):dA ks x G=
  if(cP ks G x.kind x.n).2.2≠0 then((cP ks G x.kind x.n).1,ay,(cP ks G x.kind x.n).2.2)
  else if(bF ks x.l (cP ks G x.kind x.n).1).2.2≠0 then((bF ks x.l (cP ks G x.kind x.n).1).1,ay,(bF ks x.l (cP ks G x.kind x.n).1).2.2)
  else((bF ks x.l (cP ks G x.kind x.n).1).1,.mk x.kind (cP ks G x.kind x.n).2.1 (bF ks x.l (cP ks G x.kind x.n).1).2.1,0):=by
 cases x
 rfl
def qp (G:af) (x:VD):Int:=
 if x.code≠0 then x.code else if x.gate then 9 else if x.caps.any fun n=> !eX (G.rights n) 2 then 9 else 0
def bj (ks:List Int) (G:af) (x:VD):af×VD×Int:=if qp G x≠0 then(G,ay,qp G x)else dA ks x G
theorem BI (ks:List Int):∀ (G:af) (n:Int),G.Wf→(i5 ks G n).1.Wf:=by
 induction ks with
 | nil=>intro G n h;exact h
 | cons k l ih=>
   intro G n h
   simp only[i5]
   split
   ·exact h.derive _ _ _
   ·exact ih _ _ (h.derive _ _ _)
theorem qb {ks:List Int} {G:af} {kind n:Int} (h:G.Wf):(cP ks G kind n).1.Wf:=by
 unfold cP
 split
 ·exact BI ks G n h
 ·exact h
mutual
theorem pk (ks:List Int):∀ (x:VD) (G:af),G.Wf→(dA ks x G).1.Wf
 | .mk kind n l,G,h=>by
   simp only[dA]
   split
   ·exact qb h
   ·split
    ·exact rq ks l _ (qb h)
    ·exact rq ks l _ (qb h)
theorem rq (ks:List Int):∀ (l:List VD) (G:af),G.Wf→(bF ks l G).1.Wf
 | [],G,h=>h
 | x::l,G,h=>by
   simp only[bF]
   split
   ·exact pk ks x G h
   ·exact rq ks l _ (pk ks x G h)
end
theorem qQ {ks:List Int} {G:af} {x:VD} (h:G.Wf):(bj ks G x).1.Wf:=by
 unfold bj
 split
 ·exact h
 ·exact pk ks x G h
theorem Chg.refl (F J:Nat→Prop) (h:AH):Chg F J h h:=⟨Nat.le_refl _,Nat.le_refl _,fun _ _ _=>rfl,fun _ _ _=>rfl⟩
theorem ae.chg {h h':AH} (g:ae h h') (F J:Nat→Prop):Chg F J h h':=⟨g.n,g.ids,fun k hk _=>g.cell k hk,fun j hj _=>g.hw j hj⟩
theorem Chg.trans {F J:Nat→Prop} {a b c:AH} (x:Chg F J a b) (y:Chg F J b c):Chg F J a c:=
 ⟨Nat.le_trans x.n y.n,Nat.le_trans x.ids y.ids,fun k hk hF=>(y.cell k (Nat.lt_of_lt_of_le hk x.n) hF).trans (x.cell k hk hF),fun j hj hJ=>(y.hw j (Nat.lt_of_lt_of_le hj x.ids) hJ).trans (x.hw j hj hJ)⟩
theorem Chg.then {F J F' J':Nat→Prop} {a b c:AH} (x:Chg F J a b) (y:Chg F' J' b c) (hF:∀ k,F' k→F k∨a.n≤k) (hJ:∀ j,J' j→J j∨a.ids≤j):Chg F J a c:=
 ⟨Nat.le_trans x.n y.n,Nat.le_trans x.ids y.ids,
  fun k hk h1=>(y.cell k (Nat.lt_of_lt_of_le hk x.n) fun h2=>by rcases hF k h2 with h | h;exact h1 h;omega).trans (x.cell k hk h1),
  fun j hj h1=>(y.hw j (Nat.lt_of_lt_of_le hj x.ids) fun h2=>by rcases hJ j h2 with h | h;exact h1 h;omega).trans (x.hw j hj h1)⟩
theorem IsG.keep {h h':AH} {F J F2 J2:Nat→Prop} {b:Nat} {G:af} (g:IsG h F J b G) (c:Chg F2 J2 h h') (hF:∀ k,F k→¬ F2 k) (hJ:∀ j,J j→¬ J2 j):IsG h' F J b G:=by
 obtain⟨nv,sv,h1,h2,h3⟩:=g.ex
 refine⟨⟨g.hb.1,Nat.lt_of_lt_of_le g.hb.2 c.n⟩,⟨fun k hk=>Nat.lt_of_lt_of_le (g.lt.1 k hk) c.n,fun j hj=>Nat.lt_of_lt_of_le (g.lt.2 j hj) c.ids⟩,nv,sv,(c.cell b g.hb.2 (hF b g.hb.1)).trans h1,?_,?_⟩
 ·rcases h2 with h2 | ⟨id,a1,a0,a2,a3,a4⟩
  ·exact .inl h2
  ·exact .inr ⟨id,a1,a0,Nat.lt_of_lt_of_le a2 c.ids,(c.hw id a2 (hJ id a1)).trans a3,a4⟩
 ·rcases h3 with h3 | ⟨q,a1,a2,a3,a4,a5⟩
  ·exact .inl h3
  ·exact .inr ⟨q,a1,a2,Nat.lt_of_lt_of_le a3 c.n,(c.cell q a3 (hF q a1)).trans a4,a5⟩
structure Asn where
 A:AH→(Nat→Prop)→(Nat→Prop)→Prop
 lt:∀ {h:AH} {F J:Nat→Prop},A h F J→(∀ k,F k→k<h.n)∧∀ j,J j→j<h.ids
 keep:∀ {h h':AH} {F J X Y:Nat→Prop},A h F J→Chg X Y h h'→(∀ k,F k→¬ X k)→(∀ j,J j→¬ Y j)→A h' F J
def vw (p:Prop):Asn where
 A _ F J:=p∧(∀ k,¬ F k)∧∀ j,¬ J j
 lt:=fun⟨_,a,b⟩=>⟨fun k hk=>absurd hk (a k),fun j hj=>absurd hj (b j)⟩
 keep:=fun h _ _ _=>h
def ai (b:Nat) (es:List (List AV)):Asn where
 A h F J:=(∀ k,F k↔k=b)∧(∀ j,¬ J j)∧b<h.n∧h.cell b=some es
 lt:=fun⟨a,b,c,_⟩=>⟨fun k hk=>by rw[(a k).1 hk];exact c,fun j hj=>absurd hj (b j)⟩
 keep:=fun⟨a,b,c,d⟩ x hF _=>⟨a,b,Nat.lt_of_lt_of_le c x.n,(x.cell _ c (hF _ ((a _).2 rfl))).trans d⟩
def idA (id n:Nat):Asn where
 A h F J:=(∀ k,¬ F k)∧(∀ j,J j↔j=id)∧id<h.ids∧h.hw id=n
 lt:=fun⟨a,b,c,_⟩=>⟨fun k hk=>absurd hk (a k),fun j hj=>by rw[(b j).1 hj];exact c⟩
 keep:=fun⟨a,b,c,d⟩ x _ hJ=>⟨a,b,Nat.lt_of_lt_of_le c x.ids,(x.hw _ c (hJ _ ((b _).2 rfl))).trans d⟩
def dB (X Y:Asn):Asn where
 A h F J:=∃ F1 J1 F2 J2,X.A h F1 J1∧Y.A h F2 J2∧(∀ k,F k↔F1 k∨F2 k)∧(∀ j,J j↔J1 j∨J2 j)∧(∀ k,F1 k→¬ F2 k)∧(∀ j,J1 j→¬ J2 j)
 lt:=fun⟨F1,J1,F2,J2,x,y,hF,hJ,_,_⟩=>⟨fun k hk=>((hF k).1 hk).elim ((X.lt x).1 k) ((Y.lt y).1 k),fun j hj=>((hJ j).1 hj).elim ((X.lt x).2 j) ((Y.lt y).2 j)⟩
 keep:=fun⟨F1,J1,F2,J2,x,y,hF,hJ,dF,dJ⟩ c nF nJ=>
  ⟨F1,J1,F2,J2,X.keep x c (fun k hk=>nF k ((hF k).2 (.inl hk))) (fun j hj=>nJ j ((hJ j).2 (.inl hj))),Y.keep y c (fun k hk=>nF k ((hF k).2 (.inr hk))) (fun j hj=>nJ j ((hJ j).2 (.inr hj))),hF,hJ,dF,dJ⟩
def oF {α:Type} (X:α→Asn):Asn where
 A h F J:=∃ a,(X a).A h F J
 lt:=fun⟨a,x⟩=>(X a).lt x
 keep:=fun⟨a,x⟩ c nF nJ=>⟨a,(X a).keep x c nF nJ⟩
def orA (X Y:Asn):Asn where
 A h F J:=X.A h F J∨Y.A h F J
 lt:=fun h=>h.elim X.lt Y.lt
 keep:=fun h c nF nJ=>h.imp (fun x=>X.keep x c nF nJ) (fun y=>Y.keep y c nF nJ)
def sM (p:Prop) (X:Asn):Asn where
 A h F J:=p∧X.A h F J
 lt:=fun h=>X.lt h.2
 keep:=fun h c nF nJ=>⟨h.1,X.keep h.2 c nF nJ⟩
def bo (b:Nat) (G:af):Asn where
 A h F J:=IsG h F J b G
 lt:=fun g=>g.lt
 keep:=fun g c nF nJ=>g.keep c nF nJ
def aX:List Asn→Asn
 | []=>vw True
 | X::L=>dB X (aX L)
def Did (h:AH) (F J:Nat→Prop) (h':AH) (X:Asn):Prop:=∃ F' J',X.A h' F' J'∧Chg F J h h'∧(∀ k,F' k→F k∨h.n≤k)∧(∀ j,J' j→J j∨h.ids≤j)
structure ff where
 (plugin cell right node:Int)
structure StD where
 G:af
 cells:List Int
 log:List ff
 kept:List VD
 left:Nat
abbrev aL:=List (Option (List XD))
def di:XD:= .mk 0 0 0 []
def ju (n:Int):VD:= .mk 1 n []
def fg (n:Int):VD:= .mk 4 n []
def ci (ms:aL) (p:Int):List XD:=(ms.getD p.toNat none).getD []
def cU (ms:aL) (p k:Int):XD:=(ci ms p).getD k.toNat di
def rK (k a b:Int):Int:=if k=1 then IntKind.wrap .i64 (a+b)else if k=2 then IntKind.wrap .i64 (a - b)else if k=3 then IntKind.wrap .i64 (a*b)else if k=4 then(if a<b then 1 else 0)else if k=5 then(if a=b then 1 else 0)else 0
def StD.ok (S:StD) (v:VD):StD×VD×Int:=(S,v,0)
def StD.no (S:StD) (c:Int):StD×VD×Int:=(S,ay,c)
def StD.tick (S:StD):StD:={S with left:=S.left - 1}
def DF (S:StD) (q:af×Int×Int):StD×VD×Int:=if q.2.2≠0 then({S with G:=q.1}).no q.2.2 else({S with G:=q.1}).ok (fg q.2.1)
def bV (p op k n:Int) (l:List VD) (S:StD):StD×VD×Int:=
 let a:=l.getD 0 ay
 let b:=l.getD 1 ay
 if op=6 then(if a.kind≠1∨b.kind≠1 then S.no 2 else S.ok (ju (rK k a.n b.n)))
 else if op=8 then(if(VD.mk 2 0 [a,b]).code≠0 then S.no 3 else S.ok (.mk 2 0 [a,b]))
 else if op=9 then(if a.kind≠2 then S.no 2 else S.ok (a.l.getD 0 ay))
 else if op=10 then(if a.kind≠2 then S.no 2 else S.ok (a.l.getD 1 ay))
 else if op=11 then(if(VD.mk 3 p [a]).code≠0 then S.no 3 else S.ok (.mk 3 p [a]))
 else if op=12 then(if a.kind≠3 then S.no 2 else if a.n≠p then S.no 10 else S.ok (a.l.getD 0 ay))
 else if op=13 then(if a.kind≠4 then S.no 2 else if eX (S.G.rights a.n) 0=false then S.no 9 else if 0≤(S.G.target a.n).1.plugin then S.no 2
  else({S with log:=S.log++[ff.mk p (S.G.target a.n).1.cell 1 a.n]}).ok (ju (S.cells.getD (S.G.target a.n).1.cell.toNat 0)))
 else if op=14 then(if a.kind≠4∨b.kind≠1 then S.no 2 else if eX (S.G.rights a.n) 1=false then S.no 9 else if 0≤(S.G.target a.n).1.plugin then S.no 2
  else({S with log:=S.log++[ff.mk p (S.G.target a.n).1.cell 2 a.n],cells:=S.cells.set (S.G.target a.n).1.cell.toNat b.n}).ok b)
 else if op=15 then(if a.kind≠4 then S.no 2 else DF S (S.G.derive a.n k (-1)))
 else if op=16 then(if a.kind≠4 then S.no 2 else if S.G.gate.2.2≠0 then({S with G:=S.G.gate.1}).no S.G.gate.2.2
  else match S.G.gate.1.derive a.n 15 S.G.gate.2.1 with
   | (G',m,c)=>if c≠0 then({S with G:=G'}).no c else({S with G:=G'}).ok (.mk 2 0 [fg m,.mk 5 S.G.gate.2.1 []]))
 else if op=17 then(if a.kind≠5 then S.no 2 else({S with G:=(S.G.cut a.n).1}).ok ay)
 else if op=20 then({S with kept:=S.kept.set p.toNat a}).ok (S.kept.getD p.toNat ay)
 else S.no 0
structure xx where
 (plugin func:Int)
 arg:VD
 gates:List Int
def fJ (ms:aL) (v x:VD) (fr:Nat) (S:StD):StD×xx×Int:=
 let t:=(S.G.target v.n).1
 let z:xx:=⟨0,0,ay,[]⟩
 if v.kind≠4 then(S,z,2)else if eX (S.G.rights v.n) 3=false then(S,z,9)else if t.plugin<0 then(S,z,2)
 else if(ms.getD t.plugin.toNat none).isNone∨((ci ms t.plugin).length:Int)≤t.func∨t.func<0 then(S,z,8)
 else if fr=20 then(S,z,4)
 else match bj (S.G.gatesC v.n) S.G x with
  | (G',y,c)=>({S with G:=G'},⟨t.plugin,t.func,y,S.G.gatesC v.n⟩,c)
def gm (gates:List Int) (v:VD) (S:StD):StD×VD×Int:=match bj gates S.G v with
 | (G',y,c)=>if c≠0 then({S with G:=G'}).no c else({S with G:=G'}).ok y
def evL (f:XD→StD→StD×VD×Int):List XD→StD→List VD→StD×List VD×Int
 | [],S,acc=>(S,acc,0)
 | x::l,S,acc=>match f x S with
   | (S',v,c)=>if c≠0 then(S',[],c)else evL f l S' (acc++[v])
def fG (p:Int) (x:XD) (arg:VD) (names:List VD) (S:StD):Option VD:=
 if x.op=1 then some ay else if x.op=2 then some (ju x.n)else if x.op=3 then some arg
 else if x.op=4 then some (names.getD (names.length - 1 - x.k.toNat) ay)else if x.op=21 then some (S.kept.getD p.toNat ay)else none
def ofD (ms:aL):Nat→Int→XD→VD→List VD→Nat→StD→StD×VD×Int
 | 0,_,_,_,_,_,S=>S.no 12
 | N+1,p,x,arg,names,fr,S=>
   if S.left=0 then S.no 12
   else match fG p x arg names S.tick with
   | some v=>S.tick.ok v
   | none=>
     if x.op=5 then(match ofD ms N p (x.l.getD 0 di) arg names fr S.tick with
      | (S',v,c)=>if c≠0 then S'.no c else ofD ms N p (x.l.getD 1 di) arg (names++[v]) fr S')
     else if x.op=7 then(match ofD ms N p (x.l.getD 0 di) arg names fr S.tick with
      | (S',v,c)=>if c≠0 then S'.no c else if v.kind≠1 then S'.no 2 else if v.n≠0 then ofD ms N p (x.l.getD 1 di) arg names fr S' else ofD ms N p (x.l.getD 2 di) arg names fr S')
     else match evL (fun y S=>ofD ms N p y arg names fr S) x.l S.tick []with
      | (S',l,c)=>if c≠0 then S'.no c
        else if x.op=18 then(if fr=20 then S'.no 4 else ofD ms N p (cU ms p x.k) (l.getD 0 ay) [] (fr+1) S')
        else if x.op=19 then(match fJ ms (l.getD 0 ay) (l.getD 1 ay) fr S' with
         | (S2,q,c)=>if c≠0 then S2.no c else match ofD ms N q.plugin (cU ms q.plugin q.func) q.arg [] (fr+1) S2 with
           | (S3,v,c)=>if c≠0 then S3.no c else gm q.gates v S3)
        else bV p x.op x.k x.n l S'
structure FrD where
 (plugin f:Int)
 pc:Nat
 arg:VD
 (stack names:List VD)
 asked:Bool
 gates:List Int
structure MaD where
 S:StD
 top:FrD
 below:List FrD
inductive ij where
 | go (m:MaD)
 | over (S:StD) (v:VD)
 | fail (S:StD) (c:Int)
def np:aQ:=⟨0,0,0⟩
def dM (ms:aL) (p f:Int):List aQ:=aw (cU ms p f) 0++[⟨105,0,0⟩]
def MaD.push (m:MaD) (S:StD) (st:List VD) (v:VD):ij:= .go {m with S:=S,top:={m.top with stack:=st++[v]}}
def MaD.done (m:MaD) (st:List VD) (q:StD×VD×Int):ij:=if q.2.2≠0 then .fail q.1 q.2.2 else m.push q.1 st q.2.1
def MaD.call (m:MaD) (S:StD) (st:List VD) (p f:Int) (arg:VD) (asked:Bool) (gates:List Int):ij:=
 if m.below.length+1=20 then .fail S 4 else .go ⟨S,⟨p,f,0,arg,[],[],asked,gates⟩,m.below++[{m.top with stack:=st}]⟩
def jl (st:List VD) (k:Nat):List VD:=st.drop (st.length - k)
def kx (st:List VD) (k:Nat):List VD:=st.take (st.length - k)
def jP (ms:aL) (m:MaD) (x:aQ):ij:=
 let t:=m.top
 match fG t.plugin (.mk x.op x.k x.n []) t.arg t.names m.S with
 | some v=>m.push m.S t.stack v
 | none=>
   if x.op=18 then m.call m.S (kx t.stack 1) t.plugin x.k ((jl t.stack 1).getD 0 ay) false []
   else if x.op=19 then(match fJ ms ((jl t.stack 2).getD 0 ay) ((jl t.stack 2).getD 1 ay) (m.below.length+1) m.S with
    | (S',q,c)=>if c≠0 then .fail S' c else m.call S' (kx t.stack 2) q.plugin q.func q.arg true q.gates)
   else m.done (kx t.stack (aU x.op).toNat) (bV t.plugin x.op x.k x.n (jl t.stack (aU x.op).toNat) m.S)
def MaD.back (m:MaD):ij:=
 let v:=(jl m.top.stack 1).getD 0 ay
 let q:=if m.top.asked then gm m.top.gates v m.S else m.S.ok v
 if q.2.2≠0 then .fail q.1 q.2.2
 else match m.below.getLast? with
  | none=> .over q.1 q.2.1
  | some t=> .go ⟨q.1,{t with stack:=t.stack++[q.2.1]},m.below.dropLast⟩
def fB (ms:aL) (m0:MaD):ij:=
 let x:=(dM ms m0.top.plugin m0.top.f).getD m0.top.pc np
 let m:MaD:={m0 with top:={m0.top with pc:=m0.top.pc+1}}
 let t:=m.top
 if x.op=100 then(if m.S.left=0 then .fail m.S 12 else .go {m with S:=m.S.tick})
 else if x.op=101 then .go {m with top:={t with stack:=kx t.stack 1,names:=t.names++[(jl t.stack 1).getD 0 ay]}}
 else if x.op=102 then .go {m with top:={t with names:=t.names.dropLast}}
 else if x.op=103 then(let v:=(jl t.stack 1).getD 0 ay
  if v.kind≠1 then .fail m.S 2 else .go {m with top:={t with stack:=kx t.stack 1,pc:=if v.n=0 then x.k.toNat else t.pc}})
 else if x.op=104 then .go {m with top:={t with pc:=x.k.toNat}}
 else if x.op=105 then m.back
 else jP ms m x
theorem mV {α:Type} {c:Prop} [Decidable c] {a b:StD×α} {n:Nat} (h1:a.1.left=n) (h2:b.1.left=n):(if c then a else b).1.left=n:=by split<;>assumption
theorem CZ (S:StD) (q:af×Int×Int):(DF S q).1.left=S.left:=by
 unfold DF
 exact mV rfl rfl
theorem qc (p op k n:Int) (l:List VD) (S:StD):(bV p op k n l S).1.left=S.left:=by
 unfold bV
 repeat' (first | rfl | exact CZ _ _ | refine mV ?_ ?_)
theorem lu (ms:aL) (v x:VD) (fr:Nat) (S:StD):(fJ ms v x fr S).1.left=S.left:=by
 unfold fJ
 repeat' (first | rfl | refine mV ?_ ?_)
theorem qH (gates:List Int) (v:VD) (S:StD):(gm gates v S).1.left=S.left:=by
 unfold gm
 split
 exact mV rfl rfl
theorem mf {f:XD→StD→StD×VD×Int} (hf:∀ x S,(f x S).1.left≤S.left):∀ (l:List XD) (S:StD) (acc:List VD),(evL f l S acc).1.left≤S.left
 | [],S,acc=>Nat.le_refl _
 | x::l,S,acc=>by
   have h1:=hf x S
   rw[evL]
   rcases hq:f x S with⟨S',v,c⟩
   rw[hq]at h1
   simp only at h1 ⊢
   split
   ·exact h1
   ·exact Nat.le_trans (mf hf l S' _) h1
theorem iC (ms:aL):∀ (N:Nat) (p:Int) (x:XD) (arg:VD) (names:List VD) (fr:Nat) (S:StD),(ofD ms N p x arg names fr S).1.left≤S.left
 | 0,p,x,arg,names,fr,S=>Nat.le_refl _
 | N+1,p,x,arg,names,fr,S=>by
   have ih:=iC ms N
   have ht:S.tick.left≤S.left:=Nat.sub_le _ _
   rw[ofD]
   split
   ·exact Nat.le_refl _
   ·split
    ·exact ht
    ·split
     ·have h1:=ih p (x.l.getD 0 di) arg names fr S.tick
      rcases hq:ofD ms N p (x.l.getD 0 di) arg names fr S.tick with⟨S',v,c⟩
      rw[hq]at h1
      simp only at h1 ⊢
      split
      ·exact Nat.le_trans h1 ht
      ·exact Nat.le_trans (ih _ _ _ _ _ _) (Nat.le_trans h1 ht)
     ·split
      ·have h1:=ih p (x.l.getD 0 di) arg names fr S.tick
       rcases hq:ofD ms N p (x.l.getD 0 di) arg names fr S.tick with⟨S',v,c⟩
       rw[hq]at h1
       simp only at h1 ⊢
       split
       ·exact Nat.le_trans h1 ht
       ·split
        ·exact Nat.le_trans h1 ht
        ·split
         ·exact Nat.le_trans (ih _ _ _ _ _ _) (Nat.le_trans h1 ht)
         ·exact Nat.le_trans (ih _ _ _ _ _ _) (Nat.le_trans h1 ht)
      ·have h1:=mf (f:=fun y S=>ofD ms N p y arg names fr S) (fun y S=>ih p y arg names fr S) x.l S.tick []
       rcases hq:evL (fun y S=>ofD ms N p y arg names fr S) x.l S.tick []with⟨S',l,c⟩
       rw[hq]at h1
       simp only at h1 ⊢
       split
       ·exact Nat.le_trans h1 ht
       ·split
        ·split
         ·exact Nat.le_trans h1 ht
         ·exact Nat.le_trans (ih _ _ _ _ _ _) (Nat.le_trans h1 ht)
        ·split
         ·have h2:=lu ms (l.getD 0 ay) (l.getD 1 ay) fr S'
          rcases hq2:fJ ms (l.getD 0 ay) (l.getD 1 ay) fr S' with⟨S2,q,c2⟩
          rw[hq2]at h2
          simp only at h2 ⊢
          split
          ·exact Nat.le_trans (Nat.le_of_eq h2) (Nat.le_trans h1 ht)
          ·have h3:=ih q.plugin (cU ms q.plugin q.func) q.arg [] (fr+1) S2
           rcases hq3:ofD ms N q.plugin (cU ms q.plugin q.func) q.arg [] (fr+1) S2 with⟨S3,v,c3⟩
           rw[hq3]at h3
           simp only at h3 ⊢
           split
           ·exact Nat.le_trans h3 (Nat.le_trans (Nat.le_of_eq h2) (Nat.le_trans h1 ht))
           ·rw[qH]
            exact Nat.le_trans h3 (Nat.le_trans (Nat.le_of_eq h2) (Nat.le_trans h1 ht))
         ·rw[qc]
          exact Nat.le_trans h1 ht
def StD.mu (S:StD):Nat:=S.log.length+S.left
structure StD.Good (S:StD):Prop where
 wf:S.G.Wf
 cells:S.cells.length=12
 kept:S.kept.length=4
 keptV:∀ v∈S.kept,v.code=0
theorem da:ay.code=0:=by decide
theorem jc (n:Int):(ju n).code=0:=rfl
theorem dp {l:List VD} (h:∀ v∈l,v.code=0) (i:Nat):(l.getD i ay).code=0:=by
 by_cases hi:i<l.length
 ·simp only[List.getD,List.getElem?_eq_getElem hi,Option.getD_some]
  exact h _ (List.getElem_mem hi)
 ·simp only[List.getD,List.getElem?_eq_none (Nat.le_of_not_lt hi),Option.getD_none]
  exact da
theorem oN:∀ {l:List VD},cT l=0→∀ x∈l,x.fault=0
 | [],_,x,hx=>by simp at hx
 | y::l,h,x,hx=>by
   rw[fE]at h
   split at h
   ·rename_i h1;exact absurd h h1
   ·rename_i h1
    rcases List.mem_cons.1 hx with rfl | hx
    ·omega
    ·exact oN h x hx
theorem db {v:VD} (h:v.code=0):v.size≤40∧du v.kind v.n v.l.length=0∧∀ x∈v.l,x.code=0:=by
 unfold VD.code at h
 split at h
 ·cases h
 ·rename_i hs
  rw[v.fault_eq]at h
  split at h
  ·rename_i h1;exact absurd h h1
  ·rename_i h1
   refine⟨by omega,by omega,fun x hx=> ?_⟩
   unfold VD.code
   have:=VD.size_mem hx
   rw[if_neg (by omega)]
   exact oN h x hx
theorem uH {kind n:Int} {l:List VD} (hs:(VD.mk kind n l).size≤40) (hh:du kind n l.length=0) (hl:∀ x∈l,x.code=0):(VD.mk kind n l).code=0:=by
 have key:∀ l:List VD,(∀ x∈l,x.code=0)→cT l=0:=by
  intro l hl
  induction l with
  | nil=>rfl
  | cons x l ih=>
    have h1:=hl x (by simp)
    unfold VD.code at h1
    split at h1
    ·cases h1
    ·rw[fE,if_neg (by omega)]
     exact ih fun y hy=>hl y (by simp[hy])
 unfold VD.code
 rw[if_neg (by omega)]
 show(if du kind n l.length≠0 then du kind n l.length else cT l)=0
 rw[if_neg (by omega)]
 exact key l hl
theorem yD {v:VD} (h:v.code=0):(v.kind=2→∃ a b,v.l=[a,b])∧(v.kind=3→∃ a,v.l=[a]):=by
 obtain⟨_,h1,_⟩:=db h
 unfold du at h1
 split at h1
 ·cases h1
 ·split at h1
  ·cases h1
  ·rename_i h2
   constructor
   ·intro h3
    simp only[g9,h3,if_true,Decidable.not_not]at h2
    match hl:v.l,h2 with
    | [a,b],_=>exact⟨a,b,rfl⟩
   ·intro h3
    simp only[g9,h3,if_true,Decidable.not_not]at h2
    rw[if_neg (by decide)]at h2
    match hl:v.l,h2 with
    | [a],_=>exact⟨a,rfl⟩
theorem mO {n:Int} (h:0≤n):(fg n).code=0:=uH (by simp[VD.size,bA]) (by simp[du,g9];omega) (by simp)
theorem Da {n:Int} (h:0≤n):(VD.mk 5 n []).code=0:=uH (by simp[VD.size,bA]) (by simp[du,g9];omega) (by simp)
mutual
theorem sW (ks:List Int):∀ (x:VD) (G:af),(dA ks x G).2.2=0→(dA ks x G).2.1.size=x.size
 | .mk kind n l,G,h=>by
   simp only[dA]at h ⊢
   split at h
   ·rename_i h1;exact absurd h h1
   ·rename_i h1
    split at h
    ·rename_i h2;exact absurd h h2
    ·rename_i h2
     rw[if_neg h1,if_neg h2]
     simp only[VD.size]
     rw[(lX ks l _ (by omega)).1]
theorem lX (ks:List Int):∀ (l:List VD) (G:af),(bF ks l G).2.2=0→bA (bF ks l G).2.1=bA l∧(bF ks l G).2.1.length=l.length
 | [],G,h=>⟨rfl,rfl⟩
 | x::l,G,h=>by
   simp only[bF]at h ⊢
   split at h
   ·rename_i h1;exact absurd h h1
   ·rename_i h1
    rw[if_neg h1]
    have h2:=lX ks l _ h
    simp only[bA,List.length_cons]
    rw[sW ks x G (by omega),h2.1,h2.2]
    exact⟨rfl,rfl⟩
end
theorem ma {G:af} {n r k:Int}:0≤(G.derive n r k).2.1:=by
 unfold af.derive af.add
 split
 ·split
  ·exact Int.le_refl _
  ·split
   ·exact Int.le_refl _
   ·split
    ·exact Int.le_refl _
    ·exact Int.natCast_nonneg _
 ·exact Int.le_refl _
theorem EX (ks:List Int):∀ (G:af) (n:Int),0≤n→0≤(i5 ks G n).2.1:=by
 induction ks with
 | nil=>intro G n h;exact h
 | cons k l ih=>
   intro G n h
   simp only[i5]
   split
   ·exact Int.le_refl _
   ·exact ih _ _ ma
mutual
theorem rZ (ks:List Int):∀ (x:VD) (G:af),x.fault=0→(dA ks x G).2.2=0→(dA ks x G).2.1.fault=0
 | .mk kind n l,G,hf,h=>by
   change (if du kind n l.length≠0 then du kind n l.length else cT l)=0 at hf
   split at hf
   ·rename_i h1;exact absurd hf h1
   rename_i hh
   simp only[dA]at h ⊢
   split at h
   ·rename_i h1;exact absurd h h1
   ·rename_i h1
    split at h
    ·rename_i h2;exact absurd h h2
    ·rename_i h2
     rw[if_neg h1,if_neg h2]
     have hl:=(lX ks l (cP ks G kind n).1 (by omega)).2
     show(if du kind _ (bF ks l (cP ks G kind n).1).2.1.length≠0 then du kind _ (bF ks l (cP ks G kind n).1).2.1.length else cT (bF ks l (cP ks G kind n).1).2.1)=0
     rw[hl,if_neg]
     ·exact oT ks l _ hf (by omega)
     ·unfold cP
      by_cases h4:kind=4
      ·rw[if_pos h4]
       have:0≤n:=by
        unfold du at hh
        split at hh
        ·simp at hh
        ·split at hh
         ·simp at hh
         ·split at hh
          ·simp at hh
          ·split at hh
           ·simp at hh
           ·omega
       have h5:=EX ks G n this
       unfold du at hh ⊢
       subst h4
       rw[if_neg (by omega)]at hh ⊢
       split at hh
       ·simp at hh
       ·rename_i h6
        rw[if_neg h6,if_neg (by omega),if_neg (by omega)]
        decide
      ·rw[if_neg h4]
       exact hh
theorem oT (ks:List Int):∀ (l:List VD) (G:af),cT l=0→(bF ks l G).2.2=0→cT (bF ks l G).2.1=0
 | [],G,hf,h=>rfl
 | x::l,G,hf,h=>by
   rw[fE]at hf
   split at hf
   ·rename_i h1;exact absurd hf h1
   rename_i hx
   simp only[bF]at h ⊢
   split at h
   ·rename_i h1;exact absurd h h1
   ·rename_i h1
    rw[if_neg h1,fE,if_neg (by rw[rZ ks x G (by omega) (by omega)];decide)]
    exact oT ks l _ hf h
end
theorem mE {ks:List Int} {G:af} {x:VD} (h:(bj ks G x).2.2=0):(bj ks G x).2.1.code=0:=by
 unfold bj at h ⊢
 split at h
 ·rename_i h1;exact absurd h h1
 ·rename_i h1
  rw[if_neg h1]
  have hx:x.code=0:=by
   unfold qp at h1
   split at h1
   ·rename_i h2;exact absurd h1 (by simpa using h2)
   ·omega
  have hs:=(db hx).1
  unfold VD.code at hx ⊢
  rw[if_neg (by omega)]at hx
  rw[if_neg (by rw[sW ks x G h];omega)]
  exact rZ ks x G hx h
structure cz (n:Nat) (S:StD) (q:StD×VD×Int):Prop where
 good:q.1.Good
 mu:q.1.mu≤S.mu+n
 left:q.1.left≤S.left
 val:q.2.2=0→q.2.1.code=0
theorem StD.Good.with {S:StD} (h:S.Good) {G:af} (hG:G.Wf):({S with G:=G}:StD).Good:=⟨hG,h.cells,h.kept,h.keptV⟩
theorem cz.no {S S':StD} {n:Nat} {c:Int} (h:S'.Good) (h1:S'.mu≤S.mu+n) (h2:S'.left≤S.left):cz n S (S'.no c):=⟨h,h1,h2,fun _=>da⟩
theorem cz.ok {S S':StD} {n:Nat} {v:VD} (h:S'.Good) (h1:S'.mu≤S.mu+n) (h2:S'.left≤S.left) (hv:v.code=0):cz n S (S'.ok v):=⟨h,h1,h2,fun _=>hv⟩
theorem cz.ite {S:StD} {n:Nat} {p:Prop} [Decidable p] {a b:StD×VD×Int} (h1:p→cz n S a) (h2:¬ p→cz n S b):cz n S (if p then a else b):=by
 split
 ·exact h1 ‹_›
 ·exact h2 ‹_›
theorem Fc {p op k n:Int} {l:List VD} {S:StD} (hS:S.Good) (hl:∀ v∈l,v.code=0):cz 1 S (bV p op k n l S):=by
 have ha:=dp hl 0
 have hb:=dp hl 1
 have m0:S.mu≤S.mu+1:=Nat.le_succ _
 have no:∀ {c:Int},cz 1 S (S.no c):= .no hS m0 (Nat.le_refl _)
 have ok:∀ {v:VD},v.code=0→cz 1 S (S.ok v):=fun hv=> .ok hS m0 (Nat.le_refl _) hv
 unfold bV
 refine .ite (fun _=> .ite (fun _=>no) fun _=>ok (jc _)) fun h6=> ?_
 refine .ite (fun _=> .ite (fun _=>no) fun h=>ok (by simpa using h)) fun h8=> ?_
 refine .ite (fun _=> .ite (fun _=>no) fun h=>ok (dp (db ha).2.2 0)) fun h9=> ?_
 refine .ite (fun _=> .ite (fun _=>no) fun h=>ok (dp (db ha).2.2 1)) fun h10=> ?_
 refine .ite (fun _=> .ite (fun _=>no) fun h=>ok (by simpa using h)) fun h11=> ?_
 refine .ite (fun _=> .ite (fun _=>no) fun _=> .ite (fun _=>no) fun _=>ok (dp (db ha).2.2 0)) fun h12=> ?_
 refine .ite (fun _=> .ite (fun _=>no) fun _=> .ite (fun _=>no) fun _=> .ite (fun _=>no) fun _=> ?_) fun h13=> ?_
 ·exact .ok ⟨hS.wf,hS.cells,hS.kept,hS.keptV⟩ (by simp[StD.mu];omega) (Nat.le_refl _) (jc _)
 refine .ite (fun _=> .ite (fun _=>no) fun _=> .ite (fun _=>no) fun _=> .ite (fun _=>no) fun _=> ?_) fun h14=> ?_
 ·exact .ok ⟨hS.wf,by simpa using hS.cells,hS.kept,hS.keptV⟩ (by simp[StD.mu];omega) (Nat.le_refl _) hb
 refine .ite (fun _=> .ite (fun _=>no) fun _=> ?_) fun h15=> ?_
 ·unfold DF
  exact .ite (fun _=> .no (hS.with (hS.wf.derive _ _ _)) m0 (Nat.le_refl _)) fun _=> .ok (hS.with (hS.wf.derive _ _ _)) m0 (Nat.le_refl _) (mO ma)
 refine .ite (fun _=> .ite (fun _=>no) fun _=> .ite (fun _=> .no (hS.with hS.wf.gate) m0 (Nat.le_refl _)) fun hg=> ?_) fun h16=> ?_
 ·have hw:=hS.wf.gate.derive (l.getD 0 ay).n 15 S.G.gate.2.1
  have hn:=ma (G:=S.G.gate.1) (n:=(l.getD 0 ay).n) (r:=15) (k:=S.G.gate.2.1)
  generalize S.G.gate.1.derive (l.getD 0 ay).n 15 S.G.gate.2.1=q at hw hn ⊢
  obtain⟨G',m,c⟩:=q
  refine .ite (fun _=> .no (hS.with hw) m0 (Nat.le_refl _)) fun _=> .ok (hS.with hw) m0 (Nat.le_refl _) ?_
  refine uH (by simp[VD.size,bA,fg]) (by simp[du,g9]) ?_
  intro x hx
  rcases List.mem_cons.1 hx with rfl | hx
  ·exact mO hn
  ·simp only[List.mem_singleton]at hx
   subst hx
   refine Da ?_
   unfold af.gate
   split
   ·exact Int.le_refl _
   ·exact Int.natCast_nonneg _
 refine .ite (fun _=> .ite (fun _=>no) fun _=> ?_) fun h17=> ?_
 ·exact .ok (hS.with (hS.wf.cut _)) m0 (Nat.le_refl _) da
 refine .ite (fun _=> ?_) fun h20=>no
 refine .ok ⟨hS.wf,hS.cells,by simpa using hS.kept,fun v hv=> ?_⟩ m0 (Nat.le_refl _) (dp hS.keptV _)
 rcases List.mem_or_eq_of_mem_set hv with h | rfl
 ·exact hS.keptV v h
 ·exact ha
theorem sL (G:af):∀ (f:Nat) (i:Int),(G.pathF f i).length≤f
 | 0,_=>by simp[af.pathF]
 | f+1,i=>by
   unfold af.pathF
   split
   ·have:=sL G f (G.nodes.getD i.toNat d9).parent
    simp only[List.length_cons]
    omega
   ·simp
theorem tM {G:af} (h:G.Wf) {i:Int}:(G.gatesC i).length≤80:=by
 unfold af.gatesC dV
 rw[List.length_map]
 refine Nat.le_trans (List.length_filter_le _ _) ?_
 cases hh:G.has i with
 | false=>rw[af.path_no hh];simp
 | true=>
   have:=sL G (i.toNat+1) i
   simp only[af.has,decide_eq_true_eq]at hh
   have:=h.few
   unfold af.path
   omega
theorem Cg {ms:aL} {v x:VD} {fr:Nat} {S:StD} (hS:S.Good):(fJ ms v x fr S).1.Good∧(fJ ms v x fr S).1.mu≤S.mu∧((fJ ms v x fr S).2.2=0→(fJ ms v x fr S).2.1.arg.code=0∧(fJ ms v x fr S).2.1.gates.length≤80∧
  (ms.getD (fJ ms v x fr S).2.1.plugin.toNat none).isSome∧0≤(fJ ms v x fr S).2.1.plugin∧0≤(fJ ms v x fr S).2.1.func∧(fJ ms v x fr S).2.1.func.toNat<(ci ms (fJ ms v x fr S).2.1.plugin).length):=by
 unfold fJ
 simp only
 split
 ·exact⟨hS,Nat.le_refl _,fun h=>by simp at h⟩
 split
 ·exact⟨hS,Nat.le_refl _,fun h=>by simp at h⟩
 split
 ·exact⟨hS,Nat.le_refl _,fun h=>by simp at h⟩
 rename_i hp
 split
 ·exact⟨hS,Nat.le_refl _,fun h=>by simp at h⟩
 rename_i hn
 simp only[not_or]at hn
 split
 ·exact⟨hS,Nat.le_refl _,fun h=>by simp at h⟩
 refine⟨hS.with (qQ hS.wf),Nat.le_refl _,fun h=>⟨mE h,?_,by simpa[Option.isNone_iff_eq_none,Option.isSome_iff_ne_none]using hn.1,by simp only;omega,by simp only;omega,?_⟩⟩
 ·exact tM hS.wf
 ·have:=hn.2.1;have:=hn.2.2
  simp only
  omega
theorem Ew {gates:List Int} {v:VD} {S:StD} (hS:S.Good):cz 0 S (gm gates v S):=by
 unfold gm
 have hw:=qQ (ks:=gates) (x:=v) hS.wf
 have hc:=mE (ks:=gates) (G:=S.G) (x:=v)
 generalize bj gates S.G v=q at hw hc ⊢
 obtain⟨G',y,c⟩:=q
 refine .ite (fun _=> .no (hS.with hw) (Nat.le_refl _) (Nat.le_refl _)) fun h=> .ok (hS.with hw) (Nat.le_refl _) (Nat.le_refl _) (hc (by simpa using h))
def IV (S:StD) (q:StD×VD×Int):Prop:=cz 0 S q∧(q.2.2=0→q.1.left<S.left)
theorem cz.trans {n k:Nat} {S S1:StD} {q:StD×VD×Int} (h1:S1.mu≤S.mu+n) (h2:S1.left≤S.left) (h:cz k S1 q):cz (n+k) S q:=⟨h.good,by have:=h.mu;omega,Nat.le_trans h.left h2,h.val⟩
theorem cz.weak {n k:Nat} {S:StD} {q:StD×VD×Int} (h:cz k S q) (hk:k≤n):cz n S q:=⟨h.good,by have:=h.mu;omega,h.left,h.val⟩
theorem yM {f:XD→StD→StD×VD×Int} (hf:∀ x S,S.Good→IV S (f x S)):∀ (l:List XD) (S:StD) (acc:List VD),S.Good→(∀ v∈acc,v.code=0)→
  (evL f l S acc).1.Good∧(evL f l S acc).1.mu≤S.mu∧(evL f l S acc).1.left≤S.left∧((evL f l S acc).2.2=0→(∀ v∈(evL f l S acc).2.1,v.code=0)∧(evL f l S acc).1.left+(evL f l S acc).2.1.length≤S.left+acc.length)
 | [],S,acc,hS,ha=>⟨hS,Nat.le_refl _,Nat.le_refl _,fun _=>⟨ha,Nat.le_refl _⟩⟩
 | x::l,S,acc,hS,ha=>by
   obtain⟨h1,h2⟩:=hf x S hS
   rw[evL]
   rcases hq:f x S with⟨S',v,c⟩
   rw[hq]at h1 h2
   simp only at h2 ⊢
   split
   ·rename_i hc
    exact⟨h1.good,h1.mu,h1.left,fun e=>absurd e hc⟩
   ·rename_i hc
    have hc:c=0:=by omega
    have h3:=h2 hc
    have hv:=h1.val hc
    obtain⟨g1,g2,g3,g4⟩:=yM hf l S' (acc++[v]) h1.good (fun w hw=>by
     rcases List.mem_append.1 hw with h | h
     ·exact ha w h
     ·simp only[List.mem_singleton]at h
      rw[h];exact hv)
    have hm:S'.mu≤S.mu:=h1.mu
    have hle:S'.left≤S.left:=h1.left
    refine⟨g1,Nat.le_trans g2 hm,Nat.le_trans g3 hle,fun e=>⟨(g4 e).1,?_⟩⟩
    have:=(g4 e).2
    simp only[List.length_append,List.length_singleton]at this
    omega
theorem mi {S:StD} (h:S.left≠0):S.tick.mu+1=S.mu∧S.tick.left+1=S.left:=by
 simp only[StD.mu,StD.tick]
 omega
theorem StD.Good.tick {S:StD} (h:S.Good):S.tick.Good:=⟨h.wf,h.cells,h.kept,h.keptV⟩
theorem Ab {p:Int} {x:XD} {arg:VD} {names:List VD} {S:StD} {v:VD} (hS:S.Good) (ha:arg.code=0) (hn:∀ v∈names,v.code=0) (h:fG p x arg names S=some v):v.code=0:=by
 unfold fG at h
 split at h
 ·injection h with h;rw[←h];exact da
 split at h
 ·injection h with h;rw[←h];exact jc _
 split at h
 ·injection h with h;rw[←h];exact ha
 split at h
 ·injection h with h;rw[←h];exact dp hn _
 split at h
 ·injection h with h;rw[←h];exact dp hS.keptV _
 cases h
theorem gt (ms:aL):∀ (N:Nat) (p:Int) (x:XD) (arg:VD) (names:List VD) (fr:Nat) (S:StD),S.Good→arg.code=0→(∀ v∈names,v.code=0)→IV S (ofD ms N p x arg names fr S)
 | 0,p,x,arg,names,fr,S,hS,_,_=>⟨.no hS (Nat.le_refl _) (Nat.le_refl _),fun h=>by simp[ofD,StD.no]at h⟩
 | N+1,p,x,arg,names,fr,S,hS,ha,hn=>by
   have ih:=gt ms N
   rw[ofD]
   split
   ·exact⟨.no hS (Nat.le_refl _) (Nat.le_refl _),fun h=>by simp[StD.no]at h⟩
   rename_i h0
   obtain⟨tm,tl⟩:=mi h0
   -- what comes behind the tick
   suffices h:∀ q,cz 1 S.tick q→IV S q by
    refine h _ ?_
    split
    ·rename_i v hv
     exact .ok hS.tick (Nat.le_succ _) (Nat.le_refl _) (Ab hS.tick ha hn hv)
    ·split
     ·have h1:=(ih p (x.l.getD 0 di) arg names fr S.tick hS.tick ha hn).1
      rcases hq:ofD ms N p (x.l.getD 0 di) arg names fr S.tick with⟨S',v,c⟩
      rw[hq]at h1
      refine .ite (fun _=>(cz.no (c:=c) h1.good h1.mu h1.left).weak (Nat.zero_le _)) fun hc=> ?_
      have h2:=(ih p (x.l.getD 1 di) arg (names++[v]) fr S' h1.good ha (fun w hw=>by
       rcases List.mem_append.1 hw with h | h
       ·exact hn w h
       ·simp only[List.mem_singleton]at h
        rw[h];exact h1.val (by simpa using hc))).1
      exact(cz.trans h1.mu h1.left h2).weak (Nat.zero_le _)
     ·split
      ·have h1:=(ih p (x.l.getD 0 di) arg names fr S.tick hS.tick ha hn).1
       rcases hq:ofD ms N p (x.l.getD 0 di) arg names fr S.tick with⟨S',v,c⟩
       rw[hq]at h1
       refine .ite (fun _=>(cz.no (c:=c) h1.good h1.mu h1.left).weak (Nat.zero_le _)) fun hc=> ?_
       refine .ite (fun _=>(cz.no (c:=2) h1.good h1.mu h1.left).weak (Nat.zero_le _)) fun _=> ?_
       refine .ite (fun _=> ?_) fun _=> ?_
       ·exact(cz.trans h1.mu h1.left (ih p (x.l.getD 1 di) arg names fr S' h1.good ha hn).1).weak (Nat.zero_le _)
       ·exact(cz.trans h1.mu h1.left (ih p (x.l.getD 2 di) arg names fr S' h1.good ha hn).1).weak (Nat.zero_le _)
      ·have h1:=yM (f:=fun y S=>ofD ms N p y arg names fr S) (fun y S h=>ih p y arg names fr S h ha hn) x.l S.tick [] hS.tick (by simp)
       rcases hq:evL (fun y S=>ofD ms N p y arg names fr S) x.l S.tick []with⟨S',l,c⟩
       rw[hq]at h1
       obtain⟨g1,g2,g3,g4⟩:=h1
       simp only at g1 g2 g3 g4
       refine .ite (fun _=>(cz.no (n:=0) (c:=c) g1 g2 g3).weak (Nat.zero_le _)) fun hc=> ?_
       have g5:=(g4 (by simpa using hc)).1
       refine .ite (fun _=> .ite (fun _=>(cz.no (n:=0) (c:=4) g1 g2 g3).weak (Nat.zero_le _)) fun _=> ?_) fun _=> .ite (fun _=> ?_) fun _=> ?_
       ·exact(cz.trans (n:=0) g2 g3 (ih p (cU ms p x.k) (l.getD 0 ay) [] (fr+1) S' g1 (dp g5 0) (by simp)).1).weak (Nat.zero_le _)
       ·obtain⟨a1,a2,a3⟩:=Cg (ms:=ms) (v:=l.getD 0 ay) (x:=l.getD 1 ay) (fr:=fr) g1
        have a4:=lu ms (l.getD 0 ay) (l.getD 1 ay) fr S'
        rcases hq2:fJ ms (l.getD 0 ay) (l.getD 1 ay) fr S' with⟨S2,q,c2⟩
        rw[hq2]at a1 a2 a3 a4
        simp only at a1 a2 a3 a4
        have b1:S2.mu≤S.tick.mu+0:=Nat.le_trans a2 g2
        have b2:S2.left≤S.tick.left:=Nat.le_trans (Nat.le_of_eq a4) g3
        refine .ite (fun _=>(cz.no (n:=0) (c:=c2) a1 b1 b2).weak (Nat.zero_le _)) fun hc2=> ?_
        have h3:=(ih q.plugin (cU ms q.plugin q.func) q.arg [] (fr+1) S2 a1 (a3 (by simpa using hc2)).1 (by simp)).1
        rcases hq3:ofD ms N q.plugin (cU ms q.plugin q.func) q.arg [] (fr+1) S2 with⟨S3,v,c3⟩
        rw[hq3]at h3
        have h4:=cz.trans b1 b2 h3
        refine .ite (fun _=>(cz.no (c:=c3) h4.good h4.mu h4.left).weak (Nat.zero_le _)) fun _=> ?_
        exact(cz.trans h4.mu h4.left (Ew h3.good)).weak (Nat.zero_le _)
       ·exact cz.trans (n:=0) g2 g3 (Fc g1 g5)
   intro q h
   have h1:=h.mu
   have h2:=h.left
   exact⟨⟨h.good,by omega,by omega,h.val⟩,fun _=>by omega⟩
structure FrD.Good (ms:aL) (t:FrD):Prop where
 p0:0≤t.plugin
 there:(ms.getD t.plugin.toNat none).isSome
 f0:0≤t.f
 f1:t.f.toNat<(ci ms t.plugin).length
 arg:t.arg.code=0
 names:∀ v∈t.names,v.code=0
 stack:∀ v∈t.stack,v.code=0
 gates:t.gates.length≤80
structure MaD.Good (ms:aL) (m:MaD):Prop where
 S:m.S.Good
 top:m.top.Good ms
 mu:m.S.mu≤1000000
 stk:m.top.stack.length+m.S.left≤100000
 nms:m.top.names.length+m.S.left≤100000
 few:m.below.length+1≤20
structure Cn (m:MaD) (x:aQ):Prop where
 kind:(1≤x.op∧x.op≤21∧x.op≠5∧x.op≠7)∨(100≤x.op∧x.op≤105)
 one:x.op=101∨x.op=103∨x.op=105→m.top.stack≠[]
 nam:x.op=102→m.top.names≠[]
 jump:x.op=103∨x.op=104→0≤x.k
 parts:x.op<100→(aU x.op).toNat≤m.top.stack.length
 var:x.op=4→0≤x.k∧x.k<m.top.names.length
structure Ok (ms:aL) (m:MaD):Prop where
 good:m.Good ms
 pc:m.top.pc<(dM ms m.top.plugin m.top.f).length
 op:Cn m ((dM ms m.top.plugin m.top.f).getD m.top.pc np)
inductive fN (ms:aL):MaD→ij→Prop
 | go {m m':MaD} {r:ij}:Ok ms m→fB ms m= .go m'→fN ms m' r→fN ms m r
 | over {m:MaD} {S:StD} {v:VD}:Ok ms m→fB ms m= .over S v→fN ms m (.over S v)
 | fail {m:MaD} {S:StD} {c:Int}:Ok ms m→fB ms m= .fail S c→fN ms m (.fail S c)
def oJ (ms:aL):Prop:=∀ p:Int,∀ x∈ci ms p,x.fault (ci ms p).length 0=0
def jI (ms:aL):Prop:=∀ p f:Int,(dM ms p f).length≤1000000000
def cX (ms:aL) (p f:Int) (v:VD) (fuel:Int) (S:StD):StD×VD×Int×Int:=
 if fuel<0∨2000<fuel∨p<0∨4≤p then(S,ay,0,1)
 else if(ms.getD p.toNat none).isNone∨f<0∨((ci ms p).length:Int)≤f then(S,ay,0,8)
 else if v.code≠0 then(S,ay,0,v.code)
 else match ofD ms fuel.toNat p (cU ms p f) v [] 1 {S with left:=fuel.toNat}with
  | (S',w,c)=>({S' with left:=S.left},if c=0 then w else ay,fuel - (S'.left:Int),c)
def dW (L:List XD):AV:= .isl none 158 (L.map fun x=>[.isl none 169 ((aw x 0++[(⟨105,0,0⟩:aQ)]).map fun i:aQ=>[.int .i64 i.op,.int .i64 i.k,.int .i64 i.n])])
abbrev tEn:TypeId:=98
abbrev tL:TypeId:=2
def jp (e:ff):List AV:=[.int .i64 e.plugin,.int .i64 e.cell,.int .i64 e.right,.int .i64 e.node]
def rP (e:TypeId) (v:AV) (rows:List (List AV)):Asn:=orA (vw (rows=[]∧v= .nils)) (oF fun id:Nat=>sM (rows≠[]∧v= .isl (some id) e rows) (idA id rows.length))
def bd (b:Nat) (cells:List Int) (log:List ff):Asn:=oF fun v:AV=>dB (ai b [cells.map (.int .i64)++[v]]) (rP tEn v (log.map jp))
def gZ (m:Option (List XD)):AV:=match m with
 | some L=>dW L
 | none=> .nils
def dt:aL→List (List AV)→List AV
 | m::ms,k::ks=> .bool m.isSome::gZ m::k++dt ms ks
 | _,_=>[]
def jo (gb wb:Nat) (ms:aL) (ks:List (List AV)):List AV:= .ptr gb 0 0:: .ptr wb 0 0::dt ms ks
def dc (b gb wb:Nat) (ms:aL) (kept:List VD):Asn:=oF fun ks:List (List AV)=>sM (VaL kept ks) (ai b [jo gb wb ms ks])
def vp (args:List AV) (h:AH) (q:(AV ⊕ AV)×AH):Prop:=
 ∀ (F J:Nat→Prop) (bb gb wb:Nat) (ms:aL) (S:StD) (p f fuel:Int) (v:VD) (r:List AV),args=[.ptr bb 0 0,.int .i64 p,.int .i64 f,.agg r,.int .i64 fuel]→VaA v r→v.size≤100000→ms.length=4→oJ ms→jI ms→S.Good→S.log.length≤900000→
   (aX [dc bb gb wb ms S.kept,bo gb S.G,bd wb S.cells S.log]).A h F J→
   ∃ r' h',q=(.inl (.tup [.agg r',.int .i64 (cX ms p f v fuel S).2.2.1,.int .i64 (cX ms p f v fuel S).2.2.2]),h')∧VaA (cX ms p f v fuel S).2.1 r'∧
     Did h F J h' (aX [dc bb gb wb ms (cX ms p f v fuel S).1.kept,bo gb (cX ms p f v fuel S).1.G,bd wb (cX ms p f v fuel S).1.cells (cX ms p f v fuel S).1.log])
def HF:List FuncId:=[112,141,58,89,57,140,94,88,
 53,55,79,67,133,38,138,
 30,68,62,87,32,75,104,
 76,105,77,78,80,45,
 117,95,96,116,115,129,
 97,118,98,70,100,119,101,60,
 102,73,26,103,74,41,72,
 99,71,40,49,18,50,46,131,130,
 139,143,19,29,42,15,
 132,142,134,122,120,39,82,81,83,
 108,84,109,12,135,123,124,125,
 126,127,128,110,86,111,85,
 48,69,136,137,25,31,59,63,
 33,13,43,44,11,14,16,
 3,4,5,22,52,51,54,56,
 23,27,28,61,20,21,
 24,6,7,8,35,90,64,
 92,91,113,93,114,65,
 36,66,37,34,9,10]
def Gp:List FuncId:=[112,141,89,140,94,67,133,38,
 138,30,62,87,32,104,
 117,96,116,115,129,97,70,
 100,119,101,60,102,73,26,
 103,74,41,49,18,50,46,131,
 130,139,143,19,29,42,
 15,132,142,120,82,108,84,109,12,135,
 25,31,59,63,33,13,
 11,14,3,4,5,52,27,
 28,61,20,21,24,6,
 7,8,90,64,92,91,
 113,93,114,66,37,34,9,
 10]
def muF:FuncId→TypeId→Bool:=fun g t=>t==145 || t==158 || t==122 || (t==27 && (g==107 || g==48 || g==54))
def qh (args:List AV) (h:AH) (q:(AV ⊕ AV)×AH):Prop:=
 ∀ (F J:Nat→Prop) (b:Nat) (G:af) (x:VD) (r:List AV) (gv:AV) (ks:List Int),args=[.ptr b 0 0,.agg r,gv]→IsG h F J b G→G.Wf→VaA x r→SlA 3 gv (dw ks)→ks.length≤1000000→
   ∃ r' h',q=(.inl (.tup [.agg r',.int .i64 (bj ks G x).2.2]),h')∧VaA (bj ks G x).2.1 r'∧cK h F J b h' (bj ks G x).1
open Classical in
noncomputable def nu (args:List AV) (h:AH):Option ((AV ⊕ AV)×AH):=
 if H:∃ q,AC Try.prog 106 args h q∧qh args h q then some (Classical.choose H)else none
def DL (args:List AV) (h:AH):Option AH:=match args with
 | [.ptr mb 0 0,.agg r]=>(h.cell mb).bind fun es=>match es with
   | [[_,.msl fb 0 k _,_]]=>(h.cell fb).bind fun rows=>(rows[k - 1]?).bind fun row=>(row[6]?).bind fun s=>(aH true tV s (.msl (h.n+1) 0 1 tV) ((h.push [r]).push [r])).map fun q=>q.2.set fb (some (rows.set (k - 1) (row.set 6 q.1)))
   | _=>none
 | _=>none
open Classical in
noncomputable def AO (args:List AV) (h:AH):Option ((AV ⊕ AV)×AH):=match DL args h with
 | some h'=>if AC Try.prog 107 args h (.inl (.tup []),h')then some (.inl (.tup []),h')else none
 | none=>none
def qw (L:List XD):AV:= .tup [if(aZ L).1=0 then dW L else .nils,.agg [.int .i64 (aZ L).1,.int .i64 (aZ L).2]]
open Classical in
noncomputable def Cd (args:List AV) (h:AH):Option ((AV ⊕ AV)×AH):=
 if H:∃ L:List XD,(∃ v es,args=[.agg [v]]∧SlA tE v es∧ExL L es)∧AC Try.prog 40 args h (.inl (qw L),h)then some (.inl (qw (Classical.choose H)),h)else none
open Classical in
noncomputable def pf (args:List AV) (h:AH):Option ((AV ⊕ AV)×AH):=
 if H:∃ cs:List Int,(∃ b lv,args=[.ptr b 0 0]∧h.cell b=some [cs.map (.int .i64)++[lv]]∧cs.length=12)∧AC Try.prog 25 args h (.inl (.isl none 2 (cs.map fun x=>[.int .i64 x])),h)then some (.inl (.isl none 2 ((Classical.choose H).map fun x=>[.int .i64 x])),h)else none
open Classical in
noncomputable def rh (args:List AV) (h:AH):Option ((AV ⊕ AV)×AH):=
 if H:∃ q,AC Try.prog 17 args h q∧vp args h q then some (Classical.choose H)else none
noncomputable def pd:FuncId→Option (List AV→AH→Option ((AV ⊕ AV)×AH)):=fun g=>if g=106 then some nu else if g=107 then some AO else if g=40 then some Cd else if g=25 then some pf else if g=17 then some rh else none
noncomputable def po:Pol:=ol Try.prog muF pd HF Gp
theorem IM:po.ext 17=some rh:=by
 show pd 17=_
 unfold pd
 rw[if_neg (by decide),if_neg (by decide),if_neg (by decide),if_neg (by decide),if_pos rfl]
theorem pok:POK Try.prog po:=Kq (Hc (by kernel_rfl)) (by kernel_rfl) (by kernel_rfl) (fun g F h=>by
 unfold pd at h
 split at h
 ·rename_i e
  subst e
  injection h with h
  subst h
  refine⟨_,Try.func106,⟨by kernel_rfl,by kernel_rfl⟩,fun args h r hr=> ?_⟩
  unfold nu at hr
  split at hr
  ·rename_i H
   injection hr with hr
   rw[←hr]
   exact(Classical.choose_spec H).1
  ·cases hr
 split at h
 ·rename_i e
  subst e
  injection h with h
  subst h
  refine⟨_,Try.func107,⟨by kernel_rfl,by kernel_rfl⟩,fun args h r hr=> ?_⟩
  unfold AO at hr
  split at hr
  ·split at hr
   ·rename_i H
    injection hr with hr
    rw[←hr]
    exact H
   ·cases hr
  ·cases hr
 split at h
 ·rename_i e
  subst e
  injection h with h
  subst h
  refine⟨_,Try.func40,⟨by kernel_rfl,by kernel_rfl⟩,fun args h r hr=> ?_⟩
  unfold Cd at hr
  split at hr
  ·rename_i H
   injection hr with hr
   rw[←hr]
   exact(Classical.choose_spec H).2
  ·cases hr
 split at h
 ·rename_i e
  subst e
  injection h with h
  subst h
  refine⟨_,Try.func25,⟨by kernel_rfl,by kernel_rfl⟩,fun args h r hr=> ?_⟩
  unfold pf at hr
  split at hr
  ·rename_i H
   injection hr with hr
   rw[←hr]
   exact(Classical.choose_spec H).2
  ·cases hr
 split at h
 ·rename_i e
  subst e
  injection h with h
  subst h
  refine⟨_,Try.func17,⟨by kernel_rfl,by kernel_rfl⟩,fun args h r hr=> ?_⟩
  unfold rh at hr
  split at hr
  ·rename_i H
   injection hr with hr
   rw[←hr]
   exact(Classical.choose_spec H).1
  ·cases hr
 cases h)
def cL:Code→Code
 | .seq a _=>a
 | c=>c
def cR:Code→Code
 | .seq _ b=>b
 | c=>c
def eB:Code→Array Oper
 | .region _ ops _=>ops
 | _=> #[]
section
variable {P:Program} {po:Pol} {f:FuncId} {n nv:Nat} {vm:List Nat} {h h':AH} {t V V':List AV}
theorem bK {a:Nat} (h7:sa a n (po.nv f) nv vm=true):vm.Nodup∧∀ j s,vm[j]? =some s→(j<nv↔s<po.nv f):=by
 unfold sa at h7
 simp only[Bool.and_eq_true,decide_eq_true_eq,List.all_eq_true,List.mem_range,beq_iff_eq,bne_iff_ne,ne_eq]at h7
 obtain⟨⟨a1,a2⟩,a3⟩:=h7
 have get:∀ j s,vm[j]? =some s→j<vm.length∧vm.getD j 0=s:=fun j s hj=>⟨(List.getElem?_eq_some_iff.1 hj).1,by simp[List.getD,hj]⟩
 refine⟨?_,fun j s hj=> ?_⟩
 ·rw[List.nodup_iff_pairwise_ne,List.pairwise_iff_getElem]
  intro i j hi hj hij e
  have:=(a3 j hj).2 i hij
  apply this
  simp[List.getD,hi,hj,e]
 ·obtain⟨g1,g2⟩:=get j s hj
  have:=(a3 j g1).1.1.2
  rw[g2]at this
  exact decide_eq_decide.1 this
theorem oK (pok:POK P po) {c:Code} {l:List RS} {K:List Item} {x:AEx} (hvm:vm.Nodup∧∀ j s,vm[j]? =some s→(j<nv↔s<po.nv f)) (htr:be P (po.mu f) (po.plan f) n vm c []=some l) (hrg:cE (po.plan f) (po.kp f) c=true)
  (hr:aq (aj P po) nv [.ss l,.halt K] V [] h=some (x,V',h')) (rv:RV n vm [] t V []):
  ∃ t',(∀ (m:Mm) (w:World) (a:Act) (b:Frame) (cs:List Frame),WR P m h w→TR P m h t a.tmps→a.defers=b.defers→bR P (po.kp f) m h w b cs (lone (b.at a (.code c::K)) cs w) (x,t',h'))∧RV n vm [] t' V' []:=by
 obtain⟨t',e,rv'⟩:=(na (n:=n) (f:=f) hvm.1 hvm.2 _ _ _ _ _ hr).1 [.code c,.halt K] t (.ss [c] l [.halt K] [.halt K] (by simp[trL,htr]) (.halt K [] [])) rv
 refine⟨t',fun m w a b cs hw ht hd=> ?_,rv'⟩
 exact(iL pok f _ t h _ e).good (.code c::K) (.code c _ _ hrg (.halt K [])) b cs m w a hw ht hd
theorem mT {g:FuncId} {fn:Func} {c:Code} (hf:P.funcs[g]? =some fn) (hb:fn.body=some c) (vs:List Value) (kd:CallKind):
  (Frame.enter P g vs.toArray kd).at {tmps:=(vs++List.replicate (fn.ntmps - vs.length) undef).toArray,defers:=[]} [.code c]=Frame.enter P g vs.toArray kd:=by
 simp[Frame.enter,Frame.at,hf,hb]
theorem mg {m:Mm} {k:Nat} {args:List AV} {vs:List Value} (hv:VRs P m h args vs):
  TR P m h (args++List.replicate (k - args.length) .junk) (vs++List.replicate (k - vs.length) undef).toArray:=by
 have hl:=hv.1
 have h2:VRs P m h (args++List.replicate (k - args.length) .junk) (vs++List.replicate (k - vs.length) undef):=by
  rw[hl]
  exact VRs.append hv ⟨by simp,fun j hj hj'=>by simp only[List.getElem_replicate];exact .junk _⟩
 refine⟨by simpa using h2.1,fun i hi=> ?_⟩
 have hi2:i<(vs++List.replicate (k - vs.length) undef).length:=by rw[h2.1];exact hi
 have:=h2.2 i hi hi2
 simp only[Array.getD_eq_getD_getElem?,List.getElem?_toArray,List.getElem?_eq_getElem hi2,Option.getD_some]
 exact this
theorem Kf {m:Mm} {ts:Array Value} (ht:TR P m h t ts) {i:Nat} (hi:i<t.length):VR P m h (t.getD i .junk) (ts.getD i undef):=by
 have:=ht.2 i hi
 simpa[List.getD,hi]using this
end
open Go Go.RowKit
section
variable {P:Program} {po:Pol} {f:FuncId} {n nv:Nat} {vm:List Nat} {h:AH}
def lR (P:Program) (po:Pol) (f:FuncId) (n:Nat) (vm:List Nat) (args:List AV) (h:AH) (x:AEx) (V:List AV) (h2:AH):Prop:=
 ∀ (m:Mm) (w:World) (vs:List Value),WR P m h w→VRs P m h args vs→∀ cs:List Frame,∃ (bf:Frame) (t2:List AV),bf.fn=f∧bf.kind= .normal∧bf.defers=[]∧RV n vm [] t2 V []∧
   bR P (po.kp f) m h w bf cs (lone (Frame.enter P f vs.toArray .normal) cs w) (x,t2,h2)
theorem lR.start {fn:Func} {c:Code} {args:List AV} (hf:P.funcs[f]? =some fn) (hb:fn.body=some c) (hn:fn.ntmps=n)
  (rv:RV n vm [] (args++List.replicate (n - args.length) .junk) (args++List.replicate (vm.length - args.length) .junk) []):lR P po f n vm args h (.halt [.code c]) (args++List.replicate (vm.length - args.length) .junk) h:=by
 intro m w vs hw hvs cs
 have he:=mT hf hb vs .normal
 have ht:=mg (P:=P) (h:=h) (k:=n) hvs
 rw[hn]at he
 refine⟨Frame.enter P f vs.toArray .normal,_,by simp[Frame.enter],by simp[Frame.enter],by simp[Frame.enter],rv,m,w,Ext.refl _ _,hw,Below.refl _ _,{tmps:=_,defers:=[]},ht,?_,?_⟩
 ·simp[Frame.enter]
 ·conv=>lhs;rw[←he]
  exact .refl _ _
theorem lR.next (pok:POK P po) {c A B:Code} {l:List RS} {args V V':List AV} {h2 h3:AH} {x:AEx} (p:lR P po f n vm args h (.halt [.code c]) V h2) (hc:c= .seq A B)
  (hvm:vm.Nodup∧∀ j s,vm[j]? =some s→(j<nv↔s<po.nv f)) (htr:be P (po.mu f) (po.plan f) n vm A []=some l) (hrg:cE (po.plan f) (po.kp f) A=true)
  (hr:aq (aj P po) nv [.ss l,.halt [.code B]] V [] h2=some (x,V',h3)):lR P po f n vm args h x V' h3:=by
 intro m w vs hw hvs cs
 obtain⟨bf,t2,b1,b2,b3,rv,m1,w1,x1,x2,x3,a1,x4,x5,x6⟩:=p m w vs hw hvs cs
 obtain⟨t3,hp,rv3⟩:=oK pok hvm htr hrg hr rv
 have y5:=hp m1 w1 a1 bf cs x2 x4 x5
 have s0:Steps P (lone (Frame.enter P f vs.toArray .normal) cs w) (lone (bf.at a1 [.code A,.code B]) cs w1):=by
  refine x6.trans ?_
  conv=>lhs;rw[hc]
  exact .one step_seq
 exact⟨bf,t3,b1,b2,b3,rv3,bR.steps s0 (bR.after x1 x3 y5)⟩
theorem xd {fn:Func} {rs:List j9} {t V:List AV} {h:AH} {v:AV} (hres:iI P vm fn.results.toList=some rs) (rv:RV n vm [] t V []) (hv:(eL V h rs).map fq=some v):lO fn t h P=some v:=by
 unfold lO
 rw[fR (h:=h) rv hres]
 exact hv
theorem lR.ret {fn:Func} {rs:List j9} {args V:List AV} {h2:AH} {v:AV} (p:lR P po f n vm args h .ret V h2) (hf:P.funcs[f]? =some fn) (hres:iI P vm fn.results.toList=some rs) (hv:(eL V h2 rs).map fq=some v):AC P f args h (.inl v,h2):=by
 intro m w vs hw hvs cs
 obtain⟨bf,t2,b1,b2,b3,rv,m',w',x1,x2,x3,a',todo,x4,x5,x6⟩:=p m w vs hw hvs cs
 rw[b3]at x5
 obtain⟨u,h7,h8⟩:=fT x2 x4 (xd (h:=h2) hres rv hv)
 exact⟨.returned u,w',_,⟨m',x1,x2,x3,u,rfl,h8⟩,x6,b1,rfl,x5,b2,_,by simp[Frame.at,b1,hf],h7⟩
theorem HB {t V:List AV} {i:Nat} {v:AV} (rv:RV n vm [] t V []) (hi:i ∉ vm):RV n vm [] (bD t (some i) v) V []:=by
 refine⟨by simpa[bD]using rv.len,rv.lv,rv.ll,fun j s hj=> ?_,fun j s hj=>by simp at hj⟩
 obtain⟨h1,h2⟩:=rv.v j s hj
 refine⟨h1,?_⟩
 rw[←h2]
 have hne:i≠s:=fun e=>hi (by rw[e];exact List.mem_of_getElem? hj)
 simp[bD,List.getD,List.getElem?_set,hne]
def sq (a:Act) (caps:List Nat):List Value:=caps.map fun i=>a.tmps.getD i undef
theorem KM {m:Mm} {h2:AH} {t V:List AV} {a:Act} {caps js:List Nat} (rv:RV n vm [] t V []) (ht:TR P m h2 t a.tmps) (hc:caps=js.map fun j=>vm.getD j 0) (hj:∀ j∈js,j<vm.length):
  VRs P m h2 (js.map fun j=>V.getD j .junk) (sq a caps):=by
 subst hc
 refine⟨by simp[sq],fun i h1 h2=> ?_⟩
 simp only[List.length_map]at h1
 have hlt:=hj _ (List.getElem_mem h1)
 have hs:vm[js[i]]? =some (vm.getD js[i] 0):=by simp[List.getD,hlt]
 obtain⟨q1,q2⟩:=rv.v _ _ hs
 have:=Kf ht (i:=vm.getD js[i] 0) (by rw[rv.len];exact q1)
 rw[q2]at this
 simpa[sq]using this
theorem VRs.extG {m m':Mm} {h h':AH} {l:List AV} {us:List Value} (v:VRs P m h l us) (x:Ext m h m' h'):VRs P m' h' l us:=⟨v.1,fun j h1 h2=>(v.2 j h1 h2).ext x⟩
theorem Ci {P:Program} {t t':List AV} {h:AH}:∀ {l:List ResultVar},(∀ r∈l,∃ i ty,r= .cell i ty∧t.getD i .junk=t'.getD i .junk)→lK P t h l=lK P t' h l
 | [],_=>rfl
 | r::l,hl=>by
   obtain⟨i,ty,rfl,e⟩:=hl r (List.mem_cons_self ..)
   have ih:lK P t h l=lK P t' h l:=Ci fun q hq=>hl q (List.mem_cons_of_mem _ hq)
   simp only[lK,e,ih]
def DK (fCl:FuncId) (us:List Value):Value:= .func (.func fCl) #[] us.toArray
def pb (fCl:FuncId) (us:List Value):Deferred:={target:= .fn (.func fCl) us.toArray,args:= #[]}
inductive KP (P:Program) (fCl:FuncId) (capA:List AV) (h3 h4:AH):AEx→Prop
 | ret (cl:∀ (m:Mm) (w:World) (ps:List Value),WR P m h3 w→VRs P m h3 capA ps→CallsD P fCl ps.toArray .returning w fun e u'' w'=>(∃ v,e= .returned v)∧u''= .returning∧∃ m',Ext m h3 m' h4∧WR P m' h4 w'∧Below m.base w w'):KP P fCl capA h3 h4 .ret
 | panic (v:AV) (cl:∀ (m:Mm) (w:World) (ps:List Value) (u:Value),WR P m h3 w→VRs P m h3 capA ps→VR P m h3 v u→CallsD P fCl ps.toArray (.panicking [{v:=u,recovered:=false}]) w fun e u'' w'=>(∃ v,e= .returned v)∧u''= .panicking [{v:=u,recovered:=true}]∧∃ m',Ext m h3 m' h4∧WR P m' h4 w'∧Below m.base w w'):KP P fCl capA h3 h4 (.panic v)
theorem wI (pok:POK P po) {fn:Func} {rs:List j9} {args V V':List AV} {h2 h3 h4:AH} {cZ cW:Code} {fCl:FuncId} {k:Nat} {caps js:List Nat} {l:List RS} {x:AEx} {r:AV} (p:lR P po f n vm args h (.halt [.code cZ]) V h2) (hf:P.funcs[f]? =some fn) (hcf:∃ fnC,P.funcs[(fCl:Nat)]? =some fnC∧(fnC.body.isNone=false∧(fnC.name== "runtime.NumGoroutine")=false))
  (hk:k ∉ vm) (hc:caps=js.map fun j=>vm.getD j 0) (hj:∀ j∈js,j<vm.length)
  (lay:∀ (bf:Frame) (a:Act) (cs:List Frame) (w:World),a.tmps.size=n→Steps P (lone (bf.at a [.code cZ]) cs w) (lone (bf.at {a.put (some k) (DK fCl (sq a caps))with defers:=pb fCl (sq a caps)::a.defers} [.code cW]) cs w))
  (hvm:vm.Nodup∧∀ j s,vm[j]? =some s→(j<nv↔s<po.nv f)) (htr:be P (po.mu f) (po.plan f) n vm cW []=some l) (hrg:cE (po.plan f) (po.kp f) cW=true)
  (hr:aq (aj P po) nv [.ss l,.halt []] V [] h2=some (x,V',h3)) (hkp:∀ r∈fn.results.toList,∃ i ty,r= .cell i ty∧po.kp f i=true)
  (he:KP P fCl (js.map fun j=>V.getD j .junk) h3 h4 x) (hres:iI P vm fn.results.toList=some rs) (hv:(eL V' h4 rs).map fq=some r):AC P f args h (.inl r,h4):=by
 intro m w vs hw hvs cs
 obtain⟨bf,t2,b1,b2,b3,rv,m2,w2,x1,x2,x3,a2,x4,x5,x6⟩:=p m w vs hw hvs cs
 rw[b3]at x5
 have hsz:a2.tmps.size=n:=by rw[x4.1,rv.len]
 have lay:=lay bf a2 cs w2 hsz
 have vc:=KM rv x4 hc hj
 generalize sq a2 caps=us at lay vc
 rw[x5]at lay
 have ht3:=x4.put (VR.junk (DK fCl us)) (some k)
 have rv3:=HB (i:=k) (v:= .junk) rv hk
 obtain⟨t5,hp,rv5⟩:=oK pok hvm htr hrg hr rv3
 obtain⟨m3,w3,y1,y2,y3,y4⟩:=hp m2 w2 {a2.put (some k) (DK fCl us)with defers:=[pb fCl us]} {bf with defers:=[pb fCl us]} cs x2 ht3 rfl
 have vc3:=VRs.extG vc y1
 have ra:lO fn t5 h4 P=some r:=xd hres rv5 hv
 have inv:(invoke (.fn (.func fCl) us.toArray) #[]).run P w3= .ok (.enter fCl us.toArray) w3:=by
  obtain⟨fnC,g1,g2,g3⟩:=hcf
  have g3':¬ fnC.name= "runtime.NumGoroutine":=by simpa using g3
  have g2':¬ fnC.body=none:=by cases hb:fnC.body with | none=>rw[hb]at g2;cases g2 | some c=>simp
  simp[go_sem,callFunc,g1,g2',g3']
 have bel:∀ {m4:Mm} {w':World},Below m3.base w3 w'→Below m.base w w':=by
  intro m4 w' z3
  have q1:m2.base=m.base:=x1.base
  have q2:m3.base=m2.base:=y1.base
  rw[q2,q1]at z3
  rw[q1]at y3
  exact(x3.trans y3).trans z3
 cases he with
 | ret cl=>
   obtain⟨a5,todo,z1,z2,z3⟩:=y4
   have hlv:Leaves P fn a5.tmps (fun e w'=>∃ m',Ext m h m' h4∧WR P m' h4 w'∧Below m.base w w'∧∃ u,e= .returned u∧VR P m' h4 r u) [pb fCl us] .returning w3:=by
    refine leaves_cons (f:=fCl) (args:=us.toArray) (by simp) inv ?_
    refine(cl m3 w3 us y2 vc3).mono ?_
    rintro e u'' w' ⟨⟨v,rfl⟩,rfl,m4,n1,n2,n3⟩
    obtain⟨u,h7,h8⟩:=fT n2 (z1.ext n1) ra
    exact⟨u,h7,m4,(x1.trans y1).trans n1,n2,bel (m4:=m4) n3,u,rfl,h8⟩
   obtain⟨e,w4,fr',hR,hs,hfn,hl⟩:=leaves_steps [pb fCl us] .returning w3 {(({bf with defers:=[pb fCl us]}:Frame).at a5 todo)with mode:= .returning} cs rfl z2 rfl (by simp[Frame.at,b1,hf]) (by simpa[Frame.at]using b2) hlv
   exact⟨e,w4,fr',hR,Comes.of_steps (x6.trans (lay.trans z3)) hs,hfn.trans b1,hl⟩
 | panic v cl=>
   obtain⟨a5,todo,u,⟨tm,z0,z1⟩,z2,z4,z3⟩:=y4
   have rm:lO fn tm h4 P=some r:=by
    rw[←ra]
    unfold lO
    rw[Ci fun q hq=>by obtain⟨i,ty,e,hi⟩:=hkp q hq;exact⟨i,ty,e,z1 i hi⟩]
   have hlv:Leaves P fn a5.tmps (fun e w'=>∃ m',Ext m h m' h4∧WR P m' h4 w'∧Below m.base w w'∧∃ u,e= .returned u∧VR P m' h4 r u) [pb fCl us] (.panicking [{v:=u,recovered:=false}]) w3:=by
    refine leaves_cons (f:=fCl) (args:=us.toArray) (by simp) inv ?_
    refine(cl m3 w3 us u y2 vc3 z4).mono ?_
    rintro e u'' w' ⟨⟨v,rfl⟩,rfl,m4,n1,n2,n3⟩
    obtain⟨u2,h7,h8⟩:=fT n2 (z0.ext n1) rm
    exact⟨u2,h7,m4,(x1.trans y1).trans n1,n2,bel (m4:=m4) n3,u2,rfl,h8⟩
   obtain⟨e,w4,fr',hR,hs,hfn,hl⟩:=leaves_steps [pb fCl us] (.panicking [{v:=u,recovered:=false}]) w3 {(({bf with defers:=[pb fCl us]}:Frame).at a5 todo)with mode:= .panicking [{v:=u,recovered:=false}]} cs rfl z2 rfl (by simp[Frame.at,b1,hf]) (by simpa[Frame.at]using b2) hlv
   exact⟨e,w4,fr',hR,Comes.of_steps (x6.trans (lay.trans z3)) hs,hfn.trans b1,hl⟩
theorem C1 (c:Frame) (h:c.mode= .returning) (cs:List Frame):recoverD (c::cs)=none:=by simp[recoverD,h]
theorem Ao {v:Value} (c:Frame) (h:c.mode= .panicking [{v:=v,recovered:=false}]) (cs:List Frame):recoverD (c::cs)=some (v,{c with mode:= .panicking [{v:=v,recovered:=true}]}::cs):=by simp[recoverD,h]
def EH (P:Program) (c:Code) (n s1 s2:Nat):Prop:=∀ (ts:Array Value) (v:Value) (cs cs':List Frame) (w:World),ts.size=n→(recoverD cs=some (v,cs')∨(recoverD cs=none∧v= .nilIface∧cs'=cs))→
 c.wpS P (fun e a' cs2 w'=>e= .normal∧cs2=cs'∧w'=w∧a'=(({tmps:=ts,defers:=[]}:Act).put (some s1) v).put (some s2) v) {tmps:=ts,defers:=[]} cs w
theorem clG {fnC:Func} {cC:Code} {s1 s2:Nat} (pok:POK P po) {l:List RS} {caps V V':List AV} {h':AH} {e:AV} (hf:P.funcs[f]? =some fnC) (hb:fnC.body=some cC) (hseq:cC= .seq (cL cC) (cR cC)) (hn:fnC.ntmps=n) (hr0:∀ (a:Array Value) (w:World),∃ v,(results fnC a).run P w= .ok v w)
  (hrec:EH P (cL cC) n s1 s2) (hvm:vm.Nodup∧∀ j s,vm[j]? =some s→(j<nv↔s<po.nv f)) (htr:be P (po.mu f) (po.plan f) n vm (cR cC) []=some l) (hrg:cE (po.plan f) (po.kp f) (cR cC)=true)
  (hr:aq (aj P po) nv [.ss l,.halt []] V [] h=some (.halt [],V',h')) (rv:RV n vm [] (bD (bD (caps++List.replicate (n - caps.length) .junk) (some s1) e) (some s2) e) V [])
  {m:Mm} {w:World} {ps:List Value} {v:Value} (hw:WR P m h w) (hvs:VRs P m h caps ps) (hcl:caps.length≤n) (ve:VR P m h e v) {u:FrameMode} (u':FrameMode)
  (hu':∀ c:Frame,c.mode=u→∀ cs,(recoverD (c::cs)=some (v,{c with mode:=u'}::cs))∨(recoverD (c::cs)=none∧v= .nilIface∧u'=u)):
  CallsD P f ps.toArray u w fun e u'' w'=>(∃ v,e= .returned v)∧u''=u'∧∃ m',Ext m h m' h'∧WR P m' h' w'∧Below m.base w w':=by
 intro c cs hu
 have he:=mT hf hb ps .deferred
 have ht:=mg (P:=P) (h:=h) (k:=n) hvs
 generalize hbb:Frame.enter P f ps.toArray .deferred=b at he
 have hbk:b.kind= .deferred:=by rw[←hbb];simp[Frame.enter]
 have hbf:b.fn=f:=by rw[←hbb];simp[Frame.enter]
 have hbr:b.roundOf=none:=by rw[←hbb];simp[Frame.enter]
 rw[hn]at he
 generalize ha:(ps++List.replicate (n - ps.length) undef).toArray=ts at he ht
 have h1:Steps P (lone b (c::cs) w) (lone (b.at {tmps:=ts,defers:=[]} [.code (cL cC),.code (cR cC)]) (c::cs) w):=by
  rw[←he]
  conv=>lhs;rw[hseq]
  exact .one step_seq
 have hsz:ts.size=n:=by
  rw[ht.1]
  simp only[List.length_append,List.length_replicate]
  omega
 have hcs:recoverD (c::cs)=some (v,{c with mode:=u'}::cs)∨(recoverD (c::cs)=none∧v= .nilIface∧({c with mode:=u'}:Frame)::cs=c::cs):=by
  rcases hu' c hu cs with h1 | ⟨h1,h2,h3⟩
  ·exact .inl h1
  ·have h4:({c with mode:=u'}:Frame)=c:=by rw[h3,←hu]
   exact .inr ⟨h1,h2,by rw[h4]⟩
 obtain⟨e1,a1,cs1,w1,⟨rfl,rfl,rfl,rfl⟩,harr⟩:=hrec ts v _ _ w hsz hcs b [.code (cR cC)] hbk hbr
 have ht1:=(ht.put (a:={tmps:=ts,defers:=[]}) ve (some s1)).put ve (some s2)
 obtain⟨t',hp,hrv⟩:=oK pok hvm htr hrg hr rv
 obtain⟨m',w',x1,x2,x3,a',x4,x5,x6⟩:=hp m w1 _ {b with defers:=[]} ({c with mode:=u'}::cs) hw ht1 rfl
 have hfin:Steps P (lone b (c::cs) w1) (lone {b.at a' []with mode:= .returning} ({c with mode:=u'}::cs) w'):=h1.trans (harr.trans (x6.trans (.one step_end)))
 obtain⟨v0,hv0⟩:=hr0 a'.tmps w'
 refine⟨.returned v0,u',w',_,⟨⟨_,rfl⟩,rfl,m',x1,x2,x3⟩,hfin,hbk,rfl,x5,fnC,?_,hv0⟩
 show P.funcs[b.fn]? =_
 rw[hbf]
 exact hf
end
def we:List RS:=[(.ops [(.i (.v 5) (.box 3 (.v 3))),(.i (.v 6) (.box 1 (.v 4))),(.i (.v 7) (.alloc [(.int .i64 0),(.int .i64 0),.nils])),(.i (.v 8) (.alloc [(.int .i64 0)])),(.i (.v 9) (.alloc [(.int .i64 0)]))])]
def kJ:List RS:=[(.block 0 [(.ops [(.i .l (.load false 1 (.v 6))),(.i .l (.bin (.int .i64) .lss (.l 0) (.c (.int .i64 0)))),(.i .l (.mv (.l 0))),(.g (.l 0) false .l (.load false 1 (.v 6))),(.g (.l 1) false .l (.bin (.int .i64) .gtr (.l 0) (.c (.int .i64 2000)))),(.i .l (.pick (.l 2) (.c (.bool true)) (.l 0))),(.i .l (.mv (.l 0))),(.g (.l 0) false .l (.mv (.v 1))),(.g (.l 1) false .l (.bin (.int .i64) .lss (.l 0) (.c (.int .i64 0)))),(.i .l (.pick (.l 2) (.c (.bool true)) (.l 0))),(.i .l (.mv (.l 0))),(.g (.l 0) false .l (.mv (.v 1))),(.g (.l 1) false .l (.bin (.int .i64) .geq (.l 0) (.c (.int .i64 4)))),(.i .l (.pick (.l 2) (.c (.bool true)) (.l 0))),(.i (.v 14) (.mv (.l 0)))]),(.cond (.v 14) [(.ops [(.i .l (.build [(.int .i64 0),(.int .i64 0),.nils] [(0,1),(1,1),(2,1)] [])),(.i .n (.store 3 (.v 7) (.l 0))),(.i .n (.store 1 (.v 8) (.c (.int .i64 0)))),(.i .n (.store 1 (.v 9) (.c (.int .i64 1))))]),.ret] [(.ops [(.i .l (.mv (.v 0))),(.i .l (.mv (.v 1))),(.i .l (.nilc (.l 1))),(.i .l (.fad 2 (.l 0))),(.i .l (.ixa none (some (4,5)) (.l 0) (.l 2))),(.i .l (.fad 0 (.l 0))),(.i .l (.load false 1 (.l 0))),(.i .l (.un .not (.l 0))),(.i .l (.mv (.l 0))),(.g (.l 0) false .l (.mv (.v 2))),(.g (.l 1) false .l (.bin (.int .i64) .lss (.l 0) (.c (.int .i64 0)))),(.i .l (.pick (.l 2) (.c (.bool true)) (.l 0))),(.i .l (.mv (.l 0))),(.g (.l 0) false .l (.mv (.v 2))),(.g (.l 1) false .l (.mv (.v 0))),(.g (.l 2) false .l (.mv (.v 1))),(.g (.l 3) false .l (.nilc (.l 1))),(.g (.l 4) false .l (.fad 2 (.l 0))),(.g (.l 5) false .l (.ixa none (some (4,5)) (.l 0) (.l 2))),(.g (.l 6) false .l (.fad 1 (.l 0))),(.g (.l 7) false .l (.load false 1 (.l 0))),(.g (.l 8) false .l (.len false (some 158) (.l 0))),(.g (.l 9) false .l (.bin (.int .i64) .geq (.l 8) (.l 0))),(.i .l (.pick (.l 10) (.c (.bool true)) (.l 0))),(.i (.v 15) (.mv (.l 0)))]),(.cond (.v 15) [(.ops [(.i .l (.build [(.int .i64 0),(.int .i64 0),.nils] [(0,1),(1,1),(2,1)] [])),(.i .n (.store 3 (.v 7) (.l 0))),(.i .n (.store 1 (.v 8) (.c (.int .i64 0)))),(.i .n (.store 1 (.v 9) (.c (.int .i64 8))))]),.ret] [])])])]
def wd:List RS:=[(.ops [(.i .l (.load true 3 (.v 5))),(.i .l (.call (.c (.fn 18 [] [])) [(.l 0)])),(.i (.v 10) (.mv (.l 0)))]),(.ops [(.i .l (.mv (.v 10))),(.i (.v 16) (.bin (.int .i64) .neq (.l 0) (.c (.int .i64 0))))]),(.cond (.v 16) [(.ops [(.i .l (.build [(.int .i64 0),(.int .i64 0),.nils] [(0,1),(1,1),(2,1)] [])),(.i .l (.mv (.v 10))),(.i .n (.store 3 (.v 7) (.l 1))),(.i .n (.store 1 (.v 8) (.c (.int .i64 0)))),(.i .n (.store 1 (.v 9) (.l 0)))]),.ret] [])]
def vO:List RS:=[(.ops [(.i .l (.mv (.v 0))),(.i .l (.load false 1 (.v 6))),(.i .l (.build [.nilp,.nils,(.int .i64 0)] [(0,1),(1,1),(2,1)] [(0,(.l 1)),(2,(.l 0))])),(.i .l (.box 3 (.l 0))),(.i (.v 11) (.alloc [.nilp])),(.i .n (.store 1 (.v 11) (.l 0)))])]
def wa:List RS:=[(.ops [(.i .l (.load false 1 (.v 11))),(.i .l (.mv (.v 1))),(.i .l (.mv (.v 2))),(.i .l (.load true 3 (.v 5))),(.i .l (.call (.c (.fn 46 [] [])) [(.l 0)])),(.ck [⟨none,false,1,(.v 11),(.l 4)⟩]),(.i .l (.build [(.int .i64 0),(.int .i64 0),(.int .i64 0),(.int .i64 0),(.int .i64 0),.nils,.nils,.nils,(.bool false),.nils] [(0,1),(1,1),(2,1),(3,3),(6,1),(7,1),(8,1),(9,1)] [(0,(.l 3)),(1,(.l 2)),(3,(.l 0))])),(.i .l (.bsl true 126 [(.int .i64 0),(.int .i64 0),(.int .i64 0),(.int .i64 0),(.int .i64 0),.nils,.nils,.nils,(.bool false),.nils] 10 1 [(0,(.l 0))])),(.ck [⟨none,false,1,(.v 11),(.l 6)⟩]),(.i .l (.nilc (.l 6))),(.i .l (.fad 1 (.l 0))),(.i .n (.store 1 (.l 0) (.l 2)))])]
def gS:List RS:=[(.block 2 [(.ops [(.i .l (.load false 1 (.v 11))),(.i .l (.call (.c (.fn 48 [] [])) [(.l 0)])),(.i .l (.mv (.l 0))),(.i .l (.ext (.l 0) 0)),(.i .l (.ext (.l 1) 1)),(.i (.v 12) (.alloc [(.int .i64 0),(.int .i64 0),.nils])),(.i .n (.store 3 (.v 12) (.l 1))),(.i (.v 13) (.mv (.l 0)))]),(.ops [(.i (.v 17) (.mv (.v 13)))]),(.cond (.v 17) [(.ops [(.i .l (.load true 3 (.v 12))),(.i .l (.load false 1 (.v 6))),(.i .l (.load false 1 (.v 11))),(.i .l (.nilc (.l 0))),(.i .l (.fad 2 (.l 0))),(.i .l (.load false 1 (.l 0))),(.i .l (.bin (.int .i64) .sub (.l 4) (.l 0))),(.i .l (.call (.c (.fn 46 [] [])) [(.l 6)])),(.ck [⟨none,false,1,(.v 6),(.l 6)⟩,⟨none,false,1,(.v 11),(.l 5)⟩,⟨none,false,1,(.l 3),(.l 2)⟩]),(.i .n (.store 3 (.v 7) (.l 0))),(.ck [⟨none,false,1,(.v 6),(.l 6)⟩,⟨none,false,1,(.v 11),(.l 5)⟩,⟨none,false,1,(.l 3),(.l 2)⟩]),(.i .n (.store 1 (.v 8) (.l 1))),(.i .n (.store 1 (.v 9) (.c (.int .i64 0))))]),.ret] [])])]
def qk:List RS:=[(.block 1 [(.loop gS)])]
def zD:List RS:=[(.ops [(.i .l (.mv (.v 5))),(.i (.v 8) (.binG .iface none true .neq (.l 0) (.c .nili)))]),(.cond (.v 8) [(.ops [(.i .l (.mv (.v 5))),(.i .l (.tas 127 true (.l 0))),(.i .l (.mv (.l 0))),(.i .l (.ext (.l 0) 0)),(.i .l (.ext (.l 1) 1)),(.i (.v 6) (.mv (.l 1))),(.i (.v 7) (.mv (.l 0)))]),(.ops [(.i .l (.mv (.v 7))),(.i (.v 9) (.un .not (.l 0)))]),(.cond (.v 9) [(.ops [(.i .l (.mv (.v 5))),(.i .n (.pan (.l 0)))])] []),(.ops [(.i .l (.build [(.int .i64 0),(.int .i64 0),.nils] [(0,1),(1,1),(2,1)] [])),(.i .l (.load false 1 (.v 0))),(.i .l (.load false 1 (.v 1))),(.i .l (.nilc (.l 0))),(.i .l (.fad 2 (.l 0))),(.i .l (.load false 1 (.l 0))),(.i .l (.bin (.int .i64) .sub (.l 4) (.l 0))),(.i .l (.mv (.v 6))),(.i .n (.store 3 (.v 2) (.l 7))),(.i .n (.store 1 (.v 3) (.l 1))),(.i .n (.store 1 (.v 4) (.l 0)))])] [])]
def pX:List RS:=[(.ops [(.i (.v 1) (.mv (.c (.int .i64 0)))),(.i (.v 2) (.mv (.c (.int .i64 0))))]),(.ops [(.i .l (.mv (.v 0))),(.i .l (.nilc (.l 0))),(.i .l (.fad 1 (.l 0))),(.i .l (.load false 1 (.l 0))),(.i .l (.len false (some 4) (.l 0))),(.i (.v 3) (.bin (.int .i64) .eql (.l 0) (.c (.int .i64 20))))]),(.cond (.v 3) [(.ops [(.i (.v 1) (.mv (.c (.int .i64 0)))),(.i (.v 2) (.mv (.c (.int .i64 11))))]),.ret] []),(.ops [(.i .l (.mv (.v 0))),(.i .l (.mv (.v 0))),(.i .l (.nilc (.l 0))),(.i .l (.fad 1 (.l 0))),(.i .l (.load false 1 (.l 0))),(.i .l (.bsl true 4 [(.bool false)] 1 1 [(0,(.c (.bool false)))])),(.i .l (.app true 4 (.l 1) (.l 0))),(.i .l (.nilc (.l 6))),(.i .l (.fad 1 (.l 0))),(.i .n (.store 1 (.l 0) (.l 2)))]),(.ops [(.i .l (.mv (.v 0))),(.i .l (.nilc (.l 0))),(.i .l (.fad 1 (.l 0))),(.i .l (.load false 1 (.l 0))),(.i .l (.len false (some 4) (.l 0))),(.i .l (.bin (.int .i64) .sub (.l 0) (.c (.int .i64 1)))),(.i (.v 1) (.mv (.l 0))),(.i (.v 2) (.mv (.c (.int .i64 0))))]),.ret]
theorem xO:FnR Try.prog po 58 1 4 [0,2,3,9] pX [(.v 1),(.v 2)] false:=⟨_,_,Try.func58,rfl,rfl,by kernel_rfl,by kernel_rfl,by kernel_rfl,by kernel_rfl,by kernel_rfl⟩
def Ce:List RS:=[(.ops [(.i (.v 2) (.mv (.c (.bool false))))]),(.ops [(.i .l (.mv (.v 1))),(.i .l (.bin (.int .i64) .geq (.l 0) (.c (.int .i64 0)))),(.i .l (.mv (.l 0))),(.g (.l 0) true .l (.mv (.v 1))),(.g (.l 1) true .l (.mv (.v 0))),(.g (.l 2) true .l (.nilc (.l 0))),(.g (.l 3) true .l (.fad 1 (.l 0))),(.g (.l 4) true .l (.load false 1 (.l 0))),(.g (.l 5) true .l (.len false (some 4) (.l 0))),(.g (.l 6) true .l (.bin (.int .i64) .lss (.l 5) (.l 0))),(.i .l (.pick (.l 7) (.l 0) (.c (.bool false)))),(.i (.v 2) (.mv (.l 0)))]),.ret]
theorem Hy:FnR Try.prog po 89 2 3 [0,1,4] Ce [(.v 2)] true:=⟨_,_,Try.func89,rfl,rfl,by kernel_rfl,by kernel_rfl,by kernel_rfl,by kernel_rfl,by kernel_rfl⟩
def uV:List RS:=[(.ops [(.i (.v 2) (.mv (.c (.int .i64 0))))]),(.ops [(.i .l (.mv (.v 0))),(.i .l (.mv (.v 1))),(.i .l (.call (.c (.fn 89 [] [])) [(.l 1),(.l 0)])),(.i (.v 3) (.un .not (.l 0)))]),(.cond (.v 3) [(.ops [(.i (.v 2) (.mv (.c (.int .i64 8))))]),.ret] []),(.ops [(.i .l (.mv (.v 0))),(.i .l (.nilc (.l 0))),(.i .l (.fad 1 (.l 0))),(.i .l (.load false 1 (.l 0))),(.i .l (.mv (.v 1))),(.i .l (.ixa (some 4) none (.l 1) (.l 0))),(.i .n (.store 1 (.l 0) (.c (.bool true))))]),(.ops [(.i (.v 2) (.mv (.c (.int .i64 0))))]),.ret]
theorem AR:FnR Try.prog po 57 2 4 [0,1,4,8] uV [(.v 2)] false:=⟨_,_,Try.func57,rfl,rfl,by kernel_rfl,by kernel_rfl,by kernel_rfl,by kernel_rfl,by kernel_rfl⟩
def yA:List RS:=[(.ops [(.i (.v 2) (.mv (.c (.bool false))))]),(.ops [(.i .l (.mv (.v 0))),(.i .l (.mv (.v 1))),(.i .l (.call (.c (.fn 89 [] [])) [(.l 1),(.l 0)])),(.i .l (.mv (.l 0))),(.g (.l 0) true .l (.mv (.v 0))),(.g (.l 1) true .l (.nilc (.l 0))),(.g (.l 2) true .l (.fad 1 (.l 0))),(.g (.l 3) true .l (.load false 1 (.l 0))),(.g (.l 4) true .l (.mv (.v 1))),(.g (.l 5) true .l (.ixa (some 4) none (.l 1) (.l 0))),(.g (.l 6) true .l (.load false 1 (.l 0))),(.g (.l 7) true .l (.un .not (.l 0))),(.i .l (.pick (.l 8) (.l 0) (.c (.bool false)))),(.i (.v 2) (.mv (.l 0)))]),.ret]
theorem DN:FnR Try.prog po 140 2 3 [0,1,4] yA [(.v 2)] true:=⟨_,_,Try.func140,rfl,rfl,by kernel_rfl,by kernel_rfl,by kernel_rfl,by kernel_rfl,by kernel_rfl⟩
def Bd:List RS:=[(.ops [(.i (.v 2) (.mv (.c (.bool false))))]),(.ops [(.i .l (.mv (.v 1))),(.i .l (.bin (.int .i64) .geq (.l 0) (.c (.int .i64 0)))),(.i .l (.mv (.l 0))),(.g (.l 0) true .l (.mv (.v 1))),(.g (.l 1) true .l (.mv (.v 0))),(.g (.l 2) true .l (.nilc (.l 0))),(.g (.l 3) true .l (.fad 0 (.l 0))),(.g (.l 4) true .l (.load false 1 (.l 0))),(.g (.l 5) true .l (.len false (some 103) (.l 0))),(.g (.l 6) true .l (.bin (.int .i64) .lss (.l 5) (.l 0))),(.i .l (.pick (.l 7) (.l 0) (.c (.bool false)))),(.i (.v 2) (.mv (.l 0)))]),.ret]
theorem Hl:FnR Try.prog po 94 2 3 [0,1,4] Bd [(.v 2)] true:=⟨_,_,Try.func94,rfl,rfl,by kernel_rfl,by kernel_rfl,by kernel_rfl,by kernel_rfl,by kernel_rfl⟩
def jD:List RS:=[(.ops [(.i (.v 2) (.box 6 (.v 1))),(.i (.v 3) (.mv (.c (.int .i64 0)))),(.i (.v 4) (.mv (.c (.int .i64 0))))]),(.block 0 [(.ops [(.i .l (.fad 2 (.v 2))),(.i .l (.load false 1 (.l 0))),(.i .l (.call (.c (.fn 112 [] [])) [(.l 0)])),(.i .l (.un .not (.l 0))),(.i (.v 5) (.mv (.l 0)))]),(.cond (.v 5) [(.ops [(.i (.v 3) (.mv (.c (.int .i64 0)))),(.i (.v 4) (.mv (.c (.int .i64 1))))]),.ret] [(.ops [(.i .l (.fad 1 (.v 2))),(.i .l (.load false 1 (.l 0))),(.i .l (.bin (.int .i64) .neq (.l 0) (.c (.int .i64 (-1))))),(.i .l (.mv (.l 0))),(.g (.l 0) true .l (.mv (.v 0))),(.g (.l 1) true .l (.fad 1 (.v 2))),(.g (.l 2) true .l (.load false 1 (.l 0))),(.g (.l 3) true .l (.call (.c (.fn 89 [] [])) [(.l 2),(.l 0)])),(.g (.l 4) true .l (.un .not (.l 0))),(.i .l (.pick (.l 5) (.l 0) (.c (.bool false)))),(.i (.v 6) (.mv (.l 0)))]),(.cond (.v 6) [(.ops [(.i (.v 3) (.mv (.c (.int .i64 0)))),(.i (.v 4) (.mv (.c (.int .i64 8))))]),.ret] [(.ops [(.i .l (.mv (.v 0))),(.i .l (.nilc (.l 0))),(.i .l (.fad 0 (.l 0))),(.i .l (.load false 1 (.l 0))),(.i .l (.len false (some 103) (.l 0))),(.i .l (.bin (.int .i64) .eql (.l 0) (.c (.int .i64 80)))),(.i (.v 7) (.mv (.l 0)))]),(.cond (.v 7) [(.ops [(.i (.v 3) (.mv (.c (.int .i64 0)))),(.i (.v 4) (.mv (.c (.int .i64 11))))]),.ret] [])])])]),(.ops [(.i .l (.mv (.v 0))),(.i .l (.mv (.v 0))),(.i .l (.nilc (.l 0))),(.i .l (.fad 0 (.l 0))),(.i .l (.load false 1 (.l 0))),(.i .l (.load true 6 (.v 2))),(.i .l (.bsl false 103 [(.int .i64 0),(.int .i64 0),(.int .i64 0),(.int .i64 0),(.int .i64 0),(.int .i64 0)] 6 1 [(0,(.l 0))])),(.ck [⟨none,false,1,(.l 3),(.l 2)⟩]),(.i .l (.app false 103 (.l 2) (.l 0))),(.i .l (.nilc (.l 7))),(.i .l (.fad 0 (.l 0))),(.i .n (.store 1 (.l 0) (.l 2)))]),(.ops [(.i .l (.mv (.v 0))),(.i .l (.nilc (.l 0))),(.i .l (.fad 0 (.l 0))),(.i .l (.load false 1 (.l 0))),(.i .l (.len false (some 103) (.l 0))),(.i .l (.bin (.int .i64) .sub (.l 0) (.c (.int .i64 1)))),(.i (.v 3) (.mv (.l 0))),(.i (.v 4) (.mv (.c (.int .i64 0))))]),.ret]
theorem lj:FnR Try.prog po 88 2 8 [0,1,3,4,5,6,11,22] jD [(.v 3),(.v 4)] false:=⟨_,_,Try.func88,rfl,rfl,by kernel_rfl,by kernel_rfl,by kernel_rfl,by kernel_rfl,by kernel_rfl⟩
def sb:List RS:=[(.ops [(.i (.v 4) (.mv (.c (.int .i64 0)))),(.i (.v 5) (.mv (.c (.int .i64 0))))]),(.ops [(.i .l (.mv (.v 1))),(.i .l (.call (.c (.fn 87 [] [])) [(.l 0)])),(.i (.v 6) (.un .not (.l 0)))]),(.cond (.v 6) [(.ops [(.i (.v 4) (.mv (.c (.int .i64 0)))),(.i (.v 5) (.mv (.c (.int .i64 1))))]),.ret] []),(.ops [(.i .l (.mv (.v 0))),(.i .l (.mv (.v 3))),(.i .l (.mv (.v 2))),(.i .l (.mv (.v 1))),(.i .l (.build [(.int .i64 0),(.int .i64 0),(.int .i64 0),(.int .i64 0),(.int .i64 0),(.int .i64 0)] [(0,1),(1,1),(2,1),(3,1),(4,1),(5,1)] [(0,(.c (.int .i64 (-1)))),(1,(.l 2)),(2,(.l 1)),(3,(.l 0)),(4,(.c (.int .i64 (-1))))])),(.i .l (.call (.c (.fn 88 [] [])) [(.l 4),(.l 0)])),(.i .l (.ext (.l 0) 0)),(.i .l (.ext (.l 1) 1)),(.i (.v 4) (.mv (.l 1))),(.i (.v 5) (.mv (.l 0)))]),.ret]
theorem wo:FnR Try.prog po 53 4 7 [0,1,2,3,8,9,12] sb [(.v 4),(.v 5)] false:=⟨_,_,Try.func53,rfl,rfl,by kernel_rfl,by kernel_rfl,by kernel_rfl,by kernel_rfl,by kernel_rfl⟩
def sj:List RS:=[(.ops [(.i (.v 5) (.mv (.c (.int .i64 0)))),(.i (.v 6) (.mv (.c (.int .i64 0))))]),(.ops [(.i .l (.mv (.v 1))),(.i .l (.bin (.int .i64) .lss (.l 0) (.c (.int .i64 0)))),(.i .l (.mv (.l 0))),(.g (.l 0) false .l (.mv (.v 1))),(.g (.l 1) false .l (.bin (.int .i64) .geq (.l 0) (.c (.int .i64 4)))),(.i .l (.pick (.l 2) (.c (.bool true)) (.l 0))),(.i .l (.mv (.l 0))),(.g (.l 0) false .l (.mv (.v 2))),(.g (.l 1) false .l (.bin (.int .i64) .lss (.l 0) (.c (.int .i64 0)))),(.i .l (.pick (.l 2) (.c (.bool true)) (.l 0))),(.i .l (.mv (.l 0))),(.g (.l 0) false .l (.mv (.v 2))),(.g (.l 1) false .l (.bin (.int .i64) .geq (.l 0) (.c (.int .i64 6)))),(.i (.v 7) (.pick (.l 2) (.c (.bool true)) (.l 0)))]),(.cond (.v 7) [(.ops [(.i (.v 5) (.mv (.c (.int .i64 0)))),(.i (.v 6) (.mv (.c (.int .i64 1))))]),.ret] []),(.ops [(.i .l (.mv (.v 0))),(.i .l (.mv (.v 4))),(.i .l (.mv (.v 3))),(.i .l (.mv (.v 1))),(.i .l (.mv (.v 2))),(.i .l (.build [(.int .i64 0),(.int .i64 0),(.int .i64 0),(.int .i64 0),(.int .i64 0),(.int .i64 0)] [(0,1),(1,1),(2,1),(3,1),(4,1),(5,1)] [(0,(.c (.int .i64 (-1)))),(1,(.l 3)),(2,(.l 2)),(4,(.l 1)),(5,(.l 0))])),(.i .l (.call (.c (.fn 88 [] [])) [(.l 5),(.l 0)])),(.i .l (.ext (.l 0) 0)),(.i .l (.ext (.l 1) 1)),(.i (.v 5) (.mv (.l 1))),(.i (.v 6) (.mv (.l 0)))]),.ret]
theorem wn:FnR Try.prog po 55 5 8 [0,1,2,3,4,10,11,25] sj [(.v 5),(.v 6)] false:=⟨_,_,Try.func55,rfl,rfl,by kernel_rfl,by kernel_rfl,by kernel_rfl,by kernel_rfl,by kernel_rfl⟩
def lW:List RS:=[(.ops [(.i (.v 4) (.mv (.c (.int .i64 0)))),(.i (.v 5) (.mv (.c (.int .i64 0))))]),(.ops [(.i .l (.mv (.v 0))),(.i .l (.mv (.v 1))),(.i .l (.call (.c (.fn 94 [] [])) [(.l 1),(.l 0)])),(.i (.v 6) (.un .not (.l 0)))]),(.cond (.v 6) [(.ops [(.i (.v 4) (.mv (.c (.int .i64 0)))),(.i (.v 5) (.mv (.c (.int .i64 8))))]),.ret] []),(.ops [(.i .l (.mv (.v 0))),(.i .l (.mv (.v 1))),(.i .l (.mv (.v 3))),(.i .l (.mv (.v 2))),(.i .l (.build [(.int .i64 0),(.int .i64 0),(.int .i64 0),(.int .i64 0),(.int .i64 0),(.int .i64 0)] [(0,1),(1,1),(2,1),(3,1),(4,1),(5,1)] [(0,(.l 2)),(1,(.l 1)),(2,(.l 0)),(4,(.c (.int .i64 (-1))))])),(.i .l (.call (.c (.fn 88 [] [])) [(.l 4),(.l 0)])),(.i .l (.ext (.l 0) 0)),(.i .l (.ext (.l 1) 1)),(.i (.v 4) (.mv (.l 1))),(.i (.v 5) (.mv (.l 0)))]),.ret]
theorem qd:FnR Try.prog po 79 4 7 [0,1,2,3,8,9,13] lW [(.v 4),(.v 5)] false:=⟨_,_,Try.func79,rfl,rfl,by kernel_rfl,by kernel_rfl,by kernel_rfl,by kernel_rfl,by kernel_rfl⟩
def iF:List RS:=[(.ops [(.i .l (.mv (.v 0))),(.i .l (.mv (.v 1))),(.i (.v 4) (.call (.c (.fn 94 [] [])) [(.l 1),(.l 0)]))]),(.cond (.v 4) [] [(.exit 0)]),(.block 1 [(.ops [(.i .l (.mv (.v 3))),(.i .l (.mv (.v 0))),(.i .l (.nilc (.l 0))),(.i .l (.fad 0 (.l 0))),(.i .l (.load false 1 (.l 0))),(.i .l (.mv (.v 1))),(.i .l (.ixa (some 103) none (.l 1) (.l 0))),(.i .l (.load true 6 (.l 0))),(.i .l (.bsl false 103 [(.int .i64 0),(.int .i64 0),(.int .i64 0),(.int .i64 0),(.int .i64 0),(.int .i64 0)] 6 1 [(0,(.l 0))])),(.i .l (.app false 103 (.l 8) (.l 0))),(.i (.v 3) (.mv (.l 0)))]),(.ops [(.i .l (.mv (.v 0))),(.i .l (.nilc (.l 0))),(.i .l (.fad 0 (.l 0))),(.i .l (.load false 1 (.l 0))),(.i .l (.mv (.v 1))),(.i .l (.ixa (some 103) none (.l 1) (.l 0))),(.i .l (.fad 0 (.l 0))),(.i .l (.load false 1 (.l 0))),(.i (.v 1) (.mv (.l 0)))])])]
def wu:List RS:=[(.ops [(.i (.v 2) (.mv (.c .nils)))]),(.ops [(.i (.v 3) (.mv (.c .nils)))]),(.block 0 [(.loop iF)]),(.ops [(.i .l (.mv (.v 3))),(.i (.v 2) (.mv (.l 0)))]),.ret]
theorem EI:FnR Try.prog po 67 2 5 [0,1,4,5,8] wu [(.v 2)] true:=⟨_,_,Try.func67,rfl,rfl,by kernel_rfl,by kernel_rfl,by kernel_rfl,by kernel_rfl,by kernel_rfl⟩
def eJ:List RS:=[(.ops [(.i (.v 9) (.bin (.int .i64) .lss (.v 8) (.v 7)))]),(.cond (.v 9) [] [(.exit 0)]),(.block 1 [(.ops [(.i .l (.mv (.v 8))),(.i .l (.ixa (some 103) none (.v 6) (.v 8))),(.i .l (.load true 6 (.l 0))),(.i (.v 5) (.alloc [(.int .i64 0),(.int .i64 0),(.int .i64 0),(.int .i64 0),(.int .i64 0),(.int .i64 0)])),(.i (.v 4) (.mv (.l 2))),(.i .n (.store 6 (.v 5) (.l 0)))]),(.ops [(.i .l (.fad 1 (.v 5))),(.i .l (.load false 1 (.l 0))),(.i .l (.bin (.int .i64) .geq (.l 0) (.c (.int .i64 0)))),(.i .l (.mv (.l 0))),(.g (.l 0) true .l (.mv (.v 0))),(.g (.l 1) true .l (.fad 1 (.v 5))),(.g (.l 2) true .l (.load false 1 (.l 0))),(.g (.l 3) true .l (.call (.c (.fn 140 [] [])) [(.l 2),(.l 0)])),(.g (.l 4) true .l (.un .not (.l 0))),(.i (.v 10) (.pick (.l 5) (.l 0) (.c (.bool false))))]),(.cond (.v 10) [(.ops [(.i (.v 2) (.mv (.c (.int .i64 0))))]),.ret] []),(.ops [(.i .l (.mv (.v 4))),(.i (.v 11) (.bin (.int .i64) .eql (.l 0) (.c (.int .i64 0))))]),(.cond (.v 11) [(.ops [(.i (.v 3) (.mv (.c (.int .i64 15))))])] []),(.ops [(.i .l (.mv (.v 3))),(.i .l (.fad 2 (.v 5))),(.i .l (.load false 1 (.l 0))),(.i .l (.call (.c (.fn 141 [] [])) [(.l 2),(.l 0)])),(.i (.v 3) (.mv (.l 0)))])]),(.ops [(.i .l (.bin (.int .i64) .add (.v 8) (.c (.int .i64 1)))),(.i (.v 8) (.mv (.l 0)))])]
def qE:List RS:=[(.ops [(.i (.v 2) (.mv (.c (.int .i64 0))))]),(.ops [(.i (.v 3) (.mv (.c (.int .i64 0))))]),(.ops [(.i .l (.mv (.v 0))),(.i .l (.mv (.v 1))),(.i (.v 6) (.call (.c (.fn 67 [] [])) [(.l 1),(.l 0)])),(.i (.v 7) (.len false (some 103) (.v 6))),(.i (.v 8) (.mv (.c (.int .i64 0))))]),(.block 0 [(.loop eJ)]),(.ops [(.i .l (.mv (.v 3))),(.i (.v 2) (.mv (.l 0)))]),.ret]
theorem Au:FnR Try.prog po 133 2 12 [0,1,4,5,6,7,10,11,12,13,26,28] qE [(.v 2)] true:=⟨_,_,Try.func133,rfl,rfl,by kernel_rfl,by kernel_rfl,by kernel_rfl,by kernel_rfl,by kernel_rfl⟩
def qM:List RS:=[(.ops [(.i (.v 2) (.alloc [(.int .i64 0),(.int .i64 0),(.int .i64 0),(.int .i64 0),(.int .i64 0),(.int .i64 0)])),(.i (.v 3) (.mv (.c (.bool false))))]),(.ops [(.i .l (.mv (.v 0))),(.i .l (.mv (.v 1))),(.i .l (.call (.c (.fn 67 [] [])) [(.l 1),(.l 0)])),(.i (.v 4) (.mv (.l 0)))]),(.ops [(.i .l (.mv (.v 4))),(.i .l (.len false (some 103) (.l 0))),(.i (.v 5) (.bin (.int .i64) .eql (.l 0) (.c (.int .i64 0))))]),(.cond (.v 5) [(.ops [(.i .l (.build [(.int .i64 0),(.int .i64 0),(.int .i64 0),(.int .i64 0),(.int .i64 0),(.int .i64 0)] [(0,1),(1,1),(2,1),(3,1),(4,1),(5,1)] [])),(.i .n (.store 6 (.v 2) (.l 0))),(.i (.v 3) (.mv (.c (.bool false))))]),.ret] []),(.ops [(.i .l (.mv (.v 4))),(.i .l (.mv (.v 4))),(.i .l (.len false (some 103) (.l 0))),(.i .l (.bin (.int .i64) .sub (.l 0) (.c (.int .i64 1)))),(.i .l (.ixa (some 103) none (.l 3) (.l 0))),(.i .l (.load true 6 (.l 0))),(.i .n (.store 6 (.v 2) (.l 0))),(.i (.v 3) (.mv (.c (.bool true))))]),.ret]
theorem zP:FnR Try.prog po 38 2 6 [0,1,4,5,6,12] qM [(.cell true 6 2),(.v 3)] true:=⟨_,_,Try.func38,rfl,rfl,by kernel_rfl,by kernel_rfl,by kernel_rfl,by kernel_rfl,by kernel_rfl⟩
def gJ:List RS:=[(.ops [(.i (.v 8) (.bin (.int .i64) .lss (.v 7) (.v 6)))]),(.cond (.v 8) [] [(.exit 0)]),(.block 1 [(.ops [(.i .l (.ixa (some 103) none (.v 5) (.v 7))),(.i .l (.load true 6 (.l 0))),(.i (.v 4) (.alloc [(.int .i64 0),(.int .i64 0),(.int .i64 0),(.int .i64 0),(.int .i64 0),(.int .i64 0)])),(.i .n (.store 6 (.v 4) (.l 0)))]),(.ops [(.i .l (.fad 1 (.v 4))),(.i .l (.load false 1 (.l 0))),(.i (.v 9) (.bin (.int .i64) .geq (.l 0) (.c (.int .i64 0))))]),(.cond (.v 9) [(.ops [(.i .l (.mv (.v 3))),(.i .l (.fad 1 (.v 4))),(.i .l (.load false 1 (.l 0))),(.i .l (.bsl false 3 [(.int .i64 0)] 1 1 [(0,(.l 0))])),(.i .l (.app false 3 (.l 3) (.l 0))),(.i (.v 3) (.mv (.l 0)))])] [])]),(.ops [(.i .l (.bin (.int .i64) .add (.v 7) (.c (.int .i64 1)))),(.i (.v 7) (.mv (.l 0)))])]
def sK:List RS:=[(.ops [(.i (.v 2) (.mv (.c .nils)))]),(.ops [(.i (.v 3) (.mv (.c .nils)))]),(.ops [(.i .l (.mv (.v 0))),(.i .l (.mv (.v 1))),(.i (.v 5) (.call (.c (.fn 67 [] [])) [(.l 1),(.l 0)])),(.i (.v 6) (.len false (some 103) (.v 5))),(.i (.v 7) (.mv (.c (.int .i64 0))))]),(.block 0 [(.loop gJ)]),(.ops [(.i .l (.mv (.v 3))),(.i (.v 2) (.mv (.l 0)))]),.ret]
theorem DD:FnR Try.prog po 138 2 10 [0,1,4,5,7,10,11,12,13,18] sK [(.v 2)] true:=⟨_,_,Try.func138,rfl,rfl,by kernel_rfl,by kernel_rfl,by kernel_rfl,by kernel_rfl,by kernel_rfl⟩
def ud:List RS:=[(.ops [(.i (.v 1) (.mv (.c .nils)))]),(.ops [(.i .l (.mv (.v 0))),(.i .l (.nilc (.l 0))),(.i .l (.fad 0 (.l 0))),(.i .l (.load false 1 (.l 0))),(.i .l (.call (.c (.fn 62 [] [])) [(.l 0)])),(.i (.v 1) (.mv (.l 0)))]),.ret]
theorem Do:FnR Try.prog po 30 1 2 [0,2] ud [(.v 1)] true:=⟨_,_,Try.func30,rfl,rfl,by kernel_rfl,by kernel_rfl,by kernel_rfl,by kernel_rfl,by kernel_rfl⟩
def BH:List RS:=[(.ops [(.i (.v 0) (.mv (.c .nilp)))]),(.ops [(.i .l (.build [.nils,.nils] [(0,1),(1,1)] [])),(.i .l (.box 2 (.l 0))),(.i (.v 0) (.mv (.l 0)))]),.ret]
theorem IT:FnR Try.prog po 68 0 1 [0] BH [(.v 0)] false:=⟨_,_,Try.func68,rfl,rfl,by kernel_rfl,by kernel_rfl,by kernel_rfl,by kernel_rfl,by kernel_rfl⟩
def nM:List RS:=[(.ops [(.i (.v 1) (.mv (.c .nils)))]),(.ops [(.i .l (.mv (.v 0))),(.i (.v 2) (.bin .slice .eql (.l 0) (.c .nils)))]),(.cond (.v 2) [(.ops [(.i (.v 1) (.mv (.c .nils)))]),.ret] []),(.ops [(.i .l (.bsl false 103 [(.int .i64 0),(.int .i64 0),(.int .i64 0),(.int .i64 0),(.int .i64 0),(.int .i64 0)] 6 0 [])),(.i .l (.mv (.v 0))),(.i .l (.app false 103 (.l 1) (.l 0))),(.i (.v 1) (.mv (.l 0)))]),.ret]
theorem tx:FnR Try.prog po 62 1 3 [0,2,4] nM [(.v 1)] true:=⟨_,_,Try.func62,rfl,rfl,by kernel_rfl,by kernel_rfl,by kernel_rfl,by kernel_rfl,by kernel_rfl⟩
def AG:List RS:=[(.ops [(.i (.v 1) (.mv (.c (.bool false))))]),(.ops [(.i .l (.mv (.v 0))),(.i .l (.bin (.int .i64) .geq (.l 0) (.c (.int .i64 0)))),(.i .l (.mv (.l 0))),(.g (.l 0) true .l (.mv (.v 0))),(.g (.l 1) true .l (.bin (.int .i64) .lss (.l 0) (.c (.int .i64 12)))),(.i .l (.pick (.l 2) (.l 0) (.c (.bool false)))),(.i (.v 1) (.mv (.l 0)))]),.ret]
theorem I0:FnR Try.prog po 87 1 2 [0,2] AG [(.v 1)] true:=⟨_,_,Try.func87,rfl,rfl,by kernel_rfl,by kernel_rfl,by kernel_rfl,by kernel_rfl,by kernel_rfl⟩
def eO:List RS:=[(.ops [(.i .l (.mv (.v 3))),(.i .l (.mv (.v 0))),(.i .l (.len false (some 103) (.l 0))),(.i (.v 5) (.bin (.int .i64) .lss (.l 2) (.l 0)))]),(.cond (.v 5) [] [(.exit 0)]),(.block 1 [(.ops [(.i .l (.mv (.v 0))),(.i .l (.mv (.v 3))),(.i .l (.ixa (some 103) none (.l 1) (.l 0))),(.i .l (.load true 6 (.l 0))),(.i .l (.mv (.v 1))),(.i .l (.mv (.v 3))),(.i .l (.ixa (some 103) none (.l 1) (.l 0))),(.i .l (.load true 6 (.l 0))),(.i (.v 6) (.binG .agg (some [(.int .i64),(.int .i64),(.int .i64),(.int .i64),(.int .i64),(.int .i64)]) false .neq (.l 4) (.l 0)))]),(.cond (.v 6) [(.ops [(.i (.v 2) (.mv (.c (.bool false))))]),.ret] [])]),(.ops [(.i .l (.mv (.v 3))),(.i .l (.bin (.int .i64) .add (.l 0) (.c (.int .i64 1)))),(.i (.v 3) (.mv (.l 0)))])]
def nI:List RS:=[(.ops [(.i (.v 2) (.mv (.c (.bool false))))]),(.ops [(.i .l (.mv (.v 0))),(.i .l (.len false (some 103) (.l 0))),(.i .l (.mv (.v 1))),(.i .l (.len false (some 103) (.l 0))),(.i (.v 4) (.bin (.int .i64) .neq (.l 2) (.l 0)))]),(.cond (.v 4) [(.ops [(.i (.v 2) (.mv (.c (.bool false))))]),.ret] []),(.ops [(.i (.v 3) (.mv (.c (.int .i64 0))))]),(.block 0 [(.loop eO)]),(.ops [(.i (.v 2) (.mv (.c (.bool true))))]),.ret]
theorem uE:FnR Try.prog po 32 2 7 [0,1,4,5,10,14,25] nI [(.v 2)] true:=⟨_,_,Try.func32,rfl,rfl,by kernel_rfl,by kernel_rfl,by kernel_rfl,by kernel_rfl,by kernel_rfl⟩
def Bb:List RS:=[(.ops [(.i (.v 2) (.mv (.c (.bool false))))]),(.ops [(.i .l (.mv (.v 1))),(.i .l (.bin (.int .i64) .geq (.l 0) (.c (.int .i64 0)))),(.i .l (.mv (.l 0))),(.g (.l 0) true .l (.mv (.v 1))),(.g (.l 1) true .l (.mv (.v 0))),(.g (.l 2) true .l (.nilc (.l 0))),(.g (.l 3) true .l (.fad 1 (.l 0))),(.g (.l 4) true .l (.load false 1 (.l 0))),(.g (.l 5) true .l (.len false (some 4) (.l 0))),(.g (.l 6) true .l (.bin (.int .i64) .lss (.l 5) (.l 0))),(.i .l (.pick (.l 7) (.l 0) (.c (.bool false)))),(.i (.v 2) (.mv (.l 0)))]),.ret]
theorem Hd:FnR Try.prog po 104 2 3 [0,1,4] Bb [(.v 2)] true:=⟨_,_,Try.func104,rfl,rfl,by kernel_rfl,by kernel_rfl,by kernel_rfl,by kernel_rfl,by kernel_rfl⟩
def jW:List RS:=[(.ops [(.i (.v 2) (.box 6 (.v 1))),(.i (.v 3) (.mv (.c (.int .i64 0)))),(.i (.v 4) (.mv (.c (.int .i64 0))))]),(.ops [(.i .l (.fad 2 (.v 2))),(.i .l (.load false 1 (.l 0))),(.i .l (.bin (.int .i64) .lss (.l 0) (.c (.int .i64 0)))),(.i .l (.mv (.l 0))),(.g (.l 0) false .l (.fad 2 (.v 2))),(.g (.l 1) false .l (.load false 1 (.l 0))),(.g (.l 2) false .l (.bin (.int .i64) .gtr (.l 0) (.c (.int .i64 15)))),(.i (.v 5) (.pick (.l 3) (.c (.bool true)) (.l 0)))]),(.cond (.v 5) [(.ops [(.i (.v 3) (.mv (.c (.int .i64 0)))),(.i (.v 4) (.mv (.c (.int .i64 1))))]),.ret] []),(.ops [(.i .l (.fad 1 (.v 2))),(.i .l (.load false 1 (.l 0))),(.i .l (.bin (.int .i64) .neq (.l 0) (.c (.int .i64 (-1))))),(.i .l (.mv (.l 0))),(.g (.l 0) true .l (.mv (.v 0))),(.g (.l 1) true .l (.fad 1 (.v 2))),(.g (.l 2) true .l (.load false 1 (.l 0))),(.g (.l 3) true .l (.call (.c (.fn 104 [] [])) [(.l 2),(.l 0)])),(.g (.l 4) true .l (.un .not (.l 0))),(.i (.v 6) (.pick (.l 5) (.l 0) (.c (.bool false))))]),(.cond (.v 6) [(.ops [(.i (.v 3) (.mv (.c (.int .i64 0)))),(.i (.v 4) (.mv (.c (.int .i64 8))))]),.ret] []),(.ops [(.i .l (.mv (.v 0))),(.i .l (.nilc (.l 0))),(.i .l (.fad 0 (.l 0))),(.i .l (.load false 1 (.l 0))),(.i .l (.len false (some 103) (.l 0))),(.i (.v 7) (.bin (.int .i64) .geq (.l 0) (.c (.int .i64 80))))]),(.cond (.v 7) [(.ops [(.i (.v 3) (.mv (.c (.int .i64 0)))),(.i (.v 4) (.mv (.c (.int .i64 11))))]),.ret] []),(.ops [(.i .l (.mv (.v 0))),(.i .l (.mv (.v 0))),(.i .l (.nilc (.l 0))),(.i .l (.fad 0 (.l 0))),(.i .l (.load false 1 (.l 0))),(.i .l (.load true 6 (.v 2))),(.i .l (.bsl false 103 [(.int .i64 0),(.int .i64 0),(.int .i64 0),(.int .i64 0),(.int .i64 0),(.int .i64 0)] 6 1 [(0,(.l 0))])),(.ck [⟨none,false,1,(.l 3),(.l 2)⟩]),(.i .l (.app false 103 (.l 2) (.l 0))),(.i .l (.nilc (.l 7))),(.i .l (.fad 0 (.l 0))),(.i .n (.store 1 (.l 0) (.l 2)))]),(.ops [(.i .l (.mv (.v 0))),(.i .l (.nilc (.l 0))),(.i .l (.fad 0 (.l 0))),(.i .l (.load false 1 (.l 0))),(.i .l (.len false (some 103) (.l 0))),(.i .l (.bin (.int .i64) .sub (.l 0) (.c (.int .i64 1)))),(.i (.v 3) (.mv (.l 0))),(.i (.v 4) (.mv (.c (.int .i64 0))))]),.ret]
theorem kZ:FnR Try.prog po 105 2 8 [0,1,3,4,5,13,23,29] jW [(.v 3),(.v 4)] false:=⟨_,_,Try.func105,rfl,rfl,by kernel_rfl,by kernel_rfl,by kernel_rfl,by kernel_rfl,by kernel_rfl⟩
def rU:List RS:=[(.ops [(.i (.v 4) (.mv (.c (.int .i64 0)))),(.i (.v 5) (.mv (.c (.int .i64 0))))]),(.ops [(.i .l (.mv (.v 1))),(.i .l (.bin (.int .i64) .lss (.l 0) (.c (.int .i64 0)))),(.i .l (.mv (.l 0))),(.g (.l 0) false .l (.mv (.v 1))),(.g (.l 1) false .l (.bin (.int .i64) .geq (.l 0) (.c (.int .i64 12)))),(.i (.v 6) (.pick (.l 2) (.c (.bool true)) (.l 0)))]),(.cond (.v 6) [(.ops [(.i (.v 4) (.mv (.c (.int .i64 0)))),(.i (.v 5) (.mv (.c (.int .i64 1))))]),.ret] []),(.ops [(.i .l (.mv (.v 0))),(.i .l (.mv (.v 3))),(.i .l (.mv (.v 2))),(.i .l (.mv (.v 1))),(.i .l (.build [(.int .i64 0),(.int .i64 0),(.int .i64 0),(.int .i64 0),(.int .i64 0),(.int .i64 0)] [(0,1),(1,1),(2,1),(3,1),(4,1),(5,1)] [(0,(.c (.int .i64 (-1)))),(1,(.l 2)),(2,(.l 1)),(3,(.l 0)),(4,(.c (.int .i64 (-1))))])),(.i .l (.call (.c (.fn 105 [] [])) [(.l 4),(.l 0)])),(.i .l (.ext (.l 0) 0)),(.i .l (.ext (.l 1) 1)),(.i (.v 4) (.mv (.l 1))),(.i (.v 5) (.mv (.l 0)))]),.ret]
theorem wX:FnR Try.prog po 77 4 7 [0,1,2,3,8,9,15] rU [(.v 4),(.v 5)] false:=⟨_,_,Try.func77,rfl,rfl,by kernel_rfl,by kernel_rfl,by kernel_rfl,by kernel_rfl,by kernel_rfl⟩
open Go.RowKit
theorem IC (y:BitVec 64):((y &&& 1#64).toInt==1)=y.getLsbD 0:=by
 have h:(y &&& 1#64).toNat=y.toNat % 2:=by
  rw[BitVec.toNat_and]
  exact Nat.and_one_is_mod _
 have hb:y.getLsbD 0=decide (y.toNat % 2=1):=by
  rw[BitVec.getLsbD,Nat.testBit_zero]
 rw[hb,Bool.eq_iff_iff,beq_iff_eq,decide_eq_true_eq,BitVec.toInt_eq_toNat_cond,h]
 split<;>omega
theorem Cb (x:BitVec 64) {k:Nat} (hk:k<64):eX x.toInt k=x.getLsbD k:=by
 unfold eX
 have e:x.toInt / 2 ^ k=(x.sshiftRight k).toInt:=by
  rw[BitVec.toInt_sshiftRight,Int.shiftRight_eq_div_pow]
  simp
 rw[e,rc,nj]
 show((_ &&& 1#64).toInt==1)=_
 rw[IC,BitVec.getLsbD_sshiftRight]
 simp
 omega
open Go.RowKit
theorem zh (P:List bi) (hP:∀ n∈P,hD n.rights=true) (v:BitVec 64):P.foldl (fun r n=>lF r n.rights) v.toInt=(P.foldl (fun v n=>v &&& BitVec.ofInt 64 n.rights) v).toInt:=by
 induction P generalizing v with
 | nil=>rfl
 | cons n P ih=>
   rw[List.foldl_cons,List.foldl_cons]
   have e:lF v.toInt n.rights=(v &&& BitVec.ofInt 64 n.rights).toInt:=by
    unfold lF
    rw[rc,nj]
   rw[e,ih (fun m hm=>hP m (by simp[hm]))]
theorem CX (n:bi):(aC n).length=6:=rfl
theorem DJ (n:bi):(aC n).all AV.one=true:=rfl
theorem Iu (n:bi):(aC n)[0]? =some (.int .i64 n.parent):=rfl
theorem IR (n:bi):(aC n)[1]? =some (.int .i64 n.gate):=rfl
theorem HY (n:bi):(aC n)[2]? =some (.int .i64 n.rights):=rfl
theorem HV (n:bi):(aC n)[3]? =some (.int .i64 n.cell):=rfl
theorem HO (n:bi):(aC n)[4]? =some (.int .i64 n.plugin):=rfl
theorem Id (n:bi):(aC n)[5]? =some (.int .i64 n.func):=rfl
theorem ez:(∀ n,(aC n).length=6)∧(∀ n,(aC n).all AV.one=true)∧(∀ n:bi,(aC n)[0]? =some (.int .i64 n.parent))∧(∀ n:bi,(aC n)[1]? =some (.int .i64 n.gate))∧(∀ n:bi,(aC n)[2]? =some (.int .i64 n.rights))∧(∀ n:bi,(aC n)[3]? =some (.int .i64 n.cell))∧
  (∀ n:bi,(aC n)[4]? =some (.int .i64 n.plugin))∧(∀ n:bi,(aC n)[5]? =some (.int .i64 n.func)):=⟨CX,DJ,Iu,IR,HY,HV,HO,Id⟩
theorem nh.isL {h:AH} {J:Nat→Prop} {e:TypeId} {v:AV} {rows:List (List AV)} (g:nh h J e v rows):IsL e v rows:=by
 rcases g with⟨rfl,rfl⟩ | ⟨id,_,_,_,_,rfl⟩
 ·exact qv e
 ·exact mZ _ _ _
theorem nC.len {h:AH} {F:Nat→Prop} {b:Nat} {e:TypeId} {v:AV} {rows:List (List AV)} (g:nC h F b e v rows):dR v=some rows.length∧∀ s,cN s (some e) v=true:=by
 rcases g with⟨rfl,rfl⟩ | ⟨q,_,_,_,_,rfl⟩
 ·exact⟨rfl,fun s=>rfl⟩
 ·exact⟨rfl,fun s=>i4⟩
theorem nh.grew {h h':AH} {J:Nat→Prop} {e:TypeId} {v:AV} {rows:List (List AV)} (g:nh h J e v rows) (x:ae h h'):nh h' J e v rows:=by
 rcases g with h1 | ⟨id,h1,h0,h2,h3,h4⟩
 ·exact .inl h1
 ·exact .inr ⟨id,h1,h0,Nat.lt_of_lt_of_le h2 x.ids,(x.hw id h2).trans h3,h4⟩
theorem nC.grew {h h':AH} {F:Nat→Prop} {b:Nat} {e:TypeId} {v:AV} {rows:List (List AV)} (g:nC h F b e v rows) (x:ae h h'):nC h' F b e v rows:=by
 rcases g with h1 | ⟨q,h1,h2,h3,h4,h5⟩
 ·exact .inl h1
 ·exact .inr ⟨q,h1,h2,Nat.lt_of_lt_of_le h3 x.n,(x.cell q h3).trans h4,h5⟩
theorem IsG.grew {h h':AH} {F J:Nat→Prop} {b:Nat} {G:af} (g:IsG h F J b G) (x:ae h h'):IsG h' F J b G:=by
 obtain⟨nv,sv,h1,h2,h3⟩:=g.ex
 exact⟨⟨g.hb.1,Nat.lt_of_lt_of_le g.hb.2 x.n⟩,⟨fun k hk=>Nat.lt_of_lt_of_le (g.lt.1 k hk) x.n,fun j hj=>Nat.lt_of_lt_of_le (g.lt.2 j hj) x.ids⟩,nv,sv,(x.cell b g.hb.2).trans h1,h2.grew x,h3.grew x⟩
theorem Bs {h:AH} {F:Nat→Prop} {b:Nat} {sv:AV} {l:List Bool} (g:nC h F b tB sv (l.map fun x=>[.bool x])) {m:Nat} (hm:m<l.length):
  ∃ q,bQ (some tB) none sv (.int .i64 (m:Int))=some (.ptr q m 0)∧h.cell q=some (l.map fun x=>[.bool x])∧(l.map fun x=>[AV.bool x])[m]? =some [.bool (l.getD m false)]∧F q∧q≠b∧q<h.n∧sv= .msl q 0 l.length tB:=by
 rcases g with⟨h1,_⟩ | ⟨q,h1,h2,h3,h4,rfl⟩
 ·simp at h1;subst h1;simp at hm
 ·exact⟨q,by simp[bQ,hm],h4,by simp[hm,List.getD],h1,h2,h3,by simp⟩
theorem af.gate_nat {G:af} {k:Int} (hh:G.hasGate k=true):∃ m:Nat,k=m∧m<G.shut.length:=by
 simp[af.hasGate]at hh
 exact⟨k.toNat,by omega,by omega⟩
theorem af.has_nn {G:af} {k:Int} (hh:G.has k=true):0≤k:=by simp[af.has]at hh;exact hh.1
theorem af.node_nat {G:af} {k:Int} (hh:G.has k=true):∃ m:Nat,k=m∧m<G.nodes.length∧(G.nodes.map aC)[m]? =some (aC (G.nodes.getD m d9)):=by
 simp[af.has]at hh
 have hl:k.toNat<G.nodes.length:=by omega
 exact⟨k.toNat,by omega,hl,by simp[hl,List.getD]⟩
section
variable {h:AH} {F J:Nat→Prop} {b:Nat} {G:af}
theorem yv (g:IsG h F J b G) (k:Int):aj Try.prog po 89 [.ptr b 0 0,.int .i64 k] h=some (.inl (.bool (G.hasGate k)),h):=by
 obtain⟨nv,sv,h1, -,h3⟩:=g.ex
 refine ah Hy rfl ?_;unfold Ce
 by_cases h0:0≤k<;>simp only[sim,ag,Nat.reduceAdd,Nat.reduceSub,List.replicate,reduceCtorEq,Nat.reduceLeDiff,Nat.reduceLT,aa,h0,h1,h3.len.1,h3.len.2,nx,af.hasGate,List.length_map]
theorem Ly (g:IsG h F J b G) (k:Int):aj Try.prog po 104 [.ptr b 0 0,.int .i64 k] h=some (.inl (.bool (G.hasGate k)),h):=by
 obtain⟨nv,sv,h1, -,h3⟩:=g.ex
 refine ah Hd rfl ?_;unfold Bb
 by_cases h0:0≤k<;>simp only[sim,ag,Nat.reduceAdd,Nat.reduceSub,List.replicate,reduceCtorEq,Nat.reduceLeDiff,Nat.reduceLT,aa,h0,h1,h3.len.1,h3.len.2,nx,af.hasGate,List.length_map]
theorem wY (g:IsG h F J b G) (k:Int):aj Try.prog po 94 [.ptr b 0 0,.int .i64 k] h=some (.inl (.bool (G.has k)),h):=by
 obtain⟨nv,sv,h1,h2, -⟩:=g.ex
 refine ah Hl rfl ?_;unfold Bd
 by_cases h0:0≤k<;>simp only[sim,ag,Nat.reduceAdd,Nat.reduceSub,List.replicate,reduceCtorEq,Nat.reduceLeDiff,Nat.reduceLT,aa,h0,h1,h2.isL.len,h2.isL.fits,nx,af.has,List.length_map]
theorem Lf (g:IsG h F J b G) (k:Int):aj Try.prog po 140 [.ptr b 0 0,.int .i64 k] h=some (.inl (.bool (G.isOpen k)),h):=by
 obtain⟨nv,sv,h1, -,h3⟩:=g.ex
 refine ah DN rfl ?_;unfold yA
 cases hh:G.hasGate k
 ·simp only[sim,ag,Nat.reduceAdd,Nat.reduceSub,List.replicate,reduceCtorEq,Nat.reduceLeDiff,Nat.reduceLT,aa,yv g,hh,af.isOpen]
 ·obtain⟨m,rfl,hm⟩:=af.gate_nat hh
  obtain⟨q,e1,e2,e3, -⟩:=Bs h3 hm
  simp only[sim,ag,Nat.reduceAdd,Nat.reduceSub,List.replicate,reduceCtorEq,Nat.reduceLeDiff,Nat.reduceLT,aa,yv g,hh,h1,e1,e2,e3,af.isOpen,Int.toNat_natCast]
theorem y7 (g:IsG h F J b G) (hW:G.Wf) (rest:List RS):∀ (f:Nat) (i:Int) (acc:List bi) (h':AH) (v tt:AV),i+1≤f→(G.has i=true→acc.length+i.toNat<200)→Acc h h' tN v (acc.map aC)→ae h h'→
  ∃ h'' v' i' t,aq (aj Try.prog po) 5 [.lp iF,.ss [],.blk 0,.ss rest] [.ptr b 0 0,.int .i64 i,.nils,v,tt] [] h'=aq (aj Try.prog po) 5 [.ss rest] [.ptr b 0 0,i',.nils,v',t] [] h''∧Acc h h'' tN v' ((acc++G.path i).map aC)∧ae h h'':=by
 intro f
 induction f with
 | zero=>
   intro i acc h' v tt hi hf ha hg
   have g':=g.grew hg
   have hh:G.has i=false:=by simp[af.has];omega
   rw[aG iF.eq_1]
   refine⟨h',v,.int .i64 i,.bool false,?_,by rw[af.path_no hh,List.append_nil];exact ha,hg⟩
   simp only[sim,ag,Nat.reduceAdd,Nat.reduceSub,List.replicate,reduceCtorEq,Nat.reduceLeDiff,Nat.reduceLT,aa,wY g',hh]
 | succ f ih=>
   intro i acc h' v tt hi hf ha hg
   have g':=g.grew hg
   obtain⟨nv,sv,h1,h2, -⟩:=g'.ex
   rw[aG iF.eq_1]
   cases hh:G.has i
   ·refine⟨h',v,.int .i64 i,.bool false,?_,by rw[af.path_no hh,List.append_nil];exact ha,hg⟩
    simp only[sim,ag,Nat.reduceAdd,Nat.reduceSub,List.replicate,reduceCtorEq,Nat.reduceLeDiff,Nat.reduceLT,aa,wY g',hh]
   ·obtain⟨m,rfl,hm,hm2⟩:=af.node_nat hh
    have hf:=hf hh
    have hix:=h2.isL.ix .i64 m _ hm2
    obtain⟨v',h2',e1,a1,a2,a3,a4⟩:=mr ha hg (row:=aC (G.nodes.getD m d9)) rfl (by simp;omega)
    simp only[sim,ag,Nat.reduceAdd,Nat.reduceSub,List.replicate,reduceCtorEq,Nat.reduceLeDiff,Nat.reduceLT,aa,wY g',hh,h1,hix,e1,a3,ez]
    have ok:=hW.get hh
    have hp:=ok.p1
    have hp0:=ok.p0
    simp only[Int.toNat_natCast]at hp hp0 hf
    obtain⟨h'',w',i',t,r1,r2,r3⟩:=ih (G.nodes.getD m d9).parent (acc++[G.nodes.getD m d9]) h2' v' (.bool true) (by omega) (by
     intro hpp
     have:=af.has_nn hpp
     simp only[List.length_append,List.length_singleton]
     omega) (by simpa using a1) a2
    refine⟨h'',w',i',t,r1,?_,r3⟩
    rw[af.path_yes hW hh]
    simpa using r2
theorem af.path_few {G:af} (hW:G.Wf) (i:Int):(G.path i).length≤81:=by
 have key:∀ (f:Nat) (i:Int),(G.pathF f i).length≤f:=by
  intro f
  induction f with
  | zero=>intro i;simp[af.pathF]
  | succ f ih=>
    intro i
    unfold af.pathF
    split
    ·have:=ih (G.nodes.getD i.toNat d9).parent
     rw[List.length_cons]
     omega
    ·simp
 by_cases hh:G.has i=true
 ·have:=key (i.toNat+1) i
  simp[af.has]at hh
  have:=hW.few
  unfold af.path
  omega
 ·rw[af.path_no (by simpa using hh)]
  simp
theorem lN (l:List bi):∀ r∈l.map aC,r.all kv=true:=by
 intro r hr
 obtain⟨n,_,rfl⟩:=List.mem_map.1 hr
 rfl
theorem Cu (l:List Int):∀ r∈l.map (fun x=>[AV.int .i64 x]),r.all kv=true:=by
 intro r hr
 obtain⟨n,_,rfl⟩:=List.mem_map.1 hr
 rfl
theorem yU (g:IsG h F J b G) (hW:G.Wf) (i:Int):aj Try.prog po 67 [.ptr b 0 0,.int .i64 i] h=some (.inl (eH tN ((G.path i).map aC)),h):=by
 refine ah EI rfl ?_;unfold wu
 obtain⟨h'',v',i',t,r1,r2,r3⟩:=y7 g hW [.ops [(.i .l (.mv (.v 3))),(.i (.v 2) (.mv (.l 0)))],.ret] (i+1).toNat i [] h .nils .junk (by omega) (by
  intro hh
  have:=hW.few
  simp[af.has]at hh
  simp;omega) (kU _ _ _) (ae.refl h)
 simp only[sim,ag,Nat.reduceAdd,Nat.reduceSub,List.replicate,reduceCtorEq,Nat.reduceLeDiff,Nat.reduceLT,aa,r1,aB r3 (yZ r2 (lN _))]
end
def ow:List RS:=[(.ops [(.i (.v 1) (.mv (.c (.bool false))))]),(.ops [(.i .l (.mv (.v 0))),(.i .l (.bin (.int .i64) .geq (.l 0) (.c (.int .i64 0)))),(.i .l (.mv (.l 0))),(.g (.l 0) true .l (.mv (.v 0))),(.g (.l 1) true .l (.bin (.int .i64) .leq (.l 0) (.c (.int .i64 15)))),(.i .l (.pick (.l 2) (.l 0) (.c (.bool false)))),(.i (.v 1) (.mv (.l 0)))]),.ret]
theorem sX:FnR Try.prog po 112 1 2 [0,2] ow [(.v 1)] true:=⟨_,_,Try.func112,rfl,rfl,by kernel_rfl,by kernel_rfl,by kernel_rfl,by kernel_rfl,by kernel_rfl⟩
def yb:List RS:=[(.ops [(.i (.v 2) (.mv (.c (.int .i64 0))))]),(.ops [(.i .l (.mv (.v 0))),(.i .l (.mv (.v 1))),(.i .l (.bin (.int .i64) .and (.l 1) (.l 0))),(.i (.v 2) (.mv (.l 0)))]),.ret]
theorem E2:FnR Try.prog po 141 2 3 [0,1,4] yb [(.v 2)] true:=⟨_,_,Try.func141,rfl,rfl,by kernel_rfl,by kernel_rfl,by kernel_rfl,by kernel_rfl,by kernel_rfl⟩
section
variable {h:AH} {F J:Nat→Prop} {b:Nat} {G:af}
theorem D4 (x y:Int):aj Try.prog po 141 [.int .i64 x,.int .i64 y] h=some (.inl (.int .i64 (lF x y)),h):=by
 refine ah E2 rfl ?_;unfold yb
 simp only[sim,ag,Nat.reduceAdd,Nat.reduceSub,List.replicate,reduceCtorEq,Nat.reduceLeDiff,Nat.reduceLT,aa]
 rfl
theorem kW (x:Int):aj Try.prog po 112 [.int .i64 x] h=some (.inl (.bool (hD x)),h):=by
 refine ah sX rfl ?_;unfold ow
 by_cases h0:0≤x<;>simp only[sim,ag,Nat.reduceAdd,Nat.reduceSub,List.replicate,reduceCtorEq,Nat.reduceLeDiff,Nat.reduceLT,aa,h0,hD]
theorem AQ (x:Int):aj Try.prog po 87 [.int .i64 x] h=some (.inl (.bool (fP x)),h):=by
 refine ah I0 rfl ?_;unfold AG
 by_cases h0:0≤x<;>simp only[sim,ag,Nat.reduceAdd,Nat.reduceSub,List.replicate,reduceCtorEq,Nat.reduceLeDiff,Nat.reduceLT,aa,h0,fP]
def cB (G:af):Bool→Int→List bi→Int
 | _,r,[]=>r
 | first,r,n::l=>if eh G n then 0 else cB G false (lF (if first then 15 else r) n.rights) l
theorem j7 (G:af):∀ (l:List bi) (r:Int),cB G false r l=if l.any (eh G)then 0 else l.foldl (fun r n=>lF r n.rights) r
 | [],r=>rfl
 | n::l,r=>by
   simp only[cB,List.any_cons,List.foldl_cons,Bool.false_eq_true,if_false]
   rw[j7 G l]
   by_cases hc:eh G n=true<;>simp[hc]
theorem sD (G:af) (i:Int):cB G true 0 (G.path i)=G.rights i:=by
 unfold af.rights
 cases hp:G.path i with
 | nil=>simp[cB]
 | cons n l=>
   simp only[cB,if_true,j7,reduceCtorEq,false_or,List.any_cons,List.foldl_cons]
   cases hc:eh G n<;>simp
theorem vr (g:IsG h F J b G) (v1 p:AV) (P:List bi) (hp:IsL tN p (P.map aC)) (hP:P.length≤1000):∀ (l pre:List bi) (r:Int) (h':AH) (v4 v5 t1 t2 t3:AV),P=pre++l→ae h h'→
  cFR true [.v 2] h (aq (aj Try.prog po) 12 [.lp eJ,.ss [],.blk 0,.ss [.ops [(.i .l (.mv (.v 3))),(.i (.v 2) (.mv (.l 0)))],.ret]] [.ptr b 0 0,v1,.int .i64 0,.int .i64 r,v4,v5,p,.int .i64 P.length,.int .i64 pre.length,t1,t2,t3] [] h')=
   some (.inl (.int .i64 (cB G pre.isEmpty r l)),h):=by
 intro l
 induction l with
 | nil=>
   intro pre r h' v4 v5 t1 t2 t3 e hg
   rw[aG eJ.eq_1]
   have:¬ ((pre.length:Int)<(P.length:Int)):=by rw[e];simp
   simp only[sim,ag,Nat.reduceAdd,Nat.reduceSub,List.replicate,reduceCtorEq,Nat.reduceLeDiff,Nat.reduceLT,aa,this,cB,aB hg (rfl:wkA (.int .i64 r)=_)]
 | cons n l ih=>
   intro pre r h' v4 v5 t1 t2 t3 e hg
   rw[aG eJ.eq_1]
   have hlt:(pre.length:Int)<(P.length:Int):=by rw[e];simp;omega
   have hix:=hp.ix .i64 pre.length (aC n) (by rw[e];simp)
   have hg2:ae h (h'.push [aC n]):=hg.trans (ae.push _ _)
   have hw:=w64 (n:=(pre.length:Int)+1) (by omega) (by omega)
   have gO:=Lf (g.grew hg2)
   have hemp:pre.isEmpty=decide ((pre.length:Int)=0):=by cases pre<;>simp<;>omega
   have fin:∀ (r':Int) (v4 v5 t1 t2 t3:AV),cFR true [.v 2] h (aq (aj Try.prog po) 12 [.lp eJ,.ss [],.blk 0,.ss [.ops [(.i .l (.mv (.v 3))),(.i (.v 2) (.mv (.l 0)))],.ret]] [.ptr b 0 0,v1,.int .i64 0,.int .i64 r',v4,v5,p,.int .i64 P.length,.int .i64 ((pre.length:Int)+1),t1,t2,t3] [] (h'.push [aC n]))=some (.inl (.int .i64 (cB G false r' l)),h):=by
    intro r' v4 v5 t1 t2 t3
    have:=ih (pre++[n]) r' (h'.push [aC n]) v4 v5 t1 t2 t3 (by simp[e]) hg2
    have e1:(pre++[n]).isEmpty=false:=by cases pre<;>rfl
    have e2:((pre++[n]).length:Int)=(pre.length:Int)+1:=by simp
    rw[e1,e2]at this
    exact this
   by_cases h0:0≤n.gate
   ·cases hO:G.isOpen n.gate
    ·have hc:eh G n=true:=by simp[eh,h0,hO]
     simp only[sim,ag,Nat.reduceAdd,Nat.reduceSub,List.replicate,reduceCtorEq,Nat.reduceLeDiff,Nat.reduceLT,aa,hlt,hix,ez,h0,gO,hO,cB,hc,aB hg2 (rfl:wkA (.int .i64 0)=_)]
    ·have hc:eh G n=false:=by simp[eh,hO]
     cases hz:decide ((pre.length:Int)=0)<;>simp only[sim,ag,Nat.reduceAdd,Nat.reduceSub,List.replicate,reduceCtorEq,Nat.reduceLeDiff,Nat.reduceLT,aa,hlt,hix,ez,h0,gO,hO,cB,hc,D4,hw,hz,hemp,fin]
   ·have hc:eh G n=false:=by simp[eh,h0]
    cases hz:decide ((pre.length:Int)=0)<;>simp only[sim,ag,Nat.reduceAdd,Nat.reduceSub,List.replicate,reduceCtorEq,Nat.reduceLeDiff,Nat.reduceLT,aa,hlt,hix,ez,h0,gO,cB,hc,D4,hw,hz,hemp,fin]
theorem wD (g:IsG h F J b G) (hW:G.Wf) (i:Int):aj Try.prog po 133 [.ptr b 0 0,.int .i64 i] h=some (.inl (.int .i64 (G.rights i)),h):=by
 refine ah Au rfl ?_;unfold qE
 have hl:=jJ tN ((G.path i).map aC)
 have hloop:=vr g (.int .i64 i) (eH tN ((G.path i).map aC)) (G.path i) hl (by have:=af.path_few hW i;omega) (G.path i) [] 0 h .junk .junk .junk .junk .junk rfl (ae.refl h)
 simp only[List.length_nil,Int.natCast_zero,List.isEmpty_nil,sD]at hloop
 simp only[sim,ag,Nat.reduceAdd,Nat.reduceSub,List.replicate,reduceCtorEq,Nat.reduceLeDiff,Nat.reduceLT,aa,yU g hW,hl.len,hl.fits,List.length_map]
 exact hloop
theorem Ag (id:Option Nat) (rows:List (List AV)) (hf:∀ r∈rows,r.all AV.one=true∧r.all kv=true) (hl:rows.length≤1000):
  aj Try.prog po 62 [.isl id tN rows] h=some (.inl (.isl none tN rows),h):=by
 refine ah tx rfl ?_;unfold nM
 have e1:aH false tN (.isl (some h.ids) tN []) (.isl id tN rows) (h.fresh 0)=some (.isl (some h.ids) tN rows,if rows.length=0 then h.fresh 0 else(h.fresh 0).grow h.ids rows.length):=by
  simp only[aH,bH,if_true,Option.bind_some]
  by_cases hz:rows.length=0
  ·simp[hz,j0,List.length_eq_zero_iff.1 hz]
  ·rw[if_neg hz,if_neg hz]
   unfold dX
   rw[if_pos ⟨by omega,by omega,by rw[List.all_eq_true];exact fun r hr=>(hf r hr).1⟩]
   simp[kc]
 have hg:ae h (if rows.length=0 then h.fresh 0 else(h.fresh 0).grow h.ids rows.length):=by
  split
  ·exact ae.fresh h 0
  ·exact(ae.fresh h 0).grow (Nat.le_refl _)
 have hw:wkA (.isl (some h.ids) tN rows)=some (.isl none tN rows):=by
  simp only[wkA,ie fun r hr=>(hf r hr).2,Option.map_some]
 simp only[sim,ag,Nat.reduceAdd,Nat.reduceSub,List.replicate,reduceCtorEq,Nat.reduceLeDiff,Nat.reduceLT,aa,e1,aB hg hw]
theorem zt:aj Try.prog po 62 [.nils] h=some (.inl .nils,h):=by
 refine ah tx rfl ?_;unfold nM
 simp only[sim,ag,Nat.reduceAdd,Nat.reduceSub,List.replicate,reduceCtorEq,Nat.reduceLeDiff,Nat.reduceLT,aa]
 exact aB (ae.refl h) rfl
theorem Hx (g:IsG h F J b G) (hW:G.Wf):aj Try.prog po 30 [.ptr b 0 0] h=some (.inl (eH tN (G.nodes.map aC)),h):=by
 obtain⟨nv,sv,h1,h2, -⟩:=g.ex
 refine ah Do rfl ?_;unfold ud
 rcases h2 with⟨e1,rfl⟩ | ⟨id,_,e0,_,_,rfl⟩
 ·simp only[sim,ag,Nat.reduceAdd,Nat.reduceSub,List.replicate,reduceCtorEq,Nat.reduceLeDiff,Nat.reduceLT,aa,h1,zt]
  rw[e1]
  exact aB (ae.refl h) rfl
 ·have hc:=Ag (h:=h) (some id) (G.nodes.map aC) (fun r hr=>⟨by obtain⟨n,_,rfl⟩:=List.mem_map.1 hr;rfl,lN _ r hr⟩) (by have:=hW.few;simp;omega)
  have hw:wkA (.isl none tN (G.nodes.map aC))=some (eH tN (G.nodes.map aC)):=by
   simp only[wkA,ie (lN _),Option.map_some,eH,if_neg e0]
  simp only[sim,ag,Nat.reduceAdd,Nat.reduceSub,List.replicate,reduceCtorEq,Nat.reduceLeDiff,Nat.reduceLT,aa,h1,hc,aB (ae.refl h) hw]
theorem D9 (g:IsG h F J b G) (hW:G.Wf) (i:Int):aj Try.prog po 38 [.ptr b 0 0,.int .i64 i] h=some (.inl (.tup [.agg (aC (G.target i).1),.bool (G.target i).2]),h):=by
 refine ah zP rfl ?_;unfold qM
 have hl:=jJ tN ((G.path i).map aC)
 have hw:∀ (n:bi) (x:Bool),wkA (.tup [.agg (aC n),.bool x])=some (.tup [.agg (aC n),.bool x]):=fun n x=>rfl
 have gp:=yU (g.grew (ae.push h [[.int .i64 0,.int .i64 0,.int .i64 0,.int .i64 0,.int .i64 0,.int .i64 0]])) hW
 have hg1:∀ n:bi,ae h (h.push [aC n]):=fun n=>ae.push _ _
 have hd:∀ m:Nat,IntKind.wrap .i64 (m:Int)=m→True:=fun _ _=>trivial
 rcases List.eq_nil_or_concat (G.path i)with hz | ⟨pre,n,hz⟩
 ·have ht:G.target i=(d9,false):=by simp[af.target,hz]
  rw[ht]
  have hlen:(G.path i).length=0:=by rw[hz];rfl
  simp only[sim,ag,Nat.reduceAdd,Nat.reduceSub,List.replicate,reduceCtorEq,Nat.reduceLeDiff,Nat.reduceLT,aa,gp,hl.len,hl.fits,List.length_map,hlen,Int.natCast_zero]
  exact aB (hg1 d9) (hw d9 false)
 ·rw[List.concat_eq_append]at hz
  have ht:G.target i=(n,true):=by
   unfold af.target
   rw[hz]
   simp[List.getLastD_eq_getLast?]
  have hx:¬ (((pre.length+1:Nat):Int)=0):=by omega
  have hs:IntKind.wrap .i64 (((pre.length+1:Nat):Int) - 1)=(pre.length:Int):=by rw[w64]<;>(have:=af.path_few hW i;rw[hz]at this;simp at this;omega)
  have hix:=hl.ix .i64 pre.length (aC n) (by rw[hz];simp)
  rw[ht]
  have hlen:(G.path i).length=pre.length+1:=by rw[hz];simp
  simp only[sim,ag,Nat.reduceAdd,Nat.reduceSub,List.replicate,reduceCtorEq,Nat.reduceLeDiff,Nat.reduceLT,aa,gp,hl.len,hl.fits,List.length_map,hlen,hx,hs,hix,ez]
  exact aB (hg1 n) (hw n true)
theorem wF (p:AV) (P:List bi) (hp:IsL tN p (P.map aC)) (hP:P.length≤1000) (v0 v1:AV):∀ (l pre:List bi) (h':AH) (v v4 t1 t2:AV),P=pre++l→ae h h'→Acc h h' 3 v ((dV pre).map fun x=>[.int .i64 x])→
  cFR true [.v 2] h (aq (aj Try.prog po) 10 [.lp gJ,.ss [],.blk 0,.ss [.ops [(.i .l (.mv (.v 3))),(.i (.v 2) (.mv (.l 0)))],.ret]] [v0,v1,.nils,v,v4,p,.int .i64 P.length,.int .i64 pre.length,t1,t2] [] h')=
   some (.inl (eH 3 ((dV P).map fun x=>[.int .i64 x])),h):=by
 intro l
 induction l with
 | nil=>
   intro pre h' v v4 t1 t2 e hg ha
   rw[aG gJ.eq_1]
   have hlt:¬ ((pre.length:Int)<(P.length:Int)):=by rw[e];simp
   rw[List.append_nil]at e
   rw[←e]at ha
   simp only[sim,ag,Nat.reduceAdd,Nat.reduceSub,List.replicate,reduceCtorEq,Nat.reduceLeDiff,Nat.reduceLT,aa,hlt,aB hg (yZ ha (Cu _))]
 | cons n l ih=>
   intro pre h' v v4 t1 t2 e hg ha
   rw[aG gJ.eq_1]
   have hlt:(pre.length:Int)<(P.length:Int):=by rw[e];simp;omega
   have hix:=hp.ix .i64 pre.length (aC n) (by rw[e];simp)
   have hg2:ae h (h'.push [aC n]):=hg.trans (ae.push _ _)
   have hw:=w64 (n:=(pre.length:Int)+1) (by omega) (by omega)
   have e2:((pre++[n]).length:Int)=(pre.length:Int)+1:=by simp
   have hfew:((dV pre).map fun x=>[AV.int .i64 x]).length≤1000000:=by
    have:=List.length_filter_le (fun n:bi=>decide (0≤n.gate)) pre
    have h2:pre.length≤P.length:=by rw[e];simp
    simp[dV];omega
   by_cases h0:0≤n.gate
   ·have hgo:dV (pre++[n])=dV pre++[n.gate]:=by simp[dV,h0]
    have ha2:Acc h (h'.push [aC n]) 3 v ((dV pre).map fun x=>[.int .i64 x]):=ha
    obtain⟨v',h2',e1,a1,a2,a3,a4⟩:=mr ha2 hg2 (row:=[.int .i64 n.gate]) rfl hfew
    simp only[gU]at e1
    have:=ih (pre++[n]) h2' v' (.ptr h'.n 0 0) (.bool true) (.bool true) (by simp[e]) a2 (by rw[hgo,List.map_append];exact a1)
    rw[e2]at this
    simp only[sim,ag,Nat.reduceAdd,Nat.reduceSub,List.replicate,reduceCtorEq,Nat.reduceLeDiff,Nat.reduceLT,aa,hlt,hix,ez,h0,hw,e1,this]
   ·have hgo:dV (pre++[n])=dV pre:=by simp[dV,h0]
    have ha2:Acc h (h'.push [aC n]) 3 v ((dV pre).map fun x=>[.int .i64 x]):=ha
    have:=ih (pre++[n]) (h'.push [aC n]) v (.ptr h'.n 0 0) (.bool true) (.bool false) (by simp[e]) hg2 (by rw[hgo];exact ha2)
    rw[e2]at this
    simp only[sim,ag,Nat.reduceAdd,Nat.reduceSub,List.replicate,reduceCtorEq,Nat.reduceLeDiff,Nat.reduceLT,aa,hlt,hix,ez,h0,hw,this]
theorem H1 (g:IsG h F J b G) (hW:G.Wf) (i:Int):aj Try.prog po 138 [.ptr b 0 0,.int .i64 i] h=some (.inl (eH 3 ((G.gatesC i).map fun x=>[.int .i64 x])),h):=by
 refine ah DD rfl ?_;unfold sK
 have hl:=jJ tN ((G.path i).map aC)
 have hloop:=wF (h:=h) (eH tN ((G.path i).map aC)) (G.path i) hl (by have:=af.path_few hW i;omega) (.ptr b 0 0) (.int .i64 i) (G.path i) [] h .nils .junk .junk .junk rfl (ae.refl h) (kU _ _ _)
 simp only[List.length_nil,Int.natCast_zero]at hloop
 simp only[sim,ag,Nat.reduceAdd,Nat.reduceSub,List.replicate,reduceCtorEq,Nat.reduceLeDiff,Nat.reduceLT,aa,yU g hW,hl.len,hl.fits,List.length_map]
 exact hloop
end
open Go.ChangeShapes Go.WideShapes Go.ChangeAt Go.RowKit Go.Deep Go.Joins
open Go.ChangeMaps (open_string shut_string)
theorem own:ownKnob Try.prog.godebug=none:=by kernel_rfl
theorem B4:laidOutB Try.prog=true:=by kernel_rfl
section
variable {H:Type} {enc:TypeId×Value→H} {P:Program} {W W':World}
theorem lD (hl:laidOutB P=true):∀ {ts:List TypeId} {vs:List Value} {ds:List (DataW H)} {p:List MemPlace},
  DataW.TrodAll enc P W 0 (fun _=>true) true ts vs ds p→(∀ t∈ts,P.readableRec t=true∧t<P.types.size)→Below W.heap.size W W'→(∀ x∈p,x.block<W.heap.size)→
  DataW.TrodAll enc P W' 0 (fun b=>decide (b<W.heap.size)) true ts vs ds p
 | [],[],[],p,h,_,_,_=>h
 | t::ts,v::vs,d::ds,p,h,ht,hb,hp=>by
   obtain⟨p1,q1,h1,h2,rfl⟩:=h
   obtain⟨hr,hs⟩:=ht t (by simp)
   exact⟨p1,q1,Below.trod hl hr hs h1 hb (fun x hx=>hp x (by simp[hx])),lD hl h2 (fun t' h'=>ht t' (by simp[h'])) hb (fun x hx=>hp x (by simp[hx])),rfl⟩
 | [],_::_,_,_,h,_,_,_=>by simp[DataW.TrodAll]at h
 | _::_,[],_,_,h,_,_,_=>by simp[DataW.TrodAll]at h
 | _::_,_::_,[],_,h,_,_,_=>by simp[DataW.TrodAll]at h
 | [],[],_::_,_,h,_,_,_=>by simp[DataW.TrodAll]at h
theorem rb:∀ {ts:List TypeId} {vs:List Value} {ds:List (DataW H)} {p:List MemPlace},
  DataW.TrodAll enc P W 0 (fun _=>true) true ts vs ds p→∀ x∈p,x.block<W.heap.size
 | [],[],[],p,h,x,hx=>by
   have:p=[]:=h
   subst this
   simp at hx
 | t::ts,v::vs,d::ds,p,h,x,hx=>by
   obtain⟨p1,q1,⟨n,h1⟩,h2,rfl⟩:=h
   rcases List.mem_append.1 hx with hx | hx
   ·exact DataW.trod_lt n _ _ _ h1 x hx
   ·exact rb h2 x hx
 | [],_::_,_,_,h,_,_=>by simp[DataW.TrodAll]at h
 | _::_,[],_,_,h,_,_=>by simp[DataW.TrodAll]at h
 | _::_,_::_,[],_,h,_,_=>by simp[DataW.TrodAll]at h
 | [],[],_::_,_,h,_,_=>by simp[DataW.TrodAll]at h
def Law (P:Program) (f:FuncId) (args:Array Value) (W:World):Prop:=
 Calls P f args W fun e W'=>e= .returned (.bool true)∧Below W.heap.size W W'
theorem xW {f:Func} {s:ChangeSpec} {args:Array Value} {ds gs:List (DataW H)} {before:List MemPlace} {tb:TypeId} (hl:laidOutB P=true) (htb:P.underlying tb=some .bool) (hres:f.resultTypes= #[tb])
  (hv:s.vars=[]) (hparams:∀ t∈f.params.toList,P.readableRec t=true∧t<P.types.size)
  (hs:∀ ds:List (DataW H),ds.length=f.params.size→s.fn H ds={results:=[.lit (.bool true)],args:=ds})
  (hW:DataW.Whole enc P f.params.toList s.vars false W args.toList ds gs before) (hb:Below W.heap.size W W'):
  s.post enc P f false true false false W args (.bool true) W':=by
 have hW0:=hW
 obtain⟨p,q,hA,hV,rfl,hfz,hnd⟩:=hW
 rw[hv]at hV
 obtain⟨rfl,rfl⟩:=trodVars_none hV
 have hlen:ds.length=f.params.size:=by
  have:∀ {ts:List TypeId} {vs:List Value} {ds:List (DataW H)} {p:List MemPlace},DataW.TrodAll enc P W 0 (fun _=>true) true ts vs ds p→ds.length=ts.length:=by
   intro ts
   induction ts with
   | nil=>
     intro vs ds p h
     cases vs<;>cases ds<;>simp[DataW.TrodAll]at h ⊢
   | cons t ts ih=>
     intro vs ds p h
     cases vs<;>cases ds<;>simp[DataW.TrodAll]at h ⊢
     obtain⟨_,_,_,h2,_⟩:=h
     exact ih h2
  simpa using this hA
 have e:=hs (ds++[]) (by simpa using hlen)
 refine⟨ds,[],_,[],p,[],hW0,?_,?_,?_,hb.frame _,fun h=>by cases h⟩
 ·rw[e,hres]
  exact trodAll_mk1 (shut_bool htb _)
 ·rw[e]
  simp only[List.append_nil]
  exact lD hl hA hparams hb (rb hA)
 ·rw[e,hv]
  rfl
end
open Go Go.RowKit
def h0A:AH:={n:=0,cell:=fun _=>none,ids:=0,hw:=fun _=>0}
def m0A (W:World):Mm:={base:=W.heap.size,blk:=fun _=>0,bt:=fun _=>0,bsz:=fun _=>0,imm:=fun g o=>W.cell? ⟨g,o,none⟩,tg:=fun _=>0,tc:=fun _=>0,te:=fun _=>0,jk:=fun _=>none}
theorem Cp {P:Program} {b:Nat} {w:World} (h:JT P=[]∧JO P=[]):pR P b w:=by
 refine⟨fun q hq=> ?_,fun n hn=> ?_⟩
 ·rw[h.1]at hq
  cases hq
 ·rw[h.2]at hn
  cases hn
theorem wr0 (P:Program) (W:World) (hg:pR P W.heap.size W):WR P (m0A W) h0A W where
 good:=hg
 size:=Nat.le_refl _
 lt:=fun b es hb=>by simp[h0A]at hb
 live:=fun b es hb=>by simp[h0A]at hb
 inj:=fun b b' es es' hb=>by simp[h0A]at hb
 imm:=fun g o v h=>h
 sep:=fun b es hb=>by simp[h0A]at hb
 tip:=fun k hk=>absurd hk (Nat.not_lt_zero _)
 tfree:=fun k hk=>absurd hk (Nat.not_lt_zero _)
 tblk:=fun k hk=>absurd hk (Nat.not_lt_zero _)
 tinj:=fun k k' hk=>absurd hk (Nat.not_lt_zero _)
 jk:=fun g x hj=>by simp[m0A]at hj
theorem Ec {f:FuncId} {avs:List AV} {vs:List Value} {W:World} {h':AH} (hr:aj Try.prog po f avs h0A=some (.inl (.bool true),h')) (hv:VRs Try.prog (m0A W) h0A avs vs) (hg:pR Try.prog W.heap.size W:=by exact Cp ⟨by kernel_rfl,by kernel_rfl⟩):Law Try.prog f vs.toArray W:=by
 refine(qY pok hr (m0A W) W vs (wr0 _ W hg) hv).mono fun e W' ⟨m',_,_,hb,hx⟩=> ?_
 obtain⟨u,rfl,hu⟩:=hx
 cases hu
 exact⟨rfl,hb⟩
theorem KW {P:Program} {m:Mm} {h:AH} (s:ByteArray):VR P m h (.str s.data.toList) (.string s):=by
 have:=VR.str (P:=P) (m:=m) (h:=h) s.data.toList
 simpa using this
section
variable {P:Program} {po:Pol} {g:FuncId} {a nv:Nat} {vm:List Nat} {ss:List RS} {rs:List j9} {args:List AV} {h:AH}
theorem Ar {p:Bool} {Post:(AV ⊕ AV)×AH→Prop} (hf:FnR P po g a nv vm ss rs p) (ha:args.length=a)
  (H:∀ Q:iX→Prop,(∀ r q,cFR p rs h r=some q→Post q→Q r)→Q (aq (aj P po) nv [.ss ss] (args++List.replicate (vm.length - args.length) .junk) [] h)):
  ∃ q,aj P po g args h=some q∧Post q:=by
 obtain⟨q,h1,h2⟩:=H (fun r=>∃ q,cFR p rs h r=some q∧Post q) (fun r q h1 h2=>⟨q,h1,h2⟩)
 exact⟨q,ah hf ha h1,h2⟩
theorem yN {v:AV} {R:AH→Prop} (hf:FnR P po g a nv vm ss rs false) (ha:args.length=a)
  (H:∀ Q:iX→Prop,(∀ V h',(eL V h' rs).map fq=some v→R h'→Q (some (.ret,V,h')))→Q (aq (aj P po) nv [.ss ss] (args++List.replicate (vm.length - args.length) .junk) [] h)):
  ∃ h',aj P po g args h=some (.inl v,h')∧R h':=by
 obtain⟨q,h1,h',rfl,h2⟩:=Ar (Post:=fun q=>∃ h',q=(.inl v,h')∧R h') hf ha fun Q hQ=>H Q fun V h' e r=>hQ _ (.inl v,h') (by simp only[jR,e,jF,kE]) ⟨h',rfl,r⟩
 exact⟨h',h1,h2⟩
theorem zZ {R:AV→Prop} (hf:FnR P po g a nv vm ss rs true) (ha:args.length=a)
  (H:∀ Q:iX→Prop,(∀ V h' v v',(eL V h' rs).map fq=some v→ae h h'→wkA v=some v'→R v'→Q (some (.ret,V,h')))→Q (aq (aj P po) nv [.ss ss] (args++List.replicate (vm.length - args.length) .junk) [] h)):
  ∃ v,aj P po g args h=some (.inl v,h)∧R v:=by
 obtain⟨q,h1,v,rfl,h2⟩:=Ar (Post:=fun q=>∃ v,q=(.inl v,h)∧R v) hf ha fun Q hQ=>H Q fun V h' v v' e hg w r=>hQ _ (.inl v',h) (by simp only[jR,e,jF];exact aB hg w) ⟨v',rfl,r⟩
 exact⟨v,h1,h2⟩
theorem fU {v':AV} (hf:FnR P po g a nv vm ss rs true) (ha:args.length=a)
  (H:∀ Q:iX→Prop,(∀ V h' v,(eL V h' rs).map fq=some v→ae h h'→wkA v=some v'→Q (some (.ret,V,h')))→Q (aq (aj P po) nv [.ss ss] (args++List.replicate (vm.length - args.length) .junk) [] h)):
  aj P po g args h=some (.inl v',h):=by
 obtain⟨v,h1,rfl⟩:=zZ (R:=fun v=>v=v') hf ha fun Q hQ=>H Q fun V h' v e hg w=>hQ V h' v v' e hg w rfl
 exact h1
end
section
variable {P:Program} {po:Pol} {g:FuncId} {a nv:Nat} {vm:List Nat} {ss:List RS} {rs:List j9} {args:List AV} {h:AH}
theorem FV {Post:(AV ⊕ AV)→AH→Prop} (hf:FnR P po g a nv vm ss rs false) (ha:args.length=a)
  (H:∀ Q:iX→Prop,(∀ V h' v,(eL V h' rs).map fq=some v→Post (.inl v) h'→Q (some (.ret,V,h')))→(∀ V h' v,Post (.inr v) h'→Q (some (.panic v,V,h')))→Q (aq (aj P po) nv [.ss ss] (args++List.replicate (vm.length - args.length) .junk) [] h)):
  ∃ q h',aj P po g args h=some (q,h')∧Post q h':=by
 obtain⟨⟨q,h'⟩,e,p⟩:=Ar (Post:=fun q=>Post q.1 q.2) hf ha fun Q hQ=>H Q (fun V h' v e r=>hQ _ (.inl v,h') (by simp only[jR,e,jF,kE]) r) (fun V h' v r=>hQ _ (.inr v,h') (by simp only[n7,kE]) r)
 exact⟨q,h',e,p⟩
end
theorem gX {C:tQ} {nv:Nat} {b:List RS} {K:List RK} {V:List AV} {h:AH} {Q:iX→Prop} (I:Nat→List AV→AH→Prop) (n:Nat) (h0:I 0 V h)
  (step:∀ i V h,i<n→I i V h→(∀ V' h',I (i+1) V' h'→Q (aq C nv (.lp b::K) V' [] h'))→Q (aq C nv (.lp b::K) V [] h))
  (stop:∀ V h,I n V h→Q (aq C nv (.lp b::K) V [] h)):Q (aq C nv (.lp b::K) V [] h):=by
 have key:∀ (d i:Nat) (V:List AV) (h:AH),i+d=n→I i V h→Q (aq C nv (.lp b::K) V [] h):=by
  intro d
  induction d with
  | zero=>
    intro i V h hi hI
    obtain rfl:i=n:=by omega
    exact stop V h hI
  | succ d ih=>exact fun i V h hi hI=>step i V h (by omega) hI fun V' h' hI'=>ih (i+1) V' h' (by omega) hI'
 exact key n 0 V h (by omega) h0
theorem Lh {a n:Nat} (h:a<n):(a<n+1)=True:=by simp;omega
theorem vE {n:Nat}:(n<n+1)=True:=by simp
theorem uS {α:Type} (A B:List α) (x y:α) {n:Nat} (hn:n=A.length):(A++x::B).set n y=A++y::B:=by subst hn;simp
theorem BW {α:Type} (A B:List α) (x:α) {n:Nat} (hn:n=A.length):(A++x::B)[n]? =some x:=by subst hn;simp
theorem jd {α:Type} {l:List α} {i:Nat} {y:α} (h:l[i]? =some y):l.take (i+1)=l.take i++[y]:=by
 rw[List.take_add_one,h]
 rfl
theorem y9 {n m:Int} (e:n=m) (h1: -9223372036854775808≤n) (h2:n≤9223372036854775807):IntKind.wrap .i64 n=m:=by rw[←e];exact w64 h1 h2
theorem E9 {h0 h:AH} {e:TypeId} {v:AV} {acc:List (List AV)} (ha:Acc h0 h e v acc) (g:ae h0 h) {x:AV} {rows:List (List AV)} (hx:(x= .nils∧rows=[])∨∃ id,x= .isl id e rows) (h1:∀ r∈rows,r.all AV.one=true) (hl:acc.length≤1000000) (hr:rows.length≤1000000):
  ∃ v' h',aH false e v x h=some (v',h')∧Acc h0 h' e v' (acc++rows)∧ae h0 h'∧h'.cell=h.cell∧h'.n=h.n:=by
 have h1':rows.all (·.all AV.one)=true:=by rw[List.all_eq_true];exact h1
 by_cases hz:rows.length=0
 ·have hz':=List.length_eq_zero_iff.1 hz
  subst hz'
  refine⟨v,h,?_,by simpa using ha,g,rfl,rfl⟩
  have hs:j0 e v h=some (v,h):=by
   rcases ha with⟨_,rfl⟩ | ⟨id,_,_,_,_,rfl⟩<;>simp[j0]
  rcases hx with⟨rfl,_⟩ | ⟨id,rfl⟩
  ·exact hs
  ·simp[aH,bH,hs]
 ·obtain⟨id2,rfl⟩:∃ id,x= .isl id e rows:=by
   rcases hx with⟨_,rfl⟩ | hx
   ·simp at hz
   ·exact hx
  have e1:aH false e v (.isl id2 e rows) h=dX false e v rows h:=by
   simp only[aH,bH,if_true,Option.bind_some]
   rw[if_neg hz]
  rw[e1]
  unfold dX
  rw[if_pos ⟨by omega,by omega,h1'⟩]
  have hne:rows≠[]:=fun e=>hz (by rw[e];rfl)
  rcases ha with⟨rfl,rfl⟩ | ⟨id,a0,a1,a2,a3,rfl⟩
  ·refine⟨_,_,rfl,.inr ⟨h.ids,by simpa using hne,g.ids,by simp[AH.fresh],by simp[AH.fresh],by simp⟩,g.trans (ae.fresh _ _),rfl,rfl⟩
  ·refine⟨.isl (some id) e (acc++rows),h.grow id (acc.length+rows.length),?_,.inr ⟨id,by simp[a0],a1,a2,by simp[AH.grow],rfl⟩,g.grow a1,rfl,rfl⟩
   simp[a3,hl]
theorem Hk (e:TypeId) (rows:List (List AV)):(eH e rows= .nils∧rows=[])∨∃ id,eH e rows= .isl id e rows:=by
 unfold eH
 by_cases hz:rows=[]
 ·exact .inl ⟨by rw[if_pos hz],hz⟩
 ·exact .inr ⟨none,by rw[if_neg hz]⟩
theorem Ev (l:List Int):∀ r∈dw l,r.all AV.one=true:=by
 intro r hr
 obtain⟨n,_,rfl⟩:=List.mem_map.1 hr
 rfl
def Mp (f:AV) (xs:List AV):Option (FuncId×List AV):=match f with
 | .fn g a c=>some (g,a++xs++c)
 | _=>none
section
variable {C:tQ} {nv:Nat} {k:List RK} {V L:List AV} {h:AH} {d:RD} {is:List RI}
theorem tR {f:Arg} {args:List Arg}:aT V L (.call f args)=Mp (arg V L f) (args.map (arg V L)):=by
 simp only[aT]
 cases arg V L f<;>rfl
theorem BY {g:FuncId} {a c xs:List AV}:Mp (.fn g a c) xs=some (g,a++xs++c):=rfl
theorem AM {g:FuncId} {xs:List AV}:rF C nv d is k V L h (some (g,xs))=rC C nv d is k V L (C g xs h):=rfl
theorem az:(type_of% @yK)∧(type_of% @tR)∧(type_of% @BY)∧(type_of% @AM):=⟨@yK,@tR,@BY,@AM⟩
end
def bi.ints (n:bi):List Int:=[n.parent,n.gate,n.rights,n.cell,n.plugin,n.func]
instance:DecidableEq bi:=fun a b=>decidable_of_iff (a.ints=b.ints) ⟨fun e=>by
 cases a
 cases b
 simp[bi.ints]at e
 simp[e],fun e=>by rw[e]⟩
section
variable {h:AH}
theorem In (n m:bi):dS [.int .i64,.int .i64,.int .i64,.int .i64,.int .i64,.int .i64] (aC n) (aC m)=some (decide (n=m)):=by
 unfold aC
 simp only[dS,if_true,Option.map_some,Bool.and_true]
 congr 1
 rw[Bool.eq_iff_iff]
 simp only[Bool.and_eq_true,beq_iff_eq,decide_eq_true_eq]
 constructor
 ·rintro⟨h1,h2,h3,h4,h5,h6⟩
  cases n
  cases m
  simp_all
 ·rintro rfl
  exact⟨rfl,rfl,rfl,rfl,rfl,rfl⟩
theorem xp (n m:bi) (kd:Kd) (cy:Bool):ka kd (some [.int .i64,.int .i64,.int .i64,.int .i64,.int .i64,.int .i64]) cy .neq (.agg (aC n)) (.agg (aC m))=some (.bool (!decide (n=m))):=by
 simp only[ka,Option.bind_some,In,Option.map_some]
theorem qP (l m:List bi) (v w:AV) (hv:IsL tN v (l.map aC)) (hw:IsL tN w (m.map aC)) (hl:l.length≤1000):∀ (r r' pre pre':List bi) (t1 t2 t3:AV),l=pre++r→m=pre'++r'→pre.length=pre'.length→r.length=r'.length→
  cFR true [.v 2] h (aq (aj Try.prog po) 7 [.lp eO,.ss [],.blk 0,.ss [.ops [(.i (.v 2) (.mv (.c (.bool true))))],.ret]] [v,w,.bool false,.int .i64 pre.length,t1,t2,t3] [] h)=some (.inl (.bool (decide (r=r'))),h):=by
 intro r
 induction r with
 | nil=>
   intro r' pre pre' t1 t2 t3 e e' hp hr
   obtain rfl:r'=[]:=List.length_eq_zero_iff.1 hr.symm
   rw[aG eO.eq_1]
   have hlt:¬ ((pre.length:Int)<(l.length:Int)):=by rw[e];simp
   simp only[sim,ag,Nat.reduceAdd,Nat.reduceSub,List.replicate,reduceCtorEq,Nat.reduceLeDiff,Nat.reduceLT,aa,hv.len,hv.fits,List.length_map,hlt]
 | cons i r ih=>
   intro r' pre pre' t1 t2 t3 e e' hp hr
   obtain⟨i',r',rfl⟩:∃ i' s,r'=i'::s:=by cases r' with | nil=>simp at hr | cons a s=>exact⟨a,s,rfl⟩
   rw[aG eO.eq_1]
   have hlt:(pre.length:Int)<(l.length:Int):=by rw[e];simp;omega
   have hix:=hv.ix .i64 pre.length (aC i) (by rw[e];simp)
   have hix2:=hw.ix .i64 pre.length (aC i') (by rw[e',hp];simp)
   have hwr:=w64 (n:=(pre.length:Int)+1) (by omega) (by omega)
   have e2:((pre++[i]).length:Int)=(pre.length:Int)+1:=by simp
   cases hd:decide (i=i')
   ·have hc:decide (i::r=i'::r')=false:=by
     have:¬ i=i':=by simpa using hd
     simp[this]
    simp only[sim,ag,Nat.reduceAdd,Nat.reduceSub,List.replicate,reduceCtorEq,Nat.reduceLeDiff,Nat.reduceLT,aa,hv.len,hv.fits,List.length_map,hlt,hix,hix2,ez,xp,hd,hc]
   ·have:=ih r' (pre++[i]) (pre'++[i']) t1 (.bool true) (.bool false) (by simp[e]) (by simp[e']) (by simp[hp]) (by simpa using hr)
    rw[e2]at this
    have hc:decide (i::r=i'::r')=decide (r=r'):=by
     have:i=i':=by simpa using hd
     simp[this]
    simp only[sim,ag,Nat.reduceAdd,Nat.reduceSub,List.replicate,reduceCtorEq,Nat.reduceLeDiff,Nat.reduceLT,aa,hv.len,hv.fits,List.length_map,hlt,hix,hix2,ez,xp,hd,hwr,this,hc]
theorem yo (l m:List bi) (v w:AV) (hv:IsL tN v (l.map aC)) (hw:IsL tN w (m.map aC)) (hl:l.length≤1000):aj Try.prog po 32 [v,w] h=some (.inl (.bool (decide (l=m))),h):=by
 refine ah uE rfl ?_;unfold nI
 cases hd:decide ((l.length:Int)=(m.length:Int))
 ·have hne:decide (l=m)=false:=by
   simp at hd ⊢
   intro e
   rw[e]at hd
   exact hd rfl
  simp only[sim,ag,Nat.reduceAdd,Nat.reduceSub,List.replicate,reduceCtorEq,Nat.reduceLeDiff,Nat.reduceLT,aa,hv.len,hv.fits,hw.len,hw.fits,List.length_map,hd,hne]
 ·have:=qP (h:=h) l m v w hv hw hl l m [] [] (.bool false) .junk .junk rfl rfl rfl (by simp at hd;omega)
  simp only[List.length_nil,Int.natCast_zero]at this
  simp only[sim,ag,Nat.reduceAdd,Nat.reduceSub,List.replicate,reduceCtorEq,Nat.reduceLeDiff,Nat.reduceLT,aa,hv.len,hv.fits,hw.len,hw.fits,List.length_map,hd]
  exact this
end
theorem cK.same {h:AH} {F J:Nat→Prop} {b:Nat} {G:af} (g:IsG h F J b G):cK h F J b h G:=⟨F,J,g,Chg.refl _ _ _,fun _=> .inl,fun _=> .inl⟩
theorem cK.grew {h h':AH} {F J:Nat→Prop} {b:Nat} {G:af} (g:IsG h F J b G) (x:ae h h'):cK h F J b h' G:=⟨F,J,g.grew x,x.chg _ _,fun _=> .inl,fun _=> .inl⟩
theorem cK.after {h h1 h2:AH} {F J:Nat→Prop} {b:Nat} {G':af} (x:ae h h1) (d:cK h1 F J b h2 G'):cK h F J b h2 G':=by
 obtain⟨F',J',g,c,hF,hJ⟩:=d
 have:=x.n
 have:=x.ids
 exact⟨F',J',g,(x.chg F J).trans c,fun k hk=>(hF k hk).imp id (by omega),fun j hj=>(hJ j hj).imp id (by omega)⟩
section
variable {h:AH} {F J:Nat→Prop} {b:Nat} {G:af}
theorem GD (h:AH) {F:Nat→Prop} {b:Nat} {sv:AV} {l:List Bool} (g:nC h F b tB sv (l.map fun x=>[.bool x])) (hl:l.length≤1000):
  ∃ h' v',aH true tB sv (.msl h.n 0 1 tB) (h.push [[.bool false]])=some (v',h')∧dR v'=some (l.length+1)∧(∀ s,cN s (some tB) v'=true)∧v'.one=true∧v'.cells=[v']∧h'.ids=h.ids∧h'.hw=h.hw∧h'.n=h.n+2∧h'.cell (h.n+1)=some ((l++[false]).map fun x=>[.bool x])∧v'= .msl (h.n+1) 0 (l.length+1) tB∧∀ k,k<h.n→¬ (F k∧k≠b)→h'.cell k=h.cell k:=by
 have e0:bH (h.push [[.bool false]]) tB (.msl h.n 0 1 tB)=some [[.bool false]]:=by simp[bH,aE]
 rcases g with⟨h1,rfl⟩ | ⟨q,h1,h2,h3,h4,rfl⟩
 ·have hl0:l=[]:=by simpa using h1
  subst hl0
  refine⟨(h.push [[.bool false]]).push [[.bool false]],.msl (h.n+1) 0 1 tB,?_,rfl,fun s=>i4,rfl,rfl,rfl,rfl,rfl,?_,rfl,fun k hk _=> ?_⟩
  ·simp[aH,e0,dX,AV.one,aM]
  ·simp[AH.push]
  ·simp[AH.push,show k≠h.n by omega,show k≠h.n+1 by omega]
 ·have hq:q≠h.n:=by omega
  refine⟨((h.push [[.bool false]]).set q none).push ((l.map fun x=>[.bool x])++[[.bool false]]),.msl (h.n+1) 0 (l.length+1) tB,?_,rfl,fun s=>i4,rfl,rfl,rfl,rfl,rfl,?_,rfl,fun k hk hk2=> ?_⟩
  ·have e1:(h.push [[.bool false]]).cell q=some (l.map fun x=>[.bool x]):=by rw[gH hq];exact h4
   simp only[aH,e0,Option.bind_some,List.length_singleton,Nat.one_ne_zero,if_false,dX,List.length_map]
   rw[if_pos ⟨by omega,by omega,rfl⟩,if_pos ⟨trivial,trivial,by omega⟩,e1]
   have e2:List.take l.length (l.map fun x=>[AV.bool x])=l.map fun x=>[.bool x]:=List.take_of_length_le (by simp)
   simp[aM,dN,e2]
  ·simp[AH.push,AH.set]
  ·have:k≠q:=fun e=>hk2 (by subst e;exact⟨h1,h2⟩)
   simp[AH.push,AH.set,show k≠h.n by omega,show k≠h.n+1 by omega,this]
theorem Gl {h':AH} {nv v':AV} (g:IsG h F J b G) (h2:nh h J tN nv (G.nodes.map aC)) (e1:h'.ids=h.ids) (e2:h'.hw=h.hw) (e3:h'.n=h.n+2) (e4:h'.cell (h.n+1)=some ((G.shut++[false]).map fun x=>[.bool x])) (e5:v'= .msl (h.n+1) 0 (G.shut.length+1) tB) (e6:∀ k,k<h.n→¬ (F k∧k≠b)→h'.cell k=h.cell k):
  cK h F J b (h'.set b (some [[nv,v']])) ⟨G.nodes,G.shut++[false]⟩:=by
 have hbn:=g.hb.2
 refine⟨fun k=>k=b∨k=h.n+1,J,⟨⟨.inl rfl,by rw[dN,e3];omega⟩,⟨by rintro k (rfl | rfl)<;>(rw[dN,e3];omega),fun j hj=>by rw[kO,e1];exact g.lt.2 j hj⟩,nv,v',aP,?_,.inr ⟨h.n+1,.inr rfl,by omega,by rw[dN,e3];omega,by rw[bc (by omega)];exact e4,?_⟩⟩,⟨by rw[dN,e3];omega,by rw[kO,e1];omega,fun k hk hF=> ?_,fun j hj hJ=>by rw[nR,e2]⟩,?_,fun _=> .inl⟩
 ·rcases h2 with h2 | ⟨id,a1,a0,a2,a3,a4⟩
  ·exact .inl h2
  ·exact .inr ⟨id,a1,a0,by rw[kO,e1];exact a2,by rw[nR,e2];exact a3,a4⟩
 ·rw[e5]
  simp
 ·have:k≠b:=fun e=>hF (by rw[e];exact g.hb.1)
  rw[bc this]
  exact e6 k hk fun x=>hF x.1
 ·rintro k (rfl | rfl)
  ·exact .inl g.hb.1
  ·exact .inr (by omega)
theorem GX (g:IsG h F J b G) (hW:G.Wf):∃ h',aj Try.prog po 58 [.ptr b 0 0] h=some (.inl (.tup [.int .i64 G.gate.2.1,.int .i64 G.gate.2.2]),h')∧cK h F J b h' G.gate.1:=by
 obtain⟨nv,sv,h1,h2,h3⟩:=g.ex
 have hgs:=hW.gates
 cases hd:decide ((G.shut.length:Int)=20)
 ·have hne:¬ G.shut.length=20:=by simp at hd;omega
  have hG:G.gate=(⟨G.nodes,G.shut++[false]⟩,(G.shut.length:Int),0):=by unfold af.gate;rw[if_neg hne]
  obtain⟨h',v',a1,a2,a3,a4,a5,a6,a7,a8,a9,a10,a11⟩:=GD h h3 (by omega)
  have hbn:b≠h.n:=by have:=g.hb.2;omega
  have hcb:h'.cell b=some [[nv,sv]]:=(a11 b g.hb.2 (fun x=>x.2 rfl)).trans h1
  have hwr:IntKind.wrap .i64 (((G.shut.length+1:Nat):Int) - 1)=(G.shut.length:Int):=by rw[w64]<;>omega
  refine⟨h'.set b (some [[nv,v']]),?_,by rw[hG];exact Gl g h2 a6 a7 a8 a9 a10 a11⟩
  rw[hG]
  refine ah xO rfl ?_;unfold pX
  simp only[sim,ag,Nat.reduceAdd,Nat.reduceSub,List.replicate,reduceCtorEq,Nat.reduceLeDiff,Nat.reduceLT,aa,h1,h3.len.1,h3.len.2,List.length_map,hd,a1,gH hbn,hcb,a4,a5,a2,a3,hwr]
 ·have he:G.shut.length=20:=by simp at hd;omega
  have hG:G.gate=(G,0,11):=by unfold af.gate;rw[if_pos he]
  refine⟨h,?_,by rw[hG];exact cK.same g⟩
  rw[hG]
  refine ah xO rfl ?_;unfold pX
  simp only[sim,ag,Nat.reduceAdd,Nat.reduceSub,List.replicate,reduceCtorEq,Nat.reduceLeDiff,Nat.reduceLT,aa,h1,h3.len.1,h3.len.2,List.length_map,hd]
theorem Hm {nv sv:AV} (g:IsG h F J b G) (h1:h.cell b=some [[nv,sv]]) (h2:nh h J tN nv (G.nodes.map aC)) {m q:Nat} (hm:m<G.shut.length) (e1:F q) (e2:q≠b) (e3:q<h.n) (e4:sv= .msl q 0 G.shut.length tB):
  cK h F J b (h.set q (some ((G.shut.map fun x=>[AV.bool x]).set m [.bool true]))) ⟨G.nodes,G.shut.set m true⟩:=by
 refine⟨F,J,⟨⟨g.hb.1,g.hb.2⟩,g.lt,nv,sv,by rw[bc (Ne.symm e2)];exact h1,?_,.inr ⟨q,e1,e2,e3,by rw[aP,List.map_set],by rw[e4];simp⟩⟩,⟨Nat.le_refl _,Nat.le_refl _,fun k hk hF=>bc (fun e=>hF (by rw[e];exact e1)),fun _ _ _=>rfl⟩,fun _=> .inl,fun _=> .inl⟩
 rcases h2 with h2 | ⟨id,a1,a0,a2,a3,a4⟩
 ·exact .inl h2
 ·exact .inr ⟨id,a1,a0,a2,a3,a4⟩
theorem Jx (g:IsG h F J b G) (k:Int):∃ h',aj Try.prog po 57 [.ptr b 0 0,.int .i64 k] h=some (.inl (.int .i64 (G.cut k).2),h')∧cK h F J b h' (G.cut k).1:=by
 obtain⟨nv,sv,h1,h2,h3⟩:=g.ex
 cases hh:G.hasGate k
 ·have hG:G.cut k=(G,8):=by unfold af.cut;rw[if_neg (by simp[hh])]
  rw[hG]
  refine⟨h,?_,cK.same g⟩
  refine ah AR rfl ?_;unfold uV
  simp only[sim,ag,Nat.reduceAdd,Nat.reduceSub,List.replicate,reduceCtorEq,Nat.reduceLeDiff,Nat.reduceLT,aa,yv g,hh]
 ·obtain⟨m,rfl,hm⟩:=af.gate_nat hh
  have hG:G.cut (m:Int)=(⟨G.nodes,G.shut.set m true⟩,0):=by unfold af.cut;rw[if_pos hh];simp
  obtain⟨q,e1,e2,e3,e4,e5,e6,e7⟩:=Bs h3 hm
  rw[hG]
  refine⟨_,?_,Hm g h1 h2 hm e4 e5 e6 e7⟩
  refine ah AR rfl ?_;unfold uV
  simp only[sim,ag,Nat.reduceAdd,Nat.reduceSub,List.replicate,reduceCtorEq,Nat.reduceLeDiff,Nat.reduceLT,aa,yv g,hh,h1,e1,e2,e3]
theorem xU (h:AH) {J:Nat→Prop} {nv:AV} {rows:List (List AV)} (g:nh h J tN nv rows) {row:List AV} (hr:row.all AV.one=true) (hl:rows.length≤1000):
  ∃ h' v',aH false tN nv (.isl (some h.ids) tN [row]) (h.fresh 1)=some (v',h')∧dR v'=some (rows.length+1)∧(∀ s,cN s (some tN) v'=true)∧v'.one=true∧v'.cells=[v']∧h'.cell=h.cell∧h'.n=h.n∧h.ids≤h'.ids∧
    (∃ id,(J id∨h.ids≤id)∧id<h'.ids∧h'.hw id=rows.length+1∧v'= .isl (some id) tN (rows++[row])∧∀ j,j<h.ids→¬ J j→h'.hw j=h.hw j):=by
 have hr':[row].all (·.all AV.one)=true:=by simpa using hr
 rcases g with⟨rfl,rfl⟩ | ⟨id,a1,a0,a2,a3,rfl⟩
 ·refine⟨(h.fresh 1).fresh 1,.isl (some (h.ids+1)) tN [row],?_,rfl,fun s=>i8,rfl,rfl,rfl,rfl,by simp[AH.fresh];omega,h.ids+1,.inr (by omega),by simp[AH.fresh],by simp[AH.fresh],by simp,fun j hj _=>by simp[AH.fresh,show j≠h.ids by omega,show j≠h.ids+1 by omega]⟩
  simp only[aH,bH,if_true,Option.bind_some,List.length_singleton,Nat.one_ne_zero,if_false,dX]
  rw[if_pos ⟨by omega,by omega,hr'⟩]
  rfl
 ·have hne:id≠h.ids:=by omega
  refine⟨(h.fresh 1).grow id (rows.length+1),.isl (some id) tN (rows++[row]),?_,by simp[dR],fun s=>i8,rfl,rfl,rfl,rfl,by simp[AH.fresh,AH.grow],id,.inl a1,by simp[AH.fresh,AH.grow];omega,by simp[AH.grow],rfl,fun j hj hJ=> ?_⟩
  ·simp only[aH,bH,if_true,Option.bind_some,List.length_singleton,Nat.one_ne_zero,if_false,dX]
   rw[if_pos ⟨by omega,by omega,hr'⟩,gi hne,a3,if_pos ⟨trivial,rfl,by omega⟩]
  ·have h1:j≠id:=fun e=>hJ (by rw[e];exact a1)
   simp[AH.grow,AH.fresh,h1,show j≠h.ids by omega]
theorem AJ {h':AH} {sv v':AV} {n:bi} (g:IsG h F J b G) (h3:nC h F b tB sv (G.shut.map fun x=>[.bool x])) (e1:h'.cell=h.cell) (e2:h'.n=h.n) (e0:h.ids≤h'.ids)
  (e3:∃ id,(J id∨h.ids≤id)∧id<h'.ids∧h'.hw id=G.nodes.length+1∧v'= .isl (some id) tN (G.nodes.map aC++[aC n])∧∀ j,j<h.ids→¬ J j→h'.hw j=h.hw j):cK h F J b (h'.set b (some [[v',sv]])) ⟨G.nodes++[n],G.shut⟩:=by
 obtain⟨id,a1,a2,a3,a4,a5⟩:=e3
 refine⟨F,fun j=>j=id,⟨⟨g.hb.1,by rw[dN,e2];exact g.hb.2⟩,⟨fun k hk=>by rw[dN,e2];exact g.lt.1 k hk,fun j hj=>by rw[hj];exact a2⟩,v',sv,aP,.inr ⟨id,rfl,by simp,a2,by rw[nR,a3];simp,by rw[a4];simp⟩,?_⟩,⟨by rw[dN,e2];exact Nat.le_refl _,by rw[kO];exact e0,fun k hk hF=> ?_,fun j hj hJ=>by rw[nR];exact a5 j hj hJ⟩,fun _=> .inl,fun j hj=>by rw[hj];exact a1⟩
 ·rcases h3 with h3 | ⟨q,b1,b2,b3,b4,b5⟩
  ·exact .inl h3
  ·exact .inr ⟨q,b1,b2,by rw[dN,e2];exact b3,by rw[bc b2,e1];exact b4,b5⟩
 ·rw[bc (fun e=>hF (by rw[e];exact g.hb.1)),e1]
theorem F9 (g:IsG h F J b G) (hW:G.Wf) (n:bi):∃ h',aj Try.prog po 88 [.ptr b 0 0,.agg (aC n)] h=some (.inl (.tup [.int .i64 (G.add n).2.1,.int .i64 (G.add n).2.2]),h')∧cK h F J b h' (G.add n).1:=by
 have hg1:=ae.push h [aC n]
 have g1:=g.grew hg1
 have hbn:h.n≠b:=by have:=g.hb.2;omega
 obtain⟨nv,sv,h1,h2,h3⟩:=g1.ex
 have hfew:=hW.few
 have hH:=yv g1
 unfold af.add
 skip
 cases hc:hD n.rights
 ·rw[if_pos rfl]
  refine⟨h.push [aC n],?_,cK.grew g hg1⟩
  refine ah lj rfl ?_;unfold jD
  simp only[sim,ag,Nat.reduceAdd,Nat.reduceSub,List.replicate,reduceCtorEq,Nat.reduceLeDiff,Nat.reduceLT,aa,ez,kW,hc]
 ·rw[if_neg (by simp)]
  have stop:(n.gate≠ -1∧G.hasGate n.gate=false)∨(n.gate= -1∨G.hasGate n.gate=true):=by
   by_cases e:n.gate= -1
   ·exact .inr (.inl e)
   ·cases hh:G.hasGate n.gate
    ·exact .inl ⟨e,rfl⟩
    ·exact .inr (.inr rfl)
  rcases stop with hs | hs
  ·rw[if_pos hs]
   refine⟨h.push [aC n],?_,cK.grew g hg1⟩
   obtain⟨s1,s2⟩:=hs
   refine ah lj rfl ?_;unfold jD
   simp only[sim,ag,Nat.reduceAdd,Nat.reduceSub,List.replicate,reduceCtorEq,Nat.reduceLeDiff,Nat.reduceLT,aa,ez,kW,hc,hH,s1,s2]
  ·have hs':¬ (n.gate≠ -1∧G.hasGate n.gate=false):=by
    rintro⟨a,b⟩
    rcases hs with hs | hs
    ·exact a hs
    ·rw[b]at hs;cases hs
   rw[if_neg hs']
   have hs2:decide (n.gate= -1)=true∨decide (n.gate= -1)=false∧G.hasGate n.gate=true:=by
    rcases hs with hs | hs
    ·exact .inl (by simp[hs])
    ·by_cases e:n.gate= -1
     ·exact .inl (by simp[e])
     ·exact .inr ⟨by simp[e],hs⟩
   cases hd:decide ((G.nodes.length:Int)=80)
   ·have hne:¬ G.nodes.length=80:=by simp at hd;omega
    rw[if_neg hne]
    obtain⟨h',v',a1,a2,a3,a4,a5,a6,a7,a8,a9⟩:=xU (h.push [aC n]) h2 (row:=aC n) rfl (by simp;omega)
    have hwr:IntKind.wrap .i64 (((G.nodes.length+1:Nat):Int) - 1)=(G.nodes.length:Int):=by rw[w64]<;>omega
    refine⟨h'.set b (some [[v',sv]]),?_,cK.after hg1 (AJ g1 h3 a6 a7 a8 (by simpa using a9))⟩
    simp only[gU,List.length_map]at a1 a2
    rcases hs2 with hs2 | ⟨hs2,hs3⟩
    ·refine ah lj rfl ?_;unfold jD
     simp only[sim,ag,Nat.reduceAdd,Nat.reduceSub,List.replicate,reduceCtorEq,Nat.reduceLeDiff,Nat.reduceLT,aa,ez,kW,hc,hH,hs2,hd,h1,h2.isL.len,h2.isL.fits,List.length_map,a1,a2,a3,a4,a5,a6,hwr]
    ·refine ah lj rfl ?_;unfold jD
     simp only[sim,ag,Nat.reduceAdd,Nat.reduceSub,List.replicate,reduceCtorEq,Nat.reduceLeDiff,Nat.reduceLT,aa,ez,kW,hc,hH,hs2,hs3,hd,h1,h2.isL.len,h2.isL.fits,List.length_map,a1,a2,a3,a4,a5,a6,hwr]
   ·have he:G.nodes.length=80:=by simp at hd;omega
    rw[if_pos he]
    refine⟨h.push [aC n],?_,cK.grew g hg1⟩
    rcases hs2 with hs2 | ⟨hs2,hs3⟩
    ·refine ah lj rfl ?_;unfold jD
     simp only[sim,ag,Nat.reduceAdd,Nat.reduceSub,List.replicate,reduceCtorEq,Nat.reduceLeDiff,Nat.reduceLT,aa,ez,kW,hc,hH,hs2,hd,h1,h2.isL.len,h2.isL.fits,List.length_map]
    ·refine ah lj rfl ?_;unfold jD
     simp only[sim,ag,Nat.reduceAdd,Nat.reduceSub,List.replicate,reduceCtorEq,Nat.reduceLeDiff,Nat.reduceLT,aa,ez,kW,hc,hH,hs2,hs3,hd,h1,h2.isL.len,h2.isL.fits,List.length_map]
theorem LC (g:IsG h F J b G) (hW:G.Wf) (n:bi):∃ h',aj Try.prog po 105 [.ptr b 0 0,.agg (aC n)] h=some (.inl (.tup [.int .i64 (G.add n).2.1,.int .i64 (G.add n).2.2]),h')∧cK h F J b h' (G.add n).1:=by
 have hg1:=ae.push h [aC n]
 have g1:=g.grew hg1
 have hbn:h.n≠b:=by have:=g.hb.2;omega
 obtain⟨nv,sv,h1,h2,h3⟩:=g1.ex
 have hfew:=hW.few
 have hH:=Ly g1
 unfold af.add
 skip
 cases hc:hD n.rights
 ·rw[if_pos rfl]
  refine⟨h.push [aC n],?_,cK.grew g hg1⟩
  refine ah kZ rfl ?_;unfold jW
  have hc':decide (n.rights<0)=true∨decide (n.rights<0)=false∧decide (15<n.rights)=true:=by
   simp[hD]at hc
   simp only[decide_eq_true_eq,decide_eq_false_iff_not]
   omega
  rcases hc' with hc' | ⟨hc',hc2⟩
  ·simp only[sim,ag,Nat.reduceAdd,Nat.reduceSub,List.replicate,reduceCtorEq,Nat.reduceLeDiff,Nat.reduceLT,aa,ez,hc']
  ·simp only[sim,ag,Nat.reduceAdd,Nat.reduceSub,List.replicate,reduceCtorEq,Nat.reduceLeDiff,Nat.reduceLT,aa,ez,hc',hc2]
 ·rw[if_neg (by simp)]
  have hr0:decide (n.rights<0)=false:=by simp[hD]at hc;simp;omega
  have hr1:decide (15<n.rights)=false:=by simp[hD]at hc;simp;omega
  have stop:(n.gate≠ -1∧G.hasGate n.gate=false)∨(n.gate= -1∨G.hasGate n.gate=true):=by
   by_cases e:n.gate= -1
   ·exact .inr (.inl e)
   ·cases hh:G.hasGate n.gate
    ·exact .inl ⟨e,rfl⟩
    ·exact .inr (.inr rfl)
  rcases stop with hs | hs
  ·rw[if_pos hs]
   refine⟨h.push [aC n],?_,cK.grew g hg1⟩
   obtain⟨s1,s2⟩:=hs
   refine ah kZ rfl ?_;unfold jW
   simp only[sim,ag,Nat.reduceAdd,Nat.reduceSub,List.replicate,reduceCtorEq,Nat.reduceLeDiff,Nat.reduceLT,aa,ez,hr0,hr1,hH,s1,s2]
  ·have hs':¬ (n.gate≠ -1∧G.hasGate n.gate=false):=by
    rintro⟨a,b⟩
    rcases hs with hs | hs
    ·exact a hs
    ·rw[b]at hs;cases hs
   rw[if_neg hs']
   have hs2:decide (n.gate= -1)=true∨decide (n.gate= -1)=false∧G.hasGate n.gate=true:=by
    rcases hs with hs | hs
    ·exact .inl (by simp[hs])
    ·by_cases e:n.gate= -1
     ·exact .inl (by simp[e])
     ·exact .inr ⟨by simp[e],hs⟩
   cases hd:decide (80≤(G.nodes.length:Int))
   ·have hne:¬ G.nodes.length=80:=by simp at hd;omega
    rw[if_neg hne]
    obtain⟨h',v',a1,a2,a3,a4,a5,a6,a7,a8,a9⟩:=xU (h.push [aC n]) h2 (row:=aC n) rfl (by simp;omega)
    have hwr:IntKind.wrap .i64 (((G.nodes.length+1:Nat):Int) - 1)=(G.nodes.length:Int):=by rw[w64]<;>omega
    refine⟨h'.set b (some [[v',sv]]),?_,cK.after hg1 (AJ g1 h3 a6 a7 a8 (by simpa using a9))⟩
    simp only[gU,List.length_map]at a1 a2
    rcases hs2 with hs2 | ⟨hs2,hs3⟩
    ·refine ah kZ rfl ?_;unfold jW
     simp only[sim,ag,Nat.reduceAdd,Nat.reduceSub,List.replicate,reduceCtorEq,Nat.reduceLeDiff,Nat.reduceLT,aa,ez,hr0,hr1,hH,hs2,hd,h1,h2.isL.len,h2.isL.fits,List.length_map,a1,a2,a3,a4,a5,a6,hwr]
    ·refine ah kZ rfl ?_;unfold jW
     simp only[sim,ag,Nat.reduceAdd,Nat.reduceSub,List.replicate,reduceCtorEq,Nat.reduceLeDiff,Nat.reduceLT,aa,ez,hr0,hr1,hH,hs2,hs3,hd,h1,h2.isL.len,h2.isL.fits,List.length_map,a1,a2,a3,a4,a5,a6,hwr]
   ·have he:G.nodes.length=80:=by simp at hd;omega
    rw[if_pos he]
    refine⟨h.push [aC n],?_,cK.grew g hg1⟩
    rcases hs2 with hs2 | ⟨hs2,hs3⟩
    ·refine ah kZ rfl ?_;unfold jW
     simp only[sim,ag,Nat.reduceAdd,Nat.reduceSub,List.replicate,reduceCtorEq,Nat.reduceLeDiff,Nat.reduceLT,aa,ez,hr0,hr1,hH,hs2,hd,h1,h2.isL.len,h2.isL.fits,List.length_map]
    ·refine ah kZ rfl ?_;unfold jW
     simp only[sim,ag,Nat.reduceAdd,Nat.reduceSub,List.replicate,reduceCtorEq,Nat.reduceLeDiff,Nat.reduceLT,aa,ez,hr0,hr1,hH,hs2,hs3,hd,h1,h2.isL.len,h2.isL.fits,List.length_map]
end
section
variable {h h' h0:AH} {F J F0 J0:Nat→Prop} {X Y Z:Asn} {L:List Asn}
theorem Did.same (x:X.A h F J):Did h F J h X:=⟨F,J,x,Chg.refl _ _ _,fun _=> .inl,fun _=> .inl⟩
theorem Did.imp (hxy:∀ h F J,X.A h F J→Y.A h F J) (d:Did h F J h' X):Did h F J h' Y:=by
 obtain⟨F',J',x,r⟩:=d
 exact⟨F',J',hxy _ _ _ x,r⟩
theorem Did.chain (ch:Chg F0 J0 h0 h) (a:∀ k,F k→F0 k∨h0.n≤k) (b:∀ j,J j→J0 j∨h0.ids≤j) (d:Did h F J h' Y):Did h0 F0 J0 h' Y:=by
 obtain⟨F2,J2,y,c2,a2,b2⟩:=d
 refine⟨F2,J2,y,ch.then c2 a b,fun k hk=> ?_,fun j hj=> ?_⟩
 ·rcases a2 k hk with h | h
  ·exact a k h
  ·exact .inr (Nat.le_trans ch.n h)
 ·rcases b2 j hj with h | h
  ·exact b j h
  ·exact .inr (Nat.le_trans ch.ids h)
theorem tU (x:(dB X Z).A h F J) {R:AH→Prop} (c:∀ F1 J1,X.A h F1 J1→∃ h',R h'∧Did h F1 J1 h' Y):∃ h',R h'∧Did h F J h' (dB Y Z):=by
 obtain⟨F1,J1,F2,J2,x1,z,hF,hJ,dF,dJ⟩:=x
 obtain⟨h',r,F3,J3,y,c3,a3,b3⟩:=c F1 J1 x1
 have zl:=Z.lt z
 refine⟨h',r,fun k=>F3 k∨F2 k,fun j=>J3 j∨J2 j,⟨F3,J3,F2,J2,y,Z.keep z c3 (fun k hk h1=>dF k h1 hk) (fun j hj h1=>dJ j h1 hj),fun _=>Iff.rfl,fun _=>Iff.rfl,fun k h3 h2=> ?_,fun j h3 h2=> ?_⟩,?_,fun k hk=> ?_,fun j hj=> ?_⟩
 ·rcases a3 k h3 with h | h
  ·exact dF k h h2
  ·have:=zl.1 k h2;omega
 ·rcases b3 j h3 with h | h
  ·exact dJ j h h2
  ·have:=zl.2 j h2;omega
 ·exact⟨c3.n,c3.ids,fun k hk hn=>c3.cell k hk fun h1=>hn ((hF k).2 (.inl h1)),fun j hj hn=>c3.hw j hj fun h1=>hn ((hJ j).2 (.inl h1))⟩
 ·rcases hk with h | h
  ·exact(a3 k h).imp (fun h=>(hF k).2 (.inl h)) id
  ·exact .inl ((hF k).2 (.inr h))
 ·rcases hj with h | h
  ·exact(b3 j h).imp (fun h=>(hJ j).2 (.inl h)) id
  ·exact .inl ((hJ j).2 (.inr h))
theorem jy (x:(dB X Y).A h F J):(dB Y X).A h F J:=by
 obtain⟨F1,J1,F2,J2,x1,z,hF,hJ,dF,dJ⟩:=x
 exact⟨F2,J2,F1,J1,z,x1,fun k=>(hF k).trans or_comm,fun j=>(hJ j).trans or_comm,fun k h2 h1=>dF k h1 h2,fun j h2 h1=>dJ j h1 h2⟩
theorem iB (x:(dB (dB X Y) Z).A h F J):(dB X (dB Y Z)).A h F J:=by
 obtain⟨F1,J1,F2,J2,⟨F3,J3,F4,J4,x3,y4,hF3,hJ3,dF3,dJ3⟩,z,hF,hJ,dF,dJ⟩:=x
 refine⟨F3,J3,fun k=>F4 k∨F2 k,fun j=>J4 j∨J2 j,x3,⟨F4,J4,F2,J2,y4,z,fun _=>Iff.rfl,fun _=>Iff.rfl,fun k h4=>dF k ((hF3 k).2 (.inr h4)),fun j h4=>dJ j ((hJ3 j).2 (.inr h4))⟩,fun k=> ?_,fun j=> ?_,fun k h3 h=> ?_,fun j h3 h=> ?_⟩
 ·rw[hF k,hF3 k,or_assoc]
 ·rw[hJ j,hJ3 j,or_assoc]
 ·rcases h with h | h
  ·exact dF3 k h3 h
  ·exact dF k ((hF3 k).2 (.inl h3)) h
 ·rcases h with h | h
  ·exact dJ3 j h3 h
  ·exact dJ j ((hJ3 j).2 (.inl h3)) h
theorem ja (x:(dB X (dB Y Z)).A h F J):(dB Y (dB X Z)).A h F J:=by
 have a:=iB (jy x)
 obtain⟨F1,J1,F2,J2,y,zx,r⟩:=a
 exact⟨F1,J1,F2,J2,y,jy zx,r⟩
theorem eK {X' Y':Asn} (hx:∀ h F J,X.A h F J→X'.A h F J) (hy:∀ h F J,Y.A h F J→Y'.A h F J) (x:(dB X Y).A h F J):(dB X' Y').A h F J:=by
 obtain⟨F1,J1,F2,J2,x1,y1,r⟩:=x
 exact⟨F1,J1,F2,J2,hx _ _ _ x1,hy _ _ _ y1,r⟩
def St (h0:AH) (F0 J0:Nat→Prop) (h:AH) (L:List Asn):Prop:=Did h0 F0 J0 h (aX L)
theorem St.perm {L':List Asn} (hp:List.Perm L L'):∀ {h F J},(aX L).A h F J→(aX L').A h F J:=by
 induction hp with
 | nil=>exact fun x=>x
 | cons X _ ih=>exact fun x=>eK (fun _ _ _ y=>y) (fun _ _ _ y=>ih y) x
 | swap X Y l=>exact fun x=>ja x
 | trans _ _ ih1 ih2=>exact fun x=>ih2 (ih1 x)
theorem aX.front:∀ {L:List Asn} {i:Nat} {X:Asn},L[i]? =some X→∀ {h F J},(aX L).A h F J↔(dB X (aX (L.eraseIdx i))).A h F J
 | [],i,X,hi,_,_,_=>by simp at hi
 | Y::L,0,X,hi,h,F,J=>by
   obtain rfl:Y=X:=by simpa using hi
   exact Iff.rfl
 | Y::L,i+1,X,hi,h,F,J=>by
   have ih:∀ {h:AH} {F J:Nat→Prop},(aX L).A h F J↔(dB X (aX (L.eraseIdx i))).A h F J:=aX.front (by simpa using hi)
   constructor
   ·intro x
    exact ja (eK (fun _ _ _ y=>y) (fun _ _ _ y=>ih.1 y) x)
   ·intro x
    exact eK (fun _ _ _ y=>y) (fun _ _ _ y=>ih.2 y) (ja x)
theorem aX.back {i:Nat} (hi:i<L.length) (x:(dB X (aX (L.eraseIdx i))).A h F J):(aX (L.set i X)).A h F J:=by
 rw[aX.front (L:=L.set i X) (i:=i) (X:=X) (by simp[hi])]
 rw[show(L.set i X).eraseIdx i=L.eraseIdx i from List.eraseIdx_set_eq]
 exact x
theorem St.call {R:AH→Prop} (s:St h0 F0 J0 h L) (i:Nat) (hi:L[i]? =some X) (c:∀ F J,X.A h F J→∃ h',R h'∧Did h F J h' Y):∃ h',R h'∧St h0 F0 J0 h' (L.set i Y):=by
 have hl:i<L.length:=(List.getElem?_eq_some_iff.1 hi).1
 obtain⟨F,J,x,ch,a,b⟩:=s
 obtain⟨h',r,d⟩:=tU ((aX.front hi).1 x) c
 exact⟨h',r,Did.chain ch a b (d.imp fun _ _ _ y=>aX.back hl y)⟩
theorem St.start (x:(aX L).A h F J):St h F J h L:=Did.same x
theorem St.get (s:St h0 F0 J0 h L) (i:Nat) (hi:L[i]? =some X):∃ F J,X.A h F J:=by
 obtain⟨F,J,x,_⟩:=s
 obtain⟨F1,J1,_,_,x1,_⟩:=(aX.front hi).1 x
 exact⟨F1,J1,x1⟩
theorem St.cell (s:St h0 F0 J0 h L) (i:Nat) {b:Nat} {es:List (List AV)} (hi:L[i]? =some (ai b es)):h.cell b=some es∧b<h.n:=by
 obtain⟨_,_,_,_,c,d⟩:=s.get i hi
 exact⟨d,c⟩
theorem St.imp {L':List Asn} (s:St h0 F0 J0 h L) (hx:∀ h F J,(aX L).A h F J→(aX L').A h F J):St h0 F0 J0 h L':=Did.imp hx s
theorem St.grew (s:St h0 F0 J0 h L) (g:ae h h'):St h0 F0 J0 h' L:=by
 obtain⟨F,J,x,ch,a,b⟩:=s
 have lt:=(aX L).lt x
 exact⟨F,J,(aX L).keep x (g.chg (fun _=>False) fun _=>False) (fun _ _ h=>h) (fun _ _ h=>h),ch.trans (g.chg _ _),a,b⟩
theorem St.add (s:St h0 F0 J0 h L) (g:ae h h') {F1 J1:Nat→Prop} (x1:X.A h' F1 J1) (hF:∀ k,F1 k→h.n≤k) (hJ:∀ j,J1 j→h.ids≤j):St h0 F0 J0 h' (X::L):=by
 obtain⟨F,J,x,ch,a,b⟩:=s
 have lt:=(aX L).lt x
 have x':=(aX L).keep x (g.chg (fun _=>False) fun _=>False) (fun _ _ h=>h) (fun _ _ h=>h)
 refine⟨fun k=>F1 k∨F k,fun j=>J1 j∨J j,⟨F1,J1,F,J,x1,x',fun _=>Iff.rfl,fun _=>Iff.rfl,fun k h1 h2=> ?_,fun j h1 h2=> ?_⟩,ch.trans (g.chg _ _),fun k hk=> ?_,fun j hj=> ?_⟩
 ·have:=lt.1 k h2;have:=hF k h1;omega
 ·have:=lt.2 j h2;have:=hJ j h1;omega
 ·exact hk.elim (fun h=> .inr (Nat.le_trans ch.n (hF k h))) (a k)
 ·exact hj.elim (fun h=> .inr (Nat.le_trans ch.ids (hJ j h))) (b j)
theorem St.push (s:St h0 F0 J0 h L) (es:List (List AV)):St h0 F0 J0 (h.push es) (ai h.n es::L):=
 s.add (ae.push h es) (F1:=fun k=>k=h.n) (J1:=fun _=>False) ⟨fun _=>Iff.rfl,fun _ h=>h,Nat.lt_succ_self _,aE⟩ (fun k hk=>Nat.le_of_eq hk.symm) (fun _ h=>h.elim)
theorem St.fresh (s:St h0 F0 J0 h L) (m:Nat):St h0 F0 J0 (h.fresh m) (idA h.ids m::L):=
 s.add (ae.fresh h m) (F1:=fun _=>False) (J1:=fun j=>j=h.ids) ⟨fun _ h=>h,fun _=>Iff.rfl,Nat.lt_succ_self _,by simp[AH.fresh]⟩ (fun _ h=>h.elim) (fun j hj=>Nat.le_of_eq hj.symm)
theorem St.set (s:St h0 F0 J0 h L) (i:Nat) {b:Nat} {es:List (List AV)} (hi:L[i]? =some (ai b es)) (fs:List (List AV)):St h0 F0 J0 (h.set b (some fs)) (L.set i (ai b fs)):=by
 obtain⟨h',rfl,d⟩:=s.call (R:=fun q=>q=h.set b (some fs)) i hi (Y:=ai b fs) fun F J ⟨a1,a2,a3,a4⟩=>⟨_,rfl,F,J,⟨a1,a2,a3,aP⟩,⟨Nat.le_refl _,Nat.le_refl _,fun k _ hk=>bc fun e=>hk ((a1 k).2 e),fun _ _ _=>rfl⟩,fun _=> .inl,fun _=> .inl⟩
 exact d
theorem St.del (s:St h0 F0 J0 h L) (i:Nat) {b:Nat} {es:List (List AV)} (hi:L[i]? =some (ai b es)):St h0 F0 J0 (h.set b none) (L.set i (vw True)):=by
 obtain⟨h',rfl,d⟩:=s.call (R:=fun q=>q=h.set b none) i hi (Y:=vw True) fun F J ⟨a1,a2,a3,a4⟩=>⟨_,rfl,fun _=>False,fun _=>False,⟨trivial,fun _ h=>h,fun _ h=>h⟩,⟨Nat.le_refl _,Nat.le_refl _,fun k _ hk=>bc fun e=>hk ((a1 k).2 e),fun _ _ _=>rfl⟩,fun _ h=>h.elim,fun _ h=>h.elim⟩
 exact d
theorem St.drop (s:St h0 F0 J0 h (X::L)):St h0 F0 J0 h L:=by
 obtain⟨F,J,⟨F1,J1,F2,J2,_,x2,hF,hJ,_,_⟩,ch,a,b⟩:=s
 exact⟨F2,J2,x2,ch,fun k hk=>a k ((hF k).2 (.inr hk)),fun j hj=>b j ((hJ j).2 (.inr hj))⟩
end
end Go.Proofs.Ytkdbjfncchmmpaa
