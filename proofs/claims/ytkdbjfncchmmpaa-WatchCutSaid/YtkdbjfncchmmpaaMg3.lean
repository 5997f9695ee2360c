/- What simple steps come to: for 'simp only'. What slices lie in memory as. Expressions as trees: how many, how deep, their first fault, the same. No program here. Expressions as cells: what they are. Instructions of an expression; what each jump, name and step of them is. No program here. Values as trees: of how many parts, their first fault, the same, what is in them. No program here. What values lie in memory as. Plain laws on '&', '|' of 64-bit integers, by bit vectors. No program in sight. The graph in plain Lean: what each method answers, and what becomes of the graph. No walk, no program. What a graph lies in memory as. What is handed on, in plain Lean: each capability through gates. No program here. What lies in memory apart from one another: what is said of it. A run in plain Lean: what expressions come to, what instructions do. No program here. What a box lies in memory as; what is asked of its Run. What is chosen for the walks of this part. What was chosen will do. A piece of a function's code in the plain model, behind which the walk goes on by hand. A function that defers one call of its own, which may take back a panic: pieces ahead, the deferred call laid by, the rest; what it comes to is what these come to. The pieces of Run The functions of the part 'graph' as lists of steps. The plain law of RightsDoes: what is reckoned bit by bit is what '&' answers. No walk. The reference's own way of rights, in plain Lean, and that it comes to the same. No walk. Graph and Net in the plain model: what each method that only looks answers. The functions of the part 'rights' as lists of steps. Graph in the plain model: rights, targets, gates, nodes. From what a statement says of its arguments ('they read as data') to what the walks ask; and back. No walk here. From a run in the plain model to what a law asks. Calls and loops in the plain model, told by what must hold behind them; small steps of memory. What compares lists, in the plain model. Graph and Net in the plain model: what turns them. What lies in memory apart from one another, each with the blocks and rows that it owns; steps and calls that turn one of them. -/
import Derived.Test.YtkdbjfncchmmpaaMg2
import Derived.WalkKit
import Derived.Test.YtkdbjfncchmmpaaRows
import Derived.Recover
import Derived.ProofKit
import Derived.OpenShut
import Derived.ShutString
import Derived.ChangeOld
import Derived.Deep.Slices
import Derived.Deep.Fields
import Derived.Lib.SmallJoins
namespace Go.Proofs.Ytkdbjfncchmmpaa
set_option linter.unusedSimpArgs false
set_option linter.unusedVariables false
open Go
section
variable {C:vz} {nv:Nat} {k:List RK} {V L:List AV} {h h0:AH} {kd:Kd} {q:IntKind}
theorem L8 {a b:Int}:bu kd .add (.int q a) (.int q b)=some (.int q (q.wrap (a+b))):=by simp[bu,kW]
theorem LV {a b:Int}:bu kd .sub (.int q a) (.int q b)=some (.int q (q.wrap (a - b))):=by simp[bu,kW]
theorem Lq {a b:Int}:bu kd .mul (.int q a) (.int q b)=some (.int q (q.wrap (a*b))):=by simp[bu,kW]
theorem LU {a b:Int}:bu kd .eql (.int q a) (.int q b)=some (.bool (decide (a=b))):=by simp[bu,kW];rfl
theorem Ln {a b:Int}:bu kd .neq (.int q a) (.int q b)=some (.bool (!decide (a=b))):=by simp[bu,kW];rfl
theorem LE {a b:Int}:bu kd .lss (.int q a) (.int q b)=some (.bool (decide (a<b))):=by simp[bu,kW]
theorem Mg {a b:Int}:bu kd .leq (.int q a) (.int q b)=some (.bool (decide (a≤b))):=by simp[bu,kW]
theorem Lm {a b:Int}:bu kd .gtr (.int q a) (.int q b)=some (.bool (decide (b<a))):=by simp[bu,kW]
theorem LM {a b:Int}:bu kd .geq (.int q a) (.int q b)=some (.bool (decide (b≤a))):=by simp[bu,kW]
theorem LW {a b:Int}:bu kd .and (.int q a) (.int q b)=some (.int q (q.wrap (BitVec.ofInt q.bits a &&& BitVec.ofInt q.bits b).toNat)):=by simp[bu,kW]
theorem N5 {a b:Int}:bu kd .or (.int q a) (.int q b)=some (.int q (q.wrap (BitVec.ofInt q.bits a ||| BitVec.ofInt q.bits b).toNat)):=by simp[bu,kW]
theorem Aa {a b:Int}:bu kd .andNot (.int q a) (.int q b)=some (.int q (q.wrap (BitVec.ofInt q.bits a &&& ~~~(BitVec.ofInt q.bits b)).toNat)):=by simp[bu,kW]
theorem HQ {a b:List UInt8}:bu kd .eql (.str a) (.str b)=some (.bool (decide (a=b))):=by by_cases hh:a=b<;>simp[bu,hh]
theorem FJ {a b:List UInt8}:bu kd .neq (.str a) (.str b)=some (.bool (!decide (a=b))):=by by_cases hh:a=b<;>simp[bu,hh]
theorem Ig {a b:Bool}:bu .bool .eql (.bool a) (.bool b)=some (.bool (a==b)):=by simp[bu,eqA]
theorem FM {a b:Bool}:bu .bool .neq (.bool a) (.bool b)=some (.bool (!(a==b))):=by simp[bu,eqA]
theorem FL {z:TypeId} {es:List (List AV)} {i:Option Nat}:bu .slice .eql (.isl i z es) .nils=some (.bool false):=by simp[bu,eqA]
theorem vo:bu .slice .eql .nils .nils=some (.bool true):=by simp[bu,eqA]
theorem DB {b o n:Nat} {z:TypeId}:bu .slice .eql (.msl b o n z) .nils=some (.bool false):=by simp[bu,eqA]
theorem Mk {b:Bool}:unA .not (.bool b)=some (.bool !b):=rfl
theorem Mq {a:Int}:unA .neg (.int q a)=some (.int q (q.wrap (0 - a))):=rfl
theorem LC {p:IntKind} {a:Int}:cvA (.int q) (.int p a)=some (.int q (q.wrap a)):=rfl
theorem LR {s:List UInt8}:cvA .str (.str s)=some (.str s):=rfl
theorem bB {agg:Bool} {n b i off:Nat}:aC agg n h (.ptr b i off)=((h.cell b).bind (·[i]?)).bind fun e=>ldA agg n e off:=rfl
theorem OQ {agg:Bool} {n off:Nat} {e:List AV}:aC agg n h (.ip e off)=ldA agg n e off:=rfl
theorem fA {n off:Nat} {e:List AV}:ldA false n e off=e[off]? :=rfl
theorem bv {n:Nat} {e:List AV} (he:e.length=n):ldA true n e 0=some (.agg e):=by subst he;simp[ldA]
theorem wB {e el:TypeId} {id:Option Nat} {es:List (List AV)} {i:Nat} {r:List AV} (he:e=el) (hi:es[i]? =some r):bX (some e) none (.isl id el es) (.int q (i:Int))=some (.ip r 0):=by simp[bX,he,hi]
theorem rJ {e el:TypeId} {b o n i:Nat} (he:e=el) (hi:i<n):bX (some e) none (.msl b o n el) (.int q (i:Int))=some (.ptr b (o+i) 0):=by simp[bX,he,hi]
theorem Md {b i o off:Nat}:aH off (.ptr b i o)=some (.ptr b i (o+off)):=rfl
theorem N1 {e:List AV} {o off:Nat}:aH off (.ip e o)=some (.ip e (o+off)):=rfl
theorem Mb {b i o:Nat}:zq (.ptr b i o)=some (.ptr b i o):=rfl
theorem OF {e:List AV} {o:Nat}:zq (.ip e o)=some (.ip e o):=rfl
theorem xE:dS .nils=some 0:=rfl
theorem Di {id:Option Nat} {el:TypeId} {es:List (List AV)}:dS (.isl id el es)=some es.length:=rfl
theorem De {b o n:Nat} {el:TypeId}:dS (.msl b o n el)=some n:=rfl
theorem CI {s:List UInt8}:dS (.str s)=some s.length:=rfl
theorem uG {s:Bool} {e:TypeId}:dm s (some e) .nils=true:=rfl
theorem jP {s:Bool} {e:TypeId} {id:Option Nat} {es:List (List AV)}:dm s (some e) (.isl id e es)=true:=by simp[dm]
theorem jO {s:Bool} {e:TypeId} {b o n:Nat}:dm s (some e) (.msl b o n e)=true:=by simp[dm]
theorem Ac {e:Option TypeId} {l:List UInt8}:dm true e (.str l)=true:=rfl
theorem aQ {b:Nat} {es:Option (List (List AV))}:(h.set b es).cell b=es:=by simp[AH.set]
theorem be {b j:Nat} {es:Option (List (List AV))} (hj:j≠b):(h.set b es).cell j=h.cell j:=by simp[AH.set,hj]
theorem dW {b:Nat} {es:Option (List (List AV))}:(h.set b es).n=h.n:=rfl
theorem mg {b:Nat} {es:Option (List (List AV))}:(h.set b es).ids=h.ids:=rfl
theorem oP {b:Nat} {es:Option (List (List AV))}:(h.set b es).hw=h.hw:=rfl
theorem aE {es:List (List AV)}:(h.push es).cell h.n=some es:=by simp[AH.push]
theorem hU {es:List (List AV)} {j:Nat} (hj:j≠h.n):(h.push es).cell j=h.cell j:=by simp[AH.push,hj]
theorem aL {es:List (List AV)}:(h.push es).n=h.n+1:=rfl
theorem jd {es:List (List AV)}:(h.push es).ids=h.ids:=rfl
theorem Db {es:List (List AV)}:(h.push es).hw=h.hw:=rfl
theorem sr {m:Nat}:(h.fresh m).cell=h.cell:=rfl
theorem DC {m:Nat}:(h.fresh m).n=h.n:=rfl
theorem lW {m:Nat}:(h.fresh m).ids=h.ids+1:=rfl
theorem iW {m:Nat}:(h.fresh m).hw h.ids=m:=by simp[AH.fresh]
theorem fG {m j:Nat} (hj:j≠h.ids):(h.fresh m).hw j=h.hw j:=by simp[AH.fresh,hj]
theorem uu {i m:Nat}:(h.grow i m).cell=h.cell:=rfl
theorem IN {i m:Nat}:(h.grow i m).n=h.n:=rfl
theorem xH {i m:Nat}:(h.grow i m).ids=h.ids:=rfl
theorem C8 {i m:Nat}:(h.grow i m).hw i=m:=by simp[AH.grow]
theorem sk {i m j:Nat} (hj:j≠i):(h.grow i m).hw j=h.hw j:=by simp[AH.grow,hj]
def Acc (h0 h:AH) (e:TypeId) (v:AV) (acc:List (List AV)):Prop:=(acc=[]∧v= .nils)∨∃ id,acc≠[]∧h0.ids≤id∧id<h.ids∧h.hw id=acc.length∧v= .isl (some id) e acc
theorem lT (h0 h:AH) (e:TypeId):Acc h0 h e .nils []:= .inl ⟨rfl,rfl⟩
theorem ml {e:TypeId} {v:AV} {acc:List (List AV)} (ha:Acc h0 h e v acc) (g:af h0 h) {row:List AV} (h1:row.all AV.one=true) (hl:acc.length≤1000000):
  ∃ v' h',aA false e v (.isl (some h.ids) e [row]) (h.fresh 1)=some (v',h')∧Acc h0 h' e v' (acc++[row])∧af h0 h'∧h'.cell=h.cell∧h'.n=h.n:=by
 have g1:af h0 (h.fresh 1):=g.trans (af.fresh h 1)
 have h1':∀ x,x∈row→x.one=true:=by simpa using h1
 rcases ha with⟨rfl,rfl⟩ | ⟨id,a0,a1,a2,a3,rfl⟩
 ·refine⟨.isl (some (h.ids+1)) e [row],(h.fresh 1).fresh 1,?_,.inr ⟨h.ids+1,by simp,?_,?_,?_,by simp⟩,g1.trans (af.fresh _ 1),rfl,rfl⟩
  ·simp only[aA,bD,if_true,Option.bind_some,List.length_singleton,Nat.one_ne_zero,if_false,d9]
   rw[if_pos ⟨by omega,by omega,by simpa using h1'⟩]
   rfl
  ·have:=g.ids;omega
  ·simp[AH.fresh]
  ·simp[AH.fresh]
 ·have hne:id≠h.ids:=by omega
  refine⟨.isl (some id) e (acc++[row]),(h.fresh 1).grow id (acc.length+1),?_,.inr ⟨id,by simp,a1,?_,?_,rfl⟩,g1.grow a1,rfl,rfl⟩
  ·simp only[aA,bD,if_true,Option.bind_some,List.length_singleton,Nat.one_ne_zero,if_false,d9]
   rw[if_pos ⟨by omega,by omega,by simpa using h1'⟩,fG hne,a3]
   simp only[true_and,hl,if_true]
  ·simp[AH.grow,AH.fresh];omega
  ·simp[AH.grow]
def lj:AV→Bool
 | .bool _ | .int _ _ | .str _ | .nilp | .nils | .nilf | .nili=>true
 | _=>false
theorem Kr {v:AV} (h:lj v=true):wkA v=some v:=by cases v<;>simp_all [lj,wkA]
theorem zP:∀ {l:List AV},l.all lj=true→wkL l=some l
 | [],_=>rfl
 | v::l,h=>by
   simp only[List.all_cons,Bool.and_eq_true]at h
   simp[wkL,Kr h.1,zP h.2]
theorem jc:∀ {l:List (List AV)},(∀ r∈l,r.all lj=true)→wkR l=some l
 | [],_=>rfl
 | v::l,h=>by simp only[wkR,zP (h v (List.mem_cons_self ..)),jc fun r hr=>h r (List.mem_cons_of_mem _ hr)]
def cT (e:TypeId) (es:List (List AV)):AV:=if es=[]then .nils else .isl none e es
theorem xk {e:TypeId} {v:AV} {acc:List (List AV)} (ha:Acc h0 h e v acc) (hf:∀ r∈acc,r.all lj=true):wkA v=some (cT e acc):=by
 rcases ha with⟨rfl,rfl⟩ | ⟨id,a0,_,a2,a3,rfl⟩
 ·rfl
 ·simp only[wkA,jc hf,Option.map_some,cT,if_neg a0]
structure IsL (e:TypeId) (v:AV) (rows:List (List AV)):Prop where
 len:dS v=some rows.length
 fits:∀ s,dm s (some e) v=true
 ix:∀ (q:IntKind) (i:Nat) row,rows[i]? =some row→bX (some e) none v (.int q (i:Int))=some (.ip row 0)
theorem kj (id:Option Nat) (e:TypeId) (rows:List (List AV)):IsL e (.isl id e rows) rows:=⟨rfl,fun s=>jP,fun q i row h=>wB rfl h⟩
theorem jJ (e:TypeId):IsL e .nils []:=⟨rfl,fun s=>rfl,fun q i row h=>by simp at h⟩
theorem ii (e:TypeId) (rows:List (List AV)):IsL e (cT e rows) rows:=by
 unfold cT
 split
 ·rename_i h
  subst h
  exact jJ e
 ·exact kj _ _ _
theorem B6 {e:TypeId} {v:AV} {acc:List (List AV)} (ha:Acc h0 h e v acc):IsL e v acc:=by
 rcases ha with⟨rfl,rfl⟩ | ⟨id,_,_,_,_,rfl⟩
 ·exact jJ e
 ·exact kj _ _ _
def gB (w:Bool):AV→Option Bool
 | .bool b=>some (if w then b else !b)
 | .tup _=>some false
 | _=>none
theorem GK {w:Bool} {vs:List AV}:gB w (.tup vs)=some false:=rfl
theorem MK {a:Arg} {w:Bool}:mJ V L a w=gB w (arg V L a):=by unfold mJ gB;cases arg V L a<;>rfl
theorem CG {b w:Bool}:gB w (.bool b)=some (if w=true then b else !b):=rfl
theorem Mj {i id:Nat}:ff id (.blk i::k)=if i=id then some k else ff id k:=rfl
theorem NU {l:List RS} {id:Nat}:ff id (.ss l::k)=ff id k:=rfl
theorem Oa {l:List RS} {id:Nat}:ff id (.lp l::k)=ff id k:=rfl
theorem Lj {l:List RI} {id:Nat}:ff id (.ops l::k)=ff id k:=rfl
theorem DN:fg V h []=some []:=rfl
theorem LS {j:Nat} {rs:List kO}:fg V h (.v j::rs)=(fg V h rs).map fun l=>V.getD j .junk::l:=rfl
theorem zZ {agg:Bool} {n j:Nat} {rs:List kO}:fg V h (.cell agg n j::rs)=(aC agg n h (V.getD j .junk)).bind fun v=>(fg V h rs).map fun l=>v::l:=rfl
theorem LN:fH []= .tup []:=rfl
theorem Mo {a:AV}:fH [a]=a:=rfl
theorem L7 {a b:AV}:fH [a,b]= .tup [a,b]:=rfl
theorem Lp {a b c:AV}:fH [a,b,c]= .tup [a,b,c]:=rfl
theorem GZ {a d:AV} {l:List AV}:(a::l).getD 0 d=a:=rfl
theorem HL {a d:AV} {l:List AV} {n:Nat}:(a::l).getD (n+1) d=l.getD n d:=rfl
theorem Lw {d:AV} {n:Nat}:([]:List AV).getD n d=d:=rfl
theorem FX {a b:AV} {l:List AV}:(a::l).set 0 b=b::l:=rfl
theorem Hs {a b:AV} {l:List AV} {n:Nat}:(a::l).set (n+1) b=a::l.set n b:=rfl
theorem If {α:Type} {a:α} {l:List α}:(a::l)[0]? =some a:=rfl
theorem H5 {α:Type} {a:α} {l:List α} {n:Nat}:(a::l)[n+1]? =l[n]? :=rfl
theorem L0 {α:Type} {n:Nat}:([]:List α)[n]? =none:=rfl
theorem uD {cs:List AV}:(AV.agg cs).cells=cs:=rfl
theorem tT {n:Int}:(AV.int q n).cells=[.int q n]:=rfl
theorem qP {b:Bool}:(AV.bool b).cells=[.bool b]:=rfl
theorem uT {b:List UInt8}:(AV.str b).cells=[.str b]:=rfl
theorem q8:AV.nils.cells=[.nils]:=rfl
theorem se:AV.nilp.cells=[.nilp]:=rfl
theorem uQ {i:Option Nat} {z:TypeId} {es:List (List AV)}:(AV.isl i z es).cells=[.isl i z es]:=rfl
theorem uq {b o n:Nat} {z:TypeId}:(AV.msl b o n z).cells=[.msl b o n z]:=rfl
theorem uz {b o n:Nat}:(AV.ptr b o n).cells=[.ptr b o n]:=rfl
theorem Cd {n:Int}:(AV.int q n).one=true:=rfl
theorem yH {b:Bool}:(AV.bool b).one=true:=rfl
theorem Cm {b:List UInt8}:(AV.str b).one=true:=rfl
theorem xL:AV.nils.one=true:=rfl
theorem Ae:AV.nilp.one=true:=rfl
theorem Dh {i:Option Nat} {z:TypeId} {es:List (List AV)}:(AV.isl i z es).one=true:=rfl
theorem CO {b o n:Nat} {z:TypeId}:(AV.msl b o n z).one=true:=rfl
theorem Ci {b o n:Nat}:(AV.ptr b o n).one=true:=rfl
theorem uK {t:TypeId} {v:AV}:(AV.iface t v).one=true:=rfl
theorem z9 {p:AV→Bool} {a:AV} {l:List AV}:(a::l).all p=(p a && l.all p):=rfl
theorem Dd {p:AV→Bool}:([]:List AV).all p=true:=rfl
theorem CZ {vs:List AV} {i:Nat}:NC (.tup vs) i=vs[i]? :=rfl
theorem yk {pl:List (Nat×Nat)} {cs:List AV}:gX pl cs []=some cs:=by cases pl<;>rfl
def f1A (pl:List (Nat×Nat)) (cs:List AV) (v:AV) (r:List (Nat×AV)):Option (Nat×Nat)→Option (List AV)
 | some (off,size)=>if v.cells.length=size∧off+size≤cs.length∧v.cells.all AV.one=true then gX pl (stA cs off v.cells) r else none
 | none=>none
theorem uc {pl:List (Nat×Nat)} {cs:List AV} {i:Nat} {v:AV} {r:List (Nat×AV)}:gX pl cs ((i,v)::r)=f1A pl cs v r pl[i]? :=by
 conv=>lhs;unfold gX
 cases pl[i]? with
 | none=>rfl
 | some q=>rfl
theorem uX {pl:List (Nat×Nat)} {cs:List AV} {off size:Nat} {v:AV} {r:List (Nat×AV)} (h1:v.cells.length=size) (h2:off+size≤cs.length) (h3:v.cells.all AV.one=true):
  f1A pl cs v r (some (off,size))=gX pl (stA cs off v.cells) r:=by simp[f1A,h1,h2,h3]
def s1A (n:Nat) (h:AH) (b i off:Nat) (cs:List AV):Option (List (List AV))→Option AH
 | some es=>(es[i]?).bind fun e=>if cs.all AV.one=true∧cs.length=n∧off+n≤e.length then some (h.set b (some (es.set i (stA e off cs))))else none
 | none=>none
def s2A (n:Nat) (h:AH) (b i off:Nat) (cs:List AV) (es:List (List AV)):Option (List AV)→Option AH
 | some e=>if cs.all AV.one=true∧cs.length=n∧off+n≤e.length then some (h.set b (some (es.set i (stA e off cs))))else none
 | none=>none
theorem s_1 {n b i off:Nat} {x:AV}:aI n h (.ptr b i off) x=s1A n h b i off x.cells (h.cell b):=by
 simp only[aI]
 cases h.cell b<;>rfl
theorem s_2 {n b i off:Nat} {cs:List AV} {es:List (List AV)}:s1A n h b i off cs (some es)=s2A n h b i off cs es es[i]? :=by
 simp only[s1A]
 cases es[i]? <;>rfl
theorem s_3 {n b i off:Nat} {cs:List AV} {es:List (List AV)} {e:List AV} (h1:cs.all AV.one=true) (h2:cs.length=n) (h3:off+n≤e.length):s2A n h b i off cs es (some e)=some (h.set b (some (es.set i (stA e off cs)))):=by simp[s2A,h1,h2,h3]
theorem uS {n:Nat} {es:List (List AV)}:jM n es []=some es:=by cases es<;>rfl
theorem sG {n:Nat} {es:List (List AV)} {i:Nat} {v:AV} {r:List (Nat×AV)} (h1:v.cells.length=n) (h2:i<es.length) (h3:v.cells.all AV.one=true):jM n es ((i,v)::r)=jM n (es.set i v.cells) r:=by
 conv=>lhs;unfold jM
 simp[h1,h2,h3]
theorem IZ {e cs:List AV} (he:e.length=cs.length):stA e 0 cs=cs:=by simp[stA,he]
theorem Hw {e:List AV}:stA e 0 []=e:=by simp[stA]
theorem CK {a c:AV} {e cs:List AV}:stA (a::e) 0 (c::cs)=c::stA e 0 cs:=by simp[stA]
theorem DM {a:AV} {e cs:List AV} {n:Nat}:stA (a::e) (n+1) cs=a::stA e n cs:=by simp[stA,Nat.add_right_comm]
theorem C1 {b:Nat} {x y:Option (List (List AV))}:(h.set b x).set b y=h.set b y:=by
 unfold AH.set
 congr 1
 funext j
 by_cases hj:j=b<;>simp[hj]
theorem bp {x y:List (List AV)}:(h.push x).set h.n (some y)=h.push y:=by
 unfold AH.push AH.set
 congr 1
 funext j
 by_cases hj:j=h.n<;>simp[hj]
theorem CF:tD V L h []=True:=rfl
theorem zo {agg:Bool} {n:Nat} {a d:Arg} {r:List RCk}:tD V L h (⟨none,agg,n,a,d⟩::r)=(aC agg n h (arg V L a)=some (arg V L d)∧tD V L h r):=rfl
theorem yB {agg:Bool} {n:Nat} {g a d:Arg} {w:Bool} {r:List RCk}:tD V L h (⟨some (g,w),agg,n,a,d⟩::r)=((match gB w (arg V L g)with | some true=>aC agg n h (arg V L a)=some (arg V L d) | _=>True)∧tD V L h r):=by
 simp only[tD,px,MK]<;>rfl
theorem nG {b:Bool}:fgA true h (.inl (.bool b),h)=some (.inl (.bool b),h):=aD (af.refl h) rfl
theorem F9 {n:Int}:fgA true h (.inl (.int q n),h)=some (.inl (.int q n),h):=aD (af.refl h) rfl
theorem FA {n:List UInt8}:fgA true h (.inl (.str n),h)=some (.inl (.str n),h):=aD (af.refl h) rfl
theorem w64 {n:Int} (h1: -9223372036854775808≤n) (h2:n≤9223372036854775807):IntKind.wrap .i64 n=n:=by
 rw[IntKind.wrap_i64]
 omega
theorem cj {a b:List (List AV)}:((h.push a).push b).cell (h.n+1)=some b:=by simp[AH.push]
theorem gA {a b:List (List AV)}:((h.push a).push b).cell h.n=some a:=by simp[AH.push]
theorem j7 {a x y:List (List AV)}:((h.push a).push x).set (h.n+1) (some y)=(h.push a).push y:=bp (h:=h.push a)
theorem fz {a b c:List (List AV)}:(((h.push a).push b).push c).cell (h.n+1+1)=some c:=by simp[AH.push]
theorem kH {a b c:List (List AV)}:(((h.push a).push b).push c).cell (h.n+1)=some b:=by simp[AH.push]
theorem iG {a b c:List (List AV)}:(((h.push a).push b).push c).cell h.n=some a:=by simp[AH.push,show ¬ h.n=h.n+1+1 by omega]
theorem vw {a b x y:List (List AV)}:(((h.push a).push b).push x).set (h.n+1+1) (some y)=((h.push a).push b).push y:=bp (h:=(h.push a).push b)
theorem aN {es:List (List AV)} {j:Nat} (hj:j<h.n):(h.push es).cell j=h.cell j:=hU (by omega)
theorem aG {b b':List RS} (hb:b=b'):aq C nv (.lp b::k) V L h=aq C nv (.ss b':: .lp b::k) (aa nv V) L h:=by subst hb;exact Pb
theorem I0 {agg:Bool} {n b:Nat} {t:TypeId}:aC agg n h (.tptr t b)=((h.cell b).bind (·[0]?)).bind fun e=>ldA agg n e 0:=rfl
theorem B2 {t:TypeId} {b:Nat}:aH 0 (.tptr t b)=some (.tptr t b):=rfl
theorem B1 {t:TypeId} {b:Nat}:aH 1 (.tptr t b)=some (.ptr b 0 1):=rfl
theorem DE {t:TypeId} {b:Nat}:aH 2 (.tptr t b)=some (.ptr b 0 2):=rfl
theorem CU {t:TypeId} {b:Nat}:aH 3 (.tptr t b)=some (.ptr b 0 3):=rfl
theorem Fx {t:TypeId} {b:Nat}:zq (.tptr t b)=some (.tptr t b):=rfl
theorem OX {n b:Nat} {t:TypeId} {x:AV}:aI n h (.tptr t b) x=s1A n h b 0 0 x.cells (h.cell b):=by
 simp only[aI]
 cases h.cell b<;>rfl
theorem tr {t:TypeId} {b:Nat}:(AV.tptr t b).cells=[.tptr t b]:=rfl
theorem yc {t:TypeId} {b:Nat}:(AV.tptr t b).one=true:=rfl
theorem Hn {a b:Int}:mmA false (.int q a) (.int q b)=some (.int q (if b<a then b else a)):=rfl
theorem GF {a b:Int}:mmA true (.int q a) (.int q b)=some (.int q (if b>a then b else a)):=rfl
theorem Mf {a b:Int}:bu kd .rem (.int q a) (.int q b)=if b=0 then none else some (.int q (a.tmod b)):=by simp[bu,kW]
theorem HV {b i o:Nat}:bu .ptr .eql (.ptr b i o) .nilp=some (.bool false):=by simp[bu,eqA]
theorem Ct {t:TypeId} {b:Nat}:bu .ptr .eql (.tptr t b) .nilp=some (.bool false):=by simp[bu,eqA]
theorem Ma:bu .ptr .eql .nilp .nilp=some (.bool true):=by simp[bu,eqA]
theorem Ch {b i o:Nat}:bu .ptr .neq (.ptr b i o) .nilp=some (.bool true):=by simp[bu,eqA]
theorem xO {t:TypeId} {b:Nat}:bu .ptr .neq (.tptr t b) .nilp=some (.bool true):=by simp[bu,eqA]
theorem H9:bu .ptr .neq .nilp .nilp=some (.bool false):=by simp[bu,eqA]
theorem H6 {t:TypeId} {v:AV} {ks:Option (List Kd)} {cy:Bool}:mz .iface ks cy .neq (.iface t v) .nili=some (.bool true):=by simp[mz,bu,eqA]
theorem Lz {ks:Option (List Kd)}:mz .iface ks true .neq .nili .nili=some (.bool false):=by simp[mz,NB]
theorem Dt {t:TypeId} {v:AV} {ks:Option (List Kd)} {cy:Bool}:mz .iface ks cy .eql (.iface t v) .nili=some (.bool false):=by simp[mz,bu,eqA]
theorem H2 {ks:Option (List Kd)}:mz .iface ks true .eql .nili .nili=some (.bool true):=by simp[mz,NB]
theorem ag:(type_of% @List.length_cons.{0})∧(type_of% @List.length_nil.{0})∧(type_of% @List.cons_append.{0})∧(type_of% @List.nil_append.{0})∧(type_of% @List.map_cons.{0,0})∧(type_of% @List.map_nil.{0,0})∧(type_of% @Option.bind_some.{0,0})∧(type_of% @Option.map_some.{0,0})∧(type_of% @Option.bind_none.{0,0})∧(type_of% @Option.map_none.{0,0})∧(type_of% @if_true.{1})∧(type_of% @if_false.{1})∧(type_of% @decide_true)∧(type_of% @decide_false)∧(type_of% @Bool.false_eq_true)∧(type_of% @Bool.true_eq_false)∧(type_of% @Bool.not_true)∧(type_of% @Bool.not_false)∧(type_of% @Bool.and_true)∧(type_of% @Bool.true_and)∧(type_of% @Bool.and_false)∧(type_of% @Bool.false_and)∧(type_of% @Bool.or_true)∧(type_of% @Bool.true_or)∧(type_of% @Bool.or_false)∧(type_of% @Bool.false_or)∧(type_of% @true_and)∧(type_of% @and_true)∧(type_of% @false_and)∧(type_of% @and_false)∧(type_of% @List.take_zero.{0})∧(type_of% @List.take_succ_cons.{0})∧(type_of% @List.drop_zero.{0})∧(type_of% @List.drop_succ_cons.{0})∧(type_of% @List.take_nil.{0})∧(type_of% @List.drop_nil.{0})∧(type_of% @List.set_cons_zero.{0})∧(type_of% @List.set_cons_succ.{0})∧(type_of% @Nat.zero_add)∧(type_of% @Nat.lt_add_one)∧(type_of% @Nat.le_refl)∧(type_of% @Int.toNat_natCast):=
 ⟨@List.length_cons.{0},@List.length_nil.{0},@List.cons_append.{0},@List.nil_append.{0},@List.map_cons.{0,0},@List.map_nil.{0,0},@Option.bind_some.{0,0},@Option.map_some.{0,0},@Option.bind_none.{0,0},@Option.map_none.{0,0},@if_true.{1},@if_false.{1},@decide_true,@decide_false,@Bool.false_eq_true,@Bool.true_eq_false,@Bool.not_true,@Bool.not_false,@Bool.and_true,@Bool.true_and,@Bool.and_false,@Bool.false_and,@Bool.or_true,@Bool.true_or,@Bool.or_false,@Bool.false_or,@true_and,@and_true,@false_and,@and_false,@List.take_zero.{0},@List.take_succ_cons.{0},@List.drop_zero.{0},@List.drop_succ_cons.{0},@List.take_nil.{0},@List.drop_nil.{0},@List.set_cons_zero.{0},@List.set_cons_succ.{0},@Nat.zero_add,@Nat.lt_add_one,@Nat.le_refl,@Int.toNat_natCast⟩
theorem sim:(type_of% @LH)∧(type_of% @xX)∧(type_of% @Ib)∧(type_of% @IX)∧(type_of% @xd)∧(type_of% @Bp)∧(type_of% @FU)∧(type_of% @L6)∧(type_of% @LP)∧(type_of% @oX)∧(type_of% @Cn)∧(type_of% @r_g)∧(type_of% @F7)∧(type_of% @GE)∧(type_of% @OZ)∧(type_of% @GH)∧(type_of% @CY)∧(type_of% @Hy)∧(type_of% @Mr)∧(type_of% @GP)∧(type_of% @Oo)∧(type_of% @Gc)∧(type_of% @L1)∧(type_of% @Ml)∧(type_of% @LB)∧(type_of% @LD)∧(type_of% @LY)∧(type_of% @Mh)∧(type_of% @Oz)∧(type_of% @Lo)∧(type_of% @L2)∧(type_of% @Mn)∧(type_of% @DH)∧(type_of% @LT)∧(type_of% @H0)∧(type_of% @Gr)∧(type_of% @Ds)∧(type_of% @Lr)∧(type_of% @Mp)∧(type_of% @C9)∧(type_of% @Df)∧(type_of% @DG)∧(type_of% @HG)∧(type_of% @ye)∧(type_of% @CS)∧(type_of% @yu)∧(type_of% @DI)∧(type_of% @C7)∧(type_of% @vF)∧(type_of% @kI)∧(type_of% @pm)∧(type_of% @Lx)∧(type_of% @Me)∧(type_of% @LL)∧(type_of% @Il)∧(type_of% @FB)∧(type_of% @II)∧(type_of% @IF)∧(type_of% @GT)∧(type_of% @Ic)∧(type_of% @MK)∧(type_of% @CG)∧(type_of% @GK)∧(type_of% @Mj)∧(type_of% @NU)∧(type_of% @Oa)∧(type_of% @Lj)∧(type_of% @DN)∧(type_of% @LS)∧(type_of% @zZ)∧(type_of% @Mo)∧(type_of% @L7)∧(type_of% @Lp)∧(type_of% @LN)∧(type_of% @lh)∧(type_of% @kA)∧(type_of% @L8)∧(type_of% @LV)∧(type_of% @Lq)∧(type_of% @LU)∧(type_of% @Ln)∧(type_of% @LE)∧(type_of% @Mg)∧(type_of% @Lm)∧(type_of% @LM)∧(type_of% @LW)∧(type_of% @N5)∧(type_of% @Aa)∧(type_of% @HQ)∧(type_of% @FJ)∧(type_of% @Ig)∧(type_of% @FM)∧(type_of% @FL)∧(type_of% @vo)∧(type_of% @DB)∧(type_of% @Mk)∧(type_of% @Mq)∧(type_of% @LC)∧(type_of% @LR)∧(type_of% @bB)∧(type_of% @OQ)∧(type_of% @fA)∧(type_of% @Md)∧(type_of% @N1)∧(type_of% @Mb)∧(type_of% @OF)∧(type_of% @xE)∧(type_of% @Di)∧(type_of% @De)∧(type_of% @CI)∧(type_of% @uG)∧(type_of% @jP)∧(type_of% @jO)∧(type_of% @Ac)∧(type_of% @aQ)∧(type_of% @dW)∧(type_of% @mg)∧(type_of% @oP)∧(type_of% @aE)∧(type_of% @aL)∧(type_of% @jd)∧(type_of% @Db)∧(type_of% @sr)∧(type_of% @DC)∧(type_of% @lW)∧(type_of% @iW)∧(type_of% @uu)∧(type_of% @IN)∧(type_of% @xH)∧(type_of% @C8)∧(type_of% @GZ)∧(type_of% @HL)∧(type_of% @FX)∧(type_of% @Hs)∧(type_of% @Lw)∧(type_of% @If)∧(type_of% @H5)∧(type_of% @L0)∧(type_of% @DL)∧(type_of% @OB)∧(type_of% @s_1)∧(type_of% @s_2)∧(type_of% @s_3)∧(type_of% @uD)∧(type_of% @tT)∧(type_of% @qP)∧(type_of% @uT)∧(type_of% @q8)∧(type_of% @se)∧(type_of% @uQ)∧(type_of% @uq)∧(type_of% @uz)∧(type_of% @Cd)∧(type_of% @yH)∧(type_of% @Cm)∧(type_of% @xL)∧(type_of% @Ae)∧(type_of% @Dh)∧(type_of% @CO)∧(type_of% @Ci)∧(type_of% @uK)∧(type_of% @z9)∧(type_of% @Dd)∧(type_of% @CZ)∧(type_of% @yk)∧(type_of% @uc)∧(type_of% @uX)∧(type_of% @uS)∧(type_of% @sG)∧(type_of% @IZ)∧(type_of% @Hw)∧(type_of% @CK)∧(type_of% @DM)∧(type_of% @C1)∧(type_of% @bp)∧(type_of% @In)∧(type_of% @It)∧(type_of% @yQ)∧(type_of% @Oy)∧(type_of% @I0)∧(type_of% @B2)∧(type_of% @B1)∧(type_of% @DE)∧(type_of% @CU)∧(type_of% @Fx)∧(type_of% @OX)∧(type_of% @tr)∧(type_of% @yc)∧(type_of% @Hn)∧(type_of% @GF)∧(type_of% @Mf)∧(type_of% @HV)∧(type_of% @Ct)∧(type_of% @Ma)∧(type_of% @Ch)∧(type_of% @xO)∧(type_of% @H9)∧(type_of% @H6)∧(type_of% @Lz)∧(type_of% @Dt)∧(type_of% @H2)∧(type_of% @CF)∧(type_of% @zo)∧(type_of% @yB)∧(type_of% @nG)∧(type_of% @F9)∧(type_of% @FA)∧(type_of% @bv)∧(type_of% @cj)∧(type_of% @gA)∧(type_of% @j7)∧(type_of% @fz)∧(type_of% @kH)∧(type_of% @iG)∧(type_of% @vw):=
 ⟨@LH,@xX,@Ib,@IX,@xd,@Bp,@FU,@L6,@LP,@oX,@Cn,@r_g,@F7,@GE,@OZ,@GH,@CY,@Hy,@Mr,@GP,@Oo,@Gc,@L1,@Ml,@LB,@LD,@LY,@Mh,@Oz,@Lo,@L2,@Mn,@DH,@LT,@H0,@Gr,@Ds,@Lr,@Mp,@C9,@Df,@DG,@HG,@ye,@CS,@yu,@DI,@C7,@vF,@kI,@pm,@Lx,@Me,@LL,@Il,@FB,@II,@IF,@GT,@Ic,@MK,@CG,@GK,@Mj,@NU,@Oa,@Lj,@DN,@LS,@zZ,@Mo,@L7,@Lp,@LN,@lh,@kA,@L8,@LV,@Lq,@LU,@Ln,@LE,@Mg,@Lm,@LM,@LW,@N5,@Aa,@HQ,@FJ,@Ig,@FM,@FL,@vo,@DB,@Mk,@Mq,@LC,@LR,@bB,@OQ,@fA,@Md,@N1,@Mb,@OF,@xE,@Di,@De,@CI,@uG,@jP,@jO,@Ac,@aQ,@dW,@mg,@oP,@aE,@aL,@jd,@Db,@sr,@DC,@lW,@iW,@uu,@IN,@xH,@C8,@GZ,@HL,@FX,@Hs,@Lw,@If,@H5,@L0,@DL,@OB,@s_1,@s_2,@s_3,@uD,@tT,@qP,@uT,@q8,@se,@uQ,@uq,@uz,@Cd,@yH,@Cm,@xL,@Ae,@Dh,@CO,@Ci,@uK,@z9,@Dd,@CZ,@yk,@uc,@uX,@uS,@sG,@IZ,@Hw,@CK,@DM,@C1,@bp,@In,@It,@yQ,@Oy,@I0,@B2,@B1,@DE,@CU,@Fx,@OX,@tr,@yc,@Hn,@GF,@Mf,@HV,@Ct,@Ma,@Ch,@xO,@H9,@H6,@Lz,@Dt,@H2,@CF,@zo,@yB,@nG,@F9,@FA,@bv,@cj,@gA,@j7,@fz,@kH,@iG,@vw⟩
end
def SlA (e:TypeId) (v:AV) (es:List (List AV)):Prop:=(es=[]∧v= .nils)∨∃ id,v= .isl id e es
abbrev bm (l:List Int):List (List AV):=l.map fun x=>[.int .i64 x]
inductive XD where
 | mk (op k n:Int) (l:List XD)
def XD.op:XD→Int
 | .mk op _ _ _=>op
def XD.k:XD→Int
 | .mk _ k _ _=>k
def XD.n:XD→Int
 | .mk _ _ n _=>n
def XD.l:XD→List XD
 | .mk _ _ _ l=>l
theorem XD.lt_mem {x y:XD} (h:y∈x.l):SizeOf.sizeOf y<SizeOf.sizeOf x:=by
 cases x with
 | mk op k n l=>
   have:=List.sizeOf_lt_of_mem (show y∈l from h)
   simp only[XD.mk.sizeOf_spec]
   omega
mutual
def XD.size:XD→Nat
 | .mk _ _ _ l=>1+aJ l
def aJ:List XD→Nat
 | []=>0
 | x::l=>x.size+aJ l
end
mutual
def XD.depth:XD→Nat
 | .mk _ _ _ l=>bd l
def bd:List XD→Nat
 | []=>0
 | x::l=>max (1+x.depth) (bd l)
end
theorem XD.size_eq (x:XD):x.size=1+aJ x.l:=by cases x;simp[XD.size,XD.l]
theorem XD.depth_eq (x:XD):x.depth=bd x.l:=by cases x;simp[XD.depth,XD.l]
theorem fe:∀ (l l':List XD),aJ (l++l')=aJ l+aJ l'
 | [],l'=>by simp[aJ]
 | x::l,l'=>by simp[aJ,fe l l',Nat.add_assoc]
theorem jf:∀ (l l':List XD),bd (l++l')=max (bd l) (bd l')
 | [],l'=>by simp[bd]
 | x::l,l'=>by simp[bd,jf l l',Nat.max_assoc]
theorem sH (x:XD):aJ [x]=x.size:=by simp[aJ]
theorem Ab (x:XD):bd [x]=1+x.depth:=by simp[bd]
theorem XD.size_pos (x:XD):1≤x.size:=by rw[x.size_eq];omega
theorem XD.len_size (x:XD):x.l.length<x.size:=by
 have:∀ l:List XD,l.length≤aJ l:=by
  intro l
  induction l with
  | nil=>simp
  | cons y l ih=>
    have:=y.size_pos
    simp only[aJ,List.length_cons]
    omega
 have:=this x.l
 rw[x.size_eq]
 omega
theorem XD.so_pos (x:XD):1≤SizeOf.sizeOf x:=by
 cases x
 simp only[XD.mk.sizeOf_spec]
 omega
theorem sd {n:Nat}:∀ {l:List XD},bd l≤n↔∀ y∈l,1+y.depth≤n
 | []=>by simp[bd]
 | x::l=>by
   have:=sd (n:=n) (l:=l)
   simp only[bd,List.mem_cons,forall_eq_or_imp,←this]
   omega
theorem Ho (x:XD) {left:Int} (h0:0≤left):(!(x.l.any fun y=> !decide ((y.depth:Int)≤left - 1)))=decide ((x.depth:Int)≤left):=by
 obtain⟨n,rfl⟩:∃ n:Nat,left=n:=⟨left.toNat,by omega⟩
 have h:=sd (n:=n) (l:=x.l)
 rw[←x.depth_eq]at h
 by_cases hx:x.depth≤n
 ·have h1:((x.depth:Nat):Int)≤(n:Int):=by omega
  have h2:(x.l.any fun y=> !decide ((y.depth:Int)≤(n:Int) - 1))=false:=by
   rw[List.any_eq_false]
   intro y hy
   have:=h.1 hx y hy
   have h3:(y.depth:Int)≤(n:Int) - 1:=by omega
   simp[h3]
  rw[h2]
  simp[h1]
 ·have h1:¬ ((x.depth:Nat):Int)≤(n:Int):=by omega
  have h2:(x.l.any fun y=> !decide ((y.depth:Int)≤(n:Int) - 1))=true:=by
   cases hb:(x.l.any fun y=> !decide ((y.depth:Int)≤(n:Int) - 1))
   ·exfalso
    apply hx
    apply h.2
    intro y hy
    have:=(List.any_eq_false.1 hb) y hy
    simp at this
    omega
   ·rfl
  rw[h2]
  simp[h1]
def aX (op:Int):Int:=
 if op=1∨op=2∨op=3∨op=4∨op=21 then 0
 else if op=9∨op=10∨op=11∨op=12∨op=13∨op=15∨op=16∨op=17∨op=18∨op=20 then 1
 else if op=5∨op=6∨op=8∨op=14∨op=19 then 2
 else if op=7 then 3 else -1
def jr (nf op k n o:Int):Int:=
 if n≠0∧op≠2 then 5
 else if op=4 then(if k<0∨o≤k then 1 else 0)
 else if op=6 then(if k<1∨5<k then 1 else 0)
 else if op=15 then(if k<0∨15<k then 1 else 0)
 else if op=18 then(if k<0∨nf≤k then 1 else 0)
 else if k≠0 then 5 else 0
def eR (nf op k n:Int) (len:Nat) (o:Int):Int:=
 if aX op<0 then 2 else if(len:Int)≠aX op then 5
 else if jr nf op k n o≠0 then jr nf op k n o
 else if op=5∧o=12 then 3 else 0
mutual
def XD.fault (nf:Int):XD→Int→Int
 | .mk op k n l,o=>if eR nf op k n l.length o≠0 then eR nf op k n l.length o else dR nf op 0 l o
def dR (nf op:Int):Nat→List XD→Int→Int
 | _,[],_=>0
 | i,x::l,o=>if x.fault nf (if op=5∧i=1 then o+1 else o)≠0 then x.fault nf (if op=5∧i=1 then o+1 else o)else dR nf op (i+1) l o
end
def fP (nf:Int) (x:XD):Int:=if 30<x.depth then 4 else if 120<x.size then 3 else x.fault nf 0
def fT (nf:Int):Nat→List XD→Int×Int
 | _,[]=>(0,0)
 | i,x::l=>if fP nf x≠0 then(fP nf x,i)else fT nf (i+1) l
def ba (l:List XD):Int×Int:=if l.length=0∨6<l.length then(3, -1)else fT l.length 0 l
def fL (l:List XD):Bool:=decide (20<l.length) || l.any fun x=>decide (600<x.size)
abbrev tE:TypeId:=46
mutual
def ExA:XD→List AV→Prop
 | .mk op k n l,r=>∃ v es,r=[.int .i64 op,.int .i64 k,.int .i64 n,v]∧SlA tE v es∧ExL l es
def ExL:List XD→List (List AV)→Prop
 | [],es=>es=[]
 | x::l,es=>∃ r rs,es=r::rs∧ExA x r∧ExL l rs
end
structure aT where
 op:Int
 k:Int
 n:Int
def gL:List (Nat→List aT)→Nat→List aT
 | [],_=>[]
 | f::fs,p=>f p++gL fs (p+(f p).length)
def MC (f0 f1:Nat→List aT) (p:Nat):List aT:=⟨100,0,0⟩::(f0 (p+1)++⟨101,0,0⟩::(f1 (p+1+(f0 (p+1)).length+1)++[⟨102,0,0⟩]))
def gY (f0 f1:Nat→List aT) (p:Nat):Nat:=p+1+(f0 (p+1)).length+1+(f1 (p+1+(f0 (p+1)).length+1)).length+1
def ifC (f0 f1 f2:Nat→List aT) (p:Nat):List aT:=
 ⟨100,0,0⟩::(f0 (p+1)++⟨103,(gY f0 f1 p:Nat),0⟩::(f1 (p+1+(f0 (p+1)).length+1)++⟨104,((gY f0 f1 p+(f2 (gY f0 f1 p)).length:Nat):Int),0⟩::f2 (gY f0 f1 p)))
def qZ (op k n:Int) (fs:List (Nat→List aT)) (p:Nat):List aT:=
 if op=5 then(match fs with | [f0,f1]=>MC f0 f1 p | _=>[])
 else if op=7 then(match fs with | [f0,f1,f2]=>ifC f0 f1 f2 p | _=>[])
 else⟨100,0,0⟩::(gL fs (p+1)++[⟨op,k,n⟩])
mutual
def ay:XD→Nat→List aT
 | .mk op k n l=>qZ op k n (rg l)
def rg:List XD→List (Nat→List aT)
 | []=>[]
 | x::l=>ay x::rg l
end
theorem GS (x:XD):ay x=qZ x.op x.k x.n (rg x.l):=by cases x;simp only[ay,XD.op,XD.k,XD.n,XD.l]
open Classical in
theorem rh:∀ l:List XD,rg l=l.map ay
 | []=>rfl
 | x::l=>by simp only[rg,List.map_cons,rh l]
theorem iJ (x:XD):ay x=qZ x.op x.k x.n (x.l.map ay):=by rw[GS,rh]
theorem rL:∀ (l:List XD) (p:Nat),(∀ y∈l,∀ p,(ay y p).length≤3*y.size)→(gL (l.map ay) p).length≤3*aJ l
 | [],p,_=>by simp[gL]
 | x::l,p,h=>by
   have h1:=h x (by simp) p
   have h2:=rL l (p+(ay x p).length) fun y hy=>h y (by simp[hy])
   simp only[List.map_cons,gL,List.length_append,aJ]
   omega
theorem eK:∀ (N:Nat) (x:XD),SizeOf.sizeOf x≤N→∀ p:Nat,(ay x p).length≤3*x.size:=by
 intro N
 induction N with
 | zero=>intro x hx;have:=x.so_pos;omega
 | succ N ih=>
   intro x hx p
   have hc:∀ y∈x.l,∀ p,(ay y p).length≤3*y.size:=fun y hy=>ih y (by have:=XD.lt_mem hy;omega)
   have hs:=x.size_eq
   rw[iJ]
   generalize x.l=l at hc hs
   unfold qZ
   split
   ·match l,hc,hs with
    | [],_,_=>simp
    | [a],_,_=>simp
    | [a,b],hc,hs=>
      have h1:=hc a (by simp) (p+1)
      have h2:=hc b (by simp) (p+1+(ay a (p+1)).length+1)
      simp only[aJ]at hs
      simp only[List.map_cons,List.map_nil,MC,List.length_cons,List.length_append,List.length_nil]
      have:=a.size_pos
      omega
    | a::b::c::l,_,_=>simp
   ·split
    ·match l,hc,hs with
     | [],_,_=>simp
     | [a],_,_=>simp
     | [a,b],_,_=>simp
     | [a,b,c],hc,hs=>
       have h1:=hc a (by simp) (p+1)
       have h2:=hc b (by simp) (p+1+(ay a (p+1)).length+1)
       have h3:=hc c (by simp) (gY (ay a) (ay b) p)
       simp only[aJ]at hs
       simp only[List.map_cons,List.map_nil,ifC,List.length_cons,List.length_append]
       omega
     | a::b::c::d::l,_,_=>simp
    ·have:=rL l (p+1) hc
     simp only[List.length_cons,List.length_append,List.length_nil]
     omega
theorem lx {nf o:Int} {x:XD} (h:x.fault nf o=0):0≤aX x.op∧(x.l.length:Int)=aX x.op∧jr nf x.op x.k x.n o=0∧¬ (x.op=5∧o=12)∧dR nf x.op 0 x.l o=0:=by
 cases x with
 | mk op k n l=>
   simp only[XD.fault]at h
   split at h
   ·rename_i h1;exact absurd h h1
   ·rename_i h1
    have h1:eR nf op k n l.length o=0:=by simpa using h1
    unfold eR at h1
    split at h1
    ·cases h1
    ·split at h1
     ·cases h1
     ·split at h1
      ·rename_i h2;exact absurd h1 h2
      ·split at h1
       ·cases h1
       ·rename_i a b c d
        simp only[XD.op,XD.k,XD.n,XD.l]
        exact⟨by omega,by simpa using b,by simpa using c,d,h⟩
theorem gK {nf op o:Int} {i:Nat} {x:XD} {l:List XD} (h:dR nf op i (x::l) o=0):x.fault nf (if op=5∧i=1 then o+1 else o)=0∧dR nf op (i+1) l o=0:=by
 simp only[dR]at h
 generalize x.fault nf (if op=5∧i=1 then o+1 else o)=c at h
 by_cases hc:c=0
 ·exact⟨hc,by simpa[hc]using h⟩
 ·simp[hc]at h
theorem kt {nf op o:Int} (hop:op≠5):∀ {l:List XD} {i:Nat},dR nf op i l o=0→∀ y∈l,y.fault nf o=0
 | [],_,_,y,hy=>by simp at hy
 | x::l,i,h,y,hy=>by
   obtain⟨h1,h2⟩:=gK h
   rw[if_neg (fun h=>hop h.1)]at h1
   rcases List.mem_cons.1 hy with rfl | hy
   ·exact h1
   ·exact kt hop h2 y hy
inductive VD where
 | mk (kind n:Int) (l:List VD)
def VD.kind:VD→Int
 | .mk k _ _=>k
def VD.n:VD→Int
 | .mk _ n _=>n
def VD.l:VD→List VD
 | .mk _ _ l=>l
theorem VD.eta (x:VD):x= .mk x.kind x.n x.l:=by cases x;rfl
theorem VD.lt_mem {x y:VD} (h:y∈x.l):SizeOf.sizeOf y<SizeOf.sizeOf x:=by
 cases x with
 | mk kind n l=>
   have:=List.sizeOf_lt_of_mem (show y∈l from h)
   simp only[VD.mk.sizeOf_spec]
   omega
theorem VD.so_pos (x:VD):1≤SizeOf.sizeOf x:=by
 cases x
 simp only[VD.mk.sizeOf_spec]
 omega
mutual
def VD.size:VD→Nat
 | .mk _ _ l=>1+bE l
def bE:List VD→Nat
 | []=>0
 | x::l=>x.size+bE l
end
theorem VD.size_eq (x:VD):x.size=1+bE x.l:=by cases x;simp[VD.size,VD.l]
theorem gH:∀ (l l':List VD),bE (l++l')=bE l+bE l'
 | [],l'=>by simp[bE]
 | x::l,l'=>by simp[bE,gH l l',Nat.add_assoc]
theorem Aq (x:VD):bE [x]=x.size:=by simp[bE]
theorem VD.size_pos (x:VD):1≤x.size:=by rw[x.size_eq];omega
theorem mT:∀ l:List VD,l.length≤bE l
 | []=>by simp
 | y::l=>by
   have:=y.size_pos
   have:=mT l
   simp only[bE,List.length_cons]
   omega
theorem VD.len_size (x:VD):x.l.length<x.size:=by
 have:=mT x.l
 rw[x.size_eq]
 omega
theorem VD.size_mem {x y:VD} (h:y∈x.l):y.size<x.size:=by
 have:∀ l:List VD,y∈l→y.size≤bE l:=by
  intro l
  induction l with
  | nil=>intro hm;simp at hm
  | cons z l ih=>
    intro hm
    simp only[bE]
    rcases List.mem_cons.1 hm with rfl | hm
    ·omega
    ·have:=ih hm;omega
 have:=this x.l h
 rw[x.size_eq]
 omega
def ji (kind:Int):Nat:=if kind=2 then 2 else if kind=3 then 1 else 0
def dH (kind n:Int) (len:Nat):Int:=
 if kind<0∨5<kind then 2 else if len≠ji kind then 5 else if(kind=0∨kind=2)∧n≠0 then 5 else if 3≤kind∧n<0 then 1 else 0
mutual
def VD.fault:VD→Int
 | .mk kind n l=>if dH kind n l.length≠0 then dH kind n l.length else du l
def du:List VD→Int
 | []=>0
 | x::l=>if x.fault≠0 then x.fault else du l
end
def VD.code (x:VD):Int:=if 40<x.size then 3 else x.fault
theorem VD.fault_eq (x:VD):x.fault=if dH x.kind x.n x.l.length≠0 then dH x.kind x.n x.l.length else du x.l:=by
 cases x
 rfl
theorem fV (x:VD) (l:List VD):du (x::l)=if x.fault≠0 then x.fault else du l:=rfl
mutual
def mC:VD→VD→Bool
 | .mk k n l,.mk k' n' l'=>decide (k=k') && (decide (n=n') && eU l l')
def eU:List VD→List VD→Bool
 | [],[]=>true
 | x::l,y::l'=>mC x y && eU l l'
 | _,_=>false
end
mutual
theorem Bu:∀ x:VD,mC x x=true
 | .mk kind n l=>by simp[mC,pG l]
theorem pG:∀ l:List VD,eU l l=true
 | []=>rfl
 | x::l=>by simp[eU,Bu x,pG l]
end
mutual
theorem Ec:∀ {x y:VD},mC x y=true→x=y
 | .mk k n l,.mk k' n' l',h=>by
   simp only[mC,Bool.and_eq_true,decide_eq_true_eq]at h
   obtain⟨rfl,rfl,h⟩:=h
   rw[mR h]
theorem mR:∀ {l l':List VD},eU l l'=true→l=l'
 | [],[],_=>rfl
 | x::l,y::l',h=>by
   simp only[eU,Bool.and_eq_true]at h
   rw[Ec h.1,mR h.2]
 | [],_::_,h=>by simp[eU]at h
 | _::_,[],h=>by simp[eU]at h
end
theorem EC {l l':List VD} (h:decide ((l.length:Int)=(l'.length:Int))=false):eU l l'=false:=by
 cases hs:eU l l'
 ·rfl
 ·rw[mR hs]at h
  simp at h
theorem IS (x y:VD):mC x y=(decide (x.kind=y.kind) && (decide (x.n=y.n) && eU x.l y.l)):=by
 cases x;cases y
 rfl
mutual
def VD.caps:VD→List Int
 | .mk kind n l=>(if kind=4 then[n]else[])++dC l
def dC:List VD→List Int
 | []=>[]
 | x::l=>x.caps++dC l
end
theorem VD.caps_eq (x:VD):x.caps=(if x.kind=4 then[x.n]else[])++dC x.l:=by
 cases x
 rfl
theorem mB:∀ (l l':List VD),dC (l++l')=dC l++dC l'
 | [],l'=>by simp[dC]
 | x::l,l'=>by simp[dC,mB l l',List.append_assoc]
mutual
theorem VD.caps_few:∀ x:VD,x.caps.length≤x.size
 | .mk kind n l=>by
   have:=mO l
   simp only[VD.caps,VD.size,List.length_append]
   split<;>simp<;>omega
theorem mO:∀ l:List VD,(dC l).length≤bE l
 | []=>by simp[dC]
 | x::l=>by
   have:=VD.caps_few x
   have:=mO l
   simp only[dC,bE,List.length_append]
   omega
end
mutual
def VD.gate:VD→Bool
 | .mk kind _ l=>decide (kind=5) || ma l
def ma:List VD→Bool
 | []=>false
 | x::l=>x.gate || ma l
end
theorem VD.gate_eq (x:VD):x.gate=(decide (x.kind=5) || ma x.l):=by
 cases x
 rfl
theorem pM:∀ l:List VD,ma l=l.any VD.gate
 | []=>rfl
 | x::l=>by simp only[ma,List.any_cons,pM l]
abbrev tV:TypeId:=29
mutual
def VaA:VD→List AV→Prop
 | .mk kind n l,r=>∃ v es,r=[.int .i64 kind,.int .i64 n,v]∧SlA tV v es∧VaL l es
def VaL:List VD→List (List AV)→Prop
 | [],es=>es=[]
 | x::l,es=>∃ r rs,es=r::rs∧VaA x r∧VaL l rs
end
open Go.RowKit
theorem AO (x:BitVec 64):IntKind.i64.wrap (x.toNat:Int)=x.toInt:=by
 have h:=x.isLt
 rw[BitVec.toInt_eq_toNat_cond,IntKind.wrap_i64]
 split<;>omega
theorem rO (a b:Int):bits .and .i64 a b=(BitVec.ofInt 64 a &&& BitVec.ofInt 64 b).toInt:=AO _
theorem nX (x:BitVec 64):BitVec.ofInt 64 x.toInt=x:=BitVec.ofInt_toInt
def iT (a b:Int):Int:=bits .and .i64 a b
def EH (a b:Int):Bool:=iT a b==b
theorem Em (x y:BitVec 64):iT x.toInt y.toInt=(x &&& y).toInt:=by
 unfold iT
 rw[rO,nX,nX]
theorem xy (x y:BitVec 64):EH x.toInt y.toInt=decide (x &&& y=y):=by
 unfold EH
 rw[Em,Bool.eq_iff_iff,beq_iff_eq,BitVec.toInt_inj,decide_eq_true_eq]
def gU (a:Int):Bool:=decide (0≤a∧a≤15)
def eB (a:Int) (i:Nat):Bool:=bits .and .i64 (a / 2 ^ i) 1==1
open Go.RowKit
structure aV where
 (parent gate rights cell plugin func:Int)
def bK:aV:=⟨0,0,0,0,0,0⟩
structure ae where
 nodes:List aV
 shut:List Bool
def ae.has (G:ae) (n:Int):Bool:=decide (0≤n∧n<G.nodes.length)
def ae.hasGate (G:ae) (k:Int):Bool:=decide (0≤k∧k<G.shut.length)
def ae.isOpen (G:ae) (k:Int):Bool:=G.hasGate k && !(G.shut.getD k.toNat false)
def ae.gate (G:ae):ae×Int×Int:=if G.shut.length=20 then(G,0,11)else(⟨G.nodes,G.shut++[false]⟩,G.shut.length,0)
def ae.cut (G:ae) (k:Int):ae×Int:=if G.hasGate k then(⟨G.nodes,G.shut.set k.toNat true⟩,0)else(G,8)
def ae.add (G:ae) (n:aV):ae×Int×Int:=
 if gU n.rights=false then(G,0,1)
 else if n.gate≠ -1∧G.hasGate n.gate=false then(G,0,8)
 else if G.nodes.length=80 then(G,0,11)
 else(⟨G.nodes++[n],G.shut⟩,G.nodes.length,0)
def fZ (c:Int):Bool:=decide (0≤c∧c<12)
def pf (p f:Int):Bool:=decide (0≤p∧p<4∧0≤f∧f<6)
def ae.cellC (G:ae) (c r g:Int):ae×Int×Int:=if fZ c then G.add ⟨-1,g,r,c, -1,0⟩else(G,0,1)
def ae.funcC (G:ae) (p f r g:Int):ae×Int×Int:=if pf p f then G.add ⟨-1,g,r,0,p,f⟩else(G,0,1)
def ae.derive (G:ae) (p r g:Int):ae×Int×Int:=if G.has p then G.add ⟨p,g,r,0, -1,0⟩else(G,0,8)
structure OkN (s:Nat) (i:Nat) (n:aV):Prop where
 p0: -1≤n.parent
 p1:n.parent<i
 r:gU n.rights=true
 g:n.gate= -1∨0≤n.gate∧n.gate<s
 t:n.parent= -1→n.plugin= -1∧0≤n.cell∧n.cell<12∧n.func=0∨0≤n.plugin∧n.plugin<4∧0≤n.func∧n.func<6∧n.cell=0
structure ae.Wf (G:ae):Prop where
 few:G.nodes.length≤80
 gates:G.shut.length≤20
 node:∀ (i:Nat) (n:aV),G.nodes[i]? =some n→OkN G.shut.length i n
theorem OkN.more {s s' i:Nat} {n:aV} (h:OkN s i n) (hs:s≤s'):OkN s' i n:=
 ⟨h.p0,h.p1,h.r,h.g.imp id (fun⟨a,b⟩=>⟨a,by omega⟩),h.t⟩
theorem FT:ae.Wf ⟨[],[]⟩:=⟨by simp,by simp,fun i n h=>by simp at h⟩
theorem ae.Wf.gate {G:ae} (h:G.Wf):G.gate.1.Wf:=by
 unfold ae.gate
 split
 ·exact h
 ·have:=h.gates
  exact⟨h.few,by simp;omega,fun i n hn=>(h.node i n hn).more (by simp)⟩
theorem ae.Wf.cut {G:ae} (h:G.Wf) (k:Int):(G.cut k).1.Wf:=by
 unfold ae.cut
 split
 ·exact⟨h.few,by simpa using h.gates,fun i n hn=>by simpa using h.node i n hn⟩
 ·exact h
theorem ae.Wf.add {G:ae} (h:G.Wf) {n:aV} (h0: -1≤n.parent) (h1:n.parent<G.nodes.length)
  (ht:n.parent= -1→n.plugin= -1∧0≤n.cell∧n.cell<12∧n.func=0∨0≤n.plugin∧n.plugin<4∧0≤n.func∧n.func<6∧n.cell=0):(G.add n).1.Wf:=by
 unfold ae.add
 split
 ·exact h
 ·rename_i hr
  split
  ·exact h
  ·rename_i hg
   split
   ·exact h
   ·have:=h.few
    refine⟨by simp;omega,h.gates,fun i m hm=> ?_⟩
    show OkN G.shut.length i m
    simp only at hm
    by_cases hi:i<G.nodes.length
    ·rw[List.getElem?_append_left hi]at hm
     exact h.node i m hm
    ·rw[List.getElem?_append_right (by omega)]at hm
     have hi0:i - G.nodes.length=0:=by
      have:=(List.getElem?_eq_some_iff.1 hm).1
      simpa using this
     rw[hi0]at hm
     simp at hm
     subst hm
     refine⟨h0,by omega,by simpa using hr,?_,ht⟩
     by_cases e:n.gate= -1
     ·exact .inl e
     ·right
      have hgt:G.hasGate n.gate=true:=by
       cases hh:G.hasGate n.gate
       ·exact absurd ⟨e,hh⟩ hg
       ·rfl
      simpa[ae.hasGate]using hgt
theorem ae.Wf.cellC {G:ae} (h:G.Wf) (c r g:Int):(G.cellC c r g).1.Wf:=by
 unfold ae.cellC
 split
 ·rename_i hc
  simp[fZ]at hc
  exact h.add (by simp) (by simp;omega) (fun _=> .inl ⟨rfl,hc.1,hc.2,rfl⟩)
 ·exact h
theorem ae.Wf.funcC {G:ae} (h:G.Wf) (p f r g:Int):(G.funcC p f r g).1.Wf:=by
 unfold ae.funcC
 split
 ·rename_i hc
  simp[pf]at hc
  exact h.add (by simp) (by simp;omega) (fun _=> .inr ⟨hc.1,hc.2.1,hc.2.2.1,hc.2.2.2,rfl⟩)
 ·exact h
theorem ae.Wf.derive {G:ae} (h:G.Wf) (p r g:Int):(G.derive p r g).1.Wf:=by
 unfold ae.derive
 split
 ·rename_i hc
  simp[ae.has]at hc
  exact h.add (by simp;omega) (by simp;omega) (fun e=>by simp at e;omega)
 ·exact h
def ae.pathF (G:ae):Nat→Int→List aV
 | 0,_=>[]
 | f+1,i=>if G.has i then(G.nodes.getD i.toNat bK)::G.pathF f (G.nodes.getD i.toNat bK).parent else[]
def ae.path (G:ae) (i:Int):List aV:=G.pathF (i.toNat+1) i
theorem ae.Wf.get {G:ae} (h:G.Wf) {i:Int} (hi:G.has i=true):OkN G.shut.length i.toNat (G.nodes.getD i.toNat bK):=by
 simp[ae.has]at hi
 have hl:i.toNat<G.nodes.length:=by omega
 have e:G.nodes[i.toNat]? =some (G.nodes.getD i.toNat bK):=by simp[List.getD,hl]
 exact h.node _ _ e
theorem ae.pathF_more {G:ae} (h:G.Wf):∀ (f:Nat) (i:Int),i.toNat<f→G.pathF f i=G.path i:=by
 intro f
 induction f using Nat.strongRecOn with
 | _ f ih=>
   intro i hi
   cases f with
   | zero=>omega
   | succ f=>
     unfold ae.path
     by_cases hh:G.has i=true
     ·have ok:=h.get hh
      have hp:=ok.p0
      have hp1:=ok.p1
      have hi0:0≤i:=by simp[ae.has]at hh;exact hh.1
      unfold ae.pathF
      rw[if_pos hh,if_pos hh]
      congr 1
      generalize (G.nodes.getD i.toNat bK).parent=p at*
      by_cases hpn:p<0
      ·have hno:G.has p=false:=by simp[ae.has];omega
       cases f with
       | zero=>cases hn:i.toNat<;>simp[ae.pathF,hno]
       | succ f=>cases hn:i.toNat<;>simp[ae.pathF,hno]
      ·have e1:=ih f (by omega) p (by omega)
       rw[e1]
       rcases Nat.lt_or_ge i.toNat (f+1)with h2 | h2
       ·have e2:=ih i.toNat (by omega) p (by omega)
        rw[e2]
       ·omega
     ·cases f<;>simp[ae.pathF,hh]
theorem ae.path_yes {G:ae} (h:G.Wf) {i:Int} (hi:G.has i=true):G.path i=(G.nodes.getD i.toNat bK)::G.path (G.nodes.getD i.toNat bK).parent:=by
 have ok:=h.get hi
 have hp1:=ok.p1
 have hp0:=ok.p0
 have hi0:0≤i:=by simp[ae.has]at hi;exact hi.1
 rw[ae.path,ae.pathF,if_pos hi]
 congr 1
 generalize (G.nodes.getD i.toNat bK).parent=p at*
 by_cases hpn:p<0
 ·have hno:G.has p=false:=by simp[ae.has];omega
  unfold ae.path
  cases i.toNat<;>simp[ae.pathF,hno]
 ·exact ae.pathF_more h _ _ (by omega)
theorem ae.path_no {G:ae} {i:Int} (hi:G.has i=false):G.path i=[]:=by
 rw[ae.path,ae.pathF,hi]
 rfl
def cO (G:ae) (n:aV):Bool:=decide (0≤n.gate) && !G.isOpen n.gate
def ae.rights (G:ae) (i:Int):Int:=if G.path i=[]∨(G.path i).any (cO G)then 0 else(G.path i).foldl (fun r n=>iT r n.rights) 15
def ae.target (G:ae) (i:Int):aV×Bool:=((G.path i).getLastD bK,!(G.path i).isEmpty)
def cQ (l:List aV):List Int:=(l.filter fun n=>decide (0≤n.gate)).map (·.gate)
def ae.gatesC (G:ae) (i:Int):List Int:=cQ (G.path i)
def aK (n:aV):List AV:=[.int .i64 n.parent,.int .i64 n.gate,.int .i64 n.rights,.int .i64 n.cell,.int .i64 n.plugin,.int .i64 n.func]
abbrev tN:TypeId:=103
abbrev tB:TypeId:=4
def oC (h:AH) (J:Nat→Prop) (e:TypeId) (v:AV) (rows:List (List AV)):Prop:=(rows=[]∧v= .nils)∨∃ id,J id∧rows≠[]∧id<h.ids∧h.hw id=rows.length∧v= .isl (some id) e rows
def nC (h:AH) (F:Nat→Prop) (b:Nat) (e:TypeId) (v:AV) (rows:List (List AV)):Prop:=(rows=[]∧v= .nils)∨∃ q,F q∧q≠b∧q<h.n∧h.cell q=some rows∧v= .msl q 0 rows.length e
structure IsG (h:AH) (F J:Nat→Prop) (b:Nat) (G:ae):Prop where
 hb:F b∧b<h.n
 lt:(∀ k,F k→k<h.n)∧∀ j,J j→j<h.ids
 ex:∃ nv sv,h.cell b=some [[nv,sv]]∧oC h J tN nv (G.nodes.map aK)∧nC h F b tB sv (G.shut.map fun x=>[.bool x])
structure Chg (F J:Nat→Prop) (h h':AH):Prop where
 n:h.n≤h'.n
 ids:h.ids≤h'.ids
 cell:∀ k,k<h.n→¬ F k→h'.cell k=h.cell k
 hw:∀ j,j<h.ids→¬ J j→h'.hw j=h.hw j
def dj (h:AH) (F J:Nat→Prop) (b:Nat) (h':AH) (G':ae):Prop:=
 ∃ F' J',IsG h' F' J' b G'∧Chg F J h h'∧(∀ k,F' k→F k∨h.n≤k)∧(∀ j,J' j→J j∨h.ids≤j)
def cz:List Int→ae→Int→ae×Int×Int
 | [],G,n=>(G,n,0)
 | k::l,G,n=>if(G.derive n 15 k).2.2≠0 then((G.derive n 15 k).1,0,(G.derive n 15 k).2.2)else cz l (G.derive n 15 k).1 (G.derive n 15 k).2.1
def au:VD:= .mk 0 0 []
def bZ (ks:List Int) (G:ae) (kind n:Int):ae×Int×Int:=if kind=4 then cz ks G n else(G,n,0)
mutual
def df (ks:List Int):VD→ae→ae×VD×Int
 | .mk kind n l,G=>
   if(bZ ks G kind n).2.2≠0 then((bZ ks G kind n).1,au,(bZ ks G kind n).2.2)
   else if(br ks l (bZ ks G kind n).1).2.2≠0 then((br ks l (bZ ks G kind n).1).1,au,(br ks l (bZ ks G kind n).1).2.2)
   else((br ks l (bZ ks G kind n).1).1,.mk kind (bZ ks G kind n).2.1 (br ks l (bZ ks G kind n).1).2.1,0)
def br (ks:List Int):List VD→ae→ae×List VD×Int
 | [],G=>(G,[],0)
 | x::l,G=>
   if(df ks x G).2.2≠0 then((df ks x G).1,[],(df ks x G).2.2)
   else((br ks l (df ks x G).1).1,(df ks x G).2.1::(br ks l (df ks x G).1).2.1,(br ks l (df ks x G).1).2.2)
end
theorem Ck (ks:List Int) (x:VD) (G:ae):df ks x G=
  if(bZ ks G x.kind x.n).2.2≠0 then((bZ ks G x.kind x.n).1,au,(bZ ks G x.kind x.n).2.2)
  else if(br ks x.l (bZ ks G x.kind x.n).1).2.2≠0 then((br ks x.l (bZ ks G x.kind x.n).1).1,au,(br ks x.l (bZ ks G x.kind x.n).1).2.2)
  else((br ks x.l (bZ ks G x.kind x.n).1).1,.mk x.kind (bZ ks G x.kind x.n).2.1 (br ks x.l (bZ ks G x.kind x.n).1).2.1,0):=by
 cases x
 rfl
def sJ (G:ae) (x:VD):Int:=
 if x.code≠0 then x.code else if x.gate then 9 else if x.caps.any fun n=> !eB (G.rights n) 2 then 9 else 0
def aW (ks:List Int) (G:ae) (x:VD):ae×VD×Int:=if sJ G x≠0 then(G,au,sJ G x)else df ks x G
theorem ww (ks:List Int):∀ (G:ae) (n:Int),G.Wf→(cz ks G n).1.Wf:=by
 induction ks with
 | nil=>intro G n h;exact h
 | cons k l ih=>
   intro G n h
   simp only[cz]
   split
   ·exact h.derive _ _ _
   ·exact ih _ _ (h.derive _ _ _)
theorem sX {ks:List Int} {G:ae} {kind n:Int} (h:G.Wf):(bZ ks G kind n).1.Wf:=by
 unfold bZ
 split
 ·exact ww ks G n h
 ·exact h
mutual
theorem qx (ks:List Int):∀ (x:VD) (G:ae),G.Wf→(df ks x G).1.Wf
 | .mk kind n l,G,h=>by
   simp only[df]
   split
   ·exact sX h
   ·split
    ·exact re ks l _ (sX h)
    ·exact re ks l _ (sX h)
theorem re (ks:List Int):∀ (l:List VD) (G:ae),G.Wf→(br ks l G).1.Wf
 | [],G,h=>h
 | x::l,G,h=>by
   simp only[br]
   split
   ·exact qx ks x G h
   ·exact re ks l _ (qx ks x G h)
end
theorem sW {ks:List Int} {G:ae} {x:VD} (h:G.Wf):(aW ks G x).1.Wf:=by
 unfold aW
 split
 ·exact h
 ·exact qx ks x G h
theorem Chg.refl (F J:Nat→Prop) (h:AH):Chg F J h h:=⟨Nat.le_refl _,Nat.le_refl _,fun _ _ _=>rfl,fun _ _ _=>rfl⟩
theorem af.chg {h h':AH} (g:af h h') (F J:Nat→Prop):Chg F J h h':=⟨g.n,g.ids,fun k hk _=>g.cell k hk,fun j hj _=>g.hw j hj⟩
theorem Chg.trans {F J:Nat→Prop} {a b c:AH} (x:Chg F J a b) (y:Chg F J b c):Chg F J a c:=
 ⟨Nat.le_trans x.n y.n,Nat.le_trans x.ids y.ids,fun k hk hF=>(y.cell k (Nat.lt_of_lt_of_le hk x.n) hF).trans (x.cell k hk hF),fun j hj hJ=>(y.hw j (Nat.lt_of_lt_of_le hj x.ids) hJ).trans (x.hw j hj hJ)⟩
theorem Chg.then {F J F' J':Nat→Prop} {a b c:AH} (x:Chg F J a b) (y:Chg F' J' b c) (hF:∀ k,F' k→F k∨a.n≤k) (hJ:∀ j,J' j→J j∨a.ids≤j):Chg F J a c:=
 ⟨Nat.le_trans x.n y.n,Nat.le_trans x.ids y.ids,
  fun k hk h1=>(y.cell k (Nat.lt_of_lt_of_le hk x.n) fun h2=>by rcases hF k h2 with h | h;exact h1 h;omega).trans (x.cell k hk h1),
  fun j hj h1=>(y.hw j (Nat.lt_of_lt_of_le hj x.ids) fun h2=>by rcases hJ j h2 with h | h;exact h1 h;omega).trans (x.hw j hj h1)⟩
theorem IsG.keep {h h':AH} {F J F2 J2:Nat→Prop} {b:Nat} {G:ae} (g:IsG h F J b G) (c:Chg F2 J2 h h') (hF:∀ k,F k→¬ F2 k) (hJ:∀ j,J j→¬ J2 j):IsG h' F J b G:=by
 obtain⟨nv,sv,h1,h2,h3⟩:=g.ex
 refine⟨⟨g.hb.1,Nat.lt_of_lt_of_le g.hb.2 c.n⟩,⟨fun k hk=>Nat.lt_of_lt_of_le (g.lt.1 k hk) c.n,fun j hj=>Nat.lt_of_lt_of_le (g.lt.2 j hj) c.ids⟩,nv,sv,(c.cell b g.hb.2 (hF b g.hb.1)).trans h1,?_,?_⟩
 ·rcases h2 with h2 | ⟨id,a1,a0,a2,a3,a4⟩
  ·exact .inl h2
  ·exact .inr ⟨id,a1,a0,Nat.lt_of_lt_of_le a2 c.ids,(c.hw id a2 (hJ id a1)).trans a3,a4⟩
 ·rcases h3 with h3 | ⟨q,a1,a2,a3,a4,a5⟩
  ·exact .inl h3
  ·exact .inr ⟨q,a1,a2,Nat.lt_of_lt_of_le a3 c.n,(c.cell q a3 (hF q a1)).trans a4,a5⟩
structure Asn where
 A:AH→(Nat→Prop)→(Nat→Prop)→Prop
 lt:∀ {h:AH} {F J:Nat→Prop},A h F J→(∀ k,F k→k<h.n)∧∀ j,J j→j<h.ids
 keep:∀ {h h':AH} {F J X Y:Nat→Prop},A h F J→Chg X Y h h'→(∀ k,F k→¬ X k)→(∀ j,J j→¬ Y j)→A h' F J
def wx (p:Prop):Asn where
 A _ F J:=p∧(∀ k,¬ F k)∧∀ j,¬ J j
 lt:=fun⟨_,a,b⟩=>⟨fun k hk=>absurd hk (a k),fun j hj=>absurd hj (b j)⟩
 keep:=fun h _ _ _=>h
def ai (b:Nat) (es:List (List AV)):Asn where
 A h F J:=(∀ k,F k↔k=b)∧(∀ j,¬ J j)∧b<h.n∧h.cell b=some es
 lt:=fun⟨a,b,c,_⟩=>⟨fun k hk=>by rw[(a k).1 hk];exact c,fun j hj=>absurd hj (b j)⟩
 keep:=fun⟨a,b,c,d⟩ x hF _=>⟨a,b,Nat.lt_of_lt_of_le c x.n,(x.cell _ c (hF _ ((a _).2 rfl))).trans d⟩
def idA (id n:Nat):Asn where
 A h F J:=(∀ k,¬ F k)∧(∀ j,J j↔j=id)∧id<h.ids∧h.hw id=n
 lt:=fun⟨a,b,c,_⟩=>⟨fun k hk=>absurd hk (a k),fun j hj=>by rw[(b j).1 hj];exact c⟩
 keep:=fun⟨a,b,c,d⟩ x _ hJ=>⟨a,b,Nat.lt_of_lt_of_le c x.ids,(x.hw _ c (hJ _ ((b _).2 rfl))).trans d⟩
def dA (X Y:Asn):Asn where
 A h F J:=∃ F1 J1 F2 J2,X.A h F1 J1∧Y.A h F2 J2∧(∀ k,F k↔F1 k∨F2 k)∧(∀ j,J j↔J1 j∨J2 j)∧(∀ k,F1 k→¬ F2 k)∧(∀ j,J1 j→¬ J2 j)
 lt:=fun⟨F1,J1,F2,J2,x,y,hF,hJ,_,_⟩=>⟨fun k hk=>((hF k).1 hk).elim ((X.lt x).1 k) ((Y.lt y).1 k),fun j hj=>((hJ j).1 hj).elim ((X.lt x).2 j) ((Y.lt y).2 j)⟩
 keep:=fun⟨F1,J1,F2,J2,x,y,hF,hJ,dF,dJ⟩ c nF nJ=>
  ⟨F1,J1,F2,J2,X.keep x c (fun k hk=>nF k ((hF k).2 (.inl hk))) (fun j hj=>nJ j ((hJ j).2 (.inl hj))),Y.keep y c (fun k hk=>nF k ((hF k).2 (.inr hk))) (fun j hj=>nJ j ((hJ j).2 (.inr hj))),hF,hJ,dF,dJ⟩
def nH {α:Type} (X:α→Asn):Asn where
 A h F J:=∃ a,(X a).A h F J
 lt:=fun⟨a,x⟩=>(X a).lt x
 keep:=fun⟨a,x⟩ c nF nJ=>⟨a,(X a).keep x c nF nJ⟩
def orA (X Y:Asn):Asn where
 A h F J:=X.A h F J∨Y.A h F J
 lt:=fun h=>h.elim X.lt Y.lt
 keep:=fun h c nF nJ=>h.imp (fun x=>X.keep x c nF nJ) (fun y=>Y.keep y c nF nJ)
def ua (p:Prop) (X:Asn):Asn where
 A h F J:=p∧X.A h F J
 lt:=fun h=>X.lt h.2
 keep:=fun h c nF nJ=>⟨h.1,X.keep h.2 c nF nJ⟩
def bo (b:Nat) (G:ae):Asn where
 A h F J:=IsG h F J b G
 lt:=fun g=>g.lt
 keep:=fun g c nF nJ=>g.keep c nF nJ
def aY:List Asn→Asn
 | []=>wx True
 | X::L=>dA X (aY L)
def Did (h:AH) (F J:Nat→Prop) (h':AH) (X:Asn):Prop:=∃ F' J',X.A h' F' J'∧Chg F J h h'∧(∀ k,F' k→F k∨h.n≤k)∧(∀ j,J' j→J j∨h.ids≤j)
structure cD where
 (plugin cell right node:Int)
structure StD where
 G:ae
 cells:List Int
 log:List cD
 kept:List VD
 left:Nat
abbrev aM:=List (Option (List XD))
def ct:XD:= .mk 0 0 0 []
def gJ (n:Int):VD:= .mk 1 n []
def fS (n:Int):VD:= .mk 4 n []
def cE (ms:aM) (p:Int):List XD:=(ms.getD p.toNat none).getD []
def cU (ms:aM) (p k:Int):XD:=(cE ms p).getD k.toNat ct
def qV (k a b:Int):Int:=if k=1 then IntKind.wrap .i64 (a+b)else if k=2 then IntKind.wrap .i64 (a - b)else if k=3 then IntKind.wrap .i64 (a*b)else if k=4 then(if a<b then 1 else 0)else if k=5 then(if a=b then 1 else 0)else 0
def StD.ok (S:StD) (v:VD):StD×VD×Int:=(S,v,0)
def StD.no (S:StD) (c:Int):StD×VD×Int:=(S,au,c)
def StD.tick (S:StD):StD:={S with left:=S.left - 1}
def vP (S:StD) (q:ae×Int×Int):StD×VD×Int:=if q.2.2≠0 then({S with G:=q.1}).no q.2.2 else({S with G:=q.1}).ok (fS q.2.1)
def bH (p op k n:Int) (l:List VD) (S:StD):StD×VD×Int:=
 let a:=l.getD 0 au
 let b:=l.getD 1 au
 if op=6 then(if a.kind≠1∨b.kind≠1 then S.no 2 else S.ok (gJ (qV k a.n b.n)))
 else if op=8 then(if(VD.mk 2 0 [a,b]).code≠0 then S.no 3 else S.ok (.mk 2 0 [a,b]))
 else if op=9 then(if a.kind≠2 then S.no 2 else S.ok (a.l.getD 0 au))
 else if op=10 then(if a.kind≠2 then S.no 2 else S.ok (a.l.getD 1 au))
 else if op=11 then(if(VD.mk 3 p [a]).code≠0 then S.no 3 else S.ok (.mk 3 p [a]))
 else if op=12 then(if a.kind≠3 then S.no 2 else if a.n≠p then S.no 10 else S.ok (a.l.getD 0 au))
 else if op=13 then(if a.kind≠4 then S.no 2 else if eB (S.G.rights a.n) 0=false then S.no 9 else if 0≤(S.G.target a.n).1.plugin then S.no 2
  else({S with log:=S.log++[cD.mk p (S.G.target a.n).1.cell 1 a.n]}).ok (gJ (S.cells.getD (S.G.target a.n).1.cell.toNat 0)))
 else if op=14 then(if a.kind≠4∨b.kind≠1 then S.no 2 else if eB (S.G.rights a.n) 1=false then S.no 9 else if 0≤(S.G.target a.n).1.plugin then S.no 2
  else({S with log:=S.log++[cD.mk p (S.G.target a.n).1.cell 2 a.n],cells:=S.cells.set (S.G.target a.n).1.cell.toNat b.n}).ok b)
 else if op=15 then(if a.kind≠4 then S.no 2 else vP S (S.G.derive a.n k (-1)))
 else if op=16 then(if a.kind≠4 then S.no 2 else if S.G.gate.2.2≠0 then({S with G:=S.G.gate.1}).no S.G.gate.2.2
  else match S.G.gate.1.derive a.n 15 S.G.gate.2.1 with
   | (G',m,c)=>if c≠0 then({S with G:=G'}).no c else({S with G:=G'}).ok (.mk 2 0 [fS m,.mk 5 S.G.gate.2.1 []]))
 else if op=17 then(if a.kind≠5 then S.no 2 else({S with G:=(S.G.cut a.n).1}).ok au)
 else if op=20 then({S with kept:=S.kept.set p.toNat a}).ok (S.kept.getD p.toNat au)
 else S.no 0
structure qM where
 (plugin func:Int)
 arg:VD
 gates:List Int
def eY (ms:aM) (v x:VD) (fr:Nat) (S:StD):StD×qM×Int:=
 let t:=(S.G.target v.n).1
 let z:qM:=⟨0,0,au,[]⟩
 if v.kind≠4 then(S,z,2)else if eB (S.G.rights v.n) 3=false then(S,z,9)else if t.plugin<0 then(S,z,2)
 else if(ms.getD t.plugin.toNat none).isNone∨((cE ms t.plugin).length:Int)≤t.func∨t.func<0 then(S,z,8)
 else if fr=20 then(S,z,4)
 else match aW (S.G.gatesC v.n) S.G x with
  | (G',y,c)=>({S with G:=G'},⟨t.plugin,t.func,y,S.G.gatesC v.n⟩,c)
def eG (gates:List Int) (v:VD) (S:StD):StD×VD×Int:=match aW gates S.G v with
 | (G',y,c)=>if c≠0 then({S with G:=G'}).no c else({S with G:=G'}).ok y
def evL (f:XD→StD→StD×VD×Int):List XD→StD→List VD→StD×List VD×Int
 | [],S,acc=>(S,acc,0)
 | x::l,S,acc=>match f x S with
   | (S',v,c)=>if c≠0 then(S',[],c)else evL f l S' (acc++[v])
def dZ (p:Int) (x:XD) (arg:VD) (names:List VD) (S:StD):Option VD:=
 if x.op=1 then some au else if x.op=2 then some (gJ x.n)else if x.op=3 then some arg
 else if x.op=4 then some (names.getD (names.length - 1 - x.k.toNat) au)else if x.op=21 then some (S.kept.getD p.toNat au)else none
def ofD (ms:aM):Nat→Int→XD→VD→List VD→Nat→StD→StD×VD×Int
 | 0,_,_,_,_,_,S=>S.no 12
 | N+1,p,x,arg,names,fr,S=>
   if S.left=0 then S.no 12
   else match dZ p x arg names S.tick with
   | some v=>S.tick.ok v
   | none=>
     if x.op=5 then(match ofD ms N p (x.l.getD 0 ct) arg names fr S.tick with
      | (S',v,c)=>if c≠0 then S'.no c else ofD ms N p (x.l.getD 1 ct) arg (names++[v]) fr S')
     else if x.op=7 then(match ofD ms N p (x.l.getD 0 ct) arg names fr S.tick with
      | (S',v,c)=>if c≠0 then S'.no c else if v.kind≠1 then S'.no 2 else if v.n≠0 then ofD ms N p (x.l.getD 1 ct) arg names fr S' else ofD ms N p (x.l.getD 2 ct) arg names fr S')
     else match evL (fun y S=>ofD ms N p y arg names fr S) x.l S.tick []with
      | (S',l,c)=>if c≠0 then S'.no c
        else if x.op=18 then(if fr=20 then S'.no 4 else ofD ms N p (cU ms p x.k) (l.getD 0 au) [] (fr+1) S')
        else if x.op=19 then(match eY ms (l.getD 0 au) (l.getD 1 au) fr S' with
         | (S2,q,c)=>if c≠0 then S2.no c else match ofD ms N q.plugin (cU ms q.plugin q.func) q.arg [] (fr+1) S2 with
           | (S3,v,c)=>if c≠0 then S3.no c else eG q.gates v S3)
        else bH p x.op x.k x.n l S'
structure FrD where
 (plugin f:Int)
 pc:Nat
 arg:VD
 (stack names:List VD)
 asked:Bool
 gates:List Int
structure MaD where
 S:StD
 top:FrD
 below:List FrD
inductive iU where
 | go (m:MaD)
 | over (S:StD) (v:VD)
 | fail (S:StD) (c:Int)
def nP:aT:=⟨0,0,0⟩
def d8 (ms:aM) (p f:Int):List aT:=ay (cU ms p f) 0++[⟨105,0,0⟩]
def MaD.push (m:MaD) (S:StD) (st:List VD) (v:VD):iU:= .go {m with S:=S,top:={m.top with stack:=st++[v]}}
def MaD.done (m:MaD) (st:List VD) (q:StD×VD×Int):iU:=if q.2.2≠0 then .fail q.1 q.2.2 else m.push q.1 st q.2.1
def MaD.call (m:MaD) (S:StD) (st:List VD) (p f:Int) (arg:VD) (asked:Bool) (gates:List Int):iU:=
 if m.below.length+1=20 then .fail S 4 else .go ⟨S,⟨p,f,0,arg,[],[],asked,gates⟩,m.below++[{m.top with stack:=st}]⟩
def kb (st:List VD) (k:Nat):List VD:=st.drop (st.length - k)
def kU (st:List VD) (k:Nat):List VD:=st.take (st.length - k)
def kg (ms:aM) (m:MaD) (x:aT):iU:=
 let t:=m.top
 match dZ t.plugin (.mk x.op x.k x.n []) t.arg t.names m.S with
 | some v=>m.push m.S t.stack v
 | none=>
   if x.op=18 then m.call m.S (kU t.stack 1) t.plugin x.k ((kb t.stack 1).getD 0 au) false []
   else if x.op=19 then(match eY ms ((kb t.stack 2).getD 0 au) ((kb t.stack 2).getD 1 au) (m.below.length+1) m.S with
    | (S',q,c)=>if c≠0 then .fail S' c else m.call S' (kU t.stack 2) q.plugin q.func q.arg true q.gates)
   else m.done (kU t.stack (aX x.op).toNat) (bH t.plugin x.op x.k x.n (kb t.stack (aX x.op).toNat) m.S)
def MaD.back (m:MaD):iU:=
 let v:=(kb m.top.stack 1).getD 0 au
 let q:=if m.top.asked then eG m.top.gates v m.S else m.S.ok v
 if q.2.2≠0 then .fail q.1 q.2.2
 else match m.below.getLast? with
  | none=> .over q.1 q.2.1
  | some t=> .go ⟨q.1,{t with stack:=t.stack++[q.2.1]},m.below.dropLast⟩
def fO (ms:aM) (m0:MaD):iU:=
 let x:=(d8 ms m0.top.plugin m0.top.f).getD m0.top.pc nP
 let m:MaD:={m0 with top:={m0.top with pc:=m0.top.pc+1}}
 let t:=m.top
 if x.op=100 then(if m.S.left=0 then .fail m.S 12 else .go {m with S:=m.S.tick})
 else if x.op=101 then .go {m with top:={t with stack:=kU t.stack 1,names:=t.names++[(kb t.stack 1).getD 0 au]}}
 else if x.op=102 then .go {m with top:={t with names:=t.names.dropLast}}
 else if x.op=103 then(let v:=(kb t.stack 1).getD 0 au
  if v.kind≠1 then .fail m.S 2 else .go {m with top:={t with stack:=kU t.stack 1,pc:=if v.n=0 then x.k.toNat else t.pc}})
 else if x.op=104 then .go {m with top:={t with pc:=x.k.toNat}}
 else if x.op=105 then m.back
 else kg ms m x
theorem nU {α:Type} {c:Prop} [Decidable c] {a b:StD×α} {n:Nat} (h1:a.1.left=n) (h2:b.1.left=n):(if c then a else b).1.left=n:=by split<;>assumption
theorem ET (S:StD) (q:ae×Int×Int):(vP S q).1.left=S.left:=by
 unfold vP
 exact nU rfl rfl
theorem AF (p op k n:Int) (l:List VD) (S:StD):(bH p op k n l S).1.left=S.left:=by
 unfold bH
 repeat' (first | rfl | exact ET _ _ | refine nU ?_ ?_)
theorem pa (ms:aM) (v x:VD) (fr:Nat) (S:StD):(eY ms v x fr S).1.left=S.left:=by
 unfold eY
 repeat' (first | rfl | refine nU ?_ ?_)
theorem BA (gates:List Int) (v:VD) (S:StD):(eG gates v S).1.left=S.left:=by
 unfold eG
 split
 exact nU rfl rfl
theorem rR {f:XD→StD→StD×VD×Int} (hf:∀ x S,(f x S).1.left≤S.left):∀ (l:List XD) (S:StD) (acc:List VD),(evL f l S acc).1.left≤S.left
 | [],S,acc=>Nat.le_refl _
 | x::l,S,acc=>by
   have h1:=hf x S
   rw[evL]
   rcases hq:f x S with⟨S',v,c⟩
   rw[hq]at h1
   simp only at h1 ⊢
   split
   ·exact h1
   ·exact Nat.le_trans (rR hf l S' _) h1
theorem jQ (ms:aM):∀ (N:Nat) (p:Int) (x:XD) (arg:VD) (names:List VD) (fr:Nat) (S:StD),(ofD ms N p x arg names fr S).1.left≤S.left
 | 0,p,x,arg,names,fr,S=>Nat.le_refl _
 | N+1,p,x,arg,names,fr,S=>by
   have ih:=jQ ms N
   have ht:S.tick.left≤S.left:=Nat.sub_le _ _
   rw[ofD]
   split
   ·exact Nat.le_refl _
   ·split
    ·exact ht
    ·split
     ·have h1:=ih p (x.l.getD 0 ct) arg names fr S.tick
      rcases hq:ofD ms N p (x.l.getD 0 ct) arg names fr S.tick with⟨S',v,c⟩
      rw[hq]at h1
      simp only at h1 ⊢
      split
      ·exact Nat.le_trans h1 ht
      ·exact Nat.le_trans (ih _ _ _ _ _ _) (Nat.le_trans h1 ht)
     ·split
      ·have h1:=ih p (x.l.getD 0 ct) arg names fr S.tick
       rcases hq:ofD ms N p (x.l.getD 0 ct) arg names fr S.tick with⟨S',v,c⟩
       rw[hq]at h1
       simp only at h1 ⊢
       split
       ·exact Nat.le_trans h1 ht
       ·split
        ·exact Nat.le_trans h1 ht
        ·split
         ·exact Nat.le_trans (ih _ _ _ _ _ _) (Nat.le_trans h1 ht)
         ·exact Nat.le_trans (ih _ _ _ _ _ _) (Nat.le_trans h1 ht)
      ·have h1:=rR (f:=fun y S=>ofD ms N p y arg names fr S) (fun y S=>ih p y arg names fr S) x.l S.tick []
       rcases hq:evL (fun y S=>ofD ms N p y arg names fr S) x.l S.tick []with⟨S',l,c⟩
       rw[hq]at h1
       simp only at h1 ⊢
       split
       ·exact Nat.le_trans h1 ht
       ·split
        ·split
         ·exact Nat.le_trans h1 ht
         ·exact Nat.le_trans (ih _ _ _ _ _ _) (Nat.le_trans h1 ht)
        ·split
         ·have h2:=pa ms (l.getD 0 au) (l.getD 1 au) fr S'
          rcases hq2:eY ms (l.getD 0 au) (l.getD 1 au) fr S' with⟨S2,q,c2⟩
          rw[hq2]at h2
          simp only at h2 ⊢
          split
          ·exact Nat.le_trans (Nat.le_of_eq h2) (Nat.le_trans h1 ht)
          ·have h3:=ih q.plugin (cU ms q.plugin q.func) q.arg [] (fr+1) S2
           rcases hq3:ofD ms N q.plugin (cU ms q.plugin q.func) q.arg [] (fr+1) S2 with⟨S3,v,c3⟩
           rw[hq3]at h3
           simp only at h3 ⊢
           split
           ·exact Nat.le_trans h3 (Nat.le_trans (Nat.le_of_eq h2) (Nat.le_trans h1 ht))
           ·rw[BA]
            exact Nat.le_trans h3 (Nat.le_trans (Nat.le_of_eq h2) (Nat.le_trans h1 ht))
         ·rw[AF]
          exact Nat.le_trans h1 ht
def StD.mu (S:StD):Nat:=S.log.length+S.left
structure StD.Good (S:StD):Prop where
 wf:S.G.Wf
 cells:S.cells.length=12
 kept:S.kept.length=4
 keptV:∀ v∈S.kept,v.code=0
theorem dT:au.code=0:=by decide
theorem jL (n:Int):(gJ n).code=0:=rfl
theorem eL {l:List VD} (h:∀ v∈l,v.code=0) (i:Nat):(l.getD i au).code=0:=by
 by_cases hi:i<l.length
 ·simp only[List.getD,List.getElem?_eq_getElem hi,Option.getD_some]
  exact h _ (List.getElem_mem hi)
 ·simp only[List.getD,List.getElem?_eq_none (Nat.le_of_not_lt hi),Option.getD_none]
  exact dT
theorem pD:∀ {l:List VD},du l=0→∀ x∈l,x.fault=0
 | [],_,x,hx=>by simp at hx
 | y::l,h,x,hx=>by
   rw[fV]at h
   split at h
   ·rename_i h1;exact absurd h h1
   ·rename_i h1
    rcases List.mem_cons.1 hx with rfl | hx
    ·omega
    ·exact pD h x hx
theorem fx {v:VD} (h:v.code=0):v.size≤40∧dH v.kind v.n v.l.length=0∧∀ x∈v.l,x.code=0:=by
 unfold VD.code at h
 split at h
 ·cases h
 ·rename_i hs
  rw[v.fault_eq]at h
  split at h
  ·rename_i h1;exact absurd h h1
  ·rename_i h1
   refine⟨by omega,by omega,fun x hx=> ?_⟩
   unfold VD.code
   have:=VD.size_mem hx
   rw[if_neg (by omega)]
   exact pD h x hx
theorem we {kind n:Int} {l:List VD} (hs:(VD.mk kind n l).size≤40) (hh:dH kind n l.length=0) (hl:∀ x∈l,x.code=0):(VD.mk kind n l).code=0:=by
 have key:∀ l:List VD,(∀ x∈l,x.code=0)→du l=0:=by
  intro l hl
  induction l with
  | nil=>rfl
  | cons x l ih=>
    have h1:=hl x (by simp)
    unfold VD.code at h1
    split at h1
    ·cases h1
    ·rw[fV,if_neg (by omega)]
     exact ih fun y hy=>hl y (by simp[hy])
 unfold VD.code
 rw[if_neg (by omega)]
 show(if dH kind n l.length≠0 then dH kind n l.length else du l)=0
 rw[if_neg (by omega)]
 exact key l hl
theorem xY {v:VD} (h:v.code=0):(v.kind=2→∃ a b,v.l=[a,b])∧(v.kind=3→∃ a,v.l=[a]):=by
 obtain⟨_,h1,_⟩:=fx h
 unfold dH at h1
 split at h1
 ·cases h1
 ·split at h1
  ·cases h1
  ·rename_i h2
   constructor
   ·intro h3
    simp only[ji,h3,if_true,Decidable.not_not]at h2
    match hl:v.l,h2 with
    | [a,b],_=>exact⟨a,b,rfl⟩
   ·intro h3
    simp only[ji,h3,if_true,Decidable.not_not]at h2
    rw[if_neg (by decide)]at h2
    match hl:v.l,h2 with
    | [a],_=>exact⟨a,rfl⟩
theorem nR {n:Int} (h:0≤n):(fS n).code=0:=we (by simp[VD.size,bE]) (by simp[dH,ji];omega) (by simp)
theorem D4 {n:Int} (h:0≤n):(VD.mk 5 n []).code=0:=we (by simp[VD.size,bE]) (by simp[dH,ji];omega) (by simp)
mutual
theorem ue (ks:List Int):∀ (x:VD) (G:ae),(df ks x G).2.2=0→(df ks x G).2.1.size=x.size
 | .mk kind n l,G,h=>by
   simp only[df]at h ⊢
   split at h
   ·rename_i h1;exact absurd h h1
   ·rename_i h1
    split at h
    ·rename_i h2;exact absurd h h2
    ·rename_i h2
     rw[if_neg h1,if_neg h2]
     simp only[VD.size]
     rw[(mU ks l _ (by omega)).1]
theorem mU (ks:List Int):∀ (l:List VD) (G:ae),(br ks l G).2.2=0→bE (br ks l G).2.1=bE l∧(br ks l G).2.1.length=l.length
 | [],G,h=>⟨rfl,rfl⟩
 | x::l,G,h=>by
   simp only[br]at h ⊢
   split at h
   ·rename_i h1;exact absurd h h1
   ·rename_i h1
    rw[if_neg h1]
    have h2:=mU ks l _ h
    simp only[bE,List.length_cons]
    rw[ue ks x G (by omega),h2.1,h2.2]
    exact⟨rfl,rfl⟩
end
theorem mK {G:ae} {n r k:Int}:0≤(G.derive n r k).2.1:=by
 unfold ae.derive ae.add
 split
 ·split
  ·exact Int.le_refl _
  ·split
   ·exact Int.le_refl _
   ·split
    ·exact Int.le_refl _
    ·exact Int.natCast_nonneg _
 ·exact Int.le_refl _
theorem Ih (ks:List Int):∀ (G:ae) (n:Int),0≤n→0≤(cz ks G n).2.1:=by
 induction ks with
 | nil=>intro G n h;exact h
 | cons k l ih=>
   intro G n h
   simp only[cz]
   split
   ·exact Int.le_refl _
   ·exact ih _ _ mK
mutual
theorem qH (ks:List Int):∀ (x:VD) (G:ae),x.fault=0→(df ks x G).2.2=0→(df ks x G).2.1.fault=0
 | .mk kind n l,G,hf,h=>by
   change (if dH kind n l.length≠0 then dH kind n l.length else du l)=0 at hf
   split at hf
   ·rename_i h1;exact absurd hf h1
   rename_i hh
   simp only[df]at h ⊢
   split at h
   ·rename_i h1;exact absurd h h1
   ·rename_i h1
    split at h
    ·rename_i h2;exact absurd h h2
    ·rename_i h2
     rw[if_neg h1,if_neg h2]
     have hl:=(mU ks l (bZ ks G kind n).1 (by omega)).2
     show(if dH kind _ (br ks l (bZ ks G kind n).1).2.1.length≠0 then dH kind _ (br ks l (bZ ks G kind n).1).2.1.length else du (br ks l (bZ ks G kind n).1).2.1)=0
     rw[hl,if_neg]
     ·exact pX ks l _ hf (by omega)
     ·unfold bZ
      by_cases h4:kind=4
      ·rw[if_pos h4]
       have:0≤n:=by
        unfold dH at hh
        split at hh
        ·simp at hh
        ·split at hh
         ·simp at hh
         ·split at hh
          ·simp at hh
          ·split at hh
           ·simp at hh
           ·omega
       have h5:=Ih ks G n this
       unfold dH at hh ⊢
       subst h4
       rw[if_neg (by omega)]at hh ⊢
       split at hh
       ·simp at hh
       ·rename_i h6
        rw[if_neg h6,if_neg (by omega),if_neg (by omega)]
        decide
      ·rw[if_neg h4]
       exact hh
theorem pX (ks:List Int):∀ (l:List VD) (G:ae),du l=0→(br ks l G).2.2=0→du (br ks l G).2.1=0
 | [],G,hf,h=>rfl
 | x::l,G,hf,h=>by
   rw[fV]at hf
   split at hf
   ·rename_i h1;exact absurd hf h1
   rename_i hx
   simp only[br]at h ⊢
   split at h
   ·rename_i h1;exact absurd h h1
   ·rename_i h1
    rw[if_neg h1,fV,if_neg (by rw[qH ks x G (by omega) (by omega)];decide)]
    exact pX ks l _ hf h
end
theorem oG {ks:List Int} {G:ae} {x:VD} (h:(aW ks G x).2.2=0):(aW ks G x).2.1.code=0:=by
 unfold aW at h ⊢
 split at h
 ·rename_i h1;exact absurd h h1
 ·rename_i h1
  rw[if_neg h1]
  have hx:x.code=0:=by
   unfold sJ at h1
   split at h1
   ·rename_i h2;exact absurd h1 (by simpa using h2)
   ·omega
  have hs:=(fx hx).1
  unfold VD.code at hx ⊢
  rw[if_neg (by omega)]at hx
  rw[if_neg (by rw[ue ks x G h];omega)]
  exact qH ks x G hx h
structure cJ (n:Nat) (S:StD) (q:StD×VD×Int):Prop where
 good:q.1.Good
 mu:q.1.mu≤S.mu+n
 left:q.1.left≤S.left
 val:q.2.2=0→q.2.1.code=0
theorem StD.Good.with {S:StD} (h:S.Good) {G:ae} (hG:G.Wf):({S with G:=G}:StD).Good:=⟨hG,h.cells,h.kept,h.keptV⟩
theorem cJ.no {S S':StD} {n:Nat} {c:Int} (h:S'.Good) (h1:S'.mu≤S.mu+n) (h2:S'.left≤S.left):cJ n S (S'.no c):=⟨h,h1,h2,fun _=>dT⟩
theorem cJ.ok {S S':StD} {n:Nat} {v:VD} (h:S'.Good) (h1:S'.mu≤S.mu+n) (h2:S'.left≤S.left) (hv:v.code=0):cJ n S (S'.ok v):=⟨h,h1,h2,fun _=>hv⟩
theorem cJ.ite {S:StD} {n:Nat} {p:Prop} [Decidable p] {a b:StD×VD×Int} (h1:p→cJ n S a) (h2:¬ p→cJ n S b):cJ n S (if p then a else b):=by
 split
 ·exact h1 ‹_›
 ·exact h2 ‹_›
theorem Hj {p op k n:Int} {l:List VD} {S:StD} (hS:S.Good) (hl:∀ v∈l,v.code=0):cJ 1 S (bH p op k n l S):=by
 have ha:=eL hl 0
 have hb:=eL hl 1
 have m0:S.mu≤S.mu+1:=Nat.le_succ _
 have no:∀ {c:Int},cJ 1 S (S.no c):= .no hS m0 (Nat.le_refl _)
 have ok:∀ {v:VD},v.code=0→cJ 1 S (S.ok v):=fun hv=> .ok hS m0 (Nat.le_refl _) hv
 unfold bH
 refine .ite (fun _=> .ite (fun _=>no) fun _=>ok (jL _)) fun h6=> ?_
 refine .ite (fun _=> .ite (fun _=>no) fun h=>ok (by simpa using h)) fun h8=> ?_
 refine .ite (fun _=> .ite (fun _=>no) fun h=>ok (eL (fx ha).2.2 0)) fun h9=> ?_
 refine .ite (fun _=> .ite (fun _=>no) fun h=>ok (eL (fx ha).2.2 1)) fun h10=> ?_
 refine .ite (fun _=> .ite (fun _=>no) fun h=>ok (by simpa using h)) fun h11=> ?_
 refine .ite (fun _=> .ite (fun _=>no) fun _=> .ite (fun _=>no) fun _=>ok (eL (fx ha).2.2 0)) fun h12=> ?_
 refine .ite (fun _=> .ite (fun _=>no) fun _=> .ite (fun _=>no) fun _=> .ite (fun _=>no) fun _=> ?_) fun h13=> ?_
 ·exact .ok ⟨hS.wf,hS.cells,hS.kept,hS.keptV⟩ (by simp[StD.mu];omega) (Nat.le_refl _) (jL _)
 refine .ite (fun _=> .ite (fun _=>no) fun _=> .ite (fun _=>no) fun _=> .ite (fun _=>no) fun _=> ?_) fun h14=> ?_
 ·exact .ok ⟨hS.wf,by simpa using hS.cells,hS.kept,hS.keptV⟩ (by simp[StD.mu];omega) (Nat.le_refl _) hb
 refine .ite (fun _=> .ite (fun _=>no) fun _=> ?_) fun h15=> ?_
 ·unfold vP
  exact .ite (fun _=> .no (hS.with (hS.wf.derive _ _ _)) m0 (Nat.le_refl _)) fun _=> .ok (hS.with (hS.wf.derive _ _ _)) m0 (Nat.le_refl _) (nR mK)
 refine .ite (fun _=> .ite (fun _=>no) fun _=> .ite (fun _=> .no (hS.with hS.wf.gate) m0 (Nat.le_refl _)) fun hg=> ?_) fun h16=> ?_
 ·have hw:=hS.wf.gate.derive (l.getD 0 au).n 15 S.G.gate.2.1
  have hn:=mK (G:=S.G.gate.1) (n:=(l.getD 0 au).n) (r:=15) (k:=S.G.gate.2.1)
  generalize S.G.gate.1.derive (l.getD 0 au).n 15 S.G.gate.2.1=q at hw hn ⊢
  obtain⟨G',m,c⟩:=q
  refine .ite (fun _=> .no (hS.with hw) m0 (Nat.le_refl _)) fun _=> .ok (hS.with hw) m0 (Nat.le_refl _) ?_
  refine we (by simp[VD.size,bE,fS]) (by simp[dH,ji]) ?_
  intro x hx
  rcases List.mem_cons.1 hx with rfl | hx
  ·exact nR hn
  ·simp only[List.mem_singleton]at hx
   subst hx
   refine D4 ?_
   unfold ae.gate
   split
   ·exact Int.le_refl _
   ·exact Int.natCast_nonneg _
 refine .ite (fun _=> .ite (fun _=>no) fun _=> ?_) fun h17=> ?_
 ·exact .ok (hS.with (hS.wf.cut _)) m0 (Nat.le_refl _) dT
 refine .ite (fun _=> ?_) fun h20=>no
 refine .ok ⟨hS.wf,hS.cells,by simpa using hS.kept,fun v hv=> ?_⟩ m0 (Nat.le_refl _) (eL hS.keptV _)
 rcases List.mem_or_eq_of_mem_set hv with h | rfl
 ·exact hS.keptV v h
 ·exact ha
theorem tU (G:ae):∀ (f:Nat) (i:Int),(G.pathF f i).length≤f
 | 0,_=>by simp[ae.pathF]
 | f+1,i=>by
   unfold ae.pathF
   split
   ·have:=tU G f (G.nodes.getD i.toNat bK).parent
    simp only[List.length_cons]
    omega
   ·simp
theorem vH {G:ae} (h:G.Wf) {i:Int}:(G.gatesC i).length≤80:=by
 unfold ae.gatesC cQ
 rw[List.length_map]
 refine Nat.le_trans (List.length_filter_le _ _) ?_
 cases hh:G.has i with
 | false=>rw[ae.path_no hh];simp
 | true=>
   have:=tU G (i.toNat+1) i
   simp only[ae.has,decide_eq_true_eq]at hh
   have:=h.few
   unfold ae.path
   omega
theorem Cs {ms:aM} {v x:VD} {fr:Nat} {S:StD} (hS:S.Good):(eY ms v x fr S).1.Good∧(eY ms v x fr S).1.mu≤S.mu∧((eY ms v x fr S).2.2=0→(eY ms v x fr S).2.1.arg.code=0∧(eY ms v x fr S).2.1.gates.length≤80∧
  (ms.getD (eY ms v x fr S).2.1.plugin.toNat none).isSome∧0≤(eY ms v x fr S).2.1.plugin∧0≤(eY ms v x fr S).2.1.func∧(eY ms v x fr S).2.1.func.toNat<(cE ms (eY ms v x fr S).2.1.plugin).length):=by
 unfold eY
 simp only
 split
 ·exact⟨hS,Nat.le_refl _,fun h=>by simp at h⟩
 split
 ·exact⟨hS,Nat.le_refl _,fun h=>by simp at h⟩
 split
 ·exact⟨hS,Nat.le_refl _,fun h=>by simp at h⟩
 rename_i hp
 split
 ·exact⟨hS,Nat.le_refl _,fun h=>by simp at h⟩
 rename_i hn
 simp only[not_or]at hn
 split
 ·exact⟨hS,Nat.le_refl _,fun h=>by simp at h⟩
 refine⟨hS.with (sW hS.wf),Nat.le_refl _,fun h=>⟨oG h,?_,by simpa[Option.isNone_iff_eq_none,Option.isSome_iff_ne_none]using hn.1,by simp only;omega,by simp only;omega,?_⟩⟩
 ·exact vH hS.wf
 ·have:=hn.2.1;have:=hn.2.2
  simp only
  omega
theorem FP {gates:List Int} {v:VD} {S:StD} (hS:S.Good):cJ 0 S (eG gates v S):=by
 unfold eG
 have hw:=sW (ks:=gates) (x:=v) hS.wf
 have hc:=oG (ks:=gates) (G:=S.G) (x:=v)
 generalize aW gates S.G v=q at hw hc ⊢
 obtain⟨G',y,c⟩:=q
 refine .ite (fun _=> .no (hS.with hw) (Nat.le_refl _) (Nat.le_refl _)) fun h=> .ok (hS.with hw) (Nat.le_refl _) (Nat.le_refl _) (hc (by simpa using h))
def KE (S:StD) (q:StD×VD×Int):Prop:=cJ 0 S q∧(q.2.2=0→q.1.left<S.left)
theorem cJ.trans {n k:Nat} {S S1:StD} {q:StD×VD×Int} (h1:S1.mu≤S.mu+n) (h2:S1.left≤S.left) (h:cJ k S1 q):cJ (n+k) S q:=⟨h.good,by have:=h.mu;omega,Nat.le_trans h.left h2,h.val⟩
theorem cJ.weak {n k:Nat} {S:StD} {q:StD×VD×Int} (h:cJ k S q) (hk:k≤n):cJ n S q:=⟨h.good,by have:=h.mu;omega,h.left,h.val⟩
theorem AZ {f:XD→StD→StD×VD×Int} (hf:∀ x S,S.Good→KE S (f x S)):∀ (l:List XD) (S:StD) (acc:List VD),S.Good→(∀ v∈acc,v.code=0)→
  (evL f l S acc).1.Good∧(evL f l S acc).1.mu≤S.mu∧(evL f l S acc).1.left≤S.left∧((evL f l S acc).2.2=0→(∀ v∈(evL f l S acc).2.1,v.code=0)∧(evL f l S acc).1.left+(evL f l S acc).2.1.length≤S.left+acc.length)
 | [],S,acc,hS,ha=>⟨hS,Nat.le_refl _,Nat.le_refl _,fun _=>⟨ha,Nat.le_refl _⟩⟩
 | x::l,S,acc,hS,ha=>by
   obtain⟨h1,h2⟩:=hf x S hS
   rw[evL]
   rcases hq:f x S with⟨S',v,c⟩
   rw[hq]at h1 h2
   simp only at h2 ⊢
   split
   ·rename_i hc
    exact⟨h1.good,h1.mu,h1.left,fun e=>absurd e hc⟩
   ·rename_i hc
    have hc:c=0:=by omega
    have h3:=h2 hc
    have hv:=h1.val hc
    obtain⟨g1,g2,g3,g4⟩:=AZ hf l S' (acc++[v]) h1.good (fun w hw=>by
     rcases List.mem_append.1 hw with h | h
     ·exact ha w h
     ·simp only[List.mem_singleton]at h
      rw[h];exact hv)
    have hm:S'.mu≤S.mu:=h1.mu
    have hle:S'.left≤S.left:=h1.left
    refine⟨g1,Nat.le_trans g2 hm,Nat.le_trans g3 hle,fun e=>⟨(g4 e).1,?_⟩⟩
    have:=(g4 e).2
    simp only[List.length_append,List.length_singleton]at this
    omega
theorem ni {S:StD} (h:S.left≠0):S.tick.mu+1=S.mu∧S.tick.left+1=S.left:=by
 simp only[StD.mu,StD.tick]
 omega
theorem StD.Good.tick {S:StD} (h:S.Good):S.tick.Good:=⟨h.wf,h.cells,h.kept,h.keptV⟩
theorem BO {p:Int} {x:XD} {arg:VD} {names:List VD} {S:StD} {v:VD} (hS:S.Good) (ha:arg.code=0) (hn:∀ v∈names,v.code=0) (h:dZ p x arg names S=some v):v.code=0:=by
 unfold dZ at h
 split at h
 ·injection h with h;rw[←h];exact dT
 split at h
 ·injection h with h;rw[←h];exact jL _
 split at h
 ·injection h with h;rw[←h];exact ha
 split at h
 ·injection h with h;rw[←h];exact eL hn _
 split at h
 ·injection h with h;rw[←h];exact eL hS.keptV _
 cases h
theorem gW (ms:aM):∀ (N:Nat) (p:Int) (x:XD) (arg:VD) (names:List VD) (fr:Nat) (S:StD),S.Good→arg.code=0→(∀ v∈names,v.code=0)→KE S (ofD ms N p x arg names fr S)
 | 0,p,x,arg,names,fr,S,hS,_,_=>⟨.no hS (Nat.le_refl _) (Nat.le_refl _),fun h=>by simp[ofD,StD.no]at h⟩
 | N+1,p,x,arg,names,fr,S,hS,ha,hn=>by
   have ih:=gW ms N
   rw[ofD]
   split
   ·exact⟨.no hS (Nat.le_refl _) (Nat.le_refl _),fun h=>by simp[StD.no]at h⟩
   rename_i h0
   obtain⟨tm,tl⟩:=ni h0
   -- what comes behind the tick
   suffices h:∀ q,cJ 1 S.tick q→KE S q by
    refine h _ ?_
    split
    ·rename_i v hv
     exact .ok hS.tick (Nat.le_succ _) (Nat.le_refl _) (BO hS.tick ha hn hv)
    ·split
     ·have h1:=(ih p (x.l.getD 0 ct) arg names fr S.tick hS.tick ha hn).1
      rcases hq:ofD ms N p (x.l.getD 0 ct) arg names fr S.tick with⟨S',v,c⟩
      rw[hq]at h1
      refine .ite (fun _=>(cJ.no (c:=c) h1.good h1.mu h1.left).weak (Nat.zero_le _)) fun hc=> ?_
      have h2:=(ih p (x.l.getD 1 ct) arg (names++[v]) fr S' h1.good ha (fun w hw=>by
       rcases List.mem_append.1 hw with h | h
       ·exact hn w h
       ·simp only[List.mem_singleton]at h
        rw[h];exact h1.val (by simpa using hc))).1
      exact(cJ.trans h1.mu h1.left h2).weak (Nat.zero_le _)
     ·split
      ·have h1:=(ih p (x.l.getD 0 ct) arg names fr S.tick hS.tick ha hn).1
       rcases hq:ofD ms N p (x.l.getD 0 ct) arg names fr S.tick with⟨S',v,c⟩
       rw[hq]at h1
       refine .ite (fun _=>(cJ.no (c:=c) h1.good h1.mu h1.left).weak (Nat.zero_le _)) fun hc=> ?_
       refine .ite (fun _=>(cJ.no (c:=2) h1.good h1.mu h1.left).weak (Nat.zero_le _)) fun _=> ?_
       refine .ite (fun _=> ?_) fun _=> ?_
       ·exact(cJ.trans h1.mu h1.left (ih p (x.l.getD 1 ct) arg names fr S' h1.good ha hn).1).weak (Nat.zero_le _)
       ·exact(cJ.trans h1.mu h1.left (ih p (x.l.getD 2 ct) arg names fr S' h1.good ha hn).1).weak (Nat.zero_le _)
      ·have h1:=AZ (f:=fun y S=>ofD ms N p y arg names fr S) (fun y S h=>ih p y arg names fr S h ha hn) x.l S.tick [] hS.tick (by simp)
       rcases hq:evL (fun y S=>ofD ms N p y arg names fr S) x.l S.tick []with⟨S',l,c⟩
       rw[hq]at h1
       obtain⟨g1,g2,g3,g4⟩:=h1
       simp only at g1 g2 g3 g4
       refine .ite (fun _=>(cJ.no (n:=0) (c:=c) g1 g2 g3).weak (Nat.zero_le _)) fun hc=> ?_
       have g5:=(g4 (by simpa using hc)).1
       refine .ite (fun _=> .ite (fun _=>(cJ.no (n:=0) (c:=4) g1 g2 g3).weak (Nat.zero_le _)) fun _=> ?_) fun _=> .ite (fun _=> ?_) fun _=> ?_
       ·exact(cJ.trans (n:=0) g2 g3 (ih p (cU ms p x.k) (l.getD 0 au) [] (fr+1) S' g1 (eL g5 0) (by simp)).1).weak (Nat.zero_le _)
       ·obtain⟨a1,a2,a3⟩:=Cs (ms:=ms) (v:=l.getD 0 au) (x:=l.getD 1 au) (fr:=fr) g1
        have a4:=pa ms (l.getD 0 au) (l.getD 1 au) fr S'
        rcases hq2:eY ms (l.getD 0 au) (l.getD 1 au) fr S' with⟨S2,q,c2⟩
        rw[hq2]at a1 a2 a3 a4
        simp only at a1 a2 a3 a4
        have b1:S2.mu≤S.tick.mu+0:=Nat.le_trans a2 g2
        have b2:S2.left≤S.tick.left:=Nat.le_trans (Nat.le_of_eq a4) g3
        refine .ite (fun _=>(cJ.no (n:=0) (c:=c2) a1 b1 b2).weak (Nat.zero_le _)) fun hc2=> ?_
        have h3:=(ih q.plugin (cU ms q.plugin q.func) q.arg [] (fr+1) S2 a1 (a3 (by simpa using hc2)).1 (by simp)).1
        rcases hq3:ofD ms N q.plugin (cU ms q.plugin q.func) q.arg [] (fr+1) S2 with⟨S3,v,c3⟩
        rw[hq3]at h3
        have h4:=cJ.trans b1 b2 h3
        refine .ite (fun _=>(cJ.no (c:=c3) h4.good h4.mu h4.left).weak (Nat.zero_le _)) fun _=> ?_
        exact(cJ.trans h4.mu h4.left (FP h3.good)).weak (Nat.zero_le _)
       ·exact cJ.trans (n:=0) g2 g3 (Hj g1 g5)
   intro q h
   have h1:=h.mu
   have h2:=h.left
   exact⟨⟨h.good,by omega,by omega,h.val⟩,fun _=>by omega⟩
structure FrD.Good (ms:aM) (t:FrD):Prop where
 p0:0≤t.plugin
 there:(ms.getD t.plugin.toNat none).isSome
 f0:0≤t.f
 f1:t.f.toNat<(cE ms t.plugin).length
 arg:t.arg.code=0
 names:∀ v∈t.names,v.code=0
 stack:∀ v∈t.stack,v.code=0
 gates:t.gates.length≤80
structure MaD.Good (ms:aM) (m:MaD):Prop where
 S:m.S.Good
 top:m.top.Good ms
 mu:m.S.mu≤1000000
 stk:m.top.stack.length+m.S.left≤100000
 nms:m.top.names.length+m.S.left≤100000
 few:m.below.length+1≤20
structure EE (m:MaD) (x:aT):Prop where
 kind:(1≤x.op∧x.op≤21∧x.op≠5∧x.op≠7)∨(100≤x.op∧x.op≤105)
 one:x.op=101∨x.op=103∨x.op=105→m.top.stack≠[]
 nam:x.op=102→m.top.names≠[]
 jump:x.op=103∨x.op=104→0≤x.k
 parts:x.op<100→(aX x.op).toNat≤m.top.stack.length
 var:x.op=4→0≤x.k∧x.k<m.top.names.length
structure Ok (ms:aM) (m:MaD):Prop where
 good:m.Good ms
 pc:m.top.pc<(d8 ms m.top.plugin m.top.f).length
 op:EE m ((d8 ms m.top.plugin m.top.f).getD m.top.pc nP)
inductive gq (ms:aM):MaD→iU→Prop
 | go {m m':MaD} {r:iU}:Ok ms m→fO ms m= .go m'→gq ms m' r→gq ms m r
 | over {m:MaD} {S:StD} {v:VD}:Ok ms m→fO ms m= .over S v→gq ms m (.over S v)
 | fail {m:MaD} {S:StD} {c:Int}:Ok ms m→fO ms m= .fail S c→gq ms m (.fail S c)
def pU (ms:aM):Prop:=∀ p:Int,∀ x∈cE ms p,x.fault (cE ms p).length 0=0
def kJ (ms:aM):Prop:=∀ p f:Int,(d8 ms p f).length≤1000000000
def cM (ms:aM) (p f:Int) (v:VD) (fuel:Int) (S:StD):StD×VD×Int×Int:=
 if fuel<0∨2000<fuel∨p<0∨4≤p then(S,au,0,1)
 else if(ms.getD p.toNat none).isNone∨f<0∨((cE ms p).length:Int)≤f then(S,au,0,8)
 else if v.code≠0 then(S,au,0,v.code)
 else match ofD ms fuel.toNat p (cU ms p f) v [] 1 {S with left:=fuel.toNat}with
  | (S',w,c)=>({S' with left:=S.left},if c=0 then w else au,fuel - (S'.left:Int),c)
def et (L:List XD):AV:= .isl none 158 (L.map fun x=>[.isl none 169 ((ay x 0++[(⟨105,0,0⟩:aT)]).map fun i:aT=>[.int .i64 i.op,.int .i64 i.k,.int .i64 i.n])])
abbrev tEn:TypeId:=98
abbrev tL:TypeId:=2
def cV (e:cD):List AV:=[.int .i64 e.plugin,.int .i64 e.cell,.int .i64 e.right,.int .i64 e.node]
def gP (e:TypeId) (v:AV) (rows:List (List AV)):Asn:=orA (wx (rows=[]∧v= .nils)) (nH fun id:Nat=>ua (rows≠[]∧v= .isl (some id) e rows) (idA id rows.length))
def bh (b:Nat) (cells:List Int) (log:List cD):Asn:=nH fun v:AV=>dA (ai b [cells.map (.int .i64)++[v]]) (gP tEn v (log.map cV))
def je (m:Option (List XD)):AV:=match m with
 | some L=>et L
 | none=> .nils
def dG:aM→List (List AV)→List AV
 | m::ms,k::ks=> .bool m.isSome::je m::k++dG ms ks
 | _,_=>[]
def j8 (gb wb:Nat) (ms:aM) (ks:List (List AV)):List AV:= .ptr gb 0 0:: .ptr wb 0 0::dG ms ks
def dx (b gb wb:Nat) (ms:aM) (kept:List VD):Asn:=nH fun ks:List (List AV)=>ua (VaL kept ks) (ai b [j8 gb wb ms ks])
def vM (args:List AV) (h:AH) (q:(AV ⊕ AV)×AH):Prop:=
 ∀ (F J:Nat→Prop) (bb gb wb:Nat) (ms:aM) (S:StD) (p f fuel:Int) (v:VD) (r:List AV),args=[.ptr bb 0 0,.int .i64 p,.int .i64 f,.agg r,.int .i64 fuel]→VaA v r→v.size≤100000→ms.length=4→pU ms→kJ ms→S.Good→S.log.length≤900000→
   (aY [dx bb gb wb ms S.kept,bo gb S.G,bh wb S.cells S.log]).A h F J→
   ∃ r' h',q=(.inl (.tup [.agg r',.int .i64 (cM ms p f v fuel S).2.2.1,.int .i64 (cM ms p f v fuel S).2.2.2]),h')∧VaA (cM ms p f v fuel S).2.1 r'∧
     Did h F J h' (aY [dx bb gb wb ms (cM ms p f v fuel S).1.kept,bo gb (cM ms p f v fuel S).1.G,bh wb (cM ms p f v fuel S).1.cells (cM ms p f v fuel S).1.log])
def KO:List FuncId:=[112,141,58,89,57,140,94,88,
 53,55,79,67,133,38,138,
 30,68,62,87,32,75,104,
 76,105,77,78,80,45,
 117,95,96,116,115,129,
 97,118,98,70,100,119,101,60,
 102,73,26,103,74,41,72,
 99,71,40,49,18,50,46,131,130,
 139,143,19,29,42,15,
 132,142,134,122,120,39,82,81,83,
 108,84,109,12,135,123,124,125,
 126,127,128,110,86,111,85,
 48,69,136,137,25,31,59,63,
 33,13,43,44,11,14,16,
 3,4,5,22,52,51,54,56,
 23,27,28,61,20,21,
 24,6,7,8,35,90,64,
 92,91,113,93,114,65,
 36,66,37,34,9,10]
def HS:List FuncId:=[112,141,89,140,94,67,133,38,
 138,30,62,87,32,104,
 117,96,116,115,129,97,70,
 100,119,101,60,102,73,26,
 103,74,41,49,18,50,46,131,
 130,139,143,19,29,42,
 15,132,142,120,82,108,84,109,12,135,
 25,31,59,63,33,13,
 11,14,3,4,5,52,27,
 28,61,20,21,24,6,
 7,8,90,64,92,91,
 113,93,114,66,37,34,9,
 10]
def muF:FuncId→TypeId→Bool:=fun g t=>t==145 || t==158 || t==122 || (t==27 && (g==107 || g==48 || g==54))
def sS (args:List AV) (h:AH) (q:(AV ⊕ AV)×AH):Prop:=
 ∀ (F J:Nat→Prop) (b:Nat) (G:ae) (x:VD) (r:List AV) (gv:AV) (ks:List Int),args=[.ptr b 0 0,.agg r,gv]→IsG h F J b G→G.Wf→VaA x r→SlA 3 gv (bm ks)→ks.length≤1000000→
   ∃ r' h',q=(.inl (.tup [.agg r',.int .i64 (aW ks G x).2.2]),h')∧VaA (aW ks G x).2.1 r'∧dj h F J b h' (aW ks G x).1
open Classical in
noncomputable def nn (args:List AV) (h:AH):Option ((AV ⊕ AV)×AH):=
 if H:∃ q,AC Try.prog 106 args h q∧sS args h q then some (Classical.choose H)else none
def GI (args:List AV) (h:AH):Option AH:=match args with
 | [.ptr mb 0 0,.agg r]=>(h.cell mb).bind fun es=>match es with
   | [[_,.msl fb 0 k _,_]]=>(h.cell fb).bind fun rows=>(rows[k - 1]?).bind fun row=>(row[6]?).bind fun s=>(aA true tV s (.msl (h.n+1) 0 1 tV) ((h.push [r]).push [r])).map fun q=>q.2.set fb (some (rows.set (k - 1) (row.set 6 q.1)))
   | _=>none
 | _=>none
open Classical in
noncomputable def CE (args:List AV) (h:AH):Option ((AV ⊕ AV)×AH):=match GI args h with
 | some h'=>if AC Try.prog 107 args h (.inl (.tup []),h')then some (.inl (.tup []),h')else none
 | none=>none
def rb (L:List XD):AV:= .tup [if(ba L).1=0 then et L else .nils,.agg [.int .i64 (ba L).1,.int .i64 (ba L).2]]
open Classical in
noncomputable def Cl (args:List AV) (h:AH):Option ((AV ⊕ AV)×AH):=
 if H:∃ L:List XD,(∃ v es,args=[.agg [v]]∧SlA tE v es∧ExL L es)∧AC Try.prog 40 args h (.inl (rb L),h)then some (.inl (rb (Classical.choose H)),h)else none
open Classical in
noncomputable def qo (args:List AV) (h:AH):Option ((AV ⊕ AV)×AH):=
 if H:∃ cs:List Int,(∃ b lv,args=[.ptr b 0 0]∧h.cell b=some [cs.map (.int .i64)++[lv]]∧cs.length=12)∧AC Try.prog 25 args h (.inl (.isl none 2 (cs.map fun x=>[.int .i64 x])),h)then some (.inl (.isl none 2 ((Classical.choose H).map fun x=>[.int .i64 x])),h)else none
open Classical in
noncomputable def qQ (args:List AV) (h:AH):Option ((AV ⊕ AV)×AH):=
 if H:∃ q,AC Try.prog 17 args h q∧vM args h q then some (Classical.choose H)else none
noncomputable def qc:FuncId→Option (List AV→AH→Option ((AV ⊕ AV)×AH)):=fun g=>if g=106 then some nn else if g=107 then some CE else if g=40 then some Cl else if g=25 then some qo else if g=17 then some qQ else none
noncomputable def po:Pol:=oT Try.prog muF qc KO HS
theorem KN:po.ext 17=some qQ:=by
 show qc 17=_
 unfold qc
 rw[if_neg (by decide),if_neg (by decide),if_neg (by decide),if_neg (by decide),if_pos rfl]
theorem pok:POK Try.prog po:=No (J8 (by kernel_rfl)) (by kernel_rfl) (by kernel_rfl) (fun g F h=>by
 unfold qc at h
 split at h
 ·rename_i e
  subst e
  injection h with h
  subst h
  refine⟨_,Try.func106,⟨by kernel_rfl,by kernel_rfl⟩,fun args h r hr=> ?_⟩
  unfold nn at hr
  split at hr
  ·rename_i H
   injection hr with hr
   rw[←hr]
   exact(Classical.choose_spec H).1
  ·cases hr
 split at h
 ·rename_i e
  subst e
  injection h with h
  subst h
  refine⟨_,Try.func107,⟨by kernel_rfl,by kernel_rfl⟩,fun args h r hr=> ?_⟩
  unfold CE at hr
  split at hr
  ·split at hr
   ·rename_i H
    injection hr with hr
    rw[←hr]
    exact H
   ·cases hr
  ·cases hr
 split at h
 ·rename_i e
  subst e
  injection h with h
  subst h
  refine⟨_,Try.func40,⟨by kernel_rfl,by kernel_rfl⟩,fun args h r hr=> ?_⟩
  unfold Cl at hr
  split at hr
  ·rename_i H
   injection hr with hr
   rw[←hr]
   exact(Classical.choose_spec H).2
  ·cases hr
 split at h
 ·rename_i e
  subst e
  injection h with h
  subst h
  refine⟨_,Try.func25,⟨by kernel_rfl,by kernel_rfl⟩,fun args h r hr=> ?_⟩
  unfold qo at hr
  split at hr
  ·rename_i H
   injection hr with hr
   rw[←hr]
   exact(Classical.choose_spec H).2
  ·cases hr
 split at h
 ·rename_i e
  subst e
  injection h with h
  subst h
  refine⟨_,Try.func17,⟨by kernel_rfl,by kernel_rfl⟩,fun args h r hr=> ?_⟩
  unfold qQ at hr
  split at hr
  ·rename_i H
   injection hr with hr
   rw[←hr]
   exact(Classical.choose_spec H).1
  ·cases hr
 cases h)
def cL:Code→Code
 | .seq a _=>a
 | c=>c
def cR:Code→Code
 | .seq _ b=>b
 | c=>c
def eO:Code→Array Oper
 | .region _ ops _=>ops
 | _=> #[]
section
variable {P:Program} {po:Pol} {f:FuncId} {n nv:Nat} {vm:List Nat} {h h':AH} {t V V':List AV}
theorem bO {a:Nat} (h7:so a n (po.nv f) nv vm=true):vm.Nodup∧∀ j s,vm[j]? =some s→(j<nv↔s<po.nv f):=by
 unfold so at h7
 simp only[Bool.and_eq_true,decide_eq_true_eq,List.all_eq_true,List.mem_range,beq_iff_eq,bne_iff_ne,ne_eq]at h7
 obtain⟨⟨a1,a2⟩,a3⟩:=h7
 have get:∀ j s,vm[j]? =some s→j<vm.length∧vm.getD j 0=s:=fun j s hj=>⟨(List.getElem?_eq_some_iff.1 hj).1,by simp[List.getD,hj]⟩
 refine⟨?_,fun j s hj=> ?_⟩
 ·rw[List.nodup_iff_pairwise_ne,List.pairwise_iff_getElem]
  intro i j hi hj hij e
  have:=(a3 j hj).2 i hij
  apply this
  simp[List.getD,hi,hj,e]
 ·obtain⟨g1,g2⟩:=get j s hj
  have:=(a3 j g1).1.1.2
  rw[g2]at this
  exact decide_eq_decide.1 this
theorem pY (pok:POK P po) {c:Code} {l:List RS} {K:List Item} {x:AEx} (hvm:vm.Nodup∧∀ j s,vm[j]? =some s→(j<nv↔s<po.nv f)) (htr:bj P (po.mu f) (po.plan f) n vm c []=some l) (hrg:cS (po.plan f) (po.kp f) c=true)
  (hr:aq (aj P po) nv [.ss l,.halt K] V [] h=some (x,V',h')) (rv:RV n vm [] t V []):
  ∃ t',(∀ (m:Mm) (w:World) (a:Act) (b:Frame) (cs:List Frame),WR P m h w→TR P m h t a.tmps→a.defers=b.defers→bU P (po.kp f) m h w b cs (lone (b.at a (.code c::K)) cs w) (x,t',h'))∧RV n vm [] t' V' []:=by
 obtain⟨t',e,rv'⟩:=(oD (n:=n) (f:=f) hvm.1 hvm.2 _ _ _ _ _ hr).1 [.code c,.halt K] t (.ss [c] l [.halt K] [.halt K] (by simp[trL,htr]) (.halt K [] [])) rv
 refine⟨t',fun m w a b cs hw ht hd=> ?_,rv'⟩
 exact(jy pok f _ t h _ e).good (.code c::K) (.code c _ _ hrg (.halt K [])) b cs m w a hw ht hd
theorem nt {g:FuncId} {fn:Func} {c:Code} (hf:P.funcs[g]? =some fn) (hb:fn.body=some c) (vs:List Value) (kd:CallKind):
  (Frame.enter P g vs.toArray kd).at {tmps:=(vs++List.replicate (fn.ntmps - vs.length) undef).toArray,defers:=[]} [.code c]=Frame.enter P g vs.toArray kd:=by
 simp[Frame.enter,Frame.at,hf,hb]
theorem nI {m:Mm} {k:Nat} {args:List AV} {vs:List Value} (hv:VRs P m h args vs):
  TR P m h (args++List.replicate (k - args.length) .junk) (vs++List.replicate (k - vs.length) undef).toArray:=by
 have hl:=hv.1
 have h2:VRs P m h (args++List.replicate (k - args.length) .junk) (vs++List.replicate (k - vs.length) undef):=by
  rw[hl]
  exact VRs.append hv ⟨by simp,fun j hj hj'=>by simp only[List.getElem_replicate];exact .junk _⟩
 refine⟨by simpa using h2.1,fun i hi=> ?_⟩
 have hi2:i<(vs++List.replicate (k - vs.length) undef).length:=by rw[h2.1];exact hi
 have:=h2.2 i hi hi2
 simp only[Array.getD_eq_getD_getElem?,List.getElem?_toArray,List.getElem?_eq_getElem hi2,Option.getD_some]
 exact this
theorem LK {m:Mm} {ts:Array Value} (ht:TR P m h t ts) {i:Nat} (hi:i<t.length):VR P m h (t.getD i .junk) (ts.getD i undef):=by
 have:=ht.2 i hi
 simpa[List.getD,hi]using this
end
open Go Go.RowKit
section
variable {P:Program} {po:Pol} {f:FuncId} {n nv:Nat} {vm:List Nat} {h:AH}
def mM (P:Program) (po:Pol) (f:FuncId) (n:Nat) (vm:List Nat) (args:List AV) (h:AH) (x:AEx) (V:List AV) (h2:AH):Prop:=
 ∀ (m:Mm) (w:World) (vs:List Value),WR P m h w→VRs P m h args vs→∀ cs:List Frame,∃ (bf:Frame) (t2:List AV),bf.fn=f∧bf.kind= .normal∧bf.defers=[]∧RV n vm [] t2 V []∧
   bU P (po.kp f) m h w bf cs (lone (Frame.enter P f vs.toArray .normal) cs w) (x,t2,h2)
theorem mM.start {fn:Func} {c:Code} {args:List AV} (hf:P.funcs[f]? =some fn) (hb:fn.body=some c) (hn:fn.ntmps=n)
  (rv:RV n vm [] (args++List.replicate (n - args.length) .junk) (args++List.replicate (vm.length - args.length) .junk) []):mM P po f n vm args h (.halt [.code c]) (args++List.replicate (vm.length - args.length) .junk) h:=by
 intro m w vs hw hvs cs
 have he:=nt hf hb vs .normal
 have ht:=nI (P:=P) (h:=h) (k:=n) hvs
 rw[hn]at he
 refine⟨Frame.enter P f vs.toArray .normal,_,by simp[Frame.enter],by simp[Frame.enter],by simp[Frame.enter],rv,m,w,Ext.refl _ _,hw,Below.refl _ _,{tmps:=_,defers:=[]},ht,?_,?_⟩
 ·simp[Frame.enter]
 ·conv=>lhs;rw[←he]
  exact .refl _ _
theorem mM.next (pok:POK P po) {c A B:Code} {l:List RS} {args V V':List AV} {h2 h3:AH} {x:AEx} (p:mM P po f n vm args h (.halt [.code c]) V h2) (hc:c= .seq A B)
  (hvm:vm.Nodup∧∀ j s,vm[j]? =some s→(j<nv↔s<po.nv f)) (htr:bj P (po.mu f) (po.plan f) n vm A []=some l) (hrg:cS (po.plan f) (po.kp f) A=true)
  (hr:aq (aj P po) nv [.ss l,.halt [.code B]] V [] h2=some (x,V',h3)):mM P po f n vm args h x V' h3:=by
 intro m w vs hw hvs cs
 obtain⟨bf,t2,b1,b2,b3,rv,m1,w1,x1,x2,x3,a1,x4,x5,x6⟩:=p m w vs hw hvs cs
 obtain⟨t3,hp,rv3⟩:=pY pok hvm htr hrg hr rv
 have y5:=hp m1 w1 a1 bf cs x2 x4 x5
 have s0:Steps P (lone (Frame.enter P f vs.toArray .normal) cs w) (lone (bf.at a1 [.code A,.code B]) cs w1):=by
  refine x6.trans ?_
  conv=>lhs;rw[hc]
  exact .one step_seq
 exact⟨bf,t3,b1,b2,b3,rv3,bU.steps s0 (bU.after x1 x3 y5)⟩
theorem zj {fn:Func} {rs:List kO} {t V:List AV} {h:AH} {v:AV} (hres:jp P vm fn.results.toList=some rs) (rv:RV n vm [] t V []) (hv:(fg V h rs).map fH=some v):mW fn t h P=some v:=by
 unfold mW
 rw[gC (h:=h) rv hres]
 exact hv
theorem mM.ret {fn:Func} {rs:List kO} {args V:List AV} {h2:AH} {v:AV} (p:mM P po f n vm args h .ret V h2) (hf:P.funcs[f]? =some fn) (hres:jp P vm fn.results.toList=some rs) (hv:(fg V h2 rs).map fH=some v):AC P f args h (.inl v,h2):=by
 intro m w vs hw hvs cs
 obtain⟨bf,t2,b1,b2,b3,rv,m',w',x1,x2,x3,a',todo,x4,x5,x6⟩:=p m w vs hw hvs cs
 rw[b3]at x5
 obtain⟨u,h7,h8⟩:=gn x2 x4 (zj (h:=h2) hres rv hv)
 exact⟨.returned u,w',_,⟨m',x1,x2,x3,u,rfl,h8⟩,x6,b1,rfl,x5,b2,_,by simp[Frame.at,b1,hf],h7⟩
theorem JO {t V:List AV} {i:Nat} {v:AV} (rv:RV n vm [] t V []) (hi:i ∉ vm):RV n vm [] (bI t (some i) v) V []:=by
 refine⟨by simpa[bI]using rv.len,rv.lv,rv.ll,fun j s hj=> ?_,fun j s hj=>by simp at hj⟩
 obtain⟨h1,h2⟩:=rv.v j s hj
 refine⟨h1,?_⟩
 rw[←h2]
 have hne:i≠s:=fun e=>hi (by rw[e];exact List.mem_of_getElem? hj)
 simp[bI,List.getD,List.getElem?_set,hne]
def ri (a:Act) (caps:List Nat):List Value:=caps.map fun i=>a.tmps.getD i undef
theorem M9 {m:Mm} {h2:AH} {t V:List AV} {a:Act} {caps js:List Nat} (rv:RV n vm [] t V []) (ht:TR P m h2 t a.tmps) (hc:caps=js.map fun j=>vm.getD j 0) (hj:∀ j∈js,j<vm.length):
  VRs P m h2 (js.map fun j=>V.getD j .junk) (ri a caps):=by
 subst hc
 refine⟨by simp[ri],fun i h1 h2=> ?_⟩
 simp only[List.length_map]at h1
 have hlt:=hj _ (List.getElem_mem h1)
 have hs:vm[js[i]]? =some (vm.getD js[i] 0):=by simp[List.getD,hlt]
 obtain⟨q1,q2⟩:=rv.v _ _ hs
 have:=LK ht (i:=vm.getD js[i] 0) (by rw[rv.len];exact q1)
 rw[q2]at this
 simpa[ri]using this
theorem VRs.extG {m m':Mm} {h h':AH} {l:List AV} {us:List Value} (v:VRs P m h l us) (x:Ext m h m' h'):VRs P m' h' l us:=⟨v.1,fun j h1 h2=>(v.2 j h1 h2).ext x⟩
theorem CM {P:Program} {t t':List AV} {h:AH}:∀ {l:List ResultVar},(∀ r∈l,∃ i ty,r= .cell i ty∧t.getD i .junk=t'.getD i .junk)→mS P t h l=mS P t' h l
 | [],_=>rfl
 | r::l,hl=>by
   obtain⟨i,ty,rfl,e⟩:=hl r (List.mem_cons_self ..)
   have ih:mS P t h l=mS P t' h l:=CM fun q hq=>hl q (List.mem_cons_of_mem _ hq)
   simp only[mS,e,ih]
def Ft (fCl:FuncId) (us:List Value):Value:= .func (.func fCl) #[] us.toArray
def qb (fCl:FuncId) (us:List Value):Deferred:={target:= .fn (.func fCl) us.toArray,args:= #[]}
inductive M0 (P:Program) (fCl:FuncId) (capA:List AV) (h3 h4:AH):AEx→Prop
 | ret (cl:∀ (m:Mm) (w:World) (ps:List Value),WR P m h3 w→VRs P m h3 capA ps→CallsD P fCl ps.toArray .returning w fun e u'' w'=>(∃ v,e= .returned v)∧u''= .returning∧∃ m',Ext m h3 m' h4∧WR P m' h4 w'∧Below m.base w w'):M0 P fCl capA h3 h4 .ret
 | panic (v:AV) (cl:∀ (m:Mm) (w:World) (ps:List Value) (u:Value),WR P m h3 w→VRs P m h3 capA ps→VR P m h3 v u→CallsD P fCl ps.toArray (.panicking [{v:=u,recovered:=false}]) w fun e u'' w'=>(∃ v,e= .returned v)∧u''= .panicking [{v:=u,recovered:=true}]∧∃ m',Ext m h3 m' h4∧WR P m' h4 w'∧Below m.base w w'):M0 P fCl capA h3 h4 (.panic v)
theorem y9 (pok:POK P po) {fn:Func} {rs:List kO} {args V V':List AV} {h2 h3 h4:AH} {cZ cW:Code} {fCl:FuncId} {k:Nat} {caps js:List Nat} {l:List RS} {x:AEx} {r:AV} (p:mM P po f n vm args h (.halt [.code cZ]) V h2) (hf:P.funcs[f]? =some fn) (hcf:∃ fnC,P.funcs[(fCl:Nat)]? =some fnC∧(fnC.body.isNone=false∧(fnC.name== "runtime.NumGoroutine")=false))
  (hk:k ∉ vm) (hc:caps=js.map fun j=>vm.getD j 0) (hj:∀ j∈js,j<vm.length)
  (lay:∀ (bf:Frame) (a:Act) (cs:List Frame) (w:World),a.tmps.size=n→Steps P (lone (bf.at a [.code cZ]) cs w) (lone (bf.at {a.put (some k) (Ft fCl (ri a caps))with defers:=qb fCl (ri a caps)::a.defers} [.code cW]) cs w))
  (hvm:vm.Nodup∧∀ j s,vm[j]? =some s→(j<nv↔s<po.nv f)) (htr:bj P (po.mu f) (po.plan f) n vm cW []=some l) (hrg:cS (po.plan f) (po.kp f) cW=true)
  (hr:aq (aj P po) nv [.ss l,.halt []] V [] h2=some (x,V',h3)) (hkp:∀ r∈fn.results.toList,∃ i ty,r= .cell i ty∧po.kp f i=true)
  (he:M0 P fCl (js.map fun j=>V.getD j .junk) h3 h4 x) (hres:jp P vm fn.results.toList=some rs) (hv:(fg V' h4 rs).map fH=some r):AC P f args h (.inl r,h4):=by
 intro m w vs hw hvs cs
 obtain⟨bf,t2,b1,b2,b3,rv,m2,w2,x1,x2,x3,a2,x4,x5,x6⟩:=p m w vs hw hvs cs
 rw[b3]at x5
 have hsz:a2.tmps.size=n:=by rw[x4.1,rv.len]
 have lay:=lay bf a2 cs w2 hsz
 have vc:=M9 rv x4 hc hj
 generalize ri a2 caps=us at lay vc
 rw[x5]at lay
 have ht3:=x4.put (VR.junk (Ft fCl us)) (some k)
 have rv3:=JO (i:=k) (v:= .junk) rv hk
 obtain⟨t5,hp,rv5⟩:=pY pok hvm htr hrg hr rv3
 obtain⟨m3,w3,y1,y2,y3,y4⟩:=hp m2 w2 {a2.put (some k) (Ft fCl us)with defers:=[qb fCl us]} {bf with defers:=[qb fCl us]} cs x2 ht3 rfl
 have vc3:=VRs.extG vc y1
 have ra:mW fn t5 h4 P=some r:=zj hres rv5 hv
 have inv:(invoke (.fn (.func fCl) us.toArray) #[]).run P w3= .ok (.enter fCl us.toArray) w3:=by
  obtain⟨fnC,g1,g2,g3⟩:=hcf
  have g3':¬ fnC.name= "runtime.NumGoroutine":=by simpa using g3
  have g2':¬ fnC.body=none:=by cases hb:fnC.body with | none=>rw[hb]at g2;cases g2 | some c=>simp
  simp[go_sem,callFunc,g1,g2',g3']
 have bel:∀ {m4:Mm} {w':World},Below m3.base w3 w'→Below m.base w w':=by
  intro m4 w' z3
  have q1:m2.base=m.base:=x1.base
  have q2:m3.base=m2.base:=y1.base
  rw[q2,q1]at z3
  rw[q1]at y3
  exact(x3.trans y3).trans z3
 cases he with
 | ret cl=>
   obtain⟨a5,todo,z1,z2,z3⟩:=y4
   have hlv:Leaves P fn a5.tmps (fun e w'=>∃ m',Ext m h m' h4∧WR P m' h4 w'∧Below m.base w w'∧∃ u,e= .returned u∧VR P m' h4 r u) [qb fCl us] .returning w3:=by
    refine leaves_cons (f:=fCl) (args:=us.toArray) (by simp) inv ?_
    refine(cl m3 w3 us y2 vc3).mono ?_
    rintro e u'' w' ⟨⟨v,rfl⟩,rfl,m4,n1,n2,n3⟩
    obtain⟨u,h7,h8⟩:=gn n2 (z1.ext n1) ra
    exact⟨u,h7,m4,(x1.trans y1).trans n1,n2,bel (m4:=m4) n3,u,rfl,h8⟩
   obtain⟨e,w4,fr',hR,hs,hfn,hl⟩:=leaves_steps [qb fCl us] .returning w3 {(({bf with defers:=[qb fCl us]}:Frame).at a5 todo)with mode:= .returning} cs rfl z2 rfl (by simp[Frame.at,b1,hf]) (by simpa[Frame.at]using b2) hlv
   exact⟨e,w4,fr',hR,Comes.of_steps (x6.trans (lay.trans z3)) hs,hfn.trans b1,hl⟩
 | panic v cl=>
   obtain⟨a5,todo,u,⟨tm,z0,z1⟩,z2,z4,z3⟩:=y4
   have rm:mW fn tm h4 P=some r:=by
    rw[←ra]
    unfold mW
    rw[CM fun q hq=>by obtain⟨i,ty,e,hi⟩:=hkp q hq;exact⟨i,ty,e,z1 i hi⟩]
   have hlv:Leaves P fn a5.tmps (fun e w'=>∃ m',Ext m h m' h4∧WR P m' h4 w'∧Below m.base w w'∧∃ u,e= .returned u∧VR P m' h4 r u) [qb fCl us] (.panicking [{v:=u,recovered:=false}]) w3:=by
    refine leaves_cons (f:=fCl) (args:=us.toArray) (by simp) inv ?_
    refine(cl m3 w3 us u y2 vc3 z4).mono ?_
    rintro e u'' w' ⟨⟨v,rfl⟩,rfl,m4,n1,n2,n3⟩
    obtain⟨u2,h7,h8⟩:=gn n2 (z0.ext n1) rm
    exact⟨u2,h7,m4,(x1.trans y1).trans n1,n2,bel (m4:=m4) n3,u2,rfl,h8⟩
   obtain⟨e,w4,fr',hR,hs,hfn,hl⟩:=leaves_steps [qb fCl us] (.panicking [{v:=u,recovered:=false}]) w3 {(({bf with defers:=[qb fCl us]}:Frame).at a5 todo)with mode:= .panicking [{v:=u,recovered:=false}]} cs rfl z2 rfl (by simp[Frame.at,b1,hf]) (by simpa[Frame.at]using b2) hlv
   exact⟨e,w4,fr',hR,Comes.of_steps (x6.trans (lay.trans z3)) hs,hfn.trans b1,hl⟩
theorem D1 (c:Frame) (h:c.mode= .returning) (cs:List Frame):recoverD (c::cs)=none:=by simp[recoverD,h]
theorem BR {v:Value} (c:Frame) (h:c.mode= .panicking [{v:=v,recovered:=false}]) (cs:List Frame):recoverD (c::cs)=some (v,{c with mode:= .panicking [{v:=v,recovered:=true}]}::cs):=by simp[recoverD,h]
def HU (P:Program) (c:Code) (n s1 s2:Nat):Prop:=∀ (ts:Array Value) (v:Value) (cs cs':List Frame) (w:World),ts.size=n→(recoverD cs=some (v,cs')∨(recoverD cs=none∧v= .nilIface∧cs'=cs))→
 c.wpS P (fun e a' cs2 w'=>e= .normal∧cs2=cs'∧w'=w∧a'=(({tmps:=ts,defers:=[]}:Act).put (some s1) v).put (some s2) v) {tmps:=ts,defers:=[]} cs w
theorem clG {fnC:Func} {cC:Code} {s1 s2:Nat} (pok:POK P po) {l:List RS} {caps V V':List AV} {h':AH} {e:AV} (hf:P.funcs[f]? =some fnC) (hb:fnC.body=some cC) (hseq:cC= .seq (cL cC) (cR cC)) (hn:fnC.ntmps=n) (hr0:∀ (a:Array Value) (w:World),∃ v,(results fnC a).run P w= .ok v w)
  (hrec:HU P (cL cC) n s1 s2) (hvm:vm.Nodup∧∀ j s,vm[j]? =some s→(j<nv↔s<po.nv f)) (htr:bj P (po.mu f) (po.plan f) n vm (cR cC) []=some l) (hrg:cS (po.plan f) (po.kp f) (cR cC)=true)
  (hr:aq (aj P po) nv [.ss l,.halt []] V [] h=some (.halt [],V',h')) (rv:RV n vm [] (bI (bI (caps++List.replicate (n - caps.length) .junk) (some s1) e) (some s2) e) V [])
  {m:Mm} {w:World} {ps:List Value} {v:Value} (hw:WR P m h w) (hvs:VRs P m h caps ps) (hcl:caps.length≤n) (ve:VR P m h e v) {u:FrameMode} (u':FrameMode)
  (hu':∀ c:Frame,c.mode=u→∀ cs,(recoverD (c::cs)=some (v,{c with mode:=u'}::cs))∨(recoverD (c::cs)=none∧v= .nilIface∧u'=u)):
  CallsD P f ps.toArray u w fun e u'' w'=>(∃ v,e= .returned v)∧u''=u'∧∃ m',Ext m h m' h'∧WR P m' h' w'∧Below m.base w w':=by
 intro c cs hu
 have he:=nt hf hb ps .deferred
 have ht:=nI (P:=P) (h:=h) (k:=n) hvs
 generalize hbb:Frame.enter P f ps.toArray .deferred=b at he
 have hbk:b.kind= .deferred:=by rw[←hbb];simp[Frame.enter]
 have hbf:b.fn=f:=by rw[←hbb];simp[Frame.enter]
 have hbr:b.roundOf=none:=by rw[←hbb];simp[Frame.enter]
 rw[hn]at he
 generalize ha:(ps++List.replicate (n - ps.length) undef).toArray=ts at he ht
 have h1:Steps P (lone b (c::cs) w) (lone (b.at {tmps:=ts,defers:=[]} [.code (cL cC),.code (cR cC)]) (c::cs) w):=by
  rw[←he]
  conv=>lhs;rw[hseq]
  exact .one step_seq
 have hsz:ts.size=n:=by
  rw[ht.1]
  simp only[List.length_append,List.length_replicate]
  omega
 have hcs:recoverD (c::cs)=some (v,{c with mode:=u'}::cs)∨(recoverD (c::cs)=none∧v= .nilIface∧({c with mode:=u'}:Frame)::cs=c::cs):=by
  rcases hu' c hu cs with h1 | ⟨h1,h2,h3⟩
  ·exact .inl h1
  ·have h4:({c with mode:=u'}:Frame)=c:=by rw[h3,←hu]
   exact .inr ⟨h1,h2,by rw[h4]⟩
 obtain⟨e1,a1,cs1,w1,⟨rfl,rfl,rfl,rfl⟩,harr⟩:=hrec ts v _ _ w hsz hcs b [.code (cR cC)] hbk hbr
 have ht1:=(ht.put (a:={tmps:=ts,defers:=[]}) ve (some s1)).put ve (some s2)
 obtain⟨t',hp,hrv⟩:=pY pok hvm htr hrg hr rv
 obtain⟨m',w',x1,x2,x3,a',x4,x5,x6⟩:=hp m w1 _ {b with defers:=[]} ({c with mode:=u'}::cs) hw ht1 rfl
 have hfin:Steps P (lone b (c::cs) w1) (lone {b.at a' []with mode:= .returning} ({c with mode:=u'}::cs) w'):=h1.trans (harr.trans (x6.trans (.one step_end)))
 obtain⟨v0,hv0⟩:=hr0 a'.tmps w'
 refine⟨.returned v0,u',w',_,⟨⟨_,rfl⟩,rfl,m',x1,x2,x3⟩,hfin,hbk,rfl,x5,fnC,?_,hv0⟩
 show P.funcs[b.fn]? =_
 rw[hbf]
 exact hf
end
def vN:List RS:=[(.ops [(.i (.v 5) (.box 3 (.v 3))),(.i (.v 6) (.box 1 (.v 4))),(.i (.v 7) (.alloc [(.int .i64 0),(.int .i64 0),.nils])),(.i (.v 8) (.alloc [(.int .i64 0)])),(.i (.v 9) (.alloc [(.int .i64 0)]))])]
def kT:List RS:=[(.block 0 [(.ops [(.i .l (.load false 1 (.v 6))),(.i .l (.bin (.int .i64) .lss (.l 0) (.c (.int .i64 0)))),(.i .l (.mv (.l 0))),(.g (.l 0) false .l (.load false 1 (.v 6))),(.g (.l 1) false .l (.bin (.int .i64) .gtr (.l 0) (.c (.int .i64 2000)))),(.i .l (.pick (.l 2) (.c (.bool true)) (.l 0))),(.i .l (.mv (.l 0))),(.g (.l 0) false .l (.mv (.v 1))),(.g (.l 1) false .l (.bin (.int .i64) .lss (.l 0) (.c (.int .i64 0)))),(.i .l (.pick (.l 2) (.c (.bool true)) (.l 0))),(.i .l (.mv (.l 0))),(.g (.l 0) false .l (.mv (.v 1))),(.g (.l 1) false .l (.bin (.int .i64) .geq (.l 0) (.c (.int .i64 4)))),(.i .l (.pick (.l 2) (.c (.bool true)) (.l 0))),(.i (.v 14) (.mv (.l 0)))]),(.cond (.v 14) [(.ops [(.i .l (.build [(.int .i64 0),(.int .i64 0),.nils] [(0,1),(1,1),(2,1)] [])),(.i .n (.store 3 (.v 7) (.l 0))),(.i .n (.store 1 (.v 8) (.c (.int .i64 0)))),(.i .n (.store 1 (.v 9) (.c (.int .i64 1))))]),.ret] [(.ops [(.i .l (.mv (.v 0))),(.i .l (.mv (.v 1))),(.i .l (.nilc (.l 1))),(.i .l (.fad 2 (.l 0))),(.i .l (.ixa none (some (4,5)) (.l 0) (.l 2))),(.i .l (.fad 0 (.l 0))),(.i .l (.load false 1 (.l 0))),(.i .l (.un .not (.l 0))),(.i .l (.mv (.l 0))),(.g (.l 0) false .l (.mv (.v 2))),(.g (.l 1) false .l (.bin (.int .i64) .lss (.l 0) (.c (.int .i64 0)))),(.i .l (.pick (.l 2) (.c (.bool true)) (.l 0))),(.i .l (.mv (.l 0))),(.g (.l 0) false .l (.mv (.v 2))),(.g (.l 1) false .l (.mv (.v 0))),(.g (.l 2) false .l (.mv (.v 1))),(.g (.l 3) false .l (.nilc (.l 1))),(.g (.l 4) false .l (.fad 2 (.l 0))),(.g (.l 5) false .l (.ixa none (some (4,5)) (.l 0) (.l 2))),(.g (.l 6) false .l (.fad 1 (.l 0))),(.g (.l 7) false .l (.load false 1 (.l 0))),(.g (.l 8) false .l (.len false (some 158) (.l 0))),(.g (.l 9) false .l (.bin (.int .i64) .geq (.l 8) (.l 0))),(.i .l (.pick (.l 10) (.c (.bool true)) (.l 0))),(.i (.v 15) (.mv (.l 0)))]),(.cond (.v 15) [(.ops [(.i .l (.build [(.int .i64 0),(.int .i64 0),.nils] [(0,1),(1,1),(2,1)] [])),(.i .n (.store 3 (.v 7) (.l 0))),(.i .n (.store 1 (.v 8) (.c (.int .i64 0)))),(.i .n (.store 1 (.v 9) (.c (.int .i64 8))))]),.ret] [])])])]
def vI:List RS:=[(.ops [(.i .l (.load true 3 (.v 5))),(.i .l (.call (.c (.fn 18 [] [])) [(.l 0)])),(.i (.v 10) (.mv (.l 0)))]),(.ops [(.i .l (.mv (.v 10))),(.i (.v 16) (.bin (.int .i64) .neq (.l 0) (.c (.int .i64 0))))]),(.cond (.v 16) [(.ops [(.i .l (.build [(.int .i64 0),(.int .i64 0),.nils] [(0,1),(1,1),(2,1)] [])),(.i .l (.mv (.v 10))),(.i .n (.store 3 (.v 7) (.l 1))),(.i .n (.store 1 (.v 8) (.c (.int .i64 0)))),(.i .n (.store 1 (.v 9) (.l 0)))]),.ret] [])]
def xc:List RS:=[(.ops [(.i .l (.mv (.v 0))),(.i .l (.load false 1 (.v 6))),(.i .l (.build [.nilp,.nils,(.int .i64 0)] [(0,1),(1,1),(2,1)] [(0,(.l 1)),(2,(.l 0))])),(.i .l (.box 3 (.l 0))),(.i (.v 11) (.alloc [.nilp])),(.i .n (.store 1 (.v 11) (.l 0)))])]
def wr:List RS:=[(.ops [(.i .l (.load false 1 (.v 11))),(.i .l (.mv (.v 1))),(.i .l (.mv (.v 2))),(.i .l (.load true 3 (.v 5))),(.i .l (.call (.c (.fn 46 [] [])) [(.l 0)])),(.ck [⟨none,false,1,(.v 11),(.l 4)⟩]),(.i .l (.build [(.int .i64 0),(.int .i64 0),(.int .i64 0),(.int .i64 0),(.int .i64 0),.nils,.nils,.nils,(.bool false),.nils] [(0,1),(1,1),(2,1),(3,3),(6,1),(7,1),(8,1),(9,1)] [(0,(.l 3)),(1,(.l 2)),(3,(.l 0))])),(.i .l (.bsl true 126 [(.int .i64 0),(.int .i64 0),(.int .i64 0),(.int .i64 0),(.int .i64 0),.nils,.nils,.nils,(.bool false),.nils] 10 1 [(0,(.l 0))])),(.ck [⟨none,false,1,(.v 11),(.l 6)⟩]),(.i .l (.nilc (.l 6))),(.i .l (.fad 1 (.l 0))),(.i .n (.store 1 (.l 0) (.l 2)))])]
def iI:List RS:=[(.block 2 [(.ops [(.i .l (.load false 1 (.v 11))),(.i .l (.call (.c (.fn 48 [] [])) [(.l 0)])),(.i .l (.mv (.l 0))),(.i .l (.ext (.l 0) 0)),(.i .l (.ext (.l 1) 1)),(.i (.v 12) (.alloc [(.int .i64 0),(.int .i64 0),.nils])),(.i .n (.store 3 (.v 12) (.l 1))),(.i (.v 13) (.mv (.l 0)))]),(.ops [(.i (.v 17) (.mv (.v 13)))]),(.cond (.v 17) [(.ops [(.i .l (.load true 3 (.v 12))),(.i .l (.load false 1 (.v 6))),(.i .l (.load false 1 (.v 11))),(.i .l (.nilc (.l 0))),(.i .l (.fad 2 (.l 0))),(.i .l (.load false 1 (.l 0))),(.i .l (.bin (.int .i64) .sub (.l 4) (.l 0))),(.i .l (.call (.c (.fn 46 [] [])) [(.l 6)])),(.ck [⟨none,false,1,(.v 6),(.l 6)⟩,⟨none,false,1,(.v 11),(.l 5)⟩,⟨none,false,1,(.l 3),(.l 2)⟩]),(.i .n (.store 3 (.v 7) (.l 0))),(.ck [⟨none,false,1,(.v 6),(.l 6)⟩,⟨none,false,1,(.v 11),(.l 5)⟩,⟨none,false,1,(.l 3),(.l 2)⟩]),(.i .n (.store 1 (.v 8) (.l 1))),(.i .n (.store 1 (.v 9) (.c (.int .i64 0))))]),.ret] [])])]
def rN:List RS:=[(.block 1 [(.loop iI)])]
def Bz:List RS:=[(.ops [(.i .l (.mv (.v 5))),(.i (.v 8) (.binG .iface none true .neq (.l 0) (.c .nili)))]),(.cond (.v 8) [(.ops [(.i .l (.mv (.v 5))),(.i .l (.tas 127 true (.l 0))),(.i .l (.mv (.l 0))),(.i .l (.ext (.l 0) 0)),(.i .l (.ext (.l 1) 1)),(.i (.v 6) (.mv (.l 1))),(.i (.v 7) (.mv (.l 0)))]),(.ops [(.i .l (.mv (.v 7))),(.i (.v 9) (.un .not (.l 0)))]),(.cond (.v 9) [(.ops [(.i .l (.mv (.v 5))),(.i .n (.pan (.l 0)))])] []),(.ops [(.i .l (.build [(.int .i64 0),(.int .i64 0),.nils] [(0,1),(1,1),(2,1)] [])),(.i .l (.load false 1 (.v 0))),(.i .l (.load false 1 (.v 1))),(.i .l (.nilc (.l 0))),(.i .l (.fad 2 (.l 0))),(.i .l (.load false 1 (.l 0))),(.i .l (.bin (.int .i64) .sub (.l 4) (.l 0))),(.i .l (.mv (.v 6))),(.i .n (.store 3 (.v 2) (.l 7))),(.i .n (.store 1 (.v 3) (.l 1))),(.i .n (.store 1 (.v 4) (.l 0)))])] [])]
def sD:List RS:=[(.ops [(.i (.v 1) (.mv (.c (.int .i64 0)))),(.i (.v 2) (.mv (.c (.int .i64 0))))]),(.ops [(.i .l (.mv (.v 0))),(.i .l (.nilc (.l 0))),(.i .l (.fad 1 (.l 0))),(.i .l (.load false 1 (.l 0))),(.i .l (.len false (some 4) (.l 0))),(.i (.v 3) (.bin (.int .i64) .eql (.l 0) (.c (.int .i64 20))))]),(.cond (.v 3) [(.ops [(.i (.v 1) (.mv (.c (.int .i64 0)))),(.i (.v 2) (.mv (.c (.int .i64 11))))]),.ret] []),(.ops [(.i .l (.mv (.v 0))),(.i .l (.mv (.v 0))),(.i .l (.nilc (.l 0))),(.i .l (.fad 1 (.l 0))),(.i .l (.load false 1 (.l 0))),(.i .l (.bsl true 4 [(.bool false)] 1 1 [(0,(.c (.bool false)))])),(.i .l (.app true 4 (.l 1) (.l 0))),(.i .l (.nilc (.l 6))),(.i .l (.fad 1 (.l 0))),(.i .n (.store 1 (.l 0) (.l 2)))]),(.ops [(.i .l (.mv (.v 0))),(.i .l (.nilc (.l 0))),(.i .l (.fad 1 (.l 0))),(.i .l (.load false 1 (.l 0))),(.i .l (.len false (some 4) (.l 0))),(.i .l (.bin (.int .i64) .sub (.l 0) (.c (.int .i64 1)))),(.i (.v 1) (.mv (.l 0))),(.i (.v 2) (.mv (.c (.int .i64 0))))]),.ret]
theorem zC:FnR Try.prog po 58 1 4 [0,2,3,9] sD [(.v 1),(.v 2)] false:=⟨_,_,Try.func58,rfl,rfl,by kernel_rfl,by kernel_rfl,by kernel_rfl,by kernel_rfl,by kernel_rfl⟩
def C3:List RS:=[(.ops [(.i (.v 2) (.mv (.c (.bool false))))]),(.ops [(.i .l (.mv (.v 1))),(.i .l (.bin (.int .i64) .geq (.l 0) (.c (.int .i64 0)))),(.i .l (.mv (.l 0))),(.g (.l 0) true .l (.mv (.v 1))),(.g (.l 1) true .l (.mv (.v 0))),(.g (.l 2) true .l (.nilc (.l 0))),(.g (.l 3) true .l (.fad 1 (.l 0))),(.g (.l 4) true .l (.load false 1 (.l 0))),(.g (.l 5) true .l (.len false (some 4) (.l 0))),(.g (.l 6) true .l (.bin (.int .i64) .lss (.l 5) (.l 0))),(.i .l (.pick (.l 7) (.l 0) (.c (.bool false)))),(.i (.v 2) (.mv (.l 0)))]),.ret]
theorem Jg:FnR Try.prog po 89 2 3 [0,1,4] C3 [(.v 2)] true:=⟨_,_,Try.func89,rfl,rfl,by kernel_rfl,by kernel_rfl,by kernel_rfl,by kernel_rfl,by kernel_rfl⟩
def vK:List RS:=[(.ops [(.i (.v 2) (.mv (.c (.int .i64 0))))]),(.ops [(.i .l (.mv (.v 0))),(.i .l (.mv (.v 1))),(.i .l (.call (.c (.fn 89 [] [])) [(.l 1),(.l 0)])),(.i (.v 3) (.un .not (.l 0)))]),(.cond (.v 3) [(.ops [(.i (.v 2) (.mv (.c (.int .i64 8))))]),.ret] []),(.ops [(.i .l (.mv (.v 0))),(.i .l (.nilc (.l 0))),(.i .l (.fad 1 (.l 0))),(.i .l (.load false 1 (.l 0))),(.i .l (.mv (.v 1))),(.i .l (.ixa (some 4) none (.l 1) (.l 0))),(.i .n (.store 1 (.l 0) (.c (.bool true))))]),(.ops [(.i (.v 2) (.mv (.c (.int .i64 0))))]),.ret]
theorem C5:FnR Try.prog po 57 2 4 [0,1,4,8] vK [(.v 2)] false:=⟨_,_,Try.func57,rfl,rfl,by kernel_rfl,by kernel_rfl,by kernel_rfl,by kernel_rfl,by kernel_rfl⟩
def zu:List RS:=[(.ops [(.i (.v 2) (.mv (.c (.bool false))))]),(.ops [(.i .l (.mv (.v 0))),(.i .l (.mv (.v 1))),(.i .l (.call (.c (.fn 89 [] [])) [(.l 1),(.l 0)])),(.i .l (.mv (.l 0))),(.g (.l 0) true .l (.mv (.v 0))),(.g (.l 1) true .l (.nilc (.l 0))),(.g (.l 2) true .l (.fad 1 (.l 0))),(.g (.l 3) true .l (.load false 1 (.l 0))),(.g (.l 4) true .l (.mv (.v 1))),(.g (.l 5) true .l (.ixa (some 4) none (.l 1) (.l 0))),(.g (.l 6) true .l (.load false 1 (.l 0))),(.g (.l 7) true .l (.un .not (.l 0))),(.i .l (.pick (.l 8) (.l 0) (.c (.bool false)))),(.i (.v 2) (.mv (.l 0)))]),.ret]
theorem H3:FnR Try.prog po 140 2 3 [0,1,4] zu [(.v 2)] true:=⟨_,_,Try.func140,rfl,rfl,by kernel_rfl,by kernel_rfl,by kernel_rfl,by kernel_rfl,by kernel_rfl⟩
def Dz:List RS:=[(.ops [(.i (.v 2) (.mv (.c (.bool false))))]),(.ops [(.i .l (.mv (.v 1))),(.i .l (.bin (.int .i64) .geq (.l 0) (.c (.int .i64 0)))),(.i .l (.mv (.l 0))),(.g (.l 0) true .l (.mv (.v 1))),(.g (.l 1) true .l (.mv (.v 0))),(.g (.l 2) true .l (.nilc (.l 0))),(.g (.l 3) true .l (.fad 0 (.l 0))),(.g (.l 4) true .l (.load false 1 (.l 0))),(.g (.l 5) true .l (.len false (some 103) (.l 0))),(.g (.l 6) true .l (.bin (.int .i64) .lss (.l 5) (.l 0))),(.i .l (.pick (.l 7) (.l 0) (.c (.bool false)))),(.i (.v 2) (.mv (.l 0)))]),.ret]
theorem Jv:FnR Try.prog po 94 2 3 [0,1,4] Dz [(.v 2)] true:=⟨_,_,Try.func94,rfl,rfl,by kernel_rfl,by kernel_rfl,by kernel_rfl,by kernel_rfl,by kernel_rfl⟩
def kz:List RS:=[(.ops [(.i (.v 2) (.box 6 (.v 1))),(.i (.v 3) (.mv (.c (.int .i64 0)))),(.i (.v 4) (.mv (.c (.int .i64 0))))]),(.block 0 [(.ops [(.i .l (.fad 2 (.v 2))),(.i .l (.load false 1 (.l 0))),(.i .l (.call (.c (.fn 112 [] [])) [(.l 0)])),(.i .l (.un .not (.l 0))),(.i (.v 5) (.mv (.l 0)))]),(.cond (.v 5) [(.ops [(.i (.v 3) (.mv (.c (.int .i64 0)))),(.i (.v 4) (.mv (.c (.int .i64 1))))]),.ret] [(.ops [(.i .l (.fad 1 (.v 2))),(.i .l (.load false 1 (.l 0))),(.i .l (.bin (.int .i64) .neq (.l 0) (.c (.int .i64 (-1))))),(.i .l (.mv (.l 0))),(.g (.l 0) true .l (.mv (.v 0))),(.g (.l 1) true .l (.fad 1 (.v 2))),(.g (.l 2) true .l (.load false 1 (.l 0))),(.g (.l 3) true .l (.call (.c (.fn 89 [] [])) [(.l 2),(.l 0)])),(.g (.l 4) true .l (.un .not (.l 0))),(.i .l (.pick (.l 5) (.l 0) (.c (.bool false)))),(.i (.v 6) (.mv (.l 0)))]),(.cond (.v 6) [(.ops [(.i (.v 3) (.mv (.c (.int .i64 0)))),(.i (.v 4) (.mv (.c (.int .i64 8))))]),.ret] [(.ops [(.i .l (.mv (.v 0))),(.i .l (.nilc (.l 0))),(.i .l (.fad 0 (.l 0))),(.i .l (.load false 1 (.l 0))),(.i .l (.len false (some 103) (.l 0))),(.i .l (.bin (.int .i64) .eql (.l 0) (.c (.int .i64 80)))),(.i (.v 7) (.mv (.l 0)))]),(.cond (.v 7) [(.ops [(.i (.v 3) (.mv (.c (.int .i64 0)))),(.i (.v 4) (.mv (.c (.int .i64 11))))]),.ret] [])])])]),(.ops [(.i .l (.mv (.v 0))),(.i .l (.mv (.v 0))),(.i .l (.nilc (.l 0))),(.i .l (.fad 0 (.l 0))),(.i .l (.load false 1 (.l 0))),(.i .l (.load true 6 (.v 2))),(.i .l (.bsl false 103 [(.int .i64 0),(.int .i64 0),(.int .i64 0),(.int .i64 0),(.int .i64 0),(.int .i64 0)] 6 1 [(0,(.l 0))])),(.ck [⟨none,false,1,(.l 3),(.l 2)⟩]),(.i .l (.app false 103 (.l 2) (.l 0))),(.i .l (.nilc (.l 7))),(.i .l (.fad 0 (.l 0))),(.i .n (.store 1 (.l 0) (.l 2)))]),(.ops [(.i .l (.mv (.v 0))),(.i .l (.nilc (.l 0))),(.i .l (.fad 0 (.l 0))),(.i .l (.load false 1 (.l 0))),(.i .l (.len false (some 103) (.l 0))),(.i .l (.bin (.int .i64) .sub (.l 0) (.c (.int .i64 1)))),(.i (.v 3) (.mv (.l 0))),(.i (.v 4) (.mv (.c (.int .i64 0))))]),.ret]
theorem lV:FnR Try.prog po 88 2 8 [0,1,3,4,5,6,11,22] kz [(.v 3),(.v 4)] false:=⟨_,_,Try.func88,rfl,rfl,by kernel_rfl,by kernel_rfl,by kernel_rfl,by kernel_rfl,by kernel_rfl⟩
def sQ:List RS:=[(.ops [(.i (.v 4) (.mv (.c (.int .i64 0)))),(.i (.v 5) (.mv (.c (.int .i64 0))))]),(.ops [(.i .l (.mv (.v 1))),(.i .l (.call (.c (.fn 87 [] [])) [(.l 0)])),(.i (.v 6) (.un .not (.l 0)))]),(.cond (.v 6) [(.ops [(.i (.v 4) (.mv (.c (.int .i64 0)))),(.i (.v 5) (.mv (.c (.int .i64 1))))]),.ret] []),(.ops [(.i .l (.mv (.v 0))),(.i .l (.mv (.v 3))),(.i .l (.mv (.v 2))),(.i .l (.mv (.v 1))),(.i .l (.build [(.int .i64 0),(.int .i64 0),(.int .i64 0),(.int .i64 0),(.int .i64 0),(.int .i64 0)] [(0,1),(1,1),(2,1),(3,1),(4,1),(5,1)] [(0,(.c (.int .i64 (-1)))),(1,(.l 2)),(2,(.l 1)),(3,(.l 0)),(4,(.c (.int .i64 (-1))))])),(.i .l (.call (.c (.fn 88 [] [])) [(.l 4),(.l 0)])),(.i .l (.ext (.l 0) 0)),(.i .l (.ext (.l 1) 1)),(.i (.v 4) (.mv (.l 1))),(.i (.v 5) (.mv (.l 0)))]),.ret]
theorem yC:FnR Try.prog po 53 4 7 [0,1,2,3,8,9,12] sQ [(.v 4),(.v 5)] false:=⟨_,_,Try.func53,rfl,rfl,by kernel_rfl,by kernel_rfl,by kernel_rfl,by kernel_rfl,by kernel_rfl⟩
def sB:List RS:=[(.ops [(.i (.v 5) (.mv (.c (.int .i64 0)))),(.i (.v 6) (.mv (.c (.int .i64 0))))]),(.ops [(.i .l (.mv (.v 1))),(.i .l (.bin (.int .i64) .lss (.l 0) (.c (.int .i64 0)))),(.i .l (.mv (.l 0))),(.g (.l 0) false .l (.mv (.v 1))),(.g (.l 1) false .l (.bin (.int .i64) .geq (.l 0) (.c (.int .i64 4)))),(.i .l (.pick (.l 2) (.c (.bool true)) (.l 0))),(.i .l (.mv (.l 0))),(.g (.l 0) false .l (.mv (.v 2))),(.g (.l 1) false .l (.bin (.int .i64) .lss (.l 0) (.c (.int .i64 0)))),(.i .l (.pick (.l 2) (.c (.bool true)) (.l 0))),(.i .l (.mv (.l 0))),(.g (.l 0) false .l (.mv (.v 2))),(.g (.l 1) false .l (.bin (.int .i64) .geq (.l 0) (.c (.int .i64 6)))),(.i (.v 7) (.pick (.l 2) (.c (.bool true)) (.l 0)))]),(.cond (.v 7) [(.ops [(.i (.v 5) (.mv (.c (.int .i64 0)))),(.i (.v 6) (.mv (.c (.int .i64 1))))]),.ret] []),(.ops [(.i .l (.mv (.v 0))),(.i .l (.mv (.v 4))),(.i .l (.mv (.v 3))),(.i .l (.mv (.v 1))),(.i .l (.mv (.v 2))),(.i .l (.build [(.int .i64 0),(.int .i64 0),(.int .i64 0),(.int .i64 0),(.int .i64 0),(.int .i64 0)] [(0,1),(1,1),(2,1),(3,1),(4,1),(5,1)] [(0,(.c (.int .i64 (-1)))),(1,(.l 3)),(2,(.l 2)),(4,(.l 1)),(5,(.l 0))])),(.i .l (.call (.c (.fn 88 [] [])) [(.l 5),(.l 0)])),(.i .l (.ext (.l 0) 0)),(.i .l (.ext (.l 1) 1)),(.i (.v 5) (.mv (.l 1))),(.i (.v 6) (.mv (.l 0)))]),.ret]
theorem xQ:FnR Try.prog po 55 5 8 [0,1,2,3,4,10,11,25] sB [(.v 5),(.v 6)] false:=⟨_,_,Try.func55,rfl,rfl,by kernel_rfl,by kernel_rfl,by kernel_rfl,by kernel_rfl,by kernel_rfl⟩
def mN:List RS:=[(.ops [(.i (.v 4) (.mv (.c (.int .i64 0)))),(.i (.v 5) (.mv (.c (.int .i64 0))))]),(.ops [(.i .l (.mv (.v 0))),(.i .l (.mv (.v 1))),(.i .l (.call (.c (.fn 94 [] [])) [(.l 1),(.l 0)])),(.i (.v 6) (.un .not (.l 0)))]),(.cond (.v 6) [(.ops [(.i (.v 4) (.mv (.c (.int .i64 0)))),(.i (.v 5) (.mv (.c (.int .i64 8))))]),.ret] []),(.ops [(.i .l (.mv (.v 0))),(.i .l (.mv (.v 1))),(.i .l (.mv (.v 3))),(.i .l (.mv (.v 2))),(.i .l (.build [(.int .i64 0),(.int .i64 0),(.int .i64 0),(.int .i64 0),(.int .i64 0),(.int .i64 0)] [(0,1),(1,1),(2,1),(3,1),(4,1),(5,1)] [(0,(.l 2)),(1,(.l 1)),(2,(.l 0)),(4,(.c (.int .i64 (-1))))])),(.i .l (.call (.c (.fn 88 [] [])) [(.l 4),(.l 0)])),(.i .l (.ext (.l 0) 0)),(.i .l (.ext (.l 1) 1)),(.i (.v 4) (.mv (.l 1))),(.i (.v 5) (.mv (.l 0)))]),.ret]
theorem rf:FnR Try.prog po 79 4 7 [0,1,2,3,8,9,13] mN [(.v 4),(.v 5)] false:=⟨_,_,Try.func79,rfl,rfl,by kernel_rfl,by kernel_rfl,by kernel_rfl,by kernel_rfl,by kernel_rfl⟩
def jA:List RS:=[(.ops [(.i .l (.mv (.v 0))),(.i .l (.mv (.v 1))),(.i (.v 4) (.call (.c (.fn 94 [] [])) [(.l 1),(.l 0)]))]),(.cond (.v 4) [] [(.exit 0)]),(.block 1 [(.ops [(.i .l (.mv (.v 3))),(.i .l (.mv (.v 0))),(.i .l (.nilc (.l 0))),(.i .l (.fad 0 (.l 0))),(.i .l (.load false 1 (.l 0))),(.i .l (.mv (.v 1))),(.i .l (.ixa (some 103) none (.l 1) (.l 0))),(.i .l (.load true 6 (.l 0))),(.i .l (.bsl false 103 [(.int .i64 0),(.int .i64 0),(.int .i64 0),(.int .i64 0),(.int .i64 0),(.int .i64 0)] 6 1 [(0,(.l 0))])),(.i .l (.app false 103 (.l 8) (.l 0))),(.i (.v 3) (.mv (.l 0)))]),(.ops [(.i .l (.mv (.v 0))),(.i .l (.nilc (.l 0))),(.i .l (.fad 0 (.l 0))),(.i .l (.load false 1 (.l 0))),(.i .l (.mv (.v 1))),(.i .l (.ixa (some 103) none (.l 1) (.l 0))),(.i .l (.fad 0 (.l 0))),(.i .l (.load false 1 (.l 0))),(.i (.v 1) (.mv (.l 0)))])])]
def zA:List RS:=[(.ops [(.i (.v 2) (.mv (.c .nils)))]),(.ops [(.i (.v 3) (.mv (.c .nils)))]),(.block 0 [(.loop jA)]),(.ops [(.i .l (.mv (.v 3))),(.i (.v 2) (.mv (.l 0)))]),.ret]
theorem HC:FnR Try.prog po 67 2 5 [0,1,4,5,8] zA [(.v 2)] true:=⟨_,_,Try.func67,rfl,rfl,by kernel_rfl,by kernel_rfl,by kernel_rfl,by kernel_rfl,by kernel_rfl⟩
def fj:List RS:=[(.ops [(.i (.v 9) (.bin (.int .i64) .lss (.v 8) (.v 7)))]),(.cond (.v 9) [] [(.exit 0)]),(.block 1 [(.ops [(.i .l (.mv (.v 8))),(.i .l (.ixa (some 103) none (.v 6) (.v 8))),(.i .l (.load true 6 (.l 0))),(.i (.v 5) (.alloc [(.int .i64 0),(.int .i64 0),(.int .i64 0),(.int .i64 0),(.int .i64 0),(.int .i64 0)])),(.i (.v 4) (.mv (.l 2))),(.i .n (.store 6 (.v 5) (.l 0)))]),(.ops [(.i .l (.fad 1 (.v 5))),(.i .l (.load false 1 (.l 0))),(.i .l (.bin (.int .i64) .geq (.l 0) (.c (.int .i64 0)))),(.i .l (.mv (.l 0))),(.g (.l 0) true .l (.mv (.v 0))),(.g (.l 1) true .l (.fad 1 (.v 5))),(.g (.l 2) true .l (.load false 1 (.l 0))),(.g (.l 3) true .l (.call (.c (.fn 140 [] [])) [(.l 2),(.l 0)])),(.g (.l 4) true .l (.un .not (.l 0))),(.i (.v 10) (.pick (.l 5) (.l 0) (.c (.bool false))))]),(.cond (.v 10) [(.ops [(.i (.v 2) (.mv (.c (.int .i64 0))))]),.ret] []),(.ops [(.i .l (.mv (.v 4))),(.i (.v 11) (.bin (.int .i64) .eql (.l 0) (.c (.int .i64 0))))]),(.cond (.v 11) [(.ops [(.i (.v 3) (.mv (.c (.int .i64 15))))])] []),(.ops [(.i .l (.mv (.v 3))),(.i .l (.fad 2 (.v 5))),(.i .l (.load false 1 (.l 0))),(.i .l (.call (.c (.fn 141 [] [])) [(.l 2),(.l 0)])),(.i (.v 3) (.mv (.l 0)))])]),(.ops [(.i .l (.bin (.int .i64) .add (.v 8) (.c (.int .i64 1)))),(.i (.v 8) (.mv (.l 0)))])]
def qX:List RS:=[(.ops [(.i (.v 2) (.mv (.c (.int .i64 0))))]),(.ops [(.i (.v 3) (.mv (.c (.int .i64 0))))]),(.ops [(.i .l (.mv (.v 0))),(.i .l (.mv (.v 1))),(.i (.v 6) (.call (.c (.fn 67 [] [])) [(.l 1),(.l 0)])),(.i (.v 7) (.len false (some 103) (.v 6))),(.i (.v 8) (.mv (.c (.int .i64 0))))]),(.block 0 [(.loop fj)]),(.ops [(.i .l (.mv (.v 3))),(.i (.v 2) (.mv (.l 0)))]),.ret]
theorem BQ:FnR Try.prog po 133 2 12 [0,1,4,5,6,7,10,11,12,13,26,28] qX [(.v 2)] true:=⟨_,_,Try.func133,rfl,rfl,by kernel_rfl,by kernel_rfl,by kernel_rfl,by kernel_rfl,by kernel_rfl⟩
def qD:List RS:=[(.ops [(.i (.v 2) (.alloc [(.int .i64 0),(.int .i64 0),(.int .i64 0),(.int .i64 0),(.int .i64 0),(.int .i64 0)])),(.i (.v 3) (.mv (.c (.bool false))))]),(.ops [(.i .l (.mv (.v 0))),(.i .l (.mv (.v 1))),(.i .l (.call (.c (.fn 67 [] [])) [(.l 1),(.l 0)])),(.i (.v 4) (.mv (.l 0)))]),(.ops [(.i .l (.mv (.v 4))),(.i .l (.len false (some 103) (.l 0))),(.i (.v 5) (.bin (.int .i64) .eql (.l 0) (.c (.int .i64 0))))]),(.cond (.v 5) [(.ops [(.i .l (.build [(.int .i64 0),(.int .i64 0),(.int .i64 0),(.int .i64 0),(.int .i64 0),(.int .i64 0)] [(0,1),(1,1),(2,1),(3,1),(4,1),(5,1)] [])),(.i .n (.store 6 (.v 2) (.l 0))),(.i (.v 3) (.mv (.c (.bool false))))]),.ret] []),(.ops [(.i .l (.mv (.v 4))),(.i .l (.mv (.v 4))),(.i .l (.len false (some 103) (.l 0))),(.i .l (.bin (.int .i64) .sub (.l 0) (.c (.int .i64 1)))),(.i .l (.ixa (some 103) none (.l 3) (.l 0))),(.i .l (.load true 6 (.l 0))),(.i .n (.store 6 (.v 2) (.l 0))),(.i (.v 3) (.mv (.c (.bool true))))]),.ret]
theorem A8:FnR Try.prog po 38 2 6 [0,1,4,5,6,12] qD [(.cell true 6 2),(.v 3)] true:=⟨_,_,Try.func38,rfl,rfl,by kernel_rfl,by kernel_rfl,by kernel_rfl,by kernel_rfl,by kernel_rfl⟩
def iv:List RS:=[(.ops [(.i (.v 8) (.bin (.int .i64) .lss (.v 7) (.v 6)))]),(.cond (.v 8) [] [(.exit 0)]),(.block 1 [(.ops [(.i .l (.ixa (some 103) none (.v 5) (.v 7))),(.i .l (.load true 6 (.l 0))),(.i (.v 4) (.alloc [(.int .i64 0),(.int .i64 0),(.int .i64 0),(.int .i64 0),(.int .i64 0),(.int .i64 0)])),(.i .n (.store 6 (.v 4) (.l 0)))]),(.ops [(.i .l (.fad 1 (.v 4))),(.i .l (.load false 1 (.l 0))),(.i (.v 9) (.bin (.int .i64) .geq (.l 0) (.c (.int .i64 0))))]),(.cond (.v 9) [(.ops [(.i .l (.mv (.v 3))),(.i .l (.fad 1 (.v 4))),(.i .l (.load false 1 (.l 0))),(.i .l (.bsl false 3 [(.int .i64 0)] 1 1 [(0,(.l 0))])),(.i .l (.app false 3 (.l 3) (.l 0))),(.i (.v 3) (.mv (.l 0)))])] [])]),(.ops [(.i .l (.bin (.int .i64) .add (.v 7) (.c (.int .i64 1)))),(.i (.v 7) (.mv (.l 0)))])]
def uH:List RS:=[(.ops [(.i (.v 2) (.mv (.c .nils)))]),(.ops [(.i (.v 3) (.mv (.c .nils)))]),(.ops [(.i .l (.mv (.v 0))),(.i .l (.mv (.v 1))),(.i (.v 5) (.call (.c (.fn 67 [] [])) [(.l 1),(.l 0)])),(.i (.v 6) (.len false (some 103) (.v 5))),(.i (.v 7) (.mv (.c (.int .i64 0))))]),(.block 0 [(.loop iv)]),(.ops [(.i .l (.mv (.v 3))),(.i (.v 2) (.mv (.l 0)))]),.ret]
theorem Ep:FnR Try.prog po 138 2 10 [0,1,4,5,7,10,11,12,13,18] uH [(.v 2)] true:=⟨_,_,Try.func138,rfl,rfl,by kernel_rfl,by kernel_rfl,by kernel_rfl,by kernel_rfl,by kernel_rfl⟩
def uW:List RS:=[(.ops [(.i (.v 1) (.mv (.c .nils)))]),(.ops [(.i .l (.mv (.v 0))),(.i .l (.nilc (.l 0))),(.i .l (.fad 0 (.l 0))),(.i .l (.load false 1 (.l 0))),(.i .l (.call (.c (.fn 62 [] [])) [(.l 0)])),(.i (.v 1) (.mv (.l 0)))]),.ret]
theorem DP:FnR Try.prog po 30 1 2 [0,2] uW [(.v 1)] true:=⟨_,_,Try.func30,rfl,rfl,by kernel_rfl,by kernel_rfl,by kernel_rfl,by kernel_rfl,by kernel_rfl⟩
def Do:List RS:=[(.ops [(.i (.v 0) (.mv (.c .nilp)))]),(.ops [(.i .l (.build [.nils,.nils] [(0,1),(1,1)] [])),(.i .l (.box 2 (.l 0))),(.i (.v 0) (.mv (.l 0)))]),.ret]
theorem Ku:FnR Try.prog po 68 0 1 [0] Do [(.v 0)] false:=⟨_,_,Try.func68,rfl,rfl,by kernel_rfl,by kernel_rfl,by kernel_rfl,by kernel_rfl,by kernel_rfl⟩
def pd:List RS:=[(.ops [(.i (.v 1) (.mv (.c .nils)))]),(.ops [(.i .l (.mv (.v 0))),(.i (.v 2) (.bin .slice .eql (.l 0) (.c .nils)))]),(.cond (.v 2) [(.ops [(.i (.v 1) (.mv (.c .nils)))]),.ret] []),(.ops [(.i .l (.bsl false 103 [(.int .i64 0),(.int .i64 0),(.int .i64 0),(.int .i64 0),(.int .i64 0),(.int .i64 0)] 6 0 [])),(.i .l (.mv (.v 0))),(.i .l (.app false 103 (.l 1) (.l 0))),(.i (.v 1) (.mv (.l 0)))]),.ret]
theorem vh:FnR Try.prog po 62 1 3 [0,2,4] pd [(.v 1)] true:=⟨_,_,Try.func62,rfl,rfl,by kernel_rfl,by kernel_rfl,by kernel_rfl,by kernel_rfl,by kernel_rfl⟩
def CC:List RS:=[(.ops [(.i (.v 1) (.mv (.c (.bool false))))]),(.ops [(.i .l (.mv (.v 0))),(.i .l (.bin (.int .i64) .geq (.l 0) (.c (.int .i64 0)))),(.i .l (.mv (.l 0))),(.g (.l 0) true .l (.mv (.v 0))),(.g (.l 1) true .l (.bin (.int .i64) .lss (.l 0) (.c (.int .i64 12)))),(.i .l (.pick (.l 2) (.l 0) (.c (.bool false)))),(.i (.v 1) (.mv (.l 0)))]),.ret]
theorem JN:FnR Try.prog po 87 1 2 [0,2] CC [(.v 1)] true:=⟨_,_,Try.func87,rfl,rfl,by kernel_rfl,by kernel_rfl,by kernel_rfl,by kernel_rfl,by kernel_rfl⟩
def CV:List RS:=[(.ops [(.i (.v 2) (.mv (.c (.bool false))))]),(.ops [(.i .l (.mv (.v 1))),(.i .l (.bin (.int .i64) .geq (.l 0) (.c (.int .i64 0)))),(.i .l (.mv (.l 0))),(.g (.l 0) true .l (.mv (.v 1))),(.g (.l 1) true .l (.mv (.v 0))),(.g (.l 2) true .l (.nilc (.l 0))),(.g (.l 3) true .l (.fad 1 (.l 0))),(.g (.l 4) true .l (.load false 1 (.l 0))),(.g (.l 5) true .l (.len false (some 4) (.l 0))),(.g (.l 6) true .l (.bin (.int .i64) .lss (.l 5) (.l 0))),(.i .l (.pick (.l 7) (.l 0) (.c (.bool false)))),(.i (.v 2) (.mv (.l 0)))]),.ret]
theorem JU:FnR Try.prog po 104 2 3 [0,1,4] CV [(.v 2)] true:=⟨_,_,Try.func104,rfl,rfl,by kernel_rfl,by kernel_rfl,by kernel_rfl,by kernel_rfl,by kernel_rfl⟩
def kh:List RS:=[(.ops [(.i (.v 2) (.box 6 (.v 1))),(.i (.v 3) (.mv (.c (.int .i64 0)))),(.i (.v 4) (.mv (.c (.int .i64 0))))]),(.ops [(.i .l (.fad 2 (.v 2))),(.i .l (.load false 1 (.l 0))),(.i .l (.bin (.int .i64) .lss (.l 0) (.c (.int .i64 0)))),(.i .l (.mv (.l 0))),(.g (.l 0) false .l (.fad 2 (.v 2))),(.g (.l 1) false .l (.load false 1 (.l 0))),(.g (.l 2) false .l (.bin (.int .i64) .gtr (.l 0) (.c (.int .i64 15)))),(.i (.v 5) (.pick (.l 3) (.c (.bool true)) (.l 0)))]),(.cond (.v 5) [(.ops [(.i (.v 3) (.mv (.c (.int .i64 0)))),(.i (.v 4) (.mv (.c (.int .i64 1))))]),.ret] []),(.ops [(.i .l (.fad 1 (.v 2))),(.i .l (.load false 1 (.l 0))),(.i .l (.bin (.int .i64) .neq (.l 0) (.c (.int .i64 (-1))))),(.i .l (.mv (.l 0))),(.g (.l 0) true .l (.mv (.v 0))),(.g (.l 1) true .l (.fad 1 (.v 2))),(.g (.l 2) true .l (.load false 1 (.l 0))),(.g (.l 3) true .l (.call (.c (.fn 104 [] [])) [(.l 2),(.l 0)])),(.g (.l 4) true .l (.un .not (.l 0))),(.i (.v 6) (.pick (.l 5) (.l 0) (.c (.bool false))))]),(.cond (.v 6) [(.ops [(.i (.v 3) (.mv (.c (.int .i64 0)))),(.i (.v 4) (.mv (.c (.int .i64 8))))]),.ret] []),(.ops [(.i .l (.mv (.v 0))),(.i .l (.nilc (.l 0))),(.i .l (.fad 0 (.l 0))),(.i .l (.load false 1 (.l 0))),(.i .l (.len false (some 103) (.l 0))),(.i (.v 7) (.bin (.int .i64) .geq (.l 0) (.c (.int .i64 80))))]),(.cond (.v 7) [(.ops [(.i (.v 3) (.mv (.c (.int .i64 0)))),(.i (.v 4) (.mv (.c (.int .i64 11))))]),.ret] []),(.ops [(.i .l (.mv (.v 0))),(.i .l (.mv (.v 0))),(.i .l (.nilc (.l 0))),(.i .l (.fad 0 (.l 0))),(.i .l (.load false 1 (.l 0))),(.i .l (.load true 6 (.v 2))),(.i .l (.bsl false 103 [(.int .i64 0),(.int .i64 0),(.int .i64 0),(.int .i64 0),(.int .i64 0),(.int .i64 0)] 6 1 [(0,(.l 0))])),(.ck [⟨none,false,1,(.l 3),(.l 2)⟩]),(.i .l (.app false 103 (.l 2) (.l 0))),(.i .l (.nilc (.l 7))),(.i .l (.fad 0 (.l 0))),(.i .n (.store 1 (.l 0) (.l 2)))]),(.ops [(.i .l (.mv (.v 0))),(.i .l (.nilc (.l 0))),(.i .l (.fad 0 (.l 0))),(.i .l (.load false 1 (.l 0))),(.i .l (.len false (some 103) (.l 0))),(.i .l (.bin (.int .i64) .sub (.l 0) (.c (.int .i64 1)))),(.i (.v 3) (.mv (.l 0))),(.i (.v 4) (.mv (.c (.int .i64 0))))]),.ret]
theorem lQ:FnR Try.prog po 105 2 8 [0,1,3,4,5,13,23,29] kh [(.v 3),(.v 4)] false:=⟨_,_,Try.func105,rfl,rfl,by kernel_rfl,by kernel_rfl,by kernel_rfl,by kernel_rfl,by kernel_rfl⟩
def sA:List RS:=[(.ops [(.i (.v 4) (.mv (.c (.int .i64 0)))),(.i (.v 5) (.mv (.c (.int .i64 0))))]),(.ops [(.i .l (.mv (.v 1))),(.i .l (.bin (.int .i64) .lss (.l 0) (.c (.int .i64 0)))),(.i .l (.mv (.l 0))),(.g (.l 0) false .l (.mv (.v 1))),(.g (.l 1) false .l (.bin (.int .i64) .geq (.l 0) (.c (.int .i64 12)))),(.i (.v 6) (.pick (.l 2) (.c (.bool true)) (.l 0)))]),(.cond (.v 6) [(.ops [(.i (.v 4) (.mv (.c (.int .i64 0)))),(.i (.v 5) (.mv (.c (.int .i64 1))))]),.ret] []),(.ops [(.i .l (.mv (.v 0))),(.i .l (.mv (.v 3))),(.i .l (.mv (.v 2))),(.i .l (.mv (.v 1))),(.i .l (.build [(.int .i64 0),(.int .i64 0),(.int .i64 0),(.int .i64 0),(.int .i64 0),(.int .i64 0)] [(0,1),(1,1),(2,1),(3,1),(4,1),(5,1)] [(0,(.c (.int .i64 (-1)))),(1,(.l 2)),(2,(.l 1)),(3,(.l 0)),(4,(.c (.int .i64 (-1))))])),(.i .l (.call (.c (.fn 105 [] [])) [(.l 4),(.l 0)])),(.i .l (.ext (.l 0) 0)),(.i .l (.ext (.l 1) 1)),(.i (.v 4) (.mv (.l 1))),(.i (.v 5) (.mv (.l 0)))]),.ret]
theorem yx:FnR Try.prog po 77 4 7 [0,1,2,3,8,9,15] sA [(.v 4),(.v 5)] false:=⟨_,_,Try.func77,rfl,rfl,by kernel_rfl,by kernel_rfl,by kernel_rfl,by kernel_rfl,by kernel_rfl⟩
open Go.RowKit
theorem Jz (y:BitVec 64):((y &&& 1#64).toInt==1)=y.getLsbD 0:=by
 have h:(y &&& 1#64).toNat=y.toNat % 2:=by
  rw[BitVec.toNat_and]
  exact Nat.and_one_is_mod _
 have hb:y.getLsbD 0=decide (y.toNat % 2=1):=by
  rw[BitVec.getLsbD,Nat.testBit_zero]
 rw[hb,Bool.eq_iff_iff,beq_iff_eq,decide_eq_true_eq,BitVec.toInt_eq_toNat_cond,h]
 split<;>omega
theorem Dg (x:BitVec 64) {k:Nat} (hk:k<64):eB x.toInt k=x.getLsbD k:=by
 unfold eB
 have e:x.toInt / 2 ^ k=(x.sshiftRight k).toInt:=by
  rw[BitVec.toInt_sshiftRight,Int.shiftRight_eq_div_pow]
  simp
 rw[e,rO,nX]
 show((_ &&& 1#64).toInt==1)=_
 rw[Jz,BitVec.getLsbD_sshiftRight]
 simp
 omega
open Go.RowKit
def ae.wayF (G:ae):Nat→Int→List Int
 | 0,_=>[]
 | f+1,i=>if G.has i then i::G.wayF f (G.nodes.getD i.toNat bK).parent else[]
def ae.way (G:ae) (i:Int):List Int:=G.wayF (i.toNat+1) i
def ae.at_ (G:ae) (i:Int):aV:=G.nodes.getD i.toNat bK
theorem ae.wayF_more {G:ae} (h:G.Wf):∀ (f:Nat) (i:Int),i.toNat<f→G.wayF f i=G.way i:=by
 intro f
 induction f using Nat.strongRecOn with
 | _ f ih=>
   intro i hi
   cases f with
   | zero=>omega
   | succ f=>
     unfold ae.way
     by_cases hh:G.has i=true
     ·have ok:=h.get hh
      have hp:=ok.p0
      have hp1:=ok.p1
      have hi0:0≤i:=by simp[ae.has]at hh;exact hh.1
      unfold ae.wayF
      rw[if_pos hh,if_pos hh]
      congr 1
      generalize (G.nodes.getD i.toNat bK).parent=p at*
      by_cases hpn:p<0
      ·have hno:G.has p=false:=by simp[ae.has];omega
       cases f with
       | zero=>cases hn:i.toNat<;>simp[ae.wayF,hno]
       | succ f=>cases hn:i.toNat<;>simp[ae.wayF,hno]
      ·have e1:=ih f (by omega) p (by omega)
       rw[e1]
       rcases Nat.lt_or_ge i.toNat (f+1)with h2 | h2
       ·have e2:=ih i.toNat (by omega) p (by omega)
        rw[e2]
       ·omega
     ·cases f<;>simp[ae.wayF,hh]
theorem ae.way_yes {G:ae} (h:G.Wf) {i:Int} (hi:G.has i=true):G.way i=i::G.way (G.nodes.getD i.toNat bK).parent:=by
 have ok:=h.get hi
 have hp1:=ok.p1
 have hp0:=ok.p0
 have hi0:0≤i:=by simp[ae.has]at hi;exact hi.1
 rw[ae.way,ae.wayF,if_pos hi]
 congr 1
 generalize (G.nodes.getD i.toNat bK).parent=p at*
 by_cases hpn:p<0
 ·have hno:G.has p=false:=by simp[ae.has];omega
  unfold ae.way
  cases i.toNat<;>simp[ae.wayF,hno]
 ·exact ae.wayF_more h _ _ (by omega)
theorem ae.way_no {G:ae} {i:Int} (hi:G.has i=false):G.way i=[]:=by
 rw[ae.way,ae.wayF,hi]
 rfl
theorem ae.wayF_path {G:ae}:∀ (f:Nat) (i:Int),(G.wayF f i).map G.at_=G.pathF f i:=by
 intro f
 induction f with
 | zero=>intro i;rfl
 | succ f ih=>
   intro i
   unfold ae.wayF ae.pathF
   split
   ·rw[List.map_cons,ih]
    rfl
   ·rfl
theorem ae.way_path {G:ae} (i:Int):(G.way i).map G.at_=G.path i:=ae.wayF_path _ _
theorem ae.wayF_has {G:ae}:∀ (f:Nat) (i:Int),∀ k∈G.wayF f i,G.has k=true:=by
 intro f
 induction f with
 | zero=>intro i k hk;simp[ae.wayF]at hk
 | succ f ih=>
   intro i k hk
   unfold ae.wayF at hk
   split at hk
   ·rcases List.mem_cons.1 hk with rfl | hk
    ·assumption
    ·exact ih _ k hk
   ·simp at hk
theorem ae.way_has {G:ae} (i:Int):∀ k∈G.way i,G.has k=true:=ae.wayF_has _ _
theorem Ap (P:List aV) (hP:∀ n∈P,gU n.rights=true) (v:BitVec 64):P.foldl (fun r n=>iT r n.rights) v.toInt=(P.foldl (fun v n=>v &&& BitVec.ofInt 64 n.rights) v).toInt:=by
 induction P generalizing v with
 | nil=>rfl
 | cons n P ih=>
   rw[List.foldl_cons,List.foldl_cons]
   have e:iT v.toInt n.rights=(v &&& BitVec.ofInt 64 n.rights).toInt:=by
    unfold iT
    rw[rO,nX]
   rw[e,ih (fun m hm=>hP m (by simp[hm]))]
theorem E6 (n:aV):(aK n).length=6:=rfl
theorem Fu (n:aV):(aK n).all AV.one=true:=rfl
theorem K0 (n:aV):(aK n)[0]? =some (.int .i64 n.parent):=rfl
theorem KB (n:aV):(aK n)[1]? =some (.int .i64 n.gate):=rfl
theorem KT (n:aV):(aK n)[2]? =some (.int .i64 n.rights):=rfl
theorem Kj (n:aV):(aK n)[3]? =some (.int .i64 n.cell):=rfl
theorem JY (n:aV):(aK n)[4]? =some (.int .i64 n.plugin):=rfl
theorem K6 (n:aV):(aK n)[5]? =some (.int .i64 n.func):=rfl
theorem fB:(∀ n,(aK n).length=6)∧(∀ n,(aK n).all AV.one=true)∧(∀ n:aV,(aK n)[0]? =some (.int .i64 n.parent))∧(∀ n:aV,(aK n)[1]? =some (.int .i64 n.gate))∧(∀ n:aV,(aK n)[2]? =some (.int .i64 n.rights))∧(∀ n:aV,(aK n)[3]? =some (.int .i64 n.cell))∧
  (∀ n:aV,(aK n)[4]? =some (.int .i64 n.plugin))∧(∀ n:aV,(aK n)[5]? =some (.int .i64 n.func)):=⟨E6,Fu,K0,KB,KT,Kj,JY,K6⟩
theorem oC.isL {h:AH} {J:Nat→Prop} {e:TypeId} {v:AV} {rows:List (List AV)} (g:oC h J e v rows):IsL e v rows:=by
 rcases g with⟨rfl,rfl⟩ | ⟨id,_,_,_,_,rfl⟩
 ·exact jJ e
 ·exact kj _ _ _
theorem nC.len {h:AH} {F:Nat→Prop} {b:Nat} {e:TypeId} {v:AV} {rows:List (List AV)} (g:nC h F b e v rows):dS v=some rows.length∧∀ s,dm s (some e) v=true:=by
 rcases g with⟨rfl,rfl⟩ | ⟨q,_,_,_,_,rfl⟩
 ·exact⟨rfl,fun s=>rfl⟩
 ·exact⟨rfl,fun s=>jO⟩
theorem oC.grew {h h':AH} {J:Nat→Prop} {e:TypeId} {v:AV} {rows:List (List AV)} (g:oC h J e v rows) (x:af h h'):oC h' J e v rows:=by
 rcases g with h1 | ⟨id,h1,h0,h2,h3,h4⟩
 ·exact .inl h1
 ·exact .inr ⟨id,h1,h0,Nat.lt_of_lt_of_le h2 x.ids,(x.hw id h2).trans h3,h4⟩
theorem nC.grew {h h':AH} {F:Nat→Prop} {b:Nat} {e:TypeId} {v:AV} {rows:List (List AV)} (g:nC h F b e v rows) (x:af h h'):nC h' F b e v rows:=by
 rcases g with h1 | ⟨q,h1,h2,h3,h4,h5⟩
 ·exact .inl h1
 ·exact .inr ⟨q,h1,h2,Nat.lt_of_lt_of_le h3 x.n,(x.cell q h3).trans h4,h5⟩
theorem IsG.grew {h h':AH} {F J:Nat→Prop} {b:Nat} {G:ae} (g:IsG h F J b G) (x:af h h'):IsG h' F J b G:=by
 obtain⟨nv,sv,h1,h2,h3⟩:=g.ex
 exact⟨⟨g.hb.1,Nat.lt_of_lt_of_le g.hb.2 x.n⟩,⟨fun k hk=>Nat.lt_of_lt_of_le (g.lt.1 k hk) x.n,fun j hj=>Nat.lt_of_lt_of_le (g.lt.2 j hj) x.ids⟩,nv,sv,(x.cell b g.hb.2).trans h1,h2.grew x,h3.grew x⟩
theorem CQ {h:AH} {F:Nat→Prop} {b:Nat} {sv:AV} {l:List Bool} (g:nC h F b tB sv (l.map fun x=>[.bool x])) {m:Nat} (hm:m<l.length):
  ∃ q,bX (some tB) none sv (.int .i64 (m:Int))=some (.ptr q m 0)∧h.cell q=some (l.map fun x=>[.bool x])∧(l.map fun x=>[AV.bool x])[m]? =some [.bool (l.getD m false)]∧F q∧q≠b∧q<h.n∧sv= .msl q 0 l.length tB:=by
 rcases g with⟨h1,_⟩ | ⟨q,h1,h2,h3,h4,rfl⟩
 ·simp at h1;subst h1;simp at hm
 ·exact⟨q,by simp[bX,hm],h4,by simp[hm,List.getD],h1,h2,h3,by simp⟩
theorem ae.gate_nat {G:ae} {k:Int} (hh:G.hasGate k=true):∃ m:Nat,k=m∧m<G.shut.length:=by
 simp[ae.hasGate]at hh
 exact⟨k.toNat,by omega,by omega⟩
theorem ae.has_nn {G:ae} {k:Int} (hh:G.has k=true):0≤k:=by simp[ae.has]at hh;exact hh.1
theorem ae.node_nat {G:ae} {k:Int} (hh:G.has k=true):∃ m:Nat,k=m∧m<G.nodes.length∧(G.nodes.map aK)[m]? =some (aK (G.nodes.getD m bK)):=by
 simp[ae.has]at hh
 have hl:k.toNat<G.nodes.length:=by omega
 exact⟨k.toNat,by omega,hl,by simp[hl,List.getD]⟩
section
variable {h:AH} {F J:Nat→Prop} {b:Nat} {G:ae}
theorem xD (g:IsG h F J b G) (k:Int):aj Try.prog po 89 [.ptr b 0 0,.int .i64 k] h=some (.inl (.bool (G.hasGate k)),h):=by
 obtain⟨nv,sv,h1, -,h3⟩:=g.ex
 refine ah Jg rfl ?_;unfold C3
 by_cases h0:0≤k<;>simp only[sim,ag,Nat.reduceAdd,Nat.reduceSub,List.replicate,reduceCtorEq,Nat.reduceLeDiff,Nat.reduceLT,aa,h0,h1,h3.len.1,h3.len.2,nG,ae.hasGate,List.length_map]
theorem OE (g:IsG h F J b G) (k:Int):aj Try.prog po 104 [.ptr b 0 0,.int .i64 k] h=some (.inl (.bool (G.hasGate k)),h):=by
 obtain⟨nv,sv,h1, -,h3⟩:=g.ex
 refine ah JU rfl ?_;unfold CV
 by_cases h0:0≤k<;>simp only[sim,ag,Nat.reduceAdd,Nat.reduceSub,List.replicate,reduceCtorEq,Nat.reduceLeDiff,Nat.reduceLT,aa,h0,h1,h3.len.1,h3.len.2,nG,ae.hasGate,List.length_map]
theorem zk (g:IsG h F J b G) (k:Int):aj Try.prog po 94 [.ptr b 0 0,.int .i64 k] h=some (.inl (.bool (G.has k)),h):=by
 obtain⟨nv,sv,h1,h2, -⟩:=g.ex
 refine ah Jv rfl ?_;unfold Dz
 by_cases h0:0≤k<;>simp only[sim,ag,Nat.reduceAdd,Nat.reduceSub,List.replicate,reduceCtorEq,Nat.reduceLeDiff,Nat.reduceLT,aa,h0,h1,h2.isL.len,h2.isL.fits,nG,ae.has,List.length_map]
theorem NE (g:IsG h F J b G) (k:Int):aj Try.prog po 140 [.ptr b 0 0,.int .i64 k] h=some (.inl (.bool (G.isOpen k)),h):=by
 obtain⟨nv,sv,h1, -,h3⟩:=g.ex
 refine ah H3 rfl ?_;unfold zu
 cases hh:G.hasGate k
 ·simp only[sim,ag,Nat.reduceAdd,Nat.reduceSub,List.replicate,reduceCtorEq,Nat.reduceLeDiff,Nat.reduceLT,aa,xD g,hh,ae.isOpen]
 ·obtain⟨m,rfl,hm⟩:=ae.gate_nat hh
  obtain⟨q,e1,e2,e3, -⟩:=CQ h3 hm
  simp only[sim,ag,Nat.reduceAdd,Nat.reduceSub,List.replicate,reduceCtorEq,Nat.reduceLeDiff,Nat.reduceLT,aa,xD g,hh,h1,e1,e2,e3,ae.isOpen,Int.toNat_natCast]
theorem BI (g:IsG h F J b G) (hW:G.Wf) (rest:List RS):∀ (f:Nat) (i:Int) (acc:List aV) (h':AH) (v tt:AV),i+1≤f→(G.has i=true→acc.length+i.toNat<200)→Acc h h' tN v (acc.map aK)→af h h'→
  ∃ h'' v' i' t,aq (aj Try.prog po) 5 [.lp jA,.ss [],.blk 0,.ss rest] [.ptr b 0 0,.int .i64 i,.nils,v,tt] [] h'=aq (aj Try.prog po) 5 [.ss rest] [.ptr b 0 0,i',.nils,v',t] [] h''∧Acc h h'' tN v' ((acc++G.path i).map aK)∧af h h'':=by
 intro f
 induction f with
 | zero=>
   intro i acc h' v tt hi hf ha hg
   have g':=g.grew hg
   have hh:G.has i=false:=by simp[ae.has];omega
   rw[aG jA.eq_1]
   refine⟨h',v,.int .i64 i,.bool false,?_,by rw[ae.path_no hh,List.append_nil];exact ha,hg⟩
   simp only[sim,ag,Nat.reduceAdd,Nat.reduceSub,List.replicate,reduceCtorEq,Nat.reduceLeDiff,Nat.reduceLT,aa,zk g',hh]
 | succ f ih=>
   intro i acc h' v tt hi hf ha hg
   have g':=g.grew hg
   obtain⟨nv,sv,h1,h2, -⟩:=g'.ex
   rw[aG jA.eq_1]
   cases hh:G.has i
   ·refine⟨h',v,.int .i64 i,.bool false,?_,by rw[ae.path_no hh,List.append_nil];exact ha,hg⟩
    simp only[sim,ag,Nat.reduceAdd,Nat.reduceSub,List.replicate,reduceCtorEq,Nat.reduceLeDiff,Nat.reduceLT,aa,zk g',hh]
   ·obtain⟨m,rfl,hm,hm2⟩:=ae.node_nat hh
    have hf:=hf hh
    have hix:=h2.isL.ix .i64 m _ hm2
    obtain⟨v',h2',e1,a1,a2,a3,a4⟩:=ml ha hg (row:=aK (G.nodes.getD m bK)) rfl (by simp;omega)
    simp only[sim,ag,Nat.reduceAdd,Nat.reduceSub,List.replicate,reduceCtorEq,Nat.reduceLeDiff,Nat.reduceLT,aa,zk g',hh,h1,hix,e1,a3,fB]
    have ok:=hW.get hh
    have hp:=ok.p1
    have hp0:=ok.p0
    simp only[Int.toNat_natCast]at hp hp0 hf
    obtain⟨h'',w',i',t,r1,r2,r3⟩:=ih (G.nodes.getD m bK).parent (acc++[G.nodes.getD m bK]) h2' v' (.bool true) (by omega) (by
     intro hpp
     have:=ae.has_nn hpp
     simp only[List.length_append,List.length_singleton]
     omega) (by simpa using a1) a2
    refine⟨h'',w',i',t,r1,?_,r3⟩
    rw[ae.path_yes hW hh]
    simpa using r2
theorem ae.path_few {G:ae} (hW:G.Wf) (i:Int):(G.path i).length≤81:=by
 have key:∀ (f:Nat) (i:Int),(G.pathF f i).length≤f:=by
  intro f
  induction f with
  | zero=>intro i;simp[ae.pathF]
  | succ f ih=>
    intro i
    unfold ae.pathF
    split
    ·have:=ih (G.nodes.getD i.toNat bK).parent
     rw[List.length_cons]
     omega
    ·simp
 by_cases hh:G.has i=true
 ·have:=key (i.toNat+1) i
  simp[ae.has]at hh
  have:=hW.few
  unfold ae.path
  omega
 ·rw[ae.path_no (by simpa using hh)]
  simp
theorem mV (l:List aV):∀ r∈l.map aK,r.all lj=true:=by
 intro r hr
 obtain⟨n,_,rfl⟩:=List.mem_map.1 hr
 rfl
theorem Eo (l:List Int):∀ r∈l.map (fun x=>[AV.int .i64 x]),r.all lj=true:=by
 intro r hr
 obtain⟨n,_,rfl⟩:=List.mem_map.1 hr
 rfl
theorem Bv (g:IsG h F J b G) (hW:G.Wf) (i:Int):aj Try.prog po 67 [.ptr b 0 0,.int .i64 i] h=some (.inl (cT tN ((G.path i).map aK)),h):=by
 refine ah HC rfl ?_;unfold zA
 obtain⟨h'',v',i',t,r1,r2,r3⟩:=BI g hW [.ops [(.i .l (.mv (.v 3))),(.i (.v 2) (.mv (.l 0)))],.ret] (i+1).toNat i [] h .nils .junk (by omega) (by
  intro hh
  have:=hW.few
  simp[ae.has]at hh
  simp;omega) (lT _ _ _) (af.refl h)
 simp only[sim,ag,Nat.reduceAdd,Nat.reduceSub,List.replicate,reduceCtorEq,Nat.reduceLeDiff,Nat.reduceLT,aa,r1,aD r3 (xk r2 (mV _))]
end
def pj:List RS:=[(.ops [(.i (.v 1) (.mv (.c (.bool false))))]),(.ops [(.i .l (.mv (.v 0))),(.i .l (.bin (.int .i64) .geq (.l 0) (.c (.int .i64 0)))),(.i .l (.mv (.l 0))),(.g (.l 0) true .l (.mv (.v 0))),(.g (.l 1) true .l (.bin (.int .i64) .leq (.l 0) (.c (.int .i64 15)))),(.i .l (.pick (.l 2) (.l 0) (.c (.bool false)))),(.i (.v 1) (.mv (.l 0)))]),.ret]
theorem uj:FnR Try.prog po 112 1 2 [0,2] pj [(.v 1)] true:=⟨_,_,Try.func112,rfl,rfl,by kernel_rfl,by kernel_rfl,by kernel_rfl,by kernel_rfl,by kernel_rfl⟩
def yo:List RS:=[(.ops [(.i (.v 2) (.mv (.c (.int .i64 0))))]),(.ops [(.i .l (.mv (.v 0))),(.i .l (.mv (.v 1))),(.i .l (.bin (.int .i64) .and (.l 1) (.l 0))),(.i (.v 2) (.mv (.l 0)))]),.ret]
theorem FG:FnR Try.prog po 141 2 3 [0,1,4] yo [(.v 2)] true:=⟨_,_,Try.func141,rfl,rfl,by kernel_rfl,by kernel_rfl,by kernel_rfl,by kernel_rfl,by kernel_rfl⟩
section
variable {h:AH} {F J:Nat→Prop} {b:Nat} {G:ae}
theorem Fz (x y:Int):aj Try.prog po 141 [.int .i64 x,.int .i64 y] h=some (.inl (.int .i64 (iT x y)),h):=by
 refine ah FG rfl ?_;unfold yo
 simp only[sim,ag,Nat.reduceAdd,Nat.reduceSub,List.replicate,reduceCtorEq,Nat.reduceLeDiff,Nat.reduceLT,aa]
 rfl
theorem mi (x:Int):aj Try.prog po 112 [.int .i64 x] h=some (.inl (.bool (gU x)),h):=by
 refine ah uj rfl ?_;unfold pj
 by_cases h0:0≤x<;>simp only[sim,ag,Nat.reduceAdd,Nat.reduceSub,List.replicate,reduceCtorEq,Nat.reduceLeDiff,Nat.reduceLT,aa,h0,gU]
theorem DF (x:Int):aj Try.prog po 87 [.int .i64 x] h=some (.inl (.bool (fZ x)),h):=by
 refine ah JN rfl ?_;unfold CC
 by_cases h0:0≤x<;>simp only[sim,ag,Nat.reduceAdd,Nat.reduceSub,List.replicate,reduceCtorEq,Nat.reduceLeDiff,Nat.reduceLT,aa,h0,fZ]
def cN (G:ae):Bool→Int→List aV→Int
 | _,r,[]=>r
 | first,r,n::l=>if cO G n then 0 else cN G false (iT (if first then 15 else r) n.rights) l
theorem kM (G:ae):∀ (l:List aV) (r:Int),cN G false r l=if l.any (cO G)then 0 else l.foldl (fun r n=>iT r n.rights) r
 | [],r=>rfl
 | n::l,r=>by
   simp only[cN,List.any_cons,List.foldl_cons,Bool.false_eq_true,if_false]
   rw[kM G l]
   by_cases hc:cO G n=true<;>simp[hc]
theorem tJ (G:ae) (i:Int):cN G true 0 (G.path i)=G.rights i:=by
 unfold ae.rights
 cases hp:G.path i with
 | nil=>simp[cN]
 | cons n l=>
   simp only[cN,if_true,kM,reduceCtorEq,false_or,List.any_cons,List.foldl_cons]
   cases hc:cO G n<;>simp
theorem xq (g:IsG h F J b G) (v1 p:AV) (P:List aV) (hp:IsL tN p (P.map aK)) (hP:P.length≤1000):∀ (l pre:List aV) (r:Int) (h':AH) (v4 v5 t1 t2 t3:AV),P=pre++l→af h h'→
  cFR true [.v 2] h (aq (aj Try.prog po) 12 [.lp fj,.ss [],.blk 0,.ss [.ops [(.i .l (.mv (.v 3))),(.i (.v 2) (.mv (.l 0)))],.ret]] [.ptr b 0 0,v1,.int .i64 0,.int .i64 r,v4,v5,p,.int .i64 P.length,.int .i64 pre.length,t1,t2,t3] [] h')=
   some (.inl (.int .i64 (cN G pre.isEmpty r l)),h):=by
 intro l
 induction l with
 | nil=>
   intro pre r h' v4 v5 t1 t2 t3 e hg
   rw[aG fj.eq_1]
   have:¬ ((pre.length:Int)<(P.length:Int)):=by rw[e];simp
   simp only[sim,ag,Nat.reduceAdd,Nat.reduceSub,List.replicate,reduceCtorEq,Nat.reduceLeDiff,Nat.reduceLT,aa,this,cN,aD hg (rfl:wkA (.int .i64 r)=_)]
 | cons n l ih=>
   intro pre r h' v4 v5 t1 t2 t3 e hg
   rw[aG fj.eq_1]
   have hlt:(pre.length:Int)<(P.length:Int):=by rw[e];simp;omega
   have hix:=hp.ix .i64 pre.length (aK n) (by rw[e];simp)
   have hg2:af h (h'.push [aK n]):=hg.trans (af.push _ _)
   have hw:=w64 (n:=(pre.length:Int)+1) (by omega) (by omega)
   have gO:=NE (g.grew hg2)
   have hemp:pre.isEmpty=decide ((pre.length:Int)=0):=by cases pre<;>simp<;>omega
   have fin:∀ (r':Int) (v4 v5 t1 t2 t3:AV),cFR true [.v 2] h (aq (aj Try.prog po) 12 [.lp fj,.ss [],.blk 0,.ss [.ops [(.i .l (.mv (.v 3))),(.i (.v 2) (.mv (.l 0)))],.ret]] [.ptr b 0 0,v1,.int .i64 0,.int .i64 r',v4,v5,p,.int .i64 P.length,.int .i64 ((pre.length:Int)+1),t1,t2,t3] [] (h'.push [aK n]))=some (.inl (.int .i64 (cN G false r' l)),h):=by
    intro r' v4 v5 t1 t2 t3
    have:=ih (pre++[n]) r' (h'.push [aK n]) v4 v5 t1 t2 t3 (by simp[e]) hg2
    have e1:(pre++[n]).isEmpty=false:=by cases pre<;>rfl
    have e2:((pre++[n]).length:Int)=(pre.length:Int)+1:=by simp
    rw[e1,e2]at this
    exact this
   by_cases h0:0≤n.gate
   ·cases hO:G.isOpen n.gate
    ·have hc:cO G n=true:=by simp[cO,h0,hO]
     simp only[sim,ag,Nat.reduceAdd,Nat.reduceSub,List.replicate,reduceCtorEq,Nat.reduceLeDiff,Nat.reduceLT,aa,hlt,hix,fB,h0,gO,hO,cN,hc,aD hg2 (rfl:wkA (.int .i64 0)=_)]
    ·have hc:cO G n=false:=by simp[cO,hO]
     cases hz:decide ((pre.length:Int)=0)<;>simp only[sim,ag,Nat.reduceAdd,Nat.reduceSub,List.replicate,reduceCtorEq,Nat.reduceLeDiff,Nat.reduceLT,aa,hlt,hix,fB,h0,gO,hO,cN,hc,Fz,hw,hz,hemp,fin]
   ·have hc:cO G n=false:=by simp[cO,h0]
    cases hz:decide ((pre.length:Int)=0)<;>simp only[sim,ag,Nat.reduceAdd,Nat.reduceSub,List.replicate,reduceCtorEq,Nat.reduceLeDiff,Nat.reduceLT,aa,hlt,hix,fB,h0,gO,cN,hc,Fz,hw,hz,hemp,fin]
theorem zL (g:IsG h F J b G) (hW:G.Wf) (i:Int):aj Try.prog po 133 [.ptr b 0 0,.int .i64 i] h=some (.inl (.int .i64 (G.rights i)),h):=by
 refine ah BQ rfl ?_;unfold qX
 have hl:=ii tN ((G.path i).map aK)
 have hloop:=xq g (.int .i64 i) (cT tN ((G.path i).map aK)) (G.path i) hl (by have:=ae.path_few hW i;omega) (G.path i) [] 0 h .junk .junk .junk .junk .junk rfl (af.refl h)
 simp only[List.length_nil,Int.natCast_zero,List.isEmpty_nil,tJ]at hloop
 simp only[sim,ag,Nat.reduceAdd,Nat.reduceSub,List.replicate,reduceCtorEq,Nat.reduceLeDiff,Nat.reduceLT,aa,Bv g hW,hl.len,hl.fits,List.length_map]
 exact hloop
theorem Br (id:Option Nat) (rows:List (List AV)) (hf:∀ r∈rows,r.all AV.one=true∧r.all lj=true) (hl:rows.length≤1000):
  aj Try.prog po 62 [.isl id tN rows] h=some (.inl (.isl none tN rows),h):=by
 refine ah vh rfl ?_;unfold pd
 have e1:aA false tN (.isl (some h.ids) tN []) (.isl id tN rows) (h.fresh 0)=some (.isl (some h.ids) tN rows,if rows.length=0 then h.fresh 0 else(h.fresh 0).grow h.ids rows.length):=by
  simp only[aA,bD,if_true,Option.bind_some]
  by_cases hz:rows.length=0
  ·simp[hz,jq,List.length_eq_zero_iff.1 hz]
  ·rw[if_neg hz,if_neg hz]
   unfold d9
   rw[if_pos ⟨by omega,by omega,by rw[List.all_eq_true];exact fun r hr=>(hf r hr).1⟩]
   simp[iW]
 have hg:af h (if rows.length=0 then h.fresh 0 else(h.fresh 0).grow h.ids rows.length):=by
  split
  ·exact af.fresh h 0
  ·exact(af.fresh h 0).grow (Nat.le_refl _)
 have hw:wkA (.isl (some h.ids) tN rows)=some (.isl none tN rows):=by
  simp only[wkA,jc fun r hr=>(hf r hr).2,Option.map_some]
 simp only[sim,ag,Nat.reduceAdd,Nat.reduceSub,List.replicate,reduceCtorEq,Nat.reduceLeDiff,Nat.reduceLT,aa,e1,aD hg hw]
theorem BV:aj Try.prog po 62 [.nils] h=some (.inl .nils,h):=by
 refine ah vh rfl ?_;unfold pd
 simp only[sim,ag,Nat.reduceAdd,Nat.reduceSub,List.replicate,reduceCtorEq,Nat.reduceLeDiff,Nat.reduceLT,aa]
 exact aD (af.refl h) rfl
theorem J9 (g:IsG h F J b G) (hW:G.Wf):aj Try.prog po 30 [.ptr b 0 0] h=some (.inl (cT tN (G.nodes.map aK)),h):=by
 obtain⟨nv,sv,h1,h2, -⟩:=g.ex
 refine ah DP rfl ?_;unfold uW
 rcases h2 with⟨e1,rfl⟩ | ⟨id,_,e0,_,_,rfl⟩
 ·simp only[sim,ag,Nat.reduceAdd,Nat.reduceSub,List.replicate,reduceCtorEq,Nat.reduceLeDiff,Nat.reduceLT,aa,h1,BV]
  rw[e1]
  exact aD (af.refl h) rfl
 ·have hc:=Br (h:=h) (some id) (G.nodes.map aK) (fun r hr=>⟨by obtain⟨n,_,rfl⟩:=List.mem_map.1 hr;rfl,mV _ r hr⟩) (by have:=hW.few;simp;omega)
  have hw:wkA (.isl none tN (G.nodes.map aK))=some (cT tN (G.nodes.map aK)):=by
   simp only[wkA,jc (mV _),Option.map_some,cT,if_neg e0]
  simp only[sim,ag,Nat.reduceAdd,Nat.reduceSub,List.replicate,reduceCtorEq,Nat.reduceLeDiff,Nat.reduceLT,aa,h1,hc,aD (af.refl h) hw]
theorem Gj (g:IsG h F J b G) (hW:G.Wf) (i:Int):aj Try.prog po 38 [.ptr b 0 0,.int .i64 i] h=some (.inl (.tup [.agg (aK (G.target i).1),.bool (G.target i).2]),h):=by
 refine ah A8 rfl ?_;unfold qD
 have hl:=ii tN ((G.path i).map aK)
 have hw:∀ (n:aV) (x:Bool),wkA (.tup [.agg (aK n),.bool x])=some (.tup [.agg (aK n),.bool x]):=fun n x=>rfl
 have gp:=Bv (g.grew (af.push h [[.int .i64 0,.int .i64 0,.int .i64 0,.int .i64 0,.int .i64 0,.int .i64 0]])) hW
 have hg1:∀ n:aV,af h (h.push [aK n]):=fun n=>af.push _ _
 have hd:∀ m:Nat,IntKind.wrap .i64 (m:Int)=m→True:=fun _ _=>trivial
 rcases List.eq_nil_or_concat (G.path i)with hz | ⟨pre,n,hz⟩
 ·have ht:G.target i=(bK,false):=by simp[ae.target,hz]
  rw[ht]
  have hlen:(G.path i).length=0:=by rw[hz];rfl
  simp only[sim,ag,Nat.reduceAdd,Nat.reduceSub,List.replicate,reduceCtorEq,Nat.reduceLeDiff,Nat.reduceLT,aa,gp,hl.len,hl.fits,List.length_map,hlen,Int.natCast_zero]
  exact aD (hg1 bK) (hw bK false)
 ·rw[List.concat_eq_append]at hz
  have ht:G.target i=(n,true):=by
   unfold ae.target
   rw[hz]
   simp[List.getLastD_eq_getLast?]
  have hx:¬ (((pre.length+1:Nat):Int)=0):=by omega
  have hs:IntKind.wrap .i64 (((pre.length+1:Nat):Int) - 1)=(pre.length:Int):=by rw[w64]<;>(have:=ae.path_few hW i;rw[hz]at this;simp at this;omega)
  have hix:=hl.ix .i64 pre.length (aK n) (by rw[hz];simp)
  rw[ht]
  have hlen:(G.path i).length=pre.length+1:=by rw[hz];simp
  simp only[sim,ag,Nat.reduceAdd,Nat.reduceSub,List.replicate,reduceCtorEq,Nat.reduceLeDiff,Nat.reduceLT,aa,gp,hl.len,hl.fits,List.length_map,hlen,hx,hs,hix,fB]
  exact aD (hg1 n) (hw n true)
theorem zi (p:AV) (P:List aV) (hp:IsL tN p (P.map aK)) (hP:P.length≤1000) (v0 v1:AV):∀ (l pre:List aV) (h':AH) (v v4 t1 t2:AV),P=pre++l→af h h'→Acc h h' 3 v ((cQ pre).map fun x=>[.int .i64 x])→
  cFR true [.v 2] h (aq (aj Try.prog po) 10 [.lp iv,.ss [],.blk 0,.ss [.ops [(.i .l (.mv (.v 3))),(.i (.v 2) (.mv (.l 0)))],.ret]] [v0,v1,.nils,v,v4,p,.int .i64 P.length,.int .i64 pre.length,t1,t2] [] h')=
   some (.inl (cT 3 ((cQ P).map fun x=>[.int .i64 x])),h):=by
 intro l
 induction l with
 | nil=>
   intro pre h' v v4 t1 t2 e hg ha
   rw[aG iv.eq_1]
   have hlt:¬ ((pre.length:Int)<(P.length:Int)):=by rw[e];simp
   rw[List.append_nil]at e
   rw[←e]at ha
   simp only[sim,ag,Nat.reduceAdd,Nat.reduceSub,List.replicate,reduceCtorEq,Nat.reduceLeDiff,Nat.reduceLT,aa,hlt,aD hg (xk ha (Eo _))]
 | cons n l ih=>
   intro pre h' v v4 t1 t2 e hg ha
   rw[aG iv.eq_1]
   have hlt:(pre.length:Int)<(P.length:Int):=by rw[e];simp;omega
   have hix:=hp.ix .i64 pre.length (aK n) (by rw[e];simp)
   have hg2:af h (h'.push [aK n]):=hg.trans (af.push _ _)
   have hw:=w64 (n:=(pre.length:Int)+1) (by omega) (by omega)
   have e2:((pre++[n]).length:Int)=(pre.length:Int)+1:=by simp
   have hfew:((cQ pre).map fun x=>[AV.int .i64 x]).length≤1000000:=by
    have:=List.length_filter_le (fun n:aV=>decide (0≤n.gate)) pre
    have h2:pre.length≤P.length:=by rw[e];simp
    simp[cQ];omega
   by_cases h0:0≤n.gate
   ·have hgo:cQ (pre++[n])=cQ pre++[n.gate]:=by simp[cQ,h0]
    have ha2:Acc h (h'.push [aK n]) 3 v ((cQ pre).map fun x=>[.int .i64 x]):=ha
    obtain⟨v',h2',e1,a1,a2,a3,a4⟩:=ml ha2 hg2 (row:=[.int .i64 n.gate]) rfl hfew
    simp only[jd]at e1
    have:=ih (pre++[n]) h2' v' (.ptr h'.n 0 0) (.bool true) (.bool true) (by simp[e]) a2 (by rw[hgo,List.map_append];exact a1)
    rw[e2]at this
    simp only[sim,ag,Nat.reduceAdd,Nat.reduceSub,List.replicate,reduceCtorEq,Nat.reduceLeDiff,Nat.reduceLT,aa,hlt,hix,fB,h0,hw,e1,this]
   ·have hgo:cQ (pre++[n])=cQ pre:=by simp[cQ,h0]
    have ha2:Acc h (h'.push [aK n]) 3 v ((cQ pre).map fun x=>[.int .i64 x]):=ha
    have:=ih (pre++[n]) (h'.push [aK n]) v (.ptr h'.n 0 0) (.bool true) (.bool false) (by simp[e]) hg2 (by rw[hgo];exact ha2)
    rw[e2]at this
    simp only[sim,ag,Nat.reduceAdd,Nat.reduceSub,List.replicate,reduceCtorEq,Nat.reduceLeDiff,Nat.reduceLT,aa,hlt,hix,fB,h0,hw,this]
theorem Kx (g:IsG h F J b G) (hW:G.Wf) (i:Int):aj Try.prog po 138 [.ptr b 0 0,.int .i64 i] h=some (.inl (cT 3 ((G.gatesC i).map fun x=>[.int .i64 x])),h):=by
 refine ah Ep rfl ?_;unfold uH
 have hl:=ii tN ((G.path i).map aK)
 have hloop:=zi (h:=h) (cT tN ((G.path i).map aK)) (G.path i) hl (by have:=ae.path_few hW i;omega) (.ptr b 0 0) (.int .i64 i) (G.path i) [] h .nils .junk .junk .junk rfl (af.refl h) (lT _ _ _)
 simp only[List.length_nil,Int.natCast_zero]at hloop
 simp only[sim,ag,Nat.reduceAdd,Nat.reduceSub,List.replicate,reduceCtorEq,Nat.reduceLeDiff,Nat.reduceLT,aa,Bv g hW,hl.len,hl.fits,List.length_map]
 exact hloop
end
open Go.ChangeShapes Go.WideShapes Go.ChangeAt Go.RowKit Go.Deep Go.Joins
open Go.ChangeMaps (open_string shut_string)
theorem own:ownKnob Try.prog.godebug=none:=by kernel_rfl
theorem KV:laidOutB Try.prog=true:=by kernel_rfl
section
variable {H:Type} {enc:TypeId×Value→H} {P:Program} {W W':World}
theorem mE (hl:laidOutB P=true):∀ {ts:List TypeId} {vs:List Value} {ds:List (DataW H)} {p:List MemPlace},
  DataW.TrodAll enc P W 0 (fun _=>true) true ts vs ds p→(∀ t∈ts,P.readableRec t=true∧t<P.types.size)→Below W.heap.size W W'→(∀ x∈p,x.block<W.heap.size)→
  DataW.TrodAll enc P W' 0 (fun b=>decide (b<W.heap.size)) true ts vs ds p
 | [],[],[],p,h,_,_,_=>h
 | t::ts,v::vs,d::ds,p,h,ht,hb,hp=>by
   obtain⟨p1,q1,h1,h2,rfl⟩:=h
   obtain⟨hr,hs⟩:=ht t (by simp)
   exact⟨p1,q1,Below.trod hl hr hs h1 hb (fun x hx=>hp x (by simp[hx])),mE hl h2 (fun t' h'=>ht t' (by simp[h'])) hb (fun x hx=>hp x (by simp[hx])),rfl⟩
 | [],_::_,_,_,h,_,_,_=>by simp[DataW.TrodAll]at h
 | _::_,[],_,_,h,_,_,_=>by simp[DataW.TrodAll]at h
 | _::_,_::_,[],_,h,_,_,_=>by simp[DataW.TrodAll]at h
 | [],[],_::_,_,h,_,_,_=>by simp[DataW.TrodAll]at h
theorem sP:∀ {ts:List TypeId} {vs:List Value} {ds:List (DataW H)} {p:List MemPlace},
  DataW.TrodAll enc P W 0 (fun _=>true) true ts vs ds p→∀ x∈p,x.block<W.heap.size
 | [],[],[],p,h,x,hx=>by
   have:p=[]:=h
   subst this
   simp at hx
 | t::ts,v::vs,d::ds,p,h,x,hx=>by
   obtain⟨p1,q1,⟨n,h1⟩,h2,rfl⟩:=h
   rcases List.mem_append.1 hx with hx | hx
   ·exact DataW.trod_lt n _ _ _ h1 x hx
   ·exact sP h2 x hx
 | [],_::_,_,_,h,_,_=>by simp[DataW.TrodAll]at h
 | _::_,[],_,_,h,_,_=>by simp[DataW.TrodAll]at h
 | _::_,_::_,[],_,h,_,_=>by simp[DataW.TrodAll]at h
 | [],[],_::_,_,h,_,_=>by simp[DataW.TrodAll]at h
def Law (P:Program) (f:FuncId) (args:Array Value) (W:World):Prop:=
 Calls P f args W fun e W'=>e= .returned (.bool true)∧Below W.heap.size W W'
theorem Ga {f:Func} {s:ChangeSpec} {args:Array Value} {ds gs:List (DataW H)} {before:List MemPlace} {tb:TypeId} (hl:laidOutB P=true) (htb:P.underlying tb=some .bool) (hres:f.resultTypes= #[tb])
  (hv:s.vars=[]) (hparams:∀ t∈f.params.toList,P.readableRec t=true∧t<P.types.size)
  (hs:∀ ds:List (DataW H),ds.length=f.params.size→s.fn H ds={results:=[.lit (.bool true)],args:=ds})
  (hW:DataW.Whole enc P f.params.toList s.vars false W args.toList ds gs before) (hb:Below W.heap.size W W'):
  s.post enc P f false true false false W args (.bool true) W':=by
 have hW0:=hW
 obtain⟨p,q,hA,hV,rfl,hfz,hnd⟩:=hW
 rw[hv]at hV
 obtain⟨rfl,rfl⟩:=trodVars_none hV
 have hlen:ds.length=f.params.size:=by
  have:∀ {ts:List TypeId} {vs:List Value} {ds:List (DataW H)} {p:List MemPlace},DataW.TrodAll enc P W 0 (fun _=>true) true ts vs ds p→ds.length=ts.length:=by
   intro ts
   induction ts with
   | nil=>
     intro vs ds p h
     cases vs<;>cases ds<;>simp[DataW.TrodAll]at h ⊢
   | cons t ts ih=>
     intro vs ds p h
     cases vs<;>cases ds<;>simp[DataW.TrodAll]at h ⊢
     obtain⟨_,_,_,h2,_⟩:=h
     exact ih h2
  simpa using this hA
 have e:=hs (ds++[]) (by simpa using hlen)
 refine⟨ds,[],_,[],p,[],hW0,?_,?_,?_,hb.frame _,fun h=>by cases h⟩
 ·rw[e,hres]
  exact trodAll_mk1 (shut_bool htb _)
 ·rw[e]
  simp only[List.append_nil]
  exact mE hl hA hparams hb (sP hA)
 ·rw[e,hv]
  rfl
def IP (z:Int):Prop:= -9223372036854775808≤z∧z≤9223372036854775807
end
open Go Go.RowKit
def h0A:AH:={n:=0,cell:=fun _=>none,ids:=0,hw:=fun _=>0}
def m0A (W:World):Mm:={base:=W.heap.size,blk:=fun _=>0,bt:=fun _=>0,bsz:=fun _=>0,imm:=fun g o=>W.cell? ⟨g,o,none⟩,tg:=fun _=>0,tc:=fun _=>0,te:=fun _=>0,jk:=fun _=>none}
theorem D9 {P:Program} {b:Nat} {w:World} (h:Lk P=[]∧LJ P=[]):tj P b w:=by
 refine⟨fun q hq=> ?_,fun n hn=> ?_⟩
 ·rw[h.1]at hq
  cases hq
 ·rw[h.2]at hn
  cases hn
theorem wr0 (P:Program) (W:World) (hg:tj P W.heap.size W):WR P (m0A W) h0A W where
 good:=hg
 size:=Nat.le_refl _
 lt:=fun b es hb=>by simp[h0A]at hb
 live:=fun b es hb=>by simp[h0A]at hb
 inj:=fun b b' es es' hb=>by simp[h0A]at hb
 imm:=fun g o v h=>h
 sep:=fun b es hb=>by simp[h0A]at hb
 tip:=fun k hk=>absurd hk (Nat.not_lt_zero _)
 tfree:=fun k hk=>absurd hk (Nat.not_lt_zero _)
 tblk:=fun k hk=>absurd hk (Nat.not_lt_zero _)
 tinj:=fun k k' hk=>absurd hk (Nat.not_lt_zero _)
 jk:=fun g x hj=>by simp[m0A]at hj
theorem MA {f:FuncId} {avs:List AV} {vs:List Value} {W:World} {h':AH} (hr:aj Try.prog po f avs h0A=some (.inl (.bool true),h')) (hv:VRs Try.prog (m0A W) h0A avs vs) (hg:tj Try.prog W.heap.size W:=by exact D9 ⟨by kernel_rfl,by kernel_rfl⟩):Law Try.prog f vs.toArray W:=by
 refine(sU pok hr (m0A W) W vs (wr0 _ W hg) hv).mono fun e W' ⟨m',_,_,hb,hx⟩=> ?_
 obtain⟨u,rfl,hu⟩:=hx
 cases hu
 exact⟨rfl,hb⟩
theorem NG {P:Program} {m:Mm} {h:AH} (n:Int):VR P m h (.int .i64 n) (.int .i64 n):= .int _ _
theorem MW {P:Program} {m:Mm} {h:AH} (s:ByteArray):VR P m h (.str s.data.toList) (.string s):=by
 have:=VR.str (P:=P) (m:=m) (h:=h) s.data.toList
 simpa using this
section
variable {P:Program} {po:Pol} {g:FuncId} {a nv:Nat} {vm:List Nat} {ss:List RS} {rs:List kO} {args:List AV} {h:AH}
theorem Bn {p:Bool} {Post:(AV ⊕ AV)×AH→Prop} (hf:FnR P po g a nv vm ss rs p) (ha:args.length=a)
  (H:∀ Q:jE→Prop,(∀ r q,cFR p rs h r=some q→Post q→Q r)→Q (aq (aj P po) nv [.ss ss] (args++List.replicate (vm.length - args.length) .junk) [] h)):
  ∃ q,aj P po g args h=some q∧Post q:=by
 obtain⟨q,h1,h2⟩:=H (fun r=>∃ q,cFR p rs h r=some q∧Post q) (fun r q h1 h2=>⟨q,h1,h2⟩)
 exact⟨q,ah hf ha h1,h2⟩
theorem Bd {v:AV} {R:AH→Prop} (hf:FnR P po g a nv vm ss rs false) (ha:args.length=a)
  (H:∀ Q:jE→Prop,(∀ V h',(fg V h' rs).map fH=some v→R h'→Q (some (.ret,V,h')))→Q (aq (aj P po) nv [.ss ss] (args++List.replicate (vm.length - args.length) .junk) [] h)):
  ∃ h',aj P po g args h=some (.inl v,h')∧R h':=by
 obtain⟨q,h1,h',rfl,h2⟩:=Bn (Post:=fun q=>∃ h',q=(.inl v,h')∧R h') hf ha fun Q hQ=>H Q fun V h' e r=>hQ _ (.inl v,h') (by simp only[kI,e,kA,lh]) ⟨h',rfl,r⟩
 exact⟨h',h1,h2⟩
theorem Au {R:AV→Prop} (hf:FnR P po g a nv vm ss rs true) (ha:args.length=a)
  (H:∀ Q:jE→Prop,(∀ V h' v v',(fg V h' rs).map fH=some v→af h h'→wkA v=some v'→R v'→Q (some (.ret,V,h')))→Q (aq (aj P po) nv [.ss ss] (args++List.replicate (vm.length - args.length) .junk) [] h)):
  ∃ v,aj P po g args h=some (.inl v,h)∧R v:=by
 obtain⟨q,h1,v,rfl,h2⟩:=Bn (Post:=fun q=>∃ v,q=(.inl v,h)∧R v) hf ha fun Q hQ=>H Q fun V h' v v' e hg w r=>hQ _ (.inl v',h) (by simp only[kI,e,kA];exact aD hg w) ⟨v',rfl,r⟩
 exact⟨v,h1,h2⟩
theorem gt {v':AV} (hf:FnR P po g a nv vm ss rs true) (ha:args.length=a)
  (H:∀ Q:jE→Prop,(∀ V h' v,(fg V h' rs).map fH=some v→af h h'→wkA v=some v'→Q (some (.ret,V,h')))→Q (aq (aj P po) nv [.ss ss] (args++List.replicate (vm.length - args.length) .junk) [] h)):
  aj P po g args h=some (.inl v',h):=by
 obtain⟨v,h1,rfl⟩:=Au (R:=fun v=>v=v') hf ha fun Q hQ=>H Q fun V h' v e hg w=>hQ V h' v v' e hg w rfl
 exact h1
end
section
variable {P:Program} {po:Pol} {g:FuncId} {a nv:Nat} {vm:List Nat} {ss:List RS} {rs:List kO} {args:List AV} {h:AH}
theorem HT {Post:(AV ⊕ AV)→AH→Prop} (hf:FnR P po g a nv vm ss rs false) (ha:args.length=a)
  (H:∀ Q:jE→Prop,(∀ V h' v,(fg V h' rs).map fH=some v→Post (.inl v) h'→Q (some (.ret,V,h')))→(∀ V h' v,Post (.inr v) h'→Q (some (.panic v,V,h')))→Q (aq (aj P po) nv [.ss ss] (args++List.replicate (vm.length - args.length) .junk) [] h)):
  ∃ q h',aj P po g args h=some (q,h')∧Post q h':=by
 obtain⟨⟨q,h'⟩,e,p⟩:=Bn (Post:=fun q=>Post q.1 q.2) hf ha fun Q hQ=>H Q (fun V h' v e r=>hQ _ (.inl v,h') (by simp only[kI,e,kA,lh]) r) (fun V h' v r=>hQ _ (.inr v,h') (by simp only[pm,lh]) r)
 exact⟨q,h',e,p⟩
end
theorem jh {C:vz} {nv:Nat} {b:List RS} {K:List RK} {V:List AV} {h:AH} {Q:jE→Prop} (I:Nat→List AV→AH→Prop) (n:Nat) (h0:I 0 V h)
  (step:∀ i V h,i<n→I i V h→(∀ V' h',I (i+1) V' h'→Q (aq C nv (.lp b::K) V' [] h'))→Q (aq C nv (.lp b::K) V [] h))
  (stop:∀ V h,I n V h→Q (aq C nv (.lp b::K) V [] h)):Q (aq C nv (.lp b::K) V [] h):=by
 have key:∀ (d i:Nat) (V:List AV) (h:AH),i+d=n→I i V h→Q (aq C nv (.lp b::K) V [] h):=by
  intro d
  induction d with
  | zero=>
    intro i V h hi hI
    obtain rfl:i=n:=by omega
    exact stop V h hI
  | succ d ih=>exact fun i V h hi hI=>step i V h (by omega) hI fun V' h' hI'=>ih (i+1) V' h' (by omega) hI'
 exact key n 0 V h (by omega) h0
theorem NK {a n:Nat} (h:a<n):(a<n+1)=True:=by simp;omega
theorem xg {n:Nat}:(n<n+1)=True:=by simp
theorem wy {α:Type} (A B:List α) (x y:α) {n:Nat} (hn:n=A.length):(A++x::B).set n y=A++y::B:=by subst hn;simp
theorem Dn {α:Type} (A B:List α) (x:α) {n:Nat} (hn:n=A.length):(A++x::B)[n]? =some x:=by subst hn;simp
theorem kc {α:Type} {l:List α} {i:Nat} {y:α} (h:l[i]? =some y):l.take (i+1)=l.take i++[y]:=by
 rw[List.take_add_one,h]
 rfl
theorem Bw {n m:Int} (e:n=m) (h1: -9223372036854775808≤n) (h2:n≤9223372036854775807):IntKind.wrap .i64 n=m:=by rw[←e];exact w64 h1 h2
theorem HF {h0 h:AH} {e:TypeId} {v:AV} {acc:List (List AV)} (ha:Acc h0 h e v acc) (g:af h0 h) {x:AV} {rows:List (List AV)} (hx:(x= .nils∧rows=[])∨∃ id,x= .isl id e rows) (h1:∀ r∈rows,r.all AV.one=true) (hl:acc.length≤1000000) (hr:rows.length≤1000000):
  ∃ v' h',aA false e v x h=some (v',h')∧Acc h0 h' e v' (acc++rows)∧af h0 h'∧h'.cell=h.cell∧h'.n=h.n:=by
 have h1':rows.all (·.all AV.one)=true:=by rw[List.all_eq_true];exact h1
 by_cases hz:rows.length=0
 ·have hz':=List.length_eq_zero_iff.1 hz
  subst hz'
  refine⟨v,h,?_,by simpa using ha,g,rfl,rfl⟩
  have hs:jq e v h=some (v,h):=by
   rcases ha with⟨_,rfl⟩ | ⟨id,_,_,_,_,rfl⟩<;>simp[jq]
  rcases hx with⟨rfl,_⟩ | ⟨id,rfl⟩
  ·exact hs
  ·simp[aA,bD,hs]
 ·obtain⟨id2,rfl⟩:∃ id,x= .isl id e rows:=by
   rcases hx with⟨_,rfl⟩ | hx
   ·simp at hz
   ·exact hx
  have e1:aA false e v (.isl id2 e rows) h=d9 false e v rows h:=by
   simp only[aA,bD,if_true,Option.bind_some]
   rw[if_neg hz]
  rw[e1]
  unfold d9
  rw[if_pos ⟨by omega,by omega,h1'⟩]
  have hne:rows≠[]:=fun e=>hz (by rw[e];rfl)
  rcases ha with⟨rfl,rfl⟩ | ⟨id,a0,a1,a2,a3,rfl⟩
  ·refine⟨_,_,rfl,.inr ⟨h.ids,by simpa using hne,g.ids,by simp[AH.fresh],by simp[AH.fresh],by simp⟩,g.trans (af.fresh _ _),rfl,rfl⟩
  ·refine⟨.isl (some id) e (acc++rows),h.grow id (acc.length+rows.length),?_,.inr ⟨id,by simp[a0],a1,a2,by simp[AH.grow],rfl⟩,g.grow a1,rfl,rfl⟩
   simp[a3,hl]
theorem Jc (e:TypeId) (rows:List (List AV)):(cT e rows= .nils∧rows=[])∨∃ id,cT e rows= .isl id e rows:=by
 unfold cT
 by_cases hz:rows=[]
 ·exact .inl ⟨by rw[if_pos hz],hz⟩
 ·exact .inr ⟨none,by rw[if_neg hz]⟩
theorem FZ (l:List Int):∀ r∈bm l,r.all AV.one=true:=by
 intro r hr
 obtain⟨n,_,rfl⟩:=List.mem_map.1 hr
 rfl
def OT (f:AV) (xs:List AV):Option (FuncId×List AV):=match f with
 | .fn g a c=>some (g,a++xs++c)
 | _=>none
section
variable {C:vz} {nv:Nat} {k:List RK} {V L:List AV} {h:AH} {d:RD} {is:List RI}
theorem uA {f:Arg} {args:List Arg}:aU V L (.call f args)=OT (arg V L f) (args.map (arg V L)):=by
 simp only[aU]
 cases arg V L f<;>rfl
theorem CX {g:FuncId} {a c xs:List AV}:OT (.fn g a c) xs=some (g,a++xs++c):=rfl
theorem Cp {g:FuncId} {xs:List AV}:rF C nv d is k V L h (some (g,xs))=rC C nv d is k V L (C g xs h):=rfl
theorem az:(type_of% @BW)∧(type_of% @uA)∧(type_of% @CX)∧(type_of% @Cp):=⟨@BW,@uA,@CX,@Cp⟩
end
def aV.ints (n:aV):List Int:=[n.parent,n.gate,n.rights,n.cell,n.plugin,n.func]
instance:DecidableEq aV:=fun a b=>decidable_of_iff (a.ints=b.ints) ⟨fun e=>by
 cases a
 cases b
 simp[aV.ints]at e
 simp[e],fun e=>by rw[e]⟩
section
variable {h:AH}
end
theorem dj.same {h:AH} {F J:Nat→Prop} {b:Nat} {G:ae} (g:IsG h F J b G):dj h F J b h G:=⟨F,J,g,Chg.refl _ _ _,fun _=> .inl,fun _=> .inl⟩
theorem dj.grew {h h':AH} {F J:Nat→Prop} {b:Nat} {G:ae} (g:IsG h F J b G) (x:af h h'):dj h F J b h' G:=⟨F,J,g.grew x,x.chg _ _,fun _=> .inl,fun _=> .inl⟩
theorem dj.after {h h1 h2:AH} {F J:Nat→Prop} {b:Nat} {G':ae} (x:af h h1) (d:dj h1 F J b h2 G'):dj h F J b h2 G':=by
 obtain⟨F',J',g,c,hF,hJ⟩:=d
 have:=x.n
 have:=x.ids
 exact⟨F',J',g,(x.chg F J).trans c,fun k hk=>(hF k hk).imp id (by omega),fun j hj=>(hJ j hj).imp id (by omega)⟩
section
variable {h:AH} {F J:Nat→Prop} {b:Nat} {G:ae}
theorem GW (h:AH) {F:Nat→Prop} {b:Nat} {sv:AV} {l:List Bool} (g:nC h F b tB sv (l.map fun x=>[.bool x])) (hl:l.length≤1000):
  ∃ h' v',aA true tB sv (.msl h.n 0 1 tB) (h.push [[.bool false]])=some (v',h')∧dS v'=some (l.length+1)∧(∀ s,dm s (some tB) v'=true)∧v'.one=true∧v'.cells=[v']∧h'.ids=h.ids∧h'.hw=h.hw∧h'.n=h.n+2∧h'.cell (h.n+1)=some ((l++[false]).map fun x=>[.bool x])∧v'= .msl (h.n+1) 0 (l.length+1) tB∧∀ k,k<h.n→¬ (F k∧k≠b)→h'.cell k=h.cell k:=by
 have e0:bD (h.push [[.bool false]]) tB (.msl h.n 0 1 tB)=some [[.bool false]]:=by simp[bD,aE]
 rcases g with⟨h1,rfl⟩ | ⟨q,h1,h2,h3,h4,rfl⟩
 ·have hl0:l=[]:=by simpa using h1
  subst hl0
  refine⟨(h.push [[.bool false]]).push [[.bool false]],.msl (h.n+1) 0 1 tB,?_,rfl,fun s=>jO,rfl,rfl,rfl,rfl,rfl,?_,rfl,fun k hk _=> ?_⟩
  ·simp[aA,e0,d9,AV.one,aL]
  ·simp[AH.push]
  ·simp[AH.push,show k≠h.n by omega,show k≠h.n+1 by omega]
 ·have hq:q≠h.n:=by omega
  refine⟨((h.push [[.bool false]]).set q none).push ((l.map fun x=>[.bool x])++[[.bool false]]),.msl (h.n+1) 0 (l.length+1) tB,?_,rfl,fun s=>jO,rfl,rfl,rfl,rfl,rfl,?_,rfl,fun k hk hk2=> ?_⟩
  ·have e1:(h.push [[.bool false]]).cell q=some (l.map fun x=>[.bool x]):=by rw[hU hq];exact h4
   simp only[aA,e0,Option.bind_some,List.length_singleton,Nat.one_ne_zero,if_false,d9,List.length_map]
   rw[if_pos ⟨by omega,by omega,rfl⟩,if_pos ⟨trivial,trivial,by omega⟩,e1]
   have e2:List.take l.length (l.map fun x=>[AV.bool x])=l.map fun x=>[.bool x]:=List.take_of_length_le (by simp)
   simp[aL,dW,e2]
  ·simp[AH.push,AH.set]
  ·have:k≠q:=fun e=>hk2 (by subst e;exact⟨h1,h2⟩)
   simp[AH.push,AH.set,show k≠h.n by omega,show k≠h.n+1 by omega,this]
theorem HR {h':AH} {nv v':AV} (g:IsG h F J b G) (h2:oC h J tN nv (G.nodes.map aK)) (e1:h'.ids=h.ids) (e2:h'.hw=h.hw) (e3:h'.n=h.n+2) (e4:h'.cell (h.n+1)=some ((G.shut++[false]).map fun x=>[.bool x])) (e5:v'= .msl (h.n+1) 0 (G.shut.length+1) tB) (e6:∀ k,k<h.n→¬ (F k∧k≠b)→h'.cell k=h.cell k):
  dj h F J b (h'.set b (some [[nv,v']])) ⟨G.nodes,G.shut++[false]⟩:=by
 have hbn:=g.hb.2
 refine⟨fun k=>k=b∨k=h.n+1,J,⟨⟨.inl rfl,by rw[dW,e3];omega⟩,⟨by rintro k (rfl | rfl)<;>(rw[dW,e3];omega),fun j hj=>by rw[mg,e1];exact g.lt.2 j hj⟩,nv,v',aQ,?_,.inr ⟨h.n+1,.inr rfl,by omega,by rw[dW,e3];omega,by rw[be (by omega)];exact e4,?_⟩⟩,⟨by rw[dW,e3];omega,by rw[mg,e1];omega,fun k hk hF=> ?_,fun j hj hJ=>by rw[oP,e2]⟩,?_,fun _=> .inl⟩
 ·rcases h2 with h2 | ⟨id,a1,a0,a2,a3,a4⟩
  ·exact .inl h2
  ·exact .inr ⟨id,a1,a0,by rw[mg,e1];exact a2,by rw[oP,e2];exact a3,a4⟩
 ·rw[e5]
  simp
 ·have:k≠b:=fun e=>hF (by rw[e];exact g.hb.1)
  rw[be this]
  exact e6 k hk fun x=>hF x.1
 ·rintro k (rfl | rfl)
  ·exact .inl g.hb.1
  ·exact .inr (by omega)
theorem HN (g:IsG h F J b G) (hW:G.Wf):∃ h',aj Try.prog po 58 [.ptr b 0 0] h=some (.inl (.tup [.int .i64 G.gate.2.1,.int .i64 G.gate.2.2]),h')∧dj h F J b h' G.gate.1:=by
 obtain⟨nv,sv,h1,h2,h3⟩:=g.ex
 have hgs:=hW.gates
 cases hd:decide ((G.shut.length:Int)=20)
 ·have hne:¬ G.shut.length=20:=by simp at hd;omega
  have hG:G.gate=(⟨G.nodes,G.shut++[false]⟩,(G.shut.length:Int),0):=by unfold ae.gate;rw[if_neg hne]
  obtain⟨h',v',a1,a2,a3,a4,a5,a6,a7,a8,a9,a10,a11⟩:=GW h h3 (by omega)
  have hbn:b≠h.n:=by have:=g.hb.2;omega
  have hcb:h'.cell b=some [[nv,sv]]:=(a11 b g.hb.2 (fun x=>x.2 rfl)).trans h1
  have hwr:IntKind.wrap .i64 (((G.shut.length+1:Nat):Int) - 1)=(G.shut.length:Int):=by rw[w64]<;>omega
  refine⟨h'.set b (some [[nv,v']]),?_,by rw[hG];exact HR g h2 a6 a7 a8 a9 a10 a11⟩
  rw[hG]
  refine ah zC rfl ?_;unfold sD
  simp only[sim,ag,Nat.reduceAdd,Nat.reduceSub,List.replicate,reduceCtorEq,Nat.reduceLeDiff,Nat.reduceLT,aa,h1,h3.len.1,h3.len.2,List.length_map,hd,a1,hU hbn,hcb,a4,a5,a2,a3,hwr]
 ·have he:G.shut.length=20:=by simp at hd;omega
  have hG:G.gate=(G,0,11):=by unfold ae.gate;rw[if_pos he]
  refine⟨h,?_,by rw[hG];exact dj.same g⟩
  rw[hG]
  refine ah zC rfl ?_;unfold sD
  simp only[sim,ag,Nat.reduceAdd,Nat.reduceSub,List.replicate,reduceCtorEq,Nat.reduceLeDiff,Nat.reduceLT,aa,h1,h3.len.1,h3.len.2,List.length_map,hd]
theorem Je {nv sv:AV} (g:IsG h F J b G) (h1:h.cell b=some [[nv,sv]]) (h2:oC h J tN nv (G.nodes.map aK)) {m q:Nat} (hm:m<G.shut.length) (e1:F q) (e2:q≠b) (e3:q<h.n) (e4:sv= .msl q 0 G.shut.length tB):
  dj h F J b (h.set q (some ((G.shut.map fun x=>[AV.bool x]).set m [.bool true]))) ⟨G.nodes,G.shut.set m true⟩:=by
 refine⟨F,J,⟨⟨g.hb.1,g.hb.2⟩,g.lt,nv,sv,by rw[be (Ne.symm e2)];exact h1,?_,.inr ⟨q,e1,e2,e3,by rw[aQ,List.map_set],by rw[e4];simp⟩⟩,⟨Nat.le_refl _,Nat.le_refl _,fun k hk hF=>be (fun e=>hF (by rw[e];exact e1)),fun _ _ _=>rfl⟩,fun _=> .inl,fun _=> .inl⟩
 rcases h2 with h2 | ⟨id,a1,a0,a2,a3,a4⟩
 ·exact .inl h2
 ·exact .inr ⟨id,a1,a0,a2,a3,a4⟩
theorem Ly (g:IsG h F J b G) (k:Int):∃ h',aj Try.prog po 57 [.ptr b 0 0,.int .i64 k] h=some (.inl (.int .i64 (G.cut k).2),h')∧dj h F J b h' (G.cut k).1:=by
 obtain⟨nv,sv,h1,h2,h3⟩:=g.ex
 cases hh:G.hasGate k
 ·have hG:G.cut k=(G,8):=by unfold ae.cut;rw[if_neg (by simp[hh])]
  rw[hG]
  refine⟨h,?_,dj.same g⟩
  refine ah C5 rfl ?_;unfold vK
  simp only[sim,ag,Nat.reduceAdd,Nat.reduceSub,List.replicate,reduceCtorEq,Nat.reduceLeDiff,Nat.reduceLT,aa,xD g,hh]
 ·obtain⟨m,rfl,hm⟩:=ae.gate_nat hh
  have hG:G.cut (m:Int)=(⟨G.nodes,G.shut.set m true⟩,0):=by unfold ae.cut;rw[if_pos hh];simp
  obtain⟨q,e1,e2,e3,e4,e5,e6,e7⟩:=CQ h3 hm
  rw[hG]
  refine⟨_,?_,Je g h1 h2 hm e4 e5 e6 e7⟩
  refine ah C5 rfl ?_;unfold vK
  simp only[sim,ag,Nat.reduceAdd,Nat.reduceSub,List.replicate,reduceCtorEq,Nat.reduceLeDiff,Nat.reduceLT,aa,xD g,hh,h1,e1,e2,e3]
theorem yv (h:AH) {J:Nat→Prop} {nv:AV} {rows:List (List AV)} (g:oC h J tN nv rows) {row:List AV} (hr:row.all AV.one=true) (hl:rows.length≤1000):
  ∃ h' v',aA false tN nv (.isl (some h.ids) tN [row]) (h.fresh 1)=some (v',h')∧dS v'=some (rows.length+1)∧(∀ s,dm s (some tN) v'=true)∧v'.one=true∧v'.cells=[v']∧h'.cell=h.cell∧h'.n=h.n∧h.ids≤h'.ids∧
    (∃ id,(J id∨h.ids≤id)∧id<h'.ids∧h'.hw id=rows.length+1∧v'= .isl (some id) tN (rows++[row])∧∀ j,j<h.ids→¬ J j→h'.hw j=h.hw j):=by
 have hr':[row].all (·.all AV.one)=true:=by simpa using hr
 rcases g with⟨rfl,rfl⟩ | ⟨id,a1,a0,a2,a3,rfl⟩
 ·refine⟨(h.fresh 1).fresh 1,.isl (some (h.ids+1)) tN [row],?_,rfl,fun s=>jP,rfl,rfl,rfl,rfl,by simp[AH.fresh];omega,h.ids+1,.inr (by omega),by simp[AH.fresh],by simp[AH.fresh],by simp,fun j hj _=>by simp[AH.fresh,show j≠h.ids by omega,show j≠h.ids+1 by omega]⟩
  simp only[aA,bD,if_true,Option.bind_some,List.length_singleton,Nat.one_ne_zero,if_false,d9]
  rw[if_pos ⟨by omega,by omega,hr'⟩]
  rfl
 ·have hne:id≠h.ids:=by omega
  refine⟨(h.fresh 1).grow id (rows.length+1),.isl (some id) tN (rows++[row]),?_,by simp[dS],fun s=>jP,rfl,rfl,rfl,rfl,by simp[AH.fresh,AH.grow],id,.inl a1,by simp[AH.fresh,AH.grow];omega,by simp[AH.grow],rfl,fun j hj hJ=> ?_⟩
  ·simp only[aA,bD,if_true,Option.bind_some,List.length_singleton,Nat.one_ne_zero,if_false,d9]
   rw[if_pos ⟨by omega,by omega,hr'⟩,fG hne,a3,if_pos ⟨trivial,rfl,by omega⟩]
  ·have h1:j≠id:=fun e=>hJ (by rw[e];exact a1)
   simp[AH.grow,AH.fresh,h1,show j≠h.ids by omega]
theorem Cu {h':AH} {sv v':AV} {n:aV} (g:IsG h F J b G) (h3:nC h F b tB sv (G.shut.map fun x=>[.bool x])) (e1:h'.cell=h.cell) (e2:h'.n=h.n) (e0:h.ids≤h'.ids)
  (e3:∃ id,(J id∨h.ids≤id)∧id<h'.ids∧h'.hw id=G.nodes.length+1∧v'= .isl (some id) tN (G.nodes.map aK++[aK n])∧∀ j,j<h.ids→¬ J j→h'.hw j=h.hw j):dj h F J b (h'.set b (some [[v',sv]])) ⟨G.nodes++[n],G.shut⟩:=by
 obtain⟨id,a1,a2,a3,a4,a5⟩:=e3
 refine⟨F,fun j=>j=id,⟨⟨g.hb.1,by rw[dW,e2];exact g.hb.2⟩,⟨fun k hk=>by rw[dW,e2];exact g.lt.1 k hk,fun j hj=>by rw[hj];exact a2⟩,v',sv,aQ,.inr ⟨id,rfl,by simp,a2,by rw[oP,a3];simp,by rw[a4];simp⟩,?_⟩,⟨by rw[dW,e2];exact Nat.le_refl _,by rw[mg];exact e0,fun k hk hF=> ?_,fun j hj hJ=>by rw[oP];exact a5 j hj hJ⟩,fun _=> .inl,fun j hj=>by rw[hj];exact a1⟩
 ·rcases h3 with h3 | ⟨q,b1,b2,b3,b4,b5⟩
  ·exact .inl h3
  ·exact .inr ⟨q,b1,b2,by rw[dW,e2];exact b3,by rw[be b2,e1];exact b4,b5⟩
 ·rw[be (fun e=>hF (by rw[e];exact g.hb.1)),e1]
theorem FO (g:IsG h F J b G) (hW:G.Wf) (n:aV):∃ h',aj Try.prog po 88 [.ptr b 0 0,.agg (aK n)] h=some (.inl (.tup [.int .i64 (G.add n).2.1,.int .i64 (G.add n).2.2]),h')∧dj h F J b h' (G.add n).1:=by
 have hg1:=af.push h [aK n]
 have g1:=g.grew hg1
 have hbn:h.n≠b:=by have:=g.hb.2;omega
 obtain⟨nv,sv,h1,h2,h3⟩:=g1.ex
 have hfew:=hW.few
 have hH:=xD g1
 unfold ae.add
 skip
 cases hc:gU n.rights
 ·rw[if_pos rfl]
  refine⟨h.push [aK n],?_,dj.grew g hg1⟩
  refine ah lV rfl ?_;unfold kz
  simp only[sim,ag,Nat.reduceAdd,Nat.reduceSub,List.replicate,reduceCtorEq,Nat.reduceLeDiff,Nat.reduceLT,aa,fB,mi,hc]
 ·rw[if_neg (by simp)]
  have stop:(n.gate≠ -1∧G.hasGate n.gate=false)∨(n.gate= -1∨G.hasGate n.gate=true):=by
   by_cases e:n.gate= -1
   ·exact .inr (.inl e)
   ·cases hh:G.hasGate n.gate
    ·exact .inl ⟨e,rfl⟩
    ·exact .inr (.inr rfl)
  rcases stop with hs | hs
  ·rw[if_pos hs]
   refine⟨h.push [aK n],?_,dj.grew g hg1⟩
   obtain⟨s1,s2⟩:=hs
   refine ah lV rfl ?_;unfold kz
   simp only[sim,ag,Nat.reduceAdd,Nat.reduceSub,List.replicate,reduceCtorEq,Nat.reduceLeDiff,Nat.reduceLT,aa,fB,mi,hc,hH,s1,s2]
  ·have hs':¬ (n.gate≠ -1∧G.hasGate n.gate=false):=by
    rintro⟨a,b⟩
    rcases hs with hs | hs
    ·exact a hs
    ·rw[b]at hs;cases hs
   rw[if_neg hs']
   have hs2:decide (n.gate= -1)=true∨decide (n.gate= -1)=false∧G.hasGate n.gate=true:=by
    rcases hs with hs | hs
    ·exact .inl (by simp[hs])
    ·by_cases e:n.gate= -1
     ·exact .inl (by simp[e])
     ·exact .inr ⟨by simp[e],hs⟩
   cases hd:decide ((G.nodes.length:Int)=80)
   ·have hne:¬ G.nodes.length=80:=by simp at hd;omega
    rw[if_neg hne]
    obtain⟨h',v',a1,a2,a3,a4,a5,a6,a7,a8,a9⟩:=yv (h.push [aK n]) h2 (row:=aK n) rfl (by simp;omega)
    have hwr:IntKind.wrap .i64 (((G.nodes.length+1:Nat):Int) - 1)=(G.nodes.length:Int):=by rw[w64]<;>omega
    refine⟨h'.set b (some [[v',sv]]),?_,dj.after hg1 (Cu g1 h3 a6 a7 a8 (by simpa using a9))⟩
    simp only[jd,List.length_map]at a1 a2
    rcases hs2 with hs2 | ⟨hs2,hs3⟩
    ·refine ah lV rfl ?_;unfold kz
     simp only[sim,ag,Nat.reduceAdd,Nat.reduceSub,List.replicate,reduceCtorEq,Nat.reduceLeDiff,Nat.reduceLT,aa,fB,mi,hc,hH,hs2,hd,h1,h2.isL.len,h2.isL.fits,List.length_map,a1,a2,a3,a4,a5,a6,hwr]
    ·refine ah lV rfl ?_;unfold kz
     simp only[sim,ag,Nat.reduceAdd,Nat.reduceSub,List.replicate,reduceCtorEq,Nat.reduceLeDiff,Nat.reduceLT,aa,fB,mi,hc,hH,hs2,hs3,hd,h1,h2.isL.len,h2.isL.fits,List.length_map,a1,a2,a3,a4,a5,a6,hwr]
   ·have he:G.nodes.length=80:=by simp at hd;omega
    rw[if_pos he]
    refine⟨h.push [aK n],?_,dj.grew g hg1⟩
    rcases hs2 with hs2 | ⟨hs2,hs3⟩
    ·refine ah lV rfl ?_;unfold kz
     simp only[sim,ag,Nat.reduceAdd,Nat.reduceSub,List.replicate,reduceCtorEq,Nat.reduceLeDiff,Nat.reduceLT,aa,fB,mi,hc,hH,hs2,hd,h1,h2.isL.len,h2.isL.fits,List.length_map]
    ·refine ah lV rfl ?_;unfold kz
     simp only[sim,ag,Nat.reduceAdd,Nat.reduceSub,List.replicate,reduceCtorEq,Nat.reduceLeDiff,Nat.reduceLT,aa,fB,mi,hc,hH,hs2,hs3,hd,h1,h2.isL.len,h2.isL.fits,List.length_map]
theorem OU (g:IsG h F J b G) (hW:G.Wf) (n:aV):∃ h',aj Try.prog po 105 [.ptr b 0 0,.agg (aK n)] h=some (.inl (.tup [.int .i64 (G.add n).2.1,.int .i64 (G.add n).2.2]),h')∧dj h F J b h' (G.add n).1:=by
 have hg1:=af.push h [aK n]
 have g1:=g.grew hg1
 have hbn:h.n≠b:=by have:=g.hb.2;omega
 obtain⟨nv,sv,h1,h2,h3⟩:=g1.ex
 have hfew:=hW.few
 have hH:=OE g1
 unfold ae.add
 skip
 cases hc:gU n.rights
 ·rw[if_pos rfl]
  refine⟨h.push [aK n],?_,dj.grew g hg1⟩
  refine ah lQ rfl ?_;unfold kh
  have hc':decide (n.rights<0)=true∨decide (n.rights<0)=false∧decide (15<n.rights)=true:=by
   simp[gU]at hc
   simp only[decide_eq_true_eq,decide_eq_false_iff_not]
   omega
  rcases hc' with hc' | ⟨hc',hc2⟩
  ·simp only[sim,ag,Nat.reduceAdd,Nat.reduceSub,List.replicate,reduceCtorEq,Nat.reduceLeDiff,Nat.reduceLT,aa,fB,hc']
  ·simp only[sim,ag,Nat.reduceAdd,Nat.reduceSub,List.replicate,reduceCtorEq,Nat.reduceLeDiff,Nat.reduceLT,aa,fB,hc',hc2]
 ·rw[if_neg (by simp)]
  have hr0:decide (n.rights<0)=false:=by simp[gU]at hc;simp;omega
  have hr1:decide (15<n.rights)=false:=by simp[gU]at hc;simp;omega
  have stop:(n.gate≠ -1∧G.hasGate n.gate=false)∨(n.gate= -1∨G.hasGate n.gate=true):=by
   by_cases e:n.gate= -1
   ·exact .inr (.inl e)
   ·cases hh:G.hasGate n.gate
    ·exact .inl ⟨e,rfl⟩
    ·exact .inr (.inr rfl)
  rcases stop with hs | hs
  ·rw[if_pos hs]
   refine⟨h.push [aK n],?_,dj.grew g hg1⟩
   obtain⟨s1,s2⟩:=hs
   refine ah lQ rfl ?_;unfold kh
   simp only[sim,ag,Nat.reduceAdd,Nat.reduceSub,List.replicate,reduceCtorEq,Nat.reduceLeDiff,Nat.reduceLT,aa,fB,hr0,hr1,hH,s1,s2]
  ·have hs':¬ (n.gate≠ -1∧G.hasGate n.gate=false):=by
    rintro⟨a,b⟩
    rcases hs with hs | hs
    ·exact a hs
    ·rw[b]at hs;cases hs
   rw[if_neg hs']
   have hs2:decide (n.gate= -1)=true∨decide (n.gate= -1)=false∧G.hasGate n.gate=true:=by
    rcases hs with hs | hs
    ·exact .inl (by simp[hs])
    ·by_cases e:n.gate= -1
     ·exact .inl (by simp[e])
     ·exact .inr ⟨by simp[e],hs⟩
   cases hd:decide (80≤(G.nodes.length:Int))
   ·have hne:¬ G.nodes.length=80:=by simp at hd;omega
    rw[if_neg hne]
    obtain⟨h',v',a1,a2,a3,a4,a5,a6,a7,a8,a9⟩:=yv (h.push [aK n]) h2 (row:=aK n) rfl (by simp;omega)
    have hwr:IntKind.wrap .i64 (((G.nodes.length+1:Nat):Int) - 1)=(G.nodes.length:Int):=by rw[w64]<;>omega
    refine⟨h'.set b (some [[v',sv]]),?_,dj.after hg1 (Cu g1 h3 a6 a7 a8 (by simpa using a9))⟩
    simp only[jd,List.length_map]at a1 a2
    rcases hs2 with hs2 | ⟨hs2,hs3⟩
    ·refine ah lQ rfl ?_;unfold kh
     simp only[sim,ag,Nat.reduceAdd,Nat.reduceSub,List.replicate,reduceCtorEq,Nat.reduceLeDiff,Nat.reduceLT,aa,fB,hr0,hr1,hH,hs2,hd,h1,h2.isL.len,h2.isL.fits,List.length_map,a1,a2,a3,a4,a5,a6,hwr]
    ·refine ah lQ rfl ?_;unfold kh
     simp only[sim,ag,Nat.reduceAdd,Nat.reduceSub,List.replicate,reduceCtorEq,Nat.reduceLeDiff,Nat.reduceLT,aa,fB,hr0,hr1,hH,hs2,hs3,hd,h1,h2.isL.len,h2.isL.fits,List.length_map,a1,a2,a3,a4,a5,a6,hwr]
   ·have he:G.nodes.length=80:=by simp at hd;omega
    rw[if_pos he]
    refine⟨h.push [aK n],?_,dj.grew g hg1⟩
    rcases hs2 with hs2 | ⟨hs2,hs3⟩
    ·refine ah lQ rfl ?_;unfold kh
     simp only[sim,ag,Nat.reduceAdd,Nat.reduceSub,List.replicate,reduceCtorEq,Nat.reduceLeDiff,Nat.reduceLT,aa,fB,hr0,hr1,hH,hs2,hd,h1,h2.isL.len,h2.isL.fits,List.length_map]
    ·refine ah lQ rfl ?_;unfold kh
     simp only[sim,ag,Nat.reduceAdd,Nat.reduceSub,List.replicate,reduceCtorEq,Nat.reduceLeDiff,Nat.reduceLT,aa,fB,hr0,hr1,hH,hs2,hs3,hd,h1,h2.isL.len,h2.isL.fits,List.length_map]
end
section
variable {h h' h0:AH} {F J F0 J0:Nat→Prop} {X Y Z:Asn} {L:List Asn}
theorem Did.same (x:X.A h F J):Did h F J h X:=⟨F,J,x,Chg.refl _ _ _,fun _=> .inl,fun _=> .inl⟩
theorem Did.imp (hxy:∀ h F J,X.A h F J→Y.A h F J) (d:Did h F J h' X):Did h F J h' Y:=by
 obtain⟨F',J',x,r⟩:=d
 exact⟨F',J',hxy _ _ _ x,r⟩
theorem Did.chain (ch:Chg F0 J0 h0 h) (a:∀ k,F k→F0 k∨h0.n≤k) (b:∀ j,J j→J0 j∨h0.ids≤j) (d:Did h F J h' Y):Did h0 F0 J0 h' Y:=by
 obtain⟨F2,J2,y,c2,a2,b2⟩:=d
 refine⟨F2,J2,y,ch.then c2 a b,fun k hk=> ?_,fun j hj=> ?_⟩
 ·rcases a2 k hk with h | h
  ·exact a k h
  ·exact .inr (Nat.le_trans ch.n h)
 ·rcases b2 j hj with h | h
  ·exact b j h
  ·exact .inr (Nat.le_trans ch.ids h)
theorem ui (x:(dA X Z).A h F J) {R:AH→Prop} (c:∀ F1 J1,X.A h F1 J1→∃ h',R h'∧Did h F1 J1 h' Y):∃ h',R h'∧Did h F J h' (dA Y Z):=by
 obtain⟨F1,J1,F2,J2,x1,z,hF,hJ,dF,dJ⟩:=x
 obtain⟨h',r,F3,J3,y,c3,a3,b3⟩:=c F1 J1 x1
 have zl:=Z.lt z
 refine⟨h',r,fun k=>F3 k∨F2 k,fun j=>J3 j∨J2 j,⟨F3,J3,F2,J2,y,Z.keep z c3 (fun k hk h1=>dF k h1 hk) (fun j hj h1=>dJ j h1 hj),fun _=>Iff.rfl,fun _=>Iff.rfl,fun k h3 h2=> ?_,fun j h3 h2=> ?_⟩,?_,fun k hk=> ?_,fun j hj=> ?_⟩
 ·rcases a3 k h3 with h | h
  ·exact dF k h h2
  ·have:=zl.1 k h2;omega
 ·rcases b3 j h3 with h | h
  ·exact dJ j h h2
  ·have:=zl.2 j h2;omega
 ·exact⟨c3.n,c3.ids,fun k hk hn=>c3.cell k hk fun h1=>hn ((hF k).2 (.inl h1)),fun j hj hn=>c3.hw j hj fun h1=>hn ((hJ j).2 (.inl h1))⟩
 ·rcases hk with h | h
  ·exact(a3 k h).imp (fun h=>(hF k).2 (.inl h)) id
  ·exact .inl ((hF k).2 (.inr h))
 ·rcases hj with h | h
  ·exact(b3 j h).imp (fun h=>(hJ j).2 (.inl h)) id
  ·exact .inl ((hJ j).2 (.inr h))
theorem jN (x:(dA X Y).A h F J):(dA Y X).A h F J:=by
 obtain⟨F1,J1,F2,J2,x1,z,hF,hJ,dF,dJ⟩:=x
 exact⟨F2,J2,F1,J1,z,x1,fun k=>(hF k).trans or_comm,fun j=>(hJ j).trans or_comm,fun k h2 h1=>dF k h1 h2,fun j h2 h1=>dJ j h1 h2⟩
theorem iX (x:(dA (dA X Y) Z).A h F J):(dA X (dA Y Z)).A h F J:=by
 obtain⟨F1,J1,F2,J2,⟨F3,J3,F4,J4,x3,y4,hF3,hJ3,dF3,dJ3⟩,z,hF,hJ,dF,dJ⟩:=x
 refine⟨F3,J3,fun k=>F4 k∨F2 k,fun j=>J4 j∨J2 j,x3,⟨F4,J4,F2,J2,y4,z,fun _=>Iff.rfl,fun _=>Iff.rfl,fun k h4=>dF k ((hF3 k).2 (.inr h4)),fun j h4=>dJ j ((hJ3 j).2 (.inr h4))⟩,fun k=> ?_,fun j=> ?_,fun k h3 h=> ?_,fun j h3 h=> ?_⟩
 ·rw[hF k,hF3 k,or_assoc]
 ·rw[hJ j,hJ3 j,or_assoc]
 ·rcases h with h | h
  ·exact dF3 k h3 h
  ·exact dF k ((hF3 k).2 (.inl h3)) h
 ·rcases h with h | h
  ·exact dJ3 j h3 h
  ·exact dJ j ((hJ3 j).2 (.inl h3)) h
theorem jZ (x:(dA X (dA Y Z)).A h F J):(dA Y (dA X Z)).A h F J:=by
 have a:=iX (jN x)
 obtain⟨F1,J1,F2,J2,y,zx,r⟩:=a
 exact⟨F1,J1,F2,J2,y,jN zx,r⟩
theorem fh {X' Y':Asn} (hx:∀ h F J,X.A h F J→X'.A h F J) (hy:∀ h F J,Y.A h F J→Y'.A h F J) (x:(dA X Y).A h F J):(dA X' Y').A h F J:=by
 obtain⟨F1,J1,F2,J2,x1,y1,r⟩:=x
 exact⟨F1,J1,F2,J2,hx _ _ _ x1,hy _ _ _ y1,r⟩
def St (h0:AH) (F0 J0:Nat→Prop) (h:AH) (L:List Asn):Prop:=Did h0 F0 J0 h (aY L)
theorem St.perm {L':List Asn} (hp:List.Perm L L'):∀ {h F J},(aY L).A h F J→(aY L').A h F J:=by
 induction hp with
 | nil=>exact fun x=>x
 | cons X _ ih=>exact fun x=>fh (fun _ _ _ y=>y) (fun _ _ _ y=>ih y) x
 | swap X Y l=>exact fun x=>jZ x
 | trans _ _ ih1 ih2=>exact fun x=>ih2 (ih1 x)
theorem aY.front:∀ {L:List Asn} {i:Nat} {X:Asn},L[i]? =some X→∀ {h F J},(aY L).A h F J↔(dA X (aY (L.eraseIdx i))).A h F J
 | [],i,X,hi,_,_,_=>by simp at hi
 | Y::L,0,X,hi,h,F,J=>by
   obtain rfl:Y=X:=by simpa using hi
   exact Iff.rfl
 | Y::L,i+1,X,hi,h,F,J=>by
   have ih:∀ {h:AH} {F J:Nat→Prop},(aY L).A h F J↔(dA X (aY (L.eraseIdx i))).A h F J:=aY.front (by simpa using hi)
   constructor
   ·intro x
    exact jZ (fh (fun _ _ _ y=>y) (fun _ _ _ y=>ih.1 y) x)
   ·intro x
    exact fh (fun _ _ _ y=>y) (fun _ _ _ y=>ih.2 y) (jZ x)
theorem aY.back {i:Nat} (hi:i<L.length) (x:(dA X (aY (L.eraseIdx i))).A h F J):(aY (L.set i X)).A h F J:=by
 rw[aY.front (L:=L.set i X) (i:=i) (X:=X) (by simp[hi])]
 rw[show(L.set i X).eraseIdx i=L.eraseIdx i from List.eraseIdx_set_eq]
 exact x
theorem St.call {R:AH→Prop} (s:St h0 F0 J0 h L) (i:Nat) (hi:L[i]? =some X) (c:∀ F J,X.A h F J→∃ h',R h'∧Did h F J h' Y):∃ h',R h'∧St h0 F0 J0 h' (L.set i Y):=by
 have hl:i<L.length:=(List.getElem?_eq_some_iff.1 hi).1
 obtain⟨F,J,x,ch,a,b⟩:=s
 obtain⟨h',r,d⟩:=ui ((aY.front hi).1 x) c
 exact⟨h',r,Did.chain ch a b (d.imp fun _ _ _ y=>aY.back hl y)⟩
theorem St.start (x:(aY L).A h F J):St h F J h L:=Did.same x
theorem St.get (s:St h0 F0 J0 h L) (i:Nat) (hi:L[i]? =some X):∃ F J,X.A h F J:=by
 obtain⟨F,J,x,_⟩:=s
 obtain⟨F1,J1,_,_,x1,_⟩:=(aY.front hi).1 x
 exact⟨F1,J1,x1⟩
theorem St.cell (s:St h0 F0 J0 h L) (i:Nat) {b:Nat} {es:List (List AV)} (hi:L[i]? =some (ai b es)):h.cell b=some es∧b<h.n:=by
 obtain⟨_,_,_,_,c,d⟩:=s.get i hi
 exact⟨d,c⟩
theorem St.imp {L':List Asn} (s:St h0 F0 J0 h L) (hx:∀ h F J,(aY L).A h F J→(aY L').A h F J):St h0 F0 J0 h L':=Did.imp hx s
theorem St.grew (s:St h0 F0 J0 h L) (g:af h h'):St h0 F0 J0 h' L:=by
 obtain⟨F,J,x,ch,a,b⟩:=s
 have lt:=(aY L).lt x
 exact⟨F,J,(aY L).keep x (g.chg (fun _=>False) fun _=>False) (fun _ _ h=>h) (fun _ _ h=>h),ch.trans (g.chg _ _),a,b⟩
theorem St.add (s:St h0 F0 J0 h L) (g:af h h') {F1 J1:Nat→Prop} (x1:X.A h' F1 J1) (hF:∀ k,F1 k→h.n≤k) (hJ:∀ j,J1 j→h.ids≤j):St h0 F0 J0 h' (X::L):=by
 obtain⟨F,J,x,ch,a,b⟩:=s
 have lt:=(aY L).lt x
 have x':=(aY L).keep x (g.chg (fun _=>False) fun _=>False) (fun _ _ h=>h) (fun _ _ h=>h)
 refine⟨fun k=>F1 k∨F k,fun j=>J1 j∨J j,⟨F1,J1,F,J,x1,x',fun _=>Iff.rfl,fun _=>Iff.rfl,fun k h1 h2=> ?_,fun j h1 h2=> ?_⟩,ch.trans (g.chg _ _),fun k hk=> ?_,fun j hj=> ?_⟩
 ·have:=lt.1 k h2;have:=hF k h1;omega
 ·have:=lt.2 j h2;have:=hJ j h1;omega
 ·exact hk.elim (fun h=> .inr (Nat.le_trans ch.n (hF k h))) (a k)
 ·exact hj.elim (fun h=> .inr (Nat.le_trans ch.ids (hJ j h))) (b j)
theorem St.push (s:St h0 F0 J0 h L) (es:List (List AV)):St h0 F0 J0 (h.push es) (ai h.n es::L):=
 s.add (af.push h es) (F1:=fun k=>k=h.n) (J1:=fun _=>False) ⟨fun _=>Iff.rfl,fun _ h=>h,Nat.lt_succ_self _,aE⟩ (fun k hk=>Nat.le_of_eq hk.symm) (fun _ h=>h.elim)
theorem St.fresh (s:St h0 F0 J0 h L) (m:Nat):St h0 F0 J0 (h.fresh m) (idA h.ids m::L):=
 s.add (af.fresh h m) (F1:=fun _=>False) (J1:=fun j=>j=h.ids) ⟨fun _ h=>h,fun _=>Iff.rfl,Nat.lt_succ_self _,by simp[AH.fresh]⟩ (fun _ h=>h.elim) (fun j hj=>Nat.le_of_eq hj.symm)
theorem St.set (s:St h0 F0 J0 h L) (i:Nat) {b:Nat} {es:List (List AV)} (hi:L[i]? =some (ai b es)) (fs:List (List AV)):St h0 F0 J0 (h.set b (some fs)) (L.set i (ai b fs)):=by
 obtain⟨h',rfl,d⟩:=s.call (R:=fun q=>q=h.set b (some fs)) i hi (Y:=ai b fs) fun F J ⟨a1,a2,a3,a4⟩=>⟨_,rfl,F,J,⟨a1,a2,a3,aQ⟩,⟨Nat.le_refl _,Nat.le_refl _,fun k _ hk=>be fun e=>hk ((a1 k).2 e),fun _ _ _=>rfl⟩,fun _=> .inl,fun _=> .inl⟩
 exact d
theorem St.del (s:St h0 F0 J0 h L) (i:Nat) {b:Nat} {es:List (List AV)} (hi:L[i]? =some (ai b es)):St h0 F0 J0 (h.set b none) (L.set i (wx True)):=by
 obtain⟨h',rfl,d⟩:=s.call (R:=fun q=>q=h.set b none) i hi (Y:=wx True) fun F J ⟨a1,a2,a3,a4⟩=>⟨_,rfl,fun _=>False,fun _=>False,⟨trivial,fun _ h=>h,fun _ h=>h⟩,⟨Nat.le_refl _,Nat.le_refl _,fun k _ hk=>be fun e=>hk ((a1 k).2 e),fun _ _ _=>rfl⟩,fun _ h=>h.elim,fun _ h=>h.elim⟩
 exact d
theorem St.drop (s:St h0 F0 J0 h (X::L)):St h0 F0 J0 h L:=by
 obtain⟨F,J,⟨F1,J1,F2,J2,_,x2,hF,hJ,_,_⟩,ch,a,b⟩:=s
 exact⟨F2,J2,x2,ch,fun k hk=>a k ((hF k).2 (.inr hk)),fun j hj=>b j ((hJ j).2 (.inr hj))⟩
end
end Go.Proofs.Ytkdbjfncchmmpaa
