/- What simple steps come to: for 'simp only'. -/
import Derived.Test.YtkdbjfncchmmpaaMg3
import Derived.Test.YtkdbjfncchmmpaaRows
import Derived.Recover
import Derived.ProofKit
import Derived.OpenShut
import Derived.ShutString
import Derived.ChangeOld
import Derived.Deep.Slices
import Derived.Deep.Fields
import Derived.Lib.SmallJoins
namespace Go.Proofs.Ytkdbjfncchmmpaa
open Nat (reduceAdd reduceSub reduceLeDiff reduceLT)
open List (replicate)
set_option linter.unusedSimpArgs false
set_option linter.unusedVariables false
open Go
section
variable {C:wn} {nv:Nat} {k:List RK} {V L:List AV} {h h0:AH} {kd:Kd} {q:IntKind}
theorem Mf {a b:Int}:bw kd .add (.int q a) (.int q b)=some (.int q (q.wrap (a+b))):=by simp[bw,ly]
theorem MW {a b:Int}:bw kd .sub (.int q a) (.int q b)=some (.int q (q.wrap (a - b))):=by simp[bw,ly]
theorem MB {a b:Int}:bw kd .mul (.int q a) (.int q b)=some (.int q (q.wrap (a*b))):=by simp[bw,ly]
theorem MD {a b:Int}:bw kd .eql (.int q a) (.int q b)=some (.bool (decide (a=b))):=by simp[bw,ly];rfl
theorem Mg {a b:Int}:bw kd .neq (.int q a) (.int q b)=some (.bool (!decide (a=b))):=by simp[bw,ly];rfl
theorem MR {a b:Int}:bw kd .lss (.int q a) (.int q b)=some (.bool (decide (a<b))):=by simp[bw,ly]
theorem MY {a b:Int}:bw kd .leq (.int q a) (.int q b)=some (.bool (decide (a≤b))):=by simp[bw,ly]
theorem MP {a b:Int}:bw kd .gtr (.int q a) (.int q b)=some (.bool (decide (b<a))):=by simp[bw,ly]
theorem Mr {a b:Int}:bw kd .geq (.int q a) (.int q b)=some (.bool (decide (b≤a))):=by simp[bw,ly]
theorem MI {a b:Int}:bw kd .and (.int q a) (.int q b)=some (.int q (q.wrap (BitVec.ofInt q.bits a &&& BitVec.ofInt q.bits b).toNat)):=by simp[bw,ly]
theorem OW {a b:Int}:bw kd .or (.int q a) (.int q b)=some (.int q (q.wrap (BitVec.ofInt q.bits a ||| BitVec.ofInt q.bits b).toNat)):=by simp[bw,ly]
theorem zd {a b:Int}:bw kd .andNot (.int q a) (.int q b)=some (.int q (q.wrap (BitVec.ofInt q.bits a &&& ~~~(BitVec.ofInt q.bits b)).toNat)):=by simp[bw,ly]
theorem Ha {a b:List UInt8}:bw kd .eql (.str a) (.str b)=some (.bool (decide (a=b))):=by by_cases hh:a=b<;>simp[bw,hh]
theorem IK {a b:List UInt8}:bw kd .neq (.str a) (.str b)=some (.bool (!decide (a=b))):=by by_cases hh:a=b<;>simp[bw,hh]
theorem HQ {a b:Bool}:bw .bool .eql (.bool a) (.bool b)=some (.bool (a==b)):=by simp[bw,eqA]
theorem GN {a b:Bool}:bw .bool .neq (.bool a) (.bool b)=some (.bool (!(a==b))):=by simp[bw,eqA]
theorem Jv {z:TypeId} {es:List (List AV)} {i:Option Nat}:bw .slice .eql (.isl i z es) .nils=some (.bool false):=by simp[bw,eqA]
theorem vv:bw .slice .eql .nils .nils=some (.bool true):=by simp[bw,eqA]
theorem DY {b o n:Nat} {z:TypeId}:bw .slice .eql (.msl b o n z) .nils=some (.bool false):=by simp[bw,eqA]
theorem Mn {b:Bool}:unA .not (.bool b)=some (.bool !b):=rfl
theorem Md {a:Int}:unA .neg (.int q a)=some (.int q (q.wrap (0 - a))):=rfl
theorem MC {p:IntKind} {a:Int}:cvA (.int q) (.int p a)=some (.int q (q.wrap a)):=rfl
theorem MX {s:List UInt8}:cvA .str (.str s)=some (.str s):=rfl
theorem bD {agg:Bool} {n b i off:Nat}:aE agg n h (.ptr b i off)=((h.cell b).bind (·[i]?)).bind fun e=>ldA agg n e off:=rfl
theorem O5 {agg:Bool} {n off:Nat} {e:List AV}:aE agg n h (.ip e off)=ldA agg n e off:=rfl
theorem fL {n off:Nat} {e:List AV}:ldA false n e off=e[off]? :=rfl
theorem bo {n:Nat} {e:List AV} (he:e.length=n):ldA true n e 0=some (.agg e):=by subst he;simp[ldA]
theorem xS {e el:TypeId} {id:Option Nat} {es:List (List AV)} {i:Nat} {r:List AV} (he:e=el) (hi:es[i]? =some r):bT (some e) none (.isl id el es) (.int q (i:Int))=some (.ip r 0):=by simp[bT,he,hi]
theorem rA {e el:TypeId} {b o n i:Nat} (he:e=el) (hi:i<n):bT (some e) none (.msl b o n el) (.int q (i:Int))=some (.ptr b (o+i) 0):=by simp[bT,he,hi]
theorem MS {b i o off:Nat}:aI off (.ptr b i o)=some (.ptr b i (o+off)):=rfl
theorem OM {e:List AV} {o off:Nat}:aI off (.ip e o)=some (.ip e (o+off)):=rfl
theorem MU {b i o:Nat}:zU (.ptr b i o)=some (.ptr b i o):=rfl
theorem PP {e:List AV} {o:Nat}:zU (.ip e o)=some (.ip e o):=rfl
theorem zQ:dR .nils=some 0:=rfl
theorem Eg {id:Option Nat} {el:TypeId} {es:List (List AV)}:dR (.isl id el es)=some es.length:=rfl
theorem CO {b o n:Nat} {el:TypeId}:dR (.msl b o n el)=some n:=rfl
theorem DC {s:List UInt8}:dR (.str s)=some s.length:=rfl
theorem vr {s:Bool} {e:TypeId}:de s (some e) .nils=true:=rfl
theorem kj {s:Bool} {e:TypeId} {id:Option Nat} {es:List (List AV)}:de s (some e) (.isl id e es)=true:=by simp[de]
theorem km {s:Bool} {e:TypeId} {b o n:Nat}:de s (some e) (.msl b o n e)=true:=by simp[de]
theorem zL {e:Option TypeId} {l:List UInt8}:de true e (.str l)=true:=rfl
theorem aO {b:Nat} {es:Option (List (List AV))}:(h.set b es).cell b=es:=by simp[AH.set]
theorem bc {b j:Nat} {es:Option (List (List AV))} (hj:j≠b):(h.set b es).cell j=h.cell j:=by simp[AH.set,hj]
theorem eh {b:Nat} {es:Option (List (List AV))}:(h.set b es).n=h.n:=rfl
theorem mA {b:Nat} {es:Option (List (List AV))}:(h.set b es).ids=h.ids:=rfl
theorem pk {b:Nat} {es:Option (List (List AV))}:(h.set b es).hw=h.hw:=rfl
theorem aC {es:List (List AV)}:(h.push es).cell h.n=some es:=by simp[AH.push]
theorem iT {es:List (List AV)} {j:Nat} (hj:j≠h.n):(h.push es).cell j=h.cell j:=by simp[AH.push,hj]
theorem aM {es:List (List AV)}:(h.push es).n=h.n+1:=rfl
theorem hU {es:List (List AV)}:(h.push es).ids=h.ids:=rfl
theorem Db {es:List (List AV)}:(h.push es).hw=h.hw:=rfl
theorem sW {m:Nat}:(h.fresh m).cell=h.cell:=rfl
theorem DU {m:Nat}:(h.fresh m).n=h.n:=rfl
theorem pZ {m:Nat}:(h.fresh m).ids=h.ids+1:=rfl
theorem jW {m:Nat}:(h.fresh m).hw h.ids=m:=by simp[AH.fresh]
theorem ia {m j:Nat} (hj:j≠h.ids):(h.fresh m).hw j=h.hw j:=by simp[AH.fresh,hj]
theorem wh {i m:Nat}:(h.grow i m).cell=h.cell:=rfl
theorem JI {i m:Nat}:(h.grow i m).n=h.n:=rfl
theorem Aq {i m:Nat}:(h.grow i m).ids=h.ids:=rfl
theorem CP {i m:Nat}:(h.grow i m).hw i=m:=by simp[AH.grow]
theorem tW {i m j:Nat} (hj:j≠i):(h.grow i m).hw j=h.hw j:=by simp[AH.grow,hj]
def Acc (h0 h:AH) (e:TypeId) (v:AV) (acc:List (List AV)):Prop:=(acc=[]∧v= .nils)∨∃ id,acc≠[]∧h0.ids≤id∧id<h.ids∧h.hw id=acc.length∧v= .isl (some id) e acc
theorem mD (h0 h:AH) (e:TypeId):Acc h0 h e .nils []:= .inl ⟨rfl,rfl⟩
theorem mF {e:TypeId} {v:AV} {acc:List (List AV)} (ha:Acc h0 h e v acc) (g:af h0 h) {row:List AV} (h1:row.all AV.one=true) (hl:acc.length≤1000000):
  ∃ v' h',aF false e v (.isl (some h.ids) e [row]) (h.fresh 1)=some (v',h')∧Acc h0 h' e v' (acc++[row])∧af h0 h'∧h'.cell=h.cell∧h'.n=h.n:=by
 have g1:af h0 (h.fresh 1):=g.trans (af.fresh h 1)
 have h1':∀ x,x∈row→x.one=true:=by simpa using h1
 rcases ha with⟨rfl,rfl⟩ | ⟨id,a0,a1,a2,a3,rfl⟩
 ·refine⟨.isl (some (h.ids+1)) e [row],(h.fresh 1).fresh 1,?_,.inr ⟨h.ids+1,by simp,?_,?_,?_,by simp⟩,g1.trans (af.fresh _ 1),rfl,rfl⟩
  ·simp only[aF,bM,if_true,Option.bind_some,List.length_singleton,Nat.one_ne_zero,if_false,eF]
   rw[if_pos ⟨by omega,by omega,by simpa using h1'⟩]
   rfl
  ·have:=g.ids;omega
  ·simp[AH.fresh]
  ·simp[AH.fresh]
 ·have hne:id≠h.ids:=by omega
  refine⟨.isl (some id) e (acc++[row]),(h.fresh 1).grow id (acc.length+1),?_,.inr ⟨id,by simp,a1,?_,?_,rfl⟩,g1.grow a1,rfl,rfl⟩
  ·simp only[aF,bM,if_true,Option.bind_some,List.length_singleton,Nat.one_ne_zero,if_false,eF]
   rw[if_pos ⟨by omega,by omega,by simpa using h1'⟩,ia hne,a3]
   simp only[true_and,hl,if_true]
  ·simp[AH.grow,AH.fresh];omega
  ·simp[AH.grow]
def lF:AV→Bool
 | .bool _ | .int _ _ | .str _ | .nilp | .nils | .nilf | .nili=>true
 | _=>false
theorem JU {v:AV} (h:lF v=true):wkA v=some v:=by cases v<;>simp_all [lF,wkA]
theorem Ay:∀ {l:List AV},l.all lF=true→wkL l=some l
 | [],_=>rfl
 | v::l,h=>by
   simp only[List.all_cons,Bool.and_eq_true]at h
   simp[wkL,JU h.1,Ay h.2]
theorem i7:∀ {l:List (List AV)},(∀ r∈l,r.all lF=true)→wkR l=some l
 | [],_=>rfl
 | v::l,h=>by simp only[wkR,Ay (h v (List.mem_cons_self ..)),i7 fun r hr=>h r (List.mem_cons_of_mem _ hr)]
def cQ (e:TypeId) (es:List (List AV)):AV:=if es=[]then .nils else .isl none e es
theorem xe {e:TypeId} {v:AV} {acc:List (List AV)} (ha:Acc h0 h e v acc) (hf:∀ r∈acc,r.all lF=true):wkA v=some (cQ e acc):=by
 rcases ha with⟨rfl,rfl⟩ | ⟨id,a0,_,a2,a3,rfl⟩
 ·rfl
 ·simp only[wkA,i7 hf,Option.map_some,cQ,if_neg a0]
structure IsL (e:TypeId) (v:AV) (rows:List (List AV)):Prop where
 len:dR v=some rows.length
 fits:∀ s,de s (some e) v=true
 ix:∀ (q:IntKind) (i:Nat) row,rows[i]? =some row→bT (some e) none v (.int q (i:Int))=some (.ip row 0)
theorem kJ (id:Option Nat) (e:TypeId) (rows:List (List AV)):IsL e (.isl id e rows) rows:=⟨rfl,fun s=>kj,fun q i row h=>xS rfl h⟩
theorem jv (e:TypeId):IsL e .nils []:=⟨rfl,fun s=>rfl,fun q i row h=>by simp at h⟩
theorem iK (e:TypeId) (rows:List (List AV)):IsL e (cQ e rows) rows:=by
 unfold cQ
 split
 ·rename_i h
  subst h
  exact jv e
 ·exact kJ _ _ _
theorem Dz {e:TypeId} {v:AV} {acc:List (List AV)} (ha:Acc h0 h e v acc):IsL e v acc:=by
 rcases ha with⟨rfl,rfl⟩ | ⟨id,_,_,_,_,rfl⟩
 ·exact jv e
 ·exact kJ _ _ _
def gB (w:Bool):AV→Option Bool
 | .bool b=>some (if w then b else !b)
 | .tup _=>some false
 | _=>none
theorem Gz {w:Bool} {vs:List AV}:gB w (.tup vs)=some false:=rfl
theorem N1 {a:Arg} {w:Bool}:ng V L a w=gB w (arg V L a):=by unfold ng gB;cases arg V L a<;>rfl
theorem DB {b w:Bool}:gB w (.bool b)=some (if w=true then b else !b):=rfl
theorem M4 {i id:Nat}:fx id (.blk i::k)=if i=id then some k else fx id k:=rfl
theorem O0 {l:List RS} {id:Nat}:fx id (.ss l::k)=fx id k:=rfl
theorem OR {l:List RS} {id:Nat}:fx id (.lp l::k)=fx id k:=rfl
theorem Nh {l:List RI} {id:Nat}:fx id (.ops l::k)=fx id k:=rfl
theorem DF:fz V h []=some []:=rfl
theorem MA {j:Nat} {rs:List k9}:fz V h (.v j::rs)=(fz V h rs).map fun l=>V.getD j .junk::l:=rfl
theorem ze {agg:Bool} {n j:Nat} {rs:List k9}:fz V h (.cell agg n j::rs)=(aE agg n h (V.getD j .junk)).bind fun v=>(fz V h rs).map fun l=>v::l:=rfl
theorem Mx:fU []= .tup []:=rfl
theorem Mw {a:AV}:fU [a]=a:=rfl
theorem M9 {a b:AV}:fU [a,b]= .tup [a,b]:=rfl
theorem MJ {a b c:AV}:fU [a,b,c]= .tup [a,b,c]:=rfl
theorem Hd {a d:AV} {l:List AV}:(a::l).getD 0 d=a:=rfl
theorem Gx {a d:AV} {l:List AV} {n:Nat}:(a::l).getD (n+1) d=l.getD n d:=rfl
theorem Ms {d:AV} {n:Nat}:([]:List AV).getD n d=d:=rfl
theorem JD {a b:AV} {l:List AV}:(a::l).set 0 b=b::l:=rfl
theorem Iy {a b:AV} {l:List AV} {n:Nat}:(a::l).set (n+1) b=a::l.set n b:=rfl
theorem GS {α:Type} {a:α} {l:List α}:(a::l)[0]? =some a:=rfl
theorem JB {α:Type} {a:α} {l:List α} {n:Nat}:(a::l)[n+1]? =l[n]? :=rfl
theorem Mc {α:Type} {n:Nat}:([]:List α)[n]? =none:=rfl
theorem uJ {cs:List AV}:(AV.agg cs).cells=cs:=rfl
theorem vH {n:Int}:(AV.int q n).cells=[.int q n]:=rfl
theorem tf {b:Bool}:(AV.bool b).cells=[.bool b]:=rfl
theorem vM {b:List UInt8}:(AV.str b).cells=[.str b]:=rfl
theorem sw:AV.nils.cells=[.nils]:=rfl
theorem sd:AV.nilp.cells=[.nilp]:=rfl
theorem vh {i:Option Nat} {z:TypeId} {es:List (List AV)}:(AV.isl i z es).cells=[.isl i z es]:=rfl
theorem uI {b o n:Nat} {z:TypeId}:(AV.msl b o n z).cells=[.msl b o n z]:=rfl
theorem vK {b o n:Nat}:(AV.ptr b o n).cells=[.ptr b o n]:=rfl
theorem CT {n:Int}:(AV.int q n).one=true:=rfl
theorem zT {b:Bool}:(AV.bool b).one=true:=rfl
theorem Dp {b:List UInt8}:(AV.str b).one=true:=rfl
theorem zj:AV.nils.one=true:=rfl
theorem AF:AV.nilp.one=true:=rfl
theorem CR {i:Option Nat} {z:TypeId} {es:List (List AV)}:(AV.isl i z es).one=true:=rfl
theorem C7 {b o n:Nat} {z:TypeId}:(AV.msl b o n z).one=true:=rfl
theorem Ed {b o n:Nat}:(AV.ptr b o n).one=true:=rfl
theorem vp {t:TypeId} {v:AV}:(AV.iface t v).one=true:=rfl
theorem zY {p:AV→Bool} {a:AV} {l:List AV}:(a::l).all p=(p a && l.all p):=rfl
theorem DP {p:AV→Bool}:([]:List AV).all p=true:=rfl
theorem DZ {vs:List AV} {i:Nat}:Ou (.tup vs) i=vs[i]? :=rfl
theorem Ah {pl:List (Nat×Nat)} {cs:List AV}:iu pl cs []=some cs:=by cases pl<;>rfl
def f1A (pl:List (Nat×Nat)) (cs:List AV) (v:AV) (r:List (Nat×AV)):Option (Nat×Nat)→Option (List AV)
 | some (off,size)=>if v.cells.length=size∧off+size≤cs.length∧v.cells.all AV.one=true then iu pl (stA cs off v.cells) r else none
 | none=>none
theorem uK {pl:List (Nat×Nat)} {cs:List AV} {i:Nat} {v:AV} {r:List (Nat×AV)}:iu pl cs ((i,v)::r)=f1A pl cs v r pl[i]? :=by
 conv=>lhs;unfold iu
 cases pl[i]? with
 | none=>rfl
 | some q=>rfl
theorem vt {pl:List (Nat×Nat)} {cs:List AV} {off size:Nat} {v:AV} {r:List (Nat×AV)} (h1:v.cells.length=size) (h2:off+size≤cs.length) (h3:v.cells.all AV.one=true):
  f1A pl cs v r (some (off,size))=iu pl (stA cs off v.cells) r:=by simp[f1A,h1,h2,h3]
def s1A (n:Nat) (h:AH) (b i off:Nat) (cs:List AV):Option (List (List AV))→Option AH
 | some es=>(es[i]?).bind fun e=>if cs.all AV.one=true∧cs.length=n∧off+n≤e.length then some (h.set b (some (es.set i (stA e off cs))))else none
 | none=>none
def s2A (n:Nat) (h:AH) (b i off:Nat) (cs:List AV) (es:List (List AV)):Option (List AV)→Option AH
 | some e=>if cs.all AV.one=true∧cs.length=n∧off+n≤e.length then some (h.set b (some (es.set i (stA e off cs))))else none
 | none=>none
theorem s_1 {n b i off:Nat} {x:AV}:aJ n h (.ptr b i off) x=s1A n h b i off x.cells (h.cell b):=by
 simp only[aJ]
 cases h.cell b<;>rfl
theorem s_2 {n b i off:Nat} {cs:List AV} {es:List (List AV)}:s1A n h b i off cs (some es)=s2A n h b i off cs es es[i]? :=by
 simp only[s1A]
 cases es[i]? <;>rfl
theorem s_3 {n b i off:Nat} {cs:List AV} {es:List (List AV)} {e:List AV} (h1:cs.all AV.one=true) (h2:cs.length=n) (h3:off+n≤e.length):s2A n h b i off cs es (some e)=some (h.set b (some (es.set i (stA e off cs)))):=by simp[s2A,h1,h2,h3]
theorem vZ {n:Nat} {es:List (List AV)}:ke n es []=some es:=by cases es<;>rfl
theorem sV {n:Nat} {es:List (List AV)} {i:Nat} {v:AV} {r:List (Nat×AV)} (h1:v.cells.length=n) (h2:i<es.length) (h3:v.cells.all AV.one=true):ke n es ((i,v)::r)=ke n (es.set i v.cells) r:=by
 conv=>lhs;unfold ke
 simp[h1,h2,h3]
theorem HR {e cs:List AV} (he:e.length=cs.length):stA e 0 cs=cs:=by simp[stA,he]
theorem GF {e:List AV}:stA e 0 []=e:=by simp[stA]
theorem Dw {a c:AV} {e cs:List AV}:stA (a::e) 0 (c::cs)=c::stA e 0 cs:=by simp[stA]
theorem Ec {a:AV} {e cs:List AV} {n:Nat}:stA (a::e) (n+1) cs=a::stA e n cs:=by simp[stA,Nat.add_right_comm]
theorem CN {b:Nat} {x y:Option (List (List AV))}:(h.set b x).set b y=h.set b y:=by
 unfold AH.set
 congr 1
 funext j
 by_cases hj:j=b<;>simp[hj]
theorem bm {x y:List (List AV)}:(h.push x).set h.n (some y)=h.push y:=by
 unfold AH.push AH.set
 congr 1
 funext j
 by_cases hj:j=h.n<;>simp[hj]
theorem D0:uz V L h []=True:=rfl
theorem yY {agg:Bool} {n:Nat} {a d:Arg} {r:List RCk}:uz V L h (⟨none,agg,n,a,d⟩::r)=(aE agg n h (arg V L a)=some (arg V L d)∧uz V L h r):=rfl
theorem zz {agg:Bool} {n:Nat} {g a d:Arg} {w:Bool} {r:List RCk}:uz V L h (⟨some (g,w),agg,n,a,d⟩::r)=((match gB w (arg V L g)with | some true=>aE agg n h (arg V L a)=some (arg V L d) | _=>True)∧uz V L h r):=by
 simp only[uz,pC,N1]<;>rfl
theorem oB {b:Bool}:fgA true h (.inl (.bool b),h)=some (.inl (.bool b),h):=aA (af.refl h) rfl
theorem Il {n:Int}:fgA true h (.inl (.int q n),h)=some (.inl (.int q n),h):=aA (af.refl h) rfl
theorem HF {n:List UInt8}:fgA true h (.inl (.str n),h)=some (.inl (.str n),h):=aA (af.refl h) rfl
theorem w64 {n:Int} (h1: -9223372036854775808≤n) (h2:n≤9223372036854775807):IntKind.wrap .i64 n=n:=by
 rw[IntKind.wrap_i64]
 omega
theorem bO {a b:List (List AV)}:((h.push a).push b).cell (h.n+1)=some b:=by simp[AH.push]
theorem eS {a b:List (List AV)}:((h.push a).push b).cell h.n=some a:=by simp[AH.push]
theorem jR {a x y:List (List AV)}:((h.push a).push x).set (h.n+1) (some y)=(h.push a).push y:=bm (h:=h.push a)
theorem fI {a b c:List (List AV)}:(((h.push a).push b).push c).cell (h.n+1+1)=some c:=by simp[AH.push]
theorem kL {a b c:List (List AV)}:(((h.push a).push b).push c).cell (h.n+1)=some b:=by simp[AH.push]
theorem iJ {a b c:List (List AV)}:(((h.push a).push b).push c).cell h.n=some a:=by simp[AH.push,show ¬ h.n=h.n+1+1 by omega]
theorem vb {a b x y:List (List AV)}:(((h.push a).push b).push x).set (h.n+1+1) (some y)=((h.push a).push b).push y:=bm (h:=(h.push a).push b)
theorem aL {es:List (List AV)} {j:Nat} (hj:j<h.n):(h.push es).cell j=h.cell j:=iT (by omega)
theorem aB {b b':List RS} (hb:b=b'):aq C nv (.lp b::k) V L h=aq C nv (.ss b':: .lp b::k) (aa nv V) L h:=by subst hb;exact Qd
theorem Ig {agg:Bool} {n b:Nat} {t:TypeId}:aE agg n h (.tptr t b)=((h.cell b).bind (·[0]?)).bind fun e=>ldA agg n e 0:=rfl
theorem Dx {t:TypeId} {b:Nat}:aI 0 (.tptr t b)=some (.tptr t b):=rfl
theorem C2 {t:TypeId} {b:Nat}:aI 1 (.tptr t b)=some (.ptr b 0 1):=rfl
theorem Dc {t:TypeId} {b:Nat}:aI 2 (.tptr t b)=some (.ptr b 0 2):=rfl
theorem Dn {t:TypeId} {b:Nat}:aI 3 (.tptr t b)=some (.ptr b 0 3):=rfl
theorem HX {t:TypeId} {b:Nat}:zU (.tptr t b)=some (.tptr t b):=rfl
theorem OX {n b:Nat} {t:TypeId} {x:AV}:aJ n h (.tptr t b) x=s1A n h b 0 0 x.cells (h.cell b):=by
 simp only[aJ]
 cases h.cell b<;>rfl
theorem rn {t:TypeId} {b:Nat}:(AV.tptr t b).cells=[.tptr t b]:=rfl
theorem yO {t:TypeId} {b:Nat}:(AV.tptr t b).one=true:=rfl
theorem Hf {a b:Int}:mmA false (.int q a) (.int q b)=some (.int q (if b<a then b else a)):=rfl
theorem Im {a b:Int}:mmA true (.int q a) (.int q b)=some (.int q (if b>a then b else a)):=rfl
theorem Ma {a b:Int}:bw kd .rem (.int q a) (.int q b)=if b=0 then none else some (.int q (a.tmod b)):=by simp[bw,ly]
theorem Ij {b i o:Nat}:bw .ptr .eql (.ptr b i o) .nilp=some (.bool false):=by simp[bw,eqA]
theorem CZ {t:TypeId} {b:Nat}:bw .ptr .eql (.tptr t b) .nilp=some (.bool false):=by simp[bw,eqA]
theorem M8:bw .ptr .eql .nilp .nilp=some (.bool true):=by simp[bw,eqA]
theorem Dk {b i o:Nat}:bw .ptr .neq (.ptr b i o) .nilp=some (.bool true):=by simp[bw,eqA]
theorem yu {t:TypeId} {b:Nat}:bw .ptr .neq (.tptr t b) .nilp=some (.bool true):=by simp[bw,eqA]
theorem Hb:bw .ptr .neq .nilp .nilp=some (.bool false):=by simp[bw,eqA]
theorem I7 {t:TypeId} {v:AV} {ks:Option (List Kd)} {cy:Bool}:mH .iface ks cy .neq (.iface t v) .nili=some (.bool true):=by simp[mH,bw,eqA]
theorem Nc {ks:Option (List Kd)}:mH .iface ks true .neq .nili .nili=some (.bool false):=by simp[mH,Oc]
theorem D6 {t:TypeId} {v:AV} {ks:Option (List Kd)} {cy:Bool}:mH .iface ks cy .eql (.iface t v) .nili=some (.bool false):=by simp[mH,bw,eqA]
theorem Gc {ks:Option (List Kd)}:mH .iface ks true .eql .nili .nili=some (.bool true):=by simp[mH,Oc]
theorem ag:(type_of% @List.length_cons.{0})∧(type_of% @List.length_nil.{0})∧(type_of% @List.cons_append.{0})∧(type_of% @List.nil_append.{0})∧(type_of% @List.map_cons.{0,0})∧(type_of% @List.map_nil.{0,0})∧(type_of% @Option.bind_some.{0,0})∧(type_of% @Option.map_some.{0,0})∧(type_of% @Option.bind_none.{0,0})∧(type_of% @Option.map_none.{0,0})∧(type_of% @if_true.{1})∧(type_of% @if_false.{1})∧(type_of% @decide_true)∧(type_of% @decide_false)∧(type_of% @Bool.false_eq_true)∧(type_of% @Bool.true_eq_false)∧(type_of% @Bool.not_true)∧(type_of% @Bool.not_false)∧(type_of% @Bool.and_true)∧(type_of% @Bool.true_and)∧(type_of% @Bool.and_false)∧(type_of% @Bool.false_and)∧(type_of% @Bool.or_true)∧(type_of% @Bool.true_or)∧(type_of% @Bool.or_false)∧(type_of% @Bool.false_or)∧(type_of% @true_and)∧(type_of% @and_true)∧(type_of% @false_and)∧(type_of% @and_false)∧(type_of% @List.take_zero.{0})∧(type_of% @List.take_succ_cons.{0})∧(type_of% @List.drop_zero.{0})∧(type_of% @List.drop_succ_cons.{0})∧(type_of% @List.take_nil.{0})∧(type_of% @List.drop_nil.{0})∧(type_of% @List.set_cons_zero.{0})∧(type_of% @List.set_cons_succ.{0})∧(type_of% @Nat.zero_add)∧(type_of% @Nat.lt_add_one)∧(type_of% @Nat.le_refl)∧(type_of% @Int.toNat_natCast):=
 ⟨@List.length_cons.{0},@List.length_nil.{0},@List.cons_append.{0},@List.nil_append.{0},@List.map_cons.{0,0},@List.map_nil.{0,0},@Option.bind_some.{0,0},@Option.map_some.{0,0},@Option.bind_none.{0,0},@Option.map_none.{0,0},@if_true.{1},@if_false.{1},@decide_true,@decide_false,@Bool.false_eq_true,@Bool.true_eq_false,@Bool.not_true,@Bool.not_false,@Bool.and_true,@Bool.true_and,@Bool.and_false,@Bool.false_and,@Bool.or_true,@Bool.true_or,@Bool.or_false,@Bool.false_or,@true_and,@and_true,@false_and,@and_false,@List.take_zero.{0},@List.take_succ_cons.{0},@List.drop_zero.{0},@List.drop_succ_cons.{0},@List.take_nil.{0},@List.drop_nil.{0},@List.set_cons_zero.{0},@List.set_cons_succ.{0},@Nat.zero_add,@Nat.lt_add_one,@Nat.le_refl,@Int.toNat_natCast⟩
theorem sim:(type_of% @Nf)∧(type_of% @yq)∧(type_of% @Jw)∧(type_of% @Hn)∧(type_of% @wz)∧(type_of% @Be)∧(type_of% @HI)∧(type_of% @Mh)∧(type_of% @Mu)∧(type_of% @pT)∧(type_of% @DX)∧(type_of% @r_g)∧(type_of% @H1)∧(type_of% @HW)∧(type_of% @OO)∧(type_of% @IS)∧(type_of% @DK)∧(type_of% @Gr)∧(type_of% @Ml)∧(type_of% @H0)∧(type_of% @PN)∧(type_of% @Hu)∧(type_of% @Nb)∧(type_of% @Mp)∧(type_of% @MG)∧(type_of% @Mz)∧(type_of% @M6)∧(type_of% @M2)∧(type_of% @PO)∧(type_of% @Na)∧(type_of% @MQ)∧(type_of% @MK)∧(type_of% @Dv)∧(type_of% @Mq)∧(type_of% @Gt)∧(type_of% @Gk)∧(type_of% @D4)∧(type_of% @Mo)∧(type_of% @M7)∧(type_of% @DR)∧(type_of% @DM)∧(type_of% @Eb)∧(type_of% @JA)∧(type_of% @yI)∧(type_of% @Di)∧(type_of% @yH)∧(type_of% @En)∧(type_of% @Ef)∧(type_of% @vQ)∧(type_of% @kR)∧(type_of% @pU)∧(type_of% @MN)∧(type_of% @MO)∧(type_of% @M0)∧(type_of% @GX)∧(type_of% @Jf)∧(type_of% @IZ)∧(type_of% @HB)∧(type_of% @Ix)∧(type_of% @G5)∧(type_of% @N1)∧(type_of% @DB)∧(type_of% @Gz)∧(type_of% @M4)∧(type_of% @O0)∧(type_of% @OR)∧(type_of% @Nh)∧(type_of% @DF)∧(type_of% @MA)∧(type_of% @ze)∧(type_of% @Mw)∧(type_of% @M9)∧(type_of% @MJ)∧(type_of% @Mx)∧(type_of% @lV)∧(type_of% @kP)∧(type_of% @Mf)∧(type_of% @MW)∧(type_of% @MB)∧(type_of% @MD)∧(type_of% @Mg)∧(type_of% @MR)∧(type_of% @MY)∧(type_of% @MP)∧(type_of% @Mr)∧(type_of% @MI)∧(type_of% @OW)∧(type_of% @zd)∧(type_of% @Ha)∧(type_of% @IK)∧(type_of% @HQ)∧(type_of% @GN)∧(type_of% @Jv)∧(type_of% @vv)∧(type_of% @DY)∧(type_of% @Mn)∧(type_of% @Md)∧(type_of% @MC)∧(type_of% @MX)∧(type_of% @bD)∧(type_of% @O5)∧(type_of% @fL)∧(type_of% @MS)∧(type_of% @OM)∧(type_of% @MU)∧(type_of% @PP)∧(type_of% @zQ)∧(type_of% @Eg)∧(type_of% @CO)∧(type_of% @DC)∧(type_of% @vr)∧(type_of% @kj)∧(type_of% @km)∧(type_of% @zL)∧(type_of% @aO)∧(type_of% @eh)∧(type_of% @mA)∧(type_of% @pk)∧(type_of% @aC)∧(type_of% @aM)∧(type_of% @hU)∧(type_of% @Db)∧(type_of% @sW)∧(type_of% @DU)∧(type_of% @pZ)∧(type_of% @jW)∧(type_of% @wh)∧(type_of% @JI)∧(type_of% @Aq)∧(type_of% @CP)∧(type_of% @Hd)∧(type_of% @Gx)∧(type_of% @JD)∧(type_of% @Iy)∧(type_of% @Ms)∧(type_of% @GS)∧(type_of% @JB)∧(type_of% @Mc)∧(type_of% @C3)∧(type_of% @PD)∧(type_of% @s_1)∧(type_of% @s_2)∧(type_of% @s_3)∧(type_of% @uJ)∧(type_of% @vH)∧(type_of% @tf)∧(type_of% @vM)∧(type_of% @sw)∧(type_of% @sd)∧(type_of% @vh)∧(type_of% @uI)∧(type_of% @vK)∧(type_of% @CT)∧(type_of% @zT)∧(type_of% @Dp)∧(type_of% @zj)∧(type_of% @AF)∧(type_of% @CR)∧(type_of% @C7)∧(type_of% @Ed)∧(type_of% @vp)∧(type_of% @zY)∧(type_of% @DP)∧(type_of% @DZ)∧(type_of% @Ah)∧(type_of% @uK)∧(type_of% @vt)∧(type_of% @vZ)∧(type_of% @sV)∧(type_of% @HR)∧(type_of% @GF)∧(type_of% @Dw)∧(type_of% @Ec)∧(type_of% @CN)∧(type_of% @bm)∧(type_of% @Ii)∧(type_of% @Gf)∧(type_of% @An)∧(type_of% @Ph)∧(type_of% @Ig)∧(type_of% @Dx)∧(type_of% @C2)∧(type_of% @Dc)∧(type_of% @Dn)∧(type_of% @HX)∧(type_of% @OX)∧(type_of% @rn)∧(type_of% @yO)∧(type_of% @Hf)∧(type_of% @Im)∧(type_of% @Ma)∧(type_of% @Ij)∧(type_of% @CZ)∧(type_of% @M8)∧(type_of% @Dk)∧(type_of% @yu)∧(type_of% @Hb)∧(type_of% @I7)∧(type_of% @Nc)∧(type_of% @D6)∧(type_of% @Gc)∧(type_of% @D0)∧(type_of% @yY)∧(type_of% @zz)∧(type_of% @oB)∧(type_of% @Il)∧(type_of% @HF)∧(type_of% @bo)∧(type_of% @bO)∧(type_of% @eS)∧(type_of% @jR)∧(type_of% @fI)∧(type_of% @kL)∧(type_of% @iJ)∧(type_of% @vb):=
 ⟨@Nf,@yq,@Jw,@Hn,@wz,@Be,@HI,@Mh,@Mu,@pT,@DX,@r_g,@H1,@HW,@OO,@IS,@DK,@Gr,@Ml,@H0,@PN,@Hu,@Nb,@Mp,@MG,@Mz,@M6,@M2,@PO,@Na,@MQ,@MK,@Dv,@Mq,@Gt,@Gk,@D4,@Mo,@M7,@DR,@DM,@Eb,@JA,@yI,@Di,@yH,@En,@Ef,@vQ,@kR,@pU,@MN,@MO,@M0,@GX,@Jf,@IZ,@HB,@Ix,@G5,@N1,@DB,@Gz,@M4,@O0,@OR,@Nh,@DF,@MA,@ze,@Mw,@M9,@MJ,@Mx,@lV,@kP,@Mf,@MW,@MB,@MD,@Mg,@MR,@MY,@MP,@Mr,@MI,@OW,@zd,@Ha,@IK,@HQ,@GN,@Jv,@vv,@DY,@Mn,@Md,@MC,@MX,@bD,@O5,@fL,@MS,@OM,@MU,@PP,@zQ,@Eg,@CO,@DC,@vr,@kj,@km,@zL,@aO,@eh,@mA,@pk,@aC,@aM,@hU,@Db,@sW,@DU,@pZ,@jW,@wh,@JI,@Aq,@CP,@Hd,@Gx,@JD,@Iy,@Ms,@GS,@JB,@Mc,@C3,@PD,@s_1,@s_2,@s_3,@uJ,@vH,@tf,@vM,@sw,@sd,@vh,@uI,@vK,@CT,@zT,@Dp,@zj,@AF,@CR,@C7,@Ed,@vp,@zY,@DP,@DZ,@Ah,@uK,@vt,@vZ,@sV,@HR,@GF,@Dw,@Ec,@CN,@bm,@Ii,@Gf,@An,@Ph,@Ig,@Dx,@C2,@Dc,@Dn,@HX,@OX,@rn,@yO,@Hf,@Im,@Ma,@Ij,@CZ,@M8,@Dk,@yu,@Hb,@I7,@Nc,@D6,@Gc,@D0,@yY,@zz,@oB,@Il,@HF,@bo,@bO,@eS,@jR,@fI,@kL,@iJ,@vb⟩
end
def SlA (e:TypeId) (v:AV) (es:List (List AV)):Prop:=(es=[]∧v= .nils)∨∃ id,v= .isl id e es
abbrev bq (l:List Int):List (List AV):=l.map fun x=>[.int .i64 x]
abbrev tE:TypeId:=46
mutual
def ExA:XD→List AV→Prop
 | .mk op k n l,r=>∃ v es,r=[.int .i64 op,.int .i64 k,.int .i64 n,v]∧SlA tE v es∧ExL l es
def ExL:List XD→List (List AV)→Prop
 | [],es=>es=[]
 | x::l,es=>∃ r rs,es=r::rs∧ExA x r∧ExL l rs
end
abbrev tV:TypeId:=29
mutual
def VaA:VD→List AV→Prop
 | .mk kind n l,r=>∃ v es,r=[.int .i64 kind,.int .i64 n,v]∧SlA tV v es∧VaL l es
def VaL:List VD→List (List AV)→Prop
 | [],es=>es=[]
 | x::l,es=>∃ r rs,es=r::rs∧VaA x r∧VaL l rs
end
def aH (n:aX):List AV:=[.int .i64 n.parent,.int .i64 n.gate,.int .i64 n.rights,.int .i64 n.cell,.int .i64 n.plugin,.int .i64 n.func]
abbrev tN:TypeId:=103
abbrev tB:TypeId:=4
def oZ (h:AH) (J:Nat→Prop) (e:TypeId) (v:AV) (rows:List (List AV)):Prop:=(rows=[]∧v= .nils)∨∃ id,J id∧rows≠[]∧id<h.ids∧h.hw id=rows.length∧v= .isl (some id) e rows
def oP (h:AH) (F:Nat→Prop) (b:Nat) (e:TypeId) (v:AV) (rows:List (List AV)):Prop:=(rows=[]∧v= .nils)∨∃ q,F q∧q≠b∧q<h.n∧h.cell q=some rows∧v= .msl q 0 rows.length e
structure IsG (h:AH) (F J:Nat→Prop) (b:Nat) (G:ae):Prop where
 hb:F b∧b<h.n
 lt:(∀ k,F k→k<h.n)∧∀ j,J j→j<h.ids
 ex:∃ nv sv,h.cell b=some [[nv,sv]]∧oZ h J tN nv (G.nodes.map aH)∧oP h F b tB sv (G.shut.map fun x=>[.bool x])
structure Chg (F J:Nat→Prop) (h h':AH):Prop where
 n:h.n≤h'.n
 ids:h.ids≤h'.ids
 cell:∀ k,k<h.n→¬ F k→h'.cell k=h.cell k
 hw:∀ j,j<h.ids→¬ J j→h'.hw j=h.hw j
def dk (h:AH) (F J:Nat→Prop) (b:Nat) (h':AH) (G':ae):Prop:=
 ∃ F' J',IsG h' F' J' b G'∧Chg F J h h'∧(∀ k,F' k→F k∨h.n≤k)∧(∀ j,J' j→J j∨h.ids≤j)
theorem Chg.refl (F J:Nat→Prop) (h:AH):Chg F J h h:=⟨Nat.le_refl _,Nat.le_refl _,fun _ _ _=>rfl,fun _ _ _=>rfl⟩
theorem af.chg {h h':AH} (g:af h h') (F J:Nat→Prop):Chg F J h h':=⟨g.n,g.ids,fun k hk _=>g.cell k hk,fun j hj _=>g.hw j hj⟩
theorem Chg.trans {F J:Nat→Prop} {a b c:AH} (x:Chg F J a b) (y:Chg F J b c):Chg F J a c:=
 ⟨Nat.le_trans x.n y.n,Nat.le_trans x.ids y.ids,fun k hk hF=>(y.cell k (Nat.lt_of_lt_of_le hk x.n) hF).trans (x.cell k hk hF),fun j hj hJ=>(y.hw j (Nat.lt_of_lt_of_le hj x.ids) hJ).trans (x.hw j hj hJ)⟩
theorem Chg.then {F J F' J':Nat→Prop} {a b c:AH} (x:Chg F J a b) (y:Chg F' J' b c) (hF:∀ k,F' k→F k∨a.n≤k) (hJ:∀ j,J' j→J j∨a.ids≤j):Chg F J a c:=
 ⟨Nat.le_trans x.n y.n,Nat.le_trans x.ids y.ids,
  fun k hk h1=>(y.cell k (Nat.lt_of_lt_of_le hk x.n) fun h2=>by rcases hF k h2 with h | h;exact h1 h;omega).trans (x.cell k hk h1),
  fun j hj h1=>(y.hw j (Nat.lt_of_lt_of_le hj x.ids) fun h2=>by rcases hJ j h2 with h | h;exact h1 h;omega).trans (x.hw j hj h1)⟩
theorem IsG.keep {h h':AH} {F J F2 J2:Nat→Prop} {b:Nat} {G:ae} (g:IsG h F J b G) (c:Chg F2 J2 h h') (hF:∀ k,F k→¬ F2 k) (hJ:∀ j,J j→¬ J2 j):IsG h' F J b G:=by
 obtain⟨nv,sv,h1,h2,h3⟩:=g.ex
 refine⟨⟨g.hb.1,Nat.lt_of_lt_of_le g.hb.2 c.n⟩,⟨fun k hk=>Nat.lt_of_lt_of_le (g.lt.1 k hk) c.n,fun j hj=>Nat.lt_of_lt_of_le (g.lt.2 j hj) c.ids⟩,nv,sv,(c.cell b g.hb.2 (hF b g.hb.1)).trans h1,?_,?_⟩
 ·rcases h2 with h2 | ⟨id,a1,a0,a2,a3,a4⟩
  ·exact .inl h2
  ·exact .inr ⟨id,a1,a0,Nat.lt_of_lt_of_le a2 c.ids,(c.hw id a2 (hJ id a1)).trans a3,a4⟩
 ·rcases h3 with h3 | ⟨q,a1,a2,a3,a4,a5⟩
  ·exact .inl h3
  ·exact .inr ⟨q,a1,a2,Nat.lt_of_lt_of_le a3 c.n,(c.cell q a3 (hF q a1)).trans a4,a5⟩
structure Asn where
 A:AH→(Nat→Prop)→(Nat→Prop)→Prop
 lt:∀ {h:AH} {F J:Nat→Prop},A h F J→(∀ k,F k→k<h.n)∧∀ j,J j→j<h.ids
 keep:∀ {h h':AH} {F J X Y:Nat→Prop},A h F J→Chg X Y h h'→(∀ k,F k→¬ X k)→(∀ j,J j→¬ Y j)→A h' F J
def xE (p:Prop):Asn where
 A _ F J:=p∧(∀ k,¬ F k)∧∀ j,¬ J j
 lt:=fun⟨_,a,b⟩=>⟨fun k hk=>absurd hk (a k),fun j hj=>absurd hj (b j)⟩
 keep:=fun h _ _ _=>h
def ai (b:Nat) (es:List (List AV)):Asn where
 A h F J:=(∀ k,F k↔k=b)∧(∀ j,¬ J j)∧b<h.n∧h.cell b=some es
 lt:=fun⟨a,b,c,_⟩=>⟨fun k hk=>by rw[(a k).1 hk];exact c,fun j hj=>absurd hj (b j)⟩
 keep:=fun⟨a,b,c,d⟩ x hF _=>⟨a,b,Nat.lt_of_lt_of_le c x.n,(x.cell _ c (hF _ ((a _).2 rfl))).trans d⟩
def idA (id n:Nat):Asn where
 A h F J:=(∀ k,¬ F k)∧(∀ j,J j↔j=id)∧id<h.ids∧h.hw id=n
 lt:=fun⟨a,b,c,_⟩=>⟨fun k hk=>absurd hk (a k),fun j hj=>by rw[(b j).1 hj];exact c⟩
 keep:=fun⟨a,b,c,d⟩ x _ hJ=>⟨a,b,Nat.lt_of_lt_of_le c x.ids,(x.hw _ c (hJ _ ((b _).2 rfl))).trans d⟩
def dE (X Y:Asn):Asn where
 A h F J:=∃ F1 J1 F2 J2,X.A h F1 J1∧Y.A h F2 J2∧(∀ k,F k↔F1 k∨F2 k)∧(∀ j,J j↔J1 j∨J2 j)∧(∀ k,F1 k→¬ F2 k)∧(∀ j,J1 j→¬ J2 j)
 lt:=fun⟨F1,J1,F2,J2,x,y,hF,hJ,_,_⟩=>⟨fun k hk=>((hF k).1 hk).elim ((X.lt x).1 k) ((Y.lt y).1 k),fun j hj=>((hJ j).1 hj).elim ((X.lt x).2 j) ((Y.lt y).2 j)⟩
 keep:=fun⟨F1,J1,F2,J2,x,y,hF,hJ,dF,dJ⟩ c nF nJ=>
  ⟨F1,J1,F2,J2,X.keep x c (fun k hk=>nF k ((hF k).2 (.inl hk))) (fun j hj=>nJ j ((hJ j).2 (.inl hj))),Y.keep y c (fun k hk=>nF k ((hF k).2 (.inr hk))) (fun j hj=>nJ j ((hJ j).2 (.inr hj))),hF,hJ,dF,dJ⟩
def oV {α:Type} (X:α→Asn):Asn where
 A h F J:=∃ a,(X a).A h F J
 lt:=fun⟨a,x⟩=>(X a).lt x
 keep:=fun⟨a,x⟩ c nF nJ=>⟨a,(X a).keep x c nF nJ⟩
def orA (X Y:Asn):Asn where
 A h F J:=X.A h F J∨Y.A h F J
 lt:=fun h=>h.elim X.lt Y.lt
 keep:=fun h c nF nJ=>h.imp (fun x=>X.keep x c nF nJ) (fun y=>Y.keep y c nF nJ)
def wr (p:Prop) (X:Asn):Asn where
 A h F J:=p∧X.A h F J
 lt:=fun h=>X.lt h.2
 keep:=fun h c nF nJ=>⟨h.1,X.keep h.2 c nF nJ⟩
def br (b:Nat) (G:ae):Asn where
 A h F J:=IsG h F J b G
 lt:=fun g=>g.lt
 keep:=fun g c nF nJ=>g.keep c nF nJ
def aY:List Asn→Asn
 | []=>xE True
 | X::L=>dE X (aY L)
def Did (h:AH) (F J:Nat→Prop) (h':AH) (X:Asn):Prop:=∃ F' J',X.A h' F' J'∧Chg F J h h'∧(∀ k,F' k→F k∨h.n≤k)∧(∀ j,J' j→J j∨h.ids≤j)
def eD (L:List XD):AV:= .isl none 158 (L.map fun x=>[.isl none 169 ((ay x 0++[(⟨105,0,0⟩:aT)]).map fun i:aT=>[.int .i64 i.op,.int .i64 i.k,.int .i64 i.n])])
abbrev tEn:TypeId:=98
abbrev tL:TypeId:=2
def cz (e:ca):List AV:=[.int .i64 e.plugin,.int .i64 e.cell,.int .i64 e.right,.int .i64 e.node]
def di (e:TypeId) (v:AV) (rows:List (List AV)):Asn:=orA (xE (rows=[]∧v= .nils)) (oV fun id:Nat=>wr (rows≠[]∧v= .isl (some id) e rows) (idA id rows.length))
def bj (b:Nat) (cells:List Int) (log:List ca):Asn:=oV fun v:AV=>dE (ai b [cells.map (.int .i64)++[v]]) (di tEn v (log.map cz))
def ji (m:Option (List XD)):AV:=match m with
 | some L=>eD L
 | none=> .nils
def dO:aN→List (List AV)→List AV
 | m::ms,k::ks=> .bool m.isSome::ji m::k++dO ms ks
 | _,_=>[]
def kg (gb wb:Nat) (ms:aN) (ks:List (List AV)):List AV:= .ptr gb 0 0:: .ptr wb 0 0::dO ms ks
def dH (b gb wb:Nat) (ms:aN) (kept:List VD):Asn:=oV fun ks:List (List AV)=>wr (VaL kept ks) (ai b [kg gb wb ms ks])
def wK (args:List AV) (h:AH) (q:(AV ⊕ AV)×AH):Prop:=
 ∀ (F J:Nat→Prop) (bb gb wb:Nat) (ms:aN) (S:StD) (p f fuel:Int) (v:VD) (r:List AV),args=[.ptr bb 0 0,.int .i64 p,.int .i64 f,.agg r,.int .i64 fuel]→VaA v r→v.size≤100000→ms.length=4→qs ms→kz ms→S.Good→S.log.length≤900000→
   (aY [dH bb gb wb ms S.kept,br gb S.G,bj wb S.cells S.log]).A h F J→
   ∃ r' h',q=(.inl (.tup [.agg r',.int .i64 (cO ms p f v fuel S).2.2.1,.int .i64 (cO ms p f v fuel S).2.2.2]),h')∧VaA (cO ms p f v fuel S).2.1 r'∧
     Did h F J h' (aY [dH bb gb wb ms (cO ms p f v fuel S).1.kept,br gb (cO ms p f v fuel S).1.G,bj wb (cO ms p f v fuel S).1.cells (cO ms p f v fuel S).1.log])
def LT:List FuncId:=[112,141,58,89,57,140,94,88,
 53,55,79,67,133,38,138,
 30,68,62,87,32,75,104,
 76,105,77,78,80,45,
 117,95,96,116,115,129,
 97,118,98,70,100,119,101,60,
 102,73,26,103,74,41,72,
 99,71,40,49,18,50,46,131,130,
 139,143,19,29,42,15,
 132,142,134,122,120,39,82,81,83,
 108,84,109,12,135,123,124,125,
 126,127,128,110,86,111,85,
 48,69,136,137,25,31,59,63,
 33,13,43,44,11,14,16,
 3,4,5,22,52,51,54,56,
 23,27,28,61,20,21,
 24,6,7,8,35,90,64,
 92,91,113,93,114,65,
 36,66,37,34,9,10]
def HJ:List FuncId:=[112,141,89,140,94,67,133,38,
 138,30,62,87,32,104,
 117,96,116,115,129,97,70,
 100,119,101,60,102,73,26,
 103,74,41,49,18,50,46,131,
 130,139,143,19,29,42,
 15,132,142,120,82,108,84,109,12,135,
 25,31,59,63,33,13,
 11,14,3,4,5,52,27,
 28,61,20,21,24,6,
 7,8,90,64,92,91,
 113,93,114,66,37,34,9,
 10]
def muF:FuncId→TypeId→Bool:=fun g t=>t==145 || t==158 || t==122 || (t==27 && (g==107 || g==48 || g==54))
def tS (args:List AV) (h:AH) (q:(AV ⊕ AV)×AH):Prop:=
 ∀ (F J:Nat→Prop) (b:Nat) (G:ae) (x:VD) (r:List AV) (gv:AV) (ks:List Int),args=[.ptr b 0 0,.agg r,gv]→IsG h F J b G→G.Wf→VaA x r→SlA 3 gv (bq ks)→ks.length≤1000000→
   ∃ r' h',q=(.inl (.tup [.agg r',.int .i64 (aV ks G x).2.2]),h')∧VaA (aV ks G x).2.1 r'∧dk h F J b h' (aV ks G x).1
open Classical in
noncomputable def oD (args:List AV) (h:AH):Option ((AV ⊕ AV)×AH):=
 if H:∃ q,AC Try.prog 106 args h q∧tS args h q then some (Classical.choose H)else none
def Iw (args:List AV) (h:AH):Option AH:=match args with
 | [.ptr mb 0 0,.agg r]=>(h.cell mb).bind fun es=>match es with
   | [[_,.msl fb 0 k _,_]]=>(h.cell fb).bind fun rows=>(rows[k - 1]?).bind fun row=>(row[6]?).bind fun s=>(aF true tV s (.msl (h.n+1) 0 1 tV) ((h.push [r]).push [r])).map fun q=>q.2.set fb (some (rows.set (k - 1) (row.set 6 q.1)))
   | _=>none
 | _=>none
open Classical in
noncomputable def CJ (args:List AV) (h:AH):Option ((AV ⊕ AV)×AH):=match Iw args h with
 | some h'=>if AC Try.prog 107 args h (.inl (.tup []),h')then some (.inl (.tup []),h')else none
 | none=>none
def sP (L:List XD):AV:= .tup [if(be L).1=0 then eD L else .nils,.agg [.int .i64 (be L).1,.int .i64 (be L).2]]
open Classical in
noncomputable def D2 (args:List AV) (h:AH):Option ((AV ⊕ AV)×AH):=
 if H:∃ L:List XD,(∃ v es,args=[.agg [v]]∧SlA tE v es∧ExL L es)∧AC Try.prog 40 args h (.inl (sP L),h)then some (.inl (sP (Classical.choose H)),h)else none
open Classical in
noncomputable def qY (args:List AV) (h:AH):Option ((AV ⊕ AV)×AH):=
 if H:∃ cs:List Int,(∃ b lv,args=[.ptr b 0 0]∧h.cell b=some [cs.map (.int .i64)++[lv]]∧cs.length=12)∧AC Try.prog 25 args h (.inl (.isl none 2 (cs.map fun x=>[.int .i64 x])),h)then some (.inl (.isl none 2 ((Classical.choose H).map fun x=>[.int .i64 x])),h)else none
open Classical in
noncomputable def ug (args:List AV) (h:AH):Option ((AV ⊕ AV)×AH):=
 if H:∃ q,AC Try.prog 17 args h q∧wK args h q then some (Classical.choose H)else none
noncomputable def qI:FuncId→Option (List AV→AH→Option ((AV ⊕ AV)×AH)):=fun g=>if g=106 then some oD else if g=107 then some CJ else if g=40 then some D2 else if g=25 then some qY else if g=17 then some ug else none
noncomputable def po:Pol:=qc Try.prog muF qI LT HJ
theorem Lc:po.ext 17=some ug:=by
 show qI 17=_
 unfold qI
 rw[if_neg (by decide),if_neg (by decide),if_neg (by decide),if_neg (by decide),if_pos rfl]
theorem pok:POK Try.prog po:=Nt (K5 (by kernel_rfl)) (by kernel_rfl) (by kernel_rfl) (fun g F h=>by
 unfold qI at h
 split at h
 ·rename_i e
  subst e
  injection h with h
  subst h
  refine⟨_,Try.func106,⟨by kernel_rfl,by kernel_rfl⟩,fun args h r hr=> ?_⟩
  unfold oD at hr
  split at hr
  ·rename_i H
   injection hr with hr
   rw[←hr]
   exact(Classical.choose_spec H).1
  ·cases hr
 split at h
 ·rename_i e
  subst e
  injection h with h
  subst h
  refine⟨_,Try.func107,⟨by kernel_rfl,by kernel_rfl⟩,fun args h r hr=> ?_⟩
  unfold CJ at hr
  split at hr
  ·split at hr
   ·rename_i H
    injection hr with hr
    rw[←hr]
    exact H
   ·cases hr
  ·cases hr
 split at h
 ·rename_i e
  subst e
  injection h with h
  subst h
  refine⟨_,Try.func40,⟨by kernel_rfl,by kernel_rfl⟩,fun args h r hr=> ?_⟩
  unfold D2 at hr
  split at hr
  ·rename_i H
   injection hr with hr
   rw[←hr]
   exact(Classical.choose_spec H).2
  ·cases hr
 split at h
 ·rename_i e
  subst e
  injection h with h
  subst h
  refine⟨_,Try.func25,⟨by kernel_rfl,by kernel_rfl⟩,fun args h r hr=> ?_⟩
  unfold qY at hr
  split at hr
  ·rename_i H
   injection hr with hr
   rw[←hr]
   exact(Classical.choose_spec H).2
  ·cases hr
 split at h
 ·rename_i e
  subst e
  injection h with h
  subst h
  refine⟨_,Try.func17,⟨by kernel_rfl,by kernel_rfl⟩,fun args h r hr=> ?_⟩
  unfold ug at hr
  split at hr
  ·rename_i H
   injection hr with hr
   rw[←hr]
   exact(Classical.choose_spec H).1
  ·cases hr
 cases h)
def cL:Code→Code
 | .seq a _=>a
 | c=>c
def cR:Code→Code
 | .seq _ b=>b
 | c=>c
def fj:Code→Array Oper
 | .region _ ops _=>ops
 | _=> #[]
section
variable {P:Program} {po:Pol} {f:FuncId} {n nv:Nat} {vm:List Nat} {h h':AH} {t V V':List AV}
theorem bQ {a:Nat} (h7:rg a n (po.nv f) nv vm=true):vm.Nodup∧∀ j s,vm[j]? =some s→(j<nv↔s<po.nv f):=by
 unfold rg at h7
 simp only[Bool.and_eq_true,decide_eq_true_eq,List.all_eq_true,List.mem_range,beq_iff_eq,bne_iff_ne,ne_eq]at h7
 obtain⟨⟨a1,a2⟩,a3⟩:=h7
 have get:∀ j s,vm[j]? =some s→j<vm.length∧vm.getD j 0=s:=fun j s hj=>⟨(List.getElem?_eq_some_iff.1 hj).1,by simp[List.getD,hj]⟩
 refine⟨?_,fun j s hj=> ?_⟩
 ·rw[List.nodup_iff_pairwise_ne,List.pairwise_iff_getElem]
  intro i j hi hj hij e
  have:=(a3 j hj).2 i hij
  apply this
  simp[List.getD,hi,hj,e]
 ·obtain⟨g1,g2⟩:=get j s hj
  have:=(a3 j g1).1.1.2
  rw[g2]at this
  exact decide_eq_decide.1 this
theorem qA (pok:POK P po) {c:Code} {l:List RS} {K:List Item} {x:AEx} (hvm:vm.Nodup∧∀ j s,vm[j]? =some s→(j<nv↔s<po.nv f)) (htr:bi P (po.mu f) (po.plan f) n vm c []=some l) (hrg:cU (po.plan f) (po.kp f) c=true)
  (hr:aq (aj P po) nv [.ss l,.halt K] V [] h=some (x,V',h')) (rv:RV n vm [] t V []):
  ∃ t',(∀ (m:Mm) (w:World) (a:Act) (b:Frame) (cs:List Frame),WR P m h w→TR P m h t a.tmps→a.defers=b.defers→bW P (po.kp f) m h w b cs (lone (b.at a (.code c::K)) cs w) (x,t',h'))∧RV n vm [] t' V' []:=by
 obtain⟨t',e,rv'⟩:=(nN (n:=n) (f:=f) hvm.1 hvm.2 _ _ _ _ _ hr).1 [.code c,.halt K] t (.ss [c] l [.halt K] [.halt K] (by simp[trL,htr]) (.halt K [] [])) rv
 refine⟨t',fun m w a b cs hw ht hd=> ?_,rv'⟩
 exact(jz pok f _ t h _ e).good (.code c::K) (.code c _ _ hrg (.halt K [])) b cs m w a hw ht hd
theorem nI {g:FuncId} {fn:Func} {c:Code} (hf:P.funcs[g]? =some fn) (hb:fn.body=some c) (vs:List Value) (kd:CallKind):
  (Frame.enter P g vs.toArray kd).at {tmps:=(vs++replicate (fn.ntmps - vs.length) undef).toArray,defers:=[]} [.code c]=Frame.enter P g vs.toArray kd:=by
 simp[Frame.enter,Frame.at,hf,hb]
theorem oq {m:Mm} {k:Nat} {args:List AV} {vs:List Value} (hv:VRs P m h args vs):
  TR P m h (args++replicate (k - args.length) .junk) (vs++replicate (k - vs.length) undef).toArray:=by
 have hl:=hv.1
 have h2:VRs P m h (args++replicate (k - args.length) .junk) (vs++replicate (k - vs.length) undef):=by
  rw[hl]
  exact VRs.append hv ⟨by simp,fun j hj hj'=>by simp only[List.getElem_replicate];exact .junk _⟩
 refine⟨by simpa using h2.1,fun i hi=> ?_⟩
 have hi2:i<(vs++replicate (k - vs.length) undef).length:=by rw[h2.1];exact hi
 have:=h2.2 i hi hi2
 simp only[Array.getD_eq_getD_getElem?,List.getElem?_toArray,List.getElem?_eq_getElem hi2,Option.getD_some]
 exact this
theorem ML {m:Mm} {ts:Array Value} (ht:TR P m h t ts) {i:Nat} (hi:i<t.length):VR P m h (t.getD i .junk) (ts.getD i undef):=by
 have:=ht.2 i hi
 simpa[List.getD,hi]using this
end
open Go Go.RowKit
section
variable {P:Program} {po:Pol} {f:FuncId} {n nv:Nat} {vm:List Nat} {h:AH}
def nD (P:Program) (po:Pol) (f:FuncId) (n:Nat) (vm:List Nat) (args:List AV) (h:AH) (x:AEx) (V:List AV) (h2:AH):Prop:=
 ∀ (m:Mm) (w:World) (vs:List Value),WR P m h w→VRs P m h args vs→∀ cs:List Frame,∃ (bf:Frame) (t2:List AV),bf.fn=f∧bf.kind= .normal∧bf.defers=[]∧RV n vm [] t2 V []∧
   bW P (po.kp f) m h w bf cs (lone (Frame.enter P f vs.toArray .normal) cs w) (x,t2,h2)
theorem nD.start {fn:Func} {c:Code} {args:List AV} (hf:P.funcs[f]? =some fn) (hb:fn.body=some c) (hn:fn.ntmps=n)
  (rv:RV n vm [] (args++replicate (n - args.length) .junk) (args++replicate (vm.length - args.length) .junk) []):nD P po f n vm args h (.halt [.code c]) (args++replicate (vm.length - args.length) .junk) h:=by
 intro m w vs hw hvs cs
 have he:=nI hf hb vs .normal
 have ht:=oq (P:=P) (h:=h) (k:=n) hvs
 rw[hn]at he
 refine⟨Frame.enter P f vs.toArray .normal,_,by simp[Frame.enter],by simp[Frame.enter],by simp[Frame.enter],rv,m,w,Ext.refl _ _,hw,Below.refl _ _,{tmps:=_,defers:=[]},ht,?_,?_⟩
 ·simp[Frame.enter]
 ·conv=>lhs;rw[←he]
  exact .refl _ _
theorem nD.next (pok:POK P po) {c A B:Code} {l:List RS} {args V V':List AV} {h2 h3:AH} {x:AEx} (p:nD P po f n vm args h (.halt [.code c]) V h2) (hc:c= .seq A B)
  (hvm:vm.Nodup∧∀ j s,vm[j]? =some s→(j<nv↔s<po.nv f)) (htr:bi P (po.mu f) (po.plan f) n vm A []=some l) (hrg:cU (po.plan f) (po.kp f) A=true)
  (hr:aq (aj P po) nv [.ss l,.halt [.code B]] V [] h2=some (x,V',h3)):nD P po f n vm args h x V' h3:=by
 intro m w vs hw hvs cs
 obtain⟨bf,t2,b1,b2,b3,rv,m1,w1,x1,x2,x3,a1,x4,x5,x6⟩:=p m w vs hw hvs cs
 obtain⟨t3,hp,rv3⟩:=qA pok hvm htr hrg hr rv
 have y5:=hp m1 w1 a1 bf cs x2 x4 x5
 have s0:Steps P (lone (Frame.enter P f vs.toArray .normal) cs w) (lone (bf.at a1 [.code A,.code B]) cs w1):=by
  refine x6.trans ?_
  conv=>lhs;rw[hc]
  exact .one step_seq
 exact⟨bf,t3,b1,b2,b3,rv3,bW.steps s0 (bW.after x1 x3 y5)⟩
theorem zN {fn:Func} {rs:List k9} {t V:List AV} {h:AH} {v:AV} (hres:jB P vm fn.results.toList=some rs) (rv:RV n vm [] t V []) (hv:(fz V h rs).map fU=some v):nE fn t h P=some v:=by
 unfold nE
 rw[gP (h:=h) rv hres]
 exact hv
theorem nD.ret {fn:Func} {rs:List k9} {args V:List AV} {h2:AH} {v:AV} (p:nD P po f n vm args h .ret V h2) (hf:P.funcs[f]? =some fn) (hres:jB P vm fn.results.toList=some rs) (hv:(fz V h2 rs).map fU=some v):AC P f args h (.inl v,h2):=by
 intro m w vs hw hvs cs
 obtain⟨bf,t2,b1,b2,b3,rv,m',w',x1,x2,x3,a',todo,x4,x5,x6⟩:=p m w vs hw hvs cs
 rw[b3]at x5
 obtain⟨u,h7,h8⟩:=gI x2 x4 (zN (h:=h2) hres rv hv)
 exact⟨.returned u,w',_,⟨m',x1,x2,x3,u,rfl,h8⟩,x6,b1,rfl,x5,b2,_,by simp[Frame.at,b1,hf],h7⟩
theorem KL {t V:List AV} {i:Nat} {v:AV} (rv:RV n vm [] t V []) (hi:i ∉ vm):RV n vm [] (bJ t (some i) v) V []:=by
 refine⟨by simpa[bJ]using rv.len,rv.lv,rv.ll,fun j s hj=> ?_,fun j s hj=>by simp at hj⟩
 obtain⟨h1,h2⟩:=rv.v j s hj
 refine⟨h1,?_⟩
 rw[←h2]
 have hne:i≠s:=fun e=>hi (by rw[e];exact List.mem_of_getElem? hj)
 simp[bJ,List.getD,List.getElem?_set,hne]
def rY (a:Act) (caps:List Nat):List Value:=caps.map fun i=>a.tmps.getD i undef
theorem NS {m:Mm} {h2:AH} {t V:List AV} {a:Act} {caps js:List Nat} (rv:RV n vm [] t V []) (ht:TR P m h2 t a.tmps) (hc:caps=js.map fun j=>vm.getD j 0) (hj:∀ j∈js,j<vm.length):
  VRs P m h2 (js.map fun j=>V.getD j .junk) (rY a caps):=by
 subst hc
 refine⟨by simp[rY],fun i h1 h2=> ?_⟩
 simp only[List.length_map]at h1
 have hlt:=hj _ (List.getElem_mem h1)
 have hs:vm[js[i]]? =some (vm.getD js[i] 0):=by simp[List.getD,hlt]
 obtain⟨q1,q2⟩:=rv.v _ _ hs
 have:=ML ht (i:=vm.getD js[i] 0) (by rw[rv.len];exact q1)
 rw[q2]at this
 simpa[rY]using this
theorem VRs.extG {m m':Mm} {h h':AH} {l:List AV} {us:List Value} (v:VRs P m h l us) (x:Ext m h m' h'):VRs P m' h' l us:=⟨v.1,fun j h1 h2=>(v.2 j h1 h2).ext x⟩
theorem DT {P:Program} {t t':List AV} {h:AH}:∀ {l:List ResultVar},(∀ r∈l,∃ i ty,r= .cell i ty∧t.getD i .junk=t'.getD i .junk)→nu P t h l=nu P t' h l
 | [],_=>rfl
 | r::l,hl=>by
   obtain⟨i,ty,rfl,e⟩:=hl r (List.mem_cons_self ..)
   have ih:nu P t h l=nu P t' h l:=DT fun q hq=>hl q (List.mem_cons_of_mem _ hq)
   simp only[nu,e,ih]
def Fd (fCl:FuncId) (us:List Value):Value:= .func (.func fCl) #[] us.toArray
def qF (fCl:FuncId) (us:List Value):Deferred:={target:= .fn (.func fCl) us.toArray,args:= #[]}
inductive NY (P:Program) (fCl:FuncId) (capA:List AV) (h3 h4:AH):AEx→Prop
 | ret (cl:∀ (m:Mm) (w:World) (ps:List Value),WR P m h3 w→VRs P m h3 capA ps→CallsD P fCl ps.toArray .returning w fun e u'' w'=>(∃ v,e= .returned v)∧u''= .returning∧∃ m',Ext m h3 m' h4∧WR P m' h4 w'∧Below m.base w w'):NY P fCl capA h3 h4 .ret
 | panic (v:AV) (cl:∀ (m:Mm) (w:World) (ps:List Value) (u:Value),WR P m h3 w→VRs P m h3 capA ps→VR P m h3 v u→CallsD P fCl ps.toArray (.panicking [{v:=u,recovered:=false}]) w fun e u'' w'=>(∃ v,e= .returned v)∧u''= .panicking [{v:=u,recovered:=true}]∧∃ m',Ext m h3 m' h4∧WR P m' h4 w'∧Below m.base w w'):NY P fCl capA h3 h4 (.panic v)
theorem Ag (pok:POK P po) {fn:Func} {rs:List k9} {args V V':List AV} {h2 h3 h4:AH} {cZ cW:Code} {fCl:FuncId} {k:Nat} {caps js:List Nat} {l:List RS} {x:AEx} {r:AV} (p:nD P po f n vm args h (.halt [.code cZ]) V h2) (hf:P.funcs[f]? =some fn) (hcf:∃ fnC,P.funcs[(fCl:Nat)]? =some fnC∧(fnC.body.isNone=false∧(fnC.name== "runtime.NumGoroutine")=false))
  (hk:k ∉ vm) (hc:caps=js.map fun j=>vm.getD j 0) (hj:∀ j∈js,j<vm.length)
  (lay:∀ (bf:Frame) (a:Act) (cs:List Frame) (w:World),a.tmps.size=n→Steps P (lone (bf.at a [.code cZ]) cs w) (lone (bf.at {a.put (some k) (Fd fCl (rY a caps))with defers:=qF fCl (rY a caps)::a.defers} [.code cW]) cs w))
  (hvm:vm.Nodup∧∀ j s,vm[j]? =some s→(j<nv↔s<po.nv f)) (htr:bi P (po.mu f) (po.plan f) n vm cW []=some l) (hrg:cU (po.plan f) (po.kp f) cW=true)
  (hr:aq (aj P po) nv [.ss l,.halt []] V [] h2=some (x,V',h3)) (hkp:∀ r∈fn.results.toList,∃ i ty,r= .cell i ty∧po.kp f i=true)
  (he:NY P fCl (js.map fun j=>V.getD j .junk) h3 h4 x) (hres:jB P vm fn.results.toList=some rs) (hv:(fz V' h4 rs).map fU=some r):AC P f args h (.inl r,h4):=by
 intro m w vs hw hvs cs
 obtain⟨bf,t2,b1,b2,b3,rv,m2,w2,x1,x2,x3,a2,x4,x5,x6⟩:=p m w vs hw hvs cs
 rw[b3]at x5
 have hsz:a2.tmps.size=n:=by rw[x4.1,rv.len]
 have lay:=lay bf a2 cs w2 hsz
 have vc:=NS rv x4 hc hj
 generalize rY a2 caps=us at lay vc
 rw[x5]at lay
 have ht3:=x4.put (VR.junk (Fd fCl us)) (some k)
 have rv3:=KL (i:=k) (v:= .junk) rv hk
 obtain⟨t5,hp,rv5⟩:=qA pok hvm htr hrg hr rv3
 obtain⟨m3,w3,y1,y2,y3,y4⟩:=hp m2 w2 {a2.put (some k) (Fd fCl us)with defers:=[qF fCl us]} {bf with defers:=[qF fCl us]} cs x2 ht3 rfl
 have vc3:=VRs.extG vc y1
 have ra:nE fn t5 h4 P=some r:=zN hres rv5 hv
 have inv:(invoke (.fn (.func fCl) us.toArray) #[]).run P w3= .ok (.enter fCl us.toArray) w3:=by
  obtain⟨fnC,g1,g2,g3⟩:=hcf
  have g3':¬ fnC.name= "runtime.NumGoroutine":=by simpa using g3
  have g2':¬ fnC.body=none:=by cases hb:fnC.body with | none=>rw[hb]at g2;cases g2 | some c=>simp
  simp[go_sem,callFunc,g1,g2',g3']
 have bel:∀ {m4:Mm} {w':World},Below m3.base w3 w'→Below m.base w w':=by
  intro m4 w' z3
  have q1:m2.base=m.base:=x1.base
  have q2:m3.base=m2.base:=y1.base
  rw[q2,q1]at z3
  rw[q1]at y3
  exact(x3.trans y3).trans z3
 cases he with
 | ret cl=>
   obtain⟨a5,todo,z1,z2,z3⟩:=y4
   have hlv:Leaves P fn a5.tmps (fun e w'=>∃ m',Ext m h m' h4∧WR P m' h4 w'∧Below m.base w w'∧∃ u,e= .returned u∧VR P m' h4 r u) [qF fCl us] .returning w3:=by
    refine leaves_cons (f:=fCl) (args:=us.toArray) (by simp) inv ?_
    refine(cl m3 w3 us y2 vc3).mono ?_
    rintro e u'' w' ⟨⟨v,rfl⟩,rfl,m4,n1,n2,n3⟩
    obtain⟨u,h7,h8⟩:=gI n2 (z1.ext n1) ra
    exact⟨u,h7,m4,(x1.trans y1).trans n1,n2,bel (m4:=m4) n3,u,rfl,h8⟩
   obtain⟨e,w4,fr',hR,hs,hfn,hl⟩:=leaves_steps [qF fCl us] .returning w3 {(({bf with defers:=[qF fCl us]}:Frame).at a5 todo)with mode:= .returning} cs rfl z2 rfl (by simp[Frame.at,b1,hf]) (by simpa[Frame.at]using b2) hlv
   exact⟨e,w4,fr',hR,Comes.of_steps (x6.trans (lay.trans z3)) hs,hfn.trans b1,hl⟩
 | panic v cl=>
   obtain⟨a5,todo,u,⟨tm,z0,z1⟩,z2,z4,z3⟩:=y4
   have rm:nE fn tm h4 P=some r:=by
    rw[←ra]
    unfold nE
    rw[DT fun q hq=>by obtain⟨i,ty,e,hi⟩:=hkp q hq;exact⟨i,ty,e,z1 i hi⟩]
   have hlv:Leaves P fn a5.tmps (fun e w'=>∃ m',Ext m h m' h4∧WR P m' h4 w'∧Below m.base w w'∧∃ u,e= .returned u∧VR P m' h4 r u) [qF fCl us] (.panicking [{v:=u,recovered:=false}]) w3:=by
    refine leaves_cons (f:=fCl) (args:=us.toArray) (by simp) inv ?_
    refine(cl m3 w3 us u y2 vc3 z4).mono ?_
    rintro e u'' w' ⟨⟨v,rfl⟩,rfl,m4,n1,n2,n3⟩
    obtain⟨u2,h7,h8⟩:=gI n2 (z0.ext n1) rm
    exact⟨u2,h7,m4,(x1.trans y1).trans n1,n2,bel (m4:=m4) n3,u2,rfl,h8⟩
   obtain⟨e,w4,fr',hR,hs,hfn,hl⟩:=leaves_steps [qF fCl us] (.panicking [{v:=u,recovered:=false}]) w3 {(({bf with defers:=[qF fCl us]}:Frame).at a5 todo)with mode:= .panicking [{v:=u,recovered:=false}]} cs rfl z2 rfl (by simp[Frame.at,b1,hf]) (by simpa[Frame.at]using b2) hlv
   exact⟨e,w4,fr',hR,Comes.of_steps (x6.trans (lay.trans z3)) hs,hfn.trans b1,hl⟩
theorem FW (c:Frame) (h:c.mode= .returning) (cs:List Frame):recoverD (c::cs)=none:=by simp[recoverD,h]
theorem A0 {v:Value} (c:Frame) (h:c.mode= .panicking [{v:=v,recovered:=false}]) (cs:List Frame):recoverD (c::cs)=some (v,{c with mode:= .panicking [{v:=v,recovered:=true}]}::cs):=by simp[recoverD,h]
def Ia (P:Program) (c:Code) (n s1 s2:Nat):Prop:=∀ (ts:Array Value) (v:Value) (cs cs':List Frame) (w:World),ts.size=n→(recoverD cs=some (v,cs')∨(recoverD cs=none∧v= .nilIface∧cs'=cs))→
 c.wpS P (fun e a' cs2 w'=>e= .normal∧cs2=cs'∧w'=w∧a'=(({tmps:=ts,defers:=[]}:Act).put (some s1) v).put (some s2) v) {tmps:=ts,defers:=[]} cs w
theorem clG {fnC:Func} {cC:Code} {s1 s2:Nat} (pok:POK P po) {l:List RS} {caps V V':List AV} {h':AH} {e:AV} (hf:P.funcs[f]? =some fnC) (hb:fnC.body=some cC) (hseq:cC= .seq (cL cC) (cR cC)) (hn:fnC.ntmps=n) (hr0:∀ (a:Array Value) (w:World),∃ v,(results fnC a).run P w= .ok v w)
  (hrec:Ia P (cL cC) n s1 s2) (hvm:vm.Nodup∧∀ j s,vm[j]? =some s→(j<nv↔s<po.nv f)) (htr:bi P (po.mu f) (po.plan f) n vm (cR cC) []=some l) (hrg:cU (po.plan f) (po.kp f) (cR cC)=true)
  (hr:aq (aj P po) nv [.ss l,.halt []] V [] h=some (.halt [],V',h')) (rv:RV n vm [] (bJ (bJ (caps++replicate (n - caps.length) .junk) (some s1) e) (some s2) e) V [])
  {m:Mm} {w:World} {ps:List Value} {v:Value} (hw:WR P m h w) (hvs:VRs P m h caps ps) (hcl:caps.length≤n) (ve:VR P m h e v) {u:FrameMode} (u':FrameMode)
  (hu':∀ c:Frame,c.mode=u→∀ cs,(recoverD (c::cs)=some (v,{c with mode:=u'}::cs))∨(recoverD (c::cs)=none∧v= .nilIface∧u'=u)):
  CallsD P f ps.toArray u w fun e u'' w'=>(∃ v,e= .returned v)∧u''=u'∧∃ m',Ext m h m' h'∧WR P m' h' w'∧Below m.base w w':=by
 intro c cs hu
 have he:=nI hf hb ps .deferred
 have ht:=oq (P:=P) (h:=h) (k:=n) hvs
 generalize hbb:Frame.enter P f ps.toArray .deferred=b at he
 have hbk:b.kind= .deferred:=by rw[←hbb];simp[Frame.enter]
 have hbf:b.fn=f:=by rw[←hbb];simp[Frame.enter]
 have hbr:b.roundOf=none:=by rw[←hbb];simp[Frame.enter]
 rw[hn]at he
 generalize ha:(ps++replicate (n - ps.length) undef).toArray=ts at he ht
 have h1:Steps P (lone b (c::cs) w) (lone (b.at {tmps:=ts,defers:=[]} [.code (cL cC),.code (cR cC)]) (c::cs) w):=by
  rw[←he]
  conv=>lhs;rw[hseq]
  exact .one step_seq
 have hsz:ts.size=n:=by
  rw[ht.1]
  simp only[List.length_append,List.length_replicate]
  omega
 have hcs:recoverD (c::cs)=some (v,{c with mode:=u'}::cs)∨(recoverD (c::cs)=none∧v= .nilIface∧({c with mode:=u'}:Frame)::cs=c::cs):=by
  rcases hu' c hu cs with h1 | ⟨h1,h2,h3⟩
  ·exact .inl h1
  ·have h4:({c with mode:=u'}:Frame)=c:=by rw[h3,←hu]
   exact .inr ⟨h1,h2,by rw[h4]⟩
 obtain⟨e1,a1,cs1,w1,⟨rfl,rfl,rfl,rfl⟩,harr⟩:=hrec ts v _ _ w hsz hcs b [.code (cR cC)] hbk hbr
 have ht1:=(ht.put (a:={tmps:=ts,defers:=[]}) ve (some s1)).put ve (some s2)
 obtain⟨t',hp,hrv⟩:=qA pok hvm htr hrg hr rv
 obtain⟨m',w',x1,x2,x3,a',x4,x5,x6⟩:=hp m w1 _ {b with defers:=[]} ({c with mode:=u'}::cs) hw ht1 rfl
 have hfin:Steps P (lone b (c::cs) w1) (lone {b.at a' []with mode:= .returning} ({c with mode:=u'}::cs) w'):=h1.trans (harr.trans (x6.trans (.one step_end)))
 obtain⟨v0,hv0⟩:=hr0 a'.tmps w'
 refine⟨.returned v0,u',w',_,⟨⟨_,rfl⟩,rfl,m',x1,x2,x3⟩,hfin,hbk,rfl,x5,fnC,?_,hv0⟩
 show P.funcs[b.fn]? =_
 rw[hbf]
 exact hf
end
def xo:List RS:=[(.ops [(.i (.v 5) (.box 3 (.v 3))),(.i (.v 6) (.box 1 (.v 4))),(.i (.v 7) (.alloc [(.int .i64 0),(.int .i64 0),.nils])),(.i (.v 8) (.alloc [(.int .i64 0)])),(.i (.v 9) (.alloc [(.int .i64 0)]))])]
def lQ:List RS:=[(.block 0 [(.ops [(.i .l (.load false 1 (.v 6))),(.i .l (.bin (.int .i64) .lss (.l 0) (.c (.int .i64 0)))),(.i .l (.mv (.l 0))),(.g (.l 0) false .l (.load false 1 (.v 6))),(.g (.l 1) false .l (.bin (.int .i64) .gtr (.l 0) (.c (.int .i64 2000)))),(.i .l (.pick (.l 2) (.c (.bool true)) (.l 0))),(.i .l (.mv (.l 0))),(.g (.l 0) false .l (.mv (.v 1))),(.g (.l 1) false .l (.bin (.int .i64) .lss (.l 0) (.c (.int .i64 0)))),(.i .l (.pick (.l 2) (.c (.bool true)) (.l 0))),(.i .l (.mv (.l 0))),(.g (.l 0) false .l (.mv (.v 1))),(.g (.l 1) false .l (.bin (.int .i64) .geq (.l 0) (.c (.int .i64 4)))),(.i .l (.pick (.l 2) (.c (.bool true)) (.l 0))),(.i (.v 14) (.mv (.l 0)))]),(.cond (.v 14) [(.ops [(.i .l (.build [(.int .i64 0),(.int .i64 0),.nils] [(0,1),(1,1),(2,1)] [])),(.i .n (.store 3 (.v 7) (.l 0))),(.i .n (.store 1 (.v 8) (.c (.int .i64 0)))),(.i .n (.store 1 (.v 9) (.c (.int .i64 1))))]),.ret] [(.ops [(.i .l (.mv (.v 0))),(.i .l (.mv (.v 1))),(.i .l (.nilc (.l 1))),(.i .l (.fad 2 (.l 0))),(.i .l (.ixa none (some (4,5)) (.l 0) (.l 2))),(.i .l (.fad 0 (.l 0))),(.i .l (.load false 1 (.l 0))),(.i .l (.un .not (.l 0))),(.i .l (.mv (.l 0))),(.g (.l 0) false .l (.mv (.v 2))),(.g (.l 1) false .l (.bin (.int .i64) .lss (.l 0) (.c (.int .i64 0)))),(.i .l (.pick (.l 2) (.c (.bool true)) (.l 0))),(.i .l (.mv (.l 0))),(.g (.l 0) false .l (.mv (.v 2))),(.g (.l 1) false .l (.mv (.v 0))),(.g (.l 2) false .l (.mv (.v 1))),(.g (.l 3) false .l (.nilc (.l 1))),(.g (.l 4) false .l (.fad 2 (.l 0))),(.g (.l 5) false .l (.ixa none (some (4,5)) (.l 0) (.l 2))),(.g (.l 6) false .l (.fad 1 (.l 0))),(.g (.l 7) false .l (.load false 1 (.l 0))),(.g (.l 8) false .l (.len false (some 158) (.l 0))),(.g (.l 9) false .l (.bin (.int .i64) .geq (.l 8) (.l 0))),(.i .l (.pick (.l 10) (.c (.bool true)) (.l 0))),(.i (.v 15) (.mv (.l 0)))]),(.cond (.v 15) [(.ops [(.i .l (.build [(.int .i64 0),(.int .i64 0),.nils] [(0,1),(1,1),(2,1)] [])),(.i .n (.store 3 (.v 7) (.l 0))),(.i .n (.store 1 (.v 8) (.c (.int .i64 0)))),(.i .n (.store 1 (.v 9) (.c (.int .i64 8))))]),.ret] [])])])]
def xF:List RS:=[(.ops [(.i .l (.load true 3 (.v 5))),(.i .l (.call (.c (.fn 18 [] [])) [(.l 0)])),(.i (.v 10) (.mv (.l 0)))]),(.ops [(.i .l (.mv (.v 10))),(.i (.v 16) (.bin (.int .i64) .neq (.l 0) (.c (.int .i64 0))))]),(.cond (.v 16) [(.ops [(.i .l (.build [(.int .i64 0),(.int .i64 0),.nils] [(0,1),(1,1),(2,1)] [])),(.i .l (.mv (.v 10))),(.i .n (.store 3 (.v 7) (.l 1))),(.i .n (.store 1 (.v 8) (.c (.int .i64 0)))),(.i .n (.store 1 (.v 9) (.l 0)))]),.ret] [])]
def wJ:List RS:=[(.ops [(.i .l (.mv (.v 0))),(.i .l (.load false 1 (.v 6))),(.i .l (.build [.nilp,.nils,(.int .i64 0)] [(0,1),(1,1),(2,1)] [(0,(.l 1)),(2,(.l 0))])),(.i .l (.box 3 (.l 0))),(.i (.v 11) (.alloc [.nilp])),(.i .n (.store 1 (.v 11) (.l 0)))])]
def xK:List RS:=[(.ops [(.i .l (.load false 1 (.v 11))),(.i .l (.mv (.v 1))),(.i .l (.mv (.v 2))),(.i .l (.load true 3 (.v 5))),(.i .l (.call (.c (.fn 46 [] [])) [(.l 0)])),(.ck [⟨none,false,1,(.v 11),(.l 4)⟩]),(.i .l (.build [(.int .i64 0),(.int .i64 0),(.int .i64 0),(.int .i64 0),(.int .i64 0),.nils,.nils,.nils,(.bool false),.nils] [(0,1),(1,1),(2,1),(3,3),(6,1),(7,1),(8,1),(9,1)] [(0,(.l 3)),(1,(.l 2)),(3,(.l 0))])),(.i .l (.bsl true 126 [(.int .i64 0),(.int .i64 0),(.int .i64 0),(.int .i64 0),(.int .i64 0),.nils,.nils,.nils,(.bool false),.nils] 10 1 [(0,(.l 0))])),(.ck [⟨none,false,1,(.v 11),(.l 6)⟩]),(.i .l (.nilc (.l 6))),(.i .l (.fad 1 (.l 0))),(.i .n (.store 1 (.l 0) (.l 2)))])]
def iX:List RS:=[(.block 2 [(.ops [(.i .l (.load false 1 (.v 11))),(.i .l (.call (.c (.fn 48 [] [])) [(.l 0)])),(.i .l (.mv (.l 0))),(.i .l (.ext (.l 0) 0)),(.i .l (.ext (.l 1) 1)),(.i (.v 12) (.alloc [(.int .i64 0),(.int .i64 0),.nils])),(.i .n (.store 3 (.v 12) (.l 1))),(.i (.v 13) (.mv (.l 0)))]),(.ops [(.i (.v 17) (.mv (.v 13)))]),(.cond (.v 17) [(.ops [(.i .l (.load true 3 (.v 12))),(.i .l (.load false 1 (.v 6))),(.i .l (.load false 1 (.v 11))),(.i .l (.nilc (.l 0))),(.i .l (.fad 2 (.l 0))),(.i .l (.load false 1 (.l 0))),(.i .l (.bin (.int .i64) .sub (.l 4) (.l 0))),(.i .l (.call (.c (.fn 46 [] [])) [(.l 6)])),(.ck [⟨none,false,1,(.v 6),(.l 6)⟩,⟨none,false,1,(.v 11),(.l 5)⟩,⟨none,false,1,(.l 3),(.l 2)⟩]),(.i .n (.store 3 (.v 7) (.l 0))),(.ck [⟨none,false,1,(.v 6),(.l 6)⟩,⟨none,false,1,(.v 11),(.l 5)⟩,⟨none,false,1,(.l 3),(.l 2)⟩]),(.i .n (.store 1 (.v 8) (.l 1))),(.i .n (.store 1 (.v 9) (.c (.int .i64 0))))]),.ret] [])])]
def sa:List RS:=[(.block 1 [(.loop iX)])]
def Cq:List RS:=[(.ops [(.i .l (.mv (.v 5))),(.i (.v 8) (.binG .iface none true .neq (.l 0) (.c .nili)))]),(.cond (.v 8) [(.ops [(.i .l (.mv (.v 5))),(.i .l (.tas 127 true (.l 0))),(.i .l (.mv (.l 0))),(.i .l (.ext (.l 0) 0)),(.i .l (.ext (.l 1) 1)),(.i (.v 6) (.mv (.l 1))),(.i (.v 7) (.mv (.l 0)))]),(.ops [(.i .l (.mv (.v 7))),(.i (.v 9) (.un .not (.l 0)))]),(.cond (.v 9) [(.ops [(.i .l (.mv (.v 5))),(.i .n (.pan (.l 0)))])] []),(.ops [(.i .l (.build [(.int .i64 0),(.int .i64 0),.nils] [(0,1),(1,1),(2,1)] [])),(.i .l (.load false 1 (.v 0))),(.i .l (.load false 1 (.v 1))),(.i .l (.nilc (.l 0))),(.i .l (.fad 2 (.l 0))),(.i .l (.load false 1 (.l 0))),(.i .l (.bin (.int .i64) .sub (.l 4) (.l 0))),(.i .l (.mv (.v 6))),(.i .n (.store 3 (.v 2) (.l 7))),(.i .n (.store 1 (.v 3) (.l 1))),(.i .n (.store 1 (.v 4) (.l 0)))])] [])]
def tA:List RS:=[(.ops [(.i (.v 1) (.mv (.c (.int .i64 0)))),(.i (.v 2) (.mv (.c (.int .i64 0))))]),(.ops [(.i .l (.mv (.v 0))),(.i .l (.nilc (.l 0))),(.i .l (.fad 1 (.l 0))),(.i .l (.load false 1 (.l 0))),(.i .l (.len false (some 4) (.l 0))),(.i (.v 3) (.bin (.int .i64) .eql (.l 0) (.c (.int .i64 20))))]),(.cond (.v 3) [(.ops [(.i (.v 1) (.mv (.c (.int .i64 0)))),(.i (.v 2) (.mv (.c (.int .i64 11))))]),.ret] []),(.ops [(.i .l (.mv (.v 0))),(.i .l (.mv (.v 0))),(.i .l (.nilc (.l 0))),(.i .l (.fad 1 (.l 0))),(.i .l (.load false 1 (.l 0))),(.i .l (.bsl true 4 [(.bool false)] 1 1 [(0,(.c (.bool false)))])),(.i .l (.app true 4 (.l 1) (.l 0))),(.i .l (.nilc (.l 6))),(.i .l (.fad 1 (.l 0))),(.i .n (.store 1 (.l 0) (.l 2)))]),(.ops [(.i .l (.mv (.v 0))),(.i .l (.nilc (.l 0))),(.i .l (.fad 1 (.l 0))),(.i .l (.load false 1 (.l 0))),(.i .l (.len false (some 4) (.l 0))),(.i .l (.bin (.int .i64) .sub (.l 0) (.c (.int .i64 1)))),(.i (.v 1) (.mv (.l 0))),(.i (.v 2) (.mv (.c (.int .i64 0))))]),.ret]
theorem AM:FnR Try.prog po 58 1 4 [0,2,3,9] tA [(.v 1),(.v 2)] false:=⟨_,_,Try.func58,rfl,rfl,by kernel_rfl,by kernel_rfl,by kernel_rfl,by kernel_rfl,by kernel_rfl⟩
def CL:List RS:=[(.ops [(.i (.v 2) (.mv (.c (.bool false))))]),(.ops [(.i .l (.mv (.v 1))),(.i .l (.bin (.int .i64) .geq (.l 0) (.c (.int .i64 0)))),(.i .l (.mv (.l 0))),(.g (.l 0) true .l (.mv (.v 1))),(.g (.l 1) true .l (.mv (.v 0))),(.g (.l 2) true .l (.nilc (.l 0))),(.g (.l 3) true .l (.fad 1 (.l 0))),(.g (.l 4) true .l (.load false 1 (.l 0))),(.g (.l 5) true .l (.len false (some 4) (.l 0))),(.g (.l 6) true .l (.bin (.int .i64) .lss (.l 5) (.l 0))),(.i .l (.pick (.l 7) (.l 0) (.c (.bool false)))),(.i (.v 2) (.mv (.l 0)))]),.ret]
theorem LP:FnR Try.prog po 89 2 3 [0,1,4] CL [(.v 2)] true:=⟨_,_,Try.func89,rfl,rfl,by kernel_rfl,by kernel_rfl,by kernel_rfl,by kernel_rfl,by kernel_rfl⟩
def xv:List RS:=[(.ops [(.i (.v 2) (.mv (.c (.int .i64 0))))]),(.ops [(.i .l (.mv (.v 0))),(.i .l (.mv (.v 1))),(.i .l (.call (.c (.fn 89 [] [])) [(.l 1),(.l 0)])),(.i (.v 3) (.un .not (.l 0)))]),(.cond (.v 3) [(.ops [(.i (.v 2) (.mv (.c (.int .i64 8))))]),.ret] []),(.ops [(.i .l (.mv (.v 0))),(.i .l (.nilc (.l 0))),(.i .l (.fad 1 (.l 0))),(.i .l (.load false 1 (.l 0))),(.i .l (.mv (.v 1))),(.i .l (.ixa (some 4) none (.l 1) (.l 0))),(.i .n (.store 1 (.l 0) (.c (.bool true))))]),(.ops [(.i (.v 2) (.mv (.c (.int .i64 0))))]),.ret]
theorem DH:FnR Try.prog po 57 2 4 [0,1,4,8] xv [(.v 2)] false:=⟨_,_,Try.func57,rfl,rfl,by kernel_rfl,by kernel_rfl,by kernel_rfl,by kernel_rfl,by kernel_rfl⟩
def yG:List RS:=[(.ops [(.i (.v 2) (.mv (.c (.bool false))))]),(.ops [(.i .l (.mv (.v 0))),(.i .l (.mv (.v 1))),(.i .l (.call (.c (.fn 89 [] [])) [(.l 1),(.l 0)])),(.i .l (.mv (.l 0))),(.g (.l 0) true .l (.mv (.v 0))),(.g (.l 1) true .l (.nilc (.l 0))),(.g (.l 2) true .l (.fad 1 (.l 0))),(.g (.l 3) true .l (.load false 1 (.l 0))),(.g (.l 4) true .l (.mv (.v 1))),(.g (.l 5) true .l (.ixa (some 4) none (.l 1) (.l 0))),(.g (.l 6) true .l (.load false 1 (.l 0))),(.g (.l 7) true .l (.un .not (.l 0))),(.i .l (.pick (.l 8) (.l 0) (.c (.bool false)))),(.i (.v 2) (.mv (.l 0)))]),.ret]
theorem Jn:FnR Try.prog po 140 2 3 [0,1,4] yG [(.v 2)] true:=⟨_,_,Try.func140,rfl,rfl,by kernel_rfl,by kernel_rfl,by kernel_rfl,by kernel_rfl,by kernel_rfl⟩
def De:List RS:=[(.ops [(.i (.v 2) (.mv (.c (.bool false))))]),(.ops [(.i .l (.mv (.v 1))),(.i .l (.bin (.int .i64) .geq (.l 0) (.c (.int .i64 0)))),(.i .l (.mv (.l 0))),(.g (.l 0) true .l (.mv (.v 1))),(.g (.l 1) true .l (.mv (.v 0))),(.g (.l 2) true .l (.nilc (.l 0))),(.g (.l 3) true .l (.fad 0 (.l 0))),(.g (.l 4) true .l (.load false 1 (.l 0))),(.g (.l 5) true .l (.len false (some 103) (.l 0))),(.g (.l 6) true .l (.bin (.int .i64) .lss (.l 5) (.l 0))),(.i .l (.pick (.l 7) (.l 0) (.c (.bool false)))),(.i (.v 2) (.mv (.l 0)))]),.ret]
theorem Lm:FnR Try.prog po 94 2 3 [0,1,4] De [(.v 2)] true:=⟨_,_,Try.func94,rfl,rfl,by kernel_rfl,by kernel_rfl,by kernel_rfl,by kernel_rfl,by kernel_rfl⟩
def kS:List RS:=[(.ops [(.i (.v 2) (.box 6 (.v 1))),(.i (.v 3) (.mv (.c (.int .i64 0)))),(.i (.v 4) (.mv (.c (.int .i64 0))))]),(.block 0 [(.ops [(.i .l (.fad 2 (.v 2))),(.i .l (.load false 1 (.l 0))),(.i .l (.call (.c (.fn 112 [] [])) [(.l 0)])),(.i .l (.un .not (.l 0))),(.i (.v 5) (.mv (.l 0)))]),(.cond (.v 5) [(.ops [(.i (.v 3) (.mv (.c (.int .i64 0)))),(.i (.v 4) (.mv (.c (.int .i64 1))))]),.ret] [(.ops [(.i .l (.fad 1 (.v 2))),(.i .l (.load false 1 (.l 0))),(.i .l (.bin (.int .i64) .neq (.l 0) (.c (.int .i64 (-1))))),(.i .l (.mv (.l 0))),(.g (.l 0) true .l (.mv (.v 0))),(.g (.l 1) true .l (.fad 1 (.v 2))),(.g (.l 2) true .l (.load false 1 (.l 0))),(.g (.l 3) true .l (.call (.c (.fn 89 [] [])) [(.l 2),(.l 0)])),(.g (.l 4) true .l (.un .not (.l 0))),(.i .l (.pick (.l 5) (.l 0) (.c (.bool false)))),(.i (.v 6) (.mv (.l 0)))]),(.cond (.v 6) [(.ops [(.i (.v 3) (.mv (.c (.int .i64 0)))),(.i (.v 4) (.mv (.c (.int .i64 8))))]),.ret] [(.ops [(.i .l (.mv (.v 0))),(.i .l (.nilc (.l 0))),(.i .l (.fad 0 (.l 0))),(.i .l (.load false 1 (.l 0))),(.i .l (.len false (some 103) (.l 0))),(.i .l (.bin (.int .i64) .eql (.l 0) (.c (.int .i64 80)))),(.i (.v 7) (.mv (.l 0)))]),(.cond (.v 7) [(.ops [(.i (.v 3) (.mv (.c (.int .i64 0)))),(.i (.v 4) (.mv (.c (.int .i64 11))))]),.ret] [])])])]),(.ops [(.i .l (.mv (.v 0))),(.i .l (.mv (.v 0))),(.i .l (.nilc (.l 0))),(.i .l (.fad 0 (.l 0))),(.i .l (.load false 1 (.l 0))),(.i .l (.load true 6 (.v 2))),(.i .l (.bsl false 103 [(.int .i64 0),(.int .i64 0),(.int .i64 0),(.int .i64 0),(.int .i64 0),(.int .i64 0)] 6 1 [(0,(.l 0))])),(.ck [⟨none,false,1,(.l 3),(.l 2)⟩]),(.i .l (.app false 103 (.l 2) (.l 0))),(.i .l (.nilc (.l 7))),(.i .l (.fad 0 (.l 0))),(.i .n (.store 1 (.l 0) (.l 2)))]),(.ops [(.i .l (.mv (.v 0))),(.i .l (.nilc (.l 0))),(.i .l (.fad 0 (.l 0))),(.i .l (.load false 1 (.l 0))),(.i .l (.len false (some 103) (.l 0))),(.i .l (.bin (.int .i64) .sub (.l 0) (.c (.int .i64 1)))),(.i (.v 3) (.mv (.l 0))),(.i (.v 4) (.mv (.c (.int .i64 0))))]),.ret]
theorem mr:FnR Try.prog po 88 2 8 [0,1,3,4,5,6,11,22] kS [(.v 3),(.v 4)] false:=⟨_,_,Try.func88,rfl,rfl,by kernel_rfl,by kernel_rfl,by kernel_rfl,by kernel_rfl,by kernel_rfl⟩
def uj:List RS:=[(.ops [(.i (.v 4) (.mv (.c (.int .i64 0)))),(.i (.v 5) (.mv (.c (.int .i64 0))))]),(.ops [(.i .l (.mv (.v 1))),(.i .l (.call (.c (.fn 87 [] [])) [(.l 0)])),(.i (.v 6) (.un .not (.l 0)))]),(.cond (.v 6) [(.ops [(.i (.v 4) (.mv (.c (.int .i64 0)))),(.i (.v 5) (.mv (.c (.int .i64 1))))]),.ret] []),(.ops [(.i .l (.mv (.v 0))),(.i .l (.mv (.v 3))),(.i .l (.mv (.v 2))),(.i .l (.mv (.v 1))),(.i .l (.build [(.int .i64 0),(.int .i64 0),(.int .i64 0),(.int .i64 0),(.int .i64 0),(.int .i64 0)] [(0,1),(1,1),(2,1),(3,1),(4,1),(5,1)] [(0,(.c (.int .i64 (-1)))),(1,(.l 2)),(2,(.l 1)),(3,(.l 0)),(4,(.c (.int .i64 (-1))))])),(.i .l (.call (.c (.fn 88 [] [])) [(.l 4),(.l 0)])),(.i .l (.ext (.l 0) 0)),(.i .l (.ext (.l 1) 1)),(.i (.v 4) (.mv (.l 1))),(.i (.v 5) (.mv (.l 0)))]),.ret]
theorem y8:FnR Try.prog po 53 4 7 [0,1,2,3,8,9,12] uj [(.v 4),(.v 5)] false:=⟨_,_,Try.func53,rfl,rfl,by kernel_rfl,by kernel_rfl,by kernel_rfl,by kernel_rfl,by kernel_rfl⟩
def rX:List RS:=[(.ops [(.i (.v 5) (.mv (.c (.int .i64 0)))),(.i (.v 6) (.mv (.c (.int .i64 0))))]),(.ops [(.i .l (.mv (.v 1))),(.i .l (.bin (.int .i64) .lss (.l 0) (.c (.int .i64 0)))),(.i .l (.mv (.l 0))),(.g (.l 0) false .l (.mv (.v 1))),(.g (.l 1) false .l (.bin (.int .i64) .geq (.l 0) (.c (.int .i64 4)))),(.i .l (.pick (.l 2) (.c (.bool true)) (.l 0))),(.i .l (.mv (.l 0))),(.g (.l 0) false .l (.mv (.v 2))),(.g (.l 1) false .l (.bin (.int .i64) .lss (.l 0) (.c (.int .i64 0)))),(.i .l (.pick (.l 2) (.c (.bool true)) (.l 0))),(.i .l (.mv (.l 0))),(.g (.l 0) false .l (.mv (.v 2))),(.g (.l 1) false .l (.bin (.int .i64) .geq (.l 0) (.c (.int .i64 6)))),(.i (.v 7) (.pick (.l 2) (.c (.bool true)) (.l 0)))]),(.cond (.v 7) [(.ops [(.i (.v 5) (.mv (.c (.int .i64 0)))),(.i (.v 6) (.mv (.c (.int .i64 1))))]),.ret] []),(.ops [(.i .l (.mv (.v 0))),(.i .l (.mv (.v 4))),(.i .l (.mv (.v 3))),(.i .l (.mv (.v 1))),(.i .l (.mv (.v 2))),(.i .l (.build [(.int .i64 0),(.int .i64 0),(.int .i64 0),(.int .i64 0),(.int .i64 0),(.int .i64 0)] [(0,1),(1,1),(2,1),(3,1),(4,1),(5,1)] [(0,(.c (.int .i64 (-1)))),(1,(.l 3)),(2,(.l 2)),(4,(.l 1)),(5,(.l 0))])),(.i .l (.call (.c (.fn 88 [] [])) [(.l 5),(.l 0)])),(.i .l (.ext (.l 0) 0)),(.i .l (.ext (.l 1) 1)),(.i (.v 5) (.mv (.l 1))),(.i (.v 6) (.mv (.l 0)))]),.ret]
theorem zt:FnR Try.prog po 55 5 8 [0,1,2,3,4,10,11,25] rX [(.v 5),(.v 6)] false:=⟨_,_,Try.func55,rfl,rfl,by kernel_rfl,by kernel_rfl,by kernel_rfl,by kernel_rfl,by kernel_rfl⟩
def mZ:List RS:=[(.ops [(.i (.v 4) (.mv (.c (.int .i64 0)))),(.i (.v 5) (.mv (.c (.int .i64 0))))]),(.ops [(.i .l (.mv (.v 0))),(.i .l (.mv (.v 1))),(.i .l (.call (.c (.fn 94 [] [])) [(.l 1),(.l 0)])),(.i (.v 6) (.un .not (.l 0)))]),(.cond (.v 6) [(.ops [(.i (.v 4) (.mv (.c (.int .i64 0)))),(.i (.v 5) (.mv (.c (.int .i64 8))))]),.ret] []),(.ops [(.i .l (.mv (.v 0))),(.i .l (.mv (.v 1))),(.i .l (.mv (.v 3))),(.i .l (.mv (.v 2))),(.i .l (.build [(.int .i64 0),(.int .i64 0),(.int .i64 0),(.int .i64 0),(.int .i64 0),(.int .i64 0)] [(0,1),(1,1),(2,1),(3,1),(4,1),(5,1)] [(0,(.l 2)),(1,(.l 1)),(2,(.l 0)),(4,(.c (.int .i64 (-1))))])),(.i .l (.call (.c (.fn 88 [] [])) [(.l 4),(.l 0)])),(.i .l (.ext (.l 0) 0)),(.i .l (.ext (.l 1) 1)),(.i (.v 4) (.mv (.l 1))),(.i (.v 5) (.mv (.l 0)))]),.ret]
theorem sT:FnR Try.prog po 79 4 7 [0,1,2,3,8,9,13] mZ [(.v 4),(.v 5)] false:=⟨_,_,Try.func79,rfl,rfl,by kernel_rfl,by kernel_rfl,by kernel_rfl,by kernel_rfl,by kernel_rfl⟩
def jx:List RS:=[(.ops [(.i .l (.mv (.v 0))),(.i .l (.mv (.v 1))),(.i (.v 4) (.call (.c (.fn 94 [] [])) [(.l 1),(.l 0)]))]),(.cond (.v 4) [] [(.exit 0)]),(.block 1 [(.ops [(.i .l (.mv (.v 3))),(.i .l (.mv (.v 0))),(.i .l (.nilc (.l 0))),(.i .l (.fad 0 (.l 0))),(.i .l (.load false 1 (.l 0))),(.i .l (.mv (.v 1))),(.i .l (.ixa (some 103) none (.l 1) (.l 0))),(.i .l (.load true 6 (.l 0))),(.i .l (.bsl false 103 [(.int .i64 0),(.int .i64 0),(.int .i64 0),(.int .i64 0),(.int .i64 0),(.int .i64 0)] 6 1 [(0,(.l 0))])),(.i .l (.app false 103 (.l 8) (.l 0))),(.i (.v 3) (.mv (.l 0)))]),(.ops [(.i .l (.mv (.v 0))),(.i .l (.nilc (.l 0))),(.i .l (.fad 0 (.l 0))),(.i .l (.load false 1 (.l 0))),(.i .l (.mv (.v 1))),(.i .l (.ixa (some 103) none (.l 1) (.l 0))),(.i .l (.fad 0 (.l 0))),(.i .l (.load false 1 (.l 0))),(.i (.v 1) (.mv (.l 0)))])])]
def yU:List RS:=[(.ops [(.i (.v 2) (.mv (.c .nils)))]),(.ops [(.i (.v 3) (.mv (.c .nils)))]),(.block 0 [(.loop jx)]),(.ops [(.i .l (.mv (.v 3))),(.i (.v 2) (.mv (.l 0)))]),.ret]
theorem HZ:FnR Try.prog po 67 2 5 [0,1,4,5,8] yU [(.v 2)] true:=⟨_,_,Try.func67,rfl,rfl,by kernel_rfl,by kernel_rfl,by kernel_rfl,by kernel_rfl,by kernel_rfl⟩
def fB:List RS:=[(.ops [(.i (.v 9) (.bin (.int .i64) .lss (.v 8) (.v 7)))]),(.cond (.v 9) [] [(.exit 0)]),(.block 1 [(.ops [(.i .l (.mv (.v 8))),(.i .l (.ixa (some 103) none (.v 6) (.v 8))),(.i .l (.load true 6 (.l 0))),(.i (.v 5) (.alloc [(.int .i64 0),(.int .i64 0),(.int .i64 0),(.int .i64 0),(.int .i64 0),(.int .i64 0)])),(.i (.v 4) (.mv (.l 2))),(.i .n (.store 6 (.v 5) (.l 0)))]),(.ops [(.i .l (.fad 1 (.v 5))),(.i .l (.load false 1 (.l 0))),(.i .l (.bin (.int .i64) .geq (.l 0) (.c (.int .i64 0)))),(.i .l (.mv (.l 0))),(.g (.l 0) true .l (.mv (.v 0))),(.g (.l 1) true .l (.fad 1 (.v 5))),(.g (.l 2) true .l (.load false 1 (.l 0))),(.g (.l 3) true .l (.call (.c (.fn 140 [] [])) [(.l 2),(.l 0)])),(.g (.l 4) true .l (.un .not (.l 0))),(.i (.v 10) (.pick (.l 5) (.l 0) (.c (.bool false))))]),(.cond (.v 10) [(.ops [(.i (.v 2) (.mv (.c (.int .i64 0))))]),.ret] []),(.ops [(.i .l (.mv (.v 4))),(.i (.v 11) (.bin (.int .i64) .eql (.l 0) (.c (.int .i64 0))))]),(.cond (.v 11) [(.ops [(.i (.v 3) (.mv (.c (.int .i64 15))))])] []),(.ops [(.i .l (.mv (.v 3))),(.i .l (.fad 2 (.v 5))),(.i .l (.load false 1 (.l 0))),(.i .l (.call (.c (.fn 141 [] [])) [(.l 2),(.l 0)])),(.i (.v 3) (.mv (.l 0)))])]),(.ops [(.i .l (.bin (.int .i64) .add (.v 8) (.c (.int .i64 1)))),(.i (.v 8) (.mv (.l 0)))])]
def sL:List RS:=[(.ops [(.i (.v 2) (.mv (.c (.int .i64 0))))]),(.ops [(.i (.v 3) (.mv (.c (.int .i64 0))))]),(.ops [(.i .l (.mv (.v 0))),(.i .l (.mv (.v 1))),(.i (.v 6) (.call (.c (.fn 67 [] [])) [(.l 1),(.l 0)])),(.i (.v 7) (.len false (some 103) (.v 6))),(.i (.v 8) (.mv (.c (.int .i64 0))))]),(.block 0 [(.loop fB)]),(.ops [(.i .l (.mv (.v 3))),(.i (.v 2) (.mv (.l 0)))]),.ret]
theorem BO:FnR Try.prog po 133 2 12 [0,1,4,5,6,7,10,11,12,13,26,28] sL [(.v 2)] true:=⟨_,_,Try.func133,rfl,rfl,by kernel_rfl,by kernel_rfl,by kernel_rfl,by kernel_rfl,by kernel_rfl⟩
def sj:List RS:=[(.ops [(.i (.v 2) (.alloc [(.int .i64 0),(.int .i64 0),(.int .i64 0),(.int .i64 0),(.int .i64 0),(.int .i64 0)])),(.i (.v 3) (.mv (.c (.bool false))))]),(.ops [(.i .l (.mv (.v 0))),(.i .l (.mv (.v 1))),(.i .l (.call (.c (.fn 67 [] [])) [(.l 1),(.l 0)])),(.i (.v 4) (.mv (.l 0)))]),(.ops [(.i .l (.mv (.v 4))),(.i .l (.len false (some 103) (.l 0))),(.i (.v 5) (.bin (.int .i64) .eql (.l 0) (.c (.int .i64 0))))]),(.cond (.v 5) [(.ops [(.i .l (.build [(.int .i64 0),(.int .i64 0),(.int .i64 0),(.int .i64 0),(.int .i64 0),(.int .i64 0)] [(0,1),(1,1),(2,1),(3,1),(4,1),(5,1)] [])),(.i .n (.store 6 (.v 2) (.l 0))),(.i (.v 3) (.mv (.c (.bool false))))]),.ret] []),(.ops [(.i .l (.mv (.v 4))),(.i .l (.mv (.v 4))),(.i .l (.len false (some 103) (.l 0))),(.i .l (.bin (.int .i64) .sub (.l 0) (.c (.int .i64 1)))),(.i .l (.ixa (some 103) none (.l 3) (.l 0))),(.i .l (.load true 6 (.l 0))),(.i .n (.store 6 (.v 2) (.l 0))),(.i (.v 3) (.mv (.c (.bool true))))]),.ret]
theorem Bi:FnR Try.prog po 38 2 6 [0,1,4,5,6,12] sj [(.cell true 6 2),(.v 3)] true:=⟨_,_,Try.func38,rfl,rfl,by kernel_rfl,by kernel_rfl,by kernel_rfl,by kernel_rfl,by kernel_rfl⟩
def iF:List RS:=[(.ops [(.i (.v 8) (.bin (.int .i64) .lss (.v 7) (.v 6)))]),(.cond (.v 8) [] [(.exit 0)]),(.block 1 [(.ops [(.i .l (.ixa (some 103) none (.v 5) (.v 7))),(.i .l (.load true 6 (.l 0))),(.i (.v 4) (.alloc [(.int .i64 0),(.int .i64 0),(.int .i64 0),(.int .i64 0),(.int .i64 0),(.int .i64 0)])),(.i .n (.store 6 (.v 4) (.l 0)))]),(.ops [(.i .l (.fad 1 (.v 4))),(.i .l (.load false 1 (.l 0))),(.i (.v 9) (.bin (.int .i64) .geq (.l 0) (.c (.int .i64 0))))]),(.cond (.v 9) [(.ops [(.i .l (.mv (.v 3))),(.i .l (.fad 1 (.v 4))),(.i .l (.load false 1 (.l 0))),(.i .l (.bsl false 3 [(.int .i64 0)] 1 1 [(0,(.l 0))])),(.i .l (.app false 3 (.l 3) (.l 0))),(.i (.v 3) (.mv (.l 0)))])] [])]),(.ops [(.i .l (.bin (.int .i64) .add (.v 7) (.c (.int .i64 1)))),(.i (.v 7) (.mv (.l 0)))])]
def uP:List RS:=[(.ops [(.i (.v 2) (.mv (.c .nils)))]),(.ops [(.i (.v 3) (.mv (.c .nils)))]),(.ops [(.i .l (.mv (.v 0))),(.i .l (.mv (.v 1))),(.i (.v 5) (.call (.c (.fn 67 [] [])) [(.l 1),(.l 0)])),(.i (.v 6) (.len false (some 103) (.v 5))),(.i (.v 7) (.mv (.c (.int .i64 0))))]),(.block 0 [(.loop iF)]),(.ops [(.i .l (.mv (.v 3))),(.i (.v 2) (.mv (.l 0)))]),.ret]
theorem FB:FnR Try.prog po 138 2 10 [0,1,4,5,7,10,11,12,13,18] uP [(.v 2)] true:=⟨_,_,Try.func138,rfl,rfl,by kernel_rfl,by kernel_rfl,by kernel_rfl,by kernel_rfl,by kernel_rfl⟩
def wo:List RS:=[(.ops [(.i (.v 1) (.mv (.c .nils)))]),(.ops [(.i .l (.mv (.v 0))),(.i .l (.nilc (.l 0))),(.i .l (.fad 0 (.l 0))),(.i .l (.load false 1 (.l 0))),(.i .l (.call (.c (.fn 62 [] [])) [(.l 0)])),(.i (.v 1) (.mv (.l 0)))]),.ret]
theorem Ez:FnR Try.prog po 30 1 2 [0,2] wo [(.v 1)] true:=⟨_,_,Try.func30,rfl,rfl,by kernel_rfl,by kernel_rfl,by kernel_rfl,by kernel_rfl,by kernel_rfl⟩
def C0:List RS:=[(.ops [(.i (.v 0) (.mv (.c .nilp)))]),(.ops [(.i .l (.build [.nils,.nils] [(0,1),(1,1)] [])),(.i .l (.box 2 (.l 0))),(.i (.v 0) (.mv (.l 0)))]),.ret]
theorem LD:FnR Try.prog po 68 0 1 [0] C0 [(.v 0)] false:=⟨_,_,Try.func68,rfl,rfl,by kernel_rfl,by kernel_rfl,by kernel_rfl,by kernel_rfl,by kernel_rfl⟩
def pR:List RS:=[(.ops [(.i (.v 1) (.mv (.c .nils)))]),(.ops [(.i .l (.mv (.v 0))),(.i (.v 2) (.bin .slice .eql (.l 0) (.c .nils)))]),(.cond (.v 2) [(.ops [(.i (.v 1) (.mv (.c .nils)))]),.ret] []),(.ops [(.i .l (.bsl false 103 [(.int .i64 0),(.int .i64 0),(.int .i64 0),(.int .i64 0),(.int .i64 0),(.int .i64 0)] 6 0 [])),(.i .l (.mv (.v 0))),(.i .l (.app false 103 (.l 1) (.l 0))),(.i (.v 1) (.mv (.l 0)))]),.ret]
theorem ww:FnR Try.prog po 62 1 3 [0,2,4] pR [(.v 1)] true:=⟨_,_,Try.func62,rfl,rfl,by kernel_rfl,by kernel_rfl,by kernel_rfl,by kernel_rfl,by kernel_rfl⟩
def DV:List RS:=[(.ops [(.i (.v 1) (.mv (.c (.bool false))))]),(.ops [(.i .l (.mv (.v 0))),(.i .l (.bin (.int .i64) .geq (.l 0) (.c (.int .i64 0)))),(.i .l (.mv (.l 0))),(.g (.l 0) true .l (.mv (.v 0))),(.g (.l 1) true .l (.bin (.int .i64) .lss (.l 0) (.c (.int .i64 12)))),(.i .l (.pick (.l 2) (.l 0) (.c (.bool false)))),(.i (.v 1) (.mv (.l 0)))]),.ret]
theorem LI:FnR Try.prog po 87 1 2 [0,2] DV [(.v 1)] true:=⟨_,_,Try.func87,rfl,rfl,by kernel_rfl,by kernel_rfl,by kernel_rfl,by kernel_rfl,by kernel_rfl⟩
def Dd:List RS:=[(.ops [(.i (.v 2) (.mv (.c (.bool false))))]),(.ops [(.i .l (.mv (.v 1))),(.i .l (.bin (.int .i64) .geq (.l 0) (.c (.int .i64 0)))),(.i .l (.mv (.l 0))),(.g (.l 0) true .l (.mv (.v 1))),(.g (.l 1) true .l (.mv (.v 0))),(.g (.l 2) true .l (.nilc (.l 0))),(.g (.l 3) true .l (.fad 1 (.l 0))),(.g (.l 4) true .l (.load false 1 (.l 0))),(.g (.l 5) true .l (.len false (some 4) (.l 0))),(.g (.l 6) true .l (.bin (.int .i64) .lss (.l 5) (.l 0))),(.i .l (.pick (.l 7) (.l 0) (.c (.bool false)))),(.i (.v 2) (.mv (.l 0)))]),.ret]
theorem Kb:FnR Try.prog po 104 2 3 [0,1,4] Dd [(.v 2)] true:=⟨_,_,Try.func104,rfl,rfl,by kernel_rfl,by kernel_rfl,by kernel_rfl,by kernel_rfl,by kernel_rfl⟩
def kK:List RS:=[(.ops [(.i (.v 2) (.box 6 (.v 1))),(.i (.v 3) (.mv (.c (.int .i64 0)))),(.i (.v 4) (.mv (.c (.int .i64 0))))]),(.ops [(.i .l (.fad 2 (.v 2))),(.i .l (.load false 1 (.l 0))),(.i .l (.bin (.int .i64) .lss (.l 0) (.c (.int .i64 0)))),(.i .l (.mv (.l 0))),(.g (.l 0) false .l (.fad 2 (.v 2))),(.g (.l 1) false .l (.load false 1 (.l 0))),(.g (.l 2) false .l (.bin (.int .i64) .gtr (.l 0) (.c (.int .i64 15)))),(.i (.v 5) (.pick (.l 3) (.c (.bool true)) (.l 0)))]),(.cond (.v 5) [(.ops [(.i (.v 3) (.mv (.c (.int .i64 0)))),(.i (.v 4) (.mv (.c (.int .i64 1))))]),.ret] []),(.ops [(.i .l (.fad 1 (.v 2))),(.i .l (.load false 1 (.l 0))),(.i .l (.bin (.int .i64) .neq (.l 0) (.c (.int .i64 (-1))))),(.i .l (.mv (.l 0))),(.g (.l 0) true .l (.mv (.v 0))),(.g (.l 1) true .l (.fad 1 (.v 2))),(.g (.l 2) true .l (.load false 1 (.l 0))),(.g (.l 3) true .l (.call (.c (.fn 104 [] [])) [(.l 2),(.l 0)])),(.g (.l 4) true .l (.un .not (.l 0))),(.i (.v 6) (.pick (.l 5) (.l 0) (.c (.bool false))))]),(.cond (.v 6) [(.ops [(.i (.v 3) (.mv (.c (.int .i64 0)))),(.i (.v 4) (.mv (.c (.int .i64 8))))]),.ret] []),(.ops [(.i .l (.mv (.v 0))),(.i .l (.nilc (.l 0))),(.i .l (.fad 0 (.l 0))),(.i .l (.load false 1 (.l 0))),(.i .l (.len false (some 103) (.l 0))),(.i (.v 7) (.bin (.int .i64) .geq (.l 0) (.c (.int .i64 80))))]),(.cond (.v 7) [(.ops [(.i (.v 3) (.mv (.c (.int .i64 0)))),(.i (.v 4) (.mv (.c (.int .i64 11))))]),.ret] []),(.ops [(.i .l (.mv (.v 0))),(.i .l (.mv (.v 0))),(.i .l (.nilc (.l 0))),(.i .l (.fad 0 (.l 0))),(.i .l (.load false 1 (.l 0))),(.i .l (.load true 6 (.v 2))),(.i .l (.bsl false 103 [(.int .i64 0),(.int .i64 0),(.int .i64 0),(.int .i64 0),(.int .i64 0),(.int .i64 0)] 6 1 [(0,(.l 0))])),(.ck [⟨none,false,1,(.l 3),(.l 2)⟩]),(.i .l (.app false 103 (.l 2) (.l 0))),(.i .l (.nilc (.l 7))),(.i .l (.fad 0 (.l 0))),(.i .n (.store 1 (.l 0) (.l 2)))]),(.ops [(.i .l (.mv (.v 0))),(.i .l (.nilc (.l 0))),(.i .l (.fad 0 (.l 0))),(.i .l (.load false 1 (.l 0))),(.i .l (.len false (some 103) (.l 0))),(.i .l (.bin (.int .i64) .sub (.l 0) (.c (.int .i64 1)))),(.i (.v 3) (.mv (.l 0))),(.i (.v 4) (.mv (.c (.int .i64 0))))]),.ret]
theorem mp:FnR Try.prog po 105 2 8 [0,1,3,4,5,13,23,29] kK [(.v 3),(.v 4)] false:=⟨_,_,Try.func105,rfl,rfl,by kernel_rfl,by kernel_rfl,by kernel_rfl,by kernel_rfl,by kernel_rfl⟩
def sb:List RS:=[(.ops [(.i (.v 4) (.mv (.c (.int .i64 0)))),(.i (.v 5) (.mv (.c (.int .i64 0))))]),(.ops [(.i .l (.mv (.v 1))),(.i .l (.bin (.int .i64) .lss (.l 0) (.c (.int .i64 0)))),(.i .l (.mv (.l 0))),(.g (.l 0) false .l (.mv (.v 1))),(.g (.l 1) false .l (.bin (.int .i64) .geq (.l 0) (.c (.int .i64 12)))),(.i (.v 6) (.pick (.l 2) (.c (.bool true)) (.l 0)))]),(.cond (.v 6) [(.ops [(.i (.v 4) (.mv (.c (.int .i64 0)))),(.i (.v 5) (.mv (.c (.int .i64 1))))]),.ret] []),(.ops [(.i .l (.mv (.v 0))),(.i .l (.mv (.v 3))),(.i .l (.mv (.v 2))),(.i .l (.mv (.v 1))),(.i .l (.build [(.int .i64 0),(.int .i64 0),(.int .i64 0),(.int .i64 0),(.int .i64 0),(.int .i64 0)] [(0,1),(1,1),(2,1),(3,1),(4,1),(5,1)] [(0,(.c (.int .i64 (-1)))),(1,(.l 2)),(2,(.l 1)),(3,(.l 0)),(4,(.c (.int .i64 (-1))))])),(.i .l (.call (.c (.fn 105 [] [])) [(.l 4),(.l 0)])),(.i .l (.ext (.l 0) 0)),(.i .l (.ext (.l 1) 1)),(.i (.v 4) (.mv (.l 1))),(.i (.v 5) (.mv (.l 0)))]),.ret]
theorem AA:FnR Try.prog po 77 4 7 [0,1,2,3,8,9,15] sb [(.v 4),(.v 5)] false:=⟨_,_,Try.func77,rfl,rfl,by kernel_rfl,by kernel_rfl,by kernel_rfl,by kernel_rfl,by kernel_rfl⟩
theorem F9 (n:aX):(aH n).length=6:=rfl
theorem EZ (n:aX):(aH n).all AV.one=true:=rfl
theorem KJ (n:aX):(aH n)[0]? =some (.int .i64 n.parent):=rfl
theorem LH (n:aX):(aH n)[1]? =some (.int .i64 n.gate):=rfl
theorem KA (n:aX):(aH n)[2]? =some (.int .i64 n.rights):=rfl
theorem K4 (n:aX):(aH n)[3]? =some (.int .i64 n.cell):=rfl
theorem Kt (n:aX):(aH n)[4]? =some (.int .i64 n.plugin):=rfl
theorem L2 (n:aX):(aH n)[5]? =some (.int .i64 n.func):=rfl
theorem fM:(∀ n,(aH n).length=6)∧(∀ n,(aH n).all AV.one=true)∧(∀ n:aX,(aH n)[0]? =some (.int .i64 n.parent))∧(∀ n:aX,(aH n)[1]? =some (.int .i64 n.gate))∧(∀ n:aX,(aH n)[2]? =some (.int .i64 n.rights))∧(∀ n:aX,(aH n)[3]? =some (.int .i64 n.cell))∧
  (∀ n:aX,(aH n)[4]? =some (.int .i64 n.plugin))∧(∀ n:aX,(aH n)[5]? =some (.int .i64 n.func)):=⟨F9,EZ,KJ,LH,KA,K4,Kt,L2⟩
theorem oZ.isL {h:AH} {J:Nat→Prop} {e:TypeId} {v:AV} {rows:List (List AV)} (g:oZ h J e v rows):IsL e v rows:=by
 rcases g with⟨rfl,rfl⟩ | ⟨id,_,_,_,_,rfl⟩
 ·exact jv e
 ·exact kJ _ _ _
theorem oP.len {h:AH} {F:Nat→Prop} {b:Nat} {e:TypeId} {v:AV} {rows:List (List AV)} (g:oP h F b e v rows):dR v=some rows.length∧∀ s,de s (some e) v=true:=by
 rcases g with⟨rfl,rfl⟩ | ⟨q,_,_,_,_,rfl⟩
 ·exact⟨rfl,fun s=>rfl⟩
 ·exact⟨rfl,fun s=>km⟩
theorem oZ.grew {h h':AH} {J:Nat→Prop} {e:TypeId} {v:AV} {rows:List (List AV)} (g:oZ h J e v rows) (x:af h h'):oZ h' J e v rows:=by
 rcases g with h1 | ⟨id,h1,h0,h2,h3,h4⟩
 ·exact .inl h1
 ·exact .inr ⟨id,h1,h0,Nat.lt_of_lt_of_le h2 x.ids,(x.hw id h2).trans h3,h4⟩
theorem oP.grew {h h':AH} {F:Nat→Prop} {b:Nat} {e:TypeId} {v:AV} {rows:List (List AV)} (g:oP h F b e v rows) (x:af h h'):oP h' F b e v rows:=by
 rcases g with h1 | ⟨q,h1,h2,h3,h4,h5⟩
 ·exact .inl h1
 ·exact .inr ⟨q,h1,h2,Nat.lt_of_lt_of_le h3 x.n,(x.cell q h3).trans h4,h5⟩
theorem IsG.grew {h h':AH} {F J:Nat→Prop} {b:Nat} {G:ae} (g:IsG h F J b G) (x:af h h'):IsG h' F J b G:=by
 obtain⟨nv,sv,h1,h2,h3⟩:=g.ex
 exact⟨⟨g.hb.1,Nat.lt_of_lt_of_le g.hb.2 x.n⟩,⟨fun k hk=>Nat.lt_of_lt_of_le (g.lt.1 k hk) x.n,fun j hj=>Nat.lt_of_lt_of_le (g.lt.2 j hj) x.ids⟩,nv,sv,(x.cell b g.hb.2).trans h1,h2.grew x,h3.grew x⟩
theorem Dh {h:AH} {F:Nat→Prop} {b:Nat} {sv:AV} {l:List Bool} (g:oP h F b tB sv (l.map fun x=>[.bool x])) {m:Nat} (hm:m<l.length):
  ∃ q,bT (some tB) none sv (.int .i64 (m:Int))=some (.ptr q m 0)∧h.cell q=some (l.map fun x=>[.bool x])∧(l.map fun x=>[AV.bool x])[m]? =some [.bool (l.getD m false)]∧F q∧q≠b∧q<h.n∧sv= .msl q 0 l.length tB:=by
 rcases g with⟨h1,_⟩ | ⟨q,h1,h2,h3,h4,rfl⟩
 ·simp at h1;subst h1;simp at hm
 ·exact⟨q,by simp[bT,hm],h4,by simp[hm,List.getD],h1,h2,h3,by simp⟩
theorem ae.gate_nat {G:ae} {k:Int} (hh:G.hasGate k=true):∃ m:Nat,k=m∧m<G.shut.length:=by
 simp[ae.hasGate]at hh
 exact⟨k.toNat,by omega,by omega⟩
theorem ae.has_nn {G:ae} {k:Int} (hh:G.has k=true):0≤k:=by simp[ae.has]at hh;exact hh.1
theorem ae.node_nat {G:ae} {k:Int} (hh:G.has k=true):∃ m:Nat,k=m∧m<G.nodes.length∧(G.nodes.map aH)[m]? =some (aH (G.nodes.getD m bH)):=by
 simp[ae.has]at hh
 have hl:k.toNat<G.nodes.length:=by omega
 exact⟨k.toNat,by omega,hl,by simp[hl,List.getD]⟩
section
variable {h:AH} {F J:Nat→Prop} {b:Nat} {G:ae}
theorem Aw (g:IsG h F J b G) (k:Int):aj Try.prog po 89 [.ptr b 0 0,.int .i64 k] h=some (.inl (.bool (G.hasGate k)),h):=by
 obtain⟨nv,sv,h1, -,h3⟩:=g.ex
 refine ah LP rfl ?_;unfold CL
 by_cases h0:0≤k<;>simp only[sim,ag,reduceAdd,reduceSub,replicate,reduceCtorEq,reduceLeDiff,reduceLT,aa,h0,h1,h3.len.1,h3.len.2,oB,ae.hasGate,List.length_map]
theorem Pb (g:IsG h F J b G) (k:Int):aj Try.prog po 104 [.ptr b 0 0,.int .i64 k] h=some (.inl (.bool (G.hasGate k)),h):=by
 obtain⟨nv,sv,h1, -,h3⟩:=g.ex
 refine ah Kb rfl ?_;unfold Dd
 by_cases h0:0≤k<;>simp only[sim,ag,reduceAdd,reduceSub,replicate,reduceCtorEq,reduceLeDiff,reduceLT,aa,h0,h1,h3.len.1,h3.len.2,oB,ae.hasGate,List.length_map]
theorem zo (g:IsG h F J b G) (k:Int):aj Try.prog po 94 [.ptr b 0 0,.int .i64 k] h=some (.inl (.bool (G.has k)),h):=by
 obtain⟨nv,sv,h1,h2, -⟩:=g.ex
 refine ah Lm rfl ?_;unfold De
 by_cases h0:0≤k<;>simp only[sim,ag,reduceAdd,reduceSub,replicate,reduceCtorEq,reduceLeDiff,reduceLT,aa,h0,h1,h2.isL.len,h2.isL.fits,oB,ae.has,List.length_map]
theorem Oo (g:IsG h F J b G) (k:Int):aj Try.prog po 140 [.ptr b 0 0,.int .i64 k] h=some (.inl (.bool (G.isOpen k)),h):=by
 obtain⟨nv,sv,h1, -,h3⟩:=g.ex
 refine ah Jn rfl ?_;unfold yG
 cases hh:G.hasGate k
 ·simp only[sim,ag,reduceAdd,reduceSub,replicate,reduceCtorEq,reduceLeDiff,reduceLT,aa,Aw g,hh,ae.isOpen]
 ·obtain⟨m,rfl,hm⟩:=ae.gate_nat hh
  obtain⟨q,e1,e2,e3, -⟩:=Dh h3 hm
  simp only[sim,ag,reduceAdd,reduceSub,replicate,reduceCtorEq,reduceLeDiff,reduceLT,aa,Aw g,hh,h1,e1,e2,e3,ae.isOpen,Int.toNat_natCast]
theorem BK (g:IsG h F J b G) (hW:G.Wf) (rest:List RS):∀ (f:Nat) (i:Int) (acc:List aX) (h':AH) (v tt:AV),i+1≤f→(G.has i=true→acc.length+i.toNat<200)→Acc h h' tN v (acc.map aH)→af h h'→
  ∃ h'' v' i' t,aq (aj Try.prog po) 5 [.lp jx,.ss [],.blk 0,.ss rest] [.ptr b 0 0,.int .i64 i,.nils,v,tt] [] h'=aq (aj Try.prog po) 5 [.ss rest] [.ptr b 0 0,i',.nils,v',t] [] h''∧Acc h h'' tN v' ((acc++G.path i).map aH)∧af h h'':=by
 intro f
 induction f with
 | zero=>
   intro i acc h' v tt hi hf ha hg
   have g':=g.grew hg
   have hh:G.has i=false:=by simp[ae.has];omega
   rw[aB jx.eq_1]
   refine⟨h',v,.int .i64 i,.bool false,?_,by rw[ae.path_no hh,List.append_nil];exact ha,hg⟩
   simp only[sim,ag,reduceAdd,reduceSub,replicate,reduceCtorEq,reduceLeDiff,reduceLT,aa,zo g',hh]
 | succ f ih=>
   intro i acc h' v tt hi hf ha hg
   have g':=g.grew hg
   obtain⟨nv,sv,h1,h2, -⟩:=g'.ex
   rw[aB jx.eq_1]
   cases hh:G.has i
   ·refine⟨h',v,.int .i64 i,.bool false,?_,by rw[ae.path_no hh,List.append_nil];exact ha,hg⟩
    simp only[sim,ag,reduceAdd,reduceSub,replicate,reduceCtorEq,reduceLeDiff,reduceLT,aa,zo g',hh]
   ·obtain⟨m,rfl,hm,hm2⟩:=ae.node_nat hh
    have hf:=hf hh
    have hix:=h2.isL.ix .i64 m _ hm2
    obtain⟨v',h2',e1,a1,a2,a3,a4⟩:=mF ha hg (row:=aH (G.nodes.getD m bH)) rfl (by simp;omega)
    simp only[sim,ag,reduceAdd,reduceSub,replicate,reduceCtorEq,reduceLeDiff,reduceLT,aa,zo g',hh,h1,hix,e1,a3,fM]
    have ok:=hW.get hh
    have hp:=ok.p1
    have hp0:=ok.p0
    simp only[Int.toNat_natCast]at hp hp0 hf
    obtain⟨h'',w',i',t,r1,r2,r3⟩:=ih (G.nodes.getD m bH).parent (acc++[G.nodes.getD m bH]) h2' v' (.bool true) (by omega) (by
     intro hpp
     have:=ae.has_nn hpp
     simp only[List.length_append,List.length_singleton]
     omega) (by simpa using a1) a2
    refine⟨h'',w',i',t,r1,?_,r3⟩
    rw[ae.path_yes hW hh]
    simpa using r2
theorem ae.path_few {G:ae} (hW:G.Wf) (i:Int):(G.path i).length≤81:=by
 have key:∀ (f:Nat) (i:Int),(G.pathF f i).length≤f:=by
  intro f
  induction f with
  | zero=>intro i;simp[ae.pathF]
  | succ f ih=>
    intro i
    unfold ae.pathF
    split
    ·have:=ih (G.nodes.getD i.toNat bH).parent
     rw[List.length_cons]
     omega
    ·simp
 by_cases hh:G.has i=true
 ·have:=key (i.toNat+1) i
  simp[ae.has]at hh
  have:=hW.few
  unfold ae.path
  omega
 ·rw[ae.path_no (by simpa using hh)]
  simp
theorem np (l:List aX):∀ r∈l.map aH,r.all lF=true:=by
 intro r hr
 obtain⟨n,_,rfl⟩:=List.mem_map.1 hr
 rfl
theorem Fy (l:List Int):∀ r∈l.map (fun x=>[AV.int .i64 x]),r.all lF=true:=by
 intro r hr
 obtain⟨n,_,rfl⟩:=List.mem_map.1 hr
 rfl
theorem Cj (g:IsG h F J b G) (hW:G.Wf) (i:Int):aj Try.prog po 67 [.ptr b 0 0,.int .i64 i] h=some (.inl (cQ tN ((G.path i).map aH)),h):=by
 refine ah HZ rfl ?_;unfold yU
 obtain⟨h'',v',i',t,r1,r2,r3⟩:=BK g hW [.ops [(.i .l (.mv (.v 3))),(.i (.v 2) (.mv (.l 0)))],.ret] (i+1).toNat i [] h .nils .junk (by omega) (by
  intro hh
  have:=hW.few
  simp[ae.has]at hh
  simp;omega) (mD _ _ _) (af.refl h)
 simp only[sim,ag,reduceAdd,reduceSub,replicate,reduceCtorEq,reduceLeDiff,reduceLT,aa,r1,aA r3 (xe r2 (np _))]
end
def pB:List RS:=[(.ops [(.i (.v 1) (.mv (.c (.bool false))))]),(.ops [(.i .l (.mv (.v 0))),(.i .l (.bin (.int .i64) .geq (.l 0) (.c (.int .i64 0)))),(.i .l (.mv (.l 0))),(.g (.l 0) true .l (.mv (.v 0))),(.g (.l 1) true .l (.bin (.int .i64) .leq (.l 0) (.c (.int .i64 15)))),(.i .l (.pick (.l 2) (.l 0) (.c (.bool false)))),(.i (.v 1) (.mv (.l 0)))]),.ret]
theorem wj:FnR Try.prog po 112 1 2 [0,2] pB [(.v 1)] true:=⟨_,_,Try.func112,rfl,rfl,by kernel_rfl,by kernel_rfl,by kernel_rfl,by kernel_rfl,by kernel_rfl⟩
def Au:List RS:=[(.ops [(.i (.v 2) (.mv (.c (.int .i64 0))))]),(.ops [(.i .l (.mv (.v 0))),(.i .l (.mv (.v 1))),(.i .l (.bin (.int .i64) .and (.l 1) (.l 0))),(.i (.v 2) (.mv (.l 0)))]),.ret]
theorem H8:FnR Try.prog po 141 2 3 [0,1,4] Au [(.v 2)] true:=⟨_,_,Try.func141,rfl,rfl,by kernel_rfl,by kernel_rfl,by kernel_rfl,by kernel_rfl,by kernel_rfl⟩
section
variable {h:AH} {F J:Nat→Prop} {b:Nat} {G:ae}
theorem Jo (x y:Int):aj Try.prog po 141 [.int .i64 x,.int .i64 y] h=some (.inl (.int .i64 (dT x y)),h):=by
 refine ah H8 rfl ?_;unfold Au
 simp only[sim,ag,reduceAdd,reduceSub,replicate,reduceCtorEq,reduceLeDiff,reduceLT,aa]
 rfl
theorem me (x:Int):aj Try.prog po 112 [.int .i64 x] h=some (.inl (.bool (fK x)),h):=by
 refine ah wj rfl ?_;unfold pB
 by_cases h0:0≤x<;>simp only[sim,ag,reduceAdd,reduceSub,replicate,reduceCtorEq,reduceLeDiff,reduceLT,aa,h0,fK]
theorem DW (x:Int):aj Try.prog po 87 [.int .i64 x] h=some (.inl (.bool (gn x)),h):=by
 refine ah LI rfl ?_;unfold DV
 by_cases h0:0≤x<;>simp only[sim,ag,reduceAdd,reduceSub,replicate,reduceCtorEq,reduceLeDiff,reduceLT,aa,h0,gn]
def cP (G:ae):Bool→Int→List aX→Int
 | _,r,[]=>r
 | first,r,n::l=>if eK G n then 0 else cP G false (dT (if first then 15 else r) n.rights) l
theorem kV (G:ae):∀ (l:List aX) (r:Int),cP G false r l=if l.any (eK G)then 0 else l.foldl (fun r n=>dT r n.rights) r
 | [],r=>rfl
 | n::l,r=>by
   simp only[cP,List.any_cons,List.foldl_cons,Bool.false_eq_true,if_false]
   rw[kV G l]
   by_cases hc:eK G n=true<;>simp[hc]
theorem uo (G:ae) (i:Int):cP G true 0 (G.path i)=G.rights i:=by
 unfold ae.rights
 cases hp:G.path i with
 | nil=>simp[cP]
 | cons n l=>
   simp only[cP,if_true,kV,reduceCtorEq,false_or,List.any_cons,List.foldl_cons]
   cases hc:eK G n<;>simp
theorem wM (g:IsG h F J b G) (v1 p:AV) (P:List aX) (hp:IsL tN p (P.map aH)) (hP:P.length≤1000):∀ (l pre:List aX) (r:Int) (h':AH) (v4 v5 t1 t2 t3:AV),P=pre++l→af h h'→
  cFR true [.v 2] h (aq (aj Try.prog po) 12 [.lp fB,.ss [],.blk 0,.ss [.ops [(.i .l (.mv (.v 3))),(.i (.v 2) (.mv (.l 0)))],.ret]] [.ptr b 0 0,v1,.int .i64 0,.int .i64 r,v4,v5,p,.int .i64 P.length,.int .i64 pre.length,t1,t2,t3] [] h')=
   some (.inl (.int .i64 (cP G pre.isEmpty r l)),h):=by
 intro l
 induction l with
 | nil=>
   intro pre r h' v4 v5 t1 t2 t3 e hg
   rw[aB fB.eq_1]
   have:¬ ((pre.length:Int)<(P.length:Int)):=by rw[e];simp
   simp only[sim,ag,reduceAdd,reduceSub,replicate,reduceCtorEq,reduceLeDiff,reduceLT,aa,this,cP,aA hg (rfl:wkA (.int .i64 r)=_)]
 | cons n l ih=>
   intro pre r h' v4 v5 t1 t2 t3 e hg
   rw[aB fB.eq_1]
   have hlt:(pre.length:Int)<(P.length:Int):=by rw[e];simp;omega
   have hix:=hp.ix .i64 pre.length (aH n) (by rw[e];simp)
   have hg2:af h (h'.push [aH n]):=hg.trans (af.push _ _)
   have hw:=w64 (n:=(pre.length:Int)+1) (by omega) (by omega)
   have gO:=Oo (g.grew hg2)
   have hemp:pre.isEmpty=decide ((pre.length:Int)=0):=by cases pre<;>simp<;>omega
   have fin:∀ (r':Int) (v4 v5 t1 t2 t3:AV),cFR true [.v 2] h (aq (aj Try.prog po) 12 [.lp fB,.ss [],.blk 0,.ss [.ops [(.i .l (.mv (.v 3))),(.i (.v 2) (.mv (.l 0)))],.ret]] [.ptr b 0 0,v1,.int .i64 0,.int .i64 r',v4,v5,p,.int .i64 P.length,.int .i64 ((pre.length:Int)+1),t1,t2,t3] [] (h'.push [aH n]))=some (.inl (.int .i64 (cP G false r' l)),h):=by
    intro r' v4 v5 t1 t2 t3
    have:=ih (pre++[n]) r' (h'.push [aH n]) v4 v5 t1 t2 t3 (by simp[e]) hg2
    have e1:(pre++[n]).isEmpty=false:=by cases pre<;>rfl
    have e2:((pre++[n]).length:Int)=(pre.length:Int)+1:=by simp
    rw[e1,e2]at this
    exact this
   by_cases h0:0≤n.gate
   ·cases hO:G.isOpen n.gate
    ·have hc:eK G n=true:=by simp[eK,h0,hO]
     simp only[sim,ag,reduceAdd,reduceSub,replicate,reduceCtorEq,reduceLeDiff,reduceLT,aa,hlt,hix,fM,h0,gO,hO,cP,hc,aA hg2 (rfl:wkA (.int .i64 0)=_)]
    ·have hc:eK G n=false:=by simp[eK,hO]
     cases hz:decide ((pre.length:Int)=0)<;>simp only[sim,ag,reduceAdd,reduceSub,replicate,reduceCtorEq,reduceLeDiff,reduceLT,aa,hlt,hix,fM,h0,gO,hO,cP,hc,Jo,hw,hz,hemp,fin]
   ·have hc:eK G n=false:=by simp[eK,h0]
    cases hz:decide ((pre.length:Int)=0)<;>simp only[sim,ag,reduceAdd,reduceSub,replicate,reduceCtorEq,reduceLeDiff,reduceLT,aa,hlt,hix,fM,h0,gO,cP,hc,Jo,hw,hz,hemp,fin]
theorem AD (g:IsG h F J b G) (hW:G.Wf) (i:Int):aj Try.prog po 133 [.ptr b 0 0,.int .i64 i] h=some (.inl (.int .i64 (G.rights i)),h):=by
 refine ah BO rfl ?_;unfold sL
 have hl:=iK tN ((G.path i).map aH)
 have hloop:=wM g (.int .i64 i) (cQ tN ((G.path i).map aH)) (G.path i) hl (by have:=ae.path_few hW i;omega) (G.path i) [] 0 h .junk .junk .junk .junk .junk rfl (af.refl h)
 simp only[List.length_nil,Int.natCast_zero,List.isEmpty_nil,uo]at hloop
 simp only[sim,ag,reduceAdd,reduceSub,replicate,reduceCtorEq,reduceLeDiff,reduceLT,aa,Cj g hW,hl.len,hl.fits,List.length_map]
 exact hloop
theorem B8 (id:Option Nat) (rows:List (List AV)) (hf:∀ r∈rows,r.all AV.one=true∧r.all lF=true) (hl:rows.length≤1000):
  aj Try.prog po 62 [.isl id tN rows] h=some (.inl (.isl none tN rows),h):=by
 refine ah ww rfl ?_;unfold pR
 have e1:aF false tN (.isl (some h.ids) tN []) (.isl id tN rows) (h.fresh 0)=some (.isl (some h.ids) tN rows,if rows.length=0 then h.fresh 0 else(h.fresh 0).grow h.ids rows.length):=by
  simp only[aF,bM,if_true,Option.bind_some]
  by_cases hz:rows.length=0
  ·simp[hz,kW,List.length_eq_zero_iff.1 hz]
  ·rw[if_neg hz,if_neg hz]
   unfold eF
   rw[if_pos ⟨by omega,by omega,by rw[List.all_eq_true];exact fun r hr=>(hf r hr).1⟩]
   simp[jW]
 have hg:af h (if rows.length=0 then h.fresh 0 else(h.fresh 0).grow h.ids rows.length):=by
  split
  ·exact af.fresh h 0
  ·exact(af.fresh h 0).grow (Nat.le_refl _)
 have hw:wkA (.isl (some h.ids) tN rows)=some (.isl none tN rows):=by
  simp only[wkA,i7 fun r hr=>(hf r hr).2,Option.map_some]
 simp only[sim,ag,reduceAdd,reduceSub,replicate,reduceCtorEq,reduceLeDiff,reduceLT,aa,e1,aA hg hw]
theorem BA:aj Try.prog po 62 [.nils] h=some (.inl .nils,h):=by
 refine ah ww rfl ?_;unfold pR
 simp only[sim,ag,reduceAdd,reduceSub,replicate,reduceCtorEq,reduceLeDiff,reduceLT,aa]
 exact aA (af.refl h) rfl
theorem KB (g:IsG h F J b G) (hW:G.Wf):aj Try.prog po 30 [.ptr b 0 0] h=some (.inl (cQ tN (G.nodes.map aH)),h):=by
 obtain⟨nv,sv,h1,h2, -⟩:=g.ex
 refine ah Ez rfl ?_;unfold wo
 rcases h2 with⟨e1,rfl⟩ | ⟨id,_,e0,_,_,rfl⟩
 ·simp only[sim,ag,reduceAdd,reduceSub,replicate,reduceCtorEq,reduceLeDiff,reduceLT,aa,h1,BA]
  rw[e1]
  exact aA (af.refl h) rfl
 ·have hc:=B8 (h:=h) (some id) (G.nodes.map aH) (fun r hr=>⟨by obtain⟨n,_,rfl⟩:=List.mem_map.1 hr;rfl,np _ r hr⟩) (by have:=hW.few;simp;omega)
  have hw:wkA (.isl none tN (G.nodes.map aH))=some (cQ tN (G.nodes.map aH)):=by
   simp only[wkA,i7 (np _),Option.map_some,cQ,if_neg e0]
  simp only[sim,ag,reduceAdd,reduceSub,replicate,reduceCtorEq,reduceLeDiff,reduceLT,aa,h1,hc,aA (af.refl h) hw]
theorem zX (g:IsG h F J b G) (hW:G.Wf) (i:Int):aj Try.prog po 38 [.ptr b 0 0,.int .i64 i] h=some (.inl (.tup [.agg (aH (G.target i).1),.bool (G.target i).2]),h):=by
 refine ah Bi rfl ?_;unfold sj
 have hl:=iK tN ((G.path i).map aH)
 have hw:∀ (n:aX) (x:Bool),wkA (.tup [.agg (aH n),.bool x])=some (.tup [.agg (aH n),.bool x]):=fun n x=>rfl
 have gp:=Cj (g.grew (af.push h [[.int .i64 0,.int .i64 0,.int .i64 0,.int .i64 0,.int .i64 0,.int .i64 0]])) hW
 have hg1:∀ n:aX,af h (h.push [aH n]):=fun n=>af.push _ _
 have hd:∀ m:Nat,IntKind.wrap .i64 (m:Int)=m→True:=fun _ _=>trivial
 rcases List.eq_nil_or_concat (G.path i)with hz | ⟨pre,n,hz⟩
 ·have ht:G.target i=(bH,false):=by simp[ae.target,hz]
  rw[ht]
  have hlen:(G.path i).length=0:=by rw[hz];rfl
  simp only[sim,ag,reduceAdd,reduceSub,replicate,reduceCtorEq,reduceLeDiff,reduceLT,aa,gp,hl.len,hl.fits,List.length_map,hlen,Int.natCast_zero]
  exact aA (hg1 bH) (hw bH false)
 ·rw[List.concat_eq_append]at hz
  have ht:G.target i=(n,true):=by
   unfold ae.target
   rw[hz]
   simp[List.getLastD_eq_getLast?]
  have hx:¬ (((pre.length+1:Nat):Int)=0):=by omega
  have hs:IntKind.wrap .i64 (((pre.length+1:Nat):Int) - 1)=(pre.length:Int):=by rw[w64]<;>(have:=ae.path_few hW i;rw[hz]at this;simp at this;omega)
  have hix:=hl.ix .i64 pre.length (aH n) (by rw[hz];simp)
  rw[ht]
  have hlen:(G.path i).length=pre.length+1:=by rw[hz];simp
  simp only[sim,ag,reduceAdd,reduceSub,replicate,reduceCtorEq,reduceLeDiff,reduceLT,aa,gp,hl.len,hl.fits,List.length_map,hlen,hx,hs,hix,fM]
  exact aA (hg1 n) (hw n true)
theorem zV (p:AV) (P:List aX) (hp:IsL tN p (P.map aH)) (hP:P.length≤1000) (v0 v1:AV):∀ (l pre:List aX) (h':AH) (v v4 t1 t2:AV),P=pre++l→af h h'→Acc h h' 3 v ((eC pre).map fun x=>[.int .i64 x])→
  cFR true [.v 2] h (aq (aj Try.prog po) 10 [.lp iF,.ss [],.blk 0,.ss [.ops [(.i .l (.mv (.v 3))),(.i (.v 2) (.mv (.l 0)))],.ret]] [v0,v1,.nils,v,v4,p,.int .i64 P.length,.int .i64 pre.length,t1,t2] [] h')=
   some (.inl (cQ 3 ((eC P).map fun x=>[.int .i64 x])),h):=by
 intro l
 induction l with
 | nil=>
   intro pre h' v v4 t1 t2 e hg ha
   rw[aB iF.eq_1]
   have hlt:¬ ((pre.length:Int)<(P.length:Int)):=by rw[e];simp
   rw[List.append_nil]at e
   rw[←e]at ha
   simp only[sim,ag,reduceAdd,reduceSub,replicate,reduceCtorEq,reduceLeDiff,reduceLT,aa,hlt,aA hg (xe ha (Fy _))]
 | cons n l ih=>
   intro pre h' v v4 t1 t2 e hg ha
   rw[aB iF.eq_1]
   have hlt:(pre.length:Int)<(P.length:Int):=by rw[e];simp;omega
   have hix:=hp.ix .i64 pre.length (aH n) (by rw[e];simp)
   have hg2:af h (h'.push [aH n]):=hg.trans (af.push _ _)
   have hw:=w64 (n:=(pre.length:Int)+1) (by omega) (by omega)
   have e2:((pre++[n]).length:Int)=(pre.length:Int)+1:=by simp
   have hfew:((eC pre).map fun x=>[AV.int .i64 x]).length≤1000000:=by
    have:=List.length_filter_le (fun n:aX=>decide (0≤n.gate)) pre
    have h2:pre.length≤P.length:=by rw[e];simp
    simp[eC];omega
   by_cases h0:0≤n.gate
   ·have hgo:eC (pre++[n])=eC pre++[n.gate]:=by simp[eC,h0]
    have ha2:Acc h (h'.push [aH n]) 3 v ((eC pre).map fun x=>[.int .i64 x]):=ha
    obtain⟨v',h2',e1,a1,a2,a3,a4⟩:=mF ha2 hg2 (row:=[.int .i64 n.gate]) rfl hfew
    simp only[hU]at e1
    have:=ih (pre++[n]) h2' v' (.ptr h'.n 0 0) (.bool true) (.bool true) (by simp[e]) a2 (by rw[hgo,List.map_append];exact a1)
    rw[e2]at this
    simp only[sim,ag,reduceAdd,reduceSub,replicate,reduceCtorEq,reduceLeDiff,reduceLT,aa,hlt,hix,fM,h0,hw,e1,this]
   ·have hgo:eC (pre++[n])=eC pre:=by simp[eC,h0]
    have ha2:Acc h (h'.push [aH n]) 3 v ((eC pre).map fun x=>[.int .i64 x]):=ha
    have:=ih (pre++[n]) (h'.push [aH n]) v (.ptr h'.n 0 0) (.bool true) (.bool false) (by simp[e]) hg2 (by rw[hgo];exact ha2)
    rw[e2]at this
    simp only[sim,ag,reduceAdd,reduceSub,replicate,reduceCtorEq,reduceLeDiff,reduceLT,aa,hlt,hix,fM,h0,hw,this]
theorem K9 (g:IsG h F J b G) (hW:G.Wf) (i:Int):aj Try.prog po 138 [.ptr b 0 0,.int .i64 i] h=some (.inl (cQ 3 ((G.gatesC i).map fun x=>[.int .i64 x])),h):=by
 refine ah FB rfl ?_;unfold uP
 have hl:=iK tN ((G.path i).map aH)
 have hloop:=zV (h:=h) (cQ tN ((G.path i).map aH)) (G.path i) hl (by have:=ae.path_few hW i;omega) (.ptr b 0 0) (.int .i64 i) (G.path i) [] h .nils .junk .junk .junk rfl (af.refl h) (mD _ _ _)
 simp only[List.length_nil,Int.natCast_zero]at hloop
 simp only[sim,ag,reduceAdd,reduceSub,replicate,reduceCtorEq,reduceLeDiff,reduceLT,aa,Cj g hW,hl.len,hl.fits,List.length_map]
 exact hloop
end
open Go.ChangeShapes Go.WideShapes Go.ChangeAt Go.RowKit Go.Deep Go.Joins
open Go.ChangeMaps (open_string shut_string)
theorem own:ownKnob Try.prog.godebug=none:=by kernel_rfl
theorem Lj:laidOutB Try.prog=true:=by kernel_rfl
section
variable {H:Type} {enc:TypeId×Value→H} {P:Program} {W W':World}
theorem mS (hl:laidOutB P=true):∀ {ts:List TypeId} {vs:List Value} {ds:List (DataW H)} {p:List MemPlace},
  DataW.TrodAll enc P W 0 (fun _=>true) true ts vs ds p→(∀ t∈ts,P.readableRec t=true∧t<P.types.size)→Below W.heap.size W W'→(∀ x∈p,x.block<W.heap.size)→
  DataW.TrodAll enc P W' 0 (fun b=>decide (b<W.heap.size)) true ts vs ds p
 | [],[],[],p,h,_,_,_=>h
 | t::ts,v::vs,d::ds,p,h,ht,hb,hp=>by
   obtain⟨p1,q1,h1,h2,rfl⟩:=h
   obtain⟨hr,hs⟩:=ht t (by simp)
   exact⟨p1,q1,Below.trod hl hr hs h1 hb (fun x hx=>hp x (by simp[hx])),mS hl h2 (fun t' h'=>ht t' (by simp[h'])) hb (fun x hx=>hp x (by simp[hx])),rfl⟩
 | [],_::_,_,_,h,_,_,_=>by simp[DataW.TrodAll]at h
 | _::_,[],_,_,h,_,_,_=>by simp[DataW.TrodAll]at h
 | _::_,_::_,[],_,h,_,_,_=>by simp[DataW.TrodAll]at h
 | [],[],_::_,_,h,_,_,_=>by simp[DataW.TrodAll]at h
theorem tY:∀ {ts:List TypeId} {vs:List Value} {ds:List (DataW H)} {p:List MemPlace},
  DataW.TrodAll enc P W 0 (fun _=>true) true ts vs ds p→∀ x∈p,x.block<W.heap.size
 | [],[],[],p,h,x,hx=>by
   have:p=[]:=h
   subst this
   simp at hx
 | t::ts,v::vs,d::ds,p,h,x,hx=>by
   obtain⟨p1,q1,⟨n,h1⟩,h2,rfl⟩:=h
   rcases List.mem_append.1 hx with hx | hx
   ·exact DataW.trod_lt n _ _ _ h1 x hx
   ·exact tY h2 x hx
 | [],_::_,_,_,h,_,_=>by simp[DataW.TrodAll]at h
 | _::_,[],_,_,h,_,_=>by simp[DataW.TrodAll]at h
 | _::_,_::_,[],_,h,_,_=>by simp[DataW.TrodAll]at h
 | [],[],_::_,_,h,_,_=>by simp[DataW.TrodAll]at h
def Law (P:Program) (f:FuncId) (args:Array Value) (W:World):Prop:=
 Calls P f args W fun e W'=>e= .returned (.bool true)∧Below W.heap.size W W'
theorem Iq {f:Func} {s:ChangeSpec} {args:Array Value} {ds gs:List (DataW H)} {before:List MemPlace} {tb:TypeId} (hl:laidOutB P=true) (htb:P.underlying tb=some .bool) (hres:f.resultTypes= #[tb])
  (hv:s.vars=[]) (hparams:∀ t∈f.params.toList,P.readableRec t=true∧t<P.types.size)
  (hs:∀ ds:List (DataW H),ds.length=f.params.size→s.fn H ds={results:=[.lit (.bool true)],args:=ds})
  (hW:DataW.Whole enc P f.params.toList s.vars false W args.toList ds gs before) (hb:Below W.heap.size W W'):
  s.post enc P f false true false false W args (.bool true) W':=by
 have hW0:=hW
 obtain⟨p,q,hA,hV,rfl,hfz,hnd⟩:=hW
 rw[hv]at hV
 obtain⟨rfl,rfl⟩:=trodVars_none hV
 have hlen:ds.length=f.params.size:=by
  have:∀ {ts:List TypeId} {vs:List Value} {ds:List (DataW H)} {p:List MemPlace},DataW.TrodAll enc P W 0 (fun _=>true) true ts vs ds p→ds.length=ts.length:=by
   intro ts
   induction ts with
   | nil=>
     intro vs ds p h
     cases vs<;>cases ds<;>simp[DataW.TrodAll]at h ⊢
   | cons t ts ih=>
     intro vs ds p h
     cases vs<;>cases ds<;>simp[DataW.TrodAll]at h ⊢
     obtain⟨_,_,_,h2,_⟩:=h
     exact ih h2
  simpa using this hA
 have e:=hs (ds++[]) (by simpa using hlen)
 refine⟨ds,[],_,[],p,[],hW0,?_,?_,?_,hb.frame _,fun h=>by cases h⟩
 ·rw[e,hres]
  exact trodAll_mk1 (shut_bool htb _)
 ·rw[e]
  simp only[List.append_nil]
  exact mS hl hA hparams hb (tY hA)
 ·rw[e,hv]
  rfl
end
open Go Go.RowKit
def h0A:AH:={n:=0,cell:=fun _=>none,ids:=0,hw:=fun _=>0}
def m0A (W:World):Mm:={base:=W.heap.size,blk:=fun _=>0,bt:=fun _=>0,bsz:=fun _=>0,imm:=fun g o=>W.cell? ⟨g,o,none⟩,tg:=fun _=>0,tc:=fun _=>0,te:=fun _=>0,jk:=fun _=>none}
theorem Ev {P:Program} {b:Nat} {w:World} (h:MM P=[]∧MZ P=[]):tU P b w:=by
 refine⟨fun q hq=> ?_,fun n hn=> ?_⟩
 ·rw[h.1]at hq
  cases hq
 ·rw[h.2]at hn
  cases hn
theorem wr0 (P:Program) (W:World) (hg:tU P W.heap.size W):WR P (m0A W) h0A W where
 good:=hg
 size:=Nat.le_refl _
 lt:=fun b es hb=>by simp[h0A]at hb
 live:=fun b es hb=>by simp[h0A]at hb
 inj:=fun b b' es es' hb=>by simp[h0A]at hb
 imm:=fun g o v h=>h
 sep:=fun b es hb=>by simp[h0A]at hb
 tip:=fun k hk=>absurd hk (Nat.not_lt_zero _)
 tfree:=fun k hk=>absurd hk (Nat.not_lt_zero _)
 tblk:=fun k hk=>absurd hk (Nat.not_lt_zero _)
 tinj:=fun k k' hk=>absurd hk (Nat.not_lt_zero _)
 jk:=fun g x hj=>by simp[m0A]at hj
theorem NI {f:FuncId} {avs:List AV} {vs:List Value} {W:World} {h':AH} (hr:aj Try.prog po f avs h0A=some (.inl (.bool true),h')) (hv:VRs Try.prog (m0A W) h0A avs vs) (hg:tU Try.prog W.heap.size W:=by exact Ev ⟨by kernel_rfl,by kernel_rfl⟩):Law Try.prog f vs.toArray W:=by
 refine(sQ pok hr (m0A W) W vs (wr0 _ W hg) hv).mono fun e W' ⟨m',_,_,hb,hx⟩=> ?_
 obtain⟨u,rfl,hu⟩:=hx
 cases hu
 exact⟨rfl,hb⟩
theorem NH {P:Program} {m:Mm} {h:AH} (s:ByteArray):VR P m h (.str s.data.toList) (.string s):=by
 have:=VR.str (P:=P) (m:=m) (h:=h) s.data.toList
 simpa using this
section
variable {P:Program} {po:Pol} {g:FuncId} {a nv:Nat} {vm:List Nat} {ss:List RS} {rs:List k9} {args:List AV} {h:AH}
theorem AQ {p:Bool} {Post:(AV ⊕ AV)×AH→Prop} (hf:FnR P po g a nv vm ss rs p) (ha:args.length=a)
  (H:∀ Q:jI→Prop,(∀ r q,cFR p rs h r=some q→Post q→Q r)→Q (aq (aj P po) nv [.ss ss] (args++replicate (vm.length - args.length) .junk) [] h)):
  ∃ q,aj P po g args h=some q∧Post q:=by
 obtain⟨q,h1,h2⟩:=H (fun r=>∃ q,cFR p rs h r=some q∧Post q) (fun r q h1 h2=>⟨q,h1,h2⟩)
 exact⟨q,ah hf ha h1,h2⟩
theorem Bl {v:AV} {R:AH→Prop} (hf:FnR P po g a nv vm ss rs false) (ha:args.length=a)
  (H:∀ Q:jI→Prop,(∀ V h',(fz V h' rs).map fU=some v→R h'→Q (some (.ret,V,h')))→Q (aq (aj P po) nv [.ss ss] (args++replicate (vm.length - args.length) .junk) [] h)):
  ∃ h',aj P po g args h=some (.inl v,h')∧R h':=by
 obtain⟨q,h1,h',rfl,h2⟩:=AQ (Post:=fun q=>∃ h',q=(.inl v,h')∧R h') hf ha fun Q hQ=>H Q fun V h' e r=>hQ _ (.inl v,h') (by simp only[kR,e,kP,lV]) ⟨h',rfl,r⟩
 exact⟨h',h1,h2⟩
theorem BL {R:AV→Prop} (hf:FnR P po g a nv vm ss rs true) (ha:args.length=a)
  (H:∀ Q:jI→Prop,(∀ V h' v v',(fz V h' rs).map fU=some v→af h h'→wkA v=some v'→R v'→Q (some (.ret,V,h')))→Q (aq (aj P po) nv [.ss ss] (args++replicate (vm.length - args.length) .junk) [] h)):
  ∃ v,aj P po g args h=some (.inl v,h)∧R v:=by
 obtain⟨q,h1,v,rfl,h2⟩:=AQ (Post:=fun q=>∃ v,q=(.inl v,h)∧R v) hf ha fun Q hQ=>H Q fun V h' v v' e hg w r=>hQ _ (.inl v',h) (by simp only[kR,e,kP];exact aA hg w) ⟨v',rfl,r⟩
 exact⟨v,h1,h2⟩
theorem gH {v':AV} (hf:FnR P po g a nv vm ss rs true) (ha:args.length=a)
  (H:∀ Q:jI→Prop,(∀ V h' v,(fz V h' rs).map fU=some v→af h h'→wkA v=some v'→Q (some (.ret,V,h')))→Q (aq (aj P po) nv [.ss ss] (args++replicate (vm.length - args.length) .junk) [] h)):
  aj P po g args h=some (.inl v',h):=by
 obtain⟨v,h1,rfl⟩:=BL (R:=fun v=>v=v') hf ha fun Q hQ=>H Q fun V h' v e hg w=>hQ V h' v v' e hg w rfl
 exact h1
end
section
variable {P:Program} {po:Pol} {g:FuncId} {a nv:Nat} {vm:List Nat} {ss:List RS} {rs:List k9} {args:List AV} {h:AH}
theorem H4 {Post:(AV ⊕ AV)→AH→Prop} (hf:FnR P po g a nv vm ss rs false) (ha:args.length=a)
  (H:∀ Q:jI→Prop,(∀ V h' v,(fz V h' rs).map fU=some v→Post (.inl v) h'→Q (some (.ret,V,h')))→(∀ V h' v,Post (.inr v) h'→Q (some (.panic v,V,h')))→Q (aq (aj P po) nv [.ss ss] (args++replicate (vm.length - args.length) .junk) [] h)):
  ∃ q h',aj P po g args h=some (q,h')∧Post q h':=by
 obtain⟨⟨q,h'⟩,e,p⟩:=AQ (Post:=fun q=>Post q.1 q.2) hf ha fun Q hQ=>H Q (fun V h' v e r=>hQ _ (.inl v,h') (by simp only[kR,e,kP,lV]) r) (fun V h' v r=>hQ _ (.inr v,h') (by simp only[pU,lV]) r)
 exact⟨q,h',e,p⟩
end
theorem jd {C:wn} {nv:Nat} {b:List RS} {K:List RK} {V:List AV} {h:AH} {Q:jI→Prop} (I:Nat→List AV→AH→Prop) (n:Nat) (h0:I 0 V h)
  (step:∀ i V h,i<n→I i V h→(∀ V' h',I (i+1) V' h'→Q (aq C nv (.lp b::K) V' [] h'))→Q (aq C nv (.lp b::K) V [] h))
  (stop:∀ V h,I n V h→Q (aq C nv (.lp b::K) V [] h)):Q (aq C nv (.lp b::K) V [] h):=by
 have key:∀ (d i:Nat) (V:List AV) (h:AH),i+d=n→I i V h→Q (aq C nv (.lp b::K) V [] h):=by
  intro d
  induction d with
  | zero=>
    intro i V h hi hI
    obtain rfl:i=n:=by omega
    exact stop V h hI
  | succ d ih=>exact fun i V h hi hI=>step i V h (by omega) hI fun V' h' hI'=>ih (i+1) V' h' (by omega) hI'
 exact key n 0 V h (by omega) h0
theorem Nr {a n:Nat} (h:a<n):(a<n+1)=True:=by simp;omega
theorem xT {n:Nat}:(n<n+1)=True:=by simp
theorem xi {α:Type} (A B:List α) (x y:α) {n:Nat} (hn:n=A.length):(A++x::B).set n y=A++y::B:=by subst hn;simp
theorem Df {α:Type} (A B:List α) (x:α) {n:Nat} (hn:n=A.length):(A++x::B)[n]? =some x:=by subst hn;simp
theorem jZ {α:Type} {l:List α} {i:Nat} {y:α} (h:l[i]? =some y):l.take (i+1)=l.take i++[y]:=by
 rw[List.take_add_one,h]
 rfl
theorem Ci {n m:Int} (e:n=m) (h1: -9223372036854775808≤n) (h2:n≤9223372036854775807):IntKind.wrap .i64 n=m:=by rw[←e];exact w64 h1 h2
theorem GU {h0 h:AH} {e:TypeId} {v:AV} {acc:List (List AV)} (ha:Acc h0 h e v acc) (g:af h0 h) {x:AV} {rows:List (List AV)} (hx:(x= .nils∧rows=[])∨∃ id,x= .isl id e rows) (h1:∀ r∈rows,r.all AV.one=true) (hl:acc.length≤1000000) (hr:rows.length≤1000000):
  ∃ v' h',aF false e v x h=some (v',h')∧Acc h0 h' e v' (acc++rows)∧af h0 h'∧h'.cell=h.cell∧h'.n=h.n:=by
 have h1':rows.all (·.all AV.one)=true:=by rw[List.all_eq_true];exact h1
 by_cases hz:rows.length=0
 ·have hz':=List.length_eq_zero_iff.1 hz
  subst hz'
  refine⟨v,h,?_,by simpa using ha,g,rfl,rfl⟩
  have hs:kW e v h=some (v,h):=by
   rcases ha with⟨_,rfl⟩ | ⟨id,_,_,_,_,rfl⟩<;>simp[kW]
  rcases hx with⟨rfl,_⟩ | ⟨id,rfl⟩
  ·exact hs
  ·simp[aF,bM,hs]
 ·obtain⟨id2,rfl⟩:∃ id,x= .isl id e rows:=by
   rcases hx with⟨_,rfl⟩ | hx
   ·simp at hz
   ·exact hx
  have e1:aF false e v (.isl id2 e rows) h=eF false e v rows h:=by
   simp only[aF,bM,if_true,Option.bind_some]
   rw[if_neg hz]
  rw[e1]
  unfold eF
  rw[if_pos ⟨by omega,by omega,h1'⟩]
  have hne:rows≠[]:=fun e=>hz (by rw[e];rfl)
  rcases ha with⟨rfl,rfl⟩ | ⟨id,a0,a1,a2,a3,rfl⟩
  ·refine⟨_,_,rfl,.inr ⟨h.ids,by simpa using hne,g.ids,by simp[AH.fresh],by simp[AH.fresh],by simp⟩,g.trans (af.fresh _ _),rfl,rfl⟩
  ·refine⟨.isl (some id) e (acc++rows),h.grow id (acc.length+rows.length),?_,.inr ⟨id,by simp[a0],a1,a2,by simp[AH.grow],rfl⟩,g.grow a1,rfl,rfl⟩
   simp[a3,hl]
theorem KY (e:TypeId) (rows:List (List AV)):(cQ e rows= .nils∧rows=[])∨∃ id,cQ e rows= .isl id e rows:=by
 unfold cQ
 by_cases hz:rows=[]
 ·exact .inl ⟨by rw[if_pos hz],hz⟩
 ·exact .inr ⟨none,by rw[if_neg hz]⟩
theorem Ju (l:List Int):∀ r∈bq l,r.all AV.one=true:=by
 intro r hr
 obtain⟨n,_,rfl⟩:=List.mem_map.1 hr
 rfl
def Pn (f:AV) (xs:List AV):Option (FuncId×List AV):=match f with
 | .fn g a c=>some (g,a++xs++c)
 | _=>none
section
variable {C:wn} {nv:Nat} {k:List RK} {V L:List AV} {h:AH} {d:RD} {is:List RI}
theorem uO {f:Arg} {args:List Arg}:aU V L (.call f args)=Pn (arg V L f) (args.map (arg V L)):=by
 simp only[aU]
 cases arg V L f<;>rfl
theorem Dq {g:FuncId} {a c xs:List AV}:Pn (.fn g a c) xs=some (g,a++xs++c):=rfl
theorem DJ {g:FuncId} {xs:List AV}:rF C nv d is k V L h (some (g,xs))=rC C nv d is k V L (C g xs h):=rfl
theorem az:(type_of% @B4)∧(type_of% @uO)∧(type_of% @Dq)∧(type_of% @DJ):=⟨@B4,@uO,@Dq,@DJ⟩
end
def aX.ints (n:aX):List Int:=[n.parent,n.gate,n.rights,n.cell,n.plugin,n.func]
instance:DecidableEq aX:=fun a b=>decidable_of_iff (a.ints=b.ints) ⟨fun e=>by
 cases a
 cases b
 simp[aX.ints]at e
 simp[e],fun e=>by rw[e]⟩
section
variable {h:AH}
end
theorem dk.same {h:AH} {F J:Nat→Prop} {b:Nat} {G:ae} (g:IsG h F J b G):dk h F J b h G:=⟨F,J,g,Chg.refl _ _ _,fun _=> .inl,fun _=> .inl⟩
theorem dk.grew {h h':AH} {F J:Nat→Prop} {b:Nat} {G:ae} (g:IsG h F J b G) (x:af h h'):dk h F J b h' G:=⟨F,J,g.grew x,x.chg _ _,fun _=> .inl,fun _=> .inl⟩
theorem dk.after {h h1 h2:AH} {F J:Nat→Prop} {b:Nat} {G':ae} (x:af h h1) (d:dk h1 F J b h2 G'):dk h F J b h2 G':=by
 obtain⟨F',J',g,c,hF,hJ⟩:=d
 have:=x.n
 have:=x.ids
 exact⟨F',J',g,(x.chg F J).trans c,fun k hk=>(hF k hk).imp id (by omega),fun j hj=>(hJ j hj).imp id (by omega)⟩
section
variable {h:AH} {F J:Nat→Prop} {b:Nat} {G:ae}
theorem H7 (h:AH) {F:Nat→Prop} {b:Nat} {sv:AV} {l:List Bool} (g:oP h F b tB sv (l.map fun x=>[.bool x])) (hl:l.length≤1000):
  ∃ h' v',aF true tB sv (.msl h.n 0 1 tB) (h.push [[.bool false]])=some (v',h')∧dR v'=some (l.length+1)∧(∀ s,de s (some tB) v'=true)∧v'.one=true∧v'.cells=[v']∧h'.ids=h.ids∧h'.hw=h.hw∧h'.n=h.n+2∧h'.cell (h.n+1)=some ((l++[false]).map fun x=>[.bool x])∧v'= .msl (h.n+1) 0 (l.length+1) tB∧∀ k,k<h.n→¬ (F k∧k≠b)→h'.cell k=h.cell k:=by
 have e0:bM (h.push [[.bool false]]) tB (.msl h.n 0 1 tB)=some [[.bool false]]:=by simp[bM,aC]
 rcases g with⟨h1,rfl⟩ | ⟨q,h1,h2,h3,h4,rfl⟩
 ·have hl0:l=[]:=by simpa using h1
  subst hl0
  refine⟨(h.push [[.bool false]]).push [[.bool false]],.msl (h.n+1) 0 1 tB,?_,rfl,fun s=>km,rfl,rfl,rfl,rfl,rfl,?_,rfl,fun k hk _=> ?_⟩
  ·simp[aF,e0,eF,AV.one,aM]
  ·simp[AH.push]
  ·simp[AH.push,show k≠h.n by omega,show k≠h.n+1 by omega]
 ·have hq:q≠h.n:=by omega
  refine⟨((h.push [[.bool false]]).set q none).push ((l.map fun x=>[.bool x])++[[.bool false]]),.msl (h.n+1) 0 (l.length+1) tB,?_,rfl,fun s=>km,rfl,rfl,rfl,rfl,rfl,?_,rfl,fun k hk hk2=> ?_⟩
  ·have e1:(h.push [[.bool false]]).cell q=some (l.map fun x=>[.bool x]):=by rw[iT hq];exact h4
   simp only[aF,e0,Option.bind_some,List.length_singleton,Nat.one_ne_zero,if_false,eF,List.length_map]
   rw[if_pos ⟨by omega,by omega,rfl⟩,if_pos ⟨trivial,trivial,by omega⟩,e1]
   have e2:List.take l.length (l.map fun x=>[AV.bool x])=l.map fun x=>[.bool x]:=List.take_of_length_le (by simp)
   simp[aM,eh,e2]
  ·simp[AH.push,AH.set]
  ·have:k≠q:=fun e=>hk2 (by subst e;exact⟨h1,h2⟩)
   simp[AH.push,AH.set,show k≠h.n by omega,show k≠h.n+1 by omega,this]
theorem I8 {h':AH} {nv v':AV} (g:IsG h F J b G) (h2:oZ h J tN nv (G.nodes.map aH)) (e1:h'.ids=h.ids) (e2:h'.hw=h.hw) (e3:h'.n=h.n+2) (e4:h'.cell (h.n+1)=some ((G.shut++[false]).map fun x=>[.bool x])) (e5:v'= .msl (h.n+1) 0 (G.shut.length+1) tB) (e6:∀ k,k<h.n→¬ (F k∧k≠b)→h'.cell k=h.cell k):
  dk h F J b (h'.set b (some [[nv,v']])) ⟨G.nodes,G.shut++[false]⟩:=by
 have hbn:=g.hb.2
 refine⟨fun k=>k=b∨k=h.n+1,J,⟨⟨.inl rfl,by rw[eh,e3];omega⟩,⟨by rintro k (rfl | rfl)<;>(rw[eh,e3];omega),fun j hj=>by rw[mA,e1];exact g.lt.2 j hj⟩,nv,v',aO,?_,.inr ⟨h.n+1,.inr rfl,by omega,by rw[eh,e3];omega,by rw[bc (by omega)];exact e4,?_⟩⟩,⟨by rw[eh,e3];omega,by rw[mA,e1];omega,fun k hk hF=> ?_,fun j hj hJ=>by rw[pk,e2]⟩,?_,fun _=> .inl⟩
 ·rcases h2 with h2 | ⟨id,a1,a0,a2,a3,a4⟩
  ·exact .inl h2
  ·exact .inr ⟨id,a1,a0,by rw[mA,e1];exact a2,by rw[pk,e2];exact a3,a4⟩
 ·rw[e5]
  simp
 ·have:k≠b:=fun e=>hF (by rw[e];exact g.hb.1)
  rw[bc this]
  exact e6 k hk fun x=>hF x.1
 ·rintro k (rfl | rfl)
  ·exact .inl g.hb.1
  ·exact .inr (by omega)
theorem G8 (g:IsG h F J b G) (hW:G.Wf):∃ h',aj Try.prog po 58 [.ptr b 0 0] h=some (.inl (.tup [.int .i64 G.gate.2.1,.int .i64 G.gate.2.2]),h')∧dk h F J b h' G.gate.1:=by
 obtain⟨nv,sv,h1,h2,h3⟩:=g.ex
 have hgs:=hW.gates
 cases hd:decide ((G.shut.length:Int)=20)
 ·have hne:¬ G.shut.length=20:=by simp at hd;omega
  have hG:G.gate=(⟨G.nodes,G.shut++[false]⟩,(G.shut.length:Int),0):=by unfold ae.gate;rw[if_neg hne]
  obtain⟨h',v',a1,a2,a3,a4,a5,a6,a7,a8,a9,a10,a11⟩:=H7 h h3 (by omega)
  have hbn:b≠h.n:=by have:=g.hb.2;omega
  have hcb:h'.cell b=some [[nv,sv]]:=(a11 b g.hb.2 (fun x=>x.2 rfl)).trans h1
  have hwr:IntKind.wrap .i64 (((G.shut.length+1:Nat):Int) - 1)=(G.shut.length:Int):=by rw[w64]<;>omega
  refine⟨h'.set b (some [[nv,v']]),?_,by rw[hG];exact I8 g h2 a6 a7 a8 a9 a10 a11⟩
  rw[hG]
  refine ah AM rfl ?_;unfold tA
  simp only[sim,ag,reduceAdd,reduceSub,replicate,reduceCtorEq,reduceLeDiff,reduceLT,aa,h1,h3.len.1,h3.len.2,List.length_map,hd,a1,iT hbn,hcb,a4,a5,a2,a3,hwr]
 ·have he:G.shut.length=20:=by simp at hd;omega
  have hG:G.gate=(G,0,11):=by unfold ae.gate;rw[if_pos he]
  refine⟨h,?_,by rw[hG];exact dk.same g⟩
  rw[hG]
  refine ah AM rfl ?_;unfold tA
  simp only[sim,ag,reduceAdd,reduceSub,replicate,reduceCtorEq,reduceLeDiff,reduceLT,aa,h1,h3.len.1,h3.len.2,List.length_map,hd]
theorem JW {nv sv:AV} (g:IsG h F J b G) (h1:h.cell b=some [[nv,sv]]) (h2:oZ h J tN nv (G.nodes.map aH)) {m q:Nat} (hm:m<G.shut.length) (e1:F q) (e2:q≠b) (e3:q<h.n) (e4:sv= .msl q 0 G.shut.length tB):
  dk h F J b (h.set q (some ((G.shut.map fun x=>[AV.bool x]).set m [.bool true]))) ⟨G.nodes,G.shut.set m true⟩:=by
 refine⟨F,J,⟨⟨g.hb.1,g.hb.2⟩,g.lt,nv,sv,by rw[bc (Ne.symm e2)];exact h1,?_,.inr ⟨q,e1,e2,e3,by rw[aO,List.map_set],by rw[e4];simp⟩⟩,⟨Nat.le_refl _,Nat.le_refl _,fun k hk hF=>bc (fun e=>hF (by rw[e];exact e1)),fun _ _ _=>rfl⟩,fun _=> .inl,fun _=> .inl⟩
 rcases h2 with h2 | ⟨id,a1,a0,a2,a3,a4⟩
 ·exact .inl h2
 ·exact .inr ⟨id,a1,a0,a2,a3,a4⟩
theorem Mt (g:IsG h F J b G) (k:Int):∃ h',aj Try.prog po 57 [.ptr b 0 0,.int .i64 k] h=some (.inl (.int .i64 (G.cut k).2),h')∧dk h F J b h' (G.cut k).1:=by
 obtain⟨nv,sv,h1,h2,h3⟩:=g.ex
 cases hh:G.hasGate k
 ·have hG:G.cut k=(G,8):=by unfold ae.cut;rw[if_neg (by simp[hh])]
  rw[hG]
  refine⟨h,?_,dk.same g⟩
  refine ah DH rfl ?_;unfold xv
  simp only[sim,ag,reduceAdd,reduceSub,replicate,reduceCtorEq,reduceLeDiff,reduceLT,aa,Aw g,hh]
 ·obtain⟨m,rfl,hm⟩:=ae.gate_nat hh
  have hG:G.cut (m:Int)=(⟨G.nodes,G.shut.set m true⟩,0):=by unfold ae.cut;rw[if_pos hh];simp
  obtain⟨q,e1,e2,e3,e4,e5,e6,e7⟩:=Dh h3 hm
  rw[hG]
  refine⟨_,?_,JW g h1 h2 hm e4 e5 e6 e7⟩
  refine ah DH rfl ?_;unfold xv
  simp only[sim,ag,reduceAdd,reduceSub,replicate,reduceCtorEq,reduceLeDiff,reduceLT,aa,Aw g,hh,h1,e1,e2,e3]
theorem Ab (h:AH) {J:Nat→Prop} {nv:AV} {rows:List (List AV)} (g:oZ h J tN nv rows) {row:List AV} (hr:row.all AV.one=true) (hl:rows.length≤1000):
  ∃ h' v',aF false tN nv (.isl (some h.ids) tN [row]) (h.fresh 1)=some (v',h')∧dR v'=some (rows.length+1)∧(∀ s,de s (some tN) v'=true)∧v'.one=true∧v'.cells=[v']∧h'.cell=h.cell∧h'.n=h.n∧h.ids≤h'.ids∧
    (∃ id,(J id∨h.ids≤id)∧id<h'.ids∧h'.hw id=rows.length+1∧v'= .isl (some id) tN (rows++[row])∧∀ j,j<h.ids→¬ J j→h'.hw j=h.hw j):=by
 have hr':[row].all (·.all AV.one)=true:=by simpa using hr
 rcases g with⟨rfl,rfl⟩ | ⟨id,a1,a0,a2,a3,rfl⟩
 ·refine⟨(h.fresh 1).fresh 1,.isl (some (h.ids+1)) tN [row],?_,rfl,fun s=>kj,rfl,rfl,rfl,rfl,by simp[AH.fresh];omega,h.ids+1,.inr (by omega),by simp[AH.fresh],by simp[AH.fresh],by simp,fun j hj _=>by simp[AH.fresh,show j≠h.ids by omega,show j≠h.ids+1 by omega]⟩
  simp only[aF,bM,if_true,Option.bind_some,List.length_singleton,Nat.one_ne_zero,if_false,eF]
  rw[if_pos ⟨by omega,by omega,hr'⟩]
  rfl
 ·have hne:id≠h.ids:=by omega
  refine⟨(h.fresh 1).grow id (rows.length+1),.isl (some id) tN (rows++[row]),?_,by simp[dR],fun s=>kj,rfl,rfl,rfl,rfl,by simp[AH.fresh,AH.grow],id,.inl a1,by simp[AH.fresh,AH.grow];omega,by simp[AH.grow],rfl,fun j hj hJ=> ?_⟩
  ·simp only[aF,bM,if_true,Option.bind_some,List.length_singleton,Nat.one_ne_zero,if_false,eF]
   rw[if_pos ⟨by omega,by omega,hr'⟩,ia hne,a3,if_pos ⟨trivial,rfl,by omega⟩]
  ·have h1:j≠id:=fun e=>hJ (by rw[e];exact a1)
   simp[AH.grow,AH.fresh,h1,show j≠h.ids by omega]
theorem Eh {h':AH} {sv v':AV} {n:aX} (g:IsG h F J b G) (h3:oP h F b tB sv (G.shut.map fun x=>[.bool x])) (e1:h'.cell=h.cell) (e2:h'.n=h.n) (e0:h.ids≤h'.ids)
  (e3:∃ id,(J id∨h.ids≤id)∧id<h'.ids∧h'.hw id=G.nodes.length+1∧v'= .isl (some id) tN (G.nodes.map aH++[aH n])∧∀ j,j<h.ids→¬ J j→h'.hw j=h.hw j):dk h F J b (h'.set b (some [[v',sv]])) ⟨G.nodes++[n],G.shut⟩:=by
 obtain⟨id,a1,a2,a3,a4,a5⟩:=e3
 refine⟨F,fun j=>j=id,⟨⟨g.hb.1,by rw[eh,e2];exact g.hb.2⟩,⟨fun k hk=>by rw[eh,e2];exact g.lt.1 k hk,fun j hj=>by rw[hj];exact a2⟩,v',sv,aO,.inr ⟨id,rfl,by simp,a2,by rw[pk,a3];simp,by rw[a4];simp⟩,?_⟩,⟨by rw[eh,e2];exact Nat.le_refl _,by rw[mA];exact e0,fun k hk hF=> ?_,fun j hj hJ=>by rw[pk];exact a5 j hj hJ⟩,fun _=> .inl,fun j hj=>by rw[hj];exact a1⟩
 ·rcases h3 with h3 | ⟨q,b1,b2,b3,b4,b5⟩
  ·exact .inl h3
  ·exact .inr ⟨q,b1,b2,by rw[eh,e2];exact b3,by rw[bc b2,e1];exact b4,b5⟩
 ·rw[bc (fun e=>hF (by rw[e];exact g.hb.1)),e1]
theorem ID (g:IsG h F J b G) (hW:G.Wf) (n:aX):∃ h',aj Try.prog po 88 [.ptr b 0 0,.agg (aH n)] h=some (.inl (.tup [.int .i64 (G.add n).2.1,.int .i64 (G.add n).2.2]),h')∧dk h F J b h' (G.add n).1:=by
 have hg1:=af.push h [aH n]
 have g1:=g.grew hg1
 have hbn:h.n≠b:=by have:=g.hb.2;omega
 obtain⟨nv,sv,h1,h2,h3⟩:=g1.ex
 have hfew:=hW.few
 have hH:=Aw g1
 unfold ae.add
 skip
 cases hc:fK n.rights
 ·rw[if_pos rfl]
  refine⟨h.push [aH n],?_,dk.grew g hg1⟩
  refine ah mr rfl ?_;unfold kS
  simp only[sim,ag,reduceAdd,reduceSub,replicate,reduceCtorEq,reduceLeDiff,reduceLT,aa,fM,me,hc]
 ·rw[if_neg (by simp)]
  have stop:(n.gate≠ -1∧G.hasGate n.gate=false)∨(n.gate= -1∨G.hasGate n.gate=true):=by
   by_cases e:n.gate= -1
   ·exact .inr (.inl e)
   ·cases hh:G.hasGate n.gate
    ·exact .inl ⟨e,rfl⟩
    ·exact .inr (.inr rfl)
  rcases stop with hs | hs
  ·rw[if_pos hs]
   refine⟨h.push [aH n],?_,dk.grew g hg1⟩
   obtain⟨s1,s2⟩:=hs
   refine ah mr rfl ?_;unfold kS
   simp only[sim,ag,reduceAdd,reduceSub,replicate,reduceCtorEq,reduceLeDiff,reduceLT,aa,fM,me,hc,hH,s1,s2]
  ·have hs':¬ (n.gate≠ -1∧G.hasGate n.gate=false):=by
    rintro⟨a,b⟩
    rcases hs with hs | hs
    ·exact a hs
    ·rw[b]at hs;cases hs
   rw[if_neg hs']
   have hs2:decide (n.gate= -1)=true∨decide (n.gate= -1)=false∧G.hasGate n.gate=true:=by
    rcases hs with hs | hs
    ·exact .inl (by simp[hs])
    ·by_cases e:n.gate= -1
     ·exact .inl (by simp[e])
     ·exact .inr ⟨by simp[e],hs⟩
   cases hd:decide ((G.nodes.length:Int)=80)
   ·have hne:¬ G.nodes.length=80:=by simp at hd;omega
    rw[if_neg hne]
    obtain⟨h',v',a1,a2,a3,a4,a5,a6,a7,a8,a9⟩:=Ab (h.push [aH n]) h2 (row:=aH n) rfl (by simp;omega)
    have hwr:IntKind.wrap .i64 (((G.nodes.length+1:Nat):Int) - 1)=(G.nodes.length:Int):=by rw[w64]<;>omega
    refine⟨h'.set b (some [[v',sv]]),?_,dk.after hg1 (Eh g1 h3 a6 a7 a8 (by simpa using a9))⟩
    simp only[hU,List.length_map]at a1 a2
    rcases hs2 with hs2 | ⟨hs2,hs3⟩
    ·refine ah mr rfl ?_;unfold kS
     simp only[sim,ag,reduceAdd,reduceSub,replicate,reduceCtorEq,reduceLeDiff,reduceLT,aa,fM,me,hc,hH,hs2,hd,h1,h2.isL.len,h2.isL.fits,List.length_map,a1,a2,a3,a4,a5,a6,hwr]
    ·refine ah mr rfl ?_;unfold kS
     simp only[sim,ag,reduceAdd,reduceSub,replicate,reduceCtorEq,reduceLeDiff,reduceLT,aa,fM,me,hc,hH,hs2,hs3,hd,h1,h2.isL.len,h2.isL.fits,List.length_map,a1,a2,a3,a4,a5,a6,hwr]
   ·have he:G.nodes.length=80:=by simp at hd;omega
    rw[if_pos he]
    refine⟨h.push [aH n],?_,dk.grew g hg1⟩
    rcases hs2 with hs2 | ⟨hs2,hs3⟩
    ·refine ah mr rfl ?_;unfold kS
     simp only[sim,ag,reduceAdd,reduceSub,replicate,reduceCtorEq,reduceLeDiff,reduceLT,aa,fM,me,hc,hH,hs2,hd,h1,h2.isL.len,h2.isL.fits,List.length_map]
    ·refine ah mr rfl ?_;unfold kS
     simp only[sim,ag,reduceAdd,reduceSub,replicate,reduceCtorEq,reduceLeDiff,reduceLT,aa,fM,me,hc,hH,hs2,hs3,hd,h1,h2.isL.len,h2.isL.fits,List.length_map]
theorem Pr (g:IsG h F J b G) (hW:G.Wf) (n:aX):∃ h',aj Try.prog po 105 [.ptr b 0 0,.agg (aH n)] h=some (.inl (.tup [.int .i64 (G.add n).2.1,.int .i64 (G.add n).2.2]),h')∧dk h F J b h' (G.add n).1:=by
 have hg1:=af.push h [aH n]
 have g1:=g.grew hg1
 have hbn:h.n≠b:=by have:=g.hb.2;omega
 obtain⟨nv,sv,h1,h2,h3⟩:=g1.ex
 have hfew:=hW.few
 have hH:=Pb g1
 unfold ae.add
 skip
 cases hc:fK n.rights
 ·rw[if_pos rfl]
  refine⟨h.push [aH n],?_,dk.grew g hg1⟩
  refine ah mp rfl ?_;unfold kK
  have hc':decide (n.rights<0)=true∨decide (n.rights<0)=false∧decide (15<n.rights)=true:=by
   simp[fK]at hc
   simp only[decide_eq_true_eq,decide_eq_false_iff_not]
   omega
  rcases hc' with hc' | ⟨hc',hc2⟩
  ·simp only[sim,ag,reduceAdd,reduceSub,replicate,reduceCtorEq,reduceLeDiff,reduceLT,aa,fM,hc']
  ·simp only[sim,ag,reduceAdd,reduceSub,replicate,reduceCtorEq,reduceLeDiff,reduceLT,aa,fM,hc',hc2]
 ·rw[if_neg (by simp)]
  have hr0:decide (n.rights<0)=false:=by simp[fK]at hc;simp;omega
  have hr1:decide (15<n.rights)=false:=by simp[fK]at hc;simp;omega
  have stop:(n.gate≠ -1∧G.hasGate n.gate=false)∨(n.gate= -1∨G.hasGate n.gate=true):=by
   by_cases e:n.gate= -1
   ·exact .inr (.inl e)
   ·cases hh:G.hasGate n.gate
    ·exact .inl ⟨e,rfl⟩
    ·exact .inr (.inr rfl)
  rcases stop with hs | hs
  ·rw[if_pos hs]
   refine⟨h.push [aH n],?_,dk.grew g hg1⟩
   obtain⟨s1,s2⟩:=hs
   refine ah mp rfl ?_;unfold kK
   simp only[sim,ag,reduceAdd,reduceSub,replicate,reduceCtorEq,reduceLeDiff,reduceLT,aa,fM,hr0,hr1,hH,s1,s2]
  ·have hs':¬ (n.gate≠ -1∧G.hasGate n.gate=false):=by
    rintro⟨a,b⟩
    rcases hs with hs | hs
    ·exact a hs
    ·rw[b]at hs;cases hs
   rw[if_neg hs']
   have hs2:decide (n.gate= -1)=true∨decide (n.gate= -1)=false∧G.hasGate n.gate=true:=by
    rcases hs with hs | hs
    ·exact .inl (by simp[hs])
    ·by_cases e:n.gate= -1
     ·exact .inl (by simp[e])
     ·exact .inr ⟨by simp[e],hs⟩
   cases hd:decide (80≤(G.nodes.length:Int))
   ·have hne:¬ G.nodes.length=80:=by simp at hd;omega
    rw[if_neg hne]
    obtain⟨h',v',a1,a2,a3,a4,a5,a6,a7,a8,a9⟩:=Ab (h.push [aH n]) h2 (row:=aH n) rfl (by simp;omega)
    have hwr:IntKind.wrap .i64 (((G.nodes.length+1:Nat):Int) - 1)=(G.nodes.length:Int):=by rw[w64]<;>omega
    refine⟨h'.set b (some [[v',sv]]),?_,dk.after hg1 (Eh g1 h3 a6 a7 a8 (by simpa using a9))⟩
    simp only[hU,List.length_map]at a1 a2
    rcases hs2 with hs2 | ⟨hs2,hs3⟩
    ·refine ah mp rfl ?_;unfold kK
     simp only[sim,ag,reduceAdd,reduceSub,replicate,reduceCtorEq,reduceLeDiff,reduceLT,aa,fM,hr0,hr1,hH,hs2,hd,h1,h2.isL.len,h2.isL.fits,List.length_map,a1,a2,a3,a4,a5,a6,hwr]
    ·refine ah mp rfl ?_;unfold kK
     simp only[sim,ag,reduceAdd,reduceSub,replicate,reduceCtorEq,reduceLeDiff,reduceLT,aa,fM,hr0,hr1,hH,hs2,hs3,hd,h1,h2.isL.len,h2.isL.fits,List.length_map,a1,a2,a3,a4,a5,a6,hwr]
   ·have he:G.nodes.length=80:=by simp at hd;omega
    rw[if_pos he]
    refine⟨h.push [aH n],?_,dk.grew g hg1⟩
    rcases hs2 with hs2 | ⟨hs2,hs3⟩
    ·refine ah mp rfl ?_;unfold kK
     simp only[sim,ag,reduceAdd,reduceSub,replicate,reduceCtorEq,reduceLeDiff,reduceLT,aa,fM,hr0,hr1,hH,hs2,hd,h1,h2.isL.len,h2.isL.fits,List.length_map]
    ·refine ah mp rfl ?_;unfold kK
     simp only[sim,ag,reduceAdd,reduceSub,replicate,reduceCtorEq,reduceLeDiff,reduceLT,aa,fM,hr0,hr1,hH,hs2,hs3,hd,h1,h2.isL.len,h2.isL.fits,List.length_map]
end
section
variable {h h' h0:AH} {F J F0 J0:Nat→Prop} {X Y Z:Asn} {L:List Asn}
theorem Did.same (x:X.A h F J):Did h F J h X:=⟨F,J,x,Chg.refl _ _ _,fun _=> .inl,fun _=> .inl⟩
theorem Did.imp (hxy:∀ h F J,X.A h F J→Y.A h F J) (d:Did h F J h' X):Did h F J h' Y:=by
 obtain⟨F',J',x,r⟩:=d
 exact⟨F',J',hxy _ _ _ x,r⟩
theorem Did.chain (ch:Chg F0 J0 h0 h) (a:∀ k,F k→F0 k∨h0.n≤k) (b:∀ j,J j→J0 j∨h0.ids≤j) (d:Did h F J h' Y):Did h0 F0 J0 h' Y:=by
 obtain⟨F2,J2,y,c2,a2,b2⟩:=d
 refine⟨F2,J2,y,ch.then c2 a b,fun k hk=> ?_,fun j hj=> ?_⟩
 ·rcases a2 k hk with h | h
  ·exact a k h
  ·exact .inr (Nat.le_trans ch.n h)
 ·rcases b2 j hj with h | h
  ·exact b j h
  ·exact .inr (Nat.le_trans ch.ids h)
theorem vi (x:(dE X Z).A h F J) {R:AH→Prop} (c:∀ F1 J1,X.A h F1 J1→∃ h',R h'∧Did h F1 J1 h' Y):∃ h',R h'∧Did h F J h' (dE Y Z):=by
 obtain⟨F1,J1,F2,J2,x1,z,hF,hJ,dF,dJ⟩:=x
 obtain⟨h',r,F3,J3,y,c3,a3,b3⟩:=c F1 J1 x1
 have zl:=Z.lt z
 refine⟨h',r,fun k=>F3 k∨F2 k,fun j=>J3 j∨J2 j,⟨F3,J3,F2,J2,y,Z.keep z c3 (fun k hk h1=>dF k h1 hk) (fun j hj h1=>dJ j h1 hj),fun _=>Iff.rfl,fun _=>Iff.rfl,fun k h3 h2=> ?_,fun j h3 h2=> ?_⟩,?_,fun k hk=> ?_,fun j hj=> ?_⟩
 ·rcases a3 k h3 with h | h
  ·exact dF k h h2
  ·have:=zl.1 k h2;omega
 ·rcases b3 j h3 with h | h
  ·exact dJ j h h2
  ·have:=zl.2 j h2;omega
 ·exact⟨c3.n,c3.ids,fun k hk hn=>c3.cell k hk fun h1=>hn ((hF k).2 (.inl h1)),fun j hj hn=>c3.hw j hj fun h1=>hn ((hJ j).2 (.inl h1))⟩
 ·rcases hk with h | h
  ·exact(a3 k h).imp (fun h=>(hF k).2 (.inl h)) id
  ·exact .inl ((hF k).2 (.inr h))
 ·rcases hj with h | h
  ·exact(b3 j h).imp (fun h=>(hJ j).2 (.inl h)) id
  ·exact .inl ((hJ j).2 (.inr h))
theorem kb (x:(dE X Y).A h F J):(dE Y X).A h F J:=by
 obtain⟨F1,J1,F2,J2,x1,z,hF,hJ,dF,dJ⟩:=x
 exact⟨F2,J2,F1,J1,z,x1,fun k=>(hF k).trans or_comm,fun j=>(hJ j).trans or_comm,fun k h2 h1=>dF k h1 h2,fun j h2 h1=>dJ j h1 h2⟩
theorem jp (x:(dE (dE X Y) Z).A h F J):(dE X (dE Y Z)).A h F J:=by
 obtain⟨F1,J1,F2,J2,⟨F3,J3,F4,J4,x3,y4,hF3,hJ3,dF3,dJ3⟩,z,hF,hJ,dF,dJ⟩:=x
 refine⟨F3,J3,fun k=>F4 k∨F2 k,fun j=>J4 j∨J2 j,x3,⟨F4,J4,F2,J2,y4,z,fun _=>Iff.rfl,fun _=>Iff.rfl,fun k h4=>dF k ((hF3 k).2 (.inr h4)),fun j h4=>dJ j ((hJ3 j).2 (.inr h4))⟩,fun k=> ?_,fun j=> ?_,fun k h3 h=> ?_,fun j h3 h=> ?_⟩
 ·rw[hF k,hF3 k,or_assoc]
 ·rw[hJ j,hJ3 j,or_assoc]
 ·rcases h with h | h
  ·exact dF3 k h3 h
  ·exact dF k ((hF3 k).2 (.inl h3)) h
 ·rcases h with h | h
  ·exact dJ3 j h3 h
  ·exact dJ j ((hJ3 j).2 (.inl h3)) h
theorem jU (x:(dE X (dE Y Z)).A h F J):(dE Y (dE X Z)).A h F J:=by
 have a:=jp (kb x)
 obtain⟨F1,J1,F2,J2,y,zx,r⟩:=a
 exact⟨F1,J1,F2,J2,y,kb zx,r⟩
theorem fv {X' Y':Asn} (hx:∀ h F J,X.A h F J→X'.A h F J) (hy:∀ h F J,Y.A h F J→Y'.A h F J) (x:(dE X Y).A h F J):(dE X' Y').A h F J:=by
 obtain⟨F1,J1,F2,J2,x1,y1,r⟩:=x
 exact⟨F1,J1,F2,J2,hx _ _ _ x1,hy _ _ _ y1,r⟩
def St (h0:AH) (F0 J0:Nat→Prop) (h:AH) (L:List Asn):Prop:=Did h0 F0 J0 h (aY L)
theorem St.perm {L':List Asn} (hp:List.Perm L L'):∀ {h F J},(aY L).A h F J→(aY L').A h F J:=by
 induction hp with
 | nil=>exact fun x=>x
 | cons X _ ih=>exact fun x=>fv (fun _ _ _ y=>y) (fun _ _ _ y=>ih y) x
 | swap X Y l=>exact fun x=>jU x
 | trans _ _ ih1 ih2=>exact fun x=>ih2 (ih1 x)
theorem aY.front:∀ {L:List Asn} {i:Nat} {X:Asn},L[i]? =some X→∀ {h F J},(aY L).A h F J↔(dE X (aY (L.eraseIdx i))).A h F J
 | [],i,X,hi,_,_,_=>by simp at hi
 | Y::L,0,X,hi,h,F,J=>by
   obtain rfl:Y=X:=by simpa using hi
   exact Iff.rfl
 | Y::L,i+1,X,hi,h,F,J=>by
   have ih:∀ {h:AH} {F J:Nat→Prop},(aY L).A h F J↔(dE X (aY (L.eraseIdx i))).A h F J:=aY.front (by simpa using hi)
   constructor
   ·intro x
    exact jU (fv (fun _ _ _ y=>y) (fun _ _ _ y=>ih.1 y) x)
   ·intro x
    exact fv (fun _ _ _ y=>y) (fun _ _ _ y=>ih.2 y) (jU x)
theorem aY.back {i:Nat} (hi:i<L.length) (x:(dE X (aY (L.eraseIdx i))).A h F J):(aY (L.set i X)).A h F J:=by
 rw[aY.front (L:=L.set i X) (i:=i) (X:=X) (by simp[hi])]
 rw[show(L.set i X).eraseIdx i=L.eraseIdx i from List.eraseIdx_set_eq]
 exact x
theorem St.call {R:AH→Prop} (s:St h0 F0 J0 h L) (i:Nat) (hi:L[i]? =some X) (c:∀ F J,X.A h F J→∃ h',R h'∧Did h F J h' Y):∃ h',R h'∧St h0 F0 J0 h' (L.set i Y):=by
 have hl:i<L.length:=(List.getElem?_eq_some_iff.1 hi).1
 obtain⟨F,J,x,ch,a,b⟩:=s
 obtain⟨h',r,d⟩:=vi ((aY.front hi).1 x) c
 exact⟨h',r,Did.chain ch a b (d.imp fun _ _ _ y=>aY.back hl y)⟩
theorem St.start (x:(aY L).A h F J):St h F J h L:=Did.same x
theorem St.get (s:St h0 F0 J0 h L) (i:Nat) (hi:L[i]? =some X):∃ F J,X.A h F J:=by
 obtain⟨F,J,x,_⟩:=s
 obtain⟨F1,J1,_,_,x1,_⟩:=(aY.front hi).1 x
 exact⟨F1,J1,x1⟩
theorem St.cell (s:St h0 F0 J0 h L) (i:Nat) {b:Nat} {es:List (List AV)} (hi:L[i]? =some (ai b es)):h.cell b=some es∧b<h.n:=by
 obtain⟨_,_,_,_,c,d⟩:=s.get i hi
 exact⟨d,c⟩
theorem St.imp {L':List Asn} (s:St h0 F0 J0 h L) (hx:∀ h F J,(aY L).A h F J→(aY L').A h F J):St h0 F0 J0 h L':=Did.imp hx s
theorem St.grew (s:St h0 F0 J0 h L) (g:af h h'):St h0 F0 J0 h' L:=by
 obtain⟨F,J,x,ch,a,b⟩:=s
 have lt:=(aY L).lt x
 exact⟨F,J,(aY L).keep x (g.chg (fun _=>False) fun _=>False) (fun _ _ h=>h) (fun _ _ h=>h),ch.trans (g.chg _ _),a,b⟩
theorem St.add (s:St h0 F0 J0 h L) (g:af h h') {F1 J1:Nat→Prop} (x1:X.A h' F1 J1) (hF:∀ k,F1 k→h.n≤k) (hJ:∀ j,J1 j→h.ids≤j):St h0 F0 J0 h' (X::L):=by
 obtain⟨F,J,x,ch,a,b⟩:=s
 have lt:=(aY L).lt x
 have x':=(aY L).keep x (g.chg (fun _=>False) fun _=>False) (fun _ _ h=>h) (fun _ _ h=>h)
 refine⟨fun k=>F1 k∨F k,fun j=>J1 j∨J j,⟨F1,J1,F,J,x1,x',fun _=>Iff.rfl,fun _=>Iff.rfl,fun k h1 h2=> ?_,fun j h1 h2=> ?_⟩,ch.trans (g.chg _ _),fun k hk=> ?_,fun j hj=> ?_⟩
 ·have:=lt.1 k h2;have:=hF k h1;omega
 ·have:=lt.2 j h2;have:=hJ j h1;omega
 ·exact hk.elim (fun h=> .inr (Nat.le_trans ch.n (hF k h))) (a k)
 ·exact hj.elim (fun h=> .inr (Nat.le_trans ch.ids (hJ j h))) (b j)
theorem St.push (s:St h0 F0 J0 h L) (es:List (List AV)):St h0 F0 J0 (h.push es) (ai h.n es::L):=
 s.add (af.push h es) (F1:=fun k=>k=h.n) (J1:=fun _=>False) ⟨fun _=>Iff.rfl,fun _ h=>h,Nat.lt_succ_self _,aC⟩ (fun k hk=>Nat.le_of_eq hk.symm) (fun _ h=>h.elim)
theorem St.fresh (s:St h0 F0 J0 h L) (m:Nat):St h0 F0 J0 (h.fresh m) (idA h.ids m::L):=
 s.add (af.fresh h m) (F1:=fun _=>False) (J1:=fun j=>j=h.ids) ⟨fun _ h=>h,fun _=>Iff.rfl,Nat.lt_succ_self _,by simp[AH.fresh]⟩ (fun _ h=>h.elim) (fun j hj=>Nat.le_of_eq hj.symm)
theorem St.set (s:St h0 F0 J0 h L) (i:Nat) {b:Nat} {es:List (List AV)} (hi:L[i]? =some (ai b es)) (fs:List (List AV)):St h0 F0 J0 (h.set b (some fs)) (L.set i (ai b fs)):=by
 obtain⟨h',rfl,d⟩:=s.call (R:=fun q=>q=h.set b (some fs)) i hi (Y:=ai b fs) fun F J ⟨a1,a2,a3,a4⟩=>⟨_,rfl,F,J,⟨a1,a2,a3,aO⟩,⟨Nat.le_refl _,Nat.le_refl _,fun k _ hk=>bc fun e=>hk ((a1 k).2 e),fun _ _ _=>rfl⟩,fun _=> .inl,fun _=> .inl⟩
 exact d
theorem St.del (s:St h0 F0 J0 h L) (i:Nat) {b:Nat} {es:List (List AV)} (hi:L[i]? =some (ai b es)):St h0 F0 J0 (h.set b none) (L.set i (xE True)):=by
 obtain⟨h',rfl,d⟩:=s.call (R:=fun q=>q=h.set b none) i hi (Y:=xE True) fun F J ⟨a1,a2,a3,a4⟩=>⟨_,rfl,fun _=>False,fun _=>False,⟨trivial,fun _ h=>h,fun _ h=>h⟩,⟨Nat.le_refl _,Nat.le_refl _,fun k _ hk=>bc fun e=>hk ((a1 k).2 e),fun _ _ _=>rfl⟩,fun _ h=>h.elim,fun _ h=>h.elim⟩
 exact d
theorem St.drop (s:St h0 F0 J0 h (X::L)):St h0 F0 J0 h L:=by
 obtain⟨F,J,⟨F1,J1,F2,J2,_,x2,hF,hJ,_,_⟩,ch,a,b⟩:=s
 exact⟨F2,J2,x2,ch,fun k hk=>a k ((hF k).2 (.inr hk)),fun j hj=>b j ((hJ j).2 (.inr hj))⟩
end
open Go Go.ChangeShapes Go.WideShapes Go.ChangeAt Go.RowKit Go.Deep
def TyA (P:Program):Nat→TypeId→List AV→Prop
 | 0,_,_=>False
 | n+1,t,cs=>match P.underlying t with
   | some .bool=>∃ b,cs=[.bool b]
   | some (.int k)=>∃ z,cs=[.int k z]∧(Lit.int k z).wf=true
   | some .string=>∃ s,cs=[.str s]∧s.length≤maxLen
   | some (.slice e)=>cs=[.nils]∨∃ es,cs=[.isl none e es]∧es.length≤maxLen∧∀ r∈es,r.length=P.cellsOf e∧TyA P n e r
   | some (.struct fs)=>∃ parts:List (List AV),cs=parts.flatten∧parts.length=fs.size∧∀ (i:Nat) (f:Field),fs[i]? =some f→∃ p,parts[i]? =some p∧p.length=P.cellsOf f.type∧TyA P n f.type p
   | _=>False
def jA (P:Program):Nat→List Field→Nat→Bool
 | o,[],m=>o==m
 | o,f::r,m=>f.offset==o && jA P (o+P.cellsOf f.type) r m
def xQ (P:Program) (S:List TypeId):Bool:=S.all fun t=>match P.underlying t with
 | some .bool | some (.int _) | some .string=>true
 | some (.slice e)=>S.contains e && P.cellsOf e != 0
 | some (.struct fs)=>jA P 0 fs.toList (P.cellsOf t) && fs.toList.all fun f=>S.contains f.type
 | _=>false
theorem tw {P:Program}:∀ {l:List Field} {o m:Nat},jA P o l m=true→o≤m
 | [],o,m,h=>by simp[jA]at h;omega
 | f::r,o,m,h=>by
   simp only[jA,Bool.and_eq_true]at h
   have:=tw h.2
   omega
section
variable {H:Type} {enc:TypeId×Value→H} {P:Program} {W:World} {S:List TypeId}
theorem qi {n:Nat} (ih:∀ t cs x,t∈S→DataW.trod enc P W 0 (fun _=>true) true n t cs=some x→∃ avs,TyA P n t avs∧VRs P (m0A W) h0A avs cs):
  ∀ (fl:List Field) (o m:Nat) (cs:List Value),jA P o fl m=true→cs.length=m→(∀ f∈fl,f.type∈S∧∃ x,DataW.trod enc P W 0 (fun _=>true) true n f.type ((cs.drop f.offset).take (P.cellsOf f.type))=some x)→
  ∃ parts:List (List AV),parts.length=fl.length∧(∀ (i:Nat) (f:Field),fl[i]? =some f→∃ p,parts[i]? =some p∧p.length=P.cellsOf f.type∧TyA P n f.type p)∧VRs P (m0A W) h0A parts.flatten (cs.drop o)
 | [],o,m,cs,h,hc,hf=>by
   simp only[jA,beq_iff_eq]at h
   refine⟨[],rfl,fun i f hi=>by simp at hi,?_⟩
   rw[List.drop_eq_nil_of_le (by omega)]
   exact VRs.nil
 | f::fl,o,m,cs,h,hc,hf=>by
   simp only[jA,Bool.and_eq_true,beq_iff_eq]at h
   obtain⟨h1,h2⟩:=h
   have hle:=tw h2
   obtain⟨hs,x,hx⟩:=hf f (by simp)
   obtain⟨p,hp1,hp2⟩:=ih _ _ _ hs hx
   obtain⟨parts,q1,q2,q3⟩:=qi ih fl (o+P.cellsOf f.type) m cs h2 hc (fun g hg=>hf g (by simp[hg]))
   rw[h1]at hp2
   have hl:p.length=P.cellsOf f.type:=by
    have:=hp2.1
    rw[List.length_take,List.length_drop]at this
    omega
   refine⟨p::parts,by simp[q1],?_,?_⟩
   ·intro i g hi
    cases i with
    | zero=>
      obtain rfl:f=g:=by simpa using hi
      exact⟨p,rfl,hl,hp1⟩
    | succ i=>exact q2 i g (by simpa using hi)
   ·have e:cs.drop o=(cs.drop o).take (P.cellsOf f.type)++cs.drop (o+P.cellsOf f.type):=by
     rw[←List.drop_drop,List.take_append_drop]
    rw[e,List.flatten_cons]
    exact VRs.append hp2 q3
theorem wS (hS:xQ P S=true):∀ (fuel:Nat) (t:TypeId) (cs:List Value) (x:DataW H×List MemPlace),t∈S→DataW.trod enc P W 0 (fun _=>true) true fuel t cs=some x→
  ∃ avs,TyA P fuel t avs∧VRs P (m0A W) h0A avs cs
 | 0,t,cs,x,_,h=>by simp[DataW.trod]at h
 | n+1,t,cs,x,ht,h=>by
   have hS':=hS
   have hc:=List.all_eq_true.1 hS t ht
   simp only[TyA]
   split at hc
   ·rename_i hu
    obtain⟨b,rfl, -⟩:=DataW.trod_bool hu h
    exact⟨_,⟨b,rfl⟩,VRs.cons (.bool b) VRs.nil⟩
   ·rename_i k hu
    obtain⟨z,rfl, -,hw⟩:=DataW.trod_int hu h
    exact⟨_,⟨z,rfl,hw⟩,VRs.cons (.int k z) VRs.nil⟩
   ·rename_i hu
    obtain⟨s,rfl, -,hw⟩:=DataW.trod_string hu h
    exact⟨_,⟨s.data.toList,rfl,by simpa using hw⟩,VRs.cons (NH s) VRs.nil⟩
   ·rename_i e hu
    simp only[Bool.and_eq_true,bne_iff_ne,ne_eq,List.contains_iff_mem]at hc
    rcases DataW.trod_slice hu h with⟨rfl, -⟩ | ⟨a,len,cap,elems,rest,n',hn,rfl, -,hb,hl,hm,hlen,hel, -, -⟩
    ·exact⟨_,Or.inl rfl,VRs.cons .nils VRs.nil⟩
    ·obtain rfl:n=n':=by omega
     have key:∀ i,i<len→∃ q:List AV×List Value,W.cells? 0 (a.add (i*P.cellsOf e)) (P.cellsOf e)=some q.2∧TyA P n e q.1∧VRs P (m0A W) h0A q.1 q.2:=by
      intro i hi
      have h1:=hel i hi
      rw[List.getElem?_eq_getElem (by omega)]at h1
      obtain⟨cs',h2,h3⟩:=Option.bind_eq_some_iff.1 h1
      obtain⟨avs,h4,h5⟩:=wS hS' n e cs' _ hc.1 h3
      exact⟨(avs,cs'),h2,h4,h5⟩
     obtain⟨V,hV⟩:=choose_lt key
     have hlen2:∀ i,i<len→(V i).1.length=P.cellsOf e∧(V i).2.length=P.cellsOf e:=fun i hi=>by
      obtain⟨h1,h2,h3⟩:=hV i hi
      have:=(World.cells?_some h1).2.1
      exact⟨by rw[←this,h3.1],this⟩
     refine⟨_,Or.inr ⟨(List.range len).map fun i=>(V i).1,rfl,by simp;omega,?_⟩,VRs.cons ?_ VRs.nil⟩
     ·intro r hr
      obtain⟨i,hi,rfl⟩:=List.mem_map.1 hr
      have hi:=List.mem_range.1 hi
      exact⟨(hlen2 i hi).1,(hV i hi).2.1⟩
     ·by_cases hz:len=0
      ·subst hz
       exact .isl0 e a cap
      ·have ha:a=⟨a.block,a.off,none⟩:=by
        obtain⟨h1,h2,h3⟩:=hV 0 (by omega)
        have:=(World.cells?_some h1).2.2 0 (by omega)
        rw[List.getElem?_eq_getElem (by rw[(hlen2 0 (by omega)).2];omega)]at this
        have hsp:=World.cell?_spot this
        obtain⟨b,o,sp⟩:=a
        simp[Addr.add]at hsp
        subst hsp
        rfl
       have:=VR.isl (P:=P) (m:=m0A W) (h:=h0A) none e ((List.range len).map fun i=>(V i).1) a.block a.off cap (fun i j=>(V i).2.getD j default) (fun r hr=> ?_) (fun i hi j hj=> ?_) (fun i hi j hj=> ?_) (by simpa using hl) (fun q hq=>by cases hq)
       ·rw[←ha]at this
        simpa using this
       ·obtain⟨i,hi,rfl⟩:=List.mem_map.1 hr
        exact(hlen2 i (List.mem_range.1 hi)).1
       ·simp only[List.length_map,List.length_range]at hi
        obtain⟨h1,h2,h3⟩:=hV i hi
        have h4:=(World.cells?_some h1).2.2 j hj
        rw[Go.Deep.add_add,ha,Addr.add_lit]at h4
        have h5:j<(V i).2.length:=by rw[(hlen2 i hi).2];exact hj
        rw[List.getElem?_eq_getElem h5]at h4
        show W.cell? _=_
        rw[h4]
        simp[List.getD,h5]
       ·simp only[List.length_map,List.length_range]at hi
        obtain⟨h1,h2,h3⟩:=hV i hi
        simp only[List.getElem_map,List.getElem_range]at hj ⊢
        have h5:j<(V i).2.length:=by rw[h3.1];exact hj
        have:=h3.2 j hj h5
        simpa[List.getD,h5]using this
   ·rename_i fs hu
    simp only[Bool.and_eq_true,List.all_eq_true,List.contains_iff_mem]at hc
    obtain⟨xs,n',hn, -,hl,hxl,hf⟩:=DataW.trod_struct hu h
    obtain rfl:n=n':=by omega
    obtain⟨parts,q1,q2,q3⟩:=qi (S:=S) (n:=n) (fun t cs x ht h=>wS hS' n t cs x ht h) fs.toList 0 (P.cellsOf t) cs hc.1 hl (fun f hm=>⟨hc.2 f hm,by
     obtain⟨i,hi⟩:=List.mem_iff_getElem?.1 hm
     rw[Array.getElem?_toList]at hi
     have h1:=hf i f hi
     have h2:=(Array.getElem?_eq_some_iff.1 hi).1
     rw[List.getElem?_eq_getElem (by omega)]at h1
     exact⟨_,h1⟩⟩)
    exact⟨_,⟨parts,rfl,by simpa using q1,fun i f hi=>q2 i f (by rw[Array.getElem?_toList];exact hi)⟩,by simpa using q3⟩
   ·cases hc
theorem Hr {t e:TypeId} (hS:xQ P S=true) (hm:t∈S) (hu:P.underlying t=some (.slice e)) {v:Value} {d:DataW H} {p:List MemPlace} {r:Reach} {b0:Nat} (hok:Value.okWide P W r b0 t v) (h:DataW.Trod enc P W 0 (fun _=>true) true t v d p):
  ∃ n av,TyA P n t [av]∧VR P (m0A W) h0A av v:=by
 obtain⟨a,len,cap,rfl⟩:=okWide_slice hu hok
 obtain⟨fuel,hf⟩:=h
 obtain⟨avs,h1,h2⟩:=wS hS fuel t _ _ hm hf
 have hl:=h2.1
 match avs,hl with
 | [av],_=>exact⟨fuel,av,h1,h2.2 0 (by simp) (by simp[Value.cells])⟩
end
section
variable {P:Program} {t e:TypeId} {cs:List AV}
theorem iY {n:Nat} {k:IntKind} (hu:P.underlying t=some (.int k)) (h:TyA P n t cs):∃ z,cs=[.int k z]∧(Lit.int k z).wf=true:=by
 cases n with
 | zero=>exact h.elim
 | succ n=>simpa only[TyA,hu]using h
def InS (e:TypeId) (v:AV) (es:List (List AV)):Prop:=(es=[]∧v= .nils)∨v= .isl none e es
theorem BE {n:Nat} (hu:P.underlying t=some (.slice e)) (h:TyA P n t cs):∃ m v es,n=m+1∧cs=[v]∧InS e v es∧es.length≤maxLen∧∀ r∈es,r.length=P.cellsOf e∧TyA P m e r:=by
 cases n with
 | zero=>exact h.elim
 | succ n=>
   simp only[TyA,hu]at h
   rcases h with rfl | ⟨es,rfl,h1,h2⟩
   ·exact⟨n,.nils,[],rfl,rfl,.inl ⟨rfl,rfl⟩,by simp,fun r hr=>by simp at hr⟩
   ·exact⟨n,_,es,rfl,rfl,.inr rfl,h1,h2⟩
def nG (P:Program) (t:TypeId):Option (List TypeId):=match P.underlying t with
 | some (.struct fs)=>some (fs.toList.map (·.type))
 | _=>none
theorem qa {n:Nat} {ts:List TypeId} (hu:nG P t=some ts) (h:TyA P n t cs):∃ m,n=m+1∧∃ parts:List (List AV),cs=parts.flatten∧parts.length=ts.length∧∀ (i:Nat) (t':TypeId),ts[i]? =some t'→∃ p,parts[i]? =some p∧p.length=P.cellsOf t'∧TyA P m t' p:=by
 cases n with
 | zero=>exact h.elim
 | succ n=>
   unfold nG at hu
   simp only[TyA]at h
   split at hu
   ·rename_i fs hf
    cases hu
    rw[hf]at h
    obtain⟨parts,h1,h2,h3⟩:=h
    refine⟨n,rfl,parts,h1,by simpa using h2,fun i t' hi=> ?_⟩
    rw[List.getElem?_map]at hi
    obtain⟨f,h4,h5⟩:=Option.map_eq_some_iff.1 hi
    subst h5
    exact h3 i f (by rw[←Array.getElem?_toList];exact h4)
   ·cases hu
theorem O2 {α:Type} {l:List α} (h:l.length=1):∃ a,l=[a]:=by
 match l,h with
 | [a],_=>exact⟨a,rfl⟩
theorem OJ {α:Type} {l:List α} (h:l.length=2):∃ a b,l=[a,b]:=by
 match l,h with
 | [a,b],_=>exact⟨a,b,rfl⟩
theorem Pg {α:Type} {l:List α} (h:l.length=3):∃ a b c,l=[a,b,c]:=by
 match l,h with
 | [a,b,c],_=>exact⟨a,b,c,rfl⟩
theorem Pq {α:Type} {l:List α} (h:l.length=4):∃ a b c d,l=[a,b,c,d]:=by
 match l,h with
 | [a,b,c,d],_=>exact⟨a,b,c,d,rfl⟩
end
theorem SlA.isL {e:TypeId} {v:AV} {es:List (List AV)} (h:SlA e v es):IsL e v es:=by
 rcases h with⟨rfl,rfl⟩ | ⟨id,rfl⟩
 ·exact jv e
 ·exact kJ _ _ _
theorem InS.sla {e:TypeId} {v:AV} {es:List (List AV)} (h:InS e v es):SlA e v es:=by
 rcases h with h | h
 ·exact .inl h
 ·exact .inr ⟨_,h⟩
theorem VaL.len:∀ {l:List VD} {es:List (List AV)},VaL l es→es.length=l.length
 | [],es,h=>by
   simp only[VaL]at h
   subst h
   rfl
 | x::l,es,h=>by
   simp only[VaL]at h
   obtain⟨r,rs,rfl,_,h2⟩:=h
   simp[VaL.len h2]
theorem VaL.get:∀ {l:List VD} {es:List (List AV)} {i:Nat} {x:VD},VaL l es→l[i]? =some x→∃ r,es[i]? =some r∧VaA x r
 | [],es,i,x,h,hx=>by simp at hx
 | y::l,es,i,x,h,hx=>by
   simp only[VaL]at h
   obtain⟨r,rs,rfl,h1,h2⟩:=h
   cases i with
   | zero=>
     obtain rfl:y=x:=by simpa using hx
     exact⟨r,rfl,h1⟩
   | succ i=>simpa using VaL.get h2 (by simpa using hx)
theorem VaL.append {l:List VD} {es:List (List AV)} {x:VD} {r:List AV} (h:VaL l es) (hx:VaA x r):VaL (l++[x]) (es++[r]):=by
 induction l generalizing es with
 | nil=>
   simp only[VaL]at h
   subst h
   simp[VaL,hx]
 | cons y l ih=>
   simp only[VaL]at h
   obtain⟨q,rs,rfl,h1,h2⟩:=h
   exact⟨q,rs++[r],rfl,h1,ih h2⟩
theorem VaA.row {x:VD} {r:List AV} (h:VaA x r):∃ v es,r=[.int .i64 x.kind,.int .i64 x.n,v]∧SlA tV v es∧VaL x.l es:=by
 cases x with
 | mk kind n l=>simp only[VaA]at h;exact h
theorem VaA.one {x:VD} {r:List AV} (h:VaA x r):r.all AV.one=true∧r.length=3:=by
 obtain⟨v,es,rfl,hv,_⟩:=h.row
 rcases hv with⟨_,rfl⟩ | ⟨id,rfl⟩<;>exact⟨rfl,rfl⟩
mutual
theorem Da:∀ {x:VD} {r:List AV},VaA x r→∃ r',wkL r=some r'∧VaA x r'
 | .mk kind n l,r,h=>by
   simp only[VaA]at h
   obtain⟨v,es,rfl,hv,hl⟩:=h
   obtain⟨es',h1,h2⟩:=wB hl
   rcases hv with⟨rfl,rfl⟩ | ⟨id,rfl⟩
   ·exact⟨_,rfl,by simp only[VaA];exact⟨_,[],rfl,.inl ⟨rfl,rfl⟩,hl⟩⟩
   ·refine⟨[.int .i64 kind,.int .i64 n,.isl none tV es'],?_,?_⟩
    ·simp only[wkL,wkA,h1,Option.map_some]
    ·simp only[VaA]
     exact⟨_,es',rfl,.inr ⟨_,rfl⟩,h2⟩
theorem wB:∀ {l:List VD} {es:List (List AV)},VaL l es→∃ es',wkR es=some es'∧VaL l es'
 | [],es,h=>by
   simp only[VaL]at h
   subst h
   exact⟨[],rfl,rfl⟩
 | x::l,es,h=>by
   simp only[VaL]at h
   obtain⟨r,rs,rfl,h1,h2⟩:=h
   obtain⟨r',q1,q2⟩:=Da h1
   obtain⟨rs',q3,q4⟩:=wB h2
   exact⟨r'::rs',by simp only[wkR,q1,q3],by simp only[VaL];exact⟨r',rs',rfl,q2,q4⟩⟩
end
structure su (h:AH) (v:AV) (l:List VD):Prop where
 len:dR v=some l.length
 fits:∀ s,de s (some tV) v=true
 one:v.one=true
 ix:∀ (i:Nat) (y:VD),l[i]? =some y→∃ a q,bT (some tV) none v (.int .i64 (i:Int))=some a∧(∀ h',af h h'→aE true 3 h' a=some (.agg q))∧VaA y q
theorem su.of {h:AH} {v:AV} {es:List (List AV)} {l:List VD} (hv:SlA tV v es) (hl:VaL l es):su h v l:=by
 refine⟨?_,hv.isL.fits,?_,fun i y hy=> ?_⟩
 ·rw[←hl.len];exact hv.isL.len
 ·rcases hv with⟨_,rfl⟩ | ⟨id,rfl⟩<;>rfl
 ·obtain⟨q,h1,h2⟩:=hl.get hy
  exact⟨.ip q 0,q,hv.isL.ix .i64 i q h1,fun h' _=>bo h2.one.2,h2⟩
theorem VaA.mk {x:VD} {v:AV} {es:List (List AV)} (hv:SlA tV v es) (hl:VaL x.l es):VaA x [.int .i64 x.kind,.int .i64 x.n,v]:=by
 rw[x.eta]
 simp only[VaA]
 exact⟨v,es,rfl,hv,by simpa[VD.l]using hl⟩
theorem VaA.facts {x:VD} {r:List AV} (h:VaA x r):∃ v es,r=[.int .i64 x.kind,.int .i64 x.n,v]∧IsL tV v es∧v.one=true∧es.length=x.l.length∧
  ∀ (i:Nat) (y:VD),x.l[i]? =some y→∃ q,bT (some tV) none v (.int .i64 (i:Int))=some (.ip q 0)∧ldA true 3 q 0=some (.agg q)∧VaA y q:=by
 obtain⟨v,es,rfl,hv,hl⟩:=h.row
 refine⟨v,es,rfl,hv.isL,?_,hl.len,fun i y hy=> ?_⟩
 ·rcases hv with⟨_,rfl⟩ | ⟨id,rfl⟩<;>rfl
 ·obtain⟨q,h1,h2⟩:=hl.get hy
  exact⟨q,hv.isL.ix .i64 i q h1,bo h2.one.2,h2⟩
abbrev tFr:TypeId:=126
abbrev tGo:TypeId:=127
theorem VaA.len3 {x:VD} {r:List AV} (h:VaA x r):r.length=3∧r.all AV.one=true:=by
 cases x with
 | mk k n l=>
   obtain⟨v,es,rfl,h1,_⟩:=h
   rcases h1 with⟨_,rfl⟩ | ⟨id,rfl⟩<;>exact⟨rfl,rfl⟩
theorem VaL.app:∀ {l m:List VD} {es fs:List (List AV)},VaL l es→VaL m fs→VaL (l++m) (es++fs)
 | [],m,es,fs,h,g=>by simp only[VaL]at h;subst h;exact g
 | x::l,m,es,fs,h,g=>by
   obtain⟨r,rs,rfl,h1,h2⟩:=h
   exact⟨r,rs++fs,rfl,h1,VaL.app h2 g⟩
theorem VaL.one {x:VD} {r:List AV} (h:VaA x r):VaL [x] [r]:=⟨r,[],rfl,h,rfl⟩
theorem VaL.take:∀ {l:List VD} {es:List (List AV)},VaL l es→∀ n,VaL (l.take n) (es.take n)
 | [],_,h,n=>by simp only[VaL]at h;subst h;simp[VaL]
 | y::l,es,h,n=>by
   obtain⟨r,rs,rfl,h1,h2⟩:=h
   cases n with
   | zero=>simp[VaL]
   | succ n=>exact⟨r,rs.take n,rfl,h1,VaL.take h2 n⟩
def P9 (e:TypeId) (v:AV) (rows:List (List AV)):Asn:=orA (xE (rows=[]∧v= .nils)) (oV fun q:Nat×List (List AV)=>wr (v= .msl q.1 0 rows.length e∧rows.length≤q.2.length∧rows=q.2.take rows.length) (ai q.1 q.2))
def cM (v:AV) (l:List VD):Asn:=oV fun rows:List (List AV)=>wr (VaL l rows) (P9 tV v rows)
def cS (f:FrD) (a:List AV) (s n g:AV):List AV:=[.int .i64 f.plugin,.int .i64 f.f,.int .i64 (f.pc:Int)]++a++[s,n,.bool f.asked,g]
def ns (row:List AV) (f:FrD):Asn:=oV fun q:List AV×AV×AV×AV=>wr (row=cS f q.1 q.2.1 q.2.2.1 q.2.2.2∧VaA f.arg q.1∧SlA 3 q.2.2.2 (bq f.gates)) (dE (cM q.2.1 f.stack) (cM q.2.2.1 f.names))
def eX:List (List AV)→List FrD→Asn
 | [],[]=>xE True
 | r::rs,f::fs=>dE (ns r f) (eX rs fs)
 | _,_=>xE False
def eG (mb bb fb:Nat) (left:Int) (below:List FrD) (top:FrD):Asn:=oV fun q:List (List AV)×List AV×List (List AV)=>
 dE (ai mb [[.ptr bb 0 0,.msl fb 0 (below.length+1) tFr,.int .i64 left]]) (dE (ai fb (q.1++q.2.1::q.2.2)) (dE (ns q.2.1 top) (eX q.1 below)))
section
variable {h h' h0:AH} {F J F0 J0:Nat→Prop} {L:List Asn} {mb bb fb:Nat} {left:Int} {below:List FrD} {top:FrD}
theorem lP:∀ {rs:List (List AV)} {fs:List FrD} {h:AH} {F J:Nat→Prop},(eX rs fs).A h F J→rs.length=fs.length
 | [],[],_,_,_,_=>rfl
 | r::rs,f::fs,_,_,_,h=>by
   obtain⟨_,_,_,_,_,y,_⟩:=h
   simp[lP y]
 | [],_::_,_,_,_,h=>h.1.elim
 | _::_,[],_,_,_,h=>h.1.elim
theorem aY.nil (F J:Nat→Prop) (h:AH) (hF:∀ k,¬ F k) (hJ:∀ j,¬ J j):(aY []).A h F J:=⟨trivial,hF,hJ⟩
theorem aY.two {X Y:Asn} (x:(dE X Y).A h F J):(aY [X,Y]).A h F J:=by
 obtain⟨F1,J1,F2,J2,x1,y,hF,hJ,dF,dJ⟩:=x
 exact⟨F1,J1,F2,J2,x1,⟨F2,J2,fun _=>False,fun _=>False,y,⟨trivial,fun _ h=>h,fun _ h=>h⟩,fun k=>by simp,fun j=>by simp,fun _ _ h=>h,fun _ _ h=>h⟩,hF,hJ,dF,dJ⟩
theorem aY.one {X:Asn} (x:X.A h F J):(aY [X]).A h F J:=⟨F,J,fun _=>False,fun _=>False,x,⟨trivial,fun _ h=>h,fun _ h=>h⟩,fun k=>by simp,fun j=>by simp,fun _ _ h=>h,fun _ _ h=>h⟩
theorem aY.one' {X:Asn} (x:(aY [X]).A h F J):X.A h F J:=by
 obtain⟨F1,J1,F2,J2,x1,⟨_,e1,e2⟩,hF,hJ,_,_⟩:=x
 have e3:F=F1:=by funext k;exact propext ((hF k).trans ⟨fun h=>h.resolve_right (e1 k),.inl⟩)
 have e4:J=J1:=by funext j;exact propext ((hJ j).trans ⟨fun h=>h.resolve_right (e2 j),.inl⟩)
 rw[e3,e4];exact x1
theorem aY.star_in {X Y:Asn} (x:(aY (dE X Y::L)).A h F J):(aY (X::Y::L)).A h F J:=jp x
theorem qb {X Y Z:Asn} (x:(dE X (dE Y Z)).A h F J):(dE (dE X Y) Z).A h F J:=kb (jp (kb (jp (kb x))))
theorem aY.star_out {X Y:Asn} (x:(aY (X::Y::L)).A h F J):(aY (dE X Y::L)).A h F J:=qb x
abbrev IE (mb bb fb:Nat) (left:Int) (below:List FrD) (top:FrD) (rs ex:List (List AV)) (a:List AV) (s n g:AV):List Asn:=
 [ai mb [[.ptr bb 0 0,.msl fb 0 (below.length+1) tFr,.int .i64 left]],ai fb (rs++cS top a s n g::ex),cM s top.stack,cM n top.names,eX rs below]
theorem iZ (x:(eG mb bb fb left below top).A h F J):∃ rs ex a s n g,rs.length=below.length∧VaA top.arg a∧SlA 3 g (bq top.gates)∧St h F J h (IE mb bb fb left below top rs ex a s n g):=by
 obtain⟨⟨rs,row,ex⟩,x⟩:=x
 obtain⟨F1,J1,F2,J2,x1,⟨F3,J3,F4,J4,x3,⟨F5,J5,F6,J6,⟨⟨a,s,n,g⟩,⟨e,ha,hg⟩,x5⟩,x6,r6⟩,r4⟩,r2⟩:=x
 simp only at e
 subst e
 refine⟨rs,ex,a,s,n,g,lP x6,ha,hg,St.start ?_⟩
 exact⟨F1,J1,F2,J2,x1,⟨F3,J3,F4,J4,x3,aY.star_in (L:=[eX rs below]) ⟨F5,J5,F6,J6,x5,aY.one x6,r6⟩,r4⟩,r2⟩
theorem EX {rs ex:List (List AV)} {a:List AV} {s n g:AV} (ha:VaA top.arg a) (hg:SlA 3 g (bq top.gates)) (x:(aY (IE mb bb fb left below top rs ex a s n g)).A h F J):(eG mb bb fb left below top).A h F J:=by
 obtain⟨F1,J1,F2,J2,x1,⟨F3,J3,F4,J4,x3,x4,r4⟩,r2⟩:=x
 obtain⟨F5,J5,F6,J6,x5,x6,r6⟩:=aY.star_out (X:=cM s top.stack) (Y:=cM n top.names) (L:=[eX rs below]) x4
 exact⟨⟨rs,cS top a s n g,ex⟩,F1,J1,F2,J2,x1,⟨F3,J3,F4,J4,x3,⟨F5,J5,F6,J6,⟨⟨a,s,n,g⟩,⟨rfl,ha,hg⟩,x5⟩,aY.one' x6,r6⟩,r4⟩,r2⟩
theorem mq {rs ex:List (List AV)} {a:List AV} {s n g:AV} (ha:VaA top.arg a) (hg:SlA 3 g (bq top.gates)) (s0:St h0 F0 J0 h (IE mb bb fb left below top rs ex a s n g)):Did h0 F0 J0 h (eG mb bb fb left below top):=
 Did.imp (fun _ _ _ x=>EX ha hg x) s0
theorem gL {v:AV} {l:List VD} (x:(cM v l).A h F J):v.one=true∧v.cells=[v]∧dR v=some l.length∧(∀ s,de s (some tV) v=true)∧(∀ (q:IntKind) (i:Nat) (y:VD),l[i]? =some y→∃ p r,bT (some tV) none v (.int q (i:Int))=some p∧aE true 3 h p=some (.agg r)∧VaA y r):=by
 obtain⟨rows,hl,x⟩:=x
 have hlen:=hl.len
 rcases x with⟨⟨rfl,rfl⟩,_⟩ | ⟨⟨b,es⟩,⟨rfl,h1,h2⟩,x⟩
 ·simp only[List.length_nil]at hlen
  refine⟨rfl,rfl,by rw[←hlen];rfl,fun s=>rfl,fun q i y hy=> ?_⟩
  have:=List.length_eq_zero_iff.1 hlen.symm
  subst this
  simp at hy
 ·refine⟨rfl,rfl,by rw[←hlen];rfl,fun s=>km,fun q i y hy=> ?_⟩
  obtain⟨r,q1,q2⟩:=hl.get hy
  have hi:i<rows.length:=(List.getElem?_eq_some_iff.1 q1).1
  refine⟨.ptr b (0+i) 0,r,rA rfl hi,?_,q2⟩
  obtain⟨_,_,_,hc⟩:=x
  have h3:es[i]? =some r:=by
   have:(es.take rows.length)[i]? =some r:=by rw[←h2];exact q1
   rwa [List.getElem?_take_of_lt hi]at this
  simp only at hc
  rw[bD,hc,Nat.zero_add,Option.bind_some,h3,Option.bind_some]
  exact bo q2.len3.1
theorem H2 {v:AV} {l:List VD} {y:VD} {r:List AV} {bz:Nat} (x:(cM v l).A h F J) (hz:h.cell bz=some [r]) (hy:VaA y r) (hl:l.length≤1000000):
  ∃ h',aF true tV v (.msl bz 0 1 tV) h=some (.msl h.n 0 (l.length+1) tV,h')∧Did h F J h' (cM (.msl h.n 0 (l.length+1) tV) (l++[y])):=by
 have he:bM h tV (.msl bz 0 1 tV)=some [r]:=by simp[bM,hz]
 have ha:∀ s,aF true tV s (.msl bz 0 1 tV) h=eF true tV s [r] h:=fun s=>by
  simp only[aF,he,Option.bind_some,List.length_singleton]
  rw[if_neg (by decide)]
 have hr:([r].all fun x=>x.all AV.one)=true:=by simp only[List.all_cons,List.all_nil,Bool.and_true];exact hy.len3.2
 obtain⟨rows,hv,x⟩:=x
 have hlen:=hv.len
 rcases x with⟨⟨rfl,rfl⟩,e1,e2⟩ | ⟨⟨b,es⟩,⟨rfl,h1,h2⟩,a1,a2,a3,a4⟩
 ·have hl0:l=[]:=List.length_eq_zero_iff.1 (by simpa using hlen.symm)
  subst hl0
  refine⟨h.push [r],?_,fun k=>k=h.n,fun _=>False,⟨[r],VaL.one hy,.inr ⟨⟨h.n,[r]⟩,⟨rfl,Nat.le_refl _,rfl⟩,fun _=>Iff.rfl,fun _ h=>h,Nat.lt_succ_self _,aC⟩⟩,(af.push h [r]).chg _ _,fun k hk=> .inr (Nat.le_of_eq hk.symm),fun _ h=>h.elim⟩
  rw[ha]
  simp only[eF]
  rw[if_pos ⟨by simp,by simp,hr⟩]
  rfl
 ·simp only at h1 h2 a1 a3 a4
  have hn:((h.set b none).push (es.take rows.length++[r])).cell h.n=some (es.take rows.length++[r]):=by
   have:=aC (h:=h.set b none) (es:=es.take rows.length++[r])
   exact this
  refine⟨(h.set b none).push (es.take rows.length++[r]),?_,fun k=>k=h.n,fun _=>False,⟨rows++[r],hv.app (VaL.one hy),.inr ⟨⟨h.n,es.take rows.length++[r]⟩,⟨by simp[hlen],?_,?_⟩,fun _=>Iff.rfl,fun _ h=>h,Nat.lt_succ_self _,hn⟩⟩,⟨Nat.le_succ _,Nat.le_refl _,fun k hk hF=> ?_,fun _ _ _=>rfl⟩,fun k hk=> .inr (Nat.le_of_eq hk.symm),fun _ h=>h.elim⟩
  ·rw[ha]
   simp only[eF,a4,Option.bind_some]
   rw[if_pos ⟨by simp,by simp,hr⟩,if_pos ⟨trivial,trivial,by omega⟩,if_pos h1]
   simp[hlen,eh]
  ·simp;omega
  ·rw[←h2,List.take_of_length_le (by simp)]
  ·rw[iT (by rw[eh];omega),bc fun e=>hF ((a1 k).2 e)]
theorem Ai {b m:Nat} {l:List VD} {y:VD} (x:(cM (.msl b 0 m tV) (l++[y])).A h F J):(cM (.msl b 0 l.length tV) l).A h F J:=by
 obtain⟨rows,hv,x⟩:=x
 have hlen:=hv.len
 rw[List.length_append,List.length_singleton]at hlen
 rcases x with⟨⟨_,e⟩,_⟩ | ⟨⟨b',es⟩,⟨e,h1,h2⟩,x⟩
 ·cases e
 ·injection e with e1 _ e2 _
  have hv2:=hv.take l.length
  rw[List.take_left]at hv2
  simp only at e1 h1 h2
  refine⟨rows.take l.length,hv2,.inr ⟨⟨b',es⟩,⟨by rw[e1];congr 1;simp;omega,by simp;omega,?_⟩,x⟩⟩
  have h3:(rows.take l.length).length=l.length:=by simp;omega
  rw[h3]
  conv=>lhs;rw[h2]
  rw[List.take_take]
  congr 1
  omega
theorem Aa {v:AV} {l:List VD} (x:(cM v l).A h F J) (hl:l≠[]):∃ b,v= .msl b 0 l.length tV:=by
 obtain⟨rows,hv,x⟩:=x
 have hlen:=hv.len
 rcases x with⟨⟨rfl,rfl⟩,_⟩ | ⟨⟨b',es⟩,⟨e,_⟩,_⟩
 ·exact absurd (List.length_eq_zero_iff.1 (by simpa using hlen.symm)) hl
 ·exact⟨b',by rw[e,hlen]⟩
theorem St.upd {X Y:Asn} (s:St h0 F0 J0 h L) (i:Nat) (hi:L[i]? =some X) (hxy:∀ h F J,X.A h F J→Y.A h F J):St h0 F0 J0 h (L.set i Y):=by
 obtain⟨h',rfl,d⟩:=s.call (R:=fun q=>q=h) i hi (Y:=Y) fun F J x=>⟨h,rfl,Did.imp hxy (Did.same x)⟩
 exact d
theorem Bp {α:Type} {X Z:Asn} {Y:α→Asn} (x:(dE X Z).A h F J) {R:AH→α→Prop} (c:∀ F1 J1,X.A h F1 J1→∃ h' a,R h' a∧Did h F1 J1 h' (Y a)):∃ h' a,R h' a∧Did h F J h' (dE (Y a) Z):=by
 obtain⟨F1,J1,F2,J2,x1,z,hF,hJ,dF,dJ⟩:=x
 obtain⟨h',a0,r,F3,J3,y,c3,a3,b3⟩:=c F1 J1 x1
 have zl:=Z.lt z
 refine⟨h',a0,r,fun k=>F3 k∨F2 k,fun j=>J3 j∨J2 j,⟨F3,J3,F2,J2,y,Z.keep z c3 (fun k hk h1=>dF k h1 hk) (fun j hj h1=>dJ j h1 hj),fun _=>Iff.rfl,fun _=>Iff.rfl,fun k h3 h2=> ?_,fun j h3 h2=> ?_⟩,?_,fun k hk=> ?_,fun j hj=> ?_⟩
 ·rcases a3 k h3 with h | h
  ·exact dF k h h2
  ·have:=zl.1 k h2;omega
 ·rcases b3 j h3 with h | h
  ·exact dJ j h h2
  ·have:=zl.2 j h2;omega
 ·exact⟨c3.n,c3.ids,fun k hk hn=>c3.cell k hk fun h1=>hn ((hF k).2 (.inl h1)),fun j hj hn=>c3.hw j hj fun h1=>hn ((hJ j).2 (.inl h1))⟩
 ·rcases hk with h | h
  ·exact(a3 k h).imp (fun h=>(hF k).2 (.inl h)) id
  ·exact .inl ((hF k).2 (.inr h))
 ·rcases hj with h | h
  ·exact(b3 j h).imp (fun h=>(hJ j).2 (.inl h)) id
  ·exact .inl ((hJ j).2 (.inr h))
theorem St.callE {α:Type} {X:Asn} {R:AH→α→Prop} {Y:α→Asn} (s:St h0 F0 J0 h L) (i:Nat) (hi:L[i]? =some X) (c:∀ F J,X.A h F J→∃ h' a,R h' a∧Did h F J h' (Y a)):∃ h' a,R h' a∧St h0 F0 J0 h' (L.set i (Y a)):=by
 have hl:i<L.length:=(List.getElem?_eq_some_iff.1 hi).1
 obtain⟨F,J,x,ch,a,b⟩:=s
 obtain⟨h',a0,r,d⟩:=Bp ((aY.front hi).1 x) c
 exact⟨h',a0,r,Did.chain ch a b (d.imp fun _ _ _ y=>aY.back hl y)⟩
theorem St.app (s:St h0 F0 J0 h L) (i:Nat) {v:AV} {l:List VD} (hi:L[i]? =some (cM v l)) {y:VD} {r:List AV} {bz:Nat} (hz:h.cell bz=some [r]) (hy:VaA y r) (hl:l.length≤1000000):
  ∃ h',aF true tV v (.msl bz 0 1 tV) h=some (.msl h.n 0 (l.length+1) tV,h')∧St h0 F0 J0 h' (L.set i (cM (.msl h.n 0 (l.length+1) tV) (l++[y]))):=
 s.call (R:=fun h'=>aF true tV v (.msl bz 0 1 tV) h=some (.msl h.n 0 (l.length+1) tV,h')) i hi fun _ _ x=>H2 x hz hy hl
end
end Go.Proofs.Ytkdbjfncchmmpaa
