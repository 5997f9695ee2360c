/- What simple steps come to: for 'simp only'. -/
import Derived.Test.YtkdbjfncchmmpaaGreatMg2
import Derived.WalkKit
import Derived.Test.YtkdbjfncchmmpaaGreatRows
import Derived.Recover
import Derived.ProofKit
import Derived.OpenShut
import Derived.ShutString
import Derived.ChangeOld
import Derived.Deep.Slices
import Derived.Deep.Fields
import Derived.Lib.SmallJoins
namespace Go.Proofs.YtkdbjfncchmmpaaGreat
open Nat (reduceAdd reduceSub reduceLeDiff reduceLT)
open List (replicate)
set_option linter.unusedSimpArgs false
set_option linter.unusedVariables false
open Go
section
variable {C:vB} {nv:Nat} {k:List RK} {V L:List AV} {h h0:AH} {kd:Kd} {q:IntKind}
theorem MI {a b:Int}:bv kd .add (.int q a) (.int q b)=some (.int q (q.wrap (a+b))):=by simp[bv,lj]
theorem Mw {a b:Int}:bv kd .sub (.int q a) (.int q b)=some (.int q (q.wrap (a - b))):=by simp[bv,lj]
theorem LZ {a b:Int}:bv kd .mul (.int q a) (.int q b)=some (.int q (q.wrap (a*b))):=by simp[bv,lj]
theorem ML {a b:Int}:bv kd .eql (.int q a) (.int q b)=some (.bool (decide (a=b))):=by simp[bv,lj];rfl
theorem LT {a b:Int}:bv kd .neq (.int q a) (.int q b)=some (.bool (!decide (a=b))):=by simp[bv,lj];rfl
theorem LJ {a b:Int}:bv kd .lss (.int q a) (.int q b)=some (.bool (decide (a<b))):=by simp[bv,lj]
theorem Ml {a b:Int}:bv kd .leq (.int q a) (.int q b)=some (.bool (decide (a≤b))):=by simp[bv,lj]
theorem Mr {a b:Int}:bv kd .gtr (.int q a) (.int q b)=some (.bool (decide (b<a))):=by simp[bv,lj]
theorem Mb {a b:Int}:bv kd .geq (.int q a) (.int q b)=some (.bool (decide (b≤a))):=by simp[bv,lj]
theorem MJ {a b:Int}:bv kd .and (.int q a) (.int q b)=some (.int q (q.wrap (BitVec.ofInt q.bits a &&& BitVec.ofInt q.bits b).toNat)):=by simp[bv,lj]
theorem Od {a b:Int}:bv kd .or (.int q a) (.int q b)=some (.int q (q.wrap (BitVec.ofInt q.bits a ||| BitVec.ofInt q.bits b).toNat)):=by simp[bv,lj]
theorem zi {a b:Int}:bv kd .andNot (.int q a) (.int q b)=some (.int q (q.wrap (BitVec.ofInt q.bits a &&& ~~~(BitVec.ofInt q.bits b)).toNat)):=by simp[bv,lj]
theorem FR {a b:List UInt8}:bv kd .eql (.str a) (.str b)=some (.bool (decide (a=b))):=by by_cases hh:a=b<;>simp[bv,hh]
theorem Hm {a b:List UInt8}:bv kd .neq (.str a) (.str b)=some (.bool (!decide (a=b))):=by by_cases hh:a=b<;>simp[bv,hh]
theorem HN {a b:Bool}:bv .bool .eql (.bool a) (.bool b)=some (.bool (a==b)):=by simp[bv,eqA]
theorem II {a b:Bool}:bv .bool .neq (.bool a) (.bool b)=some (.bool (!(a==b))):=by simp[bv,eqA]
theorem Ie {z:TypeId} {es:List (List AV)} {i:Option Nat}:bv .slice .eql (.isl i z es) .nils=some (.bool false):=by simp[bv,eqA]
theorem uI:bv .slice .eql .nils .nils=some (.bool true):=by simp[bv,eqA]
theorem Ds {b o n:Nat} {z:TypeId}:bv .slice .eql (.msl b o n z) .nils=some (.bool false):=by simp[bv,eqA]
theorem Mp {b:Bool}:unA .not (.bool b)=some (.bool !b):=rfl
theorem Mc {a:Int}:unA .neg (.int q a)=some (.int q (q.wrap (0 - a))):=rfl
theorem MB {p:IntKind} {a:Int}:cvA (.int q) (.int p a)=some (.int q (q.wrap a)):=rfl
theorem L1 {s:List UInt8}:cvA .str (.str s)=some (.str s):=rfl
theorem bC {agg:Bool} {n b i off:Nat}:aD agg n h (.ptr b i off)=((h.cell b).bind (·[i]?)).bind fun e=>ldA agg n e off:=rfl
theorem Ol {agg:Bool} {n off:Nat} {e:List AV}:aD agg n h (.ip e off)=ldA agg n e off:=rfl
theorem fD {n off:Nat} {e:List AV}:ldA false n e off=e[off]? :=rfl
theorem bq {n:Nat} {e:List AV} (he:e.length=n):ldA true n e 0=some (.agg e):=by subst he;simp[ldA]
theorem xn {e el:TypeId} {id:Option Nat} {es:List (List AV)} {i:Nat} {r:List AV} (he:e=el) (hi:es[i]? =some r):bX (some e) none (.isl id el es) (.int q (i:Int))=some (.ip r 0):=by simp[bX,he,hi]
theorem sj {e el:TypeId} {b o n i:Nat} (he:e=el) (hi:i<n):bX (some e) none (.msl b o n el) (.int q (i:Int))=some (.ptr b (o+i) 0):=by simp[bX,he,hi]
theorem LL {b i o off:Nat}:aI off (.ptr b i o)=some (.ptr b i (o+off)):=rfl
theorem N9 {e:List AV} {o off:Nat}:aI off (.ip e o)=some (.ip e (o+off)):=rfl
theorem L6 {b i o:Nat}:zG (.ptr b i o)=some (.ptr b i o):=rfl
theorem OX {e:List AV} {o:Nat}:zG (.ip e o)=some (.ip e o):=rfl
theorem yf:dH .nils=some 0:=rfl
theorem Dk {id:Option Nat} {el:TypeId} {es:List (List AV)}:dH (.isl id el es)=some es.length:=rfl
theorem Cr {b o n:Nat} {el:TypeId}:dH (.msl b o n el)=some n:=rfl
theorem De {s:List UInt8}:dH (.str s)=some s.length:=rfl
theorem vw {s:Bool} {e:TypeId}:du s (some e) .nils=true:=rfl
theorem jS {s:Bool} {e:TypeId} {id:Option Nat} {es:List (List AV)}:du s (some e) (.isl id e es)=true:=by simp[du]
theorem jW {s:Bool} {e:TypeId} {b o n:Nat}:du s (some e) (.msl b o n e)=true:=by simp[du]
theorem xU {e:Option TypeId} {l:List UInt8}:du true e (.str l)=true:=rfl
theorem aP {b:Nat} {es:Option (List (List AV))}:(h.set b es).cell b=es:=by simp[AH.set]
theorem be {b j:Nat} {es:Option (List (List AV))} (hj:j≠b):(h.set b es).cell j=h.cell j:=by simp[AH.set,hj]
theorem dT {b:Nat} {es:Option (List (List AV))}:(h.set b es).n=h.n:=rfl
theorem mp {b:Nat} {es:Option (List (List AV))}:(h.set b es).ids=h.ids:=rfl
theorem pF {b:Nat} {es:Option (List (List AV))}:(h.set b es).hw=h.hw:=rfl
theorem aC {es:List (List AV)}:(h.push es).cell h.n=some es:=by simp[AH.push]
theorem iu {es:List (List AV)} {j:Nat} (hj:j≠h.n):(h.push es).cell j=h.cell j:=by simp[AH.push,hj]
theorem aJ {es:List (List AV)}:(h.push es).n=h.n+1:=rfl
theorem gS {es:List (List AV)}:(h.push es).ids=h.ids:=rfl
theorem DK {es:List (List AV)}:(h.push es).hw=h.hw:=rfl
theorem qY {m:Nat}:(h.fresh m).cell=h.cell:=rfl
theorem xM {m:Nat}:(h.fresh m).n=h.n:=rfl
theorem py {m:Nat}:(h.fresh m).ids=h.ids+1:=rfl
theorem jR {m:Nat}:(h.fresh m).hw h.ids=m:=by simp[AH.fresh]
theorem gV {m j:Nat} (hj:j≠h.ids):(h.fresh m).hw j=h.hw j:=by simp[AH.fresh,hj]
theorem uH {i m:Nat}:(h.grow i m).cell=h.cell:=rfl
theorem Gf {i m:Nat}:(h.grow i m).n=h.n:=rfl
theorem zh {i m:Nat}:(h.grow i m).ids=h.ids:=rfl
theorem CK {i m:Nat}:(h.grow i m).hw i=m:=by simp[AH.grow]
theorem rW {i m j:Nat} (hj:j≠i):(h.grow i m).hw j=h.hw j:=by simp[AH.grow,hj]
def Acc (h0 h:AH) (e:TypeId) (v:AV) (acc:List (List AV)):Prop:=(acc=[]∧v= .nils)∨∃ id,acc≠[]∧h0.ids≤id∧id<h.ids∧h.hw id=acc.length∧v= .isl (some id) e acc
theorem kH (h0 h:AH) (e:TypeId):Acc h0 h e .nils []:= .inl ⟨rfl,rfl⟩
theorem lW {e:TypeId} {v:AV} {acc:List (List AV)} (ha:Acc h0 h e v acc) (g:af h0 h) {row:List AV} (h1:row.all AV.one=true) (hl:acc.length≤1000000):
  ∃ v' h',aE false e v (.isl (some h.ids) e [row]) (h.fresh 1)=some (v',h')∧Acc h0 h' e v' (acc++[row])∧af h0 h'∧h'.cell=h.cell∧h'.n=h.n:=by
 have g1:af h0 (h.fresh 1):=g.trans (af.fresh h 1)
 have h1':∀ x,x∈row→x.one=true:=by simpa using h1
 rcases ha with⟨rfl,rfl⟩ | ⟨id,a0,a1,a2,a3,rfl⟩
 ·refine⟨.isl (some (h.ids+1)) e [row],(h.fresh 1).fresh 1,?_,.inr ⟨h.ids+1,by simp,?_,?_,?_,by simp⟩,g1.trans (af.fresh _ 1),rfl,rfl⟩
  ·simp only[aE,bL,if_true,Option.bind_some,List.length_singleton,Nat.one_ne_zero,if_false,eo]
   rw[if_pos ⟨by omega,by omega,by simpa using h1'⟩]
   rfl
  ·have:=g.ids;omega
  ·simp[AH.fresh]
  ·simp[AH.fresh]
 ·have hne:id≠h.ids:=by omega
  refine⟨.isl (some id) e (acc++[row]),(h.fresh 1).grow id (acc.length+1),?_,.inr ⟨id,by simp,a1,?_,?_,rfl⟩,g1.grow a1,rfl,rfl⟩
  ·simp only[aE,bL,if_true,Option.bind_some,List.length_singleton,Nat.one_ne_zero,if_false,eo]
   rw[if_pos ⟨by omega,by omega,by simpa using h1'⟩,gV hne,a3]
   simp only[true_and,hl,if_true]
  ·simp[AH.grow,AH.fresh];omega
  ·simp[AH.grow]
def lz:AV→Bool
 | .bool _ | .int _ _ | .str _ | .nilp | .nils | .nilf | .nili=>true
 | _=>false
theorem KI {v:AV} (h:lz v=true):wkA v=some v:=by cases v<;>simp_all [lz,wkA]
theorem yA:∀ {l:List AV},l.all lz=true→wkL l=some l
 | [],_=>rfl
 | v::l,h=>by
   simp only[List.all_cons,Bool.and_eq_true]at h
   simp[wkL,KI h.1,yA h.2]
theorem jd:∀ {l:List (List AV)},(∀ r∈l,r.all lz=true)→wkR l=some l
 | [],_=>rfl
 | v::l,h=>by simp only[wkR,yA (h v (List.mem_cons_self ..)),jd fun r hr=>h r (List.mem_cons_of_mem _ hr)]
def dD (e:TypeId) (es:List (List AV)):AV:=if es=[]then .nils else .isl none e es
theorem sc {e:TypeId} {v:AV} {acc:List (List AV)} (ha:Acc h0 h e v acc) (hf:∀ r∈acc,r.all lz=true):wkA v=some (dD e acc):=by
 rcases ha with⟨rfl,rfl⟩ | ⟨id,a0,_,a2,a3,rfl⟩
 ·rfl
 ·simp only[wkA,jd hf,Option.map_some,dD,if_neg a0]
structure IsL (e:TypeId) (v:AV) (rows:List (List AV)):Prop where
 len:dH v=some rows.length
 fits:∀ s,du s (some e) v=true
 ix:∀ (q:IntKind) (i:Nat) row,rows[i]? =some row→bX (some e) none v (.int q (i:Int))=some (.ip row 0)
theorem kA (id:Option Nat) (e:TypeId) (rows:List (List AV)):IsL e (.isl id e rows) rows:=⟨rfl,fun s=>jS,fun q i row h=>xn rfl h⟩
theorem iP (e:TypeId):IsL e .nils []:=⟨rfl,fun s=>rfl,fun q i row h=>by simp at h⟩
theorem kq (e:TypeId) (rows:List (List AV)):IsL e (dD e rows) rows:=by
 unfold dD
 split
 ·rename_i h
  subst h
  exact iP e
 ·exact kA _ _ _
theorem Cq {e:TypeId} {v:AV} {acc:List (List AV)} (ha:Acc h0 h e v acc):IsL e v acc:=by
 rcases ha with⟨rfl,rfl⟩ | ⟨id,_,_,_,_,rfl⟩
 ·exact iP e
 ·exact kA _ _ _
def gB (w:Bool):AV→Option Bool
 | .bool b=>some (if w then b else !b)
 | .tup _=>some false
 | _=>none
theorem Gg {w:Bool} {vs:List AV}:gB w (.tup vs)=some false:=rfl
theorem No {a:Arg} {w:Bool}:ni V L a w=gB w (arg V L a):=by unfold ni gB;cases arg V L a<;>rfl
theorem C7 {b w:Bool}:gB w (.bool b)=some (if w=true then b else !b):=rfl
theorem LY {i id:Nat}:fg id (.blk i::k)=if i=id then some k else fg id k:=rfl
theorem OD {l:List RS} {id:Nat}:fg id (.ss l::k)=fg id k:=rfl
theorem Oy {l:List RS} {id:Nat}:fg id (.lp l::k)=fg id k:=rfl
theorem ME {l:List RI} {id:Nat}:fg id (.ops l::k)=fg id k:=rfl
theorem Du:eS V h []=some []:=rfl
theorem LK {j:Nat} {rs:List kU}:eS V h (.v j::rs)=(eS V h rs).map fun l=>V.getD j .junk::l:=rfl
theorem yg {agg:Bool} {n j:Nat} {rs:List kU}:eS V h (.cell agg n j::rs)=(aD agg n h (V.getD j .junk)).bind fun v=>(eS V h rs).map fun l=>v::l:=rfl
theorem MK:fC []= .tup []:=rfl
theorem Mh {a:AV}:fC [a]=a:=rfl
theorem My {a b:AV}:fC [a,b]= .tup [a,b]:=rfl
theorem LX {a b c:AV}:fC [a,b,c]= .tup [a,b,c]:=rfl
theorem FL {a d:AV} {l:List AV}:(a::l).getD 0 d=a:=rfl
theorem Gm {a d:AV} {l:List AV} {n:Nat}:(a::l).getD (n+1) d=l.getD n d:=rfl
theorem Mk {d:AV} {n:Nat}:([]:List AV).getD n d=d:=rfl
theorem HI {a b:AV} {l:List AV}:(a::l).set 0 b=b::l:=rfl
theorem Ii {a b:AV} {l:List AV} {n:Nat}:(a::l).set (n+1) b=a::l.set n b:=rfl
theorem Gc {α:Type} {a:α} {l:List α}:(a::l)[0]? =some a:=rfl
theorem I6 {α:Type} {a:α} {l:List α} {n:Nat}:(a::l)[n+1]? =l[n]? :=rfl
theorem MA {α:Type} {n:Nat}:([]:List α)[n]? =none:=rfl
theorem uU {cs:List AV}:(AV.agg cs).cells=cs:=rfl
theorem wa {n:Int}:(AV.int q n).cells=[.int q n]:=rfl
theorem su {b:Bool}:(AV.bool b).cells=[.bool b]:=rfl
theorem vd {b:List UInt8}:(AV.str b).cells=[.str b]:=rfl
theorem tj:AV.nils.cells=[.nils]:=rfl
theorem sm:AV.nilp.cells=[.nilp]:=rfl
theorem uK {i:Option Nat} {z:TypeId} {es:List (List AV)}:(AV.isl i z es).cells=[.isl i z es]:=rfl
theorem uE {b o n:Nat} {z:TypeId}:(AV.msl b o n z).cells=[.msl b o n z]:=rfl
theorem ul {b o n:Nat}:(AV.ptr b o n).cells=[.ptr b o n]:=rfl
theorem Dc {n:Int}:(AV.int q n).one=true:=rfl
theorem yM {b:Bool}:(AV.bool b).one=true:=rfl
theorem DU {b:List UInt8}:(AV.str b).one=true:=rfl
theorem zA:AV.nils.one=true:=rfl
theorem zJ:AV.nilp.one=true:=rfl
theorem DA {i:Option Nat} {z:TypeId} {es:List (List AV)}:(AV.isl i z es).one=true:=rfl
theorem Do {b o n:Nat} {z:TypeId}:(AV.msl b o n z).one=true:=rfl
theorem CH {b o n:Nat}:(AV.ptr b o n).one=true:=rfl
theorem vE {t:TypeId} {v:AV}:(AV.iface t v).one=true:=rfl
theorem Av {p:AV→Bool} {a:AV} {l:List AV}:(a::l).all p=(p a && l.all p):=rfl
theorem DO {p:AV→Bool}:([]:List AV).all p=true:=rfl
theorem CY {vs:List AV} {i:Nat}:NW (.tup vs) i=vs[i]? :=rfl
theorem yN {pl:List (Nat×Nat)} {cs:List AV}:gZ pl cs []=some cs:=by cases pl<;>rfl
def f1A (pl:List (Nat×Nat)) (cs:List AV) (v:AV) (r:List (Nat×AV)):Option (Nat×Nat)→Option (List AV)
 | some (off,size)=>if v.cells.length=size∧off+size≤cs.length∧v.cells.all AV.one=true then gZ pl (stA cs off v.cells) r else none
 | none=>none
theorem vH {pl:List (Nat×Nat)} {cs:List AV} {i:Nat} {v:AV} {r:List (Nat×AV)}:gZ pl cs ((i,v)::r)=f1A pl cs v r pl[i]? :=by
 conv=>lhs;unfold gZ
 cases pl[i]? with
 | none=>rfl
 | some q=>rfl
theorem uZ {pl:List (Nat×Nat)} {cs:List AV} {off size:Nat} {v:AV} {r:List (Nat×AV)} (h1:v.cells.length=size) (h2:off+size≤cs.length) (h3:v.cells.all AV.one=true):
  f1A pl cs v r (some (off,size))=gZ pl (stA cs off v.cells) r:=by simp[f1A,h1,h2,h3]
def s1A (n:Nat) (h:AH) (b i off:Nat) (cs:List AV):Option (List (List AV))→Option AH
 | some es=>(es[i]?).bind fun e=>if cs.all AV.one=true∧cs.length=n∧off+n≤e.length then some (h.set b (some (es.set i (stA e off cs))))else none
 | none=>none
def s2A (n:Nat) (h:AH) (b i off:Nat) (cs:List AV) (es:List (List AV)):Option (List AV)→Option AH
 | some e=>if cs.all AV.one=true∧cs.length=n∧off+n≤e.length then some (h.set b (some (es.set i (stA e off cs))))else none
 | none=>none
theorem s_1 {n b i off:Nat} {x:AV}:aH n h (.ptr b i off) x=s1A n h b i off x.cells (h.cell b):=by
 simp only[aH]
 cases h.cell b<;>rfl
theorem s_2 {n b i off:Nat} {cs:List AV} {es:List (List AV)}:s1A n h b i off cs (some es)=s2A n h b i off cs es es[i]? :=by
 simp only[s1A]
 cases es[i]? <;>rfl
theorem s_3 {n b i off:Nat} {cs:List AV} {es:List (List AV)} {e:List AV} (h1:cs.all AV.one=true) (h2:cs.length=n) (h3:off+n≤e.length):s2A n h b i off cs es (some e)=some (h.set b (some (es.set i (stA e off cs)))):=by simp[s2A,h1,h2,h3]
theorem uV {n:Nat} {es:List (List AV)}:jO n es []=some es:=by cases es<;>rfl
theorem tv {n:Nat} {es:List (List AV)} {i:Nat} {v:AV} {r:List (Nat×AV)} (h1:v.cells.length=n) (h2:i<es.length) (h3:v.cells.all AV.one=true):jO n es ((i,v)::r)=jO n (es.set i v.cells) r:=by
 conv=>lhs;unfold jO
 simp[h1,h2,h3]
theorem Iq {e cs:List AV} (he:e.length=cs.length):stA e 0 cs=cs:=by simp[stA,he]
theorem FJ {e:List AV}:stA e 0 []=e:=by simp[stA]
theorem CO {a c:AV} {e cs:List AV}:stA (a::e) 0 (c::cs)=c::stA e 0 cs:=by simp[stA]
theorem DM {a:AV} {e cs:List AV} {n:Nat}:stA (a::e) (n+1) cs=a::stA e n cs:=by simp[stA,Nat.add_right_comm]
theorem DQ {b:Nat} {x y:Option (List (List AV))}:(h.set b x).set b y=h.set b y:=by
 unfold AH.set
 congr 1
 funext j
 by_cases hj:j=b<;>simp[hj]
theorem bm {x y:List (List AV)}:(h.push x).set h.n (some y)=h.push y:=by
 unfold AH.push AH.set
 congr 1
 funext j
 by_cases hj:j=h.n<;>simp[hj]
theorem DC:uh V L h []=True:=rfl
theorem zy {agg:Bool} {n:Nat} {a d:Arg} {r:List RCk}:uh V L h (⟨none,agg,n,a,d⟩::r)=(aD agg n h (arg V L a)=some (arg V L d)∧uh V L h r):=rfl
theorem yw {agg:Bool} {n:Nat} {g a d:Arg} {w:Bool} {r:List RCk}:uh V L h (⟨some (g,w),agg,n,a,d⟩::r)=((match gB w (arg V L g)with | some true=>aD agg n h (arg V L a)=some (arg V L d) | _=>True)∧uh V L h r):=by
 simp only[uh,pH,No]<;>rfl
theorem oe {b:Bool}:fgA true h (.inl (.bool b),h)=some (.inl (.bool b),h):=aA (af.refl h) rfl
theorem Iu {n:Int}:fgA true h (.inl (.int q n),h)=some (.inl (.int q n),h):=aA (af.refl h) rfl
theorem FM {n:List UInt8}:fgA true h (.inl (.str n),h)=some (.inl (.str n),h):=aA (af.refl h) rfl
theorem w64 {n:Int} (h1: -9223372036854775808≤n) (h2:n≤9223372036854775807):IntKind.wrap .i64 n=n:=by
 rw[IntKind.wrap_i64]
 omega
theorem ct {a b:List (List AV)}:((h.push a).push b).cell (h.n+1)=some b:=by simp[AH.push]
theorem gD {a b:List (List AV)}:((h.push a).push b).cell h.n=some a:=by simp[AH.push]
theorem kb {a x y:List (List AV)}:((h.push a).push x).set (h.n+1) (some y)=(h.push a).push y:=bm (h:=h.push a)
theorem fB {a b c:List (List AV)}:(((h.push a).push b).push c).cell (h.n+1+1)=some c:=by simp[AH.push]
theorem kD {a b c:List (List AV)}:(((h.push a).push b).push c).cell (h.n+1)=some b:=by simp[AH.push]
theorem hU {a b c:List (List AV)}:(((h.push a).push b).push c).cell h.n=some a:=by simp[AH.push,show ¬ h.n=h.n+1+1 by omega]
theorem uG {a b x y:List (List AV)}:(((h.push a).push b).push x).set (h.n+1+1) (some y)=((h.push a).push b).push y:=bm (h:=(h.push a).push b)
theorem aN {es:List (List AV)} {j:Nat} (hj:j<h.n):(h.push es).cell j=h.cell j:=iu (by omega)
theorem aF {b b':List RS} (hb:b=b'):aq C nv (.lp b::k) V L h=aq C nv (.ss b':: .lp b::k) (aa nv V) L h:=by subst hb;exact PG
theorem Gt {agg:Bool} {n b:Nat} {t:TypeId}:aD agg n h (.tptr t b)=((h.cell b).bind (·[0]?)).bind fun e=>ldA agg n e 0:=rfl
theorem CV {t:TypeId} {b:Nat}:aI 0 (.tptr t b)=some (.tptr t b):=rfl
theorem Cv {t:TypeId} {b:Nat}:aI 1 (.tptr t b)=some (.ptr b 0 1):=rfl
theorem DS {t:TypeId} {b:Nat}:aI 2 (.tptr t b)=some (.ptr b 0 2):=rfl
theorem CJ {t:TypeId} {b:Nat}:aI 3 (.tptr t b)=some (.ptr b 0 3):=rfl
theorem GB {t:TypeId} {b:Nat}:zG (.tptr t b)=some (.tptr t b):=rfl
theorem Pi {n b:Nat} {t:TypeId} {x:AV}:aH n h (.tptr t b) x=s1A n h b 0 0 x.cells (h.cell b):=by
 simp only[aH]
 cases h.cell b<;>rfl
theorem q7 {t:TypeId} {b:Nat}:(AV.tptr t b).cells=[.tptr t b]:=rfl
theorem yG {t:TypeId} {b:Nat}:(AV.tptr t b).one=true:=rfl
theorem Ix {a b:Int}:mmA false (.int q a) (.int q b)=some (.int q (if b<a then b else a)):=rfl
theorem FT {a b:Int}:mmA true (.int q a) (.int q b)=some (.int q (if b>a then b else a)):=rfl
theorem LV {a b:Int}:bv kd .rem (.int q a) (.int q b)=if b=0 then none else some (.int q (a.tmod b)):=by simp[bv,lj]
theorem Hl {b i o:Nat}:bv .ptr .eql (.ptr b i o) .nilp=some (.bool false):=by simp[bv,eqA]
theorem Cn {t:TypeId} {b:Nat}:bv .ptr .eql (.tptr t b) .nilp=some (.bool false):=by simp[bv,eqA]
theorem L8:bv .ptr .eql .nilp .nilp=some (.bool true):=by simp[bv,eqA]
theorem Dv {b i o:Nat}:bv .ptr .neq (.ptr b i o) .nilp=some (.bool true):=by simp[bv,eqA]
theorem y8 {t:TypeId} {b:Nat}:bv .ptr .neq (.tptr t b) .nilp=some (.bool true):=by simp[bv,eqA]
theorem IL:bv .ptr .neq .nilp .nilp=some (.bool false):=by simp[bv,eqA]
theorem HY {t:TypeId} {v:AV} {ks:Option (List Kd)} {cy:Bool}:mq .iface ks cy .neq (.iface t v) .nili=some (.bool true):=by simp[mq,bv,eqA]
theorem MG {ks:Option (List Kd)}:mq .iface ks true .neq .nili .nili=some (.bool false):=by simp[mq,NK]
theorem DB {t:TypeId} {v:AV} {ks:Option (List Kd)} {cy:Bool}:mq .iface ks cy .eql (.iface t v) .nili=some (.bool false):=by simp[mq,bv,eqA]
theorem HX {ks:Option (List Kd)}:mq .iface ks true .eql .nili .nili=some (.bool true):=by simp[mq,NK]
theorem ag:(type_of% @List.length_cons.{0})∧(type_of% @List.length_nil.{0})∧(type_of% @List.cons_append.{0})∧(type_of% @List.nil_append.{0})∧(type_of% @List.map_cons.{0,0})∧(type_of% @List.map_nil.{0,0})∧(type_of% @Option.bind_some.{0,0})∧(type_of% @Option.map_some.{0,0})∧(type_of% @Option.bind_none.{0,0})∧(type_of% @Option.map_none.{0,0})∧(type_of% @if_true.{1})∧(type_of% @if_false.{1})∧(type_of% @decide_true)∧(type_of% @decide_false)∧(type_of% @Bool.false_eq_true)∧(type_of% @Bool.true_eq_false)∧(type_of% @Bool.not_true)∧(type_of% @Bool.not_false)∧(type_of% @Bool.and_true)∧(type_of% @Bool.true_and)∧(type_of% @Bool.and_false)∧(type_of% @Bool.false_and)∧(type_of% @Bool.or_true)∧(type_of% @Bool.true_or)∧(type_of% @Bool.or_false)∧(type_of% @Bool.false_or)∧(type_of% @true_and)∧(type_of% @and_true)∧(type_of% @false_and)∧(type_of% @and_false)∧(type_of% @List.take_zero.{0})∧(type_of% @List.take_succ_cons.{0})∧(type_of% @List.drop_zero.{0})∧(type_of% @List.drop_succ_cons.{0})∧(type_of% @List.take_nil.{0})∧(type_of% @List.drop_nil.{0})∧(type_of% @List.set_cons_zero.{0})∧(type_of% @List.set_cons_succ.{0})∧(type_of% @Nat.zero_add)∧(type_of% @Nat.lt_add_one)∧(type_of% @Nat.le_refl)∧(type_of% @Int.toNat_natCast):=
 ⟨@List.length_cons.{0},@List.length_nil.{0},@List.cons_append.{0},@List.nil_append.{0},@List.map_cons.{0,0},@List.map_nil.{0,0},@Option.bind_some.{0,0},@Option.map_some.{0,0},@Option.bind_none.{0,0},@Option.map_none.{0,0},@if_true.{1},@if_false.{1},@decide_true,@decide_false,@Bool.false_eq_true,@Bool.true_eq_false,@Bool.not_true,@Bool.not_false,@Bool.and_true,@Bool.true_and,@Bool.and_false,@Bool.false_and,@Bool.or_true,@Bool.true_or,@Bool.or_false,@Bool.false_or,@true_and,@and_true,@false_and,@and_false,@List.take_zero.{0},@List.take_succ_cons.{0},@List.drop_zero.{0},@List.drop_succ_cons.{0},@List.take_nil.{0},@List.drop_nil.{0},@List.set_cons_zero.{0},@List.set_cons_succ.{0},@Nat.zero_add,@Nat.lt_add_one,@Nat.le_refl,@Int.toNat_natCast⟩
theorem sim:(type_of% @Mq)∧(type_of% @za)∧(type_of% @G3)∧(type_of% @Ij)∧(type_of% @wS)∧(type_of% @B8)∧(type_of% @GL)∧(type_of% @LM)∧(type_of% @Md)∧(type_of% @pK)∧(type_of% @CT)∧(type_of% @r_g)∧(type_of% @HB)∧(type_of% @GS)∧(type_of% @OP)∧(type_of% @FU)∧(type_of% @DJ)∧(type_of% @Jb)∧(type_of% @Mz)∧(type_of% @HW)∧(type_of% @O6)∧(type_of% @FK)∧(type_of% @Mf)∧(type_of% @LN)∧(type_of% @LC)∧(type_of% @Mi)∧(type_of% @MM)∧(type_of% @L5)∧(type_of% @OY)∧(type_of% @Me)∧(type_of% @LU)∧(type_of% @Ma)∧(type_of% @Dp)∧(type_of% @LD)∧(type_of% @GR)∧(type_of% @HQ)∧(type_of% @Dz)∧(type_of% @LH)∧(type_of% @L9)∧(type_of% @DL)∧(type_of% @DY)∧(type_of% @Dr)∧(type_of% @If)∧(type_of% @yP)∧(type_of% @Dn)∧(type_of% @yq)∧(type_of% @CR)∧(type_of% @Co)∧(type_of% @vn)∧(type_of% @kj)∧(type_of% @oW)∧(type_of% @LS)∧(type_of% @LW)∧(type_of% @Mo)∧(type_of% @ID)∧(type_of% @Il)∧(type_of% @I4)∧(type_of% @Gj)∧(type_of% @IW)∧(type_of% @Ir)∧(type_of% @No)∧(type_of% @C7)∧(type_of% @Gg)∧(type_of% @LY)∧(type_of% @OD)∧(type_of% @Oy)∧(type_of% @ME)∧(type_of% @Du)∧(type_of% @LK)∧(type_of% @yg)∧(type_of% @Mh)∧(type_of% @My)∧(type_of% @LX)∧(type_of% @MK)∧(type_of% @lF)∧(type_of% @ko)∧(type_of% @MI)∧(type_of% @Mw)∧(type_of% @LZ)∧(type_of% @ML)∧(type_of% @LT)∧(type_of% @LJ)∧(type_of% @Ml)∧(type_of% @Mr)∧(type_of% @Mb)∧(type_of% @MJ)∧(type_of% @Od)∧(type_of% @zi)∧(type_of% @FR)∧(type_of% @Hm)∧(type_of% @HN)∧(type_of% @II)∧(type_of% @Ie)∧(type_of% @uI)∧(type_of% @Ds)∧(type_of% @Mp)∧(type_of% @Mc)∧(type_of% @MB)∧(type_of% @L1)∧(type_of% @bC)∧(type_of% @Ol)∧(type_of% @fD)∧(type_of% @LL)∧(type_of% @N9)∧(type_of% @L6)∧(type_of% @OX)∧(type_of% @yf)∧(type_of% @Dk)∧(type_of% @Cr)∧(type_of% @De)∧(type_of% @vw)∧(type_of% @jS)∧(type_of% @jW)∧(type_of% @xU)∧(type_of% @aP)∧(type_of% @dT)∧(type_of% @mp)∧(type_of% @pF)∧(type_of% @aC)∧(type_of% @aJ)∧(type_of% @gS)∧(type_of% @DK)∧(type_of% @qY)∧(type_of% @xM)∧(type_of% @py)∧(type_of% @jR)∧(type_of% @uH)∧(type_of% @Gf)∧(type_of% @zh)∧(type_of% @CK)∧(type_of% @FL)∧(type_of% @Gm)∧(type_of% @HI)∧(type_of% @Ii)∧(type_of% @Mk)∧(type_of% @Gc)∧(type_of% @I6)∧(type_of% @MA)∧(type_of% @Df)∧(type_of% @Ob)∧(type_of% @s_1)∧(type_of% @s_2)∧(type_of% @s_3)∧(type_of% @uU)∧(type_of% @wa)∧(type_of% @su)∧(type_of% @vd)∧(type_of% @tj)∧(type_of% @sm)∧(type_of% @uK)∧(type_of% @uE)∧(type_of% @ul)∧(type_of% @Dc)∧(type_of% @yM)∧(type_of% @DU)∧(type_of% @zA)∧(type_of% @zJ)∧(type_of% @DA)∧(type_of% @Do)∧(type_of% @CH)∧(type_of% @vE)∧(type_of% @Av)∧(type_of% @DO)∧(type_of% @CY)∧(type_of% @yN)∧(type_of% @vH)∧(type_of% @uZ)∧(type_of% @uV)∧(type_of% @tv)∧(type_of% @Iq)∧(type_of% @FJ)∧(type_of% @CO)∧(type_of% @DM)∧(type_of% @DQ)∧(type_of% @bm)∧(type_of% @Hf)∧(type_of% @GE)∧(type_of% @yj)∧(type_of% @O1)∧(type_of% @Gt)∧(type_of% @CV)∧(type_of% @Cv)∧(type_of% @DS)∧(type_of% @CJ)∧(type_of% @GB)∧(type_of% @Pi)∧(type_of% @q7)∧(type_of% @yG)∧(type_of% @Ix)∧(type_of% @FT)∧(type_of% @LV)∧(type_of% @Hl)∧(type_of% @Cn)∧(type_of% @L8)∧(type_of% @Dv)∧(type_of% @y8)∧(type_of% @IL)∧(type_of% @HY)∧(type_of% @MG)∧(type_of% @DB)∧(type_of% @HX)∧(type_of% @DC)∧(type_of% @zy)∧(type_of% @yw)∧(type_of% @oe)∧(type_of% @Iu)∧(type_of% @FM)∧(type_of% @bq)∧(type_of% @ct)∧(type_of% @gD)∧(type_of% @kb)∧(type_of% @fB)∧(type_of% @kD)∧(type_of% @hU)∧(type_of% @uG):=
 ⟨@Mq,@za,@G3,@Ij,@wS,@B8,@GL,@LM,@Md,@pK,@CT,@r_g,@HB,@GS,@OP,@FU,@DJ,@Jb,@Mz,@HW,@O6,@FK,@Mf,@LN,@LC,@Mi,@MM,@L5,@OY,@Me,@LU,@Ma,@Dp,@LD,@GR,@HQ,@Dz,@LH,@L9,@DL,@DY,@Dr,@If,@yP,@Dn,@yq,@CR,@Co,@vn,@kj,@oW,@LS,@LW,@Mo,@ID,@Il,@I4,@Gj,@IW,@Ir,@No,@C7,@Gg,@LY,@OD,@Oy,@ME,@Du,@LK,@yg,@Mh,@My,@LX,@MK,@lF,@ko,@MI,@Mw,@LZ,@ML,@LT,@LJ,@Ml,@Mr,@Mb,@MJ,@Od,@zi,@FR,@Hm,@HN,@II,@Ie,@uI,@Ds,@Mp,@Mc,@MB,@L1,@bC,@Ol,@fD,@LL,@N9,@L6,@OX,@yf,@Dk,@Cr,@De,@vw,@jS,@jW,@xU,@aP,@dT,@mp,@pF,@aC,@aJ,@gS,@DK,@qY,@xM,@py,@jR,@uH,@Gf,@zh,@CK,@FL,@Gm,@HI,@Ii,@Mk,@Gc,@I6,@MA,@Df,@Ob,@s_1,@s_2,@s_3,@uU,@wa,@su,@vd,@tj,@sm,@uK,@uE,@ul,@Dc,@yM,@DU,@zA,@zJ,@DA,@Do,@CH,@vE,@Av,@DO,@CY,@yN,@vH,@uZ,@uV,@tv,@Iq,@FJ,@CO,@DM,@DQ,@bm,@Hf,@GE,@yj,@O1,@Gt,@CV,@Cv,@DS,@CJ,@GB,@Pi,@q7,@yG,@Ix,@FT,@LV,@Hl,@Cn,@L8,@Dv,@y8,@IL,@HY,@MG,@DB,@HX,@DC,@zy,@yw,@oe,@Iu,@FM,@bq,@ct,@gD,@kb,@fB,@kD,@hU,@uG⟩
end
def SlA (e:TypeId) (v:AV) (es:List (List AV)):Prop:=(es=[]∧v= .nils)∨∃ id,v= .isl id e es
abbrev bh (l:List Int):List (List AV):=l.map fun x=>[.int .i64 x]
inductive XD where
 | mk (op k n:Int) (l:List XD)
def XD.op:XD→Int
 | .mk op _ _ _=>op
def XD.k:XD→Int
 | .mk _ k _ _=>k
def XD.n:XD→Int
 | .mk _ _ n _=>n
def XD.l:XD→List XD
 | .mk _ _ _ l=>l
theorem XD.lt_mem {x y:XD} (h:y∈x.l):SizeOf.sizeOf y<SizeOf.sizeOf x:=by
 cases x with
 | mk op k n l=>
   have:=List.sizeOf_lt_of_mem (show y∈l from h)
   simp only[XD.mk.sizeOf_spec]
   omega
mutual
def XD.size:XD→Nat
 | .mk _ _ _ l=>1+aK l
def aK:List XD→Nat
 | []=>0
 | x::l=>x.size+aK l
end
mutual
def XD.depth:XD→Nat
 | .mk _ _ _ l=>bd l
def bd:List XD→Nat
 | []=>0
 | x::l=>max (1+x.depth) (bd l)
end
theorem XD.size_eq (x:XD):x.size=1+aK x.l:=by cases x;simp[XD.size,XD.l]
theorem XD.depth_eq (x:XD):x.depth=bd x.l:=by cases x;simp[XD.depth,XD.l]
theorem ff:∀ (l l':List XD),aK (l++l')=aK l+aK l'
 | [],l'=>by simp[aK]
 | x::l,l'=>by simp[aK,ff l l',Nat.add_assoc]
theorem jh:∀ (l l':List XD),bd (l++l')=max (bd l) (bd l')
 | [],l'=>by simp[bd]
 | x::l,l'=>by simp[bd,jh l l',Nat.max_assoc]
theorem ri (x:XD):aK [x]=x.size:=by simp[aK]
theorem Ah (x:XD):bd [x]=1+x.depth:=by simp[bd]
theorem XD.size_pos (x:XD):1≤x.size:=by rw[x.size_eq];omega
theorem XD.len_size (x:XD):x.l.length<x.size:=by
 have:∀ l:List XD,l.length≤aK l:=by
  intro l
  induction l with
  | nil=>simp
  | cons y l ih=>
    have:=y.size_pos
    simp only[aK,List.length_cons]
    omega
 have:=this x.l
 rw[x.size_eq]
 omega
theorem XD.so_pos (x:XD):1≤SizeOf.sizeOf x:=by
 cases x
 simp only[XD.mk.sizeOf_spec]
 omega
theorem sP {n:Nat}:∀ {l:List XD},bd l≤n↔∀ y∈l,1+y.depth≤n
 | []=>by simp[bd]
 | x::l=>by
   have:=sP (n:=n) (l:=l)
   simp only[bd,List.mem_cons,forall_eq_or_imp,←this]
   omega
theorem Hq (x:XD) {left:Int} (h0:0≤left):(!(x.l.any fun y=> !decide ((y.depth:Int)≤left - 1)))=decide ((x.depth:Int)≤left):=by
 obtain⟨n,rfl⟩:∃ n:Nat,left=n:=⟨left.toNat,by omega⟩
 have h:=sP (n:=n) (l:=x.l)
 rw[←x.depth_eq]at h
 by_cases hx:x.depth≤n
 ·have h1:((x.depth:Nat):Int)≤(n:Int):=by omega
  have h2:(x.l.any fun y=> !decide ((y.depth:Int)≤(n:Int) - 1))=false:=by
   rw[List.any_eq_false]
   intro y hy
   have:=h.1 hx y hy
   have h3:(y.depth:Int)≤(n:Int) - 1:=by omega
   simp[h3]
  rw[h2]
  simp[h1]
 ·have h1:¬ ((x.depth:Nat):Int)≤(n:Int):=by omega
  have h2:(x.l.any fun y=> !decide ((y.depth:Int)≤(n:Int) - 1))=true:=by
   cases hb:(x.l.any fun y=> !decide ((y.depth:Int)≤(n:Int) - 1))
   ·exfalso
    apply hx
    apply h.2
    intro y hy
    have:=(List.any_eq_false.1 hb) y hy
    simp at this
    omega
   ·rfl
  rw[h2]
  simp[h1]
def aW (op:Int):Int:=
 if op=1∨op=2∨op=3∨op=4∨op=21 then 0
 else if op=9∨op=10∨op=11∨op=12∨op=13∨op=15∨op=16∨op=17∨op=18∨op=20 then 1
 else if op=5∨op=6∨op=8∨op=14∨op=19 then 2
 else if op=7 then 3 else -1
def jn (nf op k n o:Int):Int:=
 if n≠0∧op≠2 then 5
 else if op=4 then(if k<0∨o≤k then 1 else 0)
 else if op=6 then(if k<1∨5<k then 1 else 0)
 else if op=15 then(if k<0∨15<k then 1 else 0)
 else if op=18 then(if k<0∨nf≤k then 1 else 0)
 else if k≠0 then 5 else 0
def eQ (nf op k n:Int) (len:Nat) (o:Int):Int:=
 if aW op<0 then 2 else if(len:Int)≠aW op then 5
 else if jn nf op k n o≠0 then jn nf op k n o
 else if op=5∧o=12 then 3 else 0
mutual
def XD.fault (nf:Int):XD→Int→Int
 | .mk op k n l,o=>if eQ nf op k n l.length o≠0 then eQ nf op k n l.length o else dR nf op 0 l o
def dR (nf op:Int):Nat→List XD→Int→Int
 | _,[],_=>0
 | i,x::l,o=>if x.fault nf (if op=5∧i=1 then o+1 else o)≠0 then x.fault nf (if op=5∧i=1 then o+1 else o)else dR nf op (i+1) l o
end
def fP (nf:Int) (x:XD):Int:=if 30<x.depth then 4 else if 120<x.size then 3 else x.fault nf 0
def fY (nf:Int):Nat→List XD→Int×Int
 | _,[]=>(0,0)
 | i,x::l=>if fP nf x≠0 then(fP nf x,i)else fY nf (i+1) l
def bc (l:List XD):Int×Int:=if l.length=0∨6<l.length then(3, -1)else fY l.length 0 l
def fU (l:List XD):Bool:=decide (20<l.length) || l.any fun x=>decide (600<x.size)
abbrev tE:TypeId:=109
mutual
def ExA:XD→List AV→Prop
 | .mk op k n l,r=>∃ v es,r=[.int .i64 op,.int .i64 k,.int .i64 n,v]∧SlA tE v es∧ExL l es
def ExL:List XD→List (List AV)→Prop
 | [],es=>es=[]
 | x::l,es=>∃ r rs,es=r::rs∧ExA x r∧ExL l rs
end
structure aR where
 op:Int
 k:Int
 n:Int
def gU:List (Nat→List aR)→Nat→List aR
 | [],_=>[]
 | f::fs,p=>f p++gU fs (p+(f p).length)
def NR (f0 f1:Nat→List aR) (p:Nat):List aR:=⟨100,0,0⟩::(f0 (p+1)++⟨101,0,0⟩::(f1 (p+1+(f0 (p+1)).length+1)++[⟨102,0,0⟩]))
def g8 (f0 f1:Nat→List aR) (p:Nat):Nat:=p+1+(f0 (p+1)).length+1+(f1 (p+1+(f0 (p+1)).length+1)).length+1
def ifC (f0 f1 f2:Nat→List aR) (p:Nat):List aR:=
 ⟨100,0,0⟩::(f0 (p+1)++⟨103,(g8 f0 f1 p:Nat),0⟩::(f1 (p+1+(f0 (p+1)).length+1)++⟨104,((g8 f0 f1 p+(f2 (g8 f0 f1 p)).length:Nat):Int),0⟩::f2 (g8 f0 f1 p)))
def tQ (op k n:Int) (fs:List (Nat→List aR)) (p:Nat):List aR:=
 if op=5 then(match fs with | [f0,f1]=>NR f0 f1 p | _=>[])
 else if op=7 then(match fs with | [f0,f1,f2]=>ifC f0 f1 f2 p | _=>[])
 else⟨100,0,0⟩::(gU fs (p+1)++[⟨op,k,n⟩])
mutual
def az:XD→Nat→List aR
 | .mk op k n l=>tQ op k n (si l)
def si:List XD→List (Nat→List aR)
 | []=>[]
 | x::l=>az x::si l
end
theorem HM (x:XD):az x=tQ x.op x.k x.n (si x.l):=by cases x;simp only[az,XD.op,XD.k,XD.n,XD.l]
open Classical in
theorem sC:∀ l:List XD,si l=l.map az
 | []=>rfl
 | x::l=>by simp only[si,List.map_cons,sC l]
theorem iO (x:XD):az x=tQ x.op x.k x.n (x.l.map az):=by rw[HM,sC]
theorem rA:∀ (l:List XD) (p:Nat),(∀ y∈l,∀ p,(az y p).length≤3*y.size)→(gU (l.map az) p).length≤3*aK l
 | [],p,_=>by simp[gU]
 | x::l,p,h=>by
   have h1:=h x (by simp) p
   have h2:=rA l (p+(az x p).length) fun y hy=>h y (by simp[hy])
   simp only[List.map_cons,gU,List.length_append,aK]
   omega
theorem eK:∀ (N:Nat) (x:XD),SizeOf.sizeOf x≤N→∀ p:Nat,(az x p).length≤3*x.size:=by
 intro N
 induction N with
 | zero=>intro x hx;have:=x.so_pos;omega
 | succ N ih=>
   intro x hx p
   have hc:∀ y∈x.l,∀ p,(az y p).length≤3*y.size:=fun y hy=>ih y (by have:=XD.lt_mem hy;omega)
   have hs:=x.size_eq
   rw[iO]
   generalize x.l=l at hc hs
   unfold tQ
   split
   ·match l,hc,hs with
    | [],_,_=>simp
    | [a],_,_=>simp
    | [a,b],hc,hs=>
      have h1:=hc a (by simp) (p+1)
      have h2:=hc b (by simp) (p+1+(az a (p+1)).length+1)
      simp only[aK]at hs
      simp only[List.map_cons,List.map_nil,NR,List.length_cons,List.length_append,List.length_nil]
      have:=a.size_pos
      omega
    | a::b::c::l,_,_=>simp
   ·split
    ·match l,hc,hs with
     | [],_,_=>simp
     | [a],_,_=>simp
     | [a,b],_,_=>simp
     | [a,b,c],hc,hs=>
       have h1:=hc a (by simp) (p+1)
       have h2:=hc b (by simp) (p+1+(az a (p+1)).length+1)
       have h3:=hc c (by simp) (g8 (az a) (az b) p)
       simp only[aK]at hs
       simp only[List.map_cons,List.map_nil,ifC,List.length_cons,List.length_append]
       omega
     | a::b::c::d::l,_,_=>simp
    ·have:=rA l (p+1) hc
     simp only[List.length_cons,List.length_append,List.length_nil]
     omega
theorem lC {nf o:Int} {x:XD} (h:x.fault nf o=0):0≤aW x.op∧(x.l.length:Int)=aW x.op∧jn nf x.op x.k x.n o=0∧¬ (x.op=5∧o=12)∧dR nf x.op 0 x.l o=0:=by
 cases x with
 | mk op k n l=>
   simp only[XD.fault]at h
   split at h
   ·rename_i h1;exact absurd h h1
   ·rename_i h1
    have h1:eQ nf op k n l.length o=0:=by simpa using h1
    unfold eQ at h1
    split at h1
    ·cases h1
    ·split at h1
     ·cases h1
     ·split at h1
      ·rename_i h2;exact absurd h1 h2
      ·split at h1
       ·cases h1
       ·rename_i a b c d
        simp only[XD.op,XD.k,XD.n,XD.l]
        exact⟨by omega,by simpa using b,by simpa using c,d,h⟩
theorem gQ {nf op o:Int} {i:Nat} {x:XD} {l:List XD} (h:dR nf op i (x::l) o=0):x.fault nf (if op=5∧i=1 then o+1 else o)=0∧dR nf op (i+1) l o=0:=by
 simp only[dR]at h
 generalize x.fault nf (if op=5∧i=1 then o+1 else o)=c at h
 by_cases hc:c=0
 ·exact⟨hc,by simpa[hc]using h⟩
 ·simp[hc]at h
theorem kg {nf op o:Int} (hop:op≠5):∀ {l:List XD} {i:Nat},dR nf op i l o=0→∀ y∈l,y.fault nf o=0
 | [],_,_,y,hy=>by simp at hy
 | x::l,i,h,y,hy=>by
   obtain⟨h1,h2⟩:=gQ h
   rw[if_neg (fun h=>hop h.1)]at h1
   rcases List.mem_cons.1 hy with rfl | hy
   ·exact h1
   ·exact kg hop h2 y hy
inductive VD where
 | mk (kind n:Int) (l:List VD)
def VD.kind:VD→Int
 | .mk k _ _=>k
def VD.n:VD→Int
 | .mk _ n _=>n
def VD.l:VD→List VD
 | .mk _ _ l=>l
theorem VD.eta (x:VD):x= .mk x.kind x.n x.l:=by cases x;rfl
theorem VD.lt_mem {x y:VD} (h:y∈x.l):SizeOf.sizeOf y<SizeOf.sizeOf x:=by
 cases x with
 | mk kind n l=>
   have:=List.sizeOf_lt_of_mem (show y∈l from h)
   simp only[VD.mk.sizeOf_spec]
   omega
theorem VD.so_pos (x:VD):1≤SizeOf.sizeOf x:=by
 cases x
 simp only[VD.mk.sizeOf_spec]
 omega
mutual
def VD.size:VD→Nat
 | .mk _ _ l=>1+bD l
def bD:List VD→Nat
 | []=>0
 | x::l=>x.size+bD l
end
theorem VD.size_eq (x:VD):x.size=1+bD x.l:=by cases x;simp[VD.size,VD.l]
theorem gJ:∀ (l l':List VD),bD (l++l')=bD l+bD l'
 | [],l'=>by simp[bD]
 | x::l,l'=>by simp[bD,gJ l l',Nat.add_assoc]
theorem AY (x:VD):bD [x]=x.size:=by simp[bD]
theorem VD.size_pos (x:VD):1≤x.size:=by rw[x.size_eq];omega
theorem mL:∀ l:List VD,l.length≤bD l
 | []=>by simp
 | y::l=>by
   have:=y.size_pos
   have:=mL l
   simp only[bD,List.length_cons]
   omega
theorem VD.len_size (x:VD):x.l.length<x.size:=by
 have:=mL x.l
 rw[x.size_eq]
 omega
theorem VD.size_mem {x y:VD} (h:y∈x.l):y.size<x.size:=by
 have:∀ l:List VD,y∈l→y.size≤bD l:=by
  intro l
  induction l with
  | nil=>intro hm;simp at hm
  | cons z l ih=>
    intro hm
    simp only[bD]
    rcases List.mem_cons.1 hm with rfl | hm
    ·omega
    ·have:=ih hm;omega
 have:=this x.l h
 rw[x.size_eq]
 omega
def iW (kind:Int):Nat:=if kind=2 then 2 else if kind=3 then 1 else 0
def dK (kind n:Int) (len:Nat):Int:=
 if kind<0∨5<kind then 2 else if len≠iW kind then 5 else if(kind=0∨kind=2)∧n≠0 then 5 else if 3≤kind∧n<0 then 1 else 0
mutual
def VD.fault:VD→Int
 | .mk kind n l=>if dK kind n l.length≠0 then dK kind n l.length else dt l
def dt:List VD→Int
 | []=>0
 | x::l=>if x.fault≠0 then x.fault else dt l
end
def VD.code (x:VD):Int:=if 40<x.size then 3 else x.fault
theorem VD.fault_eq (x:VD):x.fault=if dK x.kind x.n x.l.length≠0 then dK x.kind x.n x.l.length else dt x.l:=by
 cases x
 rfl
theorem gd (x:VD) (l:List VD):dt (x::l)=if x.fault≠0 then x.fault else dt l:=rfl
mutual
def k9:VD→VD→Bool
 | .mk k n l,.mk k' n' l'=>decide (k=k') && (decide (n=n') && eY l l')
def eY:List VD→List VD→Bool
 | [],[]=>true
 | x::l,y::l'=>k9 x y && eY l l'
 | _,_=>false
end
mutual
theorem ru:∀ x:VD,k9 x x=true
 | .mk kind n l=>by simp[k9,pR l]
theorem pR:∀ l:List VD,eY l l=true
 | []=>rfl
 | x::l=>by simp[eY,ru x,pR l]
end
mutual
theorem Fe:∀ {x y:VD},k9 x y=true→x=y
 | .mk k n l,.mk k' n' l',h=>by
   simp only[k9,Bool.and_eq_true,decide_eq_true_eq]at h
   obtain⟨rfl,rfl,h⟩:=h
   rw[nh h]
theorem nh:∀ {l l':List VD},eY l l'=true→l=l'
 | [],[],_=>rfl
 | x::l,y::l',h=>by
   simp only[eY,Bool.and_eq_true]at h
   rw[Fe h.1,nh h.2]
 | [],_::_,h=>by simp[eY]at h
 | _::_,[],h=>by simp[eY]at h
end
theorem En {l l':List VD} (h:decide ((l.length:Int)=(l'.length:Int))=false):eY l l'=false:=by
 cases hs:eY l l'
 ·rfl
 ·rw[nh hs]at h
  simp at h
theorem H9 (x y:VD):k9 x y=(decide (x.kind=y.kind) && (decide (x.n=y.n) && eY x.l y.l)):=by
 cases x;cases y
 rfl
mutual
def VD.caps:VD→List Int
 | .mk kind n l=>(if kind=4 then[n]else[])++cr l
def cr:List VD→List Int
 | []=>[]
 | x::l=>x.caps++cr l
end
theorem VD.caps_eq (x:VD):x.caps=(if x.kind=4 then[x.n]else[])++cr x.l:=by
 cases x
 rfl
theorem jE:∀ (l l':List VD),cr (l++l')=cr l++cr l'
 | [],l'=>by simp[cr]
 | x::l,l'=>by simp[cr,jE l l',List.append_assoc]
mutual
theorem VD.caps_few:∀ x:VD,x.caps.length≤x.size
 | .mk kind n l=>by
   have:=kM l
   simp only[VD.caps,VD.size,List.length_append]
   split<;>simp<;>omega
theorem kM:∀ l:List VD,(cr l).length≤bD l
 | []=>by simp[cr]
 | x::l=>by
   have:=VD.caps_few x
   have:=kM l
   simp only[cr,bD,List.length_append]
   omega
end
mutual
def VD.gate:VD→Bool
 | .mk kind _ l=>decide (kind=5) || ma l
def ma:List VD→Bool
 | []=>false
 | x::l=>x.gate || ma l
end
theorem VD.gate_eq (x:VD):x.gate=(decide (x.kind=5) || ma x.l):=by
 cases x
 rfl
theorem pU:∀ l:List VD,ma l=l.any VD.gate
 | []=>rfl
 | x::l=>by simp only[ma,List.any_cons,pU l]
abbrev tV:TypeId:=35
mutual
def VaA:VD→List AV→Prop
 | .mk kind n l,r=>∃ v es,r=[.int .i64 kind,.int .i64 n,v]∧SlA tV v es∧VaL l es
def VaL:List VD→List (List AV)→Prop
 | [],es=>es=[]
 | x::l,es=>∃ r rs,es=r::rs∧VaA x r∧VaL l rs
end
open Go.RowKit
theorem Bd (x:BitVec 64):IntKind.i64.wrap (x.toNat:Int)=x.toInt:=by
 have h:=x.isLt
 rw[BitVec.toInt_eq_toNat_cond,IntKind.wrap_i64]
 split<;>omega
theorem tO (a b:Int):bits .and .i64 a b=(BitVec.ofInt 64 a &&& BitVec.ofInt 64 b).toInt:=Bd _
theorem nZ (x:BitVec 64):BitVec.ofInt 64 x.toInt=x:=BitVec.ofInt_toInt
def fJ (a b:Int):Int:=bits .and .i64 a b
def BN (a b:Int):Bool:=fJ a b==b
theorem Ee (x y:BitVec 64):fJ x.toInt y.toInt=(x &&& y).toInt:=by
 unfold fJ
 rw[tO,nZ,nZ]
theorem xR (x y:BitVec 64):BN x.toInt y.toInt=decide (x &&& y=y):=by
 unfold BN
 rw[Ee,Bool.eq_iff_iff,beq_iff_eq,BitVec.toInt_inj,decide_eq_true_eq]
def fx (a:Int):Bool:=decide (0≤a∧a≤15)
def d9 (a:Int) (i:Nat):Bool:=bits .and .i64 (a / 2 ^ i) 1==1
open Go.RowKit
structure aY where
 (parent gate rights cell plugin func:Int)
def bQ:aY:=⟨0,0,0,0,0,0⟩
structure ae where
 nodes:List aY
 shut:List Bool
def ae.has (G:ae) (n:Int):Bool:=decide (0≤n∧n<G.nodes.length)
def ae.hasGate (G:ae) (k:Int):Bool:=decide (0≤k∧k<G.shut.length)
def ae.isOpen (G:ae) (k:Int):Bool:=G.hasGate k && !(G.shut.getD k.toNat false)
def ae.gate (G:ae):ae×Int×Int:=if G.shut.length=20 then(G,0,11)else(⟨G.nodes,G.shut++[false]⟩,G.shut.length,0)
def ae.cut (G:ae) (k:Int):ae×Int:=if G.hasGate k then(⟨G.nodes,G.shut.set k.toNat true⟩,0)else(G,8)
def ae.add (G:ae) (n:aY):ae×Int×Int:=
 if fx n.rights=false then(G,0,1)
 else if n.gate≠ -1∧G.hasGate n.gate=false then(G,0,8)
 else if G.nodes.length=80 then(G,0,11)
 else(⟨G.nodes++[n],G.shut⟩,G.nodes.length,0)
def ge (c:Int):Bool:=decide (0≤c∧c<12)
def mV (p f:Int):Bool:=decide (0≤p∧p<4∧0≤f∧f<6)
def ae.cellC (G:ae) (c r g:Int):ae×Int×Int:=if ge c then G.add ⟨-1,g,r,c, -1,0⟩else(G,0,1)
def ae.funcC (G:ae) (p f r g:Int):ae×Int×Int:=if mV p f then G.add ⟨-1,g,r,0,p,f⟩else(G,0,1)
def ae.derive (G:ae) (p r g:Int):ae×Int×Int:=if G.has p then G.add ⟨p,g,r,0, -1,0⟩else(G,0,8)
structure OkN (s:Nat) (i:Nat) (n:aY):Prop where
 p0: -1≤n.parent
 p1:n.parent<i
 r:fx n.rights=true
 g:n.gate= -1∨0≤n.gate∧n.gate<s
 t:n.parent= -1→n.plugin= -1∧0≤n.cell∧n.cell<12∧n.func=0∨0≤n.plugin∧n.plugin<4∧0≤n.func∧n.func<6∧n.cell=0
structure ae.Wf (G:ae):Prop where
 few:G.nodes.length≤80
 gates:G.shut.length≤20
 node:∀ (i:Nat) (n:aY),G.nodes[i]? =some n→OkN G.shut.length i n
theorem OkN.more {s s' i:Nat} {n:aY} (h:OkN s i n) (hs:s≤s'):OkN s' i n:=
 ⟨h.p0,h.p1,h.r,h.g.imp id (fun⟨a,b⟩=>⟨a,by omega⟩),h.t⟩
theorem GW:ae.Wf ⟨[],[]⟩:=⟨by simp,by simp,fun i n h=>by simp at h⟩
theorem ae.Wf.gate {G:ae} (h:G.Wf):G.gate.1.Wf:=by
 unfold ae.gate
 split
 ·exact h
 ·have:=h.gates
  exact⟨h.few,by simp;omega,fun i n hn=>(h.node i n hn).more (by simp)⟩
theorem ae.Wf.cut {G:ae} (h:G.Wf) (k:Int):(G.cut k).1.Wf:=by
 unfold ae.cut
 split
 ·exact⟨h.few,by simpa using h.gates,fun i n hn=>by simpa using h.node i n hn⟩
 ·exact h
theorem ae.Wf.add {G:ae} (h:G.Wf) {n:aY} (h0: -1≤n.parent) (h1:n.parent<G.nodes.length)
  (ht:n.parent= -1→n.plugin= -1∧0≤n.cell∧n.cell<12∧n.func=0∨0≤n.plugin∧n.plugin<4∧0≤n.func∧n.func<6∧n.cell=0):(G.add n).1.Wf:=by
 unfold ae.add
 split
 ·exact h
 ·rename_i hr
  split
  ·exact h
  ·rename_i hg
   split
   ·exact h
   ·have:=h.few
    refine⟨by simp;omega,h.gates,fun i m hm=> ?_⟩
    show OkN G.shut.length i m
    simp only at hm
    by_cases hi:i<G.nodes.length
    ·rw[List.getElem?_append_left hi]at hm
     exact h.node i m hm
    ·rw[List.getElem?_append_right (by omega)]at hm
     have hi0:i - G.nodes.length=0:=by
      have:=(List.getElem?_eq_some_iff.1 hm).1
      simpa using this
     rw[hi0]at hm
     simp at hm
     subst hm
     refine⟨h0,by omega,by simpa using hr,?_,ht⟩
     by_cases e:n.gate= -1
     ·exact .inl e
     ·right
      have hgt:G.hasGate n.gate=true:=by
       cases hh:G.hasGate n.gate
       ·exact absurd ⟨e,hh⟩ hg
       ·rfl
      simpa[ae.hasGate]using hgt
theorem ae.Wf.cellC {G:ae} (h:G.Wf) (c r g:Int):(G.cellC c r g).1.Wf:=by
 unfold ae.cellC
 split
 ·rename_i hc
  simp[ge]at hc
  exact h.add (by simp) (by simp;omega) (fun _=> .inl ⟨rfl,hc.1,hc.2,rfl⟩)
 ·exact h
theorem ae.Wf.funcC {G:ae} (h:G.Wf) (p f r g:Int):(G.funcC p f r g).1.Wf:=by
 unfold ae.funcC
 split
 ·rename_i hc
  simp[mV]at hc
  exact h.add (by simp) (by simp;omega) (fun _=> .inr ⟨hc.1,hc.2.1,hc.2.2.1,hc.2.2.2,rfl⟩)
 ·exact h
theorem ae.Wf.derive {G:ae} (h:G.Wf) (p r g:Int):(G.derive p r g).1.Wf:=by
 unfold ae.derive
 split
 ·rename_i hc
  simp[ae.has]at hc
  exact h.add (by simp;omega) (by simp;omega) (fun e=>by simp at e;omega)
 ·exact h
def ae.pathF (G:ae):Nat→Int→List aY
 | 0,_=>[]
 | f+1,i=>if G.has i then(G.nodes.getD i.toNat bQ)::G.pathF f (G.nodes.getD i.toNat bQ).parent else[]
def ae.path (G:ae) (i:Int):List aY:=G.pathF (i.toNat+1) i
theorem ae.Wf.get {G:ae} (h:G.Wf) {i:Int} (hi:G.has i=true):OkN G.shut.length i.toNat (G.nodes.getD i.toNat bQ):=by
 simp[ae.has]at hi
 have hl:i.toNat<G.nodes.length:=by omega
 have e:G.nodes[i.toNat]? =some (G.nodes.getD i.toNat bQ):=by simp[List.getD,hl]
 exact h.node _ _ e
theorem ae.pathF_more {G:ae} (h:G.Wf):∀ (f:Nat) (i:Int),i.toNat<f→G.pathF f i=G.path i:=by
 intro f
 induction f using Nat.strongRecOn with
 | _ f ih=>
   intro i hi
   cases f with
   | zero=>omega
   | succ f=>
     unfold ae.path
     by_cases hh:G.has i=true
     ·have ok:=h.get hh
      have hp:=ok.p0
      have hp1:=ok.p1
      have hi0:0≤i:=by simp[ae.has]at hh;exact hh.1
      unfold ae.pathF
      rw[if_pos hh,if_pos hh]
      congr 1
      generalize (G.nodes.getD i.toNat bQ).parent=p at*
      by_cases hpn:p<0
      ·have hno:G.has p=false:=by simp[ae.has];omega
       cases f with
       | zero=>cases hn:i.toNat<;>simp[ae.pathF,hno]
       | succ f=>cases hn:i.toNat<;>simp[ae.pathF,hno]
      ·have e1:=ih f (by omega) p (by omega)
       rw[e1]
       rcases Nat.lt_or_ge i.toNat (f+1)with h2 | h2
       ·have e2:=ih i.toNat (by omega) p (by omega)
        rw[e2]
       ·omega
     ·cases f<;>simp[ae.pathF,hh]
theorem ae.path_yes {G:ae} (h:G.Wf) {i:Int} (hi:G.has i=true):G.path i=(G.nodes.getD i.toNat bQ)::G.path (G.nodes.getD i.toNat bQ).parent:=by
 have ok:=h.get hi
 have hp1:=ok.p1
 have hp0:=ok.p0
 have hi0:0≤i:=by simp[ae.has]at hi;exact hi.1
 rw[ae.path,ae.pathF,if_pos hi]
 congr 1
 generalize (G.nodes.getD i.toNat bQ).parent=p at*
 by_cases hpn:p<0
 ·have hno:G.has p=false:=by simp[ae.has];omega
  unfold ae.path
  cases i.toNat<;>simp[ae.pathF,hno]
 ·exact ae.pathF_more h _ _ (by omega)
theorem ae.path_no {G:ae} {i:Int} (hi:G.has i=false):G.path i=[]:=by
 rw[ae.path,ae.pathF,hi]
 rfl
def eG (G:ae) (n:aY):Bool:=decide (0≤n.gate) && !G.isOpen n.gate
def ae.rights (G:ae) (i:Int):Int:=if G.path i=[]∨(G.path i).any (eG G)then 0 else(G.path i).foldl (fun r n=>fJ r n.rights) 15
def ae.target (G:ae) (i:Int):aY×Bool:=((G.path i).getLastD bQ,!(G.path i).isEmpty)
def et (l:List aY):List Int:=(l.filter fun n=>decide (0≤n.gate)).map (·.gate)
def ae.gatesC (G:ae) (i:Int):List Int:=et (G.path i)
def aL (n:aY):List AV:=[.int .i64 n.parent,.int .i64 n.gate,.int .i64 n.rights,.int .i64 n.cell,.int .i64 n.plugin,.int .i64 n.func]
abbrev tN:TypeId:=132
abbrev tB:TypeId:=4
def nS (h:AH) (J:Nat→Prop) (e:TypeId) (v:AV) (rows:List (List AV)):Prop:=(rows=[]∧v= .nils)∨∃ id,J id∧rows≠[]∧id<h.ids∧h.hw id=rows.length∧v= .isl (some id) e rows
def oV (h:AH) (F:Nat→Prop) (b:Nat) (e:TypeId) (v:AV) (rows:List (List AV)):Prop:=(rows=[]∧v= .nils)∨∃ q,F q∧q≠b∧q<h.n∧h.cell q=some rows∧v= .msl q 0 rows.length e
structure IsG (h:AH) (F J:Nat→Prop) (b:Nat) (G:ae):Prop where
 hb:F b∧b<h.n
 lt:(∀ k,F k→k<h.n)∧∀ j,J j→j<h.ids
 ex:∃ nv sv,h.cell b=some [[nv,sv]]∧nS h J tN nv (G.nodes.map aL)∧oV h F b tB sv (G.shut.map fun x=>[.bool x])
structure Chg (F J:Nat→Prop) (h h':AH):Prop where
 n:h.n≤h'.n
 ids:h.ids≤h'.ids
 cell:∀ k,k<h.n→¬ F k→h'.cell k=h.cell k
 hw:∀ j,j<h.ids→¬ J j→h'.hw j=h.hw j
def de (h:AH) (F J:Nat→Prop) (b:Nat) (h':AH) (G':ae):Prop:=
 ∃ F' J',IsG h' F' J' b G'∧Chg F J h h'∧(∀ k,F' k→F k∨h.n≤k)∧(∀ j,J' j→J j∨h.ids≤j)
def dm:List Int→ae→Int→ae×Int×Int
 | [],G,n=>(G,n,0)
 | k::l,G,n=>if(G.derive n 15 k).2.2≠0 then((G.derive n 15 k).1,0,(G.derive n 15 k).2.2)else dm l (G.derive n 15 k).1 (G.derive n 15 k).2.1
def au:VD:= .mk 0 0 []
def bY (ks:List Int) (G:ae) (kind n:Int):ae×Int×Int:=if kind=4 then dm ks G n else(G,n,0)
mutual
def da (ks:List Int):VD→ae→ae×VD×Int
 | .mk kind n l,G=>
   if(bY ks G kind n).2.2≠0 then((bY ks G kind n).1,au,(bY ks G kind n).2.2)
   else if(bu ks l (bY ks G kind n).1).2.2≠0 then((bu ks l (bY ks G kind n).1).1,au,(bu ks l (bY ks G kind n).1).2.2)
   else((bu ks l (bY ks G kind n).1).1,.mk kind (bY ks G kind n).2.1 (bu ks l (bY ks G kind n).1).2.1,0)
def bu (ks:List Int):List VD→ae→ae×List VD×Int
 | [],G=>(G,[],0)
 | x::l,G=>
   if(da ks x G).2.2≠0 then((da ks x G).1,[],(da ks x G).2.2)
   else((bu ks l (da ks x G).1).1,(da ks x G).2.1::(bu ks l (da ks x G).1).2.1,(bu ks l (da ks x G).1).2.2)
end
theorem CA (ks:List Int) (x:VD) (G:ae):da ks x G=
  if(bY ks G x.kind x.n).2.2≠0 then((bY ks G x.kind x.n).1,au,(bY ks G x.kind x.n).2.2)
  else if(bu ks x.l (bY ks G x.kind x.n).1).2.2≠0 then((bu ks x.l (bY ks G x.kind x.n).1).1,au,(bu ks x.l (bY ks G x.kind x.n).1).2.2)
  else((bu ks x.l (bY ks G x.kind x.n).1).1,.mk x.kind (bY ks G x.kind x.n).2.1 (bu ks x.l (bY ks G x.kind x.n).1).2.1,0):=by
 cases x
 rfl
def tP (G:ae) (x:VD):Int:=
 if x.code≠0 then x.code else if x.gate then 9 else if x.caps.any fun n=> !d9 (G.rights n) 2 then 9 else 0
def aV (ks:List Int) (G:ae) (x:VD):ae×VD×Int:=if tP G x≠0 then(G,au,tP G x)else da ks x G
theorem DF (ks:List Int):∀ (G:ae) (n:Int),G.Wf→(dm ks G n).1.Wf:=by
 induction ks with
 | nil=>intro G n h;exact h
 | cons k l ih=>
   intro G n h
   simp only[dm]
   split
   ·exact h.derive _ _ _
   ·exact ih _ _ (h.derive _ _ _)
theorem sI {ks:List Int} {G:ae} {kind n:Int} (h:G.Wf):(bY ks G kind n).1.Wf:=by
 unfold bY
 split
 ·exact DF ks G n h
 ·exact h
mutual
theorem qu (ks:List Int):∀ (x:VD) (G:ae),G.Wf→(da ks x G).1.Wf
 | .mk kind n l,G,h=>by
   simp only[da]
   split
   ·exact sI h
   ·split
    ·exact qK ks l _ (sI h)
    ·exact qK ks l _ (sI h)
theorem qK (ks:List Int):∀ (l:List VD) (G:ae),G.Wf→(bu ks l G).1.Wf
 | [],G,h=>h
 | x::l,G,h=>by
   simp only[bu]
   split
   ·exact qu ks x G h
   ·exact qK ks l _ (qu ks x G h)
end
theorem tw {ks:List Int} {G:ae} {x:VD} (h:G.Wf):(aV ks G x).1.Wf:=by
 unfold aV
 split
 ·exact h
 ·exact qu ks x G h
theorem Chg.refl (F J:Nat→Prop) (h:AH):Chg F J h h:=⟨Nat.le_refl _,Nat.le_refl _,fun _ _ _=>rfl,fun _ _ _=>rfl⟩
theorem af.chg {h h':AH} (g:af h h') (F J:Nat→Prop):Chg F J h h':=⟨g.n,g.ids,fun k hk _=>g.cell k hk,fun j hj _=>g.hw j hj⟩
theorem Chg.trans {F J:Nat→Prop} {a b c:AH} (x:Chg F J a b) (y:Chg F J b c):Chg F J a c:=
 ⟨Nat.le_trans x.n y.n,Nat.le_trans x.ids y.ids,fun k hk hF=>(y.cell k (Nat.lt_of_lt_of_le hk x.n) hF).trans (x.cell k hk hF),fun j hj hJ=>(y.hw j (Nat.lt_of_lt_of_le hj x.ids) hJ).trans (x.hw j hj hJ)⟩
theorem Chg.then {F J F' J':Nat→Prop} {a b c:AH} (x:Chg F J a b) (y:Chg F' J' b c) (hF:∀ k,F' k→F k∨a.n≤k) (hJ:∀ j,J' j→J j∨a.ids≤j):Chg F J a c:=
 ⟨Nat.le_trans x.n y.n,Nat.le_trans x.ids y.ids,
  fun k hk h1=>(y.cell k (Nat.lt_of_lt_of_le hk x.n) fun h2=>by rcases hF k h2 with h | h;exact h1 h;omega).trans (x.cell k hk h1),
  fun j hj h1=>(y.hw j (Nat.lt_of_lt_of_le hj x.ids) fun h2=>by rcases hJ j h2 with h | h;exact h1 h;omega).trans (x.hw j hj h1)⟩
theorem IsG.keep {h h':AH} {F J F2 J2:Nat→Prop} {b:Nat} {G:ae} (g:IsG h F J b G) (c:Chg F2 J2 h h') (hF:∀ k,F k→¬ F2 k) (hJ:∀ j,J j→¬ J2 j):IsG h' F J b G:=by
 obtain⟨nv,sv,h1,h2,h3⟩:=g.ex
 refine⟨⟨g.hb.1,Nat.lt_of_lt_of_le g.hb.2 c.n⟩,⟨fun k hk=>Nat.lt_of_lt_of_le (g.lt.1 k hk) c.n,fun j hj=>Nat.lt_of_lt_of_le (g.lt.2 j hj) c.ids⟩,nv,sv,(c.cell b g.hb.2 (hF b g.hb.1)).trans h1,?_,?_⟩
 ·rcases h2 with h2 | ⟨id,a1,a0,a2,a3,a4⟩
  ·exact .inl h2
  ·exact .inr ⟨id,a1,a0,Nat.lt_of_lt_of_le a2 c.ids,(c.hw id a2 (hJ id a1)).trans a3,a4⟩
 ·rcases h3 with h3 | ⟨q,a1,a2,a3,a4,a5⟩
  ·exact .inl h3
  ·exact .inr ⟨q,a1,a2,Nat.lt_of_lt_of_le a3 c.n,(c.cell q a3 (hF q a1)).trans a4,a5⟩
structure Asn where
 A:AH→(Nat→Prop)→(Nat→Prop)→Prop
 lt:∀ {h:AH} {F J:Nat→Prop},A h F J→(∀ k,F k→k<h.n)∧∀ j,J j→j<h.ids
 keep:∀ {h h':AH} {F J X Y:Nat→Prop},A h F J→Chg X Y h h'→(∀ k,F k→¬ X k)→(∀ j,J j→¬ Y j)→A h' F J
def wk (p:Prop):Asn where
 A _ F J:=p∧(∀ k,¬ F k)∧∀ j,¬ J j
 lt:=fun⟨_,a,b⟩=>⟨fun k hk=>absurd hk (a k),fun j hj=>absurd hj (b j)⟩
 keep:=fun h _ _ _=>h
def ai (b:Nat) (es:List (List AV)):Asn where
 A h F J:=(∀ k,F k↔k=b)∧(∀ j,¬ J j)∧b<h.n∧h.cell b=some es
 lt:=fun⟨a,b,c,_⟩=>⟨fun k hk=>by rw[(a k).1 hk];exact c,fun j hj=>absurd hj (b j)⟩
 keep:=fun⟨a,b,c,d⟩ x hF _=>⟨a,b,Nat.lt_of_lt_of_le c x.n,(x.cell _ c (hF _ ((a _).2 rfl))).trans d⟩
def idA (id n:Nat):Asn where
 A h F J:=(∀ k,¬ F k)∧(∀ j,J j↔j=id)∧id<h.ids∧h.hw id=n
 lt:=fun⟨a,b,c,_⟩=>⟨fun k hk=>absurd hk (a k),fun j hj=>by rw[(b j).1 hj];exact c⟩
 keep:=fun⟨a,b,c,d⟩ x _ hJ=>⟨a,b,Nat.lt_of_lt_of_le c x.ids,(x.hw _ c (hJ _ ((b _).2 rfl))).trans d⟩
def dw (X Y:Asn):Asn where
 A h F J:=∃ F1 J1 F2 J2,X.A h F1 J1∧Y.A h F2 J2∧(∀ k,F k↔F1 k∨F2 k)∧(∀ j,J j↔J1 j∨J2 j)∧(∀ k,F1 k→¬ F2 k)∧(∀ j,J1 j→¬ J2 j)
 lt:=fun⟨F1,J1,F2,J2,x,y,hF,hJ,_,_⟩=>⟨fun k hk=>((hF k).1 hk).elim ((X.lt x).1 k) ((Y.lt y).1 k),fun j hj=>((hJ j).1 hj).elim ((X.lt x).2 j) ((Y.lt y).2 j)⟩
 keep:=fun⟨F1,J1,F2,J2,x,y,hF,hJ,dF,dJ⟩ c nF nJ=>
  ⟨F1,J1,F2,J2,X.keep x c (fun k hk=>nF k ((hF k).2 (.inl hk))) (fun j hj=>nJ j ((hJ j).2 (.inl hj))),Y.keep y c (fun k hk=>nF k ((hF k).2 (.inr hk))) (fun j hj=>nJ j ((hJ j).2 (.inr hj))),hF,hJ,dF,dJ⟩
def oH {α:Type} (X:α→Asn):Asn where
 A h F J:=∃ a,(X a).A h F J
 lt:=fun⟨a,x⟩=>(X a).lt x
 keep:=fun⟨a,x⟩ c nF nJ=>⟨a,(X a).keep x c nF nJ⟩
def orA (X Y:Asn):Asn where
 A h F J:=X.A h F J∨Y.A h F J
 lt:=fun h=>h.elim X.lt Y.lt
 keep:=fun h c nF nJ=>h.imp (fun x=>X.keep x c nF nJ) (fun y=>Y.keep y c nF nJ)
def uJ (p:Prop) (X:Asn):Asn where
 A h F J:=p∧X.A h F J
 lt:=fun h=>X.lt h.2
 keep:=fun h c nF nJ=>⟨h.1,X.keep h.2 c nF nJ⟩
def bp (b:Nat) (G:ae):Asn where
 A h F J:=IsG h F J b G
 lt:=fun g=>g.lt
 keep:=fun g c nF nJ=>g.keep c nF nJ
def aX:List Asn→Asn
 | []=>wk True
 | X::L=>dw X (aX L)
def Did (h:AH) (F J:Nat→Prop) (h':AH) (X:Asn):Prop:=∃ F' J',X.A h' F' J'∧Chg F J h h'∧(∀ k,F' k→F k∨h.n≤k)∧(∀ j,J' j→J j∨h.ids≤j)
structure cE where
 (plugin cell right node:Int)
structure StD where
 G:ae
 cells:List Int
 log:List cE
 kept:List VD
 left:Nat
abbrev aM:=List (Option (List XD))
def cz:XD:= .mk 0 0 0 []
def iH (n:Int):VD:= .mk 1 n []
def fh (n:Int):VD:= .mk 4 n []
def cH (ms:aM) (p:Int):List XD:=(ms.getD p.toNat none).getD []
def cS (ms:aM) (p k:Int):XD:=(cH ms p).getD k.toNat cz
def rZ (k a b:Int):Int:=if k=1 then IntKind.wrap .i64 (a+b)else if k=2 then IntKind.wrap .i64 (a - b)else if k=3 then IntKind.wrap .i64 (a*b)else if k=4 then(if a<b then 1 else 0)else if k=5 then(if a=b then 1 else 0)else 0
def StD.ok (S:StD) (v:VD):StD×VD×Int:=(S,v,0)
def StD.no (S:StD) (c:Int):StD×VD×Int:=(S,au,c)
def StD.tick (S:StD):StD:={S with left:=S.left - 1}
def xJ (S:StD) (q:ae×Int×Int):StD×VD×Int:=if q.2.2≠0 then({S with G:=q.1}).no q.2.2 else({S with G:=q.1}).ok (fh q.2.1)
def bH (p op k n:Int) (l:List VD) (S:StD):StD×VD×Int:=
 let a:=l.getD 0 au
 let b:=l.getD 1 au
 if op=6 then(if a.kind≠1∨b.kind≠1 then S.no 2 else S.ok (iH (rZ k a.n b.n)))
 else if op=8 then(if(VD.mk 2 0 [a,b]).code≠0 then S.no 3 else S.ok (.mk 2 0 [a,b]))
 else if op=9 then(if a.kind≠2 then S.no 2 else S.ok (a.l.getD 0 au))
 else if op=10 then(if a.kind≠2 then S.no 2 else S.ok (a.l.getD 1 au))
 else if op=11 then(if(VD.mk 3 p [a]).code≠0 then S.no 3 else S.ok (.mk 3 p [a]))
 else if op=12 then(if a.kind≠3 then S.no 2 else if a.n≠p then S.no 10 else S.ok (a.l.getD 0 au))
 else if op=13 then(if a.kind≠4 then S.no 2 else if d9 (S.G.rights a.n) 0=false then S.no 9 else if 0≤(S.G.target a.n).1.plugin then S.no 2
  else({S with log:=S.log++[cE.mk p (S.G.target a.n).1.cell 1 a.n]}).ok (iH (S.cells.getD (S.G.target a.n).1.cell.toNat 0)))
 else if op=14 then(if a.kind≠4∨b.kind≠1 then S.no 2 else if d9 (S.G.rights a.n) 1=false then S.no 9 else if 0≤(S.G.target a.n).1.plugin then S.no 2
  else({S with log:=S.log++[cE.mk p (S.G.target a.n).1.cell 2 a.n],cells:=S.cells.set (S.G.target a.n).1.cell.toNat b.n}).ok b)
 else if op=15 then(if a.kind≠4 then S.no 2 else xJ S (S.G.derive a.n k (-1)))
 else if op=16 then(if a.kind≠4 then S.no 2 else if S.G.gate.2.2≠0 then({S with G:=S.G.gate.1}).no S.G.gate.2.2
  else match S.G.gate.1.derive a.n 15 S.G.gate.2.1 with
   | (G',m,c)=>if c≠0 then({S with G:=G'}).no c else({S with G:=G'}).ok (.mk 2 0 [fh m,.mk 5 S.G.gate.2.1 []]))
 else if op=17 then(if a.kind≠5 then S.no 2 else({S with G:=(S.G.cut a.n).1}).ok au)
 else if op=20 then({S with kept:=S.kept.set p.toNat a}).ok (S.kept.getD p.toNat au)
 else S.no 0
structure rc where
 (plugin func:Int)
 arg:VD
 gates:List Int
def eX (ms:aM) (v x:VD) (fr:Nat) (S:StD):StD×rc×Int:=
 let t:=(S.G.target v.n).1
 let z:rc:=⟨0,0,au,[]⟩
 if v.kind≠4 then(S,z,2)else if d9 (S.G.rights v.n) 3=false then(S,z,9)else if t.plugin<0 then(S,z,2)
 else if(ms.getD t.plugin.toNat none).isNone∨((cH ms t.plugin).length:Int)≤t.func∨t.func<0 then(S,z,8)
 else if fr=20 then(S,z,4)
 else match aV (S.G.gatesC v.n) S.G x with
  | (G',y,c)=>({S with G:=G'},⟨t.plugin,t.func,y,S.G.gatesC v.n⟩,c)
def eC (gates:List Int) (v:VD) (S:StD):StD×VD×Int:=match aV gates S.G v with
 | (G',y,c)=>if c≠0 then({S with G:=G'}).no c else({S with G:=G'}).ok y
def evL (f:XD→StD→StD×VD×Int):List XD→StD→List VD→StD×List VD×Int
 | [],S,acc=>(S,acc,0)
 | x::l,S,acc=>match f x S with
   | (S',v,c)=>if c≠0 then(S',[],c)else evL f l S' (acc++[v])
def dV (p:Int) (x:XD) (arg:VD) (names:List VD) (S:StD):Option VD:=
 if x.op=1 then some au else if x.op=2 then some (iH x.n)else if x.op=3 then some arg
 else if x.op=4 then some (names.getD (names.length - 1 - x.k.toNat) au)else if x.op=21 then some (S.kept.getD p.toNat au)else none
def ofD (ms:aM):Nat→Int→XD→VD→List VD→Nat→StD→StD×VD×Int
 | 0,_,_,_,_,_,S=>S.no 12
 | N+1,p,x,arg,names,fr,S=>
   if S.left=0 then S.no 12
   else match dV p x arg names S.tick with
   | some v=>S.tick.ok v
   | none=>
     if x.op=5 then(match ofD ms N p (x.l.getD 0 cz) arg names fr S.tick with
      | (S',v,c)=>if c≠0 then S'.no c else ofD ms N p (x.l.getD 1 cz) arg (names++[v]) fr S')
     else if x.op=7 then(match ofD ms N p (x.l.getD 0 cz) arg names fr S.tick with
      | (S',v,c)=>if c≠0 then S'.no c else if v.kind≠1 then S'.no 2 else if v.n≠0 then ofD ms N p (x.l.getD 1 cz) arg names fr S' else ofD ms N p (x.l.getD 2 cz) arg names fr S')
     else match evL (fun y S=>ofD ms N p y arg names fr S) x.l S.tick []with
      | (S',l,c)=>if c≠0 then S'.no c
        else if x.op=18 then(if fr=20 then S'.no 4 else ofD ms N p (cS ms p x.k) (l.getD 0 au) [] (fr+1) S')
        else if x.op=19 then(match eX ms (l.getD 0 au) (l.getD 1 au) fr S' with
         | (S2,q,c)=>if c≠0 then S2.no c else match ofD ms N q.plugin (cS ms q.plugin q.func) q.arg [] (fr+1) S2 with
           | (S3,v,c)=>if c≠0 then S3.no c else eC q.gates v S3)
        else bH p x.op x.k x.n l S'
structure FrD where
 (plugin f:Int)
 pc:Nat
 arg:VD
 (stack names:List VD)
 asked:Bool
 gates:List Int
structure MaD where
 S:StD
 top:FrD
 below:List FrD
inductive iY where
 | go (m:MaD)
 | over (S:StD) (v:VD)
 | fail (S:StD) (c:Int)
def oJ:aR:=⟨0,0,0⟩
def dU (ms:aM) (p f:Int):List aR:=az (cS ms p f) 0++[⟨105,0,0⟩]
def MaD.push (m:MaD) (S:StD) (st:List VD) (v:VD):iY:= .go {m with S:=S,top:={m.top with stack:=st++[v]}}
def MaD.done (m:MaD) (st:List VD) (q:StD×VD×Int):iY:=if q.2.2≠0 then .fail q.1 q.2.2 else m.push q.1 st q.2.1
def MaD.call (m:MaD) (S:StD) (st:List VD) (p f:Int) (arg:VD) (asked:Bool) (gates:List Int):iY:=
 if m.below.length+1=20 then .fail S 4 else .go ⟨S,⟨p,f,0,arg,[],[],asked,gates⟩,m.below++[{m.top with stack:=st}]⟩
def kc (st:List VD) (k:Nat):List VD:=st.drop (st.length - k)
def ly (st:List VD) (k:Nat):List VD:=st.take (st.length - k)
def kF (ms:aM) (m:MaD) (x:aR):iY:=
 let t:=m.top
 match dV t.plugin (.mk x.op x.k x.n []) t.arg t.names m.S with
 | some v=>m.push m.S t.stack v
 | none=>
   if x.op=18 then m.call m.S (ly t.stack 1) t.plugin x.k ((kc t.stack 1).getD 0 au) false []
   else if x.op=19 then(match eX ms ((kc t.stack 2).getD 0 au) ((kc t.stack 2).getD 1 au) (m.below.length+1) m.S with
    | (S',q,c)=>if c≠0 then .fail S' c else m.call S' (ly t.stack 2) q.plugin q.func q.arg true q.gates)
   else m.done (ly t.stack (aW x.op).toNat) (bH t.plugin x.op x.k x.n (kc t.stack (aW x.op).toNat) m.S)
def MaD.back (m:MaD):iY:=
 let v:=(kc m.top.stack 1).getD 0 au
 let q:=if m.top.asked then eC m.top.gates v m.S else m.S.ok v
 if q.2.2≠0 then .fail q.1 q.2.2
 else match m.below.getLast? with
  | none=> .over q.1 q.2.1
  | some t=> .go ⟨q.1,{t with stack:=t.stack++[q.2.1]},m.below.dropLast⟩
def fQ (ms:aM) (m0:MaD):iY:=
 let x:=(dU ms m0.top.plugin m0.top.f).getD m0.top.pc oJ
 let m:MaD:={m0 with top:={m0.top with pc:=m0.top.pc+1}}
 let t:=m.top
 if x.op=100 then(if m.S.left=0 then .fail m.S 12 else .go {m with S:=m.S.tick})
 else if x.op=101 then .go {m with top:={t with stack:=ly t.stack 1,names:=t.names++[(kc t.stack 1).getD 0 au]}}
 else if x.op=102 then .go {m with top:={t with names:=t.names.dropLast}}
 else if x.op=103 then(let v:=(kc t.stack 1).getD 0 au
  if v.kind≠1 then .fail m.S 2 else .go {m with top:={t with stack:=ly t.stack 1,pc:=if v.n=0 then x.k.toNat else t.pc}})
 else if x.op=104 then .go {m with top:={t with pc:=x.k.toNat}}
 else if x.op=105 then m.back
 else kF ms m x
theorem nE {α:Type} {c:Prop} [Decidable c] {a b:StD×α} {n:Nat} (h1:a.1.left=n) (h2:b.1.left=n):(if c then a else b).1.left=n:=by split<;>assumption
theorem Fg (S:StD) (q:ae×Int×Int):(xJ S q).1.left=S.left:=by
 unfold xJ
 exact nE rfl rfl
theorem AM (p op k n:Int) (l:List VD) (S:StD):(bH p op k n l S).1.left=S.left:=by
 unfold bH
 repeat' (first | rfl | exact Fg _ _ | refine nE ?_ ?_)
theorem pB (ms:aM) (v x:VD) (fr:Nat) (S:StD):(eX ms v x fr S).1.left=S.left:=by
 unfold eX
 repeat' (first | rfl | refine nE ?_ ?_)
theorem BL (gates:List Int) (v:VD) (S:StD):(eC gates v S).1.left=S.left:=by
 unfold eC
 split
 exact nE rfl rfl
theorem tS {f:XD→StD→StD×VD×Int} (hf:∀ x S,(f x S).1.left≤S.left):∀ (l:List XD) (S:StD) (acc:List VD),(evL f l S acc).1.left≤S.left
 | [],S,acc=>Nat.le_refl _
 | x::l,S,acc=>by
   have h1:=hf x S
   rw[evL]
   rcases hq:f x S with⟨S',v,c⟩
   rw[hq]at h1
   simp only at h1 ⊢
   split
   ·exact h1
   ·exact Nat.le_trans (tS hf l S' _) h1
theorem jJ (ms:aM):∀ (N:Nat) (p:Int) (x:XD) (arg:VD) (names:List VD) (fr:Nat) (S:StD),(ofD ms N p x arg names fr S).1.left≤S.left
 | 0,p,x,arg,names,fr,S=>Nat.le_refl _
 | N+1,p,x,arg,names,fr,S=>by
   have ih:=jJ ms N
   have ht:S.tick.left≤S.left:=Nat.sub_le _ _
   rw[ofD]
   split
   ·exact Nat.le_refl _
   ·split
    ·exact ht
    ·split
     ·have h1:=ih p (x.l.getD 0 cz) arg names fr S.tick
      rcases hq:ofD ms N p (x.l.getD 0 cz) arg names fr S.tick with⟨S',v,c⟩
      rw[hq]at h1
      simp only at h1 ⊢
      split
      ·exact Nat.le_trans h1 ht
      ·exact Nat.le_trans (ih _ _ _ _ _ _) (Nat.le_trans h1 ht)
     ·split
      ·have h1:=ih p (x.l.getD 0 cz) arg names fr S.tick
       rcases hq:ofD ms N p (x.l.getD 0 cz) arg names fr S.tick with⟨S',v,c⟩
       rw[hq]at h1
       simp only at h1 ⊢
       split
       ·exact Nat.le_trans h1 ht
       ·split
        ·exact Nat.le_trans h1 ht
        ·split
         ·exact Nat.le_trans (ih _ _ _ _ _ _) (Nat.le_trans h1 ht)
         ·exact Nat.le_trans (ih _ _ _ _ _ _) (Nat.le_trans h1 ht)
      ·have h1:=tS (f:=fun y S=>ofD ms N p y arg names fr S) (fun y S=>ih p y arg names fr S) x.l S.tick []
       rcases hq:evL (fun y S=>ofD ms N p y arg names fr S) x.l S.tick []with⟨S',l,c⟩
       rw[hq]at h1
       simp only at h1 ⊢
       split
       ·exact Nat.le_trans h1 ht
       ·split
        ·split
         ·exact Nat.le_trans h1 ht
         ·exact Nat.le_trans (ih _ _ _ _ _ _) (Nat.le_trans h1 ht)
        ·split
         ·have h2:=pB ms (l.getD 0 au) (l.getD 1 au) fr S'
          rcases hq2:eX ms (l.getD 0 au) (l.getD 1 au) fr S' with⟨S2,q,c2⟩
          rw[hq2]at h2
          simp only at h2 ⊢
          split
          ·exact Nat.le_trans (Nat.le_of_eq h2) (Nat.le_trans h1 ht)
          ·have h3:=ih q.plugin (cS ms q.plugin q.func) q.arg [] (fr+1) S2
           rcases hq3:ofD ms N q.plugin (cS ms q.plugin q.func) q.arg [] (fr+1) S2 with⟨S3,v,c3⟩
           rw[hq3]at h3
           simp only at h3 ⊢
           split
           ·exact Nat.le_trans h3 (Nat.le_trans (Nat.le_of_eq h2) (Nat.le_trans h1 ht))
           ·rw[BL]
            exact Nat.le_trans h3 (Nat.le_trans (Nat.le_of_eq h2) (Nat.le_trans h1 ht))
         ·rw[AM]
          exact Nat.le_trans h1 ht
def StD.mu (S:StD):Nat:=S.log.length+S.left
structure StD.Good (S:StD):Prop where
 wf:S.G.Wf
 cells:S.cells.length=12
 kept:S.kept.length=4
 keptV:∀ v∈S.kept,v.code=0
theorem dO:au.code=0:=by decide
theorem jG (n:Int):(iH n).code=0:=rfl
theorem eN {l:List VD} (h:∀ v∈l,v.code=0) (i:Nat):(l.getD i au).code=0:=by
 by_cases hi:i<l.length
 ·simp only[List.getD,List.getElem?_eq_getElem hi,Option.getD_some]
  exact h _ (List.getElem_mem hi)
 ·simp only[List.getD,List.getElem?_eq_none (Nat.le_of_not_lt hi),Option.getD_none]
  exact dO
theorem pZ:∀ {l:List VD},dt l=0→∀ x∈l,x.fault=0
 | [],_,x,hx=>by simp at hx
 | y::l,h,x,hx=>by
   rw[gd]at h
   split at h
   ·rename_i h1;exact absurd h h1
   ·rename_i h1
    rcases List.mem_cons.1 hx with rfl | hx
    ·omega
    ·exact pZ h x hx
theorem fA {v:VD} (h:v.code=0):v.size≤40∧dK v.kind v.n v.l.length=0∧∀ x∈v.l,x.code=0:=by
 unfold VD.code at h
 split at h
 ·cases h
 ·rename_i hs
  rw[v.fault_eq]at h
  split at h
  ·rename_i h1;exact absurd h h1
  ·rename_i h1
   refine⟨by omega,by omega,fun x hx=> ?_⟩
   unfold VD.code
   have:=VD.size_mem hx
   rw[if_neg (by omega)]
   exact pZ h x hx
theorem wz {kind n:Int} {l:List VD} (hs:(VD.mk kind n l).size≤40) (hh:dK kind n l.length=0) (hl:∀ x∈l,x.code=0):(VD.mk kind n l).code=0:=by
 have key:∀ l:List VD,(∀ x∈l,x.code=0)→dt l=0:=by
  intro l hl
  induction l with
  | nil=>rfl
  | cons x l ih=>
    have h1:=hl x (by simp)
    unfold VD.code at h1
    split at h1
    ·cases h1
    ·rw[gd,if_neg (by omega)]
     exact ih fun y hy=>hl y (by simp[hy])
 unfold VD.code
 rw[if_neg (by omega)]
 show(if dK kind n l.length≠0 then dK kind n l.length else dt l)=0
 rw[if_neg (by omega)]
 exact key l hl
theorem yh {v:VD} (h:v.code=0):(v.kind=2→∃ a b,v.l=[a,b])∧(v.kind=3→∃ a,v.l=[a]):=by
 obtain⟨_,h1,_⟩:=fA h
 unfold dK at h1
 split at h1
 ·cases h1
 ·split at h1
  ·cases h1
  ·rename_i h2
   constructor
   ·intro h3
    simp only[iW,h3,if_true,Decidable.not_not]at h2
    match hl:v.l,h2 with
    | [a,b],_=>exact⟨a,b,rfl⟩
   ·intro h3
    simp only[iW,h3,if_true,Decidable.not_not]at h2
    rw[if_neg (by decide)]at h2
    match hl:v.l,h2 with
    | [a],_=>exact⟨a,rfl⟩
theorem nq {n:Int} (h:0≤n):(fh n).code=0:=wz (by simp[VD.size,bD]) (by simp[dK,iW];omega) (by simp)
theorem E1 {n:Int} (h:0≤n):(VD.mk 5 n []).code=0:=wz (by simp[VD.size,bD]) (by simp[dK,iW];omega) (by simp)
mutual
theorem uW (ks:List Int):∀ (x:VD) (G:ae),(da ks x G).2.2=0→(da ks x G).2.1.size=x.size
 | .mk kind n l,G,h=>by
   simp only[da]at h ⊢
   split at h
   ·rename_i h1;exact absurd h h1
   ·rename_i h1
    split at h
    ·rename_i h2;exact absurd h h2
    ·rename_i h2
     rw[if_neg h1,if_neg h2]
     simp only[VD.size]
     rw[(ng ks l _ (by omega)).1]
theorem ng (ks:List Int):∀ (l:List VD) (G:ae),(bu ks l G).2.2=0→bD (bu ks l G).2.1=bD l∧(bu ks l G).2.1.length=l.length
 | [],G,h=>⟨rfl,rfl⟩
 | x::l,G,h=>by
   simp only[bu]at h ⊢
   split at h
   ·rename_i h1;exact absurd h h1
   ·rename_i h1
    rw[if_neg h1]
    have h2:=ng ks l _ h
    simp only[bD,List.length_cons]
    rw[uW ks x G (by omega),h2.1,h2.2]
    exact⟨rfl,rfl⟩
end
theorem mQ {G:ae} {n r k:Int}:0≤(G.derive n r k).2.1:=by
 unfold ae.derive ae.add
 split
 ·split
  ·exact Int.le_refl _
  ·split
   ·exact Int.le_refl _
   ·split
    ·exact Int.le_refl _
    ·exact Int.natCast_nonneg _
 ·exact Int.le_refl _
theorem Gl (ks:List Int):∀ (G:ae) (n:Int),0≤n→0≤(dm ks G n).2.1:=by
 induction ks with
 | nil=>intro G n h;exact h
 | cons k l ih=>
   intro G n h
   simp only[dm]
   split
   ·exact Int.le_refl _
   ·exact ih _ _ mQ
mutual
theorem ta (ks:List Int):∀ (x:VD) (G:ae),x.fault=0→(da ks x G).2.2=0→(da ks x G).2.1.fault=0
 | .mk kind n l,G,hf,h=>by
   change (if dK kind n l.length≠0 then dK kind n l.length else dt l)=0 at hf
   split at hf
   ·rename_i h1;exact absurd hf h1
   rename_i hh
   simp only[da]at h ⊢
   split at h
   ·rename_i h1;exact absurd h h1
   ·rename_i h1
    split at h
    ·rename_i h2;exact absurd h h2
    ·rename_i h2
     rw[if_neg h1,if_neg h2]
     have hl:=(ng ks l (bY ks G kind n).1 (by omega)).2
     show(if dK kind _ (bu ks l (bY ks G kind n).1).2.1.length≠0 then dK kind _ (bu ks l (bY ks G kind n).1).2.1.length else dt (bu ks l (bY ks G kind n).1).2.1)=0
     rw[hl,if_neg]
     ·exact qe ks l _ hf (by omega)
     ·unfold bY
      by_cases h4:kind=4
      ·rw[if_pos h4]
       have:0≤n:=by
        unfold dK at hh
        split at hh
        ·simp at hh
        ·split at hh
         ·simp at hh
         ·split at hh
          ·simp at hh
          ·split at hh
           ·simp at hh
           ·omega
       have h5:=Gl ks G n this
       unfold dK at hh ⊢
       subst h4
       rw[if_neg (by omega)]at hh ⊢
       split at hh
       ·simp at hh
       ·rename_i h6
        rw[if_neg h6,if_neg (by omega),if_neg (by omega)]
        decide
      ·rw[if_neg h4]
       exact hh
theorem qe (ks:List Int):∀ (l:List VD) (G:ae),dt l=0→(bu ks l G).2.2=0→dt (bu ks l G).2.1=0
 | [],G,hf,h=>rfl
 | x::l,G,hf,h=>by
   rw[gd]at hf
   split at hf
   ·rename_i h1;exact absurd hf h1
   rename_i hx
   simp only[bu]at h ⊢
   split at h
   ·rename_i h1;exact absurd h h1
   ·rename_i h1
    rw[if_neg h1,gd,if_neg (by rw[ta ks x G (by omega) (by omega)];decide)]
    exact qe ks l _ hf h
end
theorem nx {ks:List Int} {G:ae} {x:VD} (h:(aV ks G x).2.2=0):(aV ks G x).2.1.code=0:=by
 unfold aV at h ⊢
 split at h
 ·rename_i h1;exact absurd h h1
 ·rename_i h1
  rw[if_neg h1]
  have hx:x.code=0:=by
   unfold tP at h1
   split at h1
   ·rename_i h2;exact absurd h1 (by simpa using h2)
   ·omega
  have hs:=(fA hx).1
  unfold VD.code at hx ⊢
  rw[if_neg (by omega)]at hx
  rw[if_neg (by rw[uW ks x G h];omega)]
  exact ta ks x G hx h
structure cI (n:Nat) (S:StD) (q:StD×VD×Int):Prop where
 good:q.1.Good
 mu:q.1.mu≤S.mu+n
 left:q.1.left≤S.left
 val:q.2.2=0→q.2.1.code=0
theorem StD.Good.with {S:StD} (h:S.Good) {G:ae} (hG:G.Wf):({S with G:=G}:StD).Good:=⟨hG,h.cells,h.kept,h.keptV⟩
theorem cI.no {S S':StD} {n:Nat} {c:Int} (h:S'.Good) (h1:S'.mu≤S.mu+n) (h2:S'.left≤S.left):cI n S (S'.no c):=⟨h,h1,h2,fun _=>dO⟩
theorem cI.ok {S S':StD} {n:Nat} {v:VD} (h:S'.Good) (h1:S'.mu≤S.mu+n) (h2:S'.left≤S.left) (hv:v.code=0):cI n S (S'.ok v):=⟨h,h1,h2,fun _=>hv⟩
theorem cI.ite {S:StD} {n:Nat} {p:Prop} [Decidable p] {a b:StD×VD×Int} (h1:p→cI n S a) (h2:¬ p→cI n S b):cI n S (if p then a else b):=by
 split
 ·exact h1 ‹_›
 ·exact h2 ‹_›
theorem GD {p op k n:Int} {l:List VD} {S:StD} (hS:S.Good) (hl:∀ v∈l,v.code=0):cI 1 S (bH p op k n l S):=by
 have ha:=eN hl 0
 have hb:=eN hl 1
 have m0:S.mu≤S.mu+1:=Nat.le_succ _
 have no:∀ {c:Int},cI 1 S (S.no c):= .no hS m0 (Nat.le_refl _)
 have ok:∀ {v:VD},v.code=0→cI 1 S (S.ok v):=fun hv=> .ok hS m0 (Nat.le_refl _) hv
 unfold bH
 refine .ite (fun _=> .ite (fun _=>no) fun _=>ok (jG _)) fun h6=> ?_
 refine .ite (fun _=> .ite (fun _=>no) fun h=>ok (by simpa using h)) fun h8=> ?_
 refine .ite (fun _=> .ite (fun _=>no) fun h=>ok (eN (fA ha).2.2 0)) fun h9=> ?_
 refine .ite (fun _=> .ite (fun _=>no) fun h=>ok (eN (fA ha).2.2 1)) fun h10=> ?_
 refine .ite (fun _=> .ite (fun _=>no) fun h=>ok (by simpa using h)) fun h11=> ?_
 refine .ite (fun _=> .ite (fun _=>no) fun _=> .ite (fun _=>no) fun _=>ok (eN (fA ha).2.2 0)) fun h12=> ?_
 refine .ite (fun _=> .ite (fun _=>no) fun _=> .ite (fun _=>no) fun _=> .ite (fun _=>no) fun _=> ?_) fun h13=> ?_
 ·exact .ok ⟨hS.wf,hS.cells,hS.kept,hS.keptV⟩ (by simp[StD.mu];omega) (Nat.le_refl _) (jG _)
 refine .ite (fun _=> .ite (fun _=>no) fun _=> .ite (fun _=>no) fun _=> .ite (fun _=>no) fun _=> ?_) fun h14=> ?_
 ·exact .ok ⟨hS.wf,by simpa using hS.cells,hS.kept,hS.keptV⟩ (by simp[StD.mu];omega) (Nat.le_refl _) hb
 refine .ite (fun _=> .ite (fun _=>no) fun _=> ?_) fun h15=> ?_
 ·unfold xJ
  exact .ite (fun _=> .no (hS.with (hS.wf.derive _ _ _)) m0 (Nat.le_refl _)) fun _=> .ok (hS.with (hS.wf.derive _ _ _)) m0 (Nat.le_refl _) (nq mQ)
 refine .ite (fun _=> .ite (fun _=>no) fun _=> .ite (fun _=> .no (hS.with hS.wf.gate) m0 (Nat.le_refl _)) fun hg=> ?_) fun h16=> ?_
 ·have hw:=hS.wf.gate.derive (l.getD 0 au).n 15 S.G.gate.2.1
  have hn:=mQ (G:=S.G.gate.1) (n:=(l.getD 0 au).n) (r:=15) (k:=S.G.gate.2.1)
  generalize S.G.gate.1.derive (l.getD 0 au).n 15 S.G.gate.2.1=q at hw hn ⊢
  obtain⟨G',m,c⟩:=q
  refine .ite (fun _=> .no (hS.with hw) m0 (Nat.le_refl _)) fun _=> .ok (hS.with hw) m0 (Nat.le_refl _) ?_
  refine wz (by simp[VD.size,bD,fh]) (by simp[dK,iW]) ?_
  intro x hx
  rcases List.mem_cons.1 hx with rfl | hx
  ·exact nq hn
  ·simp only[List.mem_singleton]at hx
   subst hx
   refine E1 ?_
   unfold ae.gate
   split
   ·exact Int.le_refl _
   ·exact Int.natCast_nonneg _
 refine .ite (fun _=> .ite (fun _=>no) fun _=> ?_) fun h17=> ?_
 ·exact .ok (hS.with (hS.wf.cut _)) m0 (Nat.le_refl _) dO
 refine .ite (fun _=> ?_) fun h20=>no
 refine .ok ⟨hS.wf,hS.cells,by simpa using hS.kept,fun v hv=> ?_⟩ m0 (Nat.le_refl _) (eN hS.keptV _)
 rcases List.mem_or_eq_of_mem_set hv with h | rfl
 ·exact hS.keptV v h
 ·exact ha
theorem wd (G:ae):∀ (f:Nat) (i:Int),(G.pathF f i).length≤f
 | 0,_=>by simp[ae.pathF]
 | f+1,i=>by
   unfold ae.pathF
   split
   ·have:=wd G f (G.nodes.getD i.toNat bQ).parent
    simp only[List.length_cons]
    omega
   ·simp
theorem vF {G:ae} (h:G.Wf) {i:Int}:(G.gatesC i).length≤80:=by
 unfold ae.gatesC et
 rw[List.length_map]
 refine Nat.le_trans (List.length_filter_le _ _) ?_
 cases hh:G.has i with
 | false=>rw[ae.path_no hh];simp
 | true=>
   have:=wd G (i.toNat+1) i
   simp only[ae.has,decide_eq_true_eq]at hh
   have:=h.few
   unfold ae.path
   omega
theorem CZ {ms:aM} {v x:VD} {fr:Nat} {S:StD} (hS:S.Good):(eX ms v x fr S).1.Good∧(eX ms v x fr S).1.mu≤S.mu∧((eX ms v x fr S).2.2=0→(eX ms v x fr S).2.1.arg.code=0∧(eX ms v x fr S).2.1.gates.length≤80∧
  (ms.getD (eX ms v x fr S).2.1.plugin.toNat none).isSome∧0≤(eX ms v x fr S).2.1.plugin∧0≤(eX ms v x fr S).2.1.func∧(eX ms v x fr S).2.1.func.toNat<(cH ms (eX ms v x fr S).2.1.plugin).length):=by
 unfold eX
 simp only
 split
 ·exact⟨hS,Nat.le_refl _,fun h=>by simp at h⟩
 split
 ·exact⟨hS,Nat.le_refl _,fun h=>by simp at h⟩
 split
 ·exact⟨hS,Nat.le_refl _,fun h=>by simp at h⟩
 rename_i hp
 split
 ·exact⟨hS,Nat.le_refl _,fun h=>by simp at h⟩
 rename_i hn
 simp only[not_or]at hn
 split
 ·exact⟨hS,Nat.le_refl _,fun h=>by simp at h⟩
 refine⟨hS.with (tw hS.wf),Nat.le_refl _,fun h=>⟨nx h,?_,by simpa[Option.isNone_iff_eq_none,Option.isSome_iff_ne_none]using hn.1,by simp only;omega,by simp only;omega,?_⟩⟩
 ·exact vF hS.wf
 ·have:=hn.2.1;have:=hn.2.2
  simp only
  omega
theorem HZ {gates:List Int} {v:VD} {S:StD} (hS:S.Good):cI 0 S (eC gates v S):=by
 unfold eC
 have hw:=tw (ks:=gates) (x:=v) hS.wf
 have hc:=nx (ks:=gates) (G:=S.G) (x:=v)
 generalize aV gates S.G v=q at hw hc ⊢
 obtain⟨G',y,c⟩:=q
 refine .ite (fun _=> .no (hS.with hw) (Nat.le_refl _) (Nat.le_refl _)) fun h=> .ok (hS.with hw) (Nat.le_refl _) (Nat.le_refl _) (hc (by simpa using h))
def J9 (S:StD) (q:StD×VD×Int):Prop:=cI 0 S q∧(q.2.2=0→q.1.left<S.left)
theorem cI.trans {n k:Nat} {S S1:StD} {q:StD×VD×Int} (h1:S1.mu≤S.mu+n) (h2:S1.left≤S.left) (h:cI k S1 q):cI (n+k) S q:=⟨h.good,by have:=h.mu;omega,Nat.le_trans h.left h2,h.val⟩
theorem cI.weak {n k:Nat} {S:StD} {q:StD×VD×Int} (h:cI k S q) (hk:k≤n):cI n S q:=⟨h.good,by have:=h.mu;omega,h.left,h.val⟩
theorem Bv {f:XD→StD→StD×VD×Int} (hf:∀ x S,S.Good→J9 S (f x S)):∀ (l:List XD) (S:StD) (acc:List VD),S.Good→(∀ v∈acc,v.code=0)→
  (evL f l S acc).1.Good∧(evL f l S acc).1.mu≤S.mu∧(evL f l S acc).1.left≤S.left∧((evL f l S acc).2.2=0→(∀ v∈(evL f l S acc).2.1,v.code=0)∧(evL f l S acc).1.left+(evL f l S acc).2.1.length≤S.left+acc.length)
 | [],S,acc,hS,ha=>⟨hS,Nat.le_refl _,Nat.le_refl _,fun _=>⟨ha,Nat.le_refl _⟩⟩
 | x::l,S,acc,hS,ha=>by
   obtain⟨h1,h2⟩:=hf x S hS
   rw[evL]
   rcases hq:f x S with⟨S',v,c⟩
   rw[hq]at h1 h2
   simp only at h2 ⊢
   split
   ·rename_i hc
    exact⟨h1.good,h1.mu,h1.left,fun e=>absurd e hc⟩
   ·rename_i hc
    have hc:c=0:=by omega
    have h3:=h2 hc
    have hv:=h1.val hc
    obtain⟨g1,g2,g3,g4⟩:=Bv hf l S' (acc++[v]) h1.good (fun w hw=>by
     rcases List.mem_append.1 hw with h | h
     ·exact ha w h
     ·simp only[List.mem_singleton]at h
      rw[h];exact hv)
    have hm:S'.mu≤S.mu:=h1.mu
    have hle:S'.left≤S.left:=h1.left
    refine⟨g1,Nat.le_trans g2 hm,Nat.le_trans g3 hle,fun e=>⟨(g4 e).1,?_⟩⟩
    have:=(g4 e).2
    simp only[List.length_append,List.length_singleton]at this
    omega
theorem nR {S:StD} (h:S.left≠0):S.tick.mu+1=S.mu∧S.tick.left+1=S.left:=by
 simp only[StD.mu,StD.tick]
 omega
theorem StD.Good.tick {S:StD} (h:S.Good):S.tick.Good:=⟨h.wf,h.cells,h.kept,h.keptV⟩
theorem B9 {p:Int} {x:XD} {arg:VD} {names:List VD} {S:StD} {v:VD} (hS:S.Good) (ha:arg.code=0) (hn:∀ v∈names,v.code=0) (h:dV p x arg names S=some v):v.code=0:=by
 unfold dV at h
 split at h
 ·injection h with h;rw[←h];exact dO
 split at h
 ·injection h with h;rw[←h];exact jG _
 split at h
 ·injection h with h;rw[←h];exact ha
 split at h
 ·injection h with h;rw[←h];exact eN hn _
 split at h
 ·injection h with h;rw[←h];exact eN hS.keptV _
 cases h
theorem gW (ms:aM):∀ (N:Nat) (p:Int) (x:XD) (arg:VD) (names:List VD) (fr:Nat) (S:StD),S.Good→arg.code=0→(∀ v∈names,v.code=0)→J9 S (ofD ms N p x arg names fr S)
 | 0,p,x,arg,names,fr,S,hS,_,_=>⟨.no hS (Nat.le_refl _) (Nat.le_refl _),fun h=>by simp[ofD,StD.no]at h⟩
 | N+1,p,x,arg,names,fr,S,hS,ha,hn=>by
   have ih:=gW ms N
   rw[ofD]
   split
   ·exact⟨.no hS (Nat.le_refl _) (Nat.le_refl _),fun h=>by simp[StD.no]at h⟩
   rename_i h0
   obtain⟨tm,tl⟩:=nR h0
   -- what comes behind the tick
   suffices h:∀ q,cI 1 S.tick q→J9 S q by
    refine h _ ?_
    split
    ·rename_i v hv
     exact .ok hS.tick (Nat.le_succ _) (Nat.le_refl _) (B9 hS.tick ha hn hv)
    ·split
     ·have h1:=(ih p (x.l.getD 0 cz) arg names fr S.tick hS.tick ha hn).1
      rcases hq:ofD ms N p (x.l.getD 0 cz) arg names fr S.tick with⟨S',v,c⟩
      rw[hq]at h1
      refine .ite (fun _=>(cI.no (c:=c) h1.good h1.mu h1.left).weak (Nat.zero_le _)) fun hc=> ?_
      have h2:=(ih p (x.l.getD 1 cz) arg (names++[v]) fr S' h1.good ha (fun w hw=>by
       rcases List.mem_append.1 hw with h | h
       ·exact hn w h
       ·simp only[List.mem_singleton]at h
        rw[h];exact h1.val (by simpa using hc))).1
      exact(cI.trans h1.mu h1.left h2).weak (Nat.zero_le _)
     ·split
      ·have h1:=(ih p (x.l.getD 0 cz) arg names fr S.tick hS.tick ha hn).1
       rcases hq:ofD ms N p (x.l.getD 0 cz) arg names fr S.tick with⟨S',v,c⟩
       rw[hq]at h1
       refine .ite (fun _=>(cI.no (c:=c) h1.good h1.mu h1.left).weak (Nat.zero_le _)) fun hc=> ?_
       refine .ite (fun _=>(cI.no (c:=2) h1.good h1.mu h1.left).weak (Nat.zero_le _)) fun _=> ?_
       refine .ite (fun _=> ?_) fun _=> ?_
       ·exact(cI.trans h1.mu h1.left (ih p (x.l.getD 1 cz) arg names fr S' h1.good ha hn).1).weak (Nat.zero_le _)
       ·exact(cI.trans h1.mu h1.left (ih p (x.l.getD 2 cz) arg names fr S' h1.good ha hn).1).weak (Nat.zero_le _)
      ·have h1:=Bv (f:=fun y S=>ofD ms N p y arg names fr S) (fun y S h=>ih p y arg names fr S h ha hn) x.l S.tick [] hS.tick (by simp)
       rcases hq:evL (fun y S=>ofD ms N p y arg names fr S) x.l S.tick []with⟨S',l,c⟩
       rw[hq]at h1
       obtain⟨g1,g2,g3,g4⟩:=h1
       simp only at g1 g2 g3 g4
       refine .ite (fun _=>(cI.no (n:=0) (c:=c) g1 g2 g3).weak (Nat.zero_le _)) fun hc=> ?_
       have g5:=(g4 (by simpa using hc)).1
       refine .ite (fun _=> .ite (fun _=>(cI.no (n:=0) (c:=4) g1 g2 g3).weak (Nat.zero_le _)) fun _=> ?_) fun _=> .ite (fun _=> ?_) fun _=> ?_
       ·exact(cI.trans (n:=0) g2 g3 (ih p (cS ms p x.k) (l.getD 0 au) [] (fr+1) S' g1 (eN g5 0) (by simp)).1).weak (Nat.zero_le _)
       ·obtain⟨a1,a2,a3⟩:=CZ (ms:=ms) (v:=l.getD 0 au) (x:=l.getD 1 au) (fr:=fr) g1
        have a4:=pB ms (l.getD 0 au) (l.getD 1 au) fr S'
        rcases hq2:eX ms (l.getD 0 au) (l.getD 1 au) fr S' with⟨S2,q,c2⟩
        rw[hq2]at a1 a2 a3 a4
        simp only at a1 a2 a3 a4
        have b1:S2.mu≤S.tick.mu+0:=Nat.le_trans a2 g2
        have b2:S2.left≤S.tick.left:=Nat.le_trans (Nat.le_of_eq a4) g3
        refine .ite (fun _=>(cI.no (n:=0) (c:=c2) a1 b1 b2).weak (Nat.zero_le _)) fun hc2=> ?_
        have h3:=(ih q.plugin (cS ms q.plugin q.func) q.arg [] (fr+1) S2 a1 (a3 (by simpa using hc2)).1 (by simp)).1
        rcases hq3:ofD ms N q.plugin (cS ms q.plugin q.func) q.arg [] (fr+1) S2 with⟨S3,v,c3⟩
        rw[hq3]at h3
        have h4:=cI.trans b1 b2 h3
        refine .ite (fun _=>(cI.no (c:=c3) h4.good h4.mu h4.left).weak (Nat.zero_le _)) fun _=> ?_
        exact(cI.trans h4.mu h4.left (HZ h3.good)).weak (Nat.zero_le _)
       ·exact cI.trans (n:=0) g2 g3 (GD g1 g5)
   intro q h
   have h1:=h.mu
   have h2:=h.left
   exact⟨⟨h.good,by omega,by omega,h.val⟩,fun _=>by omega⟩
structure FrD.Good (ms:aM) (t:FrD):Prop where
 p0:0≤t.plugin
 there:(ms.getD t.plugin.toNat none).isSome
 f0:0≤t.f
 f1:t.f.toNat<(cH ms t.plugin).length
 arg:t.arg.code=0
 names:∀ v∈t.names,v.code=0
 stack:∀ v∈t.stack,v.code=0
 gates:t.gates.length≤80
structure MaD.Good (ms:aM) (m:MaD):Prop where
 S:m.S.Good
 top:m.top.Good ms
 mu:m.S.mu≤1000000
 stk:m.top.stack.length+m.S.left≤100000
 nms:m.top.names.length+m.S.left≤100000
 few:m.below.length+1≤20
structure Ff (m:MaD) (x:aR):Prop where
 kind:(1≤x.op∧x.op≤21∧x.op≠5∧x.op≠7)∨(100≤x.op∧x.op≤105)
 one:x.op=101∨x.op=103∨x.op=105→m.top.stack≠[]
 nam:x.op=102→m.top.names≠[]
 jump:x.op=103∨x.op=104→0≤x.k
 parts:x.op<100→(aW x.op).toNat≤m.top.stack.length
 var:x.op=4→0≤x.k∧x.k<m.top.names.length
structure Ok (ms:aM) (m:MaD):Prop where
 good:m.Good ms
 pc:m.top.pc<(dU ms m.top.plugin m.top.f).length
 op:Ff m ((dU ms m.top.plugin m.top.f).getD m.top.pc oJ)
inductive gA (ms:aM):MaD→iY→Prop
 | go {m m':MaD} {r:iY}:Ok ms m→fQ ms m= .go m'→gA ms m' r→gA ms m r
 | over {m:MaD} {S:StD} {v:VD}:Ok ms m→fQ ms m= .over S v→gA ms m (.over S v)
 | fail {m:MaD} {S:StD} {c:Int}:Ok ms m→fQ ms m= .fail S c→gA ms m (.fail S c)
def qh (ms:aM):Prop:=∀ p:Int,∀ x∈cH ms p,x.fault (cH ms p).length 0=0
def kC (ms:aM):Prop:=∀ p f:Int,(dU ms p f).length≤1000000000
def cO (ms:aM) (p f:Int) (v:VD) (fuel:Int) (S:StD):StD×VD×Int×Int:=
 if fuel<0∨2000<fuel∨p<0∨4≤p then(S,au,0,1)
 else if(ms.getD p.toNat none).isNone∨f<0∨((cH ms p).length:Int)≤f then(S,au,0,8)
 else if v.code≠0 then(S,au,0,v.code)
 else match ofD ms fuel.toNat p (cS ms p f) v [] 1 {S with left:=fuel.toNat}with
  | (S',w,c)=>({S' with left:=S.left},if c=0 then w else au,fuel - (S'.left:Int),c)
def ei (L:List XD):AV:= .isl none 174 (L.map fun x=>[.isl none 184 ((az x 0++[(⟨105,0,0⟩:aR)]).map fun i:aR=>[.int .i64 i.op,.int .i64 i.k,.int .i64 i.n])])
abbrev tEn:TypeId:=137
abbrev tL:TypeId:=2
def eE (e:cE):List AV:=[.int .i64 e.plugin,.int .i64 e.cell,.int .i64 e.right,.int .i64 e.node]
def db (e:TypeId) (v:AV) (rows:List (List AV)):Asn:=orA (wk (rows=[]∧v= .nils)) (oH fun id:Nat=>uJ (rows≠[]∧v= .isl (some id) e rows) (idA id rows.length))
def bk (b:Nat) (cells:List Int) (log:List cE):Asn:=oH fun v:AV=>dw (ai b [cells.map (.int .i64)++[v]]) (db tEn v (log.map eE))
def iT (m:Option (List XD)):AV:=match m with
 | some L=>ei L
 | none=> .nils
def dE:aM→List (List AV)→List AV
 | m::ms,k::ks=> .bool m.isSome::iT m::k++dE ms ks
 | _,_=>[]
def ka (gb wb:Nat) (ms:aM) (ks:List (List AV)):List AV:= .ptr gb 0 0:: .ptr wb 0 0::dE ms ks
def dA (b gb wb:Nat) (ms:aM) (kept:List VD):Asn:=oH fun ks:List (List AV)=>uJ (VaL kept ks) (ai b [ka gb wb ms ks])
def wn (args:List AV) (h:AH) (q:(AV ⊕ AV)×AH):Prop:=
 ∀ (F J:Nat→Prop) (bb gb wb:Nat) (ms:aM) (S:StD) (p f fuel:Int) (v:VD) (r:List AV),args=[.ptr bb 0 0,.int .i64 p,.int .i64 f,.agg r,.int .i64 fuel]→VaA v r→v.size≤100000→ms.length=4→qh ms→kC ms→S.Good→S.log.length≤900000→
   (aX [dA bb gb wb ms S.kept,bp gb S.G,bk wb S.cells S.log]).A h F J→
   ∃ r' h',q=(.inl (.tup [.agg r',.int .i64 (cO ms p f v fuel S).2.2.1,.int .i64 (cO ms p f v fuel S).2.2.2]),h')∧VaA (cO ms p f v fuel S).2.1 r'∧
     Did h F J h' (aX [dA bb gb wb ms (cO ms p f v fuel S).1.kept,bp gb (cO ms p f v fuel S).1.G,bk wb (cO ms p f v fuel S).1.cells (cO ms p f v fuel S).1.log])
def KY:List FuncId:=[120,160,63,98,62,159,112,97,
 58,60,84,158,145,162,150,
 15,76,51,96,151,14,68,
 100,67,163,99,66,64,
 85,154,152,45,139,153,
 123,103,104,122,121,141,
 105,124,106,78,108,125,109,81,
 110,82,43,111,83,41,80,
 107,79,40,86,47,87,48,143,142,
 157,166,19,30,46,94,
 53,11,165,164,144,161,146,
 128,126,155,156,140,39,89,88,
 90,115,91,116,42,147,129,130,
 131,132,133,134,117,93,118,
 92,50,77,148,149,21,17,55,
 52,20,16,136,25,44,
 8,9,10,3,13,34,24,
 57,56,59,61,26,28,29,69,
 22,23,138,137,135,119,
 54,18,27,33,4,5,6,
 35,71,37,73,72,101,
 74,102,70,36,75,38,31,
 32,7]
def I5:List FuncId:=[120,160,98,159,112,158,145,162,
 150,15,51,96,151,14,100,
 163,154,152,139,153,123,104,
 122,121,141,105,78,108,
 125,109,81,110,82,43,111,
 83,41,86,47,87,48,143,142,157,
 166,19,30,46,94,53,
 11,165,164,144,161,126,155,89,
 115,91,116,42,147,21,17,55,
 52,20,16,136,8,9,
 3,13,34,57,28,29,69,
 22,23,138,135,4,5,6,
 71,37,73,72,101,
 74,102,75,38,31,7]
def muF:FuncId→TypeId→Bool:=fun g t=>t==69 || t==174 || t==120 || (t==33 && (g==114 || g==50 || g==59))
def sB (args:List AV) (h:AH) (q:(AV ⊕ AV)×AH):Prop:=
 ∀ (F J:Nat→Prop) (b:Nat) (G:ae) (x:VD) (r:List AV) (gv:AV) (ks:List Int),args=[.ptr b 0 0,.agg r,gv]→IsG h F J b G→G.Wf→VaA x r→SlA 3 gv (bh ks)→ks.length≤1000000→
   ∃ r' h',q=(.inl (.tup [.agg r',.int .i64 (aV ks G x).2.2]),h')∧VaA (aV ks G x).2.1 r'∧de h F J b h' (aV ks G x).1
open Classical in
noncomputable def oI (args:List AV) (h:AH):Option ((AV ⊕ AV)×AH):=
 if H:∃ q,AC Tryz.prog 113 args h q∧sB args h q then some (Classical.choose H)else none
def Gu (args:List AV) (h:AH):Option AH:=match args with
 | [.ptr mb 0 0,.agg r]=>(h.cell mb).bind fun es=>match es with
   | [[_,.msl fb 0 k _,_]]=>(h.cell fb).bind fun rows=>(rows[k - 1]?).bind fun row=>(row[6]?).bind fun s=>(aE true tV s (.msl (h.n+1) 0 1 tV) ((h.push [r]).push [r])).map fun q=>q.2.set fb (some (rows.set (k - 1) (row.set 6 q.1)))
   | _=>none
 | _=>none
open Classical in
noncomputable def DG (args:List AV) (h:AH):Option ((AV ⊕ AV)×AH):=match Gu args h with
 | some h'=>if AC Tryz.prog 114 args h (.inl (.tup []),h')then some (.inl (.tup []),h')else none
 | none=>none
def sD (L:List XD):AV:= .tup [if(bc L).1=0 then ei L else .nils,.agg [.int .i64 (bc L).1,.int .i64 (bc L).2]]
open Classical in
noncomputable def Dh (args:List AV) (h:AH):Option ((AV ⊕ AV)×AH):=
 if H:∃ L:List XD,(∃ v es,args=[.agg [v]]∧SlA tE v es∧ExL L es)∧AC Tryz.prog 40 args h (.inl (sD L),h)then some (.inl (sD (Classical.choose H)),h)else none
open Classical in
noncomputable def qx (args:List AV) (h:AH):Option ((AV ⊕ AV)×AH):=
 if H:∃ cs:List Int,(∃ b lv,args=[.ptr b 0 0]∧h.cell b=some [cs.map (.int .i64)++[lv]]∧cs.length=12)∧AC Tryz.prog 21 args h (.inl (.isl none 2 (cs.map fun x=>[.int .i64 x])),h)then some (.inl (.isl none 2 ((Classical.choose H).map fun x=>[.int .i64 x])),h)else none
open Classical in
noncomputable def tH (args:List AV) (h:AH):Option ((AV ⊕ AV)×AH):=
 if H:∃ q,AC Tryz.prog 12 args h q∧wn args h q then some (Classical.choose H)else none
noncomputable def ql:FuncId→Option (List AV→AH→Option ((AV ⊕ AV)×AH)):=fun g=>if g=113 then some oI else if g=114 then some DG else if g=40 then some Dh else if g=21 then some qx else if g=12 then some tH else none
noncomputable def po:Pol:=pa Tryz.prog muF ql KY I5
theorem Kv:po.ext 12=some tH:=by
 show ql 12=_
 unfold ql
 rw[if_neg (by decide),if_neg (by decide),if_neg (by decide),if_neg (by decide),if_pos rfl]
theorem pok:POK Tryz.prog po:=M7 (Kz (by kernel_rfl)) (by kernel_rfl) (by kernel_rfl) (fun g F h=>by
 unfold ql at h
 split at h
 ·rename_i e
  subst e
  injection h with h
  subst h
  refine⟨_,Tryz.func113,⟨by kernel_rfl,by kernel_rfl⟩,fun args h r hr=> ?_⟩
  unfold oI at hr
  split at hr
  ·rename_i H
   injection hr with hr
   rw[←hr]
   exact(Classical.choose_spec H).1
  ·cases hr
 split at h
 ·rename_i e
  subst e
  injection h with h
  subst h
  refine⟨_,Tryz.func114,⟨by kernel_rfl,by kernel_rfl⟩,fun args h r hr=> ?_⟩
  unfold DG at hr
  split at hr
  ·split at hr
   ·rename_i H
    injection hr with hr
    rw[←hr]
    exact H
   ·cases hr
  ·cases hr
 split at h
 ·rename_i e
  subst e
  injection h with h
  subst h
  refine⟨_,Tryz.func40,⟨by kernel_rfl,by kernel_rfl⟩,fun args h r hr=> ?_⟩
  unfold Dh at hr
  split at hr
  ·rename_i H
   injection hr with hr
   rw[←hr]
   exact(Classical.choose_spec H).2
  ·cases hr
 split at h
 ·rename_i e
  subst e
  injection h with h
  subst h
  refine⟨_,Tryz.func21,⟨by kernel_rfl,by kernel_rfl⟩,fun args h r hr=> ?_⟩
  unfold qx at hr
  split at hr
  ·rename_i H
   injection hr with hr
   rw[←hr]
   exact(Classical.choose_spec H).2
  ·cases hr
 split at h
 ·rename_i e
  subst e
  injection h with h
  subst h
  refine⟨_,Tryz.func12,⟨by kernel_rfl,by kernel_rfl⟩,fun args h r hr=> ?_⟩
  unfold tH at hr
  split at hr
  ·rename_i H
   injection hr with hr
   rw[←hr]
   exact(Classical.choose_spec H).1
  ·cases hr
 cases h)
def cL:Code→Code
 | .seq a _=>a
 | c=>c
def cR:Code→Code
 | .seq _ b=>b
 | c=>c
def eO:Code→Array Oper
 | .region _ ops _=>ops
 | _=> #[]
section
variable {P:Program} {po:Pol} {f:FuncId} {n nv:Nat} {vm:List Nat} {h h':AH} {t V V':List AV}
theorem bO {a:Nat} (h7:sw a n (po.nv f) nv vm=true):vm.Nodup∧∀ j s,vm[j]? =some s→(j<nv↔s<po.nv f):=by
 unfold sw at h7
 simp only[Bool.and_eq_true,decide_eq_true_eq,List.all_eq_true,List.mem_range,beq_iff_eq,bne_iff_ne,ne_eq]at h7
 obtain⟨⟨a1,a2⟩,a3⟩:=h7
 have get:∀ j s,vm[j]? =some s→j<vm.length∧vm.getD j 0=s:=fun j s hj=>⟨(List.getElem?_eq_some_iff.1 hj).1,by simp[List.getD,hj]⟩
 refine⟨?_,fun j s hj=> ?_⟩
 ·rw[List.nodup_iff_pairwise_ne,List.pairwise_iff_getElem]
  intro i j hi hj hij e
  have:=(a3 j hj).2 i hij
  apply this
  simp[List.getD,hi,hj,e]
 ·obtain⟨g1,g2⟩:=get j s hj
  have:=(a3 j g1).1.1.2
  rw[g2]at this
  exact decide_eq_decide.1 this
theorem qk (pok:POK P po) {c:Code} {l:List RS} {K:List Item} {x:AEx} (hvm:vm.Nodup∧∀ j s,vm[j]? =some s→(j<nv↔s<po.nv f)) (htr:bj P (po.mu f) (po.plan f) n vm c []=some l) (hrg:cQ (po.plan f) (po.kp f) c=true)
  (hr:aq (aj P po) nv [.ss l,.halt K] V [] h=some (x,V',h')) (rv:RV n vm [] t V []):
  ∃ t',(∀ (m:Mm) (w:World) (a:Act) (b:Frame) (cs:List Frame),WR P m h w→TR P m h t a.tmps→a.defers=b.defers→bU P (po.kp f) m h w b cs (lone (b.at a (.code c::K)) cs w) (x,t',h'))∧RV n vm [] t' V' []:=by
 obtain⟨t',e,rv'⟩:=(nB (n:=n) (f:=f) hvm.1 hvm.2 _ _ _ _ _ hr).1 [.code c,.halt K] t (.ss [c] l [.halt K] [.halt K] (by simp[trL,htr]) (.halt K [] [])) rv
 refine⟨t',fun m w a b cs hw ht hd=> ?_,rv'⟩
 exact(jx pok f _ t h _ e).good (.code c::K) (.code c _ _ hrg (.halt K [])) b cs m w a hw ht hd
theorem oP {g:FuncId} {fn:Func} {c:Code} (hf:P.funcs[g]? =some fn) (hb:fn.body=some c) (vs:List Value) (kd:CallKind):
  (Frame.enter P g vs.toArray kd).at {tmps:=(vs++replicate (fn.ntmps - vs.length) undef).toArray,defers:=[]} [.code c]=Frame.enter P g vs.toArray kd:=by
 simp[Frame.enter,Frame.at,hf,hb]
theorem nO {m:Mm} {k:Nat} {args:List AV} {vs:List Value} (hv:VRs P m h args vs):
  TR P m h (args++replicate (k - args.length) .junk) (vs++replicate (k - vs.length) undef).toArray:=by
 have hl:=hv.1
 have h2:VRs P m h (args++replicate (k - args.length) .junk) (vs++replicate (k - vs.length) undef):=by
  rw[hl]
  exact VRs.append hv ⟨by simp,fun j hj hj'=>by simp only[List.getElem_replicate];exact .junk _⟩
 refine⟨by simpa using h2.1,fun i hi=> ?_⟩
 have hi2:i<(vs++replicate (k - vs.length) undef).length:=by rw[h2.1];exact hi
 have:=h2.2 i hi hi2
 simp only[Array.getD_eq_getD_getElem?,List.getElem?_toArray,List.getElem?_eq_getElem hi2,Option.getD_some]
 exact this
theorem LO {m:Mm} {ts:Array Value} (ht:TR P m h t ts) {i:Nat} (hi:i<t.length):VR P m h (t.getD i .junk) (ts.getD i undef):=by
 have:=ht.2 i hi
 simpa[List.getD,hi]using this
end
open Go Go.RowKit
section
variable {P:Program} {po:Pol} {f:FuncId} {n nv:Nat} {vm:List Nat} {h:AH}
def mS (P:Program) (po:Pol) (f:FuncId) (n:Nat) (vm:List Nat) (args:List AV) (h:AH) (x:AEx) (V:List AV) (h2:AH):Prop:=
 ∀ (m:Mm) (w:World) (vs:List Value),WR P m h w→VRs P m h args vs→∀ cs:List Frame,∃ (bf:Frame) (t2:List AV),bf.fn=f∧bf.kind= .normal∧bf.defers=[]∧RV n vm [] t2 V []∧
   bU P (po.kp f) m h w bf cs (lone (Frame.enter P f vs.toArray .normal) cs w) (x,t2,h2)
theorem mS.start {fn:Func} {c:Code} {args:List AV} (hf:P.funcs[f]? =some fn) (hb:fn.body=some c) (hn:fn.ntmps=n)
  (rv:RV n vm [] (args++replicate (n - args.length) .junk) (args++replicate (vm.length - args.length) .junk) []):mS P po f n vm args h (.halt [.code c]) (args++replicate (vm.length - args.length) .junk) h:=by
 intro m w vs hw hvs cs
 have he:=oP hf hb vs .normal
 have ht:=nO (P:=P) (h:=h) (k:=n) hvs
 rw[hn]at he
 refine⟨Frame.enter P f vs.toArray .normal,_,by simp[Frame.enter],by simp[Frame.enter],by simp[Frame.enter],rv,m,w,Ext.refl _ _,hw,Below.refl _ _,{tmps:=_,defers:=[]},ht,?_,?_⟩
 ·simp[Frame.enter]
 ·conv=>lhs;rw[←he]
  exact .refl _ _
theorem mS.next (pok:POK P po) {c A B:Code} {l:List RS} {args V V':List AV} {h2 h3:AH} {x:AEx} (p:mS P po f n vm args h (.halt [.code c]) V h2) (hc:c= .seq A B)
  (hvm:vm.Nodup∧∀ j s,vm[j]? =some s→(j<nv↔s<po.nv f)) (htr:bj P (po.mu f) (po.plan f) n vm A []=some l) (hrg:cQ (po.plan f) (po.kp f) A=true)
  (hr:aq (aj P po) nv [.ss l,.halt [.code B]] V [] h2=some (x,V',h3)):mS P po f n vm args h x V' h3:=by
 intro m w vs hw hvs cs
 obtain⟨bf,t2,b1,b2,b3,rv,m1,w1,x1,x2,x3,a1,x4,x5,x6⟩:=p m w vs hw hvs cs
 obtain⟨t3,hp,rv3⟩:=qk pok hvm htr hrg hr rv
 have y5:=hp m1 w1 a1 bf cs x2 x4 x5
 have s0:Steps P (lone (Frame.enter P f vs.toArray .normal) cs w) (lone (bf.at a1 [.code A,.code B]) cs w1):=by
  refine x6.trans ?_
  conv=>lhs;rw[hc]
  exact .one step_seq
 exact⟨bf,t3,b1,b2,b3,rv3,bU.steps s0 (bU.after x1 x3 y5)⟩
theorem yx {fn:Func} {rs:List kU} {t V:List AV} {h:AH} {v:AV} (hres:ju P vm fn.results.toList=some rs) (rv:RV n vm [] t V []) (hv:(eS V h rs).map fC=some v):nj fn t h P=some v:=by
 unfold nj
 rw[gt (h:=h) rv hres]
 exact hv
theorem mS.ret {fn:Func} {rs:List kU} {args V:List AV} {h2:AH} {v:AV} (p:mS P po f n vm args h .ret V h2) (hf:P.funcs[f]? =some fn) (hres:ju P vm fn.results.toList=some rs) (hv:(eS V h2 rs).map fC=some v):AC P f args h (.inl v,h2):=by
 intro m w vs hw hvs cs
 obtain⟨bf,t2,b1,b2,b3,rv,m',w',x1,x2,x3,a',todo,x4,x5,x6⟩:=p m w vs hw hvs cs
 rw[b3]at x5
 obtain⟨u,h7,h8⟩:=gC x2 x4 (yx (h:=h2) hres rv hv)
 exact⟨.returned u,w',_,⟨m',x1,x2,x3,u,rfl,h8⟩,x6,b1,rfl,x5,b2,_,by simp[Frame.at,b1,hf],h7⟩
theorem Lq {t V:List AV} {i:Nat} {v:AV} (rv:RV n vm [] t V []) (hi:i ∉ vm):RV n vm [] (bI t (some i) v) V []:=by
 refine⟨by simpa[bI]using rv.len,rv.lv,rv.ll,fun j s hj=> ?_,fun j s hj=>by simp at hj⟩
 obtain⟨h1,h2⟩:=rv.v j s hj
 refine⟨h1,?_⟩
 rw[←h2]
 have hne:i≠s:=fun e=>hi (by rw[e];exact List.mem_of_getElem? hj)
 simp[bI,List.getD,List.getElem?_set,hne]
def rh (a:Act) (caps:List Nat):List Value:=caps.map fun i=>a.tmps.getD i undef
theorem NS {m:Mm} {h2:AH} {t V:List AV} {a:Act} {caps js:List Nat} (rv:RV n vm [] t V []) (ht:TR P m h2 t a.tmps) (hc:caps=js.map fun j=>vm.getD j 0) (hj:∀ j∈js,j<vm.length):
  VRs P m h2 (js.map fun j=>V.getD j .junk) (rh a caps):=by
 subst hc
 refine⟨by simp[rh],fun i h1 h2=> ?_⟩
 simp only[List.length_map]at h1
 have hlt:=hj _ (List.getElem_mem h1)
 have hs:vm[js[i]]? =some (vm.getD js[i] 0):=by simp[List.getD,hlt]
 obtain⟨q1,q2⟩:=rv.v _ _ hs
 have:=LO ht (i:=vm.getD js[i] 0) (by rw[rv.len];exact q1)
 rw[q2]at this
 simpa[rh]using this
theorem VRs.extG {m m':Mm} {h h':AH} {l:List AV} {us:List Value} (v:VRs P m h l us) (x:Ext m h m' h'):VRs P m' h' l us:=⟨v.1,fun j h1 h2=>(v.2 j h1 h2).ext x⟩
theorem Dm {P:Program} {t t':List AV} {h:AH}:∀ {l:List ResultVar},(∀ r∈l,∃ i ty,r= .cell i ty∧t.getD i .junk=t'.getD i .junk)→mR P t h l=mR P t' h l
 | [],_=>rfl
 | r::l,hl=>by
   obtain⟨i,ty,rfl,e⟩:=hl r (List.mem_cons_self ..)
   have ih:mR P t h l=mR P t' h l:=Dm fun q hq=>hl q (List.mem_cons_of_mem _ hq)
   simp only[mR,e,ih]
def Ft (fCl:FuncId) (us:List Value):Value:= .func (.func fCl) #[] us.toArray
def qm (fCl:FuncId) (us:List Value):Deferred:={target:= .fn (.func fCl) us.toArray,args:= #[]}
inductive M0 (P:Program) (fCl:FuncId) (capA:List AV) (h3 h4:AH):AEx→Prop
 | ret (cl:∀ (m:Mm) (w:World) (ps:List Value),WR P m h3 w→VRs P m h3 capA ps→CallsD P fCl ps.toArray .returning w fun e u'' w'=>(∃ v,e= .returned v)∧u''= .returning∧∃ m',Ext m h3 m' h4∧WR P m' h4 w'∧Below m.base w w'):M0 P fCl capA h3 h4 .ret
 | panic (v:AV) (cl:∀ (m:Mm) (w:World) (ps:List Value) (u:Value),WR P m h3 w→VRs P m h3 capA ps→VR P m h3 v u→CallsD P fCl ps.toArray (.panicking [{v:=u,recovered:=false}]) w fun e u'' w'=>(∃ v,e= .returned v)∧u''= .panicking [{v:=u,recovered:=true}]∧∃ m',Ext m h3 m' h4∧WR P m' h4 w'∧Below m.base w w'):M0 P fCl capA h3 h4 (.panic v)
theorem An (pok:POK P po) {fn:Func} {rs:List kU} {args V V':List AV} {h2 h3 h4:AH} {cZ cW:Code} {fCl:FuncId} {k:Nat} {caps js:List Nat} {l:List RS} {x:AEx} {r:AV} (p:mS P po f n vm args h (.halt [.code cZ]) V h2) (hf:P.funcs[f]? =some fn) (hcf:∃ fnC,P.funcs[(fCl:Nat)]? =some fnC∧(fnC.body.isNone=false∧(fnC.name== "runtime.NumGoroutine")=false))
  (hk:k ∉ vm) (hc:caps=js.map fun j=>vm.getD j 0) (hj:∀ j∈js,j<vm.length)
  (lay:∀ (bf:Frame) (a:Act) (cs:List Frame) (w:World),a.tmps.size=n→Steps P (lone (bf.at a [.code cZ]) cs w) (lone (bf.at {a.put (some k) (Ft fCl (rh a caps))with defers:=qm fCl (rh a caps)::a.defers} [.code cW]) cs w))
  (hvm:vm.Nodup∧∀ j s,vm[j]? =some s→(j<nv↔s<po.nv f)) (htr:bj P (po.mu f) (po.plan f) n vm cW []=some l) (hrg:cQ (po.plan f) (po.kp f) cW=true)
  (hr:aq (aj P po) nv [.ss l,.halt []] V [] h2=some (x,V',h3)) (hkp:∀ r∈fn.results.toList,∃ i ty,r= .cell i ty∧po.kp f i=true)
  (he:M0 P fCl (js.map fun j=>V.getD j .junk) h3 h4 x) (hres:ju P vm fn.results.toList=some rs) (hv:(eS V' h4 rs).map fC=some r):AC P f args h (.inl r,h4):=by
 intro m w vs hw hvs cs
 obtain⟨bf,t2,b1,b2,b3,rv,m2,w2,x1,x2,x3,a2,x4,x5,x6⟩:=p m w vs hw hvs cs
 rw[b3]at x5
 have hsz:a2.tmps.size=n:=by rw[x4.1,rv.len]
 have lay:=lay bf a2 cs w2 hsz
 have vc:=NS rv x4 hc hj
 generalize rh a2 caps=us at lay vc
 rw[x5]at lay
 have ht3:=x4.put (VR.junk (Ft fCl us)) (some k)
 have rv3:=Lq (i:=k) (v:= .junk) rv hk
 obtain⟨t5,hp,rv5⟩:=qk pok hvm htr hrg hr rv3
 obtain⟨m3,w3,y1,y2,y3,y4⟩:=hp m2 w2 {a2.put (some k) (Ft fCl us)with defers:=[qm fCl us]} {bf with defers:=[qm fCl us]} cs x2 ht3 rfl
 have vc3:=VRs.extG vc y1
 have ra:nj fn t5 h4 P=some r:=yx hres rv5 hv
 have inv:(invoke (.fn (.func fCl) us.toArray) #[]).run P w3= .ok (.enter fCl us.toArray) w3:=by
  obtain⟨fnC,g1,g2,g3⟩:=hcf
  have g3':¬ fnC.name= "runtime.NumGoroutine":=by simpa using g3
  have g2':¬ fnC.body=none:=by cases hb:fnC.body with | none=>rw[hb]at g2;cases g2 | some c=>simp
  simp[go_sem,callFunc,g1,g2',g3']
 have bel:∀ {m4:Mm} {w':World},Below m3.base w3 w'→Below m.base w w':=by
  intro m4 w' z3
  have q1:m2.base=m.base:=x1.base
  have q2:m3.base=m2.base:=y1.base
  rw[q2,q1]at z3
  rw[q1]at y3
  exact(x3.trans y3).trans z3
 cases he with
 | ret cl=>
   obtain⟨a5,todo,z1,z2,z3⟩:=y4
   have hlv:Leaves P fn a5.tmps (fun e w'=>∃ m',Ext m h m' h4∧WR P m' h4 w'∧Below m.base w w'∧∃ u,e= .returned u∧VR P m' h4 r u) [qm fCl us] .returning w3:=by
    refine leaves_cons (f:=fCl) (args:=us.toArray) (by simp) inv ?_
    refine(cl m3 w3 us y2 vc3).mono ?_
    rintro e u'' w' ⟨⟨v,rfl⟩,rfl,m4,n1,n2,n3⟩
    obtain⟨u,h7,h8⟩:=gC n2 (z1.ext n1) ra
    exact⟨u,h7,m4,(x1.trans y1).trans n1,n2,bel (m4:=m4) n3,u,rfl,h8⟩
   obtain⟨e,w4,fr',hR,hs,hfn,hl⟩:=leaves_steps [qm fCl us] .returning w3 {(({bf with defers:=[qm fCl us]}:Frame).at a5 todo)with mode:= .returning} cs rfl z2 rfl (by simp[Frame.at,b1,hf]) (by simpa[Frame.at]using b2) hlv
   exact⟨e,w4,fr',hR,Comes.of_steps (x6.trans (lay.trans z3)) hs,hfn.trans b1,hl⟩
 | panic v cl=>
   obtain⟨a5,todo,u,⟨tm,z0,z1⟩,z2,z4,z3⟩:=y4
   have rm:nj fn tm h4 P=some r:=by
    rw[←ra]
    unfold nj
    rw[Dm fun q hq=>by obtain⟨i,ty,e,hi⟩:=hkp q hq;exact⟨i,ty,e,z1 i hi⟩]
   have hlv:Leaves P fn a5.tmps (fun e w'=>∃ m',Ext m h m' h4∧WR P m' h4 w'∧Below m.base w w'∧∃ u,e= .returned u∧VR P m' h4 r u) [qm fCl us] (.panicking [{v:=u,recovered:=false}]) w3:=by
    refine leaves_cons (f:=fCl) (args:=us.toArray) (by simp) inv ?_
    refine(cl m3 w3 us u y2 vc3 z4).mono ?_
    rintro e u'' w' ⟨⟨v,rfl⟩,rfl,m4,n1,n2,n3⟩
    obtain⟨u2,h7,h8⟩:=gC n2 (z0.ext n1) rm
    exact⟨u2,h7,m4,(x1.trans y1).trans n1,n2,bel (m4:=m4) n3,u2,rfl,h8⟩
   obtain⟨e,w4,fr',hR,hs,hfn,hl⟩:=leaves_steps [qm fCl us] (.panicking [{v:=u,recovered:=false}]) w3 {(({bf with defers:=[qm fCl us]}:Frame).at a5 todo)with mode:= .panicking [{v:=u,recovered:=false}]} cs rfl z2 rfl (by simp[Frame.at,b1,hf]) (by simpa[Frame.at]using b2) hlv
   exact⟨e,w4,fr',hR,Comes.of_steps (x6.trans (lay.trans z3)) hs,hfn.trans b1,hl⟩
theorem Eu (c:Frame) (h:c.mode= .returning) (cs:List Frame):recoverD (c::cs)=none:=by simp[recoverD,h]
theorem AS {v:Value} (c:Frame) (h:c.mode= .panicking [{v:=v,recovered:=false}]) (cs:List Frame):recoverD (c::cs)=some (v,{c with mode:= .panicking [{v:=v,recovered:=true}]}::cs):=by simp[recoverD,h]
def FO (P:Program) (c:Code) (n s1 s2:Nat):Prop:=∀ (ts:Array Value) (v:Value) (cs cs':List Frame) (w:World),ts.size=n→(recoverD cs=some (v,cs')∨(recoverD cs=none∧v= .nilIface∧cs'=cs))→
 c.wpS P (fun e a' cs2 w'=>e= .normal∧cs2=cs'∧w'=w∧a'=(({tmps:=ts,defers:=[]}:Act).put (some s1) v).put (some s2) v) {tmps:=ts,defers:=[]} cs w
theorem clG {fnC:Func} {cC:Code} {s1 s2:Nat} (pok:POK P po) {l:List RS} {caps V V':List AV} {h':AH} {e:AV} (hf:P.funcs[f]? =some fnC) (hb:fnC.body=some cC) (hseq:cC= .seq (cL cC) (cR cC)) (hn:fnC.ntmps=n) (hr0:∀ (a:Array Value) (w:World),∃ v,(results fnC a).run P w= .ok v w)
  (hrec:FO P (cL cC) n s1 s2) (hvm:vm.Nodup∧∀ j s,vm[j]? =some s→(j<nv↔s<po.nv f)) (htr:bj P (po.mu f) (po.plan f) n vm (cR cC) []=some l) (hrg:cQ (po.plan f) (po.kp f) (cR cC)=true)
  (hr:aq (aj P po) nv [.ss l,.halt []] V [] h=some (.halt [],V',h')) (rv:RV n vm [] (bI (bI (caps++replicate (n - caps.length) .junk) (some s1) e) (some s2) e) V [])
  {m:Mm} {w:World} {ps:List Value} {v:Value} (hw:WR P m h w) (hvs:VRs P m h caps ps) (hcl:caps.length≤n) (ve:VR P m h e v) {u:FrameMode} (u':FrameMode)
  (hu':∀ c:Frame,c.mode=u→∀ cs,(recoverD (c::cs)=some (v,{c with mode:=u'}::cs))∨(recoverD (c::cs)=none∧v= .nilIface∧u'=u)):
  CallsD P f ps.toArray u w fun e u'' w'=>(∃ v,e= .returned v)∧u''=u'∧∃ m',Ext m h m' h'∧WR P m' h' w'∧Below m.base w w':=by
 intro c cs hu
 have he:=oP hf hb ps .deferred
 have ht:=nO (P:=P) (h:=h) (k:=n) hvs
 generalize hbb:Frame.enter P f ps.toArray .deferred=b at he
 have hbk:b.kind= .deferred:=by rw[←hbb];simp[Frame.enter]
 have hbf:b.fn=f:=by rw[←hbb];simp[Frame.enter]
 have hbr:b.roundOf=none:=by rw[←hbb];simp[Frame.enter]
 rw[hn]at he
 generalize ha:(ps++replicate (n - ps.length) undef).toArray=ts at he ht
 have h1:Steps P (lone b (c::cs) w) (lone (b.at {tmps:=ts,defers:=[]} [.code (cL cC),.code (cR cC)]) (c::cs) w):=by
  rw[←he]
  conv=>lhs;rw[hseq]
  exact .one step_seq
 have hsz:ts.size=n:=by
  rw[ht.1]
  simp only[List.length_append,List.length_replicate]
  omega
 have hcs:recoverD (c::cs)=some (v,{c with mode:=u'}::cs)∨(recoverD (c::cs)=none∧v= .nilIface∧({c with mode:=u'}:Frame)::cs=c::cs):=by
  rcases hu' c hu cs with h1 | ⟨h1,h2,h3⟩
  ·exact .inl h1
  ·have h4:({c with mode:=u'}:Frame)=c:=by rw[h3,←hu]
   exact .inr ⟨h1,h2,by rw[h4]⟩
 obtain⟨e1,a1,cs1,w1,⟨rfl,rfl,rfl,rfl⟩,harr⟩:=hrec ts v _ _ w hsz hcs b [.code (cR cC)] hbk hbr
 have ht1:=(ht.put (a:={tmps:=ts,defers:=[]}) ve (some s1)).put ve (some s2)
 obtain⟨t',hp,hrv⟩:=qk pok hvm htr hrg hr rv
 obtain⟨m',w',x1,x2,x3,a',x4,x5,x6⟩:=hp m w1 _ {b with defers:=[]} ({c with mode:=u'}::cs) hw ht1 rfl
 have hfin:Steps P (lone b (c::cs) w1) (lone {b.at a' []with mode:= .returning} ({c with mode:=u'}::cs) w'):=h1.trans (harr.trans (x6.trans (.one step_end)))
 obtain⟨v0,hv0⟩:=hr0 a'.tmps w'
 refine⟨.returned v0,u',w',_,⟨⟨_,rfl⟩,rfl,m',x1,x2,x3⟩,hfin,hbk,rfl,x5,fnC,?_,hv0⟩
 show P.funcs[b.fn]? =_
 rw[hbf]
 exact hf
end
def xb:List RS:=[(.ops [(.i (.v 5) (.box 3 (.v 3))),(.i (.v 6) (.box 1 (.v 4))),(.i (.v 7) (.alloc [(.int .i64 0),(.int .i64 0),.nils])),(.i (.v 8) (.alloc [(.int .i64 0)])),(.i (.v 9) (.alloc [(.int .i64 0)]))])]
def lK:List RS:=[(.block 0 [(.ops [(.i .l (.load false 1 (.v 6))),(.i .l (.bin (.int .i64) .lss (.l 0) (.c (.int .i64 0)))),(.i .l (.mv (.l 0))),(.g (.l 0) false .l (.load false 1 (.v 6))),(.g (.l 1) false .l (.bin (.int .i64) .gtr (.l 0) (.c (.int .i64 2000)))),(.i .l (.pick (.l 2) (.c (.bool true)) (.l 0))),(.i .l (.mv (.l 0))),(.g (.l 0) false .l (.mv (.v 1))),(.g (.l 1) false .l (.bin (.int .i64) .lss (.l 0) (.c (.int .i64 0)))),(.i .l (.pick (.l 2) (.c (.bool true)) (.l 0))),(.i .l (.mv (.l 0))),(.g (.l 0) false .l (.mv (.v 1))),(.g (.l 1) false .l (.bin (.int .i64) .geq (.l 0) (.c (.int .i64 4)))),(.i .l (.pick (.l 2) (.c (.bool true)) (.l 0))),(.i (.v 14) (.mv (.l 0)))]),(.cond (.v 14) [(.ops [(.i .l (.build [(.int .i64 0),(.int .i64 0),.nils] [(0,1),(1,1),(2,1)] [])),(.i .n (.store 3 (.v 7) (.l 0))),(.i .n (.store 1 (.v 8) (.c (.int .i64 0)))),(.i .n (.store 1 (.v 9) (.c (.int .i64 1))))]),.ret] [(.ops [(.i .l (.mv (.v 0))),(.i .l (.mv (.v 1))),(.i .l (.nilc (.l 1))),(.i .l (.fad 2 (.l 0))),(.i .l (.ixa none (some (4,5)) (.l 0) (.l 2))),(.i .l (.fad 0 (.l 0))),(.i .l (.load false 1 (.l 0))),(.i .l (.un .not (.l 0))),(.i .l (.mv (.l 0))),(.g (.l 0) false .l (.mv (.v 2))),(.g (.l 1) false .l (.bin (.int .i64) .lss (.l 0) (.c (.int .i64 0)))),(.i .l (.pick (.l 2) (.c (.bool true)) (.l 0))),(.i .l (.mv (.l 0))),(.g (.l 0) false .l (.mv (.v 2))),(.g (.l 1) false .l (.mv (.v 0))),(.g (.l 2) false .l (.mv (.v 1))),(.g (.l 3) false .l (.nilc (.l 1))),(.g (.l 4) false .l (.fad 2 (.l 0))),(.g (.l 5) false .l (.ixa none (some (4,5)) (.l 0) (.l 2))),(.g (.l 6) false .l (.fad 1 (.l 0))),(.g (.l 7) false .l (.load false 1 (.l 0))),(.g (.l 8) false .l (.len false (some 174) (.l 0))),(.g (.l 9) false .l (.bin (.int .i64) .geq (.l 8) (.l 0))),(.i .l (.pick (.l 10) (.c (.bool true)) (.l 0))),(.i (.v 15) (.mv (.l 0)))]),(.cond (.v 15) [(.ops [(.i .l (.build [(.int .i64 0),(.int .i64 0),.nils] [(0,1),(1,1),(2,1)] [])),(.i .n (.store 3 (.v 7) (.l 0))),(.i .n (.store 1 (.v 8) (.c (.int .i64 0)))),(.i .n (.store 1 (.v 9) (.c (.int .i64 8))))]),.ret] [])])])]
def wH:List RS:=[(.ops [(.i .l (.load true 3 (.v 5))),(.i .l (.call (.c (.fn 47 [] [])) [(.l 0)])),(.i (.v 10) (.mv (.l 0)))]),(.ops [(.i .l (.mv (.v 10))),(.i (.v 16) (.bin (.int .i64) .neq (.l 0) (.c (.int .i64 0))))]),(.cond (.v 16) [(.ops [(.i .l (.build [(.int .i64 0),(.int .i64 0),.nils] [(0,1),(1,1),(2,1)] [])),(.i .l (.mv (.v 10))),(.i .n (.store 3 (.v 7) (.l 1))),(.i .n (.store 1 (.v 8) (.c (.int .i64 0)))),(.i .n (.store 1 (.v 9) (.l 0)))]),.ret] [])]
def wT:List RS:=[(.ops [(.i .l (.mv (.v 0))),(.i .l (.load false 1 (.v 6))),(.i .l (.build [.nilp,.nils,(.int .i64 0)] [(0,1),(1,1),(2,1)] [(0,(.l 1)),(2,(.l 0))])),(.i .l (.box 3 (.l 0))),(.i (.v 11) (.alloc [.nilp])),(.i .n (.store 1 (.v 11) (.l 0)))])]
def wA:List RS:=[(.ops [(.i .l (.load false 1 (.v 11))),(.i .l (.mv (.v 1))),(.i .l (.mv (.v 2))),(.i .l (.load true 3 (.v 5))),(.i .l (.call (.c (.fn 48 [] [])) [(.l 0)])),(.ck [⟨none,false,1,(.v 11),(.l 4)⟩]),(.i .l (.build [(.int .i64 0),(.int .i64 0),(.int .i64 0),(.int .i64 0),(.int .i64 0),.nils,.nils,.nils,(.bool false),.nils] [(0,1),(1,1),(2,1),(3,3),(6,1),(7,1),(8,1),(9,1)] [(0,(.l 3)),(1,(.l 2)),(3,(.l 0))])),(.i .l (.bsl true 126 [(.int .i64 0),(.int .i64 0),(.int .i64 0),(.int .i64 0),(.int .i64 0),.nils,.nils,.nils,(.bool false),.nils] 10 1 [(0,(.l 0))])),(.ck [⟨none,false,1,(.v 11),(.l 6)⟩]),(.i .l (.nilc (.l 6))),(.i .l (.fad 1 (.l 0))),(.i .n (.store 1 (.l 0) (.l 2)))])]
def iM:List RS:=[(.block 2 [(.ops [(.i .l (.load false 1 (.v 11))),(.i .l (.call (.c (.fn 50 [] [])) [(.l 0)])),(.i .l (.mv (.l 0))),(.i .l (.ext (.l 0) 0)),(.i .l (.ext (.l 1) 1)),(.i (.v 12) (.alloc [(.int .i64 0),(.int .i64 0),.nils])),(.i .n (.store 3 (.v 12) (.l 1))),(.i (.v 13) (.mv (.l 0)))]),(.ops [(.i (.v 17) (.mv (.v 13)))]),(.cond (.v 17) [(.ops [(.i .l (.load true 3 (.v 12))),(.i .l (.load false 1 (.v 6))),(.i .l (.load false 1 (.v 11))),(.i .l (.nilc (.l 0))),(.i .l (.fad 2 (.l 0))),(.i .l (.load false 1 (.l 0))),(.i .l (.bin (.int .i64) .sub (.l 4) (.l 0))),(.i .l (.call (.c (.fn 48 [] [])) [(.l 6)])),(.ck [⟨none,false,1,(.v 6),(.l 6)⟩,⟨none,false,1,(.v 11),(.l 5)⟩,⟨none,false,1,(.l 3),(.l 2)⟩]),(.i .n (.store 3 (.v 7) (.l 0))),(.ck [⟨none,false,1,(.v 6),(.l 6)⟩,⟨none,false,1,(.v 11),(.l 5)⟩,⟨none,false,1,(.l 3),(.l 2)⟩]),(.i .n (.store 1 (.v 8) (.l 1))),(.i .n (.store 1 (.v 9) (.c (.int .i64 0))))]),.ret] [])])]
def rR:List RS:=[(.block 1 [(.loop iM)])]
def BS:List RS:=[(.ops [(.i .l (.mv (.v 5))),(.i (.v 8) (.binG .iface none true .neq (.l 0) (.c .nili)))]),(.cond (.v 8) [(.ops [(.i .l (.mv (.v 5))),(.i .l (.tas 127 true (.l 0))),(.i .l (.mv (.l 0))),(.i .l (.ext (.l 0) 0)),(.i .l (.ext (.l 1) 1)),(.i (.v 6) (.mv (.l 1))),(.i (.v 7) (.mv (.l 0)))]),(.ops [(.i .l (.mv (.v 7))),(.i (.v 9) (.un .not (.l 0)))]),(.cond (.v 9) [(.ops [(.i .l (.mv (.v 5))),(.i .n (.pan (.l 0)))])] []),(.ops [(.i .l (.build [(.int .i64 0),(.int .i64 0),.nils] [(0,1),(1,1),(2,1)] [])),(.i .l (.load false 1 (.v 0))),(.i .l (.load false 1 (.v 1))),(.i .l (.nilc (.l 0))),(.i .l (.fad 2 (.l 0))),(.i .l (.load false 1 (.l 0))),(.i .l (.bin (.int .i64) .sub (.l 4) (.l 0))),(.i .l (.mv (.v 6))),(.i .n (.store 3 (.v 2) (.l 7))),(.i .n (.store 1 (.v 3) (.l 1))),(.i .n (.store 1 (.v 4) (.l 0)))])] [])]
def sS:List RS:=[(.ops [(.i (.v 1) (.mv (.c (.int .i64 0)))),(.i (.v 2) (.mv (.c (.int .i64 0))))]),(.ops [(.i .l (.mv (.v 0))),(.i .l (.nilc (.l 0))),(.i .l (.fad 1 (.l 0))),(.i .l (.load false 1 (.l 0))),(.i .l (.len false (some 4) (.l 0))),(.i (.v 3) (.bin (.int .i64) .eql (.l 0) (.c (.int .i64 20))))]),(.cond (.v 3) [(.ops [(.i (.v 1) (.mv (.c (.int .i64 0)))),(.i (.v 2) (.mv (.c (.int .i64 11))))]),.ret] []),(.ops [(.i .l (.mv (.v 0))),(.i .l (.mv (.v 0))),(.i .l (.nilc (.l 0))),(.i .l (.fad 1 (.l 0))),(.i .l (.load false 1 (.l 0))),(.i .l (.bsl true 4 [(.bool false)] 1 1 [(0,(.c (.bool false)))])),(.i .l (.app true 4 (.l 1) (.l 0))),(.i .l (.nilc (.l 6))),(.i .l (.fad 1 (.l 0))),(.i .n (.store 1 (.l 0) (.l 2)))]),(.ops [(.i .l (.mv (.v 0))),(.i .l (.nilc (.l 0))),(.i .l (.fad 1 (.l 0))),(.i .l (.load false 1 (.l 0))),(.i .l (.len false (some 4) (.l 0))),(.i .l (.bin (.int .i64) .sub (.l 0) (.c (.int .i64 1)))),(.i (.v 1) (.mv (.l 0))),(.i (.v 2) (.mv (.c (.int .i64 0))))]),.ret]
theorem y7:FnR Tryz.prog po 63 1 4 [0,2,3,9] sS [(.v 1),(.v 2)] false:=⟨_,_,Tryz.func63,rfl,rfl,by kernel_rfl,by kernel_rfl,by kernel_rfl,by kernel_rfl,by kernel_rfl⟩
def CD:List RS:=[(.ops [(.i (.v 2) (.mv (.c (.bool false))))]),(.ops [(.i .l (.mv (.v 1))),(.i .l (.bin (.int .i64) .geq (.l 0) (.c (.int .i64 0)))),(.i .l (.mv (.l 0))),(.g (.l 0) true .l (.mv (.v 1))),(.g (.l 1) true .l (.mv (.v 0))),(.g (.l 2) true .l (.nilc (.l 0))),(.g (.l 3) true .l (.fad 1 (.l 0))),(.g (.l 4) true .l (.load false 1 (.l 0))),(.g (.l 5) true .l (.len false (some 4) (.l 0))),(.g (.l 6) true .l (.bin (.int .i64) .lss (.l 5) (.l 0))),(.i .l (.pick (.l 7) (.l 0) (.c (.bool false)))),(.i (.v 2) (.mv (.l 0)))]),.ret]
theorem Kh:FnR Tryz.prog po 98 2 3 [0,1,4] CD [(.v 2)] true:=⟨_,_,Tryz.func98,rfl,rfl,by kernel_rfl,by kernel_rfl,by kernel_rfl,by kernel_rfl,by kernel_rfl⟩
def xq:List RS:=[(.ops [(.i (.v 2) (.mv (.c (.int .i64 0))))]),(.ops [(.i .l (.mv (.v 0))),(.i .l (.mv (.v 1))),(.i .l (.call (.c (.fn 98 [] [])) [(.l 1),(.l 0)])),(.i (.v 3) (.un .not (.l 0)))]),(.cond (.v 3) [(.ops [(.i (.v 2) (.mv (.c (.int .i64 8))))]),.ret] []),(.ops [(.i .l (.mv (.v 0))),(.i .l (.nilc (.l 0))),(.i .l (.fad 1 (.l 0))),(.i .l (.load false 1 (.l 0))),(.i .l (.mv (.v 1))),(.i .l (.ixa (some 4) none (.l 1) (.l 0))),(.i .n (.store 1 (.l 0) (.c (.bool true))))]),(.ops [(.i (.v 2) (.mv (.c (.int .i64 0))))]),.ret]
theorem Da:FnR Tryz.prog po 62 2 4 [0,1,4,8] xq [(.v 2)] false:=⟨_,_,Tryz.func62,rfl,rfl,by kernel_rfl,by kernel_rfl,by kernel_rfl,by kernel_rfl,by kernel_rfl⟩
def xV:List RS:=[(.ops [(.i (.v 2) (.mv (.c (.bool false))))]),(.ops [(.i .l (.mv (.v 0))),(.i .l (.mv (.v 1))),(.i .l (.call (.c (.fn 98 [] [])) [(.l 1),(.l 0)])),(.i .l (.mv (.l 0))),(.g (.l 0) true .l (.mv (.v 0))),(.g (.l 1) true .l (.nilc (.l 0))),(.g (.l 2) true .l (.fad 1 (.l 0))),(.g (.l 3) true .l (.load false 1 (.l 0))),(.g (.l 4) true .l (.mv (.v 1))),(.g (.l 5) true .l (.ixa (some 4) none (.l 1) (.l 0))),(.g (.l 6) true .l (.load false 1 (.l 0))),(.g (.l 7) true .l (.un .not (.l 0))),(.i .l (.pick (.l 8) (.l 0) (.c (.bool false)))),(.i (.v 2) (.mv (.l 0)))]),.ret]
theorem H8:FnR Tryz.prog po 159 2 3 [0,1,4] xV [(.v 2)] true:=⟨_,_,Tryz.func159,rfl,rfl,by kernel_rfl,by kernel_rfl,by kernel_rfl,by kernel_rfl,by kernel_rfl⟩
def Cl:List RS:=[(.ops [(.i (.v 2) (.mv (.c (.bool false))))]),(.ops [(.i .l (.mv (.v 1))),(.i .l (.bin (.int .i64) .geq (.l 0) (.c (.int .i64 0)))),(.i .l (.mv (.l 0))),(.g (.l 0) true .l (.mv (.v 1))),(.g (.l 1) true .l (.mv (.v 0))),(.g (.l 2) true .l (.nilc (.l 0))),(.g (.l 3) true .l (.fad 0 (.l 0))),(.g (.l 4) true .l (.load false 1 (.l 0))),(.g (.l 5) true .l (.len false (some 132) (.l 0))),(.g (.l 6) true .l (.bin (.int .i64) .lss (.l 5) (.l 0))),(.i .l (.pick (.l 7) (.l 0) (.c (.bool false)))),(.i (.v 2) (.mv (.l 0)))]),.ret]
theorem JM:FnR Tryz.prog po 112 2 3 [0,1,4] Cl [(.v 2)] true:=⟨_,_,Tryz.func112,rfl,rfl,by kernel_rfl,by kernel_rfl,by kernel_rfl,by kernel_rfl,by kernel_rfl⟩
def ki:List RS:=[(.ops [(.i (.v 2) (.box 6 (.v 1))),(.i (.v 3) (.mv (.c (.int .i64 0)))),(.i (.v 4) (.mv (.c (.int .i64 0))))]),(.block 0 [(.ops [(.i .l (.fad 2 (.v 2))),(.i .l (.load false 1 (.l 0))),(.i .l (.call (.c (.fn 120 [] [])) [(.l 0)])),(.i .l (.un .not (.l 0))),(.i (.v 5) (.mv (.l 0)))]),(.cond (.v 5) [(.ops [(.i (.v 3) (.mv (.c (.int .i64 0)))),(.i (.v 4) (.mv (.c (.int .i64 1))))]),.ret] [(.ops [(.i .l (.fad 1 (.v 2))),(.i .l (.load false 1 (.l 0))),(.i .l (.bin (.int .i64) .neq (.l 0) (.c (.int .i64 (-1))))),(.i .l (.mv (.l 0))),(.g (.l 0) true .l (.mv (.v 0))),(.g (.l 1) true .l (.fad 1 (.v 2))),(.g (.l 2) true .l (.load false 1 (.l 0))),(.g (.l 3) true .l (.call (.c (.fn 98 [] [])) [(.l 2),(.l 0)])),(.g (.l 4) true .l (.un .not (.l 0))),(.i .l (.pick (.l 5) (.l 0) (.c (.bool false)))),(.i (.v 6) (.mv (.l 0)))]),(.cond (.v 6) [(.ops [(.i (.v 3) (.mv (.c (.int .i64 0)))),(.i (.v 4) (.mv (.c (.int .i64 8))))]),.ret] [(.ops [(.i .l (.mv (.v 0))),(.i .l (.nilc (.l 0))),(.i .l (.fad 0 (.l 0))),(.i .l (.load false 1 (.l 0))),(.i .l (.len false (some 132) (.l 0))),(.i .l (.bin (.int .i64) .eql (.l 0) (.c (.int .i64 80)))),(.i (.v 7) (.mv (.l 0)))]),(.cond (.v 7) [(.ops [(.i (.v 3) (.mv (.c (.int .i64 0)))),(.i (.v 4) (.mv (.c (.int .i64 11))))]),.ret] [])])])]),(.ops [(.i .l (.mv (.v 0))),(.i .l (.mv (.v 0))),(.i .l (.nilc (.l 0))),(.i .l (.fad 0 (.l 0))),(.i .l (.load false 1 (.l 0))),(.i .l (.load true 6 (.v 2))),(.i .l (.bsl false 132 [(.int .i64 0),(.int .i64 0),(.int .i64 0),(.int .i64 0),(.int .i64 0),(.int .i64 0)] 6 1 [(0,(.l 0))])),(.ck [⟨none,false,1,(.l 3),(.l 2)⟩]),(.i .l (.app false 132 (.l 2) (.l 0))),(.i .l (.nilc (.l 7))),(.i .l (.fad 0 (.l 0))),(.i .n (.store 1 (.l 0) (.l 2)))]),(.ops [(.i .l (.mv (.v 0))),(.i .l (.nilc (.l 0))),(.i .l (.fad 0 (.l 0))),(.i .l (.load false 1 (.l 0))),(.i .l (.len false (some 132) (.l 0))),(.i .l (.bin (.int .i64) .sub (.l 0) (.c (.int .i64 1)))),(.i (.v 3) (.mv (.l 0))),(.i (.v 4) (.mv (.c (.int .i64 0))))]),.ret]
theorem mi:FnR Tryz.prog po 97 2 8 [0,1,3,4,5,6,11,22] ki [(.v 3),(.v 4)] false:=⟨_,_,Tryz.func97,rfl,rfl,by kernel_rfl,by kernel_rfl,by kernel_rfl,by kernel_rfl,by kernel_rfl⟩
def th:List RS:=[(.ops [(.i (.v 4) (.mv (.c (.int .i64 0)))),(.i (.v 5) (.mv (.c (.int .i64 0))))]),(.ops [(.i .l (.mv (.v 1))),(.i .l (.call (.c (.fn 96 [] [])) [(.l 0)])),(.i (.v 6) (.un .not (.l 0)))]),(.cond (.v 6) [(.ops [(.i (.v 4) (.mv (.c (.int .i64 0)))),(.i (.v 5) (.mv (.c (.int .i64 1))))]),.ret] []),(.ops [(.i .l (.mv (.v 0))),(.i .l (.mv (.v 3))),(.i .l (.mv (.v 2))),(.i .l (.mv (.v 1))),(.i .l (.build [(.int .i64 0),(.int .i64 0),(.int .i64 0),(.int .i64 0),(.int .i64 0),(.int .i64 0)] [(0,1),(1,1),(2,1),(3,1),(4,1),(5,1)] [(0,(.c (.int .i64 (-1)))),(1,(.l 2)),(2,(.l 1)),(3,(.l 0)),(4,(.c (.int .i64 (-1))))])),(.i .l (.call (.c (.fn 97 [] [])) [(.l 4),(.l 0)])),(.i .l (.ext (.l 0) 0)),(.i .l (.ext (.l 1) 1)),(.i (.v 4) (.mv (.l 1))),(.i (.v 5) (.mv (.l 0)))]),.ret]
theorem Ap:FnR Tryz.prog po 58 4 7 [0,1,2,3,8,9,12] th [(.v 4),(.v 5)] false:=⟨_,_,Tryz.func58,rfl,rfl,by kernel_rfl,by kernel_rfl,by kernel_rfl,by kernel_rfl,by kernel_rfl⟩
def sk:List RS:=[(.ops [(.i (.v 5) (.mv (.c (.int .i64 0)))),(.i (.v 6) (.mv (.c (.int .i64 0))))]),(.ops [(.i .l (.mv (.v 1))),(.i .l (.bin (.int .i64) .lss (.l 0) (.c (.int .i64 0)))),(.i .l (.mv (.l 0))),(.g (.l 0) false .l (.mv (.v 1))),(.g (.l 1) false .l (.bin (.int .i64) .geq (.l 0) (.c (.int .i64 4)))),(.i .l (.pick (.l 2) (.c (.bool true)) (.l 0))),(.i .l (.mv (.l 0))),(.g (.l 0) false .l (.mv (.v 2))),(.g (.l 1) false .l (.bin (.int .i64) .lss (.l 0) (.c (.int .i64 0)))),(.i .l (.pick (.l 2) (.c (.bool true)) (.l 0))),(.i .l (.mv (.l 0))),(.g (.l 0) false .l (.mv (.v 2))),(.g (.l 1) false .l (.bin (.int .i64) .geq (.l 0) (.c (.int .i64 6)))),(.i (.v 7) (.pick (.l 2) (.c (.bool true)) (.l 0)))]),(.cond (.v 7) [(.ops [(.i (.v 5) (.mv (.c (.int .i64 0)))),(.i (.v 6) (.mv (.c (.int .i64 1))))]),.ret] []),(.ops [(.i .l (.mv (.v 0))),(.i .l (.mv (.v 4))),(.i .l (.mv (.v 3))),(.i .l (.mv (.v 1))),(.i .l (.mv (.v 2))),(.i .l (.build [(.int .i64 0),(.int .i64 0),(.int .i64 0),(.int .i64 0),(.int .i64 0),(.int .i64 0)] [(0,1),(1,1),(2,1),(3,1),(4,1),(5,1)] [(0,(.c (.int .i64 (-1)))),(1,(.l 3)),(2,(.l 2)),(4,(.l 1)),(5,(.l 0))])),(.i .l (.call (.c (.fn 97 [] [])) [(.l 5),(.l 0)])),(.i .l (.ext (.l 0) 0)),(.i .l (.ext (.l 1) 1)),(.i (.v 5) (.mv (.l 1))),(.i (.v 6) (.mv (.l 0)))]),.ret]
theorem Am:FnR Tryz.prog po 60 5 8 [0,1,2,3,4,10,11,25] sk [(.v 5),(.v 6)] false:=⟨_,_,Tryz.func60,rfl,rfl,by kernel_rfl,by kernel_rfl,by kernel_rfl,by kernel_rfl,by kernel_rfl⟩
def na:List RS:=[(.ops [(.i (.v 4) (.mv (.c (.int .i64 0)))),(.i (.v 5) (.mv (.c (.int .i64 0))))]),(.ops [(.i .l (.mv (.v 0))),(.i .l (.mv (.v 1))),(.i .l (.call (.c (.fn 112 [] [])) [(.l 1),(.l 0)])),(.i (.v 6) (.un .not (.l 0)))]),(.cond (.v 6) [(.ops [(.i (.v 4) (.mv (.c (.int .i64 0)))),(.i (.v 5) (.mv (.c (.int .i64 8))))]),.ret] []),(.ops [(.i .l (.mv (.v 0))),(.i .l (.mv (.v 1))),(.i .l (.mv (.v 3))),(.i .l (.mv (.v 2))),(.i .l (.build [(.int .i64 0),(.int .i64 0),(.int .i64 0),(.int .i64 0),(.int .i64 0),(.int .i64 0)] [(0,1),(1,1),(2,1),(3,1),(4,1),(5,1)] [(0,(.l 2)),(1,(.l 1)),(2,(.l 0)),(4,(.c (.int .i64 (-1))))])),(.i .l (.call (.c (.fn 97 [] [])) [(.l 4),(.l 0)])),(.i .l (.ext (.l 0) 0)),(.i .l (.ext (.l 1) 1)),(.i (.v 4) (.mv (.l 1))),(.i (.v 5) (.mv (.l 0)))]),.ret]
theorem sr:FnR Tryz.prog po 84 4 7 [0,1,2,3,8,9,13] na [(.v 4),(.v 5)] false:=⟨_,_,Tryz.func84,rfl,rfl,by kernel_rfl,by kernel_rfl,by kernel_rfl,by kernel_rfl,by kernel_rfl⟩
def jt:List RS:=[(.ops [(.i .l (.mv (.v 0))),(.i .l (.mv (.v 1))),(.i (.v 4) (.call (.c (.fn 112 [] [])) [(.l 1),(.l 0)]))]),(.cond (.v 4) [] [(.exit 0)]),(.block 1 [(.ops [(.i .l (.mv (.v 3))),(.i .l (.mv (.v 0))),(.i .l (.nilc (.l 0))),(.i .l (.fad 0 (.l 0))),(.i .l (.load false 1 (.l 0))),(.i .l (.mv (.v 1))),(.i .l (.ixa (some 132) none (.l 1) (.l 0))),(.i .l (.load true 6 (.l 0))),(.i .l (.bsl false 132 [(.int .i64 0),(.int .i64 0),(.int .i64 0),(.int .i64 0),(.int .i64 0),(.int .i64 0)] 6 1 [(0,(.l 0))])),(.i .l (.app false 132 (.l 8) (.l 0))),(.i (.v 3) (.mv (.l 0)))]),(.ops [(.i .l (.mv (.v 0))),(.i .l (.nilc (.l 0))),(.i .l (.fad 0 (.l 0))),(.i .l (.load false 1 (.l 0))),(.i .l (.mv (.v 1))),(.i .l (.ixa (some 132) none (.l 1) (.l 0))),(.i .l (.fad 0 (.l 0))),(.i .l (.load false 1 (.l 0))),(.i (.v 1) (.mv (.l 0)))])])]
def Aq:List RS:=[(.ops [(.i (.v 2) (.mv (.c .nils)))]),(.ops [(.i (.v 3) (.mv (.c .nils)))]),(.block 0 [(.loop jt)]),(.ops [(.i .l (.mv (.v 3))),(.i (.v 2) (.mv (.l 0)))]),.ret]
theorem HA:FnR Tryz.prog po 158 2 5 [0,1,4,5,8] Aq [(.v 2)] true:=⟨_,_,Tryz.func158,rfl,rfl,by kernel_rfl,by kernel_rfl,by kernel_rfl,by kernel_rfl,by kernel_rfl⟩
def fe:List RS:=[(.ops [(.i (.v 9) (.bin (.int .i64) .lss (.v 8) (.v 7)))]),(.cond (.v 9) [] [(.exit 0)]),(.block 1 [(.ops [(.i .l (.mv (.v 8))),(.i .l (.ixa (some 132) none (.v 6) (.v 8))),(.i .l (.load true 6 (.l 0))),(.i (.v 5) (.alloc [(.int .i64 0),(.int .i64 0),(.int .i64 0),(.int .i64 0),(.int .i64 0),(.int .i64 0)])),(.i (.v 4) (.mv (.l 2))),(.i .n (.store 6 (.v 5) (.l 0)))]),(.ops [(.i .l (.fad 1 (.v 5))),(.i .l (.load false 1 (.l 0))),(.i .l (.bin (.int .i64) .geq (.l 0) (.c (.int .i64 0)))),(.i .l (.mv (.l 0))),(.g (.l 0) true .l (.mv (.v 0))),(.g (.l 1) true .l (.fad 1 (.v 5))),(.g (.l 2) true .l (.load false 1 (.l 0))),(.g (.l 3) true .l (.call (.c (.fn 159 [] [])) [(.l 2),(.l 0)])),(.g (.l 4) true .l (.un .not (.l 0))),(.i (.v 10) (.pick (.l 5) (.l 0) (.c (.bool false))))]),(.cond (.v 10) [(.ops [(.i (.v 2) (.mv (.c (.int .i64 0))))]),.ret] []),(.ops [(.i .l (.mv (.v 4))),(.i (.v 11) (.bin (.int .i64) .eql (.l 0) (.c (.int .i64 0))))]),(.cond (.v 11) [(.ops [(.i (.v 3) (.mv (.c (.int .i64 15))))])] []),(.ops [(.i .l (.mv (.v 3))),(.i .l (.fad 2 (.v 5))),(.i .l (.load false 1 (.l 0))),(.i .l (.call (.c (.fn 160 [] [])) [(.l 2),(.l 0)])),(.i (.v 3) (.mv (.l 0)))])]),(.ops [(.i .l (.bin (.int .i64) .add (.v 8) (.c (.int .i64 1)))),(.i (.v 8) (.mv (.l 0)))])]
def sf:List RS:=[(.ops [(.i (.v 2) (.mv (.c (.int .i64 0))))]),(.ops [(.i (.v 3) (.mv (.c (.int .i64 0))))]),(.ops [(.i .l (.mv (.v 0))),(.i .l (.mv (.v 1))),(.i (.v 6) (.call (.c (.fn 158 [] [])) [(.l 1),(.l 0)])),(.i (.v 7) (.len false (some 132) (.v 6))),(.i (.v 8) (.mv (.c (.int .i64 0))))]),(.block 0 [(.loop fe)]),(.ops [(.i .l (.mv (.v 3))),(.i (.v 2) (.mv (.l 0)))]),.ret]
theorem BO:FnR Tryz.prog po 145 2 12 [0,1,4,5,6,7,10,11,12,13,26,28] sf [(.v 2)] true:=⟨_,_,Tryz.func145,rfl,rfl,by kernel_rfl,by kernel_rfl,by kernel_rfl,by kernel_rfl,by kernel_rfl⟩
def sg:List RS:=[(.ops [(.i (.v 2) (.alloc [(.int .i64 0),(.int .i64 0),(.int .i64 0),(.int .i64 0),(.int .i64 0),(.int .i64 0)])),(.i (.v 3) (.mv (.c (.bool false))))]),(.ops [(.i .l (.mv (.v 0))),(.i .l (.mv (.v 1))),(.i .l (.call (.c (.fn 158 [] [])) [(.l 1),(.l 0)])),(.i (.v 4) (.mv (.l 0)))]),(.ops [(.i .l (.mv (.v 4))),(.i .l (.len false (some 132) (.l 0))),(.i (.v 5) (.bin (.int .i64) .eql (.l 0) (.c (.int .i64 0))))]),(.cond (.v 5) [(.ops [(.i .l (.build [(.int .i64 0),(.int .i64 0),(.int .i64 0),(.int .i64 0),(.int .i64 0),(.int .i64 0)] [(0,1),(1,1),(2,1),(3,1),(4,1),(5,1)] [])),(.i .n (.store 6 (.v 2) (.l 0))),(.i (.v 3) (.mv (.c (.bool false))))]),.ret] []),(.ops [(.i .l (.mv (.v 4))),(.i .l (.mv (.v 4))),(.i .l (.len false (some 132) (.l 0))),(.i .l (.bin (.int .i64) .sub (.l 0) (.c (.int .i64 1)))),(.i .l (.ixa (some 132) none (.l 3) (.l 0))),(.i .l (.load true 6 (.l 0))),(.i .n (.store 6 (.v 2) (.l 0))),(.i (.v 3) (.mv (.c (.bool true))))]),.ret]
theorem AD:FnR Tryz.prog po 162 2 6 [0,1,4,5,6,12] sg [(.cell true 6 2),(.v 3)] true:=⟨_,_,Tryz.func162,rfl,rfl,by kernel_rfl,by kernel_rfl,by kernel_rfl,by kernel_rfl,by kernel_rfl⟩
def iD:List RS:=[(.ops [(.i (.v 8) (.bin (.int .i64) .lss (.v 7) (.v 6)))]),(.cond (.v 8) [] [(.exit 0)]),(.block 1 [(.ops [(.i .l (.ixa (some 132) none (.v 5) (.v 7))),(.i .l (.load true 6 (.l 0))),(.i (.v 4) (.alloc [(.int .i64 0),(.int .i64 0),(.int .i64 0),(.int .i64 0),(.int .i64 0),(.int .i64 0)])),(.i .n (.store 6 (.v 4) (.l 0)))]),(.ops [(.i .l (.fad 1 (.v 4))),(.i .l (.load false 1 (.l 0))),(.i (.v 9) (.bin (.int .i64) .geq (.l 0) (.c (.int .i64 0))))]),(.cond (.v 9) [(.ops [(.i .l (.mv (.v 3))),(.i .l (.fad 1 (.v 4))),(.i .l (.load false 1 (.l 0))),(.i .l (.bsl false 3 [(.int .i64 0)] 1 1 [(0,(.l 0))])),(.i .l (.app false 3 (.l 3) (.l 0))),(.i (.v 3) (.mv (.l 0)))])] [])]),(.ops [(.i .l (.bin (.int .i64) .add (.v 7) (.c (.int .i64 1)))),(.i (.v 7) (.mv (.l 0)))])]
def vS:List RS:=[(.ops [(.i (.v 2) (.mv (.c .nils)))]),(.ops [(.i (.v 3) (.mv (.c .nils)))]),(.ops [(.i .l (.mv (.v 0))),(.i .l (.mv (.v 1))),(.i (.v 5) (.call (.c (.fn 158 [] [])) [(.l 1),(.l 0)])),(.i (.v 6) (.len false (some 132) (.v 5))),(.i (.v 7) (.mv (.c (.int .i64 0))))]),(.block 0 [(.loop iD)]),(.ops [(.i .l (.mv (.v 3))),(.i (.v 2) (.mv (.l 0)))]),.ret]
theorem FB:FnR Tryz.prog po 150 2 10 [0,1,4,5,7,10,11,12,13,18] vS [(.v 2)] true:=⟨_,_,Tryz.func150,rfl,rfl,by kernel_rfl,by kernel_rfl,by kernel_rfl,by kernel_rfl,by kernel_rfl⟩
def uQ:List RS:=[(.ops [(.i (.v 1) (.mv (.c .nils)))]),(.ops [(.i .l (.mv (.v 0))),(.i .l (.nilc (.l 0))),(.i .l (.fad 0 (.l 0))),(.i .l (.load false 1 (.l 0))),(.i .l (.call (.c (.fn 51 [] [])) [(.l 0)])),(.i (.v 1) (.mv (.l 0)))]),.ret]
theorem Fa:FnR Tryz.prog po 15 1 2 [0,2] uQ [(.v 1)] true:=⟨_,_,Tryz.func15,rfl,rfl,by kernel_rfl,by kernel_rfl,by kernel_rfl,by kernel_rfl,by kernel_rfl⟩
def D0:List RS:=[(.ops [(.i (.v 0) (.mv (.c .nilp)))]),(.ops [(.i .l (.build [.nils,.nils] [(0,1),(1,1)] [])),(.i .l (.box 2 (.l 0))),(.i (.v 0) (.mv (.l 0)))]),.ret]
theorem JI:FnR Tryz.prog po 76 0 1 [0] D0 [(.v 0)] false:=⟨_,_,Tryz.func76,rfl,rfl,by kernel_rfl,by kernel_rfl,by kernel_rfl,by kernel_rfl,by kernel_rfl⟩
def pz:List RS:=[(.ops [(.i (.v 1) (.mv (.c .nils)))]),(.ops [(.i .l (.mv (.v 0))),(.i (.v 2) (.bin .slice .eql (.l 0) (.c .nils)))]),(.cond (.v 2) [(.ops [(.i (.v 1) (.mv (.c .nils)))]),.ret] []),(.ops [(.i .l (.bsl false 132 [(.int .i64 0),(.int .i64 0),(.int .i64 0),(.int .i64 0),(.int .i64 0),(.int .i64 0)] 6 0 [])),(.i .l (.mv (.v 0))),(.i .l (.app false 132 (.l 1) (.l 0))),(.i (.v 1) (.mv (.l 0)))]),.ret]
theorem vV:FnR Tryz.prog po 51 1 3 [0,2,4] pz [(.v 1)] true:=⟨_,_,Tryz.func51,rfl,rfl,by kernel_rfl,by kernel_rfl,by kernel_rfl,by kernel_rfl,by kernel_rfl⟩
def DR:List RS:=[(.ops [(.i (.v 1) (.mv (.c (.bool false))))]),(.ops [(.i .l (.mv (.v 0))),(.i .l (.bin (.int .i64) .geq (.l 0) (.c (.int .i64 0)))),(.i .l (.mv (.l 0))),(.g (.l 0) true .l (.mv (.v 0))),(.g (.l 1) true .l (.bin (.int .i64) .lss (.l 0) (.c (.int .i64 12)))),(.i .l (.pick (.l 2) (.l 0) (.c (.bool false)))),(.i (.v 1) (.mv (.l 0)))]),.ret]
theorem Jp:FnR Tryz.prog po 96 1 2 [0,2] DR [(.v 1)] true:=⟨_,_,Tryz.func96,rfl,rfl,by kernel_rfl,by kernel_rfl,by kernel_rfl,by kernel_rfl,by kernel_rfl⟩
def DE:List RS:=[(.ops [(.i (.v 2) (.mv (.c (.bool false))))]),(.ops [(.i .l (.mv (.v 1))),(.i .l (.bin (.int .i64) .geq (.l 0) (.c (.int .i64 0)))),(.i .l (.mv (.l 0))),(.g (.l 0) true .l (.mv (.v 1))),(.g (.l 1) true .l (.mv (.v 0))),(.g (.l 2) true .l (.nilc (.l 0))),(.g (.l 3) true .l (.fad 1 (.l 0))),(.g (.l 4) true .l (.load false 1 (.l 0))),(.g (.l 5) true .l (.len false (some 4) (.l 0))),(.g (.l 6) true .l (.bin (.int .i64) .lss (.l 5) (.l 0))),(.i .l (.pick (.l 7) (.l 0) (.c (.bool false)))),(.i (.v 2) (.mv (.l 0)))]),.ret]
theorem J8:FnR Tryz.prog po 100 2 3 [0,1,4] DE [(.v 2)] true:=⟨_,_,Tryz.func100,rfl,rfl,by kernel_rfl,by kernel_rfl,by kernel_rfl,by kernel_rfl,by kernel_rfl⟩
def kE:List RS:=[(.ops [(.i (.v 2) (.box 6 (.v 1))),(.i (.v 3) (.mv (.c (.int .i64 0)))),(.i (.v 4) (.mv (.c (.int .i64 0))))]),(.ops [(.i .l (.fad 2 (.v 2))),(.i .l (.load false 1 (.l 0))),(.i .l (.bin (.int .i64) .lss (.l 0) (.c (.int .i64 0)))),(.i .l (.mv (.l 0))),(.g (.l 0) false .l (.fad 2 (.v 2))),(.g (.l 1) false .l (.load false 1 (.l 0))),(.g (.l 2) false .l (.bin (.int .i64) .gtr (.l 0) (.c (.int .i64 15)))),(.i (.v 5) (.pick (.l 3) (.c (.bool true)) (.l 0)))]),(.cond (.v 5) [(.ops [(.i (.v 3) (.mv (.c (.int .i64 0)))),(.i (.v 4) (.mv (.c (.int .i64 1))))]),.ret] []),(.ops [(.i .l (.fad 1 (.v 2))),(.i .l (.load false 1 (.l 0))),(.i .l (.bin (.int .i64) .neq (.l 0) (.c (.int .i64 (-1))))),(.i .l (.mv (.l 0))),(.g (.l 0) true .l (.mv (.v 0))),(.g (.l 1) true .l (.fad 1 (.v 2))),(.g (.l 2) true .l (.load false 1 (.l 0))),(.g (.l 3) true .l (.call (.c (.fn 100 [] [])) [(.l 2),(.l 0)])),(.g (.l 4) true .l (.un .not (.l 0))),(.i (.v 6) (.pick (.l 5) (.l 0) (.c (.bool false))))]),(.cond (.v 6) [(.ops [(.i (.v 3) (.mv (.c (.int .i64 0)))),(.i (.v 4) (.mv (.c (.int .i64 8))))]),.ret] []),(.ops [(.i .l (.mv (.v 0))),(.i .l (.nilc (.l 0))),(.i .l (.fad 0 (.l 0))),(.i .l (.load false 1 (.l 0))),(.i .l (.len false (some 132) (.l 0))),(.i (.v 7) (.bin (.int .i64) .geq (.l 0) (.c (.int .i64 80))))]),(.cond (.v 7) [(.ops [(.i (.v 3) (.mv (.c (.int .i64 0)))),(.i (.v 4) (.mv (.c (.int .i64 11))))]),.ret] []),(.ops [(.i .l (.mv (.v 0))),(.i .l (.mv (.v 0))),(.i .l (.nilc (.l 0))),(.i .l (.fad 0 (.l 0))),(.i .l (.load false 1 (.l 0))),(.i .l (.load true 6 (.v 2))),(.i .l (.bsl false 132 [(.int .i64 0),(.int .i64 0),(.int .i64 0),(.int .i64 0),(.int .i64 0),(.int .i64 0)] 6 1 [(0,(.l 0))])),(.ck [⟨none,false,1,(.l 3),(.l 2)⟩]),(.i .l (.app false 132 (.l 2) (.l 0))),(.i .l (.nilc (.l 7))),(.i .l (.fad 0 (.l 0))),(.i .n (.store 1 (.l 0) (.l 2)))]),(.ops [(.i .l (.mv (.v 0))),(.i .l (.nilc (.l 0))),(.i .l (.fad 0 (.l 0))),(.i .l (.load false 1 (.l 0))),(.i .l (.len false (some 132) (.l 0))),(.i .l (.bin (.int .i64) .sub (.l 0) (.c (.int .i64 1)))),(.i (.v 3) (.mv (.l 0))),(.i (.v 4) (.mv (.c (.int .i64 0))))]),.ret]
theorem l6:FnR Tryz.prog po 99 2 8 [0,1,3,4,5,13,23,29] kE [(.v 3),(.v 4)] false:=⟨_,_,Tryz.func99,rfl,rfl,by kernel_rfl,by kernel_rfl,by kernel_rfl,by kernel_rfl,by kernel_rfl⟩
def rT:List RS:=[(.ops [(.i (.v 4) (.mv (.c (.int .i64 0)))),(.i (.v 5) (.mv (.c (.int .i64 0))))]),(.ops [(.i .l (.mv (.v 1))),(.i .l (.bin (.int .i64) .lss (.l 0) (.c (.int .i64 0)))),(.i .l (.mv (.l 0))),(.g (.l 0) false .l (.mv (.v 1))),(.g (.l 1) false .l (.bin (.int .i64) .geq (.l 0) (.c (.int .i64 12)))),(.i (.v 6) (.pick (.l 2) (.c (.bool true)) (.l 0)))]),(.cond (.v 6) [(.ops [(.i (.v 4) (.mv (.c (.int .i64 0)))),(.i (.v 5) (.mv (.c (.int .i64 1))))]),.ret] []),(.ops [(.i .l (.mv (.v 0))),(.i .l (.mv (.v 3))),(.i .l (.mv (.v 2))),(.i .l (.mv (.v 1))),(.i .l (.build [(.int .i64 0),(.int .i64 0),(.int .i64 0),(.int .i64 0),(.int .i64 0),(.int .i64 0)] [(0,1),(1,1),(2,1),(3,1),(4,1),(5,1)] [(0,(.c (.int .i64 (-1)))),(1,(.l 2)),(2,(.l 1)),(3,(.l 0)),(4,(.c (.int .i64 (-1))))])),(.i .l (.call (.c (.fn 99 [] [])) [(.l 4),(.l 0)])),(.i .l (.ext (.l 0) 0)),(.i .l (.ext (.l 1) 1)),(.i (.v 4) (.mv (.l 1))),(.i (.v 5) (.mv (.l 0)))]),.ret]
theorem Az:FnR Tryz.prog po 66 4 7 [0,1,2,3,8,9,15] rT [(.v 4),(.v 5)] false:=⟨_,_,Tryz.func66,rfl,rfl,by kernel_rfl,by kernel_rfl,by kernel_rfl,by kernel_rfl,by kernel_rfl⟩
open Go.RowKit
theorem K3 (y:BitVec 64):((y &&& 1#64).toInt==1)=y.getLsbD 0:=by
 have h:(y &&& 1#64).toNat=y.toNat % 2:=by
  rw[BitVec.toNat_and]
  exact Nat.and_one_is_mod _
 have hb:y.getLsbD 0=decide (y.toNat % 2=1):=by
  rw[BitVec.getLsbD,Nat.testBit_zero]
 rw[hb,Bool.eq_iff_iff,beq_iff_eq,decide_eq_true_eq,BitVec.toInt_eq_toNat_cond,h]
 split<;>omega
theorem qt (x:BitVec 64) {k:Nat} (hk:k<64):d9 x.toInt k=x.getLsbD k:=by
 unfold d9
 have e:x.toInt / 2 ^ k=(x.sshiftRight k).toInt:=by
  rw[BitVec.toInt_sshiftRight,Int.shiftRight_eq_div_pow]
  simp
 rw[e,tO,nZ]
 show((_ &&& 1#64).toInt==1)=_
 rw[K3,BitVec.getLsbD_sshiftRight]
 simp
 omega
open Go.RowKit
def ae.wayF (G:ae):Nat→Int→List Int
 | 0,_=>[]
 | f+1,i=>if G.has i then i::G.wayF f (G.nodes.getD i.toNat bQ).parent else[]
def ae.way (G:ae) (i:Int):List Int:=G.wayF (i.toNat+1) i
def ae.at_ (G:ae) (i:Int):aY:=G.nodes.getD i.toNat bQ
theorem ae.wayF_more {G:ae} (h:G.Wf):∀ (f:Nat) (i:Int),i.toNat<f→G.wayF f i=G.way i:=by
 intro f
 induction f using Nat.strongRecOn with
 | _ f ih=>
   intro i hi
   cases f with
   | zero=>omega
   | succ f=>
     unfold ae.way
     by_cases hh:G.has i=true
     ·have ok:=h.get hh
      have hp:=ok.p0
      have hp1:=ok.p1
      have hi0:0≤i:=by simp[ae.has]at hh;exact hh.1
      unfold ae.wayF
      rw[if_pos hh,if_pos hh]
      congr 1
      generalize (G.nodes.getD i.toNat bQ).parent=p at*
      by_cases hpn:p<0
      ·have hno:G.has p=false:=by simp[ae.has];omega
       cases f with
       | zero=>cases hn:i.toNat<;>simp[ae.wayF,hno]
       | succ f=>cases hn:i.toNat<;>simp[ae.wayF,hno]
      ·have e1:=ih f (by omega) p (by omega)
       rw[e1]
       rcases Nat.lt_or_ge i.toNat (f+1)with h2 | h2
       ·have e2:=ih i.toNat (by omega) p (by omega)
        rw[e2]
       ·omega
     ·cases f<;>simp[ae.wayF,hh]
theorem ae.way_yes {G:ae} (h:G.Wf) {i:Int} (hi:G.has i=true):G.way i=i::G.way (G.nodes.getD i.toNat bQ).parent:=by
 have ok:=h.get hi
 have hp1:=ok.p1
 have hp0:=ok.p0
 have hi0:0≤i:=by simp[ae.has]at hi;exact hi.1
 rw[ae.way,ae.wayF,if_pos hi]
 congr 1
 generalize (G.nodes.getD i.toNat bQ).parent=p at*
 by_cases hpn:p<0
 ·have hno:G.has p=false:=by simp[ae.has];omega
  unfold ae.way
  cases i.toNat<;>simp[ae.wayF,hno]
 ·exact ae.wayF_more h _ _ (by omega)
theorem ae.way_no {G:ae} {i:Int} (hi:G.has i=false):G.way i=[]:=by
 rw[ae.way,ae.wayF,hi]
 rfl
theorem ae.wayF_path {G:ae}:∀ (f:Nat) (i:Int),(G.wayF f i).map G.at_=G.pathF f i:=by
 intro f
 induction f with
 | zero=>intro i;rfl
 | succ f ih=>
   intro i
   unfold ae.wayF ae.pathF
   split
   ·rw[List.map_cons,ih]
    rfl
   ·rfl
theorem ae.way_path {G:ae} (i:Int):(G.way i).map G.at_=G.path i:=ae.wayF_path _ _
theorem ae.wayF_has {G:ae}:∀ (f:Nat) (i:Int),∀ k∈G.wayF f i,G.has k=true:=by
 intro f
 induction f with
 | zero=>intro i k hk;simp[ae.wayF]at hk
 | succ f ih=>
   intro i k hk
   unfold ae.wayF at hk
   split at hk
   ·rcases List.mem_cons.1 hk with rfl | hk
    ·assumption
    ·exact ih _ k hk
   ·simp at hk
theorem ae.way_has {G:ae} (i:Int):∀ k∈G.way i,G.has k=true:=ae.wayF_has _ _
theorem tC (P:List aY) (hP:∀ n∈P,fx n.rights=true) (v:BitVec 64):P.foldl (fun r n=>fJ r n.rights) v.toInt=(P.foldl (fun v n=>v &&& BitVec.ofInt 64 n.rights) v).toInt:=by
 induction P generalizing v with
 | nil=>rfl
 | cons n P ih=>
   rw[List.foldl_cons,List.foldl_cons]
   have e:fJ v.toInt n.rights=(v &&& BitVec.ofInt 64 n.rights).toInt:=by
    unfold fJ
    rw[tO,nZ]
   rw[e,ih (fun m hm=>hP m (by simp[hm]))]
theorem Ia (P:List aY) (v:BitVec 64) (k:Nat):(P.foldl (fun v n=>v &&& BitVec.ofInt 64 n.rights) v).getLsbD k=(v.getLsbD k && P.all fun n=>(BitVec.ofInt 64 n.rights).getLsbD k):=by
 induction P generalizing v with
 | nil=>simp
 | cons n P ih=>
   rw[List.foldl_cons,ih,BitVec.getLsbD_and,List.all_cons,Bool.and_assoc]
theorem Ji {a:Int} (h:fx a=true):a=(BitVec.ofInt 64 a).toInt:=by
 have h':0≤a∧a≤15:=by simpa[fx]using h
 rw[BitVec.toInt_ofInt,Int.bmod_def]
 split<;>omega
theorem EE (n:aY):(aL n).length=6:=rfl
theorem D8 (n:aY):(aL n).all AV.one=true:=rfl
theorem JR (n:aY):(aL n)[0]? =some (.int .i64 n.parent):=rfl
theorem JU (n:aY):(aL n)[1]? =some (.int .i64 n.gate):=rfl
theorem Lv (n:aY):(aL n)[2]? =some (.int .i64 n.rights):=rfl
theorem KU (n:aY):(aL n)[3]? =some (.int .i64 n.cell):=rfl
theorem JD (n:aY):(aL n)[4]? =some (.int .i64 n.plugin):=rfl
theorem Lm (n:aY):(aL n)[5]? =some (.int .i64 n.func):=rfl
theorem fI:(∀ n,(aL n).length=6)∧(∀ n,(aL n).all AV.one=true)∧(∀ n:aY,(aL n)[0]? =some (.int .i64 n.parent))∧(∀ n:aY,(aL n)[1]? =some (.int .i64 n.gate))∧(∀ n:aY,(aL n)[2]? =some (.int .i64 n.rights))∧(∀ n:aY,(aL n)[3]? =some (.int .i64 n.cell))∧
  (∀ n:aY,(aL n)[4]? =some (.int .i64 n.plugin))∧(∀ n:aY,(aL n)[5]? =some (.int .i64 n.func)):=⟨EE,D8,JR,JU,Lv,KU,JD,Lm⟩
theorem nS.isL {h:AH} {J:Nat→Prop} {e:TypeId} {v:AV} {rows:List (List AV)} (g:nS h J e v rows):IsL e v rows:=by
 rcases g with⟨rfl,rfl⟩ | ⟨id,_,_,_,_,rfl⟩
 ·exact iP e
 ·exact kA _ _ _
theorem oV.len {h:AH} {F:Nat→Prop} {b:Nat} {e:TypeId} {v:AV} {rows:List (List AV)} (g:oV h F b e v rows):dH v=some rows.length∧∀ s,du s (some e) v=true:=by
 rcases g with⟨rfl,rfl⟩ | ⟨q,_,_,_,_,rfl⟩
 ·exact⟨rfl,fun s=>rfl⟩
 ·exact⟨rfl,fun s=>jW⟩
theorem nS.grew {h h':AH} {J:Nat→Prop} {e:TypeId} {v:AV} {rows:List (List AV)} (g:nS h J e v rows) (x:af h h'):nS h' J e v rows:=by
 rcases g with h1 | ⟨id,h1,h0,h2,h3,h4⟩
 ·exact .inl h1
 ·exact .inr ⟨id,h1,h0,Nat.lt_of_lt_of_le h2 x.ids,(x.hw id h2).trans h3,h4⟩
theorem oV.grew {h h':AH} {F:Nat→Prop} {b:Nat} {e:TypeId} {v:AV} {rows:List (List AV)} (g:oV h F b e v rows) (x:af h h'):oV h' F b e v rows:=by
 rcases g with h1 | ⟨q,h1,h2,h3,h4,h5⟩
 ·exact .inl h1
 ·exact .inr ⟨q,h1,h2,Nat.lt_of_lt_of_le h3 x.n,(x.cell q h3).trans h4,h5⟩
theorem IsG.grew {h h':AH} {F J:Nat→Prop} {b:Nat} {G:ae} (g:IsG h F J b G) (x:af h h'):IsG h' F J b G:=by
 obtain⟨nv,sv,h1,h2,h3⟩:=g.ex
 exact⟨⟨g.hb.1,Nat.lt_of_lt_of_le g.hb.2 x.n⟩,⟨fun k hk=>Nat.lt_of_lt_of_le (g.lt.1 k hk) x.n,fun j hj=>Nat.lt_of_lt_of_le (g.lt.2 j hj) x.ids⟩,nv,sv,(x.cell b g.hb.2).trans h1,h2.grew x,h3.grew x⟩
theorem CG {h:AH} {F:Nat→Prop} {b:Nat} {sv:AV} {l:List Bool} (g:oV h F b tB sv (l.map fun x=>[.bool x])) {m:Nat} (hm:m<l.length):
  ∃ q,bX (some tB) none sv (.int .i64 (m:Int))=some (.ptr q m 0)∧h.cell q=some (l.map fun x=>[.bool x])∧(l.map fun x=>[AV.bool x])[m]? =some [.bool (l.getD m false)]∧F q∧q≠b∧q<h.n∧sv= .msl q 0 l.length tB:=by
 rcases g with⟨h1,_⟩ | ⟨q,h1,h2,h3,h4,rfl⟩
 ·simp at h1;subst h1;simp at hm
 ·exact⟨q,by simp[bX,hm],h4,by simp[hm,List.getD],h1,h2,h3,by simp⟩
theorem ae.gate_nat {G:ae} {k:Int} (hh:G.hasGate k=true):∃ m:Nat,k=m∧m<G.shut.length:=by
 simp[ae.hasGate]at hh
 exact⟨k.toNat,by omega,by omega⟩
theorem ae.has_nn {G:ae} {k:Int} (hh:G.has k=true):0≤k:=by simp[ae.has]at hh;exact hh.1
theorem ae.node_nat {G:ae} {k:Int} (hh:G.has k=true):∃ m:Nat,k=m∧m<G.nodes.length∧(G.nodes.map aL)[m]? =some (aL (G.nodes.getD m bQ)):=by
 simp[ae.has]at hh
 have hl:k.toNat<G.nodes.length:=by omega
 exact⟨k.toNat,by omega,hl,by simp[hl,List.getD]⟩
section
variable {h:AH} {F J:Nat→Prop} {b:Nat} {G:ae}
theorem Al (g:IsG h F J b G) (k:Int):aj Tryz.prog po 98 [.ptr b 0 0,.int .i64 k] h=some (.inl (.bool (G.hasGate k)),h):=by
 obtain⟨nv,sv,h1, -,h3⟩:=g.ex
 refine ah Kh rfl ?_;unfold CD
 by_cases h0:0≤k<;>simp only[sim,ag,reduceAdd,reduceSub,replicate,reduceCtorEq,reduceLeDiff,reduceLT,aa,h0,h1,h3.len.1,h3.len.2,oe,ae.hasGate,List.length_map]
theorem Og (g:IsG h F J b G) (k:Int):aj Tryz.prog po 100 [.ptr b 0 0,.int .i64 k] h=some (.inl (.bool (G.hasGate k)),h):=by
 obtain⟨nv,sv,h1, -,h3⟩:=g.ex
 refine ah J8 rfl ?_;unfold DE
 by_cases h0:0≤k<;>simp only[sim,ag,reduceAdd,reduceSub,replicate,reduceCtorEq,reduceLeDiff,reduceLT,aa,h0,h1,h3.len.1,h3.len.2,oe,ae.hasGate,List.length_map]
theorem AA (g:IsG h F J b G) (k:Int):aj Tryz.prog po 112 [.ptr b 0 0,.int .i64 k] h=some (.inl (.bool (G.has k)),h):=by
 obtain⟨nv,sv,h1,h2, -⟩:=g.ex
 refine ah JM rfl ?_;unfold Cl
 by_cases h0:0≤k<;>simp only[sim,ag,reduceAdd,reduceSub,replicate,reduceCtorEq,reduceLeDiff,reduceLT,aa,h0,h1,h2.isL.len,h2.isL.fits,oe,ae.has,List.length_map]
theorem M2 (g:IsG h F J b G) (k:Int):aj Tryz.prog po 159 [.ptr b 0 0,.int .i64 k] h=some (.inl (.bool (G.isOpen k)),h):=by
 obtain⟨nv,sv,h1, -,h3⟩:=g.ex
 refine ah H8 rfl ?_;unfold xV
 cases hh:G.hasGate k
 ·simp only[sim,ag,reduceAdd,reduceSub,replicate,reduceCtorEq,reduceLeDiff,reduceLT,aa,Al g,hh,ae.isOpen]
 ·obtain⟨m,rfl,hm⟩:=ae.gate_nat hh
  obtain⟨q,e1,e2,e3, -⟩:=CG h3 hm
  simp only[sim,ag,reduceAdd,reduceSub,replicate,reduceCtorEq,reduceLeDiff,reduceLT,aa,Al g,hh,h1,e1,e2,e3,ae.isOpen,Int.toNat_natCast]
theorem Cd (g:IsG h F J b G) (hW:G.Wf) (rest:List RS):∀ (f:Nat) (i:Int) (acc:List aY) (h':AH) (v tt:AV),i+1≤f→(G.has i=true→acc.length+i.toNat<200)→Acc h h' tN v (acc.map aL)→af h h'→
  ∃ h'' v' i' t,aq (aj Tryz.prog po) 5 [.lp jt,.ss [],.blk 0,.ss rest] [.ptr b 0 0,.int .i64 i,.nils,v,tt] [] h'=aq (aj Tryz.prog po) 5 [.ss rest] [.ptr b 0 0,i',.nils,v',t] [] h''∧Acc h h'' tN v' ((acc++G.path i).map aL)∧af h h'':=by
 intro f
 induction f with
 | zero=>
   intro i acc h' v tt hi hf ha hg
   have g':=g.grew hg
   have hh:G.has i=false:=by simp[ae.has];omega
   rw[aF jt.eq_1]
   refine⟨h',v,.int .i64 i,.bool false,?_,by rw[ae.path_no hh,List.append_nil];exact ha,hg⟩
   simp only[sim,ag,reduceAdd,reduceSub,replicate,reduceCtorEq,reduceLeDiff,reduceLT,aa,AA g',hh]
 | succ f ih=>
   intro i acc h' v tt hi hf ha hg
   have g':=g.grew hg
   obtain⟨nv,sv,h1,h2, -⟩:=g'.ex
   rw[aF jt.eq_1]
   cases hh:G.has i
   ·refine⟨h',v,.int .i64 i,.bool false,?_,by rw[ae.path_no hh,List.append_nil];exact ha,hg⟩
    simp only[sim,ag,reduceAdd,reduceSub,replicate,reduceCtorEq,reduceLeDiff,reduceLT,aa,AA g',hh]
   ·obtain⟨m,rfl,hm,hm2⟩:=ae.node_nat hh
    have hf:=hf hh
    have hix:=h2.isL.ix .i64 m _ hm2
    obtain⟨v',h2',e1,a1,a2,a3,a4⟩:=lW ha hg (row:=aL (G.nodes.getD m bQ)) rfl (by simp;omega)
    simp only[sim,ag,reduceAdd,reduceSub,replicate,reduceCtorEq,reduceLeDiff,reduceLT,aa,AA g',hh,h1,hix,e1,a3,fI]
    have ok:=hW.get hh
    have hp:=ok.p1
    have hp0:=ok.p0
    simp only[Int.toNat_natCast]at hp hp0 hf
    obtain⟨h'',w',i',t,r1,r2,r3⟩:=ih (G.nodes.getD m bQ).parent (acc++[G.nodes.getD m bQ]) h2' v' (.bool true) (by omega) (by
     intro hpp
     have:=ae.has_nn hpp
     simp only[List.length_append,List.length_singleton]
     omega) (by simpa using a1) a2
    refine⟨h'',w',i',t,r1,?_,r3⟩
    rw[ae.path_yes hW hh]
    simpa using r2
theorem ae.path_few {G:ae} (hW:G.Wf) (i:Int):(G.path i).length≤81:=by
 have key:∀ (f:Nat) (i:Int),(G.pathF f i).length≤f:=by
  intro f
  induction f with
  | zero=>intro i;simp[ae.pathF]
  | succ f ih=>
    intro i
    unfold ae.pathF
    split
    ·have:=ih (G.nodes.getD i.toNat bQ).parent
     rw[List.length_cons]
     omega
    ·simp
 by_cases hh:G.has i=true
 ·have:=key (i.toNat+1) i
  simp[ae.has]at hh
  have:=hW.few
  unfold ae.path
  omega
 ·rw[ae.path_no (by simpa using hh)]
  simp
theorem mO (l:List aY):∀ r∈l.map aL,r.all lz=true:=by
 intro r hr
 obtain⟨n,_,rfl⟩:=List.mem_map.1 hr
 rfl
theorem Ev (l:List Int):∀ r∈l.map (fun x=>[AV.int .i64 x]),r.all lz=true:=by
 intro r hr
 obtain⟨n,_,rfl⟩:=List.mem_map.1 hr
 rfl
theorem Cg (g:IsG h F J b G) (hW:G.Wf) (i:Int):aj Tryz.prog po 158 [.ptr b 0 0,.int .i64 i] h=some (.inl (dD tN ((G.path i).map aL)),h):=by
 refine ah HA rfl ?_;unfold Aq
 obtain⟨h'',v',i',t,r1,r2,r3⟩:=Cd g hW [.ops [(.i .l (.mv (.v 3))),(.i (.v 2) (.mv (.l 0)))],.ret] (i+1).toNat i [] h .nils .junk (by omega) (by
  intro hh
  have:=hW.few
  simp[ae.has]at hh
  simp;omega) (kH _ _ _) (af.refl h)
 simp only[sim,ag,reduceAdd,reduceSub,replicate,reduceCtorEq,reduceLeDiff,reduceLT,aa,r1,aA r3 (sc r2 (mO _))]
end
def pD:List RS:=[(.ops [(.i (.v 1) (.mv (.c (.bool false))))]),(.ops [(.i .l (.mv (.v 0))),(.i .l (.bin (.int .i64) .geq (.l 0) (.c (.int .i64 0)))),(.i .l (.mv (.l 0))),(.g (.l 0) true .l (.mv (.v 0))),(.g (.l 1) true .l (.bin (.int .i64) .leq (.l 0) (.c (.int .i64 15)))),(.i .l (.pick (.l 2) (.l 0) (.c (.bool false)))),(.i (.v 1) (.mv (.l 0)))]),.ret]
theorem vL:FnR Tryz.prog po 120 1 2 [0,2] pD [(.v 1)] true:=⟨_,_,Tryz.func120,rfl,rfl,by kernel_rfl,by kernel_rfl,by kernel_rfl,by kernel_rfl,by kernel_rfl⟩
def zk:List RS:=[(.ops [(.i (.v 2) (.mv (.c (.int .i64 0))))]),(.ops [(.i .l (.mv (.v 0))),(.i .l (.mv (.v 1))),(.i .l (.bin (.int .i64) .and (.l 1) (.l 0))),(.i (.v 2) (.mv (.l 0)))]),.ret]
theorem G5:FnR Tryz.prog po 160 2 3 [0,1,4] zk [(.v 2)] true:=⟨_,_,Tryz.func160,rfl,rfl,by kernel_rfl,by kernel_rfl,by kernel_rfl,by kernel_rfl,by kernel_rfl⟩
section
variable {h:AH} {F J:Nat→Prop} {b:Nat} {G:ae}
theorem I2 (x y:Int):aj Tryz.prog po 160 [.int .i64 x,.int .i64 y] h=some (.inl (.int .i64 (fJ x y)),h):=by
 refine ah G5 rfl ?_;unfold zk
 simp only[sim,ag,reduceAdd,reduceSub,replicate,reduceCtorEq,reduceLeDiff,reduceLT,aa]
 rfl
theorem mh (x:Int):aj Tryz.prog po 120 [.int .i64 x] h=some (.inl (.bool (fx x)),h):=by
 refine ah vL rfl ?_;unfold pD
 by_cases h0:0≤x<;>simp only[sim,ag,reduceAdd,reduceSub,replicate,reduceCtorEq,reduceLeDiff,reduceLT,aa,h0,fx]
theorem CB (x:Int):aj Tryz.prog po 96 [.int .i64 x] h=some (.inl (.bool (ge x)),h):=by
 refine ah Jp rfl ?_;unfold DR
 by_cases h0:0≤x<;>simp only[sim,ag,reduceAdd,reduceSub,replicate,reduceCtorEq,reduceLeDiff,reduceLT,aa,h0,ge]
def cN (G:ae):Bool→Int→List aY→Int
 | _,r,[]=>r
 | first,r,n::l=>if eG G n then 0 else cN G false (fJ (if first then 15 else r) n.rights) l
theorem kR (G:ae):∀ (l:List aY) (r:Int),cN G false r l=if l.any (eG G)then 0 else l.foldl (fun r n=>fJ r n.rights) r
 | [],r=>rfl
 | n::l,r=>by
   simp only[cN,List.any_cons,List.foldl_cons,Bool.false_eq_true,if_false]
   rw[kR G l]
   by_cases hc:eG G n=true<;>simp[hc]
theorem tX (G:ae) (i:Int):cN G true 0 (G.path i)=G.rights i:=by
 unfold ae.rights
 cases hp:G.path i with
 | nil=>simp[cN]
 | cons n l=>
   simp only[cN,if_true,kR,reduceCtorEq,false_or,List.any_cons,List.foldl_cons]
   cases hc:eG G n<;>simp
theorem xg (g:IsG h F J b G) (v1 p:AV) (P:List aY) (hp:IsL tN p (P.map aL)) (hP:P.length≤1000):∀ (l pre:List aY) (r:Int) (h':AH) (v4 v5 t1 t2 t3:AV),P=pre++l→af h h'→
  cFR true [.v 2] h (aq (aj Tryz.prog po) 12 [.lp fe,.ss [],.blk 0,.ss [.ops [(.i .l (.mv (.v 3))),(.i (.v 2) (.mv (.l 0)))],.ret]] [.ptr b 0 0,v1,.int .i64 0,.int .i64 r,v4,v5,p,.int .i64 P.length,.int .i64 pre.length,t1,t2,t3] [] h')=
   some (.inl (.int .i64 (cN G pre.isEmpty r l)),h):=by
 intro l
 induction l with
 | nil=>
   intro pre r h' v4 v5 t1 t2 t3 e hg
   rw[aF fe.eq_1]
   have:¬ ((pre.length:Int)<(P.length:Int)):=by rw[e];simp
   simp only[sim,ag,reduceAdd,reduceSub,replicate,reduceCtorEq,reduceLeDiff,reduceLT,aa,this,cN,aA hg (rfl:wkA (.int .i64 r)=_)]
 | cons n l ih=>
   intro pre r h' v4 v5 t1 t2 t3 e hg
   rw[aF fe.eq_1]
   have hlt:(pre.length:Int)<(P.length:Int):=by rw[e];simp;omega
   have hix:=hp.ix .i64 pre.length (aL n) (by rw[e];simp)
   have hg2:af h (h'.push [aL n]):=hg.trans (af.push _ _)
   have hw:=w64 (n:=(pre.length:Int)+1) (by omega) (by omega)
   have gO:=M2 (g.grew hg2)
   have hemp:pre.isEmpty=decide ((pre.length:Int)=0):=by cases pre<;>simp<;>omega
   have fin:∀ (r':Int) (v4 v5 t1 t2 t3:AV),cFR true [.v 2] h (aq (aj Tryz.prog po) 12 [.lp fe,.ss [],.blk 0,.ss [.ops [(.i .l (.mv (.v 3))),(.i (.v 2) (.mv (.l 0)))],.ret]] [.ptr b 0 0,v1,.int .i64 0,.int .i64 r',v4,v5,p,.int .i64 P.length,.int .i64 ((pre.length:Int)+1),t1,t2,t3] [] (h'.push [aL n]))=some (.inl (.int .i64 (cN G false r' l)),h):=by
    intro r' v4 v5 t1 t2 t3
    have:=ih (pre++[n]) r' (h'.push [aL n]) v4 v5 t1 t2 t3 (by simp[e]) hg2
    have e1:(pre++[n]).isEmpty=false:=by cases pre<;>rfl
    have e2:((pre++[n]).length:Int)=(pre.length:Int)+1:=by simp
    rw[e1,e2]at this
    exact this
   by_cases h0:0≤n.gate
   ·cases hO:G.isOpen n.gate
    ·have hc:eG G n=true:=by simp[eG,h0,hO]
     simp only[sim,ag,reduceAdd,reduceSub,replicate,reduceCtorEq,reduceLeDiff,reduceLT,aa,hlt,hix,fI,h0,gO,hO,cN,hc,aA hg2 (rfl:wkA (.int .i64 0)=_)]
    ·have hc:eG G n=false:=by simp[eG,hO]
     cases hz:decide ((pre.length:Int)=0)<;>simp only[sim,ag,reduceAdd,reduceSub,replicate,reduceCtorEq,reduceLeDiff,reduceLT,aa,hlt,hix,fI,h0,gO,hO,cN,hc,I2,hw,hz,hemp,fin]
   ·have hc:eG G n=false:=by simp[eG,h0]
    cases hz:decide ((pre.length:Int)=0)<;>simp only[sim,ag,reduceAdd,reduceSub,replicate,reduceCtorEq,reduceLeDiff,reduceLT,aa,hlt,hix,fI,h0,gO,cN,hc,I2,hw,hz,hemp,fin]
theorem zu (g:IsG h F J b G) (hW:G.Wf) (i:Int):aj Tryz.prog po 145 [.ptr b 0 0,.int .i64 i] h=some (.inl (.int .i64 (G.rights i)),h):=by
 refine ah BO rfl ?_;unfold sf
 have hl:=kq tN ((G.path i).map aL)
 have hloop:=xg g (.int .i64 i) (dD tN ((G.path i).map aL)) (G.path i) hl (by have:=ae.path_few hW i;omega) (G.path i) [] 0 h .junk .junk .junk .junk .junk rfl (af.refl h)
 simp only[List.length_nil,Int.natCast_zero,List.isEmpty_nil,tX]at hloop
 simp only[sim,ag,reduceAdd,reduceSub,replicate,reduceCtorEq,reduceLeDiff,reduceLT,aa,Cg g hW,hl.len,hl.fits,List.length_map]
 exact hloop
theorem A0 (id:Option Nat) (rows:List (List AV)) (hf:∀ r∈rows,r.all AV.one=true∧r.all lz=true) (hl:rows.length≤1000):
  aj Tryz.prog po 51 [.isl id tN rows] h=some (.inl (.isl none tN rows),h):=by
 refine ah vV rfl ?_;unfold pz
 have e1:aE false tN (.isl (some h.ids) tN []) (.isl id tN rows) (h.fresh 0)=some (.isl (some h.ids) tN rows,if rows.length=0 then h.fresh 0 else(h.fresh 0).grow h.ids rows.length):=by
  simp only[aE,bL,if_true,Option.bind_some]
  by_cases hz:rows.length=0
  ·simp[hz,kT,List.length_eq_zero_iff.1 hz]
  ·rw[if_neg hz,if_neg hz]
   unfold eo
   rw[if_pos ⟨by omega,by omega,by rw[List.all_eq_true];exact fun r hr=>(hf r hr).1⟩]
   simp[jR]
 have hg:af h (if rows.length=0 then h.fresh 0 else(h.fresh 0).grow h.ids rows.length):=by
  split
  ·exact af.fresh h 0
  ·exact(af.fresh h 0).grow (Nat.le_refl _)
 have hw:wkA (.isl (some h.ids) tN rows)=some (.isl none tN rows):=by
  simp only[wkA,jd fun r hr=>(hf r hr).2,Option.map_some]
 simp only[sim,ag,reduceAdd,reduceSub,replicate,reduceCtorEq,reduceLeDiff,reduceLT,aa,e1,aA hg hw]
theorem BF:aj Tryz.prog po 51 [.nils] h=some (.inl .nils,h):=by
 refine ah vV rfl ?_;unfold pz
 simp only[sim,ag,reduceAdd,reduceSub,replicate,reduceCtorEq,reduceLeDiff,reduceLT,aa]
 exact aA (af.refl h) rfl
theorem KV (g:IsG h F J b G) (hW:G.Wf):aj Tryz.prog po 15 [.ptr b 0 0] h=some (.inl (dD tN (G.nodes.map aL)),h):=by
 obtain⟨nv,sv,h1,h2, -⟩:=g.ex
 refine ah Fa rfl ?_;unfold uQ
 rcases h2 with⟨e1,rfl⟩ | ⟨id,_,e0,_,_,rfl⟩
 ·simp only[sim,ag,reduceAdd,reduceSub,replicate,reduceCtorEq,reduceLeDiff,reduceLT,aa,h1,BF]
  rw[e1]
  exact aA (af.refl h) rfl
 ·have hc:=A0 (h:=h) (some id) (G.nodes.map aL) (fun r hr=>⟨by obtain⟨n,_,rfl⟩:=List.mem_map.1 hr;rfl,mO _ r hr⟩) (by have:=hW.few;simp;omega)
  have hw:wkA (.isl none tN (G.nodes.map aL))=some (dD tN (G.nodes.map aL)):=by
   simp only[wkA,jd (mO _),Option.map_some,dD,if_neg e0]
  simp only[sim,ag,reduceAdd,reduceSub,replicate,reduceCtorEq,reduceLeDiff,reduceLT,aa,h1,hc,aA (af.refl h) hw]
theorem GI (g:IsG h F J b G) (hW:G.Wf) (i:Int):aj Tryz.prog po 162 [.ptr b 0 0,.int .i64 i] h=some (.inl (.tup [.agg (aL (G.target i).1),.bool (G.target i).2]),h):=by
 refine ah AD rfl ?_;unfold sg
 have hl:=kq tN ((G.path i).map aL)
 have hw:∀ (n:aY) (x:Bool),wkA (.tup [.agg (aL n),.bool x])=some (.tup [.agg (aL n),.bool x]):=fun n x=>rfl
 have gp:=Cg (g.grew (af.push h [[.int .i64 0,.int .i64 0,.int .i64 0,.int .i64 0,.int .i64 0,.int .i64 0]])) hW
 have hg1:∀ n:aY,af h (h.push [aL n]):=fun n=>af.push _ _
 have hd:∀ m:Nat,IntKind.wrap .i64 (m:Int)=m→True:=fun _ _=>trivial
 rcases List.eq_nil_or_concat (G.path i)with hz | ⟨pre,n,hz⟩
 ·have ht:G.target i=(bQ,false):=by simp[ae.target,hz]
  rw[ht]
  have hlen:(G.path i).length=0:=by rw[hz];rfl
  simp only[sim,ag,reduceAdd,reduceSub,replicate,reduceCtorEq,reduceLeDiff,reduceLT,aa,gp,hl.len,hl.fits,List.length_map,hlen,Int.natCast_zero]
  exact aA (hg1 bQ) (hw bQ false)
 ·rw[List.concat_eq_append]at hz
  have ht:G.target i=(n,true):=by
   unfold ae.target
   rw[hz]
   simp[List.getLastD_eq_getLast?]
  have hx:¬ (((pre.length+1:Nat):Int)=0):=by omega
  have hs:IntKind.wrap .i64 (((pre.length+1:Nat):Int) - 1)=(pre.length:Int):=by rw[w64]<;>(have:=ae.path_few hW i;rw[hz]at this;simp at this;omega)
  have hix:=hl.ix .i64 pre.length (aL n) (by rw[hz];simp)
  rw[ht]
  have hlen:(G.path i).length=pre.length+1:=by rw[hz];simp
  simp only[sim,ag,reduceAdd,reduceSub,replicate,reduceCtorEq,reduceLeDiff,reduceLT,aa,gp,hl.len,hl.fits,List.length_map,hlen,hx,hs,hix,fI]
  exact aA (hg1 n) (hw n true)
theorem z8 (p:AV) (P:List aY) (hp:IsL tN p (P.map aL)) (hP:P.length≤1000) (v0 v1:AV):∀ (l pre:List aY) (h':AH) (v v4 t1 t2:AV),P=pre++l→af h h'→Acc h h' 3 v ((et pre).map fun x=>[.int .i64 x])→
  cFR true [.v 2] h (aq (aj Tryz.prog po) 10 [.lp iD,.ss [],.blk 0,.ss [.ops [(.i .l (.mv (.v 3))),(.i (.v 2) (.mv (.l 0)))],.ret]] [v0,v1,.nils,v,v4,p,.int .i64 P.length,.int .i64 pre.length,t1,t2] [] h')=
   some (.inl (dD 3 ((et P).map fun x=>[.int .i64 x])),h):=by
 intro l
 induction l with
 | nil=>
   intro pre h' v v4 t1 t2 e hg ha
   rw[aF iD.eq_1]
   have hlt:¬ ((pre.length:Int)<(P.length:Int)):=by rw[e];simp
   rw[List.append_nil]at e
   rw[←e]at ha
   simp only[sim,ag,reduceAdd,reduceSub,replicate,reduceCtorEq,reduceLeDiff,reduceLT,aa,hlt,aA hg (sc ha (Ev _))]
 | cons n l ih=>
   intro pre h' v v4 t1 t2 e hg ha
   rw[aF iD.eq_1]
   have hlt:(pre.length:Int)<(P.length:Int):=by rw[e];simp;omega
   have hix:=hp.ix .i64 pre.length (aL n) (by rw[e];simp)
   have hg2:af h (h'.push [aL n]):=hg.trans (af.push _ _)
   have hw:=w64 (n:=(pre.length:Int)+1) (by omega) (by omega)
   have e2:((pre++[n]).length:Int)=(pre.length:Int)+1:=by simp
   have hfew:((et pre).map fun x=>[AV.int .i64 x]).length≤1000000:=by
    have:=List.length_filter_le (fun n:aY=>decide (0≤n.gate)) pre
    have h2:pre.length≤P.length:=by rw[e];simp
    simp[et];omega
   by_cases h0:0≤n.gate
   ·have hgo:et (pre++[n])=et pre++[n.gate]:=by simp[et,h0]
    have ha2:Acc h (h'.push [aL n]) 3 v ((et pre).map fun x=>[.int .i64 x]):=ha
    obtain⟨v',h2',e1,a1,a2,a3,a4⟩:=lW ha2 hg2 (row:=[.int .i64 n.gate]) rfl hfew
    simp only[gS]at e1
    have:=ih (pre++[n]) h2' v' (.ptr h'.n 0 0) (.bool true) (.bool true) (by simp[e]) a2 (by rw[hgo,List.map_append];exact a1)
    rw[e2]at this
    simp only[sim,ag,reduceAdd,reduceSub,replicate,reduceCtorEq,reduceLeDiff,reduceLT,aa,hlt,hix,fI,h0,hw,e1,this]
   ·have hgo:et (pre++[n])=et pre:=by simp[et,h0]
    have ha2:Acc h (h'.push [aL n]) 3 v ((et pre).map fun x=>[.int .i64 x]):=ha
    have:=ih (pre++[n]) (h'.push [aL n]) v (.ptr h'.n 0 0) (.bool true) (.bool false) (by simp[e]) hg2 (by rw[hgo];exact ha2)
    rw[e2]at this
    simp only[sim,ag,reduceAdd,reduceSub,replicate,reduceCtorEq,reduceLeDiff,reduceLT,aa,hlt,hix,fI,h0,hw,this]
theorem JV (g:IsG h F J b G) (hW:G.Wf) (i:Int):aj Tryz.prog po 150 [.ptr b 0 0,.int .i64 i] h=some (.inl (dD 3 ((G.gatesC i).map fun x=>[.int .i64 x])),h):=by
 refine ah FB rfl ?_;unfold vS
 have hl:=kq tN ((G.path i).map aL)
 have hloop:=z8 (h:=h) (dD tN ((G.path i).map aL)) (G.path i) hl (by have:=ae.path_few hW i;omega) (.ptr b 0 0) (.int .i64 i) (G.path i) [] h .nils .junk .junk .junk rfl (af.refl h) (kH _ _ _)
 simp only[List.length_nil,Int.natCast_zero]at hloop
 simp only[sim,ag,reduceAdd,reduceSub,replicate,reduceCtorEq,reduceLeDiff,reduceLT,aa,Cg g hW,hl.len,hl.fits,List.length_map]
 exact hloop
end
open Go.ChangeShapes Go.WideShapes Go.ChangeAt Go.RowKit Go.Deep Go.Joins
open Go.ChangeMaps (open_string shut_string)
theorem own:ownKnob Tryz.prog.godebug=none:=by kernel_rfl
theorem Ks:laidOutB Tryz.prog=true:=by kernel_rfl
section
variable {H:Type} {enc:TypeId×Value→H} {P:Program} {W W':World}
theorem mG (hl:laidOutB P=true):∀ {ts:List TypeId} {vs:List Value} {ds:List (DataW H)} {p:List MemPlace},
  DataW.TrodAll enc P W 0 (fun _=>true) true ts vs ds p→(∀ t∈ts,P.readableRec t=true∧t<P.types.size)→Below W.heap.size W W'→(∀ x∈p,x.block<W.heap.size)→
  DataW.TrodAll enc P W' 0 (fun b=>decide (b<W.heap.size)) true ts vs ds p
 | [],[],[],p,h,_,_,_=>h
 | t::ts,v::vs,d::ds,p,h,ht,hb,hp=>by
   obtain⟨p1,q1,h1,h2,rfl⟩:=h
   obtain⟨hr,hs⟩:=ht t (by simp)
   exact⟨p1,q1,Below.trod hl hr hs h1 hb (fun x hx=>hp x (by simp[hx])),mG hl h2 (fun t' h'=>ht t' (by simp[h'])) hb (fun x hx=>hp x (by simp[hx])),rfl⟩
 | [],_::_,_,_,h,_,_,_=>by simp[DataW.TrodAll]at h
 | _::_,[],_,_,h,_,_,_=>by simp[DataW.TrodAll]at h
 | _::_,_::_,[],_,h,_,_,_=>by simp[DataW.TrodAll]at h
 | [],[],_::_,_,h,_,_,_=>by simp[DataW.TrodAll]at h
theorem rb:∀ {ts:List TypeId} {vs:List Value} {ds:List (DataW H)} {p:List MemPlace},
  DataW.TrodAll enc P W 0 (fun _=>true) true ts vs ds p→∀ x∈p,x.block<W.heap.size
 | [],[],[],p,h,x,hx=>by
   have:p=[]:=h
   subst this
   simp at hx
 | t::ts,v::vs,d::ds,p,h,x,hx=>by
   obtain⟨p1,q1,⟨n,h1⟩,h2,rfl⟩:=h
   rcases List.mem_append.1 hx with hx | hx
   ·exact DataW.trod_lt n _ _ _ h1 x hx
   ·exact rb h2 x hx
 | [],_::_,_,_,h,_,_=>by simp[DataW.TrodAll]at h
 | _::_,[],_,_,h,_,_=>by simp[DataW.TrodAll]at h
 | _::_,_::_,[],_,h,_,_=>by simp[DataW.TrodAll]at h
 | [],[],_::_,_,h,_,_=>by simp[DataW.TrodAll]at h
def Law (P:Program) (f:FuncId) (args:Array Value) (W:World):Prop:=
 Calls P f args W fun e W'=>e= .returned (.bool true)∧Below W.heap.size W W'
theorem GT {f:Func} {s:ChangeSpec} {args:Array Value} {ds gs:List (DataW H)} {before:List MemPlace} {tb:TypeId} (hl:laidOutB P=true) (htb:P.underlying tb=some .bool) (hres:f.resultTypes= #[tb])
  (hv:s.vars=[]) (hparams:∀ t∈f.params.toList,P.readableRec t=true∧t<P.types.size)
  (hs:∀ ds:List (DataW H),ds.length=f.params.size→s.fn H ds={results:=[.lit (.bool true)],args:=ds})
  (hW:DataW.Whole enc P f.params.toList s.vars false W args.toList ds gs before) (hb:Below W.heap.size W W'):
  s.post enc P f false true false false W args (.bool true) W':=by
 have hW0:=hW
 obtain⟨p,q,hA,hV,rfl,hfz,hnd⟩:=hW
 rw[hv]at hV
 obtain⟨rfl,rfl⟩:=trodVars_none hV
 have hlen:ds.length=f.params.size:=by
  have:∀ {ts:List TypeId} {vs:List Value} {ds:List (DataW H)} {p:List MemPlace},DataW.TrodAll enc P W 0 (fun _=>true) true ts vs ds p→ds.length=ts.length:=by
   intro ts
   induction ts with
   | nil=>
     intro vs ds p h
     cases vs<;>cases ds<;>simp[DataW.TrodAll]at h ⊢
   | cons t ts ih=>
     intro vs ds p h
     cases vs<;>cases ds<;>simp[DataW.TrodAll]at h ⊢
     obtain⟨_,_,_,h2,_⟩:=h
     exact ih h2
  simpa using this hA
 have e:=hs (ds++[]) (by simpa using hlen)
 refine⟨ds,[],_,[],p,[],hW0,?_,?_,?_,hb.frame _,fun h=>by cases h⟩
 ·rw[e,hres]
  exact trodAll_mk1 (shut_bool htb _)
 ·rw[e]
  simp only[List.append_nil]
  exact mG hl hA hparams hb (rb hA)
 ·rw[e,hv]
  rfl
def kQ (z:Int):Prop:= -9223372036854775808≤z∧z≤9223372036854775807
end
open Go Go.RowKit
def h0A:AH:={n:=0,cell:=fun _=>none,ids:=0,hw:=fun _=>0}
def m0A (W:World):Mm:={base:=W.heap.size,blk:=fun _=>0,bt:=fun _=>0,bsz:=fun _=>0,imm:=fun g o=>W.cell? ⟨g,o,none⟩,tg:=fun _=>0,tc:=fun _=>0,te:=fun _=>0,jk:=fun _=>none}
theorem D7 {P:Program} {b:Nat} {w:World} (h:LR P=[]∧LG P=[]):sQ P b w:=by
 refine⟨fun q hq=> ?_,fun n hn=> ?_⟩
 ·rw[h.1]at hq
  cases hq
 ·rw[h.2]at hn
  cases hn
theorem wr0 (P:Program) (W:World) (hg:sQ P W.heap.size W):WR P (m0A W) h0A W where
 good:=hg
 size:=Nat.le_refl _
 lt:=fun b es hb=>by simp[h0A]at hb
 live:=fun b es hb=>by simp[h0A]at hb
 inj:=fun b b' es es' hb=>by simp[h0A]at hb
 imm:=fun g o v h=>h
 sep:=fun b es hb=>by simp[h0A]at hb
 tip:=fun k hk=>absurd hk (Nat.not_lt_zero _)
 tfree:=fun k hk=>absurd hk (Nat.not_lt_zero _)
 tblk:=fun k hk=>absurd hk (Nat.not_lt_zero _)
 tinj:=fun k k' hk=>absurd hk (Nat.not_lt_zero _)
 jk:=fun g x hj=>by simp[m0A]at hj
theorem N6 {f:FuncId} {avs:List AV} {vs:List Value} {W:World} {h':AH} (hr:aj Tryz.prog po f avs h0A=some (.inl (.bool true),h')) (hv:VRs Tryz.prog (m0A W) h0A avs vs) (hg:sQ Tryz.prog W.heap.size W:=by exact D7 ⟨by kernel_rfl,by kernel_rfl⟩):Law Tryz.prog f vs.toArray W:=by
 refine(rj pok hr (m0A W) W vs (wr0 _ W hg) hv).mono fun e W' ⟨m',_,_,hb,hx⟩=> ?_
 obtain⟨u,rfl,hu⟩:=hx
 cases hu
 exact⟨rfl,hb⟩
theorem wJ {P:Program} {m:Mm} {h:AH} (n:Int):VR P m h (.int .i64 n) (.int .i64 n):= .int _ _
theorem Nt {P:Program} {m:Mm} {h:AH} (s:ByteArray):VR P m h (.str s.data.toList) (.string s):=by
 have:=VR.str (P:=P) (m:=m) (h:=h) s.data.toList
 simpa using this
section
variable {P:Program} {po:Pol} {g:FuncId} {a nv:Nat} {vm:List Nat} {ss:List RS} {rs:List kU} {args:List AV} {h:AH}
theorem AT {p:Bool} {Post:(AV ⊕ AV)×AH→Prop} (hf:FnR P po g a nv vm ss rs p) (ha:args.length=a)
  (H:∀ Q:jm→Prop,(∀ r q,cFR p rs h r=some q→Post q→Q r)→Q (aq (aj P po) nv [.ss ss] (args++replicate (vm.length - args.length) .junk) [] h)):
  ∃ q,aj P po g args h=some q∧Post q:=by
 obtain⟨q,h1,h2⟩:=H (fun r=>∃ q,cFR p rs h r=some q∧Post q) (fun r q h1 h2=>⟨q,h1,h2⟩)
 exact⟨q,ah hf ha h1,h2⟩
theorem AK {v:AV} {R:AH→Prop} (hf:FnR P po g a nv vm ss rs false) (ha:args.length=a)
  (H:∀ Q:jm→Prop,(∀ V h',(eS V h' rs).map fC=some v→R h'→Q (some (.ret,V,h')))→Q (aq (aj P po) nv [.ss ss] (args++replicate (vm.length - args.length) .junk) [] h)):
  ∃ h',aj P po g args h=some (.inl v,h')∧R h':=by
 obtain⟨q,h1,h',rfl,h2⟩:=AT (Post:=fun q=>∃ h',q=(.inl v,h')∧R h') hf ha fun Q hQ=>H Q fun V h' e r=>hQ _ (.inl v,h') (by simp only[kj,e,ko,lF]) ⟨h',rfl,r⟩
 exact⟨h',h1,h2⟩
theorem B4 {R:AV→Prop} (hf:FnR P po g a nv vm ss rs true) (ha:args.length=a)
  (H:∀ Q:jm→Prop,(∀ V h' v v',(eS V h' rs).map fC=some v→af h h'→wkA v=some v'→R v'→Q (some (.ret,V,h')))→Q (aq (aj P po) nv [.ss ss] (args++replicate (vm.length - args.length) .junk) [] h)):
  ∃ v,aj P po g args h=some (.inl v,h)∧R v:=by
 obtain⟨q,h1,v,rfl,h2⟩:=AT (Post:=fun q=>∃ v,q=(.inl v,h)∧R v) hf ha fun Q hQ=>H Q fun V h' v v' e hg w r=>hQ _ (.inl v',h) (by simp only[kj,e,ko];exact aA hg w) ⟨v',rfl,r⟩
 exact⟨v,h1,h2⟩
theorem fT {v':AV} (hf:FnR P po g a nv vm ss rs true) (ha:args.length=a)
  (H:∀ Q:jm→Prop,(∀ V h' v,(eS V h' rs).map fC=some v→af h h'→wkA v=some v'→Q (some (.ret,V,h')))→Q (aq (aj P po) nv [.ss ss] (args++replicate (vm.length - args.length) .junk) [] h)):
  aj P po g args h=some (.inl v',h):=by
 obtain⟨v,h1,rfl⟩:=B4 (R:=fun v=>v=v') hf ha fun Q hQ=>H Q fun V h' v e hg w=>hQ V h' v v' e hg w rfl
 exact h1
end
section
variable {P:Program} {po:Pol} {g:FuncId} {a nv:Nat} {vm:List Nat} {ss:List RS} {rs:List kU} {args:List AV} {h:AH}
theorem Hw {Post:(AV ⊕ AV)→AH→Prop} (hf:FnR P po g a nv vm ss rs false) (ha:args.length=a)
  (H:∀ Q:jm→Prop,(∀ V h' v,(eS V h' rs).map fC=some v→Post (.inl v) h'→Q (some (.ret,V,h')))→(∀ V h' v,Post (.inr v) h'→Q (some (.panic v,V,h')))→Q (aq (aj P po) nv [.ss ss] (args++replicate (vm.length - args.length) .junk) [] h)):
  ∃ q h',aj P po g args h=some (q,h')∧Post q h':=by
 obtain⟨⟨q,h'⟩,e,p⟩:=AT (Post:=fun q=>Post q.1 q.2) hf ha fun Q hQ=>H Q (fun V h' v e r=>hQ _ (.inl v,h') (by simp only[kj,e,ko,lF]) r) (fun V h' v r=>hQ _ (.inr v,h') (by simp only[oW,lF]) r)
 exact⟨q,h',e,p⟩
end
theorem gY {C:vB} {nv:Nat} {b:List RS} {K:List RK} {V:List AV} {h:AH} {Q:jm→Prop} (I:Nat→List AV→AH→Prop) (n:Nat) (h0:I 0 V h)
  (step:∀ i V h,i<n→I i V h→(∀ V' h',I (i+1) V' h'→Q (aq C nv (.lp b::K) V' [] h'))→Q (aq C nv (.lp b::K) V [] h))
  (stop:∀ V h,I n V h→Q (aq C nv (.lp b::K) V [] h)):Q (aq C nv (.lp b::K) V [] h):=by
 have key:∀ (d i:Nat) (V:List AV) (h:AH),i+d=n→I i V h→Q (aq C nv (.lp b::K) V [] h):=by
  intro d
  induction d with
  | zero=>
    intro i V h hi hI
    obtain rfl:i=n:=by omega
    exact stop V h hI
  | succ d ih=>exact fun i V h hi hI=>step i V h (by omega) hI fun V' h' hI'=>ih (i+1) V' h' (by omega) hI'
 exact key n 0 V h (by omega) h0
theorem MZ {a n:Nat} (h:a<n):(a<n+1)=True:=by simp;omega
theorem wr {n:Nat}:(n<n+1)=True:=by simp
theorem wo {α:Type} (A B:List α) (x y:α) {n:Nat} (hn:n=A.length):(A++x::B).set n y=A++y::B:=by subst hn;simp
theorem CX {α:Type} (A B:List α) (x:α) {n:Nat} (hn:n=A.length):(A++x::B)[n]? =some x:=by subst hn;simp
theorem i4 {α:Type} {l:List α} {i:Nat} {y:α} (h:l[i]? =some y):l.take (i+1)=l.take i++[y]:=by
 rw[List.take_add_one,h]
 rfl
theorem Bj {n m:Int} (e:n=m) (h1: -9223372036854775808≤n) (h2:n≤9223372036854775807):IntKind.wrap .i64 n=m:=by rw[←e];exact w64 h1 h2
theorem yH {h0 h:AH} {e:TypeId} {v:AV} {acc:List (List AV)} (ha:Acc h0 h e v acc) (g:af h0 h) {x:AV} {rows:List (List AV)} (hx:(x= .nils∧rows=[])∨∃ id,x= .isl id e rows) (h1:∀ r∈rows,r.all AV.one=true) (hl:acc.length≤1000000) (hr:rows.length≤1000000):
  ∃ v' h',aE false e v x h=some (v',h')∧Acc h0 h' e v' (acc++rows)∧af h0 h'∧h'.cell=h.cell∧h'.n=h.n:=by
 have h1':rows.all (·.all AV.one)=true:=by rw[List.all_eq_true];exact h1
 by_cases hz:rows.length=0
 ·have hz':=List.length_eq_zero_iff.1 hz
  subst hz'
  refine⟨v,h,?_,by simpa using ha,g,rfl,rfl⟩
  have hs:kT e v h=some (v,h):=by
   rcases ha with⟨_,rfl⟩ | ⟨id,_,_,_,_,rfl⟩<;>simp[kT]
  rcases hx with⟨rfl,_⟩ | ⟨id,rfl⟩
  ·exact hs
  ·simp[aE,bL,hs]
 ·obtain⟨id2,rfl⟩:∃ id,x= .isl id e rows:=by
   rcases hx with⟨_,rfl⟩ | hx
   ·simp at hz
   ·exact hx
  have e1:aE false e v (.isl id2 e rows) h=eo false e v rows h:=by
   simp only[aE,bL,if_true,Option.bind_some]
   rw[if_neg hz]
  rw[e1]
  unfold eo
  rw[if_pos ⟨by omega,by omega,h1'⟩]
  have hne:rows≠[]:=fun e=>hz (by rw[e];rfl)
  rcases ha with⟨rfl,rfl⟩ | ⟨id,a0,a1,a2,a3,rfl⟩
  ·refine⟨_,_,rfl,.inr ⟨h.ids,by simpa using hne,g.ids,by simp[AH.fresh],by simp[AH.fresh],by simp⟩,g.trans (af.fresh _ _),rfl,rfl⟩
  ·refine⟨.isl (some id) e (acc++rows),h.grow id (acc.length+rows.length),?_,.inr ⟨id,by simp[a0],a1,a2,by simp[AH.grow],rfl⟩,g.grow a1,rfl,rfl⟩
   simp[a3,hl]
theorem DH (e:TypeId) (rows:List (List AV)):(dD e rows= .nils∧rows=[])∨∃ id,dD e rows= .isl id e rows:=by
 unfold dD
 by_cases hz:rows=[]
 ·exact .inl ⟨by rw[if_pos hz],hz⟩
 ·exact .inr ⟨none,by rw[if_neg hz]⟩
theorem zT (l:List Int):∀ r∈bh l,r.all AV.one=true:=by
 intro r hr
 obtain⟨n,_,rfl⟩:=List.mem_map.1 hr
 rfl
def Oc (f:AV) (xs:List AV):Option (FuncId×List AV):=match f with
 | .fn g a c=>some (g,a++xs++c)
 | _=>none
section
variable {C:vB} {nv:Nat} {k:List RK} {V L:List AV} {h:AH} {d:RD} {is:List RI}
theorem uq {f:Arg} {args:List Arg}:aT V L (.call f args)=Oc (arg V L f) (args.map (arg V L)):=by
 simp only[aT]
 cases arg V L f<;>rfl
theorem DD {g:FuncId} {a c xs:List AV}:Oc (.fn g a c) xs=some (g,a++xs++c):=rfl
theorem CW {g:FuncId} {xs:List AV}:rF C nv d is k V L h (some (g,xs))=rC C nv d is k V L (C g xs h):=rfl
theorem ay:(type_of% @Bu)∧(type_of% @uq)∧(type_of% @DD)∧(type_of% @CW):=⟨@Bu,@uq,@DD,@CW⟩
end
def aY.ints (n:aY):List Int:=[n.parent,n.gate,n.rights,n.cell,n.plugin,n.func]
instance:DecidableEq aY:=fun a b=>decidable_of_iff (a.ints=b.ints) ⟨fun e=>by
 cases a
 cases b
 simp[aY.ints]at e
 simp[e],fun e=>by rw[e]⟩
section
variable {h:AH}
end
theorem de.same {h:AH} {F J:Nat→Prop} {b:Nat} {G:ae} (g:IsG h F J b G):de h F J b h G:=⟨F,J,g,Chg.refl _ _ _,fun _=> .inl,fun _=> .inl⟩
theorem de.grew {h h':AH} {F J:Nat→Prop} {b:Nat} {G:ae} (g:IsG h F J b G) (x:af h h'):de h F J b h' G:=⟨F,J,g.grew x,x.chg _ _,fun _=> .inl,fun _=> .inl⟩
theorem de.after {h h1 h2:AH} {F J:Nat→Prop} {b:Nat} {G':ae} (x:af h h1) (d:de h1 F J b h2 G'):de h F J b h2 G':=by
 obtain⟨F',J',g,c,hF,hJ⟩:=d
 have:=x.n
 have:=x.ids
 exact⟨F',J',g,(x.chg F J).trans c,fun k hk=>(hF k hk).imp id (by omega),fun j hj=>(hJ j hj).imp id (by omega)⟩
section
variable {h:AH} {F J:Nat→Prop} {b:Nat} {G:ae}
theorem Jc (h:AH) {F:Nat→Prop} {b:Nat} {sv:AV} {l:List Bool} (g:oV h F b tB sv (l.map fun x=>[.bool x])) (hl:l.length≤1000):
  ∃ h' v',aE true tB sv (.msl h.n 0 1 tB) (h.push [[.bool false]])=some (v',h')∧dH v'=some (l.length+1)∧(∀ s,du s (some tB) v'=true)∧v'.one=true∧v'.cells=[v']∧h'.ids=h.ids∧h'.hw=h.hw∧h'.n=h.n+2∧h'.cell (h.n+1)=some ((l++[false]).map fun x=>[.bool x])∧v'= .msl (h.n+1) 0 (l.length+1) tB∧∀ k,k<h.n→¬ (F k∧k≠b)→h'.cell k=h.cell k:=by
 have e0:bL (h.push [[.bool false]]) tB (.msl h.n 0 1 tB)=some [[.bool false]]:=by simp[bL,aC]
 rcases g with⟨h1,rfl⟩ | ⟨q,h1,h2,h3,h4,rfl⟩
 ·have hl0:l=[]:=by simpa using h1
  subst hl0
  refine⟨(h.push [[.bool false]]).push [[.bool false]],.msl (h.n+1) 0 1 tB,?_,rfl,fun s=>jW,rfl,rfl,rfl,rfl,rfl,?_,rfl,fun k hk _=> ?_⟩
  ·simp[aE,e0,eo,AV.one,aJ]
  ·simp[AH.push]
  ·simp[AH.push,show k≠h.n by omega,show k≠h.n+1 by omega]
 ·have hq:q≠h.n:=by omega
  refine⟨((h.push [[.bool false]]).set q none).push ((l.map fun x=>[.bool x])++[[.bool false]]),.msl (h.n+1) 0 (l.length+1) tB,?_,rfl,fun s=>jW,rfl,rfl,rfl,rfl,rfl,?_,rfl,fun k hk hk2=> ?_⟩
  ·have e1:(h.push [[.bool false]]).cell q=some (l.map fun x=>[.bool x]):=by rw[iu hq];exact h4
   simp only[aE,e0,Option.bind_some,List.length_singleton,Nat.one_ne_zero,if_false,eo,List.length_map]
   rw[if_pos ⟨by omega,by omega,rfl⟩,if_pos ⟨trivial,trivial,by omega⟩,e1]
   have e2:List.take l.length (l.map fun x=>[AV.bool x])=l.map fun x=>[.bool x]:=List.take_of_length_le (by simp)
   simp[aJ,dT,e2]
  ·simp[AH.push,AH.set]
  ·have:k≠q:=fun e=>hk2 (by subst e;exact⟨h1,h2⟩)
   simp[AH.push,AH.set,show k≠h.n by omega,show k≠h.n+1 by omega,this]
theorem IN {h':AH} {nv v':AV} (g:IsG h F J b G) (h2:nS h J tN nv (G.nodes.map aL)) (e1:h'.ids=h.ids) (e2:h'.hw=h.hw) (e3:h'.n=h.n+2) (e4:h'.cell (h.n+1)=some ((G.shut++[false]).map fun x=>[.bool x])) (e5:v'= .msl (h.n+1) 0 (G.shut.length+1) tB) (e6:∀ k,k<h.n→¬ (F k∧k≠b)→h'.cell k=h.cell k):
  de h F J b (h'.set b (some [[nv,v']])) ⟨G.nodes,G.shut++[false]⟩:=by
 have hbn:=g.hb.2
 refine⟨fun k=>k=b∨k=h.n+1,J,⟨⟨.inl rfl,by rw[dT,e3];omega⟩,⟨by rintro k (rfl | rfl)<;>(rw[dT,e3];omega),fun j hj=>by rw[mp,e1];exact g.lt.2 j hj⟩,nv,v',aP,?_,.inr ⟨h.n+1,.inr rfl,by omega,by rw[dT,e3];omega,by rw[be (by omega)];exact e4,?_⟩⟩,⟨by rw[dT,e3];omega,by rw[mp,e1];omega,fun k hk hF=> ?_,fun j hj hJ=>by rw[pF,e2]⟩,?_,fun _=> .inl⟩
 ·rcases h2 with h2 | ⟨id,a1,a0,a2,a3,a4⟩
  ·exact .inl h2
  ·exact .inr ⟨id,a1,a0,by rw[mp,e1];exact a2,by rw[pF,e2];exact a3,a4⟩
 ·rw[e5]
  simp
 ·have:k≠b:=fun e=>hF (by rw[e];exact g.hb.1)
  rw[be this]
  exact e6 k hk fun x=>hF x.1
 ·rintro k (rfl | rfl)
  ·exact .inl g.hb.1
  ·exact .inr (by omega)
theorem IJ (g:IsG h F J b G) (hW:G.Wf):∃ h',aj Tryz.prog po 63 [.ptr b 0 0] h=some (.inl (.tup [.int .i64 G.gate.2.1,.int .i64 G.gate.2.2]),h')∧de h F J b h' G.gate.1:=by
 obtain⟨nv,sv,h1,h2,h3⟩:=g.ex
 have hgs:=hW.gates
 cases hd:decide ((G.shut.length:Int)=20)
 ·have hne:¬ G.shut.length=20:=by simp at hd;omega
  have hG:G.gate=(⟨G.nodes,G.shut++[false]⟩,(G.shut.length:Int),0):=by unfold ae.gate;rw[if_neg hne]
  obtain⟨h',v',a1,a2,a3,a4,a5,a6,a7,a8,a9,a10,a11⟩:=Jc h h3 (by omega)
  have hbn:b≠h.n:=by have:=g.hb.2;omega
  have hcb:h'.cell b=some [[nv,sv]]:=(a11 b g.hb.2 (fun x=>x.2 rfl)).trans h1
  have hwr:IntKind.wrap .i64 (((G.shut.length+1:Nat):Int) - 1)=(G.shut.length:Int):=by rw[w64]<;>omega
  refine⟨h'.set b (some [[nv,v']]),?_,by rw[hG];exact IN g h2 a6 a7 a8 a9 a10 a11⟩
  rw[hG]
  refine ah y7 rfl ?_;unfold sS
  simp only[sim,ag,reduceAdd,reduceSub,replicate,reduceCtorEq,reduceLeDiff,reduceLT,aa,h1,h3.len.1,h3.len.2,List.length_map,hd,a1,iu hbn,hcb,a4,a5,a2,a3,hwr]
 ·have he:G.shut.length=20:=by simp at hd;omega
  have hG:G.gate=(G,0,11):=by unfold ae.gate;rw[if_pos he]
  refine⟨h,?_,by rw[hG];exact de.same g⟩
  rw[hG]
  refine ah y7 rfl ?_;unfold sS
  simp only[sim,ag,reduceAdd,reduceSub,replicate,reduceCtorEq,reduceLeDiff,reduceLT,aa,h1,h3.len.1,h3.len.2,List.length_map,hd]
theorem KX {nv sv:AV} (g:IsG h F J b G) (h1:h.cell b=some [[nv,sv]]) (h2:nS h J tN nv (G.nodes.map aL)) {m q:Nat} (hm:m<G.shut.length) (e1:F q) (e2:q≠b) (e3:q<h.n) (e4:sv= .msl q 0 G.shut.length tB):
  de h F J b (h.set q (some ((G.shut.map fun x=>[AV.bool x]).set m [.bool true]))) ⟨G.nodes,G.shut.set m true⟩:=by
 refine⟨F,J,⟨⟨g.hb.1,g.hb.2⟩,g.lt,nv,sv,by rw[be (Ne.symm e2)];exact h1,?_,.inr ⟨q,e1,e2,e3,by rw[aP,List.map_set],by rw[e4];simp⟩⟩,⟨Nat.le_refl _,Nat.le_refl _,fun k hk hF=>be (fun e=>hF (by rw[e];exact e1)),fun _ _ _=>rfl⟩,fun _=> .inl,fun _=> .inl⟩
 rcases h2 with h2 | ⟨id,a1,a0,a2,a3,a4⟩
 ·exact .inl h2
 ·exact .inr ⟨id,a1,a0,a2,a3,a4⟩
theorem Mn (g:IsG h F J b G) (k:Int):∃ h',aj Tryz.prog po 62 [.ptr b 0 0,.int .i64 k] h=some (.inl (.int .i64 (G.cut k).2),h')∧de h F J b h' (G.cut k).1:=by
 obtain⟨nv,sv,h1,h2,h3⟩:=g.ex
 cases hh:G.hasGate k
 ·have hG:G.cut k=(G,8):=by unfold ae.cut;rw[if_neg (by simp[hh])]
  rw[hG]
  refine⟨h,?_,de.same g⟩
  refine ah Da rfl ?_;unfold xq
  simp only[sim,ag,reduceAdd,reduceSub,replicate,reduceCtorEq,reduceLeDiff,reduceLT,aa,Al g,hh]
 ·obtain⟨m,rfl,hm⟩:=ae.gate_nat hh
  have hG:G.cut (m:Int)=(⟨G.nodes,G.shut.set m true⟩,0):=by unfold ae.cut;rw[if_pos hh];simp
  obtain⟨q,e1,e2,e3,e4,e5,e6,e7⟩:=CG h3 hm
  rw[hG]
  refine⟨_,?_,KX g h1 h2 hm e4 e5 e6 e7⟩
  refine ah Da rfl ?_;unfold xq
  simp only[sim,ag,reduceAdd,reduceSub,replicate,reduceCtorEq,reduceLeDiff,reduceLT,aa,Al g,hh,h1,e1,e2,e3]
theorem xT (h:AH) {J:Nat→Prop} {nv:AV} {rows:List (List AV)} (g:nS h J tN nv rows) {row:List AV} (hr:row.all AV.one=true) (hl:rows.length≤1000):
  ∃ h' v',aE false tN nv (.isl (some h.ids) tN [row]) (h.fresh 1)=some (v',h')∧dH v'=some (rows.length+1)∧(∀ s,du s (some tN) v'=true)∧v'.one=true∧v'.cells=[v']∧h'.cell=h.cell∧h'.n=h.n∧h.ids≤h'.ids∧
    (∃ id,(J id∨h.ids≤id)∧id<h'.ids∧h'.hw id=rows.length+1∧v'= .isl (some id) tN (rows++[row])∧∀ j,j<h.ids→¬ J j→h'.hw j=h.hw j):=by
 have hr':[row].all (·.all AV.one)=true:=by simpa using hr
 rcases g with⟨rfl,rfl⟩ | ⟨id,a1,a0,a2,a3,rfl⟩
 ·refine⟨(h.fresh 1).fresh 1,.isl (some (h.ids+1)) tN [row],?_,rfl,fun s=>jS,rfl,rfl,rfl,rfl,by simp[AH.fresh];omega,h.ids+1,.inr (by omega),by simp[AH.fresh],by simp[AH.fresh],by simp,fun j hj _=>by simp[AH.fresh,show j≠h.ids by omega,show j≠h.ids+1 by omega]⟩
  simp only[aE,bL,if_true,Option.bind_some,List.length_singleton,Nat.one_ne_zero,if_false,eo]
  rw[if_pos ⟨by omega,by omega,hr'⟩]
  rfl
 ·have hne:id≠h.ids:=by omega
  refine⟨(h.fresh 1).grow id (rows.length+1),.isl (some id) tN (rows++[row]),?_,by simp[dH],fun s=>jS,rfl,rfl,rfl,rfl,by simp[AH.fresh,AH.grow],id,.inl a1,by simp[AH.fresh,AH.grow];omega,by simp[AH.grow],rfl,fun j hj hJ=> ?_⟩
  ·simp only[aE,bL,if_true,Option.bind_some,List.length_singleton,Nat.one_ne_zero,if_false,eo]
   rw[if_pos ⟨by omega,by omega,hr'⟩,gV hne,a3,if_pos ⟨trivial,rfl,by omega⟩]
  ·have h1:j≠id:=fun e=>hJ (by rw[e];exact a1)
   simp[AH.grow,AH.fresh,h1,show j≠h.ids by omega]
theorem CQ {h':AH} {sv v':AV} {n:aY} (g:IsG h F J b G) (h3:oV h F b tB sv (G.shut.map fun x=>[.bool x])) (e1:h'.cell=h.cell) (e2:h'.n=h.n) (e0:h.ids≤h'.ids)
  (e3:∃ id,(J id∨h.ids≤id)∧id<h'.ids∧h'.hw id=G.nodes.length+1∧v'= .isl (some id) tN (G.nodes.map aL++[aL n])∧∀ j,j<h.ids→¬ J j→h'.hw j=h.hw j):de h F J b (h'.set b (some [[v',sv]])) ⟨G.nodes++[n],G.shut⟩:=by
 obtain⟨id,a1,a2,a3,a4,a5⟩:=e3
 refine⟨F,fun j=>j=id,⟨⟨g.hb.1,by rw[dT,e2];exact g.hb.2⟩,⟨fun k hk=>by rw[dT,e2];exact g.lt.1 k hk,fun j hj=>by rw[hj];exact a2⟩,v',sv,aP,.inr ⟨id,rfl,by simp,a2,by rw[pF,a3];simp,by rw[a4];simp⟩,?_⟩,⟨by rw[dT,e2];exact Nat.le_refl _,by rw[mp];exact e0,fun k hk hF=> ?_,fun j hj hJ=>by rw[pF];exact a5 j hj hJ⟩,fun _=> .inl,fun j hj=>by rw[hj];exact a1⟩
 ·rcases h3 with h3 | ⟨q,b1,b2,b3,b4,b5⟩
  ·exact .inl h3
  ·exact .inr ⟨q,b1,b2,by rw[dT,e2];exact b3,by rw[be b2,e1];exact b4,b5⟩
 ·rw[be (fun e=>hF (by rw[e];exact g.hb.1)),e1]
theorem HP (g:IsG h F J b G) (hW:G.Wf) (n:aY):∃ h',aj Tryz.prog po 97 [.ptr b 0 0,.agg (aL n)] h=some (.inl (.tup [.int .i64 (G.add n).2.1,.int .i64 (G.add n).2.2]),h')∧de h F J b h' (G.add n).1:=by
 have hg1:=af.push h [aL n]
 have g1:=g.grew hg1
 have hbn:h.n≠b:=by have:=g.hb.2;omega
 obtain⟨nv,sv,h1,h2,h3⟩:=g1.ex
 have hfew:=hW.few
 have hH:=Al g1
 unfold ae.add
 skip
 cases hc:fx n.rights
 ·rw[if_pos rfl]
  refine⟨h.push [aL n],?_,de.grew g hg1⟩
  refine ah mi rfl ?_;unfold ki
  simp only[sim,ag,reduceAdd,reduceSub,replicate,reduceCtorEq,reduceLeDiff,reduceLT,aa,fI,mh,hc]
 ·rw[if_neg (by simp)]
  have stop:(n.gate≠ -1∧G.hasGate n.gate=false)∨(n.gate= -1∨G.hasGate n.gate=true):=by
   by_cases e:n.gate= -1
   ·exact .inr (.inl e)
   ·cases hh:G.hasGate n.gate
    ·exact .inl ⟨e,rfl⟩
    ·exact .inr (.inr rfl)
  rcases stop with hs | hs
  ·rw[if_pos hs]
   refine⟨h.push [aL n],?_,de.grew g hg1⟩
   obtain⟨s1,s2⟩:=hs
   refine ah mi rfl ?_;unfold ki
   simp only[sim,ag,reduceAdd,reduceSub,replicate,reduceCtorEq,reduceLeDiff,reduceLT,aa,fI,mh,hc,hH,s1,s2]
  ·have hs':¬ (n.gate≠ -1∧G.hasGate n.gate=false):=by
    rintro⟨a,b⟩
    rcases hs with hs | hs
    ·exact a hs
    ·rw[b]at hs;cases hs
   rw[if_neg hs']
   have hs2:decide (n.gate= -1)=true∨decide (n.gate= -1)=false∧G.hasGate n.gate=true:=by
    rcases hs with hs | hs
    ·exact .inl (by simp[hs])
    ·by_cases e:n.gate= -1
     ·exact .inl (by simp[e])
     ·exact .inr ⟨by simp[e],hs⟩
   cases hd:decide ((G.nodes.length:Int)=80)
   ·have hne:¬ G.nodes.length=80:=by simp at hd;omega
    rw[if_neg hne]
    obtain⟨h',v',a1,a2,a3,a4,a5,a6,a7,a8,a9⟩:=xT (h.push [aL n]) h2 (row:=aL n) rfl (by simp;omega)
    have hwr:IntKind.wrap .i64 (((G.nodes.length+1:Nat):Int) - 1)=(G.nodes.length:Int):=by rw[w64]<;>omega
    refine⟨h'.set b (some [[v',sv]]),?_,de.after hg1 (CQ g1 h3 a6 a7 a8 (by simpa using a9))⟩
    simp only[gS,List.length_map]at a1 a2
    rcases hs2 with hs2 | ⟨hs2,hs3⟩
    ·refine ah mi rfl ?_;unfold ki
     simp only[sim,ag,reduceAdd,reduceSub,replicate,reduceCtorEq,reduceLeDiff,reduceLT,aa,fI,mh,hc,hH,hs2,hd,h1,h2.isL.len,h2.isL.fits,List.length_map,a1,a2,a3,a4,a5,a6,hwr]
    ·refine ah mi rfl ?_;unfold ki
     simp only[sim,ag,reduceAdd,reduceSub,replicate,reduceCtorEq,reduceLeDiff,reduceLT,aa,fI,mh,hc,hH,hs2,hs3,hd,h1,h2.isL.len,h2.isL.fits,List.length_map,a1,a2,a3,a4,a5,a6,hwr]
   ·have he:G.nodes.length=80:=by simp at hd;omega
    rw[if_pos he]
    refine⟨h.push [aL n],?_,de.grew g hg1⟩
    rcases hs2 with hs2 | ⟨hs2,hs3⟩
    ·refine ah mi rfl ?_;unfold ki
     simp only[sim,ag,reduceAdd,reduceSub,replicate,reduceCtorEq,reduceLeDiff,reduceLT,aa,fI,mh,hc,hH,hs2,hd,h1,h2.isL.len,h2.isL.fits,List.length_map]
    ·refine ah mi rfl ?_;unfold ki
     simp only[sim,ag,reduceAdd,reduceSub,replicate,reduceCtorEq,reduceLeDiff,reduceLT,aa,fI,mh,hc,hH,hs2,hs3,hd,h1,h2.isL.len,h2.isL.fits,List.length_map]
theorem OW (g:IsG h F J b G) (hW:G.Wf) (n:aY):∃ h',aj Tryz.prog po 99 [.ptr b 0 0,.agg (aL n)] h=some (.inl (.tup [.int .i64 (G.add n).2.1,.int .i64 (G.add n).2.2]),h')∧de h F J b h' (G.add n).1:=by
 have hg1:=af.push h [aL n]
 have g1:=g.grew hg1
 have hbn:h.n≠b:=by have:=g.hb.2;omega
 obtain⟨nv,sv,h1,h2,h3⟩:=g1.ex
 have hfew:=hW.few
 have hH:=Og g1
 unfold ae.add
 skip
 cases hc:fx n.rights
 ·rw[if_pos rfl]
  refine⟨h.push [aL n],?_,de.grew g hg1⟩
  refine ah l6 rfl ?_;unfold kE
  have hc':decide (n.rights<0)=true∨decide (n.rights<0)=false∧decide (15<n.rights)=true:=by
   simp[fx]at hc
   simp only[decide_eq_true_eq,decide_eq_false_iff_not]
   omega
  rcases hc' with hc' | ⟨hc',hc2⟩
  ·simp only[sim,ag,reduceAdd,reduceSub,replicate,reduceCtorEq,reduceLeDiff,reduceLT,aa,fI,hc']
  ·simp only[sim,ag,reduceAdd,reduceSub,replicate,reduceCtorEq,reduceLeDiff,reduceLT,aa,fI,hc',hc2]
 ·rw[if_neg (by simp)]
  have hr0:decide (n.rights<0)=false:=by simp[fx]at hc;simp;omega
  have hr1:decide (15<n.rights)=false:=by simp[fx]at hc;simp;omega
  have stop:(n.gate≠ -1∧G.hasGate n.gate=false)∨(n.gate= -1∨G.hasGate n.gate=true):=by
   by_cases e:n.gate= -1
   ·exact .inr (.inl e)
   ·cases hh:G.hasGate n.gate
    ·exact .inl ⟨e,rfl⟩
    ·exact .inr (.inr rfl)
  rcases stop with hs | hs
  ·rw[if_pos hs]
   refine⟨h.push [aL n],?_,de.grew g hg1⟩
   obtain⟨s1,s2⟩:=hs
   refine ah l6 rfl ?_;unfold kE
   simp only[sim,ag,reduceAdd,reduceSub,replicate,reduceCtorEq,reduceLeDiff,reduceLT,aa,fI,hr0,hr1,hH,s1,s2]
  ·have hs':¬ (n.gate≠ -1∧G.hasGate n.gate=false):=by
    rintro⟨a,b⟩
    rcases hs with hs | hs
    ·exact a hs
    ·rw[b]at hs;cases hs
   rw[if_neg hs']
   have hs2:decide (n.gate= -1)=true∨decide (n.gate= -1)=false∧G.hasGate n.gate=true:=by
    rcases hs with hs | hs
    ·exact .inl (by simp[hs])
    ·by_cases e:n.gate= -1
     ·exact .inl (by simp[e])
     ·exact .inr ⟨by simp[e],hs⟩
   cases hd:decide (80≤(G.nodes.length:Int))
   ·have hne:¬ G.nodes.length=80:=by simp at hd;omega
    rw[if_neg hne]
    obtain⟨h',v',a1,a2,a3,a4,a5,a6,a7,a8,a9⟩:=xT (h.push [aL n]) h2 (row:=aL n) rfl (by simp;omega)
    have hwr:IntKind.wrap .i64 (((G.nodes.length+1:Nat):Int) - 1)=(G.nodes.length:Int):=by rw[w64]<;>omega
    refine⟨h'.set b (some [[v',sv]]),?_,de.after hg1 (CQ g1 h3 a6 a7 a8 (by simpa using a9))⟩
    simp only[gS,List.length_map]at a1 a2
    rcases hs2 with hs2 | ⟨hs2,hs3⟩
    ·refine ah l6 rfl ?_;unfold kE
     simp only[sim,ag,reduceAdd,reduceSub,replicate,reduceCtorEq,reduceLeDiff,reduceLT,aa,fI,hr0,hr1,hH,hs2,hd,h1,h2.isL.len,h2.isL.fits,List.length_map,a1,a2,a3,a4,a5,a6,hwr]
    ·refine ah l6 rfl ?_;unfold kE
     simp only[sim,ag,reduceAdd,reduceSub,replicate,reduceCtorEq,reduceLeDiff,reduceLT,aa,fI,hr0,hr1,hH,hs2,hs3,hd,h1,h2.isL.len,h2.isL.fits,List.length_map,a1,a2,a3,a4,a5,a6,hwr]
   ·have he:G.nodes.length=80:=by simp at hd;omega
    rw[if_pos he]
    refine⟨h.push [aL n],?_,de.grew g hg1⟩
    rcases hs2 with hs2 | ⟨hs2,hs3⟩
    ·refine ah l6 rfl ?_;unfold kE
     simp only[sim,ag,reduceAdd,reduceSub,replicate,reduceCtorEq,reduceLeDiff,reduceLT,aa,fI,hr0,hr1,hH,hs2,hd,h1,h2.isL.len,h2.isL.fits,List.length_map]
    ·refine ah l6 rfl ?_;unfold kE
     simp only[sim,ag,reduceAdd,reduceSub,replicate,reduceCtorEq,reduceLeDiff,reduceLT,aa,fI,hr0,hr1,hH,hs2,hs3,hd,h1,h2.isL.len,h2.isL.fits,List.length_map]
end
section
variable {h h' h0:AH} {F J F0 J0:Nat→Prop} {X Y Z:Asn} {L:List Asn}
theorem Did.same (x:X.A h F J):Did h F J h X:=⟨F,J,x,Chg.refl _ _ _,fun _=> .inl,fun _=> .inl⟩
theorem Did.imp (hxy:∀ h F J,X.A h F J→Y.A h F J) (d:Did h F J h' X):Did h F J h' Y:=by
 obtain⟨F',J',x,r⟩:=d
 exact⟨F',J',hxy _ _ _ x,r⟩
theorem Did.chain (ch:Chg F0 J0 h0 h) (a:∀ k,F k→F0 k∨h0.n≤k) (b:∀ j,J j→J0 j∨h0.ids≤j) (d:Did h F J h' Y):Did h0 F0 J0 h' Y:=by
 obtain⟨F2,J2,y,c2,a2,b2⟩:=d
 refine⟨F2,J2,y,ch.then c2 a b,fun k hk=> ?_,fun j hj=> ?_⟩
 ·rcases a2 k hk with h | h
  ·exact a k h
  ·exact .inr (Nat.le_trans ch.n h)
 ·rcases b2 j hj with h | h
  ·exact b j h
  ·exact .inr (Nat.le_trans ch.ids h)
theorem vX (x:(dw X Z).A h F J) {R:AH→Prop} (c:∀ F1 J1,X.A h F1 J1→∃ h',R h'∧Did h F1 J1 h' Y):∃ h',R h'∧Did h F J h' (dw Y Z):=by
 obtain⟨F1,J1,F2,J2,x1,z,hF,hJ,dF,dJ⟩:=x
 obtain⟨h',r,F3,J3,y,c3,a3,b3⟩:=c F1 J1 x1
 have zl:=Z.lt z
 refine⟨h',r,fun k=>F3 k∨F2 k,fun j=>J3 j∨J2 j,⟨F3,J3,F2,J2,y,Z.keep z c3 (fun k hk h1=>dF k h1 hk) (fun j hj h1=>dJ j h1 hj),fun _=>Iff.rfl,fun _=>Iff.rfl,fun k h3 h2=> ?_,fun j h3 h2=> ?_⟩,?_,fun k hk=> ?_,fun j hj=> ?_⟩
 ·rcases a3 k h3 with h | h
  ·exact dF k h h2
  ·have:=zl.1 k h2;omega
 ·rcases b3 j h3 with h | h
  ·exact dJ j h h2
  ·have:=zl.2 j h2;omega
 ·exact⟨c3.n,c3.ids,fun k hk hn=>c3.cell k hk fun h1=>hn ((hF k).2 (.inl h1)),fun j hj hn=>c3.hw j hj fun h1=>hn ((hJ j).2 (.inl h1))⟩
 ·rcases hk with h | h
  ·exact(a3 k h).imp (fun h=>(hF k).2 (.inl h)) id
  ·exact .inl ((hF k).2 (.inr h))
 ·rcases hj with h | h
  ·exact(b3 j h).imp (fun h=>(hJ j).2 (.inl h)) id
  ·exact .inl ((hJ j).2 (.inr h))
theorem jN (x:(dw X Y).A h F J):(dw Y X).A h F J:=by
 obtain⟨F1,J1,F2,J2,x1,z,hF,hJ,dF,dJ⟩:=x
 exact⟨F2,J2,F1,J1,z,x1,fun k=>(hF k).trans or_comm,fun j=>(hJ j).trans or_comm,fun k h2 h1=>dF k h1 h2,fun j h2 h1=>dJ j h1 h2⟩
theorem iV (x:(dw (dw X Y) Z).A h F J):(dw X (dw Y Z)).A h F J:=by
 obtain⟨F1,J1,F2,J2,⟨F3,J3,F4,J4,x3,y4,hF3,hJ3,dF3,dJ3⟩,z,hF,hJ,dF,dJ⟩:=x
 refine⟨F3,J3,fun k=>F4 k∨F2 k,fun j=>J4 j∨J2 j,x3,⟨F4,J4,F2,J2,y4,z,fun _=>Iff.rfl,fun _=>Iff.rfl,fun k h4=>dF k ((hF3 k).2 (.inr h4)),fun j h4=>dJ j ((hJ3 j).2 (.inr h4))⟩,fun k=> ?_,fun j=> ?_,fun k h3 h=> ?_,fun j h3 h=> ?_⟩
 ·rw[hF k,hF3 k,or_assoc]
 ·rw[hJ j,hJ3 j,or_assoc]
 ·rcases h with h | h
  ·exact dF3 k h3 h
  ·exact dF k ((hF3 k).2 (.inl h3)) h
 ·rcases h with h | h
  ·exact dJ3 j h3 h
  ·exact dJ j ((hJ3 j).2 (.inl h3)) h
theorem jK (x:(dw X (dw Y Z)).A h F J):(dw Y (dw X Z)).A h F J:=by
 have a:=iV (jN x)
 obtain⟨F1,J1,F2,J2,y,zx,r⟩:=a
 exact⟨F1,J1,F2,J2,y,jN zx,r⟩
theorem eZ {X' Y':Asn} (hx:∀ h F J,X.A h F J→X'.A h F J) (hy:∀ h F J,Y.A h F J→Y'.A h F J) (x:(dw X Y).A h F J):(dw X' Y').A h F J:=by
 obtain⟨F1,J1,F2,J2,x1,y1,r⟩:=x
 exact⟨F1,J1,F2,J2,hx _ _ _ x1,hy _ _ _ y1,r⟩
def St (h0:AH) (F0 J0:Nat→Prop) (h:AH) (L:List Asn):Prop:=Did h0 F0 J0 h (aX L)
theorem St.perm {L':List Asn} (hp:List.Perm L L'):∀ {h F J},(aX L).A h F J→(aX L').A h F J:=by
 induction hp with
 | nil=>exact fun x=>x
 | cons X _ ih=>exact fun x=>eZ (fun _ _ _ y=>y) (fun _ _ _ y=>ih y) x
 | swap X Y l=>exact fun x=>jK x
 | trans _ _ ih1 ih2=>exact fun x=>ih2 (ih1 x)
theorem aX.front:∀ {L:List Asn} {i:Nat} {X:Asn},L[i]? =some X→∀ {h F J},(aX L).A h F J↔(dw X (aX (L.eraseIdx i))).A h F J
 | [],i,X,hi,_,_,_=>by simp at hi
 | Y::L,0,X,hi,h,F,J=>by
   obtain rfl:Y=X:=by simpa using hi
   exact Iff.rfl
 | Y::L,i+1,X,hi,h,F,J=>by
   have ih:∀ {h:AH} {F J:Nat→Prop},(aX L).A h F J↔(dw X (aX (L.eraseIdx i))).A h F J:=aX.front (by simpa using hi)
   constructor
   ·intro x
    exact jK (eZ (fun _ _ _ y=>y) (fun _ _ _ y=>ih.1 y) x)
   ·intro x
    exact eZ (fun _ _ _ y=>y) (fun _ _ _ y=>ih.2 y) (jK x)
theorem aX.back {i:Nat} (hi:i<L.length) (x:(dw X (aX (L.eraseIdx i))).A h F J):(aX (L.set i X)).A h F J:=by
 rw[aX.front (L:=L.set i X) (i:=i) (X:=X) (by simp[hi])]
 rw[show(L.set i X).eraseIdx i=L.eraseIdx i from List.eraseIdx_set_eq]
 exact x
theorem St.call {R:AH→Prop} (s:St h0 F0 J0 h L) (i:Nat) (hi:L[i]? =some X) (c:∀ F J,X.A h F J→∃ h',R h'∧Did h F J h' Y):∃ h',R h'∧St h0 F0 J0 h' (L.set i Y):=by
 have hl:i<L.length:=(List.getElem?_eq_some_iff.1 hi).1
 obtain⟨F,J,x,ch,a,b⟩:=s
 obtain⟨h',r,d⟩:=vX ((aX.front hi).1 x) c
 exact⟨h',r,Did.chain ch a b (d.imp fun _ _ _ y=>aX.back hl y)⟩
theorem St.start (x:(aX L).A h F J):St h F J h L:=Did.same x
theorem St.get (s:St h0 F0 J0 h L) (i:Nat) (hi:L[i]? =some X):∃ F J,X.A h F J:=by
 obtain⟨F,J,x,_⟩:=s
 obtain⟨F1,J1,_,_,x1,_⟩:=(aX.front hi).1 x
 exact⟨F1,J1,x1⟩
theorem St.cell (s:St h0 F0 J0 h L) (i:Nat) {b:Nat} {es:List (List AV)} (hi:L[i]? =some (ai b es)):h.cell b=some es∧b<h.n:=by
 obtain⟨_,_,_,_,c,d⟩:=s.get i hi
 exact⟨d,c⟩
theorem St.imp {L':List Asn} (s:St h0 F0 J0 h L) (hx:∀ h F J,(aX L).A h F J→(aX L').A h F J):St h0 F0 J0 h L':=Did.imp hx s
theorem St.grew (s:St h0 F0 J0 h L) (g:af h h'):St h0 F0 J0 h' L:=by
 obtain⟨F,J,x,ch,a,b⟩:=s
 have lt:=(aX L).lt x
 exact⟨F,J,(aX L).keep x (g.chg (fun _=>False) fun _=>False) (fun _ _ h=>h) (fun _ _ h=>h),ch.trans (g.chg _ _),a,b⟩
theorem St.add (s:St h0 F0 J0 h L) (g:af h h') {F1 J1:Nat→Prop} (x1:X.A h' F1 J1) (hF:∀ k,F1 k→h.n≤k) (hJ:∀ j,J1 j→h.ids≤j):St h0 F0 J0 h' (X::L):=by
 obtain⟨F,J,x,ch,a,b⟩:=s
 have lt:=(aX L).lt x
 have x':=(aX L).keep x (g.chg (fun _=>False) fun _=>False) (fun _ _ h=>h) (fun _ _ h=>h)
 refine⟨fun k=>F1 k∨F k,fun j=>J1 j∨J j,⟨F1,J1,F,J,x1,x',fun _=>Iff.rfl,fun _=>Iff.rfl,fun k h1 h2=> ?_,fun j h1 h2=> ?_⟩,ch.trans (g.chg _ _),fun k hk=> ?_,fun j hj=> ?_⟩
 ·have:=lt.1 k h2;have:=hF k h1;omega
 ·have:=lt.2 j h2;have:=hJ j h1;omega
 ·exact hk.elim (fun h=> .inr (Nat.le_trans ch.n (hF k h))) (a k)
 ·exact hj.elim (fun h=> .inr (Nat.le_trans ch.ids (hJ j h))) (b j)
theorem St.push (s:St h0 F0 J0 h L) (es:List (List AV)):St h0 F0 J0 (h.push es) (ai h.n es::L):=
 s.add (af.push h es) (F1:=fun k=>k=h.n) (J1:=fun _=>False) ⟨fun _=>Iff.rfl,fun _ h=>h,Nat.lt_succ_self _,aC⟩ (fun k hk=>Nat.le_of_eq hk.symm) (fun _ h=>h.elim)
theorem St.fresh (s:St h0 F0 J0 h L) (m:Nat):St h0 F0 J0 (h.fresh m) (idA h.ids m::L):=
 s.add (af.fresh h m) (F1:=fun _=>False) (J1:=fun j=>j=h.ids) ⟨fun _ h=>h,fun _=>Iff.rfl,Nat.lt_succ_self _,by simp[AH.fresh]⟩ (fun _ h=>h.elim) (fun j hj=>Nat.le_of_eq hj.symm)
theorem St.set (s:St h0 F0 J0 h L) (i:Nat) {b:Nat} {es:List (List AV)} (hi:L[i]? =some (ai b es)) (fs:List (List AV)):St h0 F0 J0 (h.set b (some fs)) (L.set i (ai b fs)):=by
 obtain⟨h',rfl,d⟩:=s.call (R:=fun q=>q=h.set b (some fs)) i hi (Y:=ai b fs) fun F J ⟨a1,a2,a3,a4⟩=>⟨_,rfl,F,J,⟨a1,a2,a3,aP⟩,⟨Nat.le_refl _,Nat.le_refl _,fun k _ hk=>be fun e=>hk ((a1 k).2 e),fun _ _ _=>rfl⟩,fun _=> .inl,fun _=> .inl⟩
 exact d
theorem St.del (s:St h0 F0 J0 h L) (i:Nat) {b:Nat} {es:List (List AV)} (hi:L[i]? =some (ai b es)):St h0 F0 J0 (h.set b none) (L.set i (wk True)):=by
 obtain⟨h',rfl,d⟩:=s.call (R:=fun q=>q=h.set b none) i hi (Y:=wk True) fun F J ⟨a1,a2,a3,a4⟩=>⟨_,rfl,fun _=>False,fun _=>False,⟨trivial,fun _ h=>h,fun _ h=>h⟩,⟨Nat.le_refl _,Nat.le_refl _,fun k _ hk=>be fun e=>hk ((a1 k).2 e),fun _ _ _=>rfl⟩,fun _ h=>h.elim,fun _ h=>h.elim⟩
 exact d
theorem St.drop (s:St h0 F0 J0 h (X::L)):St h0 F0 J0 h L:=by
 obtain⟨F,J,⟨F1,J1,F2,J2,_,x2,hF,hJ,_,_⟩,ch,a,b⟩:=s
 exact⟨F2,J2,x2,ch,fun k hk=>a k ((hF k).2 (.inr hk)),fun j hj=>b j ((hJ j).2 (.inr hj))⟩
end
end Go.Proofs.YtkdbjfncchmmpaaGreat
