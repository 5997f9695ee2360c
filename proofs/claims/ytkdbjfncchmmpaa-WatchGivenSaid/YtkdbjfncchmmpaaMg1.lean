/- Plain laws on '&', '|' of 64-bit integers, by bit vectors. No program in sight. -/
import Derived.WalkKit
import Derived.WalkSpells
import Derived.Deep.Draws
import Derived.Laws.Rows
import Derived.Maps.AppendAt
import Derived.Deep.AppendLies
import Derived.Laws.ResultCell
import Derived.Lib.LaidTab
import Derived.Lib.ItoaNum
import Derived.Laws.StructEq
import Derived.Laws.CopyRow
import Derived.Lib.SliceRun
import Derived.Laws.Pointers
import Derived.WideLaws
import Derived.Great.FillDense
namespace Go.Proofs.Ytkdbjfncchmmpaa
open Nat (reduceAdd reduceSub reduceLeDiff reduceLT)
open List (replicate)
set_option linter.unusedSimpArgs false
set_option linter.unusedVariables false
open Go.RowKit
theorem BW (x:BitVec 64):IntKind.i64.wrap (x.toNat:Int)=x.toInt:=by
 have h:=x.isLt
 rw[BitVec.toInt_eq_toNat_cond,IntKind.wrap_i64]
 split<;>omega
theorem sk (a b:Int):bits .and .i64 a b=(BitVec.ofInt 64 a &&& BitVec.ofInt 64 b).toInt:=BW _
theorem pd (x:BitVec 64):BitVec.ofInt 64 x.toInt=x:=BitVec.ofInt_toInt
def dT (a b:Int):Int:=bits .and .i64 a b
def Cy (a b:Int):Bool:=dT a b==b
theorem FE (x y:BitVec 64):dT x.toInt y.toInt=(x &&& y).toInt:=by
 unfold dT
 rw[sk,pd,pd]
theorem yn (x y:BitVec 64):Cy x.toInt y.toInt=decide (x &&& y=y):=by
 unfold Cy
 rw[FE,Bool.eq_iff_iff,beq_iff_eq,BitVec.toInt_inj,decide_eq_true_eq]
def fK (a:Int):Bool:=decide (0≤a∧a≤15)
def ew (a:Int) (i:Nat):Bool:=bits .and .i64 (a / 2 ^ i) 1==1
open Go.RowKit
structure aX where
 (parent gate rights cell plugin func:Int)
def bH:aX:=⟨0,0,0,0,0,0⟩
structure ae where
 nodes:List aX
 shut:List Bool
def ae.has (G:ae) (n:Int):Bool:=decide (0≤n∧n<G.nodes.length)
def ae.hasGate (G:ae) (k:Int):Bool:=decide (0≤k∧k<G.shut.length)
def ae.isOpen (G:ae) (k:Int):Bool:=G.hasGate k && !(G.shut.getD k.toNat false)
def ae.gate (G:ae):ae×Int×Int:=if G.shut.length=20 then(G,0,11)else(⟨G.nodes,G.shut++[false]⟩,G.shut.length,0)
def ae.cut (G:ae) (k:Int):ae×Int:=if G.hasGate k then(⟨G.nodes,G.shut.set k.toNat true⟩,0)else(G,8)
def ae.add (G:ae) (n:aX):ae×Int×Int:=
 if fK n.rights=false then(G,0,1)
 else if n.gate≠ -1∧G.hasGate n.gate=false then(G,0,8)
 else if G.nodes.length=80 then(G,0,11)
 else(⟨G.nodes++[n],G.shut⟩,G.nodes.length,0)
def gn (c:Int):Bool:=decide (0≤c∧c<12)
def lJ (p f:Int):Bool:=decide (0≤p∧p<4∧0≤f∧f<6)
def ae.cellC (G:ae) (c r g:Int):ae×Int×Int:=if gn c then G.add ⟨-1,g,r,c, -1,0⟩else(G,0,1)
def ae.funcC (G:ae) (p f r g:Int):ae×Int×Int:=if lJ p f then G.add ⟨-1,g,r,0,p,f⟩else(G,0,1)
def ae.derive (G:ae) (p r g:Int):ae×Int×Int:=if G.has p then G.add ⟨p,g,r,0, -1,0⟩else(G,0,8)
structure OkN (s:Nat) (i:Nat) (n:aX):Prop where
 p0: -1≤n.parent
 p1:n.parent<i
 r:fK n.rights=true
 g:n.gate= -1∨0≤n.gate∧n.gate<s
 t:n.parent= -1→n.plugin= -1∧0≤n.cell∧n.cell<12∧n.func=0∨0≤n.plugin∧n.plugin<4∧0≤n.func∧n.func<6∧n.cell=0
structure ae.Wf (G:ae):Prop where
 few:G.nodes.length≤80
 gates:G.shut.length≤20
 node:∀ (i:Nat) (n:aX),G.nodes[i]? =some n→OkN G.shut.length i n
theorem OkN.more {s s' i:Nat} {n:aX} (h:OkN s i n) (hs:s≤s'):OkN s' i n:=
 ⟨h.p0,h.p1,h.r,h.g.imp id (fun⟨a,b⟩=>⟨a,by omega⟩),h.t⟩
theorem I5:ae.Wf ⟨[],[]⟩:=⟨by simp,by simp,fun i n h=>by simp at h⟩
theorem ae.Wf.gate {G:ae} (h:G.Wf):G.gate.1.Wf:=by
 unfold ae.gate
 split
 ·exact h
 ·have:=h.gates
  exact⟨h.few,by simp;omega,fun i n hn=>(h.node i n hn).more (by simp)⟩
theorem ae.Wf.cut {G:ae} (h:G.Wf) (k:Int):(G.cut k).1.Wf:=by
 unfold ae.cut
 split
 ·exact⟨h.few,by simpa using h.gates,fun i n hn=>by simpa using h.node i n hn⟩
 ·exact h
theorem ae.Wf.add {G:ae} (h:G.Wf) {n:aX} (h0: -1≤n.parent) (h1:n.parent<G.nodes.length)
  (ht:n.parent= -1→n.plugin= -1∧0≤n.cell∧n.cell<12∧n.func=0∨0≤n.plugin∧n.plugin<4∧0≤n.func∧n.func<6∧n.cell=0):(G.add n).1.Wf:=by
 unfold ae.add
 split
 ·exact h
 ·rename_i hr
  split
  ·exact h
  ·rename_i hg
   split
   ·exact h
   ·have:=h.few
    refine⟨by simp;omega,h.gates,fun i m hm=> ?_⟩
    show OkN G.shut.length i m
    simp only at hm
    by_cases hi:i<G.nodes.length
    ·rw[List.getElem?_append_left hi]at hm
     exact h.node i m hm
    ·rw[List.getElem?_append_right (by omega)]at hm
     have hi0:i - G.nodes.length=0:=by
      have:=(List.getElem?_eq_some_iff.1 hm).1
      simpa using this
     rw[hi0]at hm
     simp at hm
     subst hm
     refine⟨h0,by omega,by simpa using hr,?_,ht⟩
     by_cases e:n.gate= -1
     ·exact .inl e
     ·right
      have hgt:G.hasGate n.gate=true:=by
       cases hh:G.hasGate n.gate
       ·exact absurd ⟨e,hh⟩ hg
       ·rfl
      simpa[ae.hasGate]using hgt
theorem ae.Wf.cellC {G:ae} (h:G.Wf) (c r g:Int):(G.cellC c r g).1.Wf:=by
 unfold ae.cellC
 split
 ·rename_i hc
  simp[gn]at hc
  exact h.add (by simp) (by simp;omega) (fun _=> .inl ⟨rfl,hc.1,hc.2,rfl⟩)
 ·exact h
theorem ae.Wf.funcC {G:ae} (h:G.Wf) (p f r g:Int):(G.funcC p f r g).1.Wf:=by
 unfold ae.funcC
 split
 ·rename_i hc
  simp[lJ]at hc
  exact h.add (by simp) (by simp;omega) (fun _=> .inr ⟨hc.1,hc.2.1,hc.2.2.1,hc.2.2.2,rfl⟩)
 ·exact h
theorem ae.Wf.derive {G:ae} (h:G.Wf) (p r g:Int):(G.derive p r g).1.Wf:=by
 unfold ae.derive
 split
 ·rename_i hc
  simp[ae.has]at hc
  exact h.add (by simp;omega) (by simp;omega) (fun e=>by simp at e;omega)
 ·exact h
def ae.pathF (G:ae):Nat→Int→List aX
 | 0,_=>[]
 | f+1,i=>if G.has i then(G.nodes.getD i.toNat bH)::G.pathF f (G.nodes.getD i.toNat bH).parent else[]
def ae.path (G:ae) (i:Int):List aX:=G.pathF (i.toNat+1) i
theorem ae.Wf.get {G:ae} (h:G.Wf) {i:Int} (hi:G.has i=true):OkN G.shut.length i.toNat (G.nodes.getD i.toNat bH):=by
 simp[ae.has]at hi
 have hl:i.toNat<G.nodes.length:=by omega
 have e:G.nodes[i.toNat]? =some (G.nodes.getD i.toNat bH):=by simp[List.getD,hl]
 exact h.node _ _ e
theorem ae.pathF_more {G:ae} (h:G.Wf):∀ (f:Nat) (i:Int),i.toNat<f→G.pathF f i=G.path i:=by
 intro f
 induction f using Nat.strongRecOn with
 | _ f ih=>
   intro i hi
   cases f with
   | zero=>omega
   | succ f=>
     unfold ae.path
     by_cases hh:G.has i=true
     ·have ok:=h.get hh
      have hp:=ok.p0
      have hp1:=ok.p1
      have hi0:0≤i:=by simp[ae.has]at hh;exact hh.1
      unfold ae.pathF
      rw[if_pos hh,if_pos hh]
      congr 1
      generalize (G.nodes.getD i.toNat bH).parent=p at*
      by_cases hpn:p<0
      ·have hno:G.has p=false:=by simp[ae.has];omega
       cases f with
       | zero=>cases hn:i.toNat<;>simp[ae.pathF,hno]
       | succ f=>cases hn:i.toNat<;>simp[ae.pathF,hno]
      ·have e1:=ih f (by omega) p (by omega)
       rw[e1]
       rcases Nat.lt_or_ge i.toNat (f+1)with h2 | h2
       ·have e2:=ih i.toNat (by omega) p (by omega)
        rw[e2]
       ·omega
     ·cases f<;>simp[ae.pathF,hh]
theorem ae.path_yes {G:ae} (h:G.Wf) {i:Int} (hi:G.has i=true):G.path i=(G.nodes.getD i.toNat bH)::G.path (G.nodes.getD i.toNat bH).parent:=by
 have ok:=h.get hi
 have hp1:=ok.p1
 have hp0:=ok.p0
 have hi0:0≤i:=by simp[ae.has]at hi;exact hi.1
 rw[ae.path,ae.pathF,if_pos hi]
 congr 1
 generalize (G.nodes.getD i.toNat bH).parent=p at*
 by_cases hpn:p<0
 ·have hno:G.has p=false:=by simp[ae.has];omega
  unfold ae.path
  cases i.toNat<;>simp[ae.pathF,hno]
 ·exact ae.pathF_more h _ _ (by omega)
theorem ae.path_no {G:ae} {i:Int} (hi:G.has i=false):G.path i=[]:=by
 rw[ae.path,ae.pathF,hi]
 rfl
def eK (G:ae) (n:aX):Bool:=decide (0≤n.gate) && !G.isOpen n.gate
def ae.rights (G:ae) (i:Int):Int:=if G.path i=[]∨(G.path i).any (eK G)then 0 else(G.path i).foldl (fun r n=>dT r n.rights) 15
def ae.target (G:ae) (i:Int):aX×Bool:=((G.path i).getLastD bH,!(G.path i).isEmpty)
def eC (l:List aX):List Int:=(l.filter fun n=>decide (0≤n.gate)).map (·.gate)
def ae.gatesC (G:ae) (i:Int):List Int:=eC (G.path i)
inductive VD where
 | mk (kind n:Int) (l:List VD)
def VD.kind:VD→Int
 | .mk k _ _=>k
def VD.n:VD→Int
 | .mk _ n _=>n
def VD.l:VD→List VD
 | .mk _ _ l=>l
theorem VD.eta (x:VD):x= .mk x.kind x.n x.l:=by cases x;rfl
theorem VD.lt_mem {x y:VD} (h:y∈x.l):SizeOf.sizeOf y<SizeOf.sizeOf x:=by
 cases x with
 | mk kind n l=>
   have:=List.sizeOf_lt_of_mem (show y∈l from h)
   simp only[VD.mk.sizeOf_spec]
   omega
theorem VD.so_pos (x:VD):1≤SizeOf.sizeOf x:=by
 cases x
 simp only[VD.mk.sizeOf_spec]
 omega
mutual
def VD.size:VD→Nat
 | .mk _ _ l=>1+bE l
def bE:List VD→Nat
 | []=>0
 | x::l=>x.size+bE l
end
theorem VD.size_eq (x:VD):x.size=1+bE x.l:=by cases x;simp[VD.size,VD.l]
theorem gW:∀ (l l':List VD),bE (l++l')=bE l+bE l'
 | [],l'=>by simp[bE]
 | x::l,l'=>by simp[bE,gW l l',Nat.add_assoc]
theorem BC (x:VD):bE [x]=x.size:=by simp[bE]
theorem VD.size_pos (x:VD):1≤x.size:=by rw[x.size_eq];omega
theorem ni:∀ l:List VD,l.length≤bE l
 | []=>by simp
 | y::l=>by
   have:=y.size_pos
   have:=ni l
   simp only[bE,List.length_cons]
   omega
theorem VD.len_size (x:VD):x.l.length<x.size:=by
 have:=ni x.l
 rw[x.size_eq]
 omega
theorem VD.size_mem {x y:VD} (h:y∈x.l):y.size<x.size:=by
 have:∀ l:List VD,y∈l→y.size≤bE l:=by
  intro l
  induction l with
  | nil=>intro hm;simp at hm
  | cons z l ih=>
    intro hm
    simp only[bE]
    rcases List.mem_cons.1 hm with rfl | hm
    ·omega
    ·have:=ih hm;omega
 have:=this x.l h
 rw[x.size_eq]
 omega
def jn (kind:Int):Nat:=if kind=2 then 2 else if kind=3 then 1 else 0
def dN (kind n:Int) (len:Nat):Int:=
 if kind<0∨5<kind then 2 else if len≠jn kind then 5 else if(kind=0∨kind=2)∧n≠0 then 5 else if 3≤kind∧n<0 then 1 else 0
mutual
def VD.fault:VD→Int
 | .mk kind n l=>if dN kind n l.length≠0 then dN kind n l.length else dw l
def dw:List VD→Int
 | []=>0
 | x::l=>if x.fault≠0 then x.fault else dw l
end
def VD.code (x:VD):Int:=if 40<x.size then 3 else x.fault
theorem VD.fault_eq (x:VD):x.fault=if dN x.kind x.n x.l.length≠0 then dN x.kind x.n x.l.length else dw x.l:=by
 cases x
 rfl
theorem gt (x:VD) (l:List VD):dw (x::l)=if x.fault≠0 then x.fault else dw l:=rfl
mutual
def mR:VD→VD→Bool
 | .mk k n l,.mk k' n' l'=>decide (k=k') && (decide (n=n') && ft l l')
def ft:List VD→List VD→Bool
 | [],[]=>true
 | x::l,y::l'=>mR x y && ft l l'
 | _,_=>false
end
mutual
theorem AS:∀ x:VD,mR x x=true
 | .mk kind n l=>by simp[mR,qo l]
theorem qo:∀ l:List VD,ft l l=true
 | []=>rfl
 | x::l=>by simp[ft,AS x,qo l]
end
mutual
theorem EM:∀ {x y:VD},mR x y=true→x=y
 | .mk k n l,.mk k' n' l',h=>by
   simp only[mR,Bool.and_eq_true,decide_eq_true_eq]at h
   obtain⟨rfl,rfl,h⟩:=h
   rw[nh h]
theorem nh:∀ {l l':List VD},ft l l'=true→l=l'
 | [],[],_=>rfl
 | x::l,y::l',h=>by
   simp only[ft,Bool.and_eq_true]at h
   rw[EM h.1,nh h.2]
 | [],_::_,h=>by simp[ft]at h
 | _::_,[],h=>by simp[ft]at h
end
theorem FV {l l':List VD} (h:decide ((l.length:Int)=(l'.length:Int))=false):ft l l'=false:=by
 cases hs:ft l l'
 ·rfl
 ·rw[nh hs]at h
  simp at h
theorem Gi (x y:VD):mR x y=(decide (x.kind=y.kind) && (decide (x.n=y.n) && ft x.l y.l)):=by
 cases x;cases y
 rfl
mutual
def VD.caps:VD→List Int
 | .mk kind n l=>(if kind=4 then[n]else[])++dm l
def dm:List VD→List Int
 | []=>[]
 | x::l=>x.caps++dm l
end
theorem VD.caps_eq (x:VD):x.caps=(if x.kind=4 then[x.n]else[])++dm x.l:=by
 cases x
 rfl
theorem mP:∀ (l l':List VD),dm (l++l')=dm l++dm l'
 | [],l'=>by simp[dm]
 | x::l,l'=>by simp[dm,mP l l',List.append_assoc]
mutual
theorem VD.caps_few:∀ x:VD,x.caps.length≤x.size
 | .mk kind n l=>by
   have:=nz l
   simp only[VD.caps,VD.size,List.length_append]
   split<;>simp<;>omega
theorem nz:∀ l:List VD,(dm l).length≤bE l
 | []=>by simp[dm]
 | x::l=>by
   have:=VD.caps_few x
   have:=nz l
   simp only[dm,bE,List.length_append]
   omega
end
mutual
def VD.gate:VD→Bool
 | .mk kind _ l=>decide (kind=5) || mg l
def mg:List VD→Bool
 | []=>false
 | x::l=>x.gate || mg l
end
theorem VD.gate_eq (x:VD):x.gate=(decide (x.kind=5) || mg x.l):=by
 cases x
 rfl
theorem qC:∀ l:List VD,mg l=l.any VD.gate
 | []=>rfl
 | x::l=>by simp only[mg,List.any_cons,qC l]
def du:List Int→ae→Int→ae×Int×Int
 | [],G,n=>(G,n,0)
 | k::l,G,n=>if(G.derive n 15 k).2.2≠0 then((G.derive n 15 k).1,0,(G.derive n 15 k).2.2)else du l (G.derive n 15 k).1 (G.derive n 15 k).2.1
def au:VD:= .mk 0 0 []
def ci (ks:List Int) (G:ae) (kind n:Int):ae×Int×Int:=if kind=4 then du ks G n else(G,n,0)
mutual
def df (ks:List Int):VD→ae→ae×VD×Int
 | .mk kind n l,G=>
   if(ci ks G kind n).2.2≠0 then((ci ks G kind n).1,au,(ci ks G kind n).2.2)
   else if(bu ks l (ci ks G kind n).1).2.2≠0 then((bu ks l (ci ks G kind n).1).1,au,(bu ks l (ci ks G kind n).1).2.2)
   else((bu ks l (ci ks G kind n).1).1,.mk kind (ci ks G kind n).2.1 (bu ks l (ci ks G kind n).1).2.1,0)
def bu (ks:List Int):List VD→ae→ae×List VD×Int
 | [],G=>(G,[],0)
 | x::l,G=>
   if(df ks x G).2.2≠0 then((df ks x G).1,[],(df ks x G).2.2)
   else((bu ks l (df ks x G).1).1,(df ks x G).2.1::(bu ks l (df ks x G).1).2.1,(bu ks l (df ks x G).1).2.2)
end
theorem DA (ks:List Int) (x:VD) (G:ae):df ks x G=
  if(ci ks G x.kind x.n).2.2≠0 then((ci ks G x.kind x.n).1,au,(ci ks G x.kind x.n).2.2)
  else if(bu ks x.l (ci ks G x.kind x.n).1).2.2≠0 then((bu ks x.l (ci ks G x.kind x.n).1).1,au,(bu ks x.l (ci ks G x.kind x.n).1).2.2)
  else((bu ks x.l (ci ks G x.kind x.n).1).1,.mk x.kind (ci ks G x.kind x.n).2.1 (bu ks x.l (ci ks G x.kind x.n).1).2.1,0):=by
 cases x
 rfl
def ue (G:ae) (x:VD):Int:=
 if x.code≠0 then x.code else if x.gate then 9 else if x.caps.any fun n=> !ew (G.rights n) 2 then 9 else 0
def aV (ks:List Int) (G:ae) (x:VD):ae×VD×Int:=if ue G x≠0 then(G,au,ue G x)else df ks x G
theorem D7 (ks:List Int):∀ (G:ae) (n:Int),G.Wf→(du ks G n).1.Wf:=by
 induction ks with
 | nil=>intro G n h;exact h
 | cons k l ih=>
   intro G n h
   simp only[du]
   split
   ·exact h.derive _ _ _
   ·exact ih _ _ (h.derive _ _ _)
theorem tj {ks:List Int} {G:ae} {kind n:Int} (h:G.Wf):(ci ks G kind n).1.Wf:=by
 unfold ci
 split
 ·exact D7 ks G n h
 ·exact h
mutual
theorem rc (ks:List Int):∀ (x:VD) (G:ae),G.Wf→(df ks x G).1.Wf
 | .mk kind n l,G,h=>by
   simp only[df]
   split
   ·exact tj h
   ·split
    ·exact rT ks l _ (tj h)
    ·exact rT ks l _ (tj h)
theorem rT (ks:List Int):∀ (l:List VD) (G:ae),G.Wf→(bu ks l G).1.Wf
 | [],G,h=>h
 | x::l,G,h=>by
   simp only[bu]
   split
   ·exact rc ks x G h
   ·exact rT ks l _ (rc ks x G h)
end
theorem tK {ks:List Int} {G:ae} {x:VD} (h:G.Wf):(aV ks G x).1.Wf:=by
 unfold aV
 split
 ·exact h
 ·exact rc ks x G h
inductive XD where
 | mk (op k n:Int) (l:List XD)
def XD.op:XD→Int
 | .mk op _ _ _=>op
def XD.k:XD→Int
 | .mk _ k _ _=>k
def XD.n:XD→Int
 | .mk _ _ n _=>n
def XD.l:XD→List XD
 | .mk _ _ _ l=>l
theorem XD.lt_mem {x y:XD} (h:y∈x.l):SizeOf.sizeOf y<SizeOf.sizeOf x:=by
 cases x with
 | mk op k n l=>
   have:=List.sizeOf_lt_of_mem (show y∈l from h)
   simp only[XD.mk.sizeOf_spec]
   omega
mutual
def XD.size:XD→Nat
 | .mk _ _ _ l=>1+aK l
def aK:List XD→Nat
 | []=>0
 | x::l=>x.size+aK l
end
mutual
def XD.depth:XD→Nat
 | .mk _ _ _ l=>bh l
def bh:List XD→Nat
 | []=>0
 | x::l=>max (1+x.depth) (bh l)
end
theorem XD.size_eq (x:XD):x.size=1+aK x.l:=by cases x;simp[XD.size,XD.l]
theorem XD.depth_eq (x:XD):x.depth=bh x.l:=by cases x;simp[XD.depth,XD.l]
theorem fu:∀ (l l':List XD),aK (l++l')=aK l+aK l'
 | [],l'=>by simp[aK]
 | x::l,l'=>by simp[aK,fu l l',Nat.add_assoc]
theorem jo:∀ (l l':List XD),bh (l++l')=max (bh l) (bh l')
 | [],l'=>by simp[bh]
 | x::l,l'=>by simp[bh,jo l l',Nat.max_assoc]
theorem ti (x:XD):aK [x]=x.size:=by simp[aK]
theorem zP (x:XD):bh [x]=1+x.depth:=by simp[bh]
theorem XD.size_pos (x:XD):1≤x.size:=by rw[x.size_eq];omega
theorem XD.len_size (x:XD):x.l.length<x.size:=by
 have:∀ l:List XD,l.length≤aK l:=by
  intro l
  induction l with
  | nil=>simp
  | cons y l ih=>
    have:=y.size_pos
    simp only[aK,List.length_cons]
    omega
 have:=this x.l
 rw[x.size_eq]
 omega
theorem XD.so_pos (x:XD):1≤SizeOf.sizeOf x:=by
 cases x
 simp only[XD.mk.sizeOf_spec]
 omega
theorem tR {n:Nat}:∀ {l:List XD},bh l≤n↔∀ y∈l,1+y.depth≤n
 | []=>by simp[bh]
 | x::l=>by
   have:=tR (n:=n) (l:=l)
   simp only[bh,List.mem_cons,forall_eq_or_imp,←this]
   omega
theorem HV (x:XD) {left:Int} (h0:0≤left):(!(x.l.any fun y=> !decide ((y.depth:Int)≤left - 1)))=decide ((x.depth:Int)≤left):=by
 obtain⟨n,rfl⟩:∃ n:Nat,left=n:=⟨left.toNat,by omega⟩
 have h:=tR (n:=n) (l:=x.l)
 rw[←x.depth_eq]at h
 by_cases hx:x.depth≤n
 ·have h1:((x.depth:Nat):Int)≤(n:Int):=by omega
  have h2:(x.l.any fun y=> !decide ((y.depth:Int)≤(n:Int) - 1))=false:=by
   rw[List.any_eq_false]
   intro y hy
   have:=h.1 hx y hy
   have h3:(y.depth:Int)≤(n:Int) - 1:=by omega
   simp[h3]
  rw[h2]
  simp[h1]
 ·have h1:¬ ((x.depth:Nat):Int)≤(n:Int):=by omega
  have h2:(x.l.any fun y=> !decide ((y.depth:Int)≤(n:Int) - 1))=true:=by
   cases hb:(x.l.any fun y=> !decide ((y.depth:Int)≤(n:Int) - 1))
   ·exfalso
    apply hx
    apply h.2
    intro y hy
    have:=(List.any_eq_false.1 hb) y hy
    simp at this
    omega
   ·rfl
  rw[h2]
  simp[h1]
def aW (op:Int):Int:=
 if op=1∨op=2∨op=3∨op=4∨op=21 then 0
 else if op=9∨op=10∨op=11∨op=12∨op=13∨op=15∨op=16∨op=17∨op=18∨op=20 then 1
 else if op=5∨op=6∨op=8∨op=14∨op=19 then 2
 else if op=7 then 3 else -1
def jG (nf op k n o:Int):Int:=
 if n≠0∧op≠2 then 5
 else if op=4 then(if k<0∨o≤k then 1 else 0)
 else if op=6 then(if k<1∨5<k then 1 else 0)
 else if op=15 then(if k<0∨15<k then 1 else 0)
 else if op=18 then(if k<0∨nf≤k then 1 else 0)
 else if k≠0 then 5 else 0
def fh (nf op k n:Int) (len:Nat) (o:Int):Int:=
 if aW op<0 then 2 else if(len:Int)≠aW op then 5
 else if jG nf op k n o≠0 then jG nf op k n o
 else if op=5∧o=12 then 3 else 0
mutual
def XD.fault (nf:Int):XD→Int→Int
 | .mk op k n l,o=>if fh nf op k n l.length o≠0 then fh nf op k n l.length o else dZ nf op 0 l o
def dZ (nf op:Int):Nat→List XD→Int→Int
 | _,[],_=>0
 | i,x::l,o=>if x.fault nf (if op=5∧i=1 then o+1 else o)≠0 then x.fault nf (if op=5∧i=1 then o+1 else o)else dZ nf op (i+1) l o
end
def ge (nf:Int) (x:XD):Int:=if 30<x.depth then 4 else if 120<x.size then 3 else x.fault nf 0
def gy (nf:Int):Nat→List XD→Int×Int
 | _,[]=>(0,0)
 | i,x::l=>if ge nf x≠0 then(ge nf x,i)else gy nf (i+1) l
def be (l:List XD):Int×Int:=if l.length=0∨6<l.length then(3, -1)else gy l.length 0 l
def gm (l:List XD):Bool:=decide (20<l.length) || l.any fun x=>decide (600<x.size)
structure aT where
 op:Int
 k:Int
 n:Int
def g9:List (Nat→List aT)→Nat→List aT
 | [],_=>[]
 | f::fs,p=>f p++g9 fs (p+(f p).length)
def Nw (f0 f1:Nat→List aT) (p:Nat):List aT:=⟨100,0,0⟩::(f0 (p+1)++⟨101,0,0⟩::(f1 (p+1+(f0 (p+1)).length+1)++[⟨102,0,0⟩]))
def ir (f0 f1:Nat→List aT) (p:Nat):Nat:=p+1+(f0 (p+1)).length+1+(f1 (p+1+(f0 (p+1)).length+1)).length+1
def ifC (f0 f1 f2:Nat→List aT) (p:Nat):List aT:=
 ⟨100,0,0⟩::(f0 (p+1)++⟨103,(ir f0 f1 p:Nat),0⟩::(f1 (p+1+(f0 (p+1)).length+1)++⟨104,((ir f0 f1 p+(f2 (ir f0 f1 p)).length:Nat):Int),0⟩::f2 (ir f0 f1 p)))
def sU (op k n:Int) (fs:List (Nat→List aT)) (p:Nat):List aT:=
 if op=5 then(match fs with | [f0,f1]=>Nw f0 f1 p | _=>[])
 else if op=7 then(match fs with | [f0,f1,f2]=>ifC f0 f1 f2 p | _=>[])
 else⟨100,0,0⟩::(g9 fs (p+1)++[⟨op,k,n⟩])
mutual
def ay:XD→Nat→List aT
 | .mk op k n l=>sU op k n (sG l)
def sG:List XD→List (Nat→List aT)
 | []=>[]
 | x::l=>ay x::sG l
end
theorem Ir (x:XD):ay x=sU x.op x.k x.n (sG x.l):=by cases x;simp only[ay,XD.op,XD.k,XD.n,XD.l]
open Classical in
theorem tx:∀ l:List XD,sG l=l.map ay
 | []=>rfl
 | x::l=>by simp only[sG,List.map_cons,tx l]
theorem iW (x:XD):ay x=sU x.op x.k x.n (x.l.map ay):=by rw[Ir,tx]
theorem tX:∀ (l:List XD) (p:Nat),(∀ y∈l,∀ p,(ay y p).length≤3*y.size)→(g9 (l.map ay) p).length≤3*aK l
 | [],p,_=>by simp[g9]
 | x::l,p,h=>by
   have h1:=h x (by simp) p
   have h2:=tX l (p+(ay x p).length) fun y hy=>h y (by simp[hy])
   simp only[List.map_cons,g9,List.length_append,aK]
   omega
theorem ff:∀ (N:Nat) (x:XD),SizeOf.sizeOf x≤N→∀ p:Nat,(ay x p).length≤3*x.size:=by
 intro N
 induction N with
 | zero=>intro x hx;have:=x.so_pos;omega
 | succ N ih=>
   intro x hx p
   have hc:∀ y∈x.l,∀ p,(ay y p).length≤3*y.size:=fun y hy=>ih y (by have:=XD.lt_mem hy;omega)
   have hs:=x.size_eq
   rw[iW]
   generalize x.l=l at hc hs
   unfold sU
   split
   ·match l,hc,hs with
    | [],_,_=>simp
    | [a],_,_=>simp
    | [a,b],hc,hs=>
      have h1:=hc a (by simp) (p+1)
      have h2:=hc b (by simp) (p+1+(ay a (p+1)).length+1)
      simp only[aK]at hs
      simp only[List.map_cons,List.map_nil,Nw,List.length_cons,List.length_append,List.length_nil]
      have:=a.size_pos
      omega
    | a::b::c::l,_,_=>simp
   ·split
    ·match l,hc,hs with
     | [],_,_=>simp
     | [a],_,_=>simp
     | [a,b],_,_=>simp
     | [a,b,c],hc,hs=>
       have h1:=hc a (by simp) (p+1)
       have h2:=hc b (by simp) (p+1+(ay a (p+1)).length+1)
       have h3:=hc c (by simp) (ir (ay a) (ay b) p)
       simp only[aK]at hs
       simp only[List.map_cons,List.map_nil,ifC,List.length_cons,List.length_append]
       omega
     | a::b::c::d::l,_,_=>simp
    ·have:=tX l (p+1) hc
     simp only[List.length_cons,List.length_append,List.length_nil]
     omega
theorem lZ {nf o:Int} {x:XD} (h:x.fault nf o=0):0≤aW x.op∧(x.l.length:Int)=aW x.op∧jG nf x.op x.k x.n o=0∧¬ (x.op=5∧o=12)∧dZ nf x.op 0 x.l o=0:=by
 cases x with
 | mk op k n l=>
   simp only[XD.fault]at h
   split at h
   ·rename_i h1;exact absurd h h1
   ·rename_i h1
    have h1:fh nf op k n l.length o=0:=by simpa using h1
    unfold fh at h1
    split at h1
    ·cases h1
    ·split at h1
     ·cases h1
     ·split at h1
      ·rename_i h2;exact absurd h1 h2
      ·split at h1
       ·cases h1
       ·rename_i a b c d
        simp only[XD.op,XD.k,XD.n,XD.l]
        exact⟨by omega,by simpa using b,by simpa using c,d,h⟩
theorem gY {nf op o:Int} {i:Nat} {x:XD} {l:List XD} (h:dZ nf op i (x::l) o=0):x.fault nf (if op=5∧i=1 then o+1 else o)=0∧dZ nf op (i+1) l o=0:=by
 simp only[dZ]at h
 generalize x.fault nf (if op=5∧i=1 then o+1 else o)=c at h
 by_cases hc:c=0
 ·exact⟨hc,by simpa[hc]using h⟩
 ·simp[hc]at h
theorem kH {nf op o:Int} (hop:op≠5):∀ {l:List XD} {i:Nat},dZ nf op i l o=0→∀ y∈l,y.fault nf o=0
 | [],_,_,y,hy=>by simp at hy
 | x::l,i,h,y,hy=>by
   obtain⟨h1,h2⟩:=gY h
   rw[if_neg (fun h=>hop h.1)]at h1
   rcases List.mem_cons.1 hy with rfl | hy
   ·exact h1
   ·exact kH hop h2 y hy
structure ca where
 (plugin cell right node:Int)
structure StD where
 G:ae
 cells:List Int
 log:List ca
 kept:List VD
 left:Nat
abbrev aN:=List (Option (List XD))
def cB:XD:= .mk 0 0 0 []
def iH (n:Int):VD:= .mk 1 n []
def fA (n:Int):VD:= .mk 4 n []
def cI (ms:aN) (p:Int):List XD:=(ms.getD p.toNat none).getD []
def cX (ms:aN) (p k:Int):XD:=(cI ms p).getD k.toNat cB
def rh (k a b:Int):Int:=if k=1 then IntKind.wrap .i64 (a+b)else if k=2 then IntKind.wrap .i64 (a - b)else if k=3 then IntKind.wrap .i64 (a*b)else if k=4 then(if a<b then 1 else 0)else if k=5 then(if a=b then 1 else 0)else 0
def StD.ok (S:StD) (v:VD):StD×VD×Int:=(S,v,0)
def StD.no (S:StD) (c:Int):StD×VD×Int:=(S,au,c)
def StD.tick (S:StD):StD:={S with left:=S.left - 1}
def xp (S:StD) (q:ae×Int×Int):StD×VD×Int:=if q.2.2≠0 then({S with G:=q.1}).no q.2.2 else({S with G:=q.1}).ok (fA q.2.1)
def bI (p op k n:Int) (l:List VD) (S:StD):StD×VD×Int:=
 let a:=l.getD 0 au
 let b:=l.getD 1 au
 if op=6 then(if a.kind≠1∨b.kind≠1 then S.no 2 else S.ok (iH (rh k a.n b.n)))
 else if op=8 then(if(VD.mk 2 0 [a,b]).code≠0 then S.no 3 else S.ok (.mk 2 0 [a,b]))
 else if op=9 then(if a.kind≠2 then S.no 2 else S.ok (a.l.getD 0 au))
 else if op=10 then(if a.kind≠2 then S.no 2 else S.ok (a.l.getD 1 au))
 else if op=11 then(if(VD.mk 3 p [a]).code≠0 then S.no 3 else S.ok (.mk 3 p [a]))
 else if op=12 then(if a.kind≠3 then S.no 2 else if a.n≠p then S.no 10 else S.ok (a.l.getD 0 au))
 else if op=13 then(if a.kind≠4 then S.no 2 else if ew (S.G.rights a.n) 0=false then S.no 9 else if 0≤(S.G.target a.n).1.plugin then S.no 2
  else({S with log:=S.log++[ca.mk p (S.G.target a.n).1.cell 1 a.n]}).ok (iH (S.cells.getD (S.G.target a.n).1.cell.toNat 0)))
 else if op=14 then(if a.kind≠4∨b.kind≠1 then S.no 2 else if ew (S.G.rights a.n) 1=false then S.no 9 else if 0≤(S.G.target a.n).1.plugin then S.no 2
  else({S with log:=S.log++[ca.mk p (S.G.target a.n).1.cell 2 a.n],cells:=S.cells.set (S.G.target a.n).1.cell.toNat b.n}).ok b)
 else if op=15 then(if a.kind≠4 then S.no 2 else xp S (S.G.derive a.n k (-1)))
 else if op=16 then(if a.kind≠4 then S.no 2 else if S.G.gate.2.2≠0 then({S with G:=S.G.gate.1}).no S.G.gate.2.2
  else match S.G.gate.1.derive a.n 15 S.G.gate.2.1 with
   | (G',m,c)=>if c≠0 then({S with G:=G'}).no c else({S with G:=G'}).ok (.mk 2 0 [fA m,.mk 5 S.G.gate.2.1 []]))
 else if op=17 then(if a.kind≠5 then S.no 2 else({S with G:=(S.G.cut a.n).1}).ok au)
 else if op=20 then({S with kept:=S.kept.set p.toNat a}).ok (S.kept.getD p.toNat au)
 else S.no 0
structure uf where
 (plugin func:Int)
 arg:VD
 gates:List Int
def fp (ms:aN) (v x:VD) (fr:Nat) (S:StD):StD×uf×Int:=
 let t:=(S.G.target v.n).1
 let z:uf:=⟨0,0,au,[]⟩
 if v.kind≠4 then(S,z,2)else if ew (S.G.rights v.n) 3=false then(S,z,9)else if t.plugin<0 then(S,z,2)
 else if(ms.getD t.plugin.toNat none).isNone∨((cI ms t.plugin).length:Int)≤t.func∨t.func<0 then(S,z,8)
 else if fr=20 then(S,z,4)
 else match aV (S.G.gatesC v.n) S.G x with
  | (G',y,c)=>({S with G:=G'},⟨t.plugin,t.func,y,S.G.gatesC v.n⟩,c)
def eQ (gates:List Int) (v:VD) (S:StD):StD×VD×Int:=match aV gates S.G v with
 | (G',y,c)=>if c≠0 then({S with G:=G'}).no c else({S with G:=G'}).ok y
def evL (f:XD→StD→StD×VD×Int):List XD→StD→List VD→StD×List VD×Int
 | [],S,acc=>(S,acc,0)
 | x::l,S,acc=>match f x S with
   | (S',v,c)=>if c≠0 then(S',[],c)else evL f l S' (acc++[v])
def d9 (p:Int) (x:XD) (arg:VD) (names:List VD) (S:StD):Option VD:=
 if x.op=1 then some au else if x.op=2 then some (iH x.n)else if x.op=3 then some arg
 else if x.op=4 then some (names.getD (names.length - 1 - x.k.toNat) au)else if x.op=21 then some (S.kept.getD p.toNat au)else none
def ofD (ms:aN):Nat→Int→XD→VD→List VD→Nat→StD→StD×VD×Int
 | 0,_,_,_,_,_,S=>S.no 12
 | N+1,p,x,arg,names,fr,S=>
   if S.left=0 then S.no 12
   else match d9 p x arg names S.tick with
   | some v=>S.tick.ok v
   | none=>
     if x.op=5 then(match ofD ms N p (x.l.getD 0 cB) arg names fr S.tick with
      | (S',v,c)=>if c≠0 then S'.no c else ofD ms N p (x.l.getD 1 cB) arg (names++[v]) fr S')
     else if x.op=7 then(match ofD ms N p (x.l.getD 0 cB) arg names fr S.tick with
      | (S',v,c)=>if c≠0 then S'.no c else if v.kind≠1 then S'.no 2 else if v.n≠0 then ofD ms N p (x.l.getD 1 cB) arg names fr S' else ofD ms N p (x.l.getD 2 cB) arg names fr S')
     else match evL (fun y S=>ofD ms N p y arg names fr S) x.l S.tick []with
      | (S',l,c)=>if c≠0 then S'.no c
        else if x.op=18 then(if fr=20 then S'.no 4 else ofD ms N p (cX ms p x.k) (l.getD 0 au) [] (fr+1) S')
        else if x.op=19 then(match fp ms (l.getD 0 au) (l.getD 1 au) fr S' with
         | (S2,q,c)=>if c≠0 then S2.no c else match ofD ms N q.plugin (cX ms q.plugin q.func) q.arg [] (fr+1) S2 with
           | (S3,v,c)=>if c≠0 then S3.no c else eQ q.gates v S3)
        else bI p x.op x.k x.n l S'
structure FrD where
 (plugin f:Int)
 pc:Nat
 arg:VD
 (stack names:List VD)
 asked:Bool
 gates:List Int
structure MaD where
 S:StD
 top:FrD
 below:List FrD
inductive i8 where
 | go (m:MaD)
 | over (S:StD) (v:VD)
 | fail (S:StD) (c:Int)
def oo:aT:=⟨0,0,0⟩
def d7 (ms:aN) (p f:Int):List aT:=ay (cX ms p f) 0++[⟨105,0,0⟩]
def MaD.push (m:MaD) (S:StD) (st:List VD) (v:VD):i8:= .go {m with S:=S,top:={m.top with stack:=st++[v]}}
def MaD.done (m:MaD) (st:List VD) (q:StD×VD×Int):i8:=if q.2.2≠0 then .fail q.1 q.2.2 else m.push q.1 st q.2.1
def MaD.call (m:MaD) (S:StD) (st:List VD) (p f:Int) (arg:VD) (asked:Bool) (gates:List Int):i8:=
 if m.below.length+1=20 then .fail S 4 else .go ⟨S,⟨p,f,0,arg,[],[],asked,gates⟩,m.below++[{m.top with stack:=st}]⟩
def kf (st:List VD) (k:Nat):List VD:=st.drop (st.length - k)
def ma (st:List VD) (k:Nat):List VD:=st.take (st.length - k)
def kD (ms:aN) (m:MaD) (x:aT):i8:=
 let t:=m.top
 match d9 t.plugin (.mk x.op x.k x.n []) t.arg t.names m.S with
 | some v=>m.push m.S t.stack v
 | none=>
   if x.op=18 then m.call m.S (ma t.stack 1) t.plugin x.k ((kf t.stack 1).getD 0 au) false []
   else if x.op=19 then(match fp ms ((kf t.stack 2).getD 0 au) ((kf t.stack 2).getD 1 au) (m.below.length+1) m.S with
    | (S',q,c)=>if c≠0 then .fail S' c else m.call S' (ma t.stack 2) q.plugin q.func q.arg true q.gates)
   else m.done (ma t.stack (aW x.op).toNat) (bI t.plugin x.op x.k x.n (kf t.stack (aW x.op).toNat) m.S)
def MaD.back (m:MaD):i8:=
 let v:=(kf m.top.stack 1).getD 0 au
 let q:=if m.top.asked then eQ m.top.gates v m.S else m.S.ok v
 if q.2.2≠0 then .fail q.1 q.2.2
 else match m.below.getLast? with
  | none=> .over q.1 q.2.1
  | some t=> .go ⟨q.1,{t with stack:=t.stack++[q.2.1]},m.below.dropLast⟩
def fV (ms:aN) (m0:MaD):i8:=
 let x:=(d7 ms m0.top.plugin m0.top.f).getD m0.top.pc oo
 let m:MaD:={m0 with top:={m0.top with pc:=m0.top.pc+1}}
 let t:=m.top
 if x.op=100 then(if m.S.left=0 then .fail m.S 12 else .go {m with S:=m.S.tick})
 else if x.op=101 then .go {m with top:={t with stack:=ma t.stack 1,names:=t.names++[(kf t.stack 1).getD 0 au]}}
 else if x.op=102 then .go {m with top:={t with names:=t.names.dropLast}}
 else if x.op=103 then(let v:=(kf t.stack 1).getD 0 au
  if v.kind≠1 then .fail m.S 2 else .go {m with top:={t with stack:=ma t.stack 1,pc:=if v.n=0 then x.k.toNat else t.pc}})
 else if x.op=104 then .go {m with top:={t with pc:=x.k.toNat}}
 else if x.op=105 then m.back
 else kD ms m x
theorem nW {α:Type} {c:Prop} [Decidable c] {a b:StD×α} {n:Nat} (h1:a.1.left=n) (h2:b.1.left=n):(if c then a else b).1.left=n:=by split<;>assumption
theorem FT (S:StD) (q:ae×Int×Int):(xp S q).1.left=S.left:=by
 unfold xp
 exact nW rfl rfl
theorem Cd (p op k n:Int) (l:List VD) (S:StD):(bI p op k n l S).1.left=S.left:=by
 unfold bI
 repeat' (first | rfl | exact FT _ _ | refine nW ?_ ?_)
theorem pO (ms:aN) (v x:VD) (fr:Nat) (S:StD):(fp ms v x fr S).1.left=S.left:=by
 unfold fp
 repeat' (first | rfl | refine nW ?_ ?_)
theorem B5 (gates:List Int) (v:VD) (S:StD):(eQ gates v S).1.left=S.left:=by
 unfold eQ
 split
 exact nW rfl rfl
theorem tC {f:XD→StD→StD×VD×Int} (hf:∀ x S,(f x S).1.left≤S.left):∀ (l:List XD) (S:StD) (acc:List VD),(evL f l S acc).1.left≤S.left
 | [],S,acc=>Nat.le_refl _
 | x::l,S,acc=>by
   have h1:=hf x S
   rw[evL]
   rcases hq:f x S with⟨S',v,c⟩
   rw[hq]at h1
   simp only at h1 ⊢
   split
   ·exact h1
   ·exact Nat.le_trans (tC hf l S' _) h1
theorem j9 (ms:aN):∀ (N:Nat) (p:Int) (x:XD) (arg:VD) (names:List VD) (fr:Nat) (S:StD),(ofD ms N p x arg names fr S).1.left≤S.left
 | 0,p,x,arg,names,fr,S=>Nat.le_refl _
 | N+1,p,x,arg,names,fr,S=>by
   have ih:=j9 ms N
   have ht:S.tick.left≤S.left:=Nat.sub_le _ _
   rw[ofD]
   split
   ·exact Nat.le_refl _
   ·split
    ·exact ht
    ·split
     ·have h1:=ih p (x.l.getD 0 cB) arg names fr S.tick
      rcases hq:ofD ms N p (x.l.getD 0 cB) arg names fr S.tick with⟨S',v,c⟩
      rw[hq]at h1
      simp only at h1 ⊢
      split
      ·exact Nat.le_trans h1 ht
      ·exact Nat.le_trans (ih _ _ _ _ _ _) (Nat.le_trans h1 ht)
     ·split
      ·have h1:=ih p (x.l.getD 0 cB) arg names fr S.tick
       rcases hq:ofD ms N p (x.l.getD 0 cB) arg names fr S.tick with⟨S',v,c⟩
       rw[hq]at h1
       simp only at h1 ⊢
       split
       ·exact Nat.le_trans h1 ht
       ·split
        ·exact Nat.le_trans h1 ht
        ·split
         ·exact Nat.le_trans (ih _ _ _ _ _ _) (Nat.le_trans h1 ht)
         ·exact Nat.le_trans (ih _ _ _ _ _ _) (Nat.le_trans h1 ht)
      ·have h1:=tC (f:=fun y S=>ofD ms N p y arg names fr S) (fun y S=>ih p y arg names fr S) x.l S.tick []
       rcases hq:evL (fun y S=>ofD ms N p y arg names fr S) x.l S.tick []with⟨S',l,c⟩
       rw[hq]at h1
       simp only at h1 ⊢
       split
       ·exact Nat.le_trans h1 ht
       ·split
        ·split
         ·exact Nat.le_trans h1 ht
         ·exact Nat.le_trans (ih _ _ _ _ _ _) (Nat.le_trans h1 ht)
        ·split
         ·have h2:=pO ms (l.getD 0 au) (l.getD 1 au) fr S'
          rcases hq2:fp ms (l.getD 0 au) (l.getD 1 au) fr S' with⟨S2,q,c2⟩
          rw[hq2]at h2
          simp only at h2 ⊢
          split
          ·exact Nat.le_trans (Nat.le_of_eq h2) (Nat.le_trans h1 ht)
          ·have h3:=ih q.plugin (cX ms q.plugin q.func) q.arg [] (fr+1) S2
           rcases hq3:ofD ms N q.plugin (cX ms q.plugin q.func) q.arg [] (fr+1) S2 with⟨S3,v,c3⟩
           rw[hq3]at h3
           simp only at h3 ⊢
           split
           ·exact Nat.le_trans h3 (Nat.le_trans (Nat.le_of_eq h2) (Nat.le_trans h1 ht))
           ·rw[B5]
            exact Nat.le_trans h3 (Nat.le_trans (Nat.le_of_eq h2) (Nat.le_trans h1 ht))
         ·rw[Cd]
          exact Nat.le_trans h1 ht
def StD.mu (S:StD):Nat:=S.log.length+S.left
structure StD.Good (S:StD):Prop where
 wf:S.G.Wf
 cells:S.cells.length=12
 kept:S.kept.length=4
 keptV:∀ v∈S.kept,v.code=0
theorem dY:au.code=0:=by decide
theorem kh (n:Int):(iH n).code=0:=rfl
theorem eR {l:List VD} (h:∀ v∈l,v.code=0) (i:Nat):(l.getD i au).code=0:=by
 by_cases hi:i<l.length
 ·simp only[List.getD,List.getElem?_eq_getElem hi,Option.getD_some]
  exact h _ (List.getElem_mem hi)
 ·simp only[List.getD,List.getElem?_eq_none (Nat.le_of_not_lt hi),Option.getD_none]
  exact dY
theorem qy:∀ {l:List VD},dw l=0→∀ x∈l,x.fault=0
 | [],_,x,hx=>by simp at hx
 | y::l,h,x,hx=>by
   rw[gt]at h
   split at h
   ·rename_i h1;exact absurd h h1
   ·rename_i h1
    rcases List.mem_cons.1 hx with rfl | hx
    ·omega
    ·exact qy h x hx
theorem fJ {v:VD} (h:v.code=0):v.size≤40∧dN v.kind v.n v.l.length=0∧∀ x∈v.l,x.code=0:=by
 unfold VD.code at h
 split at h
 ·cases h
 ·rename_i hs
  rw[v.fault_eq]at h
  split at h
  ·rename_i h1;exact absurd h h1
  ·rename_i h1
   refine⟨by omega,by omega,fun x hx=> ?_⟩
   unfold VD.code
   have:=VD.size_mem hx
   rw[if_neg (by omega)]
   exact qy h x hx
theorem xJ {kind n:Int} {l:List VD} (hs:(VD.mk kind n l).size≤40) (hh:dN kind n l.length=0) (hl:∀ x∈l,x.code=0):(VD.mk kind n l).code=0:=by
 have key:∀ l:List VD,(∀ x∈l,x.code=0)→dw l=0:=by
  intro l hl
  induction l with
  | nil=>rfl
  | cons x l ih=>
    have h1:=hl x (by simp)
    unfold VD.code at h1
    split at h1
    ·cases h1
    ·rw[gt,if_neg (by omega)]
     exact ih fun y hy=>hl y (by simp[hy])
 unfold VD.code
 rw[if_neg (by omega)]
 show(if dN kind n l.length≠0 then dN kind n l.length else dw l)=0
 rw[if_neg (by omega)]
 exact key l hl
theorem Am {v:VD} (h:v.code=0):(v.kind=2→∃ a b,v.l=[a,b])∧(v.kind=3→∃ a,v.l=[a]):=by
 obtain⟨_,h1,_⟩:=fJ h
 unfold dN at h1
 split at h1
 ·cases h1
 ·split at h1
  ·cases h1
  ·rename_i h2
   constructor
   ·intro h3
    simp only[jn,h3,if_true,Decidable.not_not]at h2
    match hl:v.l,h2 with
    | [a,b],_=>exact⟨a,b,rfl⟩
   ·intro h3
    simp only[jn,h3,if_true,Decidable.not_not]at h2
    rw[if_neg (by decide)]at h2
    match hl:v.l,h2 with
    | [a],_=>exact⟨a,rfl⟩
theorem oM {n:Int} (h:0≤n):(fA n).code=0:=xJ (by simp[VD.size,bE]) (by simp[dN,jn];omega) (by simp)
theorem Gb {n:Int} (h:0≤n):(VD.mk 5 n []).code=0:=xJ (by simp[VD.size,bE]) (by simp[dN,jn];omega) (by simp)
mutual
theorem wa (ks:List Int):∀ (x:VD) (G:ae),(df ks x G).2.2=0→(df ks x G).2.1.size=x.size
 | .mk kind n l,G,h=>by
   simp only[df]at h ⊢
   split at h
   ·rename_i h1;exact absurd h h1
   ·rename_i h1
    split at h
    ·rename_i h2;exact absurd h h2
    ·rename_i h2
     rw[if_neg h1,if_neg h2]
     simp only[VD.size]
     rw[(nB ks l _ (by omega)).1]
theorem nB (ks:List Int):∀ (l:List VD) (G:ae),(bu ks l G).2.2=0→bE (bu ks l G).2.1=bE l∧(bu ks l G).2.1.length=l.length
 | [],G,h=>⟨rfl,rfl⟩
 | x::l,G,h=>by
   simp only[bu]at h ⊢
   split at h
   ·rename_i h1;exact absurd h h1
   ·rename_i h1
    rw[if_neg h1]
    have h2:=nB ks l _ h
    simp only[bE,List.length_cons]
    rw[wa ks x G (by omega),h2.1,h2.2]
    exact⟨rfl,rfl⟩
end
theorem nn {G:ae} {n r k:Int}:0≤(G.derive n r k).2.1:=by
 unfold ae.derive ae.add
 split
 ·split
  ·exact Int.le_refl _
  ·split
   ·exact Int.le_refl _
   ·split
    ·exact Int.le_refl _
    ·exact Int.natCast_nonneg _
 ·exact Int.le_refl _
theorem IJ (ks:List Int):∀ (G:ae) (n:Int),0≤n→0≤(du ks G n).2.1:=by
 induction ks with
 | nil=>intro G n h;exact h
 | cons k l ih=>
   intro G n h
   simp only[du]
   split
   ·exact Int.le_refl _
   ·exact ih _ _ nn
mutual
theorem ry (ks:List Int):∀ (x:VD) (G:ae),x.fault=0→(df ks x G).2.2=0→(df ks x G).2.1.fault=0
 | .mk kind n l,G,hf,h=>by
   change (if dN kind n l.length≠0 then dN kind n l.length else dw l)=0 at hf
   split at hf
   ·rename_i h1;exact absurd hf h1
   rename_i hh
   simp only[df]at h ⊢
   split at h
   ·rename_i h1;exact absurd h h1
   ·rename_i h1
    split at h
    ·rename_i h2;exact absurd h h2
    ·rename_i h2
     rw[if_neg h1,if_neg h2]
     have hl:=(nB ks l (ci ks G kind n).1 (by omega)).2
     show(if dN kind _ (bu ks l (ci ks G kind n).1).2.1.length≠0 then dN kind _ (bu ks l (ci ks G kind n).1).2.1.length else dw (bu ks l (ci ks G kind n).1).2.1)=0
     rw[hl,if_neg]
     ·exact qB ks l _ hf (by omega)
     ·unfold ci
      by_cases h4:kind=4
      ·rw[if_pos h4]
       have:0≤n:=by
        unfold dN at hh
        split at hh
        ·simp at hh
        ·split at hh
         ·simp at hh
         ·split at hh
          ·simp at hh
          ·split at hh
           ·simp at hh
           ·omega
       have h5:=IJ ks G n this
       unfold dN at hh ⊢
       subst h4
       rw[if_neg (by omega)]at hh ⊢
       split at hh
       ·simp at hh
       ·rename_i h6
        rw[if_neg h6,if_neg (by omega),if_neg (by omega)]
        decide
      ·rw[if_neg h4]
       exact hh
theorem qB (ks:List Int):∀ (l:List VD) (G:ae),dw l=0→(bu ks l G).2.2=0→dw (bu ks l G).2.1=0
 | [],G,hf,h=>rfl
 | x::l,G,hf,h=>by
   rw[gt]at hf
   split at hf
   ·rename_i h1;exact absurd hf h1
   rename_i hx
   simp only[bu]at h ⊢
   split at h
   ·rename_i h1;exact absurd h h1
   ·rename_i h1
    rw[if_neg h1,gt,if_neg (by rw[ry ks x G (by omega) (by omega)];decide)]
    exact qB ks l _ hf h
end
theorem nO {ks:List Int} {G:ae} {x:VD} (h:(aV ks G x).2.2=0):(aV ks G x).2.1.code=0:=by
 unfold aV at h ⊢
 split at h
 ·rename_i h1;exact absurd h h1
 ·rename_i h1
  rw[if_neg h1]
  have hx:x.code=0:=by
   unfold ue at h1
   split at h1
   ·rename_i h2;exact absurd h1 (by simpa using h2)
   ·omega
  have hs:=(fJ hx).1
  unfold VD.code at hx ⊢
  rw[if_neg (by omega)]at hx
  rw[if_neg (by rw[wa ks x G h];omega)]
  exact ry ks x G hx h
structure cN (n:Nat) (S:StD) (q:StD×VD×Int):Prop where
 good:q.1.Good
 mu:q.1.mu≤S.mu+n
 left:q.1.left≤S.left
 val:q.2.2=0→q.2.1.code=0
theorem StD.Good.with {S:StD} (h:S.Good) {G:ae} (hG:G.Wf):({S with G:=G}:StD).Good:=⟨hG,h.cells,h.kept,h.keptV⟩
theorem cN.no {S S':StD} {n:Nat} {c:Int} (h:S'.Good) (h1:S'.mu≤S.mu+n) (h2:S'.left≤S.left):cN n S (S'.no c):=⟨h,h1,h2,fun _=>dY⟩
theorem cN.ok {S S':StD} {n:Nat} {v:VD} (h:S'.Good) (h1:S'.mu≤S.mu+n) (h2:S'.left≤S.left) (hv:v.code=0):cN n S (S'.ok v):=⟨h,h1,h2,fun _=>hv⟩
theorem cN.ite {S:StD} {n:Nat} {p:Prop} [Decidable p] {a b:StD×VD×Int} (h1:p→cN n S a) (h2:¬ p→cN n S b):cN n S (if p then a else b):=by
 split
 ·exact h1 ‹_›
 ·exact h2 ‹_›
theorem GH {p op k n:Int} {l:List VD} {S:StD} (hS:S.Good) (hl:∀ v∈l,v.code=0):cN 1 S (bI p op k n l S):=by
 have ha:=eR hl 0
 have hb:=eR hl 1
 have m0:S.mu≤S.mu+1:=Nat.le_succ _
 have no:∀ {c:Int},cN 1 S (S.no c):= .no hS m0 (Nat.le_refl _)
 have ok:∀ {v:VD},v.code=0→cN 1 S (S.ok v):=fun hv=> .ok hS m0 (Nat.le_refl _) hv
 unfold bI
 refine .ite (fun _=> .ite (fun _=>no) fun _=>ok (kh _)) fun h6=> ?_
 refine .ite (fun _=> .ite (fun _=>no) fun h=>ok (by simpa using h)) fun h8=> ?_
 refine .ite (fun _=> .ite (fun _=>no) fun h=>ok (eR (fJ ha).2.2 0)) fun h9=> ?_
 refine .ite (fun _=> .ite (fun _=>no) fun h=>ok (eR (fJ ha).2.2 1)) fun h10=> ?_
 refine .ite (fun _=> .ite (fun _=>no) fun h=>ok (by simpa using h)) fun h11=> ?_
 refine .ite (fun _=> .ite (fun _=>no) fun _=> .ite (fun _=>no) fun _=>ok (eR (fJ ha).2.2 0)) fun h12=> ?_
 refine .ite (fun _=> .ite (fun _=>no) fun _=> .ite (fun _=>no) fun _=> .ite (fun _=>no) fun _=> ?_) fun h13=> ?_
 ·exact .ok ⟨hS.wf,hS.cells,hS.kept,hS.keptV⟩ (by simp[StD.mu];omega) (Nat.le_refl _) (kh _)
 refine .ite (fun _=> .ite (fun _=>no) fun _=> .ite (fun _=>no) fun _=> .ite (fun _=>no) fun _=> ?_) fun h14=> ?_
 ·exact .ok ⟨hS.wf,by simpa using hS.cells,hS.kept,hS.keptV⟩ (by simp[StD.mu];omega) (Nat.le_refl _) hb
 refine .ite (fun _=> .ite (fun _=>no) fun _=> ?_) fun h15=> ?_
 ·unfold xp
  exact .ite (fun _=> .no (hS.with (hS.wf.derive _ _ _)) m0 (Nat.le_refl _)) fun _=> .ok (hS.with (hS.wf.derive _ _ _)) m0 (Nat.le_refl _) (oM nn)
 refine .ite (fun _=> .ite (fun _=>no) fun _=> .ite (fun _=> .no (hS.with hS.wf.gate) m0 (Nat.le_refl _)) fun hg=> ?_) fun h16=> ?_
 ·have hw:=hS.wf.gate.derive (l.getD 0 au).n 15 S.G.gate.2.1
  have hn:=nn (G:=S.G.gate.1) (n:=(l.getD 0 au).n) (r:=15) (k:=S.G.gate.2.1)
  generalize S.G.gate.1.derive (l.getD 0 au).n 15 S.G.gate.2.1=q at hw hn ⊢
  obtain⟨G',m,c⟩:=q
  refine .ite (fun _=> .no (hS.with hw) m0 (Nat.le_refl _)) fun _=> .ok (hS.with hw) m0 (Nat.le_refl _) ?_
  refine xJ (by simp[VD.size,bE,fA]) (by simp[dN,jn]) ?_
  intro x hx
  rcases List.mem_cons.1 hx with rfl | hx
  ·exact oM hn
  ·simp only[List.mem_singleton]at hx
   subst hx
   refine Gb ?_
   unfold ae.gate
   split
   ·exact Int.le_refl _
   ·exact Int.natCast_nonneg _
 refine .ite (fun _=> .ite (fun _=>no) fun _=> ?_) fun h17=> ?_
 ·exact .ok (hS.with (hS.wf.cut _)) m0 (Nat.le_refl _) dY
 refine .ite (fun _=> ?_) fun h20=>no
 refine .ok ⟨hS.wf,hS.cells,by simpa using hS.kept,fun v hv=> ?_⟩ m0 (Nat.le_refl _) (eR hS.keptV _)
 rcases List.mem_or_eq_of_mem_set hv with h | rfl
 ·exact hS.keptV v h
 ·exact ha
theorem uL (G:ae):∀ (f:Nat) (i:Int),(G.pathF f i).length≤f
 | 0,_=>by simp[ae.pathF]
 | f+1,i=>by
   unfold ae.pathF
   split
   ·have:=uL G f (G.nodes.getD i.toNat bH).parent
    simp only[List.length_cons]
    omega
   ·simp
theorem vB {G:ae} (h:G.Wf) {i:Int}:(G.gatesC i).length≤80:=by
 unfold ae.gatesC eC
 rw[List.length_map]
 refine Nat.le_trans (List.length_filter_le _ _) ?_
 cases hh:G.has i with
 | false=>rw[ae.path_no hh];simp
 | true=>
   have:=uL G (i.toNat+1) i
   simp only[ae.has,decide_eq_true_eq]at hh
   have:=h.few
   unfold ae.path
   omega
theorem Dt {ms:aN} {v x:VD} {fr:Nat} {S:StD} (hS:S.Good):(fp ms v x fr S).1.Good∧(fp ms v x fr S).1.mu≤S.mu∧((fp ms v x fr S).2.2=0→(fp ms v x fr S).2.1.arg.code=0∧(fp ms v x fr S).2.1.gates.length≤80∧
  (ms.getD (fp ms v x fr S).2.1.plugin.toNat none).isSome∧0≤(fp ms v x fr S).2.1.plugin∧0≤(fp ms v x fr S).2.1.func∧(fp ms v x fr S).2.1.func.toNat<(cI ms (fp ms v x fr S).2.1.plugin).length):=by
 unfold fp
 simp only
 split
 ·exact⟨hS,Nat.le_refl _,fun h=>by simp at h⟩
 split
 ·exact⟨hS,Nat.le_refl _,fun h=>by simp at h⟩
 split
 ·exact⟨hS,Nat.le_refl _,fun h=>by simp at h⟩
 rename_i hp
 split
 ·exact⟨hS,Nat.le_refl _,fun h=>by simp at h⟩
 rename_i hn
 simp only[not_or]at hn
 split
 ·exact⟨hS,Nat.le_refl _,fun h=>by simp at h⟩
 refine⟨hS.with (tK hS.wf),Nat.le_refl _,fun h=>⟨nO h,?_,by simpa[Option.isNone_iff_eq_none,Option.isSome_iff_ne_none]using hn.1,by simp only;omega,by simp only;omega,?_⟩⟩
 ·exact vB hS.wf
 ·have:=hn.2.1;have:=hn.2.2
  simp only
  omega
theorem HT {gates:List Int} {v:VD} {S:StD} (hS:S.Good):cN 0 S (eQ gates v S):=by
 unfold eQ
 have hw:=tK (ks:=gates) (x:=v) hS.wf
 have hc:=nO (ks:=gates) (G:=S.G) (x:=v)
 generalize aV gates S.G v=q at hw hc ⊢
 obtain⟨G',y,c⟩:=q
 refine .ite (fun _=> .no (hS.with hw) (Nat.le_refl _) (Nat.le_refl _)) fun h=> .ok (hS.with hw) (Nat.le_refl _) (Nat.le_refl _) (hc (by simpa using h))
def Kl (S:StD) (q:StD×VD×Int):Prop:=cN 0 S q∧(q.2.2=0→q.1.left<S.left)
theorem cN.trans {n k:Nat} {S S1:StD} {q:StD×VD×Int} (h1:S1.mu≤S.mu+n) (h2:S1.left≤S.left) (h:cN k S1 q):cN (n+k) S q:=⟨h.good,by have:=h.mu;omega,Nat.le_trans h.left h2,h.val⟩
theorem cN.weak {n k:Nat} {S:StD} {q:StD×VD×Int} (h:cN k S q) (hk:k≤n):cN n S q:=⟨h.good,by have:=h.mu;omega,h.left,h.val⟩
theorem CD {f:XD→StD→StD×VD×Int} (hf:∀ x S,S.Good→Kl S (f x S)):∀ (l:List XD) (S:StD) (acc:List VD),S.Good→(∀ v∈acc,v.code=0)→
  (evL f l S acc).1.Good∧(evL f l S acc).1.mu≤S.mu∧(evL f l S acc).1.left≤S.left∧((evL f l S acc).2.2=0→(∀ v∈(evL f l S acc).2.1,v.code=0)∧(evL f l S acc).1.left+(evL f l S acc).2.1.length≤S.left+acc.length)
 | [],S,acc,hS,ha=>⟨hS,Nat.le_refl _,Nat.le_refl _,fun _=>⟨ha,Nat.le_refl _⟩⟩
 | x::l,S,acc,hS,ha=>by
   obtain⟨h1,h2⟩:=hf x S hS
   rw[evL]
   rcases hq:f x S with⟨S',v,c⟩
   rw[hq]at h1 h2
   simp only at h2 ⊢
   split
   ·rename_i hc
    exact⟨h1.good,h1.mu,h1.left,fun e=>absurd e hc⟩
   ·rename_i hc
    have hc:c=0:=by omega
    have h3:=h2 hc
    have hv:=h1.val hc
    obtain⟨g1,g2,g3,g4⟩:=CD hf l S' (acc++[v]) h1.good (fun w hw=>by
     rcases List.mem_append.1 hw with h | h
     ·exact ha w h
     ·simp only[List.mem_singleton]at h
      rw[h];exact hv)
    have hm:S'.mu≤S.mu:=h1.mu
    have hle:S'.left≤S.left:=h1.left
    refine⟨g1,Nat.le_trans g2 hm,Nat.le_trans g3 hle,fun e=>⟨(g4 e).1,?_⟩⟩
    have:=(g4 e).2
    simp only[List.length_append,List.length_singleton]at this
    omega
theorem n8 {S:StD} (h:S.left≠0):S.tick.mu+1=S.mu∧S.tick.left+1=S.left:=by
 simp only[StD.mu,StD.tick]
 omega
theorem StD.Good.tick {S:StD} (h:S.Good):S.tick.Good:=⟨h.wf,h.cells,h.kept,h.keptV⟩
theorem CB {p:Int} {x:XD} {arg:VD} {names:List VD} {S:StD} {v:VD} (hS:S.Good) (ha:arg.code=0) (hn:∀ v∈names,v.code=0) (h:d9 p x arg names S=some v):v.code=0:=by
 unfold d9 at h
 split at h
 ·injection h with h;rw[←h];exact dY
 split at h
 ·injection h with h;rw[←h];exact kh _
 split at h
 ·injection h with h;rw[←h];exact ha
 split at h
 ·injection h with h;rw[←h];exact eR hn _
 split at h
 ·injection h with h;rw[←h];exact eR hS.keptV _
 cases h
theorem ie (ms:aN):∀ (N:Nat) (p:Int) (x:XD) (arg:VD) (names:List VD) (fr:Nat) (S:StD),S.Good→arg.code=0→(∀ v∈names,v.code=0)→Kl S (ofD ms N p x arg names fr S)
 | 0,p,x,arg,names,fr,S,hS,_,_=>⟨.no hS (Nat.le_refl _) (Nat.le_refl _),fun h=>by simp[ofD,StD.no]at h⟩
 | N+1,p,x,arg,names,fr,S,hS,ha,hn=>by
   have ih:=ie ms N
   rw[ofD]
   split
   ·exact⟨.no hS (Nat.le_refl _) (Nat.le_refl _),fun h=>by simp[StD.no]at h⟩
   rename_i h0
   obtain⟨tm,tl⟩:=n8 h0
   -- what comes behind the tick
   suffices h:∀ q,cN 1 S.tick q→Kl S q by
    refine h _ ?_
    split
    ·rename_i v hv
     exact .ok hS.tick (Nat.le_succ _) (Nat.le_refl _) (CB hS.tick ha hn hv)
    ·split
     ·have h1:=(ih p (x.l.getD 0 cB) arg names fr S.tick hS.tick ha hn).1
      rcases hq:ofD ms N p (x.l.getD 0 cB) arg names fr S.tick with⟨S',v,c⟩
      rw[hq]at h1
      refine .ite (fun _=>(cN.no (c:=c) h1.good h1.mu h1.left).weak (Nat.zero_le _)) fun hc=> ?_
      have h2:=(ih p (x.l.getD 1 cB) arg (names++[v]) fr S' h1.good ha (fun w hw=>by
       rcases List.mem_append.1 hw with h | h
       ·exact hn w h
       ·simp only[List.mem_singleton]at h
        rw[h];exact h1.val (by simpa using hc))).1
      exact(cN.trans h1.mu h1.left h2).weak (Nat.zero_le _)
     ·split
      ·have h1:=(ih p (x.l.getD 0 cB) arg names fr S.tick hS.tick ha hn).1
       rcases hq:ofD ms N p (x.l.getD 0 cB) arg names fr S.tick with⟨S',v,c⟩
       rw[hq]at h1
       refine .ite (fun _=>(cN.no (c:=c) h1.good h1.mu h1.left).weak (Nat.zero_le _)) fun hc=> ?_
       refine .ite (fun _=>(cN.no (c:=2) h1.good h1.mu h1.left).weak (Nat.zero_le _)) fun _=> ?_
       refine .ite (fun _=> ?_) fun _=> ?_
       ·exact(cN.trans h1.mu h1.left (ih p (x.l.getD 1 cB) arg names fr S' h1.good ha hn).1).weak (Nat.zero_le _)
       ·exact(cN.trans h1.mu h1.left (ih p (x.l.getD 2 cB) arg names fr S' h1.good ha hn).1).weak (Nat.zero_le _)
      ·have h1:=CD (f:=fun y S=>ofD ms N p y arg names fr S) (fun y S h=>ih p y arg names fr S h ha hn) x.l S.tick [] hS.tick (by simp)
       rcases hq:evL (fun y S=>ofD ms N p y arg names fr S) x.l S.tick []with⟨S',l,c⟩
       rw[hq]at h1
       obtain⟨g1,g2,g3,g4⟩:=h1
       simp only at g1 g2 g3 g4
       refine .ite (fun _=>(cN.no (n:=0) (c:=c) g1 g2 g3).weak (Nat.zero_le _)) fun hc=> ?_
       have g5:=(g4 (by simpa using hc)).1
       refine .ite (fun _=> .ite (fun _=>(cN.no (n:=0) (c:=4) g1 g2 g3).weak (Nat.zero_le _)) fun _=> ?_) fun _=> .ite (fun _=> ?_) fun _=> ?_
       ·exact(cN.trans (n:=0) g2 g3 (ih p (cX ms p x.k) (l.getD 0 au) [] (fr+1) S' g1 (eR g5 0) (by simp)).1).weak (Nat.zero_le _)
       ·obtain⟨a1,a2,a3⟩:=Dt (ms:=ms) (v:=l.getD 0 au) (x:=l.getD 1 au) (fr:=fr) g1
        have a4:=pO ms (l.getD 0 au) (l.getD 1 au) fr S'
        rcases hq2:fp ms (l.getD 0 au) (l.getD 1 au) fr S' with⟨S2,q,c2⟩
        rw[hq2]at a1 a2 a3 a4
        simp only at a1 a2 a3 a4
        have b1:S2.mu≤S.tick.mu+0:=Nat.le_trans a2 g2
        have b2:S2.left≤S.tick.left:=Nat.le_trans (Nat.le_of_eq a4) g3
        refine .ite (fun _=>(cN.no (n:=0) (c:=c2) a1 b1 b2).weak (Nat.zero_le _)) fun hc2=> ?_
        have h3:=(ih q.plugin (cX ms q.plugin q.func) q.arg [] (fr+1) S2 a1 (a3 (by simpa using hc2)).1 (by simp)).1
        rcases hq3:ofD ms N q.plugin (cX ms q.plugin q.func) q.arg [] (fr+1) S2 with⟨S3,v,c3⟩
        rw[hq3]at h3
        have h4:=cN.trans b1 b2 h3
        refine .ite (fun _=>(cN.no (c:=c3) h4.good h4.mu h4.left).weak (Nat.zero_le _)) fun _=> ?_
        exact(cN.trans h4.mu h4.left (HT h3.good)).weak (Nat.zero_le _)
       ·exact cN.trans (n:=0) g2 g3 (GH g1 g5)
   intro q h
   have h1:=h.mu
   have h2:=h.left
   exact⟨⟨h.good,by omega,by omega,h.val⟩,fun _=>by omega⟩
structure FrD.Good (ms:aN) (t:FrD):Prop where
 p0:0≤t.plugin
 there:(ms.getD t.plugin.toNat none).isSome
 f0:0≤t.f
 f1:t.f.toNat<(cI ms t.plugin).length
 arg:t.arg.code=0
 names:∀ v∈t.names,v.code=0
 stack:∀ v∈t.stack,v.code=0
 gates:t.gates.length≤80
structure MaD.Good (ms:aN) (m:MaD):Prop where
 S:m.S.Good
 top:m.top.Good ms
 mu:m.S.mu≤1000000
 stk:m.top.stack.length+m.S.left≤100000
 nms:m.top.names.length+m.S.left≤100000
 few:m.below.length+1≤20
structure E0 (m:MaD) (x:aT):Prop where
 kind:(1≤x.op∧x.op≤21∧x.op≠5∧x.op≠7)∨(100≤x.op∧x.op≤105)
 one:x.op=101∨x.op=103∨x.op=105→m.top.stack≠[]
 nam:x.op=102→m.top.names≠[]
 jump:x.op=103∨x.op=104→0≤x.k
 parts:x.op<100→(aW x.op).toNat≤m.top.stack.length
 var:x.op=4→0≤x.k∧x.k<m.top.names.length
structure Ok (ms:aN) (m:MaD):Prop where
 good:m.Good ms
 pc:m.top.pc<(d7 ms m.top.plugin m.top.f).length
 op:E0 m ((d7 ms m.top.plugin m.top.f).getD m.top.pc oo)
inductive gM (ms:aN):MaD→i8→Prop
 | go {m m':MaD} {r:i8}:Ok ms m→fV ms m= .go m'→gM ms m' r→gM ms m r
 | over {m:MaD} {S:StD} {v:VD}:Ok ms m→fV ms m= .over S v→gM ms m (.over S v)
 | fail {m:MaD} {S:StD} {c:Int}:Ok ms m→fV ms m= .fail S c→gM ms m (.fail S c)
def qs (ms:aN):Prop:=∀ p:Int,∀ x∈cI ms p,x.fault (cI ms p).length 0=0
def kz (ms:aN):Prop:=∀ p f:Int,(d7 ms p f).length≤1000000000
def cO (ms:aN) (p f:Int) (v:VD) (fuel:Int) (S:StD):StD×VD×Int×Int:=
 if fuel<0∨2000<fuel∨p<0∨4≤p then(S,au,0,1)
 else if(ms.getD p.toNat none).isNone∨f<0∨((cI ms p).length:Int)≤f then(S,au,0,8)
 else if v.code≠0 then(S,au,0,v.code)
 else match ofD ms fuel.toNat p (cX ms p f) v [] 1 {S with left:=fuel.toNat}with
  | (S',w,c)=>({S' with left:=S.left},if c=0 then w else au,fuel - (S'.left:Int),c)
section
variable {α β:Type} {d:Nat}
def ja (z:β) (q:StD×α×Int) (k:StD→α→StD×β×Int):StD×β×Int:=match q with
 | (S,v,c)=>if c≠0 then(S,z,c)else k S v
end
theorem yp (f:XD→StD→StD×VD×Int) (x:XD) (l:List XD) (S:StD) (acc:List VD):evL f (x::l) S acc=ja [] (f x S) fun S' v=>evL f l S' (acc++[v]):=rfl
theorem AO (ms:aN) (N:Nat) (p:Int) (x:XD) (arg:VD) (names:List VD) (fr:Nat) (S:StD):ofD ms (N+1) p x arg names fr S=
  if S.left=0 then S.no 12
  else match d9 p x arg names S.tick with
  | some v=>S.tick.ok v
  | none=>
    if x.op=5 then ja au (ofD ms N p (x.l.getD 0 cB) arg names fr S.tick) fun S' v=>ofD ms N p (x.l.getD 1 cB) arg (names++[v]) fr S'
    else if x.op=7 then ja au (ofD ms N p (x.l.getD 0 cB) arg names fr S.tick) fun S' v=>if v.kind≠1 then S'.no 2 else if v.n≠0 then ofD ms N p (x.l.getD 1 cB) arg names fr S' else ofD ms N p (x.l.getD 2 cB) arg names fr S'
    else ja au (evL (fun y S=>ofD ms N p y arg names fr S) x.l S.tick []) fun S' l=>
     if x.op=18 then(if fr=20 then S'.no 4 else ofD ms N p (cX ms p x.k) (l.getD 0 au) [] (fr+1) S')
     else if x.op=19 then ja au (fp ms (l.getD 0 au) (l.getD 1 au) fr S') fun S2 q=>ja au (ofD ms N q.plugin (cX ms q.plugin q.func) q.arg [] (fr+1) S2) fun S3 v=>eQ q.gates v S3
     else bI p x.op x.k x.n l S':=by
 rw[ofD]
 rfl
open Go.RowKit
theorem Lb (y:BitVec 64):((y &&& 1#64).toInt==1)=y.getLsbD 0:=by
 have h:(y &&& 1#64).toNat=y.toNat % 2:=by
  rw[BitVec.toNat_and]
  exact Nat.and_one_is_mod _
 have hb:y.getLsbD 0=decide (y.toNat % 2=1):=by
  rw[BitVec.getLsbD,Nat.testBit_zero]
 rw[hb,Bool.eq_iff_iff,beq_iff_eq,decide_eq_true_eq,BitVec.toInt_eq_toNat_cond,h]
 split<;>omega
theorem qZ (x:BitVec 64) {k:Nat} (hk:k<64):ew x.toInt k=x.getLsbD k:=by
 unfold ew
 have e:x.toInt / 2 ^ k=(x.sshiftRight k).toInt:=by
  rw[BitVec.toInt_sshiftRight,Int.shiftRight_eq_div_pow]
  simp
 rw[e,sk,pd]
 show((_ &&& 1#64).toInt==1)=_
 rw[Lb,BitVec.getLsbD_sshiftRight]
 simp
 omega
open Go.RowKit
def ae.wayF (G:ae):Nat→Int→List Int
 | 0,_=>[]
 | f+1,i=>if G.has i then i::G.wayF f (G.nodes.getD i.toNat bH).parent else[]
def ae.way (G:ae) (i:Int):List Int:=G.wayF (i.toNat+1) i
def ae.at_ (G:ae) (i:Int):aX:=G.nodes.getD i.toNat bH
theorem ae.wayF_more {G:ae} (h:G.Wf):∀ (f:Nat) (i:Int),i.toNat<f→G.wayF f i=G.way i:=by
 intro f
 induction f using Nat.strongRecOn with
 | _ f ih=>
   intro i hi
   cases f with
   | zero=>omega
   | succ f=>
     unfold ae.way
     by_cases hh:G.has i=true
     ·have ok:=h.get hh
      have hp:=ok.p0
      have hp1:=ok.p1
      have hi0:0≤i:=by simp[ae.has]at hh;exact hh.1
      unfold ae.wayF
      rw[if_pos hh,if_pos hh]
      congr 1
      generalize (G.nodes.getD i.toNat bH).parent=p at*
      by_cases hpn:p<0
      ·have hno:G.has p=false:=by simp[ae.has];omega
       cases f with
       | zero=>cases hn:i.toNat<;>simp[ae.wayF,hno]
       | succ f=>cases hn:i.toNat<;>simp[ae.wayF,hno]
      ·have e1:=ih f (by omega) p (by omega)
       rw[e1]
       rcases Nat.lt_or_ge i.toNat (f+1)with h2 | h2
       ·have e2:=ih i.toNat (by omega) p (by omega)
        rw[e2]
       ·omega
     ·cases f<;>simp[ae.wayF,hh]
theorem ae.way_yes {G:ae} (h:G.Wf) {i:Int} (hi:G.has i=true):G.way i=i::G.way (G.nodes.getD i.toNat bH).parent:=by
 have ok:=h.get hi
 have hp1:=ok.p1
 have hp0:=ok.p0
 have hi0:0≤i:=by simp[ae.has]at hi;exact hi.1
 rw[ae.way,ae.wayF,if_pos hi]
 congr 1
 generalize (G.nodes.getD i.toNat bH).parent=p at*
 by_cases hpn:p<0
 ·have hno:G.has p=false:=by simp[ae.has];omega
  unfold ae.way
  cases i.toNat<;>simp[ae.wayF,hno]
 ·exact ae.wayF_more h _ _ (by omega)
theorem ae.way_no {G:ae} {i:Int} (hi:G.has i=false):G.way i=[]:=by
 rw[ae.way,ae.wayF,hi]
 rfl
theorem ae.wayF_path {G:ae}:∀ (f:Nat) (i:Int),(G.wayF f i).map G.at_=G.pathF f i:=by
 intro f
 induction f with
 | zero=>intro i;rfl
 | succ f ih=>
   intro i
   unfold ae.wayF ae.pathF
   split
   ·rw[List.map_cons,ih]
    rfl
   ·rfl
theorem ae.way_path {G:ae} (i:Int):(G.way i).map G.at_=G.path i:=ae.wayF_path _ _
theorem ae.wayF_has {G:ae}:∀ (f:Nat) (i:Int),∀ k∈G.wayF f i,G.has k=true:=by
 intro f
 induction f with
 | zero=>intro i k hk;simp[ae.wayF]at hk
 | succ f ih=>
   intro i k hk
   unfold ae.wayF at hk
   split at hk
   ·rcases List.mem_cons.1 hk with rfl | hk
    ·assumption
    ·exact ih _ k hk
   ·simp at hk
theorem ae.way_has {G:ae} (i:Int):∀ k∈G.way i,G.has k=true:=ae.wayF_has _ _
theorem sD (P:List aX) (hP:∀ n∈P,fK n.rights=true) (v:BitVec 64):P.foldl (fun r n=>dT r n.rights) v.toInt=(P.foldl (fun v n=>v &&& BitVec.ofInt 64 n.rights) v).toInt:=by
 induction P generalizing v with
 | nil=>rfl
 | cons n P ih=>
   rw[List.foldl_cons,List.foldl_cons]
   have e:dT v.toInt n.rights=(v &&& BitVec.ofInt 64 n.rights).toInt:=by
    unfold dT
    rw[sk,pd]
   rw[e,ih (fun m hm=>hP m (by simp[hm]))]
theorem I2 (P:List aX) (v:BitVec 64) (k:Nat):(P.foldl (fun v n=>v &&& BitVec.ofInt 64 n.rights) v).getLsbD k=(v.getLsbD k && P.all fun n=>(BitVec.ofInt 64 n.rights).getLsbD k):=by
 induction P generalizing v with
 | nil=>simp
 | cons n P ih=>
   rw[List.foldl_cons,ih,BitVec.getLsbD_and,List.all_cons,Bool.and_assoc]
theorem G3 {a:Int} (h:fK a=true):a=(BitVec.ofInt 64 a).toInt:=by
 have h':0≤a∧a≤15:=by simpa[fK]using h
 rw[BitVec.toInt_ofInt,Int.bmod_def]
 split<;>omega
open Go.RowKit
structure Jr where
 (d a b c e:Int)
def ae.step (G:ae) (x:Jr):ae×Int×Int:=
 if x.d=0 then G.gate else if x.d=1 then((G.cut x.a).1,0,(G.cut x.a).2)else if x.d=2 then G.cellC x.a x.b x.c else if x.d=3 then G.funcC x.a x.e x.b x.c else if x.d=4 then G.derive x.a x.b x.c else(G,0,0)
structure ae.Later (G G':ae):Prop where
 nodes:∃ ext,G'.nodes=G.nodes++ext
 shut:G.shut.length≤G'.shut.length∧∀ k:Nat,G.shut.getD k false=true→G'.shut.getD k false=true
theorem ae.Later.refl (G:ae):G.Later G:=⟨⟨[],by simp⟩,Nat.le_refl _,fun _=>id⟩
theorem ae.Later.trans {A B C:ae} (x:A.Later B) (y:B.Later C):A.Later C:=by
 obtain⟨e1,h1⟩:=x.nodes
 obtain⟨e2,h2⟩:=y.nodes
 exact⟨⟨e1++e2,by rw[h2,h1,List.append_assoc]⟩,Nat.le_trans x.shut.1 y.shut.1,fun k hk=>y.shut.2 k (x.shut.2 k hk)⟩
theorem vY (G:ae) (n:aX):(∃ ext:List aX,(G.add n).1.nodes=G.nodes++ext∧ext.length≤1)∧(G.add n).1.shut=G.shut:=by
 unfold ae.add
 split
 ·exact⟨⟨[],by simp,by simp⟩,rfl⟩
 split
 ·exact⟨⟨[],by simp,by simp⟩,rfl⟩
 split
 ·exact⟨⟨[],by simp,by simp⟩,rfl⟩
 ·exact⟨⟨[n],rfl,by simp⟩,rfl⟩
theorem na (G:ae):G.gate.1.nodes=G.nodes∧G.shut.length≤G.gate.1.shut.length∧∀ k:Nat,G.shut.getD k false=true→G.gate.1.shut.getD k false=true:=by
 unfold ae.gate
 split
 ·exact⟨rfl,Nat.le_refl _,fun _=>id⟩
 ·refine⟨rfl,by simp,fun k hk=> ?_⟩
  have hlt:k<G.shut.length:=by
   rcases Nat.lt_or_ge k G.shut.length with h | h
   ·exact h
   ·rw[List.getD,List.getElem?_eq_none h]at hk;cases hk
  simpa[List.getD,List.getElem?_append_left hlt]using hk
theorem pI (G:ae) (k:Int):(G.cut k).1.nodes=G.nodes∧(G.cut k).1.shut.length=G.shut.length∧∀ j:Nat,G.shut.getD j false=true→(G.cut k).1.shut.getD j false=true:=by
 unfold ae.cut
 split
 ·refine⟨rfl,by simp,fun j hj=> ?_⟩
  have hlt:j<G.shut.length:=by
   rcases Nat.lt_or_ge j G.shut.length with h | h
   ·exact h
   ·rw[List.getD,List.getElem?_eq_none h]at hj;cases hj
  simp only[List.getD,List.getElem?_set]
  by_cases e:k.toNat=j
  ·simp[e,hlt]
  ·simpa[e,List.getD]using hj
 ·exact⟨rfl,rfl,fun _=>id⟩
theorem ae.step_nodes (G:ae) (x:Jr):(∃ ext:List aX,(G.step x).1.nodes=G.nodes++ext∧ext.length≤1)∧G.shut.length≤(G.step x).1.shut.length∧∀ k:Nat,G.shut.getD k false=true→(G.step x).1.shut.getD k false=true:=by
 have keep:∀ n,(∃ ext:List aX,(G.add n).1.nodes=G.nodes++ext∧ext.length≤1)∧G.shut.length≤(G.add n).1.shut.length∧∀ k:Nat,G.shut.getD k false=true→(G.add n).1.shut.getD k false=true:=fun n=>by
  obtain⟨h1,h2⟩:=vY G n
  rw[h2]
  exact⟨h1,Nat.le_refl _,fun _=>id⟩
 have same:(∃ ext:List aX,G.nodes=G.nodes++ext∧ext.length≤1)∧G.shut.length≤G.shut.length∧∀ k:Nat,G.shut.getD k false=true→G.shut.getD k false=true:=⟨⟨[],by simp,by simp⟩,Nat.le_refl _,fun _=>id⟩
 unfold ae.step
 split
 ·obtain⟨h1,h2,h3⟩:=na G
  exact⟨⟨[],by simp[h1],by simp⟩,h2,h3⟩
 split
 ·obtain⟨h1,h2,h3⟩:=pI G x.a
  exact⟨⟨[],by simp[h1],by simp⟩,by simp only[h2];exact Nat.le_refl _,h3⟩
 split
 ·unfold ae.cellC
  split
  ·exact keep _
  ·exact same
 split
 ·unfold ae.funcC
  split
  ·exact keep _
  ·exact same
 split
 ·unfold ae.derive
  split
  ·exact keep _
  ·exact same
 ·exact same
theorem ae.step_later (G:ae) (x:Jr):G.Later (G.step x).1:=by
 obtain⟨⟨e,h1,_⟩,h2,h3⟩:=G.step_nodes x
 exact⟨⟨e,h1⟩,h2,h3⟩
theorem ae.path_last {G:ae} (hW:G.Wf):∀ (f:Nat) (i:Int),i.toNat<f→G.has i=true→∃ pre t,G.path i=pre++[t]∧t.parent= -1∧∃ k:Nat,G.nodes[k]? =some t:=by
 intro f
 induction f with
 | zero=>intro i hi;omega
 | succ f ih=>
   intro i hi hh
   have ok:=hW.get hh
   have hget:G.nodes[i.toNat]? =some (G.nodes.getD i.toNat bH):=by
    simp[ae.has]at hh
    have:i.toNat<G.nodes.length:=by omega
    simp[List.getD,this]
   rw[ae.path_yes hW hh]
   by_cases hp:G.has (G.nodes.getD i.toNat bH).parent=true
   ·have hp0:0≤(G.nodes.getD i.toNat bH).parent:=by simp only[ae.has,decide_eq_true_eq]at hp;exact hp.1
    have hp1:=ok.p1
    obtain⟨pre,t,h1,h2,h3⟩:=ih (G.nodes.getD i.toNat bH).parent (by omega) hp
    exact⟨_::pre,t,by rw[h1];rfl,h2,h3⟩
   ·refine⟨[],_,by rw[ae.path_no (by simpa using hp)];rfl,?_,_,hget⟩
    have h0:=ok.p0
    have h1:=ok.p1
    have hi2:i.toNat<G.nodes.length:=(List.getElem?_eq_some_iff.1 hget).1
    simp only[ae.has,decide_eq_true_eq,not_and]at hp
    rcases Int.lt_or_le (G.nodes.getD i.toNat bH).parent 0 with h | h
    ·omega
    ·have:=hp h;omega
theorem ae.target_ok {G:ae} (hW:G.Wf) {i:Int} (hh:G.has i=true):(G.target i).2=true∧(G.target i).1.parent= -1∧((G.target i).1.plugin= -1∧0≤(G.target i).1.cell∧(G.target i).1.cell<12∧(G.target i).1.func=0∨0≤(G.target i).1.plugin∧(G.target i).1.plugin<4∧0≤(G.target i).1.func∧(G.target i).1.func<6∧(G.target i).1.cell=0):=by
 obtain⟨pre,t,h1,h2,k,hk⟩:=ae.path_last hW (i.toNat+1) i (by omega) hh
 have ht:G.target i=(t,true):=by
  unfold ae.target
  rw[h1]
  simp[List.getLastD_eq_getLast?]
 rw[ht]
 exact⟨rfl,h2,(hW.node k t hk).t h2⟩
theorem ae.Later.has {G G':ae} (l:G.Later G') {i:Int} (h:G.has i=true):G'.has i=true∧G'.nodes.getD i.toNat bH=G.nodes.getD i.toNat bH:=by
 obtain⟨e,he⟩:=l.nodes
 simp[ae.has]at h
 have hlt:i.toNat<G.nodes.length:=by omega
 refine⟨by simp[ae.has,he];omega,?_⟩
 rw[he]
 simp[List.getD,List.getElem?_append_left hlt]
theorem ae.Later.path {G G':ae} (l:G.Later G') (hW:G.Wf) (hW':G'.Wf):∀ (f:Nat) (i:Int),i.toNat<f→G.has i=true→G'.path i=G.path i:=by
 intro f
 induction f with
 | zero=>intro i hi;omega
 | succ f ih=>
   intro i hi hh
   obtain⟨hh',hn⟩:=l.has hh
   have ok:=hW.get hh
   rw[ae.path_yes hW hh,ae.path_yes hW' hh',hn]
   congr 1
   by_cases hp:G.has (G.nodes.getD i.toNat bH).parent=true
   ·have hp0:0≤(G.nodes.getD i.toNat bH).parent:=by simp only[ae.has,decide_eq_true_eq]at hp;exact hp.1
    have hp1:=ok.p1
    exact ih _ (by omega) hp
   ·have h0:=ok.p0
    have h1:=ok.p1
    have hi2:i.toNat<G.nodes.length:=by simp[ae.has]at hh;omega
    have hneg:(G.nodes.getD i.toNat bH).parent<0:=by
     simp only[ae.has,decide_eq_true_eq,not_and]at hp
     rcases Int.lt_or_le (G.nodes.getD i.toNat bH).parent 0 with h | h
     ·exact h
     ·have:=hp h;omega
    rw[ae.path_no (G:=G) (by simpa using hp),ae.path_no (G:=G') (by simp only[ae.has,decide_eq_false_iff_not,not_and];intro h;omega)]
theorem ae.path_ok {G:ae} (hW:G.Wf):∀ (f:Nat) (i:Int),∀ n∈G.pathF f i,fK n.rights=true∧(n.gate= -1∨0≤n.gate∧n.gate<G.shut.length):=by
 intro f
 induction f with
 | zero=>intro i n hn;simp[ae.pathF]at hn
 | succ f ih=>
   intro i n hn
   unfold ae.pathF at hn
   split at hn
   ·rename_i hk
    rcases List.mem_cons.1 hn with rfl | hn
    ·exact⟨(hW.get hk).r,(hW.get hk).g⟩
    ·exact ih _ n hn
   ·simp at hn
theorem ta {G:ae} (hW:G.Wf) (i:Int):∃ x:BitVec 64,G.rights i=x.toInt:=by
 unfold ae.rights
 split
 ·exact⟨0#64,rfl⟩
 ·exact⟨_,sD _ (fun n hn=>(ae.path_ok hW _ i n hn).1) 15#64⟩
structure mK (D:Int→Prop) (A:ae→Int→Int→Prop) (I:ae→Prop):Prop where
 pos:∀ p,D p→0≤p
 wf:∀ G,I G→G.Wf
 has:∀ G p n,I G→A G p n→G.has n=true
 mono:∀ G G' p n,I G→I G'→G.Later G'→A G p n→A G' p n
 gate:∀ G,I G→I G.gate.1
 cut:∀ G k,I G→I (G.cut k).1
 inv:∀ G n r g,I G→I (G.derive n r g).1
 der:∀ G p n r g,D p→I G→A G p n→(G.derive n r g).2.2=0→A (G.derive n r g).1 p (G.derive n r g).2.1
 ask:∀ G p n,D p→I G→A G p n→ew (G.rights n) 3=true→¬ (G.target n).1.plugin<0→D (G.target n).1.plugin
 give:∀ G p n m,D p→D (G.target n).1.plugin→I G→A G p n→¬ (G.target n).1.plugin<0→A G p m→(du (G.gatesC n) G m).2.2=0→A (du (G.gatesC n) G m).1 (G.target n).1.plugin (du (G.gatesC n) G m).2.1
 take:∀ G p n m,D p→D (G.target n).1.plugin→I G→A G p n→¬ (G.target n).1.plugin<0→A G (G.target n).1.plugin m→(du (G.gatesC n) G m).2.2=0→A (du (G.gatesC n) G m).1 p (du (G.gatesC n) G m).2.1
def Hv (A:ae→Int→Int→Prop) (G:ae) (p:Int) (v:VD):Prop:=∀ n∈v.caps,A G p n
def DS (A:ae→Int→Int→Prop) (G:ae) (e:ca):Prop:=A G e.plugin e.node∧(G.target e.node).1.plugin<0∧e.cell=(G.target e.node).1.cell∧(e.right=1∧ew (G.rights e.node) 0=true∨e.right=2∧ew (G.rights e.node) 1=true)
def dX (D:Int→Prop) (A:ae→Int→Int→Prop) (S:StD):Prop:=∀ p,D p→Hv A S.G p (S.kept.getD p.toNat au)
structure bC {α:Type} (D:Int→Prop) (A:ae→Int→Int→Prop) (I:ae→Prop) (S:StD) (P:ae→α→Prop) (q:StD×α×Int):Prop where
 inv:I q.1.G
 later:S.G.Later q.1.G
 kept:dX D A q.1
 val:q.2.2=0→P q.1.G q.2.1
 log:∃ ext,q.1.log=S.log++ext∧∀ e∈ext,D e.plugin∧∃ G0,I G0∧G0.Later q.1.G∧DS A G0 e
section
variable {D:Int→Prop} {A:ae→Int→Int→Prop} {I:ae→Prop}
theorem kG (G:ae):G.Later G.gate.1:=by
 have:=G.step_later ⟨0,0,0,0,0⟩
 exact this
theorem uT (G:ae) (k:Int):G.Later (G.cut k).1:=by
 have:=G.step_later ⟨1,k,0,0,0⟩
 exact this
theorem gc (G:ae) (n r g:Int):G.Later (G.derive n r g).1:=by
 have:=G.step_later ⟨4,n,r,g,0⟩
 exact this
theorem vT:au.caps=[]:=by rfl
theorem HM (n:Int):(iH n).caps=[]:=by rfl
theorem Hv.zero {G:ae} {p:Int}:Hv A G p au:=fun n hn=>by rw[vT]at hn;cases hn
theorem Hv.int {G:ae} {p n:Int}:Hv A G p (iH n):=fun m hm=>by rw[HM]at hm;cases hm
theorem Hv.cap {G:ae} {p n:Int} (h:A G p n):Hv A G p (fA n):=fun m hm=>by
 have:m=n:=by simpa[fA,VD.caps,dm]using hm
 rw[this];exact h
theorem jm:∀ {l:List VD} {n:Int},n∈dm l↔∃ v∈l,n∈v.caps
 | [],n=>by simp[dm]
 | x::l,n=>by
   have ih:=jm (l:=l) (n:=n)
   simp only[dm,List.mem_append,List.mem_cons,exists_eq_or_imp,ih]
theorem Hv.part {G:ae} {p:Int} {v:VD} (h:Hv A G p v) (i:Nat):Hv A G p (v.l.getD i au):=by
 by_cases hi:i<v.l.length
 ·intro n hn
  rw[List.getD,List.getElem?_eq_getElem hi,Option.getD_some]at hn
  refine h n ?_
  rw[VD.caps_eq]
  exact List.mem_append_right _ (jm.2 ⟨_,List.getElem_mem hi,hn⟩)
 ·rw[List.getD,List.getElem?_eq_none (by omega),Option.getD_none]
  exact Hv.zero
theorem Hv.getD {G:ae} {p:Int} {l:List VD} (h:∀ v∈l,Hv A G p v) (i:Nat):Hv A G p (l.getD i au):=by
 by_cases hi:i<l.length
 ·rw[List.getD,List.getElem?_eq_getElem hi,Option.getD_some]
  exact h _ (List.getElem_mem hi)
 ·rw[List.getD,List.getElem?_eq_none (by omega),Option.getD_none]
  exact Hv.zero
theorem Hv.mk {G:ae} {p k n:Int} {l:List VD} (hk:k≠4) (h:∀ v∈l,Hv A G p v):Hv A G p (.mk k n l):=by
 intro m hm
 rw[VD.caps_eq]at hm
 have e:(VD.mk k n l).kind=k:=rfl
 rw[e,if_neg hk,List.nil_append]at hm
 obtain⟨v,hv,hm⟩:=jm.1 hm
 exact h v hv m hm
theorem Hv.mono (H:mK D A I) {G G':ae} {p:Int} {v:VD} (hI:I G) (hI':I G') (l:G.Later G') (h:Hv A G p v):Hv A G' p v:=fun n hn=>H.mono G G' p n hI hI' l (h n hn)
theorem dX.mono (H:mK D A I) {S:StD} {G':ae} (hI:I S.G) (hI':I G') (l:S.G.Later G') (h:dX D A S):dX D A {S with G:=G'}:=fun p hp=>(h p hp).mono H hI hI' l
theorem bC.same {α:Type} {P:ae→α→Prop} (H:mK D A I) {S:StD} (hI:I S.G) (k:dX D A S) {G':ae} (hI':I G') (l:S.G.Later G') {v:α} {c:Int} (hv:c=0→P G' v):bC D A I S P ({S with G:=G'},v,c):=
 ⟨hI',l,k.mono H hI hI' l,hv,[],by simp,fun e he=>by cases he⟩
theorem bC.trans {α β:Type} {P:ae→α→Prop} {Q:ae→β→Prop} {S:StD} {q:StD×α×Int} {q':StD×β×Int} (h:bC D A I S P q) (h':bC D A I q.1 Q q'):bC D A I S Q q':=by
 obtain⟨e1,l1,m1⟩:=h.log
 obtain⟨e2,l2,m2⟩:=h'.log
 refine⟨h'.inv,h.later.trans h'.later,h'.kept,h'.val,e1++e2,by rw[l2,l1,List.append_assoc],fun e he=> ?_⟩
 rcases List.mem_append.1 he with he | he
 ·obtain⟨d,G0,a,b,c⟩:=m1 e he
  exact⟨d,G0,a,b.trans h'.later,c⟩
 ·exact m2 e he
theorem bC.fail {α β:Type} {P:ae→α→Prop} {Q:ae→β→Prop} {S:StD} {q:StD×α×Int} (h:bC D A I S P q) {z:β} {c:Int} (hc:c≠0):bC D A I S Q (q.1,z,c):=⟨h.inv,h.later,h.kept,fun e=>absurd e hc,h.log⟩
theorem bC.bind {α β:Type} {P:ae→α→Prop} {Q:ae→β→Prop} {S:StD} {q:StD×α×Int} {z:β} {k:StD→α→StD×β×Int} (h:bC D A I S P q) (hk:P q.1.G q.2.1→I q.1.G→dX D A q.1→S.G.Later q.1.G→bC D A I q.1 Q (k q.1 q.2.1)):bC D A I S Q (ja z q k):=by
 obtain⟨S',v,c⟩:=q
 unfold ja
 simp only
 by_cases hc:c≠0
 ·rw[if_pos hc]
  exact h.fail hc
 ·rw[if_neg hc]
  exact h.trans (hk (h.val (Classical.not_not.1 hc)) h.inv h.kept h.later)
theorem bC.ite {α:Type} {P:ae→α→Prop} {S:StD} {p:Prop} [Decidable p] {a b:StD×α×Int} (h1:p→bC D A I S P a) (h2:¬ p→bC D A I S P b):bC D A I S P (if p then a else b):=by
 split
 ·rename_i h;exact h1 h
 ·rename_i h;exact h2 h
theorem Later.target (H:mK D A I) {G G':ae} {p n:Int} (hI:I G) (hI':I G') (l:G.Later G') (a:A G p n):G'.target n=G.target n∧G'.gatesC n=G.gatesC n:=by
 have e:=l.path (H.wf _ hI) (H.wf _ hI') (n.toNat+1) n (by omega) (H.has _ _ _ hI a)
 unfold ae.target ae.gatesC
 rw[e]
 exact⟨rfl,rfl⟩
theorem B6 (H:mK D A I) {p op k n:Int} {l:List VD} {S:StD} (hp:D p) (hI:I S.G) (hk:dX D A S) (hl:∀ v∈l,Hv A S.G p v):bC D A I S (fun G v=>Hv A G p v) (bI p op k n l S):=by
 have ha:=Hv.getD hl 0
 have hb:=Hv.getD hl 1
 have lr:=ae.Later.refl S.G
 have no:∀ {c:Int},bC D A I S (fun G v=>Hv A G p v) (S.no c):=bC.same H hI hk hI lr fun _=>Hv.zero
 have ok:∀ {v:VD},Hv A S.G p v→bC D A I S (fun G v=>Hv A G p v) (S.ok v):=fun hv=>bC.same H hI hk hI lr fun _=>hv
 have capA:(l.getD 0 au).kind=4→A S.G p (l.getD 0 au).n:=fun e=>ha _ (by rw[VD.caps_eq,if_pos e];simp)
 unfold bI
 refine .ite (fun _=> .ite (fun _=>no) fun _=>ok Hv.int) fun h6=> ?_
 refine .ite (fun _=> .ite (fun _=>no) fun h=>ok (Hv.mk (by decide) (by simpa using⟨ha,hb⟩))) fun h8=> ?_
 refine .ite (fun _=> .ite (fun _=>no) fun h=>ok (ha.part 0)) fun h9=> ?_
 refine .ite (fun _=> .ite (fun _=>no) fun h=>ok (ha.part 1)) fun h10=> ?_
 refine .ite (fun _=> .ite (fun _=>no) fun h=>ok (Hv.mk (by decide) (by simpa using ha))) fun h11=> ?_
 refine .ite (fun _=> .ite (fun _=>no) fun _=> .ite (fun _=>no) fun _=>ok (ha.part 0)) fun h12=> ?_
 refine .ite (fun _=> .ite (fun _=>no) fun hc=> .ite (fun _=>no) fun hr=> .ite (fun _=>no) fun ht=> ?_) fun h13=> ?_
 ·exact⟨hI,lr,hk,fun _=>Hv.int,_,rfl,fun e he=>by
   obtain rfl:e=_:=by simpa using he
   exact⟨hp,S.G,hI,lr,capA (Classical.not_not.1 hc),by simpa using ht,rfl,.inl ⟨rfl,by simpa using hr⟩⟩⟩
 refine .ite (fun _=> .ite (fun _=>no) fun hc=> .ite (fun _=>no) fun hr=> .ite (fun _=>no) fun ht=> ?_) fun h14=> ?_
 ·exact⟨hI,lr,hk,fun _=>hb,_,rfl,fun e he=>by
   obtain rfl:e=_:=by simpa using he
   exact⟨hp,S.G,hI,lr,capA (Classical.not_not.1 fun h=>hc (.inl h)),by simpa using ht,rfl,.inr ⟨rfl,by simpa using hr⟩⟩⟩
 refine .ite (fun _=> .ite (fun _=>no) fun hc=> ?_) fun h15=> ?_
 ·unfold xp
  have hA:=capA (Classical.not_not.1 hc)
  exact .ite (fun _=>bC.same H hI hk (H.inv _ _ _ _ hI) (gc _ _ _ _) fun _=>Hv.zero) fun hz=>bC.same H hI hk (H.inv _ _ _ _ hI) (gc _ _ _ _) fun _=>Hv.cap (H.der _ _ _ _ _ hp hI hA (Classical.not_not.1 hz))
 refine .ite (fun _=> .ite (fun _=>no) fun hc=> .ite (fun _=>bC.same H hI hk (H.gate _ hI) (kG _) fun _=>Hv.zero) fun hg=> ?_) fun h16=> ?_
 ·have hA:=capA (Classical.not_not.1 hc)
  have hA':=H.mono _ _ _ _ hI (H.gate _ hI) (kG _) hA
  have hd:=H.der S.G.gate.1 p (l.getD 0 au).n 15 S.G.gate.2.1 hp (H.gate _ hI) hA'
  have hi:=H.inv S.G.gate.1 (l.getD 0 au).n 15 S.G.gate.2.1 (H.gate _ hI)
  have hL:=(kG S.G).trans (gc S.G.gate.1 (l.getD 0 au).n 15 S.G.gate.2.1)
  generalize S.G.gate.1.derive (l.getD 0 au).n 15 S.G.gate.2.1=q at hd hi hL ⊢
  obtain⟨G',m,c⟩:=q
  refine .ite (fun _=>bC.same H hI hk hi hL fun _=>Hv.zero) fun hz=>bC.same H hI hk hi hL fun _=>Hv.mk (by decide) ?_
  intro v hv
  rcases List.mem_cons.1 hv with rfl | hv
  ·exact Hv.cap (hd (Classical.not_not.1 hz))
  ·obtain rfl:v=_:=by simpa using hv
   intro m hm
   simp[VD.caps,dm]at hm
 refine .ite (fun _=> .ite (fun _=>no) fun _=> ?_) fun h17=> ?_
 ·exact bC.same H hI hk (H.cut _ _ hI) (uT _ _) fun _=>Hv.zero
 refine .ite (fun _=> ?_) fun h20=>no
 refine⟨hI,lr,fun q hq=> ?_,fun _=>hk p hp,[],by simp[StD.ok],fun e he=>by cases he⟩
 show Hv A S.G q ((S.kept.set p.toNat (l.getD 0 au)).getD q.toNat au)
 by_cases e:p.toNat=q.toNat
 ·have h1:=H.pos _ hp
  have h2:=H.pos _ hq
  have e2:p=q:=by omega
  subst e2
  rw[List.getD,List.getElem?_set]
  simp only[if_true]
  split
  ·exact ha
  ·exact Hv.zero
 ·rw[List.getD,List.getElem?_set_ne e]
  exact hk q hq
theorem zc (H:mK D A I):∀ (ks:List Int) (G:ae) (n:Int),I G→I (du ks G n).1∧G.Later (du ks G n).1
 | [],G,n,hI=>⟨hI,ae.Later.refl G⟩
 | k::ks,G,n,hI=>by
   have h1:=H.inv G n 15 k hI
   have h2:=gc G n 15 k
   unfold du
   split
   ·exact⟨h1,h2⟩
   ·obtain⟨a,b⟩:=zc H ks (G.derive n 15 k).1 (G.derive n 15 k).2.1 h1
    exact⟨a,h2.trans b⟩
mutual
theorem vo (H:mK D A I) {ks:List Int} {p q:Int} {G0:ae} (hc:∀ G m,G0.Later G→I G→A G p m→(du ks G m).2.2=0→A (du ks G m).1 q (du ks G m).2.1):∀ (x:VD) (G:ae),G0.Later G→I G→Hv A G p x→I (df ks x G).1∧G.Later (df ks x G).1∧((df ks x G).2.2=0→Hv A (df ks x G).1 q (df ks x G).2.1)
 | .mk kind n l,G,h0,hI,hv=>by
   have hh:I (ci ks G kind n).1∧G.Later (ci ks G kind n).1∧((ci ks G kind n).2.2=0→kind=4→A (ci ks G kind n).1 q (ci ks G kind n).2.1):=by
    unfold ci
    split
    ·rename_i hk
     obtain⟨a,b⟩:=zc H ks G n hI
     exact⟨a,b,fun hz _=>hc G n h0 hI (hv n (by rw[VD.caps_eq];exact List.mem_append_left _ (by show n∈(if kind=4 then[n]else[]);rw[if_pos hk];simp))) hz⟩
    ·rename_i hk
     exact⟨hI,ae.Later.refl G,fun _ h=>absurd h hk⟩
   obtain⟨a1,a2,a3⟩:=hh
   simp only[df]
   split
   ·rename_i hz
    exact⟨a1,a2,fun h=>absurd h hz⟩
   ·rename_i hz
    have hl:∀ v∈l,Hv A (ci ks G kind n).1 p v:=fun v hv' m hm=>H.mono _ _ _ _ hI a1 a2 (hv m (by rw[VD.caps_eq];exact List.mem_append_right _ (jm.2 ⟨v,hv',hm⟩)))
    obtain⟨b1,b2,b3⟩:=sm H hc l (ci ks G kind n).1 (h0.trans a2) a1 hl
    split
    ·rename_i hz2
     exact⟨b1,a2.trans b2,fun h=>absurd h hz2⟩
    ·rename_i hz2
     refine⟨b1,a2.trans b2,fun _ m hm=> ?_⟩
     rw[VD.caps_eq]at hm
     rcases List.mem_append.1 hm with hm | hm
     ·split at hm
      ·rename_i hk
       obtain rfl:m=_:=by simpa using hm
       exact H.mono _ _ _ _ a1 b1 b2 (a3 (Classical.not_not.1 hz) hk)
      ·cases hm
     ·obtain⟨v,hv',hm⟩:=jm.1 hm
      exact b3 (Classical.not_not.1 hz2) v hv' m hm
theorem sm (H:mK D A I) {ks:List Int} {p q:Int} {G0:ae} (hc:∀ G m,G0.Later G→I G→A G p m→(du ks G m).2.2=0→A (du ks G m).1 q (du ks G m).2.1):∀ (l:List VD) (G:ae),G0.Later G→I G→(∀ v∈l,Hv A G p v)→I (bu ks l G).1∧G.Later (bu ks l G).1∧((bu ks l G).2.2=0→∀ v∈(bu ks l G).2.1,Hv A (bu ks l G).1 q v)
 | [],G,_,hI,_=>⟨hI,ae.Later.refl G,fun _ v hv=>by cases hv⟩
 | x::l,G,h0,hI,hl=>by
   obtain⟨a1,a2,a3⟩:=vo H hc x G h0 hI (hl x (by simp))
   simp only[bu]
   split
   ·rename_i hz
    exact⟨a1,a2,fun h=>absurd h hz⟩
   ·rename_i hz
    obtain⟨b1,b2,b3⟩:=sm H hc l (df ks x G).1 (h0.trans a2) a1 (fun v hv=>(hl v (by simp[hv])).mono H hI a1 a2)
    refine⟨b1,a2.trans b2,fun h v hv=> ?_⟩
    rcases List.mem_cons.1 hv with rfl | hv
    ·exact(a3 (Classical.not_not.1 hz)).mono H a1 b1 b2
    ·exact b3 h v hv
end
theorem oC (H:mK D A I) {ks:List Int} {p q:Int} {G0:ae} (hc:∀ G m,G0.Later G→I G→A G p m→(du ks G m).2.2=0→A (du ks G m).1 q (du ks G m).2.1) (x:VD) (G:ae) (h0:G0.Later G) (hI:I G) (hv:Hv A G p x):I (aV ks G x).1∧G.Later (aV ks G x).1∧((aV ks G x).2.2=0→Hv A (aV ks G x).1 q (aV ks G x).2.1):=by
 unfold aV
 split
 ·rename_i hz
  exact⟨hI,ae.Later.refl G,fun h=>absurd h hz⟩
 ·exact vo H hc x G h0 hI hv
def N0 (D:Int→Prop) (A:ae→Int→Int→Prop) (p:Int) (G:ae) (a:uf):Prop:=D a.plugin∧Hv A G a.plugin a.arg∧∃ n,A G p n∧a.gates=G.gatesC n∧(G.target n).1.plugin=a.plugin∧¬ a.plugin<0
theorem E8 (H:mK D A I) {ms:aN} {p:Int} {v x:VD} {fr:Nat} {S:StD} (hp:D p) (hI:I S.G) (hk:dX D A S) (hv:Hv A S.G p v) (hx:Hv A S.G p x):bC D A I S (N0 D A p) (fp ms v x fr S):=by
 have lr:=ae.Later.refl S.G
 have no:∀ {c:Int} (hc:c≠0) (z:uf),bC D A I S (N0 D A p) (S,z,c):=fun hc z=>bC.same H hI hk hI lr fun h=>absurd h hc
 unfold fp
 refine .ite (fun _=>no (by decide) _) fun h1=> .ite (fun _=>no (by decide) _) fun h2=> .ite (fun _=>no (by decide) _) fun h3=> .ite (fun _=>no (by decide) _) fun h4=> .ite (fun _=>no (by decide) _) fun h5=> ?_
 have hA:A S.G p v.n:=hv _ (by rw[VD.caps_eq,if_pos (Classical.not_not.1 h1)];simp)
 have hD:=H.ask _ _ _ hp hI hA (by simpa using h2) h3
 have ac:=oC H (ks:=S.G.gatesC v.n) (p:=p) (q:=(S.G.target v.n).1.plugin) (G0:=S.G) (fun G m l hG hm hz=>by
  have hA':=H.mono _ _ _ _ hI hG l hA
  obtain⟨e1,e2⟩:=Later.target H hI hG l hA
  have:=H.give G p v.n m hp (by rw[e1];exact hD) hG hA' (by rw[e1];exact h3) hm (by rw[e2];exact hz)
  rw[e1,e2]at this
  exact this) x S.G lr hI hx
 generalize aV (S.G.gatesC v.n) S.G x=q at ac
 obtain⟨G',y,c⟩:=q
 obtain⟨a1,a2,a3⟩:=ac
 obtain⟨e1,e2⟩:=Later.target H hI a1 a2 hA
 refine bC.same H hI hk a1 a2 fun hz=>⟨hD,a3 hz,v.n,H.mono _ _ _ _ hI a1 a2 hA,by rw[e2],by rw[e1],h3⟩
theorem BP (H:mK D A I) {p:Int} {a:uf} {v:VD} {G0:ae} {S:StD} (hp:D p) (hI0:I G0) (l0:G0.Later S.G) (hI:I S.G) (hk:dX D A S) (ha:N0 D A p G0 a) (hv:Hv A S.G a.plugin v):bC D A I S (fun G v=>Hv A G p v) (eQ a.gates v S):=by
 obtain⟨hD,_,n,hA,hg,ht,hn⟩:=ha
 have ac:=oC H (ks:=a.gates) (p:=a.plugin) (q:=p) (G0:=G0) (fun G m l hG hm hz=>by
  have hA':=H.mono _ _ _ _ hI0 hG l hA
  obtain⟨e1,e2⟩:=Later.target H hI0 hG l hA
  have:=H.take G p n m hp (by rw[e1,ht];exact hD) hG hA' (by rw[e1,ht];exact hn) (by rw[e1,ht];exact hm) (by rw[e2,←hg];exact hz)
  rw[e2,←hg]at this
  exact this) v S.G l0 hI hv
 unfold eQ
 generalize aV a.gates S.G v=q at ac
 obtain⟨G',y,c⟩:=q
 obtain⟨a1,a2,a3⟩:=ac
 exact .ite (fun hz=>bC.same H hI hk a1 a2 fun h=>absurd h hz) fun hz=>bC.same H hI hk a1 a2 fun _=>a3 (Classical.not_not.1 hz)
theorem AJ (H:mK D A I) {p:Int} {f:XD→StD→StD×VD×Int} {G0:ae} (hf:∀ x S,G0.Later S.G→I S.G→dX D A S→bC D A I S (fun G v=>Hv A G p v) (f x S)):∀ (l:List XD) (S:StD) (acc:List VD),G0.Later S.G→I S.G→dX D A S→(∀ v∈acc,Hv A S.G p v)→bC D A I S (fun G l=>∀ v∈l,Hv A G p v) (evL f l S acc)
 | [],S,acc,_,hI,hk,ha=>bC.same H hI hk hI (ae.Later.refl _) fun _=>ha
 | x::l,S,acc,h0,hI,hk,ha=>by
   rw[yp]
   have h1:=hf x S h0 hI hk
   refine h1.bind fun hv hI' hk' _=>AJ H hf l _ _ (h0.trans h1.later) hI' hk' ?_
   intro v hv'
   rcases List.mem_append.1 hv' with h | h
   ·exact(ha v h).mono H hI hI' h1.later
   ·obtain rfl:v=_:=by simpa using h
    exact hv
theorem Bo {p:Int} {x:XD} {arg:VD} {names:List VD} {S:StD} {v:VD} (hp:D p) (hk:dX D A S) (ha:Hv A S.G p arg) (hn:∀ v∈names,Hv A S.G p v) (h:d9 p x arg names S=some v):Hv A S.G p v:=by
 unfold d9 at h
 split at h
 ·injection h with h;subst h;exact Hv.zero
 split at h
 ·injection h with h;subst h;exact Hv.int
 split at h
 ·injection h with h;subst h;exact ha
 split at h
 ·injection h with h;subst h;exact Hv.getD hn _
 split at h
 ·injection h with h;subst h;exact hk p hp
 ·cases h
theorem Hv.all (H:mK D A I) {G G':ae} {p:Int} {l:List VD} (hI:I G) (hI':I G') (hl:G.Later G') (h:∀ v∈l,Hv A G p v):∀ v∈l,Hv A G' p v:=fun v hv=>(h v hv).mono H hI hI' hl
theorem zM (H:mK D A I) (ms:aN):∀ (N:Nat) (p:Int) (x:XD) (arg:VD) (names:List VD) (fr:Nat) (S:StD),D p→I S.G→dX D A S→Hv A S.G p arg→(∀ v∈names,Hv A S.G p v)→bC D A I S (fun G v=>Hv A G p v) (ofD ms N p x arg names fr S)
 | 0,p,x,arg,names,fr,S,hp,hI,hk,ha,hn=>bC.same H hI hk hI (ae.Later.refl _) fun h=>absurd h (by decide)
 | N+1,p,x,arg,names,fr,S,hp,hI,hk,ha,hn=>by
   have ih:=zM H ms N
   have no:∀ {T:StD} {c:Int},I T.G→dX D A T→bC D A I T (fun G v=>Hv A G p v) (T.no c):=fun hI hk=>bC.same H hI hk hI (ae.Later.refl _) fun _=>Hv.zero
   rw[AO]
   refine .ite (fun _=>no hI hk) fun _=> ?_
   have hI:I S.tick.G:=hI
   have hk:dX D A S.tick:=hk
   have ha:Hv A S.tick.G p arg:=ha
   have hn:∀ v∈names,Hv A S.tick.G p v:=hn
   suffices h:bC D A I S.tick (fun G v=>Hv A G p v) (match d9 p x arg names S.tick with
    | some v=>S.tick.ok v
    | none=>
      if x.op=5 then ja au (ofD ms N p (x.l.getD 0 cB) arg names fr S.tick) fun S' v=>ofD ms N p (x.l.getD 1 cB) arg (names++[v]) fr S'
      else if x.op=7 then ja au (ofD ms N p (x.l.getD 0 cB) arg names fr S.tick) fun S' v=>if v.kind≠1 then S'.no 2 else if v.n≠0 then ofD ms N p (x.l.getD 1 cB) arg names fr S' else ofD ms N p (x.l.getD 2 cB) arg names fr S'
      else ja au (evL (fun y S=>ofD ms N p y arg names fr S) x.l S.tick []) fun S' l=>
       if x.op=18 then(if fr=20 then S'.no 4 else ofD ms N p (cX ms p x.k) (l.getD 0 au) [] (fr+1) S')
       else if x.op=19 then ja au (fp ms (l.getD 0 au) (l.getD 1 au) fr S') fun S2 q=>ja au (ofD ms N q.plugin (cX ms q.plugin q.func) q.arg [] (fr+1) S2) fun S3 v=>eQ q.gates v S3
       else bI p x.op x.k x.n l S') from⟨h.inv,h.later,h.kept,h.val,h.log⟩
   generalize S.tick=T at hI hk ha hn
   cases hlf:d9 p x arg names T with
   | some v=>exact bC.same H hI hk hI (ae.Later.refl _) fun _=>Bo hp hk ha hn hlf
   | none=>
     refine .ite (fun _=> ?_) fun _=> .ite (fun _=> ?_) fun _=> ?_
     ·have h1:=ih p (x.l.getD 0 cB) arg names fr T hp hI hk ha hn
      refine h1.bind fun hv hI' hk' _=>ih _ _ _ _ _ _ hp hI' hk' (ha.mono H hI hI' h1.later) ?_
      intro v hv'
      rcases List.mem_append.1 hv' with h | h
      ·exact(hn v h).mono H hI hI' h1.later
      ·obtain rfl:v=_:=by simpa using h
       exact hv
     ·have h1:=ih p (x.l.getD 0 cB) arg names fr T hp hI hk ha hn
      refine h1.bind fun hv hI' hk' _=> .ite (fun _=>no hI' hk') fun _=> .ite (fun _=> ?_) fun _=> ?_
      ·exact ih _ _ _ _ _ _ hp hI' hk' (ha.mono H hI hI' h1.later) (Hv.all H hI hI' h1.later hn)
      ·exact ih _ _ _ _ _ _ hp hI' hk' (ha.mono H hI hI' h1.later) (Hv.all H hI hI' h1.later hn)
     ·have h1:=AJ H (p:=p) (f:=fun y S=>ofD ms N p y arg names fr S) (G0:=T.G) (fun y S l hI' hk'=>ih p y arg names fr S hp hI' hk' (ha.mono H hI hI' l) (Hv.all H hI hI' l hn)) x.l T [] (ae.Later.refl _) hI hk (fun v hv=>by cases hv)
      refine h1.bind fun hl hI' hk' _=> .ite (fun _=> .ite (fun _=>no hI' hk') fun _=> ?_) fun _=> .ite (fun _=> ?_) fun _=> ?_
      ·exact ih _ _ _ _ _ _ hp hI' hk' (Hv.getD hl 0) (fun v hv=>by cases hv)
      ·have h2:=E8 H (ms:=ms) (fr:=fr) hp hI' hk' (Hv.getD hl 0) (Hv.getD hl 1)
       refine h2.bind fun hq hI2 hk2 _=>bC.bind (ih _ _ _ _ _ _ hq.1 hI2 hk2 hq.2.1 (fun v hv=>by cases hv)) fun hv hI3 hk3 l3=>BP H hp hI2 l3 hI3 hk3 hq hv
      ·exact B6 H hp hI' hk' hl
theorem FO (H:mK D A I) {ms:aN} {S:StD} {p f fuel:Int} {v:VD} (hp:D p) (hI:I S.G) (hk:dX D A S) (hv:Hv A S.G p v):I (cO ms p f v fuel S).1.G∧S.G.Later (cO ms p f v fuel S).1.G∧dX D A (cO ms p f v fuel S).1∧Hv A (cO ms p f v fuel S).1.G p (cO ms p f v fuel S).2.1∧∃ ext,(cO ms p f v fuel S).1.log=S.log++ext∧∀ e∈ext,D e.plugin∧∃ G0,I G0∧G0.Later (cO ms p f v fuel S).1.G∧DS A G0 e:=by
 have same:I S.G∧S.G.Later S.G∧dX D A S∧Hv A S.G p au∧∃ ext,S.log=S.log++ext∧∀ e∈ext,D e.plugin∧∃ G0,I G0∧G0.Later S.G∧DS A G0 e:=⟨hI,ae.Later.refl _,hk,Hv.zero,[],by simp,fun e he=>by cases he⟩
 unfold cO
 split
 ·exact same
 ·split
  ·exact same
  ·split
   ·exact same
   ·have h:=zM H ms fuel.toNat p (cX ms p f) v [] 1 {S with left:=fuel.toNat} hp hI hk hv (fun v hv=>by cases hv)
    generalize ofD ms fuel.toNat p (cX ms p f) v [] 1 {S with left:=fuel.toNat}=q at h
    obtain⟨S',w,c⟩:=q
    obtain⟨h1,h2,h3,h4,h5⟩:=h
    refine⟨h1,h2,h3,?_,h5⟩
    show Hv A S'.G p (if c=0 then w else au)
    split
    ·rename_i hc;exact h4 hc
    ·exact Hv.zero
end
theorem wA {G:ae} {nd:aX} (hz:(G.add nd).2.2=0):G.add nd=(⟨G.nodes++[nd],G.shut⟩,(G.nodes.length:Int),0)∧fK nd.rights=true∧(nd.gate= -1∨G.hasGate nd.gate=true):=by
 unfold ae.add at hz ⊢
 split
 ·rename_i h;rw[if_pos h]at hz;exact absurd hz (by simp)
 ·rename_i h1
  rw[if_neg h1]at hz
  split
  ·rename_i h;rw[if_pos h]at hz;exact absurd hz (by simp)
  ·rename_i h2
   rw[if_neg h2]at hz
   split
   ·rename_i h;rw[if_pos h]at hz;exact absurd hz (by simp)
   ·refine⟨rfl,by simpa using h1,?_⟩
    by_cases e:nd.gate= -1
    ·exact .inl e
    ·refine .inr ?_
     cases hh:G.hasGate nd.gate with
     | true=>rfl
     | false=>exact absurd ⟨e,hh⟩ h2
theorem nx {G:ae} {n r g:Int} (hz:(G.derive n r g).2.2=0):G.has n=true∧G.derive n r g=(⟨G.nodes++[⟨n,g,r,0, -1,0⟩],G.shut⟩,(G.nodes.length:Int),0):=by
 unfold ae.derive at hz ⊢
 split
 ·rename_i h
  rw[if_pos h]at hz
  exact⟨h,(wA hz).1⟩
 ·rename_i h
  rw[if_neg h]at hz
  exact absurd hz (by simp)
theorem wW {G:ae} {nd:aX}:(⟨G.nodes++[nd],G.shut⟩:ae).has (G.nodes.length:Int)=true∧(⟨G.nodes++[nd],G.shut⟩:ae).nodes.getD ((G.nodes.length:Int)).toNat bH=nd:=by
 refine⟨by simp[ae.has];omega,?_⟩
 rw[Int.toNat_natCast]
 simp[List.getD]
theorem Later.way {G G':ae} (l:G.Later G') (hW:G.Wf) (hW':G'.Wf):∀ (f:Nat) (i:Int),i.toNat<f→G.has i=true→G'.way i=G.way i:=by
 intro f
 induction f with
 | zero=>intro i hi;omega
 | succ f ih=>
   intro i hi hh
   obtain⟨hh',hn⟩:=l.has hh
   have ok:=hW.get hh
   rw[ae.way_yes hW hh,ae.way_yes hW' hh',hn]
   congr 1
   by_cases hp:G.has (G.nodes.getD i.toNat bH).parent=true
   ·have hp0:0≤(G.nodes.getD i.toNat bH).parent:=by simp only[ae.has,decide_eq_true_eq]at hp;exact hp.1
    have hp1:=ok.p1
    exact ih _ (by omega) hp
   ·have h0:=ok.p0
    have h1:=ok.p1
    have hi2:i.toNat<G.nodes.length:=by simp[ae.has]at hh;omega
    have hneg:(G.nodes.getD i.toNat bH).parent<0:=by
     simp only[ae.has,decide_eq_true_eq,not_and]at hp
     rcases Int.lt_or_le (G.nodes.getD i.toNat bH).parent 0 with h | h
     ·exact h
     ·have:=hp h;omega
    rw[ae.way_no (G:=G) (by simpa using hp),ae.way_no (G:=G') (by simp only[ae.has,decide_eq_false_iff_not,not_and];intro h;omega)]
theorem nt {G:ae} (hW:G.Wf) {n r g:Int} (hz:(G.derive n r g).2.2=0):(G.derive n r g).1.has (G.derive n r g).2.1=true∧(G.derive n r g).1.path (G.derive n r g).2.1=⟨n,g,r,0, -1,0⟩::G.path n∧(G.derive n r g).1.way (G.derive n r g).2.1=(G.derive n r g).2.1::G.way n:=by
 have hW':=hW.derive n r g
 have hl:=gc G n r g
 obtain⟨hn,e⟩:=nx hz
 have h1:=wW (G:=G) (nd:=⟨n,g,r,0, -1,0⟩)
 rw[e]at hW' hl ⊢
 refine⟨h1.1,?_,?_⟩
 ·rw[ae.path_yes hW' h1.1,h1.2]
  congr 1
  exact hl.path hW hW' (n.toNat+1) n (by omega) hn
 ·rw[ae.way_yes hW' h1.1,h1.2]
  congr 1
  exact Later.way hl hW hW' (n.toNat+1) n (by omega) hn
def ae.root (G:ae) (n:Int):Int:=(G.way n).getLastD (-1)
theorem BH {G:ae} (hW:G.Wf) {n:Int} (h:G.has n=true):G.way n≠[]:=by
 rw[ae.way_yes hW h]
 simp
theorem uw {α:Type} {a d:α} {l:List α} (h:l≠[]):(a::l).getLastD d=l.getLastD d:=by
 cases l with
 | nil=>exact absurd rfl h
 | cons b l=>simp[List.getLastD]
theorem qk {G:ae} (hW:G.Wf) {n r g:Int} (hz:(G.derive n r g).2.2=0):(G.derive n r g).1.root (G.derive n r g).2.1=G.root n:=by
 unfold ae.root
 rw[(nt hW hz).2.2]
 exact uw (BH hW (nx hz).1)
theorem Later.root {G G':ae} (l:G.Later G') (hW:G.Wf) (hW':G'.Wf) {n:Int} (h:G.has n=true):G'.root n=G.root n:=by
 unfold ae.root
 rw[Later.way l hW hW' (n.toNat+1) n (by omega) h]
theorem px:∀ (ks:List Int) (G:ae) (n:Int),G.Wf→G.has n=true→(du ks G n).2.2=0→(du ks G n).1.has (du ks G n).2.1=true∧(du ks G n).1.root (du ks G n).2.1=G.root n
 | [],G,n,hW,hn,_=>⟨hn,rfl⟩
 | k::ks,G,n,hW,hn,hz=>by
   unfold du at hz ⊢
   split
   ·rename_i h;rw[if_pos h]at hz;exact absurd hz h
   ·rename_i h
    rw[if_neg h]at hz
    have h0:=Classical.not_not.1 h
    obtain⟨a,b⟩:=px ks (G.derive n 15 k).1 (G.derive n 15 k).2.1 (hW.derive _ _ _) (nt hW h0).1 hz
    exact⟨a,b.trans (qk hW h0)⟩
theorem lK {G:ae} (hW:G.Wf) {n:Int} (h:G.has n=true):(G.target n).1=G.at_ (G.root n)∧G.has (G.root n)=true∧(G.at_ (G.root n)).parent= -1:=by
 have hne:=BH hW h
 have ht:(G.target n).1=G.at_ (G.root n):=by
  unfold ae.target ae.root
  rw[←ae.way_path]
  show((G.way n).map G.at_).getLastD bH=G.at_ ((G.way n).getLastD (-1))
  rw[List.getLastD_eq_getLast?,List.getLastD_eq_getLast?,List.getLast?_map]
  cases hl:(G.way n).getLast? with
  | none=>rw[List.getLast?_eq_none_iff]at hl;exact absurd hl hne
  | some a=>rfl
 have hm:G.root n∈G.way n:=by
  unfold ae.root
  rw[List.getLastD_eq_getLast?]
  cases hl:(G.way n).getLast? with
  | none=>rw[List.getLast?_eq_none_iff]at hl;exact absurd hl hne
  | some a=>exact List.mem_of_getLast? hl
 refine⟨ht,ae.way_has n _ hm,?_⟩
 rw[←ht]
 exact(ae.target_ok hW h).2.1
inductive AV where
 | junk
 | bool (b:Bool)
 | int (k:IntKind) (n:Int)
 | str (s:List UInt8)
 | nilp
 | ptr (b i off:Nat)
 | tptr (t:TypeId) (b:Nat)
 | ip (e:List AV) (off:Nat)
 | nils
 | isl (id:Option Nat) (el:TypeId) (es:List (List AV))
 | msl (b o n:Nat) (el:TypeId)
 | fn (f:FuncId) (first captured:List AV)
 | nilf
 | nili
 | iface (t:TypeId) (v:AV)
 | agg (cs:List AV)
 | tup (vs:List AV)
 deriving Inhabited
abbrev i64 (n:Int):AV:= .int .i64 n
def AV.cells:AV→List AV
 | .agg cs=>cs
 | v=>[v]
def AV.one:AV→Bool
 | .junk | .agg _ | .tup _=>false
 | _=>true
structure AH where
 n:Nat
 cell:Nat→Option (List (List AV))
 ids:Nat
 hw:Nat→Nat
def AH.set (h:AH) (b:Nat) (es:Option (List (List AV))):AH:={h with cell:=fun k=>if k=b then es else h.cell k}
def AH.push (h:AH) (es:List (List AV)):AH:={h with n:=h.n+1,cell:=fun k=>if k=h.n then some es else h.cell k}
def AH.grow (h:AH) (id m:Nat):AH:={h with hw:=fun k=>if k=id then m else h.hw k}
def AH.fresh (h:AH) (m:Nat):AH:={h with ids:=h.ids+1,hw:=fun k=>if k=h.ids then m else h.hw k}
def jD:Value→AV
 | .bool b=> .bool b
 | .int k n=> .int k n
 | .string s=> .str s.data.toList
 | .pointer none=> .nilp
 | .slice none 0 0=> .nils
 | .nilFunc=> .nilf
 | .nilIface=> .nili
 | _=> .junk
def nj:Value→AV
 | .agg cs=> .agg (cs.toList.map jD)
 | v=>jD v
def evA (t:List AV):Operand→AV
 | .tmp i=>t.getD i .junk
 | .const v=>nj v
 | .func f=> .fn f [] []
 | .global _=> .junk
def bJ (t:List AV) (d:Option Tmp) (v:AV):List AV:=
 match d with
 | some i=>t.set i v
 | none=>t
section
variable (P:Program)
def szA (t:TypeId):Nat:=P.cellsOf t
def f9 (t:TypeId):Bool:=match P.underlying t with
 | some (.struct _) | some (.array ..)=>true
 | _=>false
def d8 (t:TypeId):Option (List AV):=if t<P.types.size then(P.info? t).bind fun i=>i.zero.map fun v=>(nj v).cells else none
def fF (t:TypeId):Option (List (Nat×TypeId)):=match P.underlying t with
 | some (.struct fs)=>some (fs.toList.map fun f=>(f.offset,f.type))
 | _=>none
def dL (t:TypeId):Option TypeId:=if t<P.types.size then match P.underlying t with
 | some (.slice e)=>some e
 | _=>none else none
def nP (t:TypeId):Option (Nat×TypeId):=match P.underlying t with
 | some (.array n e)=>some (n,e)
 | _=>none
inductive Kd where
 | bool | int (k:IntKind) | str | ptr | slice | iface | func | agg | other
def bK (t:TypeId):Kd:=match P.underlying t with
 | some .bool=> .bool
 | some (.int k)=> .int k
 | some .string=> .str
 | some (.pointer _)=> .ptr
 | some (.slice _)=> .slice
 | some (.interface _)=> .iface
 | some (.func ..)=> .func
 | some (.struct _) | some (.array ..)=> .agg
 | _=> .other
end
def eH (P:Program) (t:TypeId):Bool:=match P.underlying t with
 | some .string=>true
 | _=>false
def xP (P:Program) (t:TypeId):Bool:=(dL P t).isSome
def kB (P:Program) (t:TypeId):Bool:=match P.underlying t with
 | some (.interface _)=>false
 | some _=>true
 | none=>false
def oF (P:Program) (t:TypeId):AV→Bool
 | .str _=>eH P t
 | .isl _ el _=>dL P t==some el
 | .msl _ _ _ el=>dL P t==some el
 | .nils=>xP P t
 | _=>false
def ldA (agg:Bool) (n:Nat) (e:List AV) (off:Nat):Option AV:=
 if agg then(if off+n≤e.length then some (.agg ((e.drop off).take n))else none)else e[off]?
def stA (e:List AV) (off:Nat) (cs:List AV):List AV:=e.take off++cs++e.drop (off+cs.length)
def AH.row (h:AH) (b i:Nat):Option (List AV):=(h.cell b).bind (·[i]?)
def aE (agg:Bool) (n:Nat) (h:AH):AV→Option AV
 | .ptr b i off=>(h.row b i).bind fun e=>ldA agg n e off
 | .tptr _ b=>(h.row b 0).bind fun e=>ldA agg n e 0
 | .ip e off=>ldA agg n e off
 | _=>none
def aJ (n:Nat) (h:AH) (a x:AV):Option AH:=
 match a with
 | .ptr b i off=>(h.cell b).bind fun es=>(es[i]?).bind fun e=>
   if x.cells.all AV.one∧x.cells.length=n∧off+n≤e.length then some (h.set b (some (es.set i (stA e off x.cells))))else none
 | .tptr _ b=>(h.cell b).bind fun es=>(es[0]?).bind fun e=>
   if x.cells.all AV.one∧x.cells.length=n∧0+n≤e.length then some (h.set b (some (es.set 0 (stA e 0 x.cells))))else none
 | _=>none
def iu:List (Nat×Nat)→List AV→List (Nat×AV)→Option (List AV)
 | _,cs,[]=>some cs
 | pl,cs,(i,v)::r=>match pl[i]? with
   | some (off,size)=>if v.cells.length=size∧off+size≤cs.length∧v.cells.all AV.one then iu pl (stA cs off v.cells) r else none
   | none=>none
def ke:Nat→List (List AV)→List (Nat×AV)→Option (List (List AV))
 | _,es,[]=>some es
 | sz,es,(i,v)::r=>if v.cells.length=sz∧i<es.length∧v.cells.all AV.one then ke sz (es.set i v.cells) r else none
def ly (op:BinOp) (k:IntKind) (a b:Int):Option AV:=
 match op with
 | .add=>some (.int k (k.wrap (a+b)))
 | .sub=>some (.int k (k.wrap (a - b)))
 | .mul=>some (.int k (k.wrap (a*b)))
 | .eql=>some (.bool (a==b))
 | .neq=>some (.bool (a != b))
 | .lss=>some (.bool (a<b))
 | .leq=>some (.bool (a≤b))
 | .gtr=>some (.bool (a>b))
 | .geq=>some (.bool (a≥b))
 | .and=>some (.int k (k.wrap (BitVec.ofInt k.bits a &&& BitVec.ofInt k.bits b).toNat))
 | .or=>some (.int k (k.wrap (BitVec.ofInt k.bits a ||| BitVec.ofInt k.bits b).toNat))
 | .andNot=>some (.int k (k.wrap (BitVec.ofInt k.bits a &&& ~~~(BitVec.ofInt k.bits b)).toNat))
 | .rem=>if b=0 then none else some (.int k (a.tmod b))
 | _=>none
def eqA:Kd→AV→AV→Option Bool
 | .bool,.bool a,.bool b=>some (a==b)
 | .ptr,.nilp,.nilp=>some true
 | .ptr,.nilp,.ptr .. =>some false
 | .ptr,.nilp,.ip .. =>some false
 | .ptr,.nilp,.tptr .. =>some false
 | .ptr,.tptr ..,.nilp=>some false
 | .ptr,.ptr ..,.nilp=>some false
 | .ptr,.ip ..,.nilp=>some false
 | .slice,.nils,.nils=>some true
 | .slice,.isl ..,.nils=>some false
 | .slice,.msl ..,.nils=>some false
 | .slice,.nils,.isl .. =>some false
 | .slice,.nils,.msl .. =>some false
 | .func,.nilf,.nilf=>some true
 | .func,.fn ..,.nilf=>some false
 | .func,.nilf,.fn .. =>some false
 | .iface,.iface ..,.nili=>some false
 | .iface,.nili,.iface .. =>some false
 | _,_,_=>none
def bw (kd:Kd) (op:BinOp) (x y:AV):Option AV:=
 match x,y with
 | .int k a,.int k' b=>
   match op with
   | .shl=>if b<0 then none else some (.int k (k.wrap (a*2 ^ min b.toNat k.bits)))
   | .shr=>if b<0 then none else some (.int k (a.fdiv (2 ^ min b.toNat k.bits)))
   | _=>if k=k' then ly op k a b else none
 | .str a,.str b=>match op with
   | .add=>if a.length+b.length≤1000000000000 then some (.str (a++b))else none
   | .eql=>some (.bool (a==b))
   | .neq=>some (.bool (a != b))
   | _=>none
 | x,y=>match op with
   | .eql=>(eqA kd x y).map .bool
   | .neq=>(eqA kd x y).map fun b=> .bool !b
   | _=>none
def fC:List Kd→List AV→List AV→Option Bool
 | [],[],[]=>some true
 | .int _::ks,.int k a::xs,.int k' b::ys=>if k=k' then(fC ks xs ys).map fun r=>(a==b) && r else none
 | .bool::ks,.bool a::xs,.bool b::ys=>(fC ks xs ys).map fun r=>(a==b) && r
 | .str::ks,.str a::xs,.str b::ys=>(fC ks xs ys).map fun r=>(a==b) && r
 | _,_,_=>none
def mV (P:Program) (t:TypeId):Option (List Kd):=match P.underlying t with
 | some (.struct fs)=>if !P.stoodInHeld t && !P.eqGuardType P.depth t && (fs.toList.zipIdx.all fun(f,i)=>f.name != "_" && f.offset==i && P.cellsOf f.type==1)then some (fs.toList.map fun f=>bK P f.type)else none
 | _=>none
def aG (t:List AV) (o:Oper):Option (FuncId×List AV):=
 match o.op with
 | .call {callee:= .value f,args,..}=>match evA t f with
   | .fn g first captured=>some (g,first++args.toList.map (evA t)++captured)
   | _=>none
 | _=>none
def dR:AV→Option Nat
 | .nils=>some 0
 | .isl _ _ es=>some es.length
 | .msl _ _ n _=>some n
 | .str s=>some s.length
 | _=>none
def bM (h:AH) (sz:TypeId):AV→Option (List (List AV))
 | .nils=>some []
 | .isl _ z es=>if z=sz then some es else none
 | .msl b o n z=>if z=sz then(h.cell b).bind fun es=>if o+n≤es.length then some ((es.drop o).take n)else none else none
 | _=>none
def kW (el:TypeId) (s:AV) (h:AH):Option (AV×AH):=match s with
 | .nils=>some (.nils,h)
 | .isl id z es=>if z=el then some (.isl id z es,h)else none
 | .msl b o n z=>if z=el then some (.msl b o n z,h)else none
 | _=>none
def eF (mu:Bool) (el:TypeId) (s:AV) (new:List (List AV)) (h:AH):Option (AV×AH):=
 if 0<new.length∧new.length≤1000000∧new.all (·.all AV.one)then
  match s with
  | .nils=>if mu then some (.msl h.n 0 new.length el,h.push new)else some (.isl (some h.ids) el new,h.fresh new.length)
  | .isl (some k) z es=>if z=el∧h.hw k=es.length∧es.length≤1000000 then some (.isl (some k) el (es++new),h.grow k (es.length+new.length))else none
  | .msl b o n z=>if z=el∧o=0∧n≤1000000 then
    (h.cell b).bind fun es=>if n≤es.length then some (.msl h.n 0 (n+new.length) el,(h.set b none).push (es.take n++new))else none
    else none
  | _=>none
 else none
def aF (mu:Bool) (el:TypeId) (s x:AV) (h:AH):Option (AV×AH):=
 match x with
 | .nils=>kW el s h
 | x=>(bM h el x).bind fun new=>if new.length=0 then kW el s h else eF mu el s new h
abbrev jq (l:List UInt8):List (List AV):=l.map fun c=>[.int .u8 c.toNat]
def Gl (P:Program) (e:TypeId):Bool:=match P.info? e with
 | some i=>(match i.zero with | some (.int .u8 n)=>n==0 | _=>false) && i.size==1 && i.bytes==1
 | none=>false
def pf (mu:Bool) (el:TypeId) (s x:AV) (h:AH):Option (AV×AH):=
 match x with
 | .str l=>if l.length=0 then kW el s h else if l.length≤1000000000 then(match s with
   | .nils=>if mu then some (.msl h.n 0 l.length el,h.push (jq l))else none
   | .msl b o n z=>if z=el∧o=0∧n≤1000000000 then
     (h.cell b).bind fun es=>if n≤es.length then some (.msl h.n 0 (n+l.length) el,(h.set b none).push (es.take n++jq l))else none
     else none
   | _=>none)else none
 | _=>none
def loA:Option AV→Option Int
 | none=>some 0
 | some (.int _ l)=>some l
 | _=>none
def hiA (n:Nat):Option AV→Option Int
 | none=>some n
 | some (.int _ r)=>some r
 | _=>none
def py (x:AV) (l r:Int):Option AV:=
 match x with
 | .str s=>some (.str ((s.drop l.toNat).take (r.toNat - l.toNat)))
 | .isl _ z es=>some (.isl none z ((es.drop l.toNat).take (r.toNat - l.toNat)))
 | .nils=>some .nils
 | .msl b o _ z=>if l=0 then some (.msl b o r.toNat z)else none
 | _=>none
def eN (x:AV) (lo hi:Option AV):Option AV:=
 (loA lo).bind fun l=>(dR x).bind fun n=>(hiA n hi).bind fun r=>if 0≤l∧l≤r∧r≤n then py x l r else none
def unA (op:UnOp) (x:AV):Option AV:=
 match op,x with
 | .not,.bool b=>some (.bool !b)
 | .neg,.int k n=>some (.int k (k.wrap (0 - n)))
 | _,_=>none
def cvA (kd:Kd) (x:AV):Option AV:=
 match kd,x with
 | .int k,.int _ n=>some (.int k (k.wrap n))
 | .str,.str s=>some (.str s)
 | _,_=>none
def mmA (mx:Bool):AV→AV→Option AV
 | .int k a,.int _ b=>some (.int k (if mx then(if b>a then b else a)else(if b<a then b else a)))
 | _,_=>none
def aI (off:Nat):AV→Option AV
 | .ptr b i o=>some (.ptr b i (o+off))
 | .tptr t b=>some (if off=0 then .tptr t b else .ptr b 0 off)
 | .ip e o=>some (.ip e (o+off))
 | _=>none
def dW (P:Program) (ty:TypeId) (x k:AV):Option AV:=
 match x,k with
 | .isl _ el es,.int _ k=>if dL P ty=some el∧0≤k then(es[k.toNat]?).map fun e=> .ip e 0 else none
 | .msl b o n el,.int _ k=>if dL P ty=some el∧0≤k∧k<n then some (.ptr b (o+k.toNat) 0)else none
 | .ptr b i off,.int _ k=>(nP P ty).bind fun q=>if szA P q.2≠0∧0≤k∧k<q.1 then some (.ptr b i (off+k.toNat*szA P q.2))else none
 | .ip e off,.int _ k=>(nP P ty).bind fun q=>if szA P q.2≠0∧0≤k∧k<q.1 then some (.ip e (off+k.toNat*szA P q.2))else none
 | _,_=>none
def ixA (P:Program) (ty:TypeId) (x k:AV):Option AV:=
 match x,k with
 | .str s,.int _ k=>if eH P ty=true∧0≤k then(s[k.toNat]?).map fun c=> .int .u8 c.toNat else none
 | .agg cs,.int _ k=>(nP P ty).bind fun q=>if(P.underlying q.2).isSome∧szA P q.2≠0∧0≤k∧k<q.1 then ldA (f9 P q.2) (szA P q.2) cs (k.toNat*szA P q.2)else none
 | _,_=>none
def bN (P:Program) (t:List AV) (o:Oper):Option AV:=
 match o.op with
 | .move x=>some (evA t x)
 | .assign x=>some (evA t x)
 | .pick c a b=>match evA t c with
   | .bool v=>some (if v then evA t a else evA t b)
   | _=>none
 | .build ty parts=>(d8 P ty).bind fun z=>match fF P ty with
   | some pl=>if pl.all (fun q=>szA P q.2 != 0)then(iu (pl.map fun q=>(q.1,szA P q.2)) z (parts.toList.map fun q=>(q.1,evA t q.2))).map .agg else none
   | none=>(nP P ty).bind fun q=>if szA P q.2=0 then none else(iu ((List.range q.1).map fun i=>(i*szA P q.2,szA P q.2)) z (parts.toList.map fun q=>(q.1,evA t q.2))).map .agg
 | .nilCheck x=>match evA t x with
   | .ptr b i off=>some (.ptr b i off)
   | .tptr t b=>some (.tptr t b)
   | .ip e off=>some (.ip e off)
   | .fn f a c=>some (.fn f a c)
   | .iface q v=>some (.iface q v)
   | _=>none
 | .binOp op ty x y _=>match evA t x,evA t y with
   | .nili,.nili=>match bK P ty,y,op with
     | .iface,.const _,.eql=>some (.bool true)
     | .iface,.const _,.neq=>some (.bool false)
     | _,_,_=>none
   | .agg xs,.agg ys=>(mV P ty).bind fun ks=>match op with
     | .eql=>(fC ks xs ys).map fun b=> .bool b
     | .neq=>(fC ks xs ys).map fun b=> .bool !b
     | _=>none
   | a,b=>bw (bK P ty) op a b
 | .unOp op _ x=>unA op (evA t x)
 | .convert src dst x=>if(P.underlying src).isNone then none else cvA (bK P dst) (evA t x)
 | .makeInterface ty x=>if kB P ty=false then none else if(evA t x).one then some (.iface ty (evA t x))else match evA t x with
   | .agg cs=>some (.iface ty (.agg cs))
   | _=>none
 | .makeFunc f first captured=>match f with
   | .func g=>some (.fn g (first.toList.map (evA t)) (captured.toList.map (evA t)))
   | _=>none
 | .slice ty x lo hi mx=>if mx.isSome || !oF P ty (evA t x)then none else eN (evA t x) (lo.map (evA t)) (hi.map (evA t))
 | .fieldAddr s x f=>((fF P s).bind (·[f]?)).bind fun q=>if szA P q.2=0 then none else aI q.1 (evA t x)
 | .field s x f=>((fF P s).bind (·[f]?)).bind fun q=>match evA t x with
   | .agg cs=>if szA P q.2=0∨(P.underlying q.2).isNone then none else ldA (f9 P q.2) (szA P q.2) cs q.1
   | _=>none
 | .indexAddr ty x ix=>dW P ty (evA t x) (evA t ix)
 | .index ty x ix=>ixA P ty (evA t x) (evA t ix)
 | .typeAssert x _ aS ok=>match evA t x with
   | .iface q v=>if kB P aS=true∧q=aS then some (if ok then .tup [v,.bool true]else v)else none
   | _=>none
 | .extract x i=>match evA t x with
   | .tup vs=>vs[i]?
   | _=>none
 | .call {callee:= .builtin .len,args,argTypes}=>match args.toList,argTypes.toList with
   | [x],ty::_=>if oF P ty (evA t x)then(dR (evA t x)).map fun(n:Nat)=>i64 n else none
   | _,_=>none
 | .call {callee:= .builtin .min,args,..}=>match args.toList with
   | [x,y]=>mmA false (evA t x) (evA t y)
   | _=>none
 | .call {callee:= .builtin .max,args,..}=>match args.toList with
   | [x,y]=>mmA true (evA t x) (evA t y)
   | _=>none
 | _=>none
def aP (P:Program) (mu:TypeId→Bool) (t:List AV) (h:AH) (o:Oper):Option (AV×AH):=
 match o.op with
 | .alloc e=>(d8 P e).map fun z=>(if mu e then .tptr e h.n else .ptr h.n 0 0,h.push [z])
 | .box e x=>if(evA t x).cells.all AV.one∧(evA t x).cells.length=szA P e then some (if mu e then .tptr e h.n else .ptr h.n 0 0,h.push [(evA t x).cells])else none
 | .buildSlice ty len parts=>(dL P ty).bind fun e=>(d8 P e).bind fun z=>if len*szA P e≤16777216 then
   (ke (szA P e) (replicate len z) (parts.toList.map fun q=>(q.1,evA t q.2))).map fun es=>
    if mu ty then(.msl h.n 0 len e,h.push es)else(.isl (some h.ids) e es,h.fresh len)
   else none
 | .load ty a=>if(P.underlying ty).isNone then none else(aE (f9 P ty) (szA P ty) h (evA t a)).map fun v=>(v,h)
 | .store ty a x=>if szA P ty=0 then none else(aJ (szA P ty) h (evA t a) (evA t x)).map fun h'=>(.junk,h')
 | .makeSlice ty l c=>match evA t l,evA t c with
   | .int _ n,.int _ m=>(dL P ty).bind fun e=>(d8 P e).bind fun z=>
     if 0≤n∧n=m∧n≤100000 then some (.msl h.n 0 n.toNat e,h.push (replicate n.toNat z))else none
   | _,_=>none
 | .call {callee:= .builtin .append,args,argTypes}=>match args.toList,argTypes.toList with
   | [x,y],[ty,ty']=>if ty=ty' then(dL P ty).bind fun e=>if(d8 P e).isSome then aF (mu ty) e (evA t x) (evA t y) h else none
     else if eH P ty' then(dL P ty).bind fun e=>if Gl P e then pf (mu ty) e (evA t x) (evA t y) h else none else none
   | _,_=>none
 | _=>(bN P t o).map fun v=>(v,h)
def jY (t:List AV) (o:Oper):Option AV:=
 match o.op with
 | .panic x=>match evA t x with
   | .iface q v=>some (.iface q v)
   | _=>none
 | _=>none
def aZ (ops:Array Oper) (t:List AV) (o:Oper):Option Bool:=
 match o.guard with
 | none=>some true
 | some (j,want)=>match(ops[j]?).bind (·.dst)with
   | some d=>match t.getD d .junk with
     | .bool b=>some (if want then b else !b)
     | .tup _=>some false
     | _=>none
   | none=>none
inductive cj where
 | code (c:Code)
 | inBlock (id:Nat)
 | inLoop (c:Code)
 | ops (draw:Bool) (all:Array Oper) (l:List (Oper×List Oper))
 | halt (K:List Item)
def gF (id:Nat):List cj→Option (List cj)
 | []=>none
 | .inBlock i::k=>if i=id then some k else gF id k
 | .halt _::_=>none
 | _::k=>gF id k
inductive AEx where
 | ret
 | panic (v:AV)
 | halt (K:List Item)
def nu (P:Program) (t:List AV) (h:AH):List ResultVar→Option (List AV)
 | []=>some []
 | .tmp i::rs=>(nu P t h rs).map fun l=>t.getD i .junk::l
 | .cell i ty::rs=>if(P.underlying ty).isNone then none else(aE (f9 P ty) (szA P ty) h (t.getD i .junk)).bind fun v=>(nu P t h rs).map fun l=>v::l
def fU:List AV→AV
 | [v]=>v
 | vs=> .tup vs
def nE (fn:Func) (t:List AV) (h:AH) (P:Program):Option AV:=(nu P t h fn.results.toList).map fU
def bZ (o:Oper):Bool:=match o.op with
 | .alloc _ | .box .. | .buildSlice .. | .store .. | .makeSlice .. | .panic _=>false
 | .call {callee:= .builtin .append,..}=>false
 | .call {callee:= .value _,..}=>false
 | _=>true
def kF (o:Oper):Bool:=match o.op with
 | .load .. =>true
 | _=>false
def mG (M:Array Nat) (i j:Nat):Bool:=(M.getD j 0).testBit i
def xL (ops:Array Oper) (M:Array Nat):Bool:=
 (List.range ops.size).all fun j=>(List.range ops.size).all fun i=> !mG M i j || ((ops[j]?).any fun o=>o.after.any fun e=>Region.binds .any e && decide (e.on<j) && (e.on==i || mG M i e.on))
def pa (Z:TypeId→Bool) (o:Oper):Bool:=match o.op,o.guard,o.dst with
 | .alloc e,none,some _=>Z e
 | _,_,_=>false
def B9 (Z:TypeId→Bool) (ops:Array Oper) (M:Array Nat) (x y:Nat×List Nat):Bool:=
 let ox:=ops.getD x.1 default
 let oy:=ops.getD y.1 default
 x.1 != y.1 &&
 -- y is named by no edge of x,and must not come ahead of x
 !(ox.after.any fun e=>Region.binds .any e && e.on==y.1) && !mG M y.1 x.1 &&
 (bZ ox || pa Z oy || mG M x.1 y.1) &&
 (bZ oy || !kF ox || mG M x.1 y.1 || y.2.contains x.1) &&
 (match oy.dst with | some d=> !(ox.looksAt ops).contains d && ox.dst != some d | none=>true) &&
 (match ox.dst with | some d=> !(oy.looksAt ops).contains d || mG M x.1 y.1 | none=>true)
def re (Z:TypeId→Bool) (ops:Array Oper) (M:Array Nat):List (Nat×List Nat)→Bool
 | []=>true
 | x::r=>r.all (B9 Z ops M x) && re Z ops M r
def BQ (Z:TypeId→Bool) (ops:Array Oper) (pl:List (Nat×List Nat)):Bool:=
 let M:=Region.before ops
 (List.range ops.size).all (fun i=>pl.any fun q=>q.1==i) && pl.all (fun q=>decide (q.1<ops.size) && (let o:=ops.getD q.1 default
  (match o.dst with | some d=> !(o.looksAt ops).contains d | none=>true) && (!bZ o || q.2.isEmpty) && (match o.op with | .select .. =>false | _=>true) && q.2.all fun i=>decide (i<ops.size))) &&
 ((List.range ops.size).all fun j=>(ops.getD j default).after.all fun e=> !Region.binds .any e || decide (e.on<j)) &&
 xL ops M && re Z ops M pl
def xW (E:List (Nat×Nat)) (ops:Array Oper) (M:Array Nat) (x y:Nat×List Nat):Bool:=
 let ox:=ops.getD x.1 default
 let oy:=ops.getD y.1 default
 let p:=mG M x.1 y.1 || E.contains (x.1,y.1)
 x.1 != y.1 && (bZ ox || p) && (bZ oy || !kF ox || p || y.2.contains x.1) &&
 (match oy.dst with | some d=> !(ox.looksAt ops).contains d && ox.dst != some d | none=>true) &&
 (match ox.dst with | some d=> !(oy.looksAt ops).contains d || p | none=>true)
def kO (E:List (Nat×Nat)) (ops:Array Oper) (pl:List (Nat×List Nat)):Bool:=
 let M:=Region.before ops
 (List.range ops.size).all (fun i=>pl.any fun q=>q.1==i) && pl.all (fun q=>decide (q.1<ops.size)) && pl.all (fun q=>let o:=ops.getD q.1 default
  (match o.dst with | some d=> !(o.looksAt ops).contains d | none=>true)) &&
 ((List.range ops.size).all fun j=>(ops.getD j default).after.all fun e=> !Region.binds .any e || decide (e.on<j)) &&
 xL ops M && ((List.range pl.length).all fun j=>(List.range j).all fun i=>xW E ops M (pl.getD i default) (pl.getD j default))
def eZ (o:Oper):Bool:=match o.op,o.guard,o.dst with
 | .store ..,none,none=>true
 | _,_,_=>false
def xC (ops:Array Oper) (pl:List (Nat×List Nat)):Bool:=match pl.reverse with
 | (y,[x'])::(x,[])::r=>x'==x && x != y && eZ (ops.getD x default) && eZ (ops.getD y default) && kO [(x,y)] ops (r.reverse++[(x,[]),(y,[])]) && kO [(y,x)] ops (r.reverse++[(y,[]),(x,[])])
 | _=>false
def sM (S:Nat→Bool) (ops:Array Oper):Bool:=ops.toList.all fun o=>match o.dst with | some d=> !S d | none=>true
def zOf (S:Nat→Bool) (e:TypeId):Bool:=S (1000000+e)
def cU (pl:Nat→List (Nat×List Nat)) (S:Nat→Bool):Code→Bool
 | .region id ops d=> !d || ((BQ (zOf S) ops (pl id) || xC ops (pl id)) && sM S ops)
 | .seq a b=>cU pl S a && cU pl S b
 | .cond _ a b=>cU pl S a && cU pl S b
 | .block _ b=>cU pl S b
 | .loop b=>cU pl S b
 | _=>true
structure Pol where
 ext:FuncId→Option (List AV→AH→Option ((AV ⊕ AV)×AH))
 mu:FuncId→TypeId→Bool
 nv:FuncId→Nat
 plan:FuncId→Nat→List (Nat×List Nat)
 use:FuncId→Bool
 pure:FuncId→Bool
 kp:FuncId→Nat→Bool
mutual
def wkA:AV→Option AV
 | .isl _ z es=>(wkR es).map (.isl none z)
 | .agg cs=>(wkL cs).map .agg
 | .tup vs=>(wkL vs).map .tup
 | .iface t v=>(wkA v).map (.iface t)
 | .ip _ _ | .ptr _ _ _ | .tptr _ _ | .msl _ _ _ _ | .fn _ _ _=>none
 | .junk=>some .junk
 | .bool b=>some (.bool b)
 | .int k n=>some (.int k n)
 | .str s=>some (.str s)
 | .nilp=>some .nilp
 | .nils=>some .nils
 | .nilf=>some .nilf
 | .nili=>some .nili
def wkL:List AV→Option (List AV)
 | []=>some []
 | v::l=>match wkA v,wkL l with
   | some v,some l=>some (v::l)
   | _,_=>none
def wkR:List (List AV)→Option (List (List AV))
 | []=>some []
 | v::l=>match wkL v,wkR l with
   | some v,some l=>some (v::l)
   | _,_=>none
end
structure af (h h':AH):Prop where
 n:h.n≤h'.n
 ids:h.ids≤h'.ids
 cell:∀ b,b<h.n→h'.cell b=h.cell b
 hw:∀ k,k<h.ids→h'.hw k=h.hw k
open Classical in
noncomputable def fgA (p:Bool) (h:AH) (q:(AV ⊕ AV)×AH):Option ((AV ⊕ AV)×AH):=
 if p=true then(if af h q.2 then(match q.1 with
  | .inl v=>(wkA v).map fun v=>(.inl v,h)
  | .inr v=>(wkA v).map fun v=>(.inr v,h))else none)else some q
def mJ (P:Program) (all:Array Oper) (t:List AV) (h:AH):List Oper→Prop
 | []=>True
 | o::r=>(match aZ all t o with
    | some true=>(match o.op,o.dst with
      | .load ty a,some d=>aE (f9 P ty) (szA P ty) h (evA t a)=some (t.getD d .junk)
      | .store ty a x,none=>aE (f9 P ty) (szA P ty) h (evA t a)=some (evA t x)
      | _,_=>False)
    | _=>True)∧mJ P all t h r
def ez (draw:Bool) (ops:Array Oper) (pl:List (Nat×List Nat)):List (Oper×List Oper):=
 if draw then pl.map fun q=>(ops.getD q.1 default,q.2.map fun i=>ops.getD i default)else ops.toList.map fun o=>(o,[])
def aa (n:Nat) (t:List AV):List AV:=t.take n++replicate (t.length - n) .junk
def Ft (P:Program) (fn:Func) (r:AEx×List AV×AH):Option ((AV ⊕ AV)×AH):=match r.1 with
 | .ret=>(nE fn r.2.1 r.2.2 P).map fun v=>(.inl v,r.2.2)
 | .panic v=>some (.inr v,r.2.2)
 | .halt _=>none
open Classical in
noncomputable def bd (P:Program) (po:Pol) (f:FuncId) (k:List cj) (t:List AV) (h:AH):Option (AEx×List AV×AH):=
 match k with
 | []=>some (.ret,t,h)
 | .inBlock _::k=>bd P po f k t h
 | .halt K::_=>some (.halt K,t,h)
 | .inLoop c::k=>bd P po f (.code c:: .inLoop c::k) (aa (po.nv f) t) h
 | .ops _ _ []::k=>bd P po f k t h
 | .ops dr all ((o,ck)::l)::k=>
   match aZ all t o with
   | none=>none
   | some false=>bd P po f (.ops dr all l::k) (bJ t o.dst (.tup [])) h
   | some true=>
    match jY t o with
    | some v=>some (.panic v,t,h)
    | none=>
     match aG t o with
     | some (g,args)=>
       match po.ext g with
       | some F=>F args h>>= fun r=>match r.1 with
         | .inl v=>if mJ P all (bJ t o.dst v) r.2 ck then bd P po f (.ops dr all l::k) (bJ t o.dst v) r.2 else none
         | .inr v=>some (.panic v,t,r.2)
       | none=>match P.funcs[g]? with
         | none=>none
         | some fn=>match fn.body with
           | none=>none
           | some c=>if po.use g=false then none else(bd P po g [.code c] (args++replicate (fn.ntmps - args.length) .junk) h)>>= fun r=>Ft P fn r>>= fun q=>fgA (po.pure g) h q>>= fun q=>match q.1 with
             | .inl v=>if mJ P all (bJ t o.dst v) q.2 ck then bd P po f (.ops dr all l::k) (bJ t o.dst v) q.2 else none
             | .inr v=>some (.panic v,t,q.2)
     | none=>aP P (po.mu f) t h o>>= fun r=>if mJ P all (bJ t o.dst r.1) r.2 ck then bd P po f (.ops dr all l::k) (bJ t o.dst r.1) r.2 else none
 | .code c::k=>
   match c with
   | .skip=>bd P po f k t h
   | .label _=>bd P po f k t h
   | .seq a b=>bd P po f (.code a:: .code b::k) t h
   | .cond c x y=>match evA t c with
     | .bool b=>if b then bd P po f (.code x::k) t h else bd P po f (.code y::k) t h
     | _=>none
   | .block id b=>bd P po f (.code b:: .inBlock id::k) t h
   | .loop b=>bd P po f (.code b:: .inLoop b::k) (aa (po.nv f) t) h
   | .exit id=>gF id k>>= fun k'=>bd P po f k' t h
   | .ret=>some (.ret,t,h)
   | .region id ops d=>bd P po f (.ops d ops (ez d ops (po.plan f id))::k) t h
   | _=>none
partial_fixpoint
abbrev xz:=Option (AEx×List AV×AH)
noncomputable def aj (P:Program) (po:Pol) (g:FuncId) (args:List AV) (h:AH):Option ((AV ⊕ AV)×AH):=
 match po.ext g with
 | some F=>F args h
 | none=>match P.funcs[g]? with
   | none=>none
   | some fn=>match fn.body with
     | none=>none
     | some c=>if po.use g=false then none else(bd P po g [.code c] (args++replicate (fn.ntmps - args.length) .junk) h).bind fun r=>(Ft P fn r).bind fun q=>fgA (po.pure g) h q
section
variable (P:Program) (po:Pol) (f:FuncId)
open Classical in
noncomputable def Ep (dr:Bool) (all:Array Oper) (l:List (Oper×List Oper)) (k:List cj) (t:List AV) (h:AH) (ck:List Oper):xz:=if mJ P all t h ck then bd P po f (.ops dr all l::k) t h else none
noncomputable def cOp (dr:Bool) (all:Array Oper) (d:Option Tmp) (ck:List Oper) (l:List (Oper×List Oper)) (k:List cj) (t:List AV):Option (AV×AH)→xz
 | some (v,h)=>Ep P po f dr all l k (bJ t d v) h ck
 | none=>none
noncomputable def Dj (dr:Bool) (all:Array Oper) (d:Option Tmp) (ck:List Oper) (l:List (Oper×List Oper)) (k:List cj) (t:List AV):Option ((AV ⊕ AV)×AH)→xz
 | some (.inl v,h)=>Ep P po f dr all l k (bJ t d v) h ck
 | some (.inr v,h)=>some (.panic v,t,h)
 | none=>none
noncomputable def ml (dr:Bool) (all:Array Oper) (o:Oper) (ck:List Oper) (l:List (Oper×List Oper)) (k:List cj) (t:List AV) (h:AH):Option (FuncId×List AV)→xz
 | some (g,args)=>Dj P po f dr all o.dst ck l k t (aj P po g args h)
 | none=>cOp P po f dr all o.dst ck l k t (aP P (po.mu f) t h o)
noncomputable def Ho (dr:Bool) (all:Array Oper) (o:Oper) (ck:List Oper) (l:List (Oper×List Oper)) (k:List cj) (t:List AV) (h:AH):Option AV→xz
 | some v=>some (.panic v,t,h)
 | none=>ml P po f dr all o ck l k t h (aG t o)
noncomputable def qX (dr:Bool) (all:Array Oper) (o:Oper) (ck:List Oper) (l:List (Oper×List Oper)) (k:List cj) (t:List AV) (h:AH):Option Bool→xz
 | some true=>Ho P po f dr all o ck l k t h (jY t o)
 | some false=>bd P po f (.ops dr all l::k) (bJ t o.dst (.tup [])) h
 | none=>none
noncomputable def Gp (x y:Code) (k:List cj) (t:List AV) (h:AH):AV→xz
 | .bool b=>if b then bd P po f (.code x::k) t h else bd P po f (.code y::k) t h
 | _=>none
noncomputable def Nd (t:List AV) (h:AH):Option (List cj)→xz
 | some k=>bd P po f k t h
 | none=>none
noncomputable def cF (p:Bool) (fn:Func) (h0:AH):xz→Option ((AV ⊕ AV)×AH)
 | some (.ret,t,h)=>cR p h0 h (nE fn t h P)
 | some (.panic v,_,h)=>fgA p h0 (.inr v,h)
 | some (.halt _,_,_)=>none
 | none=>none
where cR (p:Bool) (h0 h:AH):Option AV→Option ((AV ⊕ AV)×AH)
 | some v=>fgA p h0 (.inl v,h)
 | none=>none
end
section
variable {P:Program} {po:Pol} {f:FuncId} {k:List cj} {t:List AV} {h:AH}
theorem Hl:bd P po f [] t h=some (.ret,t,h):=by rw[bd]
theorem EJ {K:List Item}:bd P po f (.halt K::k) t h=some (.halt K,t,h):=by rw[bd]
theorem xB {id:Nat}:bd P po f (.inBlock id::k) t h=bd P po f k t h:=by rw[bd]
theorem zI {c:Code}:bd P po f (.inLoop c::k) t h=bd P po f (.code c:: .inLoop c::k) (aa (po.nv f) t) h:=by rw[bd]
theorem wI {dr:Bool} {all:Array Oper}:bd P po f (.ops dr all []::k) t h=bd P po f k t h:=by rw[bd]
theorem FU:bd P po f (.code .skip::k) t h=bd P po f k t h:=by rw[bd]
theorem Bf {l:Nat}:bd P po f (.code (.label l)::k) t h=bd P po f k t h:=by rw[bd]
theorem rU {a b:Code}:bd P po f (.code (.seq a b)::k) t h=bd P po f (.code a:: .code b::k) t h:=by rw[bd]
theorem B3 {id:Nat} {b:Code}:bd P po f (.code (.block id b)::k) t h=bd P po f (.code b:: .inBlock id::k) t h:=by rw[bd]
theorem FX {b:Code}:bd P po f (.code (.loop b)::k) t h=bd P po f (.inLoop b::k) t h:=by
 conv=>lhs;rw[bd]
 conv=>rhs;rw[bd]
theorem He:bd P po f (.code .ret::k) t h=some (.ret,t,h):=by rw[bd]
theorem yA {id:Nat} {ops:Array Oper} {d:Bool}:bd P po f (.code (.region id ops d)::k) t h=bd P po f (.ops d ops (ez d ops (po.plan f id))::k) t h:=by rw[bd]
theorem EK {id:Nat}:bd P po f (.code (.exit id)::k) t h=Nd P po f t h (gF id k):=by
 rw[bd]
 cases gF id k<;>rfl
theorem vw {c:Operand} {x y:Code}:bd P po f (.code (.cond c x y)::k) t h=Gp P po f x y k t h (evA t c):=by
 rw[bd]
 cases evA t c<;>rfl
theorem jX {dr:Bool} {all:Array Oper} {o:Oper} {ck:List Oper} {l:List (Oper×List Oper)}:bd P po f (.ops dr all ((o,ck)::l)::k) t h=qX P po f dr all o ck l k t h (aZ all t o):=by
 rw[bd]
 rcases aZ all t o with _ | ⟨_ | _⟩
 ·rfl
 ·rfl
 ·simp only[qX]
  rcases hp:jY t o with _ | v
  case some=>rfl
  simp only[Ho]
  rcases hc:aG t o with _ | ⟨g,args⟩
  ·simp only[ml]
   rcases aP P (po.mu f) t h o with _ | ⟨v,h'⟩<;>rfl
  ·simp only[ml,aj]
   cases hx:po.ext g with
   | some F=>
     simp only
     rcases F args h with _ | ⟨_ | _,h'⟩<;>rfl
   | none=>
     simp only
     cases hf:P.funcs[g]? with
     | none=>rfl
     | some fn=>
       simp only
       cases hb:fn.body with
       | none=>rfl
       | some c=>
         by_cases hu:po.use g=false
         ·simp only[hu,if_true]
          rfl
         ·simp only[hu,if_false,Bool.false_eq_true]
          generalize bd P po g [.code c] (args++replicate (fn.ntmps - args.length) .junk) h=r
          rcases r with _ | r
          ·rfl
          ·simp only[Option.bind_some,Option.bind_eq_bind]
           rcases Ft P fn r with _ | q
           ·rfl
           ·simp only[Option.bind_some]
            rcases fgA (po.pure g) h q with _ | ⟨_ | _,h'⟩<;>rfl
theorem qN {dr:Bool} {all:Array Oper} {o:Oper} {ck:List Oper} {l:List (Oper×List Oper)}:qX P po f dr all o ck l k t h (some true)=Ho P po f dr all o ck l k t h (jY t o):=rfl
theorem xY {dr:Bool} {all:Array Oper} {o:Oper} {ck:List Oper} {l:List (Oper×List Oper)}:Ho P po f dr all o ck l k t h none=ml P po f dr all o ck l k t h (aG t o):=rfl
theorem Kp {dr:Bool} {all:Array Oper} {o:Oper} {ck:List Oper} {l:List (Oper×List Oper)} {v:AV}:Ho P po f dr all o ck l k t h (some v)=some (.panic v,t,h):=rfl
theorem G9 {dr:Bool} {all:Array Oper} {o:Oper} {ck:List Oper} {l:List (Oper×List Oper)}:qX P po f dr all o ck l k t h (some false)=bd P po f (.ops dr all l::k) (bJ t o.dst (.tup [])) h:=rfl
theorem C4 {dr:Bool} {all:Array Oper} {o:Oper} {ck:List Oper} {l:List (Oper×List Oper)} {g:FuncId} {args:List AV}:ml P po f dr all o ck l k t h (some (g,args))=Dj P po f dr all o.dst ck l k t (aj P po g args h):=rfl
theorem Ln {dr:Bool} {all:Array Oper} {o:Oper} {ck:List Oper} {l:List (Oper×List Oper)}:ml P po f dr all o ck l k t h none=cOp P po f dr all o.dst ck l k t (aP P (po.mu f) t h o):=rfl
theorem Kq {dr:Bool} {all:Array Oper} {d:Option Tmp} {ck:List Oper} {l:List (Oper×List Oper)} {v:AV}:cOp P po f dr all d ck l k t (some (v,h))=Ep P po f dr all l k (bJ t d v) h ck:=rfl
theorem LG {dr:Bool} {all:Array Oper} {d:Option Tmp} {ck:List Oper} {l:List (Oper×List Oper)} {v:AV}:Dj P po f dr all d ck l k t (some (.inl v,h))=Ep P po f dr all l k (bJ t d v) h ck:=rfl
theorem EV {dr:Bool} {all:Array Oper} {d:Option Tmp} {ck:List Oper} {l:List (Oper×List Oper)} {v:AV}:Dj P po f dr all d ck l k t (some (.inr v,h))=some (.panic v,t,h):=rfl
theorem IH {x y:Code}:Gp P po f x y k t h (.bool true)=bd P po f (.code x::k) t h:=rfl
theorem Fq {x y:Code}:Gp P po f x y k t h (.bool false)=bd P po f (.code y::k) t h:=rfl
theorem HC {dr:Bool} {all:Array Oper} {l:List (Oper×List Oper)} {ck:List Oper} (hc:mJ P all t h ck):Ep P po f dr all l k t h ck=bd P po f (.ops dr all l::k) t h:=by simp[Ep,hc]
theorem Lw {k:List cj}:Nd P po f t h (some k)=bd P po f k t h:=rfl
theorem On {fn:Func} {p:Bool} {h0:AH}:cF P p fn h0 (some (.ret,t,h))=cF.cR p h0 h (nE fn t h P):=rfl
theorem kP {p:Bool} {h0:AH} {v:AV}:cF.cR p h0 h (some v)=fgA p h0 (.inl v,h):=rfl
theorem lV {h0:AH} {q:(AV ⊕ AV)×AH}:fgA false h0 q=some q:=by simp[fgA]
theorem aA {h0:AH} {v v':AV} (hg:af h0 h) (hv:wkA v=some v'):fgA true h0 (.inl v,h)=some (.inl v',h0):=by simp[fgA,hg,hv]
theorem oe {h0:AH} {v v':AV} (hg:af h0 h) (hv:wkA v=some v'):fgA true h0 (.inr v,h)=some (.inr v',h0):=by simp[fgA,hg,hv]
theorem FC {g:FuncId} {fn:Func} {c:Code} {args:List AV} {p:Bool} (hx:po.ext g=none) (hf:P.funcs[g]? =some fn) (hb:fn.body=some c) (hu:po.use g=true) (hp:po.pure g=p):
  aj P po g args h=cF P p fn h (bd P po g [.code c] (args++replicate (fn.ntmps - args.length) .junk) h):=by
 unfold aj
 simp only[hx,hf,hb,hu,hp]
 generalize bd P po g [.code c] (args++replicate (fn.ntmps - args.length) .junk) h=r
 rcases r with _ | ⟨_ | _ | _,t',h'⟩
 ·rfl
 ·simp only[Bool.true_eq_false,if_false,Option.bind_some,Ft,cF]
  rcases nE fn t' h' P with _ | v<;>rfl
 ·rfl
 ·rfl
end
open Go.RowKit
structure dS (F:Nat→Prop) (w w':World):Prop where
 os:w'.os=w.os
 tape:w'.tape=w.tape
 output:w'.output=w.output
 size:w.heap.size≤w'.heap.size
 block:∀ k,k<w.heap.size→¬ F k→w'.heap[k]? =w.heap[k]?
theorem dS.refl (F:Nat→Prop) (w:World):dS F w w:=⟨rfl,rfl,rfl,Nat.le_refl _,fun _ _ _=>rfl⟩
theorem dS.step {F G:Nat→Prop} {a b c:World} (h:dS F a b) (k:dS G b c) (hG:∀ i,i<a.heap.size→G i→F i):dS F a c:=
 ⟨k.os.trans h.os,k.tape.trans h.tape,k.output.trans h.output,Nat.le_trans h.size k.size,fun i hi hn=>(k.block i (Nat.lt_of_lt_of_le hi h.size) (fun hg=>hn (hG i hi hg))).trans (h.block i hi hn)⟩
theorem dS.drew {F:Nat→Prop} {a w:World} (h:dS F a w):dS F a w.drew:=⟨h.os,h.tape,h.output,h.size,h.block⟩
theorem dS.alloc {F:Nat→Prop} {a w:World} (h:dS F a w) (o:Obj):dS F a (w.alloc o):=
 ⟨h.os,h.tape,h.output,Nat.le_trans h.size (by simp),fun k hk hn=>(Below.heap_alloc w o k (Nat.lt_of_lt_of_le hk h.size)).trans (h.block k hk hn)⟩
end Go.Proofs.Ytkdbjfncchmmpaa
namespace Go.RowKit
open Go.Proofs.Ytkdbjfncchmmpaa
end Go.RowKit
namespace Go.Proofs.Ytkdbjfncchmmpaa
open Nat (reduceAdd reduceSub reduceLeDiff reduceLT)
open List (replicate)
set_option linter.unusedSimpArgs false
set_option linter.unusedVariables false
open Go.RowKit
abbrev New (w w':World):Prop:=dS (fun _=>False) w w'
theorem New.below {w w':World} (h:New w w'):Below w.heap.size w w':=⟨h.os,h.tape,h.output,h.size,fun k hk=>h.block k hk id⟩
theorem dS.below {F:Nat→Prop} {B:Nat} {w w':World} (h:dS F w w') (hF:∀ k,F k→B≤k) (hB:B≤w.heap.size):Below B w w':=
 ⟨h.os,h.tape,h.output,h.size,fun k hk=>h.block k (by omega) (fun hf=>by have:=hF k hf;omega)⟩
end Go.Proofs.Ytkdbjfncchmmpaa
namespace Go.RowKit
open Go.Proofs.Ytkdbjfncchmmpaa
end Go.RowKit
namespace Go.Proofs.Ytkdbjfncchmmpaa
open Nat (reduceAdd reduceSub reduceLeDiff reduceLT)
open List (replicate)
set_option linter.unusedSimpArgs false
set_option linter.unusedVariables false
open Go.RowKit
end Go.Proofs.Ytkdbjfncchmmpaa
namespace Go.RowKit
open Go.Proofs.Ytkdbjfncchmmpaa
end Go.RowKit
namespace Go.Proofs.Ytkdbjfncchmmpaa
open Nat (reduceAdd reduceSub reduceLeDiff reduceLT)
open List (replicate)
set_option linter.unusedSimpArgs false
set_option linter.unusedVariables false
open Go.RowKit
def Blk (w:World) (g:Nat) (t:TypeId) (cs:Array Value):Prop:=w.heap[g]? =some (.cells cs t (0,0))
section
variable {w w':World} {g:Nat} {t:TypeId} {cs:Array Value}
theorem Blk.lt (h:Blk w g t cs):g<w.heap.size:=by
 rcases Nat.lt_or_ge g w.heap.size with hlt | hge
 ·exact hlt
 ·unfold Blk at h;rw[Array.getElem?_eq_none hge]at h;cases h
theorem Blk.cell (h:Blk w g t cs) (i:Nat):w.cell? ⟨g,i,none⟩=cs[i]? :=cell_of_row w g i cs t (0,0) h
theorem Blk.new (w:World) (t:TypeId) (cs:Array Value):Blk (w.alloc (.cells cs t)) w.heap.size t cs:=heap_alloc_new w _
theorem Blk.only {F:Nat→Prop} (h:Blk w g t cs) (hb:dS F w w') (hg:¬ F g):Blk w' g t cs:=(hb.block g h.lt hg).trans h
end
def Sl (w:World) (size:Nat) (A:Option Addr) (n cap:Nat) (xs:List Value):Prop:=
 xs.length=n*size∧n≤cap∧(A=none→cap=0)∧∀ a,A=some a→(0<n→a.spot=none)∧∀ j u,xs[j]? =some u→w.cell? ⟨a.block,a.off+j,none⟩=some u
section
variable {w w':World} {size n cap:Nat} {A:Option Addr} {xs:List Value}
theorem Sl.some_ (h:Sl w size A n cap xs) (hn:0<n):∃ b o,A=some ⟨b,o,none⟩:=by
 obtain⟨_,hc,h0,h1⟩:=h
 rcases A with _ | a
 ·have:=h0 rfl;omega
 ·obtain⟨b,o,s⟩:=a
  have:=(h1 _ rfl).1 hn
  simp at this
  subst this
  exact⟨b,o,rfl⟩
theorem Sl.at0 {b o:Nat} (h:Sl w size (some ⟨b,o,none⟩) n cap xs) {p:Nat} {u:Value} (hj:xs[p]? =some u):w.cell? ⟨b,o+p,none⟩=some u:=(h.2.2.2 _ rfl).2 p u hj
theorem Sl.of_own {base:Nat} {e:TypeId} (h:w.ownsRow base e size (.slice A n cap) n xs):Sl w size A n cap xs:=by
 refine⟨h.1,?_⟩
 rcases h.2 with⟨hv,h0⟩ | ⟨g,cap',cur,hv,_,hh,hnc,_,hcs,htake⟩
 ·simp at hv
  obtain⟨rfl,rfl,rfl⟩:=hv
  exact⟨Nat.le_refl _,fun _=>rfl,(fun a h=>by cases h)⟩
 ·simp at hv
  obtain⟨rfl,rfl⟩:=hv
  refine⟨hnc,(fun h=>by cases h),fun a ha=> ?_⟩
  obtain rfl:=Option.some.inj ha
  refine⟨fun _=>rfl,fun j u hu=> ?_⟩
  have:=h.cells (g:=g) rfl j u hu
  rwa [Addr.add_lit]at this
theorem Sl.keep (h:Sl w size A n cap xs) (hk:∀ p:Addr,A.map (·.block)=some p.block→w.cell? p≠none→w'.cell? p=w.cell? p):Sl w' size A n cap xs:=by
 refine⟨h.1,h.2.1,h.2.2.1,fun a ha=>⟨(h.2.2.2 a ha).1,fun j u hu=> ?_⟩⟩
 have hc:=(h.2.2.2 a ha).2 j u hu
 rw[hk _ (by simp[ha]) (by rw[hc];simp)]
 exact hc
theorem sN {p:Addr} (h:w.cell? p≠none):p.block<w.heap.size:=by
 rcases hc:w.cell? p with _ | u
 ·exact absurd hc h
 ·exact World.block_lt_of_cell? w p hc
theorem Sl.only {F:Nat→Prop} (h:Sl w size A n cap xs) (ho:dS F w w') (hF:∀ k,A.map (·.block)=some k→¬ F k):Sl w' size A n cap xs:=
 h.keep fun p hp hc=>World.cell?_of_block (ho.block _ (sN hc) (hF _ hp))
theorem Sl.new (h:Sl w size A n cap xs) (ho:New w w'):Sl w' size A n cap xs:=h.only ho (fun _ _=>id)
theorem Sl.of_blk {g:Nat} {t:TypeId} {cs:Array Value} {o:Nat} (h:Blk w g t cs) (hn:n≤cap) (hx:xs.length=n*size) (hc:∀ j u,xs[j]? =some u→cs[o+j]? =some u):Sl w size (some ⟨g,o,none⟩) n cap xs:=
 by
 refine⟨hx,hn,(fun h=>by cases h),fun a ha=> ?_⟩
 obtain rfl:=Option.some.inj ha
 exact⟨fun _=>rfl,fun j u hu=>(h.cell (o+j)).trans (hc j u hu)⟩
end
theorem Az {P:Program} (base:Nat) (t ty e:TypeId) (i:TypeInfo) (z:Value) (size bytes:Nat) (ht:P.underlying t=some (.slice e)) (hi:P.info? e=some i) (hz:i.zero=some z)
  (hsize:i.size=size) (hby:i.bytes=bytes) (hzs:z.cells.size=size) (hsz:0<size)
  (v:Value) (n:Nat) (xs:List Value) (w:World) (hown:w.ownsRow base e size v n xs) (A:Option Addr) (m c:Nat) (ys:List Value) (hr:Sl w size A m c ys) (h1:∀ u∈ys,u.oneCell'=true)
  (h63:n+m≤maxLen) (hbytes:(n+m)*bytes≤140737488355328) (hbase:base≤w.heap.size):
  ∃ v' w',(Builtin.append_ #[t,t] ty #[v,.slice A m c]).run P w= .ok v' w'∧w'.ownsRow base e size v' (n+m) (xs++ys)∧dS (fun k=>some k=v.ownBlock) w w'∧
    (v'.ownBlock=v.ownBlock∨v'.ownBlock=some w.heap.size)∧(0<n+m→∃ g cap,v'= .slice (some ⟨g,0,none⟩) (n+m) cap):=by
 rcases A with _ | ad
 ·have hc0:=hr.2.2.1 rfl
  have hmc:=hr.2.1
  obtain rfl:m=0:=by omega
  subst hc0
  have hn:ys=[]:=List.eq_nil_of_length_eq_zero (by simpa using hr.1)
  subst hn
  refine⟨v,w,run_append_owned_none (P:=P) w base t ty e i size ht hi v n xs hown,by simpa using hown,dS.refl _ _,.inl rfl,fun h0=> ?_⟩
  rcases hown.2 with⟨rfl,h⟩ | ⟨g,cap,cur,rfl,_⟩
  ·omega
  ·exact⟨g,cap,rfl⟩
 ·have hcells:∀ j u,ys[j]? =some u→w.cell? (ad.add j)=some u:=by
   intro j u hu
   obtain⟨hs,hcell⟩:=hr.2.2.2 ad rfl
   have:=hcell j u hu
   obtain⟨b,o,sp⟩:=ad
   have hm:0<m:=by
    rcases Nat.eq_zero_or_pos m with h0 | h0
    ·subst h0
     have hn:ys=[]:=List.eq_nil_of_length_eq_zero (by simpa using hr.1)
     subst hn
     simp at hu
    ·exact h0
   have hs:=hs hm
   simp at hs
   subst hs
   rw[Addr.add_lit]
   exact this
  obtain⟨v',w',hrun,h2,h3,h4,h5⟩:=run_append_own_at (P:=P) w base t ty e i z size bytes ht hi hz hsize hby hzs hsz v n xs hown ad m c ys hr.1 hcells h1 h63 hbytes hbase
  refine⟨v',w',hrun,h2,⟨h3.os,h3.tape,h3.output,h3.size,h3.block⟩,h5,fun h0=> ?_⟩
  rcases h2.2 with⟨_,h⟩ | ⟨g,cap,cur,rfl,_⟩
  ·omega
  ·exact⟨g,cap,rfl⟩
theorem sO {P:Program} {ops:Array Oper} {rest:List Oper} {o:Oper} {a:Act} {Q:Exit→Act→World→Prop} (hgd:o.guard=none) (s x:Operand) (t:TypeId)
  (ho:o.op= .call {callee:= .builtin .append,args:= #[s,x],argTypes:= #[t,t]})
  (base:Nat) (e:TypeId) (i:TypeInfo) (z:Value) (size bytes:Nat) (ht:P.underlying t=some (.slice e)) (hi:P.info? e=some i) (hz:i.zero=some z)
  (hsize:i.size=size) (hby:i.bytes=bytes) (hzs:z.cells.size=size) (hsz:0<size)
  (v:Value) (n:Nat) (xs:List Value) (w:World) (hs:a.eval s=v) (hown:w.ownsRow base e size v n xs) (A:Option Addr) (m c:Nat) (ys:List Value) (hx:a.eval x= .slice A m c) (hr:Sl w size A m c ys) (h1:∀ u∈ys,u.oneCell'=true)
  (h63:n+m≤maxLen) (hbytes:(n+m)*bytes≤140737488355328) (hbase:base≤w.heap.size)
  (h:∀ v' w',w'.ownsRow base e size v' (n+m) (xs++ys)→dS (fun k=>some k=v.ownBlock) w w'→(v'.ownBlock=v.ownBlock∨v'.ownBlock=some w.heap.size)→(0<n+m→∃ g cap,v'= .slice (some ⟨g,0,none⟩) (n+m) cap)→
   wpList P ops Q rest (a.put o.dst v') w'):wpList P ops Q (o::rest) a w:=by
 refine wpList_plain hgd fun _ hK=> ?_
 obtain⟨v',w',hrun,h2,h3,h4,h5⟩:=Az (P:=P) base t o.type e i z size bytes ht hi hz hsize hby hzs hsz v n xs w hown A m c ys hr h1 h63 hbytes hbase
 unfold Oper.wp execOp
 simp only[ho,resolve,invoke,builtin,Sem.run_bind,Sem.run_pure,Result.andThen_ok,List.map_toArray,List.map_cons,List.map_nil,hs,hx,hrun]
 exact hK _ _ (h v' w' h2 h3 h4 h5)
theorem zA {F:Nat→Prop} {w w':World} {base:Nat} {e:TypeId} {size:Nat} {v:Value} {n:Nat} {xs:List Value} (h:w.ownsRow base e size v n xs) (ho:dS F w w') (hl:∀ g,v.ownBlock=some g→¬ F g):w'.ownsRow base e size v n xs:=by
 refine⟨h.1,?_⟩
 rcases h.2 with h1 | ⟨g,cap,cur,rfl,hg,hh,r⟩
 ·exact .inl h1
 ·exact .inr ⟨g,cap,cur,rfl,hg,(Blk.only (t:=e) hh ho (hl g rfl)),r⟩
@[simp] theorem JO (g n cap:Nat):(Value.slice (some ⟨g,0,none⟩) n cap).ownBlock=some g:=rfl
@[simp] theorem JN (n cap:Nat):(Value.slice none n cap).ownBlock=none:=rfl
theorem M3 {α:Type} {f:α→List Value} {s:Nat} (hf:∀ a,(f a).length=s) (l:List α):(l.flatMap f).length=l.length*s:=by
 induction l with
 | nil=>simp
 | cons a l ih=>simp[List.flatMap_cons,ih,hf,Nat.add_mul];omega
open Go Go.RowKit
structure Mm where
 base:Nat
 blk:Nat→Nat
 bt:Nat→TypeId
 bsz:Nat→Nat
 imm:Nat→Nat→Option Value
 tg:Nat→Nat
 tc:Nat→Nat
 te:Nat→TypeId
 jk:Nat→Option Obj
inductive VR (P:Program) (m:Mm) (h:AH):AV→Value→Prop
 | junk (v:Value):VR P m h .junk v
 | bool (b:Bool):VR P m h (.bool b) (.bool b)
 | int (k:IntKind) (n:Int):VR P m h (.int k n) (.int k n)
 | str (l:List UInt8):VR P m h (.str l) (.string ⟨l.toArray⟩)
 | nilp:VR P m h .nilp (.pointer none)
 | ptr (b i off:Nat) (hb:b<h.n):VR P m h (.ptr b i off) (.pointer (some ⟨m.blk b,i*P.cellsOf (m.bt b)+off,none⟩))
 | tptr (t:TypeId) (b:Nat) (hb:b<h.n) (ht:m.bt b=t):VR P m h (.tptr t b) (.pointer (some ⟨m.blk b,0,none⟩))
 | ip (e:List AV) (off g o:Nat) (F:Nat→Value) (hi:∀ j,j<e.length→m.imm g (o+j)=some (F j)) (hv:∀ j (hj:j<e.length),VR P m h e[j] (F j)):VR P m h (.ip e off) (.pointer (some ⟨g,o+off,none⟩))
 | nils:VR P m h .nils (.slice none 0 0)
 | isl (id:Option Nat) (e:TypeId) (es:List (List AV)) (g o cap:Nat) (F:Nat→Nat→Value) (hl:∀ r∈es,r.length=P.cellsOf e)
   (hi:∀ i,i<es.length→∀ j,j<P.cellsOf e→m.imm g (o+(i*P.cellsOf e+j))=some (F i j)) (hv:∀ i (hi:i<es.length) j (hj:j<es[i].length),VR P m h es[i][j] (F i j)) (hc:es.length≤cap)
   (ht:∀ k,id=some k→k<h.ids∧m.te k=e∧es.length≤h.hw k∧(es.length=h.hw k→g=m.tg k∧o=0∧cap=m.tc k)):VR P m h (.isl id e es) (.slice (some ⟨g,o,none⟩) es.length cap)
 | isl0 (e:TypeId) (a:Addr) (cap:Nat):VR P m h (.isl none e []) (.slice (some a) 0 cap)
 | msl (b o n:Nat) (e:TypeId) (cap:Nat) (hb:b<h.n) (he:m.bt b=e) (hcap:(o+cap)*P.cellsOf e=m.bsz b) (hn:n≤cap) (hmx:cap≤maxLen):VR P m h (.msl b o n e) (.slice (some ⟨m.blk b,o*P.cellsOf e,none⟩) n cap)
 | fn (g:FuncId) (l c:List AV) (l' c':List Value) (h1:l'.length=l.length) (h2:c'.length=c.length) (h3:∀ j (hj:j<l.length) (hj':j<l'.length),VR P m h l[j] l'[j]) (h4:∀ j (hj:j<c.length) (hj':j<c'.length),VR P m h c[j] c'[j]):
   VR P m h (.fn g l c) (.func (.func g) l'.toArray c'.toArray)
 | nilf:VR P m h .nilf .nilFunc
 | nili:VR P m h .nili .nilIface
 | iface (t:TypeId) (v:AV) (v':Value) (h1:VR P m h v v'):VR P m h (.iface t v) (.iface t v')
 | agg (l:List AV) (l':List Value) (h1:l'.length=l.length) (h3:∀ j (hj:j<l.length) (hj':j<l'.length),VR P m h l[j] l'[j]):VR P m h (.agg l) (.agg l'.toArray)
 | tup (l:List AV) (l':List Value) (h1:l'.length=l.length) (h3:∀ j (hj:j<l.length) (hj':j<l'.length),VR P m h l[j] l'[j]):VR P m h (.tup l) (.tuple l'.toArray)
def VRs (P:Program) (m:Mm) (h:AH) (l:List AV) (l':List Value):Prop:=l'.length=l.length∧∀ j (hj:j<l.length) (hj':j<l'.length),VR P m h l[j] l'[j]
def MM (P:Program):List (String×IntKind×List Int):=
 if(P.globalNamed ("internal"++String.singleton (Char.ofNat 47)++ "strconv.uint64pow10")).isSome then[("internal"++String.singleton (Char.ofNat 47)++ "strconv.uint64pow10",.u64,Lib.pow10Tab)]else[]
def MZ (P:Program):List String:=["strconv.ErrSyntax", "strconv.ErrRange"].filter fun n=>(P.globalNamed n).isSome
structure tU (P:Program) (b:Nat) (w:World):Prop where
 tabs:∀ q∈MM P,Lib.TabIs P w q.1 q.2.1 q.2.2∧∀ g,P.globalNamed q.1=some g→g<b
 errs:∀ n∈MZ P,(∃ tp p,w.var? P n=some #[.iface tp p])∧∀ g,P.globalNamed n=some g→g<b
theorem yd {P:Program} {n:String} {b:Nat} {w w':World} (h2:∀ g,P.globalNamed n=some g→g<b) (hb:b≤w.heap.size) (h:∀ g,g<w.heap.size→g<b→w'.heap[g]? =w.heap[g]?):w'.var? P n=w.var? P n:=by
 unfold World.var?
 rcases hn:P.globalNamed n with _ | g
 ·rfl
 ·have hlt:=h2 g hn
  simp only[Option.bind_some]
  rw[h g (by omega) hlt]
theorem tU.keep {P:Program} {b:Nat} {w w':World} (hg:tU P b w) (hb:b≤w.heap.size) (h:∀ g,g<w.heap.size→g<b→w'.heap[g]? =w.heap[g]?):tU P b w':=by
 refine⟨fun q hq=> ?_,fun n hn=> ?_⟩
 ·obtain⟨h1,h2⟩:=hg.tabs q hq
  refine⟨?_,h2⟩
  unfold Lib.TabIs at h1 ⊢
  rw[yd h2 hb h]
  exact h1
 ·obtain⟨h1,h2⟩:=hg.errs n hn
  refine⟨?_,h2⟩
  rw[yd h2 hb h]
  exact h1
structure WR (P:Program) (m:Mm) (h:AH) (w:World):Prop where
 size:m.base≤w.heap.size
 lt:∀ b es,h.cell b=some es→b<h.n∧m.base≤m.blk b
 live:∀ b es,h.cell b=some es→∃ cs,Blk w (m.blk b) (m.bt b) cs∧cs.size=m.bsz b∧(∀ r∈es,r.length=P.cellsOf (m.bt b))∧es.length*P.cellsOf (m.bt b)≤cs.size∧
  ∀ i (hi:i<es.length) j (hj:j<es[i].length),∃ v,cs[i*P.cellsOf (m.bt b)+j]? =some v∧VR P m h es[i][j] v
 inj:∀ b b' es es',h.cell b=some es→h.cell b'=some es'→m.blk b=m.blk b'→b=b'
 imm:∀ g o v,m.imm g o=some v→w.cell? ⟨g,o,none⟩=some v
 sep:∀ b es,h.cell b=some es→∀ o,m.imm (m.blk b) o=none
 tip:∀ k,k<h.ids→∃ xs,w.ownsRow m.base (m.te k) (P.cellsOf (m.te k)) (.slice (some ⟨m.tg k,0,none⟩) (h.hw k) (m.tc k)) (h.hw k) xs
 tfree:∀ k,k<h.ids→∀ o,h.hw k*P.cellsOf (m.te k)≤o→m.imm (m.tg k) o=none
 tblk:∀ k,k<h.ids→∀ b es,h.cell b=some es→m.blk b≠m.tg k
 tinj:∀ k k',k<h.ids→k'<h.ids→m.tg k=m.tg k'→k=k'
 good:tU P m.base w
 jk:∀ g x,m.jk g=some x→m.base≤g∧w.heap[g]? =some x∧(∀ b es,h.cell b=some es→m.blk b≠g)∧(∀ k,k<h.ids→m.tg k≠g)∧∀ o,m.imm g o=none
structure Ext (m:Mm) (h:AH) (m':Mm) (h':AH):Prop where
 base:m'.base=m.base
 n:h.n≤h'.n
 ids:h.ids≤h'.ids
 blk:∀ b,b<h.n→m'.blk b=m.blk b∧m'.bt b=m.bt b∧m'.bsz b=m.bsz b
 imm:∀ g o v,m.imm g o=some v→m'.imm g o=some v
 te:∀ k,k<h.ids→m'.te k=m.te k∧h.hw k≤h'.hw k∧(h'.hw k=h.hw k→m'.tg k=m.tg k∧m'.tc k=m.tc k)
 jk:∀ g x,m.jk g=some x→m'.jk g=some x
theorem Ext.refl (m:Mm) (h:AH):Ext m h m h:=⟨rfl,Nat.le_refl _,Nat.le_refl _,fun _ _=>⟨rfl,rfl,rfl⟩,fun _ _ _ h=>h,fun _ _=>⟨rfl,Nat.le_refl _,fun _=>⟨rfl,rfl⟩⟩,fun _ _ h=>h⟩
theorem Ext.trans {m1 m2 m3:Mm} {h1 h2 h3:AH} (x:Ext m1 h1 m2 h2) (y:Ext m2 h2 m3 h3):Ext m1 h1 m3 h3:=by
 refine⟨y.base.trans x.base,Nat.le_trans x.n y.n,Nat.le_trans x.ids y.ids,fun b hb=> ?_,fun g o v h=>y.imm g o v (x.imm g o v h),fun k hk=> ?_,fun g v h=>y.jk g v (x.jk g v h)⟩
 ·obtain⟨a1,a2,a3⟩:=x.blk b hb
  obtain⟨b1,b2,b3⟩:=y.blk b (Nat.lt_of_lt_of_le hb x.n)
  exact⟨b1.trans a1,b2.trans a2,b3.trans a3⟩
 ·obtain⟨a1,a2,a3⟩:=x.te k hk
  obtain⟨b1,b2,b3⟩:=y.te k (Nat.lt_of_lt_of_le hk x.ids)
  refine⟨b1.trans a1,Nat.le_trans a2 b2,fun e=> ?_⟩
  obtain⟨c1,c2⟩:=a3 (by omega)
  obtain⟨d1,d2⟩:=b3 (by omega)
  exact⟨d1.trans c1,d2.trans c2⟩
section
variable {P:Program} {m m':Mm} {h h':AH} {w w':World}
theorem VR.ext (x:Ext m h m' h') {v:AV} {u:Value} (r:VR P m h v u):VR P m' h' v u:=by
 induction r with
 | junk v=>exact .junk v
 | bool b=>exact .bool b
 | int k n=>exact .int k n
 | str l=>exact .str l
 | nilp=>exact .nilp
 | ptr b i off hb=>
   obtain⟨a1,a2,a3⟩:=x.blk b hb
   have:=VR.ptr (P:=P) (m:=m') (h:=h') b i off (Nat.lt_of_lt_of_le hb x.n)
   rwa [a1,a2]at this
 | tptr t b hb ht=>
   obtain⟨a1,a2,a3⟩:=x.blk b hb
   have:=VR.tptr (P:=P) (m:=m') (h:=h') t b (Nat.lt_of_lt_of_le hb x.n) (a2.trans ht)
   rwa [a1]at this
 | ip e off g o F hi hv ih=>exact .ip e off g o F (fun j hj=>x.imm _ _ _ (hi j hj)) ih
 | nils=>exact .nils
 | isl id e es g o cap F hl hi hv hc ht ih=>
   refine .isl id e es g o cap F hl (fun i hi' j hj=>x.imm _ _ _ (hi i hi' j hj)) ih hc (fun k hk=> ?_)
   obtain⟨h1,h2,h3,h4⟩:=ht k hk
   obtain⟨t1,t2,t3⟩:=x.te k h1
   refine⟨Nat.lt_of_lt_of_le h1 x.ids,t1.trans h2,Nat.le_trans h3 t2,fun e'=> ?_⟩
   obtain⟨c1,c2,c3⟩:=h4 (by omega)
   obtain⟨d1,d2⟩:=t3 (by omega)
   exact⟨c1.trans d1.symm,c2,c3.trans d2.symm⟩
 | isl0 e a cap=>exact .isl0 e a cap
 | msl b o n e cap hb he hcap hn hmx=>
   obtain⟨a1,a2,a3⟩:=x.blk b hb
   have:=VR.msl (P:=P) (m:=m') (h:=h') b o n e cap (Nat.lt_of_lt_of_le hb x.n) (a2.trans he) (hcap.trans a3.symm) hn hmx
   rwa [a1]at this
 | fn g l c l' c' h1 h2 h3 h4 ih1 ih2=>exact .fn g l c l' c' h1 h2 ih1 ih2
 | nilf=>exact .nilf
 | nili=>exact .nili
 | iface t v v' h1 ih=>exact .iface t v v' ih
 | agg l l' h1 h3 ih=>exact .agg l l' h1 ih
 | tup l l' h1 h3 ih=>exact .tup l l' h1 ih
theorem VR.untag {v:AV} {u:Value} (r:VR P m h v u):∃ v',VR P m h v' u∧(∀ t b,v'≠.tptr t b)∧(∀ agg n,aE agg n h v'=aE agg n h v)∧∀ n x,aJ n h v' x=aJ n h v x:=by
 by_cases hv:∃ t b,v= .tptr t b
 ·obtain⟨t,b,rfl⟩:=hv
  cases r with
  | tptr _ _ hb ht=>
    refine⟨.ptr b 0 0,?_,(fun _ _ e=>nomatch e),fun _ _=>rfl,fun _ _=>rfl⟩
    have:=VR.ptr (P:=P) (m:=m) (h:=h) b 0 0 hb
    simpa using this
 ·exact⟨v,r,fun t b e=>hv ⟨t,b,e⟩,fun _ _=>rfl,fun _ _=>rfl⟩
theorem VR.und:VR P m h (.tup []) undef:=VR.tup [] [] rfl (fun j hj=>by simp at hj)
theorem VRs.nil:VRs P m h [] []:=⟨rfl,fun j hj=>by simp at hj⟩
theorem VRs.cons {a:AV} {b:Value} {l:List AV} {l':List Value} (h1:VR P m h a b) (h2:VRs P m h l l'):VRs P m h (a::l) (b::l'):=by
 refine⟨by simp[h2.1],fun j hj hj'=> ?_⟩
 cases j with
 | zero=>exact h1
 | succ j=>exact h2.2 j (by simpa using hj) (by simpa using hj')
theorem VRs.append {l1 l2:List AV} {r1 r2:List Value} (h1:VRs P m h l1 r1) (h2:VRs P m h l2 r2):VRs P m h (l1++l2) (r1++r2):=by
 refine⟨by simp[h1.1,h2.1],fun j hj hj'=> ?_⟩
 by_cases hlt:j<l1.length
 ·rw[List.getElem_append_left hlt,List.getElem_append_left (by rw[h1.1];exact hlt)]
  exact h1.2 j hlt _
 ·rw[List.getElem_append_right (by omega),List.getElem_append_right (by rw[h1.1];omega)]
  have e:=h1.1
  simp only[e]
  exact h2.2 _ _ _
theorem VRs.map {α:Type} {f:α→AV} {g:α→Value} {l:List α} (hf:∀ x∈l,VR P m h (f x) (g x)):VRs P m h (l.map f) (l.map g):=by
 refine⟨by simp,fun j hj hj'=> ?_⟩
 simp only[List.getElem_map]
 exact hf _ (List.getElem_mem _)
theorem VRs.get? {l:List AV} {l':List Value} (r:VRs P m h l l') {j:Nat} {v:AV} (hv:l[j]? =some v):∃ u,l'[j]? =some u∧VR P m h v u:=by
 obtain⟨hj,rfl⟩:=List.getElem?_eq_some_iff.1 hv
 have hj':j<l'.length:=by rw[r.1];exact hj
 exact⟨l'[j],List.getElem?_eq_getElem hj',r.2 j hj hj'⟩
theorem WR.below (hw:WR P m h w) {b:Nat} {es:List (List AV)} (hb:h.cell b=some es):m.blk b<w.heap.size:=by
 obtain⟨cs,hc,_⟩:=hw.live b es hb
 exact hc.lt
theorem WR.imm_lt (hw:WR P m h w) {g o:Nat} {v:Value} (hi:m.imm g o=some v):g<w.heap.size:=by
 have:=hw.imm g o v hi
 exact sN (w:=w) (p:=⟨g,o,none⟩) (by rw[this];simp)
theorem WR.tip_lt (hw:WR P m h w) {k:Nat} (hk:k<h.ids):m.base≤m.tg k∧m.tg k<w.heap.size:=by
 obtain⟨xs,hx⟩:=hw.tip k hk
 exact hx.lt _ rfl
theorem WR.only {S:Nat→Prop} (hw:WR P m h w) (ho:dS S w w') (h1:∀ b es,h.cell b=some es→¬ S (m.blk b)) (h2:∀ g o v,m.imm g o=some v→¬ S g) (h3:∀ k,k<h.ids→¬ S (m.tg k)) (h4:∀ g,g<m.base→¬ S g) (h5:∀ g x,m.jk g=some x→¬ S g):WR P m h w':=by
 refine⟨Nat.le_trans hw.size ho.size,hw.lt,fun b es hb=> ?_,hw.inj,fun g o v hi=> ?_,hw.sep,fun k hk=> ?_,hw.tfree,hw.tblk,hw.tinj,hw.good.keep hw.size fun g hg hb=>ho.block g hg (h4 g hb),fun g x hx=> ?_⟩
 ·obtain⟨cs,hc,hr⟩:=hw.live b es hb
  exact⟨cs,hc.only ho (h1 b es hb),hr⟩
 ·rw[World.cell?_of_block (w:=w) (ho.block _ (hw.imm_lt hi) (h2 g o v hi))]
  exact hw.imm g o v hi
 ·obtain⟨xs,hx⟩:=hw.tip k hk
  exact⟨xs,zA hx ho (fun g hg=>by
   simp at hg
   subst hg
   exact h3 k hk)⟩
 ·obtain⟨a1,a2,a3⟩:=hw.jk g x hx
  exact⟨a1,(ho.block g (Array.getElem?_eq_some_iff.1 a2).1 (h5 g x hx)).trans a2,a3⟩
theorem WR.jk_lt (hw:WR P m h w) {g:Nat} {x:Obj} (hx:m.jk g=some x):g<w.heap.size:=(Array.getElem?_eq_some_iff.1 (hw.jk g x hx).2.1).1
theorem WR.new (hw:WR P m h w) (ho:New w w'):WR P m h w':=hw.only ho (fun _ _ _=>id) (fun _ _ _ _=>id) (fun _ _=>id) (fun _ _=>id) (fun _ _ _=>id)
theorem WR.drew (hw:WR P m h w):WR P m h w.drew:=hw.new (dS.refl _ _).drew
theorem WR.push (hw:WR P m h w) (w':World) (e:TypeId) (es:List (List AV)) (cs:Array Value) (hn:New w w') (hbk:Blk w' w.heap.size e cs) (hs:es.length*P.cellsOf e≤cs.size) (hl:∀ r∈es,r.length=P.cellsOf e)
  (hv:∀ i (hi:i<es.length) j (hj:j<es[i].length),∃ v,cs[i*P.cellsOf e+j]? =some v∧VR P m h es[i][j] v):
  ∃ m',Ext m h m' (h.push es)∧WR P m' (h.push es) w'∧m'.blk h.n=w.heap.size∧m'.bt h.n=e∧m'.bsz h.n=cs.size:=by
 refine⟨{m with blk:=fun b=>if b=h.n then w.heap.size else m.blk b,bt:=fun b=>if b=h.n then e else m.bt b,bsz:=fun b=>if b=h.n then cs.size else m.bsz b},?_,?_,by simp,by simp,by simp⟩
 ·exact⟨rfl,by simp[AH.push],by simp[AH.push],fun b hb=>by simp[show b≠h.n by omega],fun _ _ _ h=>h,fun k hk=>⟨rfl,Nat.le_refl _,fun _=>⟨rfl,rfl⟩⟩,fun _ _ h=>h⟩
 ·have hx:Ext m h {m with blk:=fun b=>if b=h.n then w.heap.size else m.blk b,bt:=fun b=>if b=h.n then e else m.bt b,bsz:=fun b=>if b=h.n then cs.size else m.bsz b} (h.push es):=
   ⟨rfl,by simp[AH.push],by simp[AH.push],fun b hb=>by simp[show b≠h.n by omega],fun _ _ _ h=>h,fun k hk=>⟨rfl,Nat.le_refl _,fun _=>⟨rfl,rfl⟩⟩,fun _ _ h=>h⟩
  have hw1:=hw.new hn
  have old:∀ b x,(h.push es).cell b=some x→b≠h.n→h.cell b=some x:=by
   intro b x hb hne
   simpa[AH.push,hne]using hb
  have new:∀ b x,(h.push es).cell b=some x→b=h.n→x=es:=by
   intro b x hb he
   subst he
   simp[AH.push]at hb
   exact hb.symm
  refine⟨hw1.size,fun b x hb=> ?_,fun b x hb=> ?_,fun b b' x x' hb hb' he=> ?_,hw1.imm,fun b x hb o=> ?_,hw1.tip,hw1.tfree,fun k hk b x hb=> ?_,hw1.tinj,hw1.good,fun g x hx=> ?_⟩
  ·by_cases hbn:b=h.n
   ·subst hbn
    exact⟨by simp[AH.push],by simpa using hw.size⟩
   ·have:=hw.lt b x (old b x hb hbn)
    exact⟨by simp[AH.push];omega,by simpa[hbn]using this.2⟩
  ·by_cases hbn:b=h.n
   ·subst hbn
    have:=new _ _ hb rfl
    subst this
    refine⟨cs,by simpa using hbk,by simp,by simpa using hl,by simpa using hs,fun i hi j hj=> ?_⟩
    obtain⟨v,h1,h2⟩:=hv i hi j hj
    exact⟨v,by simpa using h1,h2.ext hx⟩
   ·obtain⟨cs',h1,h2,h3,h4,h5⟩:=hw1.live b x (old b x hb hbn)
    refine⟨cs',by simpa[hbn]using h1,by simpa[hbn]using h2,by simpa[hbn]using h3,by simpa[hbn]using h4,fun i hi j hj=> ?_⟩
    obtain⟨v,h6,h7⟩:=h5 i hi j hj
    exact⟨v,by simpa[hbn]using h6,h7.ext hx⟩
  ·by_cases h1:b=h.n<;>by_cases h2:b'=h.n
   ·omega
   ·have:=hw.below (old _ _ hb' h2)
    simp[h1,h2]at he
    omega
   ·have:=hw.below (old _ _ hb h1)
    simp[h1,h2]at he
    omega
   ·simp[h1,h2]at he
    exact hw.inj b b' x x' (old _ _ hb h1) (old _ _ hb' h2) he
  ·by_cases h1:b=h.n
   ·simp only[h1,if_true]
    rcases hi:m.imm w.heap.size o with _ | v
    ·rfl
    ·have:=hw.imm_lt hi
     omega
   ·simp only[h1,if_false]
    exact hw.sep b x (old _ _ hb h1) o
  ·by_cases h1:b=h.n
   ·have:=hw.tip_lt hk
    simp[h1]
    omega
   ·simp only[h1,if_false]
    exact hw.tblk k hk b x (old _ _ hb h1)
  ·obtain⟨a1,a2,a3,a4,a5⟩:=hw1.jk g x hx
   refine⟨a1,a2,fun b y hb=> ?_,a4,a5⟩
   by_cases h1:b=h.n
   ·have:=hw.jk_lt hx
    simp only[h1,if_true]
    omega
   ·simp only[h1,if_false]
    exact a3 b y (old _ _ hb h1)
theorem WR.turn (hw:WR P m h w) {b:Nat} {es es':List (List AV)} (hb:h.cell b=some es) (ho:dS (fun k=>k=m.blk b) w w') (cs':Array Value) (hc:Blk w' (m.blk b) (m.bt b) cs') (hs:cs'.size=m.bsz b)
  (hl:∀ r∈es',r.length=P.cellsOf (m.bt b)) (hle:es'.length*P.cellsOf (m.bt b)≤cs'.size)
  (hv:∀ i (hi:i<es'.length) j (hj:j<es'[i].length),∃ v,cs'[i*P.cellsOf (m.bt b)+j]? =some v∧VR P m h es'[i][j] v):
  Ext m h m (h.set b (some es'))∧WR P m (h.set b (some es')) w':=by
 have hx:Ext m h m (h.set b (some es')):=⟨rfl,Nat.le_refl _,Nat.le_refl _,fun _ _=>⟨rfl,rfl,rfl⟩,fun _ _ _ h=>h,fun _ _=>⟨rfl,Nat.le_refl _,fun _=>⟨rfl,rfl⟩⟩,fun _ _ h=>h⟩
 refine⟨hx,?_⟩
 have some_:∀ b' x,(h.set b (some es')).cell b'=some x→∃ y,h.cell b'=some y:=by
  intro b' x hb'
  by_cases e:b'=b
  ·subst e;exact⟨_,hb⟩
  ·exact⟨x,by simpa[AH.set,e]using hb'⟩
 refine⟨Nat.le_trans hw.size ho.size,fun b' x hb'=> ?_,fun b' x hb'=> ?_,fun b1 b2 x1 x2 h1 h2 he=> ?_,fun g o v hi=> ?_,fun b' x hb' o=> ?_,fun k hk=> ?_,hw.tfree,fun k hk b' x hb'=> ?_,hw.tinj,hw.good.keep hw.size fun g hg hlt=>ho.block g hg (fun e=>by have:=(hw.lt b es hb).2;omega),fun g x hj=> ?_⟩
 ·obtain⟨y,hy⟩:=some_ _ _ hb'
  exact hw.lt _ _ hy
 ·by_cases e:b'=b
  ·subst e
   have:x=es':=by simpa[AH.set,eq_comm]using hb'
   subst this
   refine⟨cs',hc,hs,hl,hle,fun i hi j hj=> ?_⟩
   obtain⟨v,h1,h2⟩:=hv i hi j hj
   exact⟨v,h1,h2.ext hx⟩
  ·have hb2:h.cell b'=some x:=by simpa[AH.set,e]using hb'
   obtain⟨c2,h1,h2,h3,h4,h5⟩:=hw.live b' x hb2
   refine⟨c2,h1.only ho (fun e'=>e (hw.inj _ _ _ _ hb2 hb e')),h2,h3,h4,fun i hi j hj=> ?_⟩
   obtain⟨v,h6,h7⟩:=h5 i hi j hj
   exact⟨v,h6,h7.ext hx⟩
 ·obtain⟨y1,hy1⟩:=some_ _ _ h1
  obtain⟨y2,hy2⟩:=some_ _ _ h2
  exact hw.inj _ _ _ _ hy1 hy2 he
 ·have hne:g≠m.blk b:=fun e=>by
   subst e
   have:=hw.sep b es hb o
   rw[this]at hi
   cases hi
  rw[World.cell?_of_block (w:=w) (ho.block _ (hw.imm_lt hi) hne)]
  exact hw.imm g o v hi
 ·obtain⟨y,hy⟩:=some_ _ _ hb'
  exact hw.sep _ _ hy o
 ·obtain⟨xs,hxs⟩:=hw.tip k hk
  exact⟨xs,zA hxs ho (fun g hg e=>by
   simp at hg
   exact hw.tblk k hk b es hb (by rw[hg];exact e.symm))⟩
 ·obtain⟨y,hy⟩:=some_ _ _ hb'
  exact hw.tblk k hk _ _ hy
 ·obtain⟨a1,a2,a3,a4,a5⟩:=hw.jk g x hj
  refine⟨a1,(ho.block g (hw.jk_lt hj) fun e=>a3 b es hb e.symm).trans a2,fun b' y hb'=> ?_,a4,a5⟩
  obtain⟨z,hz⟩:=some_ _ _ hb'
  exact a3 _ _ hz
end
open Go Go.RowKit
structure mM (P:Program):Prop where
 zero:∀ t i v,t<P.types.size→P.info? t=some i→i.zero=some v→v.cells.size=i.size
 small:∀ t i,t<P.types.size→P.info? t=some i→i.bytes≤100000
 pos:∀ t e,t<P.types.size→P.underlying t=some (.slice e)→0<P.cellsOf e
def TR (P:Program) (m:Mm) (h:AH) (t:List AV) (a:Array Value):Prop:=a.size=t.length∧∀ i (hi:i<t.length),VR P m h t[i] (a.getD i undef)
def OpR (P:Program) (m:Mm) (h:AH) (a:Act) (w:World) (o:Oper) (v:AV) (h':AH):Prop:=
 ∃ m' w' u,((execOp a.eval o).run P w= .ok (.value u) w'∨((execOp a.eval o).run P w= .ok .skip w'∧u=undef))∧Ext m h m' h'∧WR P m' h' w'∧VR P m' h' v u∧Below m.base w w'
section
variable {P:Program} {m m':Mm} {h h':AH} {w w':World} {t:List AV} {a:Act} {o:Oper}
theorem TR.ext (x:Ext m h m' h') {tm:Array Value} (r:TR P m h t tm):TR P m' h' t tm:=⟨r.1,fun i hi=>(r.2 i hi).ext x⟩
theorem TR.put (r:TR P m h t a.tmps) {v:AV} {u:Value} (hv:VR P m h v u) (d:Option Tmp):TR P m h (bJ t d v) (a.put d u).tmps:=by
 cases d with
 | none=>exact r
 | some d=>
   refine⟨by simp[bJ,Act.put,r.1],fun i hi=> ?_⟩
   have hi':i<t.length:=by simpa[bJ]using hi
   have e1:(bJ t (some d) v)[i]=if d=i then v else t[i]:=by simp[bJ,List.getElem_set]
   have e2:(a.put (some d) u).tmps.getD i undef=if d=i then u else a.tmps.getD i undef:=by
    have hs:i<a.tmps.size:=by rw[r.1];exact hi'
    simp[Act.put,Array.getD,hs,Array.getElem_setIfInBounds]
   rw[e1,e2]
   by_cases e:d=i
   ·rw[if_pos e,if_pos e]
    exact hv
   ·rw[if_neg e,if_neg e]
    exact r.2 i hi'
theorem TR.get (r:TR P m h t a.tmps) (i:Nat):VR P m h (t.getD i .junk) (a.tmps.getD i undef):=by
 by_cases hi:i<t.length
 ·have:=r.2 i hi
  simpa[List.getD,hi]using this
 ·rw[List.getD,List.getElem?_eq_none (by omega)]
  exact .junk _
theorem gS (v:Value):VR P m h (jD v) v:=by
 unfold jD
 split
 ·exact .bool _
 ·exact .int _ _
 ·rename_i s
  have:=VR.str (P:=P) (m:=m) (h:=h) s.data.toList
  simpa using this
 ·exact .nilp
 ·exact .nils
 ·exact .nilf
 ·exact .nili
 ·exact .junk _
theorem xd (v:Value):VR P m h (nj v) v:=by
 unfold nj
 split
 ·rename_i cs
  have:=VR.agg (P:=P) (m:=m) (h:=h) (cs.toList.map jD) cs.toList (by simp) (fun j hj hj'=>by simpa using gS _)
  simpa using this
 ·exact gS v
theorem aD (r:TR P m h t a.tmps) (x:Operand):VR P m h (evA t x) (a.eval x):=by
 cases x with
 | tmp i=>exact r.get i
 | const v=>exact xd v
 | global g=>exact .junk _
 | func f=>exact .fn f [] [] [] [] rfl rfl (fun j hj=>by simp at hj) (fun j hj=>by simp at hj)
theorem VR.one {v:AV} {u:Value} (r:VR P m h v u) (h1:v.one=true):u.oneCell'=true:=by
 cases r<;>simp_all [AV.one,Value.oneCell']
theorem VR.cells {v:AV} {u:Value} (r:VR P m h v u) (h1:v.cells.all AV.one=true):VRs P m h v.cells u.cells.toList∧∀ c∈u.cells.toList,c.oneCell'=true:=by
 have key:v.one=true→u.cells= #[u]→v.cells=[v]→VRs P m h v.cells u.cells.toList∧∀ c∈u.cells.toList,c.oneCell'=true:=by
  intro hv hu hc
  rw[hu,hc]
  refine⟨VRs.cons r VRs.nil,fun c hc=> ?_⟩
  simp at hc
  subst hc
  exact r.one hv
 cases r with
 | junk v=>simp[AV.cells,AV.one]at h1
 | tup l l' h2 h3=>simp[AV.cells,AV.one]at h1
 | agg l l' h2 h3=>
   refine⟨⟨by simpa[AV.cells,Value.cells]using h2,fun j hj hj'=>h3 j hj (by simpa[Value.cells]using hj')⟩,fun c hc=> ?_⟩
   simp[Value.cells]at hc
   obtain⟨j,hj,rfl⟩:=List.getElem_of_mem hc
   have hjl:j<l.length:=by omega
   simp only[AV.cells,List.all_eq_true]at h1
   exact(h3 j hjl hj).one (h1 _ (List.getElem_mem hjl))
 | _=>exact key rfl rfl rfl
theorem OpR.pure (hw:WR P m h w) {v:AV} {u:Value} (hr:(execOp a.eval o).run P w= .ok (.value u) w) (hv:VR P m h v u):OpR P m h a w o v h:=
 ⟨m,w,u,.inl hr,Ext.refl _ _,hw,hv,Below.refl _ _⟩
theorem dU (hT:mM P) {e:TypeId} {z:List AV} (hz:d8 P e=some z):∃ i v,P.info? e=some i∧i.zero=some v∧z.length=P.cellsOf e∧v.cells.size=P.cellsOf e∧VRs P m h z v.cells.toList∧(zeroValue e).run P w= .ok v w:=by
 unfold d8 at hz
 split at hz
 case isFalse=>cases hz
 rename_i hlt
 rcases hi:P.info? e with _ | i
 ·simp[hi]at hz
 ·rcases hv:i.zero with _ | v
  ·simp[hi,hv]at hz
  ·simp only[hi,hv,Option.bind_some,Option.map_some,Option.some.injEq]at hz
   have hs:=hT.zero e i v hlt hi hv
   have hc:P.cellsOf e=i.size:=by simp[Program.cellsOf,hi]
   have hr:VRs P m h (nj v).cells v.cells.toList:=by
    unfold nj
    split
    ·rename_i cs
     exact⟨by simp[AV.cells,Value.cells],fun j hj hj'=>by simpa[AV.cells,Value.cells]using gS _⟩
    ·rename_i hne
     have hs1:=gS (P:=P) (m:=m) (h:=h) v
     have e1:(jD v).cells=[jD v]:=by
      unfold jD
      split<;>rfl
     have e2:v.cells= #[v]:=by
      unfold Value.cells
      split
      ·rename_i cs
       exact absurd rfl (hne cs)
      ·rfl
     rw[e1,e2]
     exact VRs.cons hs1 VRs.nil
   rw[hz]at hr
   refine⟨i,v,rfl,hv,?_,by rw[hs,hc],hr,by simp[zeroValue,typeInfo,hi,hv]⟩
   have:=hr.1
   rw[Array.length_toList,hs]at this
   rw[hc]
   exact this.symm
theorem yz (hw:WR P m h w) (e:TypeId) {z:List AV} {u:Array Value} (hz:VRs P m h z u.toList) (hs:z.length=P.cellsOf e):
  ∃ m',Ext m h m' (h.push [z])∧WR P m' (h.push [z]) (w.alloc (.cells u e))∧VR P m' (h.push [z]) (.ptr h.n 0 0) (.pointer (some ⟨w.heap.size,0,none⟩)):=by
 have hu:u.size=z.length:=by simpa using hz.1
 obtain⟨m',h1,h2,h3,h4,h5⟩:=hw.push (w.alloc (.cells u e)) e [z] u ((dS.refl _ w).alloc _) (Blk.new w _ _) (by simp;omega) (by simp[hs]) (by
  intro i hi j hj
  have hi0:i=0:=by simpa using hi
  subst hi0
  have hj':j<z.length:=by simpa using hj
  refine⟨u[j]'(by omega),by simp,?_⟩
  have:=hz.2 j hj' (by simp;omega)
  simpa using this)
 refine⟨m',h1,h2,?_⟩
 have:=VR.ptr (P:=P) (m:=m') (h:=h.push [z]) h.n 0 0 (by simp[AH.push])
 rw[h3]at this
 simpa using this
theorem Ie (hT:mM P) (hw:WR P m h w) (e:TypeId) (ho:o.op= .alloc e) {z:List AV} (hz:d8 P e=some z):OpR P m h a w o (.ptr h.n 0 0) (h.push [z]):=by
 obtain⟨i,v,hi,hv,hl,hs,hr,hrun⟩:=dU (m:=m) (h:=h) (w:=w) hT hz
 obtain⟨m',h1,h2,h3⟩:=yz hw e hr hl
 refine⟨m',_,_,.inl ?_,h1,h2,h3,(Below.refl _ _).alloc hw.size _⟩
 simp[execOp,ho,Instr.alloc,hrun,newVar,newRow]
theorem FA (hT:mM P) (hw:WR P m h w) (e:TypeId) (ho:o.op= .alloc e) {z:List AV} (hz:d8 P e=some z):OpR P m h a w o (.tptr e h.n) (h.push [z]):=by
 obtain⟨i,v,hi,hv,hl,hs,hr,hrun⟩:=dU (m:=m) (h:=h) (w:=w) hT hz
 have hu:v.cells.size=z.length:=by simpa using hr.1
 obtain⟨m',h1,h2,h3,h4,h5⟩:=hw.push (w.alloc (.cells v.cells e)) e [z] v.cells ((dS.refl _ w).alloc _) (Blk.new w _ _) (by simp;omega) (by simp[hl]) (by
  intro i hi j hj
  have hi0:i=0:=by simpa using hi
  subst hi0
  have hj':j<z.length:=by simpa using hj
  refine⟨v.cells[j]'(by omega),by simp,?_⟩
  have:=hr.2 j hj' (by simp;omega)
  simpa using this)
 have hp:=VR.tptr (P:=P) (m:=m') (h:=h.push [z]) e h.n (by simp[AH.push]) h4
 rw[h3]at hp
 refine⟨m',_,_,.inl ?_,h1,h2,hp,(Below.refl _ _).alloc hw.size _⟩
 simp[execOp,ho,Instr.alloc,hrun,newVar,newRow]
theorem Nz (hw:WR P m h w) (ht:TR P m h t a.tmps) (e:TypeId) (x:Operand) (ho:o.op= .box e x) (h1:(evA t x).cells.all AV.one=true) (h2:(evA t x).cells.length=szA P e):
  OpR P m h a w o (.ptr h.n 0 0) (h.push [(evA t x).cells]):=by
 obtain⟨h3,h4⟩:=(aD ht x).cells h1
 obtain⟨m',h5,h6,h7⟩:=yz hw e h3 h2
 refine⟨m',_,_,.inl ?_,h5,h6,h7,(Below.refl _ _).alloc hw.size _⟩
 simp[execOp,ho,Instr.box,newVar,newRow]
theorem Ll (hw:WR P m h w) (ht:TR P m h t a.tmps) (e:TypeId) (x:Operand) (ho:o.op= .box e x) (h1:(evA t x).cells.all AV.one=true) (h2:(evA t x).cells.length=szA P e):
  OpR P m h a w o (.tptr e h.n) (h.push [(evA t x).cells]):=by
 obtain⟨h3,h4⟩:=(aD ht x).cells h1
 have hu:(a.eval x).cells.size=(evA t x).cells.length:=by simpa using h3.1
 have h2:(evA t x).cells.length=P.cellsOf e:=h2
 obtain⟨m',k1,k2,k3,k4,k5⟩:=hw.push (w.alloc (.cells (a.eval x).cells e)) e [(evA t x).cells] (a.eval x).cells ((dS.refl _ w).alloc _) (Blk.new w _ _) (by simp;omega) (by simp[h2]) (by
  intro i hi j hj
  have hi0:i=0:=by simpa using hi
  subst hi0
  have hj':j<(evA t x).cells.length:=by simpa using hj
  refine⟨(a.eval x).cells[j]'(by omega),by simp,?_⟩
  have:=h3.2 j hj' (by simp;omega)
  simpa using this)
 have hp:=VR.tptr (P:=P) (m:=m') (h:=h.push [(evA t x).cells]) e h.n (by simp[AH.push]) k4
 rw[k3]at hp
 refine⟨m',_,_,.inl ?_,k1,k2,hp,(Below.refl _ _).alloc hw.size _⟩
 simp[execOp,ho,Instr.box,newVar,newRow]
theorem rO (ty:TypeId) {d:TypeDesc} (hd:P.underlying ty=some d):(isAgg ty).run P w= .ok (f9 P ty) w:=by
 unfold isAgg f9
 simp only[Sem.run_bind,run_underlying hd,Result.andThen_ok,hd]
 cases d<;>simp
theorem Dr (hw:WR P m h w) {b i:Nat} {e:List AV} (hr:h.row b i=some e):∃ F:Nat→Value,∀ j (hj:j<e.length),w.cell? ⟨m.blk b,i*P.cellsOf (m.bt b)+j,none⟩=some (F j)∧VR P m h e[j] (F j):=by
 unfold AH.row at hr
 rcases hc:h.cell b with _ | es
 ·simp[hc]at hr
 ·simp only[hc,Option.bind_some]at hr
  obtain⟨hi,rfl⟩:=List.getElem?_eq_some_iff.1 hr
  obtain⟨cs,h1,h2,h3,h4,h5⟩:=hw.live b es hc
  refine⟨fun j=>(cs[i*P.cellsOf (m.bt b)+j]?).getD undef,fun j hj=> ?_⟩
  obtain⟨v,h6,h7⟩:=h5 i hi j hj
  exact⟨by rw[h1.cell];simp[h6],by simpa[h6]using h7⟩
theorem oI (ty:TypeId) {d:TypeDesc} (hd:P.underlying ty=some d) (hi:P.info? ty≠none) (g o:Nat) (off:Nat) (e:List AV) (F:Nat→Value)
  (hF:∀ j (hj:j<e.length),w.cell? ⟨g,o+j,none⟩=some (F j)∧VR P m h e[j] (F j)) {v:AV} (hv:ldA (f9 P ty) (szA P ty) e off=some v):
  ∃ u,(loadVar ty ⟨g,o+off,none⟩).run P w= .ok u w∧VR P m h v u:=by
 unfold ldA at hv
 unfold loadVar
 simp only[Sem.run_bind,rO ty hd,Result.andThen_ok]
 cases hag:f9 P ty
 ·simp only[hag,Bool.false_eq_true,if_false]at hv ⊢
  obtain⟨hj,rfl⟩:=List.getElem?_eq_some_iff.1 hv
  obtain⟨h1,h2⟩:=hF off hj
  exact⟨F off,by simp[h1],h2⟩
 ·simp only[hag,if_true]at hv ⊢
  split at hv
  ·rename_i hle
   injection hv with hv
   subst hv
   obtain⟨i,hi⟩:=Option.ne_none_iff_exists'.1 hi
   have hsz:i.size=szA P ty:=by simp[szA,Program.cellsOf,hi]
   have hl:=run_loadCells (P:=P) w ⟨g,o+off,none⟩ (szA P ty) (fun j=>F (off+j)) (fun j hj=>by
    rw[Addr.add_lit]
    have:=(hF (off+j) (by omega)).1
    rwa [Nat.add_assoc])
   refine⟨.agg ((List.range (szA P ty)).map fun j=>F (off+j)).toArray,?_,?_⟩
   ·simp[sizeOf,typeInfo,hi,hsz,hl]
   ·refine .agg _ _ (by simp;omega) (fun j hj hj'=> ?_)
    simp only[List.getElem_map,List.getElem_range]
    have hj2:j<szA P ty:=by simpa using hj'
    have:=(hF (off+j) (by omega)).2
    simpa[List.getElem_take,List.getElem_drop]using this
  ·cases hv
theorem Kc (hw:WR P m h w) (ht:TR P m h t a.tmps) (ty:TypeId) (x:Operand) (ho:o.op= .load ty x) {d:TypeDesc} (hd:P.underlying ty=some d) (hi:P.info? ty≠none) {v:AV}
  (hv:aE (f9 P ty) (szA P ty) h (evA t x)=some v):OpR P m h a w o v h:=by
 have hx:=aD ht x
 have key:∃ u,(Instr.loadAt ty (a.eval x)).run P w= .ok u w∧VR P m h v u:=by
  revert hx hv
  generalize a.eval x=ax
  generalize evA t x=ex
  intro hv hx
  obtain⟨ex',hx',hne,hl,_⟩:=hx.untag
  rw[←hl]at hv
  cases hx' with
  | tptr t b _ _=>exact absurd rfl (hne t b)
  | ptr b i off hb=>
    simp only[aE]at hv
    rcases hr:h.row b i with _ | e
    ·simp[hr]at hv
    ·simp only[hr,Option.bind_some]at hv
     obtain⟨F,hF⟩:=Dr hw hr
     obtain⟨u,h1,h2⟩:=oI (w:=w) ty hd hi (m.blk b) (i*P.cellsOf (m.bt b)) off e F hF hv
     exact⟨u,by simp[Instr.loadAt,Instr.sureAddr,h1],h2⟩
  | ip e off g o' F hi' hv'=>
    simp only[aE]at hv
    obtain⟨u,h1,h2⟩:=oI (w:=w) (h:=h) (m:=m) ty hd hi g o' off e F (fun j hj=>⟨hw.imm _ _ _ (hi' j hj),hv' j hj⟩) hv
    exact⟨u,by simp[Instr.loadAt,Instr.sureAddr,h1],h2⟩
  | _=>simp[aE]at hv
 obtain⟨u,h1,h2⟩:=key
 exact OpR.pure hw (by simp[execOp,ho,h1]) h2
end
open Go Go.RowKit
theorem wR {α:Type} (l cs:List α) (o:Nat) (h:o+cs.length≤l.length) (j:Nat):
  (l.take o++cs++l.drop (o+cs.length))[j]? =if o≤j∧j<o+cs.length then cs[j - o]? else l[j]? :=by
 by_cases h1:j<o
 ·rw[if_neg (by omega),List.append_assoc,List.getElem?_append_left (by simp;omega)]
  simp[h1]
 ·by_cases h2:j<o+cs.length
  ·rw[if_pos (by omega),List.append_assoc,List.getElem?_append_right (by simp;omega),List.getElem?_append_left (by simp;omega)]
   congr 1
   simp
   omega
  ·rw[if_neg (by omega),List.getElem?_append_right (by simp;omega)]
   rw[List.getElem?_drop]
   congr 1
   simp
   omega
theorem bV {i n s:Nat} (h:i<n):i*s+s≤n*s:=by
 have:(i+1)*s≤n*s:=Nat.mul_le_mul_right s h
 rw[Nat.add_mul]at this
 omega
section
variable {P:Program} {m m':Mm} {h h':AH} {w w':World} {t:List AV} {a:Act} {o:Oper}
theorem In (hw:WR P m h w) (ht:TR P m h t a.tmps) (ty:TypeId) (x y:Operand) (ho:o.op= .store ty x y) (hi:P.info? ty≠none)
  (hv:aJ (szA P ty) h (evA t x) (evA t y)=some h'):OpR P m h a w o .junk h':=by
 have hx:=aD ht x
 have hy:=aD ht y
 obtain⟨i0,hi⟩:=Option.ne_none_iff_exists'.1 hi
 have hsz:i0.size=szA P ty:=by simp[szA,Program.cellsOf,hi]
 have key:∃ w',(Instr.storeAt ty (a.eval x) (a.eval y)).run P w= .ok () w'∧Ext m h m h'∧WR P m h' w'∧Below m.base w w':=by
  revert hx hv
  generalize a.eval x=ax
  generalize evA t x=ex
  intro hv hx
  obtain⟨ex',hx',hne,_,hl⟩:=hx.untag
  rw[←hl]at hv
  cases hx' with
  | tptr t b _ _=>exact absurd rfl (hne t b)
  | ptr b i off hb=>
    simp only[aJ]at hv
    rcases hc:h.cell b with _ | es
    ·simp[hc]at hv
    ·rcases hr:es[i]? with _ | e
     ·simp[hc,hr]at hv
     ·simp only[hc,hr,Option.bind_some]at hv
      split at hv
      ·rename_i hcond
       obtain⟨h1,h2,h3⟩:=hcond
       injection hv with hv
       subst hv
       obtain⟨hc1,hc2⟩:=hy.cells h1
       obtain⟨cs,hb1,hb2,hb3,hb4,hb5⟩:=hw.live b es hc
       obtain⟨hie,hre⟩:=List.getElem?_eq_some_iff.1 hr
       have hes:e.length=P.cellsOf (m.bt b):=by rw[←hre];exact hb3 _ (List.getElem_mem hie)
       generalize hS:P.cellsOf (m.bt b)=S at*
       have hul:(a.eval y).cells.toList.length=szA P ty:=by rw[hc1.1,h2]
       have hus:(a.eval y).cells.size=szA P ty:=by simpa using hul
       have hiS:=bV (s:=S) hie
       have hrun:=run_storeCells_at (P:=P) (m.blk b) (i*S+off) (m.bt b) (a.eval y).cells.toList 0 cs w hb1 (by rw[hul];omega) hc2
       have hO:dS (fun k=>k=m.blk b) w (w.setRow (m.blk b) (cs.toList.take (i*S+off+0)++(a.eval y).cells.toList++cs.toList.drop (i*S+off+0+(a.eval y).cells.toList.length)).toArray):=
        ⟨rfl,rfl,rfl,by simp[World.setRow],fun k _ hk=>setRow_other w _ k _ hk⟩
       have hlen:((cs.toList.take (i*S+off+0)++(a.eval y).cells.toList++cs.toList.drop (i*S+off+0+(a.eval y).cells.toList.length)).toArray).size=cs.size:=by
        simp only[List.size_toArray,List.length_append,List.length_take,List.length_drop,Array.length_toList,hus]
        omega
       have hBk:=setRow_heap w _ cs (cs.toList.take (i*S+off+0)++(a.eval y).cells.toList++cs.toList.drop (i*S+off+0+(a.eval y).cells.toList.length)).toArray _ _ hb1
       have hBl:∀ k,k<m.base→(w.setRow (m.blk b) (cs.toList.take (i*S+off+0)++(a.eval y).cells.toList++cs.toList.drop (i*S+off+0+(a.eval y).cells.toList.length)).toArray).heap[k]? =w.heap[k]? :=fun k hk=>setRow_other w _ k _ (fun e=>by
        have:=(hw.lt b es hc).2
        omega)
       generalize w.setRow (m.blk b) (cs.toList.take (i*S+off+0)++(a.eval y).cells.toList++cs.toList.drop (i*S+off+0+(a.eval y).cells.toList.length)).toArray=w1 at*
       refine⟨w1,by simp[Instr.storeAt,Instr.sureAddr,storeVar,sizeOf,typeInfo,hi,hsz,hus,hrun],?_⟩
       obtain⟨hX,hW⟩:=hw.turn hc (es':=es.set i (stA e off (evA t y).cells)) hO _ hBk (by rw[hlen,hb2]) (by
        intro r hr'
        rw[hS]
        rcases List.mem_or_eq_of_mem_set hr' with hq | hq
        ·exact hb3 r hq
        ·rw[hq,stA]
         simp only[List.length_append,List.length_take,List.length_drop]
         omega) (by rw[hlen,hS,List.length_set];exact hb4) (by
        intro i' hi' j hj
        rw[hS]
        have hi2:i'<es.length:=by simpa using hi'
        simp only[List.getElem?_toArray]
        rw[wR _ _ _ (by rw[hul];simp;omega)]
        by_cases e1:i'=i
        ·subst e1
         have hrow:(es.set i' (stA e off (evA t y).cells))[i']=stA e off (evA t y).cells:=by simp
         have hj':j<(stA e off (evA t y).cells).length:=by rw[hrow]at hj;exact hj
         have hg:(stA e off (evA t y).cells)[j]? =some (stA e off (evA t y).cells)[j]:=List.getElem?_eq_getElem hj'
         have hg2:(e.take off++(evA t y).cells++e.drop (off+(evA t y).cells.length))[j]? =some (stA e off (evA t y).cells)[j]:=hg
         rw[wR _ _ _ (by omega)]at hg2
         have goal':∀ v,VR P m h (stA e off (evA t y).cells)[j] v→VR P m h (es.set i' (stA e off (evA t y).cells))[i'][j] v:=by
          intro v hv
          simpa only[hrow]using hv
         by_cases e2:off≤j∧j<off+(evA t y).cells.length
         ·rw[if_pos e2]at hg2
          rw[if_pos (by rw[hul];omega)]
          obtain⟨u,hu1,hu2⟩:=hc1.get? hg2
          refine⟨u,?_,goal' u hu2⟩
          rw[←hu1]
          congr 1
          omega
         ·rw[if_neg e2]at hg2
          rw[if_neg (by rw[hul];omega)]
          obtain⟨hje,hge⟩:=List.getElem?_eq_some_iff.1 hg2
          obtain⟨v,hv1,hv2⟩:=hb5 i' hi2 j (by rw[hre];exact hje)
          refine⟨v,by simpa using hv1,goal' v ?_⟩
          rw[←hge]
          simpa only[hre]using hv2
        ·have hrow:(es.set i (stA e off (evA t y).cells))[i']=es[i']:=by simp[Ne.symm e1]
         have hj':j<es[i'].length:=by rw[hrow]at hj;exact hj
         have hjS:j<S:=by rw[hb3 _ (List.getElem_mem hi2)]at hj';exact hj'
         rw[if_neg (by
          rw[hul]
          rcases Nat.lt_or_gt_of_ne e1 with hq | hq
          ·have:=bV (s:=S) hq
           omega
          ·have:=bV (s:=S) hq
           omega)]
         obtain⟨v,hv1,hv2⟩:=hb5 i' hi2 j hj'
         exact⟨v,by simpa using hv1,by simpa only[hrow]using hv2⟩)
       exact⟨hX,hW,⟨hO.os,hO.tape,hO.output,hO.size,hBl⟩⟩
      ·cases hv
  | _=>simp[aJ]at hv
 obtain⟨w',h1,h2,h3,h4⟩:=key
 exact⟨m,w',undef,.inr ⟨by simp[execOp,ho,h1],rfl⟩,h2,h3,.junk _,h4⟩
end
open Go Go.RowKit
section
variable {P:Program} {m m':Mm} {h h':AH} {w w':World} {t:List AV} {a:Act} {o:Oper}
theorem C8 (hw:WR P m h w) (ht:TR P m h t a.tmps) (x:Operand) (ho:o.op= .move x∨o.op= .assign x):OpR P m h a w o (evA t x) h:=by
 refine OpR.pure hw (u:=a.eval x) ?_ (aD ht x)
 rcases ho with ho | ho<;>simp[execOp,ho]
theorem KF (hw:WR P m h w) (ht:TR P m h t a.tmps) (c x y:Operand) (ho:o.op= .pick c x y) {b:Bool} (hb:evA t c= .bool b):OpR P m h a w o (if b then evA t x else evA t y) h:=by
 have hc:=aD ht c
 rw[hb]at hc
 obtain⟨u,hu⟩:∃ u,a.eval c=u:=⟨_,rfl⟩
 rw[hu]at hc
 cases hc
 cases b
 ·exact OpR.pure hw (u:=a.eval y) (by simp[execOp,ho,hu,asBool]) (by simpa using aD ht y)
 ·exact OpR.pure hw (u:=a.eval x) (by simp[execOp,ho,hu,asBool]) (by simpa using aD ht x)
theorem Ak (hw:WR P m h w) (ht:TR P m h t a.tmps) (x:Operand) (ho:o.op= .nilCheck x) {v:AV} (hv:evA t x=v)
  (hk:(match v with | .ptr .. | .tptr .. | .ip .. | .fn .. | .iface .. =>true | _=>false)=true):OpR P m h a w o v h:=by
 have hc:=aD ht x
 rw[hv]at hc
 obtain⟨u,hu⟩:∃ u,a.eval x=u:=⟨_,rfl⟩
 rw[hu]at hc
 refine OpR.pure hw (u:=u) ?_ hc
 cases hc<;>simp at hk<;>simp[execOp,ho,hu]
theorem Kn (hw:WR P m h w) (ht:TR P m h t a.tmps) (op:UnOp) (ty:TypeId) (x:Operand) (ho:o.op= .unOp op ty x) {v:AV}
  (hv:unA op (evA t x)=some v):OpR P m h a w o v h:=by
 have hc:=aD ht x
 revert hv hc
 obtain⟨u,hu⟩:∃ u,a.eval x=u:=⟨_,rfl⟩
 rw[hu]
 generalize evA t x=ex
 intro hv hc
 cases op<;>cases hc<;>simp[unA]at hv
 ·subst hv
  exact OpR.pure hw (u:= .int _ _) (by simp[execOp,ho,hu,Op.unary,Op.intArith]) (.int _ _)
 ·subst hv
  exact OpR.pure hw (u:= .bool _) (by simp[execOp,ho,hu,Op.unary]) (.bool _)
theorem Ca (hw:WR P m h w) (ht:TR P m h t a.tmps) (src dst:TypeId) (x:Operand) (ho:o.op= .convert src dst x) {v:AV} (hs:(P.underlying src).isNone=false)
  (hv:cvA (bK P dst) (evA t x)=some v):OpR P m h a w o v h:=by
 have hc:=aD ht x
 revert hv hc
 obtain⟨u,hu⟩:∃ u,a.eval x=u:=⟨_,rfl⟩
 rw[hu]
 generalize evA t x=ex
 intro hv hc
 obtain⟨ds,hds⟩:∃ ds,P.underlying src=some ds:=Option.isSome_iff_exists.1 (by simpa[←Option.not_isSome]using hs)
 unfold bK at hv
 rcases hd:P.underlying dst with _ | dd
 ·simp[hd,cvA]at hv
 ·rw[hd]at hv
  cases dd<;>cases hc<;>simp[cvA]at hv
  ·subst hv
   exact OpR.pure hw (u:= .int _ _) (by
    simp only[execOp,ho,hu,convert,Sem.run_bind,run_underlying hds,run_underlying hd,Result.andThen_ok]
    cases ds<;>simp[Conv.intToInt]<;>rfl) (.int _ _)
  ·subst hv
   exact OpR.pure hw (u:= .string _) (by
    simp only[execOp,ho,hu,convert,Sem.run_bind,run_underlying hds,run_underlying hd,Result.andThen_ok]
    cases ds<;>simp<;>rfl) (.str _)
theorem j6 (hw:WR P m h w) (ht:TR P m h t a.tmps) (ty:TypeId) (x:Operand) (ho:o.op= .makeInterface ty x) (hp:kB P ty=true):OpR P m h a w o (.iface ty (evA t x)) h:=by
 unfold kB at hp
 rcases hd:P.underlying ty with _ | d
 ·simp[hd]at hp
 ·refine OpR.pure hw (u:= .iface ty (a.eval x)) ?_ (.iface _ _ _ (aD ht x))
  rw[hd]at hp
  simp only[execOp,ho,Instr.makeInterface,Sem.run_bind,run_underlying hd,Result.andThen_ok]
  cases d<;>simp at hp ⊢
theorem zu (hw:WR P m h w) (ht:TR P m h t a.tmps) (g:FuncId) (first captured:Array Operand) (ho:o.op= .makeFunc (.func g) first captured):
  OpR P m h a w o (.fn g (first.toList.map (evA t)) (captured.toList.map (evA t))) h:=by
 have h1:=VRs.map (P:=P) (m:=m) (h:=h) (f:=evA t) (g:=a.eval) (l:=first.toList) (fun x _=>aD ht x)
 have h2:=VRs.map (P:=P) (m:=m) (h:=h) (f:=evA t) (g:=a.eval) (l:=captured.toList) (fun x _=>aD ht x)
 refine OpR.pure hw (u:= .func (.func g) (first.toList.map a.eval).toArray (captured.toList.map a.eval).toArray) ?_ (.fn _ _ _ _ _ h1.1 h2.1 h1.2 h2.2)
 simp only[execOp,ho,Instr.makeFunc,Sem.run_bind,Sem.run_pure,Result.andThen_ok]
 have e:∀ xs:Array Operand,(xs.toList.map a.eval).toArray=xs.map a.eval:=fun xs=>by apply Array.ext';simp
 rw[e,e]
theorem Bq (hw:WR P m h w) (ht:TR P m h t a.tmps) (x:Operand) (i:Nat) (ho:o.op= .extract x i) {vs:List AV} {v:AV} (hv:evA t x= .tup vs) (hi:vs[i]? =some v):OpR P m h a w o v h:=by
 have hc:=aD ht x
 rw[hv]at hc
 obtain⟨u,hu⟩:∃ u,a.eval x=u:=⟨_,rfl⟩
 rw[hu]at hc
 cases hc with
 | tup _ l' h1 h3=>
   obtain⟨y,hy1,hy2⟩:=VRs.get? (l:=vs) (l':=l') ⟨h1,h3⟩ hi
   exact OpR.pure hw (u:=y) (by simp[execOp,ho,hu,Instr.extract,hy1]) hy2
theorem uv (hw:WR P m h w) (ht:TR P m h t a.tmps) (x:Operand) (xt aS:TypeId) (ok:Bool) (ho:o.op= .typeAssert x xt aS ok) {v:AV} (hv:evA t x= .iface aS v) (hp:kB P aS=true):
  OpR P m h a w o (if ok then .tup [v,.bool true]else v) h:=by
 have hc:=aD ht x
 rw[hv]at hc
 obtain⟨u,hu⟩:∃ u,a.eval x=u:=⟨_,rfl⟩
 rw[hu]at hc
 unfold kB at hp
 rcases hd:P.underlying aS with _ | d
 ·simp[hd]at hp
 ·rw[hd]at hp
  cases hc with
  | iface _ _ v' h1=>
    cases ok
    ·refine OpR.pure hw (u:=v') ?_ h1
     simp only[execOp,ho,hu,Instr.typeAssert,Sem.run_bind,run_underlying hd,Result.andThen_ok]
     cases d<;>simp at hp ⊢
    ·refine OpR.pure hw (u:= .tuple [v',.bool true].toArray) ?_ ?_
     ·simp only[execOp,ho,hu,Instr.typeAssert,Sem.run_bind,run_underlying hd,Result.andThen_ok]
      cases d<;>simp at hp ⊢
     ·have:=VRs.cons h1 (VRs.cons (VR.bool true) VRs.nil)
      exact .tup _ _ this.1 this.2
theorem cH {q:TypeId} (hq:szA P q≠0):∃ i,P.info? q=some i∧i.size=szA P q:=by
 unfold szA Program.cellsOf at*
 rcases hi:P.info? q with _ | i
 ·simp[hi]at hq
 ·exact⟨i,rfl,by simp⟩
theorem rD {q:TypeId} {d:TypeDesc} (hd:P.underlying q=some d):∃ i,P.info? q=some i:=by
 unfold Program.underlying at hd
 rcases hi:P.info? q with _ | i
 ·simp[hi]at hd
 ·exact⟨i,rfl⟩
theorem uW {s:TypeId} {f:Nat} {q:Nat×TypeId} (hq:((fF P s).bind (·[f]?))=some q):∃ fs fd,P.underlying s=some (.struct fs)∧fs[f]? =some fd∧fd.offset=q.1∧fd.type=q.2:=by
 unfold fF at hq
 split at hq
 ·rename_i fs hfs
  simp at hq
  obtain⟨fd,h1,h2⟩:=hq
  exact⟨fs,fd,hfs,h1,by rw[←h2],by rw[←h2]⟩
 ·simp at hq
theorem wC (hw:WR P m h w) (ht:TR P m h t a.tmps) (s:TypeId) (x:Operand) (f:Nat) (ho:o.op= .fieldAddr s x f) {q:Nat×TypeId} (hq:((fF P s).bind (·[f]?))=some q) (hz:szA P q.2≠0) {v:AV}
  (hv:aI q.1 (evA t x)=some v):OpR P m h a w o v h:=by
 obtain⟨fs,fd,h1,h2,h3,h4⟩:=uW hq
 obtain⟨i0,hi0,hi1⟩:=cH hz
 have hc:=aD ht x
 revert hv hc
 obtain⟨u,hu⟩:∃ u,a.eval x=u:=⟨_,rfl⟩
 rw[hu]
 generalize evA t x=ex
 intro hv hc
 have run:∀ g off,(execOp a.eval o).run P w= .ok (.value (.pointer (some ⟨g,off+q.1,none⟩))) w∨u≠.pointer (some ⟨g,off,none⟩):=by
  intro g off
  by_cases hug:u= .pointer (some ⟨g,off,none⟩)
  ·left
   subst hug
   simp only[execOp,ho,hu,Instr.fieldAt,Sem.run_bind,run_underlying h1,Result.andThen_ok,h2,Instr.sureAddr,Sem.run_pure,fieldPlace,h4,sizeOf,typeInfo,run_program,hi0,hi1,hz,if_false,h3,Addr.add_lit]
  ·exact .inr hug
 cases hc<;>simp[aI]at hv
 ·rename_i b i off hb
  subst hv
  refine OpR.pure hw (u:= .pointer (some ⟨m.blk b,i*P.cellsOf (m.bt b)+(off+q.1),none⟩)) ?_ (.ptr b i _ hb)
  have:=(run (m.blk b) (i*P.cellsOf (m.bt b)+off)).resolve_right (by simp)
  rwa [Nat.add_assoc]at this
 ·rename_i t' b hb ht'
  have:=(run (m.blk b) 0).resolve_right (by simp)
  rw[Nat.zero_add]at this
  by_cases hz0:q.1=0
  ·rw[if_pos hz0]at hv
   subst hv
   rw[hz0]at this
   exact OpR.pure hw this (.tptr _ b hb ht')
  ·rw[if_neg hz0]at hv
   subst hv
   have hp:=VR.ptr (P:=P) (m:=m) (h:=h) b 0 q.1 hb
   rw[Nat.zero_mul,Nat.zero_add]at hp
   exact OpR.pure hw this hp
 ·rename_i e off g o' F hi hv'
  subst hv
  refine OpR.pure hw (u:= .pointer (some ⟨g,o'+(off+q.1),none⟩)) ?_ (.ip e _ g o' F hi hv')
  have:=(run g (o'+off)).resolve_right (by simp)
  rwa [Nat.add_assoc]at this
end
open Go Go.RowKit
section
variable {P:Program} {m m':Mm} {h h':AH} {w w':World} {t:List AV} {a:Act} {o:Oper}
theorem sR (ty:TypeId) {d:TypeDesc} (hd:P.underlying ty=some d) (hz:szA P ty≠0) {cs:List AV} {cs':List Value} (hr:VRs P m h cs cs') (off:Nat) {v:AV} (hv:ldA (f9 P ty) (szA P ty) cs off=some v):
  ∃ u,(part ty cs'.toArray off).run P w= .ok u w∧VR P m h v u:=by
 obtain⟨i0,hi0,hi1⟩:=cH hz
 unfold ldA at hv
 unfold part
 simp only[Sem.run_bind,rO ty hd,Result.andThen_ok]
 cases hag:f9 P ty
 ·simp only[hag,Bool.false_eq_true,if_false]at hv ⊢
  obtain⟨u,h1,h2⟩:=hr.get? hv
  exact⟨u,by simp[h1],h2⟩
 ·simp only[hag,if_true]at hv ⊢
  split at hv
  ·rename_i hle
   injection hv with hv
   subst hv
   refine⟨.agg ((cs'.drop off).take (szA P ty)).toArray,?_,?_⟩
   ·simp[sizeOf,typeInfo,hi0,hi1]
   ·refine .agg _ _ (by simp[hr.1]) (fun j hj hj'=> ?_)
    simp only[List.getElem_take,List.getElem_drop]
    exact hr.2 _ _ _
  ·cases hv
theorem IN (hw:WR P m h w) (ht:TR P m h t a.tmps) (s:TypeId) (x:Operand) (f:Nat) (ho:o.op= .field s x f) {q:Nat×TypeId} (hq:((fF P s).bind (·[f]?))=some q) (hz:szA P q.2≠0) (hu2:P.underlying q.2≠none) {cs:List AV} {v:AV}
  (hx:evA t x= .agg cs) (hv:ldA (f9 P q.2) (szA P q.2) cs q.1=some v):OpR P m h a w o v h:=by
 obtain⟨fs,fd,h1,h2,h3,h4⟩:=uW hq
 have hc:=aD ht x
 rw[hx]at hc
 obtain⟨u,hu⟩:∃ u,a.eval x=u:=⟨_,rfl⟩
 rw[hu]at hc
 obtain⟨d,hd⟩:=Option.ne_none_iff_exists'.1 hu2
 cases hc with
 | agg _ l' g1 g3=>
   obtain⟨u',r1,r2⟩:=sR (w:=w) q.2 hd hz (cs:=cs) (cs':=l') ⟨g1,g3⟩ q.1 hv
   refine OpR.pure hw (u:=u') ?_ r2
   simp[execOp,ho,hu,Instr.field,run_underlying h1,h2,asAgg,h3,h4,r1]
theorem dP {ty e:TypeId} (he:dL P ty=some e):P.underlying ty=some (.slice e):=by
 unfold dL at he
 split at he
 case isFalse=>cases he
 split at he
 ·rename_i e' h1
  injection he with he
  rw[h1,he]
 ·cases he
theorem gz (hT:mM P) {ty e:TypeId} (he:dL P ty=some e):0<P.cellsOf e:=by
 have h:=he
 unfold dL at h
 split at h
 ·rename_i hlt
  exact hT.pos ty e hlt (dP he)
 ·cases h
theorem Dm {e:TypeId} {z:List AV} (hz:d8 P e=some z):e<P.types.size:=by
 unfold d8 at hz
 split at hz
 ·assumption
 ·cases hz
theorem qO {ty:TypeId} {q:Nat×TypeId} (he:nP P ty=some q):P.underlying ty=some (.array q.1 q.2):=by
 unfold nP at he
 split at he
 ·rename_i n e h1
  injection he with he
  rw[h1,←he]
 ·cases he
theorem xR (hT:mM P) (hw:WR P m h w) (ht:TR P m h t a.tmps) (ty:TypeId) (x ix:Operand) (ho:o.op= .indexAddr ty x ix) {v:AV}
  (hv:dW P ty (evA t x) (evA t ix)=some v):OpR P m h a w o v h:=by
 have hc:=aD ht x
 have hk:=aD ht ix
 revert hv hc hk
 obtain⟨u,hu⟩:∃ u,a.eval x=u:=⟨_,rfl⟩
 obtain⟨ku,hku⟩:∃ ku,a.eval ix=ku:=⟨_,rfl⟩
 rw[hu,hku]
 generalize evA t x=ex
 generalize evA t ix=ek
 intro hv hc hk
 cases hc with
 | isl0 e a' cap=>
   cases hk with
   | int kk k=>
     simp only[dW]at hv
     split at hv
     ·simp at hv
     ·cases hv
   | _=>simp[dW]at hv
 | isl id e es g o' cap F hl hi hvv hcap htt=>
   cases hk with
   | int kk k=>
     simp only[dW]at hv
     split at hv
     ·rename_i hcond
      obtain⟨he,hk0⟩:=hcond
      have hes:=dP he
      have hpos:=gz hT he
      obtain⟨r,hr,hv⟩:=Option.map_eq_some_iff.1 hv
      obtain⟨hlt,hr2⟩:=List.getElem?_eq_some_iff.1 hr
      obtain⟨i0,hi0,hi1⟩:=cH (P:=P) (q:=e) (by unfold szA;omega)
      have hlen:r.length=P.cellsOf e:=hl r (hr2 ▸ List.getElem_mem hlt)
      subst hv
      refine OpR.pure hw (u:= .pointer (some ⟨g,o'+k.toNat*P.cellsOf e+0,none⟩)) ?_ (.ip r 0 g (o'+k.toNat*P.cellsOf e) (F k.toNat) ?_ ?_)
      ·have hki:k<(es.length:Int):=by omega
       have h1:i0.size=P.cellsOf e:=hi1
       simp only[execOp,ho,hu,hku,Instr.indexAt,asIntOf,Sem.run_bind,Sem.run_pure,Result.andThen_ok,run_underlying hes,hk0,hki,and_self,if_true,sizeOf,typeInfo,run_program,hi0,h1,Addr.add_lit,Nat.add_zero]
      ·intro j hj
       rw[Nat.add_assoc]
       exact hi k.toNat hlt j (by omega)
      ·intro j hj
       have:=hvv k.toNat hlt j (by rw[hr2];exact hj)
       simpa only[hr2]using this
     ·cases hv
   | _=>simp[dW]at hv
 | msl b o' n e cap hb he' hcap hn hmx=>
   cases hk with
   | int kk k=>
     simp only[dW]at hv
     split at hv
     ·rename_i hcond
      obtain⟨he,hk0,hkn⟩:=hcond
      have hes:=dP he
      have hpos:=gz hT he
      obtain⟨i0,hi0,hi1⟩:=cH (P:=P) (q:=e) (by unfold szA;omega)
      injection hv with hv
      subst hv
      have hp:=VR.ptr (P:=P) (m:=m) (h:=h) b (o'+k.toNat) 0 hb
      rw[he']at hp
      refine OpR.pure hw (u:= .pointer (some ⟨m.blk b,(o'+k.toNat)*P.cellsOf e+0,none⟩)) ?_ hp
      have h1:i0.size=P.cellsOf e:=hi1
      simp only[execOp,ho,hu,hku,Instr.indexAt,asIntOf,Sem.run_bind,Sem.run_pure,Result.andThen_ok,run_underlying hes,hk0,hkn,and_self,if_true,sizeOf,typeInfo,run_program,hi0,h1,Addr.add_lit,Nat.add_zero,Nat.add_mul]
     ·cases hv
   | _=>simp[dW]at hv
 | ptr b i off hb=>
   cases hk with
   | int kk k=>
     simp only[dW]at hv
     obtain⟨q,hq,hv⟩:=Option.bind_eq_some_iff.1 hv
     split at hv
     ·rename_i hcond
      obtain⟨hz,hk0,hkn⟩:=hcond
      have har:=qO hq
      obtain⟨i0,hi0,hi1⟩:=cH hz
      injection hv with hv
      subst hv
      have hp:=VR.ptr (P:=P) (m:=m) (h:=h) b i (off+k.toNat*szA P q.2) hb
      refine OpR.pure hw (u:=_) ?_ hp
      simp only[execOp,ho,hu,hku,Instr.indexAt,asIntOf,Instr.sureAddr,Sem.run_bind,Sem.run_pure,Result.andThen_ok,run_underlying har,hk0,hkn,and_self,if_true,sizeOf,typeInfo,run_program,hi0,hi1,Addr.add_lit,Nat.add_assoc]
     ·cases hv
   | _=>simp[dW]at hv
 | ip e off g o' F hi hvv=>
   cases hk with
   | int kk k=>
     simp only[dW]at hv
     obtain⟨q,hq,hv⟩:=Option.bind_eq_some_iff.1 hv
     split at hv
     ·rename_i hcond
      obtain⟨hz,hk0,hkn⟩:=hcond
      have har:=qO hq
      obtain⟨i0,hi0,hi1⟩:=cH hz
      injection hv with hv
      subst hv
      have hp:=VR.ip (P:=P) (m:=m) (h:=h) e (off+k.toNat*szA P q.2) g o' F hi hvv
      refine OpR.pure hw (u:=_) ?_ hp
      simp only[execOp,ho,hu,hku,Instr.indexAt,asIntOf,Instr.sureAddr,Sem.run_bind,Sem.run_pure,Result.andThen_ok,run_underlying har,hk0,hkn,and_self,if_true,sizeOf,typeInfo,run_program,hi0,hi1,Addr.add_lit,Nat.add_assoc]
     ·cases hv
   | _=>simp[dW]at hv
 | _=>simp[dW]at hv
theorem Nm (l:List UInt8) (n:Nat):(⟨l.toArray⟩:ByteArray)[n]? =l[n]? :=by
 by_cases hn:n<l.length
 ·rw[ByteArray.getElem?_lt' _ _ (by simpa[ByteArray.size]using hn),List.getElem?_eq_getElem hn]
  rfl
 ·rw[ByteArray.getElem?_ge' _ _ (by simpa[ByteArray.size]using hn),List.getElem?_eq_none (by omega)]
theorem Jz (hw:WR P m h w) (ht:TR P m h t a.tmps) (ty:TypeId) (x ix:Operand) (ho:o.op= .index ty x ix) {v:AV}
  (hv:ixA P ty (evA t x) (evA t ix)=some v):OpR P m h a w o v h:=by
 have hc:=aD ht x
 have hk:=aD ht ix
 revert hv hc hk
 obtain⟨u,hu⟩:∃ u,a.eval x=u:=⟨_,rfl⟩
 obtain⟨ku,hku⟩:∃ ku,a.eval ix=ku:=⟨_,rfl⟩
 rw[hu,hku]
 generalize evA t x=ex
 generalize evA t ix=ek
 intro hv hc hk
 cases hc with
 | str l=>
   cases hk with
   | int kk k=>
     simp only[ixA]at hv
     split at hv
     ·rename_i hcond
      obtain⟨hs,hk0⟩:=hcond
      obtain⟨c,hcc,hv⟩:=Option.map_eq_some_iff.1 hv
      subst hv
      unfold eH at hs
      split at hs
      ·rename_i hun
       refine OpR.pure hw (u:= .int .u8 c.toNat) ?_ (.int _ _)
       simp only[execOp,ho,hu,hku,Instr.index,asIntOf,Sem.run_bind,Sem.run_pure,Result.andThen_ok,run_underlying hun,hk0,if_true,Nm,hcc]
      ·cases hs
     ·cases hv
   | _=>simp[ixA]at hv
 | agg cs l' g1 g3=>
   cases hk with
   | int kk k=>
     simp only[ixA]at hv
     obtain⟨q,hq,hv⟩:=Option.bind_eq_some_iff.1 hv
     split at hv
     ·rename_i hcond
      obtain⟨hqs,hz,hk0,hkn⟩:=hcond
      have har:=qO hq
      obtain⟨i0,hi0,hi1⟩:=cH hz
      obtain⟨d,hd⟩:=Option.isSome_iff_exists.1 hqs
      obtain⟨u',r1,r2⟩:=sR (w:=w) q.2 hd hz (cs:=cs) (cs':=l') ⟨g1,g3⟩ _ hv
      refine OpR.pure hw (u:=u') ?_ r2
      simp only[execOp,ho,hu,hku,Instr.index,asIntOf,Sem.run_bind,Sem.run_pure,Result.andThen_ok,run_underlying har,hk0,hkn,and_self,if_true,sizeOf,typeInfo,run_program,hi0,hi1,r1]
     ·cases hv
   | _=>simp[ixA]at hv
 | _=>simp[ixA]at hv
end
open Go Go.RowKit
section
variable {P:Program} {m m':Mm} {h h':AH} {w w':World} {t:List AV} {a:Act} {o:Oper}
theorem qQ (l:List UInt8):(⟨l.toArray⟩:ByteArray).size=l.length:=by
 show l.toArray.size=_
 simp
theorem Ng (hw:WR P m h w) (ht:TR P m h t a.tmps) (mx:Bool) (x y:Operand) (c:Call) (ho:o.op= .call c) (hc:c.callee= .builtin (if mx then .max else .min)) (ha:c.args= #[x,y]) {v:AV} (hn:mmA mx (evA t x) (evA t y)=some v):OpR P m h a w o v h:=by
 have vx:=aD ht x
 have vy:=aD ht y
 revert hn vx vy
 obtain⟨u,hu⟩:∃ u,a.eval x=u:=⟨_,rfl⟩
 obtain⟨u',hu'⟩:∃ u,a.eval y=u:=⟨_,rfl⟩
 rw[hu,hu']
 generalize evA t x=ex
 generalize evA t y=ey
 intro hn vx vy
 unfold mmA at hn
 split at hn
 ·injection hn with hn
  subst hn
  cases vx
  cases vy
  obtain⟨callee,args,argTypes⟩:=c
  simp only at hc ha
  subst hc ha
  cases mx
  ·refine OpR.pure hw (u:= .int _ _) ?_ (.int _ _)
   simp[execOp,ho,hu,hu',resolve,invoke,builtin,Builtin.min_,Builtin.min2]
  ·refine OpR.pure hw (u:= .int _ _) ?_ (.int _ _)
   simp[execOp,ho,hu,hu',resolve,invoke,builtin,Builtin.max_,Builtin.max2]
 ·cases hn
theorem Oh (hw:WR P m h w) (ht:TR P m h t a.tmps) (x:Operand) (ty:TypeId) (tys:List TypeId) (ho:o.op= .call {callee:= .builtin .len,args:= #[x],argTypes:=(ty::tys).toArray}) {n:Nat} (hf:oF P ty (evA t x)=true) (hn:dR (evA t x)=some n):
  OpR P m h a w o (i64 n) h:=by
 have hc:=aD ht x
 revert hf hn hc
 obtain⟨u,hu⟩:∃ u,a.eval x=u:=⟨_,rfl⟩
 rw[hu]
 generalize evA t x=ex
 intro hf hn hc
 refine OpR.pure hw (u:= .int .i64 n) ?_ (.int _ _)
 have pre:(execOp a.eval o).run P w=((Builtin.len_ (ty::tys).toArray o.type #[u]).run P w).andThen fun v w'=> .ok (.value v) w':=by
  simp[execOp,ho,resolve,invoke,builtin,hu]
 rw[pre]
 cases hc<;>simp[dR,oF]at hf hn
 ·subst hn
  unfold eH at hf
  split at hf
  ·rename_i hd
   simp[Builtin.len_,run_underlying hd,goInt,qQ]
  ·cases hf
 ·subst hn
  unfold xP at hf
  obtain⟨e,he⟩:=Option.isSome_iff_exists.1 hf
  simp[Builtin.len_,run_underlying (dP he),goInt]
 all_goals
  subst hn
  simp[Builtin.len_,run_underlying (dP hf),goInt]
def pD:Value→Value→Bool
 | .nilIface,.nilIface=>false
 | .agg _,.agg _=>false
 | _,_=>true
theorem uD (op:BinOp) (ty:TypeId) (x y:Operand) (u v:Value) (hne:pD u v=true):(eqGuard op ty x y u v).run P w= .ok () w:=by
 cases op<;>first | rfl | (cases u<;>first | rfl | (cases v<;>first | rfl | simp[pD]at hne))
theorem qM (op:BinOp) (ty yt:TypeId) (x y:Operand) (ho:o.op= .binOp op ty x y yt) {u v r:Value} (hu:a.eval x=u) (hv:a.eval y=v) (hne:pD u v=true)
  (hr:(binOp op ty u v).run P w= .ok r w):(execOp a.eval o).run P w= .ok (.value r) w:=by
 simp only[execOp,ho,hu,hv,Sem.run_bind,uD op ty x y u v hne,Result.andThen_ok,hr,Sem.run_pure]
theorem JZ (op:BinOp) (ty:TypeId) (k k':IntKind) (x y:Int) {v:AV} (kd:Kd) (hv:bw kd op (.int k x) (.int k' y)=some v):∃ r,(binOp op ty (.int k x) (.int k' y)).run P w= .ok r w∧VR P m h v r:=by
 cases op
 case shl=>
  simp only[bw]at hv
  split at hv
  ·cases hv
  ·rename_i h0
   injection hv with hv
   subst hv
   exact⟨_,by simp[binOp,Op.shift,h0],.int _ _⟩
 case shr=>
  simp only[bw]at hv
  split at hv
  ·cases hv
  ·rename_i h0
   injection hv with hv
   subst hv
   exact⟨_,by simp[binOp,Op.shift,h0],.int _ _⟩
 case rem=>
  simp only[bw]at hv
  split at hv
  ·rename_i hk
   subst hk
   simp only[ly]at hv
   split at hv
   ·cases hv
   ·rename_i h0
    injection hv with hv
    subst hv
    exact⟨_,by simp[binOp,Op.intDiv,h0],.int _ _⟩
  ·cases hv
 all_goals
  simp only[bw]at hv
  split at hv
  ·rename_i hk
   subst hk
   first
   | (simp only[ly]at hv;injection hv with hv;subst hv;first
     | (refine⟨_,?_,.int _ _⟩;simp[binOp,Op.intArith];done)
     | (refine⟨_,?_,.int _ _⟩;simp[binOp,Op.intBits];done)
     | (refine⟨_,?_,.bool _⟩;simp[binOp,Op.intCmp];done))
   | (simp[ly]at hv)
  ·cases hv
theorem JS (op:BinOp) (ty:TypeId) (x y:List UInt8) {v:AV} (kd:Kd) (hv:bw kd op (.str x) (.str y)=some v):∃ r,(binOp op ty (.string ⟨x.toArray⟩) (.string ⟨y.toArray⟩)).run P w= .ok r w∧VR P m h v r:=by
 cases op<;>simp only[bw]at hv<;>try (cases hv;done)
 ·split at hv
  ·rename_i hle
   injection hv with hv
   subst hv
   refine⟨.string ⟨(x++y).toArray⟩,?_,.str _⟩
   have h1:¬ (IntKind.i64.max<(x.length:Int)+(y.length:Int)):=by
    simp[IntKind.max,IntKind.bits,IntKind.signed]
    omega
   have e:(⟨x.toArray⟩:ByteArray)++⟨y.toArray⟩=⟨(x++y).toArray⟩:=by
    apply ByteArray.ext
    simp
   simp[binOp,Op.stringOp,qQ,h1,e]
   omega
  ·cases hv
 ·injection hv with hv
  subst hv
  exact⟨_,by simp[binOp,Op.stringOp,bne],.bool _⟩
 ·injection hv with hv
  subst hv
  exact⟨_,by simp[binOp,Op.stringOp,bne],.bool _⟩
set_option maxHeartbeats 1000000 in
theorem Ge (ty:TypeId) {x y:AV} {u v:Value} {b:Bool} (hb:eqA (bK P ty) x y=some b) (hx:VR P m h x u) (hy:VR P m h y v):
  pD u v=true∧(binOp .eql ty u v).run P w= .ok (.bool b) w∧(binOp .neq ty u v).run P w= .ok (.bool !b) w:=by
 have hk:(bK P ty= .bool∨bK P ty= .ptr∨bK P ty= .slice)∨(bK P ty= .func∨bK P ty= .iface):=by
  revert hb
  generalize bK P ty=kd
  intro hb
  unfold eqA at hb
  split at hb<;>simp_all
 rcases hk with(hk | hk | hk) | (hk | hk)
 all_goals
  have hd:=hk
  unfold bK at hd
  rw[hk]at hb
  split at hd<;>simp at hd
 all_goals
  rename_i hd'
  have fin:∀ {u v:Value},pD u v=true→(∀ d,(Op.equalIn (d+1) ty u v).run P w= .ok b w)→(∀ op,op=BinOp.eql∨op=BinOp.neq→binOp op ty u v=(match op with | .eql=>(do pure (.bool (←Op.equal ty u v))) | _=>(do pure (.bool (!(←Op.equal ty u v)))):Sem Value))→
    pD u v=true∧(binOp .eql ty u v).run P w= .ok (.bool b) w∧(binOp .neq ty u v).run P w= .ok (.bool !b) w:=by
   intro u v h1 h2 h3
   have h4:(Op.equal ty u v).run P w= .ok b w:=h2 9999
   refine⟨h1,?_,?_⟩
   ·rw[h3 _ (.inl rfl)]
    simp[h4]
   ·rw[h3 _ (.inr rfl)]
    simp[h4]
  cases hx<;>simp[eqA]at hb<;>cases hy<;>simp[eqA]at hb<;>(try subst hb)<;>refine fin rfl (fun d=> ?_) (fun op ho=>by rcases ho with rfl | rfl<;>rfl)<;>simp[Op.equalIn,run_underlying hd']
end
end Go.Proofs.Ytkdbjfncchmmpaa
