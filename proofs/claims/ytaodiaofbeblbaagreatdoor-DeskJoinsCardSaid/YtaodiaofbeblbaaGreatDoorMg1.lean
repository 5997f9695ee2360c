/- Plain laws on '&', '|' of 64-bit integers, by bit vectors. No program in sight. -/
import Derived.WalkKit
import Derived.WalkSpells
import Derived.Deep.Draws
import Derived.Laws.Rows
import Derived.Maps.AppendAt
import Derived.Deep.AppendLies
import Derived.Laws.ResultCell
import Derived.Lib.LaidTab
import Derived.Lib.ItoaNum
import Derived.Laws.StructEq
import Derived.Laws.CopyRow
import Derived.Lib.SliceRun
import Derived.Laws.Pointers
import Derived.WideLaws
import Derived.Great.FillDense
set_option linter.unusedSimpArgs false
set_option linter.unusedVariables false
set_option maxHeartbeats 4000000
set_option maxRecDepth 1000000
open List renaming replicate→ar,length_append→dy,length_cons→dw,getElem?_eq_some_iff→fR,getElem?_eq_getElem→gd,length_singleton→fS,length_nil→ey,getD→dm,length_map→gG,getElem_mem→hf,map_cons→gP,mem_cons→gW,all_eq_true→iC,append_assoc→jA,getElem?_eq_none→lN,range→iO,getElem?_append_left→ph,map_nil→kK,getElem?_append_right→rx,mem_append→pq,length_drop→sK,mem_singleton→vp
open Option renaming some→j,none→Z,bind_eq_some_iff→dt,map_eq_some_iff→dl,bind_some→da,map_some→g3,getD_some→ns,isSome_iff_exists→w0
open Nat renaming le_refl→bS,lt_of_lt_of_le→eF,le_trans→ee,zero_add→gH,zero_le→hK,lt_or_ge→oI,add_assoc→p0,le_of_eq→p3
open Go.IntKind renaming i64→o,wrap→hq
open Bool renaming false→R,true→Q,false_eq_true→nx
open Go renaming TypeId→aU,Program→cu,Value→bH,Oper→bb,run_underlying→fY,FuncId→cH,World→cd,Operand→fM,execOp→e9,undef→fy,Code→ef,IntKind→kf
open Option.some renaming injEq→hg,inj→tR
open Go.Result renaming andThen_ok→hD
open Go.Sem renaming run_bind→hM,run_pure→kX
open Go.Region renaming binds→kv,before→mA
open SizeOf renaming sizeOf→mV
open Go.RowKit.Below renaming refl→kZ
open BitVec renaming ofInt→nS
open Go.Addr renaming add_lit→nW
open Ne renaming symm→lo
open String renaming singleton→tS
open Go.Builtin renaming append_→vv
open Go.Act renaming put→px
namespace Go.Proofs.YtaodiaofbeblbaaGreatDoor
variable{aV:List Int}{dh:Bool}{y:ef}{bU:List bb}{u:bH}{ty:aU}
open Go.RowKit
theorem aj3(x:BitVec 64):o.wrap (x.toNat:Int)=x.toInt:=by have h:=x.isLt;rw[BitVec.toInt_eq_toNat_cond,IntKind.wrap_i64];split<;>omega
theorem M8(a b:Int):bits .and o a b=(nS 64 a&&& nS 64 b).toInt:=aj3 _
theorem Iq(x:BitVec 64):nS 64 x.toInt=x:=BitVec.ofInt_toInt
def pY(a b:Int):Int:=bits .and o a b
def Cf(a b:Int):Bool:=pY a b==b
theorem aj4(x y:BitVec 64):pY x.toInt y.toInt=(x&&& y).toInt:=by unfold pY;rw[M8,Iq,Iq]
theorem UA(x y:BitVec 64):Cf x.toInt y.toInt=decide (x&&& y=y):=by unfold Cf;rw[aj4,Bool.eq_iff_iff,beq_iff_eq,BitVec.toInt_inj,decide_eq_true_eq]
def zQ(a:Int):Bool:=decide (0<=a/\a<=15)
def gO(a:Int)(i:Nat):Bool:=bits .and o (a / 2 ^ i) 1==1
open Go.RowKit
structure gr where
 (parent gate fm cell bD func:Int)
def lK:gr:=⟨0,0,0,0,0,0⟩
structure be where
 nodes:List gr
 shut:List Bool
def be.has(G:be)(n:Int):Bool:=decide (0<=n/\n<G.nodes.length)
def be.oH(G:be)(k:Int):Bool:=decide (0<=k/\k<G.shut.length)
def be.EH(G:be)(k:Int):Bool:=G.oH k&& !(G.shut.getD k.toNat R)
def be.gate(G:be):be×Int×Int:=if G.shut.length=20 then(G,0,11)else(⟨G.nodes,G.shut++[R]⟩,G.shut.length,0)
def be.cut(G:be)(k:Int):be×Int:=if G.oH k then(⟨G.nodes,G.shut.set k.toNat Q⟩,0)else(G,8)
def be.add(G:be)(n:gr):be×Int×Int:=
 if zQ n.fm=R then(G,0,1)
 else if n.gate≠ -1/\G.oH n.gate=R then(G,0,8)
 else if G.nodes.length=80 then(G,0,11)
 else(⟨G.nodes++[n],G.shut⟩,G.nodes.length,0)
def wL(c:Int):Bool:=decide (0<=c/\c<12)
def EI(p f:Int):Bool:=decide (0<=p/\p<4/\0<=f/\f<6)
def be.lL(G:be)(c r g:Int):be×Int×Int:=if wL c then G.add ⟨-1,g,r,c, -1,0⟩else(G,0,1)
def be.lM(G:be)(p f r g:Int):be×Int×Int:=if EI p f then G.add ⟨-1,g,r,0,p,f⟩else(G,0,1)
def be.derive(G:be)(p r g:Int):be×Int×Int:=if G.has p then G.add ⟨p,g,r,0, -1,0⟩else(G,0,8)
structure Cg(s:Nat)(i:Nat)(n:gr):Prop where
 hd: -1<=n.parent
 dU:n.parent<i
 r:zQ n.fm=Q
 g:n.gate= -1\/0<=n.gate/\n.gate<s
 t:n.parent= -1->n.bD= -1/\0<=n.cell/\n.cell<12/\n.func=0\/0<=n.bD/\n.bD<4/\0<=n.func/\n.func<6/\n.cell=0
structure be.dE(G:be):Prop where
 qG:G.nodes.length<=80
 ec:G.shut.length<=20
 node:∀(i:Nat) (n:gr),G.nodes[i]? =j n->Cg G.shut.length i n
theorem Cg.more{s eD i:Nat}{n:gr}(h:Cg s i n)(az:s<=eD):Cg eD i n:=⟨h.hd,h.dU,h.r,h.g.imp id (λ⟨a,b⟩=>⟨a,by omega⟩),h.t⟩
theorem aj5:be.dE ⟨[],[]⟩:=⟨by simp,by simp,λi n h=>by simp at h⟩
theorem be.dE.gate{G:be}(h:G.dE):G.gate.1.dE:=by
 unfold be.gate;split
 ·exact h
 ·have:=h.ec;exact⟨h.qG,by simp;omega,λi n aq=>(h.node i n aq).more (by simp)⟩
theorem be.dE.cut{G:be}(h:G.dE)(k:Int):(G.cut k).1.dE:=by
 unfold be.cut;split
 ·exact⟨h.qG,by simpa using h.ec,λi n aq=>by simpa using h.node i n aq⟩
 ·exact h
theorem be.dE.add{G:be}(h:G.dE){n:gr}(am: -1<=n.parent)(F:n.parent<G.nodes.length)(aO:n.parent= -1->n.bD= -1/\0<=n.cell/\n.cell<12/\n.func=0\/0<=n.bD/\n.bD<4/\0<=n.func/\n.func<6/\n.cell=0):(G.add n).1.dE:=by
 unfold be.add;split
 ·exact h
 ·rename_i aj;split
  ·exact h
  ·rename_i a7;split
   ·exact h
   ·have:=h.qG;refine⟨by simp;omega,h.ec,λi m hm=>?_⟩;show Cg G.shut.length i m;simp only at hm;by_cases ae:i<G.nodes.length
    ·rw[ph ae]at hm;exact h.node i m hm
    ·rw[rx (by omega)]at hm;have gw:i - G.nodes.length=0:=by have:=(fR.1 hm).1;simpa using this
     rw[gw]at hm;simp at hm;subst hm;refine⟨am,by omega,by simpa using aj,?_,aO⟩;by_cases e:n.gate= -1
     ·exact .inl e
     ·right;have gc:G.oH n.gate=Q:=by
       cases bz:G.oH n.gate
       ·exact absurd ⟨e,bz⟩ a7
       ·rfl
      simpa[be.oH]using gc
theorem be.dE.lL{G:be}(h:G.dE)(c r g:Int):(G.lL c r g).1.dE:=by
 unfold be.lL;split
 ·rename_i al;simp[wL]at al;exact h.add (by simp) (by simp;omega) (λ_=>.inl ⟨rfl,al.1,al.2,rfl⟩)
 ·exact h
theorem be.dE.lM{G:be}(h:G.dE)(p f r g:Int):(G.lM p f r g).1.dE:=by
 unfold be.lM;split
 ·rename_i al;simp[EI]at al;exact h.add (by simp) (by simp;omega) (λ_=>.inr ⟨al.1,al.2.1,al.2.2.1,al.2.2.2,rfl⟩)
 ·exact h
theorem be.dE.derive{G:be}(h:G.dE)(p r g:Int):(G.derive p r g).1.dE:=by
 unfold be.derive;split
 ·rename_i al;simp[be.has]at al;exact h.add (by simp;omega) (by simp;omega) (λe=>by simp at e;omega)
 ·exact h
def be.np(G:be):Nat->Int->List gr
 |0,_=>[]
 |f+1,i=>if G.has i then(G.nodes.getD i.toNat lK)::G.np f (G.nodes.getD i.toNat lK).parent else[]
def be.path(G:be)(i:Int):List gr:=G.np (i.toNat+1) i
theorem be.dE.get{G:be}(h:G.dE){i:Int}(ae:G.has i=Q):Cg G.shut.length i.toNat (G.nodes.getD i.toNat lK):=by
 simp[be.has]at ae;have ai:i.toNat<G.nodes.length:=by omega
 have e:G.nodes[i.toNat]? =j (G.nodes.getD i.toNat lK):=by simp[dm,ai]
 exact h.node _ _ e
theorem be.aj6{G:be}(h:G.dE):∀(f:Nat) (i:Int),i.toNat<f->G.np f i=G.path i:=by
 intro f;induction f using Nat.strongRecOn with
 |_ f aW=>
   intro i ae;cases f with
   |zero=>omega
   |succ f=>
     unfold be.path;by_cases bz:G.has i=Q
     ·have ok:=h.get bz;have hp:=ok.hd;have wM:=ok.dU;have gw:0<=i:=by simp[be.has]at bz;exact bz.1
      unfold be.np;rw[if_pos bz,if_pos bz];congr 1;generalize (G.nodes.getD i.toNat lK).parent=p at*;by_cases M9:p<0
      ·have pi:G.has p=R:=by simp[be.has];omega
       cases f with
       |zero=>cases aq:i.toNat<;>simp[be.np,pi]
       |succ f=>cases aq:i.toNat<;>simp[be.np,pi]
      ·have av:=aW f (by omega) p (by omega);rw[av];rcases oI i.toNat (f+1)with J|J
       ·have ax:=aW i.toNat (by omega) p (by omega);rw[ax]
       ·omega
     ·cases f<;>simp[be.np,bz]
theorem be.UB{G:be}(h:G.dE){i:Int}(ae:G.has i=Q):G.path i=(G.nodes.getD i.toNat lK)::G.path (G.nodes.getD i.toNat lK).parent:=by
 have ok:=h.get ae;have wM:=ok.dU;have zR:=ok.hd;have gw:0<=i:=by simp[be.has]at ae;exact ae.1
 rw[be.path,be.np,if_pos ae];congr 1;generalize (G.nodes.getD i.toNat lK).parent=p at*;by_cases M9:p<0
 ·have pi:G.has p=R:=by simp[be.has];omega
  unfold be.path;cases i.toNat<;>simp[be.np,pi]
 ·exact be.aj6 h _ _ (by omega)
theorem be.yk{G:be}{i:Int}(ae:G.has i=R):G.path i=[]:=by rw[be.path,be.np,ae];rfl
def tH(G:be)(n:gr):Bool:=decide (0<=n.gate)&& !G.EH n.gate
def be.fm(G:be)(i:Int):Int:=if G.path i=[]\/(G.path i).any (tH G)then 0 else(G.path i).foldl (λr n=>pY r n.fm) 15
def be.target(G:be)(i:Int):gr×Bool:=((G.path i).getLastD lK,!(G.path i).isEmpty)
def qH(l:List gr):List Int:=(l.filter λn=>decide (0<=n.gate)).map (·.gate)
def be.ry(G:be)(i:Int):List Int:=qH (G.path i)
inductive ay where
 |mk (kind n:Int) (l:List ay)
def ay.kind:ay->Int
 |.mk k _ _=>k
def ay.n:ay->Int
 |.mk _ n _=>n
def ay.l:ay->List ay
 |.mk _ _ l=>l
theorem ay.eta(x:ay):x= .mk x.kind x.n x.l:=by cases x;rfl
theorem ay.pj{x y:ay}(h:y∈x.l):mV y<mV x:=by
 cases x with
 |mk kind n l=>have:=List.sizeOf_lt_of_mem (show y∈l from h);simp only[ay.mk.sizeOf_spec];omega
theorem ay.pZ(x:ay):1<=mV x:=by cases x;simp only[ay.mk.sizeOf_spec];omega
mutual
def ay.size:ay->Nat
 |.mk _ _ l=>1+iM l
def iM:List ay->Nat
 |[]=>0
 |x::l=>x.size+iM l
end
theorem ay.size_eq(x:ay):x.size=1+iM x.l:=by cases x;simp[ay.size,ay.l]
theorem Ir:∀(l b8:List ay),iM (l++b8)=iM l+iM b8
 |[],b8=>by simp[iM]
 |x::l,b8=>by simp[iM,Ir l b8,p0]
theorem aj7(x:ay):iM [x]=x.size:=by simp[iM]
theorem ay.size_pos(x:ay):1<=x.size:=by rw[x.size_eq];omega
theorem M':∀l:List ay,l.length<=iM l
 |[]=>by simp
 |y::l=>by have:=y.size_pos;have:=M' l;simp only[iM,dw];omega
theorem ay.yl(x:ay):x.l.length<x.size:=by have:=M' x.l;rw[x.size_eq];omega
theorem ay.tI{x y:ay}(h:y∈x.l):y.size<x.size:=by
 have:∀l:List ay,y∈l->y.size<=iM l:=by
  intro l;induction l with
  |nil=>intro hm;simp at hm
  |cons z l aW=>
    intro hm;simp only[iM];rcases gW.1 hm with rfl|hm
    ·omega
    ·have:=aW hm;omega
 have:=this x.l h;rw[x.size_eq];omega
def oJ(kind:Int):Nat:=if kind=2 then 2 else if kind=3 then 1 else 0
def jz(kind n:Int)(len:Nat):Int:=
 if kind<0\/5<kind then 2 else if len≠oJ kind then 5 else if(kind=0\/kind=2)/\n≠0 then 5 else if 3<=kind/\n<0 then 1 else 0
mutual
def ay.fault:ay->Int
 |.mk kind n l=>if jz kind n l.length≠0 then jz kind n l.length else mW l
def mW:List ay->Int
 |[]=>0
 |x::l=>if x.fault≠0 then x.fault else mW l
end
def ay.code(x:ay):Int:=if 40<x.size then 3 else x.fault
theorem ay.Ch(x:ay):x.fault=if jz x.kind x.n x.l.length≠0 then jz x.kind x.n x.l.length else mW x.l:=by cases x;rfl
theorem Ci(x:ay)(l:List ay):mW (x::l)=if x.fault≠0 then x.fault else mW l:=rfl
mutual
def ay.gj:ay->List Int
 |.mk kind n l=>(if kind=4 then[n]else[])++pk l
def pk:List ay->List Int
 |[]=>[]
 |x::l=>x.gj++pk l
end
theorem ay.aj8(x:ay):x.gj=(if x.kind=4 then[x.n]else[])++pk x.l:=by cases x;rfl
theorem UC:∀(l b8:List ay),pk (l++b8)=pk l++pk b8
 |[],b8=>by simp[pk]
 |x::l,b8=>by simp[pk,UC l b8,jA]
mutual
theorem ay.Na:∀x:ay,x.gj.length<=x.size
 |.mk kind n l=>by have:=Nb l;simp only[ay.gj,ay.size,dy];split<;>simp<;>omega
theorem Nb:∀l:List ay,(pk l).length<=iM l
 |[]=>by simp[pk]
 |x::l=>by have:=ay.Na x;have:=Nb l;simp only[pk,iM,dy];omega
end
mutual
def ay.gate:ay->Bool
 |.mk kind _ l=>decide (kind=5)||Cj l
def Cj:List ay->Bool
 |[]=>R
 |x::l=>x.gate||Cj l
end
theorem ay.aj9(x:ay):x.gate=(decide (x.kind=5)||Cj x.l):=by cases x;rfl
theorem UD:∀l:List ay,Cj l=l.any ay.gate
 |[]=>rfl
 |x::l=>by simp only[Cj,List.any_cons,UD l]
def lk:List Int->be->Int->be×Int×Int
 |[],G,n=>(G,n,0)
 |k::l,G,n=>if(G.derive n 15 k).2.2≠0 then((G.derive n 15 k).1,0,(G.derive n 15 k).2.2)else lk l (G.derive n 15 k).1 (G.derive n 15 k).2.1
def cp:ay:=.mk 0 0 []
def jf(aV:List Int)(G:be)(kind n:Int):be×Int×Int:=if kind=4 then lk aV G n else(G,n,0)
mutual
def g6(aV:List Int):ay->be->be×ay×Int
 |.mk kind n l,G=>
   if(jf aV G kind n).2.2≠0 then((jf aV G kind n).1,cp,(jf aV G kind n).2.2)
   else if(gx aV l (jf aV G kind n).1).2.2≠0 then((gx aV l (jf aV G kind n).1).1,cp,(gx aV l (jf aV G kind n).1).2.2)
   else((gx aV l (jf aV G kind n).1).1,.mk kind (jf aV G kind n).2.1 (gx aV l (jf aV G kind n).1).2.1,0)
def gx(aV:List Int):List ay->be->be×List ay×Int
 |[],G=>(G,[],0)
 |x::l,G=>
   if(g6 aV x G).2.2≠0 then((g6 aV x G).1,[],(g6 aV x G).2.2)
   else((gx aV l (g6 aV x G).1).1,(g6 aV x G).2.1::(gx aV l (g6 aV x G).1).2.1,(gx aV l (g6 aV x G).1).2.2)
end
theorem UE(aV:List Int)(x:ay)(G:be):g6 aV x G=if(jf aV G x.kind x.n).2.2≠0 then((jf aV G x.kind x.n).1,cp,(jf aV G x.kind x.n).2.2) else if(gx aV x.l (jf aV G x.kind x.n).1).2.2≠0 then((gx aV x.l (jf aV G x.kind x.n).1).1,cp,(gx aV x.l (jf aV G x.kind x.n).1).2.2) else((gx aV x.l (jf aV G x.kind x.n).1).1,.mk x.kind (jf aV G x.kind x.n).2.1 (gx aV x.l (jf aV G x.kind x.n).1).2.1,0):=by cases x;rfl
def rz(G:be)(x:ay):Int:=
 if x.code≠0 then x.code else if x.gate then 9 else if x.gj.any λn=> !gO (G.fm n) 2 then 9 else 0
def hJ(aV:List Int)(G:be)(x:ay):be×ay×Int:=if rz G x≠0 then(G,cp,rz G x)else g6 aV x G
theorem UF(aV:List Int):∀(G:be) (n:Int),G.dE->(lk aV G n).1.dE:=by
 induction aV with
 |nil=>intro G n h;exact h
 |cons k l aW=>
   intro G n h;simp only[lk];split
   ·exact h.derive _ _ _
   ·exact aW _ _ (h.derive _ _ _)
theorem Is{G:be}{kind n:Int}(h:G.dE):(jf aV G kind n).1.dE:=by
 unfold jf;split
 ·exact UF aV G n h
 ·exact h
mutual
theorem Ck(aV:List Int):∀(x:ay) (G:be),G.dE->(g6 aV x G).1.dE
 |.mk kind n l,G,h=>by
   simp only[g6];split
   ·exact Is h
   ·split
    ·exact Nc aV l _ (Is h)
    ·exact Nc aV l _ (Is h)
theorem Nc(aV:List Int):∀(l:List ay) (G:be),G.dE->(gx aV l G).1.dE
 |[],G,h=>h
 |x::l,G,h=>by
   simp only[gx];split
   ·exact Ck aV x G h
   ·exact Nc aV l _ (Ck aV x G h)
end
theorem UG{G:be}{x:ay}(h:G.dE):(hJ aV G x).1.dE:=by
 unfold hJ;split
 ·exact h
 ·exact Ck aV x G h
inductive bk where
 |mk (op k n:Int) (l:List bk)
def bk.op:bk->Int
 |.mk op _ _ _=>op
def bk.k:bk->Int
 |.mk _ k _ _=>k
def bk.n:bk->Int
 |.mk _ _ n _=>n
def bk.l:bk->List bk
 |.mk _ _ _ l=>l
theorem bk.pj{x y:bk}(h:y∈x.l):mV y<mV x:=by
 cases x with
 |mk op k n l=>have:=List.sizeOf_lt_of_mem (show y∈l from h);simp only[bk.mk.sizeOf_spec];omega
mutual
def bk.size:bk->Nat
 |.mk _ _ _ l=>1+fO l
def fO:List bk->Nat
 |[]=>0
 |x::l=>x.size+fO l
end
mutual
def bk.depth:bk->Nat
 |.mk _ _ _ l=>Cl l
def Cl:List bk->Nat
 |[]=>0
 |x::l=>max (1+x.depth) (Cl l)
end
theorem bk.size_eq(x:bk):x.size=1+fO x.l:=by cases x;simp[bk.size,bk.l]
theorem bk.aj'(x:bk):x.depth=Cl x.l:=by cases x;simp[bk.depth,bk.l]
theorem Nd:∀(l b8:List bk),fO (l++b8)=fO l+fO b8
 |[],b8=>by simp[fO]
 |x::l,b8=>by simp[fO,Nd l b8,p0]
theorem aka(x:bk):fO [x]=x.size:=by simp[fO]
theorem bk.size_pos(x:bk):1<=x.size:=by rw[x.size_eq];omega
theorem bk.yl(x:bk):x.l.length<x.size:=by
 have:∀l:List bk,l.length<=fO l:=by
  intro l;induction l with
  |nil=>simp
  |cons y l aW=>have:=y.size_pos;simp only[fO,dw];omega
 have:=this x.l;rw[x.size_eq];omega
theorem bk.pZ(x:bk):1<=mV x:=by cases x;simp only[bk.mk.sizeOf_spec];omega
theorem UH{n:Nat}:∀{l:List bk},Cl l<=n↔∀y∈l,1+y.depth<=n
 |[]=>by simp[Cl]
 |x::l=>by have:=UH (n:=n) (l:=l);simp only[Cl,gW,forall_eq_or_imp,<-this];omega
theorem akb(x:bk){left:Int}(am:0<=left):(!(x.l.any λy=> !decide ((y.depth:Int)<=left - 1)))=decide ((x.depth:Int)<=left):=by
 obtain⟨n,rfl⟩:∃n:Nat,left=n:=⟨left.toNat,by omega⟩;have h:=UH (n:=n) (l:=x.l);rw[<-x.aj']at h;by_cases an:x.depth<=n
 ·have F:((x.depth:Nat):Int)<=(n:Int):=by omega
  have J:(x.l.any λy=> !decide ((y.depth:Int)<=(n:Int) - 1))=R:=by
   rw[List.any_eq_false];intro y bq;have:=h.1 an y bq;have af:(y.depth:Int)<=(n:Int) - 1:=by omega
   simp[af]
  rw[J];simp[F]
 ·have F:¬((x.depth:Nat):Int)<=(n:Int):=by omega
  have J:(x.l.any λy=> !decide ((y.depth:Int)<=(n:Int) - 1))=Q:=by
   cases ag:(x.l.any λy=> !decide ((y.depth:Int)<=(n:Int) - 1))
   ·exfalso;apply an;apply h.2;intro y bq;have:=(List.any_eq_false.1 ag) y bq;simp at this;omega
   ·rfl
  rw[J];simp[F]
def fX(op:Int):Int:=
 if op=1\/op=2\/op=3\/op=4\/op=21 then 0
 else if op=9\/op=10\/op=11\/op=12\/op=13\/op=15\/op=16\/op=17\/op=18\/op=20 then 1
 else if op=5\/op=6\/op=8\/op=14\/op=19 then 2
 else if op=7 then 3 else -1
def qI(cE op k n O:Int):Int:=
 if n≠0/\op≠2 then 5
 else if op=4 then(if k<0\/O<=k then 1 else 0)
 else if op=6 then(if k<1\/5<k then 1 else 0)
 else if op=15 then(if k<0\/15<k then 1 else 0)
 else if op=18 then(if k<0\/cE<=k then 1 else 0)
 else if k≠0 then 5 else 0
def sv(cE op k n:Int)(len:Nat)(O:Int):Int:=
 if fX op<0 then 2 else if(len:Int)≠fX op then 5
 else if qI cE op k n O≠0 then qI cE op k n O
 else if op=5/\O=12 then 3 else 0
mutual
def bk.fault(cE:Int):bk->Int->Int
 |.mk op k n l,O=>if sv cE op k n l.length O≠0 then sv cE op k n l.length O else pm cE op 0 l O
def pm(cE op:Int):Nat->List bk->Int->Int
 |_,[],_=>0
 |i,x::l,O=>if x.fault cE (if op=5/\i=1 then O+1 else O)≠0 then x.fault cE (if op=5/\i=1 then O+1 else O)else pm cE op (i+1) l O
end
def oK(cE:Int)(x:bk):Int:=if 30<x.depth then 4 else if 120<x.size then 3 else x.fault cE 0
def p1(cE:Int):Nat->List bk->Int×Int
 |_,[]=>(0,0)
 |i,x::l=>if oK cE x≠0 then(oK cE x,i)else p1 cE (i+1) l
def fw(l:List bk):Int×Int:=if l.length=0\/6<l.length then(3, -1)else p1 l.length 0 l
structure cY where
 op:Int
 k:Int
 n:Int
def kJ:List (Nat->List cY)->Nat->List cY
 |[],_=>[]
 |f::dM,p=>f p++kJ dM (p+(f p).length)
def Nf(f0 f1:Nat->List cY)(p:Nat):List cY:=⟨100,0,0⟩::(f0 (p+1)++⟨101,0,0⟩::(f1 (p+1+(f0 (p+1)).length+1)++[⟨102,0,0⟩]))
def pn(f0 f1:Nat->List cY)(p:Nat):Nat:=p+1+(f0 (p+1)).length+1+(f1 (p+1+(f0 (p+1)).length+1)).length+1
def Ng(f0 f1 f2:Nat->List cY)(p:Nat):List cY:=⟨100,0,0⟩::(f0 (p+1)++⟨103,(pn f0 f1 p:Nat),0⟩::(f1 (p+1+(f0 (p+1)).length+1)++⟨104,((pn f0 f1 p+(f2 (pn f0 f1 p)).length:Nat):Int),0⟩::f2 (pn f0 f1 p)))
def tJ(op k n:Int)(dM:List (Nat->List cY))(p:Nat):List cY:=
 if op=5 then(match dM with|[f0,f1]=>Nf f0 f1 p|_=>[])
 else if op=7 then(match dM with|[f0,f1,f2]=>Ng f0 f1 f2 p|_=>[])
 else⟨100,0,0⟩::(kJ dM (p+1)++[⟨op,k,n⟩])
mutual
def cB:bk->Nat->List cY
 |.mk op k n l=>tJ op k n (EJ l)
def EJ:List bk->List (Nat->List cY)
 |[]=>[]
 |x::l=>cB x::EJ l
end
theorem akc(x:bk):cB x=tJ x.op x.k x.n (EJ x.l):=by cases x;simp only[cB,bk.op,bk.k,bk.n,bk.l]
open Classical in
theorem UI:∀l:List bk,EJ l=l.map cB
 |[]=>rfl
 |x::l=>by simp only[EJ,gP,UI l]
theorem Cm(x:bk):cB x=tJ x.op x.k x.n (x.l.map cB):=by rw[akc,UI]
theorem Nh:∀(l:List bk) (p:Nat),(∀y∈l,∀p,(cB y p).length<=3*y.size)->(kJ (l.map cB) p).length<=3*fO l
 |[],p,_=>by simp[kJ]
 |x::l,p,h=>by have F:=h x (by simp) p;have J:=Nh l (p+(cB x p).length) λy bq=>h y (by simp[bq]);simp only[gP,kJ,dy,fO];omega
theorem wN:∀(N:Nat) (x:bk),mV x<=N->∀p:Nat,(cB x p).length<=3*x.size:=by
 intro N;induction N with
 |zero=>intro x an;have:=x.pZ;omega
 |succ N aW=>
   intro x an p;have al:∀y∈x.l,∀p,(cB y p).length<=3*y.size:=λy bq=>aW y (by have:=bk.pj bq;omega);have az:=x.size_eq;rw[Cm];generalize x.l=l at al az;unfold tJ;split
   ·match l,al,az with
    |[],_,_=>simp
    |[a],_,_=>simp
    |[a,b],al,az=>have F:=al a (by simp) (p+1);have J:=al b (by simp) (p+1+(cB a (p+1)).length+1);simp only[fO]at az;simp only[gP,kK,Nf,dw,dy,ey];have:=a.size_pos;omega
    |a::b::c::l,_,_=>simp
   ·split
    ·match l,al,az with
     |[],_,_=>simp
     |[a],_,_=>simp
     |[a,b],_,_=>simp
     |[a,b,c],al,az=>have F:=al a (by simp) (p+1);have J:=al b (by simp) (p+1+(cB a (p+1)).length+1);have af:=al c (by simp) (pn (cB a) (cB b) p);simp only[fO]at az;simp only[gP,kK,Ng,dw,dy];omega
     |a::b::c::d::l,_,_=>simp
    ·have:=Nh l (p+1) al;simp only[dw,dy,ey];omega
theorem Ni{cE O:Int}{x:bk}(h:x.fault cE O=0):0<=fX x.op/\(x.l.length:Int)=fX x.op/\qI cE x.op x.k x.n O=0/\¬(x.op=5/\O=12)/\pm cE x.op 0 x.l O=0:=by
 cases x with
 |mk op k n l=>
   simp only[bk.fault]at h;split at h
   ·rename_i F;exact absurd h F
   ·rename_i F;have F:sv cE op k n l.length O=0:=by simpa using F
    unfold sv at F;split at F
    ·cases F
    ·split at F
     ·cases F
     ·split at F
      ·rename_i J;exact absurd F J
      ·split at F
       ·cases F
       ·rename_i a b c d;simp only[bk.op,bk.k,bk.n,bk.l];exact⟨by omega,by simpa using b,by simpa using c,d,h⟩
theorem EK{cE op O:Int}{i:Nat}{x:bk}{l:List bk}(h:pm cE op i (x::l) O=0):x.fault cE (if op=5/\i=1 then O+1 else O)=0/\pm cE op (i+1) l O=0:=by
 simp only[pm]at h;generalize x.fault cE (if op=5/\i=1 then O+1 else O)=c at h;by_cases al:c=0
 ·exact⟨al,by simpa[al]using h⟩
 ·simp[al]at h
theorem It{cE op O:Int}(iW:op≠5):∀{l:List bk} {i:Nat},pm cE op i l O=0->∀y∈l,y.fault cE O=0
 |[],_,_,y,bq=>by simp at bq
 |x::l,i,h,y,bq=>by
   obtain⟨F,J⟩:=EK h;rw[if_neg (λh=>iW h.1)]at F;rcases gW.1 bq with rfl|bq
   ·exact F
   ·exact It iW J y bq
structure jI where
 (bD cell right node:Int)
structure bG where
 G:be
 cells:List Int
 log:List jI
 kept:List ay
 left:Nat
abbrev dQ:=List (Option (List bk))
def jB:bk:=.mk 0 0 0 []
def l6(n:Int):ay:=.mk 1 n []
def oL(n:Int):ay:=.mk 4 n []
def iN(ms:dQ)(p:Int):List bk:=(ms.getD p.toNat Z).getD []
def gs(ms:dQ)(p k:Int):bk:=(iN ms p).getD k.toNat jB
def zS(k a b:Int):Int:=if k=1 then hq o (a+b)else if k=2 then hq o (a - b)else if k=3 then hq o (a*b)else if k=4 then(if a<b then 1 else 0)else if k=5 then(if a=b then 1 else 0)else 0
def bG.ok(S:bG)(v:ay):bG×ay×Int:=(S,v,0)
def bG.no(S:bG)(c:Int):bG×ay×Int:=(S,cp,c)
def bG.tick(S:bG):bG:={S with left:=S.left - 1}
def vm(S:bG)(q:be×Int×Int):bG×ay×Int:=if q.2.2≠0 then({S with G:=q.1}).no q.2.2 else({S with G:=q.1}).ok (oL q.2.1)
def hr(p op k n:Int)(l:List ay)(S:bG):bG×ay×Int:=
 let a:=l.getD 0 cp;let b:=l.getD 1 cp
 if op=6 then(if a.kind≠1\/b.kind≠1 then S.no 2 else S.ok (l6 (zS k a.n b.n)))
 else if op=8 then(if(ay.mk 2 0 [a,b]).code≠0 then S.no 3 else S.ok (.mk 2 0 [a,b]))
 else if op=9 then(if a.kind≠2 then S.no 2 else S.ok (a.l.getD 0 cp))
 else if op=10 then(if a.kind≠2 then S.no 2 else S.ok (a.l.getD 1 cp))
 else if op=11 then(if(ay.mk 3 p [a]).code≠0 then S.no 3 else S.ok (.mk 3 p [a]))
 else if op=12 then(if a.kind≠3 then S.no 2 else if a.n≠p then S.no 10 else S.ok (a.l.getD 0 cp))
 else if op=13 then(if a.kind≠4 then S.no 2 else if gO (S.G.fm a.n) 0=R then S.no 9 else if 0<=(S.G.target a.n).1.bD then S.no 2 else({S with log:=S.log++[jI.mk p (S.G.target a.n).1.cell 1 a.n]}).ok (l6 (S.cells.getD (S.G.target a.n).1.cell.toNat 0)))
 else if op=14 then(if a.kind≠4\/b.kind≠1 then S.no 2 else if gO (S.G.fm a.n) 1=R then S.no 9 else if 0<=(S.G.target a.n).1.bD then S.no 2 else({S with log:=S.log++[jI.mk p (S.G.target a.n).1.cell 2 a.n],cells:=S.cells.set (S.G.target a.n).1.cell.toNat b.n}).ok b)
 else if op=15 then(if a.kind≠4 then S.no 2 else vm S (S.G.derive a.n k (-1)))
 else if op=16 then(if a.kind≠4 then S.no 2 else if S.G.gate.2.2≠0 then({S with G:=S.G.gate.1}).no S.G.gate.2.2 else match S.G.gate.1.derive a.n 15 S.G.gate.2.1 with
   |(ei,m,c)=>if c≠0 then({S with G:=ei}).no c else({S with G:=ei}).ok (.mk 2 0 [oL m,.mk 5 S.G.gate.2.1 []]))
 else if op=17 then(if a.kind≠5 then S.no 2 else({S with G:=(S.G.cut a.n).1}).ok cp)
 else if op=20 then({S with kept:=S.kept.set p.toNat a}).ok (S.kept.getD p.toNat cp)
 else S.no 0
structure vn where
 (bD func:Int)
 arg:ay
 ec:List Int
def jr(ms:dQ)(v x:ay)(a8:Nat)(S:bG):bG×vn×Int:=
 let t:=(S.G.target v.n).1;let z:vn:=⟨0,0,cp,[]⟩
 if v.kind≠4 then(S,z,2)else if gO (S.G.fm v.n) 3=R then(S,z,9)else if t.bD<0 then(S,z,2)
 else if(ms.getD t.bD.toNat Z).isNone\/((iN ms t.bD).length:Int)<=t.func\/t.func<0 then(S,z,8)
 else if a8=20 then(S,z,4)
 else match hJ (S.G.ry v.n) S.G x with
  |(ei,y,c)=>({S with G:=ei},⟨t.bD,t.func,y,S.G.ry v.n⟩,c)
def l7(ec:List Int)(v:ay)(S:bG):bG×ay×Int:=match hJ ec S.G v with
 |(ei,y,c)=>if c≠0 then({S with G:=ei}).no c else({S with G:=ei}).ok y
def j1(f:bk->bG->bG×ay×Int):List bk->bG->List ay->bG×List ay×Int
 |[],S,acc=>(S,acc,0)
 |x::l,S,acc=>match f x S with
   |(b3,v,c)=>if c≠0 then(b3,[],c)else j1 f l b3 (acc++[v])
def ll(p:Int)(x:bk)(arg:ay)(names:List ay)(S:bG):Option ay:=
 if x.op=1 then j cp else if x.op=2 then j (l6 x.n)else if x.op=3 then j arg
 else if x.op=4 then j (names.getD (names.length - 1 - x.k.toNat) cp)else if x.op=21 then j (S.kept.getD p.toNat cp)else Z
def e5(ms:dQ):Nat->Int->bk->ay->List ay->Nat->bG->bG×ay×Int
 |0,_,_,_,_,_,S=>S.no 12
 |N+1,p,x,arg,names,a8,S=>
   if S.left=0 then S.no 12
   else match ll p x arg names S.tick with
   |some v=>S.tick.ok v
   |none=>
     if x.op=5 then(match e5 ms N p (x.l.getD 0 jB) arg names a8 S.tick with
      |(b3,v,c)=>if c≠0 then b3.no c else e5 ms N p (x.l.getD 1 jB) arg (names++[v]) a8 b3)
     else if x.op=7 then(match e5 ms N p (x.l.getD 0 jB) arg names a8 S.tick with
      |(b3,v,c)=>if c≠0 then b3.no c else if v.kind≠1 then b3.no 2 else if v.n≠0 then e5 ms N p (x.l.getD 1 jB) arg names a8 b3 else e5 ms N p (x.l.getD 2 jB) arg names a8 b3)
     else match j1 (λy S=>e5 ms N p y arg names a8 S) x.l S.tick []with
      |(b3,l,c)=>if c≠0 then b3.no c else if x.op=18 then(if a8=20 then b3.no 4 else e5 ms N p (gs ms p x.k) (l.getD 0 cp) [] (a8+1) b3) else if x.op=19 then(match jr ms (l.getD 0 cp) (l.getD 1 cp) a8 b3 with
         |(mX,q,c)=>if c≠0 then mX.no c else match e5 ms N q.bD (gs ms q.bD q.func) q.arg [] (a8+1) mX with
           |(sw,v,c)=>if c≠0 then sw.no c else l7 q.ec v sw)
        else hr p x.op x.k x.n l b3
structure h2 where
 (bD f:Int)
 bo:Nat
 arg:ay
 (stack names:List ay)
 asked:Bool
 ec:List Int
structure cm where
 S:bG
 top:h2
 below:List h2
inductive p2 where
 |go (m:cm)
 |over (S:bG) (v:ay)
 |fail (S:bG) (c:Int)
def wO:cY:=⟨0,0,0⟩
def kV(ms:dQ)(p f:Int):List cY:=cB (gs ms p f) 0++[⟨105,0,0⟩]
def cm.push(m:cm)(S:bG)(st:List ay)(v:ay):p2:=.go {m with S:=S,top:={m.top with stack:=st++[v]}}
def cm.done(m:cm)(st:List ay)(q:bG×ay×Int):p2:=if q.2.2≠0 then .fail q.1 q.2.2 else m.push q.1 st q.2.1
def cm.call(m:cm)(S:bG)(st:List ay)(p f:Int)(arg:ay)(asked:Bool)(ec:List Int):p2:=
 if m.below.length+1=20 then .fail S 4 else .go ⟨S,⟨p,f,0,arg,[],[],asked,ec⟩,m.below++[{m.top with stack:=st}]⟩
def rA(st:List ay)(k:Nat):List ay:=st.drop (st.length - k)
def tK(st:List ay)(k:Nat):List ay:=st.take (st.length - k)
def nq(ms:dQ)(m:cm)(x:cY):p2:=
 let t:=m.top
 match ll t.bD (.mk x.op x.k x.n []) t.arg t.names m.S with
 |some v=>m.push m.S t.stack v
 |none=>
   if x.op=18 then m.call m.S (tK t.stack 1) t.bD x.k ((rA t.stack 1).getD 0 cp) R []
   else if x.op=19 then(match jr ms ((rA t.stack 2).getD 0 cp) ((rA t.stack 2).getD 1 cp) (m.below.length+1) m.S with
    |(b3,q,c)=>if c≠0 then .fail b3 c else m.call b3 (tK t.stack 2) q.bD q.func q.arg Q q.ec)
   else m.done (tK t.stack (fX x.op).toNat) (hr t.bD x.op x.k x.n (rA t.stack (fX x.op).toNat) m.S)
def cm.back(m:cm):p2:=
 let v:=(rA m.top.stack 1).getD 0 cp;let q:=if m.top.asked then l7 m.top.ec v m.S else m.S.ok v
 if q.2.2≠0 then .fail q.1 q.2.2
 else match m.below.getLast? with
  |none=>.over q.1 q.2.1
  |some t=>.go ⟨q.1,{t with stack:=t.stack++[q.2.1]},m.below.dropLast⟩
def nr(ms:dQ)(mY:cm):p2:=
 let x:=(kV ms mY.top.bD mY.top.f).getD mY.top.bo wO;let m:cm:={mY with top:={mY.top with bo:=mY.top.bo+1}};let t:=m.top
 if x.op=100 then(if m.S.left=0 then .fail m.S 12 else .go {m with S:=m.S.tick})
 else if x.op=101 then .go {m with top:={t with stack:=tK t.stack 1,names:=t.names++[(rA t.stack 1).getD 0 cp]}}
 else if x.op=102 then .go {m with top:={t with names:=t.names.dropLast}}
 else if x.op=103 then(let v:=(rA t.stack 1).getD 0 cp
  if v.kind≠1 then .fail m.S 2 else .go {m with top:={t with stack:=tK t.stack 1,bo:=if v.n=0 then x.k.toNat else t.bo}})
 else if x.op=104 then .go {m with top:={t with bo:=x.k.toNat}}
 else if x.op=105 then m.back
 else nq ms m x
theorem Iu{α:Type}{c:Prop}[Decidable c]{a b:bG×α}{n:Nat}(F:a.1.left=n)(J:b.1.left=n):(if c then a else b).1.left=n:=by split<;>assumption
theorem akd(S:bG)(q:be×Int×Int):(vm S q).1.left=S.left:=by unfold vm;exact Iu rfl rfl
theorem ake(p op k n:Int)(l:List ay)(S:bG):(hr p op k n l S).1.left=S.left:=by
 unfold hr
 repeat' (first|rfl|exact akd _ _|refine Iu ?_ ?_)
theorem Nj(ms:dQ)(v x:ay)(a8:Nat)(S:bG):(jr ms v x a8 S).1.left=S.left:=by
 unfold jr
 repeat' (first|rfl|refine Iu ?_ ?_)
theorem akf(ec:List Int)(v:ay)(S:bG):(l7 ec v S).1.left=S.left:=by unfold l7;split;exact Iu rfl rfl
theorem Nk{f:bk->bG->bG×ay×Int}(bn:∀x S,(f x S).1.left<=S.left):∀(l:List bk) (S:bG) (acc:List ay),(j1 f l S acc).1.left<=S.left
 |[],S,acc=>bS _
 |x::l,S,acc=>by
   have F:=bn x S;rw[j1];rcases aE:f x S with⟨b3,v,c⟩;rw[aE]at F;simp only at F ⊢;split
   ·exact F
   ·exact ee (Nk bn l b3 _) F
theorem zT(ms:dQ):∀(N:Nat) (p:Int) (x:bk) (arg:ay) (names:List ay) (a8:Nat) (S:bG),(e5 ms N p x arg names a8 S).1.left<=S.left
 |0,p,x,arg,names,a8,S=>bS _
 |N+1,p,x,arg,names,a8,S=>by
   have aW:=zT ms N;have aO:S.tick.left<=S.left:=Nat.sub_le _ _;rw[e5];split
   ·exact bS _
   ·split
    ·exact aO
    ·split
     ·have F:=aW p (x.l.getD 0 jB) arg names a8 S.tick;rcases aE:e5 ms N p (x.l.getD 0 jB) arg names a8 S.tick with⟨b3,v,c⟩;rw[aE]at F;simp only at F ⊢;split
      ·exact ee F aO
      ·exact ee (aW _ _ _ _ _ _) (ee F aO)
     ·split
      ·have F:=aW p (x.l.getD 0 jB) arg names a8 S.tick;rcases aE:e5 ms N p (x.l.getD 0 jB) arg names a8 S.tick with⟨b3,v,c⟩;rw[aE]at F;simp only at F ⊢;split
       ·exact ee F aO
       ·split
        ·exact ee F aO
        ·split
         ·exact ee (aW _ _ _ _ _ _) (ee F aO)
         ·exact ee (aW _ _ _ _ _ _) (ee F aO)
      ·have F:=Nk (f:=λy S=>e5 ms N p y arg names a8 S) (λy S=>aW p y arg names a8 S) x.l S.tick [];rcases aE:j1 (λy S=>e5 ms N p y arg names a8 S) x.l S.tick []with⟨b3,l,c⟩;rw[aE]at F;simp only at F ⊢;split
       ·exact ee F aO
       ·split
        ·split
         ·exact ee F aO
         ·exact ee (aW _ _ _ _ _ _) (ee F aO)
        ·split
         ·have J:=Nj ms (l.getD 0 cp) (l.getD 1 cp) a8 b3;rcases sx:jr ms (l.getD 0 cp) (l.getD 1 cp) a8 b3 with⟨mX,q,c2⟩;rw[sx]at J;simp only at J ⊢;split
          ·exact ee (p3 J) (ee F aO)
          ·have af:=aW q.bD (gs ms q.bD q.func) q.arg [] (a8+1) mX;rcases ym:e5 ms N q.bD (gs ms q.bD q.func) q.arg [] (a8+1) mX with⟨sw,v,c3⟩;rw[ym]at af;simp only at af ⊢;split
           ·exact ee af (ee (p3 J) (ee F aO))
           ·rw[akf];exact ee af (ee (p3 J) (ee F aO))
         ·rw[ake];exact ee F aO
def bG.ba(S:bG):Nat:=S.log.length+S.left
structure bG.Good(S:bG):Prop where
 wf:S.G.dE
 cells:S.cells.length=12
 kept:S.kept.length=4
 qJ:∀v∈S.kept,v.code=0
theorem vo:cp.code=0:=by decide
theorem EL(n:Int):(l6 n).code=0:=rfl
theorem tL{l:List ay}(h:∀v∈l,v.code=0)(i:Nat):(l.getD i cp).code=0:=by
 by_cases ae:i<l.length
 ·simp only[dm,gd ae,ns];exact h _ (hf ae)
 ·simp only[dm,lN (Nat.le_of_not_lt ae),Option.getD_none];exact vo
theorem UJ:∀{l:List ay},mW l=0->∀x∈l,x.fault=0
 |[],_,x,an=>by simp at an
 |y::l,h,x,an=>by
   rw[Ci]at h;split at h
   ·rename_i F;exact absurd h F
   ·rename_i F;rcases gW.1 an with rfl|an
    ·omega
    ·exact UJ h x an
theorem f9{v:ay}(h:v.code=0):v.size<=40/\jz v.kind v.n v.l.length=0/\∀x∈v.l,x.code=0:=by
 unfold ay.code at h;split at h
 ·cases h
 ·rename_i az;rw[v.Ch]at h;split at h
  ·rename_i F;exact absurd h F
  ·rename_i F;refine⟨by omega,by omega,λx an=>?_⟩;unfold ay.code;have:=ay.tI an;rw[if_neg (by omega)];exact UJ h x an
theorem Nl{kind n:Int}{l:List ay}(az:(ay.mk kind n l).size<=40)(bz:jz kind n l.length=0)(ai:∀x∈l,x.code=0):(ay.mk kind n l).code=0:=by
 have key:∀l:List ay,(∀x∈l,x.code=0)->mW l=0:=by
  intro l ai;induction l with
  |nil=>rfl
  |cons x l aW=>
    have F:=ai x (by simp);unfold ay.code at F;split at F
    ·cases F
    ·rw[Ci,if_neg (by omega)];exact aW λy bq=>ai y (by simp[bq])
 unfold ay.code;rw[if_neg (by omega)];show(if jz kind n l.length≠0 then jz kind n l.length else mW l)=0;rw[if_neg (by omega)];exact key l ai
theorem UK{v:ay}(h:v.code=0):(v.kind=2->∃a b,v.l=[a,b])/\(v.kind=3->∃a,v.l=[a]):=by
 obtain⟨_,F,_⟩:=f9 h;unfold jz at F;split at F
 ·cases F
 ·split at F
  ·cases F
  ·rename_i J;constructor
   ·intro af;simp only[oJ,af,if_true,Decidable.not_not]at J
    match ai:v.l,J with
    |[a,b],_=>exact⟨a,b,rfl⟩
   ·intro af;simp only[oJ,af,if_true,Decidable.not_not]at J;rw[if_neg (by decide)]at J
    match ai:v.l,J with
    |[a],_=>exact⟨a,rfl⟩
theorem Cn{n:Int}(h:0<=n):(oL n).code=0:=Nl (by simp[ay.size,iM]) (by simp[jz,oJ];omega) (by simp)
theorem akg{n:Int}(h:0<=n):(ay.mk 5 n []).code=0:=Nl (by simp[ay.size,iM]) (by simp[jz,oJ];omega) (by simp)
mutual
theorem UL(aV:List Int):∀(x:ay) (G:be),(g6 aV x G).2.2=0->(g6 aV x G).2.1.size=x.size
 |.mk kind n l,G,h=>by
   simp only[g6]at h ⊢;split at h
   ·rename_i F;exact absurd h F
   ·rename_i F;split at h
    ·rename_i J;exact absurd h J
    ·rename_i J;rw[if_neg F,if_neg J];simp only[ay.size];rw[(Nn aV l _ (by omega)).1]
theorem Nn(aV:List Int):∀(l:List ay) (G:be),(gx aV l G).2.2=0->iM (gx aV l G).2.1=iM l/\(gx aV l G).2.1.length=l.length
 |[],G,h=>⟨rfl,rfl⟩
 |x::l,G,h=>by
   simp only[gx]at h ⊢;split at h
   ·rename_i F;exact absurd h F
   ·rename_i F;rw[if_neg F];have J:=Nn aV l _ h;simp only[iM,dw];rw[UL aV x G (by omega),J.1,J.2];exact⟨rfl,rfl⟩
end
theorem No{G:be}{n r k:Int}:0<=(G.derive n r k).2.1:=by
 unfold be.derive be.add;split
 ·split
  ·exact Int.le_refl _
  ·split
   ·exact Int.le_refl _
   ·split
    ·exact Int.le_refl _
    ·exact Int.natCast_nonneg _
 ·exact Int.le_refl _
theorem akh(aV:List Int):∀(G:be) (n:Int),0<=n->0<=(lk aV G n).2.1:=by
 induction aV with
 |nil=>intro G n h;exact h
 |cons k l aW=>
   intro G n h;simp only[lk];split
   ·exact Int.le_refl _
   ·exact aW _ _ No
mutual
theorem UM(aV:List Int):∀(x:ay) (G:be),x.fault=0->(g6 aV x G).2.2=0->(g6 aV x G).2.1.fault=0
 |.mk kind n l,G,bn,h=>by
   change (if jz kind n l.length≠0 then jz kind n l.length else mW l)=0 at bn;split at bn
   ·rename_i F;exact absurd bn F
   rename_i bz;simp only[g6]at h ⊢;split at h
   ·rename_i F;exact absurd h F
   ·rename_i F;split at h
    ·rename_i J;exact absurd h J
    ·rename_i J;rw[if_neg F,if_neg J];have ai:=(Nn aV l (jf aV G kind n).1 (by omega)).2;show(if jz kind _ (gx aV l (jf aV G kind n).1).2.1.length≠0 then jz kind _ (gx aV l (jf aV G kind n).1).2.1.length else mW (gx aV l (jf aV G kind n).1).2.1)=0;rw[ai,if_neg]
     ·exact UN aV l _ bn (by omega)
     ·unfold jf;by_cases aB:kind=4
      ·rw[if_pos aB];have:0<=n:=by
        unfold jz at bz;split at bz
        ·simp at bz
        ·split at bz
         ·simp at bz
         ·split at bz
          ·simp at bz
          ·split at bz
           ·simp at bz
           ·omega
       have bw:=akh aV G n this;unfold jz at bz ⊢;subst aB;rw[if_neg (by omega)]at bz ⊢;split at bz
       ·simp at bz
       ·rename_i cc;rw[if_neg cc,if_neg (by omega),if_neg (by omega)];decide
      ·rw[if_neg aB];exact bz
theorem UN(aV:List Int):∀(l:List ay) (G:be),mW l=0->(gx aV l G).2.2=0->mW (gx aV l G).2.1=0
 |[],G,bn,h=>rfl
 |x::l,G,bn,h=>by
   rw[Ci]at bn;split at bn
   ·rename_i F;exact absurd bn F
   rename_i an;simp only[gx]at h ⊢;split at h
   ·rename_i F;exact absurd h F
   ·rename_i F;rw[if_neg F,Ci,if_neg (by rw[UM aV x G (by omega) (by omega)];decide)];exact UN aV l _ bn h
end
theorem UO{G:be}{x:ay}(h:(hJ aV G x).2.2=0):(hJ aV G x).2.1.code=0:=by
 unfold hJ at h ⊢;split at h
 ·rename_i F;exact absurd h F
 ·rename_i F;rw[if_neg F];have an:x.code=0:=by
   unfold rz at F;split at F
   ·rename_i J;exact absurd F (by simpa using J)
   ·omega
  have az:=(f9 an).1;unfold ay.code at an ⊢;rw[if_neg (by omega)]at an;rw[if_neg (by rw[UL aV x G h];omega)];exact UM aV x G an h
structure iX(n:Nat)(S:bG)(q:bG×ay×Int):Prop where
 dg:q.1.Good
 ba:q.1.ba<=S.ba+n
 left:q.1.left<=S.left
 val:q.2.2=0->q.2.1.code=0
theorem bG.Good.with{S:bG}(h:S.Good){G:be}(ez:G.dE):({S with G:=G}:bG).Good:=⟨ez,h.cells,h.kept,h.qJ⟩
theorem iX.no{S b3:bG}{n:Nat}{c:Int}(h:b3.Good)(F:b3.ba<=S.ba+n)(J:b3.left<=S.left):iX n S (b3.no c):=⟨h,F,J,λ_=>vo⟩
theorem iX.ok{S b3:bG}{n:Nat}{v:ay}(h:b3.Good)(F:b3.ba<=S.ba+n)(J:b3.left<=S.left)(U:v.code=0):iX n S (b3.ok v):=⟨h,F,J,λ_=>U⟩
theorem iX.ite{S:bG}{n:Nat}{p:Prop}[Decidable p]{a b:bG×ay×Int}(F:p->iX n S a)(J:¬p->iX n S b):iX n S (if p then a else b):=by
 split
 ·exact F ‹_›
 ·exact J ‹_›
theorem aki{p op k n:Int}{l:List ay}{S:bG}(cG:S.Good)(ai:∀v∈l,v.code=0):iX 1 S (hr p op k n l S):=by
 have aN:=tL ai 0;have ag:=tL ai 1;have mY:S.ba<=S.ba+1:=Nat.le_succ _;have no:∀{c:Int},iX 1 S (S.no c):=.no cG mY (bS _);have ok:∀{v:ay},v.code=0->iX 1 S (S.ok v):=λU=>.ok cG mY (bS _) U;unfold hr;refine .ite (λ_=>.ite (λ_=>no) λ_=>ok (EL _)) λcc=>?_;refine .ite (λ_=>.ite (λ_=>no) λh=>ok (by simpa using h)) λg7=>?_;refine .ite (λ_=>.ite (λ_=>no) λh=>ok (tL (f9 aN).2.2 0)) λnt=>?_;refine .ite (λ_=>.ite (λ_=>no) λh=>ok (tL (f9 aN).2.2 1)) λaz8=>?_;refine .ite (λ_=>.ite (λ_=>no) λh=>ok (by simpa using h)) λaz9=>?_;refine .ite (λ_=>.ite (λ_=>no) λ_=>.ite (λ_=>no) λ_=>ok (tL (f9 aN).2.2 0)) λzU=>?_;refine .ite (λ_=>.ite (λ_=>no) λ_=>.ite (λ_=>no) λ_=>.ite (λ_=>no) λ_=>?_) λaz'=>?_
 ·exact .ok ⟨cG.wf,cG.cells,cG.kept,cG.qJ⟩ (by simp[bG.ba];omega) (bS _) (EL _)
 refine .ite (λ_=>.ite (λ_=>no) λ_=>.ite (λ_=>no) λ_=>.ite (λ_=>no) λ_=>?_) λaAa=>?_
 ·exact .ok ⟨cG.wf,by simpa using cG.cells,cG.kept,cG.qJ⟩ (by simp[bG.ba];omega) (bS _) ag
 refine .ite (λ_=>.ite (λ_=>no) λ_=>?_) λIv=>?_
 ·unfold vm;exact .ite (λ_=>.no (cG.with (cG.wf.derive _ _ _)) mY (bS _)) λ_=>.ok (cG.with (cG.wf.derive _ _ _)) mY (bS _) (Cn No)
 refine .ite (λ_=>.ite (λ_=>no) λ_=>.ite (λ_=>.no (cG.with cG.wf.gate) mY (bS _)) λa7=>?_) λaAb=>?_
 ·have hw:=cG.wf.gate.derive (l.getD 0 cp).n 15 S.G.gate.2.1;have aq:=No (G:=S.G.gate.1) (n:=(l.getD 0 cp).n) (r:=15) (k:=S.G.gate.2.1);generalize S.G.gate.1.derive (l.getD 0 cp).n 15 S.G.gate.2.1=q at hw aq ⊢;obtain⟨ei,m,c⟩:=q;refine .ite (λ_=>.no (cG.with hw) mY (bS _)) λ_=>.ok (cG.with hw) mY (bS _) ?_;refine Nl (by simp[ay.size,iM,oL]) (by simp[jz,oJ]) ?_;intro x an;rcases gW.1 an with rfl|an
  ·exact Cn aq
  ·simp only[vp]at an;subst an;refine akg ?_;unfold be.gate;split
   ·exact Int.le_refl _
   ·exact Int.natCast_nonneg _
 refine .ite (λ_=>.ite (λ_=>no) λ_=>?_) λaAc=>?_
 ·exact .ok (cG.with (cG.wf.cut _)) mY (bS _) vo
 refine .ite (λ_=>?_) λqK=>no;refine .ok ⟨cG.wf,cG.cells,by simpa using cG.kept,λv U=>?_⟩ mY (bS _) (tL cG.qJ _);rcases List.mem_or_eq_of_mem_set U with h|rfl
 ·exact cG.qJ v h
 ·exact aN
theorem UP(G:be):∀(f:Nat) (i:Int),(G.np f i).length<=f
 |0,_=>by simp[be.np]
 |f+1,i=>by
   unfold be.np;split
   ·have:=UP G f (G.nodes.getD i.toNat lK).parent;simp only[dw];omega
   ·simp
theorem UQ{G:be}(h:G.dE){i:Int}:(G.ry i).length<=80:=by
 unfold be.ry qH;rw[gG];refine ee (List.length_filter_le _ _) ?_;cases bz:G.has i with
 |false=>rw[be.yk bz];simp
 |true=>have:=UP G (i.toNat+1) i;simp only[be.has,decide_eq_true_eq]at bz;have:=h.qG;unfold be.path;omega
theorem UR{ms:dQ}{v x:ay}{a8:Nat}{S:bG}(cG:S.Good):(jr ms v x a8 S).1.Good/\(jr ms v x a8 S).1.ba<=S.ba/\((jr ms v x a8 S).2.2=0->(jr ms v x a8 S).2.1.arg.code=0/\(jr ms v x a8 S).2.1.ec.length<=80/\(ms.getD (jr ms v x a8 S).2.1.bD.toNat Z).isSome/\0<=(jr ms v x a8 S).2.1.bD/\0<=(jr ms v x a8 S).2.1.func/\(jr ms v x a8 S).2.1.func.toNat<(iN ms (jr ms v x a8 S).2.1.bD).length):=by
 unfold jr;simp only;split
 ·exact⟨cG,bS _,λh=>by simp at h⟩
 split
 ·exact⟨cG,bS _,λh=>by simp at h⟩
 split
 ·exact⟨cG,bS _,λh=>by simp at h⟩
 rename_i hp;split
 ·exact⟨cG,bS _,λh=>by simp at h⟩
 rename_i aq;simp only[not_or]at aq;split
 ·exact⟨cG,bS _,λh=>by simp at h⟩
 refine⟨cG.with (UG cG.wf),bS _,λh=>⟨UO h,?_,by simpa[Option.isNone_iff_eq_none,Option.isSome_iff_ne_none]using aq.1,by simp only;omega,by simp only;omega,?_⟩⟩
 ·exact UQ cG.wf
 ·have:=aq.2.1;have:=aq.2.2;simp only;omega
theorem akj{ec:List Int}{v:ay}{S:bG}(cG:S.Good):iX 0 S (l7 ec v S):=by unfold l7;have hw:=UG (aV:=ec) (x:=v) cG.wf;have al:=UO (aV:=ec) (G:=S.G) (x:=v);generalize hJ ec S.G v=q at hw al ⊢;obtain⟨ei,y,c⟩:=q;refine .ite (λ_=>.no (cG.with hw) (bS _) (bS _)) λh=>.ok (cG.with hw) (bS _) (bS _) (al (by simpa using h))
def Iw(S:bG)(q:bG×ay×Int):Prop:=iX 0 S q/\(q.2.2=0->q.1.left<S.left)
theorem iX.trans{n k:Nat}{S Np:bG}{q:bG×ay×Int}(F:Np.ba<=S.ba+n)(J:Np.left<=S.left)(h:iX k Np q):iX (n+k) S q:=⟨h.dg,by have:=h.ba;omega,ee h.left J,h.val⟩
theorem iX.po{n k:Nat}{S:bG}{q:bG×ay×Int}(h:iX k S q)(ab:k<=n):iX n S q:=⟨h.dg,by have:=h.ba;omega,h.left,h.val⟩
theorem Nq{f:bk->bG->bG×ay×Int}(bn:∀x S,S.Good->Iw S (f x S)):∀(l:List bk) (S:bG) (acc:List ay),S.Good->(∀v∈acc,v.code=0)->(j1 f l S acc).1.Good/\(j1 f l S acc).1.ba<=S.ba/\(j1 f l S acc).1.left<=S.left/\((j1 f l S acc).2.2=0->(∀v∈(j1 f l S acc).2.1,v.code=0)/\(j1 f l S acc).1.left+(j1 f l S acc).2.1.length<=S.left+acc.length)
 |[],S,acc,cG,aN=>⟨cG,bS _,bS _,λ_=>⟨aN,bS _⟩⟩
 |x::l,S,acc,cG,aN=>by
   obtain⟨F,J⟩:=bn x S cG;rw[j1];rcases aE:f x S with⟨b3,v,c⟩;rw[aE]at F J;simp only at J ⊢;split
   ·rename_i al;exact⟨F.dg,F.ba,F.left,λe=>absurd e al⟩
   ·rename_i al;have al:c=0:=by omega
    have af:=J al;have U:=F.val al;obtain⟨g1,cK,et,lO⟩:=Nq bn l b3 (acc++[v]) F.dg (λw hw=>by
     rcases pq.1 hw with h|h
     ·exact aN w h
     ·simp only[vp]at h;rw[h];exact U)
    have hm:b3.ba<=S.ba:=F.ba;have hle:b3.left<=S.left:=F.left;refine⟨g1,ee cK hm,ee et hle,λe=>⟨(lO e).1,?_⟩⟩;have:=(lO e).2;simp only[dy,fS]at this;omega
theorem EM{S:bG}(h:S.left≠0):S.tick.ba+1=S.ba/\S.tick.left+1=S.left:=by simp only[bG.ba,bG.tick];omega
theorem bG.Good.tick{S:bG}(h:S.Good):S.tick.Good:=⟨h.wf,h.cells,h.kept,h.qJ⟩
theorem akk{p:Int}{x:bk}{arg:ay}{names:List ay}{S:bG}{v:ay}(cG:S.Good)(aN:arg.code=0)(aq:∀v∈names,v.code=0)(h:ll p x arg names S=j v):v.code=0:=by
 unfold ll at h;split at h
 ·injection h with h;rw[<-h];exact vo
 split at h
 ·injection h with h;rw[<-h];exact EL _
 split at h
 ·injection h with h;rw[<-h];exact aN
 split at h
 ·injection h with h;rw[<-h];exact tL aq _
 split at h
 ·injection h with h;rw[<-h];exact tL cG.qJ _
 cases h
theorem sy(ms:dQ):∀(N:Nat) (p:Int) (x:bk) (arg:ay) (names:List ay) (a8:Nat) (S:bG),S.Good->arg.code=0->(∀v∈names,v.code=0)->Iw S (e5 ms N p x arg names a8 S)
 |0,p,x,arg,names,a8,S,cG,_,_=>⟨.no cG (bS _) (bS _),λh=>by simp[e5,bG.no]at h⟩
 |N+1,p,x,arg,names,a8,S,cG,aN,aq=>by
   have aW:=sy ms N;rw[e5];split
   ·exact⟨.no cG (bS _) (bS _),λh=>by simp[bG.no]at h⟩
   rename_i am;obtain⟨rB,j2⟩:=EM am;suffices h:∀q,iX 1 S.tick q->Iw S q by
    refine h _ ?_;split
    ·rename_i v U;exact .ok cG.tick (Nat.le_succ _) (bS _) (akk cG.tick aN aq U)
    ·split
     ·have F:=(aW p (x.l.getD 0 jB) arg names a8 S.tick cG.tick aN aq).1;rcases aE:e5 ms N p (x.l.getD 0 jB) arg names a8 S.tick with⟨b3,v,c⟩;rw[aE]at F;refine .ite (λ_=>(iX.no (c:=c) F.dg F.ba F.left).po (hK _)) λal=>?_;have J:=(aW p (x.l.getD 1 jB) arg (names++[v]) a8 b3 F.dg aN (λw hw=>by
       rcases pq.1 hw with h|h
       ·exact aq w h
       ·simp only[vp]at h;rw[h];exact F.val (by simpa using al))).1
      exact(iX.trans F.ba F.left J).po (hK _)
     ·split
      ·have F:=(aW p (x.l.getD 0 jB) arg names a8 S.tick cG.tick aN aq).1;rcases aE:e5 ms N p (x.l.getD 0 jB) arg names a8 S.tick with⟨b3,v,c⟩;rw[aE]at F;refine .ite (λ_=>(iX.no (c:=c) F.dg F.ba F.left).po (hK _)) λal=>?_;refine .ite (λ_=>(iX.no (c:=2) F.dg F.ba F.left).po (hK _)) λ_=>?_;refine .ite (λ_=>?_) λ_=>?_
       ·exact(iX.trans F.ba F.left (aW p (x.l.getD 1 jB) arg names a8 b3 F.dg aN aq).1).po (hK _)
       ·exact(iX.trans F.ba F.left (aW p (x.l.getD 2 jB) arg names a8 b3 F.dg aN aq).1).po (hK _)
      ·have F:=Nq (f:=λy S=>e5 ms N p y arg names a8 S) (λy S h=>aW p y arg names a8 S h aN aq) x.l S.tick [] cG.tick (by simp);rcases aE:j1 (λy S=>e5 ms N p y arg names a8 S) x.l S.tick []with⟨b3,l,c⟩;rw[aE]at F;obtain⟨g1,cK,et,lO⟩:=F;simp only at g1 cK et lO;refine .ite (λ_=>(iX.no (n:=0) (c:=c) g1 cK et).po (hK _)) λal=>?_;have p4:=(lO (by simpa using al)).1;refine .ite (λ_=>.ite (λ_=>(iX.no (n:=0) (c:=4) g1 cK et).po (hK _)) λ_=>?_) λ_=>.ite (λ_=>?_) λ_=>?_
       ·exact(iX.trans (n:=0) cK et (aW p (gs ms p x.k) (l.getD 0 cp) [] (a8+1) b3 g1 (tL p4 0) (by simp)).1).po (hK _)
       ·obtain⟨aP,a2,a3⟩:=UR (ms:=ms) (v:=l.getD 0 cp) (x:=l.getD 1 cp) (a8:=a8) g1;have a4:=Nj ms (l.getD 0 cp) (l.getD 1 cp) a8 b3;rcases sx:jr ms (l.getD 0 cp) (l.getD 1 cp) a8 b3 with⟨mX,q,c2⟩;rw[sx]at aP a2 a3 a4;simp only at aP a2 a3 a4;have dk:mX.ba<=S.tick.ba+0:=ee a2 cK;have dH:mX.left<=S.tick.left:=ee (p3 a4) et;refine .ite (λ_=>(iX.no (n:=0) (c:=c2) aP dk dH).po (hK _)) λjJ=>?_;have af:=(aW q.bD (gs ms q.bD q.func) q.arg [] (a8+1) mX aP (a3 (by simpa using jJ)).1 (by simp)).1;rcases ym:e5 ms N q.bD (gs ms q.bD q.func) q.arg [] (a8+1) mX with⟨sw,v,c3⟩;rw[ym]at af;have aB:=iX.trans dk dH af;refine .ite (λ_=>(iX.no (c:=c3) aB.dg aB.ba aB.left).po (hK _)) λ_=>?_;exact(iX.trans aB.ba aB.left (akj af.dg)).po (hK _)
       ·exact iX.trans (n:=0) cK et (aki g1 p4)
   intro q h;have F:=h.ba;have J:=h.left;exact⟨⟨h.dg,by omega,by omega,h.val⟩,λ_=>by omega⟩
structure h2.Good(ms:dQ)(t:h2):Prop where
 hd:0<=t.bD
 there:(ms.getD t.bD.toNat Z).isSome
 f0:0<=t.f
 f1:t.f.toNat<(iN ms t.bD).length
 arg:t.arg.code=0
 names:∀v∈t.names,v.code=0
 stack:∀v∈t.stack,v.code=0
 ec:t.ec.length<=80
structure cm.Good(ms:dQ)(m:cm):Prop where
 S:m.S.Good
 top:m.top.Good ms
 ba:m.S.ba<=1000000
 cV:m.top.stack.length+m.S.left<=100000
 vq:m.top.names.length+m.S.left<=100000
 qG:m.below.length+1<=20
structure Co(m:cm)(x:cY):Prop where
 kind:(1<=x.op/\x.op<=21/\x.op≠5/\x.op≠7)\/(100<=x.op/\x.op<=105)
 one:x.op=101\/x.op=103\/x.op=105->m.top.stack≠[]
 US:x.op=102->m.top.names≠[]
 jump:x.op=103\/x.op=104->0<=x.k
 parts:x.op<100->(fX x.op).toNat<=m.top.stack.length
 var:x.op=4->0<=x.k/\x.k<m.top.names.length
structure wP(ms:dQ)(m:cm):Prop where
 dg:m.Good ms
 bo:m.top.bo<(kV ms m.top.bD m.top.f).length
 op:Co m ((kV ms m.top.bD m.top.f).getD m.top.bo wO)
inductive kt(ms:dQ):cm->p2->Prop
 |go {m aZ:cm} {r:p2}:wP ms m->nr ms m= .go aZ->kt ms aZ r->kt ms m r
 |over {m:cm} {S:bG} {v:ay}:wP ms m->nr ms m= .over S v->kt ms m (.over S v)
 |fail {m:cm} {S:bG} {c:Int}:wP ms m->nr ms m= .fail S c->kt ms m (.fail S c)
def yn(ms:dQ):Prop:=∀p:Int,∀x∈iN ms p,x.fault (iN ms p).length 0=0
def wQ(ms:dQ):Prop:=∀p f:Int,(kV ms p f).length<=1000000000
def gQ(ms:dQ)(p f:Int)(v:ay)(fuel:Int)(S:bG):bG×ay×Int×Int:=
 if fuel<0\/2000<fuel\/p<0\/4<=p then(S,cp,0,1)
 else if(ms.getD p.toNat Z).isNone\/f<0\/((iN ms p).length:Int)<=f then(S,cp,0,8)
 else if v.code≠0 then(S,cp,0,v.code)
 else match e5 ms fuel.toNat p (gs ms p f) v [] 1 {S with left:=fuel.toNat}with
  |(b3,w,c)=>({b3 with left:=S.left},if c=0 then w else cp,fuel - (b3.left:Int),c)
section
variable{α β:Type}{d:Nat}
def vr(z:β)(q:bG×α×Int)(k:bG->α->bG×β×Int):bG×β×Int:=match q with
 |(S,v,c)=>if c≠0 then(S,z,c)else k S v
end
theorem UT(f:bk->bG->bG×ay×Int)(x:bk)(l:List bk)(S:bG)(acc:List ay):j1 f (x::l) S acc=vr [] (f x S) λb3 v=>j1 f l b3 (acc++[v]):=rfl
theorem UU(ms:dQ)(N:Nat)(p:Int)(x:bk)(arg:ay)(names:List ay)(a8:Nat)(S:bG):e5 ms (N+1) p x arg names a8 S=if S.left=0 then S.no 12 else match ll p x arg names S.tick with
  |some v=>S.tick.ok v
  |none=>
    if x.op=5 then vr cp (e5 ms N p (x.l.getD 0 jB) arg names a8 S.tick) λb3 v=>e5 ms N p (x.l.getD 1 jB) arg (names++[v]) a8 b3
    else if x.op=7 then vr cp (e5 ms N p (x.l.getD 0 jB) arg names a8 S.tick) λb3 v=>if v.kind≠1 then b3.no 2 else if v.n≠0 then e5 ms N p (x.l.getD 1 jB) arg names a8 b3 else e5 ms N p (x.l.getD 2 jB) arg names a8 b3
    else vr cp (j1 (λy S=>e5 ms N p y arg names a8 S) x.l S.tick []) λb3 l=>
     if x.op=18 then(if a8=20 then b3.no 4 else e5 ms N p (gs ms p x.k) (l.getD 0 cp) [] (a8+1) b3)
     else if x.op=19 then vr cp (jr ms (l.getD 0 cp) (l.getD 1 cp) a8 b3) λmX q=>vr cp (e5 ms N q.bD (gs ms q.bD q.func) q.arg [] (a8+1) mX) λsw v=>l7 q.ec v sw
     else hr p x.op x.k x.n l b3:=by
 rw[e5];rfl
inductive I where
 |aD
 |bool (b:Bool)
 |int (k:kf) (n:Int)
 |str (s:List UInt8)
 |fx
 |ptr (b i off:Nat)
 |cF (t:aU) (b:Nat)
 |ip (e:List I) (off:Nat)
 |aC
 |bN (id:Option Nat) (el:aU) (es:List (List I))
 |br (b O n:Nat) (el:aU)
 |fn (f:cH) (first captured:List I)
 |nu
 |fC
 |iface (t:aU) (v:I)
 |agg (cs:List I)
 |bx (bl:List I)
 deriving Inhabited
abbrev i64(n:Int):I:=.int o n
def I.cells:I->List I
 |.agg cs=>cs
 |v=>[v]
def I.one:I->Bool
 |.aD|.agg _|.bx _=>R
 |_=>Q
structure ad where
 n:Nat
 cell:Nat->Option (List (List I))
 ids:Nat
 hw:Nat->Nat
def ad.set(h:ad)(b:Nat)(es:Option (List (List I))):ad:={h with cell:=λk=>if k=b then es else h.cell k}
def ad.push(h:ad)(es:List (List I)):ad:={h with n:=h.n+1,cell:=λk=>if k=h.n then j es else h.cell k}
def ad.grow(h:ad)(id m:Nat):ad:={h with hw:=λk=>if k=id then m else h.hw k}
def ad.fresh(h:ad)(m:Nat):ad:={h with ids:=h.ids+1,hw:=λk=>if k=h.ids then m else h.hw k}
def yo:bH->I
 |.bool b=>.bool b
 |.int k n=>.int k n
 |.string s=>.str s.data.toList
 |.pointer Z=>.fx
 |.slice Z 0 0=>.aC
 |.nilFunc=>.nu
 |.nilIface=>.fC
 |_=>.aD
def zV:bH->I
 |.agg cs=>.agg (cs.toList.map yo)
 |v=>yo v
def bA(t:List I):fM->I
 |.tmp i=>t.getD i .aD
 |.const v=>zV v
 |.func f=>.fn f [] []
 |.global _=>.aD
def eU(t:List I)(d:Option Tmp)(v:I):List I:=
 match d with
 |some i=>t.set i v
 |none=>t
section
variable(P:cu)
def c'(t:aU):Nat:=P.cellsOf t
def j3(t:aU):Bool:=match P.underlying t with
 |some (.struct _)|some (.array ..)=>Q
 |_=>R
def kg(t:aU):Option (List I):=if t<P.types.size then(P.info? t).bind λi=>i.zero.map λv=>(zV v).cells else Z
def sz(t:aU):Option (List (Nat×aU)):=match P.underlying t with
 |some (.struct dM)=>j (dM.toList.map λf=>(f.offset,f.type))
 |_=>Z
def jK(t:aU):Option aU:=if t<P.types.size then match P.underlying t with
 |some (.slice e)=>j e
 |_=>Z else Z
def qL(t:aU):Option (Nat×aU):=match P.underlying t with
 |some (.array n e)=>j (n,e)
 |_=>Z
inductive kh where
 |bool|int (k:kf)|str|ptr|slice|iface|func|agg|other
def hs(t:aU):kh:=match P.underlying t with
 |some .bool=>.bool
 |some (.int k)=>.int k
 |some .string=>.str
 |some (.pointer _)=>.ptr
 |some (.slice _)=>.slice
 |some (.interface _)=>.iface
 |some (.func ..)=>.func
 |some (.struct _)|some (.array ..)=>.agg
 |_=>.other
end
def oM(P:cu)(t:aU):Bool:=match P.underlying t with
 |some .string=>Q
 |_=>R
def Ix(P:cu)(t:aU):Bool:=(jK P t).isSome
def wR(P:cu)(t:aU):Bool:=match P.underlying t with
 |some (.interface _)=>R
 |some _=>Q
 |none=>R
def wS(P:cu)(t:aU):I->Bool
 |.str _=>oM P t
 |.bN _ el _=>jK P t==j el
 |.br _ _ _ el=>jK P t==j el
 |.aC=>Ix P t
 |_=>R
def gX(agg:Bool)(n:Nat)(e:List I)(off:Nat):Option I:=
 if agg then(if off+n<=e.length then j (.agg ((e.drop off).take n))else Z)else e[off]?
def dO(e:List I)(off:Nat)(cs:List I):List I:=e.take off++cs++e.drop (off+cs.length)
def ad.row(h:ad)(b i:Nat):Option (List I):=(h.cell b).bind (·[i]?)
def cO(agg:Bool)(n:Nat)(h:ad):I->Option I
 |.ptr b i off=>(h.row b i).bind λe=>gX agg n e off
 |.cF _ b=>(h.row b 0).bind λe=>gX agg n e 0
 |.ip e off=>gX agg n e off
 |_=>Z
def eN(n:Nat)(h:ad)(a x:I):Option ad:=
 match a with
 |.ptr b i off=>(h.cell b).bind λes=>(es[i]?).bind λe=>if x.cells.all I.one/\x.cells.length=n/\off+n<=e.length then j (h.set b (j (es.set i (dO e off x.cells))))else Z
 |.cF _ b=>(h.cell b).bind λes=>(es[0]?).bind λe=>if x.cells.all I.one/\x.cells.length=n/\0+n<=e.length then j (h.set b (j (es.set 0 (dO e 0 x.cells))))else Z
 |_=>Z
def pr:List (Nat×Nat)->List I->List (Nat×I)->Option (List I)
 |_,cs,[]=>j cs
 |pl,cs,(i,v)::r=>match pl[i]? with
   |some (off,size)=>if v.cells.length=size/\off+size<=cs.length/\v.cells.all I.one then pr pl (dO cs off v.cells) r else Z
   |none=>Z
def ps:Nat->List (List I)->List (Nat×I)->Option (List (List I))
 |_,es,[]=>j es
 |eE,es,(i,v)::r=>if v.cells.length=eE/\i<es.length/\v.cells.all I.one then ps eE (es.set i v.cells) r else Z
def oN(op:BinOp)(k:kf)(a b:Int):Option I:=
 match op with
 |.add=>j (.int k (k.wrap (a+b)))
 |.sub=>j (.int k (k.wrap (a - b)))
 |.mul=>j (.int k (k.wrap (a*b)))
 |.eql=>j (.bool (a==b))
 |.neq=>j (.bool (a != b))
 |.lss=>j (.bool (a<b))
 |.leq=>j (.bool (a<=b))
 |.gtr=>j (.bool (a>b))
 |.geq=>j (.bool (a>=b))
 |.and=>j (.int k (k.wrap (nS k.bits a&&& nS k.bits b).toNat))
 |.or=>j (.int k (k.wrap (nS k.bits a|||nS k.bits b).toNat))
 |.andNot=>j (.int k (k.wrap (nS k.bits a&&& ~~~(nS k.bits b)).toNat))
 |.rem=>if b=0 then Z else j (.int k (a.tmod b))
 |_=>Z
def nT:kh->I->I->Option Bool
 |.bool,.bool a,.bool b=>j (a==b)
 |.ptr,.fx,.fx=>j Q
 |.ptr,.fx,.ptr .. =>j R
 |.ptr,.fx,.ip .. =>j R
 |.ptr,.fx,.cF .. =>j R
 |.ptr,.cF ..,.fx=>j R
 |.ptr,.ptr ..,.fx=>j R
 |.ptr,.ip ..,.fx=>j R
 |.slice,.aC,.aC=>j Q
 |.slice,.bN ..,.aC=>j R
 |.slice,.br ..,.aC=>j R
 |.slice,.aC,.bN .. =>j R
 |.slice,.aC,.br .. =>j R
 |.func,.nu,.nu=>j Q
 |.func,.fn ..,.nu=>j R
 |.func,.nu,.fn .. =>j R
 |.iface,.iface ..,.fC=>j R
 |.iface,.fC,.iface .. =>j R
 |_,_,_=>Z
def dC(fq:kh)(op:BinOp)(x y:I):Option I:=
 match x,y with
 |.int k a,.int dn b=>
   match op with
   |.shl=>if b<0 then Z else j (.int k (k.wrap (a*2 ^ min b.toNat k.bits)))
   |.shr=>if b<0 then Z else j (.int k (a.fdiv (2 ^ min b.toNat k.bits)))
   |_=>if k=dn then oN op k a b else Z
 |.str a,.str b=>match op with
   |.add=>if a.length+b.length<=1000000000000 then j (.str (a++b))else Z
   |.eql=>j (.bool (a==b))
   |.neq=>j (.bool (a != b))
   |_=>Z
 |x,y=>match op with
   |.eql=>(nT fq x y).map .bool
   |.neq=>(nT fq x y).map λb=>.bool !b
   |_=>Z
def sA:List kh->List I->List I->Option Bool
 |[],[],[]=>j Q
 |.int _::aV,.int k a::xs,.int dn b::dR=>if k=dn then(sA aV xs dR).map λr=>(a==b)&&r else Z
 |.bool::aV,.bool a::xs,.bool b::dR=>(sA aV xs dR).map λr=>(a==b)&&r
 |.str::aV,.str a::xs,.str b::dR=>(sA aV xs dR).map λr=>(a==b)&&r
 |_,_,_=>Z
def vs(P:cu)(t:aU):Option (List kh):=match P.underlying t with
 |some (.struct dM)=>if !P.stoodInHeld t&& !P.eqGuardType P.depth t&&(dM.toList.zipIdx.all λ(f,i)=>f.name != "_"&&f.offset==i&&P.cellsOf f.type==1)then j (dM.toList.map λf=>hs P f.type)else Z
 |_=>Z
def fr(t:List I)(O:bb):Option (cH×List I):=
 match O.op with
 |.call {callee:=.value f,args,..}=>match bA t f with
   |.fn g first captured=>j (g,first++args.toList.map (bA t)++captured)
   |_=>Z
 |_=>Z
def gY:I->Option Nat
 |.aC=>j 0
 |.bN _ _ es=>j es.length
 |.br _ _ n _=>j n
 |.str s=>j s.length
 |_=>Z
def js(h:ad)(eE:aU):I->Option (List (List I))
 |.aC=>j []
 |.bN _ z es=>if z=eE then j es else Z
 |.br b O n z=>if z=eE then(h.cell b).bind λes=>if O+n<=es.length then j ((es.drop O).take n)else Z else Z
 |_=>Z
def sB(el:aU)(s:I)(h:ad):Option (I×ad):=match s with
 |.aC=>j (.aC,h)
 |.bN id z es=>if z=el then j (.bN id z es,h)else Z
 |.br b O n z=>if z=el then j (.br b O n z,h)else Z
 |_=>Z
def kW(ba:Bool)(el:aU)(s:I)(new:List (List I))(h:ad):Option (I×ad):=
 if 0<new.length/\new.length<=1000000/\new.all (·.all I.one)then
  match s with
  |.aC=>if ba then j (.br h.n 0 new.length el,h.push new)else j (.bN (j h.ids) el new,h.fresh new.length)
  |.bN (j k) z es=>if z=el/\h.hw k=es.length/\es.length<=1000000 then j (.bN (j k) el (es++new),h.grow k (es.length+new.length))else Z
  |.br b O n z=>if z=el/\O=0/\n<=1000000 then
    (h.cell b).bind λes=>if n<=es.length then j (.br h.n 0 (n+new.length) el,(h.set b Z).push (es.take n++new))else Z
    else Z
  |_=>Z
 else Z
def e0(ba:Bool)(el:aU)(s x:I)(h:ad):Option (I×ad):=
 match x with
 |.aC=>sB el s h
 |x=>(js h el x).bind λnew=>if new.length=0 then sB el s h else kW ba el s new h
abbrev jL(l:List UInt8):List (List I):=l.map λc=>[.int .u8 c.toNat]
def EN(P:cu)(e:aU):Bool:=match P.info? e with
 |some i=>(match i.zero with|some (.int .u8 n)=>n==0|_=>R)&&i.size==1&&i.bytes==1
 |none=>R
def wT(ba:Bool)(el:aU)(s x:I)(h:ad):Option (I×ad):=
 match x with
 |.str l=>if l.length=0 then sB el s h else if l.length<=1000000000000 then(match s with
   |.aC=>if ba then j (.br h.n 0 l.length el,h.push (jL l))else Z
   |.br b O n z=>if z=el/\O=0/\n<=1000000000000 then
     (h.cell b).bind λes=>if n<=es.length then j (.br h.n 0 (n+l.length) el,(h.set b Z).push (es.take n++jL l))else Z
     else Z
   |_=>Z)else Z
 |_=>Z
def p5:Option I->Option Int
 |none=>j 0
 |some (.int _ l)=>j l
 |_=>Z
def qM(n:Nat):Option I->Option Int
 |none=>j n
 |some (.int _ r)=>j r
 |_=>Z
def oO(x:I)(l r:Int):Option I:=
 match x with
 |.str s=>j (.str ((s.drop l.toNat).take (r.toNat - l.toNat)))
 |.bN _ z es=>j (.bN Z z ((es.drop l.toNat).take (r.toNat - l.toNat)))
 |.aC=>j .aC
 |.br b O _ z=>if l=0 then j (.br b O r.toNat z)else Z
 |_=>Z
def ku(x:I)(gk ae:Option I):Option I:=(p5 gk).bind λl=>(gY x).bind λn=>(qM n ae).bind λr=>if 0<=l/\l<=r/\r<=n then oO x l r else Z
def zW(op:UnOp)(x:I):Option I:=
 match op,x with
 |.not,.bool b=>j (.bool !b)
 |.neg,.int k n=>j (.int k (k.wrap (0 - n)))
 |_,_=>Z
def yp(fq:kh)(x:I):Option I:=
 match fq,x with
 |.int k,.int _ n=>j (.int k (k.wrap n))
 |.str,.str s=>j (.str s)
 |_,_=>Z
def yq(l8:Bool):I->I->Option I
 |.int k a,.int _ b=>j (.int k (if l8 then(if b>a then b else a)else(if b<a then b else a)))
 |_,_=>Z
def b9(off:Nat):I->Option I
 |.ptr b i O=>j (.ptr b i (O+off))
 |.cF t b=>j (if off=0 then .cF t b else .ptr b 0 off)
 |.ip e O=>j (.ip e (O+off))
 |_=>Z
def p6(P:cu)(ty:aU)(x k:I):Option I:=
 match x,k with
 |.bN _ el es,.int _ k=>if jK P ty=j el/\0<=k then(es[k.toNat]?).map λe=>.ip e 0 else Z
 |.br b O n el,.int _ k=>if jK P ty=j el/\0<=k/\k<n then j (.ptr b (O+k.toNat) 0)else Z
 |.ptr b i off,.int _ k=>(qL P ty).bind λq=>if c' P q.2≠0/\0<=k/\k<q.1 then j (.ptr b i (off+k.toNat*c' P q.2))else Z
 |.ip e off,.int _ k=>(qL P ty).bind λq=>if c' P q.2≠0/\0<=k/\k<q.1 then j (.ip e (off+k.toNat*c' P q.2))else Z
 |_,_=>Z
def wU(P:cu)(ty:aU)(x k:I):Option I:=
 match x,k with
 |.str s,.int _ k=>if oM P ty=Q/\0<=k then(s[k.toNat]?).map λc=>.int .u8 c.toNat else Z
 |.agg cs,.int _ k=>(qL P ty).bind λq=>if(P.underlying q.2).isSome/\c' P q.2≠0/\0<=k/\k<q.1 then gX (j3 P q.2) (c' P q.2) cs (k.toNat*c' P q.2)else Z
 |_,_=>Z
def jC(P:cu)(t:List I)(O:bb):Option I:=
 match O.op with
 |.move x=>j (bA t x)
 |.assign x=>j (bA t x)
 |.pick c a b=>match bA t c with
   |.bool v=>j (if v then bA t a else bA t b)
   |_=>Z
 |.build ty parts=>(kg P ty).bind λz=>match sz P ty with
   |some pl=>if pl.all (λq=>c' P q.2 != 0)then(pr (pl.map λq=>(q.1,c' P q.2)) z (parts.toList.map λq=>(q.1,bA t q.2))).map .agg else Z
   |none=>(qL P ty).bind λq=>if c' P q.2=0 then Z else(pr ((iO q.1).map λi=>(i*c' P q.2,c' P q.2)) z (parts.toList.map λq=>(q.1,bA t q.2))).map .agg
 |.nilCheck x=>match bA t x with
   |.ptr b i off=>j (.ptr b i off)
   |.cF t b=>j (.cF t b)
   |.ip e off=>j (.ip e off)
   |.fn f a c=>j (.fn f a c)
   |.iface q v=>j (.iface q v)
   |_=>Z
 |.binOp op ty x y _=>match bA t x,bA t y with
   |.fC,.fC=>match hs P ty,y,op with
     |.iface,.const _,.eql=>j (.bool Q)
     |.iface,.const _,.neq=>j (.bool R)
     |_,_,_=>Z
   |.agg xs,.agg dR=>(vs P ty).bind λaV=>match op with
     |.eql=>(sA aV xs dR).map λb=>.bool b
     |.neq=>(sA aV xs dR).map λb=>.bool !b
     |_=>Z
   |a,b=>dC (hs P ty) op a b
 |.unOp op _ x=>zW op (bA t x)
 |.convert src dst x=>if(P.underlying src).isNone then Z else yp (hs P dst) (bA t x)
 |.makeInterface ty x=>if wR P ty=R then Z else if(bA t x).one then j (.iface ty (bA t x))else match bA t x with
   |.agg cs=>j (.iface ty (.agg cs))
   |_=>Z
 |.makeFunc f first captured=>match f with
   |.func g=>j (.fn g (first.toList.map (bA t)) (captured.toList.map (bA t)))
   |_=>Z
 |.slice ty x gk ae l8=>if l8.isSome|| !wS P ty (bA t x)then Z else ku (bA t x) (gk.map (bA t)) (ae.map (bA t))
 |.fieldAddr s x f=>((sz P s).bind (·[f]?)).bind λq=>if c' P q.2=0 then Z else b9 q.1 (bA t x)
 |.field s x f=>((sz P s).bind (·[f]?)).bind λq=>match bA t x with
   |.agg cs=>if c' P q.2=0\/(P.underlying q.2).isNone then Z else gX (j3 P q.2) (c' P q.2) cs q.1
   |_=>Z
 |.indexAddr ty x bR=>p6 P ty (bA t x) (bA t bR)
 |.index ty x bR=>wU P ty (bA t x) (bA t bR)
 |.typeAssert x _ aS ok=>match bA t x with
   |.iface q v=>if wR P aS=Q/\q=aS then j (if ok then .bx [v,.bool Q]else v)else Z
   |_=>Z
 |.extract x i=>match bA t x with
   |.bx bl=>bl[i]?
   |_=>Z
 |.call {callee:=.builtin .len,args,argTypes}=>match args.toList,argTypes.toList with
   |[x],ty::_=>if wS P ty (bA t x)then(gY (bA t x)).map λ(n:Nat)=>i64 n else Z
   |_,_=>Z
 |.call {callee:=.builtin .min,args,..}=>match args.toList with
   |[x,y]=>yq R (bA t x) (bA t y)
   |_=>Z
 |.call {callee:=.builtin .max,args,..}=>match args.toList with
   |[x,y]=>yq Q (bA t x) (bA t y)
   |_=>Z
 |_=>Z
def fi(P:cu)(ba:aU->Bool)(t:List I)(h:ad)(O:bb):Option (I×ad):=
 match O.op with
 |.alloc e=>(kg P e).map λz=>(if ba e then .cF e h.n else .ptr h.n 0 0,h.push [z])
 |.box e x=>if(bA t x).cells.all I.one/\(bA t x).cells.length=c' P e then j (if ba e then .cF e h.n else .ptr h.n 0 0,h.push [(bA t x).cells])else Z
 |.buildSlice ty len parts=>(jK P ty).bind λe=>(kg P e).bind λz=>if len*c' P e<=16777216 then
   (ps (c' P e) (ar len z) (parts.toList.map λq=>(q.1,bA t q.2))).map λes=>
    if ba ty then(.br h.n 0 len e,h.push es)else if ba (ty+1000000)then(.bN Z e es,h)else(.bN (j h.ids) e es,h.fresh len)
   else Z
 |.load ty a=>if(P.underlying ty).isNone then Z else(cO (j3 P ty) (c' P ty) h (bA t a)).map λv=>(v,h)
 |.store ty a x=>if c' P ty=0 then Z else(eN (c' P ty) h (bA t a) (bA t x)).map λE=>(.aD,E)
 |.makeSlice ty l c=>match bA t l,bA t c with
   |.int _ n,.int _ m=>(jK P ty).bind λe=>(kg P e).bind λz=>if 0<=n/\n=m/\n<=100000 then j (.br h.n 0 n.toNat e,h.push (ar n.toNat z))else Z
   |_,_=>Z
 |.call {callee:=.builtin .append,args,argTypes}=>match args.toList,argTypes.toList with
   |[x,y],[ty,tM]=>if ty=tM then(jK P ty).bind λe=>if(kg P e).isSome then e0 (ba ty) e (bA t x) (bA t y) h else Z else if oM P tM then(jK P ty).bind λe=>if EN P e then wT (ba ty) e (bA t x) (bA t y) h else Z else Z
   |_,_=>Z
 |_=>(jC P t O).map λv=>(v,h)
def mZ(t:List I)(O:bb):Option I:=
 match O.op with
 |.panic x=>match bA t x with
   |.iface q v=>j (.iface q v)
   |_=>Z
 |_=>Z
def h3(ops:Array bb)(t:List I)(O:bb):Option Bool:=
 match O.guard with
 |none=>j Q
 |some (D,want)=>match(ops[D]?).bind (·.dst)with
   |some d=>match t.getD d .aD with
     |.bool b=>j (if want then b else !b)
     |.bx _=>j R
     |_=>Z
   |none=>Z
inductive im where
 |code (c:ef)
 |inBlock (id:Nat)
 |inLoop (c:ef)
 |ops (draw:Bool) (all:Array bb) (l:List (bb×List bb))
 |halt (K:List Item)
def nU(id:Nat):List im->Option (List im)
 |[]=>Z
 |.inBlock i::k=>if i=id then j k else nU id k
 |.halt _::_=>Z
 |_::k=>nU id k
inductive h4 where
 |ret
 |panic (v:I)
 |halt (K:List Item)
def p7(P:cu)(t:List I)(h:ad):List ResultVar->Option (List I)
 |[]=>j []
 |.tmp i::rs=>(p7 P t h rs).map λl=>t.getD i .aD::l
 |.cell i ty::rs=>if(P.underlying ty).isNone then Z else(cO (j3 P ty) (c' P ty) h (t.getD i .aD)).bind λv=>(p7 P t h rs).map λl=>v::l
def iY:List I->I
 |[v]=>v
 |bl=>.bx bl
def nV(fn:Func)(t:List I)(h:ad)(P:cu):Option I:=(p7 P t h fn.results.toList).map iY
def m0(O:bb):Bool:=match O.op with
 |.alloc _|.box .. |.buildSlice .. |.store .. |.makeSlice .. |.panic _=>R
 |.call {callee:=.builtin .append,..}=>R
 |.call {callee:=.value _,..}=>R
 |_=>Q
def sC(O:bb):Bool:=match O.op with
 |.load .. =>Q
 |_=>R
def ln(M:Array Nat)(i D:Nat):Bool:=(M.getD D 0).testBit i
def Cp(ops:Array bb)(M:Array Nat):Bool:=(iO ops.size).all λD=>(iO ops.size).all λi=> !ln M i D||((ops[D]?).any λO=>O.after.any λe=>kv .any e&&decide (e.on<D)&&(e.on==i||ln M i e.on))
def tN(cI:aU->Bool)(O:bb):Bool:=match O.op,O.guard,O.dst with
 |.alloc e,Z,j _=>cI e&&decide (e<2000000)
 |_,_,_=>R
def sD(cI:aU->Bool)(O:bb):Bool:=m0 O||(match O.op with|.buildSlice ty _ _=>cI (ty+2000000)|_=>R)
def Iy(cI:aU->Bool)(ops:Array bb)(M:Array Nat)(x y:Nat×List Nat):Bool:=
 let sE:=ops.getD x.1 default;let yr:=ops.getD y.1 default
 x.1 != y.1&&
 !(sE.after.any λe=>kv .any e&&e.on==y.1)&& !ln M y.1 x.1&&
 (sD cI sE||tN cI yr||ln M x.1 y.1)&&
 (sD cI yr|| !sC sE||ln M x.1 y.1||y.2.contains x.1)&&
 (match yr.dst with|some d=> !(sE.looksAt ops).contains d&&sE.dst != j d|none=>Q)&&
 (match sE.dst with|some d=> !(yr.looksAt ops).contains d||ln M x.1 y.1|none=>Q)
def EO(cI:aU->Bool)(ops:Array bb)(M:Array Nat):List (Nat×List Nat)->Bool
 |[]=>Q
 |x::r=>r.all (Iy cI ops M x)&&EO cI ops M r
def Nr(cI:aU->Bool)(ops:Array bb)(pl:List (Nat×List Nat)):Bool:=
 let M:=mA ops
 (iO ops.size).all (λi=>pl.any λq=>q.1==i)&&pl.all (λq=>decide (q.1<ops.size)&&(let O:=ops.getD q.1 default
  (match O.dst with|some d=> !(O.looksAt ops).contains d|none=>Q)&&(!m0 O||q.2.isEmpty)&&(match O.op with|.select .. =>R|_=>Q)&&q.2.all λi=>decide (i<ops.size)))&&
 ((iO ops.size).all λD=>(ops.getD D default).after.all λe=> !kv .any e||decide (e.on<D))&&
 Cp ops M&&EO cI ops M pl
def Ns(dp:List (Nat×Nat))(ops:Array bb)(M:Array Nat)(x y:Nat×List Nat):Bool:=
 let sE:=ops.getD x.1 default;let yr:=ops.getD y.1 default;let p:=ln M x.1 y.1||dp.contains (x.1,y.1)
 x.1 != y.1&&(m0 sE||p)&&(m0 yr|| !sC sE||p||y.2.contains x.1)&&
 (match yr.dst with|some d=> !(sE.looksAt ops).contains d&&sE.dst != j d|none=>Q)&&
 (match sE.dst with|some d=> !(yr.looksAt ops).contains d||p|none=>Q)
def tO(dp:List (Nat×Nat))(ops:Array bb)(pl:List (Nat×List Nat)):Bool:=
 let M:=mA ops
 (iO ops.size).all (λi=>pl.any λq=>q.1==i)&&pl.all (λq=>decide (q.1<ops.size))&&pl.all (λq=>let O:=ops.getD q.1 default
  (match O.dst with|some d=> !(O.looksAt ops).contains d|none=>Q))&&
 ((iO ops.size).all λD=>(ops.getD D default).after.all λe=> !kv .any e||decide (e.on<D))&&
 Cp ops M&&((iO pl.length).all λD=>(iO D).all λi=>Ns dp ops M (pl.getD i default) (pl.getD D default))
def rC(O:bb):Bool:=match O.op,O.guard,O.dst with
 |.store ..,Z,Z=>Q
 |_,_,_=>R
def Nt(ops:Array bb)(pl:List (Nat×List Nat)):Bool:=match pl.reverse with
 |(y,[hV])::(x,[])::r=>hV==x&&x != y&&rC (ops.getD x default)&&rC (ops.getD y default)&&tO [(x,y)] ops (r.reverse++[(x,[]),(y,[])])&&tO [(y,x)] ops (r.reverse++[(y,[]),(x,[])])
 |_=>R
def Iz(n:Nat)(cI:aU->Bool)(ops:Array bb)(pl:List (Nat×List Nat)):Bool:=
 let M:=mA ops
 pl.length==n&&(iO n).all (λi=>pl.any λq=>q.1==i)&&pl.all (λq=>decide (q.1<n))&&pl.all (λq=>let O:=ops.getD q.1 default
  (match O.dst with|some d=> !(O.looksAt ops).contains d|none=>Q))&&
 ((iO ops.size).all λD=>(ops.getD D default).after.all λe=> !kv .any e||decide (e.on<D))&&
 Cp ops M&&EO cI ops M pl
def Nu(cI:aU->Bool)(ops:Array bb)(pl:List (Nat×List Nat)):Bool:=match pl.reverse with
 |(y,[])::r=>y+1==ops.size&&(iO y).all (λi=>ln (mA ops) i y)&&Iz y cI ops r.reverse
 |_=>R
def ys(S:Nat->Bool)(ops:Array bb):Bool:=ops.toList.all λO=>match O.dst with|some d=> !S d|none=>Q
def EP(S:Nat->Bool)(e:aU):Bool:=S (1000000+e)
def ht(pl:Nat->List (Nat×List Nat))(S:Nat->Bool):ef->Bool
 |.region id ops d=> !d||((Nr (EP S) ops (pl id)||Nt ops (pl id)||Nu (EP S) ops (pl id))&&ys S ops)
 |.seq a b=>ht pl S a&&ht pl S b
 |.cond _ a b=>ht pl S a&&ht pl S b
 |.block _ b=>ht pl S b
 |.loop b=>ht pl S b
 |_=>Q
structure gZ where
 ext:cH->Option (List I->ad->Option ((I⊕I)×ad))
 ba:cH->aU->Bool
 aI:cH->Nat
 ch:cH->Nat->List (Nat×List Nat)
 use:cH->Bool
 pure:cH->Bool
 eu:cH->Nat->Bool
mutual
def dP:I->Option I
 |.bN _ z es=>(ki es).map (.bN Z z)
 |.agg cs=>(lP cs).map .agg
 |.bx bl=>(lP bl).map .bx
 |.iface t v=>(dP v).map (.iface t)
 |.ip _ _|.ptr _ _ _|.cF _ _|.br _ _ _ _|.fn _ _ _=>Z
 |.aD=>j .aD
 |.bool b=>j (.bool b)
 |.int k n=>j (.int k n)
 |.str s=>j (.str s)
 |.fx=>j .fx
 |.aC=>j .aC
 |.nu=>j .nu
 |.fC=>j .fC
def lP:List I->Option (List I)
 |[]=>j []
 |v::l=>match dP v,lP l with
   |some v,j l=>j (v::l)
   |_,_=>Z
def ki:List (List I)->Option (List (List I))
 |[]=>j []
 |v::l=>match lP v,ki l with
   |some v,j l=>j (v::l)
   |_,_=>Z
end
structure aK(h E:ad):Prop where
 n:h.n<=E.n
 ids:h.ids<=E.ids
 cell:∀b,b<h.n->E.cell b=h.cell b
 hw:∀k,k<h.ids->E.hw k=h.hw k
open Classical in
noncomputable def m2(p:Bool)(h:ad)(q:(I⊕I)×ad):Option ((I⊕I)×ad):=
 if p=Q then(if aK h q.2 then(match q.1 with
  |.inl v=>(dP v).map λv=>(.inl v,h)
  |.inr v=>(dP v).map λv=>(.inr v,h))else Z)else j q
def pt(P:cu)(all:Array bb)(t:List I)(h:ad):List bb->Prop
 |[]=>True
 |O::r=>(match h3 all t O with
    |some Q=>(match O.op,O.dst with
      |.load ty a,j d=>cO (j3 P ty) (c' P ty) h (bA t a)=j (t.getD d .aD)
      |.store ty a x,Z=>cO (j3 P ty) (c' P ty) h (bA t a)=j (bA t x)
      |_,_=>False)
    |_=>True)/\pt P all t h r
def iq(draw:Bool)(ops:Array bb)(pl:List (Nat×List Nat)):List (bb×List bb):=
 if draw then pl.map λq=>(ops.getD q.1 default,q.2.map λi=>ops.getD i default)else ops.toList.map λO=>(O,[])
def cz(n:Nat)(t:List I):List I:=t.take n++ar (t.length - n) .aD
def Cq(P:cu)(fn:Func)(r:h4×List I×ad):Option ((I⊕I)×ad):=match r.1 with
 |.ret=>(nV fn r.2.1 r.2.2 P).map λv=>(.inl v,r.2.2)
 |.panic v=>j (.inr v,r.2.2)
 |.halt _=>Z
open Classical in
noncomputable def dA(P:cu)(T:gZ)(f:cH)(k:List im)(t:List I)(h:ad):Option (h4×List I×ad):=
 match k with
 |[]=>j (.ret,t,h)
 |.inBlock _::k=>dA P T f k t h
 |.halt K::_=>j (.halt K,t,h)
 |.inLoop c::k=>dA P T f (.code c::.inLoop c::k) (cz (T.aI f) t) h
 |.ops _ _ []::k=>dA P T f k t h
 |.ops dh all ((O,bU)::l)::k=>
   match h3 all t O with
   |none=>Z
   |some R=>dA P T f (.ops dh all l::k) (eU t O.dst (.bx [])) h
   |some Q=>
    match mZ t O with
    |some v=>j (.panic v,t,h)
    |none=>
     match fr t O with
     |some (g,args)=>
       match T.ext g with
       |some ah=>ah args h>>= λr=>match r.1 with
         |.inl v=>if pt P all (eU t O.dst v) r.2 bU then dA P T f (.ops dh all l::k) (eU t O.dst v) r.2 else Z
         |.inr v=>j (.panic v,t,r.2)
       |none=>match P.funcs[g]? with
         |none=>Z
         |some fn=>match fn.body with
           |none=>Z
           |some c=>if T.use g=R then Z else(dA P T g [.code c] (args++ar (fn.ntmps - args.length) .aD) h)>>= λr=>Cq P fn r>>= λq=>m2 (T.pure g) h q>>= λq=>match q.1 with
             |.inl v=>if pt P all (eU t O.dst v) q.2 bU then dA P T f (.ops dh all l::k) (eU t O.dst v) q.2 else Z
             |.inr v=>j (.panic v,t,q.2)
     |none=>fi P (T.ba f) t h O>>= λr=>if pt P all (eU t O.dst r.1) r.2 bU then dA P T f (.ops dh all l::k) (eU t O.dst r.1) r.2 else Z
 |.code c::k=>
   match c with
   |.skip=>dA P T f k t h
   |.label _=>dA P T f k t h
   |.seq a b=>dA P T f (.code a::.code b::k) t h
   |.cond c x y=>match bA t c with
     |.bool b=>if b then dA P T f (.code x::k) t h else dA P T f (.code y::k) t h
     |_=>Z
   |.block id b=>dA P T f (.code b::.inBlock id::k) t h
   |.loop b=>dA P T f (.code b::.inLoop b::k) (cz (T.aI f) t) h
   |.exit id=>nU id k>>= λdn=>dA P T f dn t h
   |.ret=>j (.ret,t,h)
   |.region id ops d=>dA P T f (.ops d ops (iq d ops (T.ch f id))::k) t h
   |_=>Z
partial_fixpoint
abbrev wV:=Option (h4×List I×ad)
noncomputable def aM(P:cu)(T:gZ)(g:cH)(args:List I)(h:ad):Option ((I⊕I)×ad):=
 match T.ext g with
 |some ah=>ah args h
 |none=>match P.funcs[g]? with
   |none=>Z
   |some fn=>match fn.body with
     |none=>Z
     |some c=>if T.use g=R then Z else(dA P T g [.code c] (args++ar (fn.ntmps - args.length) .aD) h).bind λr=>(Cq P fn r).bind λq=>m2 (T.pure g) h q
section
variable(P:cu)(T:gZ)(f:cH)
open Classical in
noncomputable def Cr(dh:Bool)(all:Array bb)(l:List (bb×List bb))(k:List im)(t:List I)(h:ad)(bU:List bb):wV:=if pt P all t h bU then dA P T f (.ops dh all l::k) t h else Z
noncomputable def Nv(dh:Bool)(all:Array bb)(d:Option Tmp)(bU:List bb)(l:List (bb×List bb))(k:List im)(t:List I):Option (I×ad)->wV
 |some (v,h)=>Cr P T f dh all l k (eU t d v) h bU
 |none=>Z
noncomputable def IA(dh:Bool)(all:Array bb)(d:Option Tmp)(bU:List bb)(l:List (bb×List bb))(k:List im)(t:List I):Option ((I⊕I)×ad)->wV
 |some (.inl v,h)=>Cr P T f dh all l k (eU t d v) h bU
 |some (.inr v,h)=>j (.panic v,t,h)
 |none=>Z
noncomputable def Cs(dh:Bool)(all:Array bb)(O:bb)(bU:List bb)(l:List (bb×List bb))(k:List im)(t:List I)(h:ad):Option (cH×List I)->wV
 |some (g,args)=>IA P T f dh all O.dst bU l k t (aM P T g args h)
 |none=>Nv P T f dh all O.dst bU l k t (fi P (T.ba f) t h O)
noncomputable def ER(dh:Bool)(all:Array bb)(O:bb)(bU:List bb)(l:List (bb×List bb))(k:List im)(t:List I)(h:ad):Option I->wV
 |some v=>j (.panic v,t,h)
 |none=>Cs P T f dh all O bU l k t h (fr t O)
noncomputable def IB(dh:Bool)(all:Array bb)(O:bb)(bU:List bb)(l:List (bb×List bb))(k:List im)(t:List I)(h:ad):Option Bool->wV
 |some Q=>ER P T f dh all O bU l k t h (mZ t O)
 |some R=>dA P T f (.ops dh all l::k) (eU t O.dst (.bx [])) h
 |none=>Z
noncomputable def Nw(x y:ef)(k:List im)(t:List I)(h:ad):I->wV
 |.bool b=>if b then dA P T f (.code x::k) t h else dA P T f (.code y::k) t h
 |_=>Z
noncomputable def UW(t:List I)(h:ad):Option (List im)->wV
 |some k=>dA P T f k t h
 |none=>Z
noncomputable def zX(p:Bool)(fn:Func)(am:ad):wV->Option ((I⊕I)×ad)
 |some (.ret,t,h)=>fj p am h (nV fn t h P)
 |some (.panic v,_,h)=>m2 p am (.inr v,h)
 |some (.halt _,_,_)=>Z
 |none=>Z
where fj (p:Bool) (am h:ad):Option I->Option ((I⊕I)×ad)
 |some v=>m2 p am (.inl v,h)
 |none=>Z
end
section
variable{P:cu}{T:gZ}{f:cH}{k:List im}{t:List I}{h:ad}
theorem akl:dA P T f [] t h=j (.ret,t,h):=by rw[dA]
theorem akm{K:List Item}:dA P T f (.halt K::k) t h=j (.halt K,t,h):=by rw[dA]
theorem akn{id:Nat}:dA P T f (.inBlock id::k) t h=dA P T f k t h:=by rw[dA]
theorem ako{c:ef}:dA P T f (.inLoop c::k) t h=dA P T f (.code c::.inLoop c::k) (cz (T.aI f) t) h:=by rw[dA]
theorem akp{all:Array bb}:dA P T f (.ops dh all []::k) t h=dA P T f k t h:=by rw[dA]
theorem akq:dA P T f (.code .skip::k) t h=dA P T f k t h:=by rw[dA]
theorem akr{l:Nat}:dA P T f (.code (.label l)::k) t h=dA P T f k t h:=by rw[dA]
theorem Nx{a b:ef}:dA P T f (.code (.seq a b)::k) t h=dA P T f (.code a::.code b::k) t h:=by rw[dA]
theorem aks{id:Nat}{b:ef}:dA P T f (.code (.block id b)::k) t h=dA P T f (.code b::.inBlock id::k) t h:=by rw[dA]
theorem akt{b:ef}:dA P T f (.code (.loop b)::k) t h=dA P T f (.inLoop b::k) t h:=by
 conv=>lhs;rw[dA]
 conv=>rhs;rw[dA]
theorem aku:dA P T f (.code .ret::k) t h=j (.ret,t,h):=by rw[dA]
theorem akv{id:Nat}{ops:Array bb}{d:Bool}:dA P T f (.code (.region id ops d)::k) t h=dA P T f (.ops d ops (iq d ops (T.ch f id))::k) t h:=by rw[dA]
theorem akw{id:Nat}:dA P T f (.code (.exit id)::k) t h=UW P T f t h (nU id k):=by rw[dA];cases nU id k<;>rfl
theorem UX{c:fM}{x:ef}:dA P T f (.code (.cond c x y)::k) t h=Nw P T f x y k t h (bA t c):=by rw[dA];cases bA t c<;>rfl
theorem ES{all:Array bb}{O:bb}{l:List (bb×List bb)}:dA P T f (.ops dh all ((O,bU)::l)::k) t h=IB P T f dh all O bU l k t h (h3 all t O):=by
 rw[dA];rcases h3 all t O with _|⟨_|_⟩
 ·rfl
 ·rfl
 ·simp only[IB];rcases hp:mZ t O with _|v
  case some=>rfl
  simp only[ER];rcases al:fr t O with _|⟨g,args⟩
  ·simp only[Cs];rcases fi P (T.ba f) t h O with _|⟨v,E⟩<;>rfl
  ·simp only[Cs,aM];cases an:T.ext g with
   |some ah=>simp only;rcases ah args h with _|⟨_|_,E⟩<;>rfl
   |none=>
     simp only;cases bn:P.funcs[g]? with
     |none=>rfl
     |some fn=>
       simp only;cases ag:fn.body with
       |none=>rfl
       |some c=>
         by_cases bE:T.use g=R
         ·simp only[bE,if_true];rfl
         ·simp only[bE];generalize dA P T g [.code c] (args++ar (fn.ntmps - args.length) .aD) h=r;rcases r with _|r
          ·rfl
          ·simp only[da,Option.bind_eq_bind];rcases Cq P fn r with _|q
           ·rfl
           ·simp only[da];rcases m2 (T.pure g) h q with _|⟨_|_,E⟩<;>rfl
theorem IC{all:Array bb}{O:bb}{l:List (bb×List bb)}:IB P T f dh all O bU l k t h (j Q)=ER P T f dh all O bU l k t h (mZ t O):=rfl
theorem Ny{all:Array bb}{O:bb}{l:List (bb×List bb)}:ER P T f dh all O bU l k t h Z=Cs P T f dh all O bU l k t h (fr t O):=rfl
theorem akx{all:Array bb}{O:bb}{l:List (bb×List bb)}{v:I}:ER P T f dh all O bU l k t h (j v)=j (.panic v,t,h):=rfl
theorem aky{all:Array bb}{O:bb}{l:List (bb×List bb)}:IB P T f dh all O bU l k t h (j R)=dA P T f (.ops dh all l::k) (eU t O.dst (.bx [])) h:=rfl
theorem UY{all:Array bb}{O:bb}{l:List (bb×List bb)}{g:cH}{args:List I}:Cs P T f dh all O bU l k t h (j (g,args))=IA P T f dh all O.dst bU l k t (aM P T g args h):=rfl
theorem akz{all:Array bb}{O:bb}{l:List (bb×List bb)}:Cs P T f dh all O bU l k t h Z=Nv P T f dh all O.dst bU l k t (fi P (T.ba f) t h O):=rfl
theorem akA{all:Array bb}{d:Option Tmp}{l:List (bb×List bb)}{v:I}:Nv P T f dh all d bU l k t (j (v,h))=Cr P T f dh all l k (eU t d v) h bU:=rfl
theorem akB{all:Array bb}{d:Option Tmp}{l:List (bb×List bb)}{v:I}:IA P T f dh all d bU l k t (j (.inl v,h))=Cr P T f dh all l k (eU t d v) h bU:=rfl
theorem akC{all:Array bb}{d:Option Tmp}{l:List (bb×List bb)}{v:I}:IA P T f dh all d bU l k t (j (.inr v,h))=j (.panic v,t,h):=rfl
theorem akD{x:ef}:Nw P T f x y k t h (.bool Q)=dA P T f (.code x::k) t h:=rfl
theorem akE{x:ef}:Nw P T f x y k t h (.bool R)=dA P T f (.code y::k) t h:=rfl
theorem UZ{all:Array bb}{l:List (bb×List bb)}(al:pt P all t h bU):Cr P T f dh all l k t h bU=dA P T f (.ops dh all l::k) t h:=by simp[Cr,al]
theorem akF{k:List im}:UW P T f t h (j k)=dA P T f k t h:=rfl
theorem akG{fn:Func}{p:Bool}{am:ad}:zX P p fn am (j (.ret,t,h))=zX.fj p am h (nV fn t h P):=rfl
theorem zY{p:Bool}{am:ad}{v:I}:zX.fj p am h (j v)=m2 p am (.inl v,h):=rfl
theorem yt{am:ad}{q:(I⊕I)×ad}:m2 R am q=j q:=by simp[m2]
theorem e8{am:ad}{v bg:I}(a7:aK am h)(U:dP v=j bg):m2 Q am (.inl v,h)=j (.inl bg,am):=by simp[m2,a7,U]
theorem vt{am:ad}{v bg:I}(a7:aK am h)(U:dP v=j bg):m2 Q am (.inr v,h)=j (.inr bg,am):=by simp[m2,a7,U]
theorem akH{g:cH}{fn:Func}{c:ef}{args:List I}{p:Bool}(an:T.ext g=Z)(bn:P.funcs[g]? =j fn)(ag:fn.body=j c)(bE:T.use g=Q)(hp:T.pure g=p):aM P T g args h=zX P p fn h (dA P T g [.code c] (args++ar (fn.ntmps - args.length) .aD) h):=by
 unfold aM;simp only[an,bn,ag,bE,hp];generalize dA P T g [.code c] (args++ar (fn.ntmps - args.length) .aD) h=r;rcases r with _|⟨_|_|_,cM,E⟩
 ·rfl
 ·simp only[Bool.true_eq_false,if_false,da,Cq,zX];rcases nV fn cM E P with _|v<;>rfl
 ·rfl
 ·rfl
end
open Go.RowKit
structure ci(ah:Nat->Prop)(w aJ:cd):Prop where
 os:aJ.os=w.os
 tape:aJ.tape=w.tape
 output:aJ.output=w.output
 size:w.heap.size<=aJ.heap.size
 block:∀k,k<w.heap.size->¬ah k->aJ.heap[k]? =w.heap[k]?
theorem ci.refl(ah:Nat->Prop)(w:cd):ci ah w w:=⟨rfl,rfl,rfl,bS _,λ_ _ _=>rfl⟩
theorem ci.step{ah G:Nat->Prop}{a b c:cd}(h:ci ah a b)(k:ci G b c)(ez:∀i,i<a.heap.size->G i->ah i):ci ah a c:=⟨k.os.trans h.os,k.tape.trans h.tape,k.output.trans h.output,ee h.size k.size,λi ae aq=>(k.block i (eF ae h.size) (λa7=>aq (ez i ae a7))).trans (h.block i ae aq)⟩
theorem ci.drew{ah:Nat->Prop}{a w:cd}(h:ci ah a w):ci ah a w.drew:=⟨h.os,h.tape,h.output,h.size,h.block⟩
theorem ci.alloc{ah:Nat->Prop}{a w:cd}(h:ci ah a w)(O:Obj):ci ah a (w.alloc O):=⟨h.os,h.tape,h.output,ee h.size (by simp),λk ab aq=>(Below.heap_alloc w O k (eF ab h.size)).trans (h.block k ab aq)⟩
theorem ci.setCell{ah:Nat->Prop}{a w:cd}(h:ci ah a w){p:Addr}(hp:ah p.block\/a.heap.size<=p.block)(u:bH):ci ah a (w.setCell p u):=⟨h.os,h.tape,h.output,by simpa[World.setCell]using h.size,λk ab aq=>(Below.heap_setCell w p u k (by
  rintro rfl;rcases hp with hp|hp
  ·exact aq hp
  ·omega)).trans (h.block k ab aq)⟩
end Go.Proofs.YtaodiaofbeblbaaGreatDoor
namespace Go.RowKit
open Go.Proofs.YtaodiaofbeblbaaGreatDoor
end Go.RowKit
namespace Go.Proofs.YtaodiaofbeblbaaGreatDoor
variable{aV:List Int}{dh:Bool}{y:ef}{bU:List bb}{u:bH}{ty:aU}
open Go.RowKit
abbrev hL(w aJ:cd):Prop:=ci (λ_=>False) w aJ
theorem hL.below{w aJ:cd}(h:hL w aJ):Below w.heap.size w aJ:=⟨h.os,h.tape,h.output,h.size,λk ab=>h.block k ab id⟩
theorem hL.zZ{w aJ:cd}(h:Below w.heap.size w aJ):hL w aJ:=⟨h.os,h.tape,h.output,h.size,λk ab _=>h.block k ab⟩
theorem ci.below{ah:Nat->Prop}{B:Nat}{w aJ:cd}(h:ci ah w aJ)(cW:∀k,ah k->B<=k)(sF:B<=w.heap.size):Below B w aJ:=⟨h.os,h.tape,h.output,h.size,λk ab=>h.block k (by omega) (λbn=>by have:=cW k bn;omega)⟩
end Go.Proofs.YtaodiaofbeblbaaGreatDoor
namespace Go.RowKit
open Go.Proofs.YtaodiaofbeblbaaGreatDoor
end Go.RowKit
namespace Go.Proofs.YtaodiaofbeblbaaGreatDoor
variable{aV:List Int}{dh:Bool}{y:ef}{bU:List bb}{u:bH}{ty:aU}
open Go.RowKit
end Go.Proofs.YtaodiaofbeblbaaGreatDoor
namespace Go.RowKit
open Go.Proofs.YtaodiaofbeblbaaGreatDoor
end Go.RowKit
namespace Go.Proofs.YtaodiaofbeblbaaGreatDoor
variable{aV:List Int}{dh:Bool}{y:ef}{bU:List bb}{u:bH}{ty:aU}
open Go.RowKit
def iZ(w:cd)(g:Nat)(t:aU)(cs:Array bH):Prop:=w.heap[g]? =j (.cells cs t (0,0))
section
variable{w aJ:cd}{g:Nat}{t:aU}{cs:Array bH}
theorem iZ.lt(h:iZ w g t cs):g<w.heap.size:=by
 rcases oI g w.heap.size with bt|tP
 ·exact bt
 ·unfold iZ at h;rw[Array.getElem?_eq_none tP]at h;cases h
theorem iZ.cell(h:iZ w g t cs)(i:Nat):w.cell? ⟨g,i,Z⟩=cs[i]? :=cell_of_row w g i cs t (0,0) h
theorem iZ.frozen(h:iZ w g t cs)(i:Nat):w.frozen? ⟨g,i,Z⟩=R:=by unfold iZ at h;simp[World.frozen?,h]
theorem iZ.new(w:cd)(t:aU)(cs:Array bH):iZ (w.alloc (.cells cs t)) w.heap.size t cs:=heap_alloc_new w _
theorem iZ.akI(h:iZ w g t cs)(i:Nat)(u:bH):iZ (w.setCell ⟨g,i,Z⟩ u) g t (cs.setIfInBounds i u):=by unfold iZ at h ⊢;simp[World.setCell,Array.getElem?_modify,h]
theorem iZ.only{ah:Nat->Prop}(h:iZ w g t cs)(ag:ci ah w aJ)(a7:¬ah g):iZ aJ g t cs:=(ag.block g h.lt a7).trans h
end
theorem akJ{P:cu}(base:Nat)(t ty e:aU)(i:TypeInfo)(z:bH)(size bytes:Nat)(aO:P.underlying t=j (.slice e))(ae:P.info? e=j i)(aR:i.zero=j z)(pu:i.size=size)(p8:i.bytes=bytes)(wW:z.cells.size=size)(dY:0<size)(v:bH)(n:Nat)(xs:List bH)(w:cd)(fD:w.ownsRow base e size v n xs)(news:List bH)(ai:news.length=size)(F:∀u∈news,u.oneCell'=Q)(aq:n<=1000000)(ag:bytes<=100000)(vu:base<=w.heap.size):∃g cap aJ,(vv #[t,t] ty #[v,.slice (j ⟨w.heap.size,0,Z⟩) 1 1]).run P (w.alloc (.cells news.toArray e))= .ok (.slice (j ⟨g,0,Z⟩) (n+1) cap) aJ/\aJ.ownsRow base e size (.slice (j ⟨g,0,Z⟩) (n+1) cap) (n+1) (xs++news)/\ci (λk=>j k=v.ownBlock) w aJ/\(j g=v.ownBlock\/w.heap.size<=g):=by
 have yu:∀D u,news[D]? =j u->(w.alloc (.cells news.toArray e)).cell? ((⟨w.heap.size,0,Z⟩:Addr).add D)=j u:=by intro D u bE;rw[nW,cell_of_row _ _ _ _ _ _ (heap_alloc_new w _)];simpa using bE
 obtain⟨bg,aJ,jM,J,af,aB,bw⟩:=run_append_own_at (P:=P) (w.alloc (.cells news.toArray e)) base t ty e i z size bytes aO ae aR pu p8 wW dY v n xs (fD.alloc _) ⟨w.heap.size,0,Z⟩ 1 1 news (by omega) yu F (by unfold maxLen;omega) (by have:(n+1)*bytes<=1000001*100000:=Nat.mul_le_mul (by omega) ag;omega) (by simp;omega);rcases J.2 with⟨_,h⟩|⟨g,cap,cur,rfl,a7,_⟩
 ·omega
 ·refine⟨g,cap,aJ,jM,J,⟨af.os,af.tape,af.output,ee (by simp) af.size,λk ab qN=>(af.block k (by simp;omega) qN).trans (Below.heap_alloc w _ k ab)⟩,?_⟩;rcases bw with bw|bw
  ·exact .inl (by simpa[Value.ownBlock]using bw)
  ·exact .inr (by simp[Value.ownBlock]at bw;omega)
theorem ID{P:cu}{ops:Array bb}{rest:List bb}{O:bb}{a:Act}{b':Exit->Act->cd->Prop}(Nz:O.guard=Z)(s x:fM)(t:aU)(au:O.op= .call {callee:=.builtin .append,args:= #[s,x],argTypes:= #[t,t]})(base:Nat)(e:aU)(i:TypeInfo)(z:bH)(size bytes:Nat)(aO:P.underlying t=j (.slice e))(ae:P.info? e=j i)(aR:i.zero=j z)(pu:i.size=size)(p8:i.bytes=bytes)(wW:z.cells.size=size)(dY:0<size)(v:bH)(n:Nat)(xs:List bH)(w:cd)(az:a.eval s=v)(fD:w.ownsRow base e size v n xs)(news:List bH)(IE:Nat)(akK:IE=w.heap.size)(an:a.eval x= .slice (j ⟨IE,0,Z⟩) 1 1)(ai:news.length=size)(F:∀u∈news,u.oneCell'=Q)(aq:n<=1000000)(ag:bytes<=100000)(vu:base<=w.heap.size)(h:∀g cap aJ,aJ.ownsRow base e size (.slice (j ⟨g,0,Z⟩) (n+1) cap) (n+1) (xs++news)->ci (λk=>j k=v.ownBlock) w aJ->(j g=v.ownBlock\/w.heap.size<=g)->wpList P ops b' rest (a.put O.dst (.slice (j ⟨g,0,Z⟩) (n+1) cap)) aJ):wpList P ops b' (O::rest) a (w.alloc (.cells news.toArray e)):=by subst akK;refine wpList_plain Nz λ_ dD=>?_;obtain⟨g,cap,aJ,jM,J,af,aB⟩:=akJ (P:=P) base t O.type e i z size bytes aO ae aR pu p8 wW dY v n xs w fD news ai F aq ag vu;unfold Oper.wp e9;simp only[au,resolve,invoke,builtin,hM,kX,hD,List.map_toArray,gP,kK,az,an,jM];exact dD _ _ (h g cap aJ J af aB)
def kj(w:cd)(size:Nat)(A:Option Addr)(n cap:Nat)(xs:List bH):Prop:=xs.length=n*size/\n<=cap/\(A=Z->cap=0)/\∀a,A=j a->(0<n->a.spot=Z)/\∀D u,xs[D]? =j u->w.cell? ⟨a.block,a.off+D,Z⟩=j u
section
variable{w aJ:cd}{size n cap:Nat}{A:Option Addr}{xs:List bH}
theorem kj.some_(h:kj w size A n cap xs)(aq:0<n):∃b O,A=j ⟨b,O,Z⟩:=by
 obtain⟨_,al,am,F⟩:=h;rcases A with _|a
 ·have:=am rfl;omega
 ·obtain⟨b,O,s⟩:=a;have:=(F _ rfl).1 aq;simp at this;subst this;exact⟨b,O,rfl⟩
theorem kj.U0{b O:Nat}(h:kj w size (j ⟨b,O,Z⟩) n cap xs){p:Nat}(aa:xs[p]? =j u):w.cell? ⟨b,O+p,Z⟩=j u:=(h.2.2.2 _ rfl).2 p u aa
theorem kj.NA{base:Nat}{e:aU}(h:w.ownsRow base e size (.slice A n cap) n xs):kj w size A n cap xs:=by
 refine⟨h.1,?_⟩;rcases h.2 with⟨U,am⟩|⟨g,rD,cur,U,_,bz,tQ,_,nX,yv⟩
 ·simp at U;obtain⟨rfl,rfl,rfl⟩:=U;exact⟨bS _,λ_=>rfl,(λa h=>by cases h)⟩
 ·simp at U;obtain⟨rfl,rfl⟩:=U;refine⟨tQ,(λh=>by cases h),λa aN=>?_⟩;obtain rfl:=tR aN;refine⟨λ_=>rfl,λD u bE=>?_⟩;have:=h.cells (g:=g) rfl D u bE;rwa [nW]at this
theorem kj.fs(h:kj w size A n cap xs)(ab:∀p:Addr,A.map (·.block)=j p.block->w.cell? p≠Z->aJ.cell? p=w.cell? p):kj aJ size A n cap xs:=by refine⟨h.1,h.2.1,h.2.2.1,λa aN=>⟨(h.2.2.2 a aN).1,λD u bE=>?_⟩⟩;have al:=(h.2.2.2 a aN).2 D u bE;rw[ab _ (by simp[aN]) (by rw[al];simp)];exact al
theorem U1{p:Addr}(h:w.cell? p≠Z):p.block<w.heap.size:=by
 rcases al:w.cell? p with _|u
 ·exact absurd al h
 ·exact World.block_lt_of_cell? w p al
theorem kj.only{ah:Nat->Prop}(h:kj w size A n cap xs)(au:ci ah w aJ)(cW:∀k,A.map (·.block)=j k->¬ah k):kj aJ size A n cap xs:=h.fs λp hp al=>World.cell?_of_block (au.block _ (U1 al) (cW _ hp))
theorem kj.new(h:kj w size A n cap xs)(au:hL w aJ):kj aJ size A n cap xs:=h.only au (λ_ _=>id)
theorem kj.akL{g:Nat}{t:aU}{cs:Array bH}{O:Nat}(h:iZ w g t cs)(aq:n<=cap)(an:xs.length=n*size)(al:∀D u,xs[D]? =j u->cs[O+D]? =j u):kj w size (j ⟨g,O,Z⟩) n cap xs:=
 by
 refine⟨an,aq,(λh=>by cases h),λa aN=>?_⟩;obtain rfl:=tR aN;exact⟨λ_=>rfl,λD u bE=>(h.cell (O+D)).trans (al D u bE)⟩
end
theorem akM{P:cu}(base:Nat)(t ty e:aU)(i:TypeInfo)(z:bH)(size bytes:Nat)(aO:P.underlying t=j (.slice e))(ae:P.info? e=j i)(aR:i.zero=j z)(pu:i.size=size)(p8:i.bytes=bytes)(wW:z.cells.size=size)(dY:0<size)(v:bH)(n:Nat)(xs:List bH)(w:cd)(fD:w.ownsRow base e size v n xs)(A:Option Addr)(m c:Nat)(dR:List bH)(aj:kj w size A m c dR)(F:∀u∈dR,u.oneCell'=Q)(wX:n+m<=maxLen)(z1:(n+m)*bytes<=140737488355328)(vu:base<=w.heap.size):∃bg aJ,(vv #[t,t] ty #[v,.slice A m c]).run P w= .ok bg aJ/\aJ.ownsRow base e size bg (n+m) (xs++dR)/\ci (λk=>j k=v.ownBlock) w aJ/\(bg.ownBlock=v.ownBlock\/bg.ownBlock=j w.heap.size)/\(0<n+m->∃g cap,bg= .slice (j ⟨g,0,Z⟩) (n+m) cap):=by
 rcases A with _|pv
 ·have NB:=aj.2.2.1 rfl;have aAd:=aj.2.1;obtain rfl:m=0:=by omega
  subst NB;have aq:dR=[]:=List.eq_nil_of_length_eq_zero (by simpa using aj.1);subst aq;refine⟨v,w,run_append_owned_none (P:=P) w base t ty e i size aO ae v n xs fD,by simpa using fD,ci.refl _ _,.inl rfl,λam=>?_⟩;rcases fD.2 with⟨rfl,h⟩|⟨g,cap,cur,rfl,_⟩
  ·omega
  ·exact⟨g,cap,rfl⟩
 ·have yu:∀D u,dR[D]? =j u->w.cell? (pv.add D)=j u:=by
   intro D u bE;obtain⟨az,vw⟩:=aj.2.2.2 pv rfl;have:=vw D u bE;obtain⟨b,O,wY⟩:=pv;have hm:0<m:=by
    rcases Nat.eq_zero_or_pos m with am|am
    ·subst am;have aq:dR=[]:=List.eq_nil_of_length_eq_zero (by simpa using aj.1);subst aq;simp at bE
    ·exact am
   have az:=az hm;simp at az;subst az;rw[nW];exact this
  obtain⟨bg,aJ,jM,J,af,aB,bw⟩:=run_append_own_at (P:=P) w base t ty e i z size bytes aO ae aR pu p8 wW dY v n xs fD pv m c dR aj.1 yu F wX z1 vu;refine⟨bg,aJ,jM,J,⟨af.os,af.tape,af.output,af.size,af.block⟩,bw,λam=>?_⟩;rcases J.2 with⟨_,h⟩|⟨g,cap,cur,rfl,_⟩
  ·omega
  ·exact⟨g,cap,rfl⟩
theorem akN{P:cu}{ops:Array bb}{rest:List bb}{O:bb}{a:Act}{b':Exit->Act->cd->Prop}(Nz:O.guard=Z)(s x:fM)(t:aU)(au:O.op= .call {callee:=.builtin .append,args:= #[s,x],argTypes:= #[t,t]})(base:Nat)(e:aU)(i:TypeInfo)(z:bH)(size bytes:Nat)(aO:P.underlying t=j (.slice e))(ae:P.info? e=j i)(aR:i.zero=j z)(pu:i.size=size)(p8:i.bytes=bytes)(wW:z.cells.size=size)(dY:0<size)(v:bH)(n:Nat)(xs:List bH)(w:cd)(az:a.eval s=v)(fD:w.ownsRow base e size v n xs)(A:Option Addr)(m c:Nat)(dR:List bH)(an:a.eval x= .slice A m c)(aj:kj w size A m c dR)(F:∀u∈dR,u.oneCell'=Q)(wX:n+m<=maxLen)(z1:(n+m)*bytes<=140737488355328)(vu:base<=w.heap.size)(h:∀bg aJ,aJ.ownsRow base e size bg (n+m) (xs++dR)->ci (λk=>j k=v.ownBlock) w aJ->(bg.ownBlock=v.ownBlock\/bg.ownBlock=j w.heap.size)->(0<n+m->∃g cap,bg= .slice (j ⟨g,0,Z⟩) (n+m) cap)->wpList P ops b' rest (a.put O.dst bg) aJ):wpList P ops b' (O::rest) a w:=by refine wpList_plain Nz λ_ dD=>?_;obtain⟨bg,aJ,jM,J,af,aB,bw⟩:=akM (P:=P) base t O.type e i z size bytes aO ae aR pu p8 wW dY v n xs w fD A m c dR aj F wX z1 vu;unfold Oper.wp e9;simp only[au,resolve,invoke,builtin,hM,kX,hD,List.map_toArray,gP,kK,az,an,jM];exact dD _ _ (h bg aJ J af aB bw)
theorem U2{ah:Nat->Prop}{w aJ:cd}{base:Nat}{e:aU}{size:Nat}{v:bH}{n:Nat}{xs:List bH}(h:w.ownsRow base e size v n xs)(au:ci ah w aJ)(ai:∀g,v.ownBlock=j g->¬ah g):aJ.ownsRow base e size v n xs:=by
 refine⟨h.1,?_⟩;rcases h.2 with F|⟨g,cap,cur,rfl,a7,bz,r⟩
 ·exact .inl F
 ·exact .inr ⟨g,cap,cur,rfl,a7,(iZ.only (t:=e) bz au (ai g rfl)),r⟩
@[simp] theorem YJ (g n cap:Nat):(Value.slice (some ⟨g,0,none⟩) n cap).ownBlock=some g:=rfl
@[simp] theorem YI (n cap:Nat):(Value.slice none n cap).ownBlock=none:=rfl
theorem aAe{α:Type}{f:α->List bH}{s:Nat}(bn:∀a,(f a).length=s)(l:List α):(l.flatMap f).length=l.length*s:=by
 induction l with
 |nil=>simp
 |cons a l aW=>simp[List.flatMap_cons,aW,bn,Nat.add_mul];omega
theorem U3{w:cd}{base:Nat}{e:aU}{size:Nat}{v:bH}{n:Nat}{xs:List bH}(h:w.ownsRow base e size v n xs):∃A cap,v= .slice A n cap/\kj w size A n cap xs:=by
 have E:=h;rcases h.2 with⟨rfl,rfl⟩|⟨g,cap,cur,rfl,_⟩
 ·exact⟨_,_,rfl,kj.NA E⟩
 ·exact⟨_,_,rfl,kj.NA E⟩
open Go Go.RowKit
structure dq where
 base:Nat
 b1:Nat->Nat
 fI:Nat->aU
 nv:Nat->Nat
 dI:Nat->Nat->Option bH
 iB:Nat->Nat
 sG:Nat->Nat
 kY:Nat->aU
 fo:Nat->Option Obj
inductive bF(P:cu)(m:dq)(h:ad):I->bH->Prop
 |aD (v:bH):bF P m h .aD v
 |bool (b:Bool):bF P m h (.bool b) (.bool b)
 |int (k:kf) (n:Int):bF P m h (.int k n) (.int k n)
 |str (l:List UInt8):bF P m h (.str l) (.string ⟨l.toArray⟩)
 |fx:bF P m h .fx (.pointer Z)
 |ptr (b i off:Nat) (ag:b<h.n):bF P m h (.ptr b i off) (.pointer (j ⟨m.b1 b,i*P.cellsOf (m.fI b)+off,Z⟩))
 |cF (t:aU) (b:Nat) (ag:b<h.n) (aO:m.fI b=t):bF P m h (.cF t b) (.pointer (j ⟨m.b1 b,0,Z⟩))
 |ip (e:List I) (off g O:Nat) (ah:Nat->bH) (ae:∀D,D<e.length->m.dI g (O+D)=j (ah D)) (U:∀D (aa:D<e.length),bF P m h e[D] (ah D)):bF P m h (.ip e off) (.pointer (j ⟨g,O+off,Z⟩))
 |aC:bF P m h .aC (.slice Z 0 0)
 |bN (id:Option Nat) (e:aU) (es:List (List I)) (g O cap:Nat) (ah:Nat->Nat->bH) (ai:∀r∈es,r.length=P.cellsOf e)
   (ae:∀i,i<es.length->∀D,D<P.cellsOf e->m.dI g (O+(i*P.cellsOf e+D))=j (ah i D)) (U:∀i (ae:i<es.length) D (aa:D<es[i].length),bF P m h es[i][D] (ah i D)) (al:es.length<=cap)
   (aO:∀k,id=j k->k<h.ids/\m.kY k=e/\es.length<=h.hw k/\(es.length=h.hw k->g=m.iB k/\O=0/\cap=m.sG k)):bF P m h (.bN id e es) (.slice (j ⟨g,O,Z⟩) es.length cap)
 |mB (e:aU) (a:Addr) (cap:Nat):bF P m h (.bN Z e []) (.slice (j a) 0 cap)
 |br (b O n:Nat) (e:aU) (cap:Nat) (ag:b<h.n) (he:m.fI b=e) (jt:(O+cap)*P.cellsOf e=m.nv b) (aq:n<=cap) (ju:cap<=maxLen):bF P m h (.br b O n e) (.slice (j ⟨m.b1 b,O*P.cellsOf e,Z⟩) n cap)
 |fn (g:cH) (l c:List I) (b8 gy:List bH) (F:b8.length=l.length) (J:gy.length=c.length) (af:∀D (aa:D<l.length) (di:D<b8.length),bF P m h l[D] b8[D]) (aB:∀D (aa:D<c.length) (di:D<gy.length),bF P m h c[D] gy[D]):
   bF P m h (.fn g l c) (.func (.func g) b8.toArray gy.toArray)
 |nu:bF P m h .nu .nilFunc
 |fC:bF P m h .fC .nilIface
 |iface (t:aU) (v:I) (bg:bH) (F:bF P m h v bg):bF P m h (.iface t v) (.iface t bg)
 |agg (l:List I) (b8:List bH) (F:b8.length=l.length) (af:∀D (aa:D<l.length) (di:D<b8.length),bF P m h l[D] b8[D]):bF P m h (.agg l) (.agg b8.toArray)
 |bx (l:List I) (b8:List bH) (F:b8.length=l.length) (af:∀D (aa:D<l.length) (di:D<b8.length),bF P m h l[D] b8[D]):bF P m h (.bx l) (.tuple b8.toArray)
def dV(P:cu)(m:dq)(h:ad)(l:List I)(b8:List bH):Prop:=b8.length=l.length/\∀D (aa:D<l.length) (di:D<b8.length),bF P m h l[D] b8[D]
def IF(P:cu):List (String×kf×List Int):=
 if(P.globalNamed ("internal"++tS (Char.ofNat 47)++ "strconv.uint64pow10")).isSome then[("internal"++tS (Char.ofNat 47)++ "strconv.uint64pow10",.u64,Lib.pow10Tab)]else[]
def UV(P:cu):List String:=["strconv.ErrSyntax", "strconv.ErrRange"].filter λn=>(P.globalNamed n).isSome
structure wZ(P:cu)(b:Nat)(w:cd):Prop where
 NC:∀q∈IF P,Lib.TabIs P w q.1 q.2.1 q.2.2/\∀g,P.globalNamed q.1=j g->g<b
 U4:∀n∈UV P,(∃cZ p,w.var? P n=j #[.iface cZ p])/\∀g,P.globalNamed n=j g->g<b
theorem U5{P:cu}{n:String}{b:Nat}{w aJ:cd}(J:∀g,P.globalNamed n=j g->g<b)(ag:b<=w.heap.size)(h:∀g,g<w.heap.size->g<b->aJ.heap[g]? =w.heap[g]?):aJ.var? P n=w.var? P n:=by
 unfold World.var?;rcases aq:P.globalNamed n with _|g
 ·rfl
 ·have bt:=J g aq;simp only[da];rw[h g (by omega) bt]
theorem wZ.fs{P:cu}{b:Nat}{w aJ:cd}(a7:wZ P b w)(ag:b<=w.heap.size)(h:∀g,g<w.heap.size->g<b->aJ.heap[g]? =w.heap[g]?):wZ P b aJ:=by
 refine⟨λq aE=>?_,λn aq=>?_⟩
 ·obtain⟨F,J⟩:=a7.NC q aE;refine⟨?_,J⟩;unfold Lib.TabIs at F ⊢;rw[U5 J ag h];exact F
 ·obtain⟨F,J⟩:=a7.U4 n aq;refine⟨?_,J⟩;rw[U5 J ag h];exact F
structure bW(P:cu)(m:dq)(h:ad)(w:cd):Prop where
 size:m.base<=w.heap.size
 lt:∀b es,h.cell b=j es->b<h.n/\m.base<=m.b1 b
 live:∀b es,h.cell b=j es->∃cs,iZ w (m.b1 b) (m.fI b) cs/\cs.size=m.nv b/\(∀r∈es,r.length=P.cellsOf (m.fI b))/\es.length*P.cellsOf (m.fI b)<=cs.size/\
  ∀i (ae:i<es.length) D (aa:D<es[i].length),∃v,cs[i*P.cellsOf (m.fI b)+D]? =j v/\bF P m h es[i][D] v
 inj:∀b c1 es gz,h.cell b=j es->h.cell c1=j gz->m.b1 b=m.b1 c1->b=c1
 dI:∀g O v,m.dI g O=j v->w.cell? ⟨g,O,Z⟩=j v
 sep:∀b es,h.cell b=j es->∀O,m.dI (m.b1 b) O=Z
 oP:∀k,k<h.ids->∃xs,w.ownsRow m.base (m.kY k) (P.cellsOf (m.kY k)) (.slice (j ⟨m.iB k,0,Z⟩) (h.hw k) (m.sG k)) (h.hw k) xs
 nw:∀k,k<h.ids->∀O,h.hw k*P.cellsOf (m.kY k)<=O->m.dI (m.iB k) O=Z
 l9:∀k,k<h.ids->∀b es,h.cell b=j es->m.b1 b≠m.iB k
 nY:∀k dn,k<h.ids->dn<h.ids->m.iB k=m.iB dn->k=dn
 dg:wZ P m.base w
 fo:∀g x,m.fo g=j x->m.base<=g/\w.heap[g]? =j x/\(∀b es,h.cell b=j es->m.b1 b≠g)/\(∀k,k<h.ids->m.iB k≠g)/\∀O,m.dI g O=Z
structure Ext(m:dq)(h:ad)(aZ:dq)(E:ad):Prop where
 base:aZ.base=m.base
 n:h.n<=E.n
 ids:h.ids<=E.ids
 b1:∀b,b<h.n->aZ.b1 b=m.b1 b/\aZ.fI b=m.fI b/\aZ.nv b=m.nv b
 dI:∀g O v,m.dI g O=j v->aZ.dI g O=j v
 kY:∀k,k<h.ids->aZ.kY k=m.kY k/\h.hw k<=E.hw k/\(E.hw k=h.hw k->aZ.iB k=m.iB k/\aZ.sG k=m.sG k)
 fo:∀g x,m.fo g=j x->aZ.fo g=j x
theorem Ext.refl(m:dq)(h:ad):Ext m h m h:=⟨rfl,bS _,bS _,λ_ _=>⟨rfl,rfl,rfl⟩,λ_ _ _ h=>h,λ_ _=>⟨rfl,bS _,λ_=>⟨rfl,rfl⟩⟩,λ_ _ h=>h⟩
theorem Ext.trans{m1 cR h5:dq}{F J af:ad}(x:Ext m1 F cR J)(y:Ext cR J h5 af):Ext m1 F h5 af:=by
 refine⟨y.base.trans x.base,ee x.n y.n,ee x.ids y.ids,λb ag=>?_,λg O v h=>y.dI g O v (x.dI g O v h),λk ab=>?_,λg v h=>y.fo g v (x.fo g v h)⟩
 ·obtain⟨aP,a2,a3⟩:=x.b1 b ag;obtain⟨dk,dH,g0⟩:=y.b1 b (eF ag x.n);exact⟨dk.trans aP,dH.trans a2,g0.trans a3⟩
 ·obtain⟨aP,a2,a3⟩:=x.kY k ab;obtain⟨dk,dH,g0⟩:=y.kY k (eF ab x.ids);refine⟨dk.trans aP,ee a2 dH,λe=>?_⟩;obtain⟨a6,c2⟩:=a3 (by omega);obtain⟨d1,d2⟩:=g0 (by omega);exact⟨d1.trans a6,d2.trans c2⟩
section
variable{P:cu}{m aZ:dq}{h E:ad}{w aJ:cd}
theorem bF.ext(x:Ext m h aZ E){v:I}(r:bF P m h v u):bF P aZ E v u:=by
 induction r with
 |aD v=>exact .aD v
 |bool b=>exact .bool b
 |int k n=>exact .int k n
 |str l=>exact .str l
 |fx=>exact .fx
 |ptr b i off ag=>obtain⟨aP,a2,a3⟩:=x.b1 b ag;have:=bF.ptr (P:=P) (m:=aZ) (h:=E) b i off (eF ag x.n);rwa [aP,a2]at this
 |cF t b ag aO=>obtain⟨aP,a2,a3⟩:=x.b1 b ag;have:=bF.cF (P:=P) (m:=aZ) (h:=E) t b (eF ag x.n) (a2.trans aO);rwa [aP]at this
 |ip e off g O ah ae U aW=>exact .ip e off g O ah (λD aa=>x.dI _ _ _ (ae D aa)) aW
 |aC=>exact .aC
 |bN id e es g O cap ah ai ae U al aO aW=>refine .bN id e es g O cap ah ai (λi ev D aa=>x.dI _ _ _ (ae i ev D aa)) aW al (λk ab=>?_);obtain⟨F,J,af,aB⟩:=aO k ab;obtain⟨t1,t2,t3⟩:=x.kY k F;refine⟨eF F x.ids,t1.trans J,ee af t2,λej=>?_⟩;obtain⟨a6,c2,c3⟩:=aB (by omega);obtain⟨d1,d2⟩:=t3 (by omega);exact⟨a6.trans d1.symm,c2,c3.trans d2.symm⟩
 |mB e a cap=>exact .mB e a cap
 |br b O n e cap ag he jt aq ju=>obtain⟨aP,a2,a3⟩:=x.b1 b ag;have:=bF.br (P:=P) (m:=aZ) (h:=E) b O n e cap (eF ag x.n) (a2.trans he) (jt.trans a3.symm) aq ju;rwa [aP]at this
 |fn g l c b8 gy F J af aB tT yw=>exact .fn g l c b8 gy F J tT yw
 |nu=>exact .nu
 |fC=>exact .fC
 |iface t v bg F aW=>exact .iface t v bg aW
 |agg l b8 F af aW=>exact .agg l b8 F aW
 |bx l b8 F af aW=>exact .bx l b8 F aW
theorem bF.ND{v:I}(r:bF P m h v u):∃bg,bF P m h bg u/\(∀t b,bg≠.cF t b)/\(∀agg n,cO agg n h bg=cO agg n h v)/\∀n x,eN n h bg x=eN n h v x:=by
 by_cases U:∃t b,v= .cF t b
 ·obtain⟨t,b,rfl⟩:=U;cases r with
  |cF _ _ ag aO=>refine⟨.ptr b 0 0,?_,(λ_ _ e=>nomatch e),λ_ _=>rfl,λ_ _=>rfl⟩;have:=bF.ptr (P:=P) (m:=m) (h:=h) b 0 0 ag;simpa using this
 ·exact⟨v,r,λt b e=>U ⟨t,b,e⟩,λ_ _=>rfl,λ_ _=>rfl⟩
theorem bF.NF:bF P m h (.bx []) fy:=bF.bx [] [] rfl (λD aa=>by simp at aa)
theorem dV.nil:dV P m h [] []:=⟨rfl,λD aa=>by simp at aa⟩
theorem dV.cons{a:I}{b:bH}{l:List I}{b8:List bH}(F:bF P m h a b)(J:dV P m h l b8):dV P m h (a::l) (b::b8):=by
 refine⟨by simp[J.1],λD aa di=>?_⟩;cases D with
 |zero=>exact F
 |succ D=>exact J.2 D (by simpa using aa) (by simpa using di)
theorem dV.append{b5 ca:List I}{b0 bK:List bH}(F:dV P m h b5 b0)(J:dV P m h ca bK):dV P m h (b5++ca) (b0++bK):=by
 refine⟨by simp[F.1,J.1],λD aa di=>?_⟩;by_cases bt:D<b5.length
 ·rw[List.getElem_append_left bt,List.getElem_append_left (by rw[F.1];exact bt)];exact F.2 D bt _
 ·rw[List.getElem_append_right (by omega),List.getElem_append_right (by rw[F.1];omega)];have e:=F.1;simp only[e];exact J.2 _ _ _
theorem dV.map{α:Type}{f:α->I}{g:α->bH}{l:List α}(bn:∀x∈l,bF P m h (f x) (g x)):dV P m h (l.map f) (l.map g):=by refine⟨by simp,λD aa di=>?_⟩;simp only[List.getElem_map];exact bn _ (hf _)
theorem dV.get?{l:List I}{b8:List bH}(r:dV P m h l b8){D:Nat}{v:I}(U:l[D]? =j v):∃u,b8[D]? =j u/\bF P m h v u:=by
 obtain⟨aa,rfl⟩:=fR.1 U;have di:D<b8.length:=by rw[r.1];exact aa
 exact⟨b8[D],gd di,r.2 D aa di⟩
theorem bW.below(hw:bW P m h w){b:Nat}{es:List (List I)}(ag:h.cell b=j es):m.b1 b<w.heap.size:=by obtain⟨cs,al,_⟩:=hw.live b es ag;exact al.lt
theorem bW.p9(hw:bW P m h w){g O:Nat}{v:bH}(ae:m.dI g O=j v):g<w.heap.size:=by have:=hw.dI g O v ae;exact U1 (w:=w) (p:=⟨g,O,Z⟩) (by rw[this];simp)
theorem bW.qO(hw:bW P m h w){k:Nat}(ab:k<h.ids):m.base<=m.iB k/\m.iB k<w.heap.size:=by obtain⟨xs,an⟩:=hw.oP k ab;exact an.lt _ rfl
theorem bW.only{S:Nat->Prop}(hw:bW P m h w)(au:ci S w aJ)(F:∀b es,h.cell b=j es->¬S (m.b1 b))(J:∀g O v,m.dI g O=j v->¬S g)(af:∀k,k<h.ids->¬S (m.iB k))(aB:∀g,g<m.base->¬S g)(bw:∀g x,m.fo g=j x->¬S g):bW P m h aJ:=by
 refine⟨ee hw.size au.size,hw.lt,λb es ag=>?_,hw.inj,λg O v ae=>?_,hw.sep,λk ab=>?_,hw.nw,hw.l9,hw.nY,hw.dg.fs hw.size λg a7 ag=>au.block g a7 (aB g ag),λg x an=>?_⟩
 ·obtain⟨cs,al,aj⟩:=hw.live b es ag;exact⟨cs,al.only au (F b es ag),aj⟩
 ·rw[World.cell?_of_block (w:=w) (au.block _ (hw.p9 ae) (J g O v ae))];exact hw.dI g O v ae
 ·obtain⟨xs,an⟩:=hw.oP k ab;exact⟨xs,U2 an au (λg a7=>by simp at a7;subst a7;exact af k ab)⟩
 ·obtain⟨aP,a2,a3⟩:=hw.fo g x an;exact⟨aP,(au.block g (Array.getElem?_eq_some_iff.1 a2).1 (bw g x an)).trans a2,a3⟩
theorem bW.tU(hw:bW P m h w){g:Nat}{x:Obj}(an:m.fo g=j x):g<w.heap.size:=(Array.getElem?_eq_some_iff.1 (hw.fo g x an).2.1).1
theorem bW.new(hw:bW P m h w)(au:hL w aJ):bW P m h aJ:=hw.only au (λ_ _ _=>id) (λ_ _ _ _=>id) (λ_ _=>id) (λ_ _=>id) (λ_ _ _=>id)
theorem bW.drew(hw:bW P m h w):bW P m h w.drew:=hw.new (ci.refl _ _).drew
theorem bW.push(hw:bW P m h w)(aJ:cd)(e:aU)(es:List (List I))(cs:Array bH)(aq:hL w aJ)(sH:iZ aJ w.heap.size e cs)(az:es.length*P.cellsOf e<=cs.size)(ai:∀r∈es,r.length=P.cellsOf e)(U:∀i (ae:i<es.length) D (aa:D<es[i].length),∃v,cs[i*P.cellsOf e+D]? =j v/\bF P m h es[i][D] v):∃aZ,Ext m h aZ (h.push es)/\bW P aZ (h.push es) aJ/\aZ.b1 h.n=w.heap.size/\aZ.fI h.n=e/\aZ.nv h.n=cs.size:=by
 refine⟨{m with b1:=λb=>if b=h.n then w.heap.size else m.b1 b,fI:=λb=>if b=h.n then e else m.fI b,nv:=λb=>if b=h.n then cs.size else m.nv b},?_,?_,by simp,by simp,by simp⟩
 ·exact⟨rfl,by simp[ad.push],by simp[ad.push],λb ag=>by simp[show b≠h.n by omega],λ_ _ _ h=>h,λk ab=>⟨rfl,bS _,λ_=>⟨rfl,rfl⟩⟩,λ_ _ h=>h⟩
 ·have an:Ext m h {m with b1:=λb=>if b=h.n then w.heap.size else m.b1 b,fI:=λb=>if b=h.n then e else m.fI b,nv:=λb=>if b=h.n then cs.size else m.nv b} (h.push es):=⟨rfl,by simp[ad.push],by simp[ad.push],λb ag=>by simp[show b≠h.n by omega],λ_ _ _ h=>h,λk ab=>⟨rfl,bS _,λ_=>⟨rfl,rfl⟩⟩,λ_ _ h=>h⟩;have ft:=hw.new aq;have fu:∀b x,(h.push es).cell b=j x->b≠h.n->h.cell b=j x:=by intro b x ag cP;simpa[ad.push,cP]using ag
  have new:∀b x,(h.push es).cell b=j x->b=h.n->x=es:=by intro b x ag he;subst he;simp[ad.push]at ag;exact ag.symm
  refine⟨ft.size,λb x ag=>?_,λb x ag=>?_,λb c1 x hV ag i1 he=>?_,ft.dI,λb x ag O=>?_,ft.oP,ft.nw,λk ab b x ag=>?_,ft.nY,ft.dg,λg x an=>?_⟩
  ·by_cases hE:b=h.n
   ·subst hE;exact⟨by simp[ad.push],by simpa using hw.size⟩
   ·have:=hw.lt b x (fu b x ag hE);exact⟨by simp[ad.push];omega,by simpa[hE]using this.2⟩
  ·by_cases hE:b=h.n
   ·subst hE;have:=new _ _ ag rfl;subst this;refine⟨cs,by simpa using sH,by simp,by simpa using ai,by simpa using az,λi ae D aa=>?_⟩;obtain⟨v,F,J⟩:=U i ae D aa;exact⟨v,by simpa using F,J.ext an⟩
   ·obtain⟨gA,F,J,af,aB,bw⟩:=ft.live b x (fu b x ag hE);refine⟨gA,by simpa[hE]using F,by simpa[hE]using J,by simpa[hE]using af,by simpa[hE]using aB,λi ae D aa=>?_⟩;obtain⟨v,cc,cQ⟩:=bw i ae D aa;exact⟨v,by simpa[hE]using cc,cQ.ext an⟩
  ·by_cases F:b=h.n<;>by_cases J:c1=h.n
   ·omega
   ·have:=hw.below (fu _ _ i1 J);simp[F,J]at he;omega
   ·have:=hw.below (fu _ _ ag F);simp[F,J]at he;omega
   ·simp[F,J]at he;exact hw.inj b c1 x hV (fu _ _ ag F) (fu _ _ i1 J) he
  ·by_cases F:b=h.n
   ·simp only[F,if_true];rcases ae:m.dI w.heap.size O with _|v
    ·rfl
    ·have:=hw.p9 ae;omega
   ·simp only[F,if_false];exact hw.sep b x (fu _ _ ag F) O
  ·by_cases F:b=h.n
   ·have:=hw.qO ab;simp[F];omega
   ·simp only[F,if_false];exact hw.l9 k ab b x (fu _ _ ag F)
  ·obtain⟨aP,a2,a3,a4,a5⟩:=ft.fo g x an;refine⟨aP,a2,λb y ag=>?_,a4,a5⟩;by_cases F:b=h.n
   ·have:=hw.tU an;simp only[F,if_true];omega
   ·simp only[F,if_false];exact a3 b y (fu _ _ ag F)
theorem bW.ET(hw:bW P m h w){b:Nat}{es gz:List (List I)}(ag:h.cell b=j es)(au:ci (λk=>k=m.b1 b) w aJ)(gA:Array bH)(al:iZ aJ (m.b1 b) (m.fI b) gA)(az:gA.size=m.nv b)(ai:∀r∈gz,r.length=P.cellsOf (m.fI b))(hle:gz.length*P.cellsOf (m.fI b)<=gA.size)(U:∀i (ae:i<gz.length) D (aa:D<gz[i].length),∃v,gA[i*P.cellsOf (m.fI b)+D]? =j v/\bF P m h gz[i][D] v):Ext m h m (h.set b (j gz))/\bW P m (h.set b (j gz)) aJ:=by
 have an:Ext m h m (h.set b (j gz)):=⟨rfl,bS _,bS _,λ_ _=>⟨rfl,rfl,rfl⟩,λ_ _ _ h=>h,λ_ _=>⟨rfl,bS _,λ_=>⟨rfl,rfl⟩⟩,λ_ _ h=>h⟩;refine⟨an,?_⟩;have some_:∀c1 x,(h.set b (j gz)).cell c1=j x->∃y,h.cell c1=j y:=by
  intro c1 x i1;by_cases e:c1=b
  ·subst e;exact⟨_,ag⟩
  ·exact⟨x,by simpa[ad.set,e]using i1⟩
 refine⟨ee hw.size au.size,λc1 x i1=>?_,λc1 x i1=>?_,λdk dH bY db F J he=>?_,λg O v ae=>?_,λc1 x i1 O=>?_,λk ab=>?_,hw.nw,λk ab c1 x i1=>?_,hw.nY,hw.dg.fs hw.size λg a7 bt=>au.block g a7 (λe=>by have:=(hw.lt b es ag).2;omega),λg x aa=>?_⟩
 ·obtain⟨y,bq⟩:=some_ _ _ i1;exact hw.lt _ _ bq
 ·by_cases e:c1=b
  ·subst e;have:x=gz:=by simpa[ad.set,eq_comm]using i1
   subst this;refine⟨gA,al,az,ai,hle,λi ae D aa=>?_⟩;obtain⟨v,F,J⟩:=U i ae D aa;exact⟨v,F,J.ext an⟩
  ·have nZ:h.cell c1=j x:=by simpa[ad.set,e]using i1
   obtain⟨c2,F,J,af,aB,bw⟩:=hw.live c1 x nZ;refine⟨c2,F.only au (λej=>e (hw.inj _ _ _ _ nZ ag ej)),J,af,aB,λi ae D aa=>?_⟩;obtain⟨v,cc,cQ⟩:=bw i ae D aa;exact⟨v,cc,cQ.ext an⟩
 ·obtain⟨fv,EU⟩:=some_ _ _ F;obtain⟨fT,EV⟩:=some_ _ _ J;exact hw.inj _ _ _ _ EU EV he
 ·have cP:g≠m.b1 b:=λe=>by subst e;have:=hw.sep b es ag O;rw[this]at ae;cases ae
  rw[World.cell?_of_block (w:=w) (au.block _ (hw.p9 ae) cP)];exact hw.dI g O v ae
 ·obtain⟨y,bq⟩:=some_ _ _ i1;exact hw.sep _ _ bq O
 ·obtain⟨xs,sI⟩:=hw.oP k ab;exact⟨xs,U2 sI au (λg a7 e=>by simp at a7;exact hw.l9 k ab b es ag (by rw[a7];exact e.symm))⟩
 ·obtain⟨y,bq⟩:=some_ _ _ i1;exact hw.l9 k ab _ _ bq
 ·obtain⟨aP,a2,a3,a4,a5⟩:=hw.fo g x aa;refine⟨aP,(au.block g (hw.tU aa) λe=>a3 b es ag e.symm).trans a2,λc1 y i1=>?_,a4,a5⟩;obtain⟨z,aR⟩:=some_ _ _ i1;exact a3 _ _ aR
end
open Go Go.RowKit
structure pw(P:cu):Prop where
 zero:∀t i v,t<P.types.size->P.info? t=j i->i.zero=j v->v.cells.size=i.size
 small:∀t i,t<P.types.size->P.info? t=j i->i.bytes<=100000
 pos:∀t e,t<P.types.size->P.underlying t=j (.slice e)->0<P.cellsOf e
def dF(P:cu)(m:dq)(h:ad)(t:List I)(a:Array bH):Prop:=a.size=t.length/\∀i (ae:i<t.length),bF P m h t[i] (a.getD i fy)
def dJ(P:cu)(m:dq)(h:ad)(a:Act)(w:cd)(O:bb)(v:I)(E:ad):Prop:=∃aZ aJ u,((e9 a.eval O).run P w= .ok (.value u) aJ\/((e9 a.eval O).run P w= .ok .skip aJ/\u=fy))/\Ext m h aZ E/\bW P aZ E aJ/\bF P aZ E v u/\Below m.base w aJ
section
variable{P:cu}{m aZ:dq}{h E:ad}{w aJ:cd}{t:List I}{a:Act}{O:bb}
theorem dF.ext(x:Ext m h aZ E){rB:Array bH}(r:dF P m h t rB):dF P aZ E t rB:=⟨r.1,λi ae=>(r.2 i ae).ext x⟩
theorem dF.put(r:dF P m h t a.tmps){v:I}{u:bH}(U:bF P m h v u)(d:Option Tmp):dF P m h (eU t d v) (a.put d u).tmps:=by
 cases d with
 |none=>exact r
 |some d=>
   refine⟨by simp[eU,px,r.1],λi ae=>?_⟩;have ev:i<t.length:=by simpa[eU]using ae
   have av:(eU t (j d) v)[i]=if d=i then v else t[i]:=by simp[eU,List.getElem_set]
   have ax:(a.put (j d) u).tmps.getD i fy=if d=i then u else a.tmps.getD i fy:=by
    have az:i<a.tmps.size:=by rw[r.1];exact ev
    simp[px,Array.getD,az,Array.getElem_setIfInBounds]
   rw[av,ax];by_cases e:d=i
   ·rw[if_pos e,if_pos e];exact U
   ·rw[if_neg e,if_neg e];exact r.2 i ev
theorem dF.get(r:dF P m h t a.tmps)(i:Nat):bF P m h (t.getD i .aD) (a.tmps.getD i fy):=by
 by_cases ae:i<t.length
 ·have:=r.2 i ae;simpa[dm,ae]using this
 ·rw[dm,lN (by omega)];exact .aD _
theorem IG(v:bH):bF P m h (yo v) v:=by
 unfold yo;split
 ·exact .bool _
 ·exact .int _ _
 ·rename_i s;have:=bF.str (P:=P) (m:=m) (h:=h) s.data.toList;simpa using this
 ·exact .fx
 ·exact .aC
 ·exact .nu
 ·exact .fC
 ·exact .aD _
theorem akO(v:bH):bF P m h (zV v) v:=by
 unfold zV;split
 ·rename_i cs;have:=bF.agg (P:=P) (m:=m) (h:=h) (cs.toList.map yo) cs.toList (by simp) (λD aa di=>by simpa using IG _);simpa using this
 ·exact IG v
theorem g2(r:dF P m h t a.tmps)(x:fM):bF P m h (bA t x) (a.eval x):=by
 cases x with
 |tmp i=>exact r.get i
 |const v=>exact akO v
 |global g=>exact .aD _
 |func f=>exact .fn f [] [] [] [] rfl rfl (λD aa=>by simp at aa) (λD aa=>by simp at aa)
theorem bF.one{v:I}{u:bH}(r:bF P m h v u)(F:v.one=Q):u.oneCell'=Q:=by cases r<;>simp_all [I.one,Value.oneCell']
theorem bF.cells{v:I}{u:bH}(r:bF P m h v u)(F:v.cells.all I.one=Q):dV P m h v.cells u.cells.toList/\∀c∈u.cells.toList,c.oneCell'=Q:=by
 have key:v.one=Q->u.cells= #[u]->v.cells=[v]->dV P m h v.cells u.cells.toList/\∀c∈u.cells.toList,c.oneCell'=Q:=by intro U bE al;rw[bE,al];refine⟨dV.cons r dV.nil,λc al=>?_⟩;simp at al;subst al;exact r.one U
 cases r with
 |aD v=>simp[I.cells,I.one]at F
 |bx l b8 J af=>simp[I.cells,I.one]at F
 |agg l b8 J af=>
   refine⟨⟨by simpa[I.cells,Value.cells]using J,λD aa di=>af D aa (by simpa[Value.cells]using di)⟩,λc al=>?_⟩;simp[Value.cells]at al;obtain⟨D,aa,rfl⟩:=List.getElem_of_mem al;have dW:D<l.length:=by omega
   simp only[I.cells,iC]at F;exact(af D dW aa).one (F _ (hf dW))
 |_=>exact key rfl rfl rfl
theorem dJ.pure(hw:bW P m h w){v:I}(aj:(e9 a.eval O).run P w= .ok (.value u) w)(U:bF P m h v u):dJ P m h a w O v h:=⟨m,w,u,.inl aj,Ext.refl _ _,hw,U,kZ _ _⟩
theorem yx(gf:pw P){e:aU}{z:List I}(aR:kg P e=j z):∃i v,P.info? e=j i/\i.zero=j v/\z.length=P.cellsOf e/\v.cells.size=P.cellsOf e/\dV P m h z v.cells.toList/\(zeroValue e).run P w= .ok v w:=by
 unfold kg at aR;split at aR
 case isFalse=>cases aR
 rename_i bt;rcases ae:P.info? e with _|i
 ·simp[ae]at aR
 ·rcases U:i.zero with _|v
  ·simp[ae,U]at aR
  ·simp only[ae,U,da,g3,hg]at aR;have az:=gf.zero e i v bt ae U;have al:P.cellsOf e=i.size:=by simp[Program.cellsOf,ae]
   have aj:dV P m h (zV v).cells v.cells.toList:=by
    unfold zV;split
    ·rename_i cs;exact⟨by simp[I.cells,Value.cells],λD aa di=>by simpa[I.cells,Value.cells]using IG _⟩
    ·rename_i cP;have l':=IG (P:=P) (m:=m) (h:=h) v;have av:(yo v).cells=[yo v]:=by unfold yo;split<;>rfl
     have ax:v.cells= #[v]:=by
      unfold Value.cells;split
      ·rename_i cs;exact absurd rfl (cP cs)
      ·rfl
     rw[av,ax];exact dV.cons l' dV.nil
   rw[aR]at aj;refine⟨i,v,rfl,U,?_,by rw[az,al],aj,by simp[zeroValue,typeInfo,ae,U]⟩;have:=aj.1;rw[Array.length_toList,az]at this;rw[al];exact this.symm
theorem U6(hw:bW P m h w)(e:aU){z:List I}{u:Array bH}(aR:dV P m h z u.toList)(az:z.length=P.cellsOf e):∃aZ,Ext m h aZ (h.push [z])/\bW P aZ (h.push [z]) (w.alloc (.cells u e))/\bF P aZ (h.push [z]) (.ptr h.n 0 0) (.pointer (j ⟨w.heap.size,0,Z⟩)):=by
 have bE:u.size=z.length:=by simpa using aR.1
 obtain⟨aZ,F,J,af,aB,bw⟩:=hw.push (w.alloc (.cells u e)) e [z] u ((ci.refl _ w).alloc _) (iZ.new w _ _) (by simp;omega) (by simp[az]) (by
  intro i ae D aa;have gw:i=0:=by simpa using ae
  subst gw;have di:D<z.length:=by simpa using aa
  refine⟨u[D]'(by omega),by simp,?_⟩;have:=aR.2 D di (by simp;omega);simpa using this)
 refine⟨aZ,F,J,?_⟩;have:=bF.ptr (P:=P) (m:=aZ) (h:=h.push [z]) h.n 0 0 (by simp[ad.push]);rw[af]at this;simpa using this
theorem akP(gf:pw P)(hw:bW P m h w)(e:aU)(au:O.op= .alloc e){z:List I}(aR:kg P e=j z):dJ P m h a w O (.ptr h.n 0 0) (h.push [z]):=by obtain⟨i,v,ae,U,ai,az,aj,jM⟩:=yx (m:=m) (h:=h) (w:=w) gf aR;obtain⟨aZ,F,J,af⟩:=U6 hw e aj ai;refine⟨aZ,_,_,.inl ?_,F,J,af,(kZ _ _).alloc hw.size _⟩;simp[e9,au,Instr.alloc,jM,newVar,newRow]
theorem akQ(gf:pw P)(hw:bW P m h w)(e:aU)(au:O.op= .alloc e){z:List I}(aR:kg P e=j z):dJ P m h a w O (.cF e h.n) (h.push [z]):=by
 obtain⟨i,v,ae,U,ai,az,aj,jM⟩:=yx (m:=m) (h:=h) (w:=w) gf aR;have bE:v.cells.size=z.length:=by simpa using aj.1
 obtain⟨aZ,F,J,af,aB,bw⟩:=hw.push (w.alloc (.cells v.cells e)) e [z] v.cells ((ci.refl _ w).alloc _) (iZ.new w _ _) (by simp;omega) (by simp[ai]) (by
  intro i ae D aa;have gw:i=0:=by simpa using ae
  subst gw;have di:D<z.length:=by simpa using aa
  refine⟨v.cells[D]'(by omega),by simp,?_⟩;have:=aj.2 D di (by simp;omega);simpa using this)
 have hp:=bF.cF (P:=P) (m:=aZ) (h:=h.push [z]) e h.n (by simp[ad.push]) aB;rw[af]at hp;refine⟨aZ,_,_,.inl ?_,F,J,hp,(kZ _ _).alloc hw.size _⟩;simp[e9,au,Instr.alloc,jM,newVar,newRow]
theorem akR(hw:bW P m h w)(aO:dF P m h t a.tmps)(e:aU)(x:fM)(au:O.op= .box e x)(F:(bA t x).cells.all I.one=Q)(J:(bA t x).cells.length=c' P e):dJ P m h a w O (.ptr h.n 0 0) (h.push [(bA t x).cells]):=by obtain⟨af,aB⟩:=(g2 aO x).cells F;obtain⟨aZ,bw,cc,cQ⟩:=U6 hw e af J;refine⟨aZ,_,_,.inl ?_,bw,cc,cQ,(kZ _ _).alloc hw.size _⟩;simp[e9,au,Instr.box,newVar,newRow]
theorem akS(hw:bW P m h w)(aO:dF P m h t a.tmps)(e:aU)(x:fM)(au:O.op= .box e x)(F:(bA t x).cells.all I.one=Q)(J:(bA t x).cells.length=c' P e):dJ P m h a w O (.cF e h.n) (h.push [(bA t x).cells]):=by
 obtain⟨af,aB⟩:=(g2 aO x).cells F;have bE:(a.eval x).cells.size=(bA t x).cells.length:=by simpa using af.1
 have J:(bA t x).cells.length=P.cellsOf e:=J;obtain⟨aZ,c8,c6,fN,hu,j4⟩:=hw.push (w.alloc (.cells (a.eval x).cells e)) e [(bA t x).cells] (a.eval x).cells ((ci.refl _ w).alloc _) (iZ.new w _ _) (by simp;omega) (by simp[J]) (by
  intro i ae D aa;have gw:i=0:=by simpa using ae
  subst gw;have di:D<(bA t x).cells.length:=by simpa using aa
  refine⟨(a.eval x).cells[D]'(by omega),by simp,?_⟩;have:=af.2 D di (by simp;omega);simpa using this)
 have hp:=bF.cF (P:=P) (m:=aZ) (h:=h.push [(bA t x).cells]) e h.n (by simp[ad.push]) hu;rw[fN]at hp;refine⟨aZ,_,_,.inl ?_,c8,c6,hp,(kZ _ _).alloc hw.size _⟩;simp[e9,au,Instr.box,newVar,newRow]
theorem NG(ty:aU){d:TypeDesc}(a1:P.underlying ty=j d):(isAgg ty).run P w= .ok (j3 P ty) w:=by unfold isAgg j3;simp only[hM,fY a1,hD,a1];cases d<;>simp
theorem U7(hw:bW P m h w){b i:Nat}{e:List I}(aj:h.row b i=j e):∃ah:Nat->bH,∀D (aa:D<e.length),w.cell? ⟨m.b1 b,i*P.cellsOf (m.fI b)+D,Z⟩=j (ah D)/\bF P m h e[D] (ah D):=by
 unfold ad.row at aj;rcases al:h.cell b with _|es
 ·simp[al]at aj
 ·simp only[al,da]at aj;obtain⟨ae,rfl⟩:=fR.1 aj;obtain⟨cs,F,J,af,aB,bw⟩:=hw.live b es al;refine⟨λD=>(cs[i*P.cellsOf (m.fI b)+D]?).getD fy,λD aa=>?_⟩;obtain⟨v,cc,cQ⟩:=bw i ae D aa;exact⟨by rw[F.cell];simp[cc],by simpa[cc]using cQ⟩
theorem IH(ty:aU){d:TypeDesc}(a1:P.underlying ty=j d)(ae:P.info? ty≠Z)(g O:Nat)(off:Nat)(e:List I)(ah:Nat->bH)(cW:∀D (aa:D<e.length),w.cell? ⟨g,O+D,Z⟩=j (ah D)/\bF P m h e[D] (ah D)){v:I}(U:gX (j3 P ty) (c' P ty) e off=j v):∃u,(loadVar ty ⟨g,O+off,Z⟩).run P w= .ok u w/\bF P m h v u:=by
 unfold gX at U;unfold loadVar;simp only[hM,NG ty a1,hD];cases tV:j3 P ty
 ·simp only[tV,nx,if_false]at U ⊢;obtain⟨aa,rfl⟩:=fR.1 U;obtain⟨F,J⟩:=cW off aa;exact⟨ah off,by simp[F],J⟩
 ·simp only[tV,if_true]at U ⊢;split at U
  ·rename_i hle;injection U with U;subst U;obtain⟨i,ae⟩:=Option.ne_none_iff_exists'.1 ae;have dY:i.size=c' P ty:=by simp[c',Program.cellsOf,ae]
   have ai:=run_loadCells (P:=P) w ⟨g,O+off,Z⟩ (c' P ty) (λD=>ah (off+D)) (λD aa=>by rw[nW];have:=(cW (off+D) (by omega)).1;rwa [p0]);refine⟨.agg ((iO (c' P ty)).map λD=>ah (off+D)).toArray,?_,?_⟩
   ·simp[sizeOf,typeInfo,ae,dY,ai]
   ·refine .agg _ _ (by simp;omega) (λD aa di=>?_);simp only[List.getElem_map,List.getElem_range];have p':D<c' P ty:=by simpa using di
    have:=(cW (off+D) (by omega)).2;simpa[List.getElem_take,List.getElem_drop]using this
  ·cases U
theorem akT(hw:bW P m h w)(aO:dF P m h t a.tmps)(ty:aU)(x:fM)(au:O.op= .load ty x){d:TypeDesc}(a1:P.underlying ty=j d)(ae:P.info? ty≠Z){v:I}(U:cO (j3 P ty) (c' P ty) h (bA t x)=j v):dJ P m h a w O v h:=by
 have an:=g2 aO x;have key:∃u,(Instr.loadAt ty (a.eval x)).run P w= .ok u w/\bF P m h v u:=by
  revert an U;generalize a.eval x=II;generalize bA t x=ex;intro U an;obtain⟨U8,vx,cP,ai,_⟩:=an.ND;rw[<-ai]at U;cases vx with
  |cF t b _ _=>exact absurd rfl (cP t b)
  |ptr b i off ag=>
    simp only[cO]at U;rcases aj:h.row b i with _|e
    ·simp[aj]at U
    ·simp only[aj,da]at U;obtain⟨ah,cW⟩:=U7 hw aj;obtain⟨u,F,J⟩:=IH (w:=w) ty a1 ae (m.b1 b) (i*P.cellsOf (m.fI b)) off e ah cW U;exact⟨u,by simp[Instr.loadAt,Instr.sureAddr,F],J⟩
  |ip e off g e6 ah ev jg=>simp only[cO]at U;obtain⟨u,F,J⟩:=IH (w:=w) (h:=h) (m:=m) ty a1 ae g e6 off e ah (λD aa=>⟨hw.dI _ _ _ (ev D aa),jg D aa⟩) U;exact⟨u,by simp[Instr.loadAt,Instr.sureAddr,F],J⟩
  |_=>simp[cO]at U
 obtain⟨u,F,J⟩:=key;exact dJ.pure hw (by simp[e9,au,F]) J
end
open Go Go.RowKit
theorem NH{α:Type}(l cs:List α)(O:Nat)(h:O+cs.length<=l.length)(D:Nat):(l.take O++cs++l.drop (O+cs.length))[D]? =if O<=D/\D<O+cs.length then cs[D - O]? else l[D]? :=by
 by_cases F:D<O
 ·rw[if_neg (by omega),jA,ph (by simp;omega)];simp[F]
 ·by_cases J:D<O+cs.length
  ·rw[if_pos (by omega),jA,rx (by simp;omega),ph (by simp;omega)];congr 1;simp;omega
  ·rw[if_neg (by omega),rx (by simp;omega)];rw[List.getElem?_drop];congr 1;simp;omega
theorem oQ{i n s:Nat}(h:i<n):i*s+s<=n*s:=by have:(i+1)*s<=n*s:=Nat.mul_le_mul_right s h;rw[Nat.add_mul]at this;omega
section
variable{P:cu}{m aZ:dq}{h E:ad}{w aJ:cd}{t:List I}{a:Act}{O:bb}
theorem akU(hw:bW P m h w)(aO:dF P m h t a.tmps)(ty:aU)(x y:fM)(au:O.op= .store ty x y)(ae:P.info? ty≠Z)(U:eN (c' P ty) h (bA t x) (bA t y)=j E):dJ P m h a w O .aD E:=by
 have an:=g2 aO x;have bq:=g2 aO y;obtain⟨i0,ae⟩:=Option.ne_none_iff_exists'.1 ae;have dY:i0.size=c' P ty:=by simp[c',Program.cellsOf,ae]
 have key:∃aJ,(Instr.storeAt ty (a.eval x) (a.eval y)).run P w= .ok () aJ/\Ext m h m E/\bW P m E aJ/\Below m.base w aJ:=by
  revert an U;generalize a.eval x=II;generalize bA t x=ex;intro U an;obtain⟨U8,vx,cP,_,ai⟩:=an.ND;rw[<-ai]at U;cases vx with
  |cF t b _ _=>exact absurd rfl (cP t b)
  |ptr b i off ag=>
    simp only[eN]at U;rcases al:h.cell b with _|es
    ·simp[al]at U
    ·rcases aj:es[i]? with _|e
     ·simp[al,aj]at U
     ·simp only[al,aj,da]at U;split at U
      ·rename_i j5;obtain⟨F,J,af⟩:=j5;injection U with U;subst U;obtain⟨oR,jJ⟩:=bq.cells F;obtain⟨cs,sJ,nZ,yy,akV,NI⟩:=hw.live b es al;obtain⟨IJ,NJ⟩:=fR.1 aj;have kk:e.length=P.cellsOf (m.fI b):=by rw[<-NJ];exact yy _ (hf IJ)
       generalize cG:P.cellsOf (m.fI b)=S at*;have Ct:(a.eval y).cells.toList.length=c' P ty:=by rw[oR.1,J]
       have Cu:(a.eval y).cells.size=c' P ty:=by simpa using Ct
       have aAf:=oQ (s:=S) IJ;have jM:=run_storeCells_at (P:=P) (m.b1 b) (i*S+off) (m.fI b) (a.eval y).cells.toList 0 cs w sJ (by rw[Ct];omega) jJ;have jD:ci (λk=>k=m.b1 b) w (w.setRow (m.b1 b) (cs.toList.take (i*S+off+0)++(a.eval y).cells.toList++cs.toList.drop (i*S+off+0+(a.eval y).cells.toList.length)).toArray):=⟨rfl,rfl,rfl,by simp[World.setRow],λk _ ab=>setRow_other w _ k _ ab⟩;have hlen:((cs.toList.take (i*S+off+0)++(a.eval y).cells.toList++cs.toList.drop (i*S+off+0+(a.eval y).cells.toList.length)).toArray).size=cs.size:=by simp only[List.size_toArray,dy,List.length_take,sK,Array.length_toList,Cu];omega
       have akW:=setRow_heap w _ cs (cs.toList.take (i*S+off+0)++(a.eval y).cells.toList++cs.toList.drop (i*S+off+0+(a.eval y).cells.toList.length)).toArray _ _ sJ;have akX:∀k,k<m.base->(w.setRow (m.b1 b) (cs.toList.take (i*S+off+0)++(a.eval y).cells.toList++cs.toList.drop (i*S+off+0+(a.eval y).cells.toList.length)).toArray).heap[k]? =w.heap[k]? :=λk ab=>setRow_other w _ k _ (λe=>by have:=(hw.lt b es al).2;omega);generalize w.setRow (m.b1 b) (cs.toList.take (i*S+off+0)++(a.eval y).cells.toList++cs.toList.drop (i*S+off+0+(a.eval y).cells.toList.length)).toArray=cg at*;refine⟨cg,by simp[Instr.storeAt,Instr.sureAddr,storeVar,sizeOf,typeInfo,ae,dY,Cu,jM],?_⟩;obtain⟨EW,d'⟩:=hw.ET al (gz:=es.set i (dO e off (bA t y).cells)) jD _ akW (by rw[hlen,nZ]) (by
        intro r jE;rw[cG];rcases List.mem_or_eq_of_mem_set jE with aE|aE
        ·exact yy r aE
        ·rw[aE,dO];simp only[dy,List.length_take,sK];omega) (by rw[hlen,cG,List.length_set];exact akV) (by
        intro h6 ev D aa;rw[cG];have hN:h6<es.length:=by simpa using ev
        simp only[List.getElem?_toArray];rw[NH _ _ _ (by rw[Ct];simp;omega)];by_cases av:h6=i
        ·subst av;have k0:(es.set h6 (dO e off (bA t y).cells))[h6]=dO e off (bA t y).cells:=by simp
         have di:D<(dO e off (bA t y).cells).length:=by rw[k0]at aa;exact aa
         have a7:(dO e off (bA t y).cells)[D]? =j (dO e off (bA t y).cells)[D]:=gd di;have m3:(e.take off++(bA t y).cells++e.drop (off+(bA t y).cells.length))[D]? =j (dO e off (bA t y).cells)[D]:=a7;rw[NH _ _ _ (by omega)]at m3;have U9:∀v,bF P m h (dO e off (bA t y).cells)[D] v->bF P m h (es.set h6 (dO e off (bA t y).cells))[h6][D] v:=by intro v U;simpa only[k0]using U
         by_cases ax:off<=D/\D<off+(bA t y).cells.length
         ·rw[if_pos ax]at m3;rw[if_pos (by rw[Ct];omega)];obtain⟨u,ma,kL⟩:=oR.get? m3;refine⟨u,?_,U9 u kL⟩;rw[<-ma];congr 1;omega
         ·rw[if_neg ax]at m3;rw[if_neg (by rw[Ct];omega)];obtain⟨akY,tP⟩:=fR.1 m3;obtain⟨v,qP,hO⟩:=NI h6 hN D (by rw[NJ];exact akY);refine⟨v,by simpa using qP,U9 v ?_⟩;rw[<-tP];simpa only[NJ]using hO
        ·have k0:(es.set i (dO e off (bA t y).cells))[h6]=es[h6]:=by simp[lo av]
         have di:D<es[h6].length:=by rw[k0]at aa;exact aa
         have aAg:D<S:=by rw[yy _ (hf hN)]at di;exact di
         rw[if_neg (by
          rw[Ct];rcases Nat.lt_or_gt_of_ne av with aE|aE
          ·have:=oQ (s:=S) aE;omega
          ·have:=oQ (s:=S) aE;omega)]
         obtain⟨v,qP,hO⟩:=NI h6 hN D di;exact⟨v,by simpa using qP,by simpa only[k0]using hO⟩)
       exact⟨EW,d',⟨jD.os,jD.tape,jD.output,jD.size,akX⟩⟩
      ·cases U
  |_=>simp[eN]at U
 obtain⟨aJ,F,J,af,aB⟩:=key;exact⟨m,aJ,fy,.inr ⟨by simp[e9,au,F],rfl⟩,J,af,.aD _,aB⟩
end
open Go Go.RowKit
section
variable{P:cu}{m aZ:dq}{h E:ad}{w aJ:cd}{t:List I}{a:Act}{O:bb}
theorem U'(hw:bW P m h w)(aO:dF P m h t a.tmps)(x:fM)(au:O.op= .move x\/O.op= .assign x):dJ P m h a w O (bA t x) h:=by refine dJ.pure hw (u:=a.eval x) ?_ (g2 aO x);rcases au with au|au<;>simp[e9,au]
theorem akZ(hw:bW P m h w)(aO:dF P m h t a.tmps)(c x y:fM)(au:O.op= .pick c x y){b:Bool}(ag:bA t c= .bool b):dJ P m h a w O (if b then bA t x else bA t y) h:=by
 have al:=g2 aO c;rw[ag]at al;obtain⟨u,bE⟩:∃u,a.eval c=u:=⟨_,rfl⟩;rw[bE]at al;cases al;cases b
 ·exact dJ.pure hw (u:=a.eval y) (by simp[e9,au,bE,asBool]) (by simpa using g2 aO y)
 ·exact dJ.pure hw (u:=a.eval x) (by simp[e9,au,bE,asBool]) (by simpa using g2 aO x)
theorem ak0(hw:bW P m h w)(aO:dF P m h t a.tmps)(x:fM)(au:O.op= .nilCheck x){v:I}(U:bA t x=v)(ab:(match v with|.ptr .. |.cF .. |.ip .. |.fn .. |.iface .. =>Q|_=>R)=Q):dJ P m h a w O v h:=by have al:=g2 aO x;rw[U]at al;obtain⟨u,bE⟩:∃u,a.eval x=u:=⟨_,rfl⟩;rw[bE]at al;refine dJ.pure hw (u:=u) ?_ al;cases al<;>simp at ab<;>simp[e9,au,bE]
theorem ak1(hw:bW P m h w)(aO:dF P m h t a.tmps)(op:UnOp)(ty:aU)(x:fM)(au:O.op= .unOp op ty x){v:I}(U:zW op (bA t x)=j v):dJ P m h a w O v h:=by
 have al:=g2 aO x;revert U al;obtain⟨u,bE⟩:∃u,a.eval x=u:=⟨_,rfl⟩;rw[bE];generalize bA t x=ex;intro U al;cases op<;>cases al<;>simp[zW]at U
 ·subst U;exact dJ.pure hw (u:=.int _ _) (by simp[e9,au,bE,Op.unary,Op.intArith]) (.int _ _)
 ·subst U;exact dJ.pure hw (u:=.bool _) (by simp[e9,au,bE,Op.unary]) (.bool _)
theorem ak2(hw:bW P m h w)(aO:dF P m h t a.tmps)(src dst:aU)(x:fM)(au:O.op= .convert src dst x){v:I}(az:(P.underlying src).isNone=R)(U:yp (hs P dst) (bA t x)=j v):dJ P m h a w O v h:=by
 have al:=g2 aO x;revert U al;obtain⟨u,bE⟩:∃u,a.eval x=u:=⟨_,rfl⟩;rw[bE];generalize bA t x=ex;intro U al;obtain⟨hP,Va⟩:∃hP,P.underlying src=j hP:=w0.1 (by simpa[<-Option.not_isSome]using az);unfold hs at U;rcases a1:P.underlying dst with _|mb
 ·simp[a1,yp]at U
 ·rw[a1]at U;cases mb<;>cases al<;>simp[yp]at U
  ·subst U;exact dJ.pure hw (u:=.int _ _) (by simp only[e9,au,bE,convert,hM,fY Va,fY a1,hD];cases hP<;>simp[Conv.intToInt]<;>rfl) (.int _ _)
  ·subst U;exact dJ.pure hw (u:=.string _) (by simp only[e9,au,bE,convert,hM,fY Va,fY a1,hD];cases hP<;>simp<;>rfl) (.str _)
theorem mt(hw:bW P m h w)(aO:dF P m h t a.tmps)(ty:aU)(x:fM)(au:O.op= .makeInterface ty x)(hp:wR P ty=Q):dJ P m h a w O (.iface ty (bA t x)) h:=by
 unfold wR at hp;rcases a1:P.underlying ty with _|d
 ·simp[a1]at hp
 ·refine dJ.pure hw (u:=.iface ty (a.eval x)) ?_ (.iface _ _ _ (g2 aO x));rw[a1]at hp;simp only[e9,au,Instr.makeInterface,hM,fY a1,hD];cases d<;>simp at hp ⊢
theorem ak3(hw:bW P m h w)(aO:dF P m h t a.tmps)(g:cH)(first captured:Array fM)(au:O.op= .makeFunc (.func g) first captured):dJ P m h a w O (.fn g (first.toList.map (bA t)) (captured.toList.map (bA t))) h:=by
 have F:=dV.map (P:=P) (m:=m) (h:=h) (f:=bA t) (g:=a.eval) (l:=first.toList) (λx _=>g2 aO x);have J:=dV.map (P:=P) (m:=m) (h:=h) (f:=bA t) (g:=a.eval) (l:=captured.toList) (λx _=>g2 aO x);refine dJ.pure hw (u:=.func (.func g) (first.toList.map a.eval).toArray (captured.toList.map a.eval).toArray) ?_ (.fn _ _ _ _ _ F.1 J.1 F.2 J.2);simp only[e9,au,Instr.makeFunc,hM,kX,hD];have e:∀xs:Array fM,(xs.toList.map a.eval).toArray=xs.map a.eval:=λxs=>by apply Array.ext';simp
 rw[e,e]
theorem ak4(hw:bW P m h w)(aO:dF P m h t a.tmps)(x:fM)(i:Nat)(au:O.op= .extract x i){bl:List I}{v:I}(U:bA t x= .bx bl)(ae:bl[i]? =j v):dJ P m h a w O v h:=by
 have al:=g2 aO x;rw[U]at al;obtain⟨u,bE⟩:∃u,a.eval x=u:=⟨_,rfl⟩;rw[bE]at al;cases al with
 |bx _ b8 F af=>obtain⟨y,EU,EV⟩:=dV.get? (l:=bl) (b8:=b8) ⟨F,af⟩ ae;exact dJ.pure hw (u:=y) (by simp[e9,au,bE,Instr.extract,EU]) EV
theorem ak5(hw:bW P m h w)(aO:dF P m h t a.tmps)(x:fM)(EX aS:aU)(ok:Bool)(au:O.op= .typeAssert x EX aS ok){v:I}(U:bA t x= .iface aS v)(hp:wR P aS=Q):dJ P m h a w O (if ok then .bx [v,.bool Q]else v) h:=by
 have al:=g2 aO x;rw[U]at al;obtain⟨u,bE⟩:∃u,a.eval x=u:=⟨_,rfl⟩;rw[bE]at al;unfold wR at hp;rcases a1:P.underlying aS with _|d
 ·simp[a1]at hp
 ·rw[a1]at hp;cases al with
  |iface _ _ bg F=>
    cases ok
    ·refine dJ.pure hw (u:=bg) ?_ F;simp only[e9,au,bE,Instr.typeAssert,hM,fY a1,hD];cases d<;>simp at hp ⊢
    ·refine dJ.pure hw (u:=.tuple [bg,.bool Q].toArray) ?_ ?_
     ·simp only[e9,au,bE,Instr.typeAssert,hM,fY a1,hD];cases d<;>simp at hp ⊢
     ·have:=dV.cons F (dV.cons (bF.bool Q) dV.nil);exact .bx _ _ this.1 this.2
theorem qQ{q:aU}(aE:c' P q≠0):∃i,P.info? q=j i/\i.size=c' P q:=by
 unfold c' Program.cellsOf at*;rcases ae:P.info? q with _|i
 ·simp[ae]at aE
 ·exact⟨i,rfl,by simp⟩
theorem Vb{q:aU}{d:TypeDesc}(a1:P.underlying q=j d):∃i,P.info? q=j i:=by
 unfold Program.underlying at a1;rcases ae:P.info? q with _|i
 ·simp[ae]at a1
 ·exact⟨i,rfl⟩
theorem Vc{s:aU}{f:Nat}{q:Nat×aU}(aE:((sz P s).bind (·[f]?))=j q):∃dM w1,P.underlying s=j (.struct dM)/\dM[f]? =j w1/\w1.offset=q.1/\w1.type=q.2:=by
 unfold sz at aE;split at aE
 ·rename_i dM sL;simp at aE;obtain⟨w1,F,J⟩:=aE;exact⟨dM,w1,sL,F,by rw[<-J],by rw[<-J]⟩
 ·simp at aE
theorem ak6(hw:bW P m h w)(aO:dF P m h t a.tmps)(s:aU)(x:fM)(f:Nat)(au:O.op= .fieldAddr s x f){q:Nat×aU}(aE:((sz P s).bind (·[f]?))=j q)(aR:c' P q.2≠0){v:I}(U:b9 q.1 (bA t x)=j v):dJ P m h a w O v h:=by
 obtain⟨dM,w1,F,J,af,aB⟩:=Vc aE;obtain⟨i0,gw,h7⟩:=qQ aR;have al:=g2 aO x;revert U al;obtain⟨u,bE⟩:∃u,a.eval x=u:=⟨_,rfl⟩;rw[bE];generalize bA t x=ex;intro U al;have run:∀g off,(e9 a.eval O).run P w= .ok (.value (.pointer (j ⟨g,off+q.1,Z⟩))) w\/u≠.pointer (j ⟨g,off,Z⟩):=by
  intro g off;by_cases Vd:u= .pointer (j ⟨g,off,Z⟩)
  ·left;subst Vd;simp only[e9,au,bE,Instr.fieldAt,hM,fY F,hD,J,Instr.sureAddr,kX,fieldPlace,aB,sizeOf,typeInfo,run_program,gw,h7,aR,if_false,af,nW]
  ·exact .inr Vd
 cases al<;>simp[b9]at U
 ·rename_i b i off ag;subst U;refine dJ.pure hw (u:=.pointer (j ⟨m.b1 b,i*P.cellsOf (m.fI b)+(off+q.1),Z⟩)) ?_ (.ptr b i _ ag);have:=(run (m.b1 b) (i*P.cellsOf (m.fI b)+off)).resolve_right (by simp);rwa [p0]at this
 ·rename_i cM b ag NK;have:=(run (m.b1 b) 0).resolve_right (by simp);rw[gH]at this;by_cases lQ:q.1=0
  ·rw[if_pos lQ]at U;subst U;rw[lQ]at this;exact dJ.pure hw this (.cF _ b ag NK)
  ·rw[if_neg lQ]at U;subst U;have hp:=bF.ptr (P:=P) (m:=m) (h:=h) b 0 q.1 ag;rw[Nat.zero_mul,gH]at hp;exact dJ.pure hw this hp
 ·rename_i e off g e6 ah ae jg;subst U;refine dJ.pure hw (u:=.pointer (j ⟨g,e6+(off+q.1),Z⟩)) ?_ (.ip e _ g e6 ah ae jg);have:=(run g (e6+off)).resolve_right (by simp);rwa [p0]at this
end
open Go Go.RowKit
section
variable{P:cu}{m aZ:dq}{h E:ad}{w aJ:cd}{t:List I}{a:Act}{O:bb}
theorem Ve(ty:aU){d:TypeDesc}(a1:P.underlying ty=j d)(aR:c' P ty≠0){cs:List I}{gA:List bH}(aj:dV P m h cs gA)(off:Nat){v:I}(U:gX (j3 P ty) (c' P ty) cs off=j v):∃u,(part ty gA.toArray off).run P w= .ok u w/\bF P m h v u:=by
 obtain⟨i0,gw,h7⟩:=qQ aR;unfold gX at U;unfold part;simp only[hM,NG ty a1,hD];cases tV:j3 P ty
 ·simp only[tV,nx,if_false]at U ⊢;obtain⟨u,F,J⟩:=aj.get? U;exact⟨u,by simp[F],J⟩
 ·simp only[tV,if_true]at U ⊢;split at U
  ·rename_i hle;injection U with U;subst U;refine⟨.agg ((gA.drop off).take (c' P ty)).toArray,?_,?_⟩
   ·simp[sizeOf,typeInfo,gw,h7]
   ·refine .agg _ _ (by simp[aj.1]) (λD aa di=>?_);simp only[List.getElem_take,List.getElem_drop];exact aj.2 _ _ _
  ·cases U
theorem ak7(hw:bW P m h w)(aO:dF P m h t a.tmps)(s:aU)(x:fM)(f:Nat)(au:O.op= .field s x f){q:Nat×aU}(aE:((sz P s).bind (·[f]?))=j q)(aR:c' P q.2≠0)(kL:P.underlying q.2≠Z){cs:List I}{v:I}(an:bA t x= .agg cs)(U:gX (j3 P q.2) (c' P q.2) cs q.1=j v):dJ P m h a w O v h:=by
 obtain⟨dM,w1,F,J,af,aB⟩:=Vc aE;have al:=g2 aO x;rw[an]at al;obtain⟨u,bE⟩:∃u,a.eval x=u:=⟨_,rfl⟩;rw[bE]at al;obtain⟨d,a1⟩:=Option.ne_none_iff_exists'.1 kL;cases al with
 |agg _ b8 g1 et=>obtain⟨fE,b0,bK⟩:=Ve (w:=w) q.2 a1 aR (cs:=cs) (gA:=b8) ⟨g1,et⟩ q.1 U;refine dJ.pure hw (u:=fE) ?_ bK;simp[e9,au,bE,Instr.field,fY F,J,asAgg,af,aB,b0]
theorem rE{e:aU}(he:jK P ty=j e):P.underlying ty=j (.slice e):=by
 unfold jK at he;split at he
 case isFalse=>cases he
 split at he
 ·rename_i ej F;injection he with he;rw[F,he]
 ·cases he
theorem w2(gf:pw P){e:aU}(he:jK P ty=j e):0<P.cellsOf e:=by
 have h:=he;unfold jK at h;split at h
 ·rename_i bt;exact gf.pos ty e bt (rE he)
 ·cases h
theorem Vf{e:aU}{z:List I}(aR:kg P e=j z):e<P.types.size:=by
 unfold kg at aR;split at aR
 ·assumption
 ·cases aR
theorem IK{q:Nat×aU}(he:qL P ty=j q):P.underlying ty=j (.array q.1 q.2):=by
 unfold qL at he;split at he
 ·rename_i n e F;injection he with he;rw[F,<-he]
 ·cases he
theorem ak8(gf:pw P)(hw:bW P m h w)(aO:dF P m h t a.tmps)(ty:aU)(x bR:fM)(au:O.op= .indexAddr ty x bR){v:I}(U:p6 P ty (bA t x) (bA t bR)=j v):dJ P m h a w O v h:=by
 have al:=g2 aO x;have ab:=g2 aO bR;revert U al ab;obtain⟨u,bE⟩:∃u,a.eval x=u:=⟨_,rfl⟩;obtain⟨EY,w3⟩:∃EY,a.eval bR=EY:=⟨_,rfl⟩;rw[bE,w3];generalize bA t x=ex;generalize bA t bR=dN;intro U al ab;cases al with
 |mB e dZ cap=>
   cases ab with
   |int Cv k=>
     simp only[p6]at U;split at U
     ·simp at U
     ·cases U
   |_=>simp[p6]at U
 |bN id e es g e6 cap ah ai ae qa jt z6=>
   cases ab with
   |int Cv k=>
     simp only[p6]at U;split at U
     ·rename_i j5;obtain⟨he,kw⟩:=j5;have kk:=rE he;have mC:=w2 gf he;obtain⟨r,aj,U⟩:=dl.1 U;obtain⟨bt,qb⟩:=fR.1 aj;obtain⟨i0,gw,h7⟩:=qQ (P:=P) (q:=e) (by unfold c';omega);have hlen:r.length=P.cellsOf e:=ai r (qb ▸ hf bt);subst U;refine dJ.pure hw (u:=.pointer (j ⟨g,e6+k.toNat*P.cellsOf e+0,Z⟩)) ?_ (.ip r 0 g (e6+k.toNat*P.cellsOf e) (ah k.toNat) ?_ ?_)
      ·have Vg:k<(es.length:Int):=by omega
       have F:i0.size=P.cellsOf e:=h7;simp only[e9,au,bE,w3,Instr.indexAt,asIntOf,hM,kX,hD,fY kk,kw,Vg,and_self,if_true,sizeOf,typeInfo,run_program,gw,F,nW,Nat.add_zero]
      ·intro D aa;rw[p0];exact ae k.toNat bt D (by omega)
      ·intro D aa;have:=qa k.toNat bt D (by rw[qb];exact aa);simpa only[qb]using this
     ·cases U
   |_=>simp[p6]at U
 |br b e6 n e cap ag n0 jt aq ju=>
   cases ab with
   |int Cv k=>
     simp only[p6]at U;split at U
     ·rename_i j5;obtain⟨he,kw,z7⟩:=j5;have kk:=rE he;have mC:=w2 gf he;obtain⟨i0,gw,h7⟩:=qQ (P:=P) (q:=e) (by unfold c';omega);injection U with U;subst U;have hp:=bF.ptr (P:=P) (m:=m) (h:=h) b (e6+k.toNat) 0 ag;rw[n0]at hp;refine dJ.pure hw (u:=.pointer (j ⟨m.b1 b,(e6+k.toNat)*P.cellsOf e+0,Z⟩)) ?_ hp;have F:i0.size=P.cellsOf e:=h7;simp only[e9,au,bE,w3,Instr.indexAt,asIntOf,hM,kX,hD,fY kk,kw,z7,and_self,if_true,sizeOf,typeInfo,run_program,gw,F,nW,Nat.add_zero,Nat.add_mul]
     ·cases U
   |_=>simp[p6]at U
 |ptr b i off ag=>
   cases ab with
   |int Cv k=>
     simp only[p6]at U;obtain⟨q,aE,U⟩:=dt.1 U;split at U
     ·rename_i j5;obtain⟨aR,kw,z7⟩:=j5;have z8:=IK aE;obtain⟨i0,gw,h7⟩:=qQ aR;injection U with U;subst U;have hp:=bF.ptr (P:=P) (m:=m) (h:=h) b i (off+k.toNat*c' P q.2) ag;refine dJ.pure hw (u:=_) ?_ hp;simp only[e9,au,bE,w3,Instr.indexAt,asIntOf,Instr.sureAddr,hM,kX,hD,fY z8,kw,z7,and_self,if_true,sizeOf,typeInfo,run_program,gw,h7,nW,p0]
     ·cases U
   |_=>simp[p6]at U
 |ip e off g e6 ah ae qa=>
   cases ab with
   |int Cv k=>
     simp only[p6]at U;obtain⟨q,aE,U⟩:=dt.1 U;split at U
     ·rename_i j5;obtain⟨aR,kw,z7⟩:=j5;have z8:=IK aE;obtain⟨i0,gw,h7⟩:=qQ aR;injection U with U;subst U;have hp:=bF.ip (P:=P) (m:=m) (h:=h) e (off+k.toNat*c' P q.2) g e6 ah ae qa;refine dJ.pure hw (u:=_) ?_ hp;simp only[e9,au,bE,w3,Instr.indexAt,asIntOf,Instr.sureAddr,hM,kX,hD,fY z8,kw,z7,and_self,if_true,sizeOf,typeInfo,run_program,gw,h7,nW,p0]
     ·cases U
   |_=>simp[p6]at U
 |_=>simp[p6]at U
theorem ak9(l:List UInt8)(n:Nat):(⟨l.toArray⟩:ByteArray)[n]? =l[n]? :=by
 by_cases aq:n<l.length
 ·rw[ByteArray.getElem?_lt' _ _ (by simpa[ByteArray.size]using aq),gd aq];rfl
 ·rw[ByteArray.getElem?_ge' _ _ (by simpa[ByteArray.size]using aq),lN (by omega)]
theorem ak'(hw:bW P m h w)(aO:dF P m h t a.tmps)(ty:aU)(x bR:fM)(au:O.op= .index ty x bR){v:I}(U:wU P ty (bA t x) (bA t bR)=j v):dJ P m h a w O v h:=by
 have al:=g2 aO x;have ab:=g2 aO bR;revert U al ab;obtain⟨u,bE⟩:∃u,a.eval x=u:=⟨_,rfl⟩;obtain⟨EY,w3⟩:∃EY,a.eval bR=EY:=⟨_,rfl⟩;rw[bE,w3];generalize bA t x=ex;generalize bA t bR=dN;intro U al ab;cases al with
 |str l=>
   cases ab with
   |int Cv k=>
     simp only[wU]at U;split at U
     ·rename_i j5;obtain⟨az,kw⟩:=j5;obtain⟨c,vy,U⟩:=dl.1 U;subst U;unfold oM at az;split at az
      ·rename_i oS;refine dJ.pure hw (u:=.int .u8 c.toNat) ?_ (.int _ _);simp only[e9,au,bE,w3,Instr.index,asIntOf,hM,kX,hD,fY oS,kw,if_true,ak9,vy]
      ·cases az
     ·cases U
   |_=>simp[wU]at U
 |agg cs b8 g1 et=>
   cases ab with
   |int Cv k=>
     simp only[wU]at U;obtain⟨q,aE,U⟩:=dt.1 U;split at U
     ·rename_i j5;obtain⟨ala,aR,kw,z7⟩:=j5;have z8:=IK aE;obtain⟨i0,gw,h7⟩:=qQ aR;obtain⟨d,a1⟩:=w0.1 ala;obtain⟨fE,b0,bK⟩:=Ve (w:=w) q.2 a1 aR (cs:=cs) (gA:=b8) ⟨g1,et⟩ _ U;refine dJ.pure hw (u:=fE) ?_ bK;simp only[e9,au,bE,w3,Instr.index,asIntOf,hM,kX,hD,fY z8,kw,z7,and_self,if_true,sizeOf,typeInfo,run_program,gw,h7,b0]
     ·cases U
   |_=>simp[wU]at U
 |_=>simp[wU]at U
end
open Go Go.RowKit
section
variable{P:cu}{m aZ:dq}{h E:ad}{w aJ:cd}{t:List I}{a:Act}{O:bb}
theorem IL(l:List UInt8):(⟨l.toArray⟩:ByteArray).size=l.length:=by show l.toArray.size=_;simp
theorem Vh(hw:bW P m h w)(aO:dF P m h t a.tmps)(l8:Bool)(x y:fM)(c:Call)(au:O.op= .call c)(al:c.callee= .builtin (if l8 then .max else .min))(aN:c.args= #[x,y]){v:I}(aq:yq l8 (bA t x) (bA t y)=j v):dJ P m h a w O v h:=by
 have iP:=g2 aO x;have qR:=g2 aO y;revert aq iP qR;obtain⟨u,bE⟩:∃u,a.eval x=u:=⟨_,rfl⟩;obtain⟨fE,EZ⟩:∃u,a.eval y=u:=⟨_,rfl⟩;rw[bE,EZ];generalize bA t x=ex;generalize bA t y=w4;intro aq iP qR;unfold yq at aq;split at aq
 ·injection aq with aq;subst aq;cases iP;cases qR;obtain⟨callee,args,argTypes⟩:=c;simp only at al aN;subst al aN;cases l8
  ·refine dJ.pure hw (u:=.int _ _) ?_ (.int _ _);simp[e9,au,bE,EZ,resolve,invoke,builtin,Builtin.min_,Builtin.min2]
  ·refine dJ.pure hw (u:=.int _ _) ?_ (.int _ _);simp[e9,au,bE,EZ,resolve,invoke,builtin,Builtin.max_,Builtin.max2]
 ·cases aq
theorem alb(hw:bW P m h w)(aO:dF P m h t a.tmps)(x:fM)(ty:aU)(qc:List aU)(au:O.op= .call {callee:=.builtin .len,args:= #[x],argTypes:=(ty::qc).toArray}){n:Nat}(bn:wS P ty (bA t x)=Q)(aq:gY (bA t x)=j n):dJ P m h a w O (i64 n) h:=by
 have al:=g2 aO x;revert bn aq al;obtain⟨u,bE⟩:∃u,a.eval x=u:=⟨_,rfl⟩;rw[bE];generalize bA t x=ex;intro bn aq al;refine dJ.pure hw (u:=.int o n) ?_ (.int _ _);have pre:(e9 a.eval O).run P w=((Builtin.len_ (ty::qc).toArray O.type #[u]).run P w).andThen λv aJ=>.ok (.value v) aJ:=by simp[e9,au,resolve,invoke,builtin,bE]
 rw[pre];cases al<;>simp[gY,wS]at bn aq
 ·subst aq;unfold oM at bn;split at bn
  ·rename_i a1;simp[Builtin.len_,fY a1,goInt,IL]
  ·cases bn
 ·subst aq;unfold Ix at bn;obtain⟨e,he⟩:=w0.1 bn;simp[Builtin.len_,fY (rE he),goInt]
 all_goals
  subst aq;simp[Builtin.len_,fY (rE bn),goInt]
def Cw:bH->bH->Bool
 |.nilIface,.nilIface=>R
 |.agg _,.agg _=>R
 |_,_=>Q
theorem alc(op:BinOp)(ty:aU)(x y:fM)(u v:bH)(cP:Cw u v=Q):(eqGuard op ty x y u v).run P w= .ok () w:=by cases op<;>first|rfl|(cases u<;>first|rfl|(cases v<;>first|rfl|simp[Cw]at cP))
theorem IM(op:BinOp)(ty sM:aU)(x y:fM)(au:O.op= .binOp op ty x y sM){v r:bH}(bE:a.eval x=u)(U:a.eval y=v)(cP:Cw u v=Q)(aj:(binOp op ty u v).run P w= .ok r w):(e9 a.eval O).run P w= .ok (.value r) w:=by simp only[e9,au,bE,U,hM,alc op ty x y u v cP,hD,aj,kX]
theorem ald(op:BinOp)(ty:aU)(k dn:kf)(x y:Int){v:I}(fq:kh)(U:dC fq op (.int k x) (.int dn y)=j v):∃r,(binOp op ty (.int k x) (.int dn y)).run P w= .ok r w/\bF P m h v r:=by
 cases op
 case shl=>
  simp only[dC]at U;split at U
  ·cases U
  ·rename_i am;injection U with U;subst U;exact⟨_,by simp[binOp,Op.shift,am],.int _ _⟩
 case shr=>
  simp only[dC]at U;split at U
  ·cases U
  ·rename_i am;injection U with U;subst U;exact⟨_,by simp[binOp,Op.shift,am],.int _ _⟩
 case rem=>
  simp only[dC]at U;split at U
  ·rename_i ab;subst ab;simp only[oN]at U;split at U
   ·cases U
   ·rename_i am;injection U with U;subst U;exact⟨_,by simp[binOp,Op.intDiv,am],.int _ _⟩
  ·cases U
 all_goals
  simp only[dC]at U;split at U
  ·rename_i ab;subst ab
   first
   |(simp only[oN]at U;injection U with U;subst U;first
     |(refine⟨_,?_,.int _ _⟩;simp[binOp,Op.intArith];done)
     |(refine⟨_,?_,.int _ _⟩;simp[binOp,Op.intBits];done)
     |(refine⟨_,?_,.bool _⟩;simp[binOp,Op.intCmp];done))
   |(simp[oN]at U)
  ·cases U
theorem ale(op:BinOp)(ty:aU)(x y:List UInt8){v:I}(fq:kh)(U:dC fq op (.str x) (.str y)=j v):∃r,(binOp op ty (.string ⟨x.toArray⟩) (.string ⟨y.toArray⟩)).run P w= .ok r w/\bF P m h v r:=by
 cases op<;>simp only[dC]at U<;>try (cases U;done)
 ·split at U
  ·rename_i hle;injection U with U;subst U;refine⟨.string ⟨(x++y).toArray⟩,?_,.str _⟩;have F:¬(o.max<(x.length:Int)+(y.length:Int)):=by simp[IntKind.max,IntKind.bits,IntKind.signed];omega
   have e:(⟨x.toArray⟩:ByteArray)++⟨y.toArray⟩=⟨(x++y).toArray⟩:=by apply ByteArray.ext;simp
   simp[binOp,Op.stringOp,IL,e];omega
  ·cases U
 ·injection U with U;subst U;exact⟨_,by simp[binOp,Op.stringOp],.bool _⟩
 ·injection U with U;subst U;exact⟨_,by simp[binOp,Op.stringOp,bne],.bool _⟩
theorem ST(ty:aU){x y:I}{v:bH}{b:Bool}(ag:nT (hs P ty) x y=j b)(an:bF P m h x u)(bq:bF P m h y v):Cw u v=Q/\(binOp .eql ty u v).run P w= .ok (.bool b) w/\(binOp .neq ty u v).run P w= .ok (.bool !b) w:=by
 have ab:(hs P ty= .bool\/hs P ty= .ptr\/hs P ty= .slice)\/(hs P ty= .func\/hs P ty= .iface):=by revert ag;generalize hs P ty=fq;intro ag;unfold nT at ag;split at ag<;>simp_all
 rcases ab with(ab|ab|ab)|(ab|ab)
 all_goals
  have a1:=ab;unfold hs at a1;rw[ab]at ag;split at a1<;>simp at a1
 all_goals
  rename_i m5;have ir:∀{u v:bH},Cw u v=Q->(∀d,(Op.equalIn (d+1) ty u v).run P w= .ok b w)->(∀op,op=BinOp.eql\/op=BinOp.neq->binOp op ty u v=(match op with|.eql=>(do pure (.bool (<-Op.equal ty u v)))|_=>(do pure (.bool (!(<-Op.equal ty u v)))):Sem bH))->Cw u v=Q/\(binOp .eql ty u v).run P w= .ok (.bool b) w/\(binOp .neq ty u v).run P w= .ok (.bool !b) w:=by
   intro u v F J af;have aB:(Op.equal ty u v).run P w= .ok b w:=J 9999;refine⟨F,?_,?_⟩
   ·rw[af _ (.inl rfl)];simp[aB]
   ·rw[af _ (.inr rfl)];simp[aB]
  cases an<;>simp[nT]at ag<;>cases bq<;>simp at ag<;>(try subst ag)<;>refine ir rfl (λd=>?_) (λop au=>by rcases au with rfl|rfl<;>rfl)<;>simp[Op.equalIn,fY m5]
end
end Go.Proofs.YtaodiaofbeblbaaGreatDoor
