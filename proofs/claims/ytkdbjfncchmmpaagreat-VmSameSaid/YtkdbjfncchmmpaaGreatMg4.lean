/- Graph and Net in the plain model: what turns them. -/
import Derived.Test.YtkdbjfncchmmpaaGreatMg3
namespace Go.Proofs.YtkdbjfncchmmpaaGreat
open Nat (reduceAdd reduceSub reduceLeDiff reduceLT)
open List (replicate)
set_option linter.unusedSimpArgs false
set_option linter.unusedVariables false
open Go
theorem bU.same {h:AH} {F J:Nat→Prop} {b:Nat} {G:ae} (g:IsG h F J b G):bU h F J b h G:=⟨F,J,g,Chg.refl _ _ _,fun _=> .inl,fun _=> .inl⟩
theorem bU.grew {h h':AH} {F J:Nat→Prop} {b:Nat} {G:ae} (g:IsG h F J b G) (x:ab h h'):bU h F J b h' G:=⟨F,J,g.grew x,x.chg _ _,fun _=> .inl,fun _=> .inl⟩
theorem bU.after {h h1 h2:AH} {F J:Nat→Prop} {b:Nat} {G':ae} (x:ab h h1) (d:bU h1 F J b h2 G'):bU h F J b h2 G':=by
 obtain⟨F',J',g,c,hF,hJ⟩:=d
 have:=x.n
 have:=x.ids
 exact⟨F',J',g,(x.chg F J).trans c,fun k hk=>(hF k hk).imp id (by omega),fun j hj=>(hJ j hj).imp id (by omega)⟩
section
variable {h:AH} {F J:Nat→Prop} {b:Nat} {G:ae}
theorem xB (h:AH) {F:Nat→Prop} {b:Nat} {sv:AV} {l:List Bool} (g:lZ h F b tB sv (l.map fun x=>[.bool x])) (hl:l.length≤1000):
  ∃ h' v',aG true tB sv (.msl h.n 0 1 tB) (h.push [[.bool false]])=some (v',h')∧dO v'=some (l.length+1)∧(∀ s,cU s (some tB) v'=true)∧v'.one=true∧v'.cells=[v']∧h'.ids=h.ids∧h'.hw=h.hw∧h'.n=h.n+2∧h'.cell (h.n+1)=some ((l++[false]).map fun x=>[.bool x])∧v'= .msl (h.n+1) 0 (l.length+1) tB∧∀ k,k<h.n→¬ (F k∧k≠b)→h'.cell k=h.cell k:=by
 have e0:bS (h.push [[.bool false]]) tB (.msl h.n 0 1 tB)=some [[.bool false]]:=by simp[bS,aT]
 rcases g with⟨h1,rfl⟩ | ⟨q,h1,h2,h3,h4,rfl⟩
 ·have hl0:l=[]:=by simpa using h1
  subst hl0
  refine⟨(h.push [[.bool false]]).push [[.bool false]],.msl (h.n+1) 0 1 tB,?_,rfl,fun s=>ji,rfl,rfl,rfl,rfl,rfl,?_,rfl,fun k hk _=> ?_⟩
  ·simp[aG,e0,dU,AV.one,aJ]
  ·simp[AH.push]
  ·simp[AH.push,show k≠h.n by omega,show k≠h.n+1 by omega]
 ·have hq:q≠h.n:=by omega
  refine⟨((h.push [[.bool false]]).set q none).push ((l.map fun x=>[.bool x])++[[.bool false]]),.msl (h.n+1) 0 (l.length+1) tB,?_,rfl,fun s=>ji,rfl,rfl,rfl,rfl,rfl,?_,rfl,fun k hk hk2=> ?_⟩
  ·have e1:(h.push [[.bool false]]).cell q=some (l.map fun x=>[.bool x]):=by rw[fW hq];exact h4
   simp only[aG,e0,Option.bind_some,List.length_singleton,Nat.one_ne_zero,if_false,dU,List.length_map]
   rw[if_pos ⟨by omega,by omega,rfl⟩,if_pos ⟨trivial,trivial,by omega⟩,e1]
   have e2:List.take l.length (l.map fun x=>[AV.bool x])=l.map fun x=>[.bool x]:=List.take_of_length_le (by simp)
   simp[aJ,dA,e2]
  ·simp[AH.push,AH.set]
  ·have:k≠q:=fun e=>hk2 (by subst e;exact⟨h1,h2⟩)
   simp[AH.push,AH.set,show k≠h.n by omega,show k≠h.n+1 by omega,this]
theorem xw {h':AH} {nv v':AV} (g:IsG h F J b G) (h2:me h J tN nv (G.nodes.map aB)) (e1:h'.ids=h.ids) (e2:h'.hw=h.hw) (e3:h'.n=h.n+2) (e4:h'.cell (h.n+1)=some ((G.shut++[false]).map fun x=>[.bool x])) (e5:v'= .msl (h.n+1) 0 (G.shut.length+1) tB) (e6:∀ k,k<h.n→¬ (F k∧k≠b)→h'.cell k=h.cell k):
  bU h F J b (h'.set b (some [[nv,v']])) ⟨G.nodes,G.shut++[false]⟩:=by
 have hbn:=g.hb.2
 refine⟨fun k=>k=b∨k=h.n+1,J,⟨⟨.inl rfl,by rw[dA,e3];omega⟩,⟨by rintro k (rfl | rfl)<;>(rw[dA,e3];omega),fun j hj=>by rw[kL,e1];exact g.lt.2 j hj⟩,nv,v',bi,?_,.inr ⟨h.n+1,.inr rfl,by omega,by rw[dA,e3];omega,by rw[aV (by omega)];exact e4,?_⟩⟩,⟨by rw[dA,e3];omega,by rw[kL,e1];omega,fun k hk hF=> ?_,fun j hj hJ=>by rw[nj,e2]⟩,?_,fun _=> .inl⟩
 ·rcases h2 with h2 | ⟨id,a1,a0,a2,a3,a4⟩
  ·exact .inl h2
  ·exact .inr ⟨id,a1,a0,by rw[kL,e1];exact a2,by rw[nj,e2];exact a3,a4⟩
 ·rw[e5]
  simp
 ·have:k≠b:=fun e=>hF (by rw[e];exact g.hb.1)
  rw[aV this]
  exact e6 k hk fun x=>hF x.1
 ·rintro k (rfl | rfl)
  ·exact .inl g.hb.1
  ·exact .inr (by omega)
theorem GA (g:IsG h F J b G) (hW:G.Wf):∃ h',ai Tryz.prog po 63 [.ptr b 0 0] h=some (.inl (.tup [.int .i64 G.gate.2.1,.int .i64 G.gate.2.2]),h')∧bU h F J b h' G.gate.1:=by
 obtain⟨nv,sv,h1,h2,h3⟩:=g.ex
 have hgs:=hW.gates
 cases hd:decide ((G.shut.length:Int)=20)
 ·have hne:¬ G.shut.length=20:=by simp at hd;omega
  have hG:G.gate=(⟨G.nodes,G.shut++[false]⟩,(G.shut.length:Int),0):=by unfold ae.gate;rw[if_neg hne]
  obtain⟨h',v',a1,a2,a3,a4,a5,a6,a7,a8,a9,a10,a11⟩:=xB h h3 (by omega)
  have hbn:b≠h.n:=by have:=g.hb.2;omega
  have hcb:h'.cell b=some [[nv,sv]]:=(a11 b g.hb.2 (fun x=>x.2 rfl)).trans h1
  have hwr:IntKind.wrap .i64 (((G.shut.length+1:Nat):Int) - 1)=(G.shut.length:Int):=by rw[w64]<;>omega
  refine⟨h'.set b (some [[nv,v']]),?_,by rw[hG];exact xw g h2 a6 a7 a8 a9 a10 a11⟩
  rw[hG]
  refine ag vO rfl ?_;unfold ru
  simp only[sim,af,reduceAdd,reduceSub,replicate,reduceCtorEq,reduceLeDiff,reduceLT,aa,h1,h3.len.1,h3.len.2,List.length_map,hd,a1,fW hbn,hcb,a4,a5,a2,a3,hwr]
 ·have he:G.shut.length=20:=by simp at hd;omega
  have hG:G.gate=(G,0,11):=by unfold ae.gate;rw[if_pos he]
  refine⟨h,?_,by rw[hG];exact bU.same g⟩
  rw[hG]
  refine ag vO rfl ?_;unfold ru
  simp only[sim,af,reduceAdd,reduceSub,replicate,reduceCtorEq,reduceLeDiff,reduceLT,aa,h1,h3.len.1,h3.len.2,List.length_map,hd]
theorem KW (g:IsG h F J b G) (hW:G.Wf):∃ h',ai Tryz.prog po 68 [.ptr b 0 0] h=some (.inl (.tup [.int .i64 G.gate.2.1,.int .i64 G.gate.2.2]),h')∧bU h F J b h' G.gate.1:=by
 obtain⟨nv,sv,h1,h2,h3⟩:=g.ex
 have hgs:=hW.gates
 cases hd:decide (20≤(G.shut.length:Int))
 ·have hne:¬ G.shut.length=20:=by simp at hd;omega
  have hG:G.gate=(⟨G.nodes,G.shut++[false]⟩,(G.shut.length:Int),0):=by unfold ae.gate;rw[if_neg hne]
  obtain⟨h',v',a1,a2,a3,a4,a5,a6,a7,a8,a9,a10,a11⟩:=xB h h3 (by omega)
  have hbn:b≠h.n:=by have:=g.hb.2;omega
  have hcb:h'.cell b=some [[nv,sv]]:=(a11 b g.hb.2 (fun x=>x.2 rfl)).trans h1
  have hwr:IntKind.wrap .i64 (((G.shut.length+1:Nat):Int) - 1)=(G.shut.length:Int):=by rw[w64]<;>omega
  refine⟨h'.set b (some [[nv,v']]),?_,by rw[hG];exact xw g h2 a6 a7 a8 a9 a10 a11⟩
  rw[hG]
  refine ag wA rfl ?_;unfold pM
  simp only[sim,af,reduceAdd,reduceSub,replicate,reduceCtorEq,reduceLeDiff,reduceLT,aa,h1,h3.len.1,h3.len.2,List.length_map,hd,a1,fW hbn,hcb,a4,a5,a2,a3,hwr]
 ·have he:G.shut.length=20:=by simp at hd;omega
  have hG:G.gate=(G,0,11):=by unfold ae.gate;rw[if_pos he]
  refine⟨h,?_,by rw[hG];exact bU.same g⟩
  rw[hG]
  refine ag wA rfl ?_;unfold pM
  simp only[sim,af,reduceAdd,reduceSub,replicate,reduceCtorEq,reduceLeDiff,reduceLT,aa,h1,h3.len.1,h3.len.2,List.length_map,hd]
theorem Ax {nv sv:AV} (g:IsG h F J b G) (h1:h.cell b=some [[nv,sv]]) (h2:me h J tN nv (G.nodes.map aB)) {m q:Nat} (hm:m<G.shut.length) (e1:F q) (e2:q≠b) (e3:q<h.n) (e4:sv= .msl q 0 G.shut.length tB):
  bU h F J b (h.set q (some ((G.shut.map fun x=>[AV.bool x]).set m [.bool true]))) ⟨G.nodes,G.shut.set m true⟩:=by
 refine⟨F,J,⟨⟨g.hb.1,g.hb.2⟩,g.lt,nv,sv,by rw[aV (Ne.symm e2)];exact h1,?_,.inr ⟨q,e1,e2,e3,by rw[bi,List.map_set],by rw[e4];simp⟩⟩,⟨Nat.le_refl _,Nat.le_refl _,fun k hk hF=>aV (fun e=>hF (by rw[e];exact e1)),fun _ _ _=>rfl⟩,fun _=> .inl,fun _=> .inl⟩
 rcases h2 with h2 | ⟨id,a1,a0,a2,a3,a4⟩
 ·exact .inl h2
 ·exact .inr ⟨id,a1,a0,a2,a3,a4⟩
theorem I5 (g:IsG h F J b G) (k:Int):∃ h',ai Tryz.prog po 62 [.ptr b 0 0,.int .i64 k] h=some (.inl (.int .i64 (G.cut k).2),h')∧bU h F J b h' (G.cut k).1:=by
 obtain⟨nv,sv,h1,h2,h3⟩:=g.ex
 cases hh:G.hasGate k
 ·have hG:G.cut k=(G,8):=by unfold ae.cut;rw[if_neg (by simp[hh])]
  rw[hG]
  refine⟨h,?_,bU.same g⟩
  refine ag Aq rfl ?_;unfold tX
  simp only[sim,af,reduceAdd,reduceSub,replicate,reduceCtorEq,reduceLeDiff,reduceLT,aa,wV g,hh]
 ·obtain⟨m,rfl,hm⟩:=ae.gate_nat hh
  have hG:G.cut (m:Int)=(⟨G.nodes,G.shut.set m true⟩,0):=by unfold ae.cut;rw[if_pos hh];simp
  obtain⟨q,e1,e2,e3,e4,e5,e6,e7⟩:=uf h3 hm
  rw[hG]
  refine⟨_,?_,Ax g h1 h2 hm e4 e5 e6 e7⟩
  refine ag Aq rfl ?_;unfold tX
  simp only[sim,af,reduceAdd,reduceSub,replicate,reduceCtorEq,reduceLeDiff,reduceLT,aa,wV g,hh,h1,e1,e2,e3]
theorem Mt (g:IsG h F J b G) (k:Int):∃ h',ai Tryz.prog po 67 [.ptr b 0 0,.int .i64 k] h=some (.inl (.int .i64 (G.cut k).2),h')∧bU h F J b h' (G.cut k).1:=by
 obtain⟨nv,sv,h1,h2,h3⟩:=g.ex
 cases hh:G.hasGate k
 ·have hG:G.cut k=(G,8):=by unfold ae.cut;rw[if_neg (by simp[hh])]
  rw[hG]
  refine⟨h,?_,bU.same g⟩
  refine ag By rfl ?_;unfold uG
  simp only[sim,af,reduceAdd,reduceSub,replicate,reduceCtorEq,reduceLeDiff,reduceLT,aa,FV g,hh]
 ·obtain⟨m,rfl,hm⟩:=ae.gate_nat hh
  have hG:G.cut (m:Int)=(⟨G.nodes,G.shut.set m true⟩,0):=by unfold ae.cut;rw[if_pos hh];simp
  obtain⟨q,e1,e2,e3,e4,e5,e6,e7⟩:=uf h3 hm
  rw[hG]
  refine⟨_,?_,Ax g h1 h2 hm e4 e5 e6 e7⟩
  refine ag By rfl ?_;unfold uG
  simp only[sim,af,reduceAdd,reduceSub,replicate,reduceCtorEq,reduceLeDiff,reduceLT,aa,FV g,hh,h1,e1,e2,e3]
theorem vQ (h:AH) {J:Nat→Prop} {nv:AV} {rows:List (List AV)} (g:me h J tN nv rows) {row:List AV} (hr:row.all AV.one=true) (hl:rows.length≤1000):
  ∃ h' v',aG false tN nv (.isl (some h.ids) tN [row]) (h.fresh 1)=some (v',h')∧dO v'=some (rows.length+1)∧(∀ s,cU s (some tN) v'=true)∧v'.one=true∧v'.cells=[v']∧h'.cell=h.cell∧h'.n=h.n∧h.ids≤h'.ids∧
    (∃ id,(J id∨h.ids≤id)∧id<h'.ids∧h'.hw id=rows.length+1∧v'= .isl (some id) tN (rows++[row])∧∀ j,j<h.ids→¬ J j→h'.hw j=h.hw j):=by
 have hr':[row].all (·.all AV.one)=true:=by simpa using hr
 rcases g with⟨rfl,rfl⟩ | ⟨id,a1,a0,a2,a3,rfl⟩
 ·refine⟨(h.fresh 1).fresh 1,.isl (some (h.ids+1)) tN [row],?_,rfl,fun s=>jh,rfl,rfl,rfl,rfl,by simp[AH.fresh];omega,h.ids+1,.inr (by omega),by simp[AH.fresh],by simp[AH.fresh],by simp,fun j hj _=>by simp[AH.fresh,show j≠h.ids by omega,show j≠h.ids+1 by omega]⟩
  simp only[aG,bS,if_true,Option.bind_some,List.length_singleton,Nat.one_ne_zero,if_false,dU]
  rw[if_pos ⟨by omega,by omega,hr'⟩]
  rfl
 ·have hne:id≠h.ids:=by omega
  refine⟨(h.fresh 1).grow id (rows.length+1),.isl (some id) tN (rows++[row]),?_,by simp[dO],fun s=>jh,rfl,rfl,rfl,rfl,by simp[AH.fresh,AH.grow],id,.inl a1,by simp[AH.fresh,AH.grow];omega,by simp[AH.grow],rfl,fun j hj hJ=> ?_⟩
  ·simp only[aG,bS,if_true,Option.bind_some,List.length_singleton,Nat.one_ne_zero,if_false,dU]
   rw[if_pos ⟨by omega,by omega,hr'⟩,gd hne,a3,if_pos ⟨trivial,rfl,by omega⟩]
  ·have h1:j≠id:=fun e=>hJ (by rw[e];exact a1)
   simp[AH.grow,AH.fresh,h1,show j≠h.ids by omega]
theorem Bt {h':AH} {sv v':AV} {n:bg} (g:IsG h F J b G) (h3:lZ h F b tB sv (G.shut.map fun x=>[.bool x])) (e1:h'.cell=h.cell) (e2:h'.n=h.n) (e0:h.ids≤h'.ids)
  (e3:∃ id,(J id∨h.ids≤id)∧id<h'.ids∧h'.hw id=G.nodes.length+1∧v'= .isl (some id) tN (G.nodes.map aB++[aB n])∧∀ j,j<h.ids→¬ J j→h'.hw j=h.hw j):bU h F J b (h'.set b (some [[v',sv]])) ⟨G.nodes++[n],G.shut⟩:=by
 obtain⟨id,a1,a2,a3,a4,a5⟩:=e3
 refine⟨F,fun j=>j=id,⟨⟨g.hb.1,by rw[dA,e2];exact g.hb.2⟩,⟨fun k hk=>by rw[dA,e2];exact g.lt.1 k hk,fun j hj=>by rw[hj];exact a2⟩,v',sv,bi,.inr ⟨id,rfl,by simp,a2,by rw[nj,a3];simp,by rw[a4];simp⟩,?_⟩,⟨by rw[dA,e2];exact Nat.le_refl _,by rw[kL];exact e0,fun k hk hF=> ?_,fun j hj hJ=>by rw[nj];exact a5 j hj hJ⟩,fun _=> .inl,fun j hj=>by rw[hj];exact a1⟩
 ·rcases h3 with h3 | ⟨q,b1,b2,b3,b4,b5⟩
  ·exact .inl h3
  ·exact .inr ⟨q,b1,b2,by rw[dA,e2];exact b3,by rw[aV b2,e1];exact b4,b5⟩
 ·rw[aV (fun e=>hF (by rw[e];exact g.hb.1)),e1]
theorem GB (g:IsG h F J b G) (hW:G.Wf) (n:bg):∃ h',ai Tryz.prog po 97 [.ptr b 0 0,.agg (aB n)] h=some (.inl (.tup [.int .i64 (G.add n).2.1,.int .i64 (G.add n).2.2]),h')∧bU h F J b h' (G.add n).1:=by
 have hg1:=ab.push h [aB n]
 have g1:=g.grew hg1
 have hbn:h.n≠b:=by have:=g.hb.2;omega
 obtain⟨nv,sv,h1,h2,h3⟩:=g1.ex
 have hfew:=hW.few
 have hH:=wV g1
 unfold ae.add
 skip
 cases hc:hD n.rights
 ·rw[if_pos rfl]
  refine⟨h.push [aB n],?_,bU.grew g hg1⟩
  refine ag kO rfl ?_;unfold jC
  simp only[sim,af,reduceAdd,reduceSub,replicate,reduceCtorEq,reduceLeDiff,reduceLT,aa,ed,kQ,hc]
 ·rw[if_neg (by simp)]
  have stop:(n.gate≠ -1∧G.hasGate n.gate=false)∨(n.gate= -1∨G.hasGate n.gate=true):=by
   by_cases e:n.gate= -1
   ·exact .inr (.inl e)
   ·cases hh:G.hasGate n.gate
    ·exact .inl ⟨e,rfl⟩
    ·exact .inr (.inr rfl)
  rcases stop with hs | hs
  ·rw[if_pos hs]
   refine⟨h.push [aB n],?_,bU.grew g hg1⟩
   obtain⟨s1,s2⟩:=hs
   refine ag kO rfl ?_;unfold jC
   simp only[sim,af,reduceAdd,reduceSub,replicate,reduceCtorEq,reduceLeDiff,reduceLT,aa,ed,kQ,hc,hH,s1,s2]
  ·have hs':¬ (n.gate≠ -1∧G.hasGate n.gate=false):=by
    rintro⟨a,b⟩
    rcases hs with hs | hs
    ·exact a hs
    ·rw[b]at hs;cases hs
   rw[if_neg hs']
   have hs2:decide (n.gate= -1)=true∨decide (n.gate= -1)=false∧G.hasGate n.gate=true:=by
    rcases hs with hs | hs
    ·exact .inl (by simp[hs])
    ·by_cases e:n.gate= -1
     ·exact .inl (by simp[e])
     ·exact .inr ⟨by simp[e],hs⟩
   cases hd:decide ((G.nodes.length:Int)=80)
   ·have hne:¬ G.nodes.length=80:=by simp at hd;omega
    rw[if_neg hne]
    obtain⟨h',v',a1,a2,a3,a4,a5,a6,a7,a8,a9⟩:=vQ (h.push [aB n]) h2 (row:=aB n) rfl (by simp;omega)
    have hwr:IntKind.wrap .i64 (((G.nodes.length+1:Nat):Int) - 1)=(G.nodes.length:Int):=by rw[w64]<;>omega
    refine⟨h'.set b (some [[v',sv]]),?_,bU.after hg1 (Bt g1 h3 a6 a7 a8 (by simpa using a9))⟩
    simp only[f8,List.length_map]at a1 a2
    rcases hs2 with hs2 | ⟨hs2,hs3⟩
    ·refine ag kO rfl ?_;unfold jC
     simp only[sim,af,reduceAdd,reduceSub,replicate,reduceCtorEq,reduceLeDiff,reduceLT,aa,ed,kQ,hc,hH,hs2,hd,h1,h2.isL.len,h2.isL.fits,List.length_map,a1,a2,a3,a4,a5,a6,hwr]
    ·refine ag kO rfl ?_;unfold jC
     simp only[sim,af,reduceAdd,reduceSub,replicate,reduceCtorEq,reduceLeDiff,reduceLT,aa,ed,kQ,hc,hH,hs2,hs3,hd,h1,h2.isL.len,h2.isL.fits,List.length_map,a1,a2,a3,a4,a5,a6,hwr]
   ·have he:G.nodes.length=80:=by simp at hd;omega
    rw[if_pos he]
    refine⟨h.push [aB n],?_,bU.grew g hg1⟩
    rcases hs2 with hs2 | ⟨hs2,hs3⟩
    ·refine ag kO rfl ?_;unfold jC
     simp only[sim,af,reduceAdd,reduceSub,replicate,reduceCtorEq,reduceLeDiff,reduceLT,aa,ed,kQ,hc,hH,hs2,hd,h1,h2.isL.len,h2.isL.fits,List.length_map]
    ·refine ag kO rfl ?_;unfold jC
     simp only[sim,af,reduceAdd,reduceSub,replicate,reduceCtorEq,reduceLeDiff,reduceLT,aa,ed,kQ,hc,hH,hs2,hs3,hd,h1,h2.isL.len,h2.isL.fits,List.length_map]
theorem Fd (g:IsG h F J b G) (hW:G.Wf) (n:bg):∃ h',ai Tryz.prog po 99 [.ptr b 0 0,.agg (aB n)] h=some (.inl (.tup [.int .i64 (G.add n).2.1,.int .i64 (G.add n).2.2]),h')∧bU h F J b h' (G.add n).1:=by
 have hg1:=ab.push h [aB n]
 have g1:=g.grew hg1
 have hbn:h.n≠b:=by have:=g.hb.2;omega
 obtain⟨nv,sv,h1,h2,h3⟩:=g1.ex
 have hfew:=hW.few
 have hH:=FV g1
 unfold ae.add
 skip
 cases hc:hD n.rights
 ·rw[if_pos rfl]
  refine⟨h.push [aB n],?_,bU.grew g hg1⟩
  refine ag kU rfl ?_;unfold jN
  have hc':decide (n.rights<0)=true∨decide (n.rights<0)=false∧decide (15<n.rights)=true:=by
   simp[hD]at hc
   simp only[decide_eq_true_eq,decide_eq_false_iff_not]
   omega
  rcases hc' with hc' | ⟨hc',hc2⟩
  ·simp only[sim,af,reduceAdd,reduceSub,replicate,reduceCtorEq,reduceLeDiff,reduceLT,aa,ed,hc']
  ·simp only[sim,af,reduceAdd,reduceSub,replicate,reduceCtorEq,reduceLeDiff,reduceLT,aa,ed,hc',hc2]
 ·rw[if_neg (by simp)]
  have hr0:decide (n.rights<0)=false:=by simp[hD]at hc;simp;omega
  have hr1:decide (15<n.rights)=false:=by simp[hD]at hc;simp;omega
  have stop:(n.gate≠ -1∧G.hasGate n.gate=false)∨(n.gate= -1∨G.hasGate n.gate=true):=by
   by_cases e:n.gate= -1
   ·exact .inr (.inl e)
   ·cases hh:G.hasGate n.gate
    ·exact .inl ⟨e,rfl⟩
    ·exact .inr (.inr rfl)
  rcases stop with hs | hs
  ·rw[if_pos hs]
   refine⟨h.push [aB n],?_,bU.grew g hg1⟩
   obtain⟨s1,s2⟩:=hs
   refine ag kU rfl ?_;unfold jN
   simp only[sim,af,reduceAdd,reduceSub,replicate,reduceCtorEq,reduceLeDiff,reduceLT,aa,ed,hr0,hr1,hH,s1,s2]
  ·have hs':¬ (n.gate≠ -1∧G.hasGate n.gate=false):=by
    rintro⟨a,b⟩
    rcases hs with hs | hs
    ·exact a hs
    ·rw[b]at hs;cases hs
   rw[if_neg hs']
   have hs2:decide (n.gate= -1)=true∨decide (n.gate= -1)=false∧G.hasGate n.gate=true:=by
    rcases hs with hs | hs
    ·exact .inl (by simp[hs])
    ·by_cases e:n.gate= -1
     ·exact .inl (by simp[e])
     ·exact .inr ⟨by simp[e],hs⟩
   cases hd:decide (80≤(G.nodes.length:Int))
   ·have hne:¬ G.nodes.length=80:=by simp at hd;omega
    rw[if_neg hne]
    obtain⟨h',v',a1,a2,a3,a4,a5,a6,a7,a8,a9⟩:=vQ (h.push [aB n]) h2 (row:=aB n) rfl (by simp;omega)
    have hwr:IntKind.wrap .i64 (((G.nodes.length+1:Nat):Int) - 1)=(G.nodes.length:Int):=by rw[w64]<;>omega
    refine⟨h'.set b (some [[v',sv]]),?_,bU.after hg1 (Bt g1 h3 a6 a7 a8 (by simpa using a9))⟩
    simp only[f8,List.length_map]at a1 a2
    rcases hs2 with hs2 | ⟨hs2,hs3⟩
    ·refine ag kU rfl ?_;unfold jN
     simp only[sim,af,reduceAdd,reduceSub,replicate,reduceCtorEq,reduceLeDiff,reduceLT,aa,ed,hr0,hr1,hH,hs2,hd,h1,h2.isL.len,h2.isL.fits,List.length_map,a1,a2,a3,a4,a5,a6,hwr]
    ·refine ag kU rfl ?_;unfold jN
     simp only[sim,af,reduceAdd,reduceSub,replicate,reduceCtorEq,reduceLeDiff,reduceLT,aa,ed,hr0,hr1,hH,hs2,hs3,hd,h1,h2.isL.len,h2.isL.fits,List.length_map,a1,a2,a3,a4,a5,a6,hwr]
   ·have he:G.nodes.length=80:=by simp at hd;omega
    rw[if_pos he]
    refine⟨h.push [aB n],?_,bU.grew g hg1⟩
    rcases hs2 with hs2 | ⟨hs2,hs3⟩
    ·refine ag kU rfl ?_;unfold jN
     simp only[sim,af,reduceAdd,reduceSub,replicate,reduceCtorEq,reduceLeDiff,reduceLT,aa,ed,hr0,hr1,hH,hs2,hd,h1,h2.isL.len,h2.isL.fits,List.length_map]
    ·refine ag kU rfl ?_;unfold jN
     simp only[sim,af,reduceAdd,reduceSub,replicate,reduceCtorEq,reduceLeDiff,reduceLT,aa,ed,hr0,hr1,hH,hs2,hs3,hd,h1,h2.isL.len,h2.isL.fits,List.length_map]
end
section
variable {h h' h0:AH} {F J F0 J0:Nat→Prop} {X Y Z:Asn} {L:List Asn}
theorem Did.same (x:X.A h F J):Did h F J h X:=⟨F,J,x,Chg.refl _ _ _,fun _=> .inl,fun _=> .inl⟩
theorem Did.imp (hxy:∀ h F J,X.A h F J→Y.A h F J) (d:Did h F J h' X):Did h F J h' Y:=by
 obtain⟨F',J',x,r⟩:=d
 exact⟨F',J',hxy _ _ _ x,r⟩
theorem Did.chain (ch:Chg F0 J0 h0 h) (a:∀ k,F k→F0 k∨h0.n≤k) (b:∀ j,J j→J0 j∨h0.ids≤j) (d:Did h F J h' Y):Did h0 F0 J0 h' Y:=by
 obtain⟨F2,J2,y,c2,a2,b2⟩:=d
 refine⟨F2,J2,y,ch.then c2 a b,fun k hk=> ?_,fun j hj=> ?_⟩
 ·rcases a2 k hk with h | h
  ·exact a k h
  ·exact .inr (Nat.le_trans ch.n h)
 ·rcases b2 j hj with h | h
  ·exact b j h
  ·exact .inr (Nat.le_trans ch.ids h)
theorem sb (x:(dx X Z).A h F J) {R:AH→Prop} (c:∀ F1 J1,X.A h F1 J1→∃ h',R h'∧Did h F1 J1 h' Y):∃ h',R h'∧Did h F J h' (dx Y Z):=by
 obtain⟨F1,J1,F2,J2,x1,z,hF,hJ,dF,dJ⟩:=x
 obtain⟨h',r,F3,J3,y,c3,a3,b3⟩:=c F1 J1 x1
 have zl:=Z.lt z
 refine⟨h',r,fun k=>F3 k∨F2 k,fun j=>J3 j∨J2 j,⟨F3,J3,F2,J2,y,Z.keep z c3 (fun k hk h1=>dF k h1 hk) (fun j hj h1=>dJ j h1 hj),fun _=>Iff.rfl,fun _=>Iff.rfl,fun k h3 h2=> ?_,fun j h3 h2=> ?_⟩,?_,fun k hk=> ?_,fun j hj=> ?_⟩
 ·rcases a3 k h3 with h | h
  ·exact dF k h h2
  ·have:=zl.1 k h2;omega
 ·rcases b3 j h3 with h | h
  ·exact dJ j h h2
  ·have:=zl.2 j h2;omega
 ·exact⟨c3.n,c3.ids,fun k hk hn=>c3.cell k hk fun h1=>hn ((hF k).2 (.inl h1)),fun j hj hn=>c3.hw j hj fun h1=>hn ((hJ j).2 (.inl h1))⟩
 ·rcases hk with h | h
  ·exact(a3 k h).imp (fun h=>(hF k).2 (.inl h)) id
  ·exact .inl ((hF k).2 (.inr h))
 ·rcases hj with h | h
  ·exact(b3 j h).imp (fun h=>(hJ j).2 (.inl h)) id
  ·exact .inl ((hJ j).2 (.inr h))
theorem iY (x:(dx X Y).A h F J):(dx Y X).A h F J:=by
 obtain⟨F1,J1,F2,J2,x1,z,hF,hJ,dF,dJ⟩:=x
 exact⟨F2,J2,F1,J1,z,x1,fun k=>(hF k).trans or_comm,fun j=>(hJ j).trans or_comm,fun k h2 h1=>dF k h1 h2,fun j h2 h1=>dJ j h1 h2⟩
theorem g9 (x:(dx (dx X Y) Z).A h F J):(dx X (dx Y Z)).A h F J:=by
 obtain⟨F1,J1,F2,J2,⟨F3,J3,F4,J4,x3,y4,hF3,hJ3,dF3,dJ3⟩,z,hF,hJ,dF,dJ⟩:=x
 refine⟨F3,J3,fun k=>F4 k∨F2 k,fun j=>J4 j∨J2 j,x3,⟨F4,J4,F2,J2,y4,z,fun _=>Iff.rfl,fun _=>Iff.rfl,fun k h4=>dF k ((hF3 k).2 (.inr h4)),fun j h4=>dJ j ((hJ3 j).2 (.inr h4))⟩,fun k=> ?_,fun j=> ?_,fun k h3 h=> ?_,fun j h3 h=> ?_⟩
 ·rw[hF k,hF3 k,or_assoc]
 ·rw[hJ j,hJ3 j,or_assoc]
 ·rcases h with h | h
  ·exact dF3 k h3 h
  ·exact dF k ((hF3 k).2 (.inl h3)) h
 ·rcases h with h | h
  ·exact dJ3 j h3 h
  ·exact dJ j ((hJ3 j).2 (.inl h3)) h
theorem jg (x:(dx X (dx Y Z)).A h F J):(dx Y (dx X Z)).A h F J:=by
 have a:=g9 (iY x)
 obtain⟨F1,J1,F2,J2,y,zx,r⟩:=a
 exact⟨F1,J1,F2,J2,y,iY zx,r⟩
theorem eC {X' Y':Asn} (hx:∀ h F J,X.A h F J→X'.A h F J) (hy:∀ h F J,Y.A h F J→Y'.A h F J) (x:(dx X Y).A h F J):(dx X' Y').A h F J:=by
 obtain⟨F1,J1,F2,J2,x1,y1,r⟩:=x
 exact⟨F1,J1,F2,J2,hx _ _ _ x1,hy _ _ _ y1,r⟩
def St (h0:AH) (F0 J0:Nat→Prop) (h:AH) (L:List Asn):Prop:=Did h0 F0 J0 h (bh L)
theorem St.perm {L':List Asn} (hp:List.Perm L L'):∀ {h F J},(bh L).A h F J→(bh L').A h F J:=by
 induction hp with
 | nil=>exact fun x=>x
 | cons X _ ih=>exact fun x=>eC (fun _ _ _ y=>y) (fun _ _ _ y=>ih y) x
 | swap X Y l=>exact fun x=>jg x
 | trans _ _ ih1 ih2=>exact fun x=>ih2 (ih1 x)
theorem bh.front:∀ {L:List Asn} {i:Nat} {X:Asn},L[i]? =some X→∀ {h F J},(bh L).A h F J↔(dx X (bh (L.eraseIdx i))).A h F J
 | [],i,X,hi,_,_,_=>by simp at hi
 | Y::L,0,X,hi,h,F,J=>by
   obtain rfl:Y=X:=by simpa using hi
   exact Iff.rfl
 | Y::L,i+1,X,hi,h,F,J=>by
   have ih:∀ {h:AH} {F J:Nat→Prop},(bh L).A h F J↔(dx X (bh (L.eraseIdx i))).A h F J:=bh.front (by simpa using hi)
   constructor
   ·intro x
    exact jg (eC (fun _ _ _ y=>y) (fun _ _ _ y=>ih.1 y) x)
   ·intro x
    exact eC (fun _ _ _ y=>y) (fun _ _ _ y=>ih.2 y) (jg x)
theorem bh.back {i:Nat} (hi:i<L.length) (x:(dx X (bh (L.eraseIdx i))).A h F J):(bh (L.set i X)).A h F J:=by
 rw[bh.front (L:=L.set i X) (i:=i) (X:=X) (by simp[hi])]
 rw[show(L.set i X).eraseIdx i=L.eraseIdx i from List.eraseIdx_set_eq]
 exact x
theorem St.call {R:AH→Prop} (s:St h0 F0 J0 h L) (i:Nat) (hi:L[i]? =some X) (c:∀ F J,X.A h F J→∃ h',R h'∧Did h F J h' Y):∃ h',R h'∧St h0 F0 J0 h' (L.set i Y):=by
 have hl:i<L.length:=(List.getElem?_eq_some_iff.1 hi).1
 obtain⟨F,J,x,ch,a,b⟩:=s
 obtain⟨h',r,d⟩:=sb ((bh.front hi).1 x) c
 exact⟨h',r,Did.chain ch a b (d.imp fun _ _ _ y=>bh.back hl y)⟩
theorem St.start (x:(bh L).A h F J):St h F J h L:=Did.same x
theorem St.get (s:St h0 F0 J0 h L) (i:Nat) (hi:L[i]? =some X):∃ F J,X.A h F J:=by
 obtain⟨F,J,x,_⟩:=s
 obtain⟨F1,J1,_,_,x1,_⟩:=(bh.front hi).1 x
 exact⟨F1,J1,x1⟩
theorem St.cell (s:St h0 F0 J0 h L) (i:Nat) {b:Nat} {es:List (List AV)} (hi:L[i]? =some (ah b es)):h.cell b=some es∧b<h.n:=by
 obtain⟨_,_,_,_,c,d⟩:=s.get i hi
 exact⟨d,c⟩
theorem St.imp {L':List Asn} (s:St h0 F0 J0 h L) (hx:∀ h F J,(bh L).A h F J→(bh L').A h F J):St h0 F0 J0 h L':=Did.imp hx s
theorem St.grew (s:St h0 F0 J0 h L) (g:ab h h'):St h0 F0 J0 h' L:=by
 obtain⟨F,J,x,ch,a,b⟩:=s
 have lt:=(bh L).lt x
 exact⟨F,J,(bh L).keep x (g.chg (fun _=>False) fun _=>False) (fun _ _ h=>h) (fun _ _ h=>h),ch.trans (g.chg _ _),a,b⟩
theorem St.add (s:St h0 F0 J0 h L) (g:ab h h') {F1 J1:Nat→Prop} (x1:X.A h' F1 J1) (hF:∀ k,F1 k→h.n≤k) (hJ:∀ j,J1 j→h.ids≤j):St h0 F0 J0 h' (X::L):=by
 obtain⟨F,J,x,ch,a,b⟩:=s
 have lt:=(bh L).lt x
 have x':=(bh L).keep x (g.chg (fun _=>False) fun _=>False) (fun _ _ h=>h) (fun _ _ h=>h)
 refine⟨fun k=>F1 k∨F k,fun j=>J1 j∨J j,⟨F1,J1,F,J,x1,x',fun _=>Iff.rfl,fun _=>Iff.rfl,fun k h1 h2=> ?_,fun j h1 h2=> ?_⟩,ch.trans (g.chg _ _),fun k hk=> ?_,fun j hj=> ?_⟩
 ·have:=lt.1 k h2;have:=hF k h1;omega
 ·have:=lt.2 j h2;have:=hJ j h1;omega
 ·exact hk.elim (fun h=> .inr (Nat.le_trans ch.n (hF k h))) (a k)
 ·exact hj.elim (fun h=> .inr (Nat.le_trans ch.ids (hJ j h))) (b j)
theorem St.push (s:St h0 F0 J0 h L) (es:List (List AV)):St h0 F0 J0 (h.push es) (ah h.n es::L):=
 s.add (ab.push h es) (F1:=fun k=>k=h.n) (J1:=fun _=>False) ⟨fun _=>Iff.rfl,fun _ h=>h,Nat.lt_succ_self _,aT⟩ (fun k hk=>Nat.le_of_eq hk.symm) (fun _ h=>h.elim)
theorem St.fresh (s:St h0 F0 J0 h L) (m:Nat):St h0 F0 J0 (h.fresh m) (idA h.ids m::L):=
 s.add (ab.fresh h m) (F1:=fun _=>False) (J1:=fun j=>j=h.ids) ⟨fun _ h=>h,fun _=>Iff.rfl,Nat.lt_succ_self _,by simp[AH.fresh]⟩ (fun _ h=>h.elim) (fun j hj=>Nat.le_of_eq hj.symm)
theorem St.set (s:St h0 F0 J0 h L) (i:Nat) {b:Nat} {es:List (List AV)} (hi:L[i]? =some (ah b es)) (fs:List (List AV)):St h0 F0 J0 (h.set b (some fs)) (L.set i (ah b fs)):=by
 obtain⟨h',rfl,d⟩:=s.call (R:=fun q=>q=h.set b (some fs)) i hi (Y:=ah b fs) fun F J ⟨a1,a2,a3,a4⟩=>⟨_,rfl,F,J,⟨a1,a2,a3,bi⟩,⟨Nat.le_refl _,Nat.le_refl _,fun k _ hk=>aV fun e=>hk ((a1 k).2 e),fun _ _ _=>rfl⟩,fun _=> .inl,fun _=> .inl⟩
 exact d
theorem St.del (s:St h0 F0 J0 h L) (i:Nat) {b:Nat} {es:List (List AV)} (hi:L[i]? =some (ah b es)):St h0 F0 J0 (h.set b none) (L.set i (uu True)):=by
 obtain⟨h',rfl,d⟩:=s.call (R:=fun q=>q=h.set b none) i hi (Y:=uu True) fun F J ⟨a1,a2,a3,a4⟩=>⟨_,rfl,fun _=>False,fun _=>False,⟨trivial,fun _ h=>h,fun _ h=>h⟩,⟨Nat.le_refl _,Nat.le_refl _,fun k _ hk=>aV fun e=>hk ((a1 k).2 e),fun _ _ _=>rfl⟩,fun _ h=>h.elim,fun _ h=>h.elim⟩
 exact d
theorem St.drop (s:St h0 F0 J0 h (X::L)):St h0 F0 J0 h L:=by
 obtain⟨F,J,⟨F1,J1,F2,J2,_,x2,hF,hJ,_,_⟩,ch,a,b⟩:=s
 exact⟨F2,J2,x2,ch,fun k hk=>a k ((hF k).2 (.inr hk)),fun j hj=>b j ((hJ j).2 (.inr hj))⟩
end
open Go Go.ChangeShapes Go.WideShapes Go.ChangeAt Go.RowKit Go.Deep
def TyA (P:Program):Nat→TypeId→List AV→Prop
 | 0,_,_=>False
 | n+1,t,cs=>match P.underlying t with
   | some .bool=>∃ b,cs=[.bool b]
   | some (.int k)=>∃ z,cs=[.int k z]∧(Lit.int k z).wf=true
   | some .string=>∃ s,cs=[.str s]∧s.length≤maxLen
   | some (.slice e)=>cs=[.nils]∨∃ es,cs=[.isl none e es]∧es.length≤maxLen∧∀ r∈es,r.length=P.cellsOf e∧TyA P n e r
   | some (.struct fs)=>∃ parts:List (List AV),cs=parts.flatten∧parts.length=fs.size∧∀ (i:Nat) (f:Field),fs[i]? =some f→∃ p,parts[i]? =some p∧p.length=P.cellsOf f.type∧TyA P n f.type p
   | _=>False
def iK (P:Program):Nat→List Field→Nat→Bool
 | o,[],m=>o==m
 | o,f::r,m=>f.offset==o && iK P (o+P.cellsOf f.type) r m
def mB (P:Program) (S:List TypeId):Bool:=S.all fun t=>match P.underlying t with
 | some .bool | some (.int _) | some .string=>true
 | some (.slice e)=>S.contains e && P.cellsOf e != 0
 | some (.struct fs)=>iK P 0 fs.toList (P.cellsOf t) && fs.toList.all fun f=>S.contains f.type
 | _=>false
theorem qT {P:Program}:∀ {l:List Field} {o m:Nat},iK P o l m=true→o≤m
 | [],o,m,h=>by simp[iK]at h;omega
 | f::r,o,m,h=>by
   simp only[iK,Bool.and_eq_true]at h
   have:=qT h.2
   omega
section
variable {H:Type} {enc:TypeId×Value→H} {P:Program} {W:World} {S:List TypeId}
theorem nZ {n:Nat} (ih:∀ t cs x,t∈S→DataW.trod enc P W 0 (fun _=>true) true n t cs=some x→∃ avs,TyA P n t avs∧VRs P (m0A W) h0A avs cs):
  ∀ (fl:List Field) (o m:Nat) (cs:List Value),iK P o fl m=true→cs.length=m→(∀ f∈fl,f.type∈S∧∃ x,DataW.trod enc P W 0 (fun _=>true) true n f.type ((cs.drop f.offset).take (P.cellsOf f.type))=some x)→
  ∃ parts:List (List AV),parts.length=fl.length∧(∀ (i:Nat) (f:Field),fl[i]? =some f→∃ p,parts[i]? =some p∧p.length=P.cellsOf f.type∧TyA P n f.type p)∧VRs P (m0A W) h0A parts.flatten (cs.drop o)
 | [],o,m,cs,h,hc,hf=>by
   simp only[iK,beq_iff_eq]at h
   refine⟨[],rfl,fun i f hi=>by simp at hi,?_⟩
   rw[List.drop_eq_nil_of_le (by omega)]
   exact VRs.nil
 | f::fl,o,m,cs,h,hc,hf=>by
   simp only[iK,Bool.and_eq_true,beq_iff_eq]at h
   obtain⟨h1,h2⟩:=h
   have hle:=qT h2
   obtain⟨hs,x,hx⟩:=hf f (by simp)
   obtain⟨p,hp1,hp2⟩:=ih _ _ _ hs hx
   obtain⟨parts,q1,q2,q3⟩:=nZ ih fl (o+P.cellsOf f.type) m cs h2 hc (fun g hg=>hf g (by simp[hg]))
   rw[h1]at hp2
   have hl:p.length=P.cellsOf f.type:=by
    have:=hp2.1
    rw[List.length_take,List.length_drop]at this
    omega
   refine⟨p::parts,by simp[q1],?_,?_⟩
   ·intro i g hi
    cases i with
    | zero=>
      obtain rfl:f=g:=by simpa using hi
      exact⟨p,rfl,hl,hp1⟩
    | succ i=>exact q2 i g (by simpa using hi)
   ·have e:cs.drop o=(cs.drop o).take (P.cellsOf f.type)++cs.drop (o+P.cellsOf f.type):=by
     rw[←List.drop_drop,List.take_append_drop]
    rw[e,List.flatten_cons]
    exact VRs.append hp2 q3
theorem vw (hS:mB P S=true):∀ (fuel:Nat) (t:TypeId) (cs:List Value) (x:DataW H×List MemPlace),t∈S→DataW.trod enc P W 0 (fun _=>true) true fuel t cs=some x→
  ∃ avs,TyA P fuel t avs∧VRs P (m0A W) h0A avs cs
 | 0,t,cs,x,_,h=>by simp[DataW.trod]at h
 | n+1,t,cs,x,ht,h=>by
   have hS':=hS
   have hc:=List.all_eq_true.1 hS t ht
   simp only[TyA]
   split at hc
   ·rename_i hu
    obtain⟨b,rfl, -⟩:=DataW.trod_bool hu h
    exact⟨_,⟨b,rfl⟩,VRs.cons (.bool b) VRs.nil⟩
   ·rename_i k hu
    obtain⟨z,rfl, -,hw⟩:=DataW.trod_int hu h
    exact⟨_,⟨z,rfl,hw⟩,VRs.cons (.int k z) VRs.nil⟩
   ·rename_i hu
    obtain⟨s,rfl, -,hw⟩:=DataW.trod_string hu h
    exact⟨_,⟨s.data.toList,rfl,by simpa using hw⟩,VRs.cons (KA s) VRs.nil⟩
   ·rename_i e hu
    simp only[Bool.and_eq_true,bne_iff_ne,ne_eq,List.contains_iff_mem]at hc
    rcases DataW.trod_slice hu h with⟨rfl, -⟩ | ⟨a,len,cap,elems,rest,n',hn,rfl, -,hb,hl,hm,hlen,hel, -, -⟩
    ·exact⟨_,Or.inl rfl,VRs.cons .nils VRs.nil⟩
    ·obtain rfl:n=n':=by omega
     have key:∀ i,i<len→∃ q:List AV×List Value,W.cells? 0 (a.add (i*P.cellsOf e)) (P.cellsOf e)=some q.2∧TyA P n e q.1∧VRs P (m0A W) h0A q.1 q.2:=by
      intro i hi
      have h1:=hel i hi
      rw[List.getElem?_eq_getElem (by omega)]at h1
      obtain⟨cs',h2,h3⟩:=Option.bind_eq_some_iff.1 h1
      obtain⟨avs,h4,h5⟩:=vw hS' n e cs' _ hc.1 h3
      exact⟨(avs,cs'),h2,h4,h5⟩
     obtain⟨V,hV⟩:=choose_lt key
     have hlen2:∀ i,i<len→(V i).1.length=P.cellsOf e∧(V i).2.length=P.cellsOf e:=fun i hi=>by
      obtain⟨h1,h2,h3⟩:=hV i hi
      have:=(World.cells?_some h1).2.1
      exact⟨by rw[←this,h3.1],this⟩
     refine⟨_,Or.inr ⟨(List.range len).map fun i=>(V i).1,rfl,by simp;omega,?_⟩,VRs.cons ?_ VRs.nil⟩
     ·intro r hr
      obtain⟨i,hi,rfl⟩:=List.mem_map.1 hr
      have hi:=List.mem_range.1 hi
      exact⟨(hlen2 i hi).1,(hV i hi).2.1⟩
     ·by_cases hz:len=0
      ·subst hz
       exact .isl0 e a cap
      ·have ha:a=⟨a.block,a.off,none⟩:=by
        obtain⟨h1,h2,h3⟩:=hV 0 (by omega)
        have:=(World.cells?_some h1).2.2 0 (by omega)
        rw[List.getElem?_eq_getElem (by rw[(hlen2 0 (by omega)).2];omega)]at this
        have hsp:=World.cell?_spot this
        obtain⟨b,o,sp⟩:=a
        simp[Addr.add]at hsp
        subst hsp
        rfl
       have:=VR.isl (P:=P) (m:=m0A W) (h:=h0A) none e ((List.range len).map fun i=>(V i).1) a.block a.off cap (fun i j=>(V i).2.getD j default) (fun r hr=> ?_) (fun i hi j hj=> ?_) (fun i hi j hj=> ?_) (by simpa using hl) (fun q hq=>by cases hq)
       ·rw[←ha]at this
        simpa using this
       ·obtain⟨i,hi,rfl⟩:=List.mem_map.1 hr
        exact(hlen2 i (List.mem_range.1 hi)).1
       ·simp only[List.length_map,List.length_range]at hi
        obtain⟨h1,h2,h3⟩:=hV i hi
        have h4:=(World.cells?_some h1).2.2 j hj
        rw[Go.Deep.add_add,ha,Addr.add_lit]at h4
        have h5:j<(V i).2.length:=by rw[(hlen2 i hi).2];exact hj
        rw[List.getElem?_eq_getElem h5]at h4
        show W.cell? _=_
        rw[h4]
        simp[List.getD,h5]
       ·simp only[List.length_map,List.length_range]at hi
        obtain⟨h1,h2,h3⟩:=hV i hi
        simp only[List.getElem_map,List.getElem_range]at hj ⊢
        have h5:j<(V i).2.length:=by rw[h3.1];exact hj
        have:=h3.2 j hj h5
        simpa[List.getD,h5]using this
   ·rename_i fs hu
    simp only[Bool.and_eq_true,List.all_eq_true,List.contains_iff_mem]at hc
    obtain⟨xs,n',hn, -,hl,hxl,hf⟩:=DataW.trod_struct hu h
    obtain rfl:n=n':=by omega
    obtain⟨parts,q1,q2,q3⟩:=nZ (S:=S) (n:=n) (fun t cs x ht h=>vw hS' n t cs x ht h) fs.toList 0 (P.cellsOf t) cs hc.1 hl (fun f hm=>⟨hc.2 f hm,by
     obtain⟨i,hi⟩:=List.mem_iff_getElem?.1 hm
     rw[Array.getElem?_toList]at hi
     have h1:=hf i f hi
     have h2:=(Array.getElem?_eq_some_iff.1 hi).1
     rw[List.getElem?_eq_getElem (by omega)]at h1
     exact⟨_,h1⟩⟩)
    exact⟨_,⟨parts,rfl,by simpa using q1,fun i f hi=>q2 i f (by rw[Array.getElem?_toList];exact hi)⟩,by simpa using q3⟩
   ·cases hc
theorem qA {t e:TypeId} (hS:mB P S=true) (hm:t∈S) (hu:P.underlying t=some (.slice e)) {v:Value} {d:DataW H} {p:List MemPlace} {r:Reach} {b0:Nat} (hok:Value.okWide P W r b0 t v) (h:DataW.Trod enc P W 0 (fun _=>true) true t v d p):
  ∃ n av,TyA P n t [av]∧VR P (m0A W) h0A av v:=by
 obtain⟨a,len,cap,rfl⟩:=okWide_slice hu hok
 obtain⟨fuel,hf⟩:=h
 obtain⟨avs,h1,h2⟩:=vw hS fuel t _ _ hm hf
 have hl:=h2.1
 match avs,hl with
 | [av],_=>exact⟨fuel,av,h1,h2.2 0 (by simp) (by simp[Value.cells])⟩
end
section
variable {P:Program} {t e:TypeId} {cs:List AV}
theorem fK {n:Nat} {k:IntKind} (hu:P.underlying t=some (.int k)) (h:TyA P n t cs):∃ z,cs=[.int k z]∧(Lit.int k z).wf=true:=by
 cases n with
 | zero=>exact h.elim
 | succ n=>simpa only[TyA,hu]using h
def InS (e:TypeId) (v:AV) (es:List (List AV)):Prop:=(es=[]∧v= .nils)∨v= .isl none e es
theorem InS.isL {v:AV} {es:List (List AV)} (h:InS e v es):IsL e v es:=by
 rcases h with⟨rfl,rfl⟩ | rfl
 ·exact mp e
 ·exact oU _ _ _
theorem ni {n:Nat} (hu:P.underlying t=some (.slice e)) (h:TyA P n t cs):∃ m v es,n=m+1∧cs=[v]∧InS e v es∧es.length≤maxLen∧∀ r∈es,r.length=P.cellsOf e∧TyA P m e r:=by
 cases n with
 | zero=>exact h.elim
 | succ n=>
   simp only[TyA,hu]at h
   rcases h with rfl | ⟨es,rfl,h1,h2⟩
   ·exact⟨n,.nils,[],rfl,rfl,.inl ⟨rfl,rfl⟩,by simp,fun r hr=>by simp at hr⟩
   ·exact⟨n,_,es,rfl,rfl,.inr rfl,h1,h2⟩
def jP (P:Program) (t:TypeId):Option (List TypeId):=match P.underlying t with
 | some (.struct fs)=>some (fs.toList.map (·.type))
 | _=>none
theorem iU {n:Nat} {ts:List TypeId} (hu:jP P t=some ts) (h:TyA P n t cs):∃ m,n=m+1∧∃ parts:List (List AV),cs=parts.flatten∧parts.length=ts.length∧∀ (i:Nat) (t':TypeId),ts[i]? =some t'→∃ p,parts[i]? =some p∧p.length=P.cellsOf t'∧TyA P m t' p:=by
 cases n with
 | zero=>exact h.elim
 | succ n=>
   unfold jP at hu
   simp only[TyA]at h
   split at hu
   ·rename_i fs hf
    cases hu
    rw[hf]at h
    obtain⟨parts,h1,h2,h3⟩:=h
    refine⟨n,rfl,parts,h1,by simpa using h2,fun i t' hi=> ?_⟩
    rw[List.getElem?_map]at hi
    obtain⟨f,h4,h5⟩:=Option.map_eq_some_iff.1 hi
    subst h5
    exact h3 i f (by rw[←Array.getElem?_toList];exact h4)
   ·cases hu
theorem LF {α:Type} {l:List α} (h:l.length=1):∃ a,l=[a]:=by
 match l,h with
 | [a],_=>exact⟨a,rfl⟩
theorem Mj {α:Type} {l:List α} (h:l.length=2):∃ a b,l=[a,b]:=by
 match l,h with
 | [a,b],_=>exact⟨a,b,rfl⟩
theorem Ja {α:Type} {l:List α} (h:l.length=3):∃ a b c,l=[a,b,c]:=by
 match l,h with
 | [a,b,c],_=>exact⟨a,b,c,rfl⟩
theorem JU {α:Type} {l:List α} (h:l.length=4):∃ a b c d,l=[a,b,c,d]:=by
 match l,h with
 | [a,b,c,d],_=>exact⟨a,b,c,d,rfl⟩
end
theorem SlA.isL {e:TypeId} {v:AV} {es:List (List AV)} (h:SlA e v es):IsL e v es:=by
 rcases h with⟨rfl,rfl⟩ | ⟨id,rfl⟩
 ·exact mp e
 ·exact oU _ _ _
theorem InS.sla {e:TypeId} {v:AV} {es:List (List AV)} (h:InS e v es):SlA e v es:=by
 rcases h with h | h
 ·exact .inl h
 ·exact .inr ⟨_,h⟩
theorem VaL.len:∀ {l:List VD} {es:List (List AV)},VaL l es→es.length=l.length
 | [],es,h=>by
   simp only[VaL]at h
   subst h
   rfl
 | x::l,es,h=>by
   simp only[VaL]at h
   obtain⟨r,rs,rfl,_,h2⟩:=h
   simp[VaL.len h2]
theorem VaL.get:∀ {l:List VD} {es:List (List AV)} {i:Nat} {x:VD},VaL l es→l[i]? =some x→∃ r,es[i]? =some r∧VaA x r
 | [],es,i,x,h,hx=>by simp at hx
 | y::l,es,i,x,h,hx=>by
   simp only[VaL]at h
   obtain⟨r,rs,rfl,h1,h2⟩:=h
   cases i with
   | zero=>
     obtain rfl:y=x:=by simpa using hx
     exact⟨r,rfl,h1⟩
   | succ i=>simpa using VaL.get h2 (by simpa using hx)
theorem VaL.append {l:List VD} {es:List (List AV)} {x:VD} {r:List AV} (h:VaL l es) (hx:VaA x r):VaL (l++[x]) (es++[r]):=by
 induction l generalizing es with
 | nil=>
   simp only[VaL]at h
   subst h
   simp[VaL,hx]
 | cons y l ih=>
   simp only[VaL]at h
   obtain⟨q,rs,rfl,h1,h2⟩:=h
   exact⟨q,rs++[r],rfl,h1,ih h2⟩
theorem VaA.row {x:VD} {r:List AV} (h:VaA x r):∃ v es,r=[.int .i64 x.kind,.int .i64 x.n,v]∧SlA tV v es∧VaL x.l es:=by
 cases x with
 | mk kind n l=>simp only[VaA]at h;exact h
theorem VaA.one {x:VD} {r:List AV} (h:VaA x r):r.all AV.one=true∧r.length=3:=by
 obtain⟨v,es,rfl,hv,_⟩:=h.row
 rcases hv with⟨_,rfl⟩ | ⟨id,rfl⟩<;>exact⟨rfl,rfl⟩
mutual
theorem Ay:∀ {x:VD} {r:List AV},VaA x r→∃ r',wkL r=some r'∧VaA x r'
 | .mk kind n l,r,h=>by
   simp only[VaA]at h
   obtain⟨v,es,rfl,hv,hl⟩:=h
   obtain⟨es',h1,h2⟩:=Es hl
   rcases hv with⟨rfl,rfl⟩ | ⟨id,rfl⟩
   ·exact⟨_,rfl,by simp only[VaA];exact⟨_,[],rfl,.inl ⟨rfl,rfl⟩,hl⟩⟩
   ·refine⟨[.int .i64 kind,.int .i64 n,.isl none tV es'],?_,?_⟩
    ·simp only[wkL,wkA,h1,Option.map_some]
    ·simp only[VaA]
     exact⟨_,es',rfl,.inr ⟨_,rfl⟩,h2⟩
theorem Es:∀ {l:List VD} {es:List (List AV)},VaL l es→∃ es',wkR es=some es'∧VaL l es'
 | [],es,h=>by
   simp only[VaL]at h
   subst h
   exact⟨[],rfl,rfl⟩
 | x::l,es,h=>by
   simp only[VaL]at h
   obtain⟨r,rs,rfl,h1,h2⟩:=h
   obtain⟨r',q1,q2⟩:=Ay h1
   obtain⟨rs',q3,q4⟩:=Es h2
   exact⟨r'::rs',by simp only[wkR,q1,q3],by simp only[VaL];exact⟨r',rs',rfl,q2,q4⟩⟩
end
structure qS (h:AH) (v:AV) (l:List VD):Prop where
 len:dO v=some l.length
 fits:∀ s,cU s (some tV) v=true
 one:v.one=true
 ix:∀ (i:Nat) (y:VD),l[i]? =some y→∃ a q,cj (some tV) none v (.int .i64 (i:Int))=some a∧(∀ h',ab h h'→aK true 3 h' a=some (.agg q))∧VaA y q
theorem qS.of {h:AH} {v:AV} {es:List (List AV)} {l:List VD} (hv:SlA tV v es) (hl:VaL l es):qS h v l:=by
 refine⟨?_,hv.isL.fits,?_,fun i y hy=> ?_⟩
 ·rw[←hl.len];exact hv.isL.len
 ·rcases hv with⟨_,rfl⟩ | ⟨id,rfl⟩<;>rfl
 ·obtain⟨q,h1,h2⟩:=hl.get hy
  exact⟨.ip q 0,q,hv.isL.ix .i64 i q h1,fun h' _=>br h2.one.2,h2⟩
theorem VaA.mk {x:VD} {v:AV} {es:List (List AV)} (hv:SlA tV v es) (hl:VaL x.l es):VaA x [.int .i64 x.kind,.int .i64 x.n,v]:=by
 rw[x.eta]
 simp only[VaA]
 exact⟨v,es,rfl,hv,by simpa[VD.l]using hl⟩
theorem VaA.facts {x:VD} {r:List AV} (h:VaA x r):∃ v es,r=[.int .i64 x.kind,.int .i64 x.n,v]∧IsL tV v es∧v.one=true∧es.length=x.l.length∧
  ∀ (i:Nat) (y:VD),x.l[i]? =some y→∃ q,cj (some tV) none v (.int .i64 (i:Int))=some (.ip q 0)∧ldA true 3 q 0=some (.agg q)∧VaA y q:=by
 obtain⟨v,es,rfl,hv,hl⟩:=h.row
 refine⟨v,es,rfl,hv.isL,?_,hl.len,fun i y hy=> ?_⟩
 ·rcases hv with⟨_,rfl⟩ | ⟨id,rfl⟩<;>rfl
 ·obtain⟨q,h1,h2⟩:=hl.get hy
  exact⟨q,hv.isL.ix .i64 i q h1,br h2.one.2,h2⟩
theorem LW:jP Tryz.prog tV=some [3,2,33]:=by kernel_rfl
theorem L5:(Tryz.prog).underlying 3=some (.int .i64):=by kernel_rfl
theorem HC:(Tryz.prog).underlying 2=some (.int .i64):=by kernel_rfl
theorem Ks:(Tryz.prog).underlying 33=some (.slice tV):=by kernel_rfl
mutual
def VD.wf:VD→Prop
 | .mk kind n l=>BR kind∧BR n∧Ky l
def Ky:List VD→Prop
 | []=>True
 | x::l=>x.wf∧Ky l
end
theorem JV {z:Int} (w:(Lit.int .i64 z).wf=true):BR z:=by simpa[BR,Lit.wf,IntKind.min,IntKind.max,IntKind.signed,IntKind.bits]using w
theorem Mb:∀ (n:Nat) (r:List AV),TyA Tryz.prog n tV r→∃ x:VD,VaA x r∧x.wf:=by
 intro n
 induction n using Nat.strongRecOn with
 | ind n ih=>
   intro r h
   obtain⟨m,rfl,parts,rfl,hl,hf⟩:=iU LW h
   obtain⟨p0,a0,_,b0⟩:=hf 0 _ rfl
   obtain⟨p1,a1,_,b1⟩:=hf 1 _ rfl
   obtain⟨p2,a2,_,b2⟩:=hf 2 _ rfl
   obtain⟨k,rfl,w0⟩:=fK L5 b0
   obtain⟨z,rfl,w1⟩:=fK HC b1
   obtain⟨m',v,es,rfl,rfl,hv,_,hr⟩:=ni Ks b2
   obtain⟨c0,c1,c2,rfl⟩:=Ja hl
   simp only[List.getElem?_cons_zero,List.getElem?_cons_succ,Option.some.injEq]at a0 a1 a2
   subst a0 a1 a2
   have key:∀ es:List (List AV),(∀ r∈es,∃ x:VD,VaA x r∧x.wf)→∃ l,VaL l es∧Ky l:=by
    intro es
    induction es with
    | nil=>intro _;exact⟨[],rfl,trivial⟩
    | cons r es ih2=>
      intro hh
      obtain⟨x,hx,hw⟩:=hh r (by simp)
      obtain⟨l,hl,hw2⟩:=ih2 fun q hq=>hh q (by simp[hq])
      exact⟨x::l,by simp only[VaL];exact⟨r,es,rfl,hx,hl⟩,hw,hw2⟩
   obtain⟨l,hl,hw⟩:=key es fun r hr'=>ih m' (by omega) r (hr r hr').2
   exact⟨.mk k z l,by simp only[VaA];exact⟨v,es,rfl,hv.sla,hl⟩,JV w0,JV w1,hw⟩
abbrev tFr:TypeId:=126
abbrev tGo:TypeId:=127
theorem VaA.len3 {x:VD} {r:List AV} (h:VaA x r):r.length=3∧r.all AV.one=true:=by
 cases x with
 | mk k n l=>
   obtain⟨v,es,rfl,h1,_⟩:=h
   rcases h1 with⟨_,rfl⟩ | ⟨id,rfl⟩<;>exact⟨rfl,rfl⟩
theorem VaL.app:∀ {l m:List VD} {es fs:List (List AV)},VaL l es→VaL m fs→VaL (l++m) (es++fs)
 | [],m,es,fs,h,g=>by simp only[VaL]at h;subst h;exact g
 | x::l,m,es,fs,h,g=>by
   obtain⟨r,rs,rfl,h1,h2⟩:=h
   exact⟨r,rs++fs,rfl,h1,VaL.app h2 g⟩
theorem VaL.one {x:VD} {r:List AV} (h:VaA x r):VaL [x] [r]:=⟨r,[],rfl,h,rfl⟩
theorem VaL.take:∀ {l:List VD} {es:List (List AV)},VaL l es→∀ n,VaL (l.take n) (es.take n)
 | [],_,h,n=>by simp only[VaL]at h;subst h;simp[VaL]
 | y::l,es,h,n=>by
   obtain⟨r,rs,rfl,h1,h2⟩:=h
   cases n with
   | zero=>simp[VaL]
   | succ n=>exact⟨r,rs.take n,rfl,h1,VaL.take h2 n⟩
def MN (e:TypeId) (v:AV) (rows:List (List AV)):Asn:=orA (uu (rows=[]∧v= .nils)) (n9 fun q:Nat×List (List AV)=>tv (v= .msl q.1 0 rows.length e∧rows.length≤q.2.length∧rows=q.2.take rows.length) (ah q.1 q.2))
def gq (v:AV) (l:List VD):Asn:=n9 fun rows:List (List AV)=>tv (VaL l rows) (MN tV v rows)
def ct (f:FrD) (a:List AV) (s n g:AV):List AV:=[.int .i64 f.plugin,.int .i64 f.f,.int .i64 (f.pc:Int)]++a++[s,n,.bool f.asked,g]
def lN (row:List AV) (f:FrD):Asn:=n9 fun q:List AV×AV×AV×AV=>tv (row=ct f q.1 q.2.1 q.2.2.1 q.2.2.2∧VaA f.arg q.1∧SlA 3 q.2.2.2 (cr f.gates)) (dx (gq q.2.1 f.stack) (gq q.2.2.1 f.names))
def dX:List (List AV)→List FrD→Asn
 | [],[]=>uu True
 | r::rs,f::fs=>dx (lN r f) (dX rs fs)
 | _,_=>uu False
def dN (mb bb fb:Nat) (left:Int) (below:List FrD) (top:FrD):Asn:=n9 fun q:List (List AV)×List AV×List (List AV)=>
 dx (ah mb [[.ptr bb 0 0,.msl fb 0 (below.length+1) tFr,.int .i64 left]]) (dx (ah fb (q.1++q.2.1::q.2.2)) (dx (lN q.2.1 top) (dX q.1 below)))
section
variable {h h' h0:AH} {F J F0 J0:Nat→Prop} {L:List Asn} {mb bb fb:Nat} {left:Int} {below:List FrD} {top:FrD}
theorem j6:∀ {rs:List (List AV)} {fs:List FrD} {h:AH} {F J:Nat→Prop},(dX rs fs).A h F J→rs.length=fs.length
 | [],[],_,_,_,_=>rfl
 | r::rs,f::fs,_,_,_,h=>by
   obtain⟨_,_,_,_,_,y,_⟩:=h
   simp[j6 y]
 | [],_::_,_,_,_,h=>h.1.elim
 | _::_,[],_,_,_,h=>h.1.elim
theorem bh.nil (F J:Nat→Prop) (h:AH) (hF:∀ k,¬ F k) (hJ:∀ j,¬ J j):(bh []).A h F J:=⟨trivial,hF,hJ⟩
theorem bh.two {X Y:Asn} (x:(dx X Y).A h F J):(bh [X,Y]).A h F J:=by
 obtain⟨F1,J1,F2,J2,x1,y,hF,hJ,dF,dJ⟩:=x
 exact⟨F1,J1,F2,J2,x1,⟨F2,J2,fun _=>False,fun _=>False,y,⟨trivial,fun _ h=>h,fun _ h=>h⟩,fun k=>by simp,fun j=>by simp,fun _ _ h=>h,fun _ _ h=>h⟩,hF,hJ,dF,dJ⟩
theorem bh.one {X:Asn} (x:X.A h F J):(bh [X]).A h F J:=⟨F,J,fun _=>False,fun _=>False,x,⟨trivial,fun _ h=>h,fun _ h=>h⟩,fun k=>by simp,fun j=>by simp,fun _ _ h=>h,fun _ _ h=>h⟩
theorem bh.one' {X:Asn} (x:(bh [X]).A h F J):X.A h F J:=by
 obtain⟨F1,J1,F2,J2,x1,⟨_,e1,e2⟩,hF,hJ,_,_⟩:=x
 have e3:F=F1:=by funext k;exact propext ((hF k).trans ⟨fun h=>h.resolve_right (e1 k),.inl⟩)
 have e4:J=J1:=by funext j;exact propext ((hJ j).trans ⟨fun h=>h.resolve_right (e2 j),.inl⟩)
 rw[e3,e4];exact x1
theorem bh.star_in {X Y:Asn} (x:(bh (dx X Y::L)).A h F J):(bh (X::Y::L)).A h F J:=g9 x
theorem ny {X Y Z:Asn} (x:(dx X (dx Y Z)).A h F J):(dx (dx X Y) Z).A h F J:=iY (g9 (iY (g9 (iY x))))
theorem bh.star_out {X Y:Asn} (x:(bh (X::Y::L)).A h F J):(bh (dx X Y::L)).A h F J:=ny x
abbrev ER (mb bb fb:Nat) (left:Int) (below:List FrD) (top:FrD) (rs ex:List (List AV)) (a:List AV) (s n g:AV):List Asn:=
 [ah mb [[.ptr bb 0 0,.msl fb 0 (below.length+1) tFr,.int .i64 left]],ah fb (rs++ct top a s n g::ex),gq s top.stack,gq n top.names,dX rs below]
theorem ik (x:(dN mb bb fb left below top).A h F J):∃ rs ex a s n g,rs.length=below.length∧VaA top.arg a∧SlA 3 g (cr top.gates)∧St h F J h (ER mb bb fb left below top rs ex a s n g):=by
 obtain⟨⟨rs,row,ex⟩,x⟩:=x
 obtain⟨F1,J1,F2,J2,x1,⟨F3,J3,F4,J4,x3,⟨F5,J5,F6,J6,⟨⟨a,s,n,g⟩,⟨e,ha,hg⟩,x5⟩,x6,r6⟩,r4⟩,r2⟩:=x
 simp only at e
 subst e
 refine⟨rs,ex,a,s,n,g,j6 x6,ha,hg,St.start ?_⟩
 exact⟨F1,J1,F2,J2,x1,⟨F3,J3,F4,J4,x3,bh.star_in (L:=[dX rs below]) ⟨F5,J5,F6,J6,x5,bh.one x6,r6⟩,r4⟩,r2⟩
theorem CN {rs ex:List (List AV)} {a:List AV} {s n g:AV} (ha:VaA top.arg a) (hg:SlA 3 g (cr top.gates)) (x:(bh (ER mb bb fb left below top rs ex a s n g)).A h F J):(dN mb bb fb left below top).A h F J:=by
 obtain⟨F1,J1,F2,J2,x1,⟨F3,J3,F4,J4,x3,x4,r4⟩,r2⟩:=x
 obtain⟨F5,J5,F6,J6,x5,x6,r6⟩:=bh.star_out (X:=gq s top.stack) (Y:=gq n top.names) (L:=[dX rs below]) x4
 exact⟨⟨rs,ct top a s n g,ex⟩,F1,J1,F2,J2,x1,⟨F3,J3,F4,J4,x3,⟨F5,J5,F6,J6,⟨⟨a,s,n,g⟩,⟨rfl,ha,hg⟩,x5⟩,bh.one' x6,r6⟩,r4⟩,r2⟩
theorem kR {rs ex:List (List AV)} {a:List AV} {s n g:AV} (ha:VaA top.arg a) (hg:SlA 3 g (cr top.gates)) (s0:St h0 F0 J0 h (ER mb bb fb left below top rs ex a s n g)):Did h0 F0 J0 h (dN mb bb fb left below top):=
 Did.imp (fun _ _ _ x=>CN ha hg x) s0
theorem gW {v:AV} {l:List VD} (x:(gq v l).A h F J):v.one=true∧v.cells=[v]∧dO v=some l.length∧(∀ s,cU s (some tV) v=true)∧(∀ (q:IntKind) (i:Nat) (y:VD),l[i]? =some y→∃ p r,cj (some tV) none v (.int q (i:Int))=some p∧aK true 3 h p=some (.agg r)∧VaA y r):=by
 obtain⟨rows,hl,x⟩:=x
 have hlen:=hl.len
 rcases x with⟨⟨rfl,rfl⟩,_⟩ | ⟨⟨b,es⟩,⟨rfl,h1,h2⟩,x⟩
 ·simp only[List.length_nil]at hlen
  refine⟨rfl,rfl,by rw[←hlen];rfl,fun s=>rfl,fun q i y hy=> ?_⟩
  have:=List.length_eq_zero_iff.1 hlen.symm
  subst this
  simp at hy
 ·refine⟨rfl,rfl,by rw[←hlen];rfl,fun s=>ji,fun q i y hy=> ?_⟩
  obtain⟨r,q1,q2⟩:=hl.get hy
  have hi:i<rows.length:=(List.getElem?_eq_some_iff.1 q1).1
  refine⟨.ptr b (0+i) 0,r,vn rfl hi,?_,q2⟩
  obtain⟨_,_,_,hc⟩:=x
  have h3:es[i]? =some r:=by
   have:(es.take rows.length)[i]? =some r:=by rw[←h2];exact q1
   rwa [List.getElem?_take_of_lt hi]at this
  simp only at hc
  rw[bV,hc,Nat.zero_add,Option.bind_some,h3,Option.bind_some]
  exact br q2.len3.1
theorem GP {v:AV} {l:List VD} {y:VD} {r:List AV} {bz:Nat} (x:(gq v l).A h F J) (hz:h.cell bz=some [r]) (hy:VaA y r) (hl:l.length≤1000000):
  ∃ h',aG true tV v (.msl bz 0 1 tV) h=some (.msl h.n 0 (l.length+1) tV,h')∧Did h F J h' (gq (.msl h.n 0 (l.length+1) tV) (l++[y])):=by
 have he:bS h tV (.msl bz 0 1 tV)=some [r]:=by simp[bS,hz]
 have ha:∀ s,aG true tV s (.msl bz 0 1 tV) h=dU true tV s [r] h:=fun s=>by
  simp only[aG,he,Option.bind_some,List.length_singleton]
  rw[if_neg (by decide)]
 have hr:([r].all fun x=>x.all AV.one)=true:=by simp only[List.all_cons,List.all_nil,Bool.and_true];exact hy.len3.2
 obtain⟨rows,hv,x⟩:=x
 have hlen:=hv.len
 rcases x with⟨⟨rfl,rfl⟩,e1,e2⟩ | ⟨⟨b,es⟩,⟨rfl,h1,h2⟩,a1,a2,a3,a4⟩
 ·have hl0:l=[]:=List.length_eq_zero_iff.1 (by simpa using hlen.symm)
  subst hl0
  refine⟨h.push [r],?_,fun k=>k=h.n,fun _=>False,⟨[r],VaL.one hy,.inr ⟨⟨h.n,[r]⟩,⟨rfl,Nat.le_refl _,rfl⟩,fun _=>Iff.rfl,fun _ h=>h,Nat.lt_succ_self _,aT⟩⟩,(ab.push h [r]).chg _ _,fun k hk=> .inr (Nat.le_of_eq hk.symm),fun _ h=>h.elim⟩
  rw[ha]
  simp only[dU]
  rw[if_pos ⟨by simp,by simp,hr⟩]
  rfl
 ·simp only at h1 h2 a1 a3 a4
  have hn:((h.set b none).push (es.take rows.length++[r])).cell h.n=some (es.take rows.length++[r]):=by
   have:=aT (h:=h.set b none) (es:=es.take rows.length++[r])
   exact this
  refine⟨(h.set b none).push (es.take rows.length++[r]),?_,fun k=>k=h.n,fun _=>False,⟨rows++[r],hv.app (VaL.one hy),.inr ⟨⟨h.n,es.take rows.length++[r]⟩,⟨by simp[hlen],?_,?_⟩,fun _=>Iff.rfl,fun _ h=>h,Nat.lt_succ_self _,hn⟩⟩,⟨Nat.le_succ _,Nat.le_refl _,fun k hk hF=> ?_,fun _ _ _=>rfl⟩,fun k hk=> .inr (Nat.le_of_eq hk.symm),fun _ h=>h.elim⟩
  ·rw[ha]
   simp only[dU,a4,Option.bind_some]
   rw[if_pos ⟨by simp,by simp,hr⟩,if_pos ⟨trivial,trivial,by omega⟩,if_pos h1]
   simp[hlen,dA]
  ·simp;omega
  ·rw[←h2,List.take_of_length_le (by simp)]
  ·rw[fW (by rw[dA];omega),aV fun e=>hF ((a1 k).2 e)]
theorem wj {b m:Nat} {l:List VD} {y:VD} (x:(gq (.msl b 0 m tV) (l++[y])).A h F J):(gq (.msl b 0 l.length tV) l).A h F J:=by
 obtain⟨rows,hv,x⟩:=x
 have hlen:=hv.len
 rw[List.length_append,List.length_singleton]at hlen
 rcases x with⟨⟨_,e⟩,_⟩ | ⟨⟨b',es⟩,⟨e,h1,h2⟩,x⟩
 ·cases e
 ·injection e with e1 _ e2 _
  have hv2:=hv.take l.length
  rw[List.take_left]at hv2
  simp only at e1 h1 h2
  refine⟨rows.take l.length,hv2,.inr ⟨⟨b',es⟩,⟨by rw[e1];congr 1;simp;omega,by simp;omega,?_⟩,x⟩⟩
  have h3:(rows.take l.length).length=l.length:=by simp;omega
  rw[h3]
  conv=>lhs;rw[h2]
  rw[List.take_take]
  congr 1
  omega
theorem vP {v:AV} {l:List VD} (x:(gq v l).A h F J) (hl:l≠[]):∃ b,v= .msl b 0 l.length tV:=by
 obtain⟨rows,hv,x⟩:=x
 have hlen:=hv.len
 rcases x with⟨⟨rfl,rfl⟩,_⟩ | ⟨⟨b',es⟩,⟨e,_⟩,_⟩
 ·exact absurd (List.length_eq_zero_iff.1 (by simpa using hlen.symm)) hl
 ·exact⟨b',by rw[e,hlen]⟩
theorem St.upd {X Y:Asn} (s:St h0 F0 J0 h L) (i:Nat) (hi:L[i]? =some X) (hxy:∀ h F J,X.A h F J→Y.A h F J):St h0 F0 J0 h (L.set i Y):=by
 obtain⟨h',rfl,d⟩:=s.call (R:=fun q=>q=h) i hi (Y:=Y) fun F J x=>⟨h,rfl,Did.imp hxy (Did.same x)⟩
 exact d
theorem zy {α:Type} {X Z:Asn} {Y:α→Asn} (x:(dx X Z).A h F J) {R:AH→α→Prop} (c:∀ F1 J1,X.A h F1 J1→∃ h' a,R h' a∧Did h F1 J1 h' (Y a)):∃ h' a,R h' a∧Did h F J h' (dx (Y a) Z):=by
 obtain⟨F1,J1,F2,J2,x1,z,hF,hJ,dF,dJ⟩:=x
 obtain⟨h',a0,r,F3,J3,y,c3,a3,b3⟩:=c F1 J1 x1
 have zl:=Z.lt z
 refine⟨h',a0,r,fun k=>F3 k∨F2 k,fun j=>J3 j∨J2 j,⟨F3,J3,F2,J2,y,Z.keep z c3 (fun k hk h1=>dF k h1 hk) (fun j hj h1=>dJ j h1 hj),fun _=>Iff.rfl,fun _=>Iff.rfl,fun k h3 h2=> ?_,fun j h3 h2=> ?_⟩,?_,fun k hk=> ?_,fun j hj=> ?_⟩
 ·rcases a3 k h3 with h | h
  ·exact dF k h h2
  ·have:=zl.1 k h2;omega
 ·rcases b3 j h3 with h | h
  ·exact dJ j h h2
  ·have:=zl.2 j h2;omega
 ·exact⟨c3.n,c3.ids,fun k hk hn=>c3.cell k hk fun h1=>hn ((hF k).2 (.inl h1)),fun j hj hn=>c3.hw j hj fun h1=>hn ((hJ j).2 (.inl h1))⟩
 ·rcases hk with h | h
  ·exact(a3 k h).imp (fun h=>(hF k).2 (.inl h)) id
  ·exact .inl ((hF k).2 (.inr h))
 ·rcases hj with h | h
  ·exact(b3 j h).imp (fun h=>(hJ j).2 (.inl h)) id
  ·exact .inl ((hJ j).2 (.inr h))
theorem St.callE {α:Type} {X:Asn} {R:AH→α→Prop} {Y:α→Asn} (s:St h0 F0 J0 h L) (i:Nat) (hi:L[i]? =some X) (c:∀ F J,X.A h F J→∃ h' a,R h' a∧Did h F J h' (Y a)):∃ h' a,R h' a∧St h0 F0 J0 h' (L.set i (Y a)):=by
 have hl:i<L.length:=(List.getElem?_eq_some_iff.1 hi).1
 obtain⟨F,J,x,ch,a,b⟩:=s
 obtain⟨h',a0,r,d⟩:=zy ((bh.front hi).1 x) c
 exact⟨h',a0,r,Did.chain ch a b (d.imp fun _ _ _ y=>bh.back hl y)⟩
theorem St.app (s:St h0 F0 J0 h L) (i:Nat) {v:AV} {l:List VD} (hi:L[i]? =some (gq v l)) {y:VD} {r:List AV} {bz:Nat} (hz:h.cell bz=some [r]) (hy:VaA y r) (hl:l.length≤1000000):
  ∃ h',aG true tV v (.msl bz 0 1 tV) h=some (.msl h.n 0 (l.length+1) tV,h')∧St h0 F0 J0 h' (L.set i (gq (.msl h.n 0 (l.length+1) tV) (l++[y]))):=
 s.call (R:=fun h'=>aG true tV v (.msl bz 0 1 tV) h=some (.msl h.n 0 (l.length+1) tV,h')) i hi fun _ _ x=>GP x hz hy hl
end
def xF:List RS:=[(.ops [(.i (.v 0) (.mv (.c .nilp)))]),(.ops [(.i .l (.call (.c (.fn 76 [] [])) [])),(.i .l (.call (.c (.fn 77 [] [])) [])),(.i .l (.build [.nilp,.nilp,(.bool false),.nils,(.int .i64 0),(.int .i64 0),.nils,(.bool false),.nils,(.int .i64 0),(.int .i64 0),.nils,(.bool false),.nils,(.int .i64 0),(.int .i64 0),.nils,(.bool false),.nils,(.int .i64 0),(.int .i64 0),.nils] [(0,1),(1,1),(2,20)] [(0,(.l 1)),(1,(.l 0))])),(.i .l (.box 22 (.l 0))),(.i (.v 0) (.mv (.l 0)))]),.ret]
theorem GC:FnR Tryz.prog po 39 0 1 [0] xF [(.v 0)] false:=⟨_,_,Tryz.func39,rfl,rfl,by kernel_rfl,by kernel_rfl,by kernel_rfl,by kernel_rfl,by kernel_rfl⟩
def pC:List RS:=[(.ops [(.i (.v 2) (.mv (.v 0)))]),(.cond (.v 2) [(.ops [(.i .l (.mv (.v 1))),(.i .l (.mki 127 (.l 0))),(.i .n (.pan (.l 0)))])] [])]
theorem xu:FnR Tryz.prog po 89 2 3 [0,1,4] pC [] true:=⟨_,_,Tryz.func89,rfl,rfl,by kernel_rfl,by kernel_rfl,by kernel_rfl,by kernel_rfl,by kernel_rfl⟩
def Bf:List RS:=[(.ops [(.i (.v 1) (.mv (.c .nilp)))]),(.ops [(.i .l (.mv (.v 0))),(.i .l (.nilc (.l 0))),(.i .l (.fad 1 (.l 0))),(.i .l (.load false 1 (.l 0))),(.i .l (.mv (.v 0))),(.i .l (.nilc (.l 0))),(.i .l (.fad 1 (.l 0))),(.i .l (.load false 1 (.l 0))),(.i .l (.len false (some 126) (.l 0))),(.i .l (.bin (.int .i64) .sub (.l 0) (.c (.int .i64 1)))),(.i .l (.ixa (some 126) none (.l 6) (.l 0))),(.i (.v 1) (.mv (.l 0)))]),.ret]
theorem ID:FnR Tryz.prog po 88 1 2 [0,2] Bf [(.v 1)] false:=⟨_,_,Tryz.func88,rfl,rfl,by kernel_rfl,by kernel_rfl,by kernel_rfl,by kernel_rfl,by kernel_rfl⟩
def BC:List RS:=[(.ops [(.i (.v 1) (.alloc [(.int .i64 0),(.int .i64 0),.nils]))]),(.ops [(.i .l (.mv (.v 0))),(.i .l (.call (.c (.fn 88 [] [])) [(.l 0)])),(.i (.v 2) (.mv (.l 0)))]),(.ops [(.i .l (.mv (.v 2))),(.i .l (.nilc (.l 0))),(.i .l (.fad 6 (.l 0))),(.i .l (.load false 1 (.l 0))),(.i .l (.len false (some 35) (.l 0))),(.i .l (.bin (.int .i64) .sub (.l 0) (.c (.int .i64 1)))),(.i (.v 3) (.mv (.l 0)))]),(.ops [(.i .l (.mv (.v 2))),(.i .l (.nilc (.l 0))),(.i .l (.fad 6 (.l 0))),(.i .l (.load false 1 (.l 0))),(.i .l (.mv (.v 3))),(.i .l (.ixa (some 35) none (.l 1) (.l 0))),(.i .l (.load true 3 (.l 0))),(.i (.v 4) (.alloc [(.int .i64 0),(.int .i64 0),.nils])),(.i .n (.store 3 (.v 4) (.l 0)))]),(.ops [(.i .l (.mv (.v 2))),(.i .l (.mv (.v 2))),(.i .l (.nilc (.l 0))),(.i .l (.fad 6 (.l 0))),(.i .l (.load false 1 (.l 0))),(.i .l (.mv (.v 3))),(.i .l (.slc false (some 35) (.l 1) none (some (.l 0)))),(.i .l (.nilc (.l 6))),(.i .l (.fad 6 (.l 0))),(.i .n (.store 1 (.l 0) (.l 2)))]),(.ops [(.i .l (.load true 3 (.v 4))),(.i .n (.store 3 (.v 1) (.l 0)))]),.ret]
theorem Hz:FnR Tryz.prog po 90 1 5 [0,2,3,4,5] BC [(.cell true 3 1)] false:=⟨_,_,Tryz.func90,rfl,rfl,by kernel_rfl,by kernel_rfl,by kernel_rfl,by kernel_rfl,by kernel_rfl⟩
def rf:List RS:=[(.ops [(.i (.v 1) (.alloc [(.int .i64 0),(.int .i64 0),.nils]))]),(.ops [(.i .l (.mv (.v 0))),(.i .l (.build [(.int .i64 0),(.int .i64 0),.nils] [(0,1),(1,1),(2,1)] [(0,(.c (.int .i64 1))),(1,(.l 0))])),(.i .n (.store 3 (.v 1) (.l 0)))]),.ret]
theorem y7:FnR Tryz.prog po 115 1 2 [0,2] rf [(.cell true 3 1)] true:=⟨_,_,Tryz.func115,rfl,rfl,by kernel_rfl,by kernel_rfl,by kernel_rfl,by kernel_rfl,by kernel_rfl⟩
def qB:List RS:=[(.ops [(.i (.v 2) (.box 3 (.v 0))),(.i (.v 3) (.alloc [(.int .i64 0),(.int .i64 0),.nils]))]),(.ops [(.i .l (.fad 0 (.v 2))),(.i .l (.load false 1 (.l 0))),(.i .l (.mv (.v 1))),(.i .l (.bin (.int .i64) .neq (.l 1) (.l 0))),(.i .l (.call (.c (.fn 89 [] [])) [(.l 0),(.c (.int .i64 2))]))]),(.ops [(.i .l (.load true 3 (.v 2))),(.i .n (.store 3 (.v 3) (.l 0)))]),.ret]
theorem vN:FnR Tryz.prog po 91 2 4 [0,1,2,4] qB [(.cell true 3 3)] true:=⟨_,_,Tryz.func91,rfl,rfl,by kernel_rfl,by kernel_rfl,by kernel_rfl,by kernel_rfl,by kernel_rfl⟩
def nd:List RS:=[(.ops [(.i (.v 1) (.box 3 (.v 0))),(.i (.v 2) (.alloc [(.int .i64 0),(.int .i64 0),.nils]))]),(.ops [(.i .l (.load true 3 (.v 1))),(.i .l (.call (.c (.fn 47 [] [])) [(.l 0)])),(.i .l (.bin (.int .i64) .neq (.l 0) (.c (.int .i64 0)))),(.i .l (.call (.c (.fn 89 [] [])) [(.l 0),(.c (.int .i64 3))]))]),(.ops [(.i .l (.load true 3 (.v 1))),(.i .n (.store 3 (.v 2) (.l 0)))]),.ret]
theorem tJ:FnR Tryz.prog po 116 1 3 [0,1,2] nd [(.cell true 3 2)] true:=⟨_,_,Tryz.func116,rfl,rfl,by kernel_rfl,by kernel_rfl,by kernel_rfl,by kernel_rfl,by kernel_rfl⟩
def d8:List RS:=[(.ops [(.i (.v 3) (.mv (.c (.int .i64 0))))]),(.ops [(.i (.v 4) (.mv (.c (.bool false))))]),(.ops [(.i (.v 5) (.mv (.v 0)))]),(.block 0 [(.ops [(.i .l (.bin (.int .i64) .eql (.v 5) (.c (.int .i64 1)))),(.i (.v 6) (.mv (.l 0)))]),(.cond (.v 6) [(.ops [(.i .l (.mv (.v 1))),(.i .l (.mv (.v 2))),(.i .l (.bin (.int .i64) .add (.l 1) (.l 0))),(.i (.v 3) (.mv (.l 0)))]),.ret] [(.ops [(.i .l (.bin (.int .i64) .eql (.v 5) (.c (.int .i64 2)))),(.i (.v 7) (.mv (.l 0)))]),(.cond (.v 7) [(.ops [(.i .l (.mv (.v 1))),(.i .l (.mv (.v 2))),(.i .l (.bin (.int .i64) .sub (.l 1) (.l 0))),(.i (.v 3) (.mv (.l 0)))]),.ret] [(.ops [(.i .l (.bin (.int .i64) .eql (.v 5) (.c (.int .i64 3)))),(.i (.v 8) (.mv (.l 0)))]),(.cond (.v 8) [(.ops [(.i .l (.mv (.v 1))),(.i .l (.mv (.v 2))),(.i .l (.bin (.int .i64) .mul (.l 1) (.l 0))),(.i (.v 3) (.mv (.l 0)))]),.ret] [(.ops [(.i .l (.bin (.int .i64) .eql (.v 5) (.c (.int .i64 4)))),(.i (.v 9) (.mv (.l 0)))]),(.cond (.v 9) [(.ops [(.i .l (.mv (.v 1))),(.i .l (.mv (.v 2))),(.i .l (.bin (.int .i64) .lss (.l 1) (.l 0))),(.i (.v 4) (.mv (.l 0)))])] [(.ops [(.i .l (.bin (.int .i64) .eql (.v 5) (.c (.int .i64 5)))),(.i (.v 10) (.mv (.l 0)))]),(.cond (.v 10) [(.ops [(.i .l (.mv (.v 1))),(.i .l (.mv (.v 2))),(.i .l (.bin (.int .i64) .eql (.l 1) (.l 0))),(.i (.v 4) (.mv (.l 0)))])] [])])])])])]),(.ops [(.i (.v 11) (.mv (.v 4)))]),(.cond (.v 11) [(.ops [(.i (.v 3) (.mv (.c (.int .i64 1))))]),.ret] []),(.ops [(.i (.v 3) (.mv (.c (.int .i64 0))))]),.ret]
theorem eW:FnR Tryz.prog po 42 3 12 [0,1,2,6,7,8,9,14,19,24,29,34] d8 [(.v 3)] true:=⟨_,_,Tryz.func42,rfl,rfl,by kernel_rfl,by kernel_rfl,by kernel_rfl,by kernel_rfl,by kernel_rfl⟩
def vt:List RS:=[(.ops [(.i (.v 3) (.box 3 (.v 1))),(.i (.v 4) (.mv (.c (.int .i64 0)))),(.i (.v 5) (.alloc [(.int .i64 0),(.int .i64 0),(.int .i64 0),(.int .i64 0),(.int .i64 0),(.int .i64 0)]))]),(.ops [(.i .l (.fad 1 (.v 3))),(.i .l (.load false 1 (.l 0))),(.i (.v 6) (.mv (.l 0)))]),(.ops [(.i .l (.mv (.v 0))),(.i .l (.nilc (.l 0))),(.i .l (.fad 0 (.l 0))),(.i .l (.load false 1 (.l 0))),(.i .l (.nilc (.l 0))),(.i .l (.fad 0 (.l 0))),(.i .l (.load false 1 (.l 0))),(.i .l (.mv (.v 6))),(.i .l (.call (.c (.fn 145 [] [])) [(.l 1),(.l 0)])),(.i .l (.mv (.v 2))),(.i .l (.call (.c (.fn 144 [] [])) [(.l 1),(.l 0)])),(.i .l (.un .not (.l 0))),(.i .l (.call (.c (.fn 89 [] [])) [(.l 0),(.c (.int .i64 9))]))]),(.ops [(.i .l (.mv (.v 0))),(.i .l (.nilc (.l 0))),(.i .l (.fad 0 (.l 0))),(.i .l (.load false 1 (.l 0))),(.i .l (.nilc (.l 0))),(.i .l (.fad 0 (.l 0))),(.i .l (.load false 1 (.l 0))),(.i .l (.mv (.v 6))),(.i .l (.call (.c (.fn 162 [] [])) [(.l 1),(.l 0)])),(.i .l (.mv (.l 0))),(.i .l (.ext (.l 0) 0)),(.i .l (.ext (.l 1) 1)),(.i (.v 7) (.alloc [(.int .i64 0),(.int .i64 0),(.int .i64 0),(.int .i64 0),(.int .i64 0),(.int .i64 0)])),(.i .n (.store 6 (.v 7) (.l 1))),(.i .l (.mv (.l 0)))]),(.ops [(.i .l (.mv (.v 6))),(.i .l (.load true 6 (.v 7))),(.i (.v 4) (.mv (.l 1))),(.i .n (.store 6 (.v 5) (.l 0)))]),.ret]
theorem BA:FnR Tryz.prog po 147 3 8 [0,1,2,4,6,7,8,9] vt [(.v 4),(.cell true 6 5)] true:=⟨_,_,Tryz.func147,rfl,rfl,by kernel_rfl,by kernel_rfl,by kernel_rfl,by kernel_rfl,by kernel_rfl⟩
def kA:List RS:=[(.ops [(.i (.v 2) (.box 3 (.v 1)))]),(.ops [(.i .l (.mv (.v 0))),(.i .l (.load true 3 (.v 2))),(.i .l (.call (.c (.fn 91 [] [])) [(.l 0),(.c (.int .i64 4))])),(.i .l (.call (.c (.fn 147 [] [])) [(.l 2),(.l 0),(.c (.int .i64 1))])),(.i .l (.mv (.l 0))),(.i .l (.ext (.l 0) 0)),(.i .l (.ext (.l 1) 1)),(.i (.v 4) (.alloc [(.int .i64 0),(.int .i64 0),(.int .i64 0),(.int .i64 0),(.int .i64 0),(.int .i64 0)])),(.i (.v 3) (.mv (.l 1))),(.i .n (.store 6 (.v 4) (.l 0)))]),(.ops [(.i .l (.fad 4 (.v 4))),(.i .l (.load false 1 (.l 0))),(.i .l (.bin (.int .i64) .geq (.l 0) (.c (.int .i64 0)))),(.i .l (.call (.c (.fn 89 [] [])) [(.l 0),(.c (.int .i64 2))]))]),(.ops [(.i .l (.mv (.v 0))),(.i .l (.nilc (.l 0))),(.i .l (.fad 0 (.l 0))),(.i .l (.load false 1 (.l 0))),(.i .l (.nilc (.l 0))),(.i .l (.fad 1 (.l 0))),(.i .l (.load false 1 (.l 0))),(.i .l (.mv (.v 0))),(.i .l (.fad 3 (.v 4))),(.i .l (.load false 1 (.l 0))),(.i .l (.mv (.v 3))),(.i .l (.call (.c (.fn 88 [] [])) [(.l 3)])),(.ck [⟨none,false,1,(.l 9),(.l 8)⟩,⟨none,false,1,(.l 6),(.l 5)⟩,⟨none,false,1,(.l 3),(.l 2)⟩]),(.i .l (.nilc (.l 0))),(.i .l (.fad 0 (.l 0))),(.i .l (.load false 1 (.l 0))),(.i .l (.call (.c (.fn 148 [] [])) [(.l 8),(.l 0),(.l 5),(.l 4)])),(.i .l (.mv (.l 0))),(.i .l (.ext (.l 0) 0)),(.i .l (.ext (.l 1) 1)),(.i (.v 5) (.mv (.l 1))),(.i .l (.mv (.l 0)))]),(.ops [(.i .l (.mv (.v 0))),(.i .l (.mv (.v 5))),(.i .l (.call (.c (.fn 115 [] [])) [(.l 0)])),(.i .l (.call (.c (.fn 114 [] [])) [(.l 2),(.l 0)]))])]
theorem mR:FnR Tryz.prog po 129 2 6 [0,1,3,4,5,6] kA [] false:=⟨_,_,Tryz.func129,rfl,rfl,by kernel_rfl,by kernel_rfl,by kernel_rfl,by kernel_rfl,by kernel_rfl⟩
def gV:List RS:=[(.ops [(.i (.v 3) (.box 3 (.v 1))),(.i (.v 4) (.box 3 (.v 2)))]),(.ops [(.i .l (.load true 3 (.v 3))),(.i .l (.call (.c (.fn 91 [] [])) [(.l 0),(.c (.int .i64 4))]))]),(.ops [(.i .l (.load true 3 (.v 4))),(.i .l (.call (.c (.fn 91 [] [])) [(.l 0),(.c (.int .i64 1))]))]),(.ops [(.i .l (.mv (.v 0))),(.i .l (.load true 3 (.v 3))),(.i .l (.call (.c (.fn 147 [] [])) [(.l 1),(.l 0),(.c (.int .i64 2))])),(.i .l (.mv (.l 0))),(.i .l (.ext (.l 0) 0)),(.i .l (.ext (.l 1) 1)),(.i (.v 6) (.alloc [(.int .i64 0),(.int .i64 0),(.int .i64 0),(.int .i64 0),(.int .i64 0),(.int .i64 0)])),(.i (.v 5) (.mv (.l 1))),(.i .n (.store 6 (.v 6) (.l 0)))]),(.ops [(.i .l (.fad 4 (.v 6))),(.i .l (.load false 1 (.l 0))),(.i .l (.bin (.int .i64) .geq (.l 0) (.c (.int .i64 0)))),(.i .l (.call (.c (.fn 89 [] [])) [(.l 0),(.c (.int .i64 2))]))]),(.ops [(.i .l (.mv (.v 0))),(.i .l (.nilc (.l 0))),(.i .l (.fad 0 (.l 0))),(.i .l (.load false 1 (.l 0))),(.i .l (.nilc (.l 0))),(.i .l (.fad 1 (.l 0))),(.i .l (.load false 1 (.l 0))),(.i .l (.mv (.v 0))),(.i .l (.fad 3 (.v 6))),(.i .l (.load false 1 (.l 0))),(.i .l (.mv (.v 5))),(.i .l (.fad 1 (.v 4))),(.i .l (.load false 1 (.l 0))),(.i .l (.call (.c (.fn 88 [] [])) [(.l 5)])),(.ck [⟨none,false,1,(.l 11),(.l 10)⟩,⟨none,false,1,(.l 8),(.l 7)⟩,⟨none,false,1,(.l 5),(.l 4)⟩,⟨none,false,1,(.l 2),(.l 1)⟩]),(.i .l (.nilc (.l 0))),(.i .l (.fad 0 (.l 0))),(.i .l (.load false 1 (.l 0))),(.i .l (.call (.c (.fn 149 [] [])) [(.l 10),(.l 0),(.l 7),(.l 6),(.l 4)]))]),(.ops [(.i .l (.mv (.v 0))),(.i .l (.load true 3 (.v 4))),(.i .l (.call (.c (.fn 114 [] [])) [(.l 1),(.l 0)]))])]
theorem i9:FnR Tryz.prog po 130 3 7 [0,1,2,4,5,6,7] gV [] false:=⟨_,_,Tryz.func130,rfl,rfl,by kernel_rfl,by kernel_rfl,by kernel_rfl,by kernel_rfl,by kernel_rfl⟩
def kz:List RS:=[(.ops [(.i (.v 4) (.box 3 (.v 1))),(.i (.v 5) (.alloc [(.int .i64 0),(.int .i64 0),.nils]))]),(.ops [(.i .l (.mv (.v 0))),(.i .l (.nilc (.l 0))),(.i .l (.fad 0 (.l 0))),(.i .l (.load false 1 (.l 0))),(.i .l (.nilc (.l 0))),(.i .l (.fad 0 (.l 0))),(.i .l (.load false 1 (.l 0))),(.i .l (.fad 1 (.v 4))),(.i .l (.load false 1 (.l 0))),(.i .l (.mv (.v 2))),(.i .l (.mv (.v 3))),(.i .l (.call (.c (.fn 84 [] [])) [(.l 4),(.l 2),(.l 1),(.l 0)])),(.i .l (.mv (.l 0))),(.i .l (.ext (.l 0) 0)),(.i .l (.ext (.l 1) 1)),(.i (.v 6) (.mv (.l 1))),(.i (.v 7) (.mv (.l 0)))]),(.ops [(.i .l (.mv (.v 7))),(.i .l (.bin (.int .i64) .neq (.l 0) (.c (.int .i64 0)))),(.i .l (.mv (.v 7))),(.i .l (.call (.c (.fn 89 [] [])) [(.l 1),(.l 0)]))]),(.ops [(.i .l (.mv (.v 6))),(.i .l (.build [(.int .i64 0),(.int .i64 0),.nils] [(0,1),(1,1),(2,1)] [(0,(.c (.int .i64 4))),(1,(.l 0))])),(.i .n (.store 3 (.v 5) (.l 0)))]),.ret]
theorem ow:FnR Tryz.prog po 131 4 8 [0,1,2,3,5,8,9,10] kz [(.cell true 3 5)] false:=⟨_,_,Tryz.func131,rfl,rfl,by kernel_rfl,by kernel_rfl,by kernel_rfl,by kernel_rfl,by kernel_rfl⟩
def kE:List RS:=[(.ops [(.i (.v 2) (.box 3 (.v 1)))]),(.ops [(.i .l (.load true 3 (.v 2))),(.i .l (.call (.c (.fn 91 [] [])) [(.l 0),(.c (.int .i64 4))]))]),(.ops [(.i .l (.mv (.v 0))),(.i .l (.nilc (.l 0))),(.i .l (.fad 0 (.l 0))),(.i .l (.load false 1 (.l 0))),(.i .l (.nilc (.l 0))),(.i .l (.fad 0 (.l 0))),(.i .l (.load false 1 (.l 0))),(.i .l (.call (.c (.fn 63 [] [])) [(.l 0)])),(.i .l (.mv (.l 0))),(.i .l (.ext (.l 0) 0)),(.i .l (.ext (.l 1) 1)),(.i (.v 3) (.mv (.l 1))),(.i (.v 4) (.mv (.l 0)))]),(.ops [(.i .l (.mv (.v 4))),(.i .l (.bin (.int .i64) .neq (.l 0) (.c (.int .i64 0)))),(.i .l (.mv (.v 4))),(.i .l (.call (.c (.fn 89 [] [])) [(.l 1),(.l 0)]))]),(.ops [(.i .l (.mv (.v 0))),(.i .l (.load true 3 (.v 2))),(.i .l (.mv (.v 3))),(.i .l (.call (.c (.fn 131 [] [])) [(.l 2),(.l 1),(.c (.int .i64 15)),(.l 0)])),(.i (.v 5) (.alloc [(.int .i64 0),(.int .i64 0),.nils])),(.i .n (.store 3 (.v 5) (.l 0)))]),(.ops [(.i .l (.mv (.v 0))),(.i .l (.load true 3 (.v 5))),(.i .l (.mv (.v 3))),(.i .l (.build [(.int .i64 0),(.int .i64 0),.nils] [(0,1),(1,1),(2,1)] [(0,(.c (.int .i64 5))),(1,(.l 0))])),(.i .l (.bsl false 35 [(.int .i64 0),(.int .i64 0),.nils] 3 2 [(0,(.l 2)),(1,(.l 0))])),(.i .l (.build [(.int .i64 0),(.int .i64 0),.nils] [(0,1),(1,1),(2,1)] [(0,(.c (.int .i64 2))),(2,(.l 0))])),(.i .l (.call (.c (.fn 114 [] [])) [(.l 5),(.l 0)]))])]
theorem mT:FnR Tryz.prog po 132 2 6 [0,1,3,4,5,6] kE [] false:=⟨_,_,Tryz.func132,rfl,rfl,by kernel_rfl,by kernel_rfl,by kernel_rfl,by kernel_rfl,by kernel_rfl⟩
def qr:List RS:=[(.ops [(.i (.v 2) (.box 10 (.v 1)))]),(.ops [(.i .l (.mv (.v 0))),(.i .l (.nilc (.l 0))),(.i .l (.fad 1 (.l 0))),(.i .l (.load false 1 (.l 0))),(.i .l (.len false (some 126) (.l 0))),(.i .l (.bin (.int .i64) .eql (.l 0) (.c (.int .i64 20)))),(.i .l (.call (.c (.fn 89 [] [])) [(.l 0),(.c (.int .i64 4))]))]),(.ops [(.i .l (.mv (.v 0))),(.i .l (.mv (.v 0))),(.i .l (.nilc (.l 0))),(.i .l (.fad 1 (.l 0))),(.i .l (.load false 1 (.l 0))),(.i .l (.load true 10 (.v 2))),(.i .l (.bsl true 126 [(.int .i64 0),(.int .i64 0),(.int .i64 0),(.int .i64 0),(.int .i64 0),.nils,.nils,.nils,(.bool false),.nils] 10 1 [(0,(.l 0))])),(.ck [⟨none,false,1,(.l 3),(.l 2)⟩]),(.i .l (.app true 126 (.l 2) (.l 0))),(.i .l (.nilc (.l 7))),(.i .l (.fad 1 (.l 0))),(.i .n (.store 1 (.l 0) (.l 2)))])]
theorem xX:FnR Tryz.prog po 133 2 3 [0,1,3] qr [] false:=⟨_,_,Tryz.func133,rfl,rfl,by kernel_rfl,by kernel_rfl,by kernel_rfl,by kernel_rfl,by kernel_rfl⟩
def gF:List RS:=[(.ops [(.i (.v 3) (.box 3 (.v 1))),(.i (.v 4) (.box 3 (.v 2)))]),(.ops [(.i .l (.mv (.v 0))),(.i .l (.load true 3 (.v 3))),(.i .l (.call (.c (.fn 91 [] [])) [(.l 0),(.c (.int .i64 4))])),(.i .l (.call (.c (.fn 147 [] [])) [(.l 2),(.l 0),(.c (.int .i64 8))])),(.i .l (.mv (.l 0))),(.i .l (.ext (.l 0) 0)),(.i .l (.ext (.l 1) 1)),(.i (.v 6) (.alloc [(.int .i64 0),(.int .i64 0),(.int .i64 0),(.int .i64 0),(.int .i64 0),(.int .i64 0)])),(.i (.v 5) (.mv (.l 1))),(.i .n (.store 6 (.v 6) (.l 0)))]),(.ops [(.i .l (.fad 4 (.v 6))),(.i .l (.load false 1 (.l 0))),(.i .l (.bin (.int .i64) .lss (.l 0) (.c (.int .i64 0)))),(.i .l (.call (.c (.fn 89 [] [])) [(.l 0),(.c (.int .i64 2))]))]),(.ops [(.i .l (.mv (.v 0))),(.i .l (.nilc (.l 0))),(.i .l (.fad 0 (.l 0))),(.i .l (.load false 1 (.l 0))),(.i .l (.fad 4 (.v 6))),(.i .l (.load false 1 (.l 0))),(.i .l (.nilc (.l 2))),(.i .l (.fad 2 (.l 0))),(.i .l (.ixa none (some (4,5)) (.l 0) (.l 2))),(.i .l (.load true 5 (.l 0))),(.i (.v 7) (.alloc [(.bool false),.nils,(.int .i64 0),(.int .i64 0),.nils])),(.ck [⟨none,false,1,(.l 7),(.l 6)⟩,⟨none,false,1,(.l 5),(.l 4)⟩,⟨none,true,5,(.l 1),(.l 0)⟩]),(.i .n (.store 5 (.v 7) (.l 0)))]),(.ops [(.i .l (.fad 0 (.v 7))),(.i .l (.load false 1 (.l 0))),(.i .l (.un .not (.l 0))),(.i .l (.mv (.l 0))),(.g (.l 0) false .l (.fad 5 (.v 6))),(.g (.l 1) false .l (.load false 1 (.l 0))),(.g (.l 2) false .l (.fad 1 (.v 7))),(.g (.l 3) false .l (.load false 1 (.l 0))),(.g (.l 4) false .l (.len false (some 174) (.l 0))),(.g (.l 5) false .l (.bin (.int .i64) .geq (.l 3) (.l 0))),(.i .l (.pick (.l 6) (.c (.bool true)) (.l 0))),(.i .l (.call (.c (.fn 89 [] [])) [(.l 0),(.c (.int .i64 8))]))]),(.ops [(.i .l (.mv (.v 0))),(.i .l (.nilc (.l 0))),(.i .l (.fad 1 (.l 0))),(.i .l (.load false 1 (.l 0))),(.i .l (.len false (some 126) (.l 0))),(.i .l (.bin (.int .i64) .eql (.l 0) (.c (.int .i64 20)))),(.i .l (.call (.c (.fn 89 [] [])) [(.l 0),(.c (.int .i64 4))]))]),(.ops [(.i .l (.mv (.v 0))),(.i .l (.nilc (.l 0))),(.i .l (.fad 0 (.l 0))),(.i .l (.load false 1 (.l 0))),(.i .l (.nilc (.l 0))),(.i .l (.fad 0 (.l 0))),(.i .l (.load false 1 (.l 0))),(.i .l (.mv (.v 5))),(.i .l (.call (.c (.fn 150 [] [])) [(.l 1),(.l 0)])),(.i (.v 8) (.mv (.l 0)))]),(.ops [(.i .l (.mv (.v 0))),(.i .l (.nilc (.l 0))),(.i .l (.fad 0 (.l 0))),(.i .l (.load false 1 (.l 0))),(.i .l (.nilc (.l 0))),(.i .l (.fad 0 (.l 0))),(.i .l (.load false 1 (.l 0))),(.i .l (.load true 3 (.v 4))),(.i .l (.mv (.v 8))),(.i .l (.call (.c (.fn 113 [] [])) [(.l 2),(.l 1),(.l 0)])),(.i .l (.mv (.l 0))),(.i .l (.ext (.l 0) 0)),(.i .l (.ext (.l 1) 1)),(.i (.v 9) (.alloc [(.int .i64 0),(.int .i64 0),.nils])),(.ck [⟨none,false,1,(.l 10),(.l 9)⟩,⟨none,false,1,(.l 7),(.l 6)⟩,⟨none,true,3,(.v 4),(.l 5)⟩]),(.i .n (.store 3 (.v 9) (.l 1))),(.i (.v 10) (.mv (.l 0)))]),(.ops [(.i .l (.mv (.v 10))),(.i .l (.bin (.int .i64) .neq (.l 0) (.c (.int .i64 0)))),(.i .l (.mv (.v 10))),(.i .l (.call (.c (.fn 89 [] [])) [(.l 1),(.l 0)]))]),(.ops [(.i .l (.mv (.v 0))),(.i .l (.fad 4 (.v 6))),(.i .l (.load false 1 (.l 0))),(.i .l (.fad 5 (.v 6))),(.i .l (.load false 1 (.l 0))),(.i .l (.load true 3 (.v 9))),(.i .l (.mv (.v 8))),(.i .l (.build [(.int .i64 0),(.int .i64 0),(.int .i64 0),(.int .i64 0),(.int .i64 0),.nils,.nils,.nils,(.bool false),.nils] [(0,1),(1,1),(2,1),(3,3),(6,1),(7,1),(8,1),(9,1)] [(0,(.l 4)),(1,(.l 2)),(3,(.l 1)),(6,(.c (.bool true))),(7,(.l 0))])),(.i .l (.call (.c (.fn 133 [] [])) [(.l 7),(.l 0)]))])]
theorem iM:FnR Tryz.prog po 134 3 11 [0,1,2,4,5,6,7,8,9,10,11] gF [] false:=⟨_,_,Tryz.func134,rfl,rfl,by kernel_rfl,by kernel_rfl,by kernel_rfl,by kernel_rfl,by kernel_rfl⟩
def qC:List RS:=[(.ops [(.i .l (.mv (.v 0))),(.i .l (.call (.c (.fn 90 [] [])) [(.l 0)])),(.i .l (.call (.c (.fn 91 [] [])) [(.l 0),(.c (.int .i64 2))])),(.i (.v 2) (.alloc [(.int .i64 0),(.int .i64 0),.nils])),(.i .n (.store 3 (.v 2) (.l 0)))]),(.ops [(.i .l (.mv (.v 0))),(.i .l (.fad 2 (.v 2))),(.i .l (.load false 1 (.l 0))),(.i .l (.mv (.v 1))),(.i .l (.ixa (some 35) none (.l 1) (.l 0))),(.i .l (.load true 3 (.l 0))),(.i .l (.call (.c (.fn 114 [] [])) [(.l 5),(.l 0)]))])]
theorem xb:FnR Tryz.prog po 117 2 3 [0,1,4] qC [] false:=⟨_,_,Tryz.func117,rfl,rfl,by kernel_rfl,by kernel_rfl,by kernel_rfl,by kernel_rfl,by kernel_rfl⟩
def bT:List RS:=[(.ops [(.i (.v 2) (.box 3 (.v 1)))]),(.ops [(.i .l (.mv (.v 0))),(.i .l (.call (.c (.fn 88 [] [])) [(.l 0)])),(.i (.v 3) (.mv (.l 0)))]),(.ops [(.i .l (.fad 0 (.v 2))),(.i (.v 10) (.load false 1 (.l 0)))]),(.block 0 [(.ops [(.i .l (.bin (.int .i64) .eql (.v 10) (.c (.int .i64 1)))),(.i (.v 11) (.mv (.l 0)))]),(.cond (.v 11) [(.ops [(.i .l (.mv (.v 0))),(.i .l (.build [(.int .i64 0),(.int .i64 0),.nils] [(0,1),(1,1),(2,1)] [])),(.i .l (.call (.c (.fn 114 [] [])) [(.l 1),(.l 0)]))])] [(.ops [(.i .l (.bin (.int .i64) .eql (.v 10) (.c (.int .i64 2)))),(.i (.v 12) (.mv (.l 0)))]),(.cond (.v 12) [(.ops [(.i .l (.mv (.v 0))),(.i .l (.fad 2 (.v 2))),(.i .l (.load false 1 (.l 0))),(.i .l (.call (.c (.fn 115 [] [])) [(.l 0)])),(.i .l (.call (.c (.fn 114 [] [])) [(.l 3),(.l 0)]))])] [(.ops [(.i .l (.bin (.int .i64) .eql (.v 10) (.c (.int .i64 3)))),(.i (.v 13) (.mv (.l 0)))]),(.cond (.v 13) [(.ops [(.i .l (.mv (.v 0))),(.i .l (.mv (.v 3))),(.i .l (.nilc (.l 0))),(.i .l (.fad 3 (.l 0))),(.i .l (.load true 3 (.l 0))),(.i .l (.call (.c (.fn 114 [] [])) [(.l 4),(.l 0)]))])] [(.ops [(.i .l (.bin (.int .i64) .eql (.v 10) (.c (.int .i64 4)))),(.i (.v 14) (.mv (.l 0)))]),(.cond (.v 14) [(.ops [(.i .l (.mv (.v 0))),(.i .l (.mv (.v 3))),(.i .l (.nilc (.l 0))),(.i .l (.fad 7 (.l 0))),(.i .l (.load false 1 (.l 0))),(.i .l (.mv (.v 3))),(.i .l (.nilc (.l 0))),(.i .l (.fad 7 (.l 0))),(.i .l (.load false 1 (.l 0))),(.i .l (.len false (some 35) (.l 0))),(.i .l (.bin (.int .i64) .sub (.l 0) (.c (.int .i64 1)))),(.i .l (.fad 1 (.v 2))),(.i .l (.load false 1 (.l 0))),(.i .l (.bin (.int .i64) .sub (.l 2) (.l 0))),(.i .l (.ixa (some 35) none (.l 9) (.l 0))),(.i .l (.load true 3 (.l 0))),(.i .l (.call (.c (.fn 114 [] [])) [(.l 15),(.l 0)]))])] [(.ops [(.i .l (.bin (.int .i64) .eql (.v 10) (.c (.int .i64 6)))),(.i (.v 15) (.mv (.l 0)))]),(.cond (.v 15) [(.ops [(.i .l (.mv (.v 0))),(.i .l (.call (.c (.fn 90 [] [])) [(.l 0)])),(.i .l (.mv (.v 0))),(.i .l (.call (.c (.fn 90 [] [])) [(.l 0)])),(.i (.v 4) (.alloc [(.int .i64 0),(.int .i64 0),.nils])),(.i (.v 5) (.alloc [(.int .i64 0),(.int .i64 0),.nils])),(.i .n (.store 3 (.v 4) (.l 2))),(.i .n (.store 3 (.v 5) (.l 0)))]),(.ops [(.i .l (.load true 3 (.v 5))),(.i .l (.call (.c (.fn 91 [] [])) [(.l 0),(.c (.int .i64 1))]))]),(.ops [(.i .l (.load true 3 (.v 4))),(.i .l (.call (.c (.fn 91 [] [])) [(.l 0),(.c (.int .i64 1))]))]),(.ops [(.i .l (.mv (.v 0))),(.i .l (.fad 1 (.v 2))),(.i .l (.load false 1 (.l 0))),(.i .l (.fad 1 (.v 5))),(.i .l (.load false 1 (.l 0))),(.i .l (.fad 1 (.v 4))),(.i .l (.load false 1 (.l 0))),(.i .l (.call (.c (.fn 42 [] [])) [(.l 4),(.l 2),(.l 0)])),(.i .l (.call (.c (.fn 115 [] [])) [(.l 0)])),(.i .l (.call (.c (.fn 114 [] [])) [(.l 8),(.l 0)]))])] [(.ops [(.i .l (.bin (.int .i64) .eql (.v 10) (.c (.int .i64 8)))),(.i (.v 16) (.mv (.l 0)))]),(.cond (.v 16) [(.ops [(.i .l (.mv (.v 0))),(.i .l (.call (.c (.fn 90 [] [])) [(.l 0)])),(.i .l (.mv (.v 0))),(.i .l (.call (.c (.fn 90 [] [])) [(.l 0)])),(.i (.v 6) (.alloc [(.int .i64 0),(.int .i64 0),.nils])),(.i (.v 7) (.alloc [(.int .i64 0),(.int .i64 0),.nils])),(.i .n (.store 3 (.v 6) (.l 2))),(.i .n (.store 3 (.v 7) (.l 0)))]),(.ops [(.i .l (.mv (.v 0))),(.i .l (.load true 3 (.v 7))),(.i .l (.load true 3 (.v 6))),(.i .l (.bsl false 35 [(.int .i64 0),(.int .i64 0),.nils] 3 2 [(0,(.l 1)),(1,(.l 0))])),(.i .l (.build [(.int .i64 0),(.int .i64 0),.nils] [(0,1),(1,1),(2,1)] [(0,(.c (.int .i64 2))),(2,(.l 0))])),(.i .l (.call (.c (.fn 116 [] [])) [(.l 0)])),(.i .l (.call (.c (.fn 114 [] [])) [(.l 5),(.l 0)]))])] [(.ops [(.i .l (.bin (.int .i64) .eql (.v 10) (.c (.int .i64 9)))),(.i (.v 17) (.mv (.l 0)))]),(.cond (.v 17) [(.ops [(.i .l (.mv (.v 0))),(.i .l (.call (.c (.fn 117 [] [])) [(.l 0),(.c (.int .i64 0))]))])] [(.ops [(.i .l (.bin (.int .i64) .eql (.v 10) (.c (.int .i64 10)))),(.i (.v 18) (.mv (.l 0)))]),(.cond (.v 18) [(.ops [(.i .l (.mv (.v 0))),(.i .l (.call (.c (.fn 117 [] [])) [(.l 0),(.c (.int .i64 1))]))])] [(.ops [(.i .l (.bin (.int .i64) .eql (.v 10) (.c (.int .i64 11)))),(.i (.v 19) (.mv (.l 0)))]),(.cond (.v 19) [(.ops [(.i .l (.mv (.v 0))),(.i .l (.call (.c (.fn 90 [] [])) [(.l 0)])),(.i (.v 8) (.alloc [(.int .i64 0),(.int .i64 0),.nils])),(.i .n (.store 3 (.v 8) (.l 0)))]),(.ops [(.i .l (.mv (.v 0))),(.i .l (.mv (.v 3))),(.i .l (.nilc (.l 0))),(.i .l (.fad 0 (.l 0))),(.i .l (.load false 1 (.l 0))),(.i .l (.load true 3 (.v 8))),(.i .l (.bsl false 35 [(.int .i64 0),(.int .i64 0),.nils] 3 1 [(0,(.l 0))])),(.ck [⟨none,false,1,(.l 3),(.l 2)⟩]),(.i .l (.build [(.int .i64 0),(.int .i64 0),.nils] [(0,1),(1,1),(2,1)] [(0,(.c (.int .i64 3))),(1,(.l 2)),(2,(.l 0))])),(.i .l (.call (.c (.fn 116 [] [])) [(.l 0)])),(.i .l (.call (.c (.fn 114 [] [])) [(.l 8),(.l 0)]))])] [(.ops [(.i .l (.bin (.int .i64) .eql (.v 10) (.c (.int .i64 12)))),(.i (.v 20) (.mv (.l 0)))]),(.cond (.v 20) [(.ops [(.i .l (.mv (.v 0))),(.i .l (.call (.c (.fn 90 [] [])) [(.l 0)])),(.i .l (.call (.c (.fn 91 [] [])) [(.l 0),(.c (.int .i64 3))])),(.i (.v 9) (.alloc [(.int .i64 0),(.int .i64 0),.nils])),(.i .n (.store 3 (.v 9) (.l 0)))]),(.ops [(.i .l (.fad 1 (.v 9))),(.i .l (.load false 1 (.l 0))),(.i .l (.mv (.v 3))),(.i .l (.nilc (.l 0))),(.i .l (.fad 0 (.l 0))),(.i .l (.load false 1 (.l 0))),(.i .l (.bin (.int .i64) .neq (.l 4) (.l 0))),(.i .l (.call (.c (.fn 89 [] [])) [(.l 0),(.c (.int .i64 10))]))]),(.ops [(.i .l (.mv (.v 0))),(.i .l (.fad 2 (.v 9))),(.i .l (.load false 1 (.l 0))),(.i .l (.ixa (some 35) none (.l 0) (.c (.int .i64 0)))),(.i .l (.load true 3 (.l 0))),(.i .l (.call (.c (.fn 114 [] [])) [(.l 4),(.l 0)]))])] [(.ops [(.i .l (.mv (.v 0))),(.i .l (.load true 3 (.v 2))),(.i .l (.call (.c (.fn 118 [] [])) [(.l 1),(.l 0)]))])])])])])])])])])])])])]
theorem bY:FnR Tryz.prog po 93 2 21 [0,1,3,4,5,6,7,8,9,10,14,18,23,30,38,57,77,90,94,98,112] bT [] false:=⟨_,_,Tryz.func93,rfl,rfl,by kernel_rfl,by kernel_rfl,by kernel_rfl,by kernel_rfl,by kernel_rfl⟩
def bq:List RS:=[(.ops [(.i (.v 2) (.box 3 (.v 1)))]),(.ops [(.i .l (.mv (.v 0))),(.i .l (.call (.c (.fn 88 [] [])) [(.l 0)])),(.i (.v 3) (.mv (.l 0)))]),(.ops [(.i .l (.fad 0 (.v 2))),(.i (.v 11) (.load false 1 (.l 0)))]),(.block 0 [(.ops [(.i .l (.bin (.int .i64) .eql (.v 11) (.c (.int .i64 13)))),(.i (.v 12) (.mv (.l 0)))]),(.cond (.v 12) [(.ops [(.i .l (.mv (.v 0))),(.i .l (.mv (.v 0))),(.i .l (.call (.c (.fn 90 [] [])) [(.l 0)])),(.i .l (.call (.c (.fn 129 [] [])) [(.l 2),(.l 0)]))])] [(.ops [(.i .l (.bin (.int .i64) .eql (.v 11) (.c (.int .i64 14)))),(.i (.v 13) (.mv (.l 0)))]),(.cond (.v 13) [(.ops [(.i .l (.mv (.v 0))),(.i .l (.call (.c (.fn 90 [] [])) [(.l 0)])),(.i .l (.mv (.v 0))),(.i .l (.call (.c (.fn 90 [] [])) [(.l 0)])),(.i (.v 4) (.alloc [(.int .i64 0),(.int .i64 0),.nils])),(.i (.v 5) (.alloc [(.int .i64 0),(.int .i64 0),.nils])),(.i .n (.store 3 (.v 4) (.l 2))),(.i .n (.store 3 (.v 5) (.l 0)))]),(.ops [(.i .l (.mv (.v 0))),(.i .l (.load true 3 (.v 5))),(.i .l (.load true 3 (.v 4))),(.i .l (.call (.c (.fn 130 [] [])) [(.l 2),(.l 1),(.l 0)]))])] [(.ops [(.i .l (.bin (.int .i64) .eql (.v 11) (.c (.int .i64 15)))),(.i (.v 14) (.mv (.l 0)))]),(.cond (.v 14) [(.ops [(.i .l (.mv (.v 0))),(.i .l (.mv (.v 0))),(.i .l (.mv (.v 0))),(.i .l (.fad 1 (.v 2))),(.i .l (.load false 1 (.l 0))),(.i .l (.call (.c (.fn 90 [] [])) [(.l 2)])),(.ck [⟨none,false,1,(.l 2),(.l 1)⟩]),(.i .l (.call (.c (.fn 91 [] [])) [(.l 0),(.c (.int .i64 4))])),(.ck [⟨none,false,1,(.l 3),(.l 2)⟩]),(.i .l (.call (.c (.fn 131 [] [])) [(.l 5),(.l 0),(.l 2),(.c (.int .i64 (-1)))])),(.i .l (.call (.c (.fn 114 [] [])) [(.l 7),(.l 0)]))])] [(.ops [(.i .l (.bin (.int .i64) .eql (.v 11) (.c (.int .i64 16)))),(.i (.v 15) (.mv (.l 0)))]),(.cond (.v 15) [(.ops [(.i .l (.mv (.v 0))),(.i .l (.mv (.v 0))),(.i .l (.call (.c (.fn 90 [] [])) [(.l 0)])),(.i .l (.call (.c (.fn 132 [] [])) [(.l 2),(.l 0)]))])] [(.ops [(.i .l (.bin (.int .i64) .eql (.v 11) (.c (.int .i64 17)))),(.i (.v 16) (.mv (.l 0)))]),(.cond (.v 16) [(.ops [(.i .l (.mv (.v 0))),(.i .l (.nilc (.l 0))),(.i .l (.fad 0 (.l 0))),(.i .l (.load false 1 (.l 0))),(.i .l (.nilc (.l 0))),(.i .l (.fad 0 (.l 0))),(.i .l (.load false 1 (.l 0))),(.i .l (.mv (.v 0))),(.i .l (.call (.c (.fn 90 [] [])) [(.l 0)])),(.ck [⟨none,false,1,(.l 6),(.l 5)⟩,⟨none,false,1,(.l 3),(.l 2)⟩]),(.i .l (.call (.c (.fn 91 [] [])) [(.l 0),(.c (.int .i64 5))])),(.ck [⟨none,false,1,(.l 7),(.l 6)⟩,⟨none,false,1,(.l 4),(.l 3)⟩]),(.i .l (.fld false 1 1 (.l 0))),(.i .l (.call (.c (.fn 62 [] [])) [(.l 4),(.l 0)]))]),(.ops [(.i .l (.mv (.v 0))),(.i .l (.build [(.int .i64 0),(.int .i64 0),.nils] [(0,1),(1,1),(2,1)] [])),(.i .l (.call (.c (.fn 114 [] [])) [(.l 1),(.l 0)]))])] [(.ops [(.i .l (.bin (.int .i64) .eql (.v 11) (.c (.int .i64 18)))),(.i (.v 17) (.mv (.l 0)))]),(.cond (.v 17) [(.ops [(.i .l (.mv (.v 0))),(.i .l (.call (.c (.fn 90 [] [])) [(.l 0)])),(.i (.v 6) (.alloc [(.int .i64 0),(.int .i64 0),.nils])),(.i .n (.store 3 (.v 6) (.l 0)))]),(.ops [(.i .l (.mv (.v 0))),(.i .l (.mv (.v 3))),(.i .l (.nilc (.l 0))),(.i .l (.fad 0 (.l 0))),(.i .l (.load false 1 (.l 0))),(.i .l (.fad 1 (.v 2))),(.i .l (.load false 1 (.l 0))),(.i .l (.load true 3 (.v 6))),(.i .l (.build [(.int .i64 0),(.int .i64 0),(.int .i64 0),(.int .i64 0),(.int .i64 0),.nils,.nils,.nils,(.bool false),.nils] [(0,1),(1,1),(2,1),(3,3),(6,1),(7,1),(8,1),(9,1)] [(0,(.l 3)),(1,(.l 1)),(3,(.l 0))])),(.i .l (.call (.c (.fn 133 [] [])) [(.l 8),(.l 0)]))])] [(.ops [(.i .l (.bin (.int .i64) .eql (.v 11) (.c (.int .i64 19)))),(.i (.v 18) (.mv (.l 0)))]),(.cond (.v 18) [(.ops [(.i .l (.mv (.v 0))),(.i .l (.call (.c (.fn 90 [] [])) [(.l 0)])),(.i .l (.mv (.v 0))),(.i .l (.call (.c (.fn 90 [] [])) [(.l 0)])),(.i (.v 7) (.alloc [(.int .i64 0),(.int .i64 0),.nils])),(.i (.v 8) (.alloc [(.int .i64 0),(.int .i64 0),.nils])),(.i .n (.store 3 (.v 7) (.l 2))),(.i .n (.store 3 (.v 8) (.l 0)))]),(.ops [(.i .l (.mv (.v 0))),(.i .l (.load true 3 (.v 8))),(.i .l (.load true 3 (.v 7))),(.i .l (.call (.c (.fn 134 [] [])) [(.l 2),(.l 1),(.l 0)]))])] [(.ops [(.i .l (.bin (.int .i64) .eql (.v 11) (.c (.int .i64 20)))),(.i (.v 19) (.mv (.l 0)))]),(.cond (.v 19) [(.ops [(.i .l (.mv (.v 0))),(.i .l (.nilc (.l 0))),(.i .l (.fad 0 (.l 0))),(.i .l (.load false 1 (.l 0))),(.i .l (.mv (.v 3))),(.i .l (.nilc (.l 0))),(.i .l (.fad 0 (.l 0))),(.i .l (.load false 1 (.l 0))),(.i .l (.nilc (.l 4))),(.i .l (.fad 2 (.l 0))),(.i .l (.ixa none (some (4,5)) (.l 0) (.l 2))),(.i (.v 9) (.mv (.l 0)))]),(.ops [(.i .l (.mv (.v 9))),(.i .l (.nilc (.l 0))),(.i .l (.fad 2 (.l 0))),(.i .l (.load true 3 (.l 0))),(.i (.v 10) (.alloc [(.int .i64 0),(.int .i64 0),.nils])),(.i .n (.store 3 (.v 10) (.l 0)))]),(.ops [(.i .l (.mv (.v 9))),(.i .l (.mv (.v 0))),(.i .l (.call (.c (.fn 90 [] [])) [(.l 0)])),(.i .l (.nilc (.l 2))),(.i .l (.fad 2 (.l 0))),(.i .n (.store 3 (.l 0) (.l 2)))]),(.ops [(.i .l (.mv (.v 0))),(.i .l (.load true 3 (.v 10))),(.i .l (.call (.c (.fn 114 [] [])) [(.l 1),(.l 0)]))])] [(.ops [(.i .l (.bin (.int .i64) .eql (.v 11) (.c (.int .i64 21)))),(.i (.v 20) (.mv (.l 0)))]),(.cond (.v 20) [(.ops [(.i .l (.mv (.v 0))),(.i .l (.mv (.v 0))),(.i .l (.nilc (.l 0))),(.i .l (.fad 0 (.l 0))),(.i .l (.load false 1 (.l 0))),(.i .l (.mv (.v 3))),(.i .l (.nilc (.l 0))),(.i .l (.fad 0 (.l 0))),(.i .l (.load false 1 (.l 0))),(.i .l (.nilc (.l 4))),(.i .l (.fad 2 (.l 0))),(.i .l (.ixa none (some (4,5)) (.l 0) (.l 2))),(.i .l (.fad 2 (.l 0))),(.i .l (.load true 3 (.l 0))),(.i .l (.call (.c (.fn 114 [] [])) [(.l 13),(.l 0)]))])] [])])])])])])])])])])]
theorem bF:FnR Tryz.prog po 118 2 21 [0,1,3,4,5,6,7,8,9,10,11,15,16,22,32,43,49,66,80,90,115] bq [] false:=⟨_,_,Tryz.func118,rfl,rfl,by kernel_rfl,by kernel_rfl,by kernel_rfl,by kernel_rfl,by kernel_rfl⟩
def jm:List RS:=[(.ops [(.i (.v 1) (.alloc [(.int .i64 0),(.int .i64 0),.nils])),(.i (.v 2) (.mv (.c (.bool false))))]),(.ops [(.i .l (.mv (.v 0))),(.i .l (.call (.c (.fn 90 [] [])) [(.l 0)])),(.i (.v 3) (.alloc [(.int .i64 0),(.int .i64 0),.nils])),(.i .n (.store 3 (.v 3) (.l 0)))]),(.ops [(.i .l (.mv (.v 0))),(.i .l (.call (.c (.fn 88 [] [])) [(.l 0)])),(.i .l (.nilc (.l 0))),(.i .l (.load true 10 (.l 0))),(.i (.v 4) (.alloc [(.int .i64 0),(.int .i64 0),(.int .i64 0),(.int .i64 0),(.int .i64 0),.nils,.nils,.nils,(.bool false),.nils])),(.i .n (.store 10 (.v 4) (.l 0)))]),(.ops [(.i .l (.fad 8 (.v 4))),(.i (.v 7) (.load false 1 (.l 0)))]),(.cond (.v 7) [(.ops [(.i .l (.mv (.v 0))),(.i .l (.nilc (.l 0))),(.i .l (.fad 0 (.l 0))),(.i .l (.load false 1 (.l 0))),(.i .l (.nilc (.l 0))),(.i .l (.fad 0 (.l 0))),(.i .l (.load false 1 (.l 0))),(.i .l (.load true 3 (.v 3))),(.i .l (.fad 9 (.v 4))),(.i .l (.load false 1 (.l 0))),(.i .l (.call (.c (.fn 113 [] [])) [(.l 3),(.l 2),(.l 0)])),(.i .l (.mv (.l 0))),(.i .l (.ext (.l 0) 0)),(.i .l (.ext (.l 1) 1)),(.i (.v 5) (.alloc [(.int .i64 0),(.int .i64 0),.nils])),(.ck [⟨none,false,1,(.l 11),(.l 10)⟩,⟨none,false,1,(.l 8),(.l 7)⟩,⟨none,true,3,(.v 3),(.l 6)⟩,⟨none,false,1,(.l 5),(.l 4)⟩]),(.i .n (.store 3 (.v 5) (.l 1))),(.i (.v 6) (.mv (.l 0)))]),(.ops [(.i .l (.mv (.v 6))),(.i .l (.bin (.int .i64) .neq (.l 0) (.c (.int .i64 0)))),(.i .l (.mv (.v 6))),(.i .l (.call (.c (.fn 89 [] [])) [(.l 1),(.l 0)]))]),(.ops [(.i .l (.load true 3 (.v 5))),(.i .n (.store 3 (.v 3) (.l 0)))])] []),(.ops [(.i .l (.mv (.v 0))),(.i .l (.mv (.v 0))),(.i .l (.nilc (.l 0))),(.i .l (.fad 1 (.l 0))),(.i .l (.load false 1 (.l 0))),(.i .l (.mv (.v 0))),(.i .l (.nilc (.l 0))),(.i .l (.fad 1 (.l 0))),(.i .l (.load false 1 (.l 0))),(.i .l (.len false (some 126) (.l 0))),(.i .l (.bin (.int .i64) .sub (.l 0) (.c (.int .i64 1)))),(.i .l (.slc false (some 126) (.l 6) none (some (.l 0)))),(.i .l (.nilc (.l 11))),(.i .l (.fad 1 (.l 0))),(.i .n (.store 1 (.l 0) (.l 2)))]),(.ops [(.i .l (.mv (.v 0))),(.i .l (.nilc (.l 0))),(.i .l (.fad 1 (.l 0))),(.i .l (.load false 1 (.l 0))),(.i .l (.len false (some 126) (.l 0))),(.i (.v 8) (.bin (.int .i64) .eql (.l 0) (.c (.int .i64 0))))]),(.cond (.v 8) [(.ops [(.i .l (.load true 3 (.v 3))),(.i .n (.store 3 (.v 1) (.l 0))),(.i (.v 2) (.mv (.c (.bool true))))]),.ret] []),(.ops [(.i .l (.mv (.v 0))),(.i .l (.load true 3 (.v 3))),(.i .l (.call (.c (.fn 114 [] [])) [(.l 1),(.l 0)]))]),(.ops [(.i .l (.load true 3 (.v 3))),(.i .n (.store 3 (.v 1) (.l 0))),(.i (.v 2) (.mv (.c (.bool false))))]),.ret]
theorem kx:FnR Tryz.prog po 92 1 9 [0,2,3,4,5,6,7,15,54] jm [(.cell true 3 1),(.v 2)] false:=⟨_,_,Tryz.func92,rfl,rfl,by kernel_rfl,by kernel_rfl,by kernel_rfl,by kernel_rfl,by kernel_rfl⟩
def cO:List RS:=[(.ops [(.i (.v 1) (.alloc [(.int .i64 0),(.int .i64 0),.nils])),(.i (.v 2) (.mv (.c (.bool false))))]),(.ops [(.i .l (.mv (.v 0))),(.i .l (.call (.c (.fn 88 [] [])) [(.l 0)])),(.i (.v 3) (.mv (.l 0)))]),(.ops [(.i .l (.mv (.v 0))),(.i .l (.nilc (.l 0))),(.i .l (.fad 0 (.l 0))),(.i .l (.load false 1 (.l 0))),(.i .l (.mv (.v 3))),(.i .l (.nilc (.l 0))),(.i .l (.fad 0 (.l 0))),(.i .l (.load false 1 (.l 0))),(.i .l (.nilc (.l 4))),(.i .l (.fad 2 (.l 0))),(.i .l (.ixa none (some (4,5)) (.l 0) (.l 2))),(.i .l (.fad 1 (.l 0))),(.i .l (.load false 1 (.l 0))),(.i .l (.mv (.v 3))),(.i .l (.nilc (.l 0))),(.i .l (.fad 1 (.l 0))),(.i .l (.load false 1 (.l 0))),(.i .l (.ixa (some 174) none (.l 4) (.l 0))),(.i .l (.load false 1 (.l 0))),(.i .l (.mv (.v 3))),(.i .l (.nilc (.l 0))),(.i .l (.fad 2 (.l 0))),(.i .l (.load false 1 (.l 0))),(.i .l (.ixa (some 184) none (.l 4) (.l 0))),(.i .l (.load true 3 (.l 0))),(.i (.v 4) (.alloc [(.int .i64 0),(.int .i64 0),(.int .i64 0)])),(.ck [⟨none,false,1,(.l 22),(.l 21)⟩,⟨none,false,1,(.l 18),(.l 17)⟩,⟨none,false,1,(.l 13),(.l 12)⟩,⟨none,false,1,(.l 9),(.l 8)⟩,⟨none,false,1,(.l 7),(.l 6)⟩,⟨none,false,1,(.l 3),(.l 2)⟩,⟨none,true,3,(.l 1),(.l 0)⟩]),(.i .n (.store 3 (.v 4) (.l 0)))]),(.ops [(.i .l (.mv (.v 3))),(.i .l (.nilc (.l 0))),(.i .l (.fad 2 (.l 0))),(.i .l (.load false 1 (.l 0))),(.i .l (.bin (.int .i64) .add (.l 0) (.c (.int .i64 1)))),(.i .l (.nilc (.l 4))),(.i .l (.fad 2 (.l 0))),(.i .n (.store 1 (.l 0) (.l 2)))]),(.ops [(.i .l (.fad 0 (.v 4))),(.i (.v 6) (.load false 1 (.l 0)))]),(.block 0 [(.ops [(.i .l (.bin (.int .i64) .eql (.v 6) (.c (.int .i64 100)))),(.i (.v 7) (.mv (.l 0)))]),(.cond (.v 7) [(.ops [(.i .l (.mv (.v 0))),(.i .l (.nilc (.l 0))),(.i .l (.fad 2 (.l 0))),(.i .l (.load false 1 (.l 0))),(.i .l (.bin (.int .i64) .eql (.l 0) (.c (.int .i64 0)))),(.i .l (.call (.c (.fn 89 [] [])) [(.l 0),(.c (.int .i64 12))]))]),(.ops [(.i .l (.mv (.v 0))),(.i .l (.nilc (.l 0))),(.i .l (.fad 2 (.l 0))),(.i .l (.load false 1 (.l 0))),(.i .l (.bin (.int .i64) .sub (.l 0) (.c (.int .i64 1)))),(.i .l (.nilc (.l 4))),(.i .l (.fad 2 (.l 0))),(.i .n (.store 1 (.l 0) (.l 2)))])] [(.ops [(.i .l (.bin (.int .i64) .eql (.v 6) (.c (.int .i64 101)))),(.i (.v 8) (.mv (.l 0)))]),(.cond (.v 8) [(.ops [(.i .l (.mv (.v 0))),(.i .l (.call (.c (.fn 90 [] [])) [(.l 0)])),(.i (.v 5) (.alloc [(.int .i64 0),(.int .i64 0),.nils])),(.i .n (.store 3 (.v 5) (.l 0)))]),(.ops [(.i .l (.mv (.v 3))),(.i .l (.nilc (.l 0))),(.i .l (.fad 7 (.l 0))),(.i .l (.load false 1 (.l 0))),(.i .l (.load true 3 (.v 5))),(.i .l (.len false (some 35) (.l 1))),(.i .l (.bsl true 35 [(.int .i64 0),(.int .i64 0),.nils] 3 1 [(0,(.c (.agg [(.int .i64 0),(.int .i64 0),.nils])))])),(.ck [⟨none,false,1,(.l 4),(.l 3)⟩,⟨none,true,3,(.v 5),(.l 2)⟩]),(.i .l (.app true 35 (.l 3) (.l 0))),(.i .l (.ixa (some 35) none (.l 0) (.l 2))),(.i .l (.nilc (.l 8))),(.i .l (.fad 7 (.l 0))),(.i .n (.store 3 (.l 2) (.l 6))),(.i .n (.store 1 (.l 0) (.l 3))),(.ck [⟨none,true,3,(.l 2),(.l 6)⟩])])] [(.ops [(.i .l (.bin (.int .i64) .eql (.v 6) (.c (.int .i64 102)))),(.i (.v 9) (.mv (.l 0)))]),(.cond (.v 9) [(.ops [(.i .l (.mv (.v 3))),(.i .l (.mv (.v 3))),(.i .l (.nilc (.l 0))),(.i .l (.fad 7 (.l 0))),(.i .l (.load false 1 (.l 0))),(.i .l (.mv (.v 3))),(.i .l (.nilc (.l 0))),(.i .l (.fad 7 (.l 0))),(.i .l (.load false 1 (.l 0))),(.i .l (.len false (some 35) (.l 0))),(.i .l (.bin (.int .i64) .sub (.l 0) (.c (.int .i64 1)))),(.i .l (.slc false (some 35) (.l 6) none (some (.l 0)))),(.i .l (.nilc (.l 11))),(.i .l (.fad 7 (.l 0))),(.i .n (.store 1 (.l 0) (.l 2)))])] [(.ops [(.i .l (.bin (.int .i64) .eql (.v 6) (.c (.int .i64 103)))),(.i (.v 10) (.mv (.l 0)))]),(.cond (.v 10) [(.ops [(.i .l (.mv (.v 0))),(.i .l (.call (.c (.fn 90 [] [])) [(.l 0)])),(.i .l (.call (.c (.fn 91 [] [])) [(.l 0),(.c (.int .i64 1))])),(.i .l (.fld false 1 1 (.l 0))),(.i (.v 11) (.bin (.int .i64) .eql (.l 0) (.c (.int .i64 0))))]),(.cond (.v 11) [(.ops [(.i .l (.mv (.v 3))),(.i .l (.fad 1 (.v 4))),(.i .l (.load false 1 (.l 0))),(.i .l (.nilc (.l 2))),(.i .l (.fad 2 (.l 0))),(.i .n (.store 1 (.l 0) (.l 2)))])] [])] [(.ops [(.i .l (.bin (.int .i64) .eql (.v 6) (.c (.int .i64 104)))),(.i (.v 12) (.mv (.l 0)))]),(.cond (.v 12) [(.ops [(.i .l (.mv (.v 3))),(.i .l (.fad 1 (.v 4))),(.i .l (.load false 1 (.l 0))),(.i .l (.nilc (.l 2))),(.i .l (.fad 2 (.l 0))),(.i .n (.store 1 (.l 0) (.l 2)))])] [(.ops [(.i .l (.bin (.int .i64) .eql (.v 6) (.c (.int .i64 105)))),(.i (.v 13) (.mv (.l 0)))]),(.cond (.v 13) [(.ops [(.i .l (.mv (.v 0))),(.i .l (.call (.c (.fn 92 [] [])) [(.l 0)])),(.i .l (.ext (.l 0) 0)),(.i .l (.ext (.l 1) 1)),(.i .n (.store 3 (.v 1) (.l 1))),(.i (.v 2) (.mv (.l 0)))]),.ret] [(.ops [(.i .l (.mv (.v 0))),(.i .l (.load true 3 (.v 4))),(.i .l (.call (.c (.fn 93 [] [])) [(.l 1),(.l 0)]))])])])])])])])]),(.ops [(.i .l (.build [(.int .i64 0),(.int .i64 0),.nils] [(0,1),(1,1),(2,1)] [])),(.i .n (.store 3 (.v 1) (.l 0))),(.i (.v 2) (.mv (.c (.bool false))))]),.ret]
theorem db:FnR Tryz.prog po 50 1 14 [0,2,3,4,5,6,42,46,61,76,92,98,104,111] cO [(.cell true 3 1),(.v 2)] false:=⟨_,_,Tryz.func50,rfl,rfl,by kernel_rfl,by kernel_rfl,by kernel_rfl,by kernel_rfl,by kernel_rfl⟩
def AO:List RS:=[(.ops [(.i (.v 0) (.mv (.c .nilp)))]),(.ops [(.i .l (.build [(.int .i64 0),(.int .i64 0),(.int .i64 0),(.int .i64 0),(.int .i64 0),(.int .i64 0),(.int .i64 0),(.int .i64 0),(.int .i64 0),(.int .i64 0),(.int .i64 0),(.int .i64 0),.nils] [(0,12),(12,1)] [])),(.i .l (.box 13 (.l 0))),(.i (.v 0) (.mv (.l 0)))]),.ret]
theorem He:FnR Tryz.prog po 77 0 1 [0] AO [(.v 0)] false:=⟨_,_,Tryz.func77,rfl,rfl,by kernel_rfl,by kernel_rfl,by kernel_rfl,by kernel_rfl,by kernel_rfl⟩
def xd:List RS:=[(.ops [(.i (.v 4) (.mv (.c (.int .i64 0)))),(.i (.v 5) (.mv (.c (.bool false))))]),(.ops [(.i .l (.mv (.v 2))),(.i .l (.call (.c (.fn 96 [] [])) [(.l 0)])),(.i (.v 6) (.un .not (.l 0)))]),(.cond (.v 6) [(.ops [(.i (.v 4) (.mv (.c (.int .i64 0)))),(.i (.v 5) (.mv (.c (.bool false))))]),.ret] []),(.ops [(.i .l (.mv (.v 0))),(.i .l (.mv (.v 0))),(.i .l (.nilc (.l 0))),(.i .l (.fad 12 (.l 0))),(.i .l (.load false 1 (.l 0))),(.i .l (.mv (.v 1))),(.i .l (.mv (.v 2))),(.i .l (.mv (.v 3))),(.i .l (.build [(.int .i64 0),(.int .i64 0),(.int .i64 0),(.int .i64 0)] [(0,1),(1,1),(2,1),(3,1)] [(0,(.l 2)),(1,(.l 1)),(2,(.c (.int .i64 1))),(3,(.l 0))])),(.i .l (.bsl false 137 [(.int .i64 0),(.int .i64 0),(.int .i64 0),(.int .i64 0)] 4 1 [(0,(.l 0))])),(.i .l (.app false 137 (.l 5) (.l 0))),(.i .l (.nilc (.l 10))),(.i .l (.fad 12 (.l 0))),(.i .n (.store 1 (.l 0) (.l 2)))]),(.ops [(.i .l (.mv (.v 0))),(.i .l (.mv (.v 2))),(.i .l (.nilc (.l 1))),(.i .l (.fad 0 (.l 0))),(.i .l (.ixa none (some (12,1)) (.l 0) (.l 2))),(.i .l (.load false 1 (.l 0))),(.i (.v 4) (.mv (.l 0))),(.i (.v 5) (.mv (.c (.bool true))))]),.ret]
theorem Ev:FnR Tryz.prog po 148 4 7 [0,1,2,3,8,9,12] xd [(.v 4),(.v 5)] false:=⟨_,_,Tryz.func148,rfl,rfl,by kernel_rfl,by kernel_rfl,by kernel_rfl,by kernel_rfl,by kernel_rfl⟩
def tO:List RS:=[(.ops [(.i (.v 5) (.mv (.c (.bool false))))]),(.ops [(.i .l (.mv (.v 2))),(.i .l (.call (.c (.fn 96 [] [])) [(.l 0)])),(.i (.v 6) (.un .not (.l 0)))]),(.cond (.v 6) [(.ops [(.i (.v 5) (.mv (.c (.bool false))))]),.ret] []),(.ops [(.i .l (.mv (.v 0))),(.i .l (.mv (.v 0))),(.i .l (.nilc (.l 0))),(.i .l (.fad 12 (.l 0))),(.i .l (.load false 1 (.l 0))),(.i .l (.mv (.v 1))),(.i .l (.mv (.v 2))),(.i .l (.mv (.v 3))),(.i .l (.build [(.int .i64 0),(.int .i64 0),(.int .i64 0),(.int .i64 0)] [(0,1),(1,1),(2,1),(3,1)] [(0,(.l 2)),(1,(.l 1)),(2,(.c (.int .i64 2))),(3,(.l 0))])),(.i .l (.bsl false 137 [(.int .i64 0),(.int .i64 0),(.int .i64 0),(.int .i64 0)] 4 1 [(0,(.l 0))])),(.i .l (.app false 137 (.l 5) (.l 0))),(.i .l (.nilc (.l 10))),(.i .l (.fad 12 (.l 0))),(.i .n (.store 1 (.l 0) (.l 2)))]),(.ops [(.i .l (.mv (.v 0))),(.i .l (.mv (.v 2))),(.i .l (.mv (.v 4))),(.i .l (.nilc (.l 2))),(.i .l (.fad 0 (.l 0))),(.i .l (.ixa none (some (12,1)) (.l 0) (.l 3))),(.i .n (.store 1 (.l 0) (.l 3)))]),(.ops [(.i (.v 5) (.mv (.c (.bool true))))]),.ret]
theorem Cz:FnR Tryz.prog po 149 5 7 [0,1,2,3,4,10,13] tO [(.v 5)] false:=⟨_,_,Tryz.func149,rfl,rfl,by kernel_rfl,by kernel_rfl,by kernel_rfl,by kernel_rfl,by kernel_rfl⟩
def uz:List RS:=[(.ops [(.i (.v 1) (.mv (.c .nils)))]),(.ops [(.i .l (.mv (.v 0))),(.i .l (.nilc (.l 0))),(.i .l (.fad 12 (.l 0))),(.i .l (.load false 1 (.l 0))),(.i .l (.call (.c (.fn 52 [] [])) [(.l 0)])),(.i (.v 1) (.mv (.l 0)))]),.ret]
theorem A0:FnR Tryz.prog po 17 1 2 [0,2] uz [(.v 1)] true:=⟨_,_,Tryz.func17,rfl,rfl,by kernel_rfl,by kernel_rfl,by kernel_rfl,by kernel_rfl,by kernel_rfl⟩
def mZ:List RS:=[(.ops [(.i (.v 1) (.mv (.c .nils)))]),(.ops [(.i .l (.mv (.v 0))),(.i (.v 2) (.bin .slice .eql (.l 0) (.c .nils)))]),(.cond (.v 2) [(.ops [(.i (.v 1) (.mv (.c .nils)))]),.ret] []),(.ops [(.i .l (.bsl false 137 [(.int .i64 0),(.int .i64 0),(.int .i64 0),(.int .i64 0)] 4 0 [])),(.i .l (.mv (.v 0))),(.i .l (.app false 137 (.l 1) (.l 0))),(.i (.v 1) (.mv (.l 0)))]),.ret]
theorem sB:FnR Tryz.prog po 52 1 3 [0,2,4] mZ [(.v 1)] true:=⟨_,_,Tryz.func52,rfl,rfl,by kernel_rfl,by kernel_rfl,by kernel_rfl,by kernel_rfl,by kernel_rfl⟩
def qY:List RS:=[(.ops [(.i (.v 0) (.mv (.c .nilp)))]),(.ops [(.i .l (.build [.nils,.nils] [(0,1),(1,1)] [])),(.i .l (.box 2 (.l 0))),(.i .l (.mks 2 [(.int .i64 0)] (.c (.int .i64 12)) (.c (.int .i64 12)))),(.i .l (.build [.nilp,.nils,.nils,.nilp,.nilp,.nilp,.nilp,(.int .i64 0),(.int .i64 0),.nils,(.int .i64 0),(.int .i64 0),.nils,(.int .i64 0),(.int .i64 0),.nils,(.int .i64 0),(.int .i64 0),.nils,.nils,.nils,.nils,.nils] [(0,1),(1,1),(2,1),(3,4),(7,12),(19,4)] [(0,(.l 1)),(1,(.l 0))])),(.i .l (.box 23 (.l 0))),(.i (.v 0) (.mv (.l 0)))]),.ret]
theorem yT:FnR Tryz.prog po 25 0 1 [0] qY [(.v 0)] false:=⟨_,_,Tryz.func25,rfl,rfl,by kernel_rfl,by kernel_rfl,by kernel_rfl,by kernel_rfl,by kernel_rfl⟩
def qy:List RS:=[(.ops [(.i (.v 3) (.box 1 (.v 2))),(.i (.v 4) (.mv (.c (.int .i64 0))))]),(.ops [(.i .l (.mv (.v 1))),(.i .l (.bin (.int .i64) .lss (.l 0) (.c (.int .i64 0)))),(.i .l (.mv (.l 0))),(.g (.l 0) false .l (.mv (.v 1))),(.g (.l 1) false .l (.bin (.int .i64) .geq (.l 0) (.c (.int .i64 4)))),(.i (.v 7) (.pick (.l 2) (.c (.bool true)) (.l 0)))]),(.cond (.v 7) [(.ops [(.i (.v 4) (.mv (.c (.int .i64 1))))]),.ret] []),(.ops [(.i .l (.load true 1 (.v 3))),(.i .l (.call (.c (.fn 82 [] [])) [(.l 0)])),(.i (.v 5) (.alloc [(.int .i64 0),(.int .i64 0)])),(.i .n (.store 2 (.v 5) (.l 0)))]),(.ops [(.i .l (.fad 0 (.v 5))),(.i .l (.load false 1 (.l 0))),(.i (.v 8) (.bin (.int .i64) .neq (.l 0) (.c (.int .i64 0))))]),(.cond (.v 8) [(.ops [(.i .l (.fad 0 (.v 5))),(.i .l (.load false 1 (.l 0))),(.i (.v 4) (.mv (.l 0)))]),.ret] []),(.ops [(.i .l (.load true 1 (.v 3))),(.i .l (.call (.c (.fn 83 [] [])) [(.l 0)])),(.i (.v 6) (.alloc [.nils])),(.i .n (.store 1 (.v 6) (.l 0)))]),(.ops [(.i .l (.mv (.v 0))),(.i .l (.mv (.v 1))),(.i .l (.nilc (.l 1))),(.i .l (.fad 3 (.l 0))),(.i .l (.ixa none (some (4,1)) (.l 0) (.l 2))),(.i .n (.store 1 (.l 0) (.v 6)))]),(.ops [(.i .l (.mv (.v 0))),(.i .l (.mv (.v 1))),(.i .l (.build [(.int .i64 0),(.int .i64 0),.nils] [(0,1),(1,1),(2,1)] [])),(.i .l (.nilc (.l 2))),(.i .l (.fad 7 (.l 0))),(.i .l (.ixa none (some (4,3)) (.l 0) (.l 3))),(.i .n (.store 3 (.l 0) (.l 3)))]),(.ops [(.i (.v 4) (.mv (.c (.int .i64 0))))]),.ret]
theorem xA:FnR Tryz.prog po 44 3 9 [0,1,2,5,6,7,8,14,19] qy [(.v 4)] false:=⟨_,_,Tryz.func44,rfl,rfl,by kernel_rfl,by kernel_rfl,by kernel_rfl,by kernel_rfl,by kernel_rfl⟩
def q8:List RS:=[(.ops [(.i (.v 0) (.mv (.c (.bool false))))]),(.ops [(.i .l (.call (.c (.fn 39 [] [])) [])),(.i (.v 1) (.mv (.l 0)))]),(.ops [(.i .l (.mv (.v 1))),(.i (.v 7) (.bin .ptr .eql (.l 0) (.c .nilp)))]),(.cond (.v 7) [(.ops [(.i (.v 0) (.mv (.c (.bool false))))]),.ret] []),(.ops [(.i .l (.build [(.int .i64 0),(.int .i64 0),(.int .i64 0),.nils] [(0,1),(1,1),(2,1),(3,1)] [(0,(.c (.int .i64 3)))])),(.i .l (.call (.c (.fn 41 [] [])) [(.c (.int .i64 2))])),(.i .l (.bsl false 109 [(.int .i64 0),(.int .i64 0),(.int .i64 0),.nils] 4 2 [(0,(.l 1)),(1,(.l 0))])),(.i .l (.build [(.int .i64 0),(.int .i64 0),(.int .i64 0),.nils] [(0,1),(1,1),(2,1),(3,1)] [(0,(.c (.int .i64 6))),(1,(.c (.int .i64 1))),(3,(.l 0))])),(.i .l (.bsl false 109 [(.int .i64 0),(.int .i64 0),(.int .i64 0),.nils] 4 1 [(0,(.l 0))])),(.i .l (.build [.nils] [(0,1)] [(0,(.l 0))])),(.i .l (.call (.c (.fn 40 [] [])) [(.l 0)])),(.i .l (.mv (.l 0))),(.i .l (.ext (.l 0) 0)),(.i .l (.ext (.l 1) 1)),(.i .l (.alloc [(.int .i64 0),(.int .i64 0)])),(.i (.v 2) (.mv (.l 2))),(.i .n (.store 2 (.l 0) (.l 1)))]),(.ops [(.i .l (.mv (.v 1))),(.i .l (.mv (.v 2))),(.i .l (.build [(.bool false),.nils,(.int .i64 0),(.int .i64 0),.nils] [(0,1),(1,1),(2,3)] [(0,(.c (.bool true))),(1,(.l 0))])),(.i .l (.nilc (.l 2))),(.i .l (.fad 2 (.l 0))),(.i .l (.ixa none (some (4,5)) (.l 0) (.c (.int .i64 1)))),(.i .n (.store 5 (.l 0) (.l 3)))]),(.ops [(.i .l (.mv (.v 1))),(.i .l (.build [(.int .i64 0),(.int .i64 0),.nils] [(0,1),(1,1),(2,1)] [(0,(.c (.int .i64 1))),(1,(.c (.int .i64 5)))])),(.i .l (.call (.c (.fn 12 [] [])) [(.l 1),(.c (.int .i64 1)),(.c (.int .i64 0)),(.l 0),(.c (.int .i64 9))])),(.i .l (.mv (.l 0))),(.i .l (.ext (.l 0) 0)),(.i .l (.ext (.l 1) 1)),(.i .l (.ext (.l 2) 2)),(.i (.v 3) (.alloc [(.int .i64 0),(.int .i64 0),.nils])),(.i .n (.store 3 (.v 3) (.l 2))),(.i (.v 4) (.mv (.l 1))),(.i (.v 5) (.mv (.l 0)))]),(.ops [(.i .l (.mv (.v 1))),(.i .l (.build [(.int .i64 0),(.int .i64 0),.nils] [(0,1),(1,1),(2,1)] [])),(.i .l (.call (.c (.fn 12 [] [])) [(.l 1),(.c (.int .i64 0)),(.c (.int .i64 0)),(.l 0),(.c (.int .i64 9))])),(.i .l (.mv (.l 0))),(.i .l (.ext (.l 0) 0)),(.i .l (.ext (.l 1) 1)),(.i .l (.ext (.l 2) 2)),(.i .l (.alloc [(.int .i64 0),(.int .i64 0),.nils])),(.i .n (.store 3 (.l 0) (.l 3))),(.i .l (.mv (.l 2))),(.i (.v 6) (.mv (.l 2)))]),(.ops [(.i .l (.fad 1 (.v 3))),(.i .l (.load false 1 (.l 0))),(.i .l (.bin (.int .i64) .eql (.l 0) (.c (.int .i64 7)))),(.i .l (.mv (.l 0))),(.g (.l 0) true .l (.mv (.v 4))),(.g (.l 1) true .l (.bin (.int .i64) .eql (.l 0) (.c (.int .i64 3)))),(.i .l (.pick (.l 2) (.l 0) (.c (.bool false)))),(.i .l (.mv (.l 0))),(.g (.l 0) true .l (.mv (.v 5))),(.g (.l 1) true .l (.bin (.int .i64) .eql (.l 0) (.c (.int .i64 0)))),(.i .l (.pick (.l 2) (.l 0) (.c (.bool false)))),(.i .l (.mv (.l 0))),(.g (.l 0) true .l (.mv (.v 6))),(.g (.l 1) true .l (.bin (.int .i64) .eql (.l 0) (.c (.int .i64 8)))),(.i .l (.pick (.l 2) (.l 0) (.c (.bool false)))),(.i .l (.mv (.l 0))),(.g (.l 0) true .l (.call (.c (.fn 42 [] [])) [(.c (.int .i64 4)),(.c (.int .i64 1)),(.c (.int .i64 2))])),(.g (.l 1) true .l (.bin (.int .i64) .eql (.l 0) (.c (.int .i64 1)))),(.i .l (.pick (.l 2) (.l 0) (.c (.bool false)))),(.i (.v 0) (.mv (.l 0)))]),.ret]
theorem zD:FnR Tryz.prog po 8 0 8 [0,1,2,4,5,6,9,12] q8 [(.v 0)] true:=⟨_,_,Tryz.func8,rfl,rfl,by kernel_rfl,by kernel_rfl,by kernel_rfl,by kernel_rfl,by kernel_rfl⟩
def bC:List RS:=[(.ops [(.i .l (.mv (.v 2))),(.i .l (.mv (.v 0))),(.i .l (.len false (some 80) (.l 0))),(.i (.v 3) (.bin (.int .i64) .lss (.l 2) (.l 0)))]),(.cond (.v 3) [] [(.exit 0)]),(.block 1 [(.ops [(.i .l (.mv (.v 0))),(.i .l (.mv (.v 2))),(.i .l (.ixa (some 80) none (.l 1) (.l 0))),(.i .l (.load true 1 (.l 0))),(.i (.v 4) (.call (.c (.fn 43 [] [])) [(.l 0)]))]),(.cond (.v 4) [(.ops [(.i (.v 1) (.mv (.c (.bool true))))]),.ret] [])]),(.ops [(.i .l (.mv (.v 2))),(.i .l (.bin (.int .i64) .add (.l 0) (.c (.int .i64 1)))),(.i (.v 2) (.mv (.l 0)))])]
def gz:List RS:=[(.ops [(.i (.v 1) (.mv (.c (.bool false))))]),(.ops [(.i (.v 2) (.mv (.c (.int .i64 0))))]),(.block 0 [(.loop bC)]),(.ops [(.i .l (.mv (.v 0))),(.i .l (.len false (some 80) (.l 0))),(.i .l (.bin (.int .i64) .gtr (.l 0) (.c (.int .i64 10)))),(.i (.v 1) (.mv (.l 0)))]),.ret]
theorem jR:FnR Tryz.prog po 9 1 5 [0,2,3,7,14] gz [(.v 1)] true:=⟨_,_,Tryz.func9,rfl,rfl,by kernel_rfl,by kernel_rfl,by kernel_rfl,by kernel_rfl,by kernel_rfl⟩
def gh:List RS:=[(.ops [(.i .l (.mv (.v 9))),(.i .l (.mv (.v 1))),(.i .l (.len false (some 116) (.l 0))),(.i (.v 12) (.bin (.int .i64) .lss (.l 2) (.l 0)))]),(.cond (.v 12) [] [(.exit 2)]),(.block 3 [(.ops [(.i .l (.mv (.v 4))),(.i .l (.nilc (.l 0))),(.i .l (.fad 0 (.l 0))),(.i .l (.load false 1 (.l 0))),(.i .l (.mv (.v 5))),(.i .l (.nilc (.l 0))),(.i .l (.fad 0 (.l 0))),(.i .l (.load false 1 (.l 0))),(.i .l (.mv (.v 1))),(.i .l (.mv (.v 9))),(.i .l (.ixa (some 116) none (.l 1) (.l 0))),(.i .l (.load true 5 (.l 0))),(.i .l (.call (.c (.fn 45 [] [])) [(.l 8),(.l 4),(.l 0)]))])]),(.ops [(.i .l (.mv (.v 9))),(.i .l (.bin (.int .i64) .add (.l 0) (.c (.int .i64 1)))),(.i (.v 9) (.mv (.l 0)))])]
def eY:List RS:=[(.ops [(.i .l (.mv (.v 6))),(.i .l (.mv (.v 0))),(.i .l (.len false (some 80) (.l 0))),(.i .l (.bin (.int .i64) .lss (.l 2) (.l 0))),(.i .l (.mv (.l 0))),(.g (.l 0) true .l (.mv (.v 6))),(.g (.l 1) true .l (.bin (.int .i64) .lss (.l 0) (.c (.int .i64 4)))),(.i (.v 10) (.pick (.l 2) (.l 0) (.c (.bool false))))]),(.cond (.v 10) [] [(.exit 0)]),(.block 1 [(.ops [(.i .l (.mv (.v 0))),(.i .l (.mv (.v 6))),(.i .l (.ixa (some 80) none (.l 1) (.l 0))),(.i .l (.load true 1 (.l 0))),(.i .l (.call (.c (.fn 40 [] [])) [(.l 0)])),(.i .l (.mv (.l 0))),(.i .l (.ext (.l 0) 0)),(.i .l (.ext (.l 1) 1)),(.i (.v 8) (.alloc [(.int .i64 0),(.int .i64 0)])),(.i (.v 7) (.mv (.l 1))),(.i .n (.store 2 (.v 8) (.l 0)))]),(.ops [(.i .l (.fad 0 (.v 8))),(.i .l (.load false 1 (.l 0))),(.i (.v 11) (.bin (.int .i64) .eql (.l 0) (.c (.int .i64 0))))]),(.cond (.v 11) [(.ops [(.i .l (.mv (.v 4))),(.i .l (.mv (.v 6))),(.i .l (.mv (.v 7))),(.i .l (.build [(.bool false),.nils,(.int .i64 0),(.int .i64 0),.nils] [(0,1),(1,1),(2,3)] [(0,(.c (.bool true))),(1,(.l 0))])),(.i .l (.nilc (.l 3))),(.i .l (.fad 2 (.l 0))),(.i .l (.ixa none (some (4,5)) (.l 0) (.l 4))),(.i .n (.store 5 (.l 0) (.l 3)))])] []),(.ops [(.i .l (.mv (.v 5))),(.i .l (.mv (.v 6))),(.i .l (.mv (.v 0))),(.i .l (.mv (.v 6))),(.i .l (.ixa (some 80) none (.l 1) (.l 0))),(.i .l (.load true 1 (.l 0))),(.i .l (.call (.c (.fn 44 [] [])) [(.l 5),(.l 4),(.l 0)]))])]),(.ops [(.i .l (.mv (.v 6))),(.i .l (.bin (.int .i64) .add (.l 0) (.c (.int .i64 1)))),(.i (.v 6) (.mv (.l 0)))])]
def wE:List RS:=[(.ops [(.i (.v 2) (.mv (.c .nilp))),(.i (.v 3) (.mv (.c .nilp)))]),(.ops [(.i .l (.call (.c (.fn 39 [] [])) [])),(.i .l (.call (.c (.fn 25 [] [])) [])),(.i (.v 4) (.mv (.l 1))),(.i (.v 5) (.mv (.l 0)))]),(.ops [(.i (.v 6) (.mv (.c (.int .i64 0))))]),(.block 0 [(.loop eY)]),(.ops [(.i (.v 9) (.mv (.c (.int .i64 0))))]),(.block 2 [(.loop gh)]),(.ops [(.i .l (.mv (.v 4))),(.i .l (.mv (.v 5))),(.i (.v 2) (.mv (.l 1))),(.i (.v 3) (.mv (.l 0)))]),.ret]
theorem Gg:FnR Tryz.prog po 10 2 13 [0,1,4,5,6,7,8,9,10,11,21,34,52] wE [(.v 2),(.v 3)] false:=⟨_,_,Tryz.func10,rfl,rfl,by kernel_rfl,by kernel_rfl,by kernel_rfl,by kernel_rfl,by kernel_rfl⟩
def FJ:List RS:=[(.ops [(.i (.v 2) (.box 3 (.v 1)))])]
def uj:List RI:=[(.i .l (.mv (.v 0))),(.i .l (.mv (.v 0))),(.i .l (.load true 3 (.v 2))),(.i .l (.bsl true 35 [(.int .i64 0),(.int .i64 0),.nils] 3 1 [(0,(.l 0))])),(.i .l (.call (.c (.fn 88 [] [])) [(.l 3)])),(.ck [⟨none,true,3,(.v 2),(.l 2)⟩]),(.i .l (.call (.c (.fn 88 [] [])) [(.l 3)])),(.ck [⟨none,true,3,(.v 2),(.l 3)⟩]),(.i .l (.nilc (.l 0))),(.i .l (.fad 6 (.l 0))),(.i .l (.load false 1 (.l 0))),(.i .l (.app true 35 (.l 0) (.l 5))),(.i .l (.nilc (.l 5))),(.i .l (.fad 6 (.l 0))),(.i .n (.store 1 (.l 0) (.l 2)))]
def tU:List RI:=[(.i .l (.mv (.v 0))),(.i .l (.mv (.v 0))),(.i .l (.load true 3 (.v 2))),(.i .l (.call (.c (.fn 88 [] [])) [(.l 2)])),(.ck [⟨none,true,3,(.v 2),(.l 1)⟩]),(.i .l (.bsl true 35 [(.int .i64 0),(.int .i64 0),.nils] 3 1 [(0,(.l 1))])),(.i .l (.call (.c (.fn 88 [] [])) [(.l 3)])),(.ck [⟨none,true,3,(.v 2),(.l 3)⟩]),(.i .l (.nilc (.l 0))),(.i .l (.fad 6 (.l 0))),(.i .l (.load false 1 (.l 0))),(.i .l (.app true 35 (.l 0) (.l 4))),(.i .l (.nilc (.l 6))),(.i .l (.fad 6 (.l 0))),(.i .n (.store 1 (.l 0) (.l 2)))]
def ut:List RI:=[(.i .l (.mv (.v 0))),(.i .l (.mv (.v 0))),(.i .l (.load true 3 (.v 2))),(.i .l (.call (.c (.fn 88 [] [])) [(.l 2)])),(.ck [⟨none,true,3,(.v 2),(.l 1)⟩]),(.i .l (.call (.c (.fn 88 [] [])) [(.l 2)])),(.ck [⟨none,true,3,(.v 2),(.l 2)⟩]),(.i .l (.nilc (.l 0))),(.i .l (.fad 6 (.l 0))),(.i .l (.load false 1 (.l 0))),(.i .l (.bsl true 35 [(.int .i64 0),(.int .i64 0),.nils] 3 1 [(0,(.l 5))])),(.ck [⟨none,false,1,(.l 2),(.l 1)⟩]),(.i .l (.app true 35 (.l 1) (.l 0))),(.i .l (.nilc (.l 6))),(.i .l (.fad 6 (.l 0))),(.i .n (.store 1 (.l 0) (.l 2)))]
open Go Go.RowKit
section
variable {P:Program} {po:Pol} {f:FuncId} {n nv:Nat} {vm:List Nat} {h h':AH} {t V V':List AV} {all:Array Oper} {pl:List (Nat×List Nat)} {E:Nat→Nat→Prop}
theorem CG (pok:POK P po) {is:List RI} {K:List Item} {x:AEx} (pp:jd all pl (fun _=>false) E) (hkp:rh (po.kp f) all=true) (hvm:vm.Nodup∧∀ j s,vm[j]? =some s→(j<nv↔s<po.nv f))
  (htr:gl P (po.mu f) n vm all [] (dI true all pl)=some is) (hr:ap (ai P po) nv [.ops is,.halt K] V [] h=some (x,V',h')) (rv:RV n vm [] t V []):
  ∃ t',(∀ (m:Mm) (w:World) (a:Act) (b:Frame) (cs:List Frame) (L:List Nat),gy all E (kZ all) L→WR P m h w→TR P m h t a.tmps→a.defers=b.defers→bK P (po.kp f) m h w b cs (lone (b.at a (.inRegion all L::K)) cs w) (x,t',h'))∧RV n vm [] t' V' []:=by
 obtain⟨t',e,rv'⟩:=(l8 (n:=n) (f:=f) hvm.1 hvm.2 _ _ _ _ _ hr).2.1 true all (dI true all pl) is [.halt K] [] t [.halt K] rfl htr (.halt K [] []) rv
 refine⟨t',fun m w a b cs L hL hw ht hd=> ?_,rv'⟩
 obtain⟨e2,t2,h2,hp,he⟩:=iF pok f _ t h _ e
 refine nP pok pp hkp hp (fun e0=> ?_) (fun v e0=> ?_) hL hw ht hd
 ·subst e0
  exact fun m1 w1 a1 q1 q2 q3=>he K (.halt K []) b cs m1 w1 a1 q1 q2 q3
 ·subst e0
  exact he
theorem wy (pok:POK P po) (hedge:∀ j,j<all.size→∀ e∈(opI all j).after,Region.binds .any e=true→e.on<j) {id:Nat} {b:Frame} {a:Act} {K:List Item} {cs:List Frame} {w:World}:
  ∃ L w',gy all (fun _ _=>False) (kZ all) L∧Steps P (lone (b.at a (.code (.region id all true)::K)) cs w) (lone (b.at a (.inRegion all L::K)) cs w')∧(∀ (m:Mm) (h:AH),WR P m h w→WR P m h w')∧∀ base,Below base w w':=by
 refine⟨_,_,?_,.one step_region_draw,fun m h hw=>hw.drew,fun base=>(Below.refl _ _).drew⟩
 simp only[Region.schedule,pok.mixed,Bool.true_or,if_true,Region.linearise]
 exact z7 hedge _ _ _ (by simp) (by simp[List.countP_replicate])
end
open Go Go.RowKit
section
variable {P:Program} {po:Pol} {f:FuncId} {n nv:Nat} {vm:List Nat} {h h' h2 h3:AH} {V V':List AV} {args:List AV} {all:Array Oper}
theorem lD.draw (pok:POK P po) {id:Nat} {c:Code} (hc:c= .region id all true) (p:lD P po f n vm args h (.halt [.code c]) V h2)
  (hedge:((List.range all.size).all fun j=>(all.getD j default).after.all fun e=> !Region.binds .any e || decide (e.on<j))=true) (hvm:vm.Nodup∧∀ j s,vm[j]? =some s→(j<nv↔s<po.nv f)) (hkp:rh (po.kp f) all=true)
  (h1:∀ L,gy all (fun _ _=>False) (kZ all) L→∃ (E:Nat→Nat→Prop) (pl:List (Nat×List Nat)) (is:List RI),gy all E (kZ all) L∧jd all pl (fun _=>false) E∧gl P (po.mu f) n vm all [] (dI true all pl)=some is∧ap (ai P po) nv [.ops is,.halt []] V [] h2=some (.halt [],V',h3)):
  lD P po f n vm args h .ret V' h3:=by
 intro m w vs hw hvs cs
 obtain⟨bf,t2,b1,b2,b3,rv,m1,w1,x1,x2,x3,a1,x4,x5,x6⟩:=p m w vs hw hvs cs
 subst hc
 obtain⟨L,w2,q1,q2,q3,q4⟩:=wy (P:=P) (all:=all) (id:=id) (b:=bf) (a:=a1) (K:=[]) (cs:=cs) (w:=w1) pok (fun j hj e he hb=>by
  rw[List.all_eq_true]at hedge
  have:=hedge j (List.mem_range.2 hj)
  rw[Array.all_eq_true']at this
  have:=this e he
  simpa[hb]using this)
 obtain⟨E,pl,is,e1,e2,e3,e4⟩:=h1 L q1
 obtain⟨t',hp,rv'⟩:=CG (K:=[]) pok e2 hkp hvm e3 e4 rv
 obtain⟨m3,w3,y1,y2,y3,a3,y4,y5,y6⟩:=hp m1 w2 a1 bf cs L e1 (q3 _ _ x2) x4 x5
 refine⟨bf,t',b1,b2,b3,rv',bK.steps x6 (bK.after x1 x3 (bK.steps q2 (bK.after (Ext.refl _ _) (q4 _) ?_)))⟩
 exact⟨m3,w3,y1,y2,y3,a3,[],y4,y5,y6.trans (.one step_end)⟩
theorem pm {E:Nat→Nat→Prop} {x y z:Nat} (h1:E x y) (hz:((opI all z).after.toList.any fun e=>Region.binds .any e && e.on==y)=true):∀ {li:Array Bool} {L:List Nat},gy all E li L→li.size=all.size→(li.getD y false=true→li.getD x false=true)→gy all (zg E x z) li L:=by
 rw[List.any_eq_true]at hz
 obtain⟨e,e1,e2⟩:=hz
 simp only[Bool.and_eq_true,beq_iff_eq]at e2
 intro li L ho
 induction ho with
 | nil li h=>exact fun _ _=> .nil _ h
 | cons li i L g1 g2 g3 g4 _ ih=>
   intro hs hi
   have hil:i<li.size:=by omega
   refine .cons _ _ _ g1 g2 g3 (fun j hj=>hj.elim (g4 j) fun hj=> ?_) (ih (by simpa using hs) fun hy=> ?_)
   ·rw[hj.1]
    refine hi ?_
    have:=g3 e (by rw[hj.2];simpa using e1) e2.1
    rwa [e2.2]at this
   ·rw[bH hil]at hy ⊢
    split
    ·rfl
    ·split at hy
     ·rename_i h5
      exact g4 x (by rw[←h5];exact h1)
     ·exact hi hy
theorem Da {E:Nat→Nat→Prop} {x y z:Nat} (h1:E x y) (h2:E z x) (hz:∃ e∈(opI all z).after,Region.binds .any e=true∧e.on=y) (hx:x<all.size):∀ {li:Array Bool} {L:List Nat},gy all E li L→li.size=all.size→li.getD x false=false→li.getD y false=false→li.getD z false=false→False:=by
 intro li L ho
 induction ho with
 | nil li h=>
   intro hs a _ _
   rw[h x hx]at a
   cases a
 | cons li i L g1 g2 g3 g4 _ ih=>
   intro hs a b c
   have n1:x≠i:=fun e=>by
    have:=g4 z (by rw[←e];exact h2)
    rw[c]at this
    cases this
   have n2:y≠i:=fun e=>by
    have:=g4 x (by rw[←e];exact h1)
    rw[a]at this
    cases this
   have n3:z≠i:=fun e=>by
    obtain⟨e',e1,e2,e3⟩:=hz
    have:=g3 e' (by rw[←e];exact e1) e2
    rw[e3,b]at this
    cases this
   have hi:i<li.size:=by omega
   exact ih (by simpa using hs) (by rw[bH hi,if_neg n1];exact a) (by rw[bH hi,if_neg n2];exact b) (by rw[bH hi,if_neg n3];exact c)
end
abbrev fPu:FuncId:=114
abbrev ED:FuncId:=88
noncomputable def cPu:Code:=Tryz.f114.body.getD .skip
theorem Jg:(Tryz.prog).funcs[fPu]? =some Tryz.f114:=Tryz.func114
theorem Hj:Tryz.f114.body=some cPu:=rfl
theorem ML:Tryz.f114.ntmps=16:=rfl
theorem KF:cPu= .seq (cL cPu) (cR cPu):=rfl
theorem Le:iL Tryz.prog [0,1,3] Tryz.f114.results.toList=some []:=by kernel_rfl
abbrev vPu:List Nat:=[0,1,3]
theorem I2:rA 2 16 (po.nv fPu) 3 vPu=true:=by kernel_rfl
theorem K5:bc Tryz.prog (po.mu fPu) (po.plan fPu) 16 vPu (cL cPu) []=some FJ:=by kernel_rfl
theorem HU:cz (po.plan fPu) (po.kp fPu) (cL cPu)=true:=by kernel_rfl
noncomputable abbrev puO:Array Oper:=eg (cR cPu)
theorem Lc:cR cPu= .region 1 puO true:=rfl
theorem G9:((List.range puO.size).all fun j=>(puO.getD j default).after.all fun e=> !Region.binds .any e || decide (e.on<j))=true:=by kernel_rfl
theorem LM:rh (po.kp fPu) puO=true:=by kernel_rfl
def Lo:List (Nat×List Nat):=[(0,[]),(2,[]),(7,[]),(8,[]),(1,[7]),(3,[7]),(4,[]),(5,[]),(6,[]),(9,[]),(10,[]),(11,[]),(12,[])]
def KT:List (Nat×List Nat):=[(0,[]),(2,[]),(7,[]),(1,[7]),(8,[]),(3,[7]),(4,[]),(5,[]),(6,[]),(9,[]),(10,[]),(11,[]),(12,[])]
def Kz:List (Nat×List Nat):=[(0,[]),(2,[]),(7,[]),(1,[7]),(3,[7]),(4,[]),(5,[]),(6,[]),(8,[6]),(9,[]),(10,[]),(11,[]),(12,[])]
theorem L1:jD [(8,1),(8,3),(8,4),(8,5),(8,6)] puO Lo=true:=by kernel_rfl
theorem Mk:jD [(1,8),(8,3),(8,4),(8,5),(8,6)] puO KT=true:=by kernel_rfl
theorem LJ:jD [(1,8),(3,8)] puO Kz=true:=by kernel_rfl
theorem L9:gl Tryz.prog (po.mu fPu) 16 vPu puO [] (dI true puO Lo)=some uj:=by kernel_rfl
theorem LX:gl Tryz.prog (po.mu fPu) 16 vPu puO [] (dI true puO KT)=some tU:=by kernel_rfl
theorem LR:gl Tryz.prog (po.mu fPu) 16 vPu puO [] (dI true puO Kz)=some ut:=by kernel_rfl
theorem Bs:puO.size=13:=by kernel_rfl
theorem LZ:((opI puO 4).after.toList.any fun e=>Region.binds .any e && e.on==3)=true:=by kernel_rfl
theorem L8:((opI puO 5).after.toList.any fun e=>Region.binds .any e && e.on==4)=true:=by kernel_rfl
theorem Mo:((opI puO 6).after.toList.any fun e=>Region.binds .any e && e.on==5)=true:=by kernel_rfl
theorem AW {E:Nat→Nat→Prop} (h1:E 8 3) {L:List Nat} (ho:gy puO E (kZ puO) L):gy puO (zg (zg (zg E 8 4) 8 5) 8 6) (kZ puO) L:=by
 have hsz:(kZ puO).size=puO.size:=by simp
 have n:∀ j,(kZ puO).getD j false=true→(kZ puO).getD 8 false=true:=fun j hj=>by rw[du]at hj;cases hj
 exact pm (.inr ⟨rfl,rfl⟩) Mo (pm (.inr ⟨rfl,rfl⟩) L8 (pm h1 LZ ho hsz (n _)) hsz (n _)) hsz (n _)
theorem LC:((opI puO 3).after.toList.any fun e=>Region.binds .any e && e.on==1)=true:=by kernel_rfl
theorem LV (x y:AV):RV 16 vPu [] ([x,y]++replicate (16 - [x,y].length) .junk) ([x,y]++replicate (vPu.length - [x,y].length) .junk) []:=by
 refine⟨by simp,rfl,rfl,fun j s hj=> ?_,fun j s hj=>by simp at hj⟩
 match j,hj with
 | 0,hj | 1,hj | 2,hj=>obtain rfl:=Option.some.inj hj;exact⟨by decide,rfl⟩
 | j+3,hj=>simp at hj
theorem oZ {h:AH} {mb fb k:Nat} {bx lf:AV} (hm:h.cell mb=some [[bx,.msl fb 0 (k+1) tFr,lf]]) (hk:k≤1000):ai Tryz.prog po ED [.ptr mb 0 0] h=some (.inl (.ptr fb k 0),h):=by
 have w:IntKind.wrap .i64 (((k+1:Nat):Int) - 1)=(k:Int):=yR (by omega) (by omega) (by omega)
 have ix:∀ q:IntKind,cj (some tFr) none (.msl fb 0 (k+1) tFr) (.int q (k:Int))=some (.ptr fb (0+k) 0):=fun q=>vn rfl (by omega)
 refine ag ID rfl ?_;unfold Bf
 simp only[sim,af,reduceAdd,reduceSub,replicate,reduceCtorEq,reduceLeDiff,reduceLT,aa,hm,w,ix,Nat.zero_add]
theorem HF {h h3:AH} {mb fb k:Nat} {bx lf s s':AV} {r:List AV} {rows:List (List AV)} {row:List AV} (hk:k≤1000) (hr:r.length=3∧r.all AV.one=true) (hmn:mb<h.n) (hfn:fb<h.n)
  (hm:h.cell mb=some [[bx,.msl fb 0 (k+1) tFr,lf]]) (hf:h.cell fb=some rows) (hrow:rows[k]? =some row) (hs:row[6]? =some s) (hlr:row.length=10)
  (ha:aG true tV s (.msl (h.n+1) 0 1 tV) ((h.push [r]).push [r])=some (s',h3)) (hf3:h3.cell fb=some rows) (h1:s'.one=true) (hc1:s'.cells=[s']):
  ai Tryz.prog po fPu [.ptr mb 0 0,.agg r] h=some (.inl (.tup []),h3.set fb (some (rows.set k (row.set 6 s')))):=by
 have hkl:k<rows.length:=(List.getElem?_eq_some_iff.1 hrow).1
 have hst:stA row 6 [s']=row.set 6 s':=by
  match row,hlr with
  | [a,b,c,d,e,f,g,i,j,l],_=>rfl
 have hv:F8 [.ptr mb 0 0,.agg r] h=some (h3.set fb (some (rows.set k (row.set 6 s')))):=by
  simp only[F8,hm,Option.bind_some,hf,Nat.add_sub_cancel,hrow,hs,ha,Option.map_some]
 have hac:AC Tryz.prog fPu [.ptr mb 0 0,.agg r] h (.inl (.tup []),h3.set fb (some (rows.set k (row.set 6 s')))):=by
  have p0:=lD.start (po:=po) (h:=h) Jg Hj ML (LV (.ptr mb 0 0) (.agg r))
  have p1:=p0.next (nv:=3) (x:= .halt [.code (cR cPu)]) (V':=[.ptr mb 0 0,.agg r,.ptr h.n 0 0]) (h3:=h.push [r]) pok KF (bG I2) K5 HU (by
   unfold FJ
   have hb:= @AQ (ai (Tryz.prog) po) 3
   simp only[sim,af,reduceAdd,reduceSub,replicate,reduceCtorEq,reduceLeDiff,reduceLT,aa,hr.1,hr.2])
  have hmn1:(h.push [r]).cell mb=some [[bx,.msl fb 0 (k+1) tFr,lf]]:=(fW (by omega)).trans hm
  have hmn2:((h.push [r]).push [r]).cell mb=some [[bx,.msl fb 0 (k+1) tFr,lf]]:=(fW (by rw[aJ];omega)).trans hmn1
  have hf1:(h.push [r]).cell fb=some rows:=(fW (by omega)).trans hf
  have hf2:((h.push [r]).push [r]).cell fb=some rows:=(fW (by rw[aJ];omega)).trans hf1
  have t1:=oZ hmn1 hk
  have t2:=oZ hmn2 hk
  have fs1:aH 6 (.ptr fb k 0)=some (.ptr fb k 6):=rfl
  have ld1:∀ {x:AH} {n:Nat},x.cell fb=some rows→aK false n x (.ptr fb k 6)=some s:=fun{x n} hx=>by
   rw[bV,hx,Option.bind_some,hrow,Option.bind_some,eN]
   exact hs
  have st:aE 1 h3 (.ptr fb k 6) s'=some (h3.set fb (some (rows.set k (row.set 6 s')))):=by
   rw[bo (es:=rows) (e:=row) hf3 hrow (by rw[hc1];simpa using h1) (by rw[hc1];rfl) (by omega),hc1,hst]
  have run:∀ is,is=uj∨is=tU∨is=ut→ap (ai Tryz.prog po) 3 [.ops is,.halt []] [.ptr mb 0 0,.agg r,.ptr h.n 0 0] [] (h.push [r])=some (.halt [],[.ptr mb 0 0,.agg r,.ptr h.n 0 0],h3.set fb (some (rows.set k (row.set 6 s')))):=by
   have q0:(h.push [r]).cell h.n=some [r]:=aT
   have q1:((h.push [r]).push [r]).cell h.n=some [r]:=(fW (by rw[aJ];omega)).trans aT
   intro is his
   rcases his with rfl | rfl | rfl
   ·unfold uj
    simp only[sim,af,reduceAdd,reduceSub,replicate,reduceCtorEq,reduceLeDiff,reduceLT,aa,au,ED,t1,t2,hr.1,hr.2,hf1,hf2,hrow,hs,ha,h1,hc1,q0,q1,ld1 hf2,st]
   ·unfold tU
    simp only[sim,af,reduceAdd,reduceSub,replicate,reduceCtorEq,reduceLeDiff,reduceLT,aa,au,t1,t2,hr.1,hr.2,hf1,hf2,hrow,hs,ha,h1,hc1,q0,q1,ld1 hf2,st]
   ·unfold ut
    simp only[sim,af,reduceAdd,reduceSub,replicate,reduceCtorEq,reduceLeDiff,reduceLT,aa,au,t1,t2,hr.1,hr.2,hf1,hf2,hrow,hs,ha,h1,hc1,q0,q1,ld1 hf1,ld1 hf2,st]
  refine(lD.draw (nv:=3) (V':=[.ptr mb 0 0,.agg r,.ptr h.n 0 0]) pok Lc p1 G9 (bG I2) LM fun L hL=> ?_).ret Jg Le rfl
  have e31:∃ e∈(opI puO 3).after,Region.binds .any e=true∧e.on=1:=by
   have:=LC
   rw[List.any_eq_true]at this
   obtain⟨e,e1,e2⟩:=this
   simp only[Bool.and_eq_true,beq_iff_eq]at e2
   exact⟨e,by simpa using e1,e2.1,e2.2⟩
  have hsz:(kZ puO).size=puO.size:=by simp
  rcases kP (x:=8) (y:=1) (by decide) (by rw[Bs];decide) hL hsz (du _) (du _)with o1 | o1
  ·rcases kP (x:=8) (y:=3) (by decide) (by rw[Bs];decide) o1 hsz (du _) (du _)with o2 | o2
   ·exact⟨_,Lo,uj,(AW (.inr ⟨rfl,rfl⟩) o2).mono (fun i j hj=>by simp only[List.mem_cons,Prod.mk.injEq,List.not_mem_nil,or_false]at hj;rcases hj with hj | hj | hj | hj | hj;exact .inl (.inl (.inl (.inl (.inr hj))));exact .inl (.inl (.inl (.inr hj)));exact .inl (.inl (.inr hj));exact .inl (.inr hj);exact .inr hj),hU L1,L9,run _ (.inl rfl)⟩
   ·exact(Da (x:=8) (y:=1) (z:=3) (.inl (.inr ⟨rfl,rfl⟩)) (.inr ⟨rfl,rfl⟩) e31 (by rw[Bs];decide) o2 hsz (du _) (du _) (du _)).elim
  ·rcases kP (x:=8) (y:=3) (by decide) (by rw[Bs];decide) o1 hsz (du _) (du _)with o2 | o2
   ·exact⟨_,KT,tU,(AW (.inr ⟨rfl,rfl⟩) o2).mono (fun i j hj=>by simp only[List.mem_cons,Prod.mk.injEq,List.not_mem_nil,or_false]at hj;rcases hj with hj | hj | hj | hj | hj;exact .inl (.inl (.inl (.inl (.inr hj))));exact .inl (.inl (.inl (.inr hj)));exact .inl (.inl (.inr hj));exact .inl (.inr hj);exact .inr hj),hU Mk,LX,run _ (.inr (.inl rfl))⟩
   ·exact⟨_,Kz,ut,o2.mono (fun i j hj=>by simp only[List.mem_cons,Prod.mk.injEq,List.mem_singleton,List.not_mem_nil,or_false]at hj;rcases hj with hj | hj;exact .inl (.inr hj);exact .inr hj),hU LJ,LR,run _ (.inr (.inr rfl))⟩
 have hx:po.ext fPu=some AY:=by
  show rN fPu=_
  unfold rN
  rw[if_neg (by decide),if_pos rfl]
 unfold ai
 rw[hx]
 simp only[AY,hv]
 rw[if_pos hac]
def iI:List RS:=[(.ops [(.i .l (.mv (.v 4))),(.i .l (.fad 2 (.v 2))),(.i .l (.load false 1 (.l 0))),(.i .l (.len false (some 35) (.l 0))),(.i .l (.bin (.int .i64) .lss (.l 3) (.l 0))),(.i .l (.mv (.l 0))),(.g (.l 0) true .l (.mv (.v 1))),(.g (.l 1) true .l (.bin (.int .i64) .geq (.l 0) (.c (.int .i64 0)))),(.i (.v 5) (.pick (.l 2) (.l 0) (.c (.bool false))))]),(.cond (.v 5) [] [(.exit 0)]),(.block 1 [(.ops [(.i .l (.fad 2 (.v 2))),(.i .l (.load false 1 (.l 0))),(.i .l (.mv (.v 4))),(.i .l (.ixa (some 35) none (.l 1) (.l 0))),(.i .l (.load true 3 (.l 0))),(.i .l (.mv (.v 1))),(.i .l (.call (.c (.fn 86 [] [])) [(.l 1),(.l 0)])),(.i (.v 1) (.mv (.l 0)))])]),(.ops [(.i .l (.mv (.v 4))),(.i .l (.bin (.int .i64) .add (.l 0) (.c (.int .i64 1)))),(.i (.v 4) (.mv (.l 0)))])]
def wg:List RS:=[(.ops [(.i (.v 2) (.box 3 (.v 0))),(.i (.v 3) (.mv (.c (.int .i64 0))))]),(.ops [(.i .l (.mv (.v 1))),(.i .l (.bin (.int .i64) .sub (.l 0) (.c (.int .i64 1)))),(.i (.v 1) (.mv (.l 0)))]),(.ops [(.i (.v 4) (.mv (.c (.int .i64 0))))]),(.block 0 [(.loop iI)]),(.ops [(.i .l (.mv (.v 1))),(.i (.v 3) (.mv (.l 0)))]),.ret]
theorem Fm:FnR Tryz.prog po 86 2 6 [0,1,2,4,5,16] wg [(.v 3)] true:=⟨_,_,Tryz.func86,rfl,rfl,by kernel_rfl,by kernel_rfl,by kernel_rfl,by kernel_rfl,by kernel_rfl⟩
def nn:List RS:=[(.ops [(.i (.v 1) (.box 3 (.v 0))),(.i (.v 2) (.mv (.c (.int .i64 0))))]),(.ops [(.i .l (.load true 3 (.v 1))),(.i .l (.call (.c (.fn 86 [] [])) [(.l 0),(.c (.int .i64 40))])),(.i (.v 3) (.bin (.int .i64) .lss (.l 0) (.c (.int .i64 0))))]),(.cond (.v 3) [(.ops [(.i (.v 2) (.mv (.c (.int .i64 3))))]),.ret] []),(.ops [(.i .l (.load true 3 (.v 1))),(.i .l (.call (.c (.fn 87 [] [])) [(.l 0)])),(.i (.v 2) (.mv (.l 0)))]),.ret]
theorem tz:FnR Tryz.prog po 47 1 4 [0,1,2,5] nn [(.v 2)] true:=⟨_,_,Tryz.func47,rfl,rfl,by kernel_rfl,by kernel_rfl,by kernel_rfl,by kernel_rfl,by kernel_rfl⟩
def fk:List RS:=[(.ops [(.i (.v 12) (.bin (.int .i64) .lss (.v 11) (.v 10)))]),(.cond (.v 12) [] [(.exit 1)]),(.block 2 [(.ops [(.i .l (.ixa (some 35) none (.v 9) (.v 11))),(.i .l (.load true 3 (.l 0))),(.i (.v 4) (.alloc [(.int .i64 0),(.int .i64 0),.nils])),(.i .n (.store 3 (.v 4) (.l 0)))]),(.ops [(.i .l (.load true 3 (.v 4))),(.i .l (.call (.c (.fn 87 [] [])) [(.l 0)])),(.i (.v 5) (.mv (.l 0)))]),(.ops [(.i .l (.mv (.v 5))),(.i (.v 13) (.bin (.int .i64) .neq (.l 0) (.c (.int .i64 0))))]),(.cond (.v 13) [(.ops [(.i .l (.mv (.v 5))),(.i (.v 2) (.mv (.l 0)))]),.ret] [])]),(.ops [(.i .l (.bin (.int .i64) .add (.v 11) (.c (.int .i64 1)))),(.i (.v 11) (.mv (.l 0)))])]
def su:List RS:=[(.ops [(.i (.v 1) (.box 3 (.v 0))),(.i (.v 2) (.mv (.c (.int .i64 0))))]),(.ops [(.i .l (.fad 0 (.v 1))),(.i .l (.load false 1 (.l 0))),(.i .l (.bin (.int .i64) .lss (.l 0) (.c (.int .i64 0)))),(.i .l (.mv (.l 0))),(.g (.l 0) false .l (.fad 0 (.v 1))),(.g (.l 1) false .l (.load false 1 (.l 0))),(.g (.l 2) false .l (.bin (.int .i64) .gtr (.l 0) (.c (.int .i64 5)))),(.i (.v 6) (.pick (.l 3) (.c (.bool true)) (.l 0)))]),(.cond (.v 6) [(.ops [(.i (.v 2) (.mv (.c (.int .i64 2))))]),.ret] []),(.ops [(.i .l (.bsl false 3 [(.int .i64 0)] 1 6 [(0,(.c (.int .i64 0))),(1,(.c (.int .i64 0))),(2,(.c (.int .i64 2))),(3,(.c (.int .i64 1))),(4,(.c (.int .i64 0))),(5,(.c (.int .i64 0)))])),(.i .l (.fad 0 (.v 1))),(.i .l (.load false 1 (.l 0))),(.i .l (.ixa (some 3) none (.l 2) (.l 0))),(.i .l (.load false 1 (.l 0))),(.i (.v 3) (.mv (.l 0)))]),(.block 0 [(.ops [(.i .l (.fad 2 (.v 1))),(.i .l (.load false 1 (.l 0))),(.i .l (.len false (some 35) (.l 0))),(.i .l (.mv (.v 3))),(.i .l (.bin (.int .i64) .neq (.l 1) (.l 0))),(.i .l (.mv (.l 0))),(.g (.l 0) false .l (.mv (.v 3))),(.g (.l 1) false .l (.bin (.int .i64) .eql (.l 0) (.c (.int .i64 2)))),(.g (.l 2) false .l (.mv (.l 0))),(.g (.l 0) true .l (.fad 1 (.v 1))),(.g (.l 1) true .l (.load false 1 (.l 0))),(.g (.l 2) true .l (.bin (.int .i64) .neq (.l 0) (.c (.int .i64 0)))),(.g (.l 6) false .l (.pick (.l 3) (.l 0) (.c (.bool false)))),(.i .l (.pick (.l 7) (.c (.bool true)) (.l 0))),(.i .l (.mv (.l 0))),(.g (.l 0) false .l (.fad 0 (.v 1))),(.g (.l 1) false .l (.load false 1 (.l 0))),(.g (.l 2) false .l (.bin (.int .i64) .eql (.l 0) (.c (.int .i64 0)))),(.g (.l 3) false .l (.mv (.l 0))),(.g (.l 0) true .l (.fad 1 (.v 1))),(.g (.l 1) true .l (.load false 1 (.l 0))),(.g (.l 2) true .l (.bin (.int .i64) .neq (.l 0) (.c (.int .i64 0)))),(.g (.l 7) false .l (.pick (.l 3) (.l 0) (.c (.bool false)))),(.i .l (.pick (.l 8) (.c (.bool true)) (.l 0))),(.i (.v 7) (.mv (.l 0)))]),(.cond (.v 7) [(.ops [(.i (.v 2) (.mv (.c (.int .i64 5))))]),.ret] [(.ops [(.i .l (.fad 0 (.v 1))),(.i .l (.load false 1 (.l 0))),(.i .l (.bin (.int .i64) .geq (.l 0) (.c (.int .i64 3)))),(.i .l (.mv (.l 0))),(.g (.l 0) true .l (.fad 1 (.v 1))),(.g (.l 1) true .l (.load false 1 (.l 0))),(.g (.l 2) true .l (.bin (.int .i64) .lss (.l 0) (.c (.int .i64 0)))),(.i .l (.pick (.l 3) (.l 0) (.c (.bool false)))),(.i (.v 8) (.mv (.l 0)))]),(.cond (.v 8) [(.ops [(.i (.v 2) (.mv (.c (.int .i64 1))))]),.ret] [])])]),(.ops [(.i .l (.fad 2 (.v 1))),(.i (.v 9) (.load false 1 (.l 0))),(.i (.v 10) (.len false (some 35) (.v 9))),(.i (.v 11) (.mv (.c (.int .i64 0))))]),(.block 1 [(.loop fk)]),(.ops [(.i (.v 2) (.mv (.c (.int .i64 0))))]),.ret]
theorem Ct:FnR Tryz.prog po 87 1 14 [0,1,2,3,5,6,14,20,45,55,56,57,58,64] su [(.v 2)] true:=⟨_,_,Tryz.func87,rfl,rfl,by kernel_rfl,by kernel_rfl,by kernel_rfl,by kernel_rfl,by kernel_rfl⟩
def jt:List RS:=[(.ops [(.i (.v 8) (.bin (.int .i64) .lss (.v 7) (.v 6)))]),(.cond (.v 8) [] [(.exit 0)]),(.block 1 [(.ops [(.i .l (.ixa (some 35) none (.v 5) (.v 7))),(.i .l (.load true 3 (.l 0))),(.i (.v 4) (.alloc [(.int .i64 0),(.int .i64 0),.nils])),(.i .n (.store 3 (.v 4) (.l 0)))]),(.ops [(.i .l (.fad 2 (.v 3))),(.i .l (.load false 1 (.l 0))),(.i .l (.load true 3 (.v 4))),(.i .l (.call (.c (.fn 48 [] [])) [(.l 0)])),(.ck [⟨none,false,1,(.l 3),(.l 2)⟩]),(.i .l (.bsl false 35 [(.int .i64 0),(.int .i64 0),.nils] 3 1 [(0,(.l 0))])),(.ck [⟨none,false,1,(.l 4),(.l 3)⟩]),(.i .l (.app false 35 (.l 3) (.l 0))),(.i .l (.fad 2 (.v 3))),(.i .n (.store 1 (.l 0) (.l 1)))])]),(.ops [(.i .l (.bin (.int .i64) .add (.v 7) (.c (.int .i64 1)))),(.i (.v 7) (.mv (.l 0)))])]
def BY:List RS:=[(.ops [(.i (.v 1) (.box 3 (.v 0))),(.i (.v 2) (.alloc [(.int .i64 0),(.int .i64 0),.nils]))]),(.ops [(.i .l (.fad 0 (.v 1))),(.i .l (.load false 1 (.l 0))),(.i .l (.fad 1 (.v 1))),(.i .l (.load false 1 (.l 0))),(.i .l (.build [(.int .i64 0),(.int .i64 0),.nils] [(0,1),(1,1),(2,1)] [(0,(.l 2)),(1,(.l 0))])),(.i (.v 3) (.alloc [(.int .i64 0),(.int .i64 0),.nils])),(.i .n (.store 3 (.v 3) (.l 0)))]),(.ops [(.i .l (.fad 2 (.v 1))),(.i (.v 5) (.load false 1 (.l 0))),(.i (.v 6) (.len false (some 35) (.v 5))),(.i (.v 7) (.mv (.c (.int .i64 0))))]),(.block 0 [(.loop jt)]),(.ops [(.i .l (.load true 3 (.v 3))),(.i .n (.store 3 (.v 2) (.l 0)))]),.ret]
theorem Iv:FnR Tryz.prog po 48 1 9 [0,1,2,3,5,12,13,14,15] BY [(.cell true 3 2)] true:=⟨_,_,Tryz.func48,rfl,rfl,by kernel_rfl,by kernel_rfl,by kernel_rfl,by kernel_rfl,by kernel_rfl⟩
def iD:List RS:=[(.ops [(.i (.v 9) (.bin (.int .i64) .lss (.v 8) (.v 7)))]),(.cond (.v 9) [] [(.exit 0)]),(.block 1 [(.ops [(.i .l (.ixa (some 35) none (.v 6) (.v 8))),(.i .l (.load true 3 (.l 0))),(.i (.v 4) (.alloc [(.int .i64 0),(.int .i64 0),.nils])),(.i .n (.store 3 (.v 4) (.l 0)))]),(.ops [(.i .l (.mv (.v 3))),(.i .l (.load true 3 (.v 4))),(.i .l (.call (.c (.fn 143 [] [])) [(.l 0)])),(.i .l (.app false 3 (.l 2) (.l 0))),(.i (.v 3) (.mv (.l 0)))])]),(.ops [(.i .l (.bin (.int .i64) .add (.v 8) (.c (.int .i64 1)))),(.i (.v 8) (.mv (.l 0)))])]
def vS:List RS:=[(.ops [(.i (.v 1) (.box 3 (.v 0))),(.i (.v 2) (.mv (.c .nils)))]),(.ops [(.i (.v 3) (.mv (.c .nils)))]),(.ops [(.i .l (.fad 0 (.v 1))),(.i .l (.load false 1 (.l 0))),(.i (.v 5) (.bin (.int .i64) .eql (.l 0) (.c (.int .i64 4))))]),(.cond (.v 5) [(.ops [(.i .l (.mv (.v 3))),(.i .l (.fad 1 (.v 1))),(.i .l (.load false 1 (.l 0))),(.i .l (.bsl false 3 [(.int .i64 0)] 1 1 [(0,(.l 0))])),(.i .l (.app false 3 (.l 3) (.l 0))),(.i (.v 3) (.mv (.l 0)))])] []),(.ops [(.i .l (.fad 2 (.v 1))),(.i (.v 6) (.load false 1 (.l 0))),(.i (.v 7) (.len false (some 35) (.v 6))),(.i (.v 8) (.mv (.c (.int .i64 0))))]),(.block 0 [(.loop iD)]),(.ops [(.i .l (.mv (.v 3))),(.i (.v 2) (.mv (.l 0)))]),.ret]
theorem Gh:FnR Tryz.prog po 143 1 10 [0,1,2,3,5,8,15,16,17,18] vS [(.v 2)] true:=⟨_,_,Tryz.func143,rfl,rfl,by kernel_rfl,by kernel_rfl,by kernel_rfl,by kernel_rfl,by kernel_rfl⟩
def sd:List RS:=[(.ops [(.i (.v 1) (.box 3 (.v 0))),(.i (.v 2) (.mv (.c (.bool false))))]),(.ops [(.i .l (.fad 0 (.v 1))),(.i .l (.load false 1 (.l 0))),(.i .l (.bin (.int .i64) .eql (.l 0) (.c (.int .i64 5)))),(.i .l (.mv (.l 0))),(.g (.l 0) false .l (.fad 2 (.v 1))),(.g (.l 1) false .l (.load false 1 (.l 0))),(.g (.l 2) false .l (.call (.c (.fn 157 [] [])) [(.l 0),(.c (.fn 142 [] []))])),(.i .l (.pick (.l 3) (.c (.bool true)) (.l 0))),(.i (.v 2) (.mv (.l 0)))]),.ret]
theorem Ca:FnR Tryz.prog po 142 1 3 [0,1,2] sd [(.v 2)] true:=⟨_,_,Tryz.func142,rfl,rfl,by kernel_rfl,by kernel_rfl,by kernel_rfl,by kernel_rfl,by kernel_rfl⟩
def mS:List RS:=[(.ops [(.i (.v 2) (.mv (.c (.bool false))))]),(.ops [(.i .l (.mv (.v 0))),(.i .l (.mv (.v 1))),(.i .l (.call (.c (.fn 166 [] [])) [(.l 1),(.l 0)])),(.i .l (.bin (.int .i64) .geq (.l 0) (.c (.int .i64 0)))),(.i (.v 2) (.mv (.l 0)))]),.ret]
theorem uT:FnR Tryz.prog po 157 2 3 [0,1,4] mS [(.v 2)] true:=⟨_,_,Tryz.func157,rfl,rfl,by kernel_rfl,by kernel_rfl,by kernel_rfl,by kernel_rfl,by kernel_rfl⟩
def gU:List RS:=[(.ops [(.i (.v 6) (.bin (.int .i64) .lss (.v 5) (.v 4)))]),(.cond (.v 6) [] [(.exit 0)]),(.block 1 [(.ops [(.i .l (.mv (.v 5))),(.i (.v 3) (.mv (.l 0)))]),(.ops [(.i .l (.mv (.v 1))),(.i .l (.mv (.v 0))),(.i .l (.mv (.v 3))),(.i .l (.ixa (some 35) none (.l 1) (.l 0))),(.i .l (.load true 3 (.l 0))),(.i (.v 7) (.call (.l 4) [(.l 0)]))]),(.cond (.v 7) [(.ops [(.i .l (.mv (.v 3))),(.i (.v 2) (.mv (.l 0)))]),.ret] [])]),(.ops [(.i .l (.bin (.int .i64) .add (.v 5) (.c (.int .i64 1)))),(.i (.v 5) (.mv (.l 0)))])]
def tF:List RS:=[(.ops [(.i (.v 2) (.mv (.c (.int .i64 0))))]),(.ops [(.i .l (.mv (.v 0))),(.i (.v 4) (.len false (some 35) (.l 0))),(.i (.v 5) (.mv (.c (.int .i64 0))))]),(.block 0 [(.loop gU)]),(.ops [(.i (.v 2) (.mv (.c (.int .i64 (-1)))))]),.ret]
theorem CX:FnR Tryz.prog po 166 2 8 [0,1,4,5,7,8,9,16] tF [(.v 2)] true:=⟨_,_,Tryz.func166,rfl,rfl,by kernel_rfl,by kernel_rfl,by kernel_rfl,by kernel_rfl,by kernel_rfl⟩
def pk:List RS:=[(.ops [(.i (.v 2) (.box 3 (.v 0))),(.i (.v 3) (.box 3 (.v 1))),(.i (.v 4) (.mv (.c (.bool false))))]),(.ops [(.i .l (.fad 0 (.v 2))),(.i .l (.load false 1 (.l 0))),(.i .l (.fad 0 (.v 3))),(.i .l (.load false 1 (.l 0))),(.i .l (.bin (.int .i64) .eql (.l 2) (.l 0))),(.i .l (.mv (.l 0))),(.g (.l 0) true .l (.fad 1 (.v 2))),(.g (.l 1) true .l (.load false 1 (.l 0))),(.g (.l 2) true .l (.fad 1 (.v 3))),(.g (.l 3) true .l (.load false 1 (.l 0))),(.g (.l 4) true .l (.bin (.int .i64) .eql (.l 2) (.l 0))),(.i .l (.pick (.l 5) (.l 0) (.c (.bool false)))),(.i .l (.mv (.l 0))),(.g (.l 0) true .l (.fad 2 (.v 2))),(.g (.l 1) true .l (.load false 1 (.l 0))),(.g (.l 2) true .l (.fad 2 (.v 3))),(.g (.l 3) true .l (.load false 1 (.l 0))),(.g (.l 4) true .l (.call (.c (.fn 30 [] [])) [(.l 2),(.l 0)])),(.i .l (.pick (.l 5) (.l 0) (.c (.bool false)))),(.i (.v 4) (.mv (.l 0)))]),.ret]
theorem zq:FnR Tryz.prog po 19 2 5 [0,1,2,3,4] pk [(.v 4)] true:=⟨_,_,Tryz.func19,rfl,rfl,by kernel_rfl,by kernel_rfl,by kernel_rfl,by kernel_rfl,by kernel_rfl⟩
def fB:List RS:=[(.ops [(.i .l (.mv (.v 3))),(.i .l (.mv (.v 0))),(.i .l (.len false (some 35) (.l 0))),(.i (.v 5) (.bin (.int .i64) .lss (.l 2) (.l 0)))]),(.cond (.v 5) [] [(.exit 0)]),(.block 1 [(.ops [(.i .l (.mv (.v 0))),(.i .l (.mv (.v 3))),(.i .l (.ixa (some 35) none (.l 1) (.l 0))),(.i .l (.load true 3 (.l 0))),(.i .l (.mv (.v 1))),(.i .l (.mv (.v 3))),(.i .l (.ixa (some 35) none (.l 1) (.l 0))),(.i .l (.load true 3 (.l 0))),(.i .l (.call (.c (.fn 19 [] [])) [(.l 4),(.l 0)])),(.i (.v 6) (.un .not (.l 0)))]),(.cond (.v 6) [(.ops [(.i (.v 2) (.mv (.c (.bool false))))]),.ret] [])]),(.ops [(.i .l (.mv (.v 3))),(.i .l (.bin (.int .i64) .add (.l 0) (.c (.int .i64 1)))),(.i (.v 3) (.mv (.l 0)))])]
def kf:List RS:=[(.ops [(.i (.v 2) (.mv (.c (.bool false))))]),(.ops [(.i .l (.mv (.v 0))),(.i .l (.len false (some 35) (.l 0))),(.i .l (.mv (.v 1))),(.i .l (.len false (some 35) (.l 0))),(.i (.v 4) (.bin (.int .i64) .neq (.l 2) (.l 0)))]),(.cond (.v 4) [(.ops [(.i (.v 2) (.mv (.c (.bool false))))]),.ret] []),(.ops [(.i (.v 3) (.mv (.c (.int .i64 0))))]),(.block 0 [(.loop fB)]),(.ops [(.i (.v 2) (.mv (.c (.bool true))))]),.ret]
theorem nT:FnR Tryz.prog po 30 2 7 [0,1,4,5,10,14,26] kf [(.v 2)] true:=⟨_,_,Tryz.func30,rfl,rfl,by kernel_rfl,by kernel_rfl,by kernel_rfl,by kernel_rfl,by kernel_rfl⟩
def fV:List RS:=[(.ops [(.i .l (.mv (.v 5))),(.i .l (.fad 2 (.v 2))),(.i .l (.load false 1 (.l 0))),(.i .l (.len false (some 35) (.l 0))),(.i .l (.bin (.int .i64) .lss (.l 3) (.l 0))),(.i .l (.mv (.l 0))),(.g (.l 0) true .l (.mv (.v 4))),(.g (.l 1) true .l (.mv (.v 1))),(.g (.l 2) true .l (.bin (.int .i64) .leq (.l 1) (.l 0))),(.i (.v 6) (.pick (.l 3) (.l 0) (.c (.bool false))))]),(.cond (.v 6) [] [(.exit 0)]),(.block 1 [(.ops [(.i .l (.mv (.v 4))),(.i .l (.fad 2 (.v 2))),(.i .l (.load false 1 (.l 0))),(.i .l (.mv (.v 5))),(.i .l (.ixa (some 35) none (.l 1) (.l 0))),(.i .l (.load true 3 (.l 0))),(.i .l (.mv (.v 1))),(.i .l (.mv (.v 4))),(.i .l (.bin (.int .i64) .sub (.l 1) (.l 0))),(.i .l (.call (.c (.fn 46 [] [])) [(.l 3),(.l 0)])),(.i .l (.bin (.int .i64) .add (.l 9) (.l 0))),(.i (.v 4) (.mv (.l 0)))])]),(.ops [(.i .l (.mv (.v 5))),(.i .l (.bin (.int .i64) .add (.l 0) (.c (.int .i64 1)))),(.i (.v 5) (.mv (.l 0)))])]
def qL:List RS:=[(.ops [(.i (.v 2) (.box 3 (.v 0))),(.i (.v 3) (.mv (.c (.int .i64 0))))]),(.ops [(.i (.v 4) (.mv (.c (.int .i64 1))))]),(.ops [(.i (.v 5) (.mv (.c (.int .i64 0))))]),(.block 0 [(.loop fV)]),(.ops [(.i .l (.mv (.v 4))),(.i (.v 3) (.mv (.l 0)))]),.ret]
theorem z9:FnR Tryz.prog po 46 2 7 [0,1,2,4,5,6,16] qL [(.v 3)] true:=⟨_,_,Tryz.func46,rfl,rfl,by kernel_rfl,by kernel_rfl,by kernel_rfl,by kernel_rfl,by kernel_rfl⟩
def od:List RS:=[(.ops [(.i (.v 1) (.box 3 (.v 0))),(.i (.v 2) (.mv (.c (.bool false))))]),(.ops [(.i .l (.load true 3 (.v 1))),(.i .l (.call (.c (.fn 46 [] [])) [(.l 0),(.c (.int .i64 500))])),(.i .l (.bin (.int .i64) .gtr (.l 0) (.c (.int .i64 500)))),(.i (.v 2) (.mv (.l 0)))]),.ret]
theorem xK:FnR Tryz.prog po 11 1 3 [0,1,2] od [(.v 2)] true:=⟨_,_,Tryz.func11,rfl,rfl,by kernel_rfl,by kernel_rfl,by kernel_rfl,by kernel_rfl,by kernel_rfl⟩
def gG:List RS:=[(.ops [(.i .l (.mv (.v 4))),(.i .l (.fad 2 (.v 1))),(.i .l (.load false 1 (.l 0))),(.i .l (.len false (some 35) (.l 0))),(.i (.v 6) (.bin (.int .i64) .lss (.l 3) (.l 0)))]),(.cond (.v 6) [] [(.exit 0)]),(.block 1 [(.ops [(.i .l (.mv (.v 3))),(.i .l (.fad 2 (.v 1))),(.i .l (.load false 1 (.l 0))),(.i .l (.mv (.v 4))),(.i .l (.ixa (some 35) none (.l 1) (.l 0))),(.i .l (.load true 3 (.l 0))),(.i .l (.call (.c (.fn 165 [] [])) [(.l 0)])),(.i .l (.app false 3 (.l 6) (.l 0))),(.i (.v 3) (.mv (.l 0)))])]),(.ops [(.i .l (.mv (.v 4))),(.i .l (.bin (.int .i64) .add (.l 0) (.c (.int .i64 1)))),(.i (.v 4) (.mv (.l 0)))])]
def sw:List RS:=[(.ops [(.i (.v 1) (.box 3 (.v 0))),(.i (.v 2) (.mv (.c .nils)))]),(.ops [(.i (.v 3) (.mv (.c .nils)))]),(.ops [(.i .l (.fad 0 (.v 1))),(.i .l (.load false 1 (.l 0))),(.i (.v 5) (.bin (.int .i64) .eql (.l 0) (.c (.int .i64 4))))]),(.cond (.v 5) [(.ops [(.i .l (.fad 1 (.v 1))),(.i .l (.load false 1 (.l 0))),(.i .l (.bsl false 3 [(.int .i64 0)] 1 1 [(0,(.l 0))])),(.i (.v 3) (.mv (.l 0)))])] []),(.ops [(.i (.v 4) (.mv (.c (.int .i64 0))))]),(.block 0 [(.loop gG)]),(.ops [(.i .l (.mv (.v 3))),(.i (.v 2) (.mv (.l 0)))]),.ret]
theorem Cl:FnR Tryz.prog po 165 1 7 [0,1,2,3,4,7,15] sw [(.v 2)] true:=⟨_,_,Tryz.func165,rfl,rfl,by kernel_rfl,by kernel_rfl,by kernel_rfl,by kernel_rfl,by kernel_rfl⟩
theorem n7 {x y:VD} {i:Nat} (h:x.l[i]? =some y):bp (x.l.take (i+1))=bp (x.l.take i)+y.size∧bp (x.l.take (i+1))≤bp x.l:=by
 have e:=iq h
 constructor
 ·rw[e,fZ,yZ]
 ·have:=fZ (x.l.take (i+1)) (x.l.drop (i+1))
  rw[List.take_append_drop]at this
  omega
theorem kH (l:List VD) (i:Nat):bp (l.take i)≤bp l:=by
 have:=fZ (l.take i) (l.drop i)
 rw[List.take_append_drop]at this
 omega
theorem wH (l:List VD) {i:Nat} (hi:i<l.length):i≤bp (l.take i):=by
 have:=lw (l.take i)
 rw[List.length_take]at this
 omega
theorem eR {l:List VD} {i:Nat} {y:VD} (h:l[i]? =some y):y∈l:=List.mem_of_getElem? h
theorem iP {l:List VD} {i:Nat} (h:i<l.length):∃ y,l[i]? =some y:=⟨_,List.getElem?_eq_getElem h⟩
section
variable {h:AH}
def jf (left:Int) (n:Nat):Int:=if(n:Int)≤left then left - n else -1
theorem CJ:∀ (N:Nat) (x:VD),SizeOf.sizeOf x≤N→∀ (r:List AV) (h:AH) (left:Int),VaA x r→0≤left→left≤100000→
  ai Tryz.prog po 86 [.agg r,.int .i64 left] h=some (.inl (.int .i64 (jf left x.size)),h):=by
 intro N
 induction N with
 | zero=>intro x hx;have:=x.so_pos;omega
 | succ N ih=>
   intro x hx r h left he h0 h1
   obtain⟨v,es,rfl,hsl,hv,hn,hix⟩:=he.facts
   have hs:=x.size_eq
   have w1:=w64 (n:=left - 1) (by omega) (by omega)
   refine ep Fm rfl fun Q hQ=> ?_;unfold wg
   simp only[sim,af,reduceAdd,reduceSub,replicate,reduceCtorEq,reduceLeDiff,reduceLT,aa,hv,w1]
   refine fJ (fun i V h'=>∃ v5 cur,V=[.agg [.int .i64 x.kind,.int .i64 x.n,v],.int .i64 cur,.ptr h.n 0 0,.int .i64 0,.int .i64 (i:Nat),v5]∧h'=h.push [[.int .i64 x.kind,.int .i64 x.n,v]]∧cur=jf left (1+bp (x.l.take i))) x.l.length ⟨_,_,rfl,rfl,?_⟩ ?_ ?_
   ·simp only[jf,List.take_zero,bp]
    split<;>omega
   ·rintro i V h' hi ⟨v5,cur,rfl,rfl,hc⟩ next
    have hlt:(i:Int)<(es.length:Int):=by rw[hn];omega
    by_cases hp:0≤cur
    ·obtain⟨y,hy⟩:=iP hi
     obtain⟨q,i1,d1,x1⟩:=hix i y hy
     obtain⟨z1,z2⟩:=n7 hy
     have hil:=wH x.l hi
     have hcl:cur≤100000∧(i:Int)<100000:=by
      rw[hc,jf]at hp ⊢
      split at hp
      ·rename_i hh
       rw[if_pos hh]
       omega
      ·omega
     have hw:=w64 (n:=(i:Int)+1) (by omega) (by omega)
     have e1:=ih y (by have:=VD.lt_mem (eR hy);omega) q (h.push [[.int .i64 x.kind,.int .i64 x.n,v]]) cur x1 hp (by omega)
     rw[aC iI.eq_1]
     simp only[sim,af,reduceAdd,reduceSub,replicate,reduceCtorEq,reduceLeDiff,reduceLT,aa,hsl.len,hsl.fits,hlt,hp,i1,d1,e1,hw]
     refine next _ _ ⟨_,_,rfl,rfl,?_⟩
     rw[z1,hc]
     rw[hc]at hp
     simp only[jf]at hp ⊢
     repeat' split<;>omega
    ·rw[aC iI.eq_1]
     simp only[sim,af,reduceAdd,reduceSub,replicate,reduceCtorEq,reduceLeDiff,reduceLT,aa,hsl.len,hsl.fits,hlt,hp]
     refine hQ _ _ _ rfl (by repeat (first | exact ab.refl _ | refine ab.trans ?_ (ab.push _ _) | refine ab.trans ?_ (ab.fresh _ _))) ?_
     have e:cur=jf left x.size:=by
      rw[hc,jf]at hp
      rw[hc,jf,jf,hs]
      have:=kH x.l i
      split at hp
      ·omega
      ·rename_i hh
       rw[if_neg hh,if_neg (by omega)]
     rw[←e]
     rfl
   ·rintro V h' ⟨v5,cur,rfl,rfl,hc⟩
    have hlt:¬ ((x.l.length:Int)<(es.length:Int)):=by rw[hn];omega
    rw[List.take_length,←hs]at hc
    rw[aC iI.eq_1]
    simp only[sim,af,reduceAdd,reduceSub,replicate,reduceCtorEq,reduceLeDiff,reduceLT,aa,hsl.len,hsl.fits,hlt]
    exact hQ _ _ _ rfl (by repeat (first | exact ab.refl _ | refine ab.trans ?_ (ab.push _ _) | refine ab.trans ?_ (ab.fresh _ _))) (by rw[←hc];rfl)
theorem wz:∀ (N:Nat) (x:VD),SizeOf.sizeOf x≤N→∀ (r:List AV) (h:AH) (most:Int),VaA x r→0≤most→most≤100000→
  ai Tryz.prog po 46 [.agg r,.int .i64 most] h=some (.inl (.int .i64 (min (x.size:Int) (most+1))),h):=by
 intro N
 induction N with
 | zero=>intro x hx;have:=x.so_pos;omega
 | succ N ih=>
   intro x hx r h most he h0 h1
   obtain⟨v,es,rfl,hsl,hv,hn,hix⟩:=he.facts
   have hs:=x.size_eq
   refine ep z9 rfl fun Q hQ=> ?_;unfold qL
   simp only[sim,af,reduceAdd,reduceSub,replicate,reduceCtorEq,reduceLeDiff,reduceLT,aa,hv]
   refine fJ (fun i V h'=>∃ v6 cur,V=[.agg [.int .i64 x.kind,.int .i64 x.n,v],.int .i64 most,.ptr h.n 0 0,.int .i64 0,.int .i64 cur,.int .i64 (i:Nat),v6]∧h'=h.push [[.int .i64 x.kind,.int .i64 x.n,v]]∧cur=min ((1+bp (x.l.take i):Nat):Int) (most+1)) x.l.length ⟨_,_,rfl,rfl,?_⟩ ?_ ?_
   ·simp only[List.take_zero,bp]
    omega
   ·rintro i V h' hi ⟨v6,cur,rfl,rfl,hc⟩ next
    have hlt:(i:Int)<(es.length:Int):=by rw[hn];omega
    by_cases hp:cur≤most
    ·obtain⟨y,hy⟩:=iP hi
     obtain⟨q,i1,d1,x1⟩:=hix i y hy
     obtain⟨z1,z2⟩:=n7 hy
     have hil:=wH x.l hi
     have hw:=w64 (n:=(i:Int)+1) (by omega) (by omega)
     have hw1:=w64 (n:=most - cur) (by omega) (by omega)
     have e1:=ih y (by have:=VD.lt_mem (eR hy);omega) q (h.push [[.int .i64 x.kind,.int .i64 x.n,v]]) (most - cur) x1 (by omega) (by omega)
     have hw2:=w64 (n:=cur+min (y.size:Int) (most - cur+1)) (by omega) (by omega)
     rw[aC fV.eq_1]
     simp only[sim,af,reduceAdd,reduceSub,replicate,reduceCtorEq,reduceLeDiff,reduceLT,aa,hsl.len,hsl.fits,hlt,hp,i1,d1,hw1,e1,hw2,hw]
     refine next _ _ ⟨_,_,rfl,rfl,?_⟩
     rw[z1]
     omega
    ·rw[aC fV.eq_1]
     simp only[sim,af,reduceAdd,reduceSub,replicate,reduceCtorEq,reduceLeDiff,reduceLT,aa,hsl.len,hsl.fits,hlt,hp]
     refine hQ _ _ _ rfl (by repeat (first | exact ab.refl _ | refine ab.trans ?_ (ab.push _ _) | refine ab.trans ?_ (ab.fresh _ _))) ?_
     have e:cur=min (x.size:Int) (most+1):=by
      have:=kH x.l i
      omega
     rw[←e]
     rfl
   ·rintro V h' ⟨v6,cur,rfl,rfl,hc⟩
    have hlt:¬ ((x.l.length:Int)<(es.length:Int)):=by rw[hn];omega
    rw[List.take_length,←hs]at hc
    rw[aC fV.eq_1]
    simp only[sim,af,reduceAdd,reduceSub,replicate,reduceCtorEq,reduceLeDiff,reduceLT,aa,hsl.len,hsl.fits,hlt]
    exact hQ _ _ _ rfl (by repeat (first | exact ab.refl _ | refine ab.trans ?_ (ab.push _ _) | refine ab.trans ?_ (ab.fresh _ _))) (by rw[←hc];rfl)
theorem vk {x:VD} {r:List AV} (he:VaA x r):ai Tryz.prog po 11 [.agg r] h=some (.inl (.bool x.great),h):=by
 obtain⟨o1,o2⟩:=he.one
 have e1:=fun h=>wz _ x (Nat.le_refl _) r h 500 he (by omega) (by omega)
 have e2:(500<min (x.size:Int) (500+1))=(500<x.size):=propext (by omega)
 refine ep xK rfl fun Q hQ=> ?_;unfold od
 simp only[sim,af,reduceAdd,reduceSub,replicate,reduceCtorEq,reduceLeDiff,reduceLT,aa,o1,o2,br o2,e1,e2]
 exact hQ _ _ _ rfl (by repeat (first | exact ab.refl _ | refine ab.trans ?_ (ab.push _ _) | refine ab.trans ?_ (ab.fresh _ _))) rfl
theorem zm {kind n:Int} {len:Nat} (h:de kind n len=0):len=iv kind∧(kind=0∨kind=1∨kind=2∨kind=3∨kind=4∨kind=5):=by
 unfold de at h
 split at h
 ·cases h
 ·split at h
  ·cases h
  ·exact⟨by omega,by omega⟩
theorem FX (kind:Int):iv kind≤2:=by unfold iv;split;omega;split<;>omega
theorem xW {l:List VD} {i:Nat} {y:VD} (h:l[i]? =some y):cP (l.drop i)=if y.fault≠0 then y.fault else cP (l.drop (i+1)):=by
 obtain⟨hi,rfl⟩:=List.getElem?_eq_some_iff.1 h
 rw[List.drop_eq_getElem_cons hi,fg]
end
def uF:List RS:=[(.ops [(.i (.v 2) (.mv (.c (.bool false))))]),(.ops [(.i .l (.mv (.v 0))),(.i .l (.mv (.v 1))),(.i .l (.bin (.int .i64) .and (.l 1) (.l 0))),(.i .l (.mv (.v 1))),(.i .l (.bin (.int .i64) .eql (.l 1) (.l 0))),(.i (.v 2) (.mv (.l 0)))]),.ret]
theorem BG:FnR Tryz.prog po 144 2 3 [0,1,4] uF [(.v 2)] true:=⟨_,_,Tryz.func144,rfl,rfl,by kernel_rfl,by kernel_rfl,by kernel_rfl,by kernel_rfl,by kernel_rfl⟩
def pW:List RS:=[(.ops [(.i (.v 2) (.mv (.v 0)))]),(.cond (.v 2) [(.ops [(.i .l (.mv (.v 1))),(.i .l (.mki 210 (.l 0))),(.i .n (.pan (.l 0)))])] [])]
theorem wa:FnR Tryz.prog po 161 2 3 [0,1,4] pW [] true:=⟨_,_,Tryz.func161,rfl,rfl,by kernel_rfl,by kernel_rfl,by kernel_rfl,by kernel_rfl,by kernel_rfl⟩
def jE:List RS:=[(.ops [(.i (.v 9) (.bin (.int .i64) .lss (.v 8) (.v 7)))]),(.cond (.v 9) [] [(.exit 0)]),(.block 1 [(.ops [(.i .l (.ixa (some 3) none (.v 6) (.v 8))),(.i .l (.load false 1 (.l 0))),(.i (.v 3) (.mv (.l 0)))]),(.ops [(.i .l (.mv (.v 0))),(.i .l (.nilc (.l 0))),(.i .l (.fad 0 (.l 0))),(.i .l (.load false 1 (.l 0))),(.i .l (.mv (.v 1))),(.i .l (.mv (.v 3))),(.i .l (.call (.c (.fn 84 [] [])) [(.l 2),(.l 1),(.c (.int .i64 15)),(.l 0)])),(.i .l (.mv (.l 0))),(.i .l (.ext (.l 0) 0)),(.i .l (.ext (.l 1) 1)),(.i (.v 4) (.mv (.l 1))),(.i (.v 5) (.mv (.l 0)))]),(.ops [(.i .l (.mv (.v 5))),(.i .l (.bin (.int .i64) .neq (.l 0) (.c (.int .i64 0)))),(.i .l (.mv (.v 5))),(.i .l (.call (.c (.fn 161 [] [])) [(.l 1),(.l 0)]))]),(.ops [(.i .l (.mv (.v 4))),(.i (.v 1) (.mv (.l 0)))])]),(.ops [(.i .l (.bin (.int .i64) .add (.v 8) (.c (.int .i64 1)))),(.i (.v 8) (.mv (.l 0)))])]
def AG:List RS:=[(.ops [(.i (.v 2) (.mv (.c (.int .i64 0))))]),(.ops [(.i .l (.mv (.v 0))),(.i .l (.nilc (.l 0))),(.i .l (.fad 1 (.l 0))),(.i (.v 6) (.load false 1 (.l 0))),(.i (.v 7) (.len false (some 3) (.v 6))),(.i (.v 8) (.mv (.c (.int .i64 0))))]),(.block 0 [(.loop jE)]),(.ops [(.i .l (.mv (.v 1))),(.i (.v 2) (.mv (.l 0)))]),.ret]
theorem Is:FnR Tryz.prog po 146 2 10 [0,1,4,6,7,8,12,13,14,15] AG [(.v 2)] false:=⟨_,_,Tryz.func146,rfl,rfl,by kernel_rfl,by kernel_rfl,by kernel_rfl,by kernel_rfl,by kernel_rfl⟩
def ia:List RS:=[(.ops [(.i (.v 10) (.bin (.int .i64) .lss (.v 9) (.v 8)))]),(.cond (.v 10) [] [(.exit 0)]),(.block 1 [(.ops [(.i .l (.ixa (some 35) none (.v 7) (.v 9))),(.i .l (.load true 3 (.l 0))),(.i (.v 5) (.alloc [(.int .i64 0),(.int .i64 0),.nils])),(.i .n (.store 3 (.v 5) (.l 0)))]),(.ops [(.i .l (.fad 2 (.v 4))),(.i .l (.load false 1 (.l 0))),(.i .l (.mv (.v 0))),(.i .l (.load true 3 (.v 5))),(.i .l (.call (.c (.fn 128 [] [])) [(.l 1),(.l 0)])),(.ck [⟨none,false,1,(.l 4),(.l 3)⟩]),(.i .l (.bsl false 35 [(.int .i64 0),(.int .i64 0),.nils] 3 1 [(0,(.l 0))])),(.ck [⟨none,false,1,(.l 5),(.l 4)⟩]),(.i .l (.app false 35 (.l 4) (.l 0))),(.i .l (.fad 2 (.v 4))),(.i .n (.store 1 (.l 0) (.l 1)))])]),(.ops [(.i .l (.bin (.int .i64) .add (.v 9) (.c (.int .i64 1)))),(.i (.v 9) (.mv (.l 0)))])]
def AA:List RS:=[(.ops [(.i (.v 2) (.box 3 (.v 1))),(.i (.v 3) (.alloc [(.int .i64 0),(.int .i64 0),.nils]))]),(.ops [(.i .l (.fad 0 (.v 2))),(.i .l (.load false 1 (.l 0))),(.i .l (.fad 1 (.v 2))),(.i .l (.load false 1 (.l 0))),(.i .l (.build [(.int .i64 0),(.int .i64 0),.nils] [(0,1),(1,1),(2,1)] [(0,(.l 2)),(1,(.l 0))])),(.i (.v 4) (.alloc [(.int .i64 0),(.int .i64 0),.nils])),(.i .n (.store 3 (.v 4) (.l 0)))]),(.ops [(.i .l (.fad 0 (.v 2))),(.i .l (.load false 1 (.l 0))),(.i (.v 6) (.bin (.int .i64) .eql (.l 0) (.c (.int .i64 4))))]),(.cond (.v 6) [(.ops [(.i .l (.mv (.v 0))),(.i .l (.fad 1 (.v 2))),(.i .l (.load false 1 (.l 0))),(.i .l (.call (.c (.fn 146 [] [])) [(.l 2),(.l 0)])),(.i .l (.fad 1 (.v 4))),(.i .n (.store 1 (.l 0) (.l 1)))])] []),(.ops [(.i .l (.fad 2 (.v 2))),(.i (.v 7) (.load false 1 (.l 0))),(.i (.v 8) (.len false (some 35) (.v 7))),(.i (.v 9) (.mv (.c (.int .i64 0))))]),(.block 0 [(.loop ia)]),(.ops [(.i .l (.load true 3 (.v 4))),(.i .n (.store 3 (.v 3) (.l 0)))]),.ret]
theorem H7:FnR Tryz.prog po 128 2 11 [0,1,3,4,5,7,15,22,23,24,25] AA [(.cell true 3 3)] false:=⟨_,_,Tryz.func128,rfl,rfl,by kernel_rfl,by kernel_rfl,by kernel_rfl,by kernel_rfl,by kernel_rfl⟩
def jJ:List RS:=[(.ops [(.i (.v 11) (.bin (.int .i64) .lss (.v 10) (.v 9)))]),(.cond (.v 11) [] [(.exit 0)]),(.block 1 [(.ops [(.i .l (.ixa (some 3) none (.v 8) (.v 10))),(.i .l (.load false 1 (.l 0))),(.i (.v 5) (.mv (.l 0)))]),(.ops [(.i .l (.mv (.v 0))),(.i .l (.mv (.v 5))),(.i .l (.call (.c (.fn 145 [] [])) [(.l 1),(.l 0)])),(.i .l (.call (.c (.fn 144 [] [])) [(.l 0),(.c (.int .i64 4))])),(.i (.v 12) (.un .not (.l 0)))]),(.cond (.v 12) [(.ops [(.i (.v 3) (.mv (.c (.int .i64 9))))]),.ret] [])]),(.ops [(.i .l (.bin (.int .i64) .add (.v 10) (.c (.int .i64 1)))),(.i (.v 10) (.mv (.l 0)))])]
def oL:List RS:=[(.ops [(.i (.v 2) (.box 3 (.v 1))),(.i (.v 3) (.mv (.c (.int .i64 0))))]),(.ops [(.i .l (.load true 3 (.v 2))),(.i .l (.call (.c (.fn 47 [] [])) [(.l 0)])),(.i (.v 4) (.mv (.l 0)))]),(.ops [(.i .l (.mv (.v 4))),(.i (.v 6) (.bin (.int .i64) .neq (.l 0) (.c (.int .i64 0))))]),(.cond (.v 6) [(.ops [(.i .l (.mv (.v 4))),(.i (.v 3) (.mv (.l 0)))]),.ret] []),(.ops [(.i .l (.load true 3 (.v 2))),(.i (.v 7) (.call (.c (.fn 142 [] [])) [(.l 0)]))]),(.cond (.v 7) [(.ops [(.i (.v 3) (.mv (.c (.int .i64 9))))]),.ret] []),(.ops [(.i .l (.load true 3 (.v 2))),(.i (.v 8) (.call (.c (.fn 143 [] [])) [(.l 0)])),(.i (.v 9) (.len false (some 3) (.v 8))),(.i (.v 10) (.mv (.c (.int .i64 0))))]),(.block 0 [(.loop jJ)]),(.ops [(.i (.v 3) (.mv (.c (.int .i64 0))))]),.ret]
theorem uE:FnR Tryz.prog po 126 2 13 [0,1,3,4,5,7,11,14,16,17,18,19,26] oL [(.v 3)] true:=⟨_,_,Tryz.func126,rfl,rfl,by kernel_rfl,by kernel_rfl,by kernel_rfl,by kernel_rfl,by kernel_rfl⟩
open Go.RowKit
structure fx where
 (d a b c e:Int)
def ae.step (G:ae) (x:fx):ae×Int×Int:=
 if x.d=0 then G.gate else if x.d=1 then((G.cut x.a).1,0,(G.cut x.a).2)else if x.d=2 then G.cellC x.a x.b x.c else if x.d=3 then G.funcC x.a x.e x.b x.c else if x.d=4 then G.derive x.a x.b x.c else(G,0,0)
theorem ae.Wf.step {G:ae} (h:G.Wf) (x:fx):(G.step x).1.Wf:=by
 unfold ae.step
 split
 ·exact h.gate
 split
 ·exact h.cut _
 split
 ·exact h.cellC _ _ _
 split
 ·exact h.funcC _ _ _ _
 split
 ·exact h.derive _ _ _
 ·exact h
theorem ae.path_last {G:ae} (hW:G.Wf):∀ (f:Nat) (i:Int),i.toNat<f→G.has i=true→∃ pre t,G.path i=pre++[t]∧t.parent= -1∧∃ k:Nat,G.nodes[k]? =some t:=by
 intro f
 induction f with
 | zero=>intro i hi;omega
 | succ f ih=>
   intro i hi hh
   have ok:=hW.get hh
   have hget:G.nodes[i.toNat]? =some (G.nodes.getD i.toNat dQ):=by
    simp[ae.has]at hh
    have:i.toNat<G.nodes.length:=by omega
    simp[List.getD,this]
   rw[ae.path_yes hW hh]
   by_cases hp:G.has (G.nodes.getD i.toNat dQ).parent=true
   ·have hp0:0≤(G.nodes.getD i.toNat dQ).parent:=by simp only[ae.has,decide_eq_true_eq]at hp;exact hp.1
    have hp1:=ok.p1
    obtain⟨pre,t,h1,h2,h3⟩:=ih (G.nodes.getD i.toNat dQ).parent (by omega) hp
    exact⟨_::pre,t,by rw[h1];rfl,h2,h3⟩
   ·refine⟨[],_,by rw[ae.path_no (by simpa using hp)];rfl,?_,_,hget⟩
    have h0:=ok.p0
    have h1:=ok.p1
    have hi2:i.toNat<G.nodes.length:=(List.getElem?_eq_some_iff.1 hget).1
    simp only[ae.has,decide_eq_true_eq,not_and]at hp
    rcases Int.lt_or_le (G.nodes.getD i.toNat dQ).parent 0 with h | h
    ·omega
    ·have:=hp h;omega
theorem ae.target_ok {G:ae} (hW:G.Wf) {i:Int} (hh:G.has i=true):(G.target i).2=true∧(G.target i).1.parent= -1∧((G.target i).1.plugin= -1∧0≤(G.target i).1.cell∧(G.target i).1.cell<12∧(G.target i).1.func=0∨0≤(G.target i).1.plugin∧(G.target i).1.plugin<4∧0≤(G.target i).1.func∧(G.target i).1.func<6∧(G.target i).1.cell=0):=by
 obtain⟨pre,t,h1,h2,k,hk⟩:=ae.path_last hW (i.toNat+1) i (by omega) hh
 have ht:G.target i=(t,true):=by
  unfold ae.target
  rw[h1]
  simp[List.getLastD_eq_getLast?]
 rw[ht]
 exact⟨rfl,h2,(hW.node k t hk).t h2⟩
theorem ae.path_ok {G:ae} (hW:G.Wf):∀ (f:Nat) (i:Int),∀ n∈G.pathF f i,hD n.rights=true∧(n.gate= -1∨0≤n.gate∧n.gate<G.shut.length):=by
 intro f
 induction f with
 | zero=>intro i n hn;simp[ae.pathF]at hn
 | succ f ih=>
   intro i n hn
   unfold ae.pathF at hn
   split at hn
   ·rename_i hk
    rcases List.mem_cons.1 hn with rfl | hn
    ·exact⟨(hW.get hk).r,(hW.get hk).g⟩
    ·exact ih _ n hn
   ·simp at hn
theorem qQ {G:ae} (hW:G.Wf) (i:Int):∃ x:BitVec 64,G.rights i=x.toInt:=by
 unfold ae.rights
 split
 ·exact⟨0#64,rfl⟩
 ·exact⟨_,z8 _ (fun n hn=>(ae.path_ok hW _ i n hn).1) 15#64⟩
theorem MO (x:VD):(id x).kind=x.kind:=rfl
theorem MC (x:VD):(id x).l=x.l.map id:=by simp
section
variable {h:AH}
theorem H0 (i:Option Nat):∀ (k:Int),(k=0∨k=1∨k=2∨k=3∨k=4∨k=5)→cj (some 3) none (.isl i 3 [[.int .i64 0],[.int .i64 0],[.int .i64 2],[.int .i64 1],[.int .i64 0],[.int .i64 0]]) (.int .i64 k)=some (.ip [.int .i64 (iv k:Nat)] 0):=by
 rintro k (rfl | rfl | rfl | rfl | rfl | rfl)<;>rfl
set_option maxHeartbeats 1000000 in
theorem yy:∀ (N:Nat) (x:VD),SizeOf.sizeOf x≤N→∀ (r:List AV) (h:AH),VaA x r→
  ai Tryz.prog po 87 [.agg r] h=some (.inl (.int .i64 x.fault),h):=by
 intro N
 induction N with
 | zero=>intro x hx;have:=x.so_pos;omega
 | succ N ih=>
   intro x hx r h he
   obtain⟨v,es,rfl,hsl,hv,hn,hix⟩:=he.facts
   have hfe:=x.fault_eq
   rw[hfe]
   have loop:de x.kind x.n x.l.length=0→∀ (Q:iC→Prop) (v3 v6 v7 v8:AV),(∀ V h',(ei V h' [.v 2]).map eO=some (.int .i64 (cP x.l))→ab h h'→Q (some (.ret,V,h')))→
     Q (ap (ai Tryz.prog po) 14 (.lp fk:: .ss []:: .blk 1::[.ss [.ops [(.i (.v 2) (.mv (.c (.int .i64 0))))],.ret]])
       [.agg [.int .i64 x.kind,.int .i64 x.n,v],.ptr h.n 0 0,.int .i64 0,v3,.junk,.junk,v6,v7,v8,v,.int .i64 es.length,.int .i64 0,.junk,.junk] [] ((h.push [[.int .i64 x.kind,.int .i64 x.n,v]]).fresh 6)):=by
    intro hd Q v3 v6 v7 v8 hQ
    obtain⟨hlen, -⟩:=zm hd
    have hwf:=FX x.kind
    refine fJ (fun i V h'=>∃ v4 v5 v12 v13,V=[.agg [.int .i64 x.kind,.int .i64 x.n,v],.ptr h.n 0 0,.int .i64 0,v3,v4,v5,v6,v7,v8,v,.int .i64 es.length,.int .i64 (i:Nat),v12,v13]∧ab h h'∧cP (x.l.drop i)=cP x.l) x.l.length ⟨_,_,_,_,rfl,(by repeat (first | exact ab.refl _ | refine ab.trans ?_ (ab.push _ _) | refine ab.trans ?_ (ab.fresh _ _))),rfl⟩ ?_ ?_
    ·rintro i V h' hi ⟨v4,v5,v12,v13,rfl,g,hc⟩ next
     have hlt:(i:Int)<(es.length:Int):=by rw[hn];omega
     obtain⟨y,hy⟩:=iP hi
     obtain⟨q,i1,d1,x1⟩:=hix i y hy
     obtain⟨o1,o2⟩:=x1.one
     have hw:=w64 (n:=(i:Int)+1) (by omega) (by omega)
     have e1:=ih y (by have:=VD.lt_mem (eR hy);omega) q (h'.push [q]) x1
     rw[xW hy]at hc
     by_cases hf:y.fault=0
     ·rw[if_neg (by simp[hf])]at hc
      rw[hf]at e1
      rw[aC fk.eq_1]
      simp only[sim,af,reduceAdd,reduceSub,replicate,reduceCtorEq,reduceLeDiff,reduceLT,aa,hlt,i1,d1,o1,o2,br o2,e1,hw]
      exact next _ _ ⟨_,_,_,_,rfl,g.trans (by repeat (first | exact ab.refl _ | refine ab.trans ?_ (ab.push _ _) | refine ab.trans ?_ (ab.fresh _ _))),hc⟩
     ·rw[if_pos hf]at hc
      rw[aC fk.eq_1]
      simp only[sim,af,reduceAdd,reduceSub,replicate,reduceCtorEq,reduceLeDiff,reduceLT,aa,hlt,i1,d1,o1,o2,br o2,e1,hf]
      exact hQ _ _ (by rw[←hc];rfl) (g.trans (by repeat (first | exact ab.refl _ | refine ab.trans ?_ (ab.push _ _) | refine ab.trans ?_ (ab.fresh _ _))))
    ·rintro V h' ⟨v4,v5,v12,v13,rfl,g,hc⟩
     have hlt:¬ ((x.l.length:Int)<(es.length:Int)):=by rw[hn];omega
     rw[List.drop_length]at hc
     rw[aC fk.eq_1]
     simp only[sim,af,reduceAdd,reduceSub,replicate,reduceCtorEq,reduceLeDiff,reduceLT,aa,hlt]
     exact hQ _ _ (by rw[←hc];rfl) g
   refine ep Ct rfl fun Q hQ=> ?_;unfold su
   by_cases hk:x.kind=0∨x.kind=1∨x.kind=2∨x.kind=3∨x.kind=4∨x.kind=5
   ·have wi:=fun i=>H0 i x.kind hk
    have k0:¬ x.kind<0:=by omega
    have k5:¬ 5<x.kind:=by omega
    by_cases hl:(x.l.length:Nat)=iv x.kind
    ·have hl':(es.length:Int)=(iv x.kind:Int):=by rw[hn,hl]
     have hh0:de x.kind x.n x.l.length=if(x.kind=0∨x.kind=2)∧x.n≠0 then 5 else if 3≤x.kind∧x.n<0 then 1 else 0:=by
      unfold de
      rw[if_neg (by omega),if_neg (by omega)]
     have L:=loop
     rw[hh0]at L hQ
     rw[hl']at L
     by_cases hz:x.n=0
     ·rcases hk with hk | hk | hk | hk | hk | hk
      all_goals
       rw[hk]at hl' L hQ wi
       simp only[iv,Int.reduceEq,if_false,if_true,Int.cast_ofNat_Int,Int.natCast_zero,Int.natCast_one,hz,not_true,ne_eq,and_false,Int.lt_irrefl]at hl' L hQ wi
       simp only[sim,af,reduceAdd,reduceSub,replicate,reduceCtorEq,reduceLeDiff,reduceLT,aa,hv,hk,hz,Int.reduceEq,Int.reduceLT,Int.reduceLE,hsl.len,hsl.fits,hl',wi,Int.lt_irrefl]
       exact L trivial _ _ _ _ _ fun V h' e g=>hQ _ _ _ e g rfl
     ·by_cases hng:x.n<0
      all_goals
       rcases hk with hk | hk | hk | hk | hk | hk
       all_goals
        rw[hk]at hl' L hQ wi
        simp only[iv,Int.reduceEq,Int.reduceLE,if_false,if_true,Int.cast_ofNat_Int,Int.natCast_zero,Int.natCast_one,hz,hng,not_true,not_false_eq_true,ne_eq,and_false,and_true,true_or,or_true,false_or,or_false,or_self]at hl' L hQ wi
        simp only[sim,af,reduceAdd,reduceSub,replicate,reduceCtorEq,reduceLeDiff,reduceLT,aa,hv,hk,hz,hng,Int.reduceEq,Int.reduceLT,Int.reduceLE,hsl.len,hsl.fits,hl',wi]
        first
         | exact hQ _ _ _ rfl (by repeat (first | exact ab.refl _ | refine ab.trans ?_ (ab.push _ _) | refine ab.trans ?_ (ab.fresh _ _))) rfl
         | exact L trivial _ _ _ _ _ fun V h' e g=>hQ _ _ _ e g rfl
    ·have hh:de x.kind x.n x.l.length=5:=by
      unfold de
      rw[if_neg (by omega),if_pos hl]
     have hl':¬ (es.length:Int)=(iv x.kind:Int):=by rw[hn];omega
     rw[hh]at hQ
     simp only[sim,af,reduceAdd,reduceSub,replicate,reduceCtorEq,reduceLeDiff,reduceLT,aa,hv,k0,k5,hsl.len,hsl.fits,wi,hl']
     exact hQ _ _ _ rfl (by repeat (first | exact ab.refl _ | refine ab.trans ?_ (ab.push _ _) | refine ab.trans ?_ (ab.fresh _ _))) rfl
   ·have hh:de x.kind x.n x.l.length=2:=by
     unfold de
     rw[if_pos (by omega)]
    rw[hh]at hQ
    by_cases k0:x.kind<0
    ·simp only[sim,af,reduceAdd,reduceSub,replicate,reduceCtorEq,reduceLeDiff,reduceLT,aa,hv,k0]
     exact hQ _ _ _ rfl (by repeat (first | exact ab.refl _ | refine ab.trans ?_ (ab.push _ _) | refine ab.trans ?_ (ab.fresh _ _))) rfl
    ·have k5:5<x.kind:=by omega
     simp only[sim,af,reduceAdd,reduceSub,replicate,reduceCtorEq,reduceLeDiff,reduceLT,aa,hv,k0,k5]
     exact hQ _ _ _ rfl (by repeat (first | exact ab.refl _ | refine ab.trans ?_ (ab.push _ _) | refine ab.trans ?_ (ab.fresh _ _))) rfl
theorem jx {x:VD} {r:List AV} (he:VaA x r):ai Tryz.prog po 47 [.agg r] h=some (.inl (.int .i64 x.code),h):=by
 obtain⟨o1,o2⟩:=he.one
 have e1:=fun h=>CJ _ x (Nat.le_refl _) r h 40 he (by omega) (by omega)
 have e2:=fun h=>yy _ x (Nat.le_refl _) r h he
 by_cases hs:40<x.size
 ·have e3:jf 40 x.size= -1:=by rw[jf,if_neg (by omega)]
  have e4:x.code=3:=by rw[VD.code,if_pos hs]
  rw[e4]
  simp only[e3]at e1
  refine ep tz rfl fun Q hQ=> ?_;unfold nn
  simp only[sim,af,reduceAdd,reduceSub,replicate,reduceCtorEq,reduceLeDiff,reduceLT,aa,o1,o2,br o2,e1,Int.reduceLT]
  exact hQ _ _ _ rfl (by repeat (first | exact ab.refl _ | refine ab.trans ?_ (ab.push _ _) | refine ab.trans ?_ (ab.fresh _ _))) rfl
 ·have e3:¬ jf 40 x.size<0:=by rw[jf,if_pos (by omega)];omega
  have e4:x.code=x.fault:=by rw[VD.code,if_neg hs]
  rw[e4]
  refine ep tz rfl fun Q hQ=> ?_;unfold nn
  simp only[sim,af,reduceAdd,reduceSub,replicate,reduceCtorEq,reduceLeDiff,reduceLT,aa,o1,o2,br o2,e1,e3,e2]
  exact hQ _ _ _ rfl (by repeat (first | exact ab.refl _ | refine ab.trans ?_ (ab.push _ _) | refine ab.trans ?_ (ab.fresh _ _))) rfl
theorem yj {l l':List VD} {i:Nat} {x y:VD} (h1:l[i]? =some x) (h2:l'[i]? =some y):et (l.drop i) (l'.drop i)=(j7 x y && et (l.drop (i+1)) (l'.drop (i+1))):=by
 obtain⟨k1,rfl⟩:=List.getElem?_eq_some_iff.1 h1
 obtain⟨k2,rfl⟩:=List.getElem?_eq_some_iff.1 h2
 rw[List.drop_eq_getElem_cons k1,List.drop_eq_getElem_cons k2]
 rfl
theorem vq (l l':List VD) (v w:AV) (hv:∀ h,qS h v l) (hw:∀ h,qS h w l') (hl:l.length≤100000)
  (hc:∀ x∈l,∀ (y:VD) (q q':List AV) (h:AH),VaA x q→VaA y q'→ai Tryz.prog po 19 [.agg q,.agg q'] h=some (.inl (.bool (j7 x y)),h)):
  ai Tryz.prog po 30 [v,w] h=some (.inl (.bool (et l l')),h):=by
 have vl:=(hv h).len
 have vf:=(hv h).fits
 have wl:=(hw h).len
 have wf:=(hw h).fits
 cases hd:decide ((l.length:Int)=(l'.length:Int))
 ·rw[C3 hd]
  refine ep nT rfl fun Q hQ=> ?_;unfold kf
  simp only[sim,af,reduceAdd,reduceSub,replicate,reduceCtorEq,reduceLeDiff,reduceLT,aa,vl,vf,wl,wf,hd]
  exact hQ _ _ _ rfl (by repeat (first | exact ab.refl _ | refine ab.trans ?_ (ab.push _ _) | refine ab.trans ?_ (ab.fresh _ _))) rfl
 ·have hll:l.length=l'.length:=by have:=of_decide_eq_true hd;omega
  refine ep nT rfl fun Q hQ=> ?_;unfold kf
  simp only[sim,af,reduceAdd,reduceSub,replicate,reduceCtorEq,reduceLeDiff,reduceLT,aa,vl,vf,wl,wf,hd]
  refine fJ (fun i V h'=>∃ v4 v5 v6,V=[v,w,.bool false,.int .i64 (i:Nat),v4,v5,v6]∧ab h h'∧et (l.drop i) (l'.drop i)=et l l') l.length ⟨_,_,_,rfl,ab.refl _,rfl⟩ ?_ ?_
  ·rintro i V h' hi ⟨v4,v5,v6,rfl,g,hs⟩ next
   have hlt:(i:Int)<(l.length:Int):=by omega
   have hwi:=w64 (n:=(i:Int)+1) (by omega) (by omega)
   obtain⟨x,hx⟩:=iP hi
   obtain⟨y,hy⟩:=iP (l:=l') (i:=i) (by omega)
   obtain⟨a,q,i1,i2,x1⟩:=(hv h').ix i x hx
   obtain⟨b,q',j1,j2,y1⟩:=(hw h').ix i y hy
   have e1:=hc x (eR hx) y q q' h' x1 y1
   rw[yj hx hy]at hs
   cases hb:j7 x y
   ·rw[hb]at e1 hs
    rw[Bool.false_and]at hs
    rw[aC fB.eq_1]
    simp only[sim,af,reduceAdd,reduceSub,replicate,reduceCtorEq,reduceLeDiff,reduceLT,aa,vl,vf,hlt,i1,i2 _ (ab.refl h'),j1,j2 _ (ab.refl h'),e1]
    exact hQ _ _ _ rfl g (by rw[←hs];rfl)
   ·rw[hb]at e1 hs
    rw[Bool.true_and]at hs
    rw[aC fB.eq_1]
    simp only[sim,af,reduceAdd,reduceSub,replicate,reduceCtorEq,reduceLeDiff,reduceLT,aa,vl,vf,hlt,i1,i2 _ (ab.refl h'),j1,j2 _ (ab.refl h'),e1,hwi]
    exact next _ _ ⟨_,_,_,rfl,g,hs⟩
  ·rintro V h' ⟨v4,v5,v6,rfl,g,hs⟩
   have hlt:¬ ((l.length:Int)<(l.length:Int)):=by omega
   rw[List.drop_length,hll,List.drop_length]at hs
   rw[aC fB.eq_1]
   simp only[sim,af,reduceAdd,reduceSub,replicate,reduceCtorEq,reduceLeDiff,reduceLT,aa,vl,vf,hlt]
   exact hQ _ _ _ rfl g (by rw[←hs];rfl)
theorem wI:∀ (N:Nat) (x:VD),SizeOf.sizeOf x≤N→x.size≤100000→∀ (y:VD) (q q':List AV) (h:AH),VaA x q→VaA y q'→
  ai Tryz.prog po 19 [.agg q,.agg q'] h=some (.inl (.bool (j7 x y)),h):=by
 intro N
 induction N with
 | zero=>intro x hx;have:=x.so_pos;omega
 | succ N ih=>
   intro x hx hsz y q q' h hq hq'
   obtain⟨v,es,rfl,hs,hl⟩:=hq.row
   obtain⟨w,es',rfl,hs',hl'⟩:=hq'.row
   have mv:∀ h,qS h v x.l:=fun h=>qS.of hs hl
   have mw:∀ h,qS h w y.l:=fun h=>qS.of hs' hl'
   have hlen:=x.len_size
   have e1:=fun h=>vq (h:=h) x.l y.l v w mv mw (by omega) (fun z hz y q q' h=>ih z (by have:=VD.lt_mem hz;omega) (by have:=VD.size_mem hz;omega) y q q' h)
   have o1:=(mv h).one
   have o2:=(mw h).one
   rw[FD]
   refine ep zq rfl fun Q hQ=> ?_;unfold pk
   cases hk:decide (x.kind=y.kind)
   ·simp only[sim,af,reduceAdd,reduceSub,replicate,reduceCtorEq,reduceLeDiff,reduceLT,aa,o1,o2,hk]
    exact hQ _ _ _ rfl (by repeat (first | exact ab.refl _ | refine ab.trans ?_ (ab.push _ _) | refine ab.trans ?_ (ab.fresh _ _))) (by rw[hk];rfl)
   ·cases hn:decide (x.n=y.n)
    ·simp only[sim,af,reduceAdd,reduceSub,replicate,reduceCtorEq,reduceLeDiff,reduceLT,aa,o1,o2,hk,hn]
     exact hQ _ _ _ rfl (by repeat (first | exact ab.refl _ | refine ab.trans ?_ (ab.push _ _) | refine ab.trans ?_ (ab.fresh _ _))) (by rw[hk,hn];rfl)
    ·simp only[sim,af,reduceAdd,reduceSub,replicate,reduceCtorEq,reduceLeDiff,reduceLT,aa,o1,o2,hk,hn,e1]
     exact hQ _ _ _ rfl (by repeat (first | exact ab.refl _ | refine ab.trans ?_ (ab.push _ _) | refine ab.trans ?_ (ab.fresh _ _))) (by rw[hk,hn];rfl)
def uN (V:List AV):AV:=V.getD 2 .junk
set_option maxHeartbeats 1000000 in
theorem KP:∀ (N:Nat) (x:VD),SizeOf.sizeOf x≤N→x.size≤100000→∀ (r:List AV) (h:AH),VaA x r→
  ai Tryz.prog po 165 [.agg r] h=some (.inl (fI 3 (cr x.caps)),h):=by
 intro N
 induction N with
 | zero=>intro x hx;have:=x.so_pos;omega
 | succ N ih=>
   intro x hx hsz r h he
   obtain⟨v,es,rfl,hsl,hv,hn,hix⟩:=he.facts
   have hlen:=x.len_size
   have hs:=x.size_eq
   have rest:∀ (Q:iC→Prop) (h0:AH) (acc0:AV) (c0:List Int) (v5 v6:AV),Acc h h0 3 acc0 (cr c0)→ab h h0→h.n<h0.n→h0.cell h.n=some [[.int .i64 x.kind,.int .i64 x.n,v]]→c0.length≤1→
     (∀ V h',(ei V h' [.v 2]).map eO=some (uN V)→ab h h'→wkA (uN V)=some (fI 3 (cr (c0++cS x.l)))→Q (some (.ret,V,h')))→
     Q (ap (ai Tryz.prog po) 7 (.lp gG:: .ss []:: .blk 0::[.ss [.ops [(.i .l (.mv (.v 3))),(.i (.v 2) (.mv (.l 0)))],.ret]])
       [.agg [.int .i64 x.kind,.int .i64 x.n,v],.ptr h.n 0 0,.nils,acc0,.int .i64 0,v5,v6] [] h0):=by
    intro Q h0 acc0 c0 v5 v6 ha0 g0 hn0 k0 hc0 hQ
    refine fJ (fun i V h'=>∃ acc w6,V=[.agg [.int .i64 x.kind,.int .i64 x.n,v],.ptr h.n 0 0,.nils,acc,.int .i64 (i:Nat),v5,w6]∧
     ab h h'∧h.n<h'.n∧h'.cell h.n=some [[.int .i64 x.kind,.int .i64 x.n,v]]∧Acc h h' 3 acc (cr (c0++cS (x.l.take i)))) x.l.length ⟨_,_,rfl,g0,hn0,k0,by simpa[cS]using ha0⟩ ?_ ?_
    ·rintro i V h' hi ⟨acc,w6,rfl,g,hm,c1,ha⟩ next
     have hlt:(i:Int)<(es.length:Int):=by rw[hn];omega
     obtain⟨y,hy⟩:=iP hi
     obtain⟨q,i1,d1,x1⟩:=hix i y hy
     obtain⟨o1,o2⟩:=x1.one
     have hw:=w64 (n:=(i:Int)+1) (by omega) (by omega)
     have e1:=ih y (by have:=VD.lt_mem (eR hy);omega) (by have:=VD.size_mem (eR hy);omega) q h' x1
     have cf:=jQ (x.l.take i)
     have sl:=kH x.l i
     have cy:=y.caps_few
     have sy:=VD.size_mem (eR hy)
     obtain⟨acc2,h2,e2,a1,a2,a3,a4⟩:=xS (h:=h') ha g (BE 3 (cr y.caps)) (xL _) (by simp only[List.length_map,List.length_append];omega) (by simp only[List.length_map];omega)
     have a1':Acc h h2 3 acc2 (cr (c0++cS (x.l.take (i+1)))):=by
      rw[iq hy,iS,←List.append_assoc]
      simpa[cS]using a1
     rw[aC gG.eq_1]
     simp only[sim,af,reduceAdd,reduceSub,replicate,reduceCtorEq,reduceLeDiff,reduceLT,aa,c1,hsl.len,hsl.fits,hlt,i1,d1,o1,o2,br o2,e1,e2,hw]
     exact next _ _ ⟨_,_,rfl,a2,by rw[a4];exact hm,by rw[a3];exact c1,a1'⟩
    ·rintro V h' ⟨acc,w6,rfl,g,hm,c1,ha⟩
     have hlt:¬ ((x.l.length:Int)<(es.length:Int)):=by rw[hn];omega
     rw[List.take_length]at ha
     have hwA:=uP ha (fun r hr=>by obtain⟨n,_,rfl⟩:=List.mem_map.1 hr;rfl)
     rw[aC gG.eq_1]
     simp only[sim,af,reduceAdd,reduceSub,replicate,reduceCtorEq,reduceLeDiff,reduceLT,aa,c1,hsl.len,hsl.fits,hlt]
     exact hQ _ _ rfl g hwA
   rw[x.caps_eq]
   refine ep Cl rfl fun Q hQ=> ?_;unfold sw
   by_cases h4:x.kind=4
   ·rw[h4]at rest
    have L:=rest
    have a1:Acc h ((h.push [[.int .i64 4,.int .i64 x.n,v]]).fresh 1) 3 (.isl (some h.ids) 3 [[.int .i64 x.n]]) (cr [x.n]):= .inr ⟨h.ids,by simp,Nat.le_refl _,by simp[AH.fresh,AH.push],by simp[AH.fresh,AH.push],rfl⟩
    have a2:ab h ((h.push [[.int .i64 4,.int .i64 x.n,v]]).fresh 1):=(by repeat (first | exact ab.refl _ | refine ab.trans ?_ (ab.push _ _) | refine ab.trans ?_ (ab.fresh _ _)))
    have a3:((h.push [[.int .i64 4,.int .i64 x.n,v]]).fresh 1).cell=(h.push [[.int .i64 4,.int .i64 x.n,v]]).cell:=rfl
    have a4:((h.push [[.int .i64 4,.int .i64 x.n,v]]).fresh 1).n=(h.push [[.int .i64 4,.int .i64 x.n,v]]).n:=rfl
    have e1:True:=trivial
    simp only[sim,af,reduceAdd,reduceSub,replicate,reduceCtorEq,reduceLeDiff,reduceLT,aa,hv,h4,hsl.len,hsl.fits,e1,a3]
    refine L _ _ _ [x.n] _ _ a1 a2 (by rw[a4];simp only[aJ,uC];omega) (by rw[a3];exact aT) (by simp) fun V h' e g w=>hQ _ _ _ e g ?_
    rw[w]
    simp[h4]
   ·simp only[sim,af,reduceAdd,reduceSub,replicate,reduceCtorEq,reduceLeDiff,reduceLT,aa,hv,h4,hsl.len,hsl.fits]
    refine rest _ _ _ [] _ _ (gS _ _ _) (by repeat (first | exact ab.refl _ | refine ab.trans ?_ (ab.push _ _) | refine ab.trans ?_ (ab.fresh _ _))) (by simp only[aJ];omega) aT (by simp) fun V h' e g w=>hQ _ _ _ e g ?_
    rw[w]
    simp[h4]
set_option maxHeartbeats 1000000 in
theorem Cj:∀ (N:Nat) (x:VD),SizeOf.sizeOf x≤N→x.size≤100000→∀ (r:List AV) (h:AH),VaA x r→
  ai Tryz.prog po 143 [.agg r] h=some (.inl (fI 3 (cr x.caps)),h):=by
 intro N
 induction N with
 | zero=>intro x hx;have:=x.so_pos;omega
 | succ N ih=>
   intro x hx hsz r h he
   obtain⟨v,es,rfl,hsl,hv,hn,hix⟩:=he.facts
   have hlen:=x.len_size
   have hs:=x.size_eq
   have rest:∀ (Q:iC→Prop) (h0:AH) (acc0:AV) (c0:List Int) (v5:AV),Acc h h0 3 acc0 (cr c0)→ab h h0→h.n<h0.n→h0.cell h.n=some [[.int .i64 x.kind,.int .i64 x.n,v]]→c0.length≤1→
     (∀ V h',(ei V h' [.v 2]).map eO=some (uN V)→ab h h'→wkA (uN V)=some (fI 3 (cr (c0++cS x.l)))→Q (some (.ret,V,h')))→
     Q (ap (ai Tryz.prog po) 10 (.lp iD:: .ss []:: .blk 0::[.ss [.ops [(.i .l (.mv (.v 3))),(.i (.v 2) (.mv (.l 0)))],.ret]])
       [.agg [.int .i64 x.kind,.int .i64 x.n,v],.ptr h.n 0 0,.nils,acc0,.junk,v5,v,.int .i64 es.length,.int .i64 0,.junk] [] h0):=by
    intro Q h0 acc0 c0 v5 ha0 g0 hn0 k0 hc0 hQ
    refine fJ (fun i V h'=>∃ acc w4 w9,V=[.agg [.int .i64 x.kind,.int .i64 x.n,v],.ptr h.n 0 0,.nils,acc,w4,v5,v,.int .i64 es.length,.int .i64 (i:Nat),w9]∧
     ab h h'∧h.n<h'.n∧h'.cell h.n=some [[.int .i64 x.kind,.int .i64 x.n,v]]∧Acc h h' 3 acc (cr (c0++cS (x.l.take i)))) x.l.length ⟨_,_,_,rfl,g0,hn0,k0,by simpa[cS]using ha0⟩ ?_ ?_
    ·rintro i V h' hi ⟨acc,w4,w9,rfl,g,hm,c1,ha⟩ next
     have hlt:(i:Int)<(es.length:Int):=by rw[hn];omega
     obtain⟨y,hy⟩:=iP hi
     obtain⟨q,i1,d1,x1⟩:=hix i y hy
     obtain⟨o1,o2⟩:=x1.one
     have hw:=w64 (n:=(i:Int)+1) (by omega) (by omega)
     have e1:=ih y (by have:=VD.lt_mem (eR hy);omega) (by have:=VD.size_mem (eR hy);omega) q (h'.push [q]) x1
     have cf:=jQ (x.l.take i)
     have sl:=kH x.l i
     have cy:=y.caps_few
     have sy:=VD.size_mem (eR hy)
     obtain⟨acc2,h2,e2,a1,a2,a3,a4⟩:=xS (h:=(h'.push [q])) (show Acc h (h'.push [q]) _ acc _ from ha) (g.trans (ab.push _ _)) (BE 3 (cr y.caps)) (xL _) (by simp only[List.length_map,List.length_append];omega) (by simp only[List.length_map];omega)
     have a1':Acc h h2 3 acc2 (cr (c0++cS (x.l.take (i+1)))):=by
      rw[iq hy,iS,←List.append_assoc]
      simpa[cS]using a1
     rw[aC iD.eq_1]
     simp only[sim,af,reduceAdd,reduceSub,replicate,reduceCtorEq,reduceLeDiff,reduceLT,aa,c1,hsl.len,hsl.fits,hlt,i1,d1,o1,o2,br o2,e1,e2,hw]
     exact next _ _ ⟨_,_,_,rfl,a2,by rw[a4];(show _<h'.n+1;omega),by rw[a3];(exact(aW hm).trans c1),a1'⟩
    ·rintro V h' ⟨acc,w4,w9,rfl,g,hm,c1,ha⟩
     have hlt:¬ ((x.l.length:Int)<(es.length:Int)):=by rw[hn];omega
     rw[List.take_length]at ha
     have hwA:=uP ha (fun r hr=>by obtain⟨n,_,rfl⟩:=List.mem_map.1 hr;rfl)
     rw[aC iD.eq_1]
     simp only[sim,af,reduceAdd,reduceSub,replicate,reduceCtorEq,reduceLeDiff,reduceLT,aa,c1,hsl.len,hsl.fits,hlt]
     exact hQ _ _ rfl g hwA
   rw[x.caps_eq]
   refine ep Gh rfl fun Q hQ=> ?_;unfold vS
   by_cases h4:x.kind=4
   ·rw[h4]at rest
    have L:=rest
    obtain⟨acc1,h1,e1,a1,a2,a3,a4⟩:=jG (h0:=h) (h:=h.push [[.int .i64 4,.int .i64 x.n,v]]) (gS h _ 3) (by repeat (first | exact ab.refl _ | refine ab.trans ?_ (ab.push _ _) | refine ab.trans ?_ (ab.fresh _ _))) (row:=[.int .i64 x.n]) rfl (by simp)
    simp only[f8]at e1
    simp only[sim,af,reduceAdd,reduceSub,replicate,reduceCtorEq,reduceLeDiff,reduceLT,aa,hv,h4,hsl.len,hsl.fits,e1,a3]
    refine L _ _ _ [x.n] _ a1 a2 (by rw[a4];simp only[aJ];omega) (by rw[a3];exact aT) (by simp) fun V h' e g w=>hQ _ _ _ e g ?_
    rw[w]
    simp[h4]
   ·simp only[sim,af,reduceAdd,reduceSub,replicate,reduceCtorEq,reduceLeDiff,reduceLT,aa,hv,h4,hsl.len,hsl.fits]
    refine rest _ _ _ [] _ (gS _ _ _) (by repeat (first | exact ab.refl _ | refine ab.trans ?_ (ab.push _ _) | refine ab.trans ?_ (ab.fresh _ _))) (by simp only[aJ];omega) aT (by simp) fun V h' e g w=>hQ _ _ _ e g ?_
    rw[w]
    simp[h4]
theorem zp (v:AV) (l:List VD) (hv:∀ h,qS h v l) (hl:l.length≤100000) (g:FuncId) (p:VD→Bool) (hf:∀ y∈l,∀ q h,VaA y q→ai Tryz.prog po g [.agg q] h=some (.inl (.bool (p y)),h)):
  ∃ n:Int,ai Tryz.prog po 166 [v,.fn g [] []] h=some (.inl (.int .i64 n),h)∧decide (0≤n)=l.any p:=by
 suffices key:∃ v',ai Tryz.prog po 166 [v,.fn g [] []] h=some (.inl v',h)∧∃ n:Int,v'= .int .i64 n∧decide (0≤n)=l.any p by
  obtain⟨_,e,n,rfl,h2⟩:=key
  exact⟨n,e,h2⟩
 have vl:=(hv h).len
 have vf:=(hv h).fits
 refine zH CX rfl fun Q hQ=> ?_;unfold tF
 simp only[sim,af,reduceAdd,reduceSub,replicate,reduceCtorEq,reduceLeDiff,reduceLT,aa,vl,vf]
 refine fJ (fun i V h'=>∃ v2 v3 v6 v7,V=[v,.fn g [] [],v2,v3,.int .i64 l.length,.int .i64 (i:Nat),v6,v7]∧ab h h'∧(l.drop i).any p=l.any p) l.length ⟨_,_,_,_,rfl,ab.refl _,rfl⟩ ?_ ?_
 ·rintro i V h' hi ⟨v2,v3,v6,v7,rfl,g,hc⟩ next
  have hlt:(i:Int)<(l.length:Int):=by omega
  obtain⟨y,hy⟩:=iP hi
  obtain⟨a,q,i1,i2,x1⟩:=(hv h').ix i y hy
  have hw:=w64 (n:=(i:Int)+1) (by omega) (by omega)
  have e1:=hf y (eR hy) q h' x1
  have hd:(l.drop i).any p=(p y || (l.drop (i+1)).any p):=by
   obtain⟨hi',rfl⟩:=List.getElem?_eq_some_iff.1 hy
   rw[List.drop_eq_getElem_cons hi',List.any_cons]
  rw[hd]at hc
  cases hb:p y
  ·rw[hb]at e1 hc
   rw[Bool.false_or]at hc
   rw[aC gU.eq_1]
   simp only[sim,af,reduceAdd,reduceSub,replicate,reduceCtorEq,reduceLeDiff,reduceLT,aa,au,List.append_nil,hlt,i1,i2 _ (ab.refl h'),e1,hw]
   exact next _ _ ⟨_,_,_,_,rfl,g,hc⟩
  ·rw[hb]at e1 hc
   rw[Bool.true_or]at hc
   rw[aC gU.eq_1]
   simp only[sim,af,reduceAdd,reduceSub,replicate,reduceCtorEq,reduceLeDiff,reduceLT,aa,au,List.append_nil,hlt,i1,i2 _ (ab.refl h'),e1]
   exact hQ _ _ _ _ rfl g rfl ⟨i,rfl,by rw[←hc];simp⟩
 ·rintro V h' ⟨v2,v3,v6,v7,rfl,g,hc⟩
  have hlt:¬ ((l.length:Int)<(l.length:Int)):=by omega
  rw[List.drop_length]at hc
  rw[aC gU.eq_1]
  simp only[sim,af,reduceAdd,reduceSub,replicate,reduceCtorEq,reduceLeDiff,reduceLT,aa,hlt]
  exact hQ _ _ _ _ rfl g rfl ⟨-1,rfl,by rw[←hc];rfl⟩
theorem zK:∀ (N:Nat) (x:VD),SizeOf.sizeOf x≤N→x.size≤100000→∀ (r:List AV) (h:AH),VaA x r→
  ai Tryz.prog po 142 [.agg r] h=some (.inl (.bool x.gate),h):=by
 intro N
 induction N with
 | zero=>intro x hx;have:=x.so_pos;omega
 | succ N ih=>
   intro x hx hsz r h he
   obtain⟨v,es,rfl,hs,hl⟩:=he.row
   have mv:∀ h,qS h v x.l:=fun h=>qS.of hs hl
   have hlen:=x.len_size
   have o1:=(mv h).one
   have e1:∀ h,ai Tryz.prog po 157 [v,.fn 142 [] []] h=some (.inl (.bool (kT x.l)),h):=by
    intro h
    obtain⟨n,e0,e2⟩:=zp (h:=h) v x.l mv (by omega) 142 VD.gate (fun y hy q h hq=>ih y (by have:=VD.lt_mem hy;omega) (by have:=VD.size_mem hy;omega) q h hq)
    rw[oa,←e2]
    refine ep uT rfl fun Q hQ=> ?_;unfold mS
    simp only[sim,af,reduceAdd,reduceSub,replicate,reduceCtorEq,reduceLeDiff,reduceLT,aa,e0]
    exact hQ _ _ _ rfl (by repeat (first | exact ab.refl _ | refine ab.trans ?_ (ab.push _ _) | refine ab.trans ?_ (ab.fresh _ _))) rfl
   rw[x.gate_eq]
   refine ep Ca rfl fun Q hQ=> ?_;unfold sd
   cases hk:decide (x.kind=5)
   ·simp only[sim,af,reduceAdd,reduceSub,replicate,reduceCtorEq,reduceLeDiff,reduceLT,aa,o1,hk,e1]
    exact hQ _ _ _ rfl (by repeat (first | exact ab.refl _ | refine ab.trans ?_ (ab.push _ _) | refine ab.trans ?_ (ab.fresh _ _))) (by rw[hk];rfl)
   ·simp only[sim,af,reduceAdd,reduceSub,replicate,reduceCtorEq,reduceLeDiff,reduceLT,aa,o1,hk,e1]
    exact hQ _ _ _ rfl (by repeat (first | exact ab.refl _ | refine ab.trans ?_ (ab.push _ _) | refine ab.trans ?_ (ab.fresh _ _))) (by rw[hk];rfl)
end
theorem eqF {a n:Nat} (h:a<n):(a=n)=False:=by simp;omega
theorem ME {a n:Nat} (h:a<n):(n=a)=False:=by simp;omega
theorem uc {e:TypeId} {b n m:Nat} (hm:m≤n):ju (.msl b 0 n e) none (some (.int .i64 (m:Int)))=some (.msl b 0 m e):=by
 simp[ju,loA,hiA,dO,vD,hm]
theorem mU {α β:Type} {f:α→β}:Option.map f none=none:=rfl
theorem mO {α β:Type} {f:α→β} {a:α}:Option.map f (some a)=some (f a):=rfl
abbrev zR3:List AV:=[.int .i64 0,.int .i64 0,.nils]
section
variable {h h' h0:AH} {F J F0 J0:Nat→Prop} {L:List Asn} {mb bb fb:Nat} {left:Int} {below:List FrD} {top:FrD}
theorem bQ (f:FrD) (a:List AV) (s n g:AV) (ha:a.length=3):(ct f a s n g)[6]? =some s∧(ct f a s n g).length=10∧(ct f a s n g)[7]? =some n∧(ct f a s n g)[9]? =some g∧(ct f a s n g)[8]? =some (.bool f.asked)∧(ct f a s n g)[0]? =some (.int .i64 f.plugin)∧(ct f a s n g)[1]? =some (.int .i64 f.f)∧(ct f a s n g)[2]? =some (.int .i64 (f.pc:Int)):=by
 match a,ha with
 | [x,y,z],_=>exact⟨rfl,rfl,rfl,rfl,rfl,rfl,rfl,rfl⟩
theorem mN {f:FrD} {a:List AV} {s n g:AV} (ha:a.length=3∧a.all AV.one=true) (hs:s.one=true) (hn:n.one=true) (hg:g.one=true):(ct f a s n g).all AV.one=true:=by
 simp only[ct,List.all_append,ha.2,hs,hn,hg,List.all_cons,List.all_nil,Bool.and_true]
 rfl
theorem yn (f:FrD) (a:List AV) (s n g s':AV) (st:List VD) (ha:a.length=3):(ct f a s n g).set 6 s'=ct {f with stack:=st} a s' n g:=by
 match a,ha with
 | [x,y,z],_=>rfl
theorem mM {α:Type} {A B:List α} {x:α} {k:Nat} (hk:A.length=k):(A++x::B)[k]? =some x:=AZ A B x hk.symm
theorem Ar {α:Type} {A B:List α} {x y:α} {k:Nat} (hk:A.length=k):(A++x::B).set k y=A++y::B:=Bu A B x y hk.symm
theorem HW (s0:St h0 F0 J0 h L) (i:Nat) (hi:L[i]? =some (dN mb bb fb left below top)) {v:VD} {r:List AV} (hv:VaA v r) (hb:below.length≤1000) (hst:top.stack.length≤1000000):
  ∃ h',ai Tryz.prog po fPu [.ptr mb 0 0,.agg r] h=some (.inl (.tup []),h')∧St h0 F0 J0 h' (L.set i (dN mb bb fb left below {top with stack:=top.stack++[v]})):=by
 refine s0.call (R:=fun h'=>ai Tryz.prog po fPu [.ptr mb 0 0,.agg r] h=some (.inl (.tup []),h')) i hi fun F J x=> ?_
 obtain⟨rs,ex,a,sv,nv,g,hrl,ha,hg,s⟩:=ik x
 have s2:=(s.grew (ab.push h [r])).grew (ab.push (h.push [r]) [r])
 have hz:((h.push [r]).push [r]).cell (h.n+1)=some [r]:=aT
 obtain⟨h3,e3,s3⟩:=s2.app 2 rfl hz hv hst
 have q0:=s.cell 0 rfl
 have q1:=s.cell 1 rfl
 have q3:=(s3.cell 1 rfl).1
 have g6:=bQ top a sv nv g ha.len3.1
 have run:=HF (s':= .msl ((h.push [r]).push [r]).n 0 (top.stack.length+1) tV) hb hv.len3 q0.2 q1.2 q0.1 q1.1 (mM hrl) g6.1 g6.2.1 e3 q3 rfl rfl
 rw[yn _ _ _ _ _ _ (top.stack++[v]) ha.len3.1,Ar hrl]at run
 have s4:=s3.set 1 rfl [rs++ct {top with stack:=top.stack++[v]} a (.msl ((h.push [r]).push [r]).n 0 (top.stack.length+1) tV) nv g::ex].flatten
 exact⟨_,run,kR (top:={top with stack:=top.stack++[v]}) ha hg (by simpa using s4)⟩
theorem kI {h2:AH} {rs ex:List (List AV)} {row row':List AV} {k j:Nat} {v:AV} (hc:h2.cell fb=some (rs++row::ex)) (hk:rs.length=k) (h1:v.one=true) (hv:v.cells=[v]) (hj:j<row.length) (hr:row.set j v=row'):aE 1 h2 (.ptr fb k j) v=some (h2.set fb (some (rs++row'::ex))):=by
 rw[bo hc (mM hk) (by rw[hv];simpa using h1) (by rw[hv];rfl) (by omega),Ar hk,hv]
 have:stA row j [v]=row':=by
  rw[←hr]
  unfold stA
  refine List.ext_getElem? fun i=> ?_
  have:=gE row [v] j i (by simp only[List.length_singleton];omega)
  unfold stA at this
  rw[this]
  by_cases e:i=j
  ·subst e
   simp[hj]
  ·rw[if_neg (by simp only[List.length_singleton];omega),List.getElem?_set_ne (by omega)]
 rw[this]
theorem km {h2:AH} {rs ex:List (List AV)} {row:List AV} {k j n:Nat} {v:AV} (hc:h2.cell fb=some (rs++row::ex)) (hk:rs.length=k) (hr:row[j]? =some v):aK false n h2 (.ptr fb k j)=some v:=by
 rw[bV,hc,Option.bind_some,mM hk,Option.bind_some,eN,hr]
theorem K4 (s0:St h0 F0 J0 h L) (i:Nat) (hi:L[i]? =some (dN mb bb fb left below top)) {st:List VD} {v:VD} (hst:top.stack=st++[v]) (hb:below.length≤1000) (hl:st.length≤1000000):
  ∃ h',(∃ r,ai Tryz.prog po 90 [.ptr mb 0 0] h=some (.inl (.agg r),h')∧VaA v r)∧St h0 F0 J0 h' (L.set i (dN mb bb fb left below {top with stack:=st})):=by
 refine s0.call (R:=fun h'=>∃ r,ai Tryz.prog po 90 [.ptr mb 0 0] h=some (.inl (.agg r),h')∧VaA v r) i hi fun F J x=> ?_
 obtain⟨rs,ex,a,sv,nv,g,hrl,ha,hg,s⟩:=ik x
 have s1:=s.push [zR3]
 obtain⟨F1,J1,x1⟩:=s1.get 3 rfl
 rw[hst]at x1
 have hlen:(st++[v]).length=st.length+1:=by simp
 obtain⟨b,hsv⟩:=vP x1 (by simp)
 rw[hlen]at hsv
 subst hsv
 have rd:=gW x1
 obtain⟨p,r,p1,p2,p3⟩:=rd.2.2.2.2 .i64 st.length v (by simp)
 have g6:=bQ top a (.msl b 0 (st.length+1) tV) nv g ha.len3.1
 have w:IntKind.wrap .i64 (((st.length+1:Nat):Int) - 1)=(st.length:Int):=yR (by omega) (by omega) (by omega)
 have sl:=uc (e:=tV) (b:=b) (n:=st.length+1) (m:=st.length) (by omega)
 have tp:=oZ (s1.cell 1 rfl).1 hb
 have l1:=fun n=>km (n:=n) (s1.cell 2 rfl).1 hrl g6.1
 have s2:=s1.push [zR3]
 have s3:=s1.push [r]
 have l3:=fun n=>km (n:=n) (s3.cell 3 rfl).1 hrl g6.1
 have st4:=kI (v:= .msl b 0 st.length tV) (s3.cell 3 rfl).1 hrl rfl rfl (by rw[g6.2.1];decide) (yn _ _ _ _ _ _ st ha.len3.1)
 have s4:=s3.set 3 rfl (rs++ct {top with stack:=st} a (.msl b 0 st.length tV) nv g::ex)
 have c1:=(s2.cell 0 rfl).1
 have c4:=(s4.cell 0 rfl).1
 have c5:=(s4.cell 1 rfl).1
 have s5:=s4.set 1 rfl [r]
 have c6:=(s5.cell 1 rfl).1
 have fd:aH 6 (.ptr fb below.length 0)=some (.ptr fb below.length 6):=rfl
 have s6:St h F J _ (ER mb bb fb left below {top with stack:=st} rs ex a (.msl b 0 st.length tV) nv g):=s5.drop.drop.upd 2 rfl fun _ _ _ x=>by rw[hst]at x;exact wj x
 refine⟨_,⟨r,?_,p3⟩,kR (top:={top with stack:=st}) ha hg s6⟩
 simp only[aJ,dA]at c1 c4 c5 c6 st4 l3
 refine ag Hz rfl ?_;unfold BC
 simp only[sim,af,reduceAdd,reduceSub,replicate,reduceCtorEq,reduceLeDiff,reduceLT,aa,au,tp,l1,p1,p2,w,sl,p3.len3.1,p3.len3.2,c1,l3,st4,c4,c5,c6,mU,mO,fd]
end
def Aa:List RS:=[(.ops [(.i (.v 4) (.mv (.c (.int .i64 0))))]),(.ops [(.i .l (.mv (.v 0))),(.i .l (.mv (.v 0))),(.i .l (.nilc (.l 0))),(.i .l (.fad 0 (.l 0))),(.i .l (.load false 1 (.l 0))),(.i .l (.mv (.v 1))),(.i .l (.mv (.v 2))),(.i .l (.mv (.v 3))),(.i .l (.build [(.int .i64 0),(.int .i64 0),(.int .i64 0)] [(0,1),(1,1),(2,1)] [(0,(.l 2)),(1,(.l 1)),(2,(.l 0))])),(.i .l (.bsl true 184 [(.int .i64 0),(.int .i64 0),(.int .i64 0)] 3 1 [(0,(.l 0))])),(.i .l (.app true 184 (.l 5) (.l 0))),(.i .l (.nilc (.l 10))),(.i .l (.fad 0 (.l 0))),(.i .n (.store 1 (.l 0) (.l 2)))]),(.ops [(.i .l (.mv (.v 0))),(.i .l (.nilc (.l 0))),(.i .l (.fad 0 (.l 0))),(.i .l (.load false 1 (.l 0))),(.i .l (.len false (some 184) (.l 0))),(.i .l (.bin (.int .i64) .sub (.l 0) (.c (.int .i64 1)))),(.i (.v 4) (.mv (.l 0)))]),.ret]
theorem HZ:FnR Tryz.prog po 80 4 5 [0,1,2,3,8] Aa [(.v 4)] false:=⟨_,_,Tryz.func80,rfl,rfl,by kernel_rfl,by kernel_rfl,by kernel_rfl,by kernel_rfl,by kernel_rfl⟩
def xh:List RS:=[(.ops [(.i .l (.mv (.v 0))),(.i .l (.nilc (.l 0))),(.i .l (.fad 0 (.l 0))),(.i .l (.load false 1 (.l 0))),(.i .l (.mv (.v 1))),(.i .l (.mv (.v 0))),(.i .l (.nilc (.l 0))),(.i .l (.fad 0 (.l 0))),(.i .l (.load false 1 (.l 0))),(.i .l (.len false (some 184) (.l 0))),(.i .l (.ixa (some 184) none (.l 6) (.l 5))),(.i .l (.fad 1 (.l 0))),(.i .n (.store 1 (.l 0) (.l 2)))])]
theorem GD:FnR Tryz.prog po 107 2 2 [0,1] xh [] false:=⟨_,_,Tryz.func107,rfl,rfl,by kernel_rfl,by kernel_rfl,by kernel_rfl,by kernel_rfl,by kernel_rfl⟩
def j8:List RS:=[(.ops [(.i (.v 10) (.bin (.int .i64) .lss (.v 9) (.v 8)))]),(.cond (.v 10) [] [(.exit 1)]),(.block 2 [(.ops [(.i .l (.ixa (some 109) none (.v 7) (.v 9))),(.i .l (.load true 4 (.l 0))),(.i (.v 5) (.alloc [(.int .i64 0),(.int .i64 0),(.int .i64 0),.nils])),(.i .n (.store 4 (.v 5) (.l 0)))]),(.ops [(.i .l (.mv (.v 0))),(.i .l (.load true 4 (.v 5))),(.i .l (.call (.c (.fn 79 [] [])) [(.l 1),(.l 0)]))])]),(.ops [(.i .l (.bin (.int .i64) .add (.v 9) (.c (.int .i64 1)))),(.i (.v 9) (.mv (.l 0)))])]
def mA:List RS:=[(.ops [(.i (.v 2) (.box 4 (.v 1)))]),(.ops [(.i .l (.mv (.v 0))),(.i .l (.call (.c (.fn 80 [] [])) [(.l 0),(.c (.int .i64 100)),(.c (.int .i64 0)),(.c (.int .i64 0))]))]),(.ops [(.i .l (.fad 0 (.v 2))),(.i (.v 6) (.load false 1 (.l 0)))]),(.block 0 [(.ops [(.i .l (.bin (.int .i64) .eql (.v 6) (.c (.int .i64 5)))),(.i (.v 11) (.mv (.l 0)))]),(.cond (.v 11) [(.ops [(.i .l (.mv (.v 0))),(.i .l (.fad 3 (.v 2))),(.i .l (.load false 1 (.l 0))),(.i .l (.ixa (some 109) none (.l 0) (.c (.int .i64 0)))),(.i .l (.load true 4 (.l 0))),(.i .l (.call (.c (.fn 79 [] [])) [(.l 4),(.l 0)]))]),(.ops [(.i .l (.mv (.v 0))),(.i .l (.call (.c (.fn 80 [] [])) [(.l 0),(.c (.int .i64 101)),(.c (.int .i64 0)),(.c (.int .i64 0))]))]),(.ops [(.i .l (.mv (.v 0))),(.i .l (.fad 3 (.v 2))),(.i .l (.load false 1 (.l 0))),(.i .l (.ixa (some 109) none (.l 0) (.c (.int .i64 1)))),(.i .l (.load true 4 (.l 0))),(.i .l (.call (.c (.fn 79 [] [])) [(.l 4),(.l 0)]))]),(.ops [(.i .l (.mv (.v 0))),(.i .l (.call (.c (.fn 80 [] [])) [(.l 0),(.c (.int .i64 102)),(.c (.int .i64 0)),(.c (.int .i64 0))]))])] [(.ops [(.i .l (.bin (.int .i64) .eql (.v 6) (.c (.int .i64 7)))),(.i (.v 12) (.mv (.l 0)))]),(.cond (.v 12) [(.ops [(.i .l (.mv (.v 0))),(.i .l (.fad 3 (.v 2))),(.i .l (.load false 1 (.l 0))),(.i .l (.ixa (some 109) none (.l 0) (.c (.int .i64 0)))),(.i .l (.load true 4 (.l 0))),(.i .l (.call (.c (.fn 79 [] [])) [(.l 4),(.l 0)]))]),(.ops [(.i .l (.mv (.v 0))),(.i .l (.call (.c (.fn 80 [] [])) [(.l 0),(.c (.int .i64 103)),(.c (.int .i64 0)),(.c (.int .i64 0))])),(.i (.v 3) (.mv (.l 0)))]),(.ops [(.i .l (.mv (.v 0))),(.i .l (.fad 3 (.v 2))),(.i .l (.load false 1 (.l 0))),(.i .l (.ixa (some 109) none (.l 0) (.c (.int .i64 1)))),(.i .l (.load true 4 (.l 0))),(.i .l (.call (.c (.fn 79 [] [])) [(.l 4),(.l 0)]))]),(.ops [(.i .l (.mv (.v 0))),(.i .l (.call (.c (.fn 80 [] [])) [(.l 0),(.c (.int .i64 104)),(.c (.int .i64 0)),(.c (.int .i64 0))])),(.i (.v 4) (.mv (.l 0)))]),(.ops [(.i .l (.mv (.v 0))),(.i .l (.mv (.v 3))),(.i .l (.call (.c (.fn 107 [] [])) [(.l 1),(.l 0)]))]),(.ops [(.i .l (.mv (.v 0))),(.i .l (.fad 3 (.v 2))),(.i .l (.load false 1 (.l 0))),(.i .l (.ixa (some 109) none (.l 0) (.c (.int .i64 2)))),(.i .l (.load true 4 (.l 0))),(.i .l (.call (.c (.fn 79 [] [])) [(.l 4),(.l 0)]))]),(.ops [(.i .l (.mv (.v 0))),(.i .l (.mv (.v 4))),(.i .l (.call (.c (.fn 107 [] [])) [(.l 1),(.l 0)]))])] [(.ops [(.i .l (.fad 3 (.v 2))),(.i (.v 7) (.load false 1 (.l 0))),(.i (.v 8) (.len false (some 109) (.v 7))),(.i (.v 9) (.mv (.c (.int .i64 0))))]),(.block 1 [(.loop j8)]),(.ops [(.i .l (.mv (.v 0))),(.i .l (.fad 0 (.v 2))),(.i .l (.load false 1 (.l 0))),(.i .l (.fad 1 (.v 2))),(.i .l (.load false 1 (.l 0))),(.i .l (.fad 2 (.v 2))),(.i .l (.load false 1 (.l 0))),(.i .l (.call (.c (.fn 80 [] [])) [(.l 6),(.l 4),(.l 2),(.l 0)]))])])])])]
theorem rg:FnR Tryz.prog po 79 2 13 [0,1,3,4,5,7,11,13,14,15,16,31,49] mA [] false:=⟨_,_,Tryz.func79,rfl,rfl,by kernel_rfl,by kernel_rfl,by kernel_rfl,by kernel_rfl,by kernel_rfl⟩
def kg:List RS:=[(.ops [(.i (.v 12) (.bin (.int .i64) .lss (.v 11) (.v 10)))]),(.cond (.v 12) [] [(.exit 0)]),(.block 1 [(.ops [(.i .l (.ixa (some 109) none (.v 9) (.v 11))),(.i .l (.load true 4 (.l 0))),(.i (.v 6) (.alloc [(.int .i64 0),(.int .i64 0),(.int .i64 0),.nils])),(.i .n (.store 4 (.v 6) (.l 0)))]),(.ops [(.i .l (.build [.nils] [(0,1)] [])),(.i .l (.box 1 (.l 0))),(.i (.v 7) (.mv (.l 0)))]),(.ops [(.i .l (.mv (.v 7))),(.i .l (.load true 4 (.v 6))),(.i .l (.call (.c (.fn 79 [] [])) [(.l 1),(.l 0)]))]),(.ops [(.i .l (.mv (.v 7))),(.i .l (.call (.c (.fn 80 [] [])) [(.l 0),(.c (.int .i64 105)),(.c (.int .i64 0)),(.c (.int .i64 0))]))]),(.ops [(.i .l (.mv (.v 5))),(.i .l (.mv (.v 7))),(.i .l (.nilc (.l 0))),(.i .l (.fad 0 (.l 0))),(.i .l (.load false 1 (.l 0))),(.i .l (.bsl false 174 [.nils] 1 1 [(0,(.l 0))])),(.i .l (.app false 174 (.l 5) (.l 0))),(.i (.v 5) (.mv (.l 0)))])]),(.ops [(.i .l (.bin (.int .i64) .add (.v 11) (.c (.int .i64 1)))),(.i (.v 11) (.mv (.l 0)))])]
def mE:List RS:=[(.ops [(.i (.v 1) (.box 1 (.v 0))),(.i (.v 2) (.mv (.c .nils))),(.i (.v 3) (.alloc [(.int .i64 0),(.int .i64 0)]))]),(.ops [(.i .l (.load true 1 (.v 1))),(.i .l (.call (.c (.fn 78 [] [])) [(.l 0)])),(.i (.v 4) (.alloc [(.int .i64 0),(.int .i64 0)])),(.i .n (.store 2 (.v 4) (.l 0)))]),(.ops [(.i .l (.fad 0 (.v 4))),(.i .l (.load false 1 (.l 0))),(.i (.v 8) (.bin (.int .i64) .neq (.l 0) (.c (.int .i64 0))))]),(.cond (.v 8) [(.ops [(.i .l (.load true 2 (.v 4))),(.i (.v 2) (.mv (.c .nils))),(.i .n (.store 2 (.v 3) (.l 0)))]),.ret] []),(.ops [(.i (.v 5) (.mv (.c .nils)))]),(.ops [(.i .l (.fad 0 (.v 1))),(.i (.v 9) (.load false 1 (.l 0))),(.i (.v 10) (.len false (some 109) (.v 9))),(.i (.v 11) (.mv (.c (.int .i64 0))))]),(.block 0 [(.loop kg)]),(.ops [(.i .l (.mv (.v 5))),(.i .l (.build [(.int .i64 0),(.int .i64 0)] [(0,1),(1,1)] [])),(.i (.v 2) (.mv (.l 1))),(.i .n (.store 2 (.v 3) (.l 0)))]),.ret]
end Go.Proofs.YtkdbjfncchmmpaaGreat
