/- What the instructions do is what the expressions say. No program here. -/
import Derived.Test.YtkdbjfncchmmpaaGreatMg6
namespace Go.Proofs.YtkdbjfncchmmpaaGreat
open Nat (reduceAdd reduceSub reduceLeDiff reduceLT)
open List (replicate)
set_option linter.unusedSimpArgs false
set_option linter.unusedVariables false
open Go
theorem qx {ms:aI} (g:lh ms) {p k:Int} (hk:k.toNat<(bW ms p).length):(df ms p k).fault (bW ms p).length 0=0:=by
 have:df ms p k=(bW ms p)[k.toNat]:=by simp[df,List.getD,hk]
 rw[this]
 exact g p _ (List.getElem_mem hk)
def MaD.after (m:MaD) (S:StD) (k:Nat) (vs:List VD):MaD:={S:=S,top:={m.top with pc:=m.top.pc+k,stack:=m.top.stack++vs},below:=m.below}
def bd (ms:aI) (m:MaD) (c:List aP):Prop:=∃ pre post,dw ms m.top.plugin m.top.f=pre++c++post∧m.top.pc=pre.length
theorem bd.get {ms:aI} {m:MaD} {x:aP} {c:List aP} (h:bd ms m (x::c)):(dw ms m.top.plugin m.top.f).getD m.top.pc mV=x:=by
 obtain⟨pre,post,e,hp⟩:=h
 rw[e,hp]
 simp[List.getD]
theorem bd.at {ms:aI} {m:MaD} {x:aP} {c:List aP} (h:bd ms m (x::c)) (hg:m.Good ms) (ho:Dc m x):Ok ms m:=by
 refine⟨hg,?_,by rw[h.get];exact ho⟩
 obtain⟨pre,post,e,hp⟩:=h
 rw[e,hp]
 simp
theorem MaD.Good.after {ms:aI} {m:MaD} {S:StD} {k:Nat} {vs:List VD} (h:m.Good ms) (hS:S.Good) (hmu:S.mu≤m.S.mu) (hl:S.left+vs.length≤m.S.left) (hv:∀ v∈vs,v.code=0):(m.after S k vs).Good ms:=by
 have h1:=h.stk;have h2:=h.nms;have h3:=h.mu
 refine⟨hS,⟨h.top.p0,h.top.there,h.top.f0,h.top.f1,h.top.arg,h.top.names,fun v hm=> ?_,h.top.gates⟩,Nat.le_trans hmu h3,?_,?_,h.few⟩
 ·rcases List.mem_append.1 hm with hm | hm
  ·exact h.top.stack v hm
  ·exact hv v hm
 ·simp only[MaD.after,List.length_append];omega
 ·simp only[MaD.after];omega
theorem MaD.Good.next {ms:aI} {m m':MaD} (h:m.Good ms) (hS:m'.S=m.S) (hb:m'.below.length=m.below.length) (ht:m'.top.Good ms) (h1:m'.top.stack.length≤m.top.stack.length) (h2:m'.top.names.length+m'.S.left≤100000):m'.Good ms:=by
 have h3:=h.stk;have h4:=h.mu;have h5:=h.few
 refine⟨by rw[hS];exact h.S,ht,by rw[hS];exact h4,by rw[hS];omega,h2,by omega⟩
theorem Dc.tick (m:MaD):Dc m ⟨100,0,0⟩:=⟨by simp,by simp,by simp,by simp,by simp,by simp⟩
theorem bd.left {ms:aI} {m:MaD} {a b:List aP} (h:bd ms m (a++b)):bd ms m a:=by
 obtain⟨pre,post,e,hp⟩:=h
 exact⟨pre,b++post,by rw[e];simp,hp⟩
theorem bd.right {ms:aI} {m m':MaD} {a b:List aP} (h:bd ms m (a++b)) (h1:m'.top.plugin=m.top.plugin) (h2:m'.top.f=m.top.f) (h3:m'.top.pc=m.top.pc+a.length):bd ms m' b:=by
 obtain⟨pre,post,e,hp⟩:=h
 exact⟨pre++a,post,by rw[h1,h2,e];simp,by rw[h3,hp];simp⟩
def ff (ms:aI) (m:MaD) (k:Nat) (q:StD×VD×Int):Prop:=
 if q.2.2≠0 then fO ms m (.fail q.1 q.2.2)else ∀ r,fO ms (m.after q.1 k [q.2.1]) r→fO ms m r
def zO (ms:aI) (m:MaD) (k:Nat) (acc:List VD) (q:StD×List VD×Int):Prop:=
 if q.2.2≠0 then fO ms m (.fail q.1 q.2.2)else ∃ ws,q.2.1=acc++ws∧∀ r,fO ms (m.after q.1 k ws) r→fO ms m r
theorem ff.no {ms:aI} {m:MaD} {k:Nat} {S:StD} {c:Int} (hc:c≠0) (h:fO ms m (.fail S c)):ff ms m k (S.no c):=by
 unfold ff
 rw[if_pos (show(S.no c).2.2≠0 from hc)]
 exact h
theorem ff.ok {ms:aI} {m:MaD} {k:Nat} {S:StD} {v:VD} (h:∀ r,fO ms (m.after S k [v]) r→fO ms m r):ff ms m k (S.ok v):=by
 unfold ff
 rw[if_neg (by simp[StD.ok])]
 exact h
theorem G5 {ms:aI} {m:MaD} {c:List aP} (hG:m.Good ms) (h:bd ms m (⟨100,0,0⟩::c)) (hl:m.S.left≠0) {r:iz} (hr:fO ms (m.after m.S.tick 1 []) r):fO ms m r:=by
 refine .go (h.at hG (.tick m)) ?_ hr
 unfold fh
 simp only[h.get,if_true]
 rw[if_neg hl]
 simp[MaD.after]
theorem ym {ms:aI} {m:MaD} {c:List aP} (hG:m.Good ms) (h:bd ms m (⟨100,0,0⟩::c)) (hl:m.S.left=0):fO ms m (.fail m.S 12):=by
 refine .fail (h.at hG (.tick m)) ?_
 unfold fh
 simp only[h.get,if_true]
 rw[if_pos hl]
theorem iX (st ws:List VD):jq (st++ws) ws.length=ws:=by
 unfold jq
 rw[List.length_append,Nat.add_sub_cancel]
 exact List.drop_left
theorem i8 (st ws:List VD):ke (st++ws) ws.length=st:=by
 unfold ke
 rw[List.length_append,Nat.add_sub_cancel]
 exact List.take_left
theorem dD (st:List VD) (v:VD):jq (st++[v]) 1=[v]:=iX st [v]
theorem fN (st:List VD) (v:VD):ke (st++[v]) 1=st:=i8 st [v]
theorem Bx (x:XD) (hx:∃ nf o,x.fault nf o=0) (p:Nat):∃ c,aw x p=⟨100,0,0⟩::c:=by
 obtain⟨nf,o,h⟩:=hx
 obtain⟨h1,h2,_⟩:=kC h
 rw[gY]
 unfold rn
 split
 ·rename_i h5
  rw[h5]at h2
  have:x.l.length=2:=by simp[aR]at h2;omega
  match hl:x.l,this with
  | [a,b],_=>exact⟨_,rfl⟩
 ·split
  ·rename_i h7
   rw[h7]at h2
   have:x.l.length=3:=by simp[aR]at h2;omega
   match hl:x.l,this with
   | [a,b,c],_=>exact⟨_,rfl⟩
  ·exact⟨_,rfl⟩
theorem Cd {p:Int} {x y:XD} {arg:VD} {names:List VD} {S:StD} (h1:x.op=y.op) (h2:x.k=y.k) (h3:x.n=y.n):fw p x arg names S=fw p y arg names S:=by
 unfold fw
 rw[h1,h2,h3]
theorem eX (m:MaD) (S S':StD) (a b:Nat) (vs ws:List VD):(m.after S a vs).after S' b ws=m.after S' (a+b) (vs++ws):=by
 simp[MaD.after,Nat.add_assoc]
theorem yD (m:MaD):m.after m.S 0 []=m:=by simp[MaD.after]
theorem wx {ms:aI} {m:MaD} {op k n:Int} {c:List aP} (h:bd ms m (⟨op,k,n⟩::c)) (ho:op<100):fh ms m=jH ms (m.after m.S 1 []) ⟨op,k,n⟩:=by
 unfold fh
 simp only[h.get]
 rw[if_neg (by omega),if_neg (by omega),if_neg (by omega),if_neg (by omega),if_neg (by omega),if_neg (by omega)]
 simp[MaD.after]
def L6 (ms:aI) (N:Nat):Prop:=∀ (x:XD) (m:MaD),m.Good ms→m.S.left≤N→x.fault (bW ms m.top.plugin).length m.top.names.length=0→bd ms m (aw x m.top.pc)→
 ff ms m (aw x m.top.pc).length (ofD ms N m.top.plugin x m.top.arg m.top.names (m.below.length+1) m.S)
theorem MaD.Good.after1 {ms:aI} {m:MaD} {S':StD} {v:VD} {c:Int} {k:Nat} (h:m.Good ms) (hox:Iz m.S (S',v,c)) (hc:c=0):(m.after S' k [v]).Good ms:=by
 have h1:=hox.1.mu
 have h2:=hox.2 hc
 have h3:=hox.1.val hc
 simp only at h1 h2 h3
 exact h.after hox.1.good (by omega) (by simp only[List.length_singleton];omega) (fun w hw=>by simp only[List.mem_singleton]at hw;rw[hw];exact h3)
theorem LS {ms:aI} {N:Nat} (ih:L6 ms N):∀ (l:List XD) (m:MaD) (acc:List VD),m.Good ms→m.S.left≤N→(∀ y∈l,y.fault (bW ms m.top.plugin).length m.top.names.length=0)→bd ms m (f9 (l.map aw) m.top.pc)→
  zO ms m (f9 (l.map aw) m.top.pc).length acc (evL (fun y S=>ofD ms N m.top.plugin y m.top.arg m.top.names (m.below.length+1) S) l m.S acc)
 | [],m,acc,_,_,_,_=>by
   unfold zO
   simp only[evL,List.map_nil,f9,List.length_nil]
   rw[if_neg (by simp)]
   exact⟨[],by simp,fun r hr=>by rw[yD]at hr;exact hr⟩
 | x::l,m,acc,hG,hl,hf,hs=>by
   simp only[List.map_cons,f9]at hs ⊢
   have h1:=ih x m hG hl (hf x (by simp)) hs.left
   have hle:=jp ms N m.top.plugin x m.top.arg m.top.names (m.below.length+1) m.S
   have hox:=gu ms N m.top.plugin x m.top.arg m.top.names (m.below.length+1) m.S hG.S hG.top.arg hG.top.names
   rw[evL]
   rcases hq:ofD ms N m.top.plugin x m.top.arg m.top.names (m.below.length+1) m.S with⟨S',v,c⟩
   rw[hq]at h1 hle hox
   simp only at h1 hle ⊢
   unfold ff at h1
   simp only at h1
   by_cases hc:c=0
   ·rw[if_neg (by simpa using hc)]at h1 ⊢
    have h2:=LS ih l (m.after S' (aw x m.top.pc).length [v]) (acc++[v]) (hG.after1 hox hc) (Nat.le_trans hle hl) (fun y hy=>hf y (by simp[hy])) (hs.right rfl rfl rfl)
    have e1:(m.after S' (aw x m.top.pc).length [v]).top.pc=m.top.pc+(aw x m.top.pc).length:=rfl
    rw[e1]at h2
    change zO ms _ _ _ (evL (fun y S=>ofD ms N m.top.plugin y m.top.arg m.top.names (m.below.length+1) S) l S' (acc++[v]))at h2
    generalize evL (fun y S=>ofD ms N m.top.plugin y m.top.arg m.top.names (m.below.length+1) S) l S' (acc++[v])=q at h2 ⊢
    unfold zO at h2 ⊢
    by_cases hz:q.2.2=0
    ·rw[if_neg (by simpa using hz)]at h2 ⊢
     obtain⟨ws,e,h2⟩:=h2
     refine⟨v::ws,by rw[e];simp,fun r hr=>h1 r (h2 r ?_)⟩
     rw[eX,List.singleton_append]
     rw[List.length_append]at hr
     exact hr
    ·rw[if_pos hz]at h2 ⊢
     exact h1 _ h2
   ·rw[if_pos hc]at h1 ⊢
    unfold zO
    simp only
    rw[if_pos hc]
    exact h1
theorem CK {op:Int} (h:0≤aR op):1≤op∧op≤21:=by
 unfold aR at h
 split at h
 ·omega
 ·split at h
  ·omega
  ·split at h
   ·omega
   ·split at h
    ·omega
    ·omega
theorem nI {ms:aI} {m:MaD} {c:List aP} (h:bd ms m (⟨105,0,0⟩::c)) {st:List VD} {v:VD} (hv:m.top.stack=st++[v]):fh ms m=(
  let q:=if m.top.asked then ge m.top.gates v m.S else m.S.ok v
  if q.2.2≠0 then .fail q.1 q.2.2 else match m.below.getLast? with
   | none=> .over q.1 q.2.1
   | some t=> .go ⟨q.1,{t with stack:=t.stack++[q.2.1]},m.below.dropLast⟩):=by
 unfold fh
 simp only[h.get]
 rw[if_neg (by omega),if_neg (by omega),if_neg (by omega),if_neg (by omega),if_neg (by omega),if_pos trivial]
 unfold MaD.back
 simp only[hv,dD,List.getD_cons_zero]
 rfl
theorem nh {α:Type} (l:List α) (a:α):(l++[a]).getLast? =some a∧(l++[a]).dropLast=l:=⟨by simp,by simp⟩
theorem Gj {nf k n o:Int} (h:iH nf 18 k n o=0):0≤k∧k<nf:=by
 unfold iH at h
 split at h
 ·cases h
 ·rw[if_neg (by decide),if_neg (by decide),if_neg (by decide),if_pos rfl]at h
  split at h
  ·cases h
  ·omega
theorem DF {nf k n o:Int} (h:iH nf 4 k n o=0):0≤k∧k<o:=by
 unfold iH at h
 split at h
 ·cases h
 ·rw[if_pos rfl]at h
  split at h
  ·cases h
  ·omega
theorem Az {ms:aI} {v x:VD} {fr:Nat} {S S':StD} {q:ww} (h:fP ms v x fr S=(S',q,0)):q.func.toNat<(bW ms q.plugin).length∧fr≠20:=by
 unfold fP at h
 simp only at h
 split at h
 ·simp only[Prod.mk.injEq]at h;omega
 ·split at h
  ·simp only[Prod.mk.injEq]at h;omega
  ·split at h
   ·simp only[Prod.mk.injEq]at h;omega
   ·split at h
    ·simp only[Prod.mk.injEq]at h;omega
    ·rename_i hn
     split at h
     ·simp only[Prod.mk.injEq]at h;omega
     ·rename_i hf
      simp only[Prod.mk.injEq]at h
      obtain⟨_,rfl,_⟩:=h
      exact⟨by
       simp only
       have:¬ ((bW ms (S.G.target v.n).1.plugin).length:Int)≤(S.G.target v.n).1.func:=fun e=>hn (.inr (.inl e))
       have h3:¬ (S.G.target v.n).1.func<0:=fun e=>hn (.inr (.inr e))
       omega,hf⟩
theorem BU {f:XD→StD→StD×VD×Int}:∀ (l:List XD) (S:StD) (acc:List VD),(evL f l S acc).2.2=0→(evL f l S acc).2.1.length=acc.length+l.length
 | [],S,acc,_=>rfl
 | x::l,S,acc,h=>by
   rw[evL]at h ⊢
   rcases hq:f x S with⟨S',v,c⟩
   rw[hq]at h
   simp only at h ⊢
   by_cases hc:c=0
   ·rw[if_neg (by simpa using hc)]at h ⊢
    rw[BU l S' _ h]
    simp
    omega
   ·rw[if_pos hc]at h
    exact absurd h hc
theorem g8 {p:Int} {x:XD} {arg:VD} {names:List VD} {S:StD}:fw p x arg names S=none↔¬ (x.op=1∨x.op=2∨x.op=3∨x.op=4∨x.op=21):=by
 unfold fw
 constructor
 ·intro h
  repeat' split at h
  all_goals first
   | omega
   | cases h
 ·intro h
  rw[if_neg (by omega),if_neg (by omega),if_neg (by omega),if_neg (by omega),if_neg (by omega)]
theorem Dr {α:Type} {l:List α} (h:l.length=2):∃ a b,l=[a,b]:=by
 match l,h with
 | [a,b],_=>exact⟨a,b,rfl⟩
theorem Kl {α:Type} {l:List α} (h:l.length=3):∃ a b c,l=[a,b,c]:=by
 match l,h with
 | [a,b,c],_=>exact⟨a,b,c,rfl⟩
set_option maxHeartbeats 1000000 in
theorem Mu {ms:aI} (hg:lh ms):∀ N:Nat,L6 ms N
 | 0,x,m,hG,hl,hf,hs=>by
   obtain⟨c,hc⟩:=Bx x ⟨_,_,hf⟩ m.top.pc
   have h0:m.S.left=0:=by omega
   rw[hc]at hs
   exact ff.no (by decide) (ym hG hs h0)
 | N+1,x,m,hG,hl,hf,hs=>by
   have ih:=Mu hg N
   obtain⟨c,hc⟩:=Bx x ⟨_,_,hf⟩ m.top.pc
   have hs0:=hs
   rw[hc]at hs0
   obtain⟨f1,f2,f3,f4,f5⟩:=kC hf
   rw[ofD]
   by_cases h0:m.S.left=0
   ·rw[if_pos h0]
    exact ff.no (by decide) (ym hG hs0 h0)
   rw[if_neg h0]
   have go1:∀ r,fO ms (m.after m.S.tick 1 []) r→fO ms m r:=fun r hr=>G5 hG hs0 h0 hr
   have hG1:(m.after m.S.tick 1 []).Good ms:=hG.after hG.S.tick (by have:=lR h0;omega) (by have:=lR h0;simp only[List.length_nil];omega) (by simp)
   have hl1:m.S.tick.left≤N:=by show m.S.left - 1≤N;omega
   have hop:=CK f1
   by_cases o5:x.op=5
   ·have hlf:fw m.top.plugin x m.top.arg m.top.names m.S.tick=none:=g8.2 (by omega)
    rw[hlf]
    simp only
    rw[if_pos o5]
    have hlen:x.l.length=2:=by rw[o5]at f2;simp[aR]at f2;omega
    obtain⟨a,b,hab⟩:=Dr hlen
    rw[o5]at f5
    rw[hab]at f5 ⊢
    obtain⟨fa,f6⟩:=gk f5
    obtain⟨fb,_⟩:=gk f6
    rw[if_neg (by omega)]at fa
    rw[if_pos (by omega)]at fb
    simp only[List.getD_cons_zero,List.getD_cons_succ]
    have hcode:aw x m.top.pc=⟨100,0,0⟩::(aw a (m.top.pc+1)++(⟨101,0,0⟩::(aw b (m.top.pc+1+(aw a (m.top.pc+1)).length+1)++[⟨102,0,0⟩]))):=by
     rw[gY,hab]
     unfold rn
     rw[if_pos o5]
     rfl
    rw[hcode]at hs ⊢
    have hs1:bd ms (m.after m.S.tick 1 []) _:=bd.right (a:=[⟨100,0,0⟩]) hs rfl rfl rfl
    have h1:=ih a (m.after m.S.tick 1 []) hG1 hl1 fa hs1.left
    have hle:=jp ms N m.top.plugin a m.top.arg m.top.names (m.below.length+1) m.S.tick
    have hox:=gu ms N m.top.plugin a m.top.arg m.top.names (m.below.length+1) m.S.tick hG.S.tick hG.top.arg hG.top.names
    change ff ms _ _ (ofD ms N m.top.plugin a m.top.arg m.top.names (m.below.length+1) m.S.tick)at h1
    rcases hq:ofD ms N m.top.plugin a m.top.arg m.top.names (m.below.length+1) m.S.tick with⟨S',v,c⟩
    rw[hq]at h1 hle hox
    simp only at h1 hle ⊢
    unfold ff at h1
    simp only at h1
    by_cases hc:c=0
    ·rw[if_neg (by simpa using hc)]at h1 ⊢
     rw[eX]at h1
     generalize hA:aw a (m.top.pc+1)=A at*
     have hA':aw a (m.after m.S.tick 1 []).top.pc=A:=hA
     rw[hA']at h1
     have hs2:bd ms (m.after S' (1+A.length) ([]++[v])) (⟨101,0,0⟩::(aw b (m.top.pc+1+A.length+1)++[⟨102,0,0⟩])):=bd.right hs1 rfl rfl (by simp only[MaD.after];omega)
     have hG2:(m.after S' (1+A.length) ([]++[v])).Good ms:=by
      have:=MaD.Good.after1 (k:=A.length) hG1 hox hc
      rwa [eX]at this
     have ok2:=hs2.at hG2 ⟨by simp,by simp[MaD.after],by simp,by simp,by simp,by simp⟩
     have hvc:v.code=0:=hox.1.val hc
     have hlt:S'.left<m.S.tick.left:=hox.2 hc
     have htk:=(lR h0).2
     have hG3:(⟨S',{m.top with pc:=m.top.pc+1+A.length+1,names:=m.top.names++[v]},m.below⟩:MaD).Good ms:=by
      refine hG2.next rfl rfl ⟨hG.top.p0,hG.top.there,hG.top.f0,hG.top.f1,hG.top.arg,fun w hw=> ?_,hG.top.stack,hG.top.gates⟩ (by simp[MaD.after]) ?_
      ·rcases List.mem_append.1 hw with hw | hw
       ·exact hG.top.names w hw
       ·simp only[List.mem_singleton]at hw
        rw[hw];exact hvc
      ·have:=hG.nms
       simp only[List.length_append,List.length_singleton]
       omega
     -- the name is open
     have e1:fh ms (m.after S' (1+A.length) ([]++[v]))= .go {S:=S',top:={m.top with pc:=m.top.pc+1+A.length+1,names:=m.top.names++[v]},below:=m.below}:=by
      unfold fh
      simp only[hs2.get]
      rw[if_neg (by decide),if_pos trivial]
      simp only[MaD.after,List.nil_append,dD,fN,List.getD_cons_zero]
      rw[Nat.add_assoc m.top.pc 1]
     have hs3:bd ms {S:=S',top:={m.top with pc:=m.top.pc+1+A.length+1,names:=m.top.names++[v]},below:=m.below} (aw b (m.top.pc+1+A.length+1)++[⟨102,0,0⟩]):=bd.right (a:=[⟨101,0,0⟩]) hs2 rfl rfl (by simp only[MaD.after,List.length_singleton];omega)
     have h2:=ih b {S:=S',top:={m.top with pc:=m.top.pc+1+A.length+1,names:=m.top.names++[v]},below:=m.below} hG3 (Nat.le_trans hle hl1) (by
      simp only[List.length_append,List.length_singleton]
      exact fb) hs3.left
     simp only at h2
     have hox3:=gu ms N m.top.plugin b m.top.arg (m.top.names++[v]) (m.below.length+1) S' hG3.S hG3.top.arg hG3.top.names
     generalize ofD ms N m.top.plugin b m.top.arg (m.top.names++[v]) (m.below.length+1) S'=q at h2 hox3 ⊢
     unfold ff at h2 ⊢
     by_cases hz:q.2.2=0
     ·rw[if_neg (by simpa using hz)]at h2 ⊢
      intro r hr
      refine go1 r (h1 r (.go ok2 e1 (h2 r ?_)))
      generalize aw b (m.top.pc+1+A.length+1)=B at*
      have hs4:bd ms (MaD.after {S:=S',top:={m.top with pc:=m.top.pc+1+A.length+1,names:=m.top.names++[v]},below:=m.below} q.1 B.length [q.2.1]) [⟨102,0,0⟩]:=bd.right hs3 rfl rfl rfl
      refine .go (hs4.at (MaD.Good.after1 (c:=q.2.2) hG3 hox3 hz) ⟨by simp,by simp,by simp[MaD.after],by simp,by simp,by simp⟩) (m':=m.after q.1 (⟨100,0,0⟩::(A++(⟨101,0,0⟩::(B++[⟨102,0,0⟩]))):List aP).length [q.2.1]) ?_ hr
      unfold fh
      simp only[hs4.get]
      rw[if_neg (by decide),if_neg (by decide),if_pos trivial]
      simp only[MaD.after,List.dropLast_concat,List.length_cons,List.length_append,List.length_nil]
      congr 3
      omega
     ·rw[if_pos hz]at h2 ⊢
      exact go1 _ (h1 _ (.go ok2 e1 h2))
    ·rw[if_pos hc]at h1 ⊢
     exact ff.no hc (go1 _ h1)
   by_cases o7:x.op=7
   ·have hlf:fw m.top.plugin x m.top.arg m.top.names m.S.tick=none:=g8.2 (by omega)
    rw[hlf]
    simp only
    rw[if_neg o5,if_pos o7]
    have hlen:x.l.length=3:=by rw[o7]at f2;simp[aR]at f2;omega
    obtain⟨a,b,c',hab⟩:=Kl hlen
    have fall:=jy o5 f5
    have fa:=fall a (by rw[hab];simp)
    have fb:=fall b (by rw[hab];simp)
    have fc:=fall c' (by rw[hab];simp)
    rw[hab]
    simp only[List.getD_cons_zero,List.getD_cons_succ]
    have hcode:aw x m.top.pc=⟨100,0,0⟩::(aw a (m.top.pc+1)++(⟨103,((gC (aw a) (aw b) m.top.pc:Nat):Int),0⟩::(aw b (m.top.pc+1+(aw a (m.top.pc+1)).length+1)++
      (⟨104,((gC (aw a) (aw b) m.top.pc+(aw c' (gC (aw a) (aw b) m.top.pc)).length:Nat):Int),0⟩::aw c' (gC (aw a) (aw b) m.top.pc))))):=by
     rw[gY,hab]
     unfold rn
     rw[if_neg o5,if_pos o7]
     rfl
    have hel:gC (aw a) (aw b) m.top.pc=m.top.pc+1+(aw a (m.top.pc+1)).length+1+(aw b (m.top.pc+1+(aw a (m.top.pc+1)).length+1)).length+1:=rfl
    rw[hcode]at hs ⊢
    have hs1:bd ms (m.after m.S.tick 1 []) _:=bd.right (a:=[⟨100,0,0⟩]) hs rfl rfl rfl
    have h1:=ih a (m.after m.S.tick 1 []) hG1 hl1 fa hs1.left
    have hle:=jp ms N m.top.plugin a m.top.arg m.top.names (m.below.length+1) m.S.tick
    have hox:=gu ms N m.top.plugin a m.top.arg m.top.names (m.below.length+1) m.S.tick hG.S.tick hG.top.arg hG.top.names
    change ff ms _ _ (ofD ms N m.top.plugin a m.top.arg m.top.names (m.below.length+1) m.S.tick)at h1
    rcases hq:ofD ms N m.top.plugin a m.top.arg m.top.names (m.below.length+1) m.S.tick with⟨S',v,c⟩
    rw[hq]at h1 hle hox
    simp only at h1 hle ⊢
    unfold ff at h1
    simp only at h1
    by_cases hc:c=0
    ·rw[if_neg (by simpa using hc)]at h1 ⊢
     rw[eX]at h1
     have hA':aw a (m.after m.S.tick 1 []).top.pc=aw a (m.top.pc+1):=rfl
     rw[hA']at h1
     have hB':∀ q,q=m.top.pc+1+(aw a (m.top.pc+1)).length+1→aw b q=aw b (m.top.pc+1+(aw a (m.top.pc+1)).length+1):=fun q e=>by rw[e]
     have hC':∀ q,q=gC (aw a) (aw b) m.top.pc→aw c' q=aw c' (gC (aw a) (aw b) m.top.pc):=fun q e=>by rw[e]
     generalize aw c' (gC (aw a) (aw b) m.top.pc)=C at*
     generalize gC (aw a) (aw b) m.top.pc=el at*
     generalize aw b (m.top.pc+1+(aw a (m.top.pc+1)).length+1)=B at*
     generalize aw a (m.top.pc+1)=A at*
     have hs2:bd ms (m.after S' (1+A.length) ([]++[v])) (⟨103,(el:Int),0⟩::(B++(⟨104,((el+C.length:Nat):Int),0⟩::C))):=bd.right hs1 rfl rfl (by simp only[MaD.after];omega)
     have hk:(⟨100,0,0⟩::(A++(⟨103,(el:Int),0⟩::(B++(⟨104,((el+C.length:Nat):Int),0⟩::C)))):List aP).length=1+A.length+1+B.length+1+C.length:=by simp only[List.length_cons,List.length_append];omega
     rw[hk]
     have go2:∀ r,fO ms (m.after S' (1+A.length) ([]++[v])) r→fO ms m r:=fun r hr=>go1 r (h1 r hr)
     have hG2:(m.after S' (1+A.length) ([]++[v])).Good ms:=by
      have:=MaD.Good.after1 (k:=A.length) hG1 hox hc
      rwa [eX]at this
     have ok2:=hs2.at hG2 ⟨by simp,by simp[MaD.after],by simp,by simp,by simp,by simp⟩
     have hG3:∀ pc,(⟨S',{m.top with pc:=pc},m.below⟩:MaD).Good ms:=fun pc=>by
      refine hG2.next rfl rfl ⟨hG.top.p0,hG.top.there,hG.top.f0,hG.top.f1,hG.top.arg,hG.top.names,hG.top.stack,hG.top.gates⟩ (by simp[MaD.after]) hG2.nms
     by_cases hv:v.kind=1
     ·rw[if_neg (by simpa using hv)]
      have e1:fh ms (m.after S' (1+A.length) ([]++[v]))= .go {S:=S',top:={m.top with pc:=if v.n=0 then el else m.top.pc+(1+A.length)+1},below:=m.below}:=by
       unfold fh
       simp only[hs2.get]
       rw[if_neg (by decide),if_neg (by decide),if_neg (by decide),if_pos trivial]
       simp only[MaD.after,List.nil_append,dD,fN,List.getD_cons_zero,Int.toNat_natCast]
       rw[if_neg (by simpa using hv)]
      by_cases hn:v.n=0
      ·rw[if_neg (by simpa using hn)]
       rw[if_pos hn]at e1
       have hs3:bd ms {S:=S',top:={m.top with pc:=el},below:=m.below} C:=by
        have:=bd.right (m':={S:=S',top:={m.top with pc:=el},below:=m.below}) (a:=⟨100,0,0⟩::(A++(⟨103,(el:Int),0⟩::(B++[⟨104,((el+C.length:Nat):Int),0⟩])))) (b:=C) (ms:=ms) (m:=m) (by simpa using hs) rfl rfl (by simp only[List.length_cons,List.length_append,List.length_nil];omega)
        exact this
       have h2:=ih c' {S:=S',top:={m.top with pc:=el},below:=m.below} (hG3 _) (Nat.le_trans hle hl1) fc (by simp only;rw[hC' el rfl];exact hs3)
       simp only at h2
       rw[hC' el rfl]at h2
       generalize ofD ms N m.top.plugin c' m.top.arg m.top.names (m.below.length+1) S'=q at h2 ⊢
       unfold ff at h2 ⊢
       by_cases hz:q.2.2=0
       ·rw[if_neg (by simpa using hz)]at h2 ⊢
        intro r hr
        refine go2 r (.go ok2 e1 (h2 r ?_))
        have:(MaD.after {S:=S',top:={m.top with pc:=el},below:=m.below} q.1 C.length [q.2.1])=m.after q.1 (1+A.length+1+B.length+1+C.length) [q.2.1]:=by
         simp only[MaD.after]
         rw[show el+C.length=m.top.pc+(1+A.length+1+B.length+1+C.length) by omega]
        rw[this]
        exact hr
       ·rw[if_pos hz]at h2 ⊢
        exact go2 _ (.go ok2 e1 h2)
      ·rw[if_pos hn]
       rw[if_neg hn]at e1
       have hs3:bd ms {S:=S',top:={m.top with pc:=m.top.pc+(1+A.length)+1},below:=m.below} (B++(⟨104,((el+C.length:Nat):Int),0⟩::C)):=bd.right (a:=[⟨103,(el:Int),0⟩]) hs2 rfl rfl (by simp only[MaD.after,List.length_singleton])
       have hB:aw b (m.top.pc+(1+A.length)+1)=B:=hB' _ (by omega)
       have h2:=ih b {S:=S',top:={m.top with pc:=m.top.pc+(1+A.length)+1},below:=m.below} (hG3 _) (Nat.le_trans hle hl1) fb (by simp only;rw[hB];exact hs3.left)
       simp only at h2
       rw[hB]at h2
       have hox3:=gu ms N m.top.plugin b m.top.arg m.top.names (m.below.length+1) S' hG2.S hG.top.arg hG.top.names
       generalize ofD ms N m.top.plugin b m.top.arg m.top.names (m.below.length+1) S'=q at h2 hox3 ⊢
       unfold ff at h2 ⊢
       by_cases hz:q.2.2=0
       ·rw[if_neg (by simpa using hz)]at h2 ⊢
        intro r hr
        refine go2 r (.go ok2 e1 (h2 r ?_))
        have hs4:bd ms (MaD.after {S:=S',top:={m.top with pc:=m.top.pc+(1+A.length)+1},below:=m.below} q.1 B.length [q.2.1]) (⟨104,((el+C.length:Nat):Int),0⟩::C):=bd.right hs3 rfl rfl rfl
        refine .go (hs4.at (MaD.Good.after1 (c:=q.2.2) (hG3 _) hox3 hz) ⟨by simp,by simp,by simp,fun _=>Int.natCast_nonneg _,by simp,by simp⟩) (m':=m.after q.1 (1+A.length+1+B.length+1+C.length) [q.2.1]) ?_ hr
        unfold fh
        simp only[hs4.get]
        rw[if_neg (by decide),if_neg (by decide),if_neg (by decide),if_neg (by decide),if_pos trivial]
        simp only[MaD.after,Int.toNat_natCast]
        congr 3
        omega
       ·rw[if_pos hz]at h2 ⊢
        exact go2 _ (.go ok2 e1 h2)
     ·rw[if_pos hv]
      refine ff.no (by decide) (go2 _ (.fail ok2 ?_))
      unfold fh
      simp only[hs2.get]
      rw[if_neg (by decide),if_neg (by decide),if_neg (by decide),if_pos trivial]
      simp only[MaD.after,List.nil_append,dD,List.getD_cons_zero]
      rw[if_pos hv]
    ·rw[if_pos hc]at h1 ⊢
     exact ff.no hc (go1 _ h1)
   have hcode:aw x m.top.pc=⟨100,0,0⟩::(f9 (x.l.map aw) (m.top.pc+1)++[⟨x.op,x.k,x.n⟩]):=by
    rw[gY]
    unfold rn
    rw[if_neg o5,if_neg o7]
   rw[hcode]at hs ⊢
   have hs1:bd ms (m.after m.S.tick 1 []) (f9 (x.l.map aw) (m.top.pc+1)++[⟨x.op,x.k,x.n⟩]):=bd.right (a:=[⟨100,0,0⟩]) hs rfl rfl rfl
   cases hlf:fw m.top.plugin x m.top.arg m.top.names m.S.tick with
   | some v=>
     have hz:x.l=[]:=by
      have:x.op=1∨x.op=2∨x.op=3∨x.op=4∨x.op=21:=by
       rcases Classical.em (x.op=1∨x.op=2∨x.op=3∨x.op=4∨x.op=21)with h | h
       ·exact h
       ·rw[g8.2 h]at hlf
        cases hlf
      have hp:aR x.op=0:=by rw[aR,if_pos this]
      rw[hp]at f2
      exact List.length_eq_zero_iff.1 (by omega)
     rw[hz]at hs1 ⊢
     simp only[List.map_nil,f9,List.nil_append]at hs1 ⊢
     refine ff.ok fun r hr=>go1 r (.go (hs1.at hG1 ⟨.inl ⟨hop.1,hop.2,o5,o7⟩,fun h=>by simp only at h;omega,fun h=>by simp only at h;omega,fun h=>by simp only at h;omega,fun _=>by
      simp only
      rw[hz]at f2
      rw[←f2]
      simp,fun h=> ?_⟩) ?_ hr)
     ·simp only at h
      rw[h]at f3
      exact DF f3
     rw[wx hs1 (by omega)]
     unfold jH
     have hlf2:fw m.top.plugin (.mk x.op x.k x.n []) m.top.arg m.top.names m.S.tick=some v:=by
      rw[←hlf]
      exact Cd rfl rfl rfl
     simp only[MaD.after,List.append_nil,hlf2,MaD.push,List.length_cons,List.length_nil]
   | none=>
     simp only
     rw[if_neg o5,if_neg o7]
     have hL:=LS ih x.l (m.after m.S.tick 1 []) [] hG1 hl1 (jy o5 f5) hs1.left
     have hlen:=BU (f:=fun y S=>ofD ms N m.top.plugin y m.top.arg m.top.names (m.below.length+1) S) x.l m.S.tick []
     have hle:=qI (f:=fun y S=>ofD ms N m.top.plugin y m.top.arg m.top.names (m.below.length+1) S) (fun y S=>jp ms N m.top.plugin y m.top.arg m.top.names (m.below.length+1) S) x.l m.S.tick []
     have hoL:=y9 (f:=fun y S=>ofD ms N m.top.plugin y m.top.arg m.top.names (m.below.length+1) S) (fun y S h=>gu ms N m.top.plugin y m.top.arg m.top.names (m.below.length+1) S h hG.top.arg hG.top.names) x.l m.S.tick [] hG.S.tick (by simp)
     change zO ms _ _ _ (evL (fun y S=>ofD ms N m.top.plugin y m.top.arg m.top.names (m.below.length+1) S) x.l m.S.tick [])at hL
     rcases hq:evL (fun y S=>ofD ms N m.top.plugin y m.top.arg m.top.names (m.below.length+1) S) x.l m.S.tick []with⟨S',l,c⟩
     rw[hq]at hL hlen hle hoL
     obtain⟨oL1,oL2,oL3,oL4⟩:=hoL
     simp only[List.length_nil,Nat.zero_add]at hL hlen hle ⊢
     unfold zO at hL
     simp only at hL
     by_cases hc:c=0
     ·subst hc
      rw[if_neg (by simp)]at hL ⊢
      obtain⟨ws,hws,hL⟩:=hL
      rw[List.nil_append]at hws
      subst hws
      have hlen:=hlen rfl
      change ∀ r,fO ms ((m.after m.S.tick 1 []).after S' (f9 (x.l.map aw) (m.top.pc+1)).length l) r→_ at hL
      rw[eX,List.nil_append]at hL
      generalize f9 (x.l.map aw) (m.top.pc+1)=A at*
      have go2:∀ r,fO ms (m.after S' (1+A.length) l) r→fO ms m r:=fun r hr=>go1 r (hL r hr)
      have hs2:bd ms (m.after S' (1+A.length) l) [⟨x.op,x.k,x.n⟩]:=bd.right hs1 rfl rfl (by simp only[MaD.after];omega)
      have hlf2:fw m.top.plugin (.mk x.op x.k x.n []) m.top.arg m.top.names S'=none:=g8.2 (g8.1 hlf)
      have est:=wx hs2 (by omega)
      have tk:=lR h0
      have hlv:=(oL4 rfl).1
      have hll:=(oL4 rfl).2
      simp only[List.length_nil,Nat.add_zero]at oL1 oL2 oL3 hlv hll
      have hG2:(m.after S' (1+A.length) l).Good ms:=hG.after oL1 (by omega) (by omega) hlv
      have ok2:Ok ms (m.after S' (1+A.length) l):=hs2.at hG2 ⟨.inl ⟨hop.1,hop.2,o5,o7⟩,fun h=>by simp only at h;omega,fun h=>by simp only at h;omega,fun h=>by simp only at h;omega,fun _=>by
       simp only[MaD.after,List.length_append]
       omega,fun h=>by
       have:=g8.1 hlf
       simp only at h
       omega⟩
      have hlp:(aR x.op).toNat=l.length:=by omega
      have hk:(⟨100,0,0⟩::(A++[⟨x.op,x.k,x.n⟩]):List aP).length=1+A.length+1:=by simp only[List.length_cons,List.length_append,List.length_nil];omega
      rw[hk]
      clear hk hcode hs hs1
      unfold jH at est
      simp only[MaD.after,List.append_nil,hlf2]at est
      by_cases o18:x.op=18
      ·rw[if_pos o18]at est ⊢
       rw[o18]at f2 f3
       obtain⟨k0,k1⟩:=Gj f3
       obtain⟨v,rfl⟩:∃ v,l=[v]:=by
        have:l.length=1:=by rw[hlen];simp[aR]at f2;omega
        match l,this with
        | [v],_=>exact⟨v,rfl⟩
       rw[dD,fN]at est
       simp only[List.getD_cons_zero]at est ⊢
       unfold MaD.call at est
       simp only at est
       by_cases hfr:m.below.length+1=20
       ·rw[if_pos hfr]at est ⊢
        exact ff.no (by decide) (go2 _ (.fail ok2 est))
       ·rw[if_neg hfr]at est ⊢
        have gf:=qx hg (p:=m.top.plugin) (k:=x.k) (by omega)
        have hG3:(⟨S',⟨m.top.plugin,x.k,0,v,[],[],false,[]⟩,m.below++[{m.top with pc:=m.top.pc+(1+A.length)+1}]⟩:MaD).Good ms:=by
         have g1:=hG.stk;have g2:=hG.few;have g3:=hG.mu
         refine⟨oL1,⟨hG.top.p0,hG.top.there,k0,by simp only;omega,hlv v (by simp),by simp,by simp,by simp⟩,by simp only;omega,?_,?_,?_⟩
         ·simp only[List.length_nil];omega
         ·simp only[List.length_nil];omega
         ·simp only[List.length_append,List.length_singleton];omega
        have hox3:=gu ms N m.top.plugin (df ms m.top.plugin x.k) v [] (m.below.length+1+1) S' oL1 (hlv v (by simp)) (by simp)
        have h3:=ih (df ms m.top.plugin x.k) ⟨S',⟨m.top.plugin,x.k,0,v,[],[],false,[]⟩,m.below++[{m.top with pc:=m.top.pc+(1+A.length)+1}]⟩ hG3 (Nat.le_trans hle hl1) gf ⟨[],[⟨105,0,0⟩],by simp[dw],rfl⟩
        simp only[List.length_append,List.length_singleton]at h3
        generalize ofD ms N m.top.plugin (df ms m.top.plugin x.k) v [] (m.below.length+1+1) S'=q at h3 hox3 ⊢
        unfold ff at h3 ⊢
        by_cases hz:q.2.2=0
        ·rw[if_neg (by simpa using hz)]at h3 ⊢
         intro r hr
         refine go2 r (.go ok2 est (h3 r (.go (bd.at (c:=[]) (x:=⟨105,0,0⟩) ⟨aw (df ms m.top.plugin x.k) 0,[],by simp[dw,MaD.after],by simp[MaD.after]⟩ (MaD.Good.after1 (c:=q.2.2) hG3 hox3 hz) ⟨by simp,by simp[MaD.after],by simp,by simp,by simp,by simp⟩) ?_ hr)))
         rw[nI (c:=[]) (st:=[]) (v:=q.2.1) ⟨aw (df ms m.top.plugin x.k) 0,[],by simp[dw,MaD.after],by simp[MaD.after]⟩ rfl]
         simp only[MaD.after,StD.ok,nh]
         rw[if_neg (by simp)]
         simp only[nh,Bool.false_eq_true,if_false]
         simp[Nat.add_assoc]
        ·rw[if_pos hz]at h3 ⊢
         exact go2 _ (.go ok2 est h3)
      by_cases o19:x.op=19
      ·rw[if_neg o18,if_pos o19]at est ⊢
       rw[o19]at f2
       obtain⟨v,w,rfl⟩:∃ v w,l=[v,w]:=Dr (by rw[hlen];simp[aR]at f2;omega)
       have tk:=iX m.top.stack [v,w]
       have dr:=i8 m.top.stack [v,w]
       simp only[List.length_cons,List.length_nil,Nat.zero_add,reduceAdd]at tk dr
       rw[tk,dr]at est
       simp only[List.getD_cons_zero,List.getD_cons_succ]at est ⊢
       have hal:=nw ms v w (m.below.length+1) S'
       have hao:=BJ (ms:=ms) (v:=v) (x:=w) (fr:=m.below.length+1) oL1
       rcases hqa:fP ms v w (m.below.length+1) S' with⟨S2,q,c⟩
       rw[hqa]at est hal hao
       simp only at est hal hao ⊢
       by_cases hc:c=0
       ·subst hc
        rw[if_neg (by simp)]at est ⊢
        obtain⟨qf,hfr⟩:=Az hqa
        unfold MaD.call at est
        simp only at est
        rw[if_neg hfr]at est
        have gf:=qx hg (p:=q.plugin) (k:=q.func) qf
        obtain⟨b1,b2,b3⟩:=hao
        obtain⟨b4,b5,b6,b7,b8,b9⟩:=b3 rfl
        have hG3:(⟨S2,⟨q.plugin,q.func,0,q.arg,[],[],true,q.gates⟩,m.below++[{m.top with pc:=m.top.pc+(1+A.length)+1}]⟩:MaD).Good ms:=by
         have g1:=hG.stk;have g2:=hG.few;have g3:=hG.mu
         refine⟨b1,⟨b7,b6,b8,b9,b4,by simp,by simp,b5⟩,by simp only;omega,?_,?_,?_⟩
         ·simp only[List.length_nil];omega
         ·simp only[List.length_nil];omega
         ·simp only[List.length_append,List.length_singleton];omega
        have hox3:=gu ms N q.plugin (df ms q.plugin q.func) q.arg [] (m.below.length+1+1) S2 b1 b4 (by simp)
        have h3:=ih (df ms q.plugin q.func) ⟨S2,⟨q.plugin,q.func,0,q.arg,[],[],true,q.gates⟩,m.below++[{m.top with pc:=m.top.pc+(1+A.length)+1}]⟩ hG3 (Nat.le_trans (Nat.le_of_eq hal) (Nat.le_trans hle hl1)) gf ⟨[],[⟨105,0,0⟩],by simp[dw],rfl⟩
        simp only[List.length_append,List.length_singleton]at h3
        rcases hq3:ofD ms N q.plugin (df ms q.plugin q.func) q.arg [] (m.below.length+1+1) S2 with⟨S3,v3,c3⟩
        rw[hq3]at h3 hox3
        unfold ff at h3
        simp only at h3 ⊢
        by_cases hz:c3=0
        ·rw[if_neg (by simpa using hz)]at h3 ⊢
         have bst:=nI (ms:=ms) (m:=MaD.after ⟨S2,⟨q.plugin,q.func,0,q.arg,[],[],true,q.gates⟩,m.below++[{m.top with pc:=m.top.pc+(1+A.length)+1}]⟩ S3 (aw (df ms q.plugin q.func) 0).length [v3]) (c:=[]) (st:=[]) (v:=v3) ⟨aw (df ms q.plugin q.func) 0,[],by simp[dw,MaD.after],by simp[MaD.after]⟩ rfl
         have ok3:Ok ms (MaD.after ⟨S2,⟨q.plugin,q.func,0,q.arg,[],[],true,q.gates⟩,m.below++[{m.top with pc:=m.top.pc+(1+A.length)+1}]⟩ S3 (aw (df ms q.plugin q.func) 0).length [v3]):=
          bd.at (c:=[]) (x:=⟨105,0,0⟩) ⟨aw (df ms q.plugin q.func) 0,[],by simp[dw,MaD.after],by simp[MaD.after]⟩ (hG3.after1 hox3 hz) ⟨by simp,by simp[MaD.after],by simp,by simp,by simp,by simp⟩
         simp only[MaD.after,if_true,nh]at bst
         generalize ge q.gates v3 S3=q4 at bst ⊢
         unfold ff
         by_cases hz4:q4.2.2=0
         ·rw[if_neg (by simpa using hz4)]at bst ⊢
          intro r hr
          refine go2 r (.go ok2 est (h3 r (.go ok3 bst ?_)))
          simpa[MaD.after,Nat.add_assoc]using hr
         ·rw[if_pos hz4]at bst ⊢
          exact go2 _ (.go ok2 est (h3 _ (.fail ok3 bst)))
        ·rw[if_pos hz]at h3 ⊢
         exact ff.no hz (go2 _ (.go ok2 est h3))
       ·rw[if_pos hc]at est ⊢
        exact ff.no hc (go2 _ (.fail ok2 est))
      rw[if_neg o18,if_neg o19]at est ⊢
      rw[hlp,iX,i8]at est
      generalize bR m.top.plugin x.op x.k x.n l S'=q at est ⊢
      unfold ff
      unfold MaD.done MaD.push at est
      by_cases hz:q.2.2=0
      ·rw[if_neg (by simpa using hz)]at est ⊢
       intro r hr
       refine go2 r (.go ok2 est ?_)
       simpa only[MaD.after,Nat.add_assoc]using hr
      ·rw[if_pos hz]at est ⊢
       exact go2 _ (.fail ok2 est)
     ·rw[if_pos hc]at hL ⊢
      exact ff.no hc (go1 _ hL)
theorem dS {α:Type} {l:List α} (h:1≤l.length):∃ st v,l=st++[v]:=⟨l.dropLast,l.getLast (fun e=>by rw[e]at h;simp at h),(List.dropLast_concat_getLast _).symm⟩
theorem u9 {α:Type} {l:List α} (h:2≤l.length):∃ st v w,l=st++[v]++[w]:=by
 obtain⟨st,w,rfl⟩:=dS (l:=l) (by omega)
 obtain⟨st,v,rfl⟩:=dS (l:=st) (by simp at h;omega)
 exact⟨st,v,w,rfl⟩
section
variable {h h' h0:AH} {F J F0 J0:Nat→Prop} {L:List Asn} {c:Cfg} {i:Nat} {n:Now}
abbrev Now.m (n:Now):MaD:=⟨n.S,n.top,n.below⟩
theorem bm.toI {st:List VD} {q:StD×VD×Int} {fr:AV ⊕ AV} (r:bm h0 F0 J0 c L i (n.stk st) q fr h'):Ef h0 F0 J0 c L i (MaD.done n.m st q) fr h':=by
 unfold MaD.done
 rcases r with⟨e,b,s⟩ | ⟨e,b,n',e2,s⟩
 ·rw[if_neg (by simpa using e)]
  exact⟨b,n.fb,s⟩
 ·rw[if_pos e]
  exact⟨b,n',e2,s⟩
theorem jW.toI {st:List VD} {q:StD×ww×Int} {fr:AV ⊕ AV} (r:jW h0 F0 J0 c L i (n.stk st) q fr h') (h20:q.2.2=0→n.below.length+1≠20):Ef h0 F0 J0 c L i (match q with
   | (S',q,k)=>if k≠0 then .fail S' k else MaD.call n.m S' st q.plugin q.func q.arg true q.gates) fr h':=by
 obtain⟨S',q,k⟩:=q
 rcases r with⟨e,b,fb,s⟩ | ⟨e,b,n',e2,s⟩
 ·simp only at e s h20 ⊢
  rw[if_neg (by simpa using e)]
  unfold MaD.call
  rw[if_neg (h20 e)]
  exact⟨b,fb,s⟩
 ·simp only at e b e2 s ⊢
  rw[if_pos e]
  exact⟨b,n',e2,s⟩
theorem La.toI {st:List VD} {k:Int} {v:VD} {fr:AV ⊕ AV} (r:La h0 F0 J0 c L i (n.stk st) k v fr h'):Ef h0 F0 J0 c L i (MaD.call n.m n.S st n.top.plugin k v false []) fr h':=by
 unfold MaD.call
 rcases r with⟨e,b,fb,s⟩ | ⟨e,b,s⟩
 ·rw[if_neg e]
  exact⟨b,fb,s⟩
 ·rw[if_pos e]
  exact⟨b,n.stk st,rfl,s⟩
theorem tH {ms:aI} {m:MaD} {op k x:Int} (h:¬ (op=1∨op=2∨op=3∨op=4∨op=21)) (h8:op≠18) (h9:op≠19):jH ms m ⟨op,k,x⟩=m.done (ke m.top.stack (aR op).toNat) (bR m.top.plugin op k x (jq m.top.stack (aR op).toNat) m.S):=by
 unfold jH
 have hl:fw m.top.plugin (.mk op k x []) m.top.arg m.top.names m.S=none:=g8.2 h
 simp only
 rw[hl]
 simp only
 rw[if_neg h8,if_neg h9]
theorem Do {ms:aI} {m:MaD} {op k x:Int} {v:VD} (h:fw m.top.plugin (.mk op k x []) m.top.arg m.top.names m.S=some v):jH ms m ⟨op,k,x⟩=m.push m.S m.top.stack v:=by
 unfold jH
 simp only
 rw[h]
theorem mz {ms:aI} {st:List VD} {v:VD} {op k x:Int} (hst:n.top.stack=st++[v]) (h:¬ (op=1∨op=2∨op=3∨op=4∨op=21)) (h8:op≠18) (h9:op≠19) (hp:(aR op).toNat=1):jH ms n.m ⟨op,k,x⟩=MaD.done n.m st (bR n.top.plugin op k x [v] n.S):=by
 rw[tH h h8 h9,hp]
 simp only[hst,dD,fN]
theorem Dx {ms:aI} {st:List VD} {v w:VD} {op k x:Int} (hst:n.top.stack=st++[v]++[w]) (h:¬ (op=1∨op=2∨op=3∨op=4∨op=21)) (h8:op≠18) (h9:op≠19) (hp:(aR op).toNat=2):jH ms n.m ⟨op,k,x⟩=MaD.done n.m st (bR n.top.plugin op k x [v,w] n.S):=by
 rw[tH h h8 h9,hp]
 have e:n.top.stack=st++[v,w]:=by rw[hst,List.append_assoc];rfl
 have t:=iX st [v,w]
 have d:=i8 st [v,w]
 simp only[List.length_cons,List.length_nil,Nat.zero_add,reduceAdd]at t d
 simp only[e,t,d]
theorem mX {ms:aI} {v:VD} {op k x:Int} {h1:AH} (hl:fw n.top.plugin (.mk op k x []) n.top.arg n.top.names n.S=some v) (s:St h0 F0 J0 h1 (put c L i (n.stk (n.top.stack++[v])))):Ef h0 F0 J0 c L i (jH ms n.m ⟨op,k,x⟩) (.inl (.tup [])) h1:=by
 rw[Do hl]
 exact⟨rfl,n.fb,s⟩
theorem nN {st:List VD} {l:List VD} (hg:n.top.Good c.ms) (hst:n.top.stack=st++l) {v:VD} (hv:v∈l):v.code=0:=hg.stack v (by rw[hst];exact List.mem_append_right _ hv)
set_option maxHeartbeats 1000000 in
theorem KE (s:St h0 F0 J0 h L) (a:At c L i n) (o:OkR c n) (hg:n.top.Good c.ms) {x:aP} (hx:Dc n.m x) (hop:x.op<100):
  ∃ fr h',ai Tryz.prog po iO [.ptr c.mb 0 0,.agg (bN x)] h=some (fr,h')∧Ef h0 F0 J0 c L i (jH c.ms n.m x) fr h':=by
 obtain⟨op,k,m⟩:=x
 simp only at hop
 have hk:=hx.kind
 have hparts:=hx.parts hop
 have hvar:=hx.var
 simp only at hk hparts hvar
 obtain⟨P,hP⟩:=Int.eq_ofNat_of_zero_le hg.p0
 have hP4:P<4:=by
  have:=hg.there
  rw[hP]at this
  have this:(c.ms.getD P none).isSome=true:=this
  rcases Nat.lt_or_ge P 4 with h | h
  ·exact h
  ·rw[List.getD,List.getElem?_eq_none (by rw[o.ms];exact h)]at this
   cases this
 have pP:n.top.plugin.toNat=P:=by rw[hP];rfl
 have cases_:op=1∨op=2∨op=3∨op=4∨op=6∨op=8∨op=9∨op=10∨op=11∨op=12∨op=13∨op=14∨op=15∨op=16∨op=17∨op=18∨op=19∨op=20∨op=21:=by omega
 rcases cases_ with rfl | rfl | rfl | rfl | rfl | rfl | rfl | rfl | rfl | rfl | rfl | rfl | rfl | rfl | rfl | rfl | rfl | rfl | rfl
 ·obtain⟨h',e,s'⟩:=HY s a o k m
  exact⟨_,h',e,mX rfl s'⟩
 ·obtain⟨h',e,s'⟩:=Hr s a o k m
  exact⟨_,h',e,mX rfl s'⟩
 ·obtain⟨h',e,s'⟩:=IE s a o k m
  exact⟨_,h',e,mX rfl s'⟩
 ·obtain⟨h',e,s'⟩:=If s a o (hvar rfl) m
  exact⟨_,h',e,mX rfl s'⟩
 ·obtain⟨st,v,w,hst⟩:=u9 (l:=n.top.stack) hparts
  obtain⟨fr,h',e,r⟩:=Ii s a o hst k m
  exact⟨fr,h',e,by rw[Dx hst (by decide) (by decide) (by decide) rfl];exact r.toI⟩
 ·obtain⟨st,v,w,hst⟩:=u9 (l:=n.top.stack) hparts
  obtain⟨fr,h',e,r⟩:=HJ s a o hst k m
  exact⟨fr,h',e,by rw[Dx hst (by decide) (by decide) (by decide) rfl];exact r.toI⟩
 ·obtain⟨st,v,hst⟩:=dS (l:=n.top.stack) hparts
  obtain⟨fr,h',e,r⟩:=GZ s a o hst (nN hg hst (by simp)) k m
  exact⟨fr,h',e,by rw[mz hst (by decide) (by decide) (by decide) rfl];exact r.toI⟩
 ·obtain⟨st,v,hst⟩:=dS (l:=n.top.stack) hparts
  obtain⟨fr,h',e,r⟩:=Fs s a o hst (nN hg hst (by simp)) k m
  exact⟨fr,h',e,by rw[mz hst (by decide) (by decide) (by decide) rfl];exact r.toI⟩
 ·obtain⟨st,v,hst⟩:=dS (l:=n.top.stack) hparts
  obtain⟨fr,h',e,r⟩:=DI s a o hst k m
  exact⟨fr,h',e,by rw[mz hst (by decide) (by decide) (by decide) rfl];exact r.toI⟩
 ·obtain⟨st,v,hst⟩:=dS (l:=n.top.stack) hparts
  obtain⟨fr,h',e,r⟩:=EP s a o hst (nN hg hst (by simp)) k m
  exact⟨fr,h',e,by rw[mz hst (by decide) (by decide) (by decide) rfl];exact r.toI⟩
 ·obtain⟨st,v,hst⟩:=dS (l:=n.top.stack) hparts
  obtain⟨fr,h',e,r⟩:=Eh s a o hst k m
  exact⟨fr,h',e,by rw[mz hst (by decide) (by decide) (by decide) rfl];exact r.toI⟩
 ·obtain⟨st,v,w,hst⟩:=u9 (l:=n.top.stack) hparts
  obtain⟨fr,h',e,r⟩:=EA s a o hst k m
  exact⟨fr,h',e,by rw[Dx hst (by decide) (by decide) (by decide) rfl];exact r.toI⟩
 ·obtain⟨st,v,hst⟩:=dS (l:=n.top.stack) hparts
  obtain⟨fr,h',e,r⟩:=DE s a o hst k m
  exact⟨fr,h',e,by rw[mz hst (by decide) (by decide) (by decide) rfl];exact r.toI⟩
 ·obtain⟨st,v,hst⟩:=dS (l:=n.top.stack) hparts
  obtain⟨fr,h',e,r⟩:=FL s a o hst k m
  exact⟨fr,h',e,by rw[mz hst (by decide) (by decide) (by decide) rfl];exact r.toI⟩
 ·obtain⟨st,v,hst⟩:=dS (l:=n.top.stack) hparts
  obtain⟨fr,h',e,r⟩:=DA s a o hst k m
  exact⟨fr,h',e,by rw[mz hst (by decide) (by decide) (by decide) rfl];exact r.toI⟩
 ·obtain⟨st,v,hst⟩:=dS (l:=n.top.stack) hparts
  obtain⟨fr,h',e,r⟩:=D7 s a o hst k m
  refine⟨fr,h',e,?_⟩
  have:jH c.ms n.m ⟨18,k,m⟩=MaD.call n.m n.S st n.top.plugin k v false []:=by
   unfold jH
   simp only
   have hl:fw n.top.plugin (.mk 18 k m []) n.top.arg n.top.names n.S=none:=rfl
   rw[hl]
   simp only[hst,dD,fN,if_true]
   rfl
  rw[this]
  exact r.toI
 ·obtain⟨st,v,w,hst⟩:=u9 (l:=n.top.stack) hparts
  obtain⟨fr,h',e,r⟩:=ET s a o hst k m
  refine⟨fr,h',e,?_⟩
  have e2:n.top.stack=st++[v,w]:=by rw[hst,List.append_assoc];rfl
  have t:=iX st [v,w]
  have d:=i8 st [v,w]
  simp only[List.length_cons,List.length_nil,Nat.zero_add,reduceAdd]at t d
  have:jH c.ms n.m ⟨19,k,m⟩=match fP c.ms v w (n.below.length+1) n.S with
   | (S',q,k)=>if k≠0 then .fail S' k else MaD.call n.m S' st q.plugin q.func q.arg true q.gates:=by
   unfold jH
   simp only
   have hl:fw n.top.plugin (.mk 19 k m []) n.top.arg n.top.names n.S=none:=rfl
   rw[hl]
   simp only[e2,t,d,if_true]
   rw[if_neg (by decide)]
   rfl
  rw[this]
  refine jW.toI (q:=fP c.ms v w (n.below.length+1) n.S) r fun h0=> ?_
  exact(Az (S':=(fP c.ms v w (n.below.length+1) n.S).1) (q:=(fP c.ms v w (n.below.length+1) n.S).2.1) (by rw[←h0])).2
 ·obtain⟨st,v,hst⟩:=dS (l:=n.top.stack) hparts
  obtain⟨fr,h',e,r⟩:=Ft s a o hst hP hP4 k m
  exact⟨fr,h',e,by rw[mz hst (by decide) (by decide) (by decide) rfl];exact r.toI⟩
 ·obtain⟨h',e,s'⟩:=FO s a o hP hP4 k m
  refine⟨_,h',e,mX ?_ s'⟩
  show some (n.S.kept.getD n.top.plugin.toNat aD)=_
  rw[pP]
end
def jX (c:Cfg) (L:List Asn) (i fb:Nat) (S:StD):List Asn:=(put c L i ⟨fb,S,[],⟨0,0,0,aD,[],[],false,[]⟩⟩).set i (zE c.mb c.bb fb (S.left:Int))
theorem Ij {c:Cfg} {L:List Asn} {i:Nat} {n n':Now} {X:Asn} (hS:n.S=n'.S):(put c L i n).set i X=(put c L i n').set i X:=by
 refine jz fun j=> ?_
 rw[List.getElem?_set,List.getElem?_set,oN,oN,eJ,eJ,hS]
 by_cases hj:i=j
 ·rw[if_pos hj,if_pos hj]
 ·rw[if_neg hj,if_neg hj,if_neg (show ¬ j=i from Ne.symm hj),if_neg (show ¬ j=i from Ne.symm hj)]
theorem Bd {c:Cfg} {L:List Asn} {i fb:Nat} {n:Now}:(put c L i n).set i (zE c.mb c.bb fb (n.S.left:Int))=jX c L i fb n.S:=Ij rfl
def ul (h0:AH) (F0 J0:Nat→Prop) (c:Cfg) (L:List Asn) (i:Nat) (q:iz) (fr:AV ⊕ AV) (h':AH):Prop:=match q with
 | .go m=>∃ r,fr= .inl (.tup [.agg r,.bool false])∧(r.length=3∧r.all AV.one=true)∧∃ fb',St h0 F0 J0 h' (put c L i ⟨fb',m.S,m.below,m.top⟩)
 | .fail S k=>fr= .inr (.iface tGo (.int .i64 k))∧∃ n':Now,n'.S=S∧St h0 F0 J0 h' (put c L i n')
 | .over S v=>∃ r,fr= .inl (.tup [.agg r,.bool true])∧VaA v r∧∃ fb',St h0 F0 J0 h' (jX c L i fb' S)
abbrev LY:FuncId:=92
section
variable {h h' h0:AH} {F J F0 J0:Nat→Prop} {L:List Asn} {c:Cfg} {i:Nat} {n:Now}
theorem GL {α:Type} (l:List α):l=[]∨∃ a t,l=a++[t]:=by
 rcases Nat.eq_zero_or_pos l.length with h | h
 ·exact .inl (List.length_eq_zero_iff.1 h)
 ·obtain⟨a,t,e⟩:=dS (l:=l) h
  exact .inr ⟨a,t,e⟩
theorem xa {hA:AH} {LA:List Asn} {iA:Nat} {nA:Now} (s:St h0 F0 J0 hA LA) (a:At c LA iA nA) (hb:nA.below.length≤100) (ht:∀ t,nA.below.getLast? =some t→t.stack.length≤100000) {v:VD} {r:List AV} (hv:VaA v r):
  (∀ k:Nat,aK false k hA (.ptr c.mb 0 1)=some (.msl nA.fb 0 (nA.below.length+1) tFr))∧
  ((nA.below=[]∧∃ h1,aE 1 hA (.ptr c.mb 0 1) (.msl nA.fb 0 nA.below.length tFr)=some h1∧(∀ k:Nat,aK false k h1 (.ptr c.mb 0 1)=some (.msl nA.fb 0 nA.below.length tFr))∧St h0 F0 J0 h1 (LA.set iA (zE c.mb c.bb nA.fb (nA.S.left:Int))))∨
   (∃ bl t,nA.below=bl++[t]∧∃ h1 h2,aE 1 hA (.ptr c.mb 0 1) (.msl nA.fb 0 nA.below.length tFr)=some h1∧(∀ k:Nat,aK false k h1 (.ptr c.mb 0 1)=some (.msl nA.fb 0 nA.below.length tFr))∧St h0 F0 J0 h1 (put c LA iA ⟨nA.fb,nA.S,bl,t⟩)∧
      ai Tryz.prog po fPu [.ptr c.mb 0 0,.agg r] h1=some (.inl (.tup []),h2)∧St h0 F0 J0 h2 (put c LA iA ⟨nA.fb,nA.S,bl,{t with stack:=t.stack++[v]}⟩))):=by
 obtain⟨_,_,_,_,mv⟩:=cQ s iA a.m
 refine⟨fun k=>by rw[bV,mv.m];rfl,?_⟩
 rcases GL nA.below with hn | ⟨bl,t,hn⟩
 ·refine .inl ⟨hn,?_⟩
  have am:=a.m
  rw[hn]at am ⊢
  obtain⟨h1,e1,s1⟩:=Ik s iA am
  refine⟨h1,e1,fun k=> ?_,s1⟩
  have hl:iA<LA.length:=(List.getElem?_eq_some_iff.1 am).1
  have hc:=(s1.cell iA (by rw[List.getElem?_set_self hl];rfl)).1
  rw[bV,hc];rfl
 ·refine .inr ⟨bl,t,hn,?_⟩
  have am:=a.m
  rw[hn]at am
  obtain⟨h1,e1,s1⟩:=Eo s iA am
  rw[a.setM]at s1
  have a1:=a.put ⟨nA.fb,nA.S,bl,t⟩
  obtain⟨_,_,_,_,mv1⟩:=cQ s1 iA a1.m
  have hlen:nA.below.length=bl.length+1:=by rw[hn];simp
  obtain⟨h2,e2,s2⟩:=cM s1 a1 (by simp only;omega) (ht t (by rw[hn];simp)) hv
  rw[aO]at s2
  exact⟨h1,h2,by rw[hlen];exact e1,fun k=>by rw[bV,mv1.m,hlen];rfl,s1,e2,s2⟩
theorem xq {gates:List Int} {v:VD} {S:StD}:ge gates v S=if(be gates S.G v).2.2≠0 then({S with G:=(be gates S.G v).1}:StD).no (be gates S.G v).2.2 else({S with G:=(be gates S.G v).1}:StD).ok (be gates S.G v).2.1:=rfl
theorem ug {st:List VD} {v:VD} (hst:n.top.stack=st++[v]):MaD.back n.m=(if(if n.top.asked then ge n.top.gates v n.S else n.S.ok v).2.2≠0 then .fail (if n.top.asked then ge n.top.gates v n.S else n.S.ok v).1 (if n.top.asked then ge n.top.gates v n.S else n.S.ok v).2.2
  else match n.below.getLast? with
  | none=> .over (if n.top.asked then ge n.top.gates v n.S else n.S.ok v).1 (if n.top.asked then ge n.top.gates v n.S else n.S.ok v).2.1
  | some t=> .go ⟨(if n.top.asked then ge n.top.gates v n.S else n.S.ok v).1,{t with stack:=t.stack++[(if n.top.asked then ge n.top.gates v n.S else n.S.ok v).2.1]},n.below.dropLast⟩):=by
 unfold MaD.back
 simp only[hst,dD,List.getD_cons_zero]
 rfl
set_option maxRecDepth 100000 in
set_option maxHeartbeats 2000000 in
theorem HN (s:St h0 F0 J0 h L) (a:At c L i n) (o:OkR c n) {st:List VD} {v:VD} (hst:n.top.stack=st++[v]) (hgf:n.top.gates.length≤80) (hgo:∀ m',MaD.back n.m= .go m'→m'.top.stack.length≤100000):
  ∃ fr h',ai Tryz.prog po LY [.ptr c.mb 0 0] h=some (fr,h')∧ul h0 F0 J0 c L i (MaD.back n.m) fr h':=by
 have ht0:n.top.asked=false→∀ t,n.below.getLast? =some t→t.stack.length≤100000:=fun hk t ht=>by
  rw[ug hst,hk]at hgo
  simp only[Bool.false_eq_true,if_false]at hgo
  rw[if_neg (by simp[StD.ok]),ht]at hgo
  have:=hgo _ rfl
  simp at this
  omega
 have ht1:n.top.asked=true→(be n.top.gates n.S.G v).2.2=0→∀ t,n.below.getLast? =some t→t.stack.length≤100000:=fun hk hc t ht=>by
  have hb:(ge n.top.gates v n.S).2.2=0:=by rw[xq,if_neg (fun e=>e hc)];rfl
  rw[ug hst,hk]at hgo
  simp only[if_true]at hgo
  rw[if_neg (fun e=>e hb),ht]at hgo
  have:=hgo _ rfl
  simp at this
  omega
 clear hgo
 rw[ug hst]
 have s0:=s.push [zR3]
 have a0:=a.cons (ah h.n [zR3])
 obtain⟨h2,r,e2,hv,s2,a2⟩:=eI s0 a0 o hst
 have o3:=o.stk' hst
 rw[aj]at s2 a2
 obtain⟨o1,o2⟩:=hv.len3
 have s3:=s2.push [r]
 have a3:=a2.cons (ah h2.n [r])
 obtain⟨tp,_⟩:=cg s3 a3 o.below
 obtain⟨ar,sv,nv,g,mv⟩:=cQ s3 (i+1+1) a3.m
 have lall:=mv.all
 have hgo:g.one=true:=by
  have:=mv.hg
  rcases this with⟨_,rfl⟩ | ⟨id,rfl⟩<;>rfl
 have hga:SlA 3 g (cr n.top.gates):=mv.hg
 have g6:=bQ (n.stk st).top ar sv nv g mv.ha.len3.1
 have g7:=mN (f:=(n.stk st).top) (g:=g) mv.ha.len3 mv.sv.1 mv.nv.1 hgo
 generalize ct (n.stk st).top ar sv nv g=row at*
 have s4:St h0 F0 J0 _ (ah (h2.n+1) [row]::ah h2.n [r]::ah h.n [zR3]::put c L i (n.stk st)):=s3.push [row]
 have a4:=a3.cons (ah (h2.n+1) [row])
 have c1:=(s4.cell 0 rfl).1
 have c2:=(s4.cell 1 rfl).1
 have wl:IntKind.wrap .i64 (((n.below.length+1:Nat):Int) - 1)=(n.below.length:Int):=yR (by omega) (by have:=o.below;omega) (by have:=o.below;omega)
 have sl:=uc (e:=tFr) (b:=n.fb) (n:=n.below.length+1) (m:=n.below.length) (by omega)
 have fm:aH 1 (.ptr c.mb 0 0)=some (.ptr c.mb 0 1):=rfl
 have r8:row[8]? =some (.bool n.top.asked):=g6.2.2.2.2.1
 have r9:row[9]? =some g:=g6.2.2.2.1
 have rl:row.length=10:=g6.2.1
 clear g6
 cases hask:n.top.asked with
 | false=>
   rw[hask]at r8
   simp only[Bool.false_eq_true,if_false,StD.ok]
   rw[if_neg (by simp)]
   obtain⟨ld,hfin⟩:=xa s4 a4 o.below (ht0 hask) hv
   rcases hfin with⟨hb0,h1,e5,l5,s5⟩ | ⟨bl,t,hbl,h1,h5,e5,l5,s5,e6,s6⟩
   ·have hb0:n.below=[]:=hb0
    rw[hb0]
    have s5':St h0 F0 J0 h1 (ah (h2.n+1) [row]::ah h2.n [r]::ah h.n [zR3]::(put c L i (n.stk st)).set i (zE c.mb c.bb n.fb (n.S.left:Int))):=s5
    have d1:=(s5'.cell 1 rfl).1
    have d2:=(s5'.cell 2 rfl).1
    have s6:=s5'.set 2 rfl [r]
    have d3:=(s6.cell 2 rfl).1
    refine⟨.inl (.tup [.agg r,.bool true]),_,?_,r,rfl,hv,n.fb,by have:=s6.drop.drop.drop;rw[←Bd (n:=n.stk st)];exact this⟩
    have dz:decide ((n.below.length:Int)=0)=true:=decide_eq_true (by rw[hb0];rfl)
    refine ag kx rfl ?_;unfold jm
    simp only[sim,af,reduceAdd,reduceSub,replicate,reduceCtorEq,reduceLeDiff,reduceLT,aa,au,e2,o1,o2,tp,lall,rl,g7,c1,c2,r8,fm,ld,wl,sl,e5,l5,dz,d1,d2,d3,mU,mO]
   ·have hbl:n.below=bl++[t]:=hbl
    have hlen:n.below.length=bl.length+1:=by rw[hbl];simp
    have hlast:n.below.getLast? =some t:=by rw[hbl];simp
    have hdrop:n.below.dropLast=bl:=by rw[hbl];simp
    rw[hlast,hdrop]
    have s5':St h0 F0 J0 h1 (ah (h2.n+1) [row]::ah h2.n [r]::ah h.n [zR3]::put c (put c L i (n.stk st)) i ⟨n.fb,n.S,bl,t⟩):=s5
    have s6':St h0 F0 J0 h5 (ah (h2.n+1) [row]::ah h2.n [r]::ah h.n [zR3]::put c (put c L i (n.stk st)) i ⟨n.fb,n.S,bl,{t with stack:=t.stack++[v]}⟩):=s6
    have d1:=(s5'.cell 1 rfl).1
    have d2:=(s6'.cell 1 rfl).1
    have d3:=(s6'.cell 2 rfl).1
    have s7:=s6'.set 2 rfl [r]
    have d4:=(s7.cell 2 rfl).1
    refine⟨.inl (.tup [.agg r,.bool false]),_,?_,r,rfl,hv.len3,n.fb,by have:=s7.drop.drop.drop;rw[aO]at this;exact this⟩
    have dz:decide ((n.below.length:Int)=0)=false:=decide_eq_false (by rw[hlen];omega)
    refine ag kx rfl ?_;unfold jm
    simp only[sim,af,reduceAdd,reduceSub,replicate,reduceCtorEq,reduceLeDiff,reduceLT,aa,au,e2,o1,o2,tp,lall,rl,g7,c1,c2,r8,fm,ld,wl,sl,e5,l5,dz,d1,e6,d2,d3,d4,mU,mO]
 | true=>
   rw[hask]at r8
   simp only[if_true]
   have ht2:=ht1 hask
   clear ht0 ht1
   rw[xq]
   obtain⟨l0,l1,_⟩:=cH s4 a4 o.len
   have f0:aH 0 (.ptr c.mb 0 0)=some (.ptr c.mb 0 0):=rfl
   have f1:aH 0 (.ptr c.bb 0 0)=some (.ptr c.bb 0 0):=rfl
   obtain⟨h5,⟨y,e5,hy⟩,s5⟩:=kw s4 a4 (R:=fun h'=>∃ r',ai Tryz.prog po 113 [.ptr c.gb 0 0,.agg r,g] ((h2.push [r]).push [row])=some (.inl (.tup [.agg r',.int .i64 (be n.top.gates n.S.G v).2.2]),h')∧VaA (be n.top.gates n.S.G v).2.1 r') fun F J gx=>pY gx o.S.wf hv hga (by omega)
   generalize be n.top.gates n.S.G v=q at*
   obtain⟨G',v',cc⟩:=q
   simp only at e5 hy s5 ⊢
   rw[aj,aj,aj,aO]at s5
   obtain⟨z1,z2⟩:=hy.len3
   have a5:=(((a.put {(n.stk st)with S:={n.S with G:=G'}}).cons (ah h.n [zR3])).cons (ah h2.n [r])).cons (ah (h2.n+1) [row])
   have s6:=s5.push [zR3]
   have a6:=a5.cons (ah h5.n [zR3])
   obtain⟨n0,n1,_⟩:=cH s6 a6 o.len
   have d0:=(s6.cell 1 rfl).1
   have d1:=(s6.cell 2 rfl).1
   have s7:=s5.push [y]
   have a7:=a5.cons (ah h5.n [y])
   have d2:=(s7.cell 0 rfl).1
   have d3:=(s7.cell 2 rfl).1
   by_cases hcc:cc=0
   ·subst hcc
    rw[if_neg (fun h=>h rfl)]
    simp only[StD.ok]
    rw[if_neg (by simp)]
    have d5:decide ((0:Int)=0)=true:=rfl
    have s8:St h0 F0 J0 _ (ah h5.n [y]::ah (h2.n+1) [row]::ah h2.n [y]::ah h.n [zR3]::put c L i {(n.stk st)with S:={n.S with G:=G'}}):=s7.set 2 rfl [y]
    have a8:=(((a.put {(n.stk st)with S:={n.S with G:=G'}}).cons (ah h.n [zR3])).cons (ah h2.n [y])).cons (ah (h2.n+1) [row]) |>.cons (ah h5.n [y])
    obtain⟨ld,hfin⟩:=xa s8 a8 o.below (ht2 rfl) hy
    rcases hfin with⟨hb0,h1,e9,l9,s9⟩ | ⟨bl,t,hbl,h1,h9,e9,l9,s9,e10,s10⟩
    ·have hb0:n.below=[]:=hb0
     rw[hb0]
     have s9':St h0 F0 J0 h1 (ah h5.n [y]::ah (h2.n+1) [row]::ah h2.n [y]::ah h.n [zR3]::(put c L i {(n.stk st)with S:={n.S with G:=G'}}).set i (zE c.mb c.bb n.fb (n.S.left:Int))):=s9
     have g1:=(s9'.cell 2 rfl).1
     have g2:=(s9'.cell 3 rfl).1
     have s11:=s9'.set 3 rfl [y]
     have g3:=(s11.cell 3 rfl).1
     refine⟨.inl (.tup [.agg y,.bool true]),_,?_,y,rfl,hy,n.fb,by have:=s11.drop.drop.drop.drop;rw[←Bd (n:={(n.stk st)with S:={n.S with G:=G'}})];exact this⟩
     have dz:decide ((n.below.length:Int)=0)=true:=decide_eq_true (by rw[hb0];rfl)
     refine ag kx rfl ?_;unfold jm
     simp only[sim,af,reduceAdd,reduceSub,replicate,reduceCtorEq,reduceLeDiff,reduceLT,aa,au,e2,o1,o2,tp,lall,rl,g7,c1,c2,r8,r9,fm,f0,f1,l0,l1,e5,n0,n1,d0,d1,d2,d3,d5,bO,z1,z2,ld,wl,sl,e9,l9,dz,g1,g2,g3,mU,mO]
    ·have hbl:n.below=bl++[t]:=hbl
     have hlen:n.below.length=bl.length+1:=by rw[hbl];simp
     have hlast:n.below.getLast? =some t:=by rw[hbl];simp
     have hdrop:n.below.dropLast=bl:=by rw[hbl];simp
     rw[hlast,hdrop]
     have s9':St h0 F0 J0 h1 (ah h5.n [y]::ah (h2.n+1) [row]::ah h2.n [y]::ah h.n [zR3]::put c (put c L i {(n.stk st)with S:={n.S with G:=G'}}) i ⟨n.fb,{n.S with G:=G'},bl,t⟩):=s9
     have s10':St h0 F0 J0 h9 (ah h5.n [y]::ah (h2.n+1) [row]::ah h2.n [y]::ah h.n [zR3]::put c (put c L i {(n.stk st)with S:={n.S with G:=G'}}) i ⟨n.fb,{n.S with G:=G'},bl,{t with stack:=t.stack++[v']}⟩):=s10
     have g1:=(s9'.cell 2 rfl).1
     have g2:=(s10'.cell 2 rfl).1
     have g3:=(s10'.cell 3 rfl).1
     have s11:=s10'.set 3 rfl [y]
     have g4:=(s11.cell 3 rfl).1
     refine⟨.inl (.tup [.agg y,.bool false]),_,?_,y,rfl,hy.len3,n.fb,by have:=s11.drop.drop.drop.drop;rw[aO]at this;exact this⟩
     have dz:decide ((n.below.length:Int)=0)=false:=decide_eq_false (by rw[hlen];omega)
     refine ag kx rfl ?_;unfold jm
     simp only[sim,af,reduceAdd,reduceSub,replicate,reduceCtorEq,reduceLeDiff,reduceLT,aa,au,e2,o1,o2,tp,lall,rl,g7,c1,c2,r8,r9,fm,f0,f1,l0,l1,e5,n0,n1,d0,d1,d2,d3,d5,bO,z1,z2,ld,wl,sl,e9,l9,dz,g1,e10,g2,g3,g4,mU,mO]
   ·rw[if_pos hcc,if_pos (show((({n.S with G:=G'}:StD).no cc).2.2≠0) from hcc)]
    simp only[StD.no]
    have d5:decide (cc=0)=false:=decide_eq_false hcc
    refine⟨_,_,?_,rfl,{(n.stk st)with S:={n.S with G:=G'}},rfl,s7.drop.drop.drop.drop⟩
    refine ag kx rfl ?_;unfold jm
    simp only[sim,af,reduceAdd,reduceSub,replicate,reduceCtorEq,reduceLeDiff,reduceLT,aa,au,e2,o1,o2,tp,lall,rl,g7,c1,c2,r8,r9,fm,f0,f1,l0,l1,e5,n0,n1,d0,d1,d2,d3,d5,bE,z1,z2]
end
abbrev tFs:TypeId:=174
abbrev Iy:TypeId:=184
abbrev yc:FuncId:=50
abbrev zI3:List AV:=[.int .i64 0,.int .i64 0,.int .i64 0]
theorem Ek {ms:aI} {p f:Int} {L:List XD} {F:Nat} (hL:ms.getD p.toNat none=some L) (hf:f=(F:Int)):dw ms p f=aw (L.getD F dK) 0++[⟨105,0,0⟩]:=by
 unfold dw df bW
 rw[hL,hf]
 rfl
theorem GG {L:List XD} {F pc:Nat} {x:aP} (hf:F<L.length) (hx:(aw (L.getD F dK) 0++[(⟨105,0,0⟩:aP)])[pc]? =some x):
  ∃ row lv,(∀ q,cj (some tFs) none (cI L) (.int q (F:Int))=some (.ip row 0))∧(∀ k,ldA false k row 0=some lv)∧(∀ q,cj (some Iy) none lv (.int q (pc:Int))=some (.ip (bN x) 0))∧ldA true 3 (bN x) 0=some (.agg (bN x)):=by
 have e1:L[F]? =some L[F]:=List.getElem?_eq_getElem hf
 have e2:L.getD F dK=L[F]:=by simp[List.getD,hf]
 rw[e2]at hx
 refine⟨[.isl none Iy ((aw L[F] 0++[(⟨105,0,0⟩:aP)]).map bN)],.isl none Iy ((aw L[F] 0++[(⟨105,0,0⟩:aP)]).map bN),fun q=> ?_,fun k=> ?_,fun q=> ?_,br rfl⟩
 ·exact uW (q:=q) rfl (by rw[List.getElem?_map,e1];rfl)
 ·rw[eN];rfl
 ·exact uW (q:=q) rfl (by rw[List.getElem?_map,hx];rfl)
structure KB (hh:AH) (c:Cfg) (n:Now) (P F:Nat) (L:List XD):Prop where
 m:∀ k:Nat,aK false k hh (.ptr c.mb 0 0)=some (.ptr c.bb 0 0)
 p:∀ k:Nat,aK false k hh (.ptr n.fb n.below.length 0)=some (.int .i64 (P:Int))
 cd:∀ k:Nat,aK false k hh (.ptr c.bb 0 (2+P*5+1))=some (cI L)
 f:∀ k:Nat,aK false k hh (.ptr n.fb n.below.length 1)=some (.int .i64 (F:Int))
 pc:∀ k:Nat,aK false k hh (.ptr n.fb n.below.length 2)=some (.int .i64 (n.top.pc:Int))
 ix:∀ q:IntKind,cj none (some (4,5)) (.ptr c.bb 0 2) (.int q (P:Int))=some (.ptr c.bb 0 (2+P*5))
section
variable {h h' h0:AH} {F J F0 J0:Nat→Prop} {L:List Asn} {c:Cfg} {i:Nat} {n:Now}
theorem um (s:St h0 F0 J0 h L) (a:At c L i n) (o:OkR c n) {P K:Nat} {Ls:List XD} (hP:n.top.plugin=(P:Int)) (hF:n.top.f=(K:Int)) (hP4:P<4) (hL:c.ms.getD P none=some Ls):KB h c n P K Ls:=by
 obtain⟨l0,_,_⟩:=cH s a o.len
 obtain⟨ar,sv,nv,g,mv⟩:=cQ s i a.m
 have g6:=bQ n.top ar sv nv g mv.ha.len3.1
 obtain⟨ix,cd,_⟩:=mP s a o hP4
 rw[hL]at cd
 exact⟨l0,fun k=>by rw[←hP];exact mv.rd k 0 _ g6.2.2.2.2.2.1,cd,fun k=>by rw[←hF];exact mv.rd k 1 _ g6.2.2.2.2.2.2.1,fun k=>mv.rd k 2 _ g6.2.2.2.2.2.2.2,ix⟩
abbrev Now.at (n:Now) (k:Nat):Now:={n with top:={n.top with pc:=k}}
structure IU (h0:AH) (F0 J0:Nat→Prop) (h h3:AH) (c:Cfg) (L:List Asn) (i:Nat) (n:Now) (P K:Nat) (Ls:List XD) (x:aP):Prop where
 s:St h0 F0 J0 h3 (ah (h.n+1) [bN x]::ah h.n [zR3]::put c L i (n.at (n.top.pc+1)))
 a:At c (ah (h.n+1) [bN x]::ah h.n [zR3]::put c L i (n.at (n.top.pc+1))) (i+1+1) (n.at (n.top.pc+1))
 o:OkR c (n.at (n.top.pc+1))
 tp:ai Tryz.prog po ED [.ptr c.mb 0 0] (h.push [zR3])=some (.inl (.ptr n.fb n.below.length 0),h.push [zR3])
 e1:KB (h.push [zR3]) c n P K Ls
 e2:KB ((h.push [zR3]).push [zI3]) c n P K Ls
 e3:∀ k:Nat,aK false k ((h.push [zR3]).push [bN x]) (.ptr n.fb n.below.length 2)=some (.int .i64 (n.top.pc:Int))
 w:IntKind.wrap .i64 ((n.top.pc:Int)+1)=((n.top.pc+1:Nat):Int)
 st:aE 1 ((h.push [zR3]).push [bN x]) (.ptr n.fb n.below.length 2) (.int .i64 ((n.top.pc+1:Nat):Int))=some h3
 cx:h3.cell (h.n+1)=some [bN x]
theorem DG (s:St h0 F0 J0 h L) (a:At c L i n) (o:OkR c n) (hm:ie c.ms) {P K:Nat} {Ls:List XD} (hP:n.top.plugin=(P:Int)) (hF:n.top.f=(K:Int)) (hP4:P<4) (hL:c.ms.getD P none=some Ls) (hpc:n.top.pc<(dw c.ms n.top.plugin n.top.f).length) (x:aP):∃ h3,IU h0 F0 J0 h h3 c L i n P K Ls x:=by
 have s1:=s.push [zR3]
 have a1:=a.cons (ah h.n [zR3])
 obtain⟨tp,_⟩:=cg s1 a1 o.below
 have e1:=um s1 a1 o hP hF hP4 hL
 have s2:=s1.push [zI3]
 have a2:=a1.cons (ah (h.push [zR3]).n [zI3])
 have e2:=um s2 a2 o hP hF hP4 hL
 have s3:St h0 F0 J0 ((h.push [zR3]).push [bN x]) (ah (h.n+1) [bN x]::ah h.n [zR3]::L):=s1.push [bN x]
 have a3:=a1.cons (ah (h.n+1) [bN x])
 have e3:=um s3 a3 o hP hF hP4 hL
 obtain⟨h4,e4,s4⟩:=zf s3 (i+1+1) a3.m (n.top.pc+1)
 rw[a3.setM]at s4
 have s5:St h0 F0 J0 h4 (ah (h.n+1) [bN x]::ah h.n [zR3]::put c L i (n.at (n.top.pc+1))):=s4
 have b:=hm n.top.plugin n.top.f
 exact⟨h4,s5,((a.put _).cons _).cons _,⟨o.ms,o.S,o.below,o.stk,o.nms,o.log⟩,tp,e1,e2,e3.pc,yR (by omega) (by omega) (by omega),e4,(s5.cell 0 rfl).1⟩
theorem mY {A B:Asn} {n':Now}:put c (A::B::L) (i+1+1) n'=A::B::put c L i n':=rfl
structure iQ (h0:AH) (F0 J0:Nat→Prop) (h:AH) (c:Cfg) (L:List Asn) (i:Nat) (n:Now) (x:aP):Prop where
 s:St h0 F0 J0 h L
 a:At c L i n
 o:OkR c n
 hm:ie c.ms
 ok:Ok c.ms n.m
 get:(dw c.ms n.top.plugin n.top.f).getD n.top.pc mV=x
theorem iQ.pre {x:aP} (b:iQ h0 F0 J0 h c L i n x):∃ (h3:AH) (P K:Nat) (Ls:List XD) (row:List AV) (lv:AV),IU h0 F0 J0 h h3 c L i n P K Ls x∧(∀ q,cj (some tFs) none (cI Ls) (.int q (K:Int))=some (.ip row 0))∧(∀ k,ldA false k row 0=some lv)∧(∀ q,cj (some Iy) none lv (.int q (n.top.pc:Int))=some (.ip (bN x) 0))∧ldA true 3 (bN x) 0=some (.agg (bN x)):=by
 have hg:=b.ok.good.top
 obtain⟨P,hP⟩:=Int.eq_ofNat_of_zero_le hg.p0
 obtain⟨K,hK⟩:=Int.eq_ofNat_of_zero_le hg.f0
 have hP:n.top.plugin=(P:Int):=hP
 have hK:n.top.f=(K:Int):=hK
 have hth:=hg.there
 have pP:n.top.plugin.toNat=P:=by rw[hP];rfl
 have hP4:P<4:=by
  rcases Nat.lt_or_ge P 4 with h | h
  ·exact h
  ·have hth:(c.ms.getD n.top.plugin.toNat none).isSome=true:=hth
   rw[pP,List.getD,List.getElem?_eq_none (by rw[b.o.ms];exact h)]at hth
   cases hth
 obtain⟨Ls,hL⟩:=Option.isSome_iff_exists.1 hth
 have hL:c.ms.getD n.top.plugin.toNat none=some Ls:=hL
 have hpc:n.top.pc<(dw c.ms n.top.plugin n.top.f).length:=b.ok.pc
 have hf1:n.top.f.toNat<(bW c.ms n.top.plugin).length:=hg.f1
 have hKl:K<Ls.length:=by
  have e:n.top.f.toNat=K:=by rw[hK];rfl
  rw[e]at hf1
  unfold bW at hf1
  rw[hL]at hf1
  exact hf1
 obtain⟨h3,p⟩:=DG b.s b.a b.o b.hm hP hK hP4 (by rw[←pP];exact hL) hpc x
 have hx:(aw (Ls.getD K dK) 0++[(⟨105,0,0⟩:aP)])[n.top.pc]? =some x:=by
  rw[←Ek hL hK]
  have:=b.get
  rw[List.getD,List.getElem?_eq_getElem hpc]at this
  rw[List.getElem?_eq_getElem hpc]
  exact congrArg some this
 obtain⟨row,lv,q1,q2,q3,q4⟩:=GG hKl hx
 exact⟨h3,P,K,Ls,row,lv,p,q1,q2,q3,q4⟩
set_option maxRecDepth 100000 in
set_option maxHeartbeats 2000000 in
theorem yH {k m:Int} (b:iQ h0 F0 J0 h c L i n ⟨100,k,m⟩):∃ fr h',ai Tryz.prog po yc [.ptr c.mb 0 0] h=some (fr,h')∧ul h0 F0 J0 c L i (if n.S.left=0 then .fail n.S 12 else .go ⟨n.S.tick,(n.at (n.top.pc+1)).top,n.below⟩) fr h':=by
 obtain⟨h3,P,K,Ls,row,lv,p,q1,q2,q3,q4⟩:=b.pre
 have f0:aH 0 (.ptr c.mb 0 0)=some (.ptr c.mb 0 0):=rfl
 have f1:aH 2 (.ptr c.bb 0 0)=some (.ptr c.bb 0 2):=rfl
 have f2:aH 0 (.ptr n.fb n.below.length 0)=some (.ptr n.fb n.below.length 0):=rfl
 have f3:aH 1 (.ptr c.bb 0 (2+P*5))=some (.ptr c.bb 0 (2+P*5+1)):=rfl
 have f4:aH 1 (.ptr n.fb n.below.length 0)=some (.ptr n.fb n.below.length 1):=rfl
 have f5:aH 2 (.ptr n.fb n.below.length 0)=some (.ptr n.fb n.below.length 2):=rfl
 have f6:aH 2 (.ptr c.mb 0 0)=some (.ptr c.mb 0 2):=rfl
 have f7:aH 7 (.ptr n.fb n.below.length 0)=some (.ptr n.fb n.below.length 7):=rfl
 obtain⟨ar,sv,nv,g,mv⟩:=cQ p.s (i+1+1) p.a.m
 have ll:∀ k:Nat,aK false k h3 (.ptr c.mb 0 2)=some (.int .i64 (n.S.left:Int)):=fun k=>by rw[bV,mv.m];rfl
 by_cases hl:n.S.left=0
 ·rw[if_pos hl]
  refine⟨_,_,?_,rfl,n.at (n.top.pc+1),rfl,p.s.drop.drop⟩
  have d:decide ((n.S.left:Int)=0)=true:=decide_eq_true (by omega)
  refine ag db rfl ?_;unfold cO
  simp only[sim,af,reduceAdd,reduceSub,replicate,reduceCtorEq,reduceLeDiff,reduceLT,aa,au,Int.reduceEq,decide_false,decide_true,p.tp,p.e1.m,p.e1.p,p.e1.cd,p.e1.f,p.e1.pc,p.e1.ix,p.e2.m,p.e2.p,p.e2.cd,p.e2.f,p.e2.pc,p.e3,p.w,p.st,p.cx,q1,q2,q3,q4,f0,f1,f2,f3,f4,f5,f6,f7,ll,d,bE]
 ·rw[if_neg hl]
  have d:decide ((n.S.left:Int)=0)=false:=decide_eq_false (by omega)
  have hb:=b.ok.good.stk
  have hb:n.top.stack.length+n.S.left≤100000:=hb
  have w:IntKind.wrap .i64 ((n.S.left:Int) - 1)=((n.S.left - 1:Nat):Int):=yR (by omega) (by omega) (by omega)
  obtain⟨h4,e4,s4⟩:=DX p.s (i+1+1) p.a.m ((n.S.left - 1:Nat):Int)
  rw[p.a.setM,mY,aO]at s4
  have s5:=s4.set 1 rfl [zR3]
  have c4:=(s4.cell 1 rfl).1
  have c5:=(s5.cell 1 rfl).1
  refine⟨.inl (.tup [.agg zR3,.bool false]),_,?_,zR3,rfl,⟨rfl,rfl⟩,n.fb,s5.drop.drop⟩
  refine ag db rfl ?_;unfold cO
  simp only[sim,af,reduceAdd,reduceSub,replicate,reduceCtorEq,reduceLeDiff,reduceLT,aa,au,Int.reduceEq,decide_false,decide_true,p.tp,p.e1.m,p.e1.p,p.e1.cd,p.e1.f,p.e1.pc,p.e1.ix,p.e2.m,p.e2.p,p.e2.cd,p.e2.f,p.e2.pc,p.e3,p.w,p.st,p.cx,q1,q2,q3,q4,f0,f1,f2,f3,f4,f5,f6,f7,ll,d,bO,w,e4,c4,c5]
set_option maxRecDepth 100000 in
set_option maxHeartbeats 2000000 in
theorem zY {k m:Int} (b:iQ h0 F0 J0 h c L i n ⟨101,k,m⟩) {st:List VD} {v:VD} (hst:n.top.stack=st++[v]):∃ fr h',ai Tryz.prog po yc [.ptr c.mb 0 0] h=some (fr,h')∧ul h0 F0 J0 c L i (.go ⟨n.S,{(n.at (n.top.pc+1)).top with stack:=st,names:=n.top.names++[v]},n.below⟩) fr h':=by
 obtain⟨h3,P,K,Ls,row,lv,p,q1,q2,q3,q4⟩:=b.pre
 have f0:aH 0 (.ptr c.mb 0 0)=some (.ptr c.mb 0 0):=rfl
 have f1:aH 2 (.ptr c.bb 0 0)=some (.ptr c.bb 0 2):=rfl
 have f2:aH 0 (.ptr n.fb n.below.length 0)=some (.ptr n.fb n.below.length 0):=rfl
 have f3:aH 1 (.ptr c.bb 0 (2+P*5))=some (.ptr c.bb 0 (2+P*5+1)):=rfl
 have f4:aH 1 (.ptr n.fb n.below.length 0)=some (.ptr n.fb n.below.length 1):=rfl
 have f5:aH 2 (.ptr n.fb n.below.length 0)=some (.ptr n.fb n.below.length 2):=rfl
 have f6:aH 2 (.ptr c.mb 0 0)=some (.ptr c.mb 0 2):=rfl
 have f7:aH 7 (.ptr n.fb n.below.length 0)=some (.ptr n.fb n.below.length 7):=rfl
 obtain⟨h4,r,e4,hv,s4,a4⟩:=eI p.s p.a p.o (st:=st) (v:=v) hst
 rw[mY,aO]at s4
 rw[mY,aO]at a4
 have s5:St h0 F0 J0 ((h4.push [r]).push [zR3]) (ah (h4.n+1) [zR3]::ah h4.n [r]::ah (h.n+1) [bN ⟨101,k,m⟩]::ah h.n [zR3]::put c L i ((n.at (n.top.pc+1)).stk st)):=(s4.push [r]).push [zR3]
 have a5:=(a4.cons (ah h4.n [r])).cons (ah (h4.n+1) [zR3])
 obtain⟨ar,sv,nv,g,mv⟩:=cQ s5 (i+1+1+1+1) a5.m
 have g6:=bQ {(n.at (n.top.pc+1)).top with stack:=st} ar sv nv g mv.ha.len3.1
 have l7:=fun k=>mv.rd k 7 _ g6.2.2.1
 have m4:=s4.push [r]
 have m4a:=a4.cons (ah h4.n [r])
 obtain⟨ar',sv',nv',g',mv'⟩:=cQ m4 (i+1+1+1) m4a.m
 have g6':=bQ {(n.at (n.top.pc+1)).top with stack:=st} ar' sv' nv' g' mv'.ha.len3.1
 have l7':=fun k=>mv'.rd k 7 _ g6'.2.2.1
 clear g6 g6'
 have hz:=(s5.cell 0 rfl).1
 obtain⟨o1,o2⟩:=hv.len3
 have hnv:nv'=nv:=by
  have e:=(tC (h:=h4.push [r]) (b:=n.fb) (i:=n.below.length) (off:=7) (k:=0) (g:=false) (es:=[zR3]) mv'.fbn).symm.trans (l7 0)
  rw[l7' 0]at e
  exact Option.some.inj e
 subst hnv
 obtain⟨q,h6,h7,h8,b1,b2,b3,b4,s8⟩:=FI s5 (i+1+1+1+1) a5.m hv (by have:=p.o.nms;simp only at this ⊢;omega) hz mv
 rw[a5.setM,aj,aj,mY,aO]at s8
 have s9:=s8.set 3 rfl [zR3]
 have c4:=(m4.cell 0 rfl).1
 have c5:=(s5.cell 1 rfl).1
 have c8:=(s8.cell 1 rfl).1
 have c9:=(s8.cell 3 rfl).1
 have c10:=(s9.cell 3 rfl).1
 have ln:=mv.nv.2.2.1
 have lo:=mv.nv.1
 have fi:=mv.nv.2.2.2.1
 have xm:cj (some tV) none (.msl q 0 (n.top.names.length+1) tV) (.int .i64 (n.top.names.length:Int))=some (.ptr q n.top.names.length 0):=by
  have:=vn (q:= .i64) (e:=tV) (el:=tV) (b:=q) (o:=0) (n:=n.top.names.length+1) (i:=n.top.names.length) rfl (by omega)
  rwa [Nat.zero_add]at this
 refine⟨.inl (.tup [.agg zR3,.bool false]),_,?_,zR3,rfl,⟨rfl,rfl⟩,n.fb,s9.drop.drop.drop.drop⟩
 refine ag db rfl ?_;unfold cO
 simp only[sim,af,reduceAdd,reduceSub,replicate,reduceCtorEq,reduceLeDiff,reduceLT,aa,au,Int.reduceEq,decide_false,decide_true,p.tp,p.e1.m,p.e1.p,p.e1.cd,p.e1.f,p.e1.pc,p.e1.ix,p.e2.m,p.e2.p,p.e2.cd,p.e2.f,p.e2.pc,p.e3,p.w,p.st,p.cx,q1,q2,q3,q4,f0,f1,f2,f3,f4,f5,f6,f7,e4,o1,o2,c4,c5,l7,l7',ln,lo,fi,xm,b1,b2,b3,b4,c8,c9,c10]
set_option maxRecDepth 100000 in
set_option maxHeartbeats 2000000 in
theorem zJ {k m:Int} (b:iQ h0 F0 J0 h c L i n ⟨102,k,m⟩) {nm:List VD} {v:VD} (hst:n.top.names=nm++[v]):∃ fr h',ai Tryz.prog po yc [.ptr c.mb 0 0] h=some (fr,h')∧ul h0 F0 J0 c L i (.go ⟨n.S,{(n.at (n.top.pc+1)).top with names:=nm},n.below⟩) fr h':=by
 obtain⟨h3,P,K,Ls,row,lv,p,q1,q2,q3,q4⟩:=b.pre
 have f0:aH 0 (.ptr c.mb 0 0)=some (.ptr c.mb 0 0):=rfl
 have f1:aH 2 (.ptr c.bb 0 0)=some (.ptr c.bb 0 2):=rfl
 have f2:aH 0 (.ptr n.fb n.below.length 0)=some (.ptr n.fb n.below.length 0):=rfl
 have f3:aH 1 (.ptr c.bb 0 (2+P*5))=some (.ptr c.bb 0 (2+P*5+1)):=rfl
 have f4:aH 1 (.ptr n.fb n.below.length 0)=some (.ptr n.fb n.below.length 1):=rfl
 have f5:aH 2 (.ptr n.fb n.below.length 0)=some (.ptr n.fb n.below.length 2):=rfl
 have f6:aH 2 (.ptr c.mb 0 0)=some (.ptr c.mb 0 2):=rfl
 have f7:aH 7 (.ptr n.fb n.below.length 0)=some (.ptr n.fb n.below.length 7):=rfl
 obtain⟨ar,sv,nv,g,mv⟩:=cQ p.s (i+1+1) p.a.m
 have g6:=bQ (n.at (n.top.pc+1)).top ar sv nv g mv.ha.len3.1
 have l7:=fun k=>mv.rd k 7 _ g6.2.2.1
 clear g6
 obtain⟨nv',h4,b1,b2,b3,b4,s4⟩:=Gz p.s (i+1+1) p.a.m (nm:=nm) (v:=v) hst mv
 rw[p.a.setM,mY,aO]at s4
 have s5:=s4.set 1 rfl [zR3]
 have c4:=(s4.cell 1 rfl).1
 have c5:=(s5.cell 1 rfl).1
 have ln:=mv.nv.2.2.1
 have hlen:(n.at (n.top.pc+1)).top.names.length=nm.length+1:=by
  show n.top.names.length=_
  rw[hst];simp
 rw[hlen]at ln
 have hn:=p.o.nms
 rw[hlen]at hn
 have lo:=mv.nv.1
 have fi:=mv.nv.2.2.2.1
 have w:IntKind.wrap .i64 (((nm.length+1:Nat):Int) - 1)=(nm.length:Int):=yR (by omega) (by omega) (by omega)
 refine⟨.inl (.tup [.agg zR3,.bool false]),_,?_,zR3,rfl,⟨rfl,rfl⟩,n.fb,s5.drop.drop⟩
 refine ag db rfl ?_;unfold cO
 simp only[sim,af,reduceAdd,reduceSub,replicate,reduceCtorEq,reduceLeDiff,reduceLT,aa,au,Int.reduceEq,decide_false,decide_true,p.tp,p.e1.m,p.e1.p,p.e1.cd,p.e1.f,p.e1.pc,p.e1.ix,p.e2.m,p.e2.p,p.e2.cd,p.e2.f,p.e2.pc,p.e3,p.w,p.st,p.cx,q1,q2,q3,q4,f0,f1,f2,f3,f4,f5,f6,f7,l7,ln,lo,fi,w,b1,b2,b3,b4,c4,c5]
set_option maxRecDepth 100000 in
set_option maxHeartbeats 2000000 in
theorem zz {k m:Int} (b:iQ h0 F0 J0 h c L i n ⟨103,k,m⟩) {st:List VD} {v:VD} (hst:n.top.stack=st++[v]) (hk0:0≤k):∃ fr h',ai Tryz.prog po yc [.ptr c.mb 0 0] h=some (fr,h')∧ul h0 F0 J0 c L i (if v.kind≠1 then .fail n.S 2 else .go ⟨n.S,{(n.at (n.top.pc+1)).top with stack:=st,pc:=if v.n=0 then k.toNat else n.top.pc+1},n.below⟩) fr h':=by
 obtain⟨h3,P,K,Ls,row,lv,p,q1,q2,q3,q4⟩:=b.pre
 have f0:aH 0 (.ptr c.mb 0 0)=some (.ptr c.mb 0 0):=rfl
 have f1:aH 2 (.ptr c.bb 0 0)=some (.ptr c.bb 0 2):=rfl
 have f2:aH 0 (.ptr n.fb n.below.length 0)=some (.ptr n.fb n.below.length 0):=rfl
 have f3:aH 1 (.ptr c.bb 0 (2+P*5))=some (.ptr c.bb 0 (2+P*5+1)):=rfl
 have f4:aH 1 (.ptr n.fb n.below.length 0)=some (.ptr n.fb n.below.length 1):=rfl
 have f5:aH 2 (.ptr n.fb n.below.length 0)=some (.ptr n.fb n.below.length 2):=rfl
 have f6:aH 2 (.ptr c.mb 0 0)=some (.ptr c.mb 0 2):=rfl
 have f7:aH 7 (.ptr n.fb n.below.length 0)=some (.ptr n.fb n.below.length 7):=rfl
 obtain⟨h4,r,e4,hv,s4,a4⟩:=eI p.s p.a p.o (st:=st) (v:=v) hst
 rw[mY,aO]at s4
 rw[mY,aO]at a4
 obtain⟨o1,o2⟩:=hv.len3
 by_cases hk:v.kind=1
 ·rw[if_neg (by simpa using hk)]
  obtain⟨r',ek,hr'⟩:=dB (h:=h4) hv hk
  obtain⟨w,hw,_⟩:=hr'.cells3
  have hn:G8 false 1 1 (.agg r')=some (.int .i64 v.n):=by rw[hw];rfl
  obtain⟨o3,o4⟩:=hr'.len3
  clear hw
  by_cases hz:v.n=0
  ·rw[if_pos hz]
   have d:decide (v.n=0)=true:=decide_eq_true hz
   have c4:=(s4.cell 0 rfl).1
   obtain⟨h5,e5,s5⟩:=zf s4 (i+1+1) a4.m k.toNat
   rw[Int.toNat_of_nonneg hk0]at e5
   rw[a4.setM,mY,aO]at s5
   have s6:=s5.set 1 rfl [zR3]
   have c5:=(s5.cell 1 rfl).1
   have c6:=(s6.cell 1 rfl).1
   refine⟨.inl (.tup [.agg zR3,.bool false]),_,?_,zR3,rfl,⟨rfl,rfl⟩,n.fb,s6.drop.drop⟩
   refine ag db rfl ?_;unfold cO
   simp only[sim,af,reduceAdd,reduceSub,replicate,reduceCtorEq,reduceLeDiff,reduceLT,aa,au,Int.reduceEq,decide_false,decide_true,p.tp,p.e1.m,p.e1.p,p.e1.cd,p.e1.f,p.e1.pc,p.e1.ix,p.e2.m,p.e2.p,p.e2.cd,p.e2.f,p.e2.pc,p.e3,p.w,p.st,p.cx,q1,q2,q3,q4,f0,f1,f2,f3,f4,f5,f6,f7,e4,o1,o2,ek,hn,o3,o4,d,c4,e5,c5,c6]
  ·rw[if_neg hz]
   have d:decide (v.n=0)=false:=decide_eq_false hz
   have s6:=s4.set 1 rfl [zR3]
   have c5:=(s4.cell 1 rfl).1
   have c6:=(s6.cell 1 rfl).1
   refine⟨.inl (.tup [.agg zR3,.bool false]),_,?_,zR3,rfl,⟨rfl,rfl⟩,n.fb,s6.drop.drop⟩
   refine ag db rfl ?_;unfold cO
   simp only[sim,af,reduceAdd,reduceSub,replicate,reduceCtorEq,reduceLeDiff,reduceLT,aa,au,Int.reduceEq,decide_false,decide_true,p.tp,p.e1.m,p.e1.p,p.e1.cd,p.e1.f,p.e1.pc,p.e1.ix,p.e2.m,p.e2.p,p.e2.cd,p.e2.f,p.e2.pc,p.e3,p.w,p.st,p.cx,q1,q2,q3,q4,f0,f1,f2,f3,f4,f5,f6,f7,e4,o1,o2,ek,hn,o3,o4,d,c5,c6]
 ·rw[if_pos hk]
  have ek:=eG (h:=h4) hv hk
  refine⟨_,_,?_,rfl,(n.at (n.top.pc+1)).stk st,rfl,s4.drop.drop⟩
  refine ag db rfl ?_;unfold cO
  simp only[sim,af,reduceAdd,reduceSub,replicate,reduceCtorEq,reduceLeDiff,reduceLT,aa,au,Int.reduceEq,decide_false,decide_true,p.tp,p.e1.m,p.e1.p,p.e1.cd,p.e1.f,p.e1.pc,p.e1.ix,p.e2.m,p.e2.p,p.e2.cd,p.e2.f,p.e2.pc,p.e3,p.w,p.st,p.cx,q1,q2,q3,q4,f0,f1,f2,f3,f4,f5,f6,f7,e4,o1,o2,ek]
set_option maxRecDepth 100000 in
set_option maxHeartbeats 2000000 in
theorem yu {k m:Int} (b:iQ h0 F0 J0 h c L i n ⟨104,k,m⟩) (hk0:0≤k):∃ fr h',ai Tryz.prog po yc [.ptr c.mb 0 0] h=some (fr,h')∧ul h0 F0 J0 c L i (.go ⟨n.S,{(n.at (n.top.pc+1)).top with pc:=k.toNat},n.below⟩) fr h':=by
 obtain⟨h3,P,K,Ls,row,lv,p,q1,q2,q3,q4⟩:=b.pre
 have f0:aH 0 (.ptr c.mb 0 0)=some (.ptr c.mb 0 0):=rfl
 have f1:aH 2 (.ptr c.bb 0 0)=some (.ptr c.bb 0 2):=rfl
 have f2:aH 0 (.ptr n.fb n.below.length 0)=some (.ptr n.fb n.below.length 0):=rfl
 have f3:aH 1 (.ptr c.bb 0 (2+P*5))=some (.ptr c.bb 0 (2+P*5+1)):=rfl
 have f4:aH 1 (.ptr n.fb n.below.length 0)=some (.ptr n.fb n.below.length 1):=rfl
 have f5:aH 2 (.ptr n.fb n.below.length 0)=some (.ptr n.fb n.below.length 2):=rfl
 have f6:aH 2 (.ptr c.mb 0 0)=some (.ptr c.mb 0 2):=rfl
 have f7:aH 7 (.ptr n.fb n.below.length 0)=some (.ptr n.fb n.below.length 7):=rfl
 have c4:=(p.s.cell 0 rfl).1
 obtain⟨h5,e5,s5⟩:=zf p.s (i+1+1) p.a.m k.toNat
 rw[Int.toNat_of_nonneg hk0]at e5
 rw[p.a.setM,mY,aO]at s5
 have s6:=s5.set 1 rfl [zR3]
 have c5:=(s5.cell 1 rfl).1
 have c6:=(s6.cell 1 rfl).1
 refine⟨.inl (.tup [.agg zR3,.bool false]),_,?_,zR3,rfl,⟨rfl,rfl⟩,n.fb,s6.drop.drop⟩
 refine ag db rfl ?_;unfold cO
 simp only[sim,af,reduceAdd,reduceSub,replicate,reduceCtorEq,reduceLeDiff,reduceLT,aa,au,Int.reduceEq,decide_false,decide_true,p.tp,p.e1.m,p.e1.p,p.e1.cd,p.e1.f,p.e1.pc,p.e1.ix,p.e2.m,p.e2.p,p.e2.cd,p.e2.f,p.e2.pc,p.e3,p.w,p.st,p.cx,q1,q2,q3,q4,f0,f1,f2,f3,f4,f5,f6,f7,c4,e5,c5,c6]
theorem LN {A B:Asn} {n':Now} {fb':Nat} {S:StD}:jX c (A::B::put c L i n') (i+1+1) fb' S=A::B::jX c L i fb' S:=by
 have:jX c (put c L i n') i fb' S=jX c L i fb' S:=by
  unfold jX
  rw[aO]
 exact congrArg (fun l=>A::B::l) this
set_option maxRecDepth 100000 in
set_option maxHeartbeats 2000000 in
theorem zA {k m:Int} (b:iQ h0 F0 J0 h c L i n ⟨105,k,m⟩) {st:List VD} {v:VD} (hst:n.top.stack=st++[v]) (hgo:∀ m',MaD.back (n.at (n.top.pc+1)).m= .go m'→m'.top.stack.length≤100000):∃ fr h',ai Tryz.prog po yc [.ptr c.mb 0 0] h=some (fr,h')∧ul h0 F0 J0 c L i (MaD.back (n.at (n.top.pc+1)).m) fr h':=by
 obtain⟨h3,P,K,Ls,row,lv,p,q1,q2,q3,q4⟩:=b.pre
 have f0:aH 0 (.ptr c.mb 0 0)=some (.ptr c.mb 0 0):=rfl
 have f1:aH 2 (.ptr c.bb 0 0)=some (.ptr c.bb 0 2):=rfl
 have f2:aH 0 (.ptr n.fb n.below.length 0)=some (.ptr n.fb n.below.length 0):=rfl
 have f3:aH 1 (.ptr c.bb 0 (2+P*5))=some (.ptr c.bb 0 (2+P*5+1)):=rfl
 have f4:aH 1 (.ptr n.fb n.below.length 0)=some (.ptr n.fb n.below.length 1):=rfl
 have f5:aH 2 (.ptr n.fb n.below.length 0)=some (.ptr n.fb n.below.length 2):=rfl
 have f6:aH 2 (.ptr c.mb 0 0)=some (.ptr c.mb 0 2):=rfl
 have f7:aH 7 (.ptr n.fb n.below.length 0)=some (.ptr n.fb n.below.length 7):=rfl
 obtain⟨fr,h4,e4,ob⟩:=HN p.s p.a p.o (st:=st) (v:=v) hst b.ok.good.top.gates hgo
 generalize MaD.back (n.at (n.top.pc+1)).m=q at*
 cases q with
 | go m'=>
   obtain⟨r,rfl,⟨o1,o2⟩,fb',s4⟩:=ob
   rw[mY,aO]at s4
   have s5:=s4.set 1 rfl [r]
   have c4:=(s4.cell 1 rfl).1
   have c5:=(s5.cell 1 rfl).1
   refine⟨.inl (.tup [.agg r,.bool false]),_,?_,r,rfl,⟨o1,o2⟩,fb',s5.drop.drop⟩
   refine ag db rfl ?_;unfold cO
   simp only[sim,af,reduceAdd,reduceSub,replicate,reduceCtorEq,reduceLeDiff,reduceLT,aa,au,Int.reduceEq,decide_false,decide_true,p.tp,p.e1.m,p.e1.p,p.e1.cd,p.e1.f,p.e1.pc,p.e1.ix,p.e2.m,p.e2.p,p.e2.cd,p.e2.f,p.e2.pc,p.e3,p.w,p.st,p.cx,q1,q2,q3,q4,f0,f1,f2,f3,f4,f5,f6,f7,e4,o1,o2,c4,c5]
 | fail S k'=>
   obtain⟨rfl,n',hn',s4⟩:=ob
   rw[mY,aO]at s4
   refine⟨_,_,?_,rfl,n',hn',s4.drop.drop⟩
   refine ag db rfl ?_;unfold cO
   simp only[sim,af,reduceAdd,reduceSub,replicate,reduceCtorEq,reduceLeDiff,reduceLT,aa,au,Int.reduceEq,decide_false,decide_true,p.tp,p.e1.m,p.e1.p,p.e1.cd,p.e1.f,p.e1.pc,p.e1.ix,p.e2.m,p.e2.p,p.e2.cd,p.e2.f,p.e2.pc,p.e3,p.w,p.st,p.cx,q1,q2,q3,q4,f0,f1,f2,f3,f4,f5,f6,f7,e4]
 | over S v'=>
   obtain⟨r,rfl,hv,fb',s4⟩:=ob
   rw[LN]at s4
   obtain⟨o1,o2⟩:=hv.len3
   have s5:=s4.set 1 rfl [r]
   have c4:=(s4.cell 1 rfl).1
   have c5:=(s5.cell 1 rfl).1
   refine⟨.inl (.tup [.agg r,.bool true]),_,?_,r,rfl,hv,fb',s5.drop.drop⟩
   refine ag db rfl ?_;unfold cO
   simp only[sim,af,reduceAdd,reduceSub,replicate,reduceCtorEq,reduceLeDiff,reduceLT,aa,au,Int.reduceEq,decide_false,decide_true,p.tp,p.e1.m,p.e1.p,p.e1.cd,p.e1.f,p.e1.pc,p.e1.ix,p.e2.m,p.e2.p,p.e2.cd,p.e2.f,p.e2.pc,p.e3,p.w,p.st,p.cx,q1,q2,q3,q4,f0,f1,f2,f3,f4,f5,f6,f7,e4,o1,o2,c4,c5]
set_option maxRecDepth 100000 in
set_option maxHeartbeats 2000000 in
theorem Gx {x:aP} (b:iQ h0 F0 J0 h c L i n x) (hop:x.op<100):∃ fr h',ai Tryz.prog po yc [.ptr c.mb 0 0] h=some (fr,h')∧ul h0 F0 J0 c L i (jH c.ms (n.at (n.top.pc+1)).m x) fr h':=by
 obtain⟨h3,P,K,Ls,row,lv,p,q1,q2,q3,q4⟩:=b.pre
 have f0:aH 0 (.ptr c.mb 0 0)=some (.ptr c.mb 0 0):=rfl
 have f1:aH 2 (.ptr c.bb 0 0)=some (.ptr c.bb 0 2):=rfl
 have f2:aH 0 (.ptr n.fb n.below.length 0)=some (.ptr n.fb n.below.length 0):=rfl
 have f3:aH 1 (.ptr c.bb 0 (2+P*5))=some (.ptr c.bb 0 (2+P*5+1)):=rfl
 have f4:aH 1 (.ptr n.fb n.below.length 0)=some (.ptr n.fb n.below.length 1):=rfl
 have f5:aH 2 (.ptr n.fb n.below.length 0)=some (.ptr n.fb n.below.length 2):=rfl
 have f6:aH 2 (.ptr c.mb 0 0)=some (.ptr c.mb 0 2):=rfl
 have f7:aH 7 (.ptr n.fb n.below.length 0)=some (.ptr n.fb n.below.length 7):=rfl
 have hg:=b.ok.good.top
 have hx:=b.ok.op
 have hget:(dw c.ms n.m.top.plugin n.m.top.f).getD n.m.top.pc mV=x:=b.get
 rw[hget]at hx
 obtain⟨fr,h4,e4,oi⟩:=KE p.s p.a p.o (x:=x) ⟨hg.p0,hg.there,hg.f0,hg.f1,hg.arg,hg.names,hg.stack,hg.gates⟩ ⟨hx.kind,hx.one,hx.nam,hx.jump,hx.parts,hx.var⟩ hop
 have d:∀ j:Int,100≤j→decide (x.op=j)=false:=fun j hj=>decide_eq_false (by omega)
 have d0:=d 100 (by decide);have d1:=d 101 (by decide);have d2:=d 102 (by decide);have d3:=d 103 (by decide);have d4:=d 104 (by decide);have d5:=d 105 (by decide)
 have c3:=(p.s.cell 0 rfl).1
 generalize jH c.ms (n.at (n.top.pc+1)).m x=q at*
 cases q with
 | go m'=>
   obtain⟨rfl,fb',s4⟩:=oi
   rw[mY,aO]at s4
   have s5:=s4.set 1 rfl [zR3]
   have c4:=(s4.cell 1 rfl).1
   have c5:=(s5.cell 1 rfl).1
   refine⟨.inl (.tup [.agg zR3,.bool false]),_,?_,zR3,rfl,⟨rfl,rfl⟩,fb',s5.drop.drop⟩
   refine ag db rfl ?_;unfold cO
   simp only[sim,af,reduceAdd,reduceSub,replicate,reduceCtorEq,reduceLeDiff,reduceLT,aa,au,Int.reduceEq,decide_false,decide_true,p.tp,p.e1.m,p.e1.p,p.e1.cd,p.e1.f,p.e1.pc,p.e1.ix,p.e2.m,p.e2.p,p.e2.cd,p.e2.f,p.e2.pc,p.e3,p.w,p.st,p.cx,q1,q2,q3,q4,f0,f1,f2,f3,f4,f5,f6,f7,e4,c3,c4,c5,d0,d1,d2,d3,d4,d5]
 | fail S k'=>
   obtain⟨rfl,n',hn',s4⟩:=oi
   rw[mY,aO]at s4
   refine⟨_,_,?_,rfl,n',hn',s4.drop.drop⟩
   refine ag db rfl ?_;unfold cO
   simp only[sim,af,reduceAdd,reduceSub,replicate,reduceCtorEq,reduceLeDiff,reduceLT,aa,au,Int.reduceEq,decide_false,decide_true,p.tp,p.e1.m,p.e1.p,p.e1.cd,p.e1.f,p.e1.pc,p.e1.ix,p.e2.m,p.e2.p,p.e2.cd,p.e2.f,p.e2.pc,p.e3,p.w,p.st,p.cx,q1,q2,q3,q4,f0,f1,f2,f3,f4,f5,f6,f7,e4,c3,d0,d1,d2,d3,d4,d5]
 | over S v'=>exact oi.elim
end
section
variable {h h' h0:AH} {F J F0 J0:Nat→Prop} {L:List Asn} {c:Cfg} {i:Nat} {n:Now}
theorem Ml {c:Cfg} {n:Now} (hc:c.ms.length=4) (g:n.m.Good c.ms):OkR c n:=by
 have g1:n.S.mu≤1000000:=g.mu
 have g2:n.top.stack.length+n.S.left≤100000:=g.stk
 have g3:n.top.names.length+n.S.left≤100000:=g.nms
 have g4:n.below.length+1≤20:=g.few
 unfold StD.mu at g1
 exact⟨hc,g.S,by omega,by omega,by omega,by omega⟩
theorem vh (s:St h0 F0 J0 h L) (a:At c L i n) (hc:c.ms.length=4) (hm:ie c.ms) (ok:Ok c.ms n.m) (hnext:∀ m',fh c.ms n.m= .go m'→m'.Good c.ms):
  ∃ fr h',ai Tryz.prog po yc [.ptr c.mb 0 0] h=some (fr,h')∧ul h0 F0 J0 c L i (fh c.ms n.m) fr h':=by
 have b:iQ h0 F0 J0 h c L i n ((dw c.ms n.top.plugin n.top.f).getD n.top.pc mV):=⟨s,a,Ml hc ok.good,hm,ok,rfl⟩
 have hx:=ok.op
 have hx:Dc n.m ((dw c.ms n.top.plugin n.top.f).getD n.top.pc mV):=hx
 have hs:fh c.ms n.m=(let x:=(dw c.ms n.top.plugin n.top.f).getD n.top.pc mV
  let m:MaD:=(n.at (n.top.pc+1)).m
  let t:=m.top
  if x.op=100 then(if m.S.left=0 then .fail m.S 12 else .go {m with S:=m.S.tick})
  else if x.op=101 then .go {m with top:={t with stack:=ke t.stack 1,names:=t.names++[(jq t.stack 1).getD 0 aD]}}
  else if x.op=102 then .go {m with top:={t with names:=t.names.dropLast}}
  else if x.op=103 then(let v:=(jq t.stack 1).getD 0 aD
   if v.kind≠1 then .fail m.S 2 else .go {m with top:={t with stack:=ke t.stack 1,pc:=if v.n=0 then x.k.toNat else t.pc}})
  else if x.op=104 then .go {m with top:={t with pc:=x.k.toNat}}
  else if x.op=105 then m.back
  else jH c.ms m x):=rfl
 rw[hs]at hnext ⊢
 generalize (dw c.ms n.top.plugin n.top.f).getD n.top.pc mV=x at*
 clear hs
 obtain⟨op,k,m⟩:=x
 simp only at hnext ⊢
 have hkind:=hx.kind
 simp only at hkind
 rcases hkind with hk | hk
 ·rw[if_neg (by omega),if_neg (by omega),if_neg (by omega),if_neg (by omega),if_neg (by omega),if_neg (by omega)]
  exact Gx b (by show op<100;omega)
 ·have ops:op=100∨op=101∨op=102∨op=103∨op=104∨op=105:=by omega
  rcases ops with rfl | rfl | rfl | rfl | rfl | rfl
  ·rw[if_pos rfl]
   exact yH b
  ·obtain⟨st,v,hst⟩:=dS (l:=n.top.stack) (by have:=hx.one (.inl rfl);exact List.length_pos_iff.2 this)
   rw[if_neg (by decide),if_pos rfl]
   have:=zY b hst
   simp only[hst,dD,fN]
   exact this
  ·obtain⟨nm,v,hst⟩:=dS (l:=n.top.names) (by have:=hx.nam rfl;exact List.length_pos_iff.2 this)
   rw[if_neg (by decide),if_neg (by decide),if_pos rfl]
   have:=zJ b hst
   simp only[hst,List.dropLast_concat]
   exact this
  ·obtain⟨st,v,hst⟩:=dS (l:=n.top.stack) (by have:=hx.one (.inr (.inl rfl));exact List.length_pos_iff.2 this)
   rw[if_neg (by decide),if_neg (by decide),if_neg (by decide),if_pos rfl]
   have:=zz b hst (hx.jump (.inl rfl))
   simp only[hst,dD,fN,List.getD_cons_zero]
   exact this
  ·rw[if_neg (by decide),if_neg (by decide),if_neg (by decide),if_neg (by decide),if_pos rfl]
   exact yu b (hx.jump (.inr rfl))
  ·obtain⟨st,v,hst⟩:=dS (l:=n.top.stack) (by have:=hx.one (.inr (.inr rfl));exact List.length_pos_iff.2 this)
   simp only[Int.reduceEq,if_false,if_true]at hnext ⊢
   refine zA b hst fun m' e=> ?_
   have g:=(hnext m' e).stk
   omega
end
set_option maxHeartbeats 1000000 in
theorem wF:∀ (N:Nat) (x:VD),SizeOf.sizeOf x≤N→x.size≤100000→∀ (r:List AV) (h:AH),VaA x r→
  ∃ r',ai Tryz.prog po 48 [.agg r] h=some (.inl (.agg r'),h)∧VaA (id x) r':=by
 intro N
 induction N with
 | zero=>intro x hx;have:=x.so_pos;omega
 | succ N ih=>
   intro x hx hsz r h he
   obtain⟨v,es,rfl,hsl,hv,hn,hix⟩:=he.facts
   have hlen:=x.len_size
   suffices key:∃ v',ai Tryz.prog po 48 [.agg [.int .i64 x.kind,.int .i64 x.n,v]] h=some (.inl v',h)∧∃ r',v'= .agg r'∧VaA (id x) r' by
    obtain⟨_,e,r',rfl,h2⟩:=key
    exact⟨r',e,h2⟩
   have rest:∀ (Q:iC→Prop) (h0:AH) (w4 w8:AV) (z:Int),h0=((h.push [[.int .i64 x.kind,.int .i64 x.n,v]]).push [[.int .i64 0,.int .i64 0,.nils]]).push [[.int .i64 x.kind,.int .i64 z,.nils]]→
     z=(id x).n→
     (∀ V h' v v',(ei V h' [.cell true 3 2]).map eO=some v→ab h h'→wkA v=some v'→(∃ r',v'= .agg r'∧VaA (id x) r')→Q (some (.ret,V,h')))→
     Q (ap (ai Tryz.prog po) 9 (.lp jt:: .ss []:: .blk 0::[.ss [.ops [(.i .l (.load true 3 (.v 3))),(.i .n (.store 3 (.v 2) (.l 0)))],.ret]])
       [.agg [.int .i64 x.kind,.int .i64 x.n,v],.ptr h.n 0 0,.ptr (h.n+1) 0 0,.ptr (h.n+1+1) 0 0,w4,v,.int .i64 es.length,.int .i64 0,w8] [] h0):=by
    intro Q h0 w4 w8 z hh0 hz hQ
    subst hh0
    refine fJ (fun i V h'=>∃ w4 w8 acc rows,V=[.agg [.int .i64 x.kind,.int .i64 x.n,v],.ptr h.n 0 0,.ptr (h.n+1) 0 0,.ptr (h.n+1+1) 0 0,w4,v,.int .i64 es.length,.int .i64 (i:Nat),w8]∧
     ab h h'∧h.n+1+1<h'.n∧h'.cell h.n=some [[.int .i64 x.kind,.int .i64 x.n,v]]∧h'.cell (h.n+1)=some [[.int .i64 0,.int .i64 0,.nils]]∧h'.cell (h.n+1+1)=some [[.int .i64 x.kind,.int .i64 z,acc]]∧
     Acc h h' tV acc rows∧VaL ((x.l.take i).map id) rows) x.l.length ⟨_,_,_,[],rfl,(by repeat (first | exact ab.refl _ | refine ab.trans ?_ (ab.push _ _) | refine ab.trans ?_ (ab.fresh _ _))),by simp only[aJ];omega,fA,gK,dk,gS _ _ _,rfl⟩ ?_ ?_
    ·rintro i V h' hi ⟨w4,w8,acc,rows,rfl,g,hm,c1,c2,c3,ha,hr⟩ next
     have hlt:(i:Int)<(es.length:Int):=by rw[hn];omega
     obtain⟨y,hy⟩:=iP hi
     obtain⟨q,i1,d1,x1⟩:=hix i y hy
     have hw:=w64 (n:=(i:Int)+1) (by omega) (by omega)
     obtain⟨q',e1,x2⟩:=ih y (by have:=VD.lt_mem (eR hy);omega) (by have:=VD.size_mem (eR hy);omega) q (h'.push [q]) x1
     obtain⟨p1,p2⟩:=x1.one
     replace c1:=(aW (es:=[q]) (show h.n<h'.n by omega)).trans c1
     replace c2:=(aW (es:=[q]) (show h.n+1<h'.n by omega)).trans c2
     replace c3:=(aW (es:=[q]) hm).trans c3
     obtain⟨o1,o2⟩:=x2.one
     have hrl:rows.length≤1000000:=by rw[hr.len,List.length_map,List.length_take];omega
     obtain⟨acc2,h2,e2,a1,a2,a3,a4⟩:=jG (show Acc h (h'.push [q]) tV acc rows from ha) (g.trans (ab.push _ _)) (row:=q') o1 hrl
     simp only[f8]at e2
     have b1:(h2.set (h.n+1+1) (some [[.int .i64 x.kind,.int .i64 z,acc2]])).cell h.n=some [[.int .i64 x.kind,.int .i64 x.n,v]]:=by rw[aV (by omega),a3];exact c1
     have b2:(h2.set (h.n+1+1) (some [[.int .i64 x.kind,.int .i64 z,acc2]])).cell (h.n+1)=some [[.int .i64 0,.int .i64 0,.nils]]:=by rw[aV (by omega),a3];exact c2
     have oA:acc2.one=true:=by
      rcases a1 with⟨_,rfl⟩ | ⟨id,_,_,_,_,rfl⟩<;>rfl
     have cA:acc2.cells=[acc2]:=by
      rcases a1 with⟨_,rfl⟩ | ⟨id,_,_,_,_,rfl⟩<;>rfl
     rw[aC jt.eq_1]
     simp only[sim,af,reduceAdd,reduceSub,replicate,reduceCtorEq,reduceLeDiff,reduceLT,aa,c1,c2,c3,hsl.len,hsl.fits,hlt,i1,d1,e1,p1,p2,br p2,o1,o2,e2,hsl.len,a3,oA,cA,hw]
     refine next _ _ ⟨_,_,_,_,rfl,a2.set (by omega),by rw[dA,a4];show _<h'.n+1;omega,b1,b2,bi,a1,?_⟩
     rw[iq hy,List.map_append]
     exact hr.append x2
    ·rintro V h' ⟨w4,w8,acc,rows,rfl,g,hm,c1,c2,c3,ha,hr⟩
     have hlt:¬ ((x.l.length:Int)<(es.length:Int)):=by rw[hn];omega
     rw[List.take_length]at hr
     have oA:acc.one=true:=by
      rcases ha with⟨_,rfl⟩ | ⟨id,_,_,_,_,rfl⟩<;>rfl
     have hsl':SlA tV acc rows:=by
      rcases ha with⟨q1,q2⟩ | ⟨id,_,_,_,_,q2⟩
      ·exact .inl ⟨q1,q2⟩
      ·exact .inr ⟨_,q2⟩
     have hx':VaA (id x) [.int .i64 x.kind,.int .i64 z,acc]:=by
      rw[hz]
      have:=VaA.mk (x:=id x) hsl' (by rw[MC];exact hr)
      rw[MO]at this
      exact this
     obtain⟨r',hw,hr'⟩:=Ay hx'
     have hwA:wkA (.agg [.int .i64 x.kind,.int .i64 z,acc])=some (.agg r'):=by simp only[wkA,hw,Option.map_some]
     rw[aC jt.eq_1]
     simp only[sim,af,reduceAdd,reduceSub,replicate,reduceCtorEq,reduceLeDiff,reduceLT,aa,c1,c2,c3,hsl.len,hsl.fits,hlt,oA]
     exact hQ _ _ _ _ (by simp only[sim,oA,List.all_cons,List.all_nil,List.length_cons,List.length_nil,Option.map_some,Option.bind_some,List.getD_cons_zero,List.getD_cons_succ,List.take_succ_cons,List.take_zero,List.drop_zero]) (g.set (by omega)) hwA ⟨r',rfl,hr'⟩
   refine zH Iv rfl fun Q hQ=> ?_;unfold BY
   simp only[sim,af,reduceAdd,reduceSub,replicate,reduceCtorEq,reduceLeDiff,reduceLT,aa,hv,hsl.len,hsl.fits]
   exact rest _ _ _ _ x.n rfl rfl hQ
open Go Go.RowKit
abbrev eu:FuncId:=12
abbrev fRc:FuncId:=49
noncomputable def cRu:Code:=Tryz.f12.body.getD .skip
noncomputable def cRc:Code:=Tryz.f49.body.getD .skip
theorem FW:(Tryz.prog).funcs[fRc]? =some Tryz.f49:=Tryz.func49
theorem B4:Tryz.f49.body=some cRc:=rfl
theorem Fa:cRc= .seq (cL cRc) (cR cRc):=rfl
theorem Mg:Tryz.f49.ntmps=27:=rfl
noncomputable def rcA:Oper:={dst:=some 8,op:= .call {callee:= .builtin .recover,args:= #[],argTypes:= #[]},type:=((eg (cL cRc)).getD 0 default).type,pos:=((eg (cL cRc)).getD 0 default).pos,after:= #[],guard:=none}
noncomputable def rcB:Oper:={dst:=some 5,op:= .assign (.tmp 8),type:=((eg (cL cRc)).getD 1 default).type,pos:=((eg (cL cRc)).getD 1 default).pos,after:=((eg (cL cRc)).getD 1 default).after,guard:=none}
theorem E3:cL cRc= .region 0 #[rcA,rcB] false:=rfl
abbrev vRc:List Nat:=[0,1,2,3,4,5,6,7,10,17]
theorem Jz:bc Tryz.prog (po.mu fRc) (po.plan fRc) 27 vRc (cR cRc) []=some zQ:=by kernel_rfl
theorem FP:cz (po.plan fRc) (po.kp fRc) (cR cRc)=true:=by kernel_rfl
theorem JJ:rA 5 27 (po.nv fRc) 10 vRc=true:=by kernel_rfl
theorem Fq (a:Array Value) (w:World):∃ v,(results Tryz.f49 a).run Tryz.prog w= .ok v w:=⟨.tuple #[],by simp[results,Tryz.results49]⟩
theorem FA:D5 Tryz.prog (cL cRc) 27 8 5:=by
 intro ts v cs cs' w hsz h
 rw[E3]
 apply wpS_region
 rcases h with h1 | ⟨h1,h2,h3⟩
 ·simp[wpOpsS,go_sem,rcA,rcB,h1,Act.put,Act.eval,hsz]
 ·simp[wpOpsS,go_sem,rcA,rcB,h1,Act.put,Act.eval,hsz,h2,h3]
theorem Jr (x y z u t e:AV):RV 27 vRc [] (bu (bu ([x,y,z,u,t]++replicate (27 - [x,y,z,u,t].length) .junk) (some 8) e) (some 5) e) [x,y,z,u,t,e,.junk,.junk,.junk,.junk] []:=by
 refine⟨by simp[bu],rfl,rfl,fun j s hj=> ?_,fun j s hj=>by simp at hj⟩
 match j,hj with
 | 0,hj | 1,hj | 2,hj | 3,hj | 4,hj | 5,hj | 6,hj | 7,hj | 8,hj | 9,hj=>obtain rfl:=Option.some.inj hj;exact⟨by decide,rfl⟩
 | j+10,hj=>simp at hj
theorem sm:(Tryz.prog).funcs[eu]? =some Tryz.f12:=Tryz.func12
theorem Ib:Tryz.f12.body=some cRu:=rfl
theorem MD:Tryz.f12.ntmps=93:=rfl
noncomputable abbrev cR1:Code:=cR cRu
noncomputable abbrev cR2:Code:=cR cR1
noncomputable abbrev cR3:Code:=cR cR2
noncomputable abbrev cR4:Code:=cR cR3
noncomputable abbrev cR5:Code:=cR cR4
noncomputable abbrev cR6:Code:=cR cR5
theorem Kr:cRu= .seq (cL cRu) cR1:=rfl
theorem oJ:cR1= .seq (cL cR1) cR2:=rfl
theorem BI:cR2= .seq (cL cR2) cR3:=rfl
theorem Hn:cR3= .seq (cL cR3) cR4:=rfl
theorem HQ:cR4= .seq (cL cR4) cR5:=rfl
theorem H5:cR5= .seq (cL cR5) cR6:=rfl
abbrev vRu:List Nat:=[0,1,2,3,4,8,9,10,11,12,13,14,15,16,17,33,62,84]
theorem ko:rA 5 93 (po.nv eu) 18 vRu=true:=by kernel_rfl
theorem Kg:bc Tryz.prog (po.mu eu) (po.plan eu) 93 vRu (cL cRu) []=some vg:=by kernel_rfl
theorem vC:bc Tryz.prog (po.mu eu) (po.plan eu) 93 vRu (cL cR1) []=some ki:=by kernel_rfl
theorem EZ:bc Tryz.prog (po.mu eu) (po.plan eu) 93 vRu (cL cR2) []=some uS:=by kernel_rfl
theorem Ka:bc Tryz.prog (po.mu eu) (po.plan eu) 93 vRu (cL cR3) []=some uw:=by kernel_rfl
theorem J9:bc Tryz.prog (po.mu eu) (po.plan eu) 93 vRu (cL cR4) []=some uV:=by kernel_rfl
theorem Gv:bc Tryz.prog (po.mu eu) (po.plan eu) 93 vRu cR6 []=some pU:=by kernel_rfl
theorem H8:cz (po.plan eu) (po.kp eu) (cL cRu)=true:=by kernel_rfl
theorem oM:cz (po.plan eu) (po.kp eu) (cL cR1)=true:=by kernel_rfl
theorem Ad:cz (po.plan eu) (po.kp eu) (cL cR2)=true:=by kernel_rfl
theorem HT:cz (po.plan eu) (po.kp eu) (cL cR3)=true:=by kernel_rfl
theorem IB:cz (po.plan eu) (po.kp eu) (cL cR4)=true:=by kernel_rfl
theorem Af:cz (po.plan eu) (po.kp eu) cR6=true:=by kernel_rfl
theorem pt:iL Tryz.prog vRu Tryz.f12.results.toList=some [.cell true 3 7,.cell false 1 8,.cell false 1 9]:=by kernel_rfl
theorem Md (x y z u t:AV):RV 93 vRu [] ([x,y,z,u,t]++replicate (93 - [x,y,z,u,t].length) .junk) ([x,y,z,u,t]++replicate (vRu.length - [x,y,z,u,t].length) .junk) []:=by
 refine⟨by simp,rfl,rfl,fun j s hj=> ?_,fun j s hj=>by simp at hj⟩
 match j,hj with
 | 0,hj | 1,hj | 2,hj | 3,hj | 4,hj | 5,hj | 6,hj | 7,hj | 8,hj | 9,hj | 10,hj | 11,hj | 12,hj | 13,hj | 14,hj | 15,hj | 16,hj | 17,hj=>obtain rfl:=Option.some.inj hj;exact⟨by decide,rfl⟩
 | j+18,hj=>simp at hj
noncomputable def ruA:Oper:={dst:=some 78,op:= .makeFunc (.func fRc) #[] #[.tmp 9,.tmp 14,.tmp 10,.tmp 11,.tmp 12],type:=((eg (cL cR5)).getD 0 default).type,pos:=((eg (cL cR5)).getD 0 default).pos,after:= #[],guard:=none}
noncomputable def ruB:Oper:={dst:=none,op:= .defer {callee:= .value (.tmp 78),args:= #[],argTypes:= #[]},type:=((eg (cL cR5)).getD 1 default).type,pos:=((eg (cL cR5)).getD 1 default).pos,after:=((eg (cL cR5)).getD 1 default).after,guard:=none}
theorem KM:cL cR5= .region 10 #[ruA,ruB] false:=rfl
theorem EB (bf:Frame) (a:Act) (cs:List Frame) (w:World) (hsz:a.tmps.size=93):
  Steps Tryz.prog (lone (bf.at a [.code cR5]) cs w) (lone (bf.at {a.put (some 78) (Dl fRc (pZ a [9,14,10,11,12]))with defers:=oF fRc (pZ a [9,14,10,11,12])::a.defers} [.code cR6]) cs w):=by
 have hw:(cL cR5).wp Tryz.prog (fun e a' w'=>e= .normal∧w'=w∧a'={a.put (some 78) (Dl fRc (pZ a [9,14,10,11,12]))with defers:=oF fRc (pZ a [9,14,10,11,12])::a.defers}) a w:=by
  have hmf:∀ (fn:Fn) (first cap:Array Value) (w:World),(Instr.makeFunc fn first cap).run Tryz.prog w= .ok (.func fn first cap) w:=fun _ _ _ _=>rfl
  rw[KM]
  apply wp_region
  simp[wpOps,go_sem,ruA,ruB,hmf,Act.put,Act.eval,hsz,Dl,oF,pZ]
 obtain⟨e,a',w',⟨rfl,rfl,rfl⟩,harr⟩:=hw bf [.code cR6] cs
 conv=>lhs;rw[H5]
 exact .head step_seq harr
theorem I0:∀ r∈Tryz.f12.results.toList,∃ i ty,r= .cell i ty∧po.kp eu i=true:=by
 have h:Tryz.f12.results.toList.all (fun r=>match r with | .cell i _=>po.kp eu i | _=>false)=true:=by kernel_rfl
 rw[List.all_eq_true]at h
 intro r hr
 have:=h r hr
 cases r with
 | tmp i=>cases this
 | cell i ty=>exact⟨i,ty,rfl,this⟩
open Go Go.RowKit
theorem IF {ms:aI} (hg:lh ms) {p f:Int} {v:VD} {S:StD} (hS:S.Good) (hmu:S.mu≤1000000) (hl:S.left≤2000) (hv:v.code=0) (hp:0≤p) (ht:(ms.getD p.toNat none).isSome) (hf:0≤f) (hf1:f.toNat<(bW ms p).length) {N:Nat} (hN:S.left≤N):
  fO ms ⟨S,⟨p,f,0,v,[],[],false,[]⟩,[]⟩ (match ofD ms N p (df ms p f) v [] 1 S with
   | (S',w,c)=>if c≠0 then .fail S' c else .over S' w):=by
 have hG:(⟨S,⟨p,f,0,v,[],[],false,[]⟩,[]⟩:MaD).Good ms:=⟨hS,⟨hp,ht,hf,hf1,hv,by simp,by simp,by simp⟩,hmu,by simp only[List.length_nil];omega,by simp only[List.length_nil];omega,by simp⟩
 have h3:=Mu hg N (df ms p f) ⟨S,⟨p,f,0,v,[],[],false,[]⟩,[]⟩ hG hN (qx hg hf1) ⟨[],[⟨105,0,0⟩],by simp[dw],rfl⟩
 have hox3:=gu ms N p (df ms p f) v [] 1 S hS hv (by simp)
 simp only[List.length_nil,Nat.zero_add]at h3
 rcases hq3:ofD ms N p (df ms p f) v [] 1 S with⟨S3,v3,c3⟩
 rw[hq3]at h3 hox3
 unfold ff at h3
 simp only at h3 ⊢
 by_cases hz:c3=0
 ·rw[if_neg (by simpa using hz)]at h3 ⊢
  have st3:bd ms (MaD.after ⟨S,⟨p,f,0,v,[],[],false,[]⟩,[]⟩ S3 (aw (df ms p f) 0).length [v3]) [⟨105,0,0⟩]:=⟨aw (df ms p f) 0,[],by simp[dw,MaD.after],by simp[MaD.after]⟩
  have bst:=nI (c:=[]) (st:=[]) (v:=v3) st3 rfl
  have ok3:=bd.at st3 (hG.after1 hox3 hz) ⟨by simp,by simp[MaD.after],by simp,by simp,by simp,by simp⟩
  simp only[MaD.after,Bool.false_eq_true,if_false,List.getLast?_nil,StD.ok]at bst
  rw[if_neg (by simp)]at bst
  exact h3 _ (.over ok3 bst)
 ·rw[if_pos hz]at h3 ⊢
  exact h3
theorem fO.ok {ms:aI} {m:MaD} {r:iz} (h:fO ms m r):Ok ms m:=by cases h<;>assumption
theorem zG {h:AH} {a b c d e:AV} {m:Mm} {w:World} {ps:List Value} (hw:WR Tryz.prog m h w) (hv:VRs Tryz.prog m h [a,b,c,d,e] ps):
  CallsD Tryz.prog fRc ps.toArray .returning w fun e u'' w'=>(∃ v,e= .returned v)∧u''= .returning∧∃ m',Ext m h m' h∧WR Tryz.prog m' h w'∧Below m.base w w':=by
 refine clG pok FW B4 Fa Mg Fq FA (bG JJ) Jz FP (V':=[a,b,c,d,e,.nili,.junk,.junk,.bool false,.junk]) ?_ (Jr _ _ _ _ _ .nili) hw hv (by simp) .nili .returning fun c hc cs=> .inr ⟨Cy c hc cs,rfl,rfl⟩
 unfold zQ
 have ifG_no:je .iface none true .neq .nili .nili=some (.bool false):=rfl
 simp only[sim,af,reduceAdd,reduceSub,replicate,reduceCtorEq,reduceLeDiff,reduceLT,aa,ifG_no]
theorem Cq {h:AH} {cf cm co cu cc mb:Nat} {m:Mm} {w:World} {ps:List Value} {u:Value} {k fuel left:Int} {z1 z2:AV} {o1:List AV} {o2 o3:AV} (hw:WR Tryz.prog m h w) (hv:VRs Tryz.prog m h [.ptr cf 0 0,.ptr cm 0 0,.ptr co 0 0,.ptr cu 0 0,.ptr cc 0 0] ps) (vu:VR Tryz.prog m h (.iface tGo (.int .i64 k)) u)
  (hf:h.cell cf=some [[.int .i64 fuel]]) (hm:h.cell cm=some [[.ptr mb 0 0]]) (hb:h.cell mb=some [[z1,z2,.int .i64 left]]) (ho:h.cell co=some [o1]) (hl:o1.length=3) (hu:h.cell cu=some [[o2]]) (hc:h.cell cc=some [[o3]]) (n1:cu≠co) (n2:cc≠co) (n3:cc≠cu) (hwr:IntKind.wrap .i64 (fuel - left)=fuel - left):
  CallsD Tryz.prog fRc ps.toArray (.panicking [{v:=u,recovered:=false}]) w fun e u'' w'=>(∃ v,e= .returned v)∧u''= .panicking [{v:=u,recovered:=true}]∧
   ∃ m',Ext m h m' (((h.set co (some [zR3])).set cu (some [[.int .i64 (fuel - left)]])).set cc (some [[.int .i64 k]]))∧WR Tryz.prog m' (((h.set co (some [zR3])).set cu (some [[.int .i64 (fuel - left)]])).set cc (some [[.int .i64 k]])) w'∧Below m.base w w':=by
 have k7:(h.set co (some [zR3])).cell cu=some [[o2]]:=(aV n1).trans hu
 have k8:((h.set co (some [zR3])).set cu (some [[.int .i64 (fuel - left)]])).cell cc=some [[o3]]:=(aV n3).trans ((aV n2).trans hc)
 refine clG pok FW B4 Fa Mg Fq FA (bG JJ) Jz FP (V':=[.ptr cf 0 0,.ptr cm 0 0,.ptr co 0 0,.ptr cu 0 0,.ptr cc 0 0,.iface tGo (.int .i64 k),.int .i64 k,.bool true,.bool true,.bool false]) ?_ (Jr _ _ _ _ _ (.iface tGo (.int .i64 k))) hw hv (by simp) vu (.panicking [{v:=u,recovered:=true}]) fun c hc cs=> .inl (yP c hc cs)
 unfold zQ
 have ifG_yes:je .iface none true .neq (.iface tGo (.int .i64 k)) .nili=some (.bool true):=rfl
 have tasG_yes:Cc tGo true (.iface tGo (.int .i64 k))=some (.tup [.int .i64 k,.bool true]):=by simp[Cc]
 simp only[sim,af,reduceAdd,reduceSub,replicate,reduceCtorEq,reduceLeDiff,reduceLT,aa,ifG_yes,tasG_yes,hf,hm,hb,ho,hl,k7,k8,hwr]
open Go Go.RowKit
abbrev six (b mb:Nat) (code used:Int) (out:List AV) (fuel:Int) (r:List AV) (L:List Asn):List Asn:=
 ah (b+1+1+1+1+1+1) [[.ptr mb 0 0]]::ah (b+1+1+1+1) [[.int .i64 code]]::ah (b+1+1+1) [[.int .i64 used]]::ah (b+1+1) [out]::ah (b+1) [[.int .i64 fuel]]::ah b [r]::L
abbrev Vv (bb b:Nat) (p f:Int) (r:List AV) (fuel:Int) (x y z:AV):List AV:=
 [.ptr bb 0 0,.int .i64 p,.int .i64 f,.agg r,.int .i64 fuel,.ptr b 0 0,.ptr (b+1) 0 0,.ptr (b+1+1) 0 0,.ptr (b+1+1+1) 0 0,.ptr (b+1+1+1+1) 0 0,.int .i64 0,.ptr (b+1+1+1+1+1+1) 0 0,x,y,.bool false,.bool false,.bool false,z]
def MR (h0:AH) (F0 J0:Nat→Prop) (c:Cfg) (L:List Asn) (b:Nat) (p f:Int) (r:List AV) (fuel:Int) (q:iz) (x:AEx) (V:List AV) (h':AH):Prop:=(∃ x y z,V=Vv c.bb b p f r fuel x y z)∧match q with
 | .go _=>False
 | .over S v=>x= .ret∧∃ fb' r',VaA v r'∧St h0 F0 J0 h' (six b c.mb 0 (fuel - (S.left:Int)) r' fuel r (jX c L 0 fb' S))
 | .fail S k=>x= .panic (.iface tGo (.int .i64 k))∧∃ n':Now,n'.S=S∧St h0 F0 J0 h' (six b c.mb 0 0 zR3 fuel r (put c L 0 n'))
section
variable {h h' h0:AH} {F J F0 J0:Nat→Prop} {L:List Asn} {c:Cfg}
theorem Mi {A1 A2 A3 A4 A5 A6:Asn} {n':Now} {fb':Nat} {S:StD}:jX c (A1::A2::A3::A4::A5::A6::put c L 0 n') (0+1+1+1+1+1+1) fb' S=A1::A2::A3::A4::A5::A6::jX c L 0 fb' S:=by
 have:jX c (put c L 0 n') 0 fb' S=jX c L 0 fb' S:=by
  unfold jX
  rw[aO]
 exact congrArg (fun l=>A1::A2::A3::A4::A5::A6::l) this
theorem L0 {A1 A2 A3 A4 A5 A6:Asn} {n n':Now}:put c (A1::A2::A3::A4::A5::A6::put c L 0 n) (0+1+1+1+1+1+1) n'=A1::A2::A3::A4::A5::A6::put c L 0 n':=by
 have:put c (put c L 0 n) 0 n'=put c L 0 n':=aO
 exact congrArg (fun l=>A1::A2::A3::A4::A5::A6::l) this
theorem KQ {i:Nat} (hl:i+3<L.length) (n':Now):At c (put c L i n') i n':=by
 refine⟨?_,?_,?_,?_⟩<;>rw[eJ]
 ·rw[if_pos (by omega),if_neg (by omega),if_neg (by omega),if_neg (by omega),if_pos rfl]
 ·rw[if_pos (by omega),if_neg (by omega),if_neg (by omega),if_pos rfl]
 ·rw[if_pos (by omega),if_neg (by omega),if_pos rfl]
 ·rw[if_pos (by omega),if_pos rfl]
theorem y8 {b mb:Nat} {code used:Int} {out:List AV} {fuel:Int} {r:List AV} (hl:3<L.length) (n:Now):At c (six b mb code used out fuel r (put c L 0 n)) (0+1+1+1+1+1+1) n:=
 ((((((KQ (i:=0) hl n).cons (ah b [r])).cons (ah (b+1) [[.int .i64 fuel]])).cons (ah (b+1+1) [out])).cons (ah (b+1+1+1) [[.int .i64 used]])).cons (ah (b+1+1+1+1) [[.int .i64 code]])).cons (ah (b+1+1+1+1+1+1) [[.ptr mb 0 0]])
def Me:iz→Prop
 | .go _=>False
 | .over S v=>S.left≤2000∧v.size≤100000
 | .fail S _=>S.left≤2000
set_option maxRecDepth 100000 in
set_option maxHeartbeats 2000000 in
theorem xE (hL:3<L.length) (hc:c.ms.length=4) (hm:ie c.ms) {b:Nat} {p f:Int} {r:List AV} {fuel:Int} (hfu:0≤fuel∧fuel≤2000) {m:MaD} {q:iz} (hr:fO c.ms m q):Me q→∀ (n:Now) (h:AH) (x y z:AV),n.m=m→St h0 F0 J0 h (six b c.mb 0 0 zR3 fuel r (put c L 0 n))→
  ∃ e V' h3,ap (ai Tryz.prog po) 18 [.lp gZ,.ss [],.blk 1,.ss [],.halt []] (Vv c.bb b p f r fuel x y z) [] h=some (e,V',h3)∧MR h0 F0 J0 c L b p f r fuel q e V' h3:=by
 induction hr with
 | @go m m' q ok hs hr ih=>
   intro hq n h x y z hn s
   subst hn
   have a6:=y8 (c:=c) (b:=b) (mb:=c.mb) (code:=0) (used:=0) (out:=zR3) (fuel:=fuel) (r:=r) hL n
   obtain⟨fr,h1,e1,ob⟩:=vh s a6 hc hm ok fun m'' e=>by rw[hs]at e;cases e;exact hr.ok.good
   rw[hs]at ob
   obtain⟨r1,rfl,⟨o1,o2⟩,fb',s1⟩:=ob
   rw[L0]at s1
   have c0:=(s.cell 0 rfl).1
   have s2:=s1.push [r1]
   obtain⟨e,V',h3,e3,o3⟩:=ih hq ⟨fb',m'.S,m'.below,m'.top⟩ (h1.push [r1]) (.ptr h1.n 0 0) (.bool false) (.bool false) rfl s2.drop
   refine⟨e,V',h3,?_,o3⟩
   rw[←e3]
   rw[aC gZ.eq_1]
   simp only[sim,af,reduceAdd,reduceSub,replicate,reduceCtorEq,reduceLeDiff,reduceLT,aa,au,c0,e1,o1,o2]
 | @over m S v ok hs=>
   intro hq n h x y z hn s
   subst hn
   have a6:=y8 (c:=c) (b:=b) (mb:=c.mb) (code:=0) (used:=0) (out:=zR3) (fuel:=fuel) (r:=r) hL n
   obtain⟨fr,h1,e1,ob⟩:=vh s a6 hc hm ok fun m'' e=>by rw[hs]at e;cases e
   rw[hs]at ob
   obtain⟨r1,rfl,hv,fb',s1⟩:=ob
   rw[Mi]at s1
   obtain⟨hq1,hq2⟩:=hq
   obtain⟨o1,o2⟩:=hv.len3
   have c0:=(s.cell 0 rfl).1
   have s2:St h0 F0 J0 (h1.push [r1]) (ah h1.n [r1]::six b c.mb 0 0 zR3 fuel r (jX c L 0 fb' S)):=s1.push [r1]
   obtain⟨r2,e2,hv2⟩:=wF _ v (Nat.le_refl _) hq2 r1 (h1.push [r1]) hv
   have hv2:VaA v r2:=by rw[id_eq]at hv2;exact hv2
   obtain⟨o3,o4⟩:=hv2.len3
   have hend:(jX c L 0 fb' S)[0]? =some (zE c.mb c.bb fb' (S.left:Int)):=by
    unfold jX
    rw[List.getElem?_set_self (by rw[oN];omega)]
   have cm:=(s2.cell 7 hend).1
   have cp:=(s2.cell 1 rfl).1
   have cf:=(s2.cell 5 rfl).1
   have co:=(s2.cell 4 rfl).1
   have s3:=s2.set 4 rfl [r2]
   have s3:St h0 F0 J0 _ (ah h1.n [r1]::six b c.mb 0 0 r2 fuel r (jX c L 0 fb' S)):=s3
   have cm3:=(s3.cell 7 hend).1
   have cp3:=(s3.cell 1 rfl).1
   have cf3:=(s3.cell 5 rfl).1
   have cu3:=(s3.cell 3 rfl).1
   have s4:=s3.set 3 rfl [[.int .i64 (fuel - (S.left:Int))]]
   have s4:St h0 F0 J0 _ (ah h1.n [r1]::six b c.mb 0 (fuel - (S.left:Int)) r2 fuel r (jX c L 0 fb' S)):=s4
   have cc4:=(s4.cell 2 rfl).1
   have s5:=s4.set 2 rfl [[.int .i64 0]]
   have w:IntKind.wrap .i64 (fuel - (S.left:Int))=fuel - (S.left:Int):=w64 (by omega) (by omega)
   have f2:aH 2 (.ptr c.mb 0 0)=some (.ptr c.mb 0 2):=rfl
   refine⟨.ret,Vv c.bb b p f r fuel (.ptr h1.n 0 0) (.bool true) (.bool true),_,?_,⟨_,_,_,rfl⟩,rfl,fb',r2,hv2,s5.drop⟩
   rw[aC gZ.eq_1]
   simp only[sim,af,reduceAdd,reduceSub,replicate,reduceCtorEq,reduceLeDiff,reduceLT,aa,au,c0,e1,o1,o2,o3,o4,e2,cm,cp,cf,co,cm3,cp3,cf3,cu3,cc4,w,f2]
 | @fail m S k ok hs=>
   intro hq n h x y z hn s
   subst hn
   have a6:=y8 (c:=c) (b:=b) (mb:=c.mb) (code:=0) (used:=0) (out:=zR3) (fuel:=fuel) (r:=r) hL n
   obtain⟨fr,h1,e1,ob⟩:=vh s a6 hc hm ok fun m'' e=>by rw[hs]at e;cases e
   rw[hs]at ob
   obtain⟨rfl,n',hn',s1⟩:=ob
   rw[L0]at s1
   have c0:=(s.cell 0 rfl).1
   refine⟨.panic (.iface tGo (.int .i64 k)),Vv c.bb b p f r fuel x y z,_,?_,⟨_,_,_,rfl⟩,rfl,n',hn',s1⟩
   rw[aC gZ.eq_1]
   simp only[sim,af,reduceAdd,reduceSub,replicate,reduceCtorEq,reduceLeDiff,reduceLT,aa,au,c0,e1]
end
open Go Go.RowKit
abbrev rsR:List jV:=[.cell true 3 7,.cell false 1 8,.cell false 1 9]
noncomputable def x8 (V:List AV) (h:AH):Option ((AV ⊕ AV)×AH):=((ei V h rsR).map eO).map fun v=>(.inl v,h)
noncomputable def vr (x:iC) (k:List AV→AH→Option ((AV ⊕ AV)×AH)):Option ((AV ⊕ AV)×AH):=match x with
 | some (.halt _,V,h)=>k V h
 | some (.ret,V,h)=>x8 V h
 | _=>none
noncomputable def Ao (args:List AV) (h:AH) (x:iC):Option ((AV ⊕ AV)×AH):=match x with
 | some (.ret,V,h6)=>x8 V h6
 | some (.panic (.iface _ (.int _ k)),V,h6)=>match h6.cell (h.n+1+1+1+1+1),args with
   | some [[_,_,.int _ left]],[_,_,_,_,.int _ fuel]=>x8 V (((h6.set (h.n+1+1) (some [zR3])).set (h.n+1+1+1) (some [[.int .i64 (fuel - left)]])).set (h.n+1+1+1+1) (some [[.int .i64 k]]))
   | _,_=>none
 | _=>none
noncomputable abbrev kX:=ai (Tryz.prog) po
noncomputable def Cr (args:List AV) (h:AH):Option ((AV ⊕ AV)×AH):=
 vr (ap kX 18 [.ss vg,.halt [.code cR1]] (args++replicate (vRu.length - args.length) .junk) [] h) fun V1 h1=>
 vr (ap kX 18 [.ss ki,.halt [.code cR2]] V1 [] h1) fun V2 h2=>
 vr (ap kX 18 [.ss uS,.halt [.code cR3]] V2 [] h2) fun V3 h3=>
 vr (ap kX 18 [.ss uw,.halt [.code cR4]] V3 [] h3) fun V4 h4=>
 vr (ap kX 18 [.ss uV,.halt [.code cR5]] V4 [] h4) fun V5 h5=>
 Ao args h (ap kX 18 [.ss pU,.halt []] V5 [] h5)
def Jx (F J:Nat→Prop) (bb gb wb:Nat) (ms:aI) (S:StD) (h:AH) (d:StD×VD×Int×Int) (q:(AV ⊕ AV)×AH):Prop:=
 ∃ r' h',q=(.inl (.tup [.agg r',.int .i64 d.2.2.1,.int .i64 d.2.2.2]),h')∧VaA d.2.1 r'∧Did h F J h' (bh [cJ bb gb wb ms d.1.kept,aM gb d.1.G,aY wb d.1.cells d.1.log])
def Ai (F J:Nat→Prop) (bb gb wb:Nat) (ms:aI) (S:StD) (h:AH) (args:List AV) (d:StD×VD×Int×Int):Prop:=∃ q,Cr args h=some q∧AC Tryz.prog eu args h q∧Jx F J bb gb wb ms S h d q
section
variable {h h' h0:AH} {F J F0 J0:Nat→Prop} {L:List Asn} {bb gb wb:Nat} {ms:aI} {S:StD} {p f fuel:Int} {v:VD} {r:List AV}
abbrev dv (b:Nat) (code used:Int) (out:List AV) (fuel:Int) (r:List AV) (L:List Asn):List Asn:=
 ah (b+1+1+1+1) [[.int .i64 code]]::ah (b+1+1+1) [[.int .i64 used]]::ah (b+1+1) [out]::ah (b+1) [[.int .i64 fuel]]::ah b [r]::L
abbrev V5q (bb b:Nat) (p f:Int) (r:List AV) (fuel:Int) (c x y z:AV):List AV:=
 [.ptr bb 0 0,.int .i64 p,.int .i64 f,.agg r,.int .i64 fuel,.ptr b 0 0,.ptr (b+1) 0 0,.ptr (b+1+1) 0 0,.ptr (b+1+1+1) 0 0,.ptr (b+1+1+1+1) 0 0,c,.junk,.junk,.junk,x,y,z,.junk]
abbrev h5q (h:AH) (r:List AV) (fuel:Int):AH:=((((h.push [r]).push [[.int .i64 fuel]]).push [zR3]).push [[.int .i64 0]]).push [[.int .i64 0]]
abbrev mF (bb:Nat) (p f:Int) (r:List AV) (fuel:Int):List AV:=[.ptr bb 0 0,.int .i64 p,.int .i64 f,.agg r,.int .i64 fuel]
theorem my (hv:VaA v r):ap kX 18 [.ss vg,.halt [.code cR1]] (mF bb p f r fuel++replicate (vRu.length - (mF bb p f r fuel).length) .junk) [] h=some (.halt [.code cR1],V5q bb h.n p f r fuel .junk .junk .junk .junk,h5q h r fuel):=by
 obtain⟨o1,o2⟩:=hv.len3
 unfold vg
 simp only[sim,af,reduceAdd,reduceSub,replicate,reduceCtorEq,reduceLeDiff,reduceLT,aa,o1,o2]
theorem l6 (s:St h0 F0 J0 h L):St h0 F0 J0 (h5q h r fuel) (dv h.n 0 0 zR3 fuel r L):=((((s.push [r]).push [[.int .i64 fuel]]).push [zR3]).push [[.int .i64 0]]).push [[.int .i64 0]]
theorem uY {V:List AV} {h':AH} {o u c:Nat} {r':List AV} {used code:Int} (h7:V.getD 7 .junk= .ptr o 0 0) (h8:V.getD 8 .junk= .ptr u 0 0) (h9:V.getD 9 .junk= .ptr c 0 0) (ho:h'.cell o=some [r']) (hr:r'.length=3) (hu:h'.cell u=some [[.int .i64 used]]) (hc:h'.cell c=some [[.int .i64 code]]):
  (ei V h' rsR).map eO=some (.tup [.agg r',.int .i64 used,.int .i64 code]):=by
 have e1:aK true 3 h' (.ptr o 0 0)=some (.agg r'):=by rw[bV,ho];exact br hr
 have e2:aK false 1 h' (.ptr u 0 0)=some (.int .i64 used):=by rw[bV,hu];rfl
 have e3:aK false 1 h' (.ptr c 0 0)=some (.int .i64 code):=by rw[bV,hc];rfl
 simp only[ei,h7,h8,h9,e1,e2,e3,Option.bind_some,Option.map_some,eO]
theorem Iq (hv:VaA v r):lD Tryz.prog po eu 93 vRu (mF bb p f r fuel) h (.halt [.code cR1]) (V5q bb h.n p f r fuel .junk .junk .junk .junk) (h5q h r fuel):=
 (lD.start sm Ib MD (Md _ _ _ _ _)).next (nv:=18) pok Kr (bG ko) Kg H8 (my hv)
abbrev yU (h:AH) (r:List AV) (fuel code:Int):AH:=(((h5q h r fuel).set (h.n+1+1) (some [zR3])).set (h.n+1+1+1) (some [[.int .i64 0]])).set (h.n+1+1+1+1) (some [[.int .i64 code]])
theorem Ex (s:St h0 F0 J0 h L) (code:Int):St h0 F0 J0 (yU h r fuel code) (dv h.n code 0 zR3 fuel r L):=by
 have s1:St h0 F0 J0 (h5q h r fuel) (dv h.n 0 0 zR3 fuel r L):=l6 s
 have s2:St h0 F0 J0 _ (dv h.n 0 0 zR3 fuel r L):=s1.set 2 rfl [zR3]
 have s3:St h0 F0 J0 _ (dv h.n 0 0 zR3 fuel r L):=s2.set 1 rfl [[.int .i64 0]]
 exact s3.set 0 rfl [[.int .i64 code]]
theorem kJ {V:List AV} (h7:V.getD 7 .junk= .ptr (h.n+1+1) 0 0) (h8:V.getD 8 .junk= .ptr (h.n+1+1+1) 0 0) (h9:V.getD 9 .junk= .ptr (h.n+1+1+1+1) 0 0) (s:St h0 F0 J0 h L) (code:Int):(ei V (yU h r fuel code) rsR).map eO=some (.tup [.agg zR3,.int .i64 0,.int .i64 code]):=by
 have s1:St h0 F0 J0 (yU h r fuel code) (dv h.n code 0 zR3 fuel r L):=Ex s code
 exact uY h7 h8 h9 (s1.cell 2 rfl).1 rfl (s1.cell 1 rfl).1 (s1.cell 0 rfl).1
theorem pw (x:(bh [cJ bb gb wb ms S.kept,aM gb S.G,aY wb S.cells S.log]).A h F J) (code:Int):Jx F J bb gb wb ms S h (S,aD,0,code) (.inl (.tup [.agg zR3,.int .i64 0,.int .i64 code]),yU h r fuel code):=
 ⟨zR3,_,rfl,dM,(Ex (St.start x) code).drop.drop.drop.drop.drop⟩
theorem x7 (hv:VaA v r) (x:(bh [cJ bb gb wb ms S.kept,aM gb S.G,aY wb S.cells S.log]).A h F J) (hr:fuel<0∨2000<fuel∨p<0∨4≤p):Ai F J bb gb wb ms S h (mF bb p f r fuel) (S,aD,0,1):=by
 have s1:St h F J (h5q h r fuel) (dv h.n 0 0 zR3 fuel r _):=l6 (St.start x)
 have c1:=(s1.cell 0 rfl).1
 have c2:=(s1.cell 1 rfl).1
 have c3:=(s1.cell 2 rfl).1
 have c4:=(s1.cell 3 rfl).1
 have s2:St h F J _ (dv h.n 0 0 zR3 fuel r _):=s1.set 2 rfl [zR3]
 have d2:=(s2.cell 1 rfl).1
 have s3:St h F J _ (dv h.n 0 0 zR3 fuel r _):=s2.set 1 rfl [[.int .i64 0]]
 have e2:=(s3.cell 0 rfl).1
 have run:ap kX 18 [.ss ki,.halt [.code cR2]] (V5q bb h.n p f r fuel .junk .junk .junk .junk) [] (h5q h r fuel)=some (.ret,V5q bb h.n p f r fuel .junk (.bool true) .junk .junk,yU h r fuel 1):=by
  unfold ki
  by_cases h1:fuel<0
  ·have k1:decide (fuel<0)=true:=decide_eq_true h1
   simp only[sim,af,reduceAdd,reduceSub,replicate,reduceCtorEq,reduceLeDiff,reduceLT,aa,c1,c2,c3,c4,d2,e2,k1]
  ·have k1:decide (fuel<0)=false:=decide_eq_false h1
   by_cases h2:2000<fuel
   ·have k2:decide (2000<fuel)=true:=decide_eq_true h2
    simp only[sim,af,reduceAdd,reduceSub,replicate,reduceCtorEq,reduceLeDiff,reduceLT,aa,c1,c2,c3,c4,d2,e2,k1,k2]
   ·have k2:decide (2000<fuel)=false:=decide_eq_false h2
    by_cases h3:p<0
    ·have k3:decide (p<0)=true:=decide_eq_true h3
     simp only[sim,af,reduceAdd,reduceSub,replicate,reduceCtorEq,reduceLeDiff,reduceLT,aa,c1,c2,c3,c4,d2,e2,k1,k2,k3]
    ·have k3:decide (p<0)=false:=decide_eq_false h3
     have k4:decide (4≤p)=true:=decide_eq_true (by omega)
     simp only[sim,af,reduceAdd,reduceSub,replicate,reduceCtorEq,reduceLeDiff,reduceLT,aa,c1,c2,c3,c4,d2,e2,k1,k2,k3,k4]
 refine⟨_,?_,((Iq hv).next (nv:=18) pok oJ (bG ko) vC oM run).ret sm pt (kJ rfl rfl rfl (St.start x) 1),pw x 1⟩
 unfold Cr
 rw[my hv]
 simp only[vr]
 rw[run]
 simp only[x8]
 rw[kJ rfl rfl rfl (St.start x) 1]
 rfl
theorem LQ {i:Nat} (s:St h0 F0 J0 h L) {kept:List VD} (hi:L[i]? =some (cJ bb gb wb ms kept)) (hl:ms.length=kept.length) (h4:ms.length=4) {P:Nat} (hp:P<4):(∀ q:IntKind,cj none (some (4,5)) (.ptr bb 0 2) (.int q (P:Int))=some (.ptr bb 0 (2+P*5)))∧(∀ k:Nat,aK false k h (.ptr bb 0 (2+P*5))=some (.bool (ms.getD P none).isSome))∧(∀ k:Nat,aK false k h (.ptr bb 0 (2+P*5+1))=some (ic (ms.getD P none))):=by
 obtain⟨F,J,x⟩:=s.get i hi
 obtain⟨row,c1,cn,_,_,_,hpl⟩:=ub x hl
 obtain⟨q1,q2,_⟩:=hpl P (by rw[h4];exact hp)
 refine⟨fun q=>by simp[cj,hp],fun k=> ?_,fun k=> ?_⟩
 ·rw[bV,c1,Option.bind_some,List.getElem?_cons_zero,Option.bind_some,eN,q1]
 ·rw[bV,c1,Option.bind_some,List.getElem?_cons_zero,Option.bind_some,eN,q2]
theorem sN (m:Option (List XD)):dO (ic m)=some (m.getD []).length∧∀ s,cU s (some tFs) (ic m)=true:=by
 cases m with
 | none=>exact⟨rfl,fun s=>rfl⟩
 | some L=>exact⟨(dh L).1,fun s=>(dh L).2.1 s⟩
theorem zU (hv:VaA v r) (x:(bh [cJ bb gb wb ms S.kept,aM gb S.G,aY wb S.cells S.log]).A h F J) (h4:ms.length=4) (hS:S.Good) (hr:¬ (fuel<0∨2000<fuel∨p<0∨4≤p)) (hn:(ms.getD p.toNat none).isNone∨f<0∨((bW ms p).length:Int)≤f):Ai F J bb gb wb ms S h (mF bb p f r fuel) (S,aD,0,8):=by
 have s1:St h F J (h5q h r fuel) (dv h.n 0 0 zR3 fuel r [cJ bb gb wb ms S.kept,aM gb S.G,aY wb S.cells S.log]):=l6 (St.start x)
 have c1:=(s1.cell 0 rfl).1
 have c2:=(s1.cell 1 rfl).1
 have c3:=(s1.cell 2 rfl).1
 have c4:=(s1.cell 3 rfl).1
 have s2:St h F J _ (dv h.n 0 0 zR3 fuel r _):=s1.set 2 rfl [zR3]
 have d2:=(s2.cell 1 rfl).1
 have s3:St h F J _ (dv h.n 0 0 zR3 fuel r _):=s2.set 1 rfl [[.int .i64 0]]
 have e2:=(s3.cell 0 rfl).1
 have k1:decide (fuel<0)=false:=decide_eq_false (by omega)
 have k2:decide (2000<fuel)=false:=decide_eq_false (by omega)
 have k3:decide (p<0)=false:=decide_eq_false (by omega)
 have k4:decide (4≤p)=false:=decide_eq_false (by omega)
 obtain⟨P,hP⟩:=Int.eq_ofNat_of_zero_le (show 0≤p by omega)
 subst hP
 obtain⟨ix,b0,b1⟩:=LQ s1 (i:=5) (kept:=S.kept) rfl (h4.trans hS.kept.symm) h4 (P:=P) (by omega)
 obtain⟨cl,cf⟩:=sN (ms.getD P none)
 have f2:aH 2 (.ptr bb 0 0)=some (.ptr bb 0 2):=rfl
 have f0:aH 0 (.ptr bb 0 (2+P*5))=some (.ptr bb 0 (2+P*5)):=rfl
 have f1:aH 1 (.ptr bb 0 (2+P*5))=some (.ptr bb 0 (2+P*5+1)):=rfl
 have run:ap kX 18 [.ss ki,.halt [.code cR2]] (V5q bb h.n P f r fuel .junk .junk .junk .junk) [] (h5q h r fuel)=some (.ret,V5q bb h.n P f r fuel .junk (.bool false) (.bool true) .junk,yU h r fuel 8):=by
  unfold ki
  by_cases h1:(ms.getD P none).isSome=true
  ·by_cases h2:f<0
   ·have k5:decide (f<0)=true:=decide_eq_true h2
    simp only[sim,af,reduceAdd,reduceSub,replicate,reduceCtorEq,reduceLeDiff,reduceLT,aa,c1,c2,c3,c4,d2,e2,k1,k2,k3,k4,ix,b0,b1,f0,f1,f2,h1,k5]
   ·have k5:decide (f<0)=false:=decide_eq_false h2
    have k6:decide ((((ms.getD P none).getD []).length:Int)≤f)=true:=decide_eq_true (by
     rcases hn with hn | hn | hn
     ·rw[show((P:Nat):Int).toNat=P from rfl]at hn
      cases hm:ms.getD P none with
      | none=>rw[hm]at h1;cases h1
      | some l=>rw[hm]at hn;cases hn
     ·exact absurd hn h2
     ·exact hn)
    simp only[sim,af,reduceAdd,reduceSub,replicate,reduceCtorEq,reduceLeDiff,reduceLT,aa,c1,c2,c3,c4,d2,e2,k1,k2,k3,k4,ix,b0,b1,f0,f1,f2,h1,k5,cl,cf,k6]
  ·have h1':(ms.getD P none).isSome=false:=by simpa using h1
   simp only[sim,af,reduceAdd,reduceSub,replicate,reduceCtorEq,reduceLeDiff,reduceLT,aa,c1,c2,c3,c4,d2,e2,k1,k2,k3,k4,ix,b0,b1,f0,f1,f2,h1']
 refine⟨_,?_,((Iq hv).next (nv:=18) pok oJ (bG ko) vC oM run).ret sm pt (kJ rfl rfl rfl (St.start x) 8),pw x 8⟩
 unfold Cr
 rw[my hv]
 simp only[vr]
 rw[run]
 simp only[x8]
 rw[kJ rfl rfl rfl (St.start x) 8]
 rfl
theorem D4 (s1:St h0 F0 J0 (h5q h r fuel) (dv h.n 0 0 zR3 fuel r (cJ bb gb wb ms S.kept::L))) (h4:ms.length=4) (hS:S.Good) (hr:¬ (fuel<0∨2000<fuel∨p<0∨4≤p)) (hn:¬ ((ms.getD p.toNat none).isNone∨f<0∨((bW ms p).length:Int)≤f)):
  ap kX 18 [.ss ki,.halt [.code cR2]] (V5q bb h.n p f r fuel .junk .junk .junk .junk) [] (h5q h r fuel)=some (.halt [.code cR2],V5q bb h.n p f r fuel .junk (.bool false) (.bool false) .junk,h5q h r fuel):=by
 have c4:=(s1.cell 3 rfl).1
 have k1:decide (fuel<0)=false:=decide_eq_false (by omega)
 have k2:decide (2000<fuel)=false:=decide_eq_false (by omega)
 have k3:decide (p<0)=false:=decide_eq_false (by omega)
 have k4:decide (4≤p)=false:=decide_eq_false (by omega)
 obtain⟨P,hP⟩:=Int.eq_ofNat_of_zero_le (show 0≤p by omega)
 subst hP
 obtain⟨ix,b0,b1⟩:=LQ s1 (i:=5) (kept:=S.kept) rfl (h4.trans hS.kept.symm) h4 (P:=P) (by omega)
 obtain⟨cl,cf⟩:=sN (ms.getD P none)
 have f2:aH 2 (.ptr bb 0 0)=some (.ptr bb 0 2):=rfl
 have f0:aH 0 (.ptr bb 0 (2+P*5))=some (.ptr bb 0 (2+P*5)):=rfl
 have f1:aH 1 (.ptr bb 0 (2+P*5))=some (.ptr bb 0 (2+P*5+1)):=rfl
 have hn1:¬ (ms.getD P none).isNone=true:=fun e=>hn (.inl e)
 have h1:(ms.getD P none).isSome=true:=by cases hm:ms.getD P none with
  | none=>rw[hm]at hn1;exact absurd rfl hn1
  | some l=>rfl
 have k5:decide (f<0)=false:=decide_eq_false fun e=>hn (.inr (.inl e))
 have k6:decide ((((ms.getD P none).getD []).length:Int)≤f)=false:=decide_eq_false fun e=>hn (.inr (.inr e))
 unfold ki
 simp only[sim,af,reduceAdd,reduceSub,replicate,reduceCtorEq,reduceLeDiff,reduceLT,aa,c4,k1,k2,k3,k4,ix,b0,b1,f0,f1,f2,h1,k5,cl,cf,k6]
theorem AX (s1:St h0 F0 J0 (h5q h r fuel) (dv h.n 0 0 zR3 fuel r L)) (hv:VaA v r):ap kX 18 [.ss uS,.halt [.code cR3]] (V5q bb h.n p f r fuel .junk (.bool false) (.bool false) .junk) [] (h5q h r fuel)=
  if v.code=0 then some (.halt [.code cR3],V5q bb h.n p f r fuel (.int .i64 0) (.bool false) (.bool false) (.bool false),h5q h r fuel)else some (.ret,V5q bb h.n p f r fuel (.int .i64 v.code) (.bool false) (.bool false) (.bool true),yU h r fuel v.code):=by
 have c1:=(s1.cell 0 rfl).1
 have c2:=(s1.cell 1 rfl).1
 have c3:=(s1.cell 2 rfl).1
 have c5:=(s1.cell 4 rfl).1
 have s2:St h0 F0 J0 _ (dv h.n 0 0 zR3 fuel r _):=s1.set 2 rfl [zR3]
 have d2:=(s2.cell 1 rfl).1
 have s3:St h0 F0 J0 _ (dv h.n 0 0 zR3 fuel r _):=s2.set 1 rfl [[.int .i64 0]]
 have e2:=(s3.cell 0 rfl).1
 have ck:=jx (h:=h5q h r fuel) hv
 obtain⟨o1,o2⟩:=hv.len3
 unfold uS
 by_cases hz:v.code=0
 ·have k:decide (v.code=0)=true:=decide_eq_true hz
  rw[if_pos hz]
  rw[hz]at ck k
  simp only[sim,af,reduceAdd,reduceSub,replicate,reduceCtorEq,reduceLeDiff,reduceLT,aa,au,c1,c2,c3,c5,d2,e2,o1,o2,ck,k]
 ·have k:decide (v.code=0)=false:=decide_eq_false hz
  rw[if_neg hz]
  simp only[sim,af,reduceAdd,reduceSub,replicate,reduceCtorEq,reduceLeDiff,reduceLT,aa,au,c1,c2,c3,c5,d2,e2,o1,o2,ck,k]
end
open Go Go.RowKit
section
variable {h h' h0:AH} {F J F0 J0:Nat→Prop} {L:List Asn} {bb gb wb:Nat} {ms:aI} {S:StD} {p f fuel:Int} {v:VD} {r:List AV}
theorem Hf {mb fb:Nat} {left:Int} {top:FrD} {a:List AV} {g:AV} (ha:VaA top.arg a) (hg:SlA 3 g (cr top.gates)) (hs:top.stack=[]) (hn:top.names=[]) (x:(bh (ah mb [[.ptr bb 0 0,.msl fb 0 1 tFr,.int .i64 left]]::ah fb [ct top a .nils .nils g]::L)).A h F J):(bh (dN mb bb fb left [] top::L)).A h F J:=by
 refine eC (fun h F J x=> ?_) (fun _ _ _ y=>y) (ny x)
 obtain⟨F1,J1,F2,J2,x1,x2,r⟩:=x
 refine⟨⟨[],ct top a .nils .nils g,[]⟩,F1,J1,F2,J2,x1,⟨F2,J2,fun _=>False,fun _=>False,x2,⟨fun _=>False,fun _=>False,fun _=>False,fun _=>False,tK ha hg hs hn,⟨trivial,fun _ h=>h,fun _ h=>h⟩,fun k=>by simp,fun j=>by simp,fun _ h=>h.elim,fun _ h=>h.elim⟩,fun k=>by simp,fun j=>by simp,fun _ _ h=>h,fun _ _ h=>h⟩,r⟩
abbrev xV (p f:Int) (v:VD):FrD:=⟨p,f,0,v,[],[],false,[]⟩
abbrev h7q (h:AH) (bb:Nat) (r:List AV) (fuel:Int):AH:=((h5q h r fuel).push [[.ptr bb 0 0,.nils,.int .i64 fuel]]).push [[.ptr (h.n+1+1+1+1+1) 0 0]]
abbrev fbq (h:AH):Nat:=h.n+1+1+1+1+1+1+1
abbrev h8q (h:AH) (bb:Nat) (p f:Int) (v:VD) (r r2:List AV) (fuel:Int):AH:=((h7q h bb r fuel).push [ct (xV p f v) r2 .nils .nils .nils]).set (h.n+1+1+1+1+1) (some [[.ptr bb 0 0,.msl (fbq h) 0 1 tFr,.int .i64 fuel]])
theorem Ia (s1:St h0 F0 J0 (h5q h r fuel) (dv h.n 0 0 zR3 fuel r L)):ap kX 18 [.ss uw,.halt [.code cR4]] (V5q bb h.n p f r fuel (.int .i64 0) (.bool false) (.bool false) (.bool false)) [] (h5q h r fuel)=
  some (.halt [.code cR4],Vv bb h.n p f r fuel .junk .junk .junk,h7q h bb r fuel):=by
 have c4:=(s1.cell 3 rfl).1
 have c5:((((h5q h r fuel).push [[.ptr bb 0 0,.nils,.int .i64 fuel]]).push [[.nilp]]).cell (h.n+1+1+1+1+1+1))=some [[.nilp]]:=aT (h:=(h5q h r fuel).push [[.ptr bb 0 0,.nils,.int .i64 fuel]])
 have c6:∀ x,(((h5q h r fuel).push [[.ptr bb 0 0,.nils,.int .i64 fuel]]).push [[.nilp]]).set (h.n+1+1+1+1+1+1) (some x)=((h5q h r fuel).push [[.ptr bb 0 0,.nils,.int .i64 fuel]]).push x:=fun x=>fz (h:=(h5q h r fuel).push [[.ptr bb 0 0,.nils,.int .i64 fuel]])
 unfold uw
 simp only[sim,af,reduceAdd,reduceSub,replicate,reduceCtorEq,reduceLeDiff,reduceLT,aa,c4,c5,c6]
theorem yb (s1:St h0 F0 J0 (h5q h r fuel) (dv h.n 0 0 zR3 fuel r L)):St h0 F0 J0 (h7q h bb r fuel) (ah (h.n+1+1+1+1+1+1) [[.ptr (h.n+1+1+1+1+1) 0 0]]::ah (h.n+1+1+1+1+1) [[.ptr bb 0 0,.nils,.int .i64 fuel]]::dv h.n 0 0 zR3 fuel r L):=
 (s1.push _).push _
set_option maxRecDepth 100000 in
theorem Hd (s1:St h0 F0 J0 (h5q h r fuel) (dv h.n 0 0 zR3 fuel r L)) (hv:VaA v r) (hvs:v.size≤100000):∃ r2,VaA v r2∧ap kX 18 [.ss uV,.halt [.code cR5]] (Vv bb h.n p f r fuel .junk .junk .junk) [] (h7q h bb r fuel)=
  some (.halt [.code cR5],Vv bb h.n p f r fuel .junk .junk .junk,h8q h bb p f v r r2 fuel):=by
 obtain⟨r2,e2,hv2⟩:=wF _ v (Nat.le_refl _) hvs r (h7q h bb r fuel) hv
 have hv2:VaA v r2:=by rw[id_eq]at hv2;exact hv2
 refine⟨r2,hv2,?_⟩
 obtain⟨o1,o2⟩:=hv.len3
 obtain⟨o3,o4⟩:=hv2.len3
 have s7:St h0 F0 J0 (h7q h bb r fuel) (ah (h.n+1+1+1+1+1+1) [[.ptr (h.n+1+1+1+1+1) 0 0]]::ah (h.n+1+1+1+1+1) [[.ptr bb 0 0,.nils,.int .i64 fuel]]::dv h.n 0 0 zR3 fuel r L):=yb s1
 have c0:=(s7.cell 0 rfl).1
 have c6:=(s7.cell 6 rfl).1
 have s8:=s7.push [ct (xV p f v) r2 .nils .nils .nils]
 have d0:=(s8.cell 1 rfl).1
 have d1:=(s8.cell 2 rfl).1
 have f1:aH 1 (.ptr (h.n+1+1+1+1+1) 0 0)=some (.ptr (h.n+1+1+1+1+1) 0 1):=rfl
 obtain⟨y0,y1,y2,rfl⟩:∃ a b c,r2=[a,b,c]:=by match r2,o3 with | [a,b,c],_=>exact⟨a,b,c,rfl⟩
 simp only[List.all_cons,List.all_nil,Bool.and_true,Bool.and_eq_true]at o4
 obtain⟨z3,z4,z5⟩:=o4
 have en:(h7q h bb r fuel).n=fbq h:=rfl
 unfold h8q
 generalize h7q h bb r fuel=hx at*
 simp only[ct,Int.natCast_zero,List.cons_append,List.nil_append]at d0 d1 ⊢
 unfold uV
 simp only[sim,af,reduceAdd,reduceSub,replicate,reduceCtorEq,reduceLeDiff,reduceLT,aa,au,c0,c6,o1,o2,e2,d0,d1,f1,z3,z4,z5,en]
abbrev mb5 (h:AH):Nat:=h.n+1+1+1+1+1
abbrev L4 (h:AH) (bb gb wb:Nat) (ms:aI) (S:StD) (p f:Int) (v:VD):List Asn:=[dN (mb5 h) bb (fbq h) (S.left:Int) [] (xV p f v),cJ bb gb wb ms S.kept,aM gb S.G,aY wb S.cells S.log]
theorem Dt {r2:List AV} (s1:St h0 F0 J0 (h5q h r fuel) (dv h.n 0 0 zR3 fuel r [cJ bb gb wb ms S.kept,aM gb S.G,aY wb S.cells S.log])) (hv2:VaA v r2) (hf:(S.left:Int)=fuel):St h0 F0 J0 (h8q h bb p f v r r2 fuel) (six h.n (mb5 h) 0 0 zR3 fuel r (L4 h bb gb wb ms S p f v)):=by
 have s7:St h0 F0 J0 (h7q h bb r fuel) (ah (h.n+1+1+1+1+1+1) [[.ptr (h.n+1+1+1+1+1) 0 0]]::ah (h.n+1+1+1+1+1) [[.ptr bb 0 0,.nils,.int .i64 fuel]]::dv h.n 0 0 zR3 fuel r [cJ bb gb wb ms S.kept,aM gb S.G,aY wb S.cells S.log]):=yb s1
 have s8:=s7.push [ct (xV p f v) r2 .nils .nils .nils]
 have s9:=s8.set 2 rfl [[.ptr bb 0 0,.msl (fbq h) 0 1 tFr,.int .i64 fuel]]
 have s10:=s9.front 2 rfl
 have s11:St h0 F0 J0 (h8q h bb p f v r r2 fuel) (dN (mb5 h) bb (fbq h) (S.left:Int) [] (xV p f v)::([ah (h.n+1+1+1+1+1+1) [[.ptr (mb5 h) 0 0]],ah (h.n+1+1+1+1) [[.int .i64 0]],ah (h.n+1+1+1) [[.int .i64 0]],ah (h.n+1+1) [zR3],ah (h.n+1) [[.int .i64 fuel]],ah h.n [r]]++[cJ bb gb wb ms S.kept,aM gb S.G,aY wb S.cells S.log])):=
  s10.imp fun _ _ _ x=>Hf (top:=xV p f v) hv2 (.inl ⟨rfl,rfl⟩) rfl rfl (by rw[hf];exact x)
 exact s11.imp fun _ _ _=>St.perm List.perm_middle.symm
theorem CL (hv:VaA v r) (hvs:v.size≤100000) (x:(bh [cJ bb gb wb ms S.kept,aM gb S.G,aY wb S.cells S.log]).A h F J) (h4:ms.length=4) (hg:lh ms) (hm:ie ms) (hS:S.Good) (hlog:S.log.length≤900000) (hr:¬ (fuel<0∨2000<fuel∨p<0∨4≤p)) (hn:¬ ((ms.getD p.toNat none).isNone∨f<0∨((bW ms p).length:Int)≤f)) (hc:v.code=0):
  Ai F J bb gb wb ms S h (mF bb p f r fuel) (match ofD ms fuel.toNat p (df ms p f) v [] 1 {S with left:=fuel.toNat}with
  | (S',w,c)=>({S' with left:=S.left},if c=0 then w else aD,fuel - (S'.left:Int),c)):=by
 have s1:St h F J (h5q h r fuel) (dv h.n 0 0 zR3 fuel r [cJ bb gb wb ms S.kept,aM gb S.G,aY wb S.cells S.log]):=l6 (St.start x)
 have rS:=D4 (p:=p) (f:=f) s1 h4 hS hr hn
 have rC:=AX (bb:=bb) (p:=p) (f:=f) s1 hv
 rw[if_pos hc]at rC
 have r1:=Ia (bb:=bb) (p:=p) (f:=f) s1
 obtain⟨r2,hv2,r2e⟩:=Hd (bb:=bb) (p:=p) (f:=f) s1 hv hvs
 have hfl:((fuel.toNat:Nat):Int)=fuel:=Int.toNat_of_nonneg (by omega)
 have s8:St h F J (h8q h bb p f v r r2 fuel) (six h.n (mb5 h) 0 0 zR3 fuel r (L4 h bb gb wb ms {S with left:=fuel.toNat} p f v)):=Dt (S:={S with left:=fuel.toNat}) s1 hv2 hfl
 have p1:=Iq (bb:=bb) (p:=p) (f:=f) (fuel:=fuel) (h:=h) hv
 have p2:=p1.next (nv:=18) pok oJ (bG ko) vC oM rS
 have p3:=p2.next (nv:=18) pok BI (bG ko) EZ Ad rC
 have p4:=p3.next (nv:=18) pok Hn (bG ko) Ka HT r1
 have p5:=p4.next (nv:=18) pok HQ (bG ko) J9 IB r2e
 have hQ:∀ q,Ao (mF bb p f r fuel) h (ap kX 18 [.ss pU,.halt []] (Vv bb h.n p f r fuel .junk .junk .junk) [] (h8q h bb p f v r r2 fuel))=some q→Cr (mF bb p f r fuel) h=some q:=fun q hq=>by
  unfold Cr
  rw[my hv]
  simp only[vr]
  rw[rS]
  simp only
  rw[rC]
  simp only
  rw[r1]
  simp only
  rw[r2e]
  simp only
  exact hq
 have hS0:({S with left:=fuel.toNat}:StD).Good:=⟨hS.wf,hS.cells,hS.kept,hS.keptV⟩
 have hp0:0≤p:=by omega
 have hth:(ms.getD p.toNat none).isSome=true:=by
  cases hm:ms.getD p.toNat none with
  | none=>rw[hm]at hn;exact absurd (.inl rfl) hn
  | some l=>rfl
 have hf0:0≤f:=by
  rcases Int.lt_or_le f 0 with h | h
  ·exact absurd (.inr (.inl h)) hn
  ·exact h
 have hf1:f.toNat<(bW ms p).length:=by
  rcases Int.lt_or_le f ((bW ms p).length:Int)with h | h
  ·omega
  ·exact absurd (.inr (.inr h)) hn
 have runs:=IF hg (p:=p) (f:=f) (v:=v) (N:=fuel.toNat) hS0 (by unfold StD.mu;simp only;omega) (by simp only;omega) hc hp0 hth hf0 hf1 (Nat.le_refl _)
 have hox:=gu ms fuel.toNat p (df ms p f) v [] 1 _ hS0 hc (by simp)
 have hle:=jp ms fuel.toNat p (df ms p f) v [] 1 {S with left:=fuel.toNat}
 generalize ofD ms fuel.toNat p (df ms p f) v [] 1 {S with left:=fuel.toNat}=qq at runs hox hle ⊢
 obtain⟨S',w,c⟩:=qq
 simp only at runs hox hle ⊢
 have hl:∀ V h',ap kX 18 [.ss pU,.halt []] V [] h'=ap kX 18 [.lp gZ,.ss [],.blk 1,.ss [],.halt []] V [] h':=fun V h'=>by
  unfold pU
  rw[uI,zV]
 rw[hl]at hQ
 have hcf:∃ fnC,(Tryz.prog).funcs[(fRc:Nat)]? =some fnC∧(fnC.body.isNone=false∧(fnC.name== "runtime.NumGoroutine")=false):=⟨_,FW,by kernel_rfl,by kernel_rfl⟩
 have ne:∀ {a b:Nat},a<b→¬ (b=a):=fun h e=>by omega
 by_cases hz:c=0
 ·subst hz
  rw[if_neg (by simp)]at runs
  obtain⟨e,V',h3,e3,⟨x1,y1,z1,rfl⟩,rfl,fb',r',hv',s9⟩:=xE (c:=⟨mb5 h,bb,gb,wb,ms⟩) (L:=L4 h bb gb wb ms {S with left:=fuel.toNat} p f v) (b:=h.n) (p:=p) (f:=f) (r:=r) (fuel:=fuel) (show 3<4 by decide) h4 hm (by omega) runs ⟨by omega,by have:=(eQ (hox.1.val rfl)).1;simp only at this;omega⟩ ⟨fbq h,{S with left:=fuel.toNat},[],xV p f v⟩ _ .junk .junk .junk rfl s8
  have hres:=uY (V:=Vv bb h.n p f r fuel x1 y1 z1) rfl rfl rfl (s9.cell 3 rfl).1 hv'.len3.1 (s9.cell 2 rfl).1 (s9.cell 1 rfl).1
  refine⟨_,hQ _ ?_,wW (nv:=18) (caps:=[9,14,10,11,12]) (js:=[6,11,7,8,9]) pok p5 sm hcf (by decide) rfl (by decide) EB (bG ko) Gv Af ((hl _ _).trans e3) I0 (.ret fun m w ps hw hps=>zG hw hps) pt hres,r',h3,rfl,hv',?_⟩
  ·rw[e3]
   simp only[Ao,x8]
   rw[hres]
   rfl
  ·exact s9.drop.drop.drop.drop.drop.drop.drop
 ·rw[if_pos hz]at runs
  obtain⟨e,V',h3,e3,⟨x1,y1,z1,rfl⟩,rfl,n',hn',s9⟩:=xE (c:=⟨mb5 h,bb,gb,wb,ms⟩) (L:=L4 h bb gb wb ms {S with left:=fuel.toNat} p f v) (b:=h.n) (p:=p) (f:=f) (r:=r) (fuel:=fuel) (show 3<4 by decide) h4 hm (by omega) runs (show S'.left≤2000 by omega) ⟨fbq h,{S with left:=fuel.toNat},[],xV p f v⟩ _ .junk .junk .junk rfl s8
  subst hn'
  have s9:St h F J h3 (six h.n (mb5 h) 0 0 zR3 fuel r [dN (mb5 h) bb n'.fb (n'.S.left:Int) n'.below n'.top,cJ bb gb wb ms n'.S.kept,aM gb n'.S.G,aY wb n'.S.cells n'.S.log]):=s9
  have k0:=(s9.cell 0 rfl).1
  have k1:=(s9.cell 1 rfl).1
  have k2:=(s9.cell 2 rfl).1
  have k3:=(s9.cell 3 rfl).1
  have k4:=(s9.cell 4 rfl).1
  obtain⟨ar,sv,nv,g,mv⟩:=cQ s9 6 rfl
  have s10:St h F J _ (six h.n (mb5 h) 0 0 zR3 fuel r _):=s9.set 3 rfl [zR3]
  have s11:St h F J _ (six h.n (mb5 h) 0 (fuel - (n'.S.left:Int)) zR3 fuel r _):=s10.set 2 rfl [[.int .i64 (fuel - (n'.S.left:Int))]]
  have s12:St h F J _ (six h.n (mb5 h) c (fuel - (n'.S.left:Int)) zR3 fuel r [dN (mb5 h) bb n'.fb (n'.S.left:Int) n'.below n'.top,cJ bb gb wb ms n'.S.kept,aM gb n'.S.G,aY wb n'.S.cells n'.S.log]):=s11.set 1 rfl [[.int .i64 c]]
  have hres:=uY (V:=Vv bb h.n p f r fuel x1 y1 z1) rfl rfl rfl (s12.cell 3 rfl).1 rfl (s12.cell 2 rfl).1 (s12.cell 1 rfl).1
  refine⟨_,hQ _ ?_,wW (nv:=18) (caps:=[9,14,10,11,12]) (js:=[6,11,7,8,9]) pok p5 sm hcf (by decide) rfl (by decide) EB (bG ko) Gv Af ((hl _ _).trans e3) I0 (.panic _ fun m w ps u hw hps hu=>Cq hw hps hu k4 k0 mv.m k3 rfl k2 k1 (ne (by omega)) (ne (by omega)) (ne (by omega)) (w64 (by omega) (by omega))) pt hres,zR3,((h3.set (h.n+1+1) (some [zR3])).set (h.n+1+1+1) (some [[.int .i64 (fuel - (n'.S.left:Int))]])).set (h.n+1+1+1+1) (some [[.int .i64 c]]),rfl,?_,?_⟩
  ·rw[e3]
   simp only[Ao,mv.m,x8]
   rw[hres]
   rfl
  ·simp only
   rw[if_neg hz];exact dM
  ·exact s12.drop.drop.drop.drop.drop.drop.drop
theorem vV (hv:VaA v r) (hvs:v.size≤100000) (x:(bh [cJ bb gb wb ms S.kept,aM gb S.G,aY wb S.cells S.log]).A h F J) (h4:ms.length=4) (hg:lh ms) (hm:ie ms) (hS:S.Good) (hlog:S.log.length≤900000):Ai F J bb gb wb ms S h (mF bb p f r fuel) (cG ms p f v fuel S):=by
 unfold cG
 by_cases h1:fuel<0∨2000<fuel∨p<0∨4≤p
 ·rw[if_pos h1]
  exact x7 hv x h1
 rw[if_neg h1]
 by_cases h2:(ms.getD p.toNat none).isNone∨f<0∨((bW ms p).length:Int)≤f
 ·rw[if_pos h2]
  exact zU hv x h4 hS h1 h2
 rw[if_neg h2]
 by_cases h3:v.code=0
 ·rw[if_neg (fun e=>e h3)]
  exact CL hv hvs x h4 hg hm hS hlog h1 h2 h3
 ·rw[if_pos h3]
  have s1:St h F J (h5q h r fuel) (dv h.n 0 0 zR3 fuel r [cJ bb gb wb ms S.kept,aM gb S.G,aY wb S.cells S.log]):=l6 (St.start x)
  have rS:=D4 (p:=p) (f:=f) s1 h4 hS h1 h2
  have rC:=AX (bb:=bb) (p:=p) (f:=f) s1 hv
  rw[if_neg h3]at rC
  have p1:=Iq (bb:=bb) (p:=p) (f:=f) (fuel:=fuel) (h:=h) hv
  have p2:=p1.next (nv:=18) pok oJ (bG ko) vC oM rS
  refine⟨_,?_,(p2.next (nv:=18) pok BI (bG ko) EZ Ad rC).ret sm pt (kJ rfl rfl rfl (St.start x) v.code),pw x v.code⟩
  unfold Cr
  rw[my hv]
  simp only[vr]
  rw[rS]
  simp only
  rw[rC]
  simp only[x8]
  rw[kJ rfl rfl rfl (St.start x) v.code]
  rfl
theorem Im (hv:VaA v r) (hvs:v.size≤100000) (x:(bh [cJ bb gb wb ms S.kept,aM gb S.G,aY wb S.cells S.log]).A h F J) (h4:ms.length=4) (hg:lh ms) (hm:ie ms) (hS:S.Good) (hlog:S.log.length≤900000):
  ∃ h',(∃ r',ai Tryz.prog po eu (mF bb p f r fuel) h=some (.inl (.tup [.agg r',.int .i64 (cG ms p f v fuel S).2.2.1,.int .i64 (cG ms p f v fuel S).2.2.2]),h')∧VaA (cG ms p f v fuel S).2.1 r')∧
    Did h F J h' (bh [cJ bb gb wb ms (cG ms p f v fuel S).1.kept,aM gb (cG ms p f v fuel S).1.G,aY wb (cG ms p f v fuel S).1.cells (cG ms p f v fuel S).1.log]):=by
 obtain⟨q,hq,ac,_⟩:=vV (p:=p) (f:=f) (fuel:=fuel) hv hvs x h4 hg hm hS hlog
 have good:uR (mF bb p f r fuel) h q:=by
  intro F2 J2 bb2 gb2 wb2 ms2 S2 p2 f2 fuel2 v2 r2 ea hv2 hvs2 h42 hg2 hm2 hS2 hl2 x2
  injection ea with e1 ea
  injection ea with e2 ea
  injection ea with e3 ea
  injection ea with e4 ea
  injection ea with e5 ea
  injection e1 with e1
  injection e2 with _ e2
  injection e3 with _ e3
  injection e4 with e4
  injection e5 with _ e5
  subst e1 e2 e3 e4 e5
  obtain⟨q2,hq2,_,r',h',p1,p2,p3⟩:=vV (p:=p) (f:=f) (fuel:=fuel) hv2 hvs2 x2 h42 hg2 hm2 hS2 hl2
  rw[hq]at hq2
  injection hq2 with hq2
  exact⟨r',h',hq2.trans p1,p2,p3⟩
 have H:∃ q,AC Tryz.prog eu (mF bb p f r fuel) h q∧uR (mF bb p f r fuel) h q:=⟨q,ac,good⟩
 obtain⟨r',h',e,hv',d⟩:=(Classical.choose_spec H).2 F J bb gb wb ms S p f fuel v r rfl hv hvs h4 hg hm hS hlog x
 refine⟨h',⟨r',?_,hv'⟩,d⟩
 unfold ai
 rw[Id]
 show qp _ _=_
 unfold qp
 rw[dif_pos H,e]
end
section
variable {h h' h0:AH} {F J F0 J0:Nat→Prop} {L A B:List Asn} {X Y Z:Asn}
theorem FB (y:Y.A h F J):(dx (uu True) Y).A h F J:=⟨fun _=>False,fun _=>False,F,J,⟨trivial,fun _ h=>h,fun _ h=>h⟩,y,fun k=>by simp,fun j=>by simp,fun _ h=>h.elim,fun _ h=>h.elim⟩
theorem E5 (x:(dx (uu True) Y).A h F J):Y.A h F J:=by
 obtain⟨F1,J1,F2,J2,⟨_,a,b⟩,y,hF,hJ,_,_⟩:=x
 have e1:F=F2:=by funext k;exact propext ⟨fun h=>((hF k).1 h).resolve_left (a k),fun h=>(hF k).2 (.inr h)⟩
 have e2:J=J2:=by funext k;exact propext ⟨fun h=>((hJ k).1 h).resolve_left (b k),fun h=>(hJ k).2 (.inr h)⟩
 rw[e1,e2];exact y
theorem bh.app:∀ {A B:List Asn} {h:AH} {F J:Nat→Prop},(bh (A++B)).A h F J↔(dx (bh A) (bh B)).A h F J
 | [],B,h,F,J=>⟨FB,E5⟩
 | X::A,B,h,F,J=>⟨fun x=>ny (eC (fun _ _ _ y=>y) (fun _ _ _ y=>bh.app.1 y) x),fun x=>eC (fun _ _ _ y=>y) (fun _ _ _ y=>bh.app.2 y) (g9 x)⟩
theorem St.callL {M M':List Asn} {R:AH→Prop} (s:St h0 F0 J0 h (A++M++B)) (c:∀ F J,(bh M).A h F J→∃ h',R h'∧Did h F J h' (bh M')):∃ h',R h'∧St h0 F0 J0 h' (A++M'++B):=by
 have p:∀ M:List Asn,List.Perm (A++M++B) (M++(A++B)):=fun M=>by
  have:=(List.perm_append_comm (l₁:=A) (l₂:=M)).append_right B
  simpa[List.append_assoc]using this
 obtain⟨F,J,x,ch,a,b⟩:=s
 have x2:=bh.app.1 (St.perm (p M) x)
 obtain⟨h',r,d⟩:=sb x2 c
 exact⟨h',r,Did.chain ch a b (d.imp fun _ _ _ y=>St.perm (p M').symm (bh.app.2 y))⟩
structure BxC where
 (bb gb wb:Nat)
 ms:aI
structure AtB (c:BxC) (L:List Asn) (i:Nat) (S:StD):Prop where
 b:L[i]? =some (cJ c.bb c.gb c.wb c.ms S.kept)
 g:L[i+1]? =some (aM c.gb S.G)
 w:L[i+2]? =some (aY c.wb S.cells S.log)
def GI (c:BxC) (L:List Asn) (i:Nat) (S:StD):List Asn:=((L.set i (cJ c.bb c.gb c.wb c.ms S.kept)).set (i+1) (aM c.gb S.G)).set (i+2) (aY c.wb S.cells S.log)
theorem Ec {c:BxC} {i j:Nat} {S:StD}:(GI c L i S)[j]? =if j<L.length then(if j=i+2 then some (aY c.wb S.cells S.log)else if j=i+1 then some (aM c.gb S.G)else if j=i then some (cJ c.bb c.gb c.wb c.ms S.kept)else L[j]?)else none:=by
 unfold GI
 by_cases hj:j<L.length
 ·rw[if_pos hj]
  simp only[List.getElem?_set,List.length_set]
  by_cases h2:j=i+2
  ·subst h2;simp[hj]
  ·by_cases h1:j=i+1
   ·subst h1;simp[hj]
   ·by_cases h0:j=i
    ·subst h0;simp[hj]
    ·simp[h0,h1,h2,Ne.symm h0,Ne.symm h1,Ne.symm h2]
 ·rw[if_neg hj,List.getElem?_eq_none (by simpa using hj)]
theorem AtB.len {c:BxC} {i:Nat} {S:StD} (a:AtB c L i S):i+2<L.length:=(List.getElem?_eq_some_iff.1 a.w).1
theorem AtB.put {c:BxC} {i:Nat} {S:StD} (a:AtB c L i S) (S':StD):AtB c (GI c L i S') i S':=by
 have:=a.len
 refine⟨?_,?_,?_⟩<;>rw[Ec]
 ·rw[if_pos (by omega),if_neg (by omega),if_neg (by omega),if_pos rfl]
 ·rw[if_pos (by omega),if_neg (by omega),if_pos rfl]
 ·rw[if_pos (by omega),if_pos rfl]
theorem AtB.cons {c:BxC} {i:Nat} {S:StD} (a:AtB c L i S) (X:Asn):AtB c (X::L) (i+1) S:=⟨a.b,a.g,a.w⟩
theorem E1:∀ {L:List Asn} {i:Nat},L[i]? =some X→L[i+1]? =some Y→L[i+2]? =some Z→∃ A B,L=A++[X,Y,Z]++B∧A.length=i
 | [],i,h,_,_=>by simp at h
 | W::L,0,h1,h2,h3=>by
   match L,h2,h3 with
   | Y'::Z'::B,h2,h3=>
     simp only[List.getElem?_cons_zero,List.getElem?_cons_succ,Option.some.injEq,Nat.zero_add]at h1 h2 h3
     subst h1 h2 h3
     exact⟨[],B,rfl,rfl⟩
 | W::L,i+1,h1,h2,h3=>by
   obtain⟨A,B,rfl,hl⟩:=E1 (L:=L) (i:=i) h1 h2 h3
   exact⟨W::A,B,rfl,by simp[hl]⟩
theorem MT {A B:List Asn} {X Y Z X' Y' Z':Asn}:(((A++[X,Y,Z]++B).set A.length X').set (A.length+1) Y').set (A.length+2) Z'=A++[X',Y',Z']++B:=by
 induction A with
 | nil=>rfl
 | cons W A ih=>exact congrArg (W::·) ih
structure OkB (c:BxC) (S:StD):Prop where
 ms:c.ms.length=4
 g:lh c.ms
 z:ie c.ms
 st:S.Good
 log:S.log.length≤900000
theorem tZ (s:St h0 F0 J0 h L) {c:BxC} {i:Nat} {S:StD} (a:AtB c L i S) (o:OkB c S) {v:VD} {r:List AV} (hv:VaA v r) (hvs:v.size≤100000) (p f fuel:Int):
  ∃ h' r',ai Tryz.prog po eu (mF c.bb p f r fuel) h=some (.inl (.tup [.agg r',.int .i64 (cG c.ms p f v fuel S).2.2.1,.int .i64 (cG c.ms p f v fuel S).2.2.2]),h')∧VaA (cG c.ms p f v fuel S).2.1 r'∧St h0 F0 J0 h' (GI c L i (cG c.ms p f v fuel S).1):=by
 obtain⟨A,B,e,hl⟩:=E1 a.b a.g a.w
 subst e
 subst hl
 obtain⟨h',⟨r',e1,e2⟩,s'⟩:=s.callL (M':=[cJ c.bb c.gb c.wb c.ms (cG c.ms p f v fuel S).1.kept,aM c.gb (cG c.ms p f v fuel S).1.G,aY c.wb (cG c.ms p f v fuel S).1.cells (cG c.ms p f v fuel S).1.log]) fun F J x=>Im (p:=p) (f:=f) (fuel:=fuel) hv hvs x o.ms o.g o.z o.st o.log
 refine⟨h',r',e1,e2,?_⟩
 unfold GI
 rw[MT]
 exact s'
end
def dT (x:fx):List AV:=[.int .i64 x.d,.int .i64 x.a,.int .i64 x.b,.int .i64 x.c,.int .i64 x.e]
theorem qE:(∀ x,(dT x).length=5)∧(∀ x,(dT x).all AV.one=true)∧(∀ x:fx,(dT x)[0]? =some (.int .i64 x.d))∧(∀ x:fx,(dT x)[1]? =some (.int .i64 x.a))∧(∀ x:fx,(dT x)[2]? =some (.int .i64 x.b))∧(∀ x:fx,(dT x)[3]? =some (.int .i64 x.c))∧(∀ x:fx,(dT x)[4]? =some (.int .i64 x.e)):=
 ⟨fun _=>rfl,fun _=>rfl,fun _=>rfl,fun _=>rfl,fun _=>rfl,fun _=>rfl,fun _=>rfl⟩
section
variable {h:AH} {b b2:Nat} {G H:ae}
end
theorem nS:∀ {ms:aI} {kept:List VD} {ks:List (List AV)} {p:Nat} {M:List XD} {v:VD} {r:List AV},VaL kept ks→ms.length=kept.length→p<ms.length→VaA v r→
  ∃ ks',VaL (kept.set p v) ks'∧stA (dc ms ks) (p*5) (.bool true::cI M::r)=dc (ms.set p (some M)) ks'
 | [],kept,ks,p,_,_,_,_,_,hp,_=>by simp at hp
 | m::ms,[],ks,p,_,_,_,_,hl,_,_=>by simp at hl
 | m::ms,k::kept,ks,p,M,v,r,h,hl,hp,hv=>by
   obtain⟨r0,rs,rfl,h1,h2⟩:=h
   have h3:=h1.len3.1
   have h4:=hv.len3.1
   match r0,h3,r,h4 with
   | [a,b,c],_,[x,y,z],_=>
     cases p with
     | zero=>exact⟨[x,y,z]::rs,⟨_,_,rfl,hv,h2⟩,rfl⟩
     | succ p=>
       obtain⟨ks',q1,q2⟩:=nS (ms:=ms) (p:=p) (M:=M) h2 (by simpa using hl) (by simpa using hp) hv
       refine⟨[a,b,c]::ks',⟨_,_,rfl,h1,q1⟩,?_⟩
       have:(p+1)*5=p*5+5:=by omega
       rw[this]
       unfold stA at q2 ⊢
       simp only[dc,List.set_cons_succ,List.cons_append,List.nil_append,List.take_succ_cons,List.length_cons,List.length_nil]
       rw[show p*5+5+(0+1+1+1+1+1)=p*5+5+5 by omega]
       simp only[List.drop_succ_cons]
       rw[←q2]
       simp
section
variable {h h' h0:AH} {F J F0 J0:Nat→Prop} {L:List Asn}
theorem wP {b gb wb:Nat} {ms:aI} {kept:List VD} (s:St h0 F0 J0 h L) (i:Nat) (hi:L[i]? =some (cJ b gb wb ms kept)) (hl:ms.length=kept.length) {p:Nat} (hp:p<ms.length) {M:List XD} {v:VD} {r:List AV} (hv:VaA v r):
  ∃ h',aE 5 h (.ptr b 0 (2+p*5)) (.agg (.bool true::cI M::r))=some h'∧St h0 F0 J0 h' (L.set i (cJ b gb wb (ms.set p (some M)) (kept.set p v))):=by
 refine s.call (R:=fun h'=>aE 5 h (.ptr b 0 (2+p*5)) (.agg (.bool true::cI M::r))=some h') i hi fun F J x=> ?_
 obtain⟨ks,hk,a1,a2,a3,a4⟩:=x
 obtain⟨ks',q1,q2⟩:=nS (M:=M) hk hl hp hv
 have hlen:=ii hk hl
 have ho:(AV.bool true::cI M::r).all AV.one=true:=by
  simp only[List.all_cons,(dh M).2.2,hv.len3.2,Bool.and_true];rfl
 refine⟨_,bo (es:=[i6 gb wb ms ks]) (e:=i6 gb wb ms ks) a4 rfl ho (by simp[AV.cells,hv.len3.1]) (by simp only[i6,List.length_cons,hlen];omega),F,J,⟨ks',q1,a1,a2,a3,?_⟩,⟨Nat.le_refl _,Nat.le_refl _,fun k _ hk'=>aV fun e=>hk' ((a1 k).2 e),fun _ _ _=>rfl⟩,fun _=> .inl,fun _=> .inl⟩
 rw[bi,List.set_cons_zero]
 have:stA (i6 gb wb ms ks) (2+p*5) (.bool true::cI M::r)=i6 gb wb (ms.set p (some M)) ks':=by
  unfold i6
  rw[←q2]
  unfold stA
  rw[show 2+p*5=p*5+1+1 by omega]
  simp only[List.take_succ_cons,List.cons_append]
  rw[show p*5+1+1+(AV.bool true::cI M::r).length=p*5+(AV.bool true::cI M::r).length+1+1 by omega]
  simp only[List.drop_succ_cons]
 simp only[AV.cells,this]
abbrev ms0:aI:=[none,none,none,none]
abbrev kj:List VD:=[aD,aD,aD,aD]
abbrev eK:List Int:=[0,0,0,0,0,0,0,0,0,0,0,0]
abbrev G0:ae:=⟨[],[]⟩
def yO (l:Nat):StD:=⟨G0,eK,[],kj,l⟩
theorem C0 (l:Nat):(yO l).Good:=⟨ue,rfl,rfl,fun v hv=>by
 have:v=aD:=by simpa[yO]using hv
 rw[this];exact fQ⟩
theorem sx:(aM h.n G0).A (h.push [[.nils,.nils]]) (fun k=>k=h.n) (fun _=>False):=HO h
theorem Cf {b:Nat} (hb:b=h.n):(aY b eK []).A (h.push [eK.map (AV.int .i64)++[AV.nils]]) (fun k=>k=b) (fun _=>False):=by
 subst hb
 exact⟨.nils,fun k=>k=h.n,fun _=>False,fun _=>False,fun _=>False,⟨fun _=>Iff.rfl,fun _ h=>h,Nat.lt_succ_self _,aT⟩,.inl ⟨⟨rfl,rfl⟩,fun _ h=>h,fun _ h=>h⟩,fun k=>by simp,fun j=>by simp,fun _ _ h=>h,fun _ h=>h.elim⟩
theorem Hu {b gb wb:Nat} (hb:b=h.n):(cJ b gb wb ms0 kj).A (h.push [i6 gb wb ms0 [zR3,zR3,zR3,zR3]]) (fun k=>k=b) (fun _=>False):=by
 subst hb
 exact⟨[zR3,zR3,zR3,zR3],⟨_,_,rfl,dM,_,_,rfl,dM,_,_,rfl,dM,_,_,rfl,dM,rfl⟩,fun _=>Iff.rfl,fun _ h=>h,Nat.lt_succ_self _,aT⟩
theorem xv (s:St h0 F0 J0 h L):∃ h' bb gb wb,ai Tryz.prog po 39 [] h=some (.inl (.ptr bb 0 0),h')∧St h0 F0 J0 h' (cJ bb gb wb ms0 kj::aM gb G0::aY wb eK []::L):=by
 have s1:St h0 F0 J0 _ (aM h.n G0::L):=s.add (ab.push h _) sx (fun k hk=>Nat.le_of_eq hk.symm) (fun _ h=>h.elim)
 have s2:St h0 F0 J0 _ (aY (h.n+1) eK []::aM h.n G0::L):=s1.add (X:=aY (h.n+1) eK []) (h':=(h.push [[.nils,.nils]]).push [eK.map (AV.int .i64)++[AV.nils]]) (F1:=fun k=>k=h.n+1) (J1:=fun _=>False) (ab.push _ _) (Cf (h:=h.push [[.nils,.nils]]) rfl) (fun k hk=>Nat.le_of_eq hk.symm) (fun _ h=>h.elim)
 have s3:St h0 F0 J0 _ (cJ (h.n+1+1) h.n (h.n+1) ms0 kj::aY (h.n+1) eK []::aM h.n G0::L):=s2.add (X:=cJ (h.n+1+1) h.n (h.n+1) ms0 kj) (h':=((h.push [[.nils,.nils]]).push [eK.map (AV.int .i64)++[AV.nils]]).push [i6 h.n (h.n+1) ms0 [zR3,zR3,zR3,zR3]]) (F1:=fun k=>k=h.n+1+1) (J1:=fun _=>False) (ab.push _ _) (Hu (h:=(h.push [[.nils,.nils]]).push [eK.map (AV.int .i64)++[AV.nils]]) rfl) (fun k hk=>Nat.le_of_eq hk.symm) (fun _ h=>h.elim)
 have s4:=s3.imp fun _ _ _ x=>St.perm (List.Perm.cons _ (List.Perm.swap _ _ _)) x
 obtain⟨h1,e1,rfl⟩:=My (h:=h)
 have e2:ai Tryz.prog po 77 [] (h.push [[.nils,.nils]])=some (.inl (.ptr (h.n+1) 0 0),(h.push [[.nils,.nils]]).push [eK.map (AV.int .i64)++[AV.nils]]):=by
  refine ag He rfl ?_;unfold AO
  simp only[sim,af,reduceAdd,reduceSub,replicate,reduceCtorEq,reduceLeDiff,reduceLT,aa]
 refine⟨_,h.n+1+1,h.n,h.n+1,?_,s4⟩
 refine ag GC rfl ?_;unfold xF
 simp only[sim,af,reduceAdd,reduceSub,replicate,reduceCtorEq,reduceLeDiff,reduceLT,aa,au,e1,e2]
 rfl
variable {gb nb i j:Nat} {G H:ae}
theorem px {x:fx} {G' H':ae} {f1 f2:FuncId} {a1 a2:List AV} {r1 r2:AV ⊕ AV} (s:St h0 F0 J0 h L) (hi:L[i]? =some (aM gb G)) (hj:L[j]? =some (aM nb H)) (hij:i≠j)
  (c1:∀ F J,IsG (h.push [dT x]) F J gb G→∃ h',ai Tryz.prog po f1 a1 (h.push [dT x])=some (r1,h')∧bU (h.push [dT x]) F J gb h' G') (c2:∀ h1 F J,IsG h1 F J nb H→∃ h',ai Tryz.prog po f2 a2 h1=some (r2,h')∧bU h1 F J nb h' H'):
  ∃ h1 h2,ai Tryz.prog po f1 a1 (h.push [dT x])=some (r1,h1)∧h1.cell h.n=some [dT x]∧ai Tryz.prog po f2 a2 h1=some (r2,h2)∧St h0 F0 J0 h2 ((L.set i (aM gb G')).set j (aM nb H')):=by
 have s1:=s.push [dT x]
 obtain⟨h1,e1,s2⟩:=s1.call (R:=fun h'=>ai Tryz.prog po f1 a1 (h.push [dT x])=some (r1,h')) (Y:=aM gb G') (i+1) hi c1
 have s2:St h0 F0 J0 h1 (ah h.n [dT x]::L.set i (aM gb G')):=s2
 obtain⟨h2,e2,s3⟩:=s2.call (R:=fun h'=>ai Tryz.prog po f2 a2 h1=some (r2,h')) (Y:=aM nb H') (j+1) (by rw[List.getElem?_cons_succ,List.getElem?_set_ne hij];exact hj) (c2 h1)
 exact⟨h1,h2,e1,(s2.cell 0 rfl).1,e2,s3.drop⟩
theorem nO {X:Asn} (hi:L[i]? =some X):L.set i X=L:=by
 have hl:i<L.length:=(List.getElem?_eq_some_iff.1 hi).1
 have:X=L[i]:=by have:=(List.getElem?_eq_some_iff.1 hi).2;exact this.symm
 rw[this];exact List.set_getElem_self hl
set_option maxHeartbeats 1000000 in
theorem Fj (s:St h0 F0 J0 h L) (hi:L[i]? =some (aM gb G)) (hj:L[j]? =some (aM nb H)) (hij:i≠j) (hG:G.Wf) (hH:H.Wf) (x:fx):
  ∃ h' v,ai Tryz.prog po 45 [.ptr gb 0 0,.ptr nb 0 0,.agg (dT x)] h=some (.inl (.bool v),h')∧St h0 F0 J0 h' ((L.set i (aM gb (G.step x).1)).set j (aM nb (H.step x).1)):=by
 cases h0':decide (x.d=0)
 ·cases h1:decide (x.d=1)
  ·cases h2:decide (x.d=2)
   ·cases h3:decide (x.d=3)
    ·cases h4:decide (x.d=4)
     ·have e:∀ K:ae,K.step x=(K,0,0):=fun K=>by simp at h0' h1 h2 h3 h4;simp[ae.step,h0',h1,h2,h3,h4]
      rw[e,e,nO hi,nO hj]
      refine⟨_,true,?_,(s.push [dT x]).drop⟩
      refine ag dZ rfl ?_;unfold dp
      simp only[sim,af,reduceAdd,reduceSub,replicate,reduceCtorEq,reduceLeDiff,reduceLT,aa,qE,h0',h1,h2,h3,h4]
     ·have e:∀ K:ae,K.step x=K.derive x.a x.b x.c:=fun K=>by simp[ae.step,(by simpa using h4:x.d=4)]
      rw[e,e]
      obtain⟨ha,hb,a1,cx,b1,s'⟩:=px (x:=x) s hi hj hij (fun F J g=>qk g hG x.a x.b x.c) (fun h1 F J g=>DC g hH x.a x.b x.c)
      refine⟨_,decide ((G.derive x.a x.b x.c).2.1=(H.derive x.a x.b x.c).2.1) && decide ((G.derive x.a x.b x.c).2.2=(H.derive x.a x.b x.c).2.2),?_,s'⟩
      refine ag dZ rfl ?_;unfold dp
      cases hq:decide ((G.derive x.a x.b x.c).2.1=(H.derive x.a x.b x.c).2.1)<;>simp only[sim,af,reduceAdd,reduceSub,replicate,reduceCtorEq,reduceLeDiff,reduceLT,aa,qE,h0',h1,h2,h3,h4,a1,cx,b1,hq]
    ·have e:∀ K:ae,K.step x=K.funcC x.a x.e x.b x.c:=fun K=>by simp[ae.step,(by simpa using h3:x.d=3)]
     rw[e,e]
     obtain⟨ha,hb,a1,cx,b1,s'⟩:=px (x:=x) s hi hj hij (fun F J g=>KI g hG x.a x.e x.b x.c) (fun h1 F J g=>Kp g hH x.a x.e x.b x.c)
     refine⟨_,decide ((G.funcC x.a x.e x.b x.c).2.1=(H.funcC x.a x.e x.b x.c).2.1) && decide ((G.funcC x.a x.e x.b x.c).2.2=(H.funcC x.a x.e x.b x.c).2.2),?_,s'⟩
     refine ag dZ rfl ?_;unfold dp
     cases hq:decide ((G.funcC x.a x.e x.b x.c).2.1=(H.funcC x.a x.e x.b x.c).2.1)<;>simp only[sim,af,reduceAdd,reduceSub,replicate,reduceCtorEq,reduceLeDiff,reduceLT,aa,qE,h0',h1,h2,h3,a1,cx,b1,hq]
   ·have e:∀ K:ae,K.step x=K.cellC x.a x.b x.c:=fun K=>by simp[ae.step,(by simpa using h2:x.d=2)]
    rw[e,e]
    obtain⟨ha,hb,a1,cx,b1,s'⟩:=px (x:=x) s hi hj hij (fun F J g=>Ln g hG x.a x.b x.c) (fun h1 F J g=>Lf g hH x.a x.b x.c)
    refine⟨_,decide ((G.cellC x.a x.b x.c).2.1=(H.cellC x.a x.b x.c).2.1) && decide ((G.cellC x.a x.b x.c).2.2=(H.cellC x.a x.b x.c).2.2),?_,s'⟩
    refine ag dZ rfl ?_;unfold dp
    cases hq:decide ((G.cellC x.a x.b x.c).2.1=(H.cellC x.a x.b x.c).2.1)<;>simp only[sim,af,reduceAdd,reduceSub,replicate,reduceCtorEq,reduceLeDiff,reduceLT,aa,qE,h0',h1,h2,a1,cx,b1,hq]
  ·have e:∀ K:ae,K.step x=((K.cut x.a).1,0,(K.cut x.a).2):=fun K=>by simp[ae.step,(by simpa using h1:x.d=1)]
   rw[e,e]
   obtain⟨ha,hb,a1,cx,b1,s'⟩:=px (x:=x) s hi hj hij (fun F J g=>I5 g x.a) (fun h1 F J g=>Mt g x.a)
   refine⟨_,decide ((G.cut x.a).2=(H.cut x.a).2),?_,s'⟩
   refine ag dZ rfl ?_;unfold dp
   simp only[sim,af,reduceAdd,reduceSub,replicate,reduceCtorEq,reduceLeDiff,reduceLT,aa,qE,h0',h1,a1,cx,b1]
 ·have e:∀ K:ae,K.step x=K.gate:=fun K=>by simp[ae.step,(by simpa using h0':x.d=0)]
  rw[e,e]
  obtain⟨ha,hb,a1,cx,b1,s'⟩:=px (x:=x) s hi hj hij (fun F J g=>GA g hG) (fun h1 F J g=>KW g hH)
  refine⟨_,decide (G.gate.2.1=H.gate.2.1) && decide (G.gate.2.2=H.gate.2.2),?_,s'⟩
  refine ag dZ rfl ?_;unfold dp
  cases hq:decide (G.gate.2.1=H.gate.2.1)<;>simp only[sim,af,reduceAdd,reduceSub,replicate,reduceCtorEq,reduceLeDiff,reduceLT,aa,qE,h0',a1,b1,hq]
end
def mf (hb nb:Nat):Asn:=n9 fun row:List AV=>tv (row.length=22∧row.all AV.one=true) (ah hb [.ptr nb 0 0::row])
theorem Fh {l:List AV} (h:l.all AV.one=true) {n:Nat}:(l.take n).all AV.one=true:=List.all_eq_true.2 fun x hx=>List.all_eq_true.1 h x (List.mem_of_mem_take hx)
theorem DD {l:List AV} (h:l.all AV.one=true) {n:Nat}:(l.drop n).all AV.one=true:=List.all_eq_true.2 fun x hx=>List.all_eq_true.1 h x (List.mem_of_mem_drop hx)
abbrev I7 (b:Nat):List AV:=[.msl b 0 12 tL,.nils,.nilp,.nilp,.nilp,.nilp,.int .i64 0,.int .i64 0,.nils,.int .i64 0,.int .i64 0,.nils,.int .i64 0,.int .i64 0,.nils,.int .i64 0,.int .i64 0,.nils,.nils,.nils,.nils,.nils]
section
variable {h h' h0:AH} {F J F0 J0:Nat→Prop} {L:List Asn}
theorem EE {b nb:Nat} {row:List AV} (hl:row.length=22) (ho:row.all AV.one=true) (s:St h0 F0 J0 h (ah b [.ptr nb 0 0::row]::L)):St h0 F0 J0 h (mf b nb::L):=
 s.upd 0 rfl fun _ _ _ x=>⟨row,⟨hl,ho⟩,x⟩
theorem Gk (s:St h0 F0 J0 h L):∃ h' hb nb,ai Tryz.prog po 25 [] h=some (.inl (.ptr hb 0 0),h')∧St h0 F0 J0 h' (mf hb nb::aM nb G0::L):=by
 have s1:St h0 F0 J0 _ (aM h.n G0::L):=s.add (ab.push h _) sx (fun k hk=>Nat.le_of_eq hk.symm) (fun _ h=>h.elim)
 have s2:=s1.push (replicate 12 [.int .i64 0])
 have s3:St h0 F0 J0 _ (ah (h.n+1+1) [.ptr h.n 0 0::I7 (h.n+1)]::aM h.n G0::L):=s2.drop.push [.ptr h.n 0 0::I7 (h.n+1)]
 refine⟨_,h.n+1+1,h.n,?_,EE rfl rfl s3⟩
 have mk:∀ h1:AH,Ko tL [.int .i64 0] (.int .i64 12) (.int .i64 12) h1=some (.msl h1.n 0 12 tL,h1.push (replicate 12 [.int .i64 0])):=fun h1=>rfl
 refine ag yT rfl ?_;unfold qY
 simp only[sim,af,reduceAdd,reduceSub,replicate,reduceCtorEq,reduceLeDiff,reduceLT,aa,mk]
theorem Fu {hb nb:Nat} (s:St h0 F0 J0 h L) (i:Nat) (hi:L[i]? =some (mf hb nb)):∃ row:List AV,row.length=22∧row.all AV.one=true∧St h0 F0 J0 h (L.set i (ah hb [.ptr nb 0 0::row])):=by
 obtain⟨h',row,⟨rfl,h1,h2⟩,s'⟩:=s.callE (R:=fun q (row:List AV)=>q=h∧row.length=22∧row.all AV.one=true) i hi (Y:=fun row=>ah hb [.ptr nb 0 0::row]) fun F J x=>by
  obtain⟨row,⟨h1,h2⟩,x⟩:=x
  exact⟨h,row,⟨rfl,h1,h2⟩,Did.same x⟩
 exact⟨row,h1,h2,s'⟩
theorem xO {hb nb:Nat} (s:St h0 F0 J0 h L) (i:Nat) (hi:L[i]? =some (mf hb nb)) {off:Nat} {v:AV} (ho1:1≤off) (hv:v.cells.all AV.one=true) (hn:off+v.cells.length≤23):∃ h',aE v.cells.length h (.ptr hb 0 off) v=some h'∧St h0 F0 J0 h' L:=by
 obtain⟨h',e,s'⟩:=s.call (R:=fun h'=>aE v.cells.length h (.ptr hb 0 off) v=some h') i hi (Y:=mf hb nb) fun F J x=>by
  obtain⟨row,⟨h1,h2⟩,a1,a2,a3,a4⟩:=x
  refine⟨_,bo (es:=[.ptr nb 0 0::row]) (e:= .ptr nb 0 0::row) a4 rfl hv rfl (by simp only[List.length_cons,h1];omega),F,J,⟨stA row (off - 1) v.cells,⟨?_,?_⟩,a1,a2,a3,?_⟩,⟨Nat.le_refl _,Nat.le_refl _,fun k _ hk'=>aV fun e=>hk' ((a1 k).2 e),fun _ _ _=>rfl⟩,fun _=> .inl,fun _=> .inl⟩
  ·unfold stA
   simp only[List.length_append,List.length_take,List.length_drop,h1]
   omega
  ·unfold stA
   rw[List.all_append,List.all_append,hv,Fh h2,DD h2]
   rfl
  ·rw[bi,List.set_cons_zero]
   have:stA (AV.ptr nb 0 0::row) off v.cells= .ptr nb 0 0::stA row (off - 1) v.cells:=by
    obtain⟨o,rfl⟩:∃ o,off=o+1:=⟨off - 1,by omega⟩
    unfold stA
    rw[show o+1+v.cells.length=o+v.cells.length+1 by omega]
    simp
   rw[this]
 rw[nO hi]at s'
 exact⟨h',e,s'⟩
theorem tw {hb nb:Nat} (s:St h0 F0 J0 h L) (i:Nat) (hi:L[i]? =some (mf hb nb)) {v:AV} {M:List XD} {p:Nat} (hp:p<4) (m:∀ h,d6 h v M) (hL:M.length≤100000) (hs:∀ x∈M,x.size≤100000):
  ∃ h',ai Tryz.prog po 44 [.ptr hb 0 0,.int .i64 (p:Int),.agg [v]] h=some (.inl (.int .i64 (aL M).1),h')∧St h0 F0 J0 h' L:=by
 have s1:=s.push [[v]]
 have o1:=(m h).one
 have c1:=(s1.cell 0 rfl).1
 have cf:=rX (h:=h.push [[v]]) v M m hL hs
 have s2:St h0 F0 J0 _ (ah (h.n+1) [[.int .i64 (aL M).1,.int .i64 (aL M).2]]::ah h.n [[v]]::L):=s1.push [[.int .i64 (aL M).1,.int .i64 (aL M).2]]
 have c2:=(s2.cell 0 rfl).1
 have c3:=(s2.cell 1 rfl).1
 have d1:decide ((p:Int)<0)=false:=decide_eq_false (by omega)
 have d2:decide (4≤(p:Int))=false:=decide_eq_false (by omega)
 by_cases hz:(aL M).1=0
 ·have d3:decide ((aL M).1=0)=true:=decide_eq_true hz
  obtain⟨r',eo,⟨v2,es2,rfl,hv2,hl2⟩⟩:=rK (h:=(h.push [[v]]).push [[.int .i64 (aL M).1,.int .i64 (aL M).2]]) v M m hL hs
  have ov:=(d6.of (h:=h) hv2 hl2).one
  have s3:St h0 F0 J0 _ (ah (h.n+1+1) [[v2]]::ah (h.n+1) [[.int .i64 (aL M).1,.int .i64 (aL M).2]]::ah h.n [[v]]::L):=s2.push [[v2]]
  obtain⟨h4,e4,s4⟩:=xO s3 (i+1+1+1) hi (off:=3+p) (v:= .ptr (h.n+1+1) 0 0) (by omega) rfl (by simp[AV.cells];omega)
  obtain⟨h5,e5,s5⟩:=xO s4 (i+1+1+1) hi (off:=7+p*3) (v:= .agg zR3) (by omega) rfl (by simp[AV.cells];omega)
  have ix1:∀ q:IntKind,cj none (some (4,1)) (.ptr hb 0 3) (.int q (p:Int))=some (.ptr hb 0 (3+p)):=fun q=>by simp[cj,hp]
  have ix2:∀ q:IntKind,cj none (some (4,3)) (.ptr hb 0 7) (.int q (p:Int))=some (.ptr hb 0 (7+p*3)):=fun q=>by simp[cj,hp]
  have f1:aH 3 (.ptr hb 0 0)=some (.ptr hb 0 3):=rfl
  have f2:aH 7 (.ptr hb 0 0)=some (.ptr hb 0 7):=rfl
  have e4:aE 1 _ (.ptr hb 0 (3+p)) (.ptr (h.n+1+1) 0 0)=some h4:=e4
  have e5:aE 3 h4 (.ptr hb 0 (7+p*3)) (.agg zR3)=some h5:=e5
  refine⟨h5,?_,s5.drop.drop.drop⟩
  rw[hz]at cf c2 c3 eo e4 ⊢
  refine ag xA rfl ?_;unfold qy
  simp only[sim,af,reduceAdd,reduceSub,replicate,reduceCtorEq,reduceLeDiff,reduceLT,aa,au,o1,c1,cf,c2,c3,d1,d2,eo,ov,ix1,ix2,f1,f2,e4,e5]
 ·have d3:decide ((aL M).1=0)=false:=decide_eq_false hz
  refine⟨_,?_,s2.drop.drop⟩
  refine ag xA rfl ?_;unfold qy
  simp only[sim,af,reduceAdd,reduceSub,replicate,reduceCtorEq,reduceLeDiff,reduceLT,aa,au,o1,c1,cf,c2,d1,d2,d3]
end
theorem oz:(Tryz.prog).underlying 3=some (.int .i64):=by kernel_rfl
theorem Ki:(Tryz.prog).underlying 23=some (.slice 116):=by kernel_rfl
theorem Lk:jP Tryz.prog 116=some [3,3,3,3,3]:=by kernel_rfl
theorem BH {α:Type} {f:α→List AV}:∀ {es:List (List AV)},(∀ r∈es,∃ x,r=f x)→∃ xs:List α,es=xs.map f
 | [],_=>⟨[],rfl⟩
 | r::es,h=>by
   obtain⟨x,rfl⟩:=h r (by simp)
   obtain⟨xs,rfl⟩:=BH fun q hq=>h q (List.mem_cons_of_mem _ hq)
   exact⟨x::xs,rfl⟩
theorem DN {n:Nat} {av:AV} (h:TyA Tryz.prog n 23 [av]):∃ xs:List fx,IsL 116 av (xs.map dT):=by
 obtain⟨m,v,es,rfl,e,hv,_,hr⟩:=ni Ki h
 obtain rfl:av=v:=by simpa using e
 obtain⟨xs,rfl⟩:=BH (f:=dT) fun r hr'=>by
  obtain⟨m2,rfl,parts,rfl,hl,hf⟩:=iU Lk (hr r hr').2
  obtain⟨p0,a0,_,b0⟩:=hf 0 _ rfl
  obtain⟨p1,a1,_,b1⟩:=hf 1 _ rfl
  obtain⟨p2,a2,_,b2⟩:=hf 2 _ rfl
  obtain⟨p3,a3,_,b3⟩:=hf 3 _ rfl
  obtain⟨p4,a4,_,b4⟩:=hf 4 _ rfl
  obtain⟨z0,rfl,_⟩:=fK oz b0
  obtain⟨z1,rfl,_⟩:=fK oz b1
  obtain⟨z2,rfl,_⟩:=fK oz b2
  obtain⟨z3,rfl,_⟩:=fK oz b3
  obtain⟨z4,rfl,_⟩:=fK oz b4
  refine⟨⟨z0,z1,z2,z3,z4⟩,?_⟩
  match parts,hl with
  | [c0,c1,c2,c3,c4],_=>
    simp only[List.getElem?_cons_zero,List.getElem?_cons_succ,Option.some.injEq]at a0 a1 a2 a3 a4
    subst a0 a1 a2 a3 a4
    rfl
 exact⟨xs,hv.isL⟩
abbrev tMo:TypeId:=80
abbrev tGs:TypeId:=116
def nC:List (List XD)→List (List AV)→Prop
 | [],es=>es=[]
 | M::Ms,es=>∃ r rs,es=r::rs∧Gw M r∧nC Ms rs
theorem nC.len:∀ {Ms:List (List XD)} {es:List (List AV)},nC Ms es→es.length=Ms.length
 | [],es,h=>by simp only[nC]at h;subst h;rfl
 | M::Ms,es,h=>by
   obtain⟨r,rs,rfl,_,h2⟩:=h
   simp[h2.len]
theorem nC.get:∀ {Ms:List (List XD)} {es:List (List AV)} {i:Nat} {M:List XD},nC Ms es→Ms[i]? =some M→∃ r,es[i]? =some r∧Gw M r
 | [],es,i,M,h,hi=>by simp at hi
 | M'::Ms,es,i,M,h,hi=>by
   obtain⟨r,rs,rfl,h1,h2⟩:=h
   cases i with
   | zero=>obtain rfl:M'=M:=by simpa using hi
           exact⟨r,rfl,h1⟩
   | succ i=>exact h2.get (by simpa using hi)
def cB (Ms:List (List XD)) (k:Nat):aI:=(List.range 4).map fun j=>if j<k then(match Ms[j]? with | some M=>if(aL M).1=0 then some M else none | none=>none)else none
theorem cE (Ms:List (List XD)) (k:Nat):(cB Ms k).length=4:=by simp[cB]
theorem fE {Ms:List (List XD)} {k j:Nat} (hj:j<4):(cB Ms k)[j]? =some (if j<k then(match Ms[j]? with | some M=>if(aL M).1=0 then some M else none | none=>none)else none):=by
 simp[cB,hj]
theorem yM (Ms:List (List XD)):cB Ms 0=ms0:=by simp[cB,List.range_succ]
theorem Dp {Ms:List (List XD)} {k:Nat} {M:List XD} (hk:k<4) (hM:Ms[k]? =some M) (hz:(aL M).1=0):cB Ms (k+1)=(cB Ms k).set k (some M):=by
 refine List.ext_getElem? fun j=> ?_
 by_cases hj:j<4
 ·rw[fE hj,List.getElem?_set,cE]
  by_cases e:k=j
  ·subst e
   rw[if_pos rfl,if_pos hk,if_pos (by omega),hM]
   simp[hz]
  ·rw[if_neg e,fE hj]
   by_cases h:j<k
   ·rw[if_pos h,if_pos (by omega)]
   ·rw[if_neg h,if_neg (by omega)]
 ·rw[List.getElem?_eq_none (by rw[cE];omega),List.getElem?_eq_none (by rw[List.length_set,cE];omega)]
theorem DZ {Ms:List (List XD)} {k:Nat} (h:∀ M,Ms[k]? =some M→(aL M).1≠0):cB Ms (k+1)=cB Ms k:=by
 refine List.ext_getElem? fun j=> ?_
 by_cases hj:j<4
 ·rw[fE hj,fE hj]
  by_cases e:j=k
  ·subst e
   rw[if_pos (by omega),if_neg (by omega)]
   cases hM:Ms[j]? with
   | none=>rfl
   | some M=>simp[h M hM]
  ·by_cases h:j<k
   ·rw[if_pos h,if_pos (by omega)]
   ·rw[if_neg h,if_neg (by omega)]
 ·rw[List.getElem?_eq_none (by rw[cE];omega),List.getElem?_eq_none (by rw[cE];omega)]
theorem CS {Ms:List (List XD)} {k:Nat} (h:4≤k∨Ms.length≤k):cB Ms k=cB Ms 4:=by
 refine List.ext_getElem? fun j=> ?_
 by_cases hj:j<4
 ·rw[fE hj,fE hj,if_pos hj]
  by_cases h1:j<k
  ·rw[if_pos h1]
  ·rw[if_neg h1,List.getElem?_eq_none (by omega)]
 ·rw[List.getElem?_eq_none (by rw[cE];omega),List.getElem?_eq_none (by rw[cE];omega)]
def ui (G:ae) (l:List fx):ae:=l.foldl (fun G x=>(G.step x).1) G
theorem C6 {l:List fx}:∀ {G:ae},G.Wf→(ui G l).Wf:=by
 induction l with
 | nil=>exact fun h=>h
 | cons x l ih=>exact fun h=>ih (h.step x)
def pT (Ms:List (List XD)):Bool:=Ms.any fR || decide (10<Ms.length)
section
variable {h h' h0:AH} {F J F0 J0:Nat→Prop} {L:List Asn}
theorem zk {mv:AV} {rows:List (List AV)} {Ms:List (List XD)} (hm:SlA tMo mv rows) (hl:nC Ms rows) (K:List RK):∀ (l pre:List (List XD)) (h':AH) (v3 v4:AV),Ms=pre++l→ab h h'→Ms.length≤9223372036854775807→
  (l.any fR=true→∃ h'' V,ap (ai Tryz.prog po) 5 (.lp bC:: .ss []:: .blk 0::K) [mv,.bool false,.int .i64 (pre.length:Int),v3,v4] [] h'=some (.ret,V,h'')∧V.getD 1 .junk= .bool true∧ab h h'')∧
  (l.any fR=false→∃ h'' w3 w4,ap (ai Tryz.prog po) 5 (.lp bC:: .ss []:: .blk 0::K) [mv,.bool false,.int .i64 (pre.length:Int),v3,v4] [] h'=ap (ai Tryz.prog po) 5 K [mv,.bool false,.int .i64 (Ms.length:Int),w3,w4] [] h''∧ab h h''):=by
 intro l
 have hll:=hl.len
 induction l with
 | nil=>
   intro pre h' v3 v4 e hg hml
   refine⟨fun h=>by simp at h,fun _=>⟨h',.bool false,v4,?_,hg⟩⟩
   have hlt:¬ ((pre.length:Int)<(Ms.length:Int)):=by rw[e];simp
   have e2:pre.length=Ms.length:=by rw[e];simp
   rw[aC bC.eq_1]
   simp only[sim,af,reduceAdd,reduceSub,replicate,reduceCtorEq,reduceLeDiff,reduceLT,aa,hm.isL.len,hm.isL.fits,hll,hlt]
   rw[e2]
 | cons M l ih=>
   intro pre h' v3 v4 e hg hml
   have hlt:(pre.length:Int)<(Ms.length:Int):=by rw[e];simp;omega
   have hi:Ms[pre.length]? =some M:=by rw[e];simp
   obtain⟨r,q1,v,es,rfl,q3,q4⟩:=hl.get hi
   have ix:=hm.isL.ix .i64 pre.length _ q1
   have gr:=CR (h:=h') v M (d6.of q3 q4)
   have ov:=(d6.of (h:=h') q3 q4).one
   have w:=w64 (n:=(pre.length:Int)+1) (by omega) (by omega)
   have e2:((pre++[M]).length:Int)=(pre.length:Int)+1:=by simp
   obtain⟨i1,i2⟩:=ih (pre++[M]) h' (.bool true) (.bool false) (by simp[e]) hg hml
   rw[e2]at i1 i2
   cases hM:fR M with
   | true=>
     rw[hM]at gr
     refine⟨fun _=>⟨h',[mv,.bool true,.int .i64 (pre.length:Int),.bool true,.bool true],?_,rfl,hg⟩,fun h=>by simp[hM]at h⟩
     rw[aC bC.eq_1]
     simp only[sim,af,reduceAdd,reduceSub,replicate,reduceCtorEq,reduceLeDiff,reduceLT,aa,au,hm.isL.len,hm.isL.fits,hll,hlt,ix,gr,ov]
   | false=>
     rw[hM]at gr
     refine⟨fun h=> ?_,fun h=> ?_⟩
     ·obtain⟨h'',V,r1,r2,r3⟩:=i1 (by simpa[hM]using h)
      refine⟨h'',V,?_,r2,r3⟩
      rw[←r1]
      conv=>lhs;rw[aC bC.eq_1]
      simp only[sim,af,reduceAdd,reduceSub,replicate,reduceCtorEq,reduceLeDiff,reduceLT,aa,au,hm.isL.len,hm.isL.fits,hll,hlt,ix,gr,ov,w]
     ·obtain⟨h'',w3,w4,r1,r2⟩:=i2 (by simpa[hM]using h)
      refine⟨h'',w3,w4,?_,r2⟩
      rw[←r1]
      conv=>lhs;rw[aC bC.eq_1]
      simp only[sim,af,reduceAdd,reduceSub,replicate,reduceCtorEq,reduceLeDiff,reduceLT,aa,au,hm.isL.len,hm.isL.fits,hll,hlt,ix,gr,ov,w]
theorem nM {mv:AV} {rows:List (List AV)} {Ms:List (List XD)} (hm:SlA tMo mv rows) (hl:nC Ms rows) (hml:Ms.length≤9223372036854775807):ai Tryz.prog po 9 [mv] h=some (.inl (.bool (pT Ms)),h):=by
 obtain⟨i1,i2⟩:=zk (h:=h) hm hl [.ss [.ops [(.i .l (.mv (.v 0))),(.i .l (.len false (some 80) (.l 0))),(.i .l (.bin (.int .i64) .gtr (.l 0) (.c (.int .i64 10)))),(.i (.v 1) (.mv (.l 0)))],.ret]] Ms [] h .junk .junk rfl (ab.refl h) hml
 simp only[List.length_nil,Int.natCast_zero]at i1 i2
 have hll:=hl.len
 unfold pT
 cases hg:Ms.any fR with
 | true=>
   obtain⟨h'',V,r1,r2,r3⟩:=i1 hg
   refine ag jR rfl ?_;unfold gz
   simp only[sim,af,reduceAdd,reduceSub,replicate,reduceCtorEq,reduceLeDiff,reduceLT,aa]
   rw[r1]
   simp only[sim,af,reduceAdd,reduceSub,replicate,reduceCtorEq,reduceLeDiff,reduceLT,aa,r2,az r3 (rfl:wkA (.bool true)=_)]
 | false=>
   obtain⟨h'',w3,w4,r1,r2⟩:=i2 hg
   refine ag jR rfl ?_;unfold gz
   simp only[sim,af,reduceAdd,reduceSub,replicate,reduceCtorEq,reduceLeDiff,reduceLT,aa]
   rw[r1]
   simp only[sim,af,reduceAdd,reduceSub,replicate,reduceCtorEq,reduceLeDiff,reduceLT,aa,hm.isL.len,hm.isL.fits,hll]
   have e:decide (10<(Ms.length:Int))=decide (10<Ms.length):=by rw[decide_eq_decide];omega
   simp only[e,Bool.false_or]
   exact az r2 rfl
end
abbrev bxL (hb nb:Nat) (GN:ae) (bb gb wb:Nat) (ms:aI) (G:ae) (L:List Asn):List Asn:=mf hb nb::aM nb GN::cJ bb gb wb ms kj::aM gb G::aY wb eK []::L
abbrev K0b:List RK:=[.ss [.ops [(.i (.v 9) (.mv (.c (.int .i64 0))))],.block 2 [.loop gh],.ops [(.i .l (.mv (.v 4))),(.i .l (.mv (.v 5))),(.i (.v 2) (.mv (.l 1))),(.i (.v 3) (.mv (.l 0)))],.ret]]
section
variable {h h' h0:AH} {F J F0 J0:Nat→Prop} {L:List Asn}
set_option maxHeartbeats 1000000 in
theorem De {mv lv:AV} {rows:List (List AV)} {Ms:List (List XD)} (hm:SlA tMo mv rows) (hl:nC Ms rows) (hml:Ms.length≤100000) (hgr:∀ M∈Ms,M.length≤100000∧∀ x∈M,x.size≤100000) {hb nb bb gb wb:Nat} (K:List RK):∀ (d p:Nat) (h':AH) (w2 w3 v7 v8 v9 v10 v11 v12:AV),p+d=4→St h0 F0 J0 h' (bxL hb nb G0 bb gb wb (cB Ms p) G0 L)→
  ∃ h'' w6 w7 w8 w10 w11,ap (ai Tryz.prog po) 13 (.lp eY:: .ss []:: .blk 0::K) [mv,lv,w2,w3,.ptr bb 0 0,.ptr hb 0 0,.int .i64 (p:Int),v7,v8,v9,v10,v11,v12] [] h'=ap (ai Tryz.prog po) 13 K [mv,lv,w2,w3,.ptr bb 0 0,.ptr hb 0 0,w6,w7,w8,v9,w10,w11,v12] [] h''∧
    St h0 F0 J0 h'' (bxL hb nb G0 bb gb wb (cB Ms 4) G0 L):=by
 have hll:=hl.len
 intro d
 induction d with
 | zero=>
   intro p h' w2 w3 v7 v8 v9 v10 v11 v12 hp s
   obtain rfl:p=4:=by omega
   refine⟨h',.int .i64 4,v7,v8,.bool false,v11,?_,s⟩
   have h4:((4:Nat):Int)=4:=rfl
   rw[aC eY.eq_1]
   by_cases hlt:(4:Int)<(Ms.length:Int)
   ·simp only[sim,af,reduceAdd,reduceSub,replicate,reduceCtorEq,reduceLeDiff,reduceLT,aa,h4,hm.isL.len,hm.isL.fits,hll,hlt,Int.lt_irrefl]
   ·simp only[sim,af,reduceAdd,reduceSub,replicate,reduceCtorEq,reduceLeDiff,reduceLT,aa,h4,hm.isL.len,hm.isL.fits,hll,hlt,Int.lt_irrefl]
 | succ d ih=>
   intro p h' w2 w3 v7 v8 v9 v10 v11 v12 hp s
   have hp4:(p:Int)<4:=by omega
   by_cases hlt:p<Ms.length
   ·have hlt':(p:Int)<(Ms.length:Int):=by omega
    have hM:Ms[p]? =some Ms[p]:=List.getElem?_eq_getElem hlt
    have hMm:=List.getElem_mem hlt
    generalize Ms[p]=M at hM hMm
    obtain⟨r,q1,v,es,rfl,q3,q4⟩:=hl.get hM
    have ix:=hm.isL.ix .i64 p _ q1
    have mm:∀ h,d6 h v M:=fun h=>d6.of q3 q4
    have ov:=(mm h').one
    have w:=w64 (n:=(p:Int)+1) (by omega) (by omega)
    have e2:((p+1:Nat):Int)=(p:Int)+1:=by omega
    obtain⟨g1,g2⟩:=hgr M hMm
    have mk:=td (h:=h') q3 q4 mm g1 g2
    unfold ol at mk
    have s1:=s.push [[.int .i64 (aL M).1,.int .i64 (aL M).2]]
    have c1:=(s1.cell 0 rfl).1
    by_cases hz:(aL M).1=0
    ·have dz:decide ((aL M).1=0)=true:=decide_eq_true hz
     rw[if_pos hz]at mk
     obtain⟨f1,f2,f3⟩:=dh M
     have f4:(cI M).cells=[cI M]:=by unfold cI;rfl
     obtain⟨h2,e5,s2⟩:=wP s1 (i:=3) rfl (by rw[cE];rfl) (p:=p) (by rw[cE];omega) (M:=M) dM
     have s2:St h0 F0 J0 h2 (ah h'.n [[.int .i64 (aL M).1,.int .i64 (aL M).2]]::bxL hb nb G0 bb gb wb ((cB Ms p).set p (some M)) G0 L):=by
      have e:kj.set p aD=kj:=by
       have:p=0∨p=1∨p=2∨p=3:=by omega
       rcases this with rfl | rfl | rfl | rfl<;>rfl
      rw[e]at s2
      exact s2
     rw[←Dp (by omega) hM hz]at s2
     obtain⟨h3,e6,s3⟩:=tw s2 1 rfl (v:=v) (M:=M) (p:=p) (by omega) mm g1 g2
     obtain⟨h'',w6,w7,w8,w10,w11,r1,r2⟩:=ih (p+1) h3 w2 w3 (cI M) (.ptr h'.n 0 0) v9 (.bool true) (.bool true) v12 (by omega) s3.drop
     refine⟨h'',w6,w7,w8,w10,w11,?_,r2⟩
     rw[←r1,e2]
     have ixb:∀ q:IntKind,cj none (some (4,5)) (.ptr bb 0 2) (.int q (p:Int))=some (.ptr bb 0 (2+p*5)):=fun q=>by simp[cj];omega
     have fb:aH 2 (.ptr bb 0 0)=some (.ptr bb 0 2):=rfl
     conv=>lhs;rw[aC eY.eq_1]
     simp only[sim,af,reduceAdd,reduceSub,replicate,reduceCtorEq,reduceLeDiff,reduceLT,aa,au,hm.isL.len,hm.isL.fits,hll,hlt',hp4,ix,ov,mk,c1,dz,f3,f4,ixb,fb,e5,e6,w]
    ·have dz:decide ((aL M).1=0)=false:=decide_eq_false hz
     rw[if_neg hz]at mk
     obtain⟨h3,e6,s3⟩:=tw s1 1 rfl (v:=v) (M:=M) (p:=p) (by omega) mm g1 g2
     have e:cB Ms p=cB Ms (p+1):=(DZ fun M' h'=>by rw[hM]at h';cases h';exact hz).symm
     rw[e]at s3
     obtain⟨h'',w6,w7,w8,w10,w11,r1,r2⟩:=ih (p+1) h3 w2 w3 .nils (.ptr h'.n 0 0) v9 (.bool true) (.bool false) v12 (by omega) s3.drop
     refine⟨h'',w6,w7,w8,w10,w11,?_,r2⟩
     rw[←r1,e2]
     conv=>lhs;rw[aC eY.eq_1]
     simp only[sim,af,reduceAdd,reduceSub,replicate,reduceCtorEq,reduceLeDiff,reduceLT,aa,au,hm.isL.len,hm.isL.fits,hll,hlt',hp4,ix,ov,mk,c1,dz,e6,w]
   ·have hlt':¬ (p:Int)<(Ms.length:Int):=by omega
    refine⟨h',.int .i64 (p:Int),v7,v8,.bool false,v11,?_,by rw[CS (k:=p) (.inr (by omega))]at s;exact s⟩
    rw[aC eY.eq_1]
    simp only[sim,af,reduceAdd,reduceSub,replicate,reduceCtorEq,reduceLeDiff,reduceLT,aa,hm.isL.len,hm.isL.fits,hll,hlt']
theorem zI {mv lv:AV} {xs:List fx} (hs:IsL tGs lv (xs.map dT)) (hml:xs.length≤100000) {hb nb bb gb wb:Nat} {ms:aI} (h4:ms.length=4) (K:List RK):∀ (l pre:List fx) (GN G:ae) (h':AH) (w2 w3 v6 v7 v8 v10 v11 v12:AV),xs=pre++l→GN.Wf→G.Wf→St h0 F0 J0 h' (bxL hb nb GN bb gb wb ms G L)→
  ∃ h'' GN' w9 w12,ap (ai Tryz.prog po) 13 (.lp gh:: .ss []:: .blk 2::K) [mv,lv,w2,w3,.ptr bb 0 0,.ptr hb 0 0,v6,v7,v8,.int .i64 (pre.length:Int),v10,v11,v12] [] h'=ap (ai Tryz.prog po) 13 K [mv,lv,w2,w3,.ptr bb 0 0,.ptr hb 0 0,v6,v7,v8,w9,v10,v11,w12] [] h''∧
    St h0 F0 J0 h'' (bxL hb nb GN' bb gb wb ms (ui G l) L):=by
 intro l
 induction l with
 | nil=>
   intro pre GN G h' w2 w3 v6 v7 v8 v10 v11 v12 e hn hg s
   have hlt:¬ ((pre.length:Int)<(xs.length:Int)):=by rw[e];simp
   refine⟨h',GN,.int .i64 (pre.length:Int),.bool false,?_,s⟩
   rw[aC gh.eq_1]
   simp only[sim,af,reduceAdd,reduceSub,replicate,reduceCtorEq,reduceLeDiff,reduceLT,aa,hs.len,hs.fits,List.length_map,hlt]
 | cons x l ih=>
   intro pre GN G h' w2 w3 v6 v7 v8 v10 v11 v12 e hn hg s
   have hlt:(pre.length:Int)<(xs.length:Int):=by rw[e];simp;omega
   have ix:=hs.ix .i64 pre.length (dT x) (by rw[e];simp)
   have w:=w64 (n:=(pre.length:Int)+1) (by omega) (by omega)
   have e2:((pre++[x]).length:Int)=(pre.length:Int)+1:=by simp
   have l0:=(jo s (ib:=2) rfl h4).1
   obtain⟨row,hr1,hr2,sh⟩:=Fu s 0 rfl
   have c0:=(sh.cell 0 rfl).1
   have l1:∀ k:Nat,aK false k h' (.ptr hb 0 0)=some (.ptr nb 0 0):=fun k=>by rw[bV,c0];rfl
   have f0:aH 0 (.ptr bb 0 0)=some (.ptr bb 0 0):=rfl
   have f1:aH 0 (.ptr hb 0 0)=some (.ptr hb 0 0):=rfl
   obtain⟨h2,v,e3,s2⟩:=Fj s (i:=3) (j:=1) rfl rfl (by decide) hg hn x
   obtain⟨h'',GN',w9,w12,r1,r2⟩:=ih (pre++[x]) (GN.step x).1 (G.step x).1 h2 w2 w3 v6 v7 v8 v10 v11 (.bool true) (by simp[e]) (hn.step x) (hg.step x) s2
   refine⟨h'',GN',w9,w12,?_,r2⟩
   rw[←r1,e2]
   conv=>lhs;rw[aC gh.eq_1]
   simp only[sim,af,reduceAdd,reduceSub,replicate,reduceCtorEq,reduceLeDiff,reduceLT,aa,au,hs.len,hs.fits,List.length_map,hlt,ix,qE,l0,l1,f0,f1,e3,w]
theorem vK (s:St h0 F0 J0 h L) {mv lv:AV} {rows:List (List AV)} {Ms:List (List XD)} (hm:SlA tMo mv rows) (hl:nC Ms rows) (hml:Ms.length≤100000) (hgr:∀ M∈Ms,M.length≤100000∧∀ x∈M,x.size≤100000) {xs:List fx} (hs:IsL tGs lv (xs.map dT)) (hxl:xs.length≤100000):
  ∃ h' bb gb wb hb nb GN,ai Tryz.prog po 10 [mv,lv] h=some (.inl (.tup [.ptr bb 0 0,.ptr hb 0 0]),h')∧St h0 F0 J0 h' (bxL hb nb GN bb gb wb (cB Ms 4) (ui G0 xs) L):=by
 obtain⟨h1,bb,gb,wb,e1,s1⟩:=xv s
 obtain⟨h2,hb,nb,e2,s2⟩:=Gk s1
 have s2:St h0 F0 J0 h2 (bxL hb nb G0 bb gb wb (cB Ms 0) G0 L):=by rw[yM];exact s2
 obtain⟨h3,w6,w7,w8,w10,w11,r1,s3⟩:=De hm hl hml hgr (lv:=lv) K0b 4 0 h2 .nilp .nilp .junk .junk .junk .junk .junk .junk rfl s2
 obtain⟨h4,GN,w9,w12,r2,s4⟩:=zI hs hxl (mv:=mv) (cE Ms 4) [.ss [.ops [(.i .l (.mv (.v 4))),(.i .l (.mv (.v 5))),(.i (.v 2) (.mv (.l 1))),(.i (.v 3) (.mv (.l 0)))],.ret]] xs [] G0 G0 h3 .nilp .nilp w6 w7 w8 w10 w11 .junk rfl ue ue s3
 simp only[List.length_nil,Int.natCast_zero]at r1 r2
 refine⟨h4,bb,gb,wb,hb,nb,GN,?_,s4⟩
 refine ag Gg rfl ?_;unfold wE
 simp only[sim,af,reduceAdd,reduceSub,replicate,reduceCtorEq,reduceLeDiff,reduceLT,aa,au,e1,e2]
 rw[r1]
 simp only[sim,af,reduceAdd,reduceSub,replicate,reduceCtorEq,reduceLeDiff,reduceLT,aa]
 rw[r2]
 simp only[sim,af,reduceAdd,reduceSub,replicate,reduceCtorEq,reduceLeDiff,reduceLT,aa]
end
theorem oX {ms:aI} {S:StD} (hS:S.Good) {p f fuel:Int} {v:VD}:(cG ms p f v fuel S).1.Good∧(cG ms p f v fuel S).1.log.length≤S.log.length+2000∧((cG ms p f v fuel S).2.2.2=0→(cG ms p f v fuel S).2.1.code=0)∧(cG ms p f v fuel S).2.1.size≤100000:=by
 unfold cG
 have z:aD.size≤100000:=by decide
 split
 ·exact⟨hS,by simp only;omega,fun h=>by simp at h,z⟩
 ·split
  ·exact⟨hS,by simp only;omega,fun h=>by simp at h,z⟩
  ·split
   ·rename_i h1;exact⟨hS,by simp only;omega,fun h=>absurd h h1,z⟩
   ·rename_i h1 h2 h3
    have hS0:({S with left:=fuel.toNat}:StD).Good:=⟨hS.wf,hS.cells,hS.kept,hS.keptV⟩
    have hox:=gu ms fuel.toNat p (df ms p f) v [] 1 _ hS0 (by simpa using h3) (by simp)
    generalize ofD ms fuel.toNat p (df ms p f) v [] 1 {S with left:=fuel.toNat}=q at hox
    obtain⟨S',w,c⟩:=q
    have g:=hox.1.good
    have m:=hox.1.mu
    unfold StD.mu at m
    simp only at g m ⊢
    refine⟨⟨g.wf,g.cells,g.kept,g.keptV⟩,by omega,fun hc=> ?_,?_⟩
    ·rw[if_pos hc];exact hox.1.val hc
    ·by_cases hc:c=0
     ·rw[if_pos hc]
      have:=(eQ (hox.1.val hc)).1
      simp only at this
      omega
     ·rw[if_neg hc];exact z
theorem OkB.run {c:BxC} {S:StD} (o:OkB c S) {p f fuel:Int} {v:VD} (hl:S.log.length≤890000):OkB c (cG c.ms p f v fuel S).1:=by
 obtain⟨h1,h2,_⟩:=oX (ms:=c.ms) (p:=p) (f:=f) (fuel:=fuel) (v:=v) o.st
 exact⟨o.ms,o.g,o.z,h1,by omega⟩
def nW (ms:aI):Prop:=∀ M,some M∈ms→(aL M).1=0
theorem nW.fun {ms:aI} (h:nW ms) {p:Int}:∀ x∈bW ms p,x.fault (bW ms p).length 0=0∧x.size≤120:=by
 intro x hx
 unfold bW at hx ⊢
 cases hm:ms.getD p.toNat none with
 | none=>rw[hm]at hx;simp at hx
 | some M=>
   rw[hm]at hx
   have hin:some M∈ms:=by
    rw[List.getD]at hm
    cases hg:ms[p.toNat]? with
    | none=>rw[hg]at hm;simp at hm
    | some o=>
      rw[hg]at hm
      simp only[Option.getD_some]at hm
      subst hm
      exact List.mem_of_getElem? hg
   exact(pS (h M hin)).2.2 x hx
theorem nW.good {ms:aI} (h:nW ms):lh ms:=fun _ x hx=>(h.fun x hx).1
theorem nW.sized {ms:aI} (h:nW ms):ie ms:=fun p f=>by
 unfold dw
 have h1:=d7 _ (df ms p f) (Nat.le_refl _) 0
 have h2:(df ms p f).size≤120:=by
  unfold df
  by_cases hk:f.toNat<(bW ms p).length
  ·have e:(bW ms p).getD f.toNat dK=(bW ms p)[f.toNat]:=by simp[List.getD,hk]
   rw[e]
   exact(h.fun _ (List.getElem_mem hk)).2
  ·have e:(bW ms p).getD f.toNat dK=dK:=by simp[List.getD,List.getElem?_eq_none (Nat.le_of_not_lt hk)]
   rw[e]
   decide
 simp only[List.length_append,List.length_singleton]
 omega
theorem wM (Ms:List (List XD)) (k:Nat):nW (cB Ms k):=by
 intro M hM
 obtain⟨j,hj⟩:=List.mem_iff_getElem?.1 hM
 have hj4:j<4:=by
  have:=(List.getElem?_eq_some_iff.1 hj).1
  rwa [cE]at this
 rw[fE hj4]at hj
 simp only[Option.some.injEq]at hj
 split at hj
 ·split at hj
  ·split at hj
   ·rename_i h1
    injection hj with hj
    rw[←hj];exact h1
   ·cases hj
  ·cases hj
 ·cases hj
def pN:List XD:=[.mk 6 1 0 [.mk 3 0 0 [],.mk 2 0 2 []]]
def msB:aI:=[none,some pN,none,none]
theorem EN:nW msB:=by
 intro M hM
 have:M=pN:=by simpa[msB]using hM
 rw[this];rfl
theorem AU (i:Option Nat):ExL pN [[.int .i64 6,.int .i64 1,.int .i64 0,.isl i tE [[.int .i64 3,.int .i64 0,.int .i64 0,.nils],[.int .i64 2,.int .i64 0,.int .i64 2,.nils]]]]:=by
 refine⟨_,[],rfl,?_,rfl⟩
 refine⟨_,_,rfl,.inr ⟨_,rfl⟩,?_⟩
 refine⟨_,_,rfl,?_,_,_,rfl,?_,rfl⟩
 ·exact⟨_,[],rfl,.inl ⟨rfl,rfl⟩,rfl⟩
 ·exact⟨_,[],rfl,.inl ⟨rfl,rfl⟩,rfl⟩
section
variable {h:AH}
theorem St.grewA {h':AH} {L:List Asn} (s:St h (fun _=>False) (fun _=>False) h' L):ab h h':=by
 obtain⟨_,_,_,c,_⟩:=s
 exact⟨c.n,c.ids,fun k hk=>c.cell k hk (fun h=>h),fun j hj=>c.hw j hj (fun h=>h)⟩
theorem gn:ai Tryz.prog po 8 [] h=some (.inl (.bool true),h):=by
 have s0:St h (fun _=>False) (fun _=>False) h []:=St.start (bh.nil _ _ _ (fun _ h=>h) (fun _ h=>h))
 obtain⟨h1,bb,gb,wb,e1,s1⟩:=xv s0
 have l1:=fun(h:AH)=>Fr (h:=h) 2
 have mk:=fun(h:AH) (i j:Nat)=>td (h:=h) (v:= .isl (some j) tE [[.int .i64 6,.int .i64 1,.int .i64 0,.isl (some i) tE [[.int .i64 3,.int .i64 0,.int .i64 0,.nils],[.int .i64 2,.int .i64 0,.int .i64 2,.nils]]]]) (.inr ⟨_,rfl⟩) (AU (some i)) (fun h=>d6.of (.inr ⟨_,rfl⟩) (AU (some i))) (by decide) (by decide)
 refine ag zD rfl ?_;unfold q8
 simp only[sim,af,reduceAdd,reduceSub,replicate,reduceCtorEq,reduceLeDiff,reduceLT,aa,au,e1,l1,mk]
 have g2:ab h1 ((h1.fresh 2).fresh 1):=(ab.fresh h1 2).trans (ab.fresh _ 1)
 have s2:=(s1.grew g2).push [[.int .i64 0,.int .i64 0]]
 have c2:(((h1.fresh 2).fresh 1).push [[.int .i64 0,.int .i64 0]]).cell h1.n=some [[.int .i64 0,.int .i64 0]]:=(s2.cell 0 rfl).1
 have m2:∀ x,(((h1.fresh 2).fresh 1).push [[.int .i64 0,.int .i64 0]]).set h1.n (some x)=((h1.fresh 2).fresh 1).push x:=fun x=>fz
 obtain⟨h3,e3,s3⟩:=wP s2 1 rfl rfl (p:=1) (by decide) (M:=pN) dM
 have s3:St h _ _ h3 (ah ((h1.fresh 2).fresh 1).n [[.int .i64 0,.int .i64 0]]::cJ bb gb wb msB kj::aM gb G0::aY wb eK []::[]):=s3
 have o3:OkB ⟨bb,gb,wb,msB⟩ (yO 0):=⟨rfl,EN.good,EN.sized,C0 0,by decide⟩
 have a3:AtB ⟨bb,gb,wb,msB⟩ (ah ((h1.fresh 2).fresh 1).n [[.int .i64 0,.int .i64 0]]::cJ bb gb wb msB kj::aM gb G0::aY wb eK []::[]) 1 (yO 0):=⟨rfl,rfl,rfl⟩
 obtain⟨h4,r4,e4,v4,s4⟩:=tZ s3 a3 o3 (uU 5) (by decide) 1 0 9
 have o4:=o3.run (p:=1) (f:=0) (fuel:=9) (v:=np 5) (by decide)
 have a4:=a3.put (cG msB 1 0 (np 5) 9 (yO 0)).1
 have v4:VaA (np 7) r4:=v4
 obtain⟨z1,z2⟩:=v4.len3
 have s5:=s4.push [r4]
 have a5:=a4.cons (ah h4.n [r4])
 obtain⟨h6,r6,e6,v6,s6⟩:=tZ s5 a5 o4 dM (by decide) 0 0 9
 obtain⟨z3,z4⟩:=v6.len3
 have s7:=s6.push [r6]
 have c7:=(s7.cell 1 rfl).1
 have q1:(cG msB 1 0 (np 5) 9 (yO 0)).2.2.1=3:=rfl
 have q2:(cG msB 1 0 (np 5) 9 (yO 0)).2.2.2=0:=rfl
 have q3:∀ S,(cG msB 0 0 aD 9 S).2.2.2=8:=fun _=>rfl
 have mkv:ol pN= .tup [cI pN,.agg [.int .i64 0,.int .i64 0]]:=rfl
 obtain⟨w4,rfl,w4o⟩:=v4.cells3
 have e4:ai Tryz.prog po 12 [.ptr bb 0 0,.int .i64 1,.int .i64 0,.agg [.int .i64 1,.int .i64 5,.nils],.int .i64 9] h3=some (.inl (.tup [.agg [.int .i64 1,.int .i64 7,w4],.int .i64 3,.int .i64 0]),h4):=e4
 have e6:ai Tryz.prog po 12 [.ptr bb 0 0,.int .i64 0,.int .i64 0,.agg zR3,.int .i64 9] (h4.push [[.int .i64 1,.int .i64 7,w4]])=some (.inl (.tup [.agg r6,.int .i64 0,.int .i64 8]),h6):=e6
 have c7:(h6.push [r6]).cell h4.n=some [[.int .i64 1,.int .i64 7,w4]]:=c7
 have ixb:∀ q:IntKind,cj none (some (4,5)) (.ptr bb 0 2) (.int q 1)=some (.ptr bb 0 7):=fun q=>rfl
 have fb:aH 2 (.ptr bb 0 0)=some (.ptr bb 0 2):=rfl
 have e3:aE 5 (((h1.fresh 2).fresh 1).push [[.int .i64 0,.int .i64 0]]) (.ptr bb 0 7) (.agg (.bool true::cI pN::zR3))=some h3:=e3
 obtain⟨f1,f2,f3⟩:=dh pN
 have f4:(cI pN).cells=[cI pN]:=by unfold cI;rfl
 generalize cI pN=cv at*
 rw[mkv]
 simp only[sim,af,reduceAdd,reduceSub,replicate,reduceCtorEq,reduceLeDiff,reduceLT,aa,au,c2,m2,ixb,fb,e3,f3,f4,w4o,e4,z3,z4,e6,c7,qe]
 exact az s7.grewA rfl
end
def vJ (xs:List fx):StD:=⟨ui G0 xs,eK,[],kj,0⟩
theorem nD (xs:List fx):(vJ xs).Good:=⟨C6 ue,rfl,rfl,fun v hv=>by
 have:v=aD:=by simpa[vJ]using hv
 rw[this];exact fQ⟩
theorem vB {Ms:List (List XD)} (h:pT Ms=false):Ms.length≤100000∧∀ M∈Ms,M.length≤100000∧∀ x∈M,x.size≤100000:=by
 unfold pT at h
 simp only[Bool.or_eq_false_iff,decide_eq_false_iff_not]at h
 obtain⟨h1,h2⟩:=h
 refine⟨by omega,fun M hM=> ?_⟩
 have:fR M=false:=by
  cases hg:fR M with
  | false=>rfl
  | true=>
    have:Ms.any fR=true:=List.any_eq_true.2 ⟨M,hM,hg⟩
    rw[this]at h1;cases h1
 obtain⟨q1,q2⟩:=Gf this
 exact⟨by omega,fun x hx=>by have:=q2 x hx;omega⟩
section
variable {h:AH}
end
theorem MS:(Tryz.prog).underlying 22=some (.slice 80):=by kernel_rfl
theorem K0:jP Tryz.prog 37=some [3,3,3,35]:=by kernel_rfl
theorem AL:∀ {es:List (List AV)},(∀ r∈es,∃ L,Gw L r)→∃ Ms,nC Ms es
 | [],_=>⟨[],rfl⟩
 | r::es,h=>by
   obtain⟨L,hL⟩:=h r (by simp)
   obtain⟨Ms,hm⟩:=AL fun q hq=>h q (List.mem_cons_of_mem _ hq)
   exact⟨L::Ms,r,es,rfl,hL,hm⟩
theorem Hx {n:Nat} {av:AV} (h:TyA Tryz.prog n 22 [av]):∃ (es:List (List AV)) (Ms:List (List XD)),SlA tMo av es∧nC Ms es∧Ms.length≤9223372036854775807:=by
 obtain⟨m,v,es,rfl,e,hv,hlen,hr⟩:=ni MS h
 obtain rfl:av=v:=by simpa using e
 obtain⟨Ms,hm⟩:=AL (es:=es) fun r hr'=>KX (hr r hr').2
 refine⟨es,Ms,hv.sla,hm,?_⟩
 rw[←hm.len]
 unfold maxLen at hlen
 omega
theorem G4 {n:Nat} {r:List AV} (h:TyA Tryz.prog n 37 r):∃ (p f fuel:Int) (v:VD) (q:List AV),r=[.int .i64 p,.int .i64 f,.int .i64 fuel]++q∧VaA v q:=by
 obtain⟨m2,rfl,parts,rfl,hl,hf⟩:=iU K0 h
 obtain⟨p0,a0,_,b0⟩:=hf 0 _ rfl
 obtain⟨p1,a1,_,b1⟩:=hf 1 _ rfl
 obtain⟨p2,a2,_,b2⟩:=hf 2 _ rfl
 obtain⟨p3,a3,_,b3⟩:=hf 3 _ rfl
 obtain⟨z0,rfl,_⟩:=fK oz b0
 obtain⟨z1,rfl,_⟩:=fK oz b1
 obtain⟨z2,rfl,_⟩:=fK oz b2
 obtain⟨x,hx,_⟩:=Mb _ _ b3
 obtain⟨c0,c1,c2,c3,rfl⟩:=JU hl
 obtain rfl:=Option.some.inj a0
 obtain rfl:=Option.some.inj a1
 obtain rfl:=Option.some.inj a2
 obtain rfl:=Option.some.inj a3
 exact⟨z0,z1,z2,x,c3,by simp only[List.flatten_cons,List.flatten_nil,List.append_nil,List.cons_append,List.nil_append],hx⟩
def EG:List TypeId:=[3,2,109,78,80,22]
theorem Ci:mB Tryz.prog EG=true:=by kernel_rfl
def Fp:List TypeId:=[3,116,23]
theorem CY:mB Tryz.prog Fp=true:=by kernel_rfl
structure IK where
 (kind p q k h r g n:Int)
 m:List XD
structure EvD where
 (code fuel:Int)
 v:VD
structure HoD where
 ms:aI
 S:StD
 hands:List (List VD)
structure HoC where
 (hb bb gb wb:Nat)
section
variable {h h' h0:AH} {F J F0 J0:Nat→Prop} {L:List Asn} {hb bb:Nat} {hands:List (List VD)} {c:HoC} {H:HoD}
abbrev evR (c f:Int) (r:List AV):List AV:= .int .i64 c:: .int .i64 f::r
def EvR (e:EvD) (r:List AV):Prop:=∃ q,r=evR e.code e.fuel q∧VaA e.v q
end
def Mz:List XD:=[.mk 13 0 0 [.mk 3 0 0 []]]
def hb1:IK:=⟨1,1,0,0,0,0,0,0,Mz⟩
def hb2:IK:=⟨2,1,0,3,0,1, -1,0,[]⟩
def hb3:IK:=⟨4,1,0,0,0,0,0,0,[]⟩
section
variable {h h' h0:AH} {F J F0 J0:Nat→Prop} {L A B:List Asn} {c:HoC} {H:HoD}
end
structure JP where
 (plugin cell rights:Int)
structure WaD where
 H:HoD
 gifts:List JP
 links:List (Int×Int)
 (code at_ n:Int)
section
variable {h h' h0:AH} {F J F0 J0:Nat→Prop} {L:List Asn} {c:HoC} {H:HoD}
theorem xR {log:List dE}:∀ r∈log.map eL,r.all AV.one=true∧r.all ka=true:=fun r hr=>by
 obtain⟨e,_,rfl⟩:=List.mem_map.1 hr
 exact⟨rfl,rfl⟩
theorem yA (id:Option Nat) (rows:List (List AV)) (hf:∀ r∈rows,r.all AV.one=true∧r.all ka=true) (hl:rows.length≤1000000):
  ai Tryz.prog po 52 [.isl id tEn rows] h=some (.inl (.isl none tEn rows),h):=by
 refine ag sB rfl ?_;unfold mZ
 have e1:aG false tEn (.isl (some h.ids) tEn []) (.isl id tEn rows) (h.fresh 0)=some (.isl (some h.ids) tEn rows,if rows.length=0 then h.fresh 0 else(h.fresh 0).grow h.ids rows.length):=by
  simp only[aG,bS,if_true,Option.bind_some]
  by_cases hz:rows.length=0
  ·simp[hz,kt,List.length_eq_zero_iff.1 hz]
  ·rw[if_neg hz,if_neg hz]
   unfold dU
   rw[if_pos ⟨by omega,by omega,by rw[List.all_eq_true];exact fun r hr=>(hf r hr).1⟩]
   simp[mL]
 have hg:ab h (if rows.length=0 then h.fresh 0 else(h.fresh 0).grow h.ids rows.length):=by
  split
  ·exact ab.fresh h 0
  ·exact(ab.fresh h 0).grow (Nat.le_refl _)
 have hw:wkA (.isl (some h.ids) tEn rows)=some (.isl none tEn rows):=by
  simp only[wkA,ir fun r hr=>(hf r hr).2,Option.map_some]
 simp only[sim,af,reduceAdd,reduceSub,replicate,reduceCtorEq,reduceLeDiff,reduceLT,aa,e1,az hg hw]
theorem yC:ai Tryz.prog po 52 [.nils] h=some (.inl .nils,h):=by
 refine ag sB rfl ?_;unfold mZ
 simp only[sim,af,reduceAdd,reduceSub,replicate,reduceCtorEq,reduceLeDiff,reduceLT,aa]
 exact az (ab.refl h) rfl
theorem Bk (s:St h0 F0 J0 h L) (i:Nat) {wb:Nat} {cells:List Int} {log:List dE} (hi:L[i]? =some (aY wb cells log)) (hc:cells.length=12) (hn:log.length≤1000000):ai Tryz.prog po 17 [.ptr wb 0 0] h=some (.inl (fI tEn (log.map eL)),h):=by
 obtain⟨F,J,x⟩:=s.get i hi
 obtain⟨v,s1⟩:=lr x
 have cw:=(s1.cell 0 rfl).1
 have c12:=(i4 (v:=v) hc (j:=0) (by decide)).2.1
 have ld:∀ n,aK false n h (.ptr wb 0 12)=some v:=fun n=>by rw[bV,cw];exact c12
 have f12:aH 12 (.ptr wb 0 0)=some (.ptr wb 0 12):=rfl
 obtain⟨F1,J1,x1⟩:=s1.get 1 rfl
 rcases x1 with⟨⟨e1,rfl⟩,_⟩ | ⟨id,⟨e1,rfl⟩,_⟩
 ·rw[e1]
  refine ag A0 rfl ?_;unfold uz
  simp only[sim,af,reduceAdd,reduceSub,replicate,reduceCtorEq,reduceLeDiff,reduceLT,aa,f12,ld,yC]
  exact az (ab.refl h) rfl
 ·have hcl:=yA (h:=h) (some id) (log.map eL) xR (by simpa using hn)
  have hw:wkA (.isl none tEn (log.map eL))=some (fI tEn (log.map eL)):=by
   simp only[wkA,ir fun r hr=>(xR r hr).2,Option.map_some,fI,if_neg e1]
  refine ag A0 rfl ?_;unfold uz
  simp only[sim,af,reduceAdd,reduceSub,replicate,reduceCtorEq,reduceLeDiff,reduceLT,aa,f12,ld,hcl,az (ab.refl h) hw]
variable {lv:AV} {b4 b5 b10:Nat} {hs ks:List AV}
end
structure WaC extends HoC where
 wt:Nat
section
variable {h h' h0:AH} {F J F0 J0:Nat→Prop} {L:List Asn} {b hb:Nat} {gs:List JP} {ls:List (Int×Int)} {cd at_ n:Int}
end
section
variable {h h' h0:AH} {F J F0 J0:Nat→Prop} {L A B:List Asn} {c:WaC} {W:WaD}
theorem Fb {e:TypeId}:(eU e .nils []).A h (fun _=>False) (fun _=>False):= .inl ⟨⟨rfl,rfl⟩,fun _ h=>h,fun _ h=>h⟩
end
abbrev JT:=List (IK×EvD)
section
variable {d:JT} {own:Int→Int}
end
section
variable {d:JT} {own:Int→Int} {H:HoD}
end
def gJ:List RS:=[(.ops [(.i (.v 2) (.box 5 (.v 0))),(.i (.v 3) (.box 5 (.v 1))),(.i (.v 4) (.mv (.c (.bool false))))]),(.ops [(.i .l (.fad 0 (.v 2))),(.i .l (.load false 1 (.l 0))),(.i .l (.fad 0 (.v 3))),(.i .l (.load false 1 (.l 0))),(.i .l (.bin (.int .i64) .eql (.l 2) (.l 0))),(.i .l (.mv (.l 0))),(.g (.l 0) true .l (.fad 1 (.v 2))),(.g (.l 1) true .l (.load false 1 (.l 0))),(.g (.l 2) true .l (.fad 1 (.v 3))),(.g (.l 3) true .l (.load false 1 (.l 0))),(.g (.l 4) true .l (.bin (.int .i64) .eql (.l 2) (.l 0))),(.i .l (.pick (.l 5) (.l 0) (.c (.bool false)))),(.i .l (.mv (.l 0))),(.g (.l 0) true .l (.fad 2 (.v 2))),(.g (.l 1) true .l (.load true 3 (.l 0))),(.g (.l 2) true .l (.fad 2 (.v 3))),(.g (.l 3) true .l (.load true 3 (.l 0))),(.g (.l 4) true .l (.call (.c (.fn 19 [] [])) [(.l 2),(.l 0)])),(.i .l (.pick (.l 5) (.l 0) (.c (.bool false)))),(.i (.v 4) (.mv (.l 0)))]),.ret]
theorem jM:FnR Tryz.prog po 13 2 5 [0,1,2,3,4] gJ [(.v 4)] true:=⟨_,_,Tryz.func13,rfl,rfl,by kernel_rfl,by kernel_rfl,by kernel_rfl,by kernel_rfl,by kernel_rfl⟩
def dL:List RS:=[(.ops [(.i .l (.mv (.v 3))),(.i .l (.mv (.v 0))),(.i .l (.len false (some 137) (.l 0))),(.i (.v 5) (.bin (.int .i64) .lss (.l 2) (.l 0)))]),(.cond (.v 5) [] [(.exit 0)]),(.block 1 [(.ops [(.i .l (.mv (.v 0))),(.i .l (.mv (.v 3))),(.i .l (.ixa (some 137) none (.l 1) (.l 0))),(.i .l (.load true 4 (.l 0))),(.i .l (.mv (.v 1))),(.i .l (.mv (.v 3))),(.i .l (.ixa (some 137) none (.l 1) (.l 0))),(.i .l (.load true 4 (.l 0))),(.i (.v 6) (.binG .agg (some [(.int .i64),(.int .i64),(.int .i64),(.int .i64)]) false .neq (.l 4) (.l 0)))]),(.cond (.v 6) [(.ops [(.i (.v 2) (.mv (.c (.bool false))))]),.ret] [])]),(.ops [(.i .l (.mv (.v 3))),(.i .l (.bin (.int .i64) .add (.l 0) (.c (.int .i64 1)))),(.i (.v 3) (.mv (.l 0)))])]
def kD:List RS:=[(.ops [(.i (.v 2) (.mv (.c (.bool false))))]),(.ops [(.i .l (.mv (.v 0))),(.i .l (.len false (some 137) (.l 0))),(.i .l (.mv (.v 1))),(.i .l (.len false (some 137) (.l 0))),(.i (.v 4) (.bin (.int .i64) .neq (.l 2) (.l 0)))]),(.cond (.v 4) [(.ops [(.i (.v 2) (.mv (.c (.bool false))))]),.ret] []),(.ops [(.i (.v 3) (.mv (.c (.int .i64 0))))]),(.block 0 [(.loop dL)]),(.ops [(.i (.v 2) (.mv (.c (.bool true))))]),.ret]
theorem qK:FnR Tryz.prog po 16 2 7 [0,1,4,5,10,14,25] kD [(.v 2)] true:=⟨_,_,Tryz.func16,rfl,rfl,by kernel_rfl,by kernel_rfl,by kernel_rfl,by kernel_rfl,by kernel_rfl⟩
def gP:List RS:=[(.ops [(.i .l (.mv (.v 11))),(.i .l (.mv (.v 2))),(.i .l (.len false (some 37) (.l 0))),(.i (.v 19) (.bin (.int .i64) .lss (.l 2) (.l 0)))]),(.cond (.v 19) [] [(.exit 2)]),(.block 3 [(.ops [(.i .l (.mv (.v 5))),(.i .l (.mv (.v 2))),(.i .l (.mv (.v 11))),(.i .l (.ixa (some 37) none (.l 1) (.l 0))),(.i .l (.fad 0 (.l 0))),(.i .l (.load false 1 (.l 0))),(.i .l (.mv (.v 2))),(.i .l (.mv (.v 11))),(.i .l (.ixa (some 37) none (.l 1) (.l 0))),(.i .l (.fad 1 (.l 0))),(.i .l (.load false 1 (.l 0))),(.i .l (.mv (.v 2))),(.i .l (.mv (.v 11))),(.i .l (.ixa (some 37) none (.l 1) (.l 0))),(.i .l (.fad 3 (.l 0))),(.i .l (.load true 3 (.l 0))),(.i .l (.mv (.v 2))),(.i .l (.mv (.v 11))),(.i .l (.ixa (some 37) none (.l 1) (.l 0))),(.i .l (.fad 2 (.l 0))),(.i .l (.load false 1 (.l 0))),(.i .l (.call (.c (.fn 12 [] [])) [(.l 20),(.l 15),(.l 10),(.l 5),(.l 0)])),(.i .l (.mv (.l 0))),(.i .l (.ext (.l 0) 0)),(.i .l (.ext (.l 1) 1)),(.i .l (.ext (.l 2) 2)),(.i (.v 12) (.alloc [(.int .i64 0),(.int .i64 0),.nils])),(.ck [⟨none,false,1,(.l 21),(.l 20)⟩,⟨none,false,1,(.l 16),(.l 15)⟩,⟨none,true,3,(.l 11),(.l 10)⟩,⟨none,false,1,(.l 6),(.l 5)⟩]),(.i .n (.store 3 (.v 12) (.l 2))),(.i (.v 13) (.mv (.l 1))),(.i (.v 14) (.mv (.l 0)))]),(.ops [(.i .l (.mv (.v 6))),(.i .l (.mv (.v 11))),(.i .l (.ixa (some 41) none (.l 1) (.l 0))),(.i .l (.load true 5 (.l 0))),(.i .l (.mv (.v 14))),(.i .l (.mv (.v 13))),(.i .l (.load true 3 (.v 12))),(.i .l (.build [(.int .i64 0),(.int .i64 0),(.int .i64 0),(.int .i64 0),.nils] [(0,1),(1,1),(2,3)] [(0,(.l 2)),(1,(.l 1)),(2,(.l 0))])),(.i .l (.call (.c (.fn 13 [] [])) [(.l 4),(.l 0)])),(.i (.v 20) (.un .not (.l 0)))]),(.cond (.v 20) [(.ops [(.i (.v 3) (.mv (.c (.bool false))))]),.ret] [])]),(.ops [(.i .l (.mv (.v 11))),(.i .l (.bin (.int .i64) .add (.l 0) (.c (.int .i64 1)))),(.i (.v 11) (.mv (.l 0)))])]
def dn:List RS:=[(.ops [(.i .l (.mv (.v 7))),(.i .l (.mv (.v 2))),(.i .l (.len false (some 37) (.l 0))),(.i (.v 17) (.bin (.int .i64) .lss (.l 2) (.l 0)))]),(.cond (.v 17) [] [(.exit 0)]),(.block 1 [(.ops [(.i .l (.mv (.v 2))),(.i .l (.mv (.v 7))),(.i .l (.ixa (some 37) none (.l 1) (.l 0))),(.i .l (.fad 3 (.l 0))),(.i .l (.load true 3 (.l 0))),(.i (.v 18) (.call (.c (.fn 11 [] [])) [(.l 0)]))]),(.cond (.v 18) [(.ops [(.i (.v 3) (.mv (.c (.bool true))))]),.ret] []),(.ops [(.i .l (.mv (.v 4))),(.i .l (.mv (.v 2))),(.i .l (.mv (.v 7))),(.i .l (.ixa (some 37) none (.l 1) (.l 0))),(.i .l (.fad 0 (.l 0))),(.i .l (.load false 1 (.l 0))),(.i .l (.mv (.v 2))),(.i .l (.mv (.v 7))),(.i .l (.ixa (some 37) none (.l 1) (.l 0))),(.i .l (.fad 1 (.l 0))),(.i .l (.load false 1 (.l 0))),(.i .l (.mv (.v 2))),(.i .l (.mv (.v 7))),(.i .l (.ixa (some 37) none (.l 1) (.l 0))),(.i .l (.fad 3 (.l 0))),(.i .l (.load true 3 (.l 0))),(.i .l (.mv (.v 2))),(.i .l (.mv (.v 7))),(.i .l (.ixa (some 37) none (.l 1) (.l 0))),(.i .l (.fad 2 (.l 0))),(.i .l (.load false 1 (.l 0))),(.i .l (.call (.c (.fn 12 [] [])) [(.l 20),(.l 15),(.l 10),(.l 5),(.l 0)])),(.i .l (.mv (.l 0))),(.i .l (.ext (.l 0) 0)),(.i .l (.ext (.l 1) 1)),(.i .l (.ext (.l 2) 2)),(.i (.v 8) (.alloc [(.int .i64 0),(.int .i64 0),.nils])),(.ck [⟨none,false,1,(.l 21),(.l 20)⟩,⟨none,false,1,(.l 16),(.l 15)⟩,⟨none,true,3,(.l 11),(.l 10)⟩,⟨none,false,1,(.l 6),(.l 5)⟩]),(.i .n (.store 3 (.v 8) (.l 2))),(.i (.v 9) (.mv (.l 1))),(.i (.v 10) (.mv (.l 0)))]),(.ops [(.i .l (.mv (.v 6))),(.i .l (.mv (.v 10))),(.i .l (.mv (.v 9))),(.i .l (.load true 3 (.v 8))),(.i .l (.build [(.int .i64 0),(.int .i64 0),(.int .i64 0),(.int .i64 0),.nils] [(0,1),(1,1),(2,3)] [(0,(.l 2)),(1,(.l 1)),(2,(.l 0))])),(.i .l (.bsl false 41 [(.int .i64 0),(.int .i64 0),(.int .i64 0),(.int .i64 0),.nils] 5 1 [(0,(.l 0))])),(.i .l (.app false 41 (.l 5) (.l 0))),(.i (.v 6) (.mv (.l 0)))])]),(.ops [(.i .l (.mv (.v 7))),(.i .l (.bin (.int .i64) .add (.l 0) (.c (.int .i64 1)))),(.i (.v 7) (.mv (.l 0)))])]
def gX:List RS:=[(.ops [(.i (.v 3) (.mv (.c (.bool false))))]),(.ops [(.i .l (.call (.c (.fn 8 [] [])) [])),(.i (.v 15) (.un .not (.l 0)))]),(.cond (.v 15) [(.ops [(.i (.v 3) (.mv (.c (.bool false))))]),.ret] []),(.ops [(.i .l (.mv (.v 0))),(.i .l (.call (.c (.fn 9 [] [])) [(.l 0)])),(.i .l (.mv (.l 0))),(.g (.l 0) false .l (.mv (.v 1))),(.g (.l 1) false .l (.len false (some 116) (.l 0))),(.g (.l 2) false .l (.bin (.int .i64) .gtr (.l 0) (.c (.int .i64 100)))),(.i .l (.pick (.l 3) (.c (.bool true)) (.l 0))),(.i .l (.mv (.l 0))),(.g (.l 0) false .l (.mv (.v 2))),(.g (.l 1) false .l (.len false (some 37) (.l 0))),(.g (.l 2) false .l (.bin (.int .i64) .gtr (.l 0) (.c (.int .i64 30)))),(.i (.v 16) (.pick (.l 3) (.c (.bool true)) (.l 0)))]),(.cond (.v 16) [(.ops [(.i (.v 3) (.mv (.c (.bool true))))]),.ret] []),(.ops [(.i .l (.mv (.v 0))),(.i .l (.mv (.v 1))),(.i .l (.call (.c (.fn 10 [] [])) [(.l 1),(.l 0)])),(.i .l (.mv (.l 0))),(.i .l (.ext (.l 0) 0)),(.i .l (.ext (.l 1) 1)),(.i (.v 4) (.mv (.l 1))),(.i .l (.mv (.l 0)))]),(.ops [(.i .l (.mv (.v 0))),(.i .l (.mv (.v 1))),(.i .l (.call (.c (.fn 10 [] [])) [(.l 1),(.l 0)])),(.i .l (.mv (.l 0))),(.i .l (.ext (.l 0) 0)),(.i .l (.ext (.l 1) 1)),(.i (.v 5) (.mv (.l 1))),(.i .l (.mv (.l 0)))]),(.ops [(.i (.v 6) (.mv (.c .nils)))]),(.ops [(.i (.v 7) (.mv (.c (.int .i64 0))))]),(.block 0 [(.loop dn)]),(.ops [(.i (.v 11) (.mv (.c (.int .i64 0))))]),(.block 2 [(.loop gP)]),(.ops [(.i .l (.mv (.v 4))),(.i .l (.nilc (.l 0))),(.i .l (.fad 0 (.l 0))),(.i .l (.load false 1 (.l 0))),(.i .l (.mv (.v 5))),(.i .l (.nilc (.l 0))),(.i .l (.fad 0 (.l 0))),(.i .l (.load false 1 (.l 0))),(.i .l (.call (.c (.fn 15 [] [])) [(.l 4)])),(.ck [⟨none,false,1,(.l 2),(.l 1)⟩]),(.i .l (.call (.c (.fn 15 [] [])) [(.l 1)])),(.i .l (.call (.c (.fn 14 [] [])) [(.l 1),(.l 0)])),(.i .l (.mv (.l 0))),(.g (.l 0) true .l (.mv (.v 4))),(.g (.l 1) true .l (.nilc (.l 0))),(.g (.l 2) true .l (.fad 1 (.l 0))),(.g (.l 3) true .l (.load false 1 (.l 0))),(.g (.l 4) true .l (.mv (.v 5))),(.g (.l 5) true .l (.nilc (.l 0))),(.g (.l 6) true .l (.fad 1 (.l 0))),(.g (.l 7) true .l (.load false 1 (.l 0))),(.g (.l 8) true .l (.call (.c (.fn 17 [] [])) [(.l 4)])),(.ck [⟨(some ((.l 9),true)),false,1,(.l 2),(.l 1)⟩]),(.g (.l 9) true .l (.call (.c (.fn 17 [] [])) [(.l 1)])),(.g (.l 10) true .l (.call (.c (.fn 16 [] [])) [(.l 1),(.l 0)])),(.i .l (.pick (.l 11) (.l 0) (.c (.bool false)))),(.i (.v 3) (.mv (.l 0)))]),.ret]
theorem ja:FnR Tryz.prog po 3 3 21 [0,1,2,6,7,9,11,12,13,14,15,16,17,18,19,21,33,49,57,94,132] gX [(.v 3)] true:=⟨_,_,Tryz.func3,rfl,rfl,by kernel_rfl,by kernel_rfl,by kernel_rfl,by kernel_rfl,by kernel_rfl⟩
abbrev tEv:TypeId:=41
def CB (es:List EvD) (rows:List (List AV)):Prop:=rows.length=es.length∧∀ (i:Nat) (e:EvD),es[i]? =some e→∃ r,rows[i]? =some r∧EvR e r
theorem CB.snoc {es:List EvD} {rows:List (List AV)} (h:CB es rows) {e:EvD} {r:List AV} (hr:EvR e r):CB (es++[e]) (rows++[r]):=by
 refine⟨by simp[h.1],fun i x hi=> ?_⟩
 by_cases hlt:i<es.length
 ·rw[List.getElem?_append_left hlt]at hi
  obtain⟨q,h1,h2⟩:=h.2 i x hi
  exact⟨q,by rw[List.getElem?_append_left (by rw[h.1];exact hlt)];exact h1,h2⟩
 ·rw[List.getElem?_append_right (by omega)]at hi
  have h0:i - es.length=0:=by
   have:=(List.getElem?_eq_some_iff.1 hi).1
   simpa using this
  rw[h0]at hi
  obtain rfl:e=x:=by simpa using hi
  exact⟨r,by rw[List.getElem?_append_right (by rw[h.1];omega),h.1,h0];rfl,hr⟩
theorem E8 {h:AH} {F J:Nat→Prop} {e:TypeId} {v:AV} {rows:List (List AV)} (x:(eU e v rows).A h F J):SlA e v rows:=by
 rcases x with⟨⟨h1,h2⟩,_⟩ | ⟨id,⟨_,h2⟩,_⟩
 ·exact .inl ⟨h1,h2⟩
 ·exact .inr ⟨some id,h2⟩
section
variable {h h' h0:AH} {F J F0 J0:Nat→Prop} {L:List Asn} {c:WaC} {W:WaD}
theorem rO {a b:EvD} {r s:List AV} (hr:EvR a r) (hs:EvR b s) (hz:a.v.size≤100000):ai Tryz.prog po 13 [.agg r,.agg s] h=some (.inl (.bool (decide (a.code=b.code) && (decide (a.fuel=b.fuel) && j7 a.v b.v))),h):=by
 obtain⟨q1,rfl,w1⟩:=hr
 obtain⟨q2,rfl,w2⟩:=hs
 have sv:=fun h=>wI _ a.v (Nat.le_refl _) hz b.v q1 q2 h w1 w2
 obtain⟨u1,rfl,o1⟩:=w1.cells3
 obtain⟨u2,rfl,o2⟩:=w2.cells3
 have l1:ldA true 3 (evR a.code a.fuel [.int .i64 a.v.kind,.int .i64 a.v.n,u1]) 2=some (.agg [.int .i64 a.v.kind,.int .i64 a.v.n,u1]):=rfl
 have l2:ldA true 3 (evR b.code b.fuel [.int .i64 b.v.kind,.int .i64 b.v.n,u2]) 2=some (.agg [.int .i64 b.v.kind,.int .i64 b.v.n,u2]):=rfl
 have g2:∀ x y,ab h ((h.push x).push y):=fun x y=>(ab.push _ _).trans (ab.push _ _)
 simp only[evR]at l1 l2 ⊢
 cases d1:decide (a.code=b.code)with
 | false=>
   refine ag jM rfl ?_;unfold gJ
   simp only[sim,af,reduceAdd,reduceSub,replicate,reduceCtorEq,reduceLeDiff,reduceLT,aa,o1,o2,d1]
   exact az (g2 _ _) rfl
 | true=>
   cases d2:decide (a.fuel=b.fuel)with
   | false=>
     refine ag jM rfl ?_;unfold gJ
     simp only[sim,af,reduceAdd,reduceSub,replicate,reduceCtorEq,reduceLeDiff,reduceLT,aa,o1,o2,d1,d2]
     exact az (g2 _ _) rfl
   | true=>
     refine ag jM rfl ?_;unfold gJ
     simp only[sim,af,reduceAdd,reduceSub,replicate,reduceCtorEq,reduceLeDiff,reduceLT,aa,au,o1,o2,d1,d2,l1,l2,sv,Bool.true_and]
     exact az (g2 _ _) rfl
theorem KO (s:St h0 F0 J0 h L) (i:Nat) {v:AV} {erows:List (List AV)} (hi:L[i]? =some (eU tEv v erows)) {r:List AV} (hr:r.all AV.one=true) (hl:erows.length≤1000000):
  ∃ h' v',aG false tEv v (.isl (some h.ids) tEv [r]) (h.fresh 1)=some (v',h')∧St h0 F0 J0 h' (L.set i (eU tEv v' (erows++[r]))):=by
 obtain⟨h',v',e,s'⟩:=s.callE (R:=fun h1 (v':AV)=>aG false tEv v (.isl (some h.ids) tEv [r]) (h.fresh 1)=some (v',h1)) i hi (Y:=fun v'=>eU tEv v' (erows++[r])) fun F J x=>by
  obtain⟨v',h1,a1,a2,a3,a4,_,a5⟩:=nG x hr hl
  exact⟨h1,v',a1,a4⟩
 exact⟨h',v',e,s'⟩
end
end Go.Proofs.YtkdbjfncchmmpaaGreat
