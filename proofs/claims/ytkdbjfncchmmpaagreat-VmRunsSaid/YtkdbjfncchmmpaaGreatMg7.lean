/- What the instructions do is what the expressions say. No program here. -/
import Derived.Test.YtkdbjfncchmmpaaGreatMg6
namespace Go.Proofs.YtkdbjfncchmmpaaGreat
open Nat renaming reduceAdd→θ,reduceSub→ξ,reduceLeDiff→ψ,reduceLT→ω
open List renaming replicate→η
set_option linter.unusedSimpArgs false
set_option linter.unusedVariables false
set_option linter.unusedSimpArgs false
set_option linter.unusedVariables false
open Go
theorem rT {ms:aO} (g:nO ms) {p k:Int} (hk:k.toNat<(bQ ms p).length):(dG ms p k).fault (bQ ms p).length 0=0:=by
 have:dG ms p k=(bQ ms p)[k.toNat]:=by simp[dG,List.getD,hk]
 rw[this]
 exact g p _ (List.getElem_mem hk)
def MaD.after (m:MaD) (S:StD) (k:Nat) (vs:List VD):MaD:={S:=S,top:={m.top with pc:=m.top.pc+k,stack:=m.top.stack++vs},below:=m.below}
def bF (ms:aO) (m:MaD) (c:List bq):Prop:=∃ pre post,fB ms m.top.plugin m.top.f=pre++c++post∧m.top.pc=pre.length
theorem bF.get {ms:aO} {m:MaD} {x:bq} {c:List bq} (h:bF ms m (x::c)):(fB ms m.top.plugin m.top.f).getD m.top.pc rQ=x:=by
 obtain⟨pre,post,e,hp⟩:=h
 rw[e,hp]
 simp[List.getD]
theorem bF.at {ms:aO} {m:MaD} {x:bq} {c:List bq} (h:bF ms m (x::c)) (hg:m.Good ms) (ho:Lv m x):Ok ms m:=by
 refine⟨hg,?_,by rw[h.get];exact ho⟩
 obtain⟨pre,post,e,hp⟩:=h
 rw[e,hp]
 simp
theorem MaD.Good.after {ms:aO} {m:MaD} {S:StD} {k:Nat} {vs:List VD} (h:m.Good ms) (hS:S.Good) (hmu:S.mu≤m.S.mu) (hl:S.left+vs.length≤m.S.left) (hv:∀ v∈vs,v.code=0):(m.after S k vs).Good ms:=by
 have h1:=h.stk;have h2:=h.nms;have h3:=h.mu
 refine⟨hS,⟨h.top.p0,h.top.there,h.top.f0,h.top.f1,h.top.arg,h.top.names,fun v hm=> ?_,h.top.gates⟩,Nat.le_trans hmu h3,?_,?_,h.few⟩
 ·rcases List.mem_append.1 hm with hm | hm
  ·exact h.top.stack v hm
  ·exact hv v hm
 ·simp only[MaD.after,List.length_append];omega
 ·simp only[MaD.after];omega
theorem MaD.Good.next {ms:aO} {m m':MaD} (h:m.Good ms) (hS:m'.S=m.S) (hb:m'.below.length=m.below.length) (ht:m'.top.Good ms) (h1:m'.top.stack.length≤m.top.stack.length) (h2:m'.top.names.length+m'.S.left≤100000):m'.Good ms:=by
 have h3:=h.stk;have h4:=h.mu;have h5:=h.few
 refine⟨by rw[hS];exact h.S,ht,by rw[hS];exact h4,by rw[hS];omega,h2,by omega⟩
theorem Lv.tick (m:MaD):Lv m ⟨100,0,0⟩:=⟨by simp,by simp,by simp,by simp,by simp,by simp⟩
theorem bF.left {ms:aO} {m:MaD} {a b:List bq} (h:bF ms m (a++b)):bF ms m a:=by
 obtain⟨pre,post,e,hp⟩:=h
 exact⟨pre,b++post,by rw[e];simp,hp⟩
theorem bF.right {ms:aO} {m m':MaD} {a b:List bq} (h:bF ms m (a++b)) (h1:m'.top.plugin=m.top.plugin) (h2:m'.top.f=m.top.f) (h3:m'.top.pc=m.top.pc+a.length):bF ms m' b:=by
 obtain⟨pre,post,e,hp⟩:=h
 exact⟨pre++a,post,by rw[h1,h2,e];simp,by rw[h3,hp];simp⟩
def iq (ms:aO) (m:MaD) (k:Nat) (q:StD×VD×Int):Prop:=
 if q.2.2≠0 then i9 ms m (.fail q.1 q.2.2)else ∀ r,i9 ms (m.after q.1 k [q.2.1]) r→i9 ms m r
def Ib (ms:aO) (m:MaD) (k:Nat) (acc:List VD) (q:StD×List VD×Int):Prop:=
 if q.2.2≠0 then i9 ms m (.fail q.1 q.2.2)else ∃ ws,q.2.1=acc++ws∧∀ r,i9 ms (m.after q.1 k ws) r→i9 ms m r
theorem iq.no {ms:aO} {m:MaD} {k:Nat} {S:StD} {c:Int} (hc:c≠0) (h:i9 ms m (.fail S c)):iq ms m k (S.no c):=by
 unfold iq
 rw[if_pos (show(S.no c).2.2≠0 from hc)]
 exact h
theorem iq.ok {ms:aO} {m:MaD} {k:Nat} {S:StD} {v:VD} (h:∀ r,i9 ms (m.after S k [v]) r→i9 ms m r):iq ms m k (S.ok v):=by
 unfold iq
 rw[if_neg (by simp[StD.ok])]
 exact h
theorem Vt {ms:aO} {m:MaD} {c:List bq} (hG:m.Good ms) (h:bF ms m (⟨100,0,0⟩::c)) (hl:m.S.left≠0) {r:kH} (hr:i9 ms (m.after m.S.tick 1 []) r):i9 ms m r:=by
 refine .go (h.at hG (.tick m)) ?_ hr
 unfold iD
 simp only[h.get,if_true]
 rw[if_neg hl]
 simp[MaD.after]
theorem Ey {ms:aO} {m:MaD} {c:List bq} (hG:m.Good ms) (h:bF ms m (⟨100,0,0⟩::c)) (hl:m.S.left=0):i9 ms m (.fail m.S 12):=by
 refine .fail (h.at hG (.tick m)) ?_
 unfold iD
 simp only[h.get,if_true]
 rw[if_pos hl]
theorem mA (st ws:List VD):mI (st++ws) ws.length=ws:=by
 unfold mI
 rw[List.length_append,Nat.add_sub_cancel]
 exact List.drop_left
theorem mq (st ws:List VD):oG (st++ws) ws.length=st:=by
 unfold oG
 rw[List.length_append,Nat.add_sub_cancel]
 exact List.take_left
theorem fJ (st:List VD) (v:VD):mI (st++[v]) 1=[v]:=mA st [v]
theorem jd (st:List VD) (v:VD):oG (st++[v]) 1=st:=mq st [v]
theorem KX (x:XD) (hx:∃ nf o,x.fault nf o=0) (p:Nat):∃ c,aF x p=⟨100,0,0⟩::c:=by
 obtain⟨nf,o,h⟩:=hx
 obtain⟨h1,h2,_⟩:=lu h
 rw[ky]
 unfold zk
 split
 ·rename_i h5
  rw[h5]at h2
  have:x.l.length=2:=by simp[bh]at h2;omega
  match hl:x.l,this with
  | [a,b],_=>exact⟨_,rfl⟩
 ·split
  ·rename_i h7
   rw[h7]at h2
   have:x.l.length=3:=by simp[bh]at h2;omega
   match hl:x.l,this with
   | [a,b,c],_=>exact⟨_,rfl⟩
  ·exact⟨_,rfl⟩
theorem LG {p:Int} {x y:XD} {arg:VD} {names:List VD} {S:StD} (h1:x.op=y.op) (h2:x.k=y.k) (h3:x.n=y.n):dZ p x arg names S=dZ p y arg names S:=by
 unfold dZ
 rw[h1,h2,h3]
theorem ik (m:MaD) (S S':StD) (a b:Nat) (vs ws:List VD):(m.after S a vs).after S' b ws=m.after S' (a+b) (vs++ws):=by
 simp[MaD.after,Nat.add_assoc]
theorem Gg (m:MaD):m.after m.S 0 []=m:=by simp[MaD.after]
theorem Fy {ms:aO} {m:MaD} {op k n:Int} {c:List bq} (h:bF ms m (⟨op,k,n⟩::c)) (ho:op<100):iD ms m=mP ms (m.after m.S 1 []) ⟨op,k,n⟩:=by
 unfold iD
 simp only[h.get]
 rw[if_neg (by omega),if_neg (by omega),if_neg (by omega),if_neg (by omega),if_neg (by omega),if_neg (by omega)]
 simp[MaD.after]
def ZB (ms:aO) (N:Nat):Prop:=∀ (x:XD) (m:MaD),m.Good ms→m.S.left≤N→x.fault (bQ ms m.top.plugin).length m.top.names.length=0→bF ms m (aF x m.top.pc)→
 iq ms m (aF x m.top.pc).length (ofD ms N m.top.plugin x m.top.arg m.top.names (m.below.length+1) m.S)
theorem MaD.Good.after1 {ms:aO} {m:MaD} {S':StD} {v:VD} {c:Int} {k:Nat} (h:m.Good ms) (hox:Ug m.S (S',v,c)) (hc:c=0):(m.after S' k [v]).Good ms:=by
 have h1:=hox.1.mu
 have h2:=hox.2 hc
 have h3:=hox.1.val hc
 simp only at h1 h2 h3
 exact h.after hox.1.good (by omega) (by simp only[List.length_singleton];omega) (fun w hw=>by simp only[List.mem_singleton]at hw;rw[hw];exact h3)
theorem ZO {ms:aO} {N:Nat} (ih:ZB ms N):∀ (l:List XD) (m:MaD) (acc:List VD),m.Good ms→m.S.left≤N→(∀ y∈l,y.fault (bQ ms m.top.plugin).length m.top.names.length=0)→bF ms m (jK (l.map aF) m.top.pc)→
  Ib ms m (jK (l.map aF) m.top.pc).length acc (evL (fun y S=>ofD ms N m.top.plugin y m.top.arg m.top.names (m.below.length+1) S) l m.S acc)
 | [],m,acc,_,_,_,_=>by
   unfold Ib
   simp only[evL,List.map_nil,jK,List.length_nil]
   rw[if_neg (by simp)]
   exact⟨[],by simp,fun r hr=>by rw[Gg]at hr;exact hr⟩
 | x::l,m,acc,hG,hl,hf,hs=>by
   simp only[List.map_cons,jK]at hs ⊢
   have h1:=ih x m hG hl (hf x (by simp)) hs.left
   have hle:=mj ms N m.top.plugin x m.top.arg m.top.names (m.below.length+1) m.S
   have hox:=fk ms N m.top.plugin x m.top.arg m.top.names (m.below.length+1) m.S hG.S hG.top.arg hG.top.names
   rw[evL]
   rcases hq:ofD ms N m.top.plugin x m.top.arg m.top.names (m.below.length+1) m.S with⟨S',v,c⟩
   rw[hq]at h1 hle hox
   simp only at h1 hle ⊢
   unfold iq at h1
   simp only at h1
   by_cases hc:c=0
   ·rw[if_neg (by simpa using hc)]at h1 ⊢
    have h2:=ZO ih l (m.after S' (aF x m.top.pc).length [v]) (acc++[v]) (hG.after1 hox hc) (Nat.le_trans hle hl) (fun y hy=>hf y (by simp[hy])) (hs.right rfl rfl rfl)
    have e1:(m.after S' (aF x m.top.pc).length [v]).top.pc=m.top.pc+(aF x m.top.pc).length:=rfl
    rw[e1]at h2
    change Ib ms _ _ _ (evL (fun y S=>ofD ms N m.top.plugin y m.top.arg m.top.names (m.below.length+1) S) l S' (acc++[v]))at h2
    generalize evL (fun y S=>ofD ms N m.top.plugin y m.top.arg m.top.names (m.below.length+1) S) l S' (acc++[v])=q at h2 ⊢
    unfold Ib at h2 ⊢
    by_cases hz:q.2.2=0
    ·rw[if_neg (by simpa using hz)]at h2 ⊢
     obtain⟨ws,e,h2⟩:=h2
     refine⟨v::ws,by rw[e];simp,fun r hr=>h1 r (h2 r ?_)⟩
     rw[ik,List.singleton_append]
     rw[List.length_append]at hr
     exact hr
    ·rw[if_pos hz]at h2 ⊢
     exact h1 _ h2
   ·rw[if_pos hc]at h1 ⊢
    unfold Ib
    simp only
    rw[if_pos hc]
    exact h1
theorem sY {op:Int} (h:0≤bh op):1≤op∧op≤21:=by
 unfold bh at h
 split at h
 ·omega
 ·split at h
  ·omega
  ·split at h
   ·omega
   ·split at h
    ·omega
    ·omega
theorem ue {ms:aO} {m:MaD} {c:List bq} (h:bF ms m (⟨105,0,0⟩::c)) {st:List VD} {v:VD} (hv:m.top.stack=st++[v]):iD ms m=(
  let q:=if m.top.asked then gK m.top.gates v m.S else m.S.ok v
  if q.2.2≠0 then .fail q.1 q.2.2 else match m.below.getLast? with
   | none=> .over q.1 q.2.1
   | some t=> .go ⟨q.1,{t with stack:=t.stack++[q.2.1]},m.below.dropLast⟩):=by
 unfold iD
 simp only[h.get]
 rw[if_neg (by omega),if_neg (by omega),if_neg (by omega),if_neg (by omega),if_neg (by omega),if_pos trivial]
 unfold MaD.back
 simp only[hv,fJ,List.getD_cons_zero]
 rfl
theorem tr {α:Type} (l:List α) (a:α):(l++[a]).getLast? =some a∧(l++[a]).dropLast=l:=⟨by simp,by simp⟩
theorem EI {nf k n o:Int} (h:lH nf 18 k n o=0):0≤k∧k<nf:=by
 unfold lH at h
 split at h
 ·cases h
 ·rw[if_neg (by decide),if_neg (by decide),if_neg (by decide),if_pos rfl]at h
  split at h
  ·cases h
  ·omega
theorem EN {nf k n o:Int} (h:lH nf 4 k n o=0):0≤k∧k<o:=by
 unfold lH at h
 split at h
 ·cases h
 ·rw[if_pos rfl]at h
  split at h
  ·cases h
  ·omega
theorem JX {ms:aO} {v x:VD} {fr:Nat} {S S':StD} {q:u5} (h:eC ms v x fr S=(S',q,0)):q.func.toNat<(bQ ms q.plugin).length∧fr≠20:=by
 unfold eC at h
 simp only at h
 split at h
 ·simp only[Prod.mk.injEq]at h;omega
 ·split at h
  ·simp only[Prod.mk.injEq]at h;omega
  ·split at h
   ·simp only[Prod.mk.injEq]at h;omega
   ·split at h
    ·simp only[Prod.mk.injEq]at h;omega
    ·rename_i hn
     split at h
     ·simp only[Prod.mk.injEq]at h;omega
     ·rename_i hf
      simp only[Prod.mk.injEq]at h
      obtain⟨_,rfl,_⟩:=h
      exact⟨by
       simp only
       have:¬ ((bQ ms (S.G.target v.n).1.plugin).length:Int)≤(S.G.target v.n).1.func:=fun e=>hn (.inr (.inl e))
       have h3:¬ (S.G.target v.n).1.func<0:=fun e=>hn (.inr (.inr e))
       omega,hf⟩
theorem Cj {f:XD→StD→StD×VD×Int}:∀ (l:List XD) (S:StD) (acc:List VD),(evL f l S acc).2.2=0→(evL f l S acc).2.1.length=acc.length+l.length
 | [],S,acc,_=>rfl
 | x::l,S,acc,h=>by
   rw[evL]at h ⊢
   rcases hq:f x S with⟨S',v,c⟩
   rw[hq]at h
   simp only at h ⊢
   by_cases hc:c=0
   ·rw[if_neg (by simpa using hc)]at h ⊢
    rw[Cj l S' _ h]
    simp
    omega
   ·rw[if_pos hc]at h
    exact absurd h hc
theorem jE {p:Int} {x:XD} {arg:VD} {names:List VD} {S:StD}:dZ p x arg names S=none↔¬ (x.op=1∨x.op=2∨x.op=3∨x.op=4∨x.op=21):=by
 unfold dZ
 constructor
 ·intro h
  repeat' split at h
  all_goals first
   | omega
   | cases h
 ·intro h
  rw[if_neg (by omega),if_neg (by omega),if_neg (by omega),if_neg (by omega),if_neg (by omega)]
theorem yp {α:Type} {l:List α} (h:l.length=2):∃ a b,l=[a,b]:=by
 match l,h with
 | [a,b],_=>exact⟨a,b,rfl⟩
theorem TA {α:Type} {l:List α} (h:l.length=3):∃ a b c,l=[a,b,c]:=by
 match l,h with
 | [a,b,c],_=>exact⟨a,b,c,rfl⟩
set_option maxHeartbeats 1000000 in
theorem Y8 {ms:aO} (hg:nO ms):∀ N:Nat,ZB ms N
 | 0,x,m,hG,hl,hf,hs=>by
   obtain⟨c,hc⟩:=KX x ⟨_,_,hf⟩ m.top.pc
   have h0:m.S.left=0:=by omega
   rw[hc]at hs
   exact iq.no (by decide) (Ey hG hs h0)
 | N+1,x,m,hG,hl,hf,hs=>by
   have ih:=Y8 hg N
   obtain⟨c,hc⟩:=KX x ⟨_,_,hf⟩ m.top.pc
   have hs0:=hs
   rw[hc]at hs0
   obtain⟨f1,f2,f3,f4,f5⟩:=lu hf
   rw[ofD]
   by_cases h0:m.S.left=0
   ·rw[if_pos h0]
    exact iq.no (by decide) (Ey hG hs0 h0)
   rw[if_neg h0]
   have go1:∀ r,i9 ms (m.after m.S.tick 1 []) r→i9 ms m r:=fun r hr=>Vt hG hs0 h0 hr
   have hG1:(m.after m.S.tick 1 []).Good ms:=hG.after hG.S.tick (by have:=sq h0;omega) (by have:=sq h0;simp only[List.length_nil];omega) (by simp)
   have hl1:m.S.tick.left≤N:=by show m.S.left - 1≤N;omega
   have hop:=sY f1
   by_cases o5:x.op=5
   ·have hlf:dZ m.top.plugin x m.top.arg m.top.names m.S.tick=none:=jE.2 (by omega)
    rw[hlf]
    simp only
    rw[if_pos o5]
    have hlen:x.l.length=2:=by rw[o5]at f2;simp[bh]at f2;omega
    obtain⟨a,b,hab⟩:=yp hlen
    rw[o5]at f5
    rw[hab]at f5 ⊢
    obtain⟨fa,f6⟩:=f8 f5
    obtain⟨fb,_⟩:=f8 f6
    rw[if_neg (by omega)]at fa
    rw[if_pos (by omega)]at fb
    simp only[List.getD_cons_zero,List.getD_cons_succ]
    have hcode:aF x m.top.pc=⟨100,0,0⟩::(aF a (m.top.pc+1)++(⟨101,0,0⟩::(aF b (m.top.pc+1+(aF a (m.top.pc+1)).length+1)++[⟨102,0,0⟩]))):=by
     rw[ky,hab]
     unfold zk
     rw[if_pos o5]
     rfl
    rw[hcode]at hs ⊢
    have hs1:bF ms (m.after m.S.tick 1 []) _:=bF.right (a:=[⟨100,0,0⟩]) hs rfl rfl rfl
    have h1:=ih a (m.after m.S.tick 1 []) hG1 hl1 fa hs1.left
    have hle:=mj ms N m.top.plugin a m.top.arg m.top.names (m.below.length+1) m.S.tick
    have hox:=fk ms N m.top.plugin a m.top.arg m.top.names (m.below.length+1) m.S.tick hG.S.tick hG.top.arg hG.top.names
    change iq ms _ _ (ofD ms N m.top.plugin a m.top.arg m.top.names (m.below.length+1) m.S.tick)at h1
    rcases hq:ofD ms N m.top.plugin a m.top.arg m.top.names (m.below.length+1) m.S.tick with⟨S',v,c⟩
    rw[hq]at h1 hle hox
    simp only at h1 hle ⊢
    unfold iq at h1
    simp only at h1
    by_cases hc:c=0
    ·rw[if_neg (by simpa using hc)]at h1 ⊢
     rw[ik]at h1
     generalize hA:aF a (m.top.pc+1)=A at*
     have hA':aF a (m.after m.S.tick 1 []).top.pc=A:=hA
     rw[hA']at h1
     have hs2:bF ms (m.after S' (1+A.length) ([]++[v])) (⟨101,0,0⟩::(aF b (m.top.pc+1+A.length+1)++[⟨102,0,0⟩])):=bF.right hs1 rfl rfl (by simp only[MaD.after];omega)
     have hG2:(m.after S' (1+A.length) ([]++[v])).Good ms:=by
      have:=MaD.Good.after1 (k:=A.length) hG1 hox hc
      rwa [ik]at this
     have ok2:=hs2.at hG2 ⟨by simp,by simp[MaD.after],by simp,by simp,by simp,by simp⟩
     have hvc:v.code=0:=hox.1.val hc
     have hlt:S'.left<m.S.tick.left:=hox.2 hc
     have htk:=(sq h0).2
     have hG3:(⟨S',{m.top with pc:=m.top.pc+1+A.length+1,names:=m.top.names++[v]},m.below⟩:MaD).Good ms:=by
      refine hG2.next rfl rfl ⟨hG.top.p0,hG.top.there,hG.top.f0,hG.top.f1,hG.top.arg,fun w hw=> ?_,hG.top.stack,hG.top.gates⟩ (by simp[MaD.after]) ?_
      ·rcases List.mem_append.1 hw with hw | hw
       ·exact hG.top.names w hw
       ·simp only[List.mem_singleton]at hw
        rw[hw];exact hvc
      ·have:=hG.nms
       simp only[List.length_append,List.length_singleton]
       omega
     -- the name is open
     have e1:iD ms (m.after S' (1+A.length) ([]++[v]))= .go {S:=S',top:={m.top with pc:=m.top.pc+1+A.length+1,names:=m.top.names++[v]},below:=m.below}:=by
      unfold iD
      simp only[hs2.get]
      rw[if_neg (by decide),if_pos trivial]
      simp only[MaD.after,List.nil_append,fJ,jd,List.getD_cons_zero]
      rw[Nat.add_assoc m.top.pc 1]
     have hs3:bF ms {S:=S',top:={m.top with pc:=m.top.pc+1+A.length+1,names:=m.top.names++[v]},below:=m.below} (aF b (m.top.pc+1+A.length+1)++[⟨102,0,0⟩]):=bF.right (a:=[⟨101,0,0⟩]) hs2 rfl rfl (by simp only[MaD.after,List.length_singleton];omega)
     have h2:=ih b {S:=S',top:={m.top with pc:=m.top.pc+1+A.length+1,names:=m.top.names++[v]},below:=m.below} hG3 (Nat.le_trans hle hl1) (by
      simp only[List.length_append,List.length_singleton]
      exact fb) hs3.left
     simp only at h2
     have hox3:=fk ms N m.top.plugin b m.top.arg (m.top.names++[v]) (m.below.length+1) S' hG3.S hG3.top.arg hG3.top.names
     generalize ofD ms N m.top.plugin b m.top.arg (m.top.names++[v]) (m.below.length+1) S'=q at h2 hox3 ⊢
     unfold iq at h2 ⊢
     by_cases hz:q.2.2=0
     ·rw[if_neg (by simpa using hz)]at h2 ⊢
      intro r hr
      refine go1 r (h1 r (.go ok2 e1 (h2 r ?_)))
      generalize aF b (m.top.pc+1+A.length+1)=B at*
      have hs4:bF ms (MaD.after {S:=S',top:={m.top with pc:=m.top.pc+1+A.length+1,names:=m.top.names++[v]},below:=m.below} q.1 B.length [q.2.1]) [⟨102,0,0⟩]:=bF.right hs3 rfl rfl rfl
      refine .go (hs4.at (MaD.Good.after1 (c:=q.2.2) hG3 hox3 hz) ⟨by simp,by simp,by simp[MaD.after],by simp,by simp,by simp⟩) (m':=m.after q.1 (⟨100,0,0⟩::(A++(⟨101,0,0⟩::(B++[⟨102,0,0⟩]))):List bq).length [q.2.1]) ?_ hr
      unfold iD
      simp only[hs4.get]
      rw[if_neg (by decide),if_neg (by decide),if_pos trivial]
      simp only[MaD.after,List.dropLast_concat,List.length_cons,List.length_append,List.length_nil]
      congr 3
      omega
     ·rw[if_pos hz]at h2 ⊢
      exact go1 _ (h1 _ (.go ok2 e1 h2))
    ·rw[if_pos hc]at h1 ⊢
     exact iq.no hc (go1 _ h1)
   by_cases o7:x.op=7
   ·have hlf:dZ m.top.plugin x m.top.arg m.top.names m.S.tick=none:=jE.2 (by omega)
    rw[hlf]
    simp only
    rw[if_neg o5,if_pos o7]
    have hlen:x.l.length=3:=by rw[o7]at f2;simp[bh]at f2;omega
    obtain⟨a,b,c',hab⟩:=TA hlen
    have fall:=jf o5 f5
    have fa:=fall a (by rw[hab];simp)
    have fb:=fall b (by rw[hab];simp)
    have fc:=fall c' (by rw[hab];simp)
    rw[hab]
    simp only[List.getD_cons_zero,List.getD_cons_succ]
    have hcode:aF x m.top.pc=⟨100,0,0⟩::(aF a (m.top.pc+1)++(⟨103,((jV (aF a) (aF b) m.top.pc:Nat):Int),0⟩::(aF b (m.top.pc+1+(aF a (m.top.pc+1)).length+1)++
      (⟨104,((jV (aF a) (aF b) m.top.pc+(aF c' (jV (aF a) (aF b) m.top.pc)).length:Nat):Int),0⟩::aF c' (jV (aF a) (aF b) m.top.pc))))):=by
     rw[ky,hab]
     unfold zk
     rw[if_neg o5,if_pos o7]
     rfl
    have hel:jV (aF a) (aF b) m.top.pc=m.top.pc+1+(aF a (m.top.pc+1)).length+1+(aF b (m.top.pc+1+(aF a (m.top.pc+1)).length+1)).length+1:=rfl
    rw[hcode]at hs ⊢
    have hs1:bF ms (m.after m.S.tick 1 []) _:=bF.right (a:=[⟨100,0,0⟩]) hs rfl rfl rfl
    have h1:=ih a (m.after m.S.tick 1 []) hG1 hl1 fa hs1.left
    have hle:=mj ms N m.top.plugin a m.top.arg m.top.names (m.below.length+1) m.S.tick
    have hox:=fk ms N m.top.plugin a m.top.arg m.top.names (m.below.length+1) m.S.tick hG.S.tick hG.top.arg hG.top.names
    change iq ms _ _ (ofD ms N m.top.plugin a m.top.arg m.top.names (m.below.length+1) m.S.tick)at h1
    rcases hq:ofD ms N m.top.plugin a m.top.arg m.top.names (m.below.length+1) m.S.tick with⟨S',v,c⟩
    rw[hq]at h1 hle hox
    simp only at h1 hle ⊢
    unfold iq at h1
    simp only at h1
    by_cases hc:c=0
    ·rw[if_neg (by simpa using hc)]at h1 ⊢
     rw[ik]at h1
     have hA':aF a (m.after m.S.tick 1 []).top.pc=aF a (m.top.pc+1):=rfl
     rw[hA']at h1
     have hB':∀ q,q=m.top.pc+1+(aF a (m.top.pc+1)).length+1→aF b q=aF b (m.top.pc+1+(aF a (m.top.pc+1)).length+1):=fun q e=>by rw[e]
     have hC':∀ q,q=jV (aF a) (aF b) m.top.pc→aF c' q=aF c' (jV (aF a) (aF b) m.top.pc):=fun q e=>by rw[e]
     generalize aF c' (jV (aF a) (aF b) m.top.pc)=C at*
     generalize jV (aF a) (aF b) m.top.pc=el at*
     generalize aF b (m.top.pc+1+(aF a (m.top.pc+1)).length+1)=B at*
     generalize aF a (m.top.pc+1)=A at*
     have hs2:bF ms (m.after S' (1+A.length) ([]++[v])) (⟨103,(el:Int),0⟩::(B++(⟨104,((el+C.length:Nat):Int),0⟩::C))):=bF.right hs1 rfl rfl (by simp only[MaD.after];omega)
     have hk:(⟨100,0,0⟩::(A++(⟨103,(el:Int),0⟩::(B++(⟨104,((el+C.length:Nat):Int),0⟩::C)))):List bq).length=1+A.length+1+B.length+1+C.length:=by simp only[List.length_cons,List.length_append];omega
     rw[hk]
     have go2:∀ r,i9 ms (m.after S' (1+A.length) ([]++[v])) r→i9 ms m r:=fun r hr=>go1 r (h1 r hr)
     have hG2:(m.after S' (1+A.length) ([]++[v])).Good ms:=by
      have:=MaD.Good.after1 (k:=A.length) hG1 hox hc
      rwa [ik]at this
     have ok2:=hs2.at hG2 ⟨by simp,by simp[MaD.after],by simp,by simp,by simp,by simp⟩
     have hG3:∀ pc,(⟨S',{m.top with pc:=pc},m.below⟩:MaD).Good ms:=fun pc=>by
      refine hG2.next rfl rfl ⟨hG.top.p0,hG.top.there,hG.top.f0,hG.top.f1,hG.top.arg,hG.top.names,hG.top.stack,hG.top.gates⟩ (by simp[MaD.after]) hG2.nms
     by_cases hv:v.kind=1
     ·rw[if_neg (by simpa using hv)]
      have e1:iD ms (m.after S' (1+A.length) ([]++[v]))= .go {S:=S',top:={m.top with pc:=if v.n=0 then el else m.top.pc+(1+A.length)+1},below:=m.below}:=by
       unfold iD
       simp only[hs2.get]
       rw[if_neg (by decide),if_neg (by decide),if_neg (by decide),if_pos trivial]
       simp only[MaD.after,List.nil_append,fJ,jd,List.getD_cons_zero,Int.toNat_natCast]
       rw[if_neg (by simpa using hv)]
      by_cases hn:v.n=0
      ·rw[if_neg (by simpa using hn)]
       rw[if_pos hn]at e1
       have hs3:bF ms {S:=S',top:={m.top with pc:=el},below:=m.below} C:=by
        have:=bF.right (m':={S:=S',top:={m.top with pc:=el},below:=m.below}) (a:=⟨100,0,0⟩::(A++(⟨103,(el:Int),0⟩::(B++[⟨104,((el+C.length:Nat):Int),0⟩])))) (b:=C) (ms:=ms) (m:=m) (by simpa using hs) rfl rfl (by simp only[List.length_cons,List.length_append,List.length_nil];omega)
        exact this
       have h2:=ih c' {S:=S',top:={m.top with pc:=el},below:=m.below} (hG3 _) (Nat.le_trans hle hl1) fc (by simp only;rw[hC' el rfl];exact hs3)
       simp only at h2
       rw[hC' el rfl]at h2
       generalize ofD ms N m.top.plugin c' m.top.arg m.top.names (m.below.length+1) S'=q at h2 ⊢
       unfold iq at h2 ⊢
       by_cases hz:q.2.2=0
       ·rw[if_neg (by simpa using hz)]at h2 ⊢
        intro r hr
        refine go2 r (.go ok2 e1 (h2 r ?_))
        have:(MaD.after {S:=S',top:={m.top with pc:=el},below:=m.below} q.1 C.length [q.2.1])=m.after q.1 (1+A.length+1+B.length+1+C.length) [q.2.1]:=by
         simp only[MaD.after]
         rw[show el+C.length=m.top.pc+(1+A.length+1+B.length+1+C.length) by omega]
        rw[this]
        exact hr
       ·rw[if_pos hz]at h2 ⊢
        exact go2 _ (.go ok2 e1 h2)
      ·rw[if_pos hn]
       rw[if_neg hn]at e1
       have hs3:bF ms {S:=S',top:={m.top with pc:=m.top.pc+(1+A.length)+1},below:=m.below} (B++(⟨104,((el+C.length:Nat):Int),0⟩::C)):=bF.right (a:=[⟨103,(el:Int),0⟩]) hs2 rfl rfl (by simp only[MaD.after,List.length_singleton])
       have hB:aF b (m.top.pc+(1+A.length)+1)=B:=hB' _ (by omega)
       have h2:=ih b {S:=S',top:={m.top with pc:=m.top.pc+(1+A.length)+1},below:=m.below} (hG3 _) (Nat.le_trans hle hl1) fb (by simp only;rw[hB];exact hs3.left)
       simp only at h2
       rw[hB]at h2
       have hox3:=fk ms N m.top.plugin b m.top.arg m.top.names (m.below.length+1) S' hG2.S hG.top.arg hG.top.names
       generalize ofD ms N m.top.plugin b m.top.arg m.top.names (m.below.length+1) S'=q at h2 hox3 ⊢
       unfold iq at h2 ⊢
       by_cases hz:q.2.2=0
       ·rw[if_neg (by simpa using hz)]at h2 ⊢
        intro r hr
        refine go2 r (.go ok2 e1 (h2 r ?_))
        have hs4:bF ms (MaD.after {S:=S',top:={m.top with pc:=m.top.pc+(1+A.length)+1},below:=m.below} q.1 B.length [q.2.1]) (⟨104,((el+C.length:Nat):Int),0⟩::C):=bF.right hs3 rfl rfl rfl
        refine .go (hs4.at (MaD.Good.after1 (c:=q.2.2) (hG3 _) hox3 hz) ⟨by simp,by simp,by simp,fun _=>Int.natCast_nonneg _,by simp,by simp⟩) (m':=m.after q.1 (1+A.length+1+B.length+1+C.length) [q.2.1]) ?_ hr
        unfold iD
        simp only[hs4.get]
        rw[if_neg (by decide),if_neg (by decide),if_neg (by decide),if_neg (by decide),if_pos trivial]
        simp only[MaD.after,Int.toNat_natCast]
        congr 3
        omega
       ·rw[if_pos hz]at h2 ⊢
        exact go2 _ (.go ok2 e1 h2)
     ·rw[if_pos hv]
      refine iq.no (by decide) (go2 _ (.fail ok2 ?_))
      unfold iD
      simp only[hs2.get]
      rw[if_neg (by decide),if_neg (by decide),if_neg (by decide),if_pos trivial]
      simp only[MaD.after,List.nil_append,fJ,List.getD_cons_zero]
      rw[if_pos hv]
    ·rw[if_pos hc]at h1 ⊢
     exact iq.no hc (go1 _ h1)
   have hcode:aF x m.top.pc=⟨100,0,0⟩::(jK (x.l.map aF) (m.top.pc+1)++[⟨x.op,x.k,x.n⟩]):=by
    rw[ky]
    unfold zk
    rw[if_neg o5,if_neg o7]
   rw[hcode]at hs ⊢
   have hs1:bF ms (m.after m.S.tick 1 []) (jK (x.l.map aF) (m.top.pc+1)++[⟨x.op,x.k,x.n⟩]):=bF.right (a:=[⟨100,0,0⟩]) hs rfl rfl rfl
   cases hlf:dZ m.top.plugin x m.top.arg m.top.names m.S.tick with
   | some v=>
     have hz:x.l=[]:=by
      have:x.op=1∨x.op=2∨x.op=3∨x.op=4∨x.op=21:=by
       rcases Classical.em (x.op=1∨x.op=2∨x.op=3∨x.op=4∨x.op=21)with h | h
       ·exact h
       ·rw[jE.2 h]at hlf
        cases hlf
      have hp:bh x.op=0:=by rw[bh,if_pos this]
      rw[hp]at f2
      exact List.length_eq_zero_iff.1 (by omega)
     rw[hz]at hs1 ⊢
     simp only[List.map_nil,jK,List.nil_append]at hs1 ⊢
     refine iq.ok fun r hr=>go1 r (.go (hs1.at hG1 ⟨.inl ⟨hop.1,hop.2,o5,o7⟩,fun h=>by simp only at h;omega,fun h=>by simp only at h;omega,fun h=>by simp only at h;omega,fun _=>by
      simp only
      rw[hz]at f2
      rw[←f2]
      simp,fun h=> ?_⟩) ?_ hr)
     ·simp only at h
      rw[h]at f3
      exact EN f3
     rw[Fy hs1 (by omega)]
     unfold mP
     have hlf2:dZ m.top.plugin (.mk x.op x.k x.n []) m.top.arg m.top.names m.S.tick=some v:=by
      rw[←hlf]
      exact LG rfl rfl rfl
     simp only[MaD.after,List.append_nil,hlf2,MaD.push,List.length_cons,List.length_nil]
   | none=>
     simp only
     rw[if_neg o5,if_neg o7]
     have hL:=ZO ih x.l (m.after m.S.tick 1 []) [] hG1 hl1 (jf o5 f5) hs1.left
     have hlen:=Cj (f:=fun y S=>ofD ms N m.top.plugin y m.top.arg m.top.names (m.below.length+1) S) x.l m.S.tick []
     have hle:=vQ (f:=fun y S=>ofD ms N m.top.plugin y m.top.arg m.top.names (m.below.length+1) S) (fun y S=>mj ms N m.top.plugin y m.top.arg m.top.names (m.below.length+1) S) x.l m.S.tick []
     have hoL:=BZ (f:=fun y S=>ofD ms N m.top.plugin y m.top.arg m.top.names (m.below.length+1) S) (fun y S h=>fk ms N m.top.plugin y m.top.arg m.top.names (m.below.length+1) S h hG.top.arg hG.top.names) x.l m.S.tick [] hG.S.tick (by simp)
     change Ib ms _ _ _ (evL (fun y S=>ofD ms N m.top.plugin y m.top.arg m.top.names (m.below.length+1) S) x.l m.S.tick [])at hL
     rcases hq:evL (fun y S=>ofD ms N m.top.plugin y m.top.arg m.top.names (m.below.length+1) S) x.l m.S.tick []with⟨S',l,c⟩
     rw[hq]at hL hlen hle hoL
     obtain⟨oL1,oL2,oL3,oL4⟩:=hoL
     simp only[List.length_nil,Nat.zero_add]at hL hlen hle ⊢
     unfold Ib at hL
     simp only at hL
     by_cases hc:c=0
     ·subst hc
      rw[if_neg (by simp)]at hL ⊢
      obtain⟨ws,hws,hL⟩:=hL
      rw[List.nil_append]at hws
      subst hws
      have hlen:=hlen rfl
      change ∀ r,i9 ms ((m.after m.S.tick 1 []).after S' (jK (x.l.map aF) (m.top.pc+1)).length l) r→_ at hL
      rw[ik,List.nil_append]at hL
      generalize jK (x.l.map aF) (m.top.pc+1)=A at*
      have go2:∀ r,i9 ms (m.after S' (1+A.length) l) r→i9 ms m r:=fun r hr=>go1 r (hL r hr)
      have hs2:bF ms (m.after S' (1+A.length) l) [⟨x.op,x.k,x.n⟩]:=bF.right hs1 rfl rfl (by simp only[MaD.after];omega)
      have hlf2:dZ m.top.plugin (.mk x.op x.k x.n []) m.top.arg m.top.names S'=none:=jE.2 (jE.1 hlf)
      have est:=Fy hs2 (by omega)
      have tk:=sq h0
      have hlv:=(oL4 rfl).1
      have hll:=(oL4 rfl).2
      simp only[List.length_nil,Nat.add_zero]at oL1 oL2 oL3 hlv hll
      have hG2:(m.after S' (1+A.length) l).Good ms:=hG.after oL1 (by omega) (by omega) hlv
      have ok2:Ok ms (m.after S' (1+A.length) l):=hs2.at hG2 ⟨.inl ⟨hop.1,hop.2,o5,o7⟩,fun h=>by simp only at h;omega,fun h=>by simp only at h;omega,fun h=>by simp only at h;omega,fun _=>by
       simp only[MaD.after,List.length_append]
       omega,fun h=>by
       have:=jE.1 hlf
       simp only at h
       omega⟩
      have hlp:(bh x.op).toNat=l.length:=by omega
      have hk:(⟨100,0,0⟩::(A++[⟨x.op,x.k,x.n⟩]):List bq).length=1+A.length+1:=by simp only[List.length_cons,List.length_append,List.length_nil];omega
      rw[hk]
      clear hk hcode hs hs1
      unfold mP at est
      simp only[MaD.after,List.append_nil,hlf2]at est
      by_cases o18:x.op=18
      ·rw[if_pos o18]at est ⊢
       rw[o18]at f2 f3
       obtain⟨k0,k1⟩:=EI f3
       obtain⟨v,rfl⟩:∃ v,l=[v]:=by
        have:l.length=1:=by rw[hlen];simp[bh]at f2;omega
        match l,this with
        | [v],_=>exact⟨v,rfl⟩
       rw[fJ,jd]at est
       simp only[List.getD_cons_zero]at est ⊢
       unfold MaD.call at est
       simp only at est
       by_cases hfr:m.below.length+1=20
       ·rw[if_pos hfr]at est ⊢
        exact iq.no (by decide) (go2 _ (.fail ok2 est))
       ·rw[if_neg hfr]at est ⊢
        have gf:=rT hg (p:=m.top.plugin) (k:=x.k) (by omega)
        have hG3:(⟨S',⟨m.top.plugin,x.k,0,v,[],[],false,[]⟩,m.below++[{m.top with pc:=m.top.pc+(1+A.length)+1}]⟩:MaD).Good ms:=by
         have g1:=hG.stk;have g2:=hG.few;have g3:=hG.mu
         refine⟨oL1,⟨hG.top.p0,hG.top.there,k0,by simp only;omega,hlv v (by simp),by simp,by simp,by simp⟩,by simp only;omega,?_,?_,?_⟩
         ·simp only[List.length_nil];omega
         ·simp only[List.length_nil];omega
         ·simp only[List.length_append,List.length_singleton];omega
        have hox3:=fk ms N m.top.plugin (dG ms m.top.plugin x.k) v [] (m.below.length+1+1) S' oL1 (hlv v (by simp)) (by simp)
        have h3:=ih (dG ms m.top.plugin x.k) ⟨S',⟨m.top.plugin,x.k,0,v,[],[],false,[]⟩,m.below++[{m.top with pc:=m.top.pc+(1+A.length)+1}]⟩ hG3 (Nat.le_trans hle hl1) gf ⟨[],[⟨105,0,0⟩],by simp[fB],rfl⟩
        simp only[List.length_append,List.length_singleton]at h3
        generalize ofD ms N m.top.plugin (dG ms m.top.plugin x.k) v [] (m.below.length+1+1) S'=q at h3 hox3 ⊢
        unfold iq at h3 ⊢
        by_cases hz:q.2.2=0
        ·rw[if_neg (by simpa using hz)]at h3 ⊢
         intro r hr
         refine go2 r (.go ok2 est (h3 r (.go (bF.at (c:=[]) (x:=⟨105,0,0⟩) ⟨aF (dG ms m.top.plugin x.k) 0,[],by simp[fB,MaD.after],by simp[MaD.after]⟩ (MaD.Good.after1 (c:=q.2.2) hG3 hox3 hz) ⟨by simp,by simp[MaD.after],by simp,by simp,by simp,by simp⟩) ?_ hr)))
         rw[ue (c:=[]) (st:=[]) (v:=q.2.1) ⟨aF (dG ms m.top.plugin x.k) 0,[],by simp[fB,MaD.after],by simp[MaD.after]⟩ rfl]
         simp only[MaD.after,StD.ok,tr]
         rw[if_neg (by simp)]
         simp only[tr,Bool.false_eq_true,if_false]
         simp[Nat.add_assoc]
        ·rw[if_pos hz]at h3 ⊢
         exact go2 _ (.go ok2 est h3)
      by_cases o19:x.op=19
      ·rw[if_neg o18,if_pos o19]at est ⊢
       rw[o19]at f2
       obtain⟨v,w,rfl⟩:∃ v w,l=[v,w]:=yp (by rw[hlen];simp[bh]at f2;omega)
       have tk:=mA m.top.stack [v,w]
       have dr:=mq m.top.stack [v,w]
       simp only[List.length_cons,List.length_nil,Nat.zero_add,θ]at tk dr
       rw[tk,dr]at est
       simp only[List.getD_cons_zero,List.getD_cons_succ]at est ⊢
       have hal:=tQ ms v w (m.below.length+1) S'
       have hao:=JK (ms:=ms) (v:=v) (x:=w) (fr:=m.below.length+1) oL1
       rcases hqa:eC ms v w (m.below.length+1) S' with⟨S2,q,c⟩
       rw[hqa]at est hal hao
       simp only at est hal hao ⊢
       by_cases hc:c=0
       ·subst hc
        rw[if_neg (by simp)]at est ⊢
        obtain⟨qf,hfr⟩:=JX hqa
        unfold MaD.call at est
        simp only at est
        rw[if_neg hfr]at est
        have gf:=rT hg (p:=q.plugin) (k:=q.func) qf
        obtain⟨b1,b2,b3⟩:=hao
        obtain⟨b4,b5,b6,b7,b8,b9⟩:=b3 rfl
        have hG3:(⟨S2,⟨q.plugin,q.func,0,q.arg,[],[],true,q.gates⟩,m.below++[{m.top with pc:=m.top.pc+(1+A.length)+1}]⟩:MaD).Good ms:=by
         have g1:=hG.stk;have g2:=hG.few;have g3:=hG.mu
         refine⟨b1,⟨b7,b6,b8,b9,b4,by simp,by simp,b5⟩,by simp only;omega,?_,?_,?_⟩
         ·simp only[List.length_nil];omega
         ·simp only[List.length_nil];omega
         ·simp only[List.length_append,List.length_singleton];omega
        have hox3:=fk ms N q.plugin (dG ms q.plugin q.func) q.arg [] (m.below.length+1+1) S2 b1 b4 (by simp)
        have h3:=ih (dG ms q.plugin q.func) ⟨S2,⟨q.plugin,q.func,0,q.arg,[],[],true,q.gates⟩,m.below++[{m.top with pc:=m.top.pc+(1+A.length)+1}]⟩ hG3 (Nat.le_trans (Nat.le_of_eq hal) (Nat.le_trans hle hl1)) gf ⟨[],[⟨105,0,0⟩],by simp[fB],rfl⟩
        simp only[List.length_append,List.length_singleton]at h3
        rcases hq3:ofD ms N q.plugin (dG ms q.plugin q.func) q.arg [] (m.below.length+1+1) S2 with⟨S3,v3,c3⟩
        rw[hq3]at h3 hox3
        unfold iq at h3
        simp only at h3 ⊢
        by_cases hz:c3=0
        ·rw[if_neg (by simpa using hz)]at h3 ⊢
         have bst:=ue (ms:=ms) (m:=MaD.after ⟨S2,⟨q.plugin,q.func,0,q.arg,[],[],true,q.gates⟩,m.below++[{m.top with pc:=m.top.pc+(1+A.length)+1}]⟩ S3 (aF (dG ms q.plugin q.func) 0).length [v3]) (c:=[]) (st:=[]) (v:=v3) ⟨aF (dG ms q.plugin q.func) 0,[],by simp[fB,MaD.after],by simp[MaD.after]⟩ rfl
         have ok3:Ok ms (MaD.after ⟨S2,⟨q.plugin,q.func,0,q.arg,[],[],true,q.gates⟩,m.below++[{m.top with pc:=m.top.pc+(1+A.length)+1}]⟩ S3 (aF (dG ms q.plugin q.func) 0).length [v3]):=
          bF.at (c:=[]) (x:=⟨105,0,0⟩) ⟨aF (dG ms q.plugin q.func) 0,[],by simp[fB,MaD.after],by simp[MaD.after]⟩ (hG3.after1 hox3 hz) ⟨by simp,by simp[MaD.after],by simp,by simp,by simp,by simp⟩
         simp only[MaD.after,if_true,tr]at bst
         generalize gK q.gates v3 S3=q4 at bst ⊢
         unfold iq
         by_cases hz4:q4.2.2=0
         ·rw[if_neg (by simpa using hz4)]at bst ⊢
          intro r hr
          refine go2 r (.go ok2 est (h3 r (.go ok3 bst ?_)))
          simpa[MaD.after,Nat.add_assoc]using hr
         ·rw[if_pos hz4]at bst ⊢
          exact go2 _ (.go ok2 est (h3 _ (.fail ok3 bst)))
        ·rw[if_pos hz]at h3 ⊢
         exact iq.no hz (go2 _ (.go ok2 est h3))
       ·rw[if_pos hc]at est ⊢
        exact iq.no hc (go2 _ (.fail ok2 est))
      rw[if_neg o18,if_neg o19]at est ⊢
      rw[hlp,mA,mq]at est
      generalize bS m.top.plugin x.op x.k x.n l S'=q at est ⊢
      unfold iq
      unfold MaD.done MaD.push at est
      by_cases hz:q.2.2=0
      ·rw[if_neg (by simpa using hz)]at est ⊢
       intro r hr
       refine go2 r (.go ok2 est ?_)
       simpa only[MaD.after,Nat.add_assoc]using hr
      ·rw[if_pos hz]at est ⊢
       exact go2 _ (.fail ok2 est)
     ·rw[if_pos hc]at hL ⊢
      exact iq.no hc (go1 _ hL)
theorem gd {α:Type} {l:List α} (h:1≤l.length):∃ st v,l=st++[v]:=⟨l.dropLast,l.getLast (fun e=>by rw[e]at h;simp at h),(List.dropLast_concat_getLast _).symm⟩
theorem CD {α:Type} {l:List α} (h:2≤l.length):∃ st v w,l=st++[v]++[w]:=by
 obtain⟨st,w,rfl⟩:=gd (l:=l) (by omega)
 obtain⟨st,v,rfl⟩:=gd (l:=st) (by simp at h;omega)
 exact⟨st,v,w,rfl⟩
section
variable {h h' h0:AH} {F J F0 J0:Nat→Prop} {L:List Asn} {c:Cfg} {i:Nat} {n:Now}
abbrev Now.m (n:Now):MaD:=⟨n.S,n.top,n.below⟩
theorem bW.toI {st:List VD} {q:StD×VD×Int} {fr:AV ⊕ AV} (r:bW h0 F0 J0 c L i (n.stk st) q fr h'):Tu h0 F0 J0 c L i (MaD.done n.m st q) fr h':=by
 unfold MaD.done
 rcases r with⟨e,b,s⟩ | ⟨e,b,n',e2,s⟩
 ·rw[if_neg (by simpa using e)]
  exact⟨b,n.fb,s⟩
 ·rw[if_pos e]
  exact⟨b,n',e2,s⟩
theorem nT.toI {st:List VD} {q:StD×u5×Int} {fr:AV ⊕ AV} (r:nT h0 F0 J0 c L i (n.stk st) q fr h') (h20:q.2.2=0→n.below.length+1≠20):Tu h0 F0 J0 c L i (match q with
   | (S',q,k)=>if k≠0 then .fail S' k else MaD.call n.m S' st q.plugin q.func q.arg true q.gates) fr h':=by
 obtain⟨S',q,k⟩:=q
 rcases r with⟨e,b,fb,s⟩ | ⟨e,b,n',e2,s⟩
 ·simp only at e s h20 ⊢
  rw[if_neg (by simpa using e)]
  unfold MaD.call
  rw[if_neg (h20 e)]
  exact⟨b,fb,s⟩
 ·simp only at e b e2 s ⊢
  rw[if_pos e]
  exact⟨b,n',e2,s⟩
theorem XI.toI {st:List VD} {k:Int} {v:VD} {fr:AV ⊕ AV} (r:XI h0 F0 J0 c L i (n.stk st) k v fr h'):Tu h0 F0 J0 c L i (MaD.call n.m n.S st n.top.plugin k v false []) fr h':=by
 unfold MaD.call
 rcases r with⟨e,b,fb,s⟩ | ⟨e,b,s⟩
 ·rw[if_neg e]
  exact⟨b,fb,s⟩
 ·rw[if_pos e]
  exact⟨b,n.stk st,rfl,s⟩
theorem AI {ms:aO} {m:MaD} {op k x:Int} (h:¬ (op=1∨op=2∨op=3∨op=4∨op=21)) (h8:op≠18) (h9:op≠19):mP ms m ⟨op,k,x⟩=m.done (oG m.top.stack (bh op).toNat) (bS m.top.plugin op k x (mI m.top.stack (bh op).toNat) m.S):=by
 unfold mP
 have hl:dZ m.top.plugin (.mk op k x []) m.top.arg m.top.names m.S=none:=jE.2 h
 simp only
 rw[hl]
 simp only
 rw[if_neg h8,if_neg h9]
theorem ML {ms:aO} {m:MaD} {op k x:Int} {v:VD} (h:dZ m.top.plugin (.mk op k x []) m.top.arg m.top.names m.S=some v):mP ms m ⟨op,k,x⟩=m.push m.S m.top.stack v:=by
 unfold mP
 simp only
 rw[h]
theorem sh {ms:aO} {st:List VD} {v:VD} {op k x:Int} (hst:n.top.stack=st++[v]) (h:¬ (op=1∨op=2∨op=3∨op=4∨op=21)) (h8:op≠18) (h9:op≠19) (hp:(bh op).toNat=1):mP ms n.m ⟨op,k,x⟩=MaD.done n.m st (bS n.top.plugin op k x [v] n.S):=by
 rw[AI h h8 h9,hp]
 simp only[hst,fJ,jd]
theorem Ps {ms:aO} {st:List VD} {v w:VD} {op k x:Int} (hst:n.top.stack=st++[v]++[w]) (h:¬ (op=1∨op=2∨op=3∨op=4∨op=21)) (h8:op≠18) (h9:op≠19) (hp:(bh op).toNat=2):mP ms n.m ⟨op,k,x⟩=MaD.done n.m st (bS n.top.plugin op k x [v,w] n.S):=by
 rw[AI h h8 h9,hp]
 have e:n.top.stack=st++[v,w]:=by rw[hst,List.append_assoc];rfl
 have t:=mA st [v,w]
 have d:=mq st [v,w]
 simp only[List.length_cons,List.length_nil,Nat.zero_add,θ]at t d
 simp only[e,t,d]
theorem qU {ms:aO} {v:VD} {op k x:Int} {h1:AH} (hl:dZ n.top.plugin (.mk op k x []) n.top.arg n.top.names n.S=some v) (s:St h0 F0 J0 h1 (put c L i (n.stk (n.top.stack++[v])))):Tu h0 F0 J0 c L i (mP ms n.m ⟨op,k,x⟩) (.inl (.tup [])) h1:=by
 rw[ML hl]
 exact⟨rfl,n.fb,s⟩
theorem ud {st:List VD} {l:List VD} (hg:n.top.Good c.ms) (hst:n.top.stack=st++l) {v:VD} (hv:v∈l):v.code=0:=hg.stack v (by rw[hst];exact List.mem_append_right _ hv)
set_option maxHeartbeats 1000000 in
theorem Yb (s:St h0 F0 J0 h L) (a:At c L i n) (o:OkR c n) (hg:n.top.Good c.ms) {x:bq} (hx:Lv n.m x) (hop:x.op<100):
  ∃ fr h',aj Tryz.prog po lY [.ptr c.mb 0 0,.agg (de x)] h=some (fr,h')∧Tu h0 F0 J0 c L i (mP c.ms n.m x) fr h':=by
 obtain⟨op,k,m⟩:=x
 simp only at hop
 have hk:=hx.kind
 have hparts:=hx.parts hop
 have hvar:=hx.var
 simp only at hk hparts hvar
 obtain⟨P,hP⟩:=Int.eq_ofNat_of_zero_le hg.p0
 have hP4:P<4:=by
  have:=hg.there
  rw[hP]at this
  have this:(c.ms.getD P none).isSome=true:=this
  rcases Nat.lt_or_ge P 4 with h | h
  ·exact h
  ·rw[List.getD,List.getElem?_eq_none (by rw[o.ms];exact h)]at this
   cases this
 have pP:n.top.plugin.toNat=P:=by rw[hP];rfl
 have cases_:op=1∨op=2∨op=3∨op=4∨op=6∨op=8∨op=9∨op=10∨op=11∨op=12∨op=13∨op=14∨op=15∨op=16∨op=17∨op=18∨op=19∨op=20∨op=21:=by omega
 rcases cases_ with rfl | rfl | rfl | rfl | rfl | rfl | rfl | rfl | rfl | rfl | rfl | rfl | rfl | rfl | rfl | rfl | rfl | rfl | rfl
 ·obtain⟨h',e,s'⟩:=UU s a o k m
  exact⟨_,h',e,qU rfl s'⟩
 ·obtain⟨h',e,s'⟩:=T3 s a o k m
  exact⟨_,h',e,qU rfl s'⟩
 ·obtain⟨h',e,s'⟩:=T9 s a o k m
  exact⟨_,h',e,qU rfl s'⟩
 ·obtain⟨h',e,s'⟩:=UT s a o (hvar rfl) m
  exact⟨_,h',e,qU rfl s'⟩
 ·obtain⟨st,v,w,hst⟩:=CD (l:=n.top.stack) hparts
  obtain⟨fr,h',e,r⟩:=U5 s a o hst k m
  exact⟨fr,h',e,by rw[Ps hst (by decide) (by decide) (by decide) rfl];exact r.toI⟩
 ·obtain⟨st,v,w,hst⟩:=CD (l:=n.top.stack) hparts
  obtain⟨fr,h',e,r⟩:=Vz s a o hst k m
  exact⟨fr,h',e,by rw[Ps hst (by decide) (by decide) (by decide) rfl];exact r.toI⟩
 ·obtain⟨st,v,hst⟩:=gd (l:=n.top.stack) hparts
  obtain⟨fr,h',e,r⟩:=UK s a o hst (ud hg hst (by simp)) k m
  exact⟨fr,h',e,by rw[sh hst (by decide) (by decide) (by decide) rfl];exact r.toI⟩
 ·obtain⟨st,v,hst⟩:=gd (l:=n.top.stack) hparts
  obtain⟨fr,h',e,r⟩:=Sx s a o hst (ud hg hst (by simp)) k m
  exact⟨fr,h',e,by rw[sh hst (by decide) (by decide) (by decide) rfl];exact r.toI⟩
 ·obtain⟨st,v,hst⟩:=gd (l:=n.top.stack) hparts
  obtain⟨fr,h',e,r⟩:=QY s a o hst k m
  exact⟨fr,h',e,by rw[sh hst (by decide) (by decide) (by decide) rfl];exact r.toI⟩
 ·obtain⟨st,v,hst⟩:=gd (l:=n.top.stack) hparts
  obtain⟨fr,h',e,r⟩:=RR s a o hst (ud hg hst (by simp)) k m
  exact⟨fr,h',e,by rw[sh hst (by decide) (by decide) (by decide) rfl];exact r.toI⟩
 ·obtain⟨st,v,hst⟩:=gd (l:=n.top.stack) hparts
  obtain⟨fr,h',e,r⟩:=Sq s a o hst k m
  exact⟨fr,h',e,by rw[sh hst (by decide) (by decide) (by decide) rfl];exact r.toI⟩
 ·obtain⟨st,v,w,hst⟩:=CD (l:=n.top.stack) hparts
  obtain⟨fr,h',e,r⟩:=Pr s a o hst k m
  exact⟨fr,h',e,by rw[Ps hst (by decide) (by decide) (by decide) rfl];exact r.toI⟩
 ·obtain⟨st,v,hst⟩:=gd (l:=n.top.stack) hparts
  obtain⟨fr,h',e,r⟩:=RB s a o hst k m
  exact⟨fr,h',e,by rw[sh hst (by decide) (by decide) (by decide) rfl];exact r.toI⟩
 ·obtain⟨st,v,hst⟩:=gd (l:=n.top.stack) hparts
  obtain⟨fr,h',e,r⟩:=R2 s a o hst k m
  exact⟨fr,h',e,by rw[sh hst (by decide) (by decide) (by decide) rfl];exact r.toI⟩
 ·obtain⟨st,v,hst⟩:=gd (l:=n.top.stack) hparts
  obtain⟨fr,h',e,r⟩:=QK s a o hst k m
  exact⟨fr,h',e,by rw[sh hst (by decide) (by decide) (by decide) rfl];exact r.toI⟩
 ·obtain⟨st,v,hst⟩:=gd (l:=n.top.stack) hparts
  obtain⟨fr,h',e,r⟩:=PE s a o hst k m
  refine⟨fr,h',e,?_⟩
  have:mP c.ms n.m ⟨18,k,m⟩=MaD.call n.m n.S st n.top.plugin k v false []:=by
   unfold mP
   simp only
   have hl:dZ n.top.plugin (.mk 18 k m []) n.top.arg n.top.names n.S=none:=rfl
   rw[hl]
   simp only[hst,fJ,jd,if_true]
   rfl
  rw[this]
  exact r.toI
 ·obtain⟨st,v,w,hst⟩:=CD (l:=n.top.stack) hparts
  obtain⟨fr,h',e,r⟩:=Pd s a o hst k m
  refine⟨fr,h',e,?_⟩
  have e2:n.top.stack=st++[v,w]:=by rw[hst,List.append_assoc];rfl
  have t:=mA st [v,w]
  have d:=mq st [v,w]
  simp only[List.length_cons,List.length_nil,Nat.zero_add,θ]at t d
  have:mP c.ms n.m ⟨19,k,m⟩=match eC c.ms v w (n.below.length+1) n.S with
   | (S',q,k)=>if k≠0 then .fail S' k else MaD.call n.m S' st q.plugin q.func q.arg true q.gates:=by
   unfold mP
   simp only
   have hl:dZ n.top.plugin (.mk 19 k m []) n.top.arg n.top.names n.S=none:=rfl
   rw[hl]
   simp only[e2,t,d,if_true]
   rw[if_neg (by decide)]
   rfl
  rw[this]
  refine nT.toI (q:=eC c.ms v w (n.below.length+1) n.S) r fun h0=> ?_
  exact(JX (S':=(eC c.ms v w (n.below.length+1) n.S).1) (q:=(eC c.ms v w (n.below.length+1) n.S).2.1) (by rw[←h0])).2
 ·obtain⟨st,v,hst⟩:=gd (l:=n.top.stack) hparts
  obtain⟨fr,h',e,r⟩:=Sn s a o hst hP hP4 k m
  exact⟨fr,h',e,by rw[sh hst (by decide) (by decide) (by decide) rfl];exact r.toI⟩
 ·obtain⟨h',e,s'⟩:=PK s a o hP hP4 k m
  refine⟨_,h',e,qU ?_ s'⟩
  show some (n.S.kept.getD n.top.plugin.toNat aK)=_
  rw[pP]
end
def nR (c:Cfg) (L:List Asn) (i fb:Nat) (S:StD):List Asn:=(put c L i ⟨fb,S,[],⟨0,0,0,aK,[],[],false,[]⟩⟩).set i (GE c.mb c.bb fb (S.left:Int))
theorem Vf {c:Cfg} {L:List Asn} {i:Nat} {n n':Now} {X:Asn} (hS:n.S=n'.S):(put c L i n).set i X=(put c L i n').set i X:=by
 refine mY fun j=> ?_
 rw[List.getElem?_set,List.getElem?_set,vI,vI,gR,gR,hS]
 by_cases hj:i=j
 ·rw[if_pos hj,if_pos hj]
 ·rw[if_neg hj,if_neg hj,if_neg (show ¬ j=i from Ne.symm hj),if_neg (show ¬ j=i from Ne.symm hj)]
theorem Ka {c:Cfg} {L:List Asn} {i fb:Nat} {n:Now}:(put c L i n).set i (GE c.mb c.bb fb (n.S.left:Int))=nR c L i fb n.S:=Vf rfl
def BG (h0:AH) (F0 J0:Nat→Prop) (c:Cfg) (L:List Asn) (i:Nat) (q:kH) (fr:AV ⊕ AV) (h':AH):Prop:=match q with
 | .go m=>∃ r,fr= .inl (.tup [.agg r,.bool false])∧(r.length=3∧r.all AV.one=true)∧∃ fb',St h0 F0 J0 h' (put c L i ⟨fb',m.S,m.below,m.top⟩)
 | .fail S k=>fr= .inr (.iface tGo (.int .i64 k))∧∃ n':Now,n'.S=S∧St h0 F0 J0 h' (put c L i n')
 | .over S v=>∃ r,fr= .inl (.tup [.agg r,.bool true])∧VaA v r∧∃ fb',St h0 F0 J0 h' (nR c L i fb' S)
abbrev Zj:FuncId:=92
section
variable {h h' h0:AH} {F J F0 J0:Nat→Prop} {L:List Asn} {c:Cfg} {i:Nat} {n:Now}
theorem Tk {α:Type} (l:List α):l=[]∨∃ a t,l=a++[t]:=by
 rcases Nat.eq_zero_or_pos l.length with h | h
 ·exact .inl (List.length_eq_zero_iff.1 h)
 ·obtain⟨a,t,e⟩:=gd (l:=l) h
  exact .inr ⟨a,t,e⟩
theorem E5 {hA:AH} {LA:List Asn} {iA:Nat} {nA:Now} (s:St h0 F0 J0 hA LA) (a:At c LA iA nA) (hb:nA.below.length≤100) (ht:∀ t,nA.below.getLast? =some t→t.stack.length≤100000) {v:VD} {r:List AV} (hv:VaA v r):
  (∀ k:Nat,aR false k hA (.ptr c.mb 0 1)=some (.msl nA.fb 0 (nA.below.length+1) tFr))∧
  ((nA.below=[]∧∃ h1,aZ 1 hA (.ptr c.mb 0 1) (.msl nA.fb 0 nA.below.length tFr)=some h1∧(∀ k:Nat,aR false k h1 (.ptr c.mb 0 1)=some (.msl nA.fb 0 nA.below.length tFr))∧St h0 F0 J0 h1 (LA.set iA (GE c.mb c.bb nA.fb (nA.S.left:Int))))∨
   (∃ bl t,nA.below=bl++[t]∧∃ h1 h2,aZ 1 hA (.ptr c.mb 0 1) (.msl nA.fb 0 nA.below.length tFr)=some h1∧(∀ k:Nat,aR false k h1 (.ptr c.mb 0 1)=some (.msl nA.fb 0 nA.below.length tFr))∧St h0 F0 J0 h1 (put c LA iA ⟨nA.fb,nA.S,bl,t⟩)∧
      aj Tryz.prog po fPu [.ptr c.mb 0 0,.agg r] h1=some (.inl (.tup []),h2)∧St h0 F0 J0 h2 (put c LA iA ⟨nA.fb,nA.S,bl,{t with stack:=t.stack++[v]}⟩))):=by
 obtain⟨_,_,_,_,mv⟩:=eh s iA a.m
 refine⟨fun k=>by rw[bP,mv.m];rfl,?_⟩
 rcases Tk nA.below with hn | ⟨bl,t,hn⟩
 ·refine .inl ⟨hn,?_⟩
  have am:=a.m
  rw[hn]at am ⊢
  obtain⟨h1,e1,s1⟩:=VF s iA am
  refine⟨h1,e1,fun k=> ?_,s1⟩
  have hl:iA<LA.length:=(List.getElem?_eq_some_iff.1 am).1
  have hc:=(s1.cell iA (by rw[List.getElem?_set_self hl];rfl)).1
  rw[bP,hc];rfl
 ·refine .inr ⟨bl,t,hn,?_⟩
  have am:=a.m
  rw[hn]at am
  obtain⟨h1,e1,s1⟩:=Pa s iA am
  rw[a.setM]at s1
  have a1:=a.put ⟨nA.fb,nA.S,bl,t⟩
  obtain⟨_,_,_,_,mv1⟩:=eh s1 iA a1.m
  have hlen:nA.below.length=bl.length+1:=by rw[hn];simp
  obtain⟨h2,e2,s2⟩:=ej s1 a1 (by simp only;omega) (ht t (by rw[hn];simp)) hv
  rw[bo]at s2
  exact⟨h1,h2,by rw[hlen];exact e1,fun k=>by rw[bP,mv1.m,hlen];rfl,s1,e2,s2⟩
theorem FY {gates:List Int} {v:VD} {S:StD}:gK gates v S=if(aN gates S.G v).2.2≠0 then({S with G:=(aN gates S.G v).1}:StD).no (aN gates S.G v).2.2 else({S with G:=(aN gates S.G v).1}:StD).ok (aN gates S.G v).2.1:=rfl
theorem CA {st:List VD} {v:VD} (hst:n.top.stack=st++[v]):MaD.back n.m=(if(if n.top.asked then gK n.top.gates v n.S else n.S.ok v).2.2≠0 then .fail (if n.top.asked then gK n.top.gates v n.S else n.S.ok v).1 (if n.top.asked then gK n.top.gates v n.S else n.S.ok v).2.2
  else match n.below.getLast? with
  | none=> .over (if n.top.asked then gK n.top.gates v n.S else n.S.ok v).1 (if n.top.asked then gK n.top.gates v n.S else n.S.ok v).2.1
  | some t=> .go ⟨(if n.top.asked then gK n.top.gates v n.S else n.S.ok v).1,{t with stack:=t.stack++[(if n.top.asked then gK n.top.gates v n.S else n.S.ok v).2.1]},n.below.dropLast⟩):=by
 unfold MaD.back
 simp only[hst,fJ,List.getD_cons_zero]
 rfl
set_option maxRecDepth 100000 in
set_option maxHeartbeats 2000000 in
theorem VI (s:St h0 F0 J0 h L) (a:At c L i n) (o:OkR c n) {st:List VD} {v:VD} (hst:n.top.stack=st++[v]) (hgf:n.top.gates.length≤80) (hgo:∀ m',MaD.back n.m= .go m'→m'.top.stack.length≤100000):
  ∃ fr h',aj Tryz.prog po Zj [.ptr c.mb 0 0] h=some (fr,h')∧BG h0 F0 J0 c L i (MaD.back n.m) fr h':=by
 have ht0:n.top.asked=false→∀ t,n.below.getLast? =some t→t.stack.length≤100000:=fun hk t ht=>by
  rw[CA hst,hk]at hgo
  simp only[Bool.false_eq_true,if_false]at hgo
  rw[if_neg (by simp[StD.ok]),ht]at hgo
  have:=hgo _ rfl
  simp at this
  omega
 have ht1:n.top.asked=true→(aN n.top.gates n.S.G v).2.2=0→∀ t,n.below.getLast? =some t→t.stack.length≤100000:=fun hk hc t ht=>by
  have hb:(gK n.top.gates v n.S).2.2=0:=by rw[FY,if_neg (fun e=>e hc)];rfl
  rw[CA hst,hk]at hgo
  simp only[if_true]at hgo
  rw[if_neg (fun e=>e hb),ht]at hgo
  have:=hgo _ rfl
  simp at this
  omega
 clear hgo
 rw[CA hst]
 have s0:=s.push [zR3]
 have a0:=a.cons (ah h.n [zR3])
 obtain⟨h2,r,e2,hv,s2,a2⟩:=gQ s0 a0 o hst
 have o3:=o.stk' hst
 rw[aB]at s2 a2
 obtain⟨o1,o2⟩:=hv.len3
 have s3:=s2.push [r]
 have a3:=a2.cons (ah h2.n [r])
 obtain⟨tp,_⟩:=dq s3 a3 o.below
 obtain⟨ar,sv,nv,g,mv⟩:=eh s3 (i+1+1) a3.m
 have lall:=mv.all
 have hgo:g.one=true:=by
  have:=mv.hg
  rcases this with⟨_,rfl⟩ | ⟨id,rfl⟩<;>rfl
 have hga:SlA 3 g (bH n.top.gates):=mv.hg
 have g6:=cT (n.stk st).top ar sv nv g mv.ha.len3.1
 have g7:=qX (f:=(n.stk st).top) (g:=g) mv.ha.len3 mv.sv.1 mv.nv.1 hgo
 generalize dL (n.stk st).top ar sv nv g=row at*
 have s4:St h0 F0 J0 _ (ah (h2.n+1) [row]::ah h2.n [r]::ah h.n [zR3]::put c L i (n.stk st)):=s3.push [row]
 have a4:=a3.cons (ah (h2.n+1) [row])
 have c1:=(s4.cell 0 rfl).1
 have c2:=(s4.cell 1 rfl).1
 have wl:IntKind.wrap .i64 (((n.below.length+1:Nat):Int) - 1)=(n.below.length:Int):=HP (by omega) (by have:=o.below;omega) (by have:=o.below;omega)
 have sl:=C7 (e:=tFr) (b:=n.fb) (n:=n.below.length+1) (m:=n.below.length) (by omega)
 have fm:aP 1 (.ptr c.mb 0 0)=some (.ptr c.mb 0 1):=rfl
 have r8:row[8]? =some (.bool n.top.asked):=g6.2.2.2.2.1
 have r9:row[9]? =some g:=g6.2.2.2.1
 have rl:row.length=10:=g6.2.1
 clear g6
 cases hask:n.top.asked with
 | false=>
   rw[hask]at r8
   simp only[Bool.false_eq_true,if_false,StD.ok]
   rw[if_neg (by simp)]
   obtain⟨ld,hfin⟩:=E5 s4 a4 o.below (ht0 hask) hv
   rcases hfin with⟨hb0,h1,e5,l5,s5⟩ | ⟨bl,t,hbl,h1,h5,e5,l5,s5,e6,s6⟩
   ·have hb0:n.below=[]:=hb0
    rw[hb0]
    have s5':St h0 F0 J0 h1 (ah (h2.n+1) [row]::ah h2.n [r]::ah h.n [zR3]::(put c L i (n.stk st)).set i (GE c.mb c.bb n.fb (n.S.left:Int))):=s5
    have d1:=(s5'.cell 1 rfl).1
    have d2:=(s5'.cell 2 rfl).1
    have s6:=s5'.set 2 rfl [r]
    have d3:=(s6.cell 2 rfl).1
    refine⟨.inl (.tup [.agg r,.bool true]),_,?_,r,rfl,hv,n.fb,by have:=s6.drop.drop.drop;rw[←Ka (n:=n.stk st)];exact this⟩
    have dz:decide ((n.below.length:Int)=0)=true:=decide_eq_true (by rw[hb0];rfl)
    refine ag oJ rfl ?_;unfold mF
    simp only[sim,af,θ,ξ,η,reduceCtorEq,ψ,ω,aa,au,e2,o1,o2,tp,lall,rl,g7,c1,c2,r8,fm,ld,wl,sl,e5,l5,dz,d1,d2,d3,rJ,rP]
   ·have hbl:n.below=bl++[t]:=hbl
    have hlen:n.below.length=bl.length+1:=by rw[hbl];simp
    have hlast:n.below.getLast? =some t:=by rw[hbl];simp
    have hdrop:n.below.dropLast=bl:=by rw[hbl];simp
    rw[hlast,hdrop]
    have s5':St h0 F0 J0 h1 (ah (h2.n+1) [row]::ah h2.n [r]::ah h.n [zR3]::put c (put c L i (n.stk st)) i ⟨n.fb,n.S,bl,t⟩):=s5
    have s6':St h0 F0 J0 h5 (ah (h2.n+1) [row]::ah h2.n [r]::ah h.n [zR3]::put c (put c L i (n.stk st)) i ⟨n.fb,n.S,bl,{t with stack:=t.stack++[v]}⟩):=s6
    have d1:=(s5'.cell 1 rfl).1
    have d2:=(s6'.cell 1 rfl).1
    have d3:=(s6'.cell 2 rfl).1
    have s7:=s6'.set 2 rfl [r]
    have d4:=(s7.cell 2 rfl).1
    refine⟨.inl (.tup [.agg r,.bool false]),_,?_,r,rfl,hv.len3,n.fb,by have:=s7.drop.drop.drop;rw[bo]at this;exact this⟩
    have dz:decide ((n.below.length:Int)=0)=false:=decide_eq_false (by rw[hlen];omega)
    refine ag oJ rfl ?_;unfold mF
    simp only[sim,af,θ,ξ,η,reduceCtorEq,ψ,ω,aa,au,e2,o1,o2,tp,lall,rl,g7,c1,c2,r8,fm,ld,wl,sl,e5,l5,dz,d1,e6,d2,d3,d4,rJ,rP]
 | true=>
   rw[hask]at r8
   simp only[if_true]
   have ht2:=ht1 hask
   clear ht0 ht1
   rw[FY]
   obtain⟨l0,l1,_⟩:=dU s4 a4 o.len
   have f0:aP 0 (.ptr c.mb 0 0)=some (.ptr c.mb 0 0):=rfl
   have f1:aP 0 (.ptr c.bb 0 0)=some (.ptr c.bb 0 0):=rfl
   obtain⟨h5,⟨y,e5,hy⟩,s5⟩:=pt s4 a4 (R:=fun h'=>∃ r',aj Tryz.prog po 113 [.ptr c.gb 0 0,.agg r,g] ((h2.push [r]).push [row])=some (.inl (.tup [.agg r',.int .i64 (aN n.top.gates n.S.G v).2.2]),h')∧VaA (aN n.top.gates n.S.G v).2.1 r') fun F J gx=>vL gx o.S.wf hv hga (by omega)
   generalize aN n.top.gates n.S.G v=q at*
   obtain⟨G',v',cc⟩:=q
   simp only at e5 hy s5 ⊢
   rw[aB,aB,aB,bo]at s5
   obtain⟨z1,z2⟩:=hy.len3
   have a5:=(((a.put {(n.stk st)with S:={n.S with G:=G'}}).cons (ah h.n [zR3])).cons (ah h2.n [r])).cons (ah (h2.n+1) [row])
   have s6:=s5.push [zR3]
   have a6:=a5.cons (ah h5.n [zR3])
   obtain⟨n0,n1,_⟩:=dU s6 a6 o.len
   have d0:=(s6.cell 1 rfl).1
   have d1:=(s6.cell 2 rfl).1
   have s7:=s5.push [y]
   have a7:=a5.cons (ah h5.n [y])
   have d2:=(s7.cell 0 rfl).1
   have d3:=(s7.cell 2 rfl).1
   by_cases hcc:cc=0
   ·subst hcc
    rw[if_neg (fun h=>h rfl)]
    simp only[StD.ok]
    rw[if_neg (by simp)]
    have d5:decide ((0:Int)=0)=true:=rfl
    have s8:St h0 F0 J0 _ (ah h5.n [y]::ah (h2.n+1) [row]::ah h2.n [y]::ah h.n [zR3]::put c L i {(n.stk st)with S:={n.S with G:=G'}}):=s7.set 2 rfl [y]
    have a8:=(((a.put {(n.stk st)with S:={n.S with G:=G'}}).cons (ah h.n [zR3])).cons (ah h2.n [y])).cons (ah (h2.n+1) [row]) |>.cons (ah h5.n [y])
    obtain⟨ld,hfin⟩:=E5 s8 a8 o.below (ht2 rfl) hy
    rcases hfin with⟨hb0,h1,e9,l9,s9⟩ | ⟨bl,t,hbl,h1,h9,e9,l9,s9,e10,s10⟩
    ·have hb0:n.below=[]:=hb0
     rw[hb0]
     have s9':St h0 F0 J0 h1 (ah h5.n [y]::ah (h2.n+1) [row]::ah h2.n [y]::ah h.n [zR3]::(put c L i {(n.stk st)with S:={n.S with G:=G'}}).set i (GE c.mb c.bb n.fb (n.S.left:Int))):=s9
     have g1:=(s9'.cell 2 rfl).1
     have g2:=(s9'.cell 3 rfl).1
     have s11:=s9'.set 3 rfl [y]
     have g3:=(s11.cell 3 rfl).1
     refine⟨.inl (.tup [.agg y,.bool true]),_,?_,y,rfl,hy,n.fb,by have:=s11.drop.drop.drop.drop;rw[←Ka (n:={(n.stk st)with S:={n.S with G:=G'}})];exact this⟩
     have dz:decide ((n.below.length:Int)=0)=true:=decide_eq_true (by rw[hb0];rfl)
     refine ag oJ rfl ?_;unfold mF
     simp only[sim,af,θ,ξ,η,reduceCtorEq,ψ,ω,aa,au,e2,o1,o2,tp,lall,rl,g7,c1,c2,r8,r9,fm,f0,f1,l0,l1,e5,n0,n1,d0,d1,d2,d3,d5,cU,z1,z2,ld,wl,sl,e9,l9,dz,g1,g2,g3,rJ,rP]
    ·have hbl:n.below=bl++[t]:=hbl
     have hlen:n.below.length=bl.length+1:=by rw[hbl];simp
     have hlast:n.below.getLast? =some t:=by rw[hbl];simp
     have hdrop:n.below.dropLast=bl:=by rw[hbl];simp
     rw[hlast,hdrop]
     have s9':St h0 F0 J0 h1 (ah h5.n [y]::ah (h2.n+1) [row]::ah h2.n [y]::ah h.n [zR3]::put c (put c L i {(n.stk st)with S:={n.S with G:=G'}}) i ⟨n.fb,{n.S with G:=G'},bl,t⟩):=s9
     have s10':St h0 F0 J0 h9 (ah h5.n [y]::ah (h2.n+1) [row]::ah h2.n [y]::ah h.n [zR3]::put c (put c L i {(n.stk st)with S:={n.S with G:=G'}}) i ⟨n.fb,{n.S with G:=G'},bl,{t with stack:=t.stack++[v']}⟩):=s10
     have g1:=(s9'.cell 2 rfl).1
     have g2:=(s10'.cell 2 rfl).1
     have g3:=(s10'.cell 3 rfl).1
     have s11:=s10'.set 3 rfl [y]
     have g4:=(s11.cell 3 rfl).1
     refine⟨.inl (.tup [.agg y,.bool false]),_,?_,y,rfl,hy.len3,n.fb,by have:=s11.drop.drop.drop.drop;rw[bo]at this;exact this⟩
     have dz:decide ((n.below.length:Int)=0)=false:=decide_eq_false (by rw[hlen];omega)
     refine ag oJ rfl ?_;unfold mF
     simp only[sim,af,θ,ξ,η,reduceCtorEq,ψ,ω,aa,au,e2,o1,o2,tp,lall,rl,g7,c1,c2,r8,r9,fm,f0,f1,l0,l1,e5,n0,n1,d0,d1,d2,d3,d5,cU,z1,z2,ld,wl,sl,e9,l9,dz,g1,e10,g2,g3,g4,rJ,rP]
   ·rw[if_pos hcc,if_pos (show((({n.S with G:=G'}:StD).no cc).2.2≠0) from hcc)]
    simp only[StD.no]
    have d5:decide (cc=0)=false:=decide_eq_false hcc
    refine⟨_,_,?_,rfl,{(n.stk st)with S:={n.S with G:=G'}},rfl,s7.drop.drop.drop.drop⟩
    refine ag oJ rfl ?_;unfold mF
    simp only[sim,af,θ,ξ,η,reduceCtorEq,ψ,ω,aa,au,e2,o1,o2,tp,lall,rl,g7,c1,c2,r8,r9,fm,f0,f1,l0,l1,e5,n0,n1,d0,d1,d2,d3,d5,cK,z1,z2]
end
abbrev tFs:TypeId:=174
abbrev UY:TypeId:=184
abbrev D7:FuncId:=50
abbrev zI3:List AV:=[.int .i64 0,.int .i64 0,.int .i64 0]
theorem Qw {ms:aO} {p f:Int} {L:List XD} {F:Nat} (hL:ms.getD p.toNat none=some L) (hf:f=(F:Int)):fB ms p f=aF (L.getD F fP) 0++[⟨105,0,0⟩]:=by
 unfold fB dG bQ
 rw[hL,hf]
 rfl
theorem NT {L:List XD} {F pc:Nat} {x:bq} (hf:F<L.length) (hx:(aF (L.getD F fP) 0++[(⟨105,0,0⟩:bq)])[pc]? =some x):
  ∃ row lv,(∀ q,bL (some tFs) none (dY L) (.int q (F:Int))=some (.ip row 0))∧(∀ k,ldA false k row 0=some lv)∧(∀ q,bL (some UY) none lv (.int q (pc:Int))=some (.ip (de x) 0))∧ldA true 3 (de x) 0=some (.agg (de x)):=by
 have e1:L[F]? =some L[F]:=List.getElem?_eq_getElem hf
 have e2:L.getD F fP=L[F]:=by simp[List.getD,hf]
 rw[e2]at hx
 refine⟨[.isl none UY ((aF L[F] 0++[(⟨105,0,0⟩:bq)]).map de)],.isl none UY ((aF L[F] 0++[(⟨105,0,0⟩:bq)]).map de),fun q=> ?_,fun k=> ?_,fun q=> ?_,bi rfl⟩
 ·exact C1 (q:=q) rfl (by rw[List.getElem?_map,e1];rfl)
 ·rw[hD];rfl
 ·exact C1 (q:=q) rfl (by rw[List.getElem?_map,hx];rfl)
structure XJ (hh:AH) (c:Cfg) (n:Now) (P F:Nat) (L:List XD):Prop where
 m:∀ k:Nat,aR false k hh (.ptr c.mb 0 0)=some (.ptr c.bb 0 0)
 p:∀ k:Nat,aR false k hh (.ptr n.fb n.below.length 0)=some (.int .i64 (P:Int))
 cd:∀ k:Nat,aR false k hh (.ptr c.bb 0 (2+P*5+1))=some (dY L)
 f:∀ k:Nat,aR false k hh (.ptr n.fb n.below.length 1)=some (.int .i64 (F:Int))
 pc:∀ k:Nat,aR false k hh (.ptr n.fb n.below.length 2)=some (.int .i64 (n.top.pc:Int))
 ix:∀ q:IntKind,bL none (some (4,5)) (.ptr c.bb 0 2) (.int q (P:Int))=some (.ptr c.bb 0 (2+P*5))
section
variable {h h' h0:AH} {F J F0 J0:Nat→Prop} {L:List Asn} {c:Cfg} {i:Nat} {n:Now}
theorem BX (s:St h0 F0 J0 h L) (a:At c L i n) (o:OkR c n) {P K:Nat} {Ls:List XD} (hP:n.top.plugin=(P:Int)) (hF:n.top.f=(K:Int)) (hP4:P<4) (hL:c.ms.getD P none=some Ls):XJ h c n P K Ls:=by
 obtain⟨l0,_,_⟩:=dU s a o.len
 obtain⟨ar,sv,nv,g,mv⟩:=eh s i a.m
 have g6:=cT n.top ar sv nv g mv.ha.len3.1
 obtain⟨ix,cd,_⟩:=so s a o hP4
 rw[hL]at cd
 exact⟨l0,fun k=>by rw[←hP];exact mv.rd k 0 _ g6.2.2.2.2.2.1,cd,fun k=>by rw[←hF];exact mv.rd k 1 _ g6.2.2.2.2.2.2.1,fun k=>mv.rd k 2 _ g6.2.2.2.2.2.2.2,ix⟩
abbrev Now.at (n:Now) (k:Nat):Now:={n with top:={n.top with pc:=k}}
structure Xj (h0:AH) (F0 J0:Nat→Prop) (h h3:AH) (c:Cfg) (L:List Asn) (i:Nat) (n:Now) (P K:Nat) (Ls:List XD) (x:bq):Prop where
 s:St h0 F0 J0 h3 (ah (h.n+1) [de x]::ah h.n [zR3]::put c L i (n.at (n.top.pc+1)))
 a:At c (ah (h.n+1) [de x]::ah h.n [zR3]::put c L i (n.at (n.top.pc+1))) (i+1+1) (n.at (n.top.pc+1))
 o:OkR c (n.at (n.top.pc+1))
 tp:aj Tryz.prog po Tf [.ptr c.mb 0 0] (h.push [zR3])=some (.inl (.ptr n.fb n.below.length 0),h.push [zR3])
 e1:XJ (h.push [zR3]) c n P K Ls
 e2:XJ ((h.push [zR3]).push [zI3]) c n P K Ls
 e3:∀ k:Nat,aR false k ((h.push [zR3]).push [de x]) (.ptr n.fb n.below.length 2)=some (.int .i64 (n.top.pc:Int))
 w:IntKind.wrap .i64 ((n.top.pc:Int)+1)=((n.top.pc+1:Nat):Int)
 st:aZ 1 ((h.push [zR3]).push [de x]) (.ptr n.fb n.below.length 2) (.int .i64 ((n.top.pc+1:Nat):Int))=some h3
 cx:h3.cell (h.n+1)=some [de x]
theorem Qm (s:St h0 F0 J0 h L) (a:At c L i n) (o:OkR c n) (hm:kM c.ms) {P K:Nat} {Ls:List XD} (hP:n.top.plugin=(P:Int)) (hF:n.top.f=(K:Int)) (hP4:P<4) (hL:c.ms.getD P none=some Ls) (hpc:n.top.pc<(fB c.ms n.top.plugin n.top.f).length) (x:bq):∃ h3,Xj h0 F0 J0 h h3 c L i n P K Ls x:=by
 have s1:=s.push [zR3]
 have a1:=a.cons (ah h.n [zR3])
 obtain⟨tp,_⟩:=dq s1 a1 o.below
 have e1:=BX s1 a1 o hP hF hP4 hL
 have s2:=s1.push [zI3]
 have a2:=a1.cons (ah (h.push [zR3]).n [zI3])
 have e2:=BX s2 a2 o hP hF hP4 hL
 have s3:St h0 F0 J0 ((h.push [zR3]).push [de x]) (ah (h.n+1) [de x]::ah h.n [zR3]::L):=s1.push [de x]
 have a3:=a1.cons (ah (h.n+1) [de x])
 have e3:=BX s3 a3 o hP hF hP4 hL
 obtain⟨h4,e4,s4⟩:=GW s3 (i+1+1) a3.m (n.top.pc+1)
 rw[a3.setM]at s4
 have s5:St h0 F0 J0 h4 (ah (h.n+1) [de x]::ah h.n [zR3]::put c L i (n.at (n.top.pc+1))):=s4
 have b:=hm n.top.plugin n.top.f
 exact⟨h4,s5,((a.put _).cons _).cons _,⟨o.ms,o.S,o.below,o.stk,o.nms,o.log⟩,tp,e1,e2,e3.pc,HP (by omega) (by omega) (by omega),e4,(s5.cell 0 rfl).1⟩
theorem th {A B:Asn} {n':Now}:put c (A::B::L) (i+1+1) n'=A::B::put c L i n':=rfl
structure lN (h0:AH) (F0 J0:Nat→Prop) (h:AH) (c:Cfg) (L:List Asn) (i:Nat) (n:Now) (x:bq):Prop where
 s:St h0 F0 J0 h L
 a:At c L i n
 o:OkR c n
 hm:kM c.ms
 ok:Ok c.ms n.m
 get:(fB c.ms n.top.plugin n.top.f).getD n.top.pc rQ=x
theorem lN.pre {x:bq} (b:lN h0 F0 J0 h c L i n x):∃ (h3:AH) (P K:Nat) (Ls:List XD) (row:List AV) (lv:AV),Xj h0 F0 J0 h h3 c L i n P K Ls x∧(∀ q,bL (some tFs) none (dY Ls) (.int q (K:Int))=some (.ip row 0))∧(∀ k,ldA false k row 0=some lv)∧(∀ q,bL (some UY) none lv (.int q (n.top.pc:Int))=some (.ip (de x) 0))∧ldA true 3 (de x) 0=some (.agg (de x)):=by
 have hg:=b.ok.good.top
 obtain⟨P,hP⟩:=Int.eq_ofNat_of_zero_le hg.p0
 obtain⟨K,hK⟩:=Int.eq_ofNat_of_zero_le hg.f0
 have hP:n.top.plugin=(P:Int):=hP
 have hK:n.top.f=(K:Int):=hK
 have hth:=hg.there
 have pP:n.top.plugin.toNat=P:=by rw[hP];rfl
 have hP4:P<4:=by
  rcases Nat.lt_or_ge P 4 with h | h
  ·exact h
  ·have hth:(c.ms.getD n.top.plugin.toNat none).isSome=true:=hth
   rw[pP,List.getD,List.getElem?_eq_none (by rw[b.o.ms];exact h)]at hth
   cases hth
 obtain⟨Ls,hL⟩:=Option.isSome_iff_exists.1 hth
 have hL:c.ms.getD n.top.plugin.toNat none=some Ls:=hL
 have hpc:n.top.pc<(fB c.ms n.top.plugin n.top.f).length:=b.ok.pc
 have hf1:n.top.f.toNat<(bQ c.ms n.top.plugin).length:=hg.f1
 have hKl:K<Ls.length:=by
  have e:n.top.f.toNat=K:=by rw[hK];rfl
  rw[e]at hf1
  unfold bQ at hf1
  rw[hL]at hf1
  exact hf1
 obtain⟨h3,p⟩:=Qm b.s b.a b.o b.hm hP hK hP4 (by rw[←pP];exact hL) hpc x
 have hx:(aF (Ls.getD K fP) 0++[(⟨105,0,0⟩:bq)])[n.top.pc]? =some x:=by
  rw[←Qw hL hK]
  have:=b.get
  rw[List.getD,List.getElem?_eq_getElem hpc]at this
  rw[List.getElem?_eq_getElem hpc]
  exact congrArg some this
 obtain⟨row,lv,q1,q2,q3,q4⟩:=NT hKl hx
 exact⟨h3,P,K,Ls,row,lv,p,q1,q2,q3,q4⟩
set_option maxRecDepth 100000 in
set_option maxHeartbeats 2000000 in
theorem HT {k m:Int} (b:lN h0 F0 J0 h c L i n ⟨100,k,m⟩):∃ fr h',aj Tryz.prog po D7 [.ptr c.mb 0 0] h=some (fr,h')∧BG h0 F0 J0 c L i (if n.S.left=0 then .fail n.S 12 else .go ⟨n.S.tick,(n.at (n.top.pc+1)).top,n.below⟩) fr h':=by
 obtain⟨h3,P,K,Ls,row,lv,p,q1,q2,q3,q4⟩:=b.pre
 have f0:aP 0 (.ptr c.mb 0 0)=some (.ptr c.mb 0 0):=rfl
 have f1:aP 2 (.ptr c.bb 0 0)=some (.ptr c.bb 0 2):=rfl
 have f2:aP 0 (.ptr n.fb n.below.length 0)=some (.ptr n.fb n.below.length 0):=rfl
 have f3:aP 1 (.ptr c.bb 0 (2+P*5))=some (.ptr c.bb 0 (2+P*5+1)):=rfl
 have f4:aP 1 (.ptr n.fb n.below.length 0)=some (.ptr n.fb n.below.length 1):=rfl
 have f5:aP 2 (.ptr n.fb n.below.length 0)=some (.ptr n.fb n.below.length 2):=rfl
 have f6:aP 2 (.ptr c.mb 0 0)=some (.ptr c.mb 0 2):=rfl
 have f7:aP 7 (.ptr n.fb n.below.length 0)=some (.ptr n.fb n.below.length 7):=rfl
 obtain⟨ar,sv,nv,g,mv⟩:=eh p.s (i+1+1) p.a.m
 have ll:∀ k:Nat,aR false k h3 (.ptr c.mb 0 2)=some (.int .i64 (n.S.left:Int)):=fun k=>by rw[bP,mv.m];rfl
 by_cases hl:n.S.left=0
 ·rw[if_pos hl]
  refine⟨_,_,?_,rfl,n.at (n.top.pc+1),rfl,p.s.drop.drop⟩
  have d:decide ((n.S.left:Int)=0)=true:=decide_eq_true (by omega)
  refine ag eU rfl ?_;unfold ep
  simp only[sim,af,θ,ξ,η,reduceCtorEq,ψ,ω,aa,au,Int.reduceEq,decide_false,decide_true,p.tp,p.e1.m,p.e1.p,p.e1.cd,p.e1.f,p.e1.pc,p.e1.ix,p.e2.m,p.e2.p,p.e2.cd,p.e2.f,p.e2.pc,p.e3,p.w,p.st,p.cx,q1,q2,q3,q4,f0,f1,f2,f3,f4,f5,f6,f7,ll,d,cK]
 ·rw[if_neg hl]
  have d:decide ((n.S.left:Int)=0)=false:=decide_eq_false (by omega)
  have hb:=b.ok.good.stk
  have hb:n.top.stack.length+n.S.left≤100000:=hb
  have w:IntKind.wrap .i64 ((n.S.left:Int) - 1)=((n.S.left - 1:Nat):Int):=HP (by omega) (by omega) (by omega)
  obtain⟨h4,e4,s4⟩:=Rk p.s (i+1+1) p.a.m ((n.S.left - 1:Nat):Int)
  rw[p.a.setM,th,bo]at s4
  have s5:=s4.set 1 rfl [zR3]
  have c4:=(s4.cell 1 rfl).1
  have c5:=(s5.cell 1 rfl).1
  refine⟨.inl (.tup [.agg zR3,.bool false]),_,?_,zR3,rfl,⟨rfl,rfl⟩,n.fb,s5.drop.drop⟩
  refine ag eU rfl ?_;unfold ep
  simp only[sim,af,θ,ξ,η,reduceCtorEq,ψ,ω,aa,au,Int.reduceEq,decide_false,decide_true,p.tp,p.e1.m,p.e1.p,p.e1.cd,p.e1.f,p.e1.pc,p.e1.ix,p.e2.m,p.e2.p,p.e2.cd,p.e2.f,p.e2.pc,p.e3,p.w,p.st,p.cx,q1,q2,q3,q4,f0,f1,f2,f3,f4,f5,f6,f7,ll,d,cU,w,e4,c4,c5]
set_option maxRecDepth 100000 in
set_option maxHeartbeats 2000000 in
theorem I4 {k m:Int} (b:lN h0 F0 J0 h c L i n ⟨101,k,m⟩) {st:List VD} {v:VD} (hst:n.top.stack=st++[v]):∃ fr h',aj Tryz.prog po D7 [.ptr c.mb 0 0] h=some (fr,h')∧BG h0 F0 J0 c L i (.go ⟨n.S,{(n.at (n.top.pc+1)).top with stack:=st,names:=n.top.names++[v]},n.below⟩) fr h':=by
 obtain⟨h3,P,K,Ls,row,lv,p,q1,q2,q3,q4⟩:=b.pre
 have f0:aP 0 (.ptr c.mb 0 0)=some (.ptr c.mb 0 0):=rfl
 have f1:aP 2 (.ptr c.bb 0 0)=some (.ptr c.bb 0 2):=rfl
 have f2:aP 0 (.ptr n.fb n.below.length 0)=some (.ptr n.fb n.below.length 0):=rfl
 have f3:aP 1 (.ptr c.bb 0 (2+P*5))=some (.ptr c.bb 0 (2+P*5+1)):=rfl
 have f4:aP 1 (.ptr n.fb n.below.length 0)=some (.ptr n.fb n.below.length 1):=rfl
 have f5:aP 2 (.ptr n.fb n.below.length 0)=some (.ptr n.fb n.below.length 2):=rfl
 have f6:aP 2 (.ptr c.mb 0 0)=some (.ptr c.mb 0 2):=rfl
 have f7:aP 7 (.ptr n.fb n.below.length 0)=some (.ptr n.fb n.below.length 7):=rfl
 obtain⟨h4,r,e4,hv,s4,a4⟩:=gQ p.s p.a p.o (st:=st) (v:=v) hst
 rw[th,bo]at s4
 rw[th,bo]at a4
 have s5:St h0 F0 J0 ((h4.push [r]).push [zR3]) (ah (h4.n+1) [zR3]::ah h4.n [r]::ah (h.n+1) [de ⟨101,k,m⟩]::ah h.n [zR3]::put c L i ((n.at (n.top.pc+1)).stk st)):=(s4.push [r]).push [zR3]
 have a5:=(a4.cons (ah h4.n [r])).cons (ah (h4.n+1) [zR3])
 obtain⟨ar,sv,nv,g,mv⟩:=eh s5 (i+1+1+1+1) a5.m
 have g6:=cT {(n.at (n.top.pc+1)).top with stack:=st} ar sv nv g mv.ha.len3.1
 have l7:=fun k=>mv.rd k 7 _ g6.2.2.1
 have m4:=s4.push [r]
 have m4a:=a4.cons (ah h4.n [r])
 obtain⟨ar',sv',nv',g',mv'⟩:=eh m4 (i+1+1+1) m4a.m
 have g6':=cT {(n.at (n.top.pc+1)).top with stack:=st} ar' sv' nv' g' mv'.ha.len3.1
 have l7':=fun k=>mv'.rd k 7 _ g6'.2.2.1
 clear g6 g6'
 have hz:=(s5.cell 0 rfl).1
 obtain⟨o1,o2⟩:=hv.len3
 have hnv:nv'=nv:=by
  have e:=(zK (h:=h4.push [r]) (b:=n.fb) (i:=n.below.length) (off:=7) (k:=0) (g:=false) (es:=[zR3]) mv'.fbn).symm.trans (l7 0)
  rw[l7' 0]at e
  exact Option.some.inj e
 subst hnv
 obtain⟨q,h6,h7,h8,b1,b2,b3,b4,s8⟩:=Tc s5 (i+1+1+1+1) a5.m hv (by have:=p.o.nms;simp only at this ⊢;omega) hz mv
 rw[a5.setM,aB,aB,th,bo]at s8
 have s9:=s8.set 3 rfl [zR3]
 have c4:=(m4.cell 0 rfl).1
 have c5:=(s5.cell 1 rfl).1
 have c8:=(s8.cell 1 rfl).1
 have c9:=(s8.cell 3 rfl).1
 have c10:=(s9.cell 3 rfl).1
 have ln:=mv.nv.2.2.1
 have lo:=mv.nv.1
 have fi:=mv.nv.2.2.2.1
 have xm:bL (some tV) none (.msl q 0 (n.top.names.length+1) tV) (.int .i64 (n.top.names.length:Int))=some (.ptr q n.top.names.length 0):=by
  have:=qO (q:= .i64) (e:=tV) (el:=tV) (b:=q) (o:=0) (n:=n.top.names.length+1) (i:=n.top.names.length) rfl (by omega)
  rwa [Nat.zero_add]at this
 refine⟨.inl (.tup [.agg zR3,.bool false]),_,?_,zR3,rfl,⟨rfl,rfl⟩,n.fb,s9.drop.drop.drop.drop⟩
 refine ag eU rfl ?_;unfold ep
 simp only[sim,af,θ,ξ,η,reduceCtorEq,ψ,ω,aa,au,Int.reduceEq,decide_false,decide_true,p.tp,p.e1.m,p.e1.p,p.e1.cd,p.e1.f,p.e1.pc,p.e1.ix,p.e2.m,p.e2.p,p.e2.cd,p.e2.f,p.e2.pc,p.e3,p.w,p.st,p.cx,q1,q2,q3,q4,f0,f1,f2,f3,f4,f5,f6,f7,e4,o1,o2,c4,c5,l7,l7',ln,lo,fi,xm,b1,b2,b3,b4,c8,c9,c10]
set_option maxRecDepth 100000 in
set_option maxHeartbeats 2000000 in
theorem Ik {k m:Int} (b:lN h0 F0 J0 h c L i n ⟨102,k,m⟩) {nm:List VD} {v:VD} (hst:n.top.names=nm++[v]):∃ fr h',aj Tryz.prog po D7 [.ptr c.mb 0 0] h=some (fr,h')∧BG h0 F0 J0 c L i (.go ⟨n.S,{(n.at (n.top.pc+1)).top with names:=nm},n.below⟩) fr h':=by
 obtain⟨h3,P,K,Ls,row,lv,p,q1,q2,q3,q4⟩:=b.pre
 have f0:aP 0 (.ptr c.mb 0 0)=some (.ptr c.mb 0 0):=rfl
 have f1:aP 2 (.ptr c.bb 0 0)=some (.ptr c.bb 0 2):=rfl
 have f2:aP 0 (.ptr n.fb n.below.length 0)=some (.ptr n.fb n.below.length 0):=rfl
 have f3:aP 1 (.ptr c.bb 0 (2+P*5))=some (.ptr c.bb 0 (2+P*5+1)):=rfl
 have f4:aP 1 (.ptr n.fb n.below.length 0)=some (.ptr n.fb n.below.length 1):=rfl
 have f5:aP 2 (.ptr n.fb n.below.length 0)=some (.ptr n.fb n.below.length 2):=rfl
 have f6:aP 2 (.ptr c.mb 0 0)=some (.ptr c.mb 0 2):=rfl
 have f7:aP 7 (.ptr n.fb n.below.length 0)=some (.ptr n.fb n.below.length 7):=rfl
 obtain⟨ar,sv,nv,g,mv⟩:=eh p.s (i+1+1) p.a.m
 have g6:=cT (n.at (n.top.pc+1)).top ar sv nv g mv.ha.len3.1
 have l7:=fun k=>mv.rd k 7 _ g6.2.2.1
 clear g6
 obtain⟨nv',h4,b1,b2,b3,b4,s4⟩:=Qy p.s (i+1+1) p.a.m (nm:=nm) (v:=v) hst mv
 rw[p.a.setM,th,bo]at s4
 have s5:=s4.set 1 rfl [zR3]
 have c4:=(s4.cell 1 rfl).1
 have c5:=(s5.cell 1 rfl).1
 have ln:=mv.nv.2.2.1
 have hlen:(n.at (n.top.pc+1)).top.names.length=nm.length+1:=by
  show n.top.names.length=_
  rw[hst];simp
 rw[hlen]at ln
 have hn:=p.o.nms
 rw[hlen]at hn
 have lo:=mv.nv.1
 have fi:=mv.nv.2.2.2.1
 have w:IntKind.wrap .i64 (((nm.length+1:Nat):Int) - 1)=(nm.length:Int):=HP (by omega) (by omega) (by omega)
 refine⟨.inl (.tup [.agg zR3,.bool false]),_,?_,zR3,rfl,⟨rfl,rfl⟩,n.fb,s5.drop.drop⟩
 refine ag eU rfl ?_;unfold ep
 simp only[sim,af,θ,ξ,η,reduceCtorEq,ψ,ω,aa,au,Int.reduceEq,decide_false,decide_true,p.tp,p.e1.m,p.e1.p,p.e1.cd,p.e1.f,p.e1.pc,p.e1.ix,p.e2.m,p.e2.p,p.e2.cd,p.e2.f,p.e2.pc,p.e3,p.w,p.st,p.cx,q1,q2,q3,q4,f0,f1,f2,f3,f4,f5,f6,f7,l7,ln,lo,fi,w,b1,b2,b3,b4,c4,c5]
set_option maxRecDepth 100000 in
set_option maxHeartbeats 2000000 in
theorem GV {k m:Int} (b:lN h0 F0 J0 h c L i n ⟨103,k,m⟩) {st:List VD} {v:VD} (hst:n.top.stack=st++[v]) (hk0:0≤k):∃ fr h',aj Tryz.prog po D7 [.ptr c.mb 0 0] h=some (fr,h')∧BG h0 F0 J0 c L i (if v.kind≠1 then .fail n.S 2 else .go ⟨n.S,{(n.at (n.top.pc+1)).top with stack:=st,pc:=if v.n=0 then k.toNat else n.top.pc+1},n.below⟩) fr h':=by
 obtain⟨h3,P,K,Ls,row,lv,p,q1,q2,q3,q4⟩:=b.pre
 have f0:aP 0 (.ptr c.mb 0 0)=some (.ptr c.mb 0 0):=rfl
 have f1:aP 2 (.ptr c.bb 0 0)=some (.ptr c.bb 0 2):=rfl
 have f2:aP 0 (.ptr n.fb n.below.length 0)=some (.ptr n.fb n.below.length 0):=rfl
 have f3:aP 1 (.ptr c.bb 0 (2+P*5))=some (.ptr c.bb 0 (2+P*5+1)):=rfl
 have f4:aP 1 (.ptr n.fb n.below.length 0)=some (.ptr n.fb n.below.length 1):=rfl
 have f5:aP 2 (.ptr n.fb n.below.length 0)=some (.ptr n.fb n.below.length 2):=rfl
 have f6:aP 2 (.ptr c.mb 0 0)=some (.ptr c.mb 0 2):=rfl
 have f7:aP 7 (.ptr n.fb n.below.length 0)=some (.ptr n.fb n.below.length 7):=rfl
 obtain⟨h4,r,e4,hv,s4,a4⟩:=gQ p.s p.a p.o (st:=st) (v:=v) hst
 rw[th,bo]at s4
 rw[th,bo]at a4
 obtain⟨o1,o2⟩:=hv.len3
 by_cases hk:v.kind=1
 ·rw[if_neg (by simpa using hk)]
  obtain⟨r',ek,hr'⟩:=fA (h:=h4) hv hk
  obtain⟨w,hw,_⟩:=hr'.cells3
  have hn:UG false 1 1 (.agg r')=some (.int .i64 v.n):=by rw[hw];rfl
  obtain⟨o3,o4⟩:=hr'.len3
  clear hw
  by_cases hz:v.n=0
  ·rw[if_pos hz]
   have d:decide (v.n=0)=true:=decide_eq_true hz
   have c4:=(s4.cell 0 rfl).1
   obtain⟨h5,e5,s5⟩:=GW s4 (i+1+1) a4.m k.toNat
   rw[Int.toNat_of_nonneg hk0]at e5
   rw[a4.setM,th,bo]at s5
   have s6:=s5.set 1 rfl [zR3]
   have c5:=(s5.cell 1 rfl).1
   have c6:=(s6.cell 1 rfl).1
   refine⟨.inl (.tup [.agg zR3,.bool false]),_,?_,zR3,rfl,⟨rfl,rfl⟩,n.fb,s6.drop.drop⟩
   refine ag eU rfl ?_;unfold ep
   simp only[sim,af,θ,ξ,η,reduceCtorEq,ψ,ω,aa,au,Int.reduceEq,decide_false,decide_true,p.tp,p.e1.m,p.e1.p,p.e1.cd,p.e1.f,p.e1.pc,p.e1.ix,p.e2.m,p.e2.p,p.e2.cd,p.e2.f,p.e2.pc,p.e3,p.w,p.st,p.cx,q1,q2,q3,q4,f0,f1,f2,f3,f4,f5,f6,f7,e4,o1,o2,ek,hn,o3,o4,d,c4,e5,c5,c6]
  ·rw[if_neg hz]
   have d:decide (v.n=0)=false:=decide_eq_false hz
   have s6:=s4.set 1 rfl [zR3]
   have c5:=(s4.cell 1 rfl).1
   have c6:=(s6.cell 1 rfl).1
   refine⟨.inl (.tup [.agg zR3,.bool false]),_,?_,zR3,rfl,⟨rfl,rfl⟩,n.fb,s6.drop.drop⟩
   refine ag eU rfl ?_;unfold ep
   simp only[sim,af,θ,ξ,η,reduceCtorEq,ψ,ω,aa,au,Int.reduceEq,decide_false,decide_true,p.tp,p.e1.m,p.e1.p,p.e1.cd,p.e1.f,p.e1.pc,p.e1.ix,p.e2.m,p.e2.p,p.e2.cd,p.e2.f,p.e2.pc,p.e3,p.w,p.st,p.cx,q1,q2,q3,q4,f0,f1,f2,f3,f4,f5,f6,f7,e4,o1,o2,ek,hn,o3,o4,d,c5,c6]
 ·rw[if_pos hk]
  have ek:=gN (h:=h4) hv hk
  refine⟨_,_,?_,rfl,(n.at (n.top.pc+1)).stk st,rfl,s4.drop.drop⟩
  refine ag eU rfl ?_;unfold ep
  simp only[sim,af,θ,ξ,η,reduceCtorEq,ψ,ω,aa,au,Int.reduceEq,decide_false,decide_true,p.tp,p.e1.m,p.e1.p,p.e1.cd,p.e1.f,p.e1.pc,p.e1.ix,p.e2.m,p.e2.p,p.e2.cd,p.e2.f,p.e2.pc,p.e3,p.w,p.st,p.cx,q1,q2,q3,q4,f0,f1,f2,f3,f4,f5,f6,f7,e4,o1,o2,ek]
set_option maxRecDepth 100000 in
set_option maxHeartbeats 2000000 in
theorem Hh {k m:Int} (b:lN h0 F0 J0 h c L i n ⟨104,k,m⟩) (hk0:0≤k):∃ fr h',aj Tryz.prog po D7 [.ptr c.mb 0 0] h=some (fr,h')∧BG h0 F0 J0 c L i (.go ⟨n.S,{(n.at (n.top.pc+1)).top with pc:=k.toNat},n.below⟩) fr h':=by
 obtain⟨h3,P,K,Ls,row,lv,p,q1,q2,q3,q4⟩:=b.pre
 have f0:aP 0 (.ptr c.mb 0 0)=some (.ptr c.mb 0 0):=rfl
 have f1:aP 2 (.ptr c.bb 0 0)=some (.ptr c.bb 0 2):=rfl
 have f2:aP 0 (.ptr n.fb n.below.length 0)=some (.ptr n.fb n.below.length 0):=rfl
 have f3:aP 1 (.ptr c.bb 0 (2+P*5))=some (.ptr c.bb 0 (2+P*5+1)):=rfl
 have f4:aP 1 (.ptr n.fb n.below.length 0)=some (.ptr n.fb n.below.length 1):=rfl
 have f5:aP 2 (.ptr n.fb n.below.length 0)=some (.ptr n.fb n.below.length 2):=rfl
 have f6:aP 2 (.ptr c.mb 0 0)=some (.ptr c.mb 0 2):=rfl
 have f7:aP 7 (.ptr n.fb n.below.length 0)=some (.ptr n.fb n.below.length 7):=rfl
 have c4:=(p.s.cell 0 rfl).1
 obtain⟨h5,e5,s5⟩:=GW p.s (i+1+1) p.a.m k.toNat
 rw[Int.toNat_of_nonneg hk0]at e5
 rw[p.a.setM,th,bo]at s5
 have s6:=s5.set 1 rfl [zR3]
 have c5:=(s5.cell 1 rfl).1
 have c6:=(s6.cell 1 rfl).1
 refine⟨.inl (.tup [.agg zR3,.bool false]),_,?_,zR3,rfl,⟨rfl,rfl⟩,n.fb,s6.drop.drop⟩
 refine ag eU rfl ?_;unfold ep
 simp only[sim,af,θ,ξ,η,reduceCtorEq,ψ,ω,aa,au,Int.reduceEq,decide_false,decide_true,p.tp,p.e1.m,p.e1.p,p.e1.cd,p.e1.f,p.e1.pc,p.e1.ix,p.e2.m,p.e2.p,p.e2.cd,p.e2.f,p.e2.pc,p.e3,p.w,p.st,p.cx,q1,q2,q3,q4,f0,f1,f2,f3,f4,f5,f6,f7,c4,e5,c5,c6]
theorem ZQ {A B:Asn} {n':Now} {fb':Nat} {S:StD}:nR c (A::B::put c L i n') (i+1+1) fb' S=A::B::nR c L i fb' S:=by
 have:nR c (put c L i n') i fb' S=nR c L i fb' S:=by
  unfold nR
  rw[bo]
 exact congrArg (fun l=>A::B::l) this
set_option maxRecDepth 100000 in
set_option maxHeartbeats 2000000 in
theorem Ge {k m:Int} (b:lN h0 F0 J0 h c L i n ⟨105,k,m⟩) {st:List VD} {v:VD} (hst:n.top.stack=st++[v]) (hgo:∀ m',MaD.back (n.at (n.top.pc+1)).m= .go m'→m'.top.stack.length≤100000):∃ fr h',aj Tryz.prog po D7 [.ptr c.mb 0 0] h=some (fr,h')∧BG h0 F0 J0 c L i (MaD.back (n.at (n.top.pc+1)).m) fr h':=by
 obtain⟨h3,P,K,Ls,row,lv,p,q1,q2,q3,q4⟩:=b.pre
 have f0:aP 0 (.ptr c.mb 0 0)=some (.ptr c.mb 0 0):=rfl
 have f1:aP 2 (.ptr c.bb 0 0)=some (.ptr c.bb 0 2):=rfl
 have f2:aP 0 (.ptr n.fb n.below.length 0)=some (.ptr n.fb n.below.length 0):=rfl
 have f3:aP 1 (.ptr c.bb 0 (2+P*5))=some (.ptr c.bb 0 (2+P*5+1)):=rfl
 have f4:aP 1 (.ptr n.fb n.below.length 0)=some (.ptr n.fb n.below.length 1):=rfl
 have f5:aP 2 (.ptr n.fb n.below.length 0)=some (.ptr n.fb n.below.length 2):=rfl
 have f6:aP 2 (.ptr c.mb 0 0)=some (.ptr c.mb 0 2):=rfl
 have f7:aP 7 (.ptr n.fb n.below.length 0)=some (.ptr n.fb n.below.length 7):=rfl
 obtain⟨fr,h4,e4,ob⟩:=VI p.s p.a p.o (st:=st) (v:=v) hst b.ok.good.top.gates hgo
 generalize MaD.back (n.at (n.top.pc+1)).m=q at*
 cases q with
 | go m'=>
   obtain⟨r,rfl,⟨o1,o2⟩,fb',s4⟩:=ob
   rw[th,bo]at s4
   have s5:=s4.set 1 rfl [r]
   have c4:=(s4.cell 1 rfl).1
   have c5:=(s5.cell 1 rfl).1
   refine⟨.inl (.tup [.agg r,.bool false]),_,?_,r,rfl,⟨o1,o2⟩,fb',s5.drop.drop⟩
   refine ag eU rfl ?_;unfold ep
   simp only[sim,af,θ,ξ,η,reduceCtorEq,ψ,ω,aa,au,Int.reduceEq,decide_false,decide_true,p.tp,p.e1.m,p.e1.p,p.e1.cd,p.e1.f,p.e1.pc,p.e1.ix,p.e2.m,p.e2.p,p.e2.cd,p.e2.f,p.e2.pc,p.e3,p.w,p.st,p.cx,q1,q2,q3,q4,f0,f1,f2,f3,f4,f5,f6,f7,e4,o1,o2,c4,c5]
 | fail S k'=>
   obtain⟨rfl,n',hn',s4⟩:=ob
   rw[th,bo]at s4
   refine⟨_,_,?_,rfl,n',hn',s4.drop.drop⟩
   refine ag eU rfl ?_;unfold ep
   simp only[sim,af,θ,ξ,η,reduceCtorEq,ψ,ω,aa,au,Int.reduceEq,decide_false,decide_true,p.tp,p.e1.m,p.e1.p,p.e1.cd,p.e1.f,p.e1.pc,p.e1.ix,p.e2.m,p.e2.p,p.e2.cd,p.e2.f,p.e2.pc,p.e3,p.w,p.st,p.cx,q1,q2,q3,q4,f0,f1,f2,f3,f4,f5,f6,f7,e4]
 | over S v'=>
   obtain⟨r,rfl,hv,fb',s4⟩:=ob
   rw[ZQ]at s4
   obtain⟨o1,o2⟩:=hv.len3
   have s5:=s4.set 1 rfl [r]
   have c4:=(s4.cell 1 rfl).1
   have c5:=(s5.cell 1 rfl).1
   refine⟨.inl (.tup [.agg r,.bool true]),_,?_,r,rfl,hv,fb',s5.drop.drop⟩
   refine ag eU rfl ?_;unfold ep
   simp only[sim,af,θ,ξ,η,reduceCtorEq,ψ,ω,aa,au,Int.reduceEq,decide_false,decide_true,p.tp,p.e1.m,p.e1.p,p.e1.cd,p.e1.f,p.e1.pc,p.e1.ix,p.e2.m,p.e2.p,p.e2.cd,p.e2.f,p.e2.pc,p.e3,p.w,p.st,p.cx,q1,q2,q3,q4,f0,f1,f2,f3,f4,f5,f6,f7,e4,o1,o2,c4,c5]
set_option maxRecDepth 100000 in
set_option maxHeartbeats 2000000 in
theorem Qz {x:bq} (b:lN h0 F0 J0 h c L i n x) (hop:x.op<100):∃ fr h',aj Tryz.prog po D7 [.ptr c.mb 0 0] h=some (fr,h')∧BG h0 F0 J0 c L i (mP c.ms (n.at (n.top.pc+1)).m x) fr h':=by
 obtain⟨h3,P,K,Ls,row,lv,p,q1,q2,q3,q4⟩:=b.pre
 have f0:aP 0 (.ptr c.mb 0 0)=some (.ptr c.mb 0 0):=rfl
 have f1:aP 2 (.ptr c.bb 0 0)=some (.ptr c.bb 0 2):=rfl
 have f2:aP 0 (.ptr n.fb n.below.length 0)=some (.ptr n.fb n.below.length 0):=rfl
 have f3:aP 1 (.ptr c.bb 0 (2+P*5))=some (.ptr c.bb 0 (2+P*5+1)):=rfl
 have f4:aP 1 (.ptr n.fb n.below.length 0)=some (.ptr n.fb n.below.length 1):=rfl
 have f5:aP 2 (.ptr n.fb n.below.length 0)=some (.ptr n.fb n.below.length 2):=rfl
 have f6:aP 2 (.ptr c.mb 0 0)=some (.ptr c.mb 0 2):=rfl
 have f7:aP 7 (.ptr n.fb n.below.length 0)=some (.ptr n.fb n.below.length 7):=rfl
 have hg:=b.ok.good.top
 have hx:=b.ok.op
 have hget:(fB c.ms n.m.top.plugin n.m.top.f).getD n.m.top.pc rQ=x:=b.get
 rw[hget]at hx
 obtain⟨fr,h4,e4,oi⟩:=Yb p.s p.a p.o (x:=x) ⟨hg.p0,hg.there,hg.f0,hg.f1,hg.arg,hg.names,hg.stack,hg.gates⟩ ⟨hx.kind,hx.one,hx.nam,hx.jump,hx.parts,hx.var⟩ hop
 have d:∀ j:Int,100≤j→decide (x.op=j)=false:=fun j hj=>decide_eq_false (by omega)
 have d0:=d 100 (by decide);have d1:=d 101 (by decide);have d2:=d 102 (by decide);have d3:=d 103 (by decide);have d4:=d 104 (by decide);have d5:=d 105 (by decide)
 have c3:=(p.s.cell 0 rfl).1
 generalize mP c.ms (n.at (n.top.pc+1)).m x=q at*
 cases q with
 | go m'=>
   obtain⟨rfl,fb',s4⟩:=oi
   rw[th,bo]at s4
   have s5:=s4.set 1 rfl [zR3]
   have c4:=(s4.cell 1 rfl).1
   have c5:=(s5.cell 1 rfl).1
   refine⟨.inl (.tup [.agg zR3,.bool false]),_,?_,zR3,rfl,⟨rfl,rfl⟩,fb',s5.drop.drop⟩
   refine ag eU rfl ?_;unfold ep
   simp only[sim,af,θ,ξ,η,reduceCtorEq,ψ,ω,aa,au,Int.reduceEq,decide_false,decide_true,p.tp,p.e1.m,p.e1.p,p.e1.cd,p.e1.f,p.e1.pc,p.e1.ix,p.e2.m,p.e2.p,p.e2.cd,p.e2.f,p.e2.pc,p.e3,p.w,p.st,p.cx,q1,q2,q3,q4,f0,f1,f2,f3,f4,f5,f6,f7,e4,c3,c4,c5,d0,d1,d2,d3,d4,d5]
 | fail S k'=>
   obtain⟨rfl,n',hn',s4⟩:=oi
   rw[th,bo]at s4
   refine⟨_,_,?_,rfl,n',hn',s4.drop.drop⟩
   refine ag eU rfl ?_;unfold ep
   simp only[sim,af,θ,ξ,η,reduceCtorEq,ψ,ω,aa,au,Int.reduceEq,decide_false,decide_true,p.tp,p.e1.m,p.e1.p,p.e1.cd,p.e1.f,p.e1.pc,p.e1.ix,p.e2.m,p.e2.p,p.e2.cd,p.e2.f,p.e2.pc,p.e3,p.w,p.st,p.cx,q1,q2,q3,q4,f0,f1,f2,f3,f4,f5,f6,f7,e4,c3,d0,d1,d2,d3,d4,d5]
 | over S v'=>exact oi.elim
end
section
variable {h h' h0:AH} {F J F0 J0:Nat→Prop} {L:List Asn} {c:Cfg} {i:Nat} {n:Now}
theorem Za {c:Cfg} {n:Now} (hc:c.ms.length=4) (g:n.m.Good c.ms):OkR c n:=by
 have g1:n.S.mu≤1000000:=g.mu
 have g2:n.top.stack.length+n.S.left≤100000:=g.stk
 have g3:n.top.names.length+n.S.left≤100000:=g.nms
 have g4:n.below.length+1≤20:=g.few
 unfold StD.mu at g1
 exact⟨hc,g.S,by omega,by omega,by omega,by omega⟩
theorem BT (s:St h0 F0 J0 h L) (a:At c L i n) (hc:c.ms.length=4) (hm:kM c.ms) (ok:Ok c.ms n.m) (hnext:∀ m',iD c.ms n.m= .go m'→m'.Good c.ms):
  ∃ fr h',aj Tryz.prog po D7 [.ptr c.mb 0 0] h=some (fr,h')∧BG h0 F0 J0 c L i (iD c.ms n.m) fr h':=by
 have b:lN h0 F0 J0 h c L i n ((fB c.ms n.top.plugin n.top.f).getD n.top.pc rQ):=⟨s,a,Za hc ok.good,hm,ok,rfl⟩
 have hx:=ok.op
 have hx:Lv n.m ((fB c.ms n.top.plugin n.top.f).getD n.top.pc rQ):=hx
 have hs:iD c.ms n.m=(let x:=(fB c.ms n.top.plugin n.top.f).getD n.top.pc rQ
  let m:MaD:=(n.at (n.top.pc+1)).m
  let t:=m.top
  if x.op=100 then(if m.S.left=0 then .fail m.S 12 else .go {m with S:=m.S.tick})
  else if x.op=101 then .go {m with top:={t with stack:=oG t.stack 1,names:=t.names++[(mI t.stack 1).getD 0 aK]}}
  else if x.op=102 then .go {m with top:={t with names:=t.names.dropLast}}
  else if x.op=103 then(let v:=(mI t.stack 1).getD 0 aK
   if v.kind≠1 then .fail m.S 2 else .go {m with top:={t with stack:=oG t.stack 1,pc:=if v.n=0 then x.k.toNat else t.pc}})
  else if x.op=104 then .go {m with top:={t with pc:=x.k.toNat}}
  else if x.op=105 then m.back
  else mP c.ms m x):=rfl
 rw[hs]at hnext ⊢
 generalize (fB c.ms n.top.plugin n.top.f).getD n.top.pc rQ=x at*
 clear hs
 obtain⟨op,k,m⟩:=x
 simp only at hnext ⊢
 have hkind:=hx.kind
 simp only at hkind
 rcases hkind with hk | hk
 ·rw[if_neg (by omega),if_neg (by omega),if_neg (by omega),if_neg (by omega),if_neg (by omega),if_neg (by omega)]
  exact Qz b (by show op<100;omega)
 ·have ops:op=100∨op=101∨op=102∨op=103∨op=104∨op=105:=by omega
  rcases ops with rfl | rfl | rfl | rfl | rfl | rfl
  ·rw[if_pos rfl]
   exact HT b
  ·obtain⟨st,v,hst⟩:=gd (l:=n.top.stack) (by have:=hx.one (.inl rfl);exact List.length_pos_iff.2 this)
   rw[if_neg (by decide),if_pos rfl]
   have:=I4 b hst
   simp only[hst,fJ,jd]
   exact this
  ·obtain⟨nm,v,hst⟩:=gd (l:=n.top.names) (by have:=hx.nam rfl;exact List.length_pos_iff.2 this)
   rw[if_neg (by decide),if_neg (by decide),if_pos rfl]
   have:=Ik b hst
   simp only[hst,List.dropLast_concat]
   exact this
  ·obtain⟨st,v,hst⟩:=gd (l:=n.top.stack) (by have:=hx.one (.inr (.inl rfl));exact List.length_pos_iff.2 this)
   rw[if_neg (by decide),if_neg (by decide),if_neg (by decide),if_pos rfl]
   have:=GV b hst (hx.jump (.inl rfl))
   simp only[hst,fJ,jd,List.getD_cons_zero]
   exact this
  ·rw[if_neg (by decide),if_neg (by decide),if_neg (by decide),if_neg (by decide),if_pos rfl]
   exact Hh b (hx.jump (.inr rfl))
  ·obtain⟨st,v,hst⟩:=gd (l:=n.top.stack) (by have:=hx.one (.inr (.inr rfl));exact List.length_pos_iff.2 this)
   simp only[Int.reduceEq,if_false,if_true]at hnext ⊢
   refine Ge b hst fun m' e=> ?_
   have g:=(hnext m' e).stk
   omega
end
set_option maxHeartbeats 1000000 in
theorem DZ:∀ (N:Nat) (x:VD),SizeOf.sizeOf x≤N→x.size≤100000→∀ (r:List AV) (h:AH),VaA x r→
  ∃ r',aj Tryz.prog po 48 [.agg r] h=some (.inl (.agg r'),h)∧VaA (id x) r':=by
 intro N
 induction N with
 | zero=>intro x hx;have:=x.so_pos;omega
 | succ N ih=>
   intro x hx hsz r h he
   obtain⟨v,es,rfl,hsl,hv,hn,hix⟩:=he.facts
   have hlen:=x.len_size
   suffices key:∃ v',aj Tryz.prog po 48 [.agg [.int .i64 x.kind,.int .i64 x.n,v]] h=some (.inl v',h)∧∃ r',v'= .agg r'∧VaA (id x) r' by
    obtain⟨_,e,r',rfl,h2⟩:=key
    exact⟨r',e,h2⟩
   have rest:∀ (Q:jN→Prop) (h0:AH) (w4 w8:AV) (z:Int),h0=((h.push [[.int .i64 x.kind,.int .i64 x.n,v]]).push [[.int .i64 0,.int .i64 0,.nils]]).push [[.int .i64 x.kind,.int .i64 z,.nils]]→
     z=(id x).n→
     (∀ V h' v v',(fS V h' [.cell true 3 2]).map gh=some v→ab h h'→wkA v=some v'→(∃ r',v'= .agg r'∧VaA (id x) r')→Q (some (.ret,V,h')))→
     Q (aC (aj Tryz.prog po) 9 (.lp nx:: .ss []:: .blk 0::[.ss [.ops [md,xK],.ret]])
       [.agg [.int .i64 x.kind,.int .i64 x.n,v],.ptr h.n 0 0,.ptr (h.n+1) 0 0,.ptr (h.n+1+1) 0 0,w4,v,.int .i64 es.length,.int .i64 0,w8] [] h0):=by
    intro Q h0 w4 w8 z hh0 hz hQ
    subst hh0
    refine fN (fun i V h'=>∃ w4 w8 acc rows,V=[.agg [.int .i64 x.kind,.int .i64 x.n,v],.ptr h.n 0 0,.ptr (h.n+1) 0 0,.ptr (h.n+1+1) 0 0,w4,v,.int .i64 es.length,.int .i64 (i:Nat),w8]∧
     ab h h'∧h.n+1+1<h'.n∧h'.cell h.n=some [[.int .i64 x.kind,.int .i64 x.n,v]]∧h'.cell (h.n+1)=some [[.int .i64 0,.int .i64 0,.nils]]∧h'.cell (h.n+1+1)=some [[.int .i64 x.kind,.int .i64 z,acc]]∧
     Acc h h' tV acc rows∧VaL ((x.l.take i).map id) rows) x.l.length ⟨_,_,_,[],rfl,(by repeat (first | exact ab.refl _ | refine ab.trans ?_ (ab.push _ _) | refine ab.trans ?_ (ab.fresh _ _))),by simp only[bd];omega,gA,iE,aw,iI _ _ _,rfl⟩ ?_ ?_
    ·rintro i V h' hi ⟨w4,w8,acc,rows,rfl,g,hm,c1,c2,c3,ha,hr⟩ next
     have hlt:(i:Int)<(es.length:Int):=by rw[hn];omega
     obtain⟨y,hy⟩:=i7 hi
     obtain⟨q,i1,d1,x1⟩:=hix i y hy
     have hw:=w64 (n:=(i:Int)+1) (by omega) (by omega)
     obtain⟨q',e1,x2⟩:=ih y (by have:=VD.lt_mem (eR hy);omega) (by have:=VD.size_mem (eR hy);omega) q (h'.push [q]) x1
     obtain⟨p1,p2⟩:=x1.one
     replace c1:=(bv (es:=[q]) (show h.n<h'.n by omega)).trans c1
     replace c2:=(bv (es:=[q]) (show h.n+1<h'.n by omega)).trans c2
     replace c3:=(bv (es:=[q]) hm).trans c3
     obtain⟨o1,o2⟩:=x2.one
     have hrl:rows.length≤1000000:=by rw[hr.len,List.length_map,List.length_take];omega
     obtain⟨acc2,h2,e2,a1,a2,a3,a4⟩:=lw (show Acc h (h'.push [q]) tV acc rows from ha) (g.trans (ab.push _ _)) (row:=q') o1 hrl
     simp only[gM]at e2
     have b1:(h2.set (h.n+1+1) (some [[.int .i64 x.kind,.int .i64 z,acc2]])).cell h.n=some [[.int .i64 x.kind,.int .i64 x.n,v]]:=by rw[bu (by omega),a3];exact c1
     have b2:(h2.set (h.n+1+1) (some [[.int .i64 x.kind,.int .i64 z,acc2]])).cell (h.n+1)=some [[.int .i64 0,.int .i64 0,.nils]]:=by rw[bu (by omega),a3];exact c2
     have oA:acc2.one=true:=by
      rcases a1 with⟨_,rfl⟩ | ⟨id,_,_,_,_,rfl⟩<;>rfl
     have cA:acc2.cells=[acc2]:=by
      rcases a1 with⟨_,rfl⟩ | ⟨id,_,_,_,_,rfl⟩<;>rfl
     rw[aG nx.eq_1]
     simp only[sim,af,θ,ξ,η,reduceCtorEq,ψ,ω,aa,c1,c2,c3,hsl.len,hsl.fits,hlt,i1,d1,e1,p1,p2,bi p2,o1,o2,e2,hsl.len,a3,oA,cA,hw]
     refine next _ _ ⟨_,_,_,_,rfl,a2.set (by omega),by rw[fI,a4];show _<h'.n+1;omega,b1,b2,bR,a1,?_⟩
     rw[kO hy,List.map_append]
     exact hr.append x2
    ·rintro V h' ⟨w4,w8,acc,rows,rfl,g,hm,c1,c2,c3,ha,hr⟩
     have hlt:¬ ((x.l.length:Int)<(es.length:Int)):=by rw[hn];omega
     rw[List.take_length]at hr
     have oA:acc.one=true:=by
      rcases ha with⟨_,rfl⟩ | ⟨id,_,_,_,_,rfl⟩<;>rfl
     have hsl':SlA tV acc rows:=by
      rcases ha with⟨q1,q2⟩ | ⟨id,_,_,_,_,q2⟩
      ·exact .inl ⟨q1,q2⟩
      ·exact .inr ⟨_,q2⟩
     have hx':VaA (id x) [.int .i64 x.kind,.int .i64 z,acc]:=by
      rw[hz]
      have:=VaA.mk (x:=id x) hsl' (by rw[Z9];exact hr)
      rw[aaw]at this
      exact this
     obtain⟨r',hw,hr'⟩:=JG hx'
     have hwA:wkA (.agg [.int .i64 x.kind,.int .i64 z,acc])=some (.agg r'):=by simp only[wkA,hw,Option.map_some]
     rw[aG nx.eq_1]
     simp only[sim,af,θ,ξ,η,reduceCtorEq,ψ,ω,aa,c1,c2,c3,hsl.len,hsl.fits,hlt,oA]
     exact hQ _ _ _ _ (by simp only[sim,oA,List.all_cons,List.all_nil,List.length_cons,List.length_nil,Option.map_some,Option.bind_some,List.getD_cons_zero,List.getD_cons_succ,List.take_succ_cons,List.take_zero,List.drop_zero]) (g.set (by omega)) hwA ⟨r',rfl,hr'⟩
   refine GJ Ux rfl fun Q hQ=> ?_;unfold Ju
   simp only[sim,af,θ,ξ,η,reduceCtorEq,ψ,ω,aa,hv,hsl.len,hsl.fits]
   exact rest _ _ _ _ x.n rfl rfl hQ
open Go Go.RowKit
abbrev gE:FuncId:=12
abbrev fRc:FuncId:=49
noncomputable def cRu:Code:=Tryz.f12.body.getD .skip
noncomputable def cRc:Code:=Tryz.f49.body.getD .skip
theorem Nj:(Tryz.prog).funcs[fRc]? =some Tryz.f49:=Tryz.func49
theorem KL:Tryz.f49.body=some cRc:=rfl
theorem Si:cRc= .seq (cL cRc) (cR cRc):=rfl
theorem ZX:Tryz.f49.ntmps=27:=rfl
noncomputable def rcA:Oper:={dst:=some 8,op:= .call {callee:= .builtin .recover,args:= #[],argTypes:= #[]},type:=((gC (cL cRc)).getD 0 default).type,pos:=((gC (cL cRc)).getD 0 default).pos,after:= #[],guard:=none}
noncomputable def rcB:Oper:={dst:=some 5,op:= .assign (.tmp 8),type:=((gC (cL cRc)).getD 1 default).type,pos:=((gC (cL cRc)).getD 1 default).pos,after:=((gC (cL cRc)).getD 1 default).after,guard:=none}
theorem RZ:cL cRc= .region 0 #[rcA,rcB] false:=rfl
abbrev vRc:List Nat:=[0,1,2,3,4,5,6,7,10,17]
theorem VZ:bG Tryz.prog (po.mu fRc) (po.plan fRc) 27 vRc (cR cRc) []=some HB:=by kernel_rfl
theorem R3:dP (po.plan fRc) (po.kp fRc) (cR cRc)=true:=by kernel_rfl
theorem W6:x9 5 27 (po.nv fRc) 10 vRc=true:=by kernel_rfl
theorem Se (a:Array Value) (w:World):∃ v,(results Tryz.f49 a).run Tryz.prog w= .ok v w:=⟨.tuple #[],by simp[results,Tryz.results49]⟩
theorem Rj:OO Tryz.prog (cL cRc) 27 8 5:=by
 intro ts v cs cs' w hsz h
 rw[RZ]
 apply wpS_region
 rcases h with h1 | ⟨h1,h2,h3⟩
 ·simp[wpOpsS,go_sem,rcA,rcB,h1,Act.put,Act.eval,hsz]
 ·simp[wpOpsS,go_sem,rcA,rcB,h1,Act.put,Act.eval,hsz,h2,h3]
theorem WV (x y z u t e:AV):RV 27 vRc [] (cz (cz ([x,y,z,u,t]++η (27 - [x,y,z,u,t].length) .junk) (some 8) e) (some 5) e) [x,y,z,u,t,e,.junk,.junk,.junk,.junk] []:=by
 refine⟨by simp[cz],rfl,rfl,fun j s hj=> ?_,fun j s hj=>by simp at hj⟩
 match j,hj with
 | 0,hj | 1,hj | 2,hj | 3,hj | 4,hj | 5,hj | 6,hj | 7,hj | 8,hj | 9,hj=>obtain rfl:=Option.some.inj hj;exact⟨by decide,rfl⟩
 | j+10,hj=>simp at hj
theorem Am:(Tryz.prog).funcs[gE]? =some Tryz.f12:=Tryz.func12
theorem Vp:Tryz.f12.body=some cRu:=rfl
theorem aam:Tryz.f12.ntmps=93:=rfl
noncomputable abbrev cR1:Code:=cR cRu
noncomputable abbrev cR2:Code:=cR cR1
noncomputable abbrev cR3:Code:=cR cR2
noncomputable abbrev cR4:Code:=cR cR3
noncomputable abbrev cR5:Code:=cR cR4
noncomputable abbrev cR6:Code:=cR cR5
theorem XN:cRu= .seq (cL cRu) cR1:=rfl
theorem vg:cR1= .seq (cL cR1) cR2:=rfl
theorem KG:cR2= .seq (cL cR2) cR3:=rfl
theorem VO:cR3= .seq (cL cR3) cR4:=rfl
theorem TN:cR4= .seq (cL cR4) cR5:=rfl
theorem VA:cR5= .seq (cL cR5) cR6:=rfl
abbrev vRu:List Nat:=[0,1,2,3,4,8,9,10,11,12,13,14,15,16,17,33,62,84]
theorem oQ:x9 5 93 (po.nv gE) 18 vRu=true:=by kernel_rfl
theorem Xm:bG Tryz.prog (po.mu gE) (po.plan gE) 93 vRu (cL cRu) []=some BK:=by kernel_rfl
theorem Dd:bG Tryz.prog (po.mu gE) (po.plan gE) 93 vRu (cL cR1) []=some oP:=by kernel_rfl
theorem Oq:bG Tryz.prog (po.mu gE) (po.plan gE) 93 vRu (cL cR2) []=some C5:=by kernel_rfl
theorem Yk:bG Tryz.prog (po.mu gE) (po.plan gE) 93 vRu (cL cR3) []=some Cc:=by kernel_rfl
theorem XV:bG Tryz.prog (po.mu gE) (po.plan gE) 93 vRu (cL cR4) []=some B7:=by kernel_rfl
theorem Rl:bG Tryz.prog (po.mu gE) (po.plan gE) 93 vRu cR6 []=some zj:=by kernel_rfl
theorem Ud:dP (po.plan gE) (po.kp gE) (cL cRu)=true:=by kernel_rfl
theorem vr:dP (po.plan gE) (po.kp gE) (cL cR1)=true:=by kernel_rfl
theorem JE:dP (po.plan gE) (po.kp gE) (cL cR2)=true:=by kernel_rfl
theorem TG:dP (po.plan gE) (po.kp gE) (cL cR3)=true:=by kernel_rfl
theorem TH:dP (po.plan gE) (po.kp gE) (cL cR4)=true:=by kernel_rfl
theorem JY:dP (po.plan gE) (po.kp gE) cR6=true:=by kernel_rfl
theorem wq:lI Tryz.prog vRu Tryz.f12.results.toList=some [.cell true 3 7,.cell false 1 8,.cell false 1 9]:=by kernel_rfl
theorem ZJ (x y z u t:AV):RV 93 vRu [] ([x,y,z,u,t]++η (93 - [x,y,z,u,t].length) .junk) ([x,y,z,u,t]++η (vRu.length - [x,y,z,u,t].length) .junk) []:=by
 refine⟨by simp,rfl,rfl,fun j s hj=> ?_,fun j s hj=>by simp at hj⟩
 match j,hj with
 | 0,hj | 1,hj | 2,hj | 3,hj | 4,hj | 5,hj | 6,hj | 7,hj | 8,hj | 9,hj | 10,hj | 11,hj | 12,hj | 13,hj | 14,hj | 15,hj | 16,hj | 17,hj=>obtain rfl:=Option.some.inj hj;exact⟨by decide,rfl⟩
 | j+18,hj=>simp at hj
noncomputable def ruA:Oper:={dst:=some 78,op:= .makeFunc (.func fRc) #[] #[.tmp 9,.tmp 14,.tmp 10,.tmp 11,.tmp 12],type:=((gC (cL cR5)).getD 0 default).type,pos:=((gC (cL cR5)).getD 0 default).pos,after:= #[],guard:=none}
noncomputable def ruB:Oper:={dst:=none,op:= .defer {callee:= .value (.tmp 78),args:= #[],argTypes:= #[]},type:=((gC (cL cR5)).getD 1 default).type,pos:=((gC (cL cR5)).getD 1 default).pos,after:=((gC (cL cR5)).getD 1 default).after,guard:=none}
theorem YO:cL cR5= .region 10 #[ruA,ruB] false:=rfl
theorem QE (bf:Frame) (a:Act) (cs:List Frame) (w:World) (hsz:a.tmps.size=93):
  Steps Tryz.prog (lone (bf.at a [.code cR5]) cs w) (lone (bf.at {a.put (some 78) (MR fRc (yc a [9,14,10,11,12]))with defers:=vb fRc (yc a [9,14,10,11,12])::a.defers} [.code cR6]) cs w):=by
 have hw:(cL cR5).wp Tryz.prog (fun e a' w'=>e= .normal∧w'=w∧a'={a.put (some 78) (MR fRc (yc a [9,14,10,11,12]))with defers:=vb fRc (yc a [9,14,10,11,12])::a.defers}) a w:=by
  have hmf:∀ (fn:Fn) (first cap:Array Value) (w:World),(Instr.makeFunc fn first cap).run Tryz.prog w= .ok (.func fn first cap) w:=fun _ _ _ _=>rfl
  rw[YO]
  apply wp_region
  simp[wpOps,go_sem,ruA,ruB,hmf,Act.put,Act.eval,hsz,MR,vb,yc]
 obtain⟨e,a',w',⟨rfl,rfl,rfl⟩,harr⟩:=hw bf [.code cR6] cs
 conv=>lhs;rw[VA]
 exact .head step_seq harr
theorem Wm:∀ r∈Tryz.f12.results.toList,∃ i ty,r= .cell i ty∧po.kp gE i=true:=by
 have h:Tryz.f12.results.toList.all (fun r=>match r with | .cell i _=>po.kp gE i | _=>false)=true:=by kernel_rfl
 rw[List.all_eq_true]at h
 intro r hr
 have:=h r hr
 cases r with
 | tmp i=>cases this
 | cell i ty=>exact⟨i,ty,rfl,this⟩
open Go Go.RowKit
theorem TY {ms:aO} (hg:nO ms) {p f:Int} {v:VD} {S:StD} (hS:S.Good) (hmu:S.mu≤1000000) (hl:S.left≤2000) (hv:v.code=0) (hp:0≤p) (ht:(ms.getD p.toNat none).isSome) (hf:0≤f) (hf1:f.toNat<(bQ ms p).length) {N:Nat} (hN:S.left≤N):
  i9 ms ⟨S,⟨p,f,0,v,[],[],false,[]⟩,[]⟩ (match ofD ms N p (dG ms p f) v [] 1 S with
   | (S',w,c)=>if c≠0 then .fail S' c else .over S' w):=by
 have hG:(⟨S,⟨p,f,0,v,[],[],false,[]⟩,[]⟩:MaD).Good ms:=⟨hS,⟨hp,ht,hf,hf1,hv,by simp,by simp,by simp⟩,hmu,by simp only[List.length_nil];omega,by simp only[List.length_nil];omega,by simp⟩
 have h3:=Y8 hg N (dG ms p f) ⟨S,⟨p,f,0,v,[],[],false,[]⟩,[]⟩ hG hN (rT hg hf1) ⟨[],[⟨105,0,0⟩],by simp[fB],rfl⟩
 have hox3:=fk ms N p (dG ms p f) v [] 1 S hS hv (by simp)
 simp only[List.length_nil,Nat.zero_add]at h3
 rcases hq3:ofD ms N p (dG ms p f) v [] 1 S with⟨S3,v3,c3⟩
 rw[hq3]at h3 hox3
 unfold iq at h3
 simp only at h3 ⊢
 by_cases hz:c3=0
 ·rw[if_neg (by simpa using hz)]at h3 ⊢
  have st3:bF ms (MaD.after ⟨S,⟨p,f,0,v,[],[],false,[]⟩,[]⟩ S3 (aF (dG ms p f) 0).length [v3]) [⟨105,0,0⟩]:=⟨aF (dG ms p f) 0,[],by simp[fB,MaD.after],by simp[MaD.after]⟩
  have bst:=ue (c:=[]) (st:=[]) (v:=v3) st3 rfl
  have ok3:=bF.at st3 (hG.after1 hox3 hz) ⟨by simp,by simp[MaD.after],by simp,by simp,by simp,by simp⟩
  simp only[MaD.after,Bool.false_eq_true,if_false,List.getLast?_nil,StD.ok]at bst
  rw[if_neg (by simp)]at bst
  exact h3 _ (.over ok3 bst)
 ·rw[if_pos hz]at h3 ⊢
  exact h3
theorem i9.ok {ms:aO} {m:MaD} {r:kH} (h:i9 ms m r):Ok ms m:=by cases h<;>assumption
theorem IV {h:AH} {a b c d e:AV} {m:Mm} {w:World} {ps:List Value} (hw:WR Tryz.prog m h w) (hv:VRs Tryz.prog m h [a,b,c,d,e] ps):
  CallsD Tryz.prog fRc ps.toArray .returning w fun e u'' w'=>(∃ v,e= .returned v)∧u''= .returning∧∃ m',Ext m h m' h∧WR Tryz.prog m' h w'∧Below m.base w w':=by
 refine clG pok Nj KL Si ZX Se Rj (cH W6) VZ R3 (V':=[a,b,c,d,e,.nili,.junk,.junk,.bool false,.junk]) ?_ (WV _ _ _ _ _ .nili) hw hv (by simp) .nili .returning fun c hc cs=> .inr ⟨My c hc cs,rfl,rfl⟩
 unfold HB
 have ifG_no:ma .iface none true .neq .nili .nili=some (.bool false):=rfl
 simp only[sim,af,θ,ξ,η,reduceCtorEq,ψ,ω,aa,ifG_no]
theorem LB {h:AH} {cf cm co cu cc mb:Nat} {m:Mm} {w:World} {ps:List Value} {u:Value} {k fuel left:Int} {z1 z2:AV} {o1:List AV} {o2 o3:AV} (hw:WR Tryz.prog m h w) (hv:VRs Tryz.prog m h [.ptr cf 0 0,.ptr cm 0 0,.ptr co 0 0,.ptr cu 0 0,.ptr cc 0 0] ps) (vu:VR Tryz.prog m h (.iface tGo (.int .i64 k)) u)
  (hf:h.cell cf=some [[.int .i64 fuel]]) (hm:h.cell cm=some [[.ptr mb 0 0]]) (hb:h.cell mb=some [[z1,z2,.int .i64 left]]) (ho:h.cell co=some [o1]) (hl:o1.length=3) (hu:h.cell cu=some [[o2]]) (hc:h.cell cc=some [[o3]]) (n1:cu≠co) (n2:cc≠co) (n3:cc≠cu) (hwr:IntKind.wrap .i64 (fuel - left)=fuel - left):
  CallsD Tryz.prog fRc ps.toArray (.panicking [{v:=u,recovered:=false}]) w fun e u'' w'=>(∃ v,e= .returned v)∧u''= .panicking [{v:=u,recovered:=true}]∧
   ∃ m',Ext m h m' (((h.set co (some [zR3])).set cu (some [[.int .i64 (fuel - left)]])).set cc (some [[.int .i64 k]]))∧WR Tryz.prog m' (((h.set co (some [zR3])).set cu (some [[.int .i64 (fuel - left)]])).set cc (some [[.int .i64 k]])) w'∧Below m.base w w':=by
 have k7:(h.set co (some [zR3])).cell cu=some [[o2]]:=(bu n1).trans hu
 have k8:((h.set co (some [zR3])).set cu (some [[.int .i64 (fuel - left)]])).cell cc=some [[o3]]:=(bu n3).trans ((bu n2).trans hc)
 refine clG pok Nj KL Si ZX Se Rj (cH W6) VZ R3 (V':=[.ptr cf 0 0,.ptr cm 0 0,.ptr co 0 0,.ptr cu 0 0,.ptr cc 0 0,.iface tGo (.int .i64 k),.int .i64 k,.bool true,.bool true,.bool false]) ?_ (WV _ _ _ _ _ (.iface tGo (.int .i64 k))) hw hv (by simp) vu (.panicking [{v:=u,recovered:=true}]) fun c hc cs=> .inl (Hp c hc cs)
 unfold HB
 have ifG_yes:ma .iface none true .neq (.iface tGo (.int .i64 k)) .nili=some (.bool true):=rfl
 have tasG_yes:LL tGo true (.iface tGo (.int .i64 k))=some (.tup [.int .i64 k,.bool true]):=by simp[LL]
 simp only[sim,af,θ,ξ,η,reduceCtorEq,ψ,ω,aa,ifG_yes,tasG_yes,hf,hm,hb,ho,hl,k7,k8,hwr]
open Go Go.RowKit
abbrev six (b mb:Nat) (code used:Int) (out:List AV) (fuel:Int) (r:List AV) (L:List Asn):List Asn:=
 ah (b+1+1+1+1+1+1) [[.ptr mb 0 0]]::ah (b+1+1+1+1) [[.int .i64 code]]::ah (b+1+1+1) [[.int .i64 used]]::ah (b+1+1) [out]::ah (b+1) [[.int .i64 fuel]]::ah b [r]::L
abbrev Vv (bb b:Nat) (p f:Int) (r:List AV) (fuel:Int) (x y z:AV):List AV:=
 [.ptr bb 0 0,.int .i64 p,.int .i64 f,.agg r,.int .i64 fuel,.ptr b 0 0,.ptr (b+1) 0 0,.ptr (b+1+1) 0 0,.ptr (b+1+1+1) 0 0,.ptr (b+1+1+1+1) 0 0,.int .i64 0,.ptr (b+1+1+1+1+1+1) 0 0,x,y,.bool false,.bool false,.bool false,z]
def aaf (h0:AH) (F0 J0:Nat→Prop) (c:Cfg) (L:List Asn) (b:Nat) (p f:Int) (r:List AV) (fuel:Int) (q:kH) (x:AEx) (V:List AV) (h':AH):Prop:=(∃ x y z,V=Vv c.bb b p f r fuel x y z)∧match q with
 | .go _=>False
 | .over S v=>x= .ret∧∃ fb' r',VaA v r'∧St h0 F0 J0 h' (six b c.mb 0 (fuel - (S.left:Int)) r' fuel r (nR c L 0 fb' S))
 | .fail S k=>x= .panic (.iface tGo (.int .i64 k))∧∃ n':Now,n'.S=S∧St h0 F0 J0 h' (six b c.mb 0 0 zR3 fuel r (put c L 0 n'))
section
variable {h h' h0:AH} {F J F0 J0:Nat→Prop} {L:List Asn} {c:Cfg}
theorem Y7 {A1 A2 A3 A4 A5 A6:Asn} {n':Now} {fb':Nat} {S:StD}:nR c (A1::A2::A3::A4::A5::A6::put c L 0 n') (0+1+1+1+1+1+1) fb' S=A1::A2::A3::A4::A5::A6::nR c L 0 fb' S:=by
 have:nR c (put c L 0 n') 0 fb' S=nR c L 0 fb' S:=by
  unfold nR
  rw[bo]
 exact congrArg (fun l=>A1::A2::A3::A4::A5::A6::l) this
theorem ZT {A1 A2 A3 A4 A5 A6:Asn} {n n':Now}:put c (A1::A2::A3::A4::A5::A6::put c L 0 n) (0+1+1+1+1+1+1) n'=A1::A2::A3::A4::A5::A6::put c L 0 n':=by
 have:put c (put c L 0 n) 0 n'=put c L 0 n':=bo
 exact congrArg (fun l=>A1::A2::A3::A4::A5::A6::l) this
theorem Xy {i:Nat} (hl:i+3<L.length) (n':Now):At c (put c L i n') i n':=by
 refine⟨?_,?_,?_,?_⟩<;>rw[gR]
 ·rw[if_pos (by omega),if_neg (by omega),if_neg (by omega),if_neg (by omega),if_pos rfl]
 ·rw[if_pos (by omega),if_neg (by omega),if_neg (by omega),if_pos rfl]
 ·rw[if_pos (by omega),if_neg (by omega),if_pos rfl]
 ·rw[if_pos (by omega),if_pos rfl]
theorem GK {b mb:Nat} {code used:Int} {out:List AV} {fuel:Int} {r:List AV} (hl:3<L.length) (n:Now):At c (six b mb code used out fuel r (put c L 0 n)) (0+1+1+1+1+1+1) n:=
 ((((((Xy (i:=0) hl n).cons (ah b [r])).cons (ah (b+1) [[.int .i64 fuel]])).cons (ah (b+1+1) [out])).cons (ah (b+1+1+1) [[.int .i64 used]])).cons (ah (b+1+1+1+1) [[.int .i64 code]])).cons (ah (b+1+1+1+1+1+1) [[.ptr mb 0 0]])
def ZC:kH→Prop
 | .go _=>False
 | .over S v=>S.left≤2000∧v.size≤100000
 | .fail S _=>S.left≤2000
set_option maxRecDepth 100000 in
set_option maxHeartbeats 2000000 in
theorem D1 (hL:3<L.length) (hc:c.ms.length=4) (hm:kM c.ms) {b:Nat} {p f:Int} {r:List AV} {fuel:Int} (hfu:0≤fuel∧fuel≤2000) {m:MaD} {q:kH} (hr:i9 c.ms m q):ZC q→∀ (n:Now) (h:AH) (x y z:AV),n.m=m→St h0 F0 J0 h (six b c.mb 0 0 zR3 fuel r (put c L 0 n))→
  ∃ e V' h3,aC (aj Tryz.prog po) 18 [.lp kA,.ss [],.blk 1,.ss [],.halt []] (Vv c.bb b p f r fuel x y z) [] h=some (e,V',h3)∧aaf h0 F0 J0 c L b p f r fuel q e V' h3:=by
 induction hr with
 | @go m m' q ok hs hr ih=>
   intro hq n h x y z hn s
   subst hn
   have a6:=GK (c:=c) (b:=b) (mb:=c.mb) (code:=0) (used:=0) (out:=zR3) (fuel:=fuel) (r:=r) hL n
   obtain⟨fr,h1,e1,ob⟩:=BT s a6 hc hm ok fun m'' e=>by rw[hs]at e;cases e;exact hr.ok.good
   rw[hs]at ob
   obtain⟨r1,rfl,⟨o1,o2⟩,fb',s1⟩:=ob
   rw[ZT]at s1
   have c0:=(s.cell 0 rfl).1
   have s2:=s1.push [r1]
   obtain⟨e,V',h3,e3,o3⟩:=ih hq ⟨fb',m'.S,m'.below,m'.top⟩ (h1.push [r1]) (.ptr h1.n 0 0) (.bool false) (.bool false) rfl s2.drop
   refine⟨e,V',h3,?_,o3⟩
   rw[←e3]
   rw[aG kA.eq_1]
   simp only[sim,af,θ,ξ,η,reduceCtorEq,ψ,ω,aa,au,c0,e1,o1,o2]
 | @over m S v ok hs=>
   intro hq n h x y z hn s
   subst hn
   have a6:=GK (c:=c) (b:=b) (mb:=c.mb) (code:=0) (used:=0) (out:=zR3) (fuel:=fuel) (r:=r) hL n
   obtain⟨fr,h1,e1,ob⟩:=BT s a6 hc hm ok fun m'' e=>by rw[hs]at e;cases e
   rw[hs]at ob
   obtain⟨r1,rfl,hv,fb',s1⟩:=ob
   rw[Y7]at s1
   obtain⟨hq1,hq2⟩:=hq
   obtain⟨o1,o2⟩:=hv.len3
   have c0:=(s.cell 0 rfl).1
   have s2:St h0 F0 J0 (h1.push [r1]) (ah h1.n [r1]::six b c.mb 0 0 zR3 fuel r (nR c L 0 fb' S)):=s1.push [r1]
   obtain⟨r2,e2,hv2⟩:=DZ _ v (Nat.le_refl _) hq2 r1 (h1.push [r1]) hv
   have hv2:VaA v r2:=by rw[id_eq]at hv2;exact hv2
   obtain⟨o3,o4⟩:=hv2.len3
   have hend:(nR c L 0 fb' S)[0]? =some (GE c.mb c.bb fb' (S.left:Int)):=by
    unfold nR
    rw[List.getElem?_set_self (by rw[vI];omega)]
   have cm:=(s2.cell 7 hend).1
   have cp:=(s2.cell 1 rfl).1
   have cf:=(s2.cell 5 rfl).1
   have co:=(s2.cell 4 rfl).1
   have s3:=s2.set 4 rfl [r2]
   have s3:St h0 F0 J0 _ (ah h1.n [r1]::six b c.mb 0 0 r2 fuel r (nR c L 0 fb' S)):=s3
   have cm3:=(s3.cell 7 hend).1
   have cp3:=(s3.cell 1 rfl).1
   have cf3:=(s3.cell 5 rfl).1
   have cu3:=(s3.cell 3 rfl).1
   have s4:=s3.set 3 rfl [[.int .i64 (fuel - (S.left:Int))]]
   have s4:St h0 F0 J0 _ (ah h1.n [r1]::six b c.mb 0 (fuel - (S.left:Int)) r2 fuel r (nR c L 0 fb' S)):=s4
   have cc4:=(s4.cell 2 rfl).1
   have s5:=s4.set 2 rfl [[.int .i64 0]]
   have w:IntKind.wrap .i64 (fuel - (S.left:Int))=fuel - (S.left:Int):=w64 (by omega) (by omega)
   have f2:aP 2 (.ptr c.mb 0 0)=some (.ptr c.mb 0 2):=rfl
   refine⟨.ret,Vv c.bb b p f r fuel (.ptr h1.n 0 0) (.bool true) (.bool true),_,?_,⟨_,_,_,rfl⟩,rfl,fb',r2,hv2,s5.drop⟩
   rw[aG kA.eq_1]
   simp only[sim,af,θ,ξ,η,reduceCtorEq,ψ,ω,aa,au,c0,e1,o1,o2,o3,o4,e2,cm,cp,cf,co,cm3,cp3,cf3,cu3,cc4,w,f2]
 | @fail m S k ok hs=>
   intro hq n h x y z hn s
   subst hn
   have a6:=GK (c:=c) (b:=b) (mb:=c.mb) (code:=0) (used:=0) (out:=zR3) (fuel:=fuel) (r:=r) hL n
   obtain⟨fr,h1,e1,ob⟩:=BT s a6 hc hm ok fun m'' e=>by rw[hs]at e;cases e
   rw[hs]at ob
   obtain⟨rfl,n',hn',s1⟩:=ob
   rw[ZT]at s1
   have c0:=(s.cell 0 rfl).1
   refine⟨.panic (.iface tGo (.int .i64 k)),Vv c.bb b p f r fuel x y z,_,?_,⟨_,_,_,rfl⟩,rfl,n',hn',s1⟩
   rw[aG kA.eq_1]
   simp only[sim,af,θ,ξ,η,reduceCtorEq,ψ,ω,aa,au,c0,e1]
end
open Go Go.RowKit
abbrev rsR:List nS:=[.cell true 3 7,.cell false 1 8,.cell false 1 9]
noncomputable def D9 (V:List AV) (h:AH):Option ((AV ⊕ AV)×AH):=((fS V h rsR).map gh).map fun v=>(.inl v,h)
noncomputable def Bo (x:jN) (k:List AV→AH→Option ((AV ⊕ AV)×AH)):Option ((AV ⊕ AV)×AH):=match x with
 | some (.halt _,V,h)=>k V h
 | some (.ret,V,h)=>D9 V h
 | _=>none
noncomputable def JM (args:List AV) (h:AH) (x:jN):Option ((AV ⊕ AV)×AH):=match x with
 | some (.ret,V,h6)=>D9 V h6
 | some (.panic (.iface _ (.int _ k)),V,h6)=>match h6.cell (h.n+1+1+1+1+1),args with
   | some [[_,_,.int _ left]],[_,_,_,_,.int _ fuel]=>D9 V (((h6.set (h.n+1+1) (some [zR3])).set (h.n+1+1+1) (some [[.int .i64 (fuel - left)]])).set (h.n+1+1+1+1) (some [[.int .i64 k]]))
   | _,_=>none
 | _=>none
noncomputable abbrev pR:=aj (Tryz.prog) po
noncomputable def M0 (args:List AV) (h:AH):Option ((AV ⊕ AV)×AH):=
 Bo (aC pR 18 [.ss BK,.halt [.code cR1]] (args++η (vRu.length - args.length) .junk) [] h) fun V1 h1=>
 Bo (aC pR 18 [.ss oP,.halt [.code cR2]] V1 [] h1) fun V2 h2=>
 Bo (aC pR 18 [.ss C5,.halt [.code cR3]] V2 [] h2) fun V3 h3=>
 Bo (aC pR 18 [.ss Cc,.halt [.code cR4]] V3 [] h3) fun V4 h4=>
 Bo (aC pR 18 [.ss B7,.halt [.code cR5]] V4 [] h4) fun V5 h5=>
 JM args h (aC pR 18 [.ss zj,.halt []] V5 [] h5)
def W4 (F J:Nat→Prop) (bb gb wb:Nat) (ms:aO) (S:StD) (h:AH) (d:StD×VD×Int×Int) (q:(AV ⊕ AV)×AH):Prop:=
 ∃ r' h',q=(.inl (.tup [.agg r',.int .i64 d.2.2.1,.int .i64 d.2.2.2]),h')∧VaA d.2.1 r'∧Did h F J h' (bj [ei bb gb wb ms d.1.kept,aW gb d.1.G,bE wb d.1.cells d.1.log])
def Lo (F J:Nat→Prop) (bb gb wb:Nat) (ms:aO) (S:StD) (h:AH) (args:List AV) (d:StD×VD×Int×Int):Prop:=∃ q,M0 args h=some q∧AC Tryz.prog gE args h q∧W4 F J bb gb wb ms S h d q
section
variable {h h' h0:AH} {F J F0 J0:Nat→Prop} {L:List Asn} {bb gb wb:Nat} {ms:aO} {S:StD} {p f fuel:Int} {v:VD} {r:List AV}
abbrev fD (b:Nat) (code used:Int) (out:List AV) (fuel:Int) (r:List AV) (L:List Asn):List Asn:=
 ah (b+1+1+1+1) [[.int .i64 code]]::ah (b+1+1+1) [[.int .i64 used]]::ah (b+1+1) [out]::ah (b+1) [[.int .i64 fuel]]::ah b [r]::L
abbrev V5q (bb b:Nat) (p f:Int) (r:List AV) (fuel:Int) (c x y z:AV):List AV:=
 [.ptr bb 0 0,.int .i64 p,.int .i64 f,.agg r,.int .i64 fuel,.ptr b 0 0,.ptr (b+1) 0 0,.ptr (b+1+1) 0 0,.ptr (b+1+1+1) 0 0,.ptr (b+1+1+1+1) 0 0,c,.junk,.junk,.junk,x,y,z,.junk]
abbrev h5q (h:AH) (r:List AV) (fuel:Int):AH:=((((h.push [r]).push [[.int .i64 fuel]]).push [zR3]).push [[.int .i64 0]]).push [[.int .i64 0]]
abbrev rp (bb:Nat) (p f:Int) (r:List AV) (fuel:Int):List AV:=[.ptr bb 0 0,.int .i64 p,.int .i64 f,.agg r,.int .i64 fuel]
theorem qV (hv:VaA v r):aC pR 18 [.ss BK,.halt [.code cR1]] (rp bb p f r fuel++η (vRu.length - (rp bb p f r fuel).length) .junk) [] h=some (.halt [.code cR1],V5q bb h.n p f r fuel .junk .junk .junk .junk,h5q h r fuel):=by
 obtain⟨o1,o2⟩:=hv.len3
 unfold BK
 simp only[sim,af,θ,ξ,η,reduceCtorEq,ψ,ω,aa,o1,o2]
theorem qT (s:St h0 F0 J0 h L):St h0 F0 J0 (h5q h r fuel) (fD h.n 0 0 zR3 fuel r L):=((((s.push [r]).push [[.int .i64 fuel]]).push [zR3]).push [[.int .i64 0]]).push [[.int .i64 0]]
theorem Bn {V:List AV} {h':AH} {o u c:Nat} {r':List AV} {used code:Int} (h7:V.getD 7 .junk= .ptr o 0 0) (h8:V.getD 8 .junk= .ptr u 0 0) (h9:V.getD 9 .junk= .ptr c 0 0) (ho:h'.cell o=some [r']) (hr:r'.length=3) (hu:h'.cell u=some [[.int .i64 used]]) (hc:h'.cell c=some [[.int .i64 code]]):
  (fS V h' rsR).map gh=some (.tup [.agg r',.int .i64 used,.int .i64 code]):=by
 have e1:aR true 3 h' (.ptr o 0 0)=some (.agg r'):=by rw[bP,ho];exact bi hr
 have e2:aR false 1 h' (.ptr u 0 0)=some (.int .i64 used):=by rw[bP,hu];rfl
 have e3:aR false 1 h' (.ptr c 0 0)=some (.int .i64 code):=by rw[bP,hc];rfl
 simp only[fS,h7,h8,h9,e1,e2,e3,Option.bind_some,Option.map_some,gh]
theorem TK (hv:VaA v r):qS Tryz.prog po gE 93 vRu (rp bb p f r fuel) h (.halt [.code cR1]) (V5q bb h.n p f r fuel .junk .junk .junk .junk) (h5q h r fuel):=
 (qS.start Am Vp aam (ZJ _ _ _ _ _)).next (nv:=18) pok XN (cH oQ) Xm Ud (qV hv)
abbrev G3 (h:AH) (r:List AV) (fuel code:Int):AH:=(((h5q h r fuel).set (h.n+1+1) (some [zR3])).set (h.n+1+1+1) (some [[.int .i64 0]])).set (h.n+1+1+1+1) (some [[.int .i64 code]])
theorem QU (s:St h0 F0 J0 h L) (code:Int):St h0 F0 J0 (G3 h r fuel code) (fD h.n code 0 zR3 fuel r L):=by
 have s1:St h0 F0 J0 (h5q h r fuel) (fD h.n 0 0 zR3 fuel r L):=qT s
 have s2:St h0 F0 J0 _ (fD h.n 0 0 zR3 fuel r L):=s1.set 2 rfl [zR3]
 have s3:St h0 F0 J0 _ (fD h.n 0 0 zR3 fuel r L):=s2.set 1 rfl [[.int .i64 0]]
 exact s3.set 0 rfl [[.int .i64 code]]
theorem pG {V:List AV} (h7:V.getD 7 .junk= .ptr (h.n+1+1) 0 0) (h8:V.getD 8 .junk= .ptr (h.n+1+1+1) 0 0) (h9:V.getD 9 .junk= .ptr (h.n+1+1+1+1) 0 0) (s:St h0 F0 J0 h L) (code:Int):(fS V (G3 h r fuel code) rsR).map gh=some (.tup [.agg zR3,.int .i64 0,.int .i64 code]):=by
 have s1:St h0 F0 J0 (G3 h r fuel code) (fD h.n code 0 zR3 fuel r L):=QU s code
 exact Bn h7 h8 h9 (s1.cell 2 rfl).1 rfl (s1.cell 1 rfl).1 (s1.cell 0 rfl).1
theorem wN (x:(bj [ei bb gb wb ms S.kept,aW gb S.G,bE wb S.cells S.log]).A h F J) (code:Int):W4 F J bb gb wb ms S h (S,aK,0,code) (.inl (.tup [.agg zR3,.int .i64 0,.int .i64 code]),G3 h r fuel code):=
 ⟨zR3,_,rfl,aL,(QU (St.start x) code).drop.drop.drop.drop.drop⟩
theorem EY (hv:VaA v r) (x:(bj [ei bb gb wb ms S.kept,aW gb S.G,bE wb S.cells S.log]).A h F J) (hr:fuel<0∨2000<fuel∨p<0∨4≤p):Lo F J bb gb wb ms S h (rp bb p f r fuel) (S,aK,0,1):=by
 have s1:St h F J (h5q h r fuel) (fD h.n 0 0 zR3 fuel r _):=qT (St.start x)
 have c1:=(s1.cell 0 rfl).1
 have c2:=(s1.cell 1 rfl).1
 have c3:=(s1.cell 2 rfl).1
 have c4:=(s1.cell 3 rfl).1
 have s2:St h F J _ (fD h.n 0 0 zR3 fuel r _):=s1.set 2 rfl [zR3]
 have d2:=(s2.cell 1 rfl).1
 have s3:St h F J _ (fD h.n 0 0 zR3 fuel r _):=s2.set 1 rfl [[.int .i64 0]]
 have e2:=(s3.cell 0 rfl).1
 have run:aC pR 18 [.ss oP,.halt [.code cR2]] (V5q bb h.n p f r fuel .junk .junk .junk .junk) [] (h5q h r fuel)=some (.ret,V5q bb h.n p f r fuel .junk (.bool true) .junk .junk,G3 h r fuel 1):=by
  unfold oP
  by_cases h1:fuel<0
  ·have k1:decide (fuel<0)=true:=decide_eq_true h1
   simp only[sim,af,θ,ξ,η,reduceCtorEq,ψ,ω,aa,c1,c2,c3,c4,d2,e2,k1]
  ·have k1:decide (fuel<0)=false:=decide_eq_false h1
   by_cases h2:2000<fuel
   ·have k2:decide (2000<fuel)=true:=decide_eq_true h2
    simp only[sim,af,θ,ξ,η,reduceCtorEq,ψ,ω,aa,c1,c2,c3,c4,d2,e2,k1,k2]
   ·have k2:decide (2000<fuel)=false:=decide_eq_false h2
    by_cases h3:p<0
    ·have k3:decide (p<0)=true:=decide_eq_true h3
     simp only[sim,af,θ,ξ,η,reduceCtorEq,ψ,ω,aa,c1,c2,c3,c4,d2,e2,k1,k2,k3]
    ·have k3:decide (p<0)=false:=decide_eq_false h3
     have k4:decide (4≤p)=true:=decide_eq_true (by omega)
     simp only[sim,af,θ,ξ,η,reduceCtorEq,ψ,ω,aa,c1,c2,c3,c4,d2,e2,k1,k2,k3,k4]
 refine⟨_,?_,((TK hv).next (nv:=18) pok vg (cH oQ) Dd vr run).ret Am wq (pG rfl rfl rfl (St.start x) 1),wN x 1⟩
 unfold M0
 rw[qV hv]
 simp only[Bo]
 rw[run]
 simp only[D9]
 rw[pG rfl rfl rfl (St.start x) 1]
 rfl
theorem Zw {i:Nat} (s:St h0 F0 J0 h L) {kept:List VD} (hi:L[i]? =some (ei bb gb wb ms kept)) (hl:ms.length=kept.length) (h4:ms.length=4) {P:Nat} (hp:P<4):(∀ q:IntKind,bL none (some (4,5)) (.ptr bb 0 2) (.int q (P:Int))=some (.ptr bb 0 (2+P*5)))∧(∀ k:Nat,aR false k h (.ptr bb 0 (2+P*5))=some (.bool (ms.getD P none).isSome))∧(∀ k:Nat,aR false k h (.ptr bb 0 (2+P*5+1))=some (kV (ms.getD P none))):=by
 obtain⟨F,J,x⟩:=s.get i hi
 obtain⟨row,c1,cn,_,_,_,hpl⟩:=vC x hl
 obtain⟨q1,q2,_⟩:=hpl P (by rw[h4];exact hp)
 refine⟨fun q=>by simp[bL,hp],fun k=> ?_,fun k=> ?_⟩
 ·rw[bP,c1,Option.bind_some,List.getElem?_cons_zero,Option.bind_some,hD,q1]
 ·rw[bP,c1,Option.bind_some,List.getElem?_cons_zero,Option.bind_some,hD,q2]
theorem Ba (m:Option (List XD)):eW (kV m)=some (m.getD []).length∧∀ s,ew s (some tFs) (kV m)=true:=by
 cases m with
 | none=>exact⟨rfl,fun s=>rfl⟩
 | some L=>exact⟨(fj L).1,fun s=>(fj L).2.1 s⟩
theorem IS (hv:VaA v r) (x:(bj [ei bb gb wb ms S.kept,aW gb S.G,bE wb S.cells S.log]).A h F J) (h4:ms.length=4) (hS:S.Good) (hr:¬ (fuel<0∨2000<fuel∨p<0∨4≤p)) (hn:(ms.getD p.toNat none).isNone∨f<0∨((bQ ms p).length:Int)≤f):Lo F J bb gb wb ms S h (rp bb p f r fuel) (S,aK,0,8):=by
 have s1:St h F J (h5q h r fuel) (fD h.n 0 0 zR3 fuel r [ei bb gb wb ms S.kept,aW gb S.G,bE wb S.cells S.log]):=qT (St.start x)
 have c1:=(s1.cell 0 rfl).1
 have c2:=(s1.cell 1 rfl).1
 have c3:=(s1.cell 2 rfl).1
 have c4:=(s1.cell 3 rfl).1
 have s2:St h F J _ (fD h.n 0 0 zR3 fuel r _):=s1.set 2 rfl [zR3]
 have d2:=(s2.cell 1 rfl).1
 have s3:St h F J _ (fD h.n 0 0 zR3 fuel r _):=s2.set 1 rfl [[.int .i64 0]]
 have e2:=(s3.cell 0 rfl).1
 have k1:decide (fuel<0)=false:=decide_eq_false (by omega)
 have k2:decide (2000<fuel)=false:=decide_eq_false (by omega)
 have k3:decide (p<0)=false:=decide_eq_false (by omega)
 have k4:decide (4≤p)=false:=decide_eq_false (by omega)
 obtain⟨P,hP⟩:=Int.eq_ofNat_of_zero_le (show 0≤p by omega)
 subst hP
 obtain⟨ix,b0,b1⟩:=Zw s1 (i:=5) (kept:=S.kept) rfl (h4.trans hS.kept.symm) h4 (P:=P) (by omega)
 obtain⟨cl,cf⟩:=Ba (ms.getD P none)
 have f2:aP 2 (.ptr bb 0 0)=some (.ptr bb 0 2):=rfl
 have f0:aP 0 (.ptr bb 0 (2+P*5))=some (.ptr bb 0 (2+P*5)):=rfl
 have f1:aP 1 (.ptr bb 0 (2+P*5))=some (.ptr bb 0 (2+P*5+1)):=rfl
 have run:aC pR 18 [.ss oP,.halt [.code cR2]] (V5q bb h.n P f r fuel .junk .junk .junk .junk) [] (h5q h r fuel)=some (.ret,V5q bb h.n P f r fuel .junk (.bool false) (.bool true) .junk,G3 h r fuel 8):=by
  unfold oP
  by_cases h1:(ms.getD P none).isSome=true
  ·by_cases h2:f<0
   ·have k5:decide (f<0)=true:=decide_eq_true h2
    simp only[sim,af,θ,ξ,η,reduceCtorEq,ψ,ω,aa,c1,c2,c3,c4,d2,e2,k1,k2,k3,k4,ix,b0,b1,f0,f1,f2,h1,k5]
   ·have k5:decide (f<0)=false:=decide_eq_false h2
    have k6:decide ((((ms.getD P none).getD []).length:Int)≤f)=true:=decide_eq_true (by
     rcases hn with hn | hn | hn
     ·rw[show((P:Nat):Int).toNat=P from rfl]at hn
      cases hm:ms.getD P none with
      | none=>rw[hm]at h1;cases h1
      | some l=>rw[hm]at hn;cases hn
     ·exact absurd hn h2
     ·exact hn)
    simp only[sim,af,θ,ξ,η,reduceCtorEq,ψ,ω,aa,c1,c2,c3,c4,d2,e2,k1,k2,k3,k4,ix,b0,b1,f0,f1,f2,h1,k5,cl,cf,k6]
  ·have h1':(ms.getD P none).isSome=false:=by simpa using h1
   simp only[sim,af,θ,ξ,η,reduceCtorEq,ψ,ω,aa,c1,c2,c3,c4,d2,e2,k1,k2,k3,k4,ix,b0,b1,f0,f1,f2,h1']
 refine⟨_,?_,((TK hv).next (nv:=18) pok vg (cH oQ) Dd vr run).ret Am wq (pG rfl rfl rfl (St.start x) 8),wN x 8⟩
 unfold M0
 rw[qV hv]
 simp only[Bo]
 rw[run]
 simp only[D9]
 rw[pG rfl rfl rfl (St.start x) 8]
 rfl
theorem Rx (s1:St h0 F0 J0 (h5q h r fuel) (fD h.n 0 0 zR3 fuel r (ei bb gb wb ms S.kept::L))) (h4:ms.length=4) (hS:S.Good) (hr:¬ (fuel<0∨2000<fuel∨p<0∨4≤p)) (hn:¬ ((ms.getD p.toNat none).isNone∨f<0∨((bQ ms p).length:Int)≤f)):
  aC pR 18 [.ss oP,.halt [.code cR2]] (V5q bb h.n p f r fuel .junk .junk .junk .junk) [] (h5q h r fuel)=some (.halt [.code cR2],V5q bb h.n p f r fuel .junk (.bool false) (.bool false) .junk,h5q h r fuel):=by
 have c4:=(s1.cell 3 rfl).1
 have k1:decide (fuel<0)=false:=decide_eq_false (by omega)
 have k2:decide (2000<fuel)=false:=decide_eq_false (by omega)
 have k3:decide (p<0)=false:=decide_eq_false (by omega)
 have k4:decide (4≤p)=false:=decide_eq_false (by omega)
 obtain⟨P,hP⟩:=Int.eq_ofNat_of_zero_le (show 0≤p by omega)
 subst hP
 obtain⟨ix,b0,b1⟩:=Zw s1 (i:=5) (kept:=S.kept) rfl (h4.trans hS.kept.symm) h4 (P:=P) (by omega)
 obtain⟨cl,cf⟩:=Ba (ms.getD P none)
 have f2:aP 2 (.ptr bb 0 0)=some (.ptr bb 0 2):=rfl
 have f0:aP 0 (.ptr bb 0 (2+P*5))=some (.ptr bb 0 (2+P*5)):=rfl
 have f1:aP 1 (.ptr bb 0 (2+P*5))=some (.ptr bb 0 (2+P*5+1)):=rfl
 have hn1:¬ (ms.getD P none).isNone=true:=fun e=>hn (.inl e)
 have h1:(ms.getD P none).isSome=true:=by cases hm:ms.getD P none with
  | none=>rw[hm]at hn1;exact absurd rfl hn1
  | some l=>rfl
 have k5:decide (f<0)=false:=decide_eq_false fun e=>hn (.inr (.inl e))
 have k6:decide ((((ms.getD P none).getD []).length:Int)≤f)=false:=decide_eq_false fun e=>hn (.inr (.inr e))
 unfold oP
 simp only[sim,af,θ,ξ,η,reduceCtorEq,ψ,ω,aa,c4,k1,k2,k3,k4,ix,b0,b1,f0,f1,f2,h1,k5,cl,cf,k6]
theorem Lf (s1:St h0 F0 J0 (h5q h r fuel) (fD h.n 0 0 zR3 fuel r L)) (hv:VaA v r):aC pR 18 [.ss C5,.halt [.code cR3]] (V5q bb h.n p f r fuel .junk (.bool false) (.bool false) .junk) [] (h5q h r fuel)=
  if v.code=0 then some (.halt [.code cR3],V5q bb h.n p f r fuel (.int .i64 0) (.bool false) (.bool false) (.bool false),h5q h r fuel)else some (.ret,V5q bb h.n p f r fuel (.int .i64 v.code) (.bool false) (.bool false) (.bool true),G3 h r fuel v.code):=by
 have c1:=(s1.cell 0 rfl).1
 have c2:=(s1.cell 1 rfl).1
 have c3:=(s1.cell 2 rfl).1
 have c5:=(s1.cell 4 rfl).1
 have s2:St h0 F0 J0 _ (fD h.n 0 0 zR3 fuel r _):=s1.set 2 rfl [zR3]
 have d2:=(s2.cell 1 rfl).1
 have s3:St h0 F0 J0 _ (fD h.n 0 0 zR3 fuel r _):=s2.set 1 rfl [[.int .i64 0]]
 have e2:=(s3.cell 0 rfl).1
 have ck:=nu (h:=h5q h r fuel) hv
 obtain⟨o1,o2⟩:=hv.len3
 unfold C5
 by_cases hz:v.code=0
 ·have k:decide (v.code=0)=true:=decide_eq_true hz
  rw[if_pos hz]
  rw[hz]at ck k
  simp only[sim,af,θ,ξ,η,reduceCtorEq,ψ,ω,aa,au,c1,c2,c3,c5,d2,e2,o1,o2,ck,k]
 ·have k:decide (v.code=0)=false:=decide_eq_false hz
  rw[if_neg hz]
  simp only[sim,af,θ,ξ,η,reduceCtorEq,ψ,ω,aa,au,c1,c2,c3,c5,d2,e2,o1,o2,ck,k]
end
open Go Go.RowKit
section
variable {h h' h0:AH} {F J F0 J0:Nat→Prop} {L:List Asn} {bb gb wb:Nat} {ms:aO} {S:StD} {p f fuel:Int} {v:VD} {r:List AV}
theorem UZ {mb fb:Nat} {left:Int} {top:FrD} {a:List AV} {g:AV} (ha:VaA top.arg a) (hg:SlA 3 g (bH top.gates)) (hs:top.stack=[]) (hn:top.names=[]) (x:(bj (ah mb [[.ptr bb 0 0,.msl fb 0 1 tFr,.int .i64 left]]::ah fb [dL top a .nils .nils g]::L)).A h F J):(bj (fR mb bb fb left [] top::L)).A h F J:=by
 refine eB (fun h F J x=> ?_) (fun _ _ _ y=>y) (mM x)
 obtain⟨F1,J1,F2,J2,x1,x2,r⟩:=x
 refine⟨⟨[],dL top a .nils .nils g,[]⟩,F1,J1,F2,J2,x1,⟨F2,J2,fun _=>False,fun _=>False,x2,⟨fun _=>False,fun _=>False,fun _=>False,fun _=>False,AL ha hg hs hn,⟨trivial,fun _ h=>h,fun _ h=>h⟩,fun k=>by simp,fun j=>by simp,fun _ h=>h.elim,fun _ h=>h.elim⟩,fun k=>by simp,fun j=>by simp,fun _ _ h=>h,fun _ _ h=>h⟩,r⟩
abbrev E2 (p f:Int) (v:VD):FrD:=⟨p,f,0,v,[],[],false,[]⟩
abbrev h7q (h:AH) (bb:Nat) (r:List AV) (fuel:Int):AH:=((h5q h r fuel).push [[.ptr bb 0 0,.nils,.int .i64 fuel]]).push [[.ptr (h.n+1+1+1+1+1) 0 0]]
abbrev fbq (h:AH):Nat:=h.n+1+1+1+1+1+1+1
abbrev h8q (h:AH) (bb:Nat) (p f:Int) (v:VD) (r r2:List AV) (fuel:Int):AH:=((h7q h bb r fuel).push [dL (E2 p f v) r2 .nils .nils .nils]).set (h.n+1+1+1+1+1) (some [[.ptr bb 0 0,.msl (fbq h) 0 1 tFr,.int .i64 fuel]])
theorem Uv (s1:St h0 F0 J0 (h5q h r fuel) (fD h.n 0 0 zR3 fuel r L)):aC pR 18 [.ss Cc,.halt [.code cR4]] (V5q bb h.n p f r fuel (.int .i64 0) (.bool false) (.bool false) (.bool false)) [] (h5q h r fuel)=
  some (.halt [.code cR4],Vv bb h.n p f r fuel .junk .junk .junk,h7q h bb r fuel):=by
 have c4:=(s1.cell 3 rfl).1
 have c5:((((h5q h r fuel).push [[.ptr bb 0 0,.nils,.int .i64 fuel]]).push [[.nilp]]).cell (h.n+1+1+1+1+1+1))=some [[.nilp]]:=ap (h:=(h5q h r fuel).push [[.ptr bb 0 0,.nils,.int .i64 fuel]])
 have c6:∀ x,(((h5q h r fuel).push [[.ptr bb 0 0,.nils,.int .i64 fuel]]).push [[.nilp]]).set (h.n+1+1+1+1+1+1) (some x)=((h5q h r fuel).push [[.ptr bb 0 0,.nils,.int .i64 fuel]]).push x:=fun x=>aA (h:=(h5q h r fuel).push [[.ptr bb 0 0,.nils,.int .i64 fuel]])
 unfold Cc
 simp only[sim,af,θ,ξ,η,reduceCtorEq,ψ,ω,aa,c4,c5,c6]
theorem D4 (s1:St h0 F0 J0 (h5q h r fuel) (fD h.n 0 0 zR3 fuel r L)):St h0 F0 J0 (h7q h bb r fuel) (ah (h.n+1+1+1+1+1+1) [[.ptr (h.n+1+1+1+1+1) 0 0]]::ah (h.n+1+1+1+1+1) [[.ptr bb 0 0,.nils,.int .i64 fuel]]::fD h.n 0 0 zR3 fuel r L):=
 (s1.push _).push _
set_option maxRecDepth 100000 in
theorem VN (s1:St h0 F0 J0 (h5q h r fuel) (fD h.n 0 0 zR3 fuel r L)) (hv:VaA v r) (hvs:v.size≤100000):∃ r2,VaA v r2∧aC pR 18 [.ss B7,.halt [.code cR5]] (Vv bb h.n p f r fuel .junk .junk .junk) [] (h7q h bb r fuel)=
  some (.halt [.code cR5],Vv bb h.n p f r fuel .junk .junk .junk,h8q h bb p f v r r2 fuel):=by
 obtain⟨r2,e2,hv2⟩:=DZ _ v (Nat.le_refl _) hvs r (h7q h bb r fuel) hv
 have hv2:VaA v r2:=by rw[id_eq]at hv2;exact hv2
 refine⟨r2,hv2,?_⟩
 obtain⟨o1,o2⟩:=hv.len3
 obtain⟨o3,o4⟩:=hv2.len3
 have s7:St h0 F0 J0 (h7q h bb r fuel) (ah (h.n+1+1+1+1+1+1) [[.ptr (h.n+1+1+1+1+1) 0 0]]::ah (h.n+1+1+1+1+1) [[.ptr bb 0 0,.nils,.int .i64 fuel]]::fD h.n 0 0 zR3 fuel r L):=D4 s1
 have c0:=(s7.cell 0 rfl).1
 have c6:=(s7.cell 6 rfl).1
 have s8:=s7.push [dL (E2 p f v) r2 .nils .nils .nils]
 have d0:=(s8.cell 1 rfl).1
 have d1:=(s8.cell 2 rfl).1
 have f1:aP 1 (.ptr (h.n+1+1+1+1+1) 0 0)=some (.ptr (h.n+1+1+1+1+1) 0 1):=rfl
 obtain⟨y0,y1,y2,rfl⟩:∃ a b c,r2=[a,b,c]:=by match r2,o3 with | [a,b,c],_=>exact⟨a,b,c,rfl⟩
 simp only[List.all_cons,List.all_nil,Bool.and_true,Bool.and_eq_true]at o4
 obtain⟨z3,z4,z5⟩:=o4
 have en:(h7q h bb r fuel).n=fbq h:=rfl
 unfold h8q
 generalize h7q h bb r fuel=hx at*
 simp only[dL,Int.natCast_zero,List.cons_append,List.nil_append]at d0 d1 ⊢
 unfold B7
 simp only[sim,af,θ,ξ,η,reduceCtorEq,ψ,ω,aa,au,c0,c6,o1,o2,e2,d0,d1,f1,z3,z4,z5,en]
abbrev mb5 (h:AH):Nat:=h.n+1+1+1+1+1
abbrev L4 (h:AH) (bb gb wb:Nat) (ms:aO) (S:StD) (p f:Int) (v:VD):List Asn:=[fR (mb5 h) bb (fbq h) (S.left:Int) [] (E2 p f v),ei bb gb wb ms S.kept,aW gb S.G,bE wb S.cells S.log]
theorem Np {r2:List AV} (s1:St h0 F0 J0 (h5q h r fuel) (fD h.n 0 0 zR3 fuel r [ei bb gb wb ms S.kept,aW gb S.G,bE wb S.cells S.log])) (hv2:VaA v r2) (hf:(S.left:Int)=fuel):St h0 F0 J0 (h8q h bb p f v r r2 fuel) (six h.n (mb5 h) 0 0 zR3 fuel r (L4 h bb gb wb ms S p f v)):=by
 have s7:St h0 F0 J0 (h7q h bb r fuel) (ah (h.n+1+1+1+1+1+1) [[.ptr (h.n+1+1+1+1+1) 0 0]]::ah (h.n+1+1+1+1+1) [[.ptr bb 0 0,.nils,.int .i64 fuel]]::fD h.n 0 0 zR3 fuel r [ei bb gb wb ms S.kept,aW gb S.G,bE wb S.cells S.log]):=D4 s1
 have s8:=s7.push [dL (E2 p f v) r2 .nils .nils .nils]
 have s9:=s8.set 2 rfl [[.ptr bb 0 0,.msl (fbq h) 0 1 tFr,.int .i64 fuel]]
 have s10:=s9.front 2 rfl
 have s11:St h0 F0 J0 (h8q h bb p f v r r2 fuel) (fR (mb5 h) bb (fbq h) (S.left:Int) [] (E2 p f v)::([ah (h.n+1+1+1+1+1+1) [[.ptr (mb5 h) 0 0]],ah (h.n+1+1+1+1) [[.int .i64 0]],ah (h.n+1+1+1) [[.int .i64 0]],ah (h.n+1+1) [zR3],ah (h.n+1) [[.int .i64 fuel]],ah h.n [r]]++[ei bb gb wb ms S.kept,aW gb S.G,bE wb S.cells S.log])):=
  s10.imp fun _ _ _ x=>UZ (top:=E2 p f v) hv2 (.inl ⟨rfl,rfl⟩) rfl rfl (by rw[hf];exact x)
 exact s11.imp fun _ _ _=>St.perm List.perm_middle.symm
theorem LM (hv:VaA v r) (hvs:v.size≤100000) (x:(bj [ei bb gb wb ms S.kept,aW gb S.G,bE wb S.cells S.log]).A h F J) (h4:ms.length=4) (hg:nO ms) (hm:kM ms) (hS:S.Good) (hlog:S.log.length≤900000) (hr:¬ (fuel<0∨2000<fuel∨p<0∨4≤p)) (hn:¬ ((ms.getD p.toNat none).isNone∨f<0∨((bQ ms p).length:Int)≤f)) (hc:v.code=0):
  Lo F J bb gb wb ms S h (rp bb p f r fuel) (match ofD ms fuel.toNat p (dG ms p f) v [] 1 {S with left:=fuel.toNat}with
  | (S',w,c)=>({S' with left:=S.left},if c=0 then w else aK,fuel - (S'.left:Int),c)):=by
 have s1:St h F J (h5q h r fuel) (fD h.n 0 0 zR3 fuel r [ei bb gb wb ms S.kept,aW gb S.G,bE wb S.cells S.log]):=qT (St.start x)
 have rS:=Rx (p:=p) (f:=f) s1 h4 hS hr hn
 have rC:=Lf (bb:=bb) (p:=p) (f:=f) s1 hv
 rw[if_pos hc]at rC
 have r1:=Uv (bb:=bb) (p:=p) (f:=f) s1
 obtain⟨r2,hv2,r2e⟩:=VN (bb:=bb) (p:=p) (f:=f) s1 hv hvs
 have hfl:((fuel.toNat:Nat):Int)=fuel:=Int.toNat_of_nonneg (by omega)
 have s8:St h F J (h8q h bb p f v r r2 fuel) (six h.n (mb5 h) 0 0 zR3 fuel r (L4 h bb gb wb ms {S with left:=fuel.toNat} p f v)):=Np (S:={S with left:=fuel.toNat}) s1 hv2 hfl
 have p1:=TK (bb:=bb) (p:=p) (f:=f) (fuel:=fuel) (h:=h) hv
 have p2:=p1.next (nv:=18) pok vg (cH oQ) Dd vr rS
 have p3:=p2.next (nv:=18) pok KG (cH oQ) Oq JE rC
 have p4:=p3.next (nv:=18) pok VO (cH oQ) Yk TG r1
 have p5:=p4.next (nv:=18) pok TN (cH oQ) XV TH r2e
 have hQ:∀ q,JM (rp bb p f r fuel) h (aC pR 18 [.ss zj,.halt []] (Vv bb h.n p f r fuel .junk .junk .junk) [] (h8q h bb p f v r r2 fuel))=some q→M0 (rp bb p f r fuel) h=some q:=fun q hq=>by
  unfold M0
  rw[qV hv]
  simp only[Bo]
  rw[rS]
  simp only
  rw[rC]
  simp only
  rw[r1]
  simp only
  rw[r2e]
  simp only
  exact hq
 have hS0:({S with left:=fuel.toNat}:StD).Good:=⟨hS.wf,hS.cells,hS.kept,hS.keptV⟩
 have hp0:0≤p:=by omega
 have hth:(ms.getD p.toNat none).isSome=true:=by
  cases hm:ms.getD p.toNat none with
  | none=>rw[hm]at hn;exact absurd (.inl rfl) hn
  | some l=>rfl
 have hf0:0≤f:=by
  rcases Int.lt_or_le f 0 with h | h
  ·exact absurd (.inr (.inl h)) hn
  ·exact h
 have hf1:f.toNat<(bQ ms p).length:=by
  rcases Int.lt_or_le f ((bQ ms p).length:Int)with h | h
  ·omega
  ·exact absurd (.inr (.inr h)) hn
 have runs:=TY hg (p:=p) (f:=f) (v:=v) (N:=fuel.toNat) hS0 (by unfold StD.mu;simp only;omega) (by simp only;omega) hc hp0 hth hf0 hf1 (Nat.le_refl _)
 have hox:=fk ms fuel.toNat p (dG ms p f) v [] 1 _ hS0 hc (by simp)
 have hle:=mj ms fuel.toNat p (dG ms p f) v [] 1 {S with left:=fuel.toNat}
 generalize ofD ms fuel.toNat p (dG ms p f) v [] 1 {S with left:=fuel.toNat}=qq at runs hox hle ⊢
 obtain⟨S',w,c⟩:=qq
 simp only at runs hox hle ⊢
 have hl:∀ V h',aC pR 18 [.ss zj,.halt []] V [] h'=aC pR 18 [.lp kA,.ss [],.blk 1,.ss [],.halt []] V [] h':=fun V h'=>by
  unfold zj
  rw[B5,HF]
 rw[hl]at hQ
 have hcf:∃ fnC,(Tryz.prog).funcs[(fRc:Nat)]? =some fnC∧(fnC.body.isNone=false∧(fnC.name== "runtime.NumGoroutine")=false):=⟨_,Nj,by kernel_rfl,by kernel_rfl⟩
 have ne:∀ {a b:Nat},a<b→¬ (b=a):=fun h e=>by omega
 by_cases hz:c=0
 ·subst hz
  rw[if_neg (by simp)]at runs
  obtain⟨e,V',h3,e3,⟨x1,y1,z1,rfl⟩,rfl,fb',r',hv',s9⟩:=D1 (c:=⟨mb5 h,bb,gb,wb,ms⟩) (L:=L4 h bb gb wb ms {S with left:=fuel.toNat} p f v) (b:=h.n) (p:=p) (f:=f) (r:=r) (fuel:=fuel) (show 3<4 by decide) h4 hm (by omega) runs ⟨by omega,by have:=(fY (hox.1.val rfl)).1;simp only at this;omega⟩ ⟨fbq h,{S with left:=fuel.toNat},[],E2 p f v⟩ _ .junk .junk .junk rfl s8
  have hres:=Bn (V:=Vv bb h.n p f r fuel x1 y1 z1) rfl rfl rfl (s9.cell 3 rfl).1 hv'.len3.1 (s9.cell 2 rfl).1 (s9.cell 1 rfl).1
  refine⟨_,hQ _ ?_,Eg (nv:=18) (caps:=[9,14,10,11,12]) (js:=[6,11,7,8,9]) pok p5 Am hcf (by decide) rfl (by decide) QE (cH oQ) Rl JY ((hl _ _).trans e3) Wm (.ret fun m w ps hw hps=>IV hw hps) wq hres,r',h3,rfl,hv',?_⟩
  ·rw[e3]
   simp only[JM,D9]
   rw[hres]
   rfl
  ·exact s9.drop.drop.drop.drop.drop.drop.drop
 ·rw[if_pos hz]at runs
  obtain⟨e,V',h3,e3,⟨x1,y1,z1,rfl⟩,rfl,n',hn',s9⟩:=D1 (c:=⟨mb5 h,bb,gb,wb,ms⟩) (L:=L4 h bb gb wb ms {S with left:=fuel.toNat} p f v) (b:=h.n) (p:=p) (f:=f) (r:=r) (fuel:=fuel) (show 3<4 by decide) h4 hm (by omega) runs (show S'.left≤2000 by omega) ⟨fbq h,{S with left:=fuel.toNat},[],E2 p f v⟩ _ .junk .junk .junk rfl s8
  subst hn'
  have s9:St h F J h3 (six h.n (mb5 h) 0 0 zR3 fuel r [fR (mb5 h) bb n'.fb (n'.S.left:Int) n'.below n'.top,ei bb gb wb ms n'.S.kept,aW gb n'.S.G,bE wb n'.S.cells n'.S.log]):=s9
  have k0:=(s9.cell 0 rfl).1
  have k1:=(s9.cell 1 rfl).1
  have k2:=(s9.cell 2 rfl).1
  have k3:=(s9.cell 3 rfl).1
  have k4:=(s9.cell 4 rfl).1
  obtain⟨ar,sv,nv,g,mv⟩:=eh s9 6 rfl
  have s10:St h F J _ (six h.n (mb5 h) 0 0 zR3 fuel r _):=s9.set 3 rfl [zR3]
  have s11:St h F J _ (six h.n (mb5 h) 0 (fuel - (n'.S.left:Int)) zR3 fuel r _):=s10.set 2 rfl [[.int .i64 (fuel - (n'.S.left:Int))]]
  have s12:St h F J _ (six h.n (mb5 h) c (fuel - (n'.S.left:Int)) zR3 fuel r [fR (mb5 h) bb n'.fb (n'.S.left:Int) n'.below n'.top,ei bb gb wb ms n'.S.kept,aW gb n'.S.G,bE wb n'.S.cells n'.S.log]):=s11.set 1 rfl [[.int .i64 c]]
  have hres:=Bn (V:=Vv bb h.n p f r fuel x1 y1 z1) rfl rfl rfl (s12.cell 3 rfl).1 rfl (s12.cell 2 rfl).1 (s12.cell 1 rfl).1
  refine⟨_,hQ _ ?_,Eg (nv:=18) (caps:=[9,14,10,11,12]) (js:=[6,11,7,8,9]) pok p5 Am hcf (by decide) rfl (by decide) QE (cH oQ) Rl JY ((hl _ _).trans e3) Wm (.panic _ fun m w ps u hw hps hu=>LB hw hps hu k4 k0 mv.m k3 rfl k2 k1 (ne (by omega)) (ne (by omega)) (ne (by omega)) (w64 (by omega) (by omega))) wq hres,zR3,((h3.set (h.n+1+1) (some [zR3])).set (h.n+1+1+1) (some [[.int .i64 (fuel - (n'.S.left:Int))]])).set (h.n+1+1+1+1) (some [[.int .i64 c]]),rfl,?_,?_⟩
  ·rw[e3]
   simp only[JM,mv.m,D9]
   rw[hres]
   rfl
  ·simp only
   rw[if_neg hz];exact aL
  ·exact s12.drop.drop.drop.drop.drop.drop.drop
theorem FX (hv:VaA v r) (hvs:v.size≤100000) (x:(bj [ei bb gb wb ms S.kept,aW gb S.G,bE wb S.cells S.log]).A h F J) (h4:ms.length=4) (hg:nO ms) (hm:kM ms) (hS:S.Good) (hlog:S.log.length≤900000):Lo F J bb gb wb ms S h (rp bb p f r fuel) (dh ms p f v fuel S):=by
 unfold dh
 by_cases h1:fuel<0∨2000<fuel∨p<0∨4≤p
 ·rw[if_pos h1]
  exact EY hv x h1
 rw[if_neg h1]
 by_cases h2:(ms.getD p.toNat none).isNone∨f<0∨((bQ ms p).length:Int)≤f
 ·rw[if_pos h2]
  exact IS hv x h4 hS h1 h2
 rw[if_neg h2]
 by_cases h3:v.code=0
 ·rw[if_neg (fun e=>e h3)]
  exact LM hv hvs x h4 hg hm hS hlog h1 h2 h3
 ·rw[if_pos h3]
  have s1:St h F J (h5q h r fuel) (fD h.n 0 0 zR3 fuel r [ei bb gb wb ms S.kept,aW gb S.G,bE wb S.cells S.log]):=qT (St.start x)
  have rS:=Rx (p:=p) (f:=f) s1 h4 hS h1 h2
  have rC:=Lf (bb:=bb) (p:=p) (f:=f) s1 hv
  rw[if_neg h3]at rC
  have p1:=TK (bb:=bb) (p:=p) (f:=f) (fuel:=fuel) (h:=h) hv
  have p2:=p1.next (nv:=18) pok vg (cH oQ) Dd vr rS
  refine⟨_,?_,(p2.next (nv:=18) pok KG (cH oQ) Oq JE rC).ret Am wq (pG rfl rfl rfl (St.start x) v.code),wN x v.code⟩
  unfold M0
  rw[qV hv]
  simp only[Bo]
  rw[rS]
  simp only
  rw[rC]
  simp only[D9]
  rw[pG rfl rfl rfl (St.start x) v.code]
  rfl
theorem U2 (hv:VaA v r) (hvs:v.size≤100000) (x:(bj [ei bb gb wb ms S.kept,aW gb S.G,bE wb S.cells S.log]).A h F J) (h4:ms.length=4) (hg:nO ms) (hm:kM ms) (hS:S.Good) (hlog:S.log.length≤900000):
  ∃ h',(∃ r',aj Tryz.prog po gE (rp bb p f r fuel) h=some (.inl (.tup [.agg r',.int .i64 (dh ms p f v fuel S).2.2.1,.int .i64 (dh ms p f v fuel S).2.2.2]),h')∧VaA (dh ms p f v fuel S).2.1 r')∧
    Did h F J h' (bj [ei bb gb wb ms (dh ms p f v fuel S).1.kept,aW gb (dh ms p f v fuel S).1.G,bE wb (dh ms p f v fuel S).1.cells (dh ms p f v fuel S).1.log]):=by
 obtain⟨q,hq,ac,_⟩:=FX (p:=p) (f:=f) (fuel:=fuel) hv hvs x h4 hg hm hS hlog
 have good:Dg (rp bb p f r fuel) h q:=by
  intro F2 J2 bb2 gb2 wb2 ms2 S2 p2 f2 fuel2 v2 r2 ea hv2 hvs2 h42 hg2 hm2 hS2 hl2 x2
  injection ea with e1 ea
  injection ea with e2 ea
  injection ea with e3 ea
  injection ea with e4 ea
  injection ea with e5 ea
  injection e1 with e1
  injection e2 with _ e2
  injection e3 with _ e3
  injection e4 with e4
  injection e5 with _ e5
  subst e1 e2 e3 e4 e5
  obtain⟨q2,hq2,_,r',h',p1,p2,p3⟩:=FX (p:=p) (f:=f) (fuel:=fuel) hv2 hvs2 x2 h42 hg2 hm2 hS2 hl2
  rw[hq]at hq2
  injection hq2 with hq2
  exact⟨r',h',hq2.trans p1,p2,p3⟩
 have H:∃ q,AC Tryz.prog gE (rp bb p f r fuel) h q∧Dg (rp bb p f r fuel) h q:=⟨q,ac,good⟩
 obtain⟨r',h',e,hv',d⟩:=(Classical.choose_spec H).2 F J bb gb wb ms S p f fuel v r rfl hv hvs h4 hg hm hS hlog x
 refine⟨h',⟨r',?_,hv'⟩,d⟩
 unfold aj
 rw[UJ]
 show wu _ _=_
 unfold wu
 rw[dif_pos H,e]
end
section
variable {h h' h0:AH} {F J F0 J0:Nat→Prop} {L A B:List Asn} {X Y Z:Asn}
theorem Pn (y:Y.A h F J):(fw (zs True) Y).A h F J:=⟨fun _=>False,fun _=>False,F,J,⟨trivial,fun _ h=>h,fun _ h=>h⟩,y,fun k=>by simp,fun j=>by simp,fun _ h=>h.elim,fun _ h=>h.elim⟩
theorem Ng (x:(fw (zs True) Y).A h F J):Y.A h F J:=by
 obtain⟨F1,J1,F2,J2,⟨_,a,b⟩,y,hF,hJ,_,_⟩:=x
 have e1:F=F2:=by funext k;exact propext ⟨fun h=>((hF k).1 h).resolve_left (a k),fun h=>(hF k).2 (.inr h)⟩
 have e2:J=J2:=by funext k;exact propext ⟨fun h=>((hJ k).1 h).resolve_left (b k),fun h=>(hJ k).2 (.inr h)⟩
 rw[e1,e2];exact y
theorem bj.app:∀ {A B:List Asn} {h:AH} {F J:Nat→Prop},(bj (A++B)).A h F J↔(fw (bj A) (bj B)).A h F J
 | [],B,h,F,J=>⟨Pn,Ng⟩
 | X::A,B,h,F,J=>⟨fun x=>mM (eB (fun _ _ _ y=>y) (fun _ _ _ y=>bj.app.1 y) x),fun x=>eB (fun _ _ _ y=>y) (fun _ _ _ y=>bj.app.2 y) (kK x)⟩
theorem St.callL {M M':List Asn} {R:AH→Prop} (s:St h0 F0 J0 h (A++M++B)) (c:∀ F J,(bj M).A h F J→∃ h',R h'∧Did h F J h' (bj M')):∃ h',R h'∧St h0 F0 J0 h' (A++M'++B):=by
 have p:∀ M:List Asn,List.Perm (A++M++B) (M++(A++B)):=fun M=>by
  have:=(List.perm_append_comm (l₁:=A) (l₂:=M)).append_right B
  simpa[List.append_assoc]using this
 obtain⟨F,J,x,ch,a,b⟩:=s
 have x2:=bj.app.1 (St.perm (p M) x)
 obtain⟨h',r,d⟩:=zO x2 c
 exact⟨h',r,Did.chain ch a b (d.imp fun _ _ _ y=>St.perm (p M').symm (bj.app.2 y))⟩
structure BxC where
 (bb gb wb:Nat)
 ms:aO
structure AtB (c:BxC) (L:List Asn) (i:Nat) (S:StD):Prop where
 b:L[i]? =some (ei c.bb c.gb c.wb c.ms S.kept)
 g:L[i+1]? =some (aW c.gb S.G)
 w:L[i+2]? =some (bE c.wb S.cells S.log)
def RW (c:BxC) (L:List Asn) (i:Nat) (S:StD):List Asn:=((L.set i (ei c.bb c.gb c.wb c.ms S.kept)).set (i+1) (aW c.gb S.G)).set (i+2) (bE c.wb S.cells S.log)
theorem N5 {c:BxC} {i j:Nat} {S:StD}:(RW c L i S)[j]? =if j<L.length then(if j=i+2 then some (bE c.wb S.cells S.log)else if j=i+1 then some (aW c.gb S.G)else if j=i then some (ei c.bb c.gb c.wb c.ms S.kept)else L[j]?)else none:=by
 unfold RW
 by_cases hj:j<L.length
 ·rw[if_pos hj]
  simp only[List.getElem?_set,List.length_set]
  by_cases h2:j=i+2
  ·subst h2;simp[hj]
  ·by_cases h1:j=i+1
   ·subst h1;simp[hj]
   ·by_cases h0:j=i
    ·subst h0;simp[hj]
    ·simp[h0,h1,h2,Ne.symm h0,Ne.symm h1,Ne.symm h2]
 ·rw[if_neg hj,List.getElem?_eq_none (by simpa using hj)]
theorem AtB.len {c:BxC} {i:Nat} {S:StD} (a:AtB c L i S):i+2<L.length:=(List.getElem?_eq_some_iff.1 a.w).1
theorem AtB.put {c:BxC} {i:Nat} {S:StD} (a:AtB c L i S) (S':StD):AtB c (RW c L i S') i S':=by
 have:=a.len
 refine⟨?_,?_,?_⟩<;>rw[N5]
 ·rw[if_pos (by omega),if_neg (by omega),if_neg (by omega),if_pos rfl]
 ·rw[if_pos (by omega),if_neg (by omega),if_pos rfl]
 ·rw[if_pos (by omega),if_pos rfl]
theorem AtB.cons {c:BxC} {i:Nat} {S:StD} (a:AtB c L i S) (X:Asn):AtB c (X::L) (i+1) S:=⟨a.b,a.g,a.w⟩
theorem OY:∀ {L:List Asn} {i:Nat},L[i]? =some X→L[i+1]? =some Y→L[i+2]? =some Z→∃ A B,L=A++[X,Y,Z]++B∧A.length=i
 | [],i,h,_,_=>by simp at h
 | W::L,0,h1,h2,h3=>by
   match L,h2,h3 with
   | Y'::Z'::B,h2,h3=>
     simp only[List.getElem?_cons_zero,List.getElem?_cons_succ,Option.some.injEq,Nat.zero_add]at h1 h2 h3
     subst h1 h2 h3
     exact⟨[],B,rfl,rfl⟩
 | W::L,i+1,h1,h2,h3=>by
   obtain⟨A,B,rfl,hl⟩:=OY (L:=L) (i:=i) h1 h2 h3
   exact⟨W::A,B,rfl,by simp[hl]⟩
theorem aau {A B:List Asn} {X Y Z X' Y' Z':Asn}:(((A++[X,Y,Z]++B).set A.length X').set (A.length+1) Y').set (A.length+2) Z'=A++[X',Y',Z']++B:=by
 induction A with
 | nil=>rfl
 | cons W A ih=>exact congrArg (W::·) ih
structure OkB (c:BxC) (S:StD):Prop where
 ms:c.ms.length=4
 g:nO c.ms
 z:kM c.ms
 st:S.Good
 log:S.log.length≤900000
theorem GX (s:St h0 F0 J0 h L) {c:BxC} {i:Nat} {S:StD} (a:AtB c L i S) (o:OkB c S) {v:VD} {r:List AV} (hv:VaA v r) (hvs:v.size≤100000) (p f fuel:Int):
  ∃ h' r',aj Tryz.prog po gE (rp c.bb p f r fuel) h=some (.inl (.tup [.agg r',.int .i64 (dh c.ms p f v fuel S).2.2.1,.int .i64 (dh c.ms p f v fuel S).2.2.2]),h')∧VaA (dh c.ms p f v fuel S).2.1 r'∧St h0 F0 J0 h' (RW c L i (dh c.ms p f v fuel S).1):=by
 obtain⟨A,B,e,hl⟩:=OY a.b a.g a.w
 subst e
 subst hl
 obtain⟨h',⟨r',e1,e2⟩,s'⟩:=s.callL (M':=[ei c.bb c.gb c.wb c.ms (dh c.ms p f v fuel S).1.kept,aW c.gb (dh c.ms p f v fuel S).1.G,bE c.wb (dh c.ms p f v fuel S).1.cells (dh c.ms p f v fuel S).1.log]) fun F J x=>U2 (p:=p) (f:=f) (fuel:=fuel) hv hvs x o.ms o.g o.z o.st o.log
 refine⟨h',r',e1,e2,?_⟩
 unfold RW
 rw[aau]
 exact s'
end
def fW (x:iO):List AV:=[.int .i64 x.d,.int .i64 x.a,.int .i64 x.b,.int .i64 x.c,.int .i64 x.e]
theorem zi:(∀ x,(fW x).length=5)∧(∀ x,(fW x).all AV.one=true)∧(∀ x:iO,(fW x)[0]? =some (.int .i64 x.d))∧(∀ x:iO,(fW x)[1]? =some (.int .i64 x.a))∧(∀ x:iO,(fW x)[2]? =some (.int .i64 x.b))∧(∀ x:iO,(fW x)[3]? =some (.int .i64 x.c))∧(∀ x:iO,(fW x)[4]? =some (.int .i64 x.e)):=
 ⟨fun _=>rfl,fun _=>rfl,fun _=>rfl,fun _=>rfl,fun _=>rfl,fun _=>rfl,fun _=>rfl⟩
section
variable {h:AH} {b b2:Nat} {G H:ae}
end
theorem uA:∀ {ms:aO} {kept:List VD} {ks:List (List AV)} {p:Nat} {M:List XD} {v:VD} {r:List AV},VaL kept ks→ms.length=kept.length→p<ms.length→VaA v r→
  ∃ ks',VaL (kept.set p v) ks'∧stA (eQ ms ks) (p*5) (.bool true::dY M::r)=eQ (ms.set p (some M)) ks'
 | [],kept,ks,p,_,_,_,_,_,hp,_=>by simp at hp
 | m::ms,[],ks,p,_,_,_,_,hl,_,_=>by simp at hl
 | m::ms,k::kept,ks,p,M,v,r,h,hl,hp,hv=>by
   obtain⟨r0,rs,rfl,h1,h2⟩:=h
   have h3:=h1.len3.1
   have h4:=hv.len3.1
   match r0,h3,r,h4 with
   | [a,b,c],_,[x,y,z],_=>
     cases p with
     | zero=>exact⟨[x,y,z]::rs,⟨_,_,rfl,hv,h2⟩,rfl⟩
     | succ p=>
       obtain⟨ks',q1,q2⟩:=uA (ms:=ms) (p:=p) (M:=M) h2 (by simpa using hl) (by simpa using hp) hv
       refine⟨[a,b,c]::ks',⟨_,_,rfl,h1,q1⟩,?_⟩
       have:(p+1)*5=p*5+5:=by omega
       rw[this]
       unfold stA at q2 ⊢
       simp only[eQ,List.set_cons_succ,List.cons_append,List.nil_append,List.take_succ_cons,List.length_cons,List.length_nil]
       rw[show p*5+5+(0+1+1+1+1+1)=p*5+5+5 by omega]
       simp only[List.drop_succ_cons]
       rw[←q2]
       simp
section
variable {h h' h0:AH} {F J F0 J0:Nat→Prop} {L:List Asn}
theorem E6 {b gb wb:Nat} {ms:aO} {kept:List VD} (s:St h0 F0 J0 h L) (i:Nat) (hi:L[i]? =some (ei b gb wb ms kept)) (hl:ms.length=kept.length) {p:Nat} (hp:p<ms.length) {M:List XD} {v:VD} {r:List AV} (hv:VaA v r):
  ∃ h',aZ 5 h (.ptr b 0 (2+p*5)) (.agg (.bool true::dY M::r))=some h'∧St h0 F0 J0 h' (L.set i (ei b gb wb (ms.set p (some M)) (kept.set p v))):=by
 refine s.call (R:=fun h'=>aZ 5 h (.ptr b 0 (2+p*5)) (.agg (.bool true::dY M::r))=some h') i hi fun F J x=> ?_
 obtain⟨ks,hk,a1,a2,a3,a4⟩:=x
 obtain⟨ks',q1,q2⟩:=uA (M:=M) hk hl hp hv
 have hlen:=kD hk hl
 have ho:(AV.bool true::dY M::r).all AV.one=true:=by
  simp only[List.all_cons,(fj M).2.2,hv.len3.2,Bool.and_true];rfl
 refine⟨_,bJ (es:=[mi gb wb ms ks]) (e:=mi gb wb ms ks) a4 rfl ho (by simp[AV.cells,hv.len3.1]) (by simp only[mi,List.length_cons,hlen];omega),F,J,⟨ks',q1,a1,a2,a3,?_⟩,⟨Nat.le_refl _,Nat.le_refl _,fun k _ hk'=>bu fun e=>hk' ((a1 k).2 e),fun _ _ _=>rfl⟩,fun _=> .inl,fun _=> .inl⟩
 rw[bR,List.set_cons_zero]
 have:stA (mi gb wb ms ks) (2+p*5) (.bool true::dY M::r)=mi gb wb (ms.set p (some M)) ks':=by
  unfold mi
  rw[←q2]
  unfold stA
  rw[show 2+p*5=p*5+1+1 by omega]
  simp only[List.take_succ_cons,List.cons_append]
  rw[show p*5+1+1+(AV.bool true::dY M::r).length=p*5+(AV.bool true::dY M::r).length+1+1 by omega]
  simp only[List.drop_succ_cons]
 simp only[AV.cells,this]
abbrev ms0:aO:=[none,none,none,none]
abbrev nN:List VD:=[aK,aK,aK,aK]
abbrev iM:List Int:=[0,0,0,0,0,0,0,0,0,0,0,0]
abbrev G0:ae:=⟨[],[]⟩
def i4 (l:Nat):StD:=⟨G0,iM,[],nN,l⟩
theorem L8 (l:Nat):(i4 l).Good:=⟨HS,rfl,rfl,fun v hv=>by
 have:v=aK:=by simpa[i4]using hv
 rw[this];exact jh⟩
theorem A7:(aW h.n G0).A (h.push [[.nils,.nils]]) (fun k=>k=h.n) (fun _=>False):=UI h
theorem LR {b:Nat} (hb:b=h.n):(bE b iM []).A (h.push [iM.map (AV.int .i64)++[AV.nils]]) (fun k=>k=b) (fun _=>False):=by
 subst hb
 exact⟨.nils,fun k=>k=h.n,fun _=>False,fun _=>False,fun _=>False,⟨fun _=>Iff.rfl,fun _ h=>h,Nat.lt_succ_self _,ap⟩,.inl ⟨⟨rfl,rfl⟩,fun _ h=>h,fun _ h=>h⟩,fun k=>by simp,fun j=>by simp,fun _ _ h=>h,fun _ h=>h.elim⟩
theorem UC {b gb wb:Nat} (hb:b=h.n):(ei b gb wb ms0 nN).A (h.push [mi gb wb ms0 [zR3,zR3,zR3,zR3]]) (fun k=>k=b) (fun _=>False):=by
 subst hb
 exact⟨[zR3,zR3,zR3,zR3],⟨_,_,rfl,aL,_,_,rfl,aL,_,_,rfl,aL,_,_,rfl,aL,rfl⟩,fun _=>Iff.rfl,fun _ h=>h,Nat.lt_succ_self _,ap⟩
theorem EQ (s:St h0 F0 J0 h L):∃ h' bb gb wb,aj Tryz.prog po 39 [] h=some (.inl (.ptr bb 0 0),h')∧St h0 F0 J0 h' (ei bb gb wb ms0 nN::aW gb G0::bE wb iM []::L):=by
 have s1:St h0 F0 J0 _ (aW h.n G0::L):=s.add (ab.push h _) A7 (fun k hk=>Nat.le_of_eq hk.symm) (fun _ h=>h.elim)
 have s2:St h0 F0 J0 _ (bE (h.n+1) iM []::aW h.n G0::L):=s1.add (X:=bE (h.n+1) iM []) (h':=(h.push [[.nils,.nils]]).push [iM.map (AV.int .i64)++[AV.nils]]) (F1:=fun k=>k=h.n+1) (J1:=fun _=>False) (ab.push _ _) (LR (h:=h.push [[.nils,.nils]]) rfl) (fun k hk=>Nat.le_of_eq hk.symm) (fun _ h=>h.elim)
 have s3:St h0 F0 J0 _ (ei (h.n+1+1) h.n (h.n+1) ms0 nN::bE (h.n+1) iM []::aW h.n G0::L):=s2.add (X:=ei (h.n+1+1) h.n (h.n+1) ms0 nN) (h':=((h.push [[.nils,.nils]]).push [iM.map (AV.int .i64)++[AV.nils]]).push [mi h.n (h.n+1) ms0 [zR3,zR3,zR3,zR3]]) (F1:=fun k=>k=h.n+1+1) (J1:=fun _=>False) (ab.push _ _) (UC (h:=(h.push [[.nils,.nils]]).push [iM.map (AV.int .i64)++[AV.nils]]) rfl) (fun k hk=>Nat.le_of_eq hk.symm) (fun _ h=>h.elim)
 have s4:=s3.imp fun _ _ _ x=>St.perm (List.Perm.cons _ (List.Perm.swap _ _ _)) x
 obtain⟨h1,e1,rfl⟩:=ZZ (h:=h)
 have e2:aj Tryz.prog po 77 [] (h.push [[.nils,.nils]])=some (.inl (.ptr (h.n+1) 0 0),(h.push [[.nils,.nils]]).push [iM.map (AV.int .i64)++[AV.nils]]):=by
  refine ag Uk rfl ?_;unfold Kj
  simp only[sim,af,θ,ξ,η,reduceCtorEq,ψ,ω,aa]
 refine⟨_,h.n+1+1,h.n,h.n+1,?_,s4⟩
 refine ag Oi rfl ?_;unfold EK
 simp only[sim,af,θ,ξ,η,reduceCtorEq,ψ,ω,aa,au,e1,e2]
 rfl
variable {gb nb i j:Nat} {G H:ae}
theorem yD {x:iO} {G' H':ae} {f1 f2:FuncId} {a1 a2:List AV} {r1 r2:AV ⊕ AV} (s:St h0 F0 J0 h L) (hi:L[i]? =some (aW gb G)) (hj:L[j]? =some (aW nb H)) (hij:i≠j)
  (c1:∀ F J,IsG (h.push [fW x]) F J gb G→∃ h',aj Tryz.prog po f1 a1 (h.push [fW x])=some (r1,h')∧cO (h.push [fW x]) F J gb h' G') (c2:∀ h1 F J,IsG h1 F J nb H→∃ h',aj Tryz.prog po f2 a2 h1=some (r2,h')∧cO h1 F J nb h' H'):
  ∃ h1 h2,aj Tryz.prog po f1 a1 (h.push [fW x])=some (r1,h1)∧h1.cell h.n=some [fW x]∧aj Tryz.prog po f2 a2 h1=some (r2,h2)∧St h0 F0 J0 h2 ((L.set i (aW gb G')).set j (aW nb H')):=by
 have s1:=s.push [fW x]
 obtain⟨h1,e1,s2⟩:=s1.call (R:=fun h'=>aj Tryz.prog po f1 a1 (h.push [fW x])=some (r1,h')) (Y:=aW gb G') (i+1) hi c1
 have s2:St h0 F0 J0 h1 (ah h.n [fW x]::L.set i (aW gb G')):=s2
 obtain⟨h2,e2,s3⟩:=s2.call (R:=fun h'=>aj Tryz.prog po f2 a2 h1=some (r2,h')) (Y:=aW nb H') (j+1) (by rw[List.getElem?_cons_succ,List.getElem?_set_ne hij];exact hj) (c2 h1)
 exact⟨h1,h2,e1,(s2.cell 0 rfl).1,e2,s3.drop⟩
theorem tD {X:Asn} (hi:L[i]? =some X):L.set i X=L:=by
 have hl:i<L.length:=(List.getElem?_eq_some_iff.1 hi).1
 have:X=L[i]:=by have:=(List.getElem?_eq_some_iff.1 hi).2;exact this.symm
 rw[this];exact List.set_getElem_self hl
set_option maxHeartbeats 1000000 in
theorem P8 (s:St h0 F0 J0 h L) (hi:L[i]? =some (aW gb G)) (hj:L[j]? =some (aW nb H)) (hij:i≠j) (hG:G.Wf) (hH:H.Wf) (x:iO):
  ∃ h' v,aj Tryz.prog po 45 [.ptr gb 0 0,.ptr nb 0 0,.agg (fW x)] h=some (.inl (.bool v),h')∧St h0 F0 J0 h' ((L.set i (aW gb (G.step x).1)).set j (aW nb (H.step x).1)):=by
 cases h0':decide (x.d=0)
 ·cases h1:decide (x.d=1)
  ·cases h2:decide (x.d=2)
   ·cases h3:decide (x.d=3)
    ·cases h4:decide (x.d=4)
     ·have e:∀ K:ae,K.step x=(K,0,0):=fun K=>by simp at h0' h1 h2 h3 h4;simp[ae.step,h0',h1,h2,h3,h4]
      rw[e,e,tD hi,tD hj]
      refine⟨_,true,?_,(s.push [fW x]).drop⟩
      refine ag gt rfl ?_;unfold fp
      simp only[sim,af,θ,ξ,η,reduceCtorEq,ψ,ω,aa,zi,h0',h1,h2,h3,h4]
     ·have e:∀ K:ae,K.step x=K.derive x.a x.b x.c:=fun K=>by simp[ae.step,(by simpa using h4:x.d=4)]
      rw[e,e]
      obtain⟨ha,hb,a1,cx,b1,s'⟩:=yD (x:=x) s hi hj hij (fun F J g=>xS g hG x.a x.b x.c) (fun h1 F J g=>rM g hH x.a x.b x.c)
      refine⟨_,decide ((G.derive x.a x.b x.c).2.1=(H.derive x.a x.b x.c).2.1) && decide ((G.derive x.a x.b x.c).2.2=(H.derive x.a x.b x.c).2.2),?_,s'⟩
      refine ag gt rfl ?_;unfold fp
      cases hq:decide ((G.derive x.a x.b x.c).2.1=(H.derive x.a x.b x.c).2.1)<;>simp only[sim,af,θ,ξ,η,reduceCtorEq,ψ,ω,aa,zi,h0',h1,h2,h3,h4,a1,cx,b1,hq]
    ·have e:∀ K:ae,K.step x=K.funcC x.a x.e x.b x.c:=fun K=>by simp[ae.step,(by simpa using h3:x.d=3)]
     rw[e,e]
     obtain⟨ha,hb,a1,cx,b1,s'⟩:=yD (x:=x) s hi hj hij (fun F J g=>YF g hG x.a x.e x.b x.c) (fun h1 F J g=>YQ g hH x.a x.e x.b x.c)
     refine⟨_,decide ((G.funcC x.a x.e x.b x.c).2.1=(H.funcC x.a x.e x.b x.c).2.1) && decide ((G.funcC x.a x.e x.b x.c).2.2=(H.funcC x.a x.e x.b x.c).2.2),?_,s'⟩
     refine ag gt rfl ?_;unfold fp
     cases hq:decide ((G.funcC x.a x.e x.b x.c).2.1=(H.funcC x.a x.e x.b x.c).2.1)<;>simp only[sim,af,θ,ξ,η,reduceCtorEq,ψ,ω,aa,zi,h0',h1,h2,h3,a1,cx,b1,hq]
   ·have e:∀ K:ae,K.step x=K.cellC x.a x.b x.c:=fun K=>by simp[ae.step,(by simpa using h2:x.d=2)]
    rw[e,e]
    obtain⟨ha,hb,a1,cx,b1,s'⟩:=yD (x:=x) s hi hj hij (fun F J g=>Ym g hG x.a x.b x.c) (fun h1 F J g=>XZ g hH x.a x.b x.c)
    refine⟨_,decide ((G.cellC x.a x.b x.c).2.1=(H.cellC x.a x.b x.c).2.1) && decide ((G.cellC x.a x.b x.c).2.2=(H.cellC x.a x.b x.c).2.2),?_,s'⟩
    refine ag gt rfl ?_;unfold fp
    cases hq:decide ((G.cellC x.a x.b x.c).2.1=(H.cellC x.a x.b x.c).2.1)<;>simp only[sim,af,θ,ξ,η,reduceCtorEq,ψ,ω,aa,zi,h0',h1,h2,a1,cx,b1,hq]
  ·have e:∀ K:ae,K.step x=((K.cut x.a).1,0,(K.cut x.a).2):=fun K=>by simp[ae.step,(by simpa using h1:x.d=1)]
   rw[e,e]
   obtain⟨ha,hb,a1,cx,b1,s'⟩:=yD (x:=x) s hi hj hij (fun F J g=>Wo g x.a) (fun h1 F J g=>Wy g x.a)
   refine⟨_,decide ((G.cut x.a).2=(H.cut x.a).2),?_,s'⟩
   refine ag gt rfl ?_;unfold fp
   simp only[sim,af,θ,ξ,η,reduceCtorEq,ψ,ω,aa,zi,h0',h1,a1,cx,b1]
 ·have e:∀ K:ae,K.step x=K.gate:=fun K=>by simp[ae.step,(by simpa using h0':x.d=0)]
  rw[e,e]
  obtain⟨ha,hb,a1,cx,b1,s'⟩:=yD (x:=x) s hi hj hij (fun F J g=>Pb g hG) (fun h1 F J g=>N9 g hH)
  refine⟨_,decide (G.gate.2.1=H.gate.2.1) && decide (G.gate.2.2=H.gate.2.2),?_,s'⟩
  refine ag gt rfl ?_;unfold fp
  cases hq:decide (G.gate.2.1=H.gate.2.1)<;>simp only[sim,af,θ,ξ,η,reduceCtorEq,ψ,ω,aa,zi,h0',a1,b1,hq]
end
abbrev W1 (b:Nat):List AV:=[.msl b 0 12 tL,.nils,.nilp,.nilp,.nilp,.nilp,.int .i64 0,.int .i64 0,.nils,.int .i64 0,.int .i64 0,.nils,.int .i64 0,.int .i64 0,.nils,.int .i64 0,.int .i64 0,.nils,.nils,.nils,.nils,.nils]
section
variable {h h' h0:AH} {F J F0 J0:Nat→Prop} {L:List Asn}
end
theorem uh:(Tryz.prog).underlying 3=some (.int .i64):=by kernel_rfl
theorem YJ:(Tryz.prog).underlying 23=some (.slice 116):=by kernel_rfl
theorem XM:ns Tryz.prog 116=some [3,3,3,3,3]:=by kernel_rfl
theorem JZ {α:Type} {f:α→List AV}:∀ {es:List (List AV)},(∀ r∈es,∃ x,r=f x)→∃ xs:List α,es=xs.map f
 | [],_=>⟨[],rfl⟩
 | r::es,h=>by
   obtain⟨x,rfl⟩:=h r (by simp)
   obtain⟨xs,rfl⟩:=JZ fun q hq=>h q (List.mem_cons_of_mem _ hq)
   exact⟨x::xs,rfl⟩
theorem Ob {n:Nat} {av:AV} (h:TyA Tryz.prog n 23 [av]):∃ xs:List iO,IsL 116 av (xs.map fW):=by
 obtain⟨m,v,es,rfl,e,hv,_,hr⟩:=ub YJ h
 obtain rfl:av=v:=by simpa using e
 obtain⟨xs,rfl⟩:=JZ (f:=fW) fun r hr'=>by
  obtain⟨m2,rfl,parts,rfl,hl,hf⟩:=mc XM (hr r hr').2
  obtain⟨p0,a0,_,b0⟩:=hf 0 _ rfl
  obtain⟨p1,a1,_,b1⟩:=hf 1 _ rfl
  obtain⟨p2,a2,_,b2⟩:=hf 2 _ rfl
  obtain⟨p3,a3,_,b3⟩:=hf 3 _ rfl
  obtain⟨p4,a4,_,b4⟩:=hf 4 _ rfl
  obtain⟨z0,rfl,_⟩:=iV uh b0
  obtain⟨z1,rfl,_⟩:=iV uh b1
  obtain⟨z2,rfl,_⟩:=iV uh b2
  obtain⟨z3,rfl,_⟩:=iV uh b3
  obtain⟨z4,rfl,_⟩:=iV uh b4
  refine⟨⟨z0,z1,z2,z3,z4⟩,?_⟩
  match parts,hl with
  | [c0,c1,c2,c3,c4],_=>
    simp only[List.getElem?_cons_zero,List.getElem?_cons_succ,Option.some.injEq]at a0 a1 a2 a3 a4
    subst a0 a1 a2 a3 a4
    rfl
 exact⟨xs,hv.isL⟩
abbrev tMo:TypeId:=80
abbrev tGs:TypeId:=116
def tR:List (List XD)→List (List AV)→Prop
 | [],es=>es=[]
 | M::Ms,es=>∃ r rs,es=r::rs∧NV M r∧tR Ms rs
theorem tR.len:∀ {Ms:List (List XD)} {es:List (List AV)},tR Ms es→es.length=Ms.length
 | [],es,h=>by simp only[tR]at h;subst h;rfl
 | M::Ms,es,h=>by
   obtain⟨r,rs,rfl,_,h2⟩:=h
   simp[h2.len]
theorem tR.get:∀ {Ms:List (List XD)} {es:List (List AV)} {i:Nat} {M:List XD},tR Ms es→Ms[i]? =some M→∃ r,es[i]? =some r∧NV M r
 | [],es,i,M,h,hi=>by simp at hi
 | M'::Ms,es,i,M,h,hi=>by
   obtain⟨r,rs,rfl,h1,h2⟩:=h
   cases i with
   | zero=>obtain rfl:M'=M:=by simpa using hi
           exact⟨r,rfl,h1⟩
   | succ i=>exact h2.get (by simpa using hi)
def dN (Ms:List (List XD)) (k:Nat):aO:=(List.range 4).map fun j=>if j<k then(match Ms[j]? with | some M=>if(aU M).1=0 then some M else none | none=>none)else none
theorem df (Ms:List (List XD)) (k:Nat):(dN Ms k).length=4:=by simp[dN]
theorem i6 {Ms:List (List XD)} {k j:Nat} (hj:j<4):(dN Ms k)[j]? =some (if j<k then(match Ms[j]? with | some M=>if(aU M).1=0 then some M else none | none=>none)else none):=by
 simp[dN,hj]
theorem HC (Ms:List (List XD)):dN Ms 0=ms0:=by simp[dN,List.range_succ]
theorem Mu {Ms:List (List XD)} {k:Nat} {M:List XD} (hk:k<4) (hM:Ms[k]? =some M) (hz:(aU M).1=0):dN Ms (k+1)=(dN Ms k).set k (some M):=by
 refine List.ext_getElem? fun j=> ?_
 by_cases hj:j<4
 ·rw[i6 hj,List.getElem?_set,df]
  by_cases e:k=j
  ·subst e
   rw[if_pos rfl,if_pos hk,if_pos (by omega),hM]
   simp[hz]
  ·rw[if_neg e,i6 hj]
   by_cases h:j<k
   ·rw[if_pos h,if_pos (by omega)]
   ·rw[if_neg h,if_neg (by omega)]
 ·rw[List.getElem?_eq_none (by rw[df];omega),List.getElem?_eq_none (by rw[List.length_set,df];omega)]
theorem NL {Ms:List (List XD)} {k:Nat} (h:∀ M,Ms[k]? =some M→(aU M).1≠0):dN Ms (k+1)=dN Ms k:=by
 refine List.ext_getElem? fun j=> ?_
 by_cases hj:j<4
 ·rw[i6 hj,i6 hj]
  by_cases e:j=k
  ·subst e
   rw[if_pos (by omega),if_neg (by omega)]
   cases hM:Ms[j]? with
   | none=>rfl
   | some M=>simp[h M hM]
  ·by_cases h:j<k
   ·rw[if_pos h,if_pos (by omega)]
   ·rw[if_neg h,if_neg (by omega)]
 ·rw[List.getElem?_eq_none (by rw[df];omega),List.getElem?_eq_none (by rw[df];omega)]
theorem Mo {Ms:List (List XD)} {k:Nat} (h:4≤k∨Ms.length≤k):dN Ms k=dN Ms 4:=by
 refine List.ext_getElem? fun j=> ?_
 by_cases hj:j<4
 ·rw[i6 hj,i6 hj,if_pos hj]
  by_cases h1:j<k
  ·rw[if_pos h1]
  ·rw[if_neg h1,List.getElem?_eq_none (by omega)]
 ·rw[List.getElem?_eq_none (by rw[df];omega),List.getElem?_eq_none (by rw[df];omega)]
def Ch (G:ae) (l:List iO):ae:=l.foldl (fun G x=>(G.step x).1) G
theorem LN {l:List iO}:∀ {G:ae},G.Wf→(Ch G l).Wf:=by
 induction l with
 | nil=>exact fun h=>h
 | cons x l ih=>exact fun h=>ih (h.step x)
def yO (Ms:List (List XD)):Bool:=Ms.any jg || decide (10<Ms.length)
section
variable {h h' h0:AH} {F J F0 J0:Nat→Prop} {L:List Asn}
theorem Ic {mv:AV} {rows:List (List AV)} {Ms:List (List XD)} (hm:SlA tMo mv rows) (hl:tR Ms rows) (K:List RK):∀ (l pre:List (List XD)) (h':AH) (v3 v4:AV),Ms=pre++l→ab h h'→Ms.length≤9223372036854775807→
  (l.any jg=true→∃ h'' V,aC (aj Tryz.prog po) 5 (.lp cG:: .ss []:: .blk 0::K) [mv,.bool false,.int .i64 (pre.length:Int),v3,v4] [] h'=some (.ret,V,h'')∧V.getD 1 .junk= .bool true∧ab h h'')∧
  (l.any jg=false→∃ h'' w3 w4,aC (aj Tryz.prog po) 5 (.lp cG:: .ss []:: .blk 0::K) [mv,.bool false,.int .i64 (pre.length:Int),v3,v4] [] h'=aC (aj Tryz.prog po) 5 K [mv,.bool false,.int .i64 (Ms.length:Int),w3,w4] [] h''∧ab h h''):=by
 intro l
 have hll:=hl.len
 induction l with
 | nil=>
   intro pre h' v3 v4 e hg hml
   refine⟨fun h=>by simp at h,fun _=>⟨h',.bool false,v4,?_,hg⟩⟩
   have hlt:¬ ((pre.length:Int)<(Ms.length:Int)):=by rw[e];simp
   have e2:pre.length=Ms.length:=by rw[e];simp
   rw[aG cG.eq_1]
   simp only[sim,af,θ,ξ,η,reduceCtorEq,ψ,ω,aa,hm.isL.len,hm.isL.fits,hll,hlt]
   rw[e2]
 | cons M l ih=>
   intro pre h' v3 v4 e hg hml
   have hlt:(pre.length:Int)<(Ms.length:Int):=by rw[e];simp;omega
   have hi:Ms[pre.length]? =some M:=by rw[e];simp
   obtain⟨r,q1,v,es,rfl,q3,q4⟩:=hl.get hi
   have ix:=hm.isL.ix .i64 pre.length _ q1
   have gr:=M1 (h:=h') v M (gk.of q3 q4)
   have ov:=(gk.of (h:=h') q3 q4).one
   have w:=w64 (n:=(pre.length:Int)+1) (by omega) (by omega)
   have e2:((pre++[M]).length:Int)=(pre.length:Int)+1:=by simp
   obtain⟨i1,i2⟩:=ih (pre++[M]) h' (.bool true) (.bool false) (by simp[e]) hg hml
   rw[e2]at i1 i2
   cases hM:jg M with
   | true=>
     rw[hM]at gr
     refine⟨fun _=>⟨h',[mv,.bool true,.int .i64 (pre.length:Int),.bool true,.bool true],?_,rfl,hg⟩,fun h=>by simp[hM]at h⟩
     rw[aG cG.eq_1]
     simp only[sim,af,θ,ξ,η,reduceCtorEq,ψ,ω,aa,au,hm.isL.len,hm.isL.fits,hll,hlt,ix,gr,ov]
   | false=>
     rw[hM]at gr
     refine⟨fun h=> ?_,fun h=> ?_⟩
     ·obtain⟨h'',V,r1,r2,r3⟩:=i1 (by simpa[hM]using h)
      refine⟨h'',V,?_,r2,r3⟩
      rw[←r1]
      conv=>lhs;rw[aG cG.eq_1]
      simp only[sim,af,θ,ξ,η,reduceCtorEq,ψ,ω,aa,au,hm.isL.len,hm.isL.fits,hll,hlt,ix,gr,ov,w]
     ·obtain⟨h'',w3,w4,r1,r2⟩:=i2 (by simpa[hM]using h)
      refine⟨h'',w3,w4,?_,r2⟩
      rw[←r1]
      conv=>lhs;rw[aG cG.eq_1]
      simp only[sim,af,θ,ξ,η,reduceCtorEq,ψ,ω,aa,au,hm.isL.len,hm.isL.fits,hll,hlt,ix,gr,ov,w]
theorem tf {mv:AV} {rows:List (List AV)} {Ms:List (List XD)} (hm:SlA tMo mv rows) (hl:tR Ms rows) (hml:Ms.length≤9223372036854775807):aj Tryz.prog po 9 [mv] h=some (.inl (.bool (yO Ms)),h):=by
 obtain⟨i1,i2⟩:=Ic (h:=h) hm hl [.ss [.ops [ay,BQ,(.i .l (.bin (.int .i64) .gtr (.l 0) (.c (.int .i64 10)))),iS],.ret]] Ms [] h .junk .junk rfl (ab.refl h) hml
 simp only[List.length_nil,Int.natCast_zero]at i1 i2
 have hll:=hl.len
 unfold yO
 cases hg:Ms.any jg with
 | true=>
   obtain⟨h'',V,r1,r2,r3⟩:=i1 hg
   refine ag nK rfl ?_;unfold jO
   simp only[sim,af,θ,ξ,η,reduceCtorEq,ψ,ω,aa]
   rw[r1]
   simp only[sim,af,θ,ξ,η,reduceCtorEq,ψ,ω,aa,r2,aI r3 (rfl:wkA (.bool true)=_)]
 | false=>
   obtain⟨h'',w3,w4,r1,r2⟩:=i2 hg
   refine ag nK rfl ?_;unfold jO
   simp only[sim,af,θ,ξ,η,reduceCtorEq,ψ,ω,aa]
   rw[r1]
   simp only[sim,af,θ,ξ,η,reduceCtorEq,ψ,ω,aa,hm.isL.len,hm.isL.fits,hll]
   have e:decide (10<(Ms.length:Int))=decide (10<Ms.length):=by rw[decide_eq_decide];omega
   simp only[e,Bool.false_or]
   exact aI r2 rfl
end
abbrev K0b:List RK:=[.ss [.ops [pa],.block 2 [.loop jI],.ops [bA,bT,(.i (.v 2) lT),cV],.ret]]
section
variable {h h' h0:AH} {F J F0 J0:Nat→Prop} {L:List Asn}
end
theorem JP {ms:aO} {S:StD} (hS:S.Good) {p f fuel:Int} {v:VD}:(dh ms p f v fuel S).1.Good∧(dh ms p f v fuel S).1.log.length≤S.log.length+2000∧((dh ms p f v fuel S).2.2.2=0→(dh ms p f v fuel S).2.1.code=0)∧(dh ms p f v fuel S).2.1.size≤100000:=by
 unfold dh
 have z:aK.size≤100000:=by decide
 split
 ·exact⟨hS,by simp only;omega,fun h=>by simp at h,z⟩
 ·split
  ·exact⟨hS,by simp only;omega,fun h=>by simp at h,z⟩
  ·split
   ·rename_i h1;exact⟨hS,by simp only;omega,fun h=>absurd h h1,z⟩
   ·rename_i h1 h2 h3
    have hS0:({S with left:=fuel.toNat}:StD).Good:=⟨hS.wf,hS.cells,hS.kept,hS.keptV⟩
    have hox:=fk ms fuel.toNat p (dG ms p f) v [] 1 _ hS0 (by simpa using h3) (by simp)
    generalize ofD ms fuel.toNat p (dG ms p f) v [] 1 {S with left:=fuel.toNat}=q at hox
    obtain⟨S',w,c⟩:=q
    have g:=hox.1.good
    have m:=hox.1.mu
    unfold StD.mu at m
    simp only at g m ⊢
    refine⟨⟨g.wf,g.cells,g.kept,g.keptV⟩,by omega,fun hc=> ?_,?_⟩
    ·rw[if_pos hc];exact hox.1.val hc
    ·by_cases hc:c=0
     ·rw[if_pos hc]
      have:=(fY (hox.1.val hc)).1
      simp only at this
      omega
     ·rw[if_neg hc];exact z
theorem OkB.run {c:BxC} {S:StD} (o:OkB c S) {p f fuel:Int} {v:VD} (hl:S.log.length≤890000):OkB c (dh c.ms p f v fuel S).1:=by
 obtain⟨h1,h2,_⟩:=JP (ms:=c.ms) (p:=p) (f:=f) (fuel:=fuel) (v:=v) o.st
 exact⟨o.ms,o.g,o.z,h1,by omega⟩
def uu (ms:aO):Prop:=∀ M,some M∈ms→(aU M).1=0
theorem uu.fun {ms:aO} (h:uu ms) {p:Int}:∀ x∈bQ ms p,x.fault (bQ ms p).length 0=0∧x.size≤120:=by
 intro x hx
 unfold bQ at hx ⊢
 cases hm:ms.getD p.toNat none with
 | none=>rw[hm]at hx;simp at hx
 | some M=>
   rw[hm]at hx
   have hin:some M∈ms:=by
    rw[List.getD]at hm
    cases hg:ms[p.toNat]? with
    | none=>rw[hg]at hm;simp at hm
    | some o=>
      rw[hg]at hm
      simp only[Option.getD_some]at hm
      subst hm
      exact List.mem_of_getElem? hg
   exact(yx (h M hin)).2.2 x hx
theorem uu.good {ms:aO} (h:uu ms):nO ms:=fun _ x hx=>(h.fun x hx).1
theorem uu.sized {ms:aO} (h:uu ms):kM ms:=fun p f=>by
 unfold fB
 have h1:=gu _ (dG ms p f) (Nat.le_refl _) 0
 have h2:(dG ms p f).size≤120:=by
  unfold dG
  by_cases hk:f.toNat<(bQ ms p).length
  ·have e:(bQ ms p).getD f.toNat fP=(bQ ms p)[f.toNat]:=by simp[List.getD,hk]
   rw[e]
   exact(h.fun _ (List.getElem_mem hk)).2
  ·have e:(bQ ms p).getD f.toNat fP=fP:=by simp[List.getD,List.getElem?_eq_none (Nat.le_of_not_lt hk)]
   rw[e]
   decide
 simp only[List.length_append,List.length_singleton]
 omega
theorem Ej (Ms:List (List XD)) (k:Nat):uu (dN Ms k):=by
 intro M hM
 obtain⟨j,hj⟩:=List.mem_iff_getElem?.1 hM
 have hj4:j<4:=by
  have:=(List.getElem?_eq_some_iff.1 hj).1
  rwa [df]at this
 rw[i6 hj4]at hj
 simp only[Option.some.injEq]at hj
 split at hj
 ·split at hj
  ·split at hj
   ·rename_i h1
    injection hj with hj
    rw[←hj];exact h1
   ·cases hj
  ·cases hj
 ·cases hj
def yK:List XD:=[.mk 6 1 0 [.mk 3 0 0 [],.mk 2 0 2 []]]
def msB:aO:=[none,some yK,none,none]
theorem P0:uu msB:=by
 intro M hM
 have:M=yK:=by simpa[msB]using hM
 rw[this];rfl
theorem Ks (i:Option Nat):ExL yK [[.int .i64 6,.int .i64 1,.int .i64 0,.isl i tE [[.int .i64 3,.int .i64 0,.int .i64 0,.nils],[.int .i64 2,.int .i64 0,.int .i64 2,.nils]]]]:=by
 refine⟨_,[],rfl,?_,rfl⟩
 refine⟨_,_,rfl,.inr ⟨_,rfl⟩,?_⟩
 refine⟨_,_,rfl,?_,_,_,rfl,?_,rfl⟩
 ·exact⟨_,[],rfl,.inl ⟨rfl,rfl⟩,rfl⟩
 ·exact⟨_,[],rfl,.inl ⟨rfl,rfl⟩,rfl⟩
section
variable {h:AH}
theorem St.grewA {h':AH} {L:List Asn} (s:St h (fun _=>False) (fun _=>False) h' L):ab h h':=by
 obtain⟨_,_,_,c,_⟩:=s
 exact⟨c.n,c.ids,fun k hk=>c.cell k hk (fun h=>h),fun j hj=>c.hw j hj (fun h=>h)⟩
theorem jC:aj Tryz.prog po 8 [] h=some (.inl (.bool true),h):=by
 have s0:St h (fun _=>False) (fun _=>False) h []:=St.start (bj.nil _ _ _ (fun _ h=>h) (fun _ h=>h))
 obtain⟨h1,bb,gb,wb,e1,s1⟩:=EQ s0
 have l1:=fun(h:AH)=>Rw (h:=h) 2
 have mk:=fun(h:AH) (i j:Nat)=>A0 (h:=h) (v:= .isl (some j) tE [[.int .i64 6,.int .i64 1,.int .i64 0,.isl (some i) tE [[.int .i64 3,.int .i64 0,.int .i64 0,.nils],[.int .i64 2,.int .i64 0,.int .i64 2,.nils]]]]) (.inr ⟨_,rfl⟩) (Ks (some i)) (fun h=>gk.of (.inr ⟨_,rfl⟩) (Ks (some i))) (by decide) (by decide)
 refine ag Ga rfl ?_;unfold wy
 simp only[sim,af,θ,ξ,η,reduceCtorEq,ψ,ω,aa,au,e1,l1,mk]
 have g2:ab h1 ((h1.fresh 2).fresh 1):=(ab.fresh h1 2).trans (ab.fresh _ 1)
 have s2:=(s1.grew g2).push [[.int .i64 0,.int .i64 0]]
 have c2:(((h1.fresh 2).fresh 1).push [[.int .i64 0,.int .i64 0]]).cell h1.n=some [[.int .i64 0,.int .i64 0]]:=(s2.cell 0 rfl).1
 have m2:∀ x,(((h1.fresh 2).fresh 1).push [[.int .i64 0,.int .i64 0]]).set h1.n (some x)=((h1.fresh 2).fresh 1).push x:=fun x=>aA
 obtain⟨h3,e3,s3⟩:=E6 s2 1 rfl rfl (p:=1) (by decide) (M:=yK) aL
 have s3:St h _ _ h3 (ah ((h1.fresh 2).fresh 1).n [[.int .i64 0,.int .i64 0]]::ei bb gb wb msB nN::aW gb G0::bE wb iM []::[]):=s3
 have o3:OkB ⟨bb,gb,wb,msB⟩ (i4 0):=⟨rfl,P0.good,P0.sized,L8 0,by decide⟩
 have a3:AtB ⟨bb,gb,wb,msB⟩ (ah ((h1.fresh 2).fresh 1).n [[.int .i64 0,.int .i64 0]]::ei bb gb wb msB nN::aW gb G0::bE wb iM []::[]) 1 (i4 0):=⟨rfl,rfl,rfl⟩
 obtain⟨h4,r4,e4,v4,s4⟩:=GX s3 a3 o3 (qg 5) (by decide) 1 0 9
 have o4:=o3.run (p:=1) (f:=0) (fuel:=9) (v:=qY 5) (by decide)
 have a4:=a3.put (dh msB 1 0 (qY 5) 9 (i4 0)).1
 have v4:VaA (qY 7) r4:=v4
 obtain⟨z1,z2⟩:=v4.len3
 have s5:=s4.push [r4]
 have a5:=a4.cons (ah h4.n [r4])
 obtain⟨h6,r6,e6,v6,s6⟩:=GX s5 a5 o4 aL (by decide) 0 0 9
 obtain⟨z3,z4⟩:=v6.len3
 have s7:=s6.push [r6]
 have c7:=(s7.cell 1 rfl).1
 have q1:(dh msB 1 0 (qY 5) 9 (i4 0)).2.2.1=3:=rfl
 have q2:(dh msB 1 0 (qY 5) 9 (i4 0)).2.2.2=0:=rfl
 have q3:∀ S,(dh msB 0 0 aK 9 S).2.2.2=8:=fun _=>rfl
 have mkv:ul yK= .tup [dY yK,.agg [.int .i64 0,.int .i64 0]]:=rfl
 obtain⟨w4,rfl,w4o⟩:=v4.cells3
 have e4:aj Tryz.prog po 12 [.ptr bb 0 0,.int .i64 1,.int .i64 0,.agg [.int .i64 1,.int .i64 5,.nils],.int .i64 9] h3=some (.inl (.tup [.agg [.int .i64 1,.int .i64 7,w4],.int .i64 3,.int .i64 0]),h4):=e4
 have e6:aj Tryz.prog po 12 [.ptr bb 0 0,.int .i64 0,.int .i64 0,.agg zR3,.int .i64 9] (h4.push [[.int .i64 1,.int .i64 7,w4]])=some (.inl (.tup [.agg r6,.int .i64 0,.int .i64 8]),h6):=e6
 have c7:(h6.push [r6]).cell h4.n=some [[.int .i64 1,.int .i64 7,w4]]:=c7
 have ixb:∀ q:IntKind,bL none (some (4,5)) (.ptr bb 0 2) (.int q 1)=some (.ptr bb 0 7):=fun q=>rfl
 have fb:aP 2 (.ptr bb 0 0)=some (.ptr bb 0 2):=rfl
 have e3:aZ 5 (((h1.fresh 2).fresh 1).push [[.int .i64 0,.int .i64 0]]) (.ptr bb 0 7) (.agg (.bool true::dY yK::zR3))=some h3:=e3
 obtain⟨f1,f2,f3⟩:=fj yK
 have f4:(dY yK).cells=[dY yK]:=by unfold dY;rfl
 generalize dY yK=cv at*
 rw[mkv]
 simp only[sim,af,θ,ξ,η,reduceCtorEq,ψ,ω,aa,au,c2,m2,ixb,fb,e3,f3,f4,w4o,e4,z3,z4,e6,c7,yE]
 exact aI s7.grewA rfl
end
structure Vh where
 (kind p q k h r g n:Int)
 m:List XD
structure EvD where
 (code fuel:Int)
 v:VD
structure HoD where
 ms:aO
 S:StD
 hands:List (List VD)
structure HoC where
 (hb bb gb wb:Nat)
section
variable {h h' h0:AH} {F J F0 J0:Nat→Prop} {L:List Asn} {hb bb:Nat} {hands:List (List VD)} {c:HoC} {H:HoD}
theorem YL {bb p:Nat} (q:IntKind) (hp:p<4):bL none (some (4,5)) (.ptr bb 0 2) (.int q (p:Int))=some (.ptr bb 0 (2+p*5)):=by simp[bL];omega
end
structure HmC where
 (hb nb cb:Nat)
 mods:List (AV×AV)
def oY (v:AV×AV):Option (List XD)→Asn
 | none=>zs (v.1= .nilp)
 | some M=>rO fun q:Nat×List (List AV)=>xU (v.1= .ptr q.1 0 0∧SlA tE v.2 q.2∧ExL M q.2) (ah q.1 [[v.2]])
abbrev mK (v:AV) (l:List VD):Asn:=iT v l
abbrev dI (c:HmC) (lv:AV) (kr:List (List AV)) (hv:List AV):List AV:= .ptr c.nb 0 0:: .msl c.cb 0 12 tL::lv::(c.mods.map Prod.fst++kr.flatten++hv)
def eF (c:HmC) (ms:aO) (S:StD) (hands:List (List VD)):Asn:=rO fun q:AV×List (List AV)×List AV=>
 xU (c.mods.length=ms.length∧VaL S.kept q.2.1∧q.2.2.length=hands.length)
  (bj (ah c.hb [dI c q.1 q.2.1 q.2.2]::ah c.cb (S.cells.map fun x=>[.int .i64 x])::dC tEn q.1 (S.log.map dR)::(List.zipWith oY c.mods ms++List.zipWith mK q.2.2 hands)))
section
variable {h h' h0:AH} {F J F0 J0:Nat→Prop} {L:List Asn} {c:HmC} {ms:aO} {S:StD} {hands:List (List VD)}
theorem sO (x:(eF c ms S hands).A h F J):∃ lv kr hv,c.mods.length=ms.length∧VaL S.kept kr∧hv.length=hands.length∧St h F J h (ah c.hb [dI c lv kr hv]::ah c.cb (S.cells.map fun x=>[.int .i64 x])::dC tEn lv (S.log.map dR)::(List.zipWith oY c.mods ms++List.zipWith mK hv hands)):=by
 obtain⟨⟨lv,kr,hv⟩,⟨h1,h2,h3⟩,x⟩:=x
 exact⟨lv,kr,hv,h1,h2,h3,St.start x⟩
theorem wF {lv:AV} {kr:List (List AV)} {hv:List AV} (h1:c.mods.length=ms.length) (h2:VaL S.kept kr) (h3:hv.length=hands.length) (s:St h0 F0 J0 h (ah c.hb [dI c lv kr hv]::ah c.cb (S.cells.map fun x=>[.int .i64 x])::dC tEn lv (S.log.map dR)::(List.zipWith oY c.mods ms++List.zipWith mK hv hands))):Did h0 F0 J0 h (eF c ms S hands):=
 Did.imp (fun _ _ _ x=>⟨(lv,kr,hv),⟨h1,h2,h3⟩,x⟩) s
end
def wA:List RS:=[(.ops [BF,kI]),(.ops [bk,(.i (.v 4) dT)]),(.cond (.v 4) [(.ops [iQ,bk,(.i .n (.store 3 (.v 2) (.l 1))),cV]),.ret] []),(.ops [ay,Nv,xK,kI]),.ret]
theorem Et:FnR Tryz.prog po 138 2 5 [0,1,4,5,7] wA [(.cell true 3 2),(.v 3)] true:=by refine⟨_,_,Tryz.func138,rfl,rfl,?_,?_,?_,?_,?_⟩<;>kernel_rfl
def yj:List RS:=[(.ops [qt,Id,jF]),(.ops [ay,bg,bI,ai,bg,bI,ai,eu,ai,bN,(.i .l (.call (.c (.fn 152 [] [])) [(.l 3),(.l 1)])),(.i .l (.call (.c (.fn 151 [] [])) [(.l 0),(.l 1)])),(.i (.v 7) mT)]),(.cond (.v 7) [(.ops [O0,Bi,(.i (.v 5) (.mv (.c (.int .i64 9))))]),.ret] []),(.ops [ay,bg,bI,ai,bg,bI,ai,eu,ai,(.i .l (.call (.c (.fn 153 [] [])) [(.l 2),(.l 0)])),aV,br,bY,RQ,(.ck [⟨none,false,1,(.l 10),(.l 9)⟩,⟨none,false,1,(.l 7),(.l 6)⟩,⟨none,false,1,(.l 5),(.l 4)⟩]),(.i .n (.store 6 (.v 6) (.l 1))),aV]),(.ops [(.i .l (.load true 6 (.v 6))),Bi,jF]),.ret]
theorem DW:FnR Tryz.prog po 137 3 8 [0,1,2,4,6,7,8,22] yj [(.cell true 6 4),(.v 5)] false:=by refine⟨_,_,Tryz.func137,rfl,rfl,?_,?_,?_,?_,?_⟩<;>kernel_rfl
def AT:List RS:=[(.ops [Eq,uk]),(.ops [iQ,ay,Oh,dH]),.ret]
theorem Lz:FnR Tryz.prog po 135 1 3 [0,2,3] AT [(.cell true 3 1),(.v 2)] true:=by refine⟨_,_,Tryz.func135,rfl,rfl,?_,?_,?_,?_,?_⟩<;>kernel_rfl
def aX:List RS:=[(.ops [(.i (.v 4) (.box 4 (.v 2))),uU,jB]),(.ops [(.i (.v 7) (.mv (.c (.fn 135 [] []))))]),(.ops [ay,bg,bI,ai,bg,bI,ai,dE]),(.ops [iW,(.i (.v 26) f9)]),(.block 0 [(.ops [(.i .l (.bin (.int .i64) .eql (.v 26) (.c (.int .i64 6)))),(.i (.v 27) eD)]),(.cond (.v 27) [(.ops [bm,eY,bI,ai,(.i .l QX),aV,IJ,R9,Iv,tq,NM,(.i (.v 28) Ta)]),(.cond (.v 28) [jP,.ret] []),(.ops [jU,ai,bm,eY,bX,ai,bm,Dl,bX,ai,(.i .l (.call (.c (.fn 136 [] [])) [(.l 8),(.l 4),(.l 0)])),Le,kS,jB]),.ret] [(.ops [(.i .l (.bin (.int .i64) .eql (.v 26) (.c (.int .i64 8)))),(.i (.v 29) eD)]),(.cond (.v 29) [] [(.ops [(.i .l (.bin (.int .i64) .eql (.v 26) (.c (.int .i64 11)))),(.i (.v 29) eD)])]),(.cond (.v 29) [(.ops [bm,K1,C6,Qn]),(.ops [iW,ai,(.i (.v 30) (.bin (.int .i64) .eql (.l 0) (.c (.int .i64 11))))]),(.cond (.v 30) [(.ops [bk,(.i .l (.fad 0 (.v 9))),(.i .n (.store 1 (.l 0) (.c (.int .i64 3)))),(.i .l (.fad 1 (.v 9))),fU])] []),(.ops [Bz,I5,(.i (.v 31) dT)]),(.cond (.v 31) [(.ops [fx,(.i .l (.call (.l 0) [(.c (.int .i64 3))])),br,bY,kY,dM]),.ret] []),(.ops [Bz,kS,jB]),.ret] [(.ops [(.i .l (.bin (.int .i64) .eql (.v 26) (.c (.int .i64 9)))),(.i (.v 32) eD)]),(.cond (.v 32) [] [(.ops [(.i .l (.bin (.int .i64) .eql (.v 26) (.c (.int .i64 10)))),(.i (.v 32) eD)])]),(.cond (.v 32) [(.ops [bm,eY,bI,ai,(.i (.v 33) (.bin (.int .i64) .neq (.l 0) (.c (.int .i64 2))))]),(.cond (.v 33) [jP,.ret] []),(.ops [bm,eY,dW,ai,iW,ai,(.i .l (.bin (.int .i64) .sub (.l 0) (.c (.int .i64 9)))),(.i .l (.ixa (some 35) none (.l 3) (.l 0))),cQ,kS,jB]),.ret] [(.ops [(.i .l (.bin (.int .i64) .eql (.v 26) (.c (.int .i64 12)))),(.i (.v 34) eD)]),(.cond (.v 34) [(.ops [bm,eY,bI,ai,(.i (.v 35) (.bin (.int .i64) .neq (.l 0) (.c (.int .i64 3))))]),(.cond (.v 35) [jP,.ret] []),(.ops [bm,eY,bX,ai,bk,(.i (.v 36) SD)]),(.cond (.v 36) [(.ops [fx,(.i .l (.call (.l 0) [(.c (.int .i64 10))])),br,bY,kY,dM]),.ret] []),(.ops [bm,eY,dW,ai,eY,cQ,kS,jB]),.ret] [(.ops [(.i .l (.bin (.int .i64) .eql (.v 26) (.c (.int .i64 13)))),(.i (.v 37) eD)]),(.cond (.v 37) [(.ops [bm,eY,bI,ai,(.i (.v 38) yV)]),(.cond (.v 38) [jP,.ret] []),(.ops [ay,bm,eY,cQ,(.i .l (.call (.c (.fn 137 [] [])) [(.l 3),(.l 0),(.c (.int .i64 0))])),aV,br,bY,(.i (.v 10) wG),(.i .n (.store 6 (.v 10) (.l 1))),mV]),(.ops [ni,(.i (.v 39) dT)]),(.cond (.v 39) [(.ops [fx,ni,Dh,br,bY,kY,dM]),.ret] []),(.ops [(.i .l (.fad 4 (.v 10))),ai,(.i (.v 40) Bp)]),(.cond (.v 40) [jP,.ret] []),(.ops [ay,bg,bI,ai,ay,bg,bI,ai,bg,dW,ai,bk,(.i .l (.fad 3 (.v 10))),ai,bm,eY,bX,ai,(.i .l (.build [(.int .i64 0),(.int .i64 0),(.int .i64 0),(.int .i64 0)] [(0,1),(1,1),(2,1),(3,1)] [(0,(.l 6)),(1,(.l 4)),(2,(.c (.int .i64 1))),(3,(.l 0))])),KD,(.ck [⟨none,false,1,(.l 17),(.l 16)⟩,⟨none,false,1,(.l 13),(.l 12)⟩,⟨none,false,1,(.l 10),(.l 9)⟩]),RY,(.ck [⟨none,false,1,(.l 18),(.l 17)⟩]),(.i .l (.nilc (.l 17))),dW,fU]),(.ops [ay,bg,bI,ai,bg,bX,ai,(.i .l (.fad 3 (.v 10))),ai,(.i .l (.ixa (some 2) none (.l 2) (.l 0))),ai,Le,kS,jB]),.ret] [(.ops [(.i .l (.bin (.int .i64) .eql (.v 26) (.c (.int .i64 14)))),(.i (.v 41) eD)]),(.cond (.v 41) [(.ops [bm,eY,bI,ai,(.i .l yV),aV,IJ,R9,Iv,tq,NM,(.i (.v 42) Ta)]),(.cond (.v 42) [jP,.ret] []),(.ops [ay,bm,eY,cQ,(.i .l (.call (.c (.fn 137 [] [])) [(.l 3),(.l 0),(.c (.int .i64 1))])),aV,br,bY,(.i (.v 12) wG),(.i .n (.store 6 (.v 12) (.l 1))),mU]),(.ops [sZ,(.i (.v 43) dT)]),(.cond (.v 43) [(.ops [fx,sZ,Dh,br,bY,kY,dM]),.ret] []),(.ops [(.i .l (.fad 4 (.v 12))),ai,(.i (.v 44) Bp)]),(.cond (.v 44) [jP,.ret] []),(.ops [ay,bg,bI,ai,ay,bg,bI,ai,bg,dW,ai,bk,(.i .l (.fad 3 (.v 12))),ai,bm,eY,bX,ai,(.i .l (.build [(.int .i64 0),(.int .i64 0),(.int .i64 0),(.int .i64 0)] [(0,1),(1,1),(2,1),(3,1)] [(0,(.l 6)),(1,(.l 4)),(2,(.c (.int .i64 2))),(3,(.l 0))])),KD,(.ck [⟨none,false,1,(.l 17),(.l 16)⟩,⟨none,false,1,(.l 13),(.l 12)⟩,⟨none,false,1,(.l 10),(.l 9)⟩]),RY,(.ck [⟨none,false,1,(.l 18),(.l 17)⟩]),(.i .l (.nilc (.l 17))),dW,fU]),(.ops [ay,bg,bI,ai,bg,bX,ai,(.i .l (.fad 3 (.v 12))),ai,bm,Dl,bX,ai,(.i .l (.ixa (some 2) none (.l 6) (.l 4))),pj]),(.ops [bm,Dl,cQ,kS,jB]),.ret] [(.ops [(.i .l (.bin (.int .i64) .eql (.v 26) (.c (.int .i64 15)))),(.i (.v 45) eD)]),(.cond (.v 45) [(.ops [bm,eY,bI,ai,(.i (.v 46) yV)]),(.cond (.v 46) [jP,.ret] []),(.ops [lJ,bm,eY,bX,ai,jU,ai,(.i .l (.call (.c (.fn 85 [] [])) [(.l 6),(.l 2),(.l 0),(.c (.int .i64 (-1)))])),aV,br,bY,(.i (.v 14) lT),vM]),(.ops [qx,DA,SS,br,bY,kY,dM]),.ret] [(.ops [(.i .l (.bin (.int .i64) .eql (.v 26) (.c (.int .i64 16)))),(.i (.v 47) eD)]),(.cond (.v 47) [(.ops [bm,eY,bI,ai,(.i (.v 48) yV)]),(.cond (.v 48) [jP,.ret] []),(.ops [lJ,OQ,aV,br,bY,(.i (.v 16) lT),mR]),(.ops [td,(.i (.v 49) dT)]),(.cond (.v 49) [Nd,.ret] []),(.ops [lJ,bm,eY,bX,ai,(.i .l (.mv (.v 16))),(.i .l (.call (.c (.fn 85 [] [])) [(.l 5),(.l 1),(.c (.int .i64 15)),(.l 0)])),aV,br,bY,(.i (.v 18) lT),mR]),(.ops [(.i .l (.mv (.v 18))),td,SS,aV,br,bY,(.i (.v 19) qJ),(.i .n (.store 3 (.v 19) (.l 1))),mR]),(.ops [td,(.i (.v 50) dT)]),(.cond (.v 50) [Nd,.ret] []),(.ops [(.i .l (.load true 3 (.v 19))),(.i .l (.mv (.v 16))),Qh,Qv,K1,kS,jB]),.ret] [(.ops [(.i .l (.bin (.int .i64) .eql (.v 26) (.c (.int .i64 17)))),(.i (.v 51) eD)]),(.cond (.v 51) [(.ops [bm,eY,bI,ai,(.i (.v 52) (.bin (.int .i64) .neq (.l 0) (.c (.int .i64 5))))]),(.cond (.v 52) [jP,.ret] []),(.ops [lJ,bm,eY,bX,ai,(.i .l (.call (.c (.fn 67 [] [])) [(.l 4),(.l 0)]))]),(.ops [iQ,kS,jB]),.ret] [(.ops [(.i .l (.bin (.int .i64) .eql (.v 26) (.c (.int .i64 18)))),(.i (.v 53) eD)]),(.cond (.v 53) [(.ops [ay,bk,jU,ai,bm,eY,cQ,(.i .l (.call (.c (.fn 54 [] [])) [(.l 6),(.l 5),(.l 3),(.l 0)])),br,bY,kY,dM]),.ret] [(.ops [(.i .l (.bin (.int .i64) .eql (.v 26) (.c (.int .i64 20)))),(.i (.v 54) eD)]),(.cond (.v 54) [(.ops [ay,bg,bI,ai,bk,lP,nP,Hu,cQ,(.i (.v 20) qJ),(.i .n (.store 3 (.v 20) (.l 0)))]),(.ops [ay,bg,bI,ai,bk,bm,eY,cQ,oN,nP,(.i .l (.ixa none (some (4,3)) (.l 0) (.l 5))),HR]),(.ops [(.i .l (.load true 3 (.v 20))),kS,jB]),.ret] [])])])])])])])])])])])]),(.ops [bm,eY,bI,ai,(.i (.v 55) yV)]),(.cond (.v 55) [jP,.ret] []),(.ops [ay,bm,eY,cQ,(.i .l (.call (.c (.fn 137 [] [])) [(.l 3),(.l 0),(.c (.int .i64 3))])),aV,br,bY,(.i (.v 21) wG),(.i .n (.store 6 (.v 21) (.l 1))),CV]),(.ops [Cl,(.i (.v 56) dT)]),(.cond (.v 56) [HZ,.ret] []),(.ops [Ha,ai,(.i (.v 57) BY)]),(.cond (.v 57) [jP,.ret] []),(.ops [ay,bg,bI,ai,Ha,ai,qh,xd,Dr,ai,P7,aV,(.g (.l 0) false .l (.fad 5 (.v 21))),fG,BE,B8,BU,(.g (.l 5) false .l f9),(.g (.l 6) false .l (.fad 4 (.v 21))),wM,(.g (.l 8) false .l (.nilc (.l 2))),(.g (.l 9) false .l (.fad 3 (.l 0))),(.g (.l 10) false .l Ov),(.g (.l 11) false .l f9),(.g (.l 12) false .l (.nilc (.l 0))),(.g (.l 13) false .l nV),(.g (.l 14) false .l f9),(.g (.l 15) false .l tS),(.g (.l 16) false .l (.bin (.int .i64) .geq (.l 14) (.l 0))),(.i (.v 58) (.pick (.l 17) (.c (.bool true)) (.l 0)))]),(.cond (.v 58) [(.ops [fx,(.i .l (.call (.l 0) [(.c (.int .i64 8))])),br,bY,kY,dM]),.ret] []),(.ops [ay,bg,dW,ai,(.i (.v 59) IE)]),(.cond (.v 59) [(.ops [fx,(.i .l (.call (.l 0) [(.c (.int .i64 4))])),br,bY,kY,dM]),.ret] []),(.ops [lJ,bm,eY,bX,ai,(.i .l (.call (.c (.fn 139 [] [])) [(.l 4),(.l 0)])),(.i (.v 23) eD)]),(.ops [lJ,bm,Dl,cQ,(.i .l (.mv (.v 23))),(.i .l (.call (.c (.fn 140 [] [])) [(.l 4),(.l 1),(.l 0)])),aV,br,bY,(.i (.v 24) qJ),(.i .n (.store 3 (.v 24) (.l 1))),CV]),(.ops [Cl,(.i (.v 60) dT)]),(.cond (.v 60) [HZ,.ret] []),(.ops [ay,Ha,ai,(.i .l (.fad 5 (.v 21))),ai,(.i .l (.load true 3 (.v 24))),(.i .l (.call (.c (.fn 54 [] [])) [(.l 5),(.l 3),(.l 1),(.l 0)])),aV,br,bY,(.i (.v 25) qJ),(.i .n (.store 3 (.v 25) (.l 1))),CV]),(.ops [Cl,(.i (.v 61) dT)]),(.cond (.v 61) [HZ,.ret] []),(.ops [lJ,(.i .l (.load true 3 (.v 25))),(.i .l (.mv (.v 23))),(.i .l (.call (.c (.fn 140 [] [])) [(.l 2),(.l 1),(.l 0)])),br,bY,kY,dM]),.ret]
theorem aY:FnR Tryz.prog po 119 4 62 [0,1,2,3,6,8,9,10,11,12,13,14,15,16,17,18,19,20,21,22,23,24,25,26,27,28,37,38,51,68,75,81,87,94,108,114,124,135,141,155,163,203,216,230,238,283,289,310,316,327,350,361,367,379,391,418,432,440,474,483,504,521] aX [(.cell true 3 5),(.v 6)] false:=by refine⟨_,_,Tryz.func119,rfl,rfl,?_,?_,?_,?_,?_⟩<;>kernel_rfl
def sQ:List RS:=[(.ops [(.i (.v 4) B3),uU,jB]),(.ops [ay,bg,dW,ai,(.i (.v 9) IE)]),(.cond (.v 9) [(.ops [iQ,kS,(.i (.v 6) (.mv (.c (.int .i64 4))))]),.ret] []),(.ops [ay,bg,dW,ai,oF,oN,dW,fU]),(.ops [ay,bk,ay,bg,bI,ai,bk,lP,xd,Dr,ai,bg,bI,ai,bN,oC,fC,mt,(.i .l (.call (.c (.fn 95 [] [])) [(.l 17),(.l 16),(.l 1),(.l 0),(.c .nils)])),aV,br,bY,FK,(.ck [⟨none,false,1,(.l 17),(.l 16)⟩,⟨none,false,1,(.l 12),(.l 11)⟩,⟨none,false,1,(.l 9),(.l 8)⟩,⟨none,true,4,(.l 6),(.l 5)⟩,⟨none,true,3,(.v 4),(.l 4)⟩]),sM,dE]),Rs,(.ops [IY,lJ,kY,dM]),.ret]
theorem AG:FnR Tryz.prog po 54 4 10 [0,1,2,3,7,8,9,10,11,16] sQ [(.cell true 3 5),(.v 6)] false:=by refine⟨_,_,Tryz.func54,rfl,rfl,?_,?_,?_,?_,?_⟩<;>kernel_rfl
def jm:List RS:=[(.ops [DA,qv,ai,jG,(.i (.v 31) wE)]),(.cond (.v 31) [] [(.exit 1)]),(.block 2 [(.ops [ay,bk,qv,ai,DA,oC,fC,oZ,bA,(.i .l (.call (.c (.fn 95 [] [])) [(.l 8),(.l 7),(.l 2),(.l 1),(.l 0)])),aV,br,bY,(.i (.v 16) qJ),(.ck [⟨none,false,1,(.l 10),(.l 9)⟩,⟨none,true,4,(.l 7),(.l 6)⟩,⟨none,true,3,(.v 6),(.l 5)⟩]),(.i .n (.store 3 (.v 16) (.l 1))),mR]),(.ops [td,(.i (.v 32) dT)]),(.cond (.v 32) [(.ops [iQ,td,sM,dE]),.ret] []),(.ops [qx,(.i .l (.load true 3 (.v 16))),Q5,OZ,tK])]),(.ops [DA,oF,vM])]
def gF:List RS:=[(.ops [(.i (.v 5) (.box 4 (.v 2))),(.i (.v 6) B3),FK,jW]),(.ops [ay,bg,bX,ai,(.i (.v 18) yF)]),(.cond (.v 18) [(.ops [iQ,oz,(.i (.v 8) (.mv (.c (.int .i64 12))))]),.ret] []),(.ops [ay,bg,bX,ai,gc,oN,bX,fU]),(.ops [GU,(.i (.v 19) f9)]),(.block 0 [(.ops [(.i .l (.bin (.int .i64) .eql (.v 19) (.c (.int .i64 1)))),Gx]),(.cond (.v 20) [(.ops [iQ,oz,jW]),.ret] [(.ops [(.i .l (.bin (.int .i64) .eql (.v 19) (.c (.int .i64 2)))),(.i (.v 21) eD)]),(.cond (.v 21) [(.ops [(.i .l (.fad 2 (.v 5))),ai,Le,oz,jW]),.ret] [(.ops [(.i .l (.bin (.int .i64) .eql (.v 19) (.c (.int .i64 3)))),CV]),(.cond (.v 22) [(.ops [oZ,oz,jW]),.ret] [(.ops [(.i .l (.bin (.int .i64) .eql (.v 19) (.c (.int .i64 4)))),(.i (.v 23) eD)]),(.cond (.v 23) [(.ops [bA,bA,lC,gc,IM,ai,Qo,(.i .l (.ixa (some 35) none (.l 6) (.l 0))),cQ,oz,jW]),.ret] [(.ops [(.i .l (.bin (.int .i64) .eql (.v 19) (.c (.int .i64 21)))),(.i (.v 24) eD)]),(.cond (.v 24) [(.ops [ay,bg,bI,ai,bk,lP,nP,Hu,cQ,oz,jW]),.ret] [(.ops [(.i .l (.bin (.int .i64) .eql (.v 19) (.c (.int .i64 5)))),(.i (.v 25) eD)]),(.cond (.v 25) [(.ops [ay,bk,qv,ai,II,fC,oZ,bA,D2,aV,br,bY,C6,(.ck [⟨none,false,1,(.l 9),(.l 8)⟩,⟨none,true,4,(.l 7),(.l 6)⟩,⟨none,true,3,(.v 6),(.l 5)⟩]),Ru,mp]),(.ops [mr,(.i (.v 26) dT)]),(.cond (.v 26) [(.ops [iQ,mr,sM,dE]),.ret] []),(.ops [(.i (.v 11) (.mv (.c .nils)))]),(.ops [ni,bA,Bz,Q5,(.i .l (.app false 35 (.l 3) (.l 2))),(.ck [⟨none,true,3,(.v 9),(.l 2)⟩]),(.i .l (.app false 35 (.l 0) (.l 1))),mV]),(.ops [ay,bk,qv,ai,Ja,fC,oZ,ni,D2,br,bY,sM,dE]),.ret] [(.ops [(.i .l (.bin (.int .i64) .eql (.v 19) (.c (.int .i64 7)))),(.i (.v 27) eD)]),(.cond (.v 27) [(.ops [ay,bk,qv,ai,II,fC,oZ,bA,D2,aV,br,bY,HX,(.ck [⟨none,false,1,(.l 9),(.l 8)⟩,⟨none,true,4,(.l 7),(.l 6)⟩,⟨none,true,3,(.v 6),(.l 5)⟩]),Ii,mU]),(.ops [sZ,(.i (.v 28) dT)]),(.cond (.v 28) [(.ops [iQ,sZ,sM,dE]),.ret] []),(.ops [(.i .l (.fad 0 (.v 12))),ai,(.i (.v 29) QX)]),(.cond (.v 29) [(.ops [iQ,oz,(.i (.v 8) yS)]),.ret] []),(.ops [(.i .l (.fad 1 (.v 12))),ai,(.i (.v 30) dT)]),(.cond (.v 30) [(.ops [ay,bk,qv,ai,Ja,fC,oZ,bA,D2,br,bY,sM,dE]),.ret] []),(.ops [ay,bk,qv,ai,Pv,fC,oZ,bA,D2,br,bY,sM,dE]),.ret] [])])])])])])])]),(.ops [(.i (.v 14) (.mv (.c .nils)))]),(.ops [(.i (.v 15) F9)]),(.block 1 [(.loop jm)]),(.ops [ay,bk,(.i .l (.load true 4 (.v 5))),qx,(.i .l (.call (.c (.fn 119 [] [])) [(.l 3),(.l 2),(.l 1),(.l 0)])),br,bY,sM,dE]),.ret]
theorem gY:FnR Tryz.prog po 95 5 33 [0,1,2,3,4,7,8,10,11,12,13,14,15,16,17,18,19,20,25,35,36,39,44,47,58,69,84,104,119,124,128,155,172] gF [(.cell true 3 7),(.v 8)] false:=by refine⟨_,_,Tryz.func95,rfl,rfl,?_,?_,?_,?_,?_⟩<;>kernel_rfl
def iF:List RS:=[(.ops [(.i (.v 5) B3),Dz,oR,jW]),(.ops [bA,jJ,aV,CK,OL,rZ,aV,pT,D5,rZ,aV,pT,Kf,(.i (.v 13) I6)]),(.cond (.v 13) [(.ops [iQ,BL,oR,(.i (.v 8) yh)]),.ret] []),(.ops [ay,bk,lP,xd,Dr,ai,P7,aV,yy,D5,rZ,aV,yy,CW,SG,R5,(.g (.l 4) false .l (.fad 3 (.l 0))),(.g (.l 5) false .l Ov),Cz,(.g (.l 7) false .l (.nilc (.l 0))),(.g (.l 8) false .l nV),(.g (.l 9) false .l f9),(.g (.l 10) false .l tS),(.g (.l 11) false .l (.bin (.int .i64) .geq (.l 10) (.l 0))),(.i (.v 14) (.pick (.l 12) (.c (.bool true)) (.l 0)))]),(.cond (.v 14) [(.ops [iQ,BL,oR,(.i (.v 8) (.mv (.c (.int .i64 8))))]),.ret] []),(.ops [pU,I5,nZ]),(.ops [iX,CN]),(.cond (.v 15) [(.ops [iQ,iX,(.i .n (.store 3 (.v 6) (.l 1))),oR,dE]),.ret] []),(.ops [ay,bA,(.i .l (.build [.nilp,(.int .i64 0),(.int .i64 0)] [(0,1),(1,1),(2,1)] [(0,(.l 1)),(1,(.l 0))])),(.i .l (.box 3 (.l 0))),mp]),(.ops [mr,bk,bN,pU,(.i .l (.call (.c (.fn 54 [] [])) [(.l 3),(.l 2),(.l 1),(.l 0)])),aV,br,bY,Rp,(.i .n (.store 3 (.v 11) (.l 1))),sT]),(.ops [(.i .l (.mv (.v 12))),Gk]),(.cond (.v 16) [(.ops [iQ,bA,mr,bg,bX,ai,Br,(.i .l (.mv (.v 12))),(.i .n (.store 3 (.v 6) (.l 7))),(.ck [⟨none,false,1,(.l 3),(.l 2)⟩]),Hd,dE]),.ret] []),(.ops [(.i .l (.load true 3 (.v 11))),bA,mr,bg,bX,ai,Br,(.i .n (.store 3 (.v 6) (.l 6))),(.ck [⟨none,false,1,(.l 2),(.l 1)⟩]),fV,jW]),.ret]
theorem jq:FnR Tryz.prog po 18 5 17 [0,1,2,3,4,8,10,11,12,13,14,15,16,30,56,61,77] iF [(.cell true 3 6),(.v 7),(.v 8)] false:=by refine⟨_,_,Tryz.func18,rfl,rfl,?_,?_,?_,?_,?_⟩<;>kernel_rfl
def kq:List RS:=[(.ops [qx,(.i (.v 20) Hq)]),(.cond (.v 20) [] [(.exit 2)]),(.block 3 [(.ops [bA,qx,lP,dW,zF,dW,cQ,bT,qx,lP,nP,Hu,cQ,(.i .l (.call (.c (.fn 19 [] [])) [(.l 6),(.l 0)])),(.i (.v 21) mT)]),(.cond (.v 21) [Db,.ret] [])]),(.ops [qx,oF,tK])]
def ft:List RS:=[(.ops [dQ,bN,(.i .l (.len false (some 37) (.l 0))),(.i (.v 17) n8)]),(.cond (.v 17) [] [(.exit 0)]),(.block 1 [(.ops [bN,dQ,(.i .l (.ixa (some 37) none (.l 1) (.l 0))),sI,(.i (.v 7) (.alloc [(.int .i64 0),(.int .i64 0),(.int .i64 0),(.int .i64 0),(.int .i64 0),.nils])),(.i .n (.store 6 (.v 7) (.l 0)))]),(.ops [Hc,cQ,(.i (.v 18) (.call (.c (.fn 11 [] [])) [(.l 0)]))]),(.cond (.v 18) [(.ops [vJ]),.ret] []),(.ops [bA,Iu,ai,(.i .l (.fad 1 (.v 7))),ai,Hc,cQ,(.i .l (.fad 2 (.v 7))),ai,(.i .l (.call (.c (.fn 12 [] [])) [(.l 8),(.l 6),(.l 4),(.l 2),(.l 0)])),aV,br,bY,BB,Ij,(.i .n (.store 3 (.v 8) (.l 2))),(.i (.v 9) lT),mp]),(.ops [bT,Iu,ai,(.i .l (.fad 1 (.v 7))),ai,Hc,cQ,(.i .l (.fad 2 (.v 7))),ai,(.i .l (.call (.c (.fn 18 [] [])) [(.l 8),(.l 6),(.l 4),(.l 2),(.l 0)])),aV,br,bY,BB,Rp,(.i .n (.store 3 (.v 11) (.l 2))),(.i (.v 12) lT),mU]),(.ops [GL,(.i .l (.load true 3 (.v 11))),(.i .l (.call (.c (.fn 19 [] [])) [(.l 1),(.l 0)])),lW,aV,(.g (.l 0) false .l (.mv (.v 9))),(.g (.l 1) false .l (.mv (.v 12))),O4,pV,aV,(.g (.l 0) false .l (.mv (.v 10))),(.g (.l 1) false .l (.mv (.v 13))),O4,pV,aV,CK,I8,NO,tq,H2,Gd,No,wM,(.g (.l 8) false .l (.call (.c (.fn 21 [] [])) [(.l 4)])),(.ck [⟨(some ((.l 9),false)),false,1,(.l 2),(.l 1)⟩]),(.g (.l 9) false .l (.call (.c (.fn 20 [] [])) [(.l 0),(.l 1)])),NE,Qf,aV,CK,I8,NO,tq,H2,Gd,(.g (.l 6) false .l (.fad 2 (.l 0))),wM,(.g (.l 8) false .l (.call (.c (.fn 17 [] [])) [(.l 4)])),(.ck [⟨(some ((.l 9),false)),false,1,(.l 2),(.l 1)⟩]),(.g (.l 9) false .l (.call (.c (.fn 16 [] [])) [(.l 0),(.l 1)])),NE,Qf,aV,CK,I8,Iv,tq,H2,Gd,(.g (.l 6) false .l nV),wM,(.g (.l 8) false .l (.nilc (.l 0))),(.g (.l 9) false .l nV),(.g (.l 10) false .l f9),(.g (.l 11) false .l (.call (.c (.fn 15 [] [])) [(.l 7)])),(.ck [⟨(some ((.l 12),false)),false,1,(.l 5),(.l 4)⟩,⟨(some ((.l 12),false)),false,1,(.l 2),(.l 1)⟩]),(.g (.l 12) false .l (.call (.c (.fn 14 [] [])) [(.l 0),(.l 1)])),(.g (.l 13) false .l mT),(.i (.v 19) (.pick (.l 14) (.c (.bool true)) (.l 0)))]),(.cond (.v 19) [Db,.ret] []),(.ops [(.i (.v 14) F9)]),(.block 2 [(.loop kq)])]),Iw]
def kz:List RS:=[Db,(.ops [(.i .l (.call (.c (.fn 8 [] [])) [])),(.i (.v 15) mT)]),(.cond (.v 15) [Db,.ret] []),(.ops [ay,(.i .l (.call (.c (.fn 9 [] [])) [(.l 0)])),aV,pT,(.g (.l 1) false .l (.len false (some 116) (.l 0))),(.g (.l 2) false .l (.bin (.int .i64) .gtr (.l 0) (.c (.int .i64 100)))),pV,aV,yy,(.g (.l 1) false .l (.len false (some 37) (.l 0))),(.g (.l 2) false .l Tx),(.i (.v 16) Je)]),(.cond (.v 16) [(.ops [vJ]),.ret] []),(.ops [ay,bk,(.i .l (.call (.c (.fn 10 [] [])) [(.l 1),(.l 0)])),aV,br,bY,nq,dw]),(.ops [jB]),(.block 0 [(.loop ft)]),(.ops [vJ]),.ret]
theorem mJ:FnR Tryz.prog po 4 3 22 [0,1,2,6,7,8,9,10,11,12,13,14,15,16,17,19,31,41,50,134,136,153] kz [(.v 3)] true:=by refine⟨_,_,Tryz.func4,rfl,rfl,?_,?_,?_,?_,?_⟩<;>kernel_rfl
def ki:List RS:=[(.ops [bT,bA,sS,(.i (.v 7) n8)]),(.cond (.v 7) [] [(.exit 0)]),(.block 1 [(.ops [ay,bg,bI,ai,bA,bT,Ci,ai,Q6,bX,ai,dM]),(.ops [dQ,(.i (.v 8) Bp)]),(.cond (.v 8) [(.ops [bm,dQ,FC,OS,cV])] [])]),yz]
def AB:List RS:=[yM,yd,(.ops [ay,bk,G6,dB]),oe,(.block 0 [(.loop ki)]),n9,.ret]
theorem Mj:FnR Tryz.prog po 139 2 9 [0,1,4,5,6,7,8,15,30] AB [(.v 2)] true:=by refine⟨_,_,Tryz.func139,rfl,rfl,?_,?_,?_,?_,?_⟩<;>kernel_rfl
def wz:List RS:=[(.ops [SV,zZ]),(.ops [ay,bk,G6,dB]),(.ops [bA,sS,Td]),(.cond (.v 5) [(.ops [O0,B2,zZ]),.ret] []),(.ops [ay,bg,bI,ai,bA,bA,sS,gc,(.i .l (.ixa (some 3) none (.l 3) (.l 0))),ai,(.i .l (.ixa (some 132) none (.l 6) (.l 0))),sI,B2,vJ]),.ret]
theorem GS:FnR Tryz.prog po 153 2 6 [0,1,4,5,6,12] wz [(.cell true 6 2),(.v 3)] true:=by refine⟨_,_,Tryz.func153,rfl,rfl,?_,?_,?_,?_,?_⟩<;>kernel_rfl
section
variable {h:AH} {F J:Nat→Prop} {b:Nat} {G:ae}
theorem Fj (g:IsG h F J b G) (hW:G.Wf) (W:List Int) (w:AV) (hw:IsL 3 w (bH W)) (hWl:W.length≤1000) (hWh:∀ i∈W,G.has i=true) (v1:AV):∀ (l pre:List Int) (h':AH) (v v6 t1 t2:AV),W=pre++l→ab h h'→Acc h h' 3 v (bH (cM (pre.map G.at_)))→
  cFR true [.v 2] h (aC (aj Tryz.prog po) 9 [.lp ki,.ss [],.blk 0,.ss [.ops [bm,dH],.ret]] [.ptr b 0 0,v1,.nils,v,w,.int .i64 pre.length,v6,t1,t2] [] h')=
   some (.inl (ge 3 (bH (cM (W.map G.at_)))),h):=by
 intro l
 induction l with
 | nil=>
   intro pre h' v v6 t1 t2 e hg ha
   rw[aG ki.eq_1]
   have hlt:¬ ((pre.length:Int)<(W.length:Int)):=by rw[e];simp
   rw[List.append_nil]at e
   rw[←e]at ha
   simp only[sim,af,θ,ξ,η,reduceCtorEq,ψ,ω,aa,hw.len,hw.fits,List.length_map,hlt,aI hg (tW ha (tO _))]
 | cons i l ih=>
   intro pre h' v v6 t1 t2 e hg ha
   have g':=g.grew hg
   obtain⟨nv,sv,h1,h2, -⟩:=g'.ex
   rw[aG ki.eq_1]
   have hlt:(pre.length:Int)<(W.length:Int):=by rw[e];simp;omega
   obtain⟨m,rfl,hm,hm2⟩:=ae.node_nat (hWh i (by rw[e];simp))
   have hix:=hw.ix .i64 pre.length [.int .i64 (m:Int)] (by rw[e];simp)
   have hix2:=h2.isL.ix .i64 m _ hm2
   have hat:G.at_ (m:Int)=G.nodes.getD m bM:=rfl
   have hwr:=w64 (n:=(pre.length:Int)+1) (by omega) (by omega)
   have e2:((pre++[(m:Int)]).length:Int)=(pre.length:Int)+1:=by simp
   have hfew:(bH (cM (pre.map G.at_))).length≤1000000:=by
    have:=List.length_filter_le (fun n:bw=>decide (0≤n.gate)) (pre.map G.at_)
    have h2:pre.length≤W.length:=by rw[e];simp
    simp[cM]at this ⊢;omega
   by_cases h0:0≤(G.nodes.getD m bM).gate
   ·have hgo:cM ((pre++[(m:Int)]).map G.at_)=cM (pre.map G.at_)++[(G.nodes.getD m bM).gate]:=by
     rw[List.map_append,cM,List.filter_append,List.map_append]
     simp only[List.map_cons,List.map_nil,hat,List.filter_cons,h0,decide_true,if_true,List.filter_nil]
     rfl
    obtain⟨v',h2',e1,a1,a2,a3,a4⟩:=lw ha hg (row:=[.int .i64 (G.nodes.getD m bM).gate]) rfl hfew
    have:=ih (pre++[(m:Int)]) h2' v' (.int .i64 (G.nodes.getD m bM).gate) (.bool true) (.bool true) (by simp[e]) a2 (by rw[hgo,bH,List.map_append];exact a1)
    rw[e2]at this
    simp only[sim,af,θ,ξ,η,reduceCtorEq,ψ,ω,aa,hw.len,hw.fits,List.length_map,hlt,hix,hix2,h1,eI,h0,hwr,e1,this]
   ·have hgo:cM ((pre++[(m:Int)]).map G.at_)=cM (pre.map G.at_):=by
     rw[List.map_append,cM,List.filter_append,List.map_append]
     simp only[List.map_cons,List.map_nil,hat,List.filter_cons,h0,decide_false,Bool.false_eq_true,if_false,List.filter_nil,List.append_nil]
     rfl
    have:=ih (pre++[(m:Int)]) h' v (.int .i64 (G.nodes.getD m bM).gate) (.bool true) (.bool false) (by simp[e]) hg (by rw[hgo];exact ha)
    rw[e2]at this
    simp only[sim,af,θ,ξ,η,reduceCtorEq,ψ,ω,aa,hw.len,hw.fits,List.length_map,hlt,hix,hix2,h1,eI,h0,hwr,this]
theorem TI (g:IsG h F J b G) (hW:G.Wf) (i:Int):aj Tryz.prog po 139 [.ptr b 0 0,.int .i64 i] h=some (.inl (ge 3 (bH (G.gatesC i))),h):=by
 refine ag Mj rfl ?_;unfold AB
 have hl:=iL 3 (bH (G.way i))
 have hloop:=Fj g hW (G.way i) (ge 3 (bH (G.way i))) hl (by have:=ae.way_few hW i;omega) (ae.way_has i) (.int .i64 i) (G.way i) [] h .nils .junk .junk .junk rfl (ab.refl h) (iI _ _ _)
 simp only[List.length_nil,Int.natCast_zero]at hloop
 rw[ae.way_path]at hloop
 simp only[sim,af,θ,ξ,η,reduceCtorEq,ψ,ω,aa,J9 g hW]
 exact hloop
theorem Ns (g:IsG h F J b G) (hW:G.Wf) (i:Int):aj Tryz.prog po 153 [.ptr b 0 0,.int .i64 i] h=some (.inl (.tup [.agg (aH (G.target i).1),.bool (G.target i).2]),h):=by
 refine ag GS rfl ?_;unfold wz
 have hl:=iL 3 (bH (G.way i))
 have hw:∀ (n:bw) (x:Bool),wkA (.tup [.agg (aH n),.bool x])=some (.tup [.agg (aH n),.bool x]):=fun n x=>rfl
 have hgz:=ab.push h [[AV.int .i64 0,.int .i64 0,.int .i64 0,.int .i64 0,.int .i64 0,.int .i64 0]]
 have gz:=g.grew hgz
 obtain⟨nv,sv,h1,h2, -⟩:=gz.ex
 have gp:=J9 gz hW
 have hg1:∀ n:bw,ab h (h.push [aH n]):=fun n=>ab.push _ _
 rcases List.eq_nil_or_concat (G.way i)with hz | ⟨pre,k,hz⟩
 ·have hp:G.path i=[]:=by rw[←ae.way_path,hz];rfl
  have ht:G.target i=(bM,false):=by simp[ae.target,hp]
  rw[ht]
  have hlen:(G.way i).length=0:=by rw[hz];rfl
  simp only[sim,af,θ,ξ,η,reduceCtorEq,ψ,ω,aa,gp,hl.len,hl.fits,List.length_map,hlen,Int.natCast_zero]
  exact aI (hg1 bM) (hw bM false)
 ·rw[List.concat_eq_append]at hz
  have hk:=ae.way_has i k (by rw[hz];simp)
  obtain⟨m,rfl,hm,hm2⟩:=ae.node_nat hk
  have ht:G.target i=(G.nodes.getD m bM,true):=by
   unfold ae.target
   rw[←ae.way_path,hz,List.map_append,List.map_singleton]
   have:G.at_ (m:Int)=G.nodes.getD m bM:=rfl
   rw[this]
   generalize G.nodes.getD m bM=n
   simp[List.getLastD_eq_getLast?]
  have hx:¬ (((pre.length+1:Nat):Int)=0):=by omega
  have hs:IntKind.wrap .i64 (((pre.length+1:Nat):Int) - 1)=(pre.length:Int):=by rw[w64]<;>(have:=ae.way_few hW i;rw[hz]at this;simp at this;omega)
  have hix:=hl.ix .i64 pre.length [.int .i64 (m:Int)] (by rw[hz];simp)
  have hix2:=h2.isL.ix .i64 m _ hm2
  rw[ht]
  have hlen:(G.way i).length=pre.length+1:=by rw[hz];simp
  simp only[sim,af,θ,ξ,η,reduceCtorEq,ψ,ω,aa,gp,h1,hl.len,hl.fits,List.length_map,hlen,hx,hs,hix,hix2,eI]
  exact aI (hg1 _) (hw _ true)
end
section
variable {h:AH}
theorem D0 (k x y:Int):aj Tryz.prog po 136 [.int .i64 k,.int .i64 x,.int .i64 y] h=some (.inl (.int .i64 (oI k x y)),h):=by
 refine ag Il rfl ?_;unfold yk
 unfold oI
 cases h1:decide (k=1)with
 | true=>
   have k1:k=1:=by simpa using h1
   rw[if_pos k1]
   simp only[sim,af,θ,ξ,η,reduceCtorEq,ψ,ω,aa,h1]
 | false=>
   have k1:¬ k=1:=by simpa using h1
   rw[if_neg k1]
   cases h2:decide (k=2)with
   | true=>
     have k2:k=2:=by simpa using h2
     rw[if_pos k2]
     simp only[sim,af,θ,ξ,η,reduceCtorEq,ψ,ω,aa,h1,h2]
   | false=>
     have k2:¬ k=2:=by simpa using h2
     rw[if_neg k2]
     cases h3:decide (k=3)with
     | true=>
       have k3:k=3:=by simpa using h3
       rw[if_pos k3]
       simp only[sim,af,θ,ξ,η,reduceCtorEq,ψ,ω,aa,h1,h2,h3]
     | false=>
       have k3:¬ k=3:=by simpa using h3
       rw[if_neg k3]
       cases h4:decide (k=4)with
       | true=>
         have k4:k=4:=by simpa using h4
         rw[if_pos k4]
         cases h5:decide (x<y)with
         | true=>
           rw[if_pos (by simpa using h5)]
           simp only[sim,af,θ,ξ,η,reduceCtorEq,ψ,ω,aa,h1,h2,h3,h4,h5]
         | false=>
           rw[if_neg (by simpa using h5)]
           simp only[sim,af,θ,ξ,η,reduceCtorEq,ψ,ω,aa,h1,h2,h3,h4,h5]
       | false=>
         have k4:¬ k=4:=by simpa using h4
         rw[if_neg k4]
         cases h6:decide (k=5)with
         | true=>
           have k5:k=5:=by simpa using h6
           rw[if_pos k5]
           cases h5:decide (x=y)with
           | true=>
             rw[if_pos (by simpa using h5)]
             simp only[sim,af,θ,ξ,η,reduceCtorEq,ψ,ω,aa,h1,h2,h3,h4,h5,h6]
           | false=>
             rw[if_neg (by simpa using h5)]
             simp only[sim,af,θ,ξ,η,reduceCtorEq,ψ,ω,aa,h1,h2,h3,h4,h5,h6]
         | false=>
           have k5:¬ k=5:=by simpa using h6
           rw[if_neg k5]
           simp only[sim,af,θ,ξ,η,reduceCtorEq,ψ,ω,aa,h1,h2,h3,h4,h6]
end
end Go.Proofs.YtkdbjfncchmmpaaGreat
