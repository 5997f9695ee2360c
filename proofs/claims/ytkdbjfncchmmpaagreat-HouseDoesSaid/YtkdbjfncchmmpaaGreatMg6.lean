/- What the instructions do is what the expressions say. No program here. -/
import Derived.Test.YtkdbjfncchmmpaaGreatMg5
set_option linter.unusedSimpArgs false
set_option linter.unusedVariables false
set_option maxHeartbeats 4000000
set_option maxRecDepth 1000000
open List renaming replicate→al,getElem?_eq_getElem→fr,getElem?_eq_some_iff→fQ,length_append→ff,length_singleton→gM,length_map→fa,length_nil→gf,getD→dz,length_cons→hk,getElem_mem→iX,all_eq_true→jq,zipWith→iy,getElem?_cons_zero→mY,append_assoc→k',map_cons→kT,nil_append→lQ,getElem?_append_left→o4,cons_append→m3,getElem?_eq_none→o3,length_eq_zero_iff→pR,getElem?_cons_succ→pS,append_nil→n3,mem_cons→n0,length_take→pN,all_cons→pO,getD_cons_zero→sE,mem_of_getElem?→tc,getElem?_set→tQ,map_nil→s2,map_append→uR,set_cons_zero→vR,getElem?_map→vF
open Nat renaming reduceAdd→aq,reduceSub→ar,reduceLeDiff→bW,le_refl→b4,lt_of_lt_of_le→fq,le_trans→e7,zero_add→hH,lt_or_ge→ox,add_assoc→qv,le_of_eq→qA
open Go.IntKind renaming i64→j,wrap→kK
open Option renaming some→o,none→ad,bind_some→c2,map_some→hF,getD_some→rf
open Go.Proofs.Tryz renaming prog→ap
open Bool renaming false→T,true→O,and_eq_true→hx,false_eq_true→l9,and_true→pZ
open Int renaming reduceEq→cC,eq_ofNat_of_zero_le→lE,natCast_zero→k6,toNat_natCast→mE
open Go renaming TypeId→a6,Oper→bh,Value→b1,FuncId→c',World→dy,IntKind→gx,Frame→gI,lone→e3,Code→fK
open Option.some renaming inj→kx
open Prod.mk renaming injEq→kh
open SizeOf renaming sizeOf→kL
open Ne renaming symm→lP
open Iff renaming rfl→nF
namespace Go.Proofs.YtkdbjfncchmmpaaGreat
open Go
variable{op:Int}{aI:E⊕E}{b':fJ}{G:a0}
theorem Le{ms:dj}(g:vY ms){p k:Int}(Z:k.toNat<(gS ms p).length):(gY ms p k).fault (gS ms p).length 0=0:=by
 have:gY ms p k=(gS ms p)[k.toNat]:=by simp[gY,dz,Z]
 rw[this];exact g p _ (iX Z)
def ct.after(m:ct)(S:bK)(k:Nat)(bA:List av):ct:={S:=S,top:={m.top with bO:=m.top.bO+k,stack:=m.top.stack++bA},below:=m.below}
def h5(ms:dj)(m:ct)(c:List df):Prop:=∃pre post,lz ms m.top.bI m.top.f=pre++c++post/\m.top.bO=pre.length
theorem h5.get{ms:dj}{m:ct}{x:df}{c:List df}(h:h5 ms m (x::c)):(lz ms m.top.bI m.top.f).getD m.top.bO xo=x:=by obtain⟨pre,post,e,aH⟩:=h;rw[e,aH];simp[dz]
theorem h5.at{ms:dj}{m:ct}{x:df}{c:List df}(h:h5 ms m (x::c))(a8:m.Good ms)(aF:Ck m x):xq ms m:=by refine⟨a8,?_,by rw[h.get];exact aF⟩;obtain⟨pre,post,e,aH⟩:=h;rw[e,aH];simp
theorem ct.Good.after{ms:dj}{m:ct}{S:bK}{k:Nat}{bA:List av}(h:m.Good ms)(cO:S.Good)(HE:S.a'<=m.S.a')(am:S.left+bA.length<=m.S.left)(U:∀v∈bA,v.code=0):(m.after S k bA).Good ms:=by
 have J:=h.db;have R:=h.vX;have ah:=h.a';refine⟨cO,⟨h.top.d',h.top.there,h.top.f0,h.top.f1,h.top.arg,h.top.names,λv hm=>?_,h.top.eW⟩,e7 HE ah,?_,?_,h.p2⟩
 ·rcases List.mem_append.1 hm with hm|hm
  ·exact h.top.stack v hm
  ·exact U v hm
 ·simp only[ct.after,ff];omega
 ·simp only[ct.after];omega
theorem ct.Good.next{ms:dj}{m a9:ct}(h:m.Good ms)(cO:a9.S=m.S)(ab:a9.below.length=m.below.length)(a3:a9.top.Good ms)(J:a9.top.stack.length<=m.top.stack.length)(R:a9.top.names.length+a9.S.left<=100000):a9.Good ms:=by have ah:=h.db;have aD:=h.a';have bo:=h.p2;refine⟨by rw[cO];exact h.S,a3,by rw[cO];exact aD,by rw[cO];omega,R,by omega⟩
theorem Ck.tick(m:ct):Ck m ⟨100,0,0⟩:=⟨by simp,by simp,by simp,by simp,by simp,by simp⟩
theorem h5.left{ms:dj}{m:ct}{a b:List df}(h:h5 ms m (a++b)):h5 ms m a:=by obtain⟨pre,post,e,aH⟩:=h;exact⟨pre,b++post,by rw[e];simp,aH⟩
theorem h5.right{ms:dj}{m a9:ct}{a b:List df}(h:h5 ms m (a++b))(J:a9.top.bI=m.top.bI)(R:a9.top.f=m.top.f)(ah:a9.top.bO=m.top.bO+a.length):h5 ms a9 b:=by obtain⟨pre,post,e,aH⟩:=h;exact⟨pre++a,post,by rw[J,R,e];simp,by rw[ah,aH];simp⟩
def ks(ms:dj)(m:ct)(k:Nat)(q:bK×av×Int):Prop:=
 if q.2.2≠0 then k3 ms m (.fail q.1 q.2.2)else ∀r,k3 ms (m.after q.1 k [q.2.1]) r->k3 ms m r
def A'(ms:dj)(m:ct)(k:Nat)(acc:List av)(q:bK×List av×Int):Prop:=
 if q.2.2≠0 then k3 ms m (.fail q.1 q.2.2)else ∃q2,q.2.1=acc++q2/\∀r,k3 ms (m.after q.1 k q2) r->k3 ms m r
theorem ks.no{ms:dj}{m:ct}{k:Nat}{S:bK}{c:Int}(an:c≠0)(h:k3 ms m (.fail S c)):ks ms m k (S.no c):=by unfold ks;rw[if_pos (show(S.no c).2.2≠0 from an)];exact h
theorem ks.ok{ms:dj}{m:ct}{k:Nat}{S:bK}{v:av}(h:∀r,k3 ms (m.after S k [v]) r->k3 ms m r):ks ms m k (S.ok v):=by unfold ks;rw[if_neg (by simp[bK.ok])];exact h
theorem ary{ms:dj}{m:ct}{c:List df}(ee:m.Good ms)(h:h5 ms m (⟨100,0,0⟩::c))(am:m.S.left≠0){r:qJ}(ao:k3 ms (m.after m.S.tick 1 []) r):k3 ms m r:=by refine .go (h.at ee (.tick m)) ?_ ao;unfold n';simp only[h.get,if_true];rw[if_neg am];simp[ct.after]
theorem abR{ms:dj}{m:ct}{c:List df}(ee:m.Good ms)(h:h5 ms m (⟨100,0,0⟩::c))(am:m.S.left=0):k3 ms m (.fail m.S 12):=by refine .fail (h.at ee (.tick m)) ?_;unfold n';simp only[h.get,if_true];rw[if_pos am]
theorem Gt(st q2:List av):sf (st++q2) q2.length=q2:=by unfold sf;rw[ff,Nat.add_sub_cancel];exact List.drop_left
theorem Gu(st q2:List av):uN (st++q2) q2.length=st:=by unfold uN;rw[ff,Nat.add_sub_cancel];exact List.take_left
theorem ge(st:List av)(v:av):sf (st++[v]) 1=[v]:=Gt st [v]
theorem Ba(st:List av)(v:av):uN (st++[v]) 1=st:=Gu st [v]
theorem abS(x:bx)(aw:∃cj I,x.fault cj I=0)(p:Nat):∃c,cI x p=⟨100,0,0⟩::c:=by
 obtain⟨cj,I,h⟩:=aw;obtain⟨J,R,_⟩:=Im h;rw[Cf];unfold uI;split
 ·rename_i bo;rw[bo]at R;have:x.l.length=2:=by simp[fM]at R;omega
  match am:x.l,this with
  |[a,b],_=>exact⟨_,rfl⟩
 ·split
  ·rename_i c4;rw[c4]at R;have:x.l.length=3:=by simp[fM]at R;omega
   match am:x.l,this with
   |[a,b,c],_=>exact⟨_,rfl⟩
  ·exact⟨_,rfl⟩
theorem arz{p:Int}{x y:bx}{arg:av}{names:List av}{S:bK}(J:x.op=y.op)(R:x.k=y.k)(ah:x.n=y.n):kl p x arg names S=kl p y arg names S:=by unfold kl;rw[J,R,ah]
theorem C3(m:ct)(S ca:bK)(a b:Nat)(bA q2:List av):(m.after S a bA).after ca b q2=m.after ca (a+b) (bA++q2):=by simp[ct.after,qv]
theorem arA(m:ct):m.after m.S 0 []=m:=by simp[ct.after]
theorem abT{ms:dj}{m:ct}{k n:Int}{c:List df}(h:h5 ms m (⟨op,k,n⟩::c))(aF:op<100):n' ms m=n9 ms (m.after m.S 1 []) ⟨op,k,n⟩:=by unfold n';simp only[h.get];rw[if_neg (by omega),if_neg (by omega),if_neg (by omega),if_neg (by omega),if_neg (by omega),if_neg (by omega)];simp[ct.after]
def abU(ms:dj)(N:Nat):Prop:=∀(x:bx) (m:ct),m.Good ms->m.S.left<=N->x.fault (gS ms m.top.bI).length m.top.names.length=0->h5 ms m (cI x m.top.bO)->ks ms m (cI x m.top.bO).length (ea ms N m.top.bI x m.top.arg m.top.names (m.below.length+1) m.S)
theorem ct.Good.zr{ms:dj}{m:ct}{ca:bK}{v:av}{c:Int}{k:Nat}(h:m.Good ms)(lG:Iv m.S (ca,v,c))(an:c=0):(m.after ca k [v]).Good ms:=by have J:=lG.1.a';have R:=lG.2 an;have ah:=lG.1.val an;simp only at J R ah;exact h.after lG.1.cG (by omega) (by simp only[gM];omega) (λw hw=>by simp only[List.mem_singleton]at hw;rw[hw];exact ah)
theorem abV{ms:dj}{N:Nat}(aZ:abU ms N):∀(l:List bx) (m:ct) (acc:List av),m.Good ms->m.S.left<=N->(∀y∈l,y.fault (gS ms m.top.bI).length m.top.names.length=0)->h5 ms m (lf (l.map cI) m.top.bO)->A' ms m (lf (l.map cI) m.top.bO).length acc (jB (λy S=>ea ms N m.top.bI y m.top.arg m.top.names (m.below.length+1) S) l m.S acc)
 |[],m,acc,_,_,_,_=>by unfold A';simp only[jB,s2,lf,gf];rw[if_neg (by simp)];exact⟨[],by simp,λr ao=>by rw[arA]at ao;exact ao⟩
 |x::l,m,acc,ee,am,bl,aC=>by
   simp only[kT,lf]at aC ⊢;have J:=aZ x m ee am (bl x (by simp)) aC.left;have hle:=Cj ms N m.top.bI x m.top.arg m.top.names (m.below.length+1) m.S;have lG:=oa ms N m.top.bI x m.top.arg m.top.names (m.below.length+1) m.S ee.S ee.top.arg ee.top.names;rw[jB];rcases aW:ea ms N m.top.bI x m.top.arg m.top.names (m.below.length+1) m.S with⟨ca,v,c⟩;rw[aW]at J hle lG;simp only at J hle ⊢;unfold ks at J;simp only at J;by_cases an:c=0
   ·rw[if_neg (by simpa using an)]at J ⊢;have R:=abV aZ l (m.after ca (cI x m.top.bO).length [v]) (acc++[v]) (ee.zr lG an) (e7 hle am) (λy bE=>bl y (by simp[bE])) (aC.right rfl rfl rfl);have au:(m.after ca (cI x m.top.bO).length [v]).top.bO=m.top.bO+(cI x m.top.bO).length:=rfl;rw[au]at R;change A' ms _ _ _ (jB (λy S=>ea ms N m.top.bI y m.top.arg m.top.names (m.below.length+1) S) l ca (acc++[v]))at R;generalize jB (λy S=>ea ms N m.top.bI y m.top.arg m.top.names (m.below.length+1) S) l ca (acc++[v])=q at R ⊢;unfold A' at R ⊢;by_cases aN:q.2.2=0
    ·rw[if_neg (by simpa using aN)]at R ⊢;obtain⟨q2,e,R⟩:=R;refine⟨v::q2,by rw[e];simp,λr ao=>J r (R r ?_)⟩;rw[C3,List.singleton_append];rw[ff]at ao;exact ao
    ·rw[if_pos aN]at R ⊢;exact J _ R
   ·rw[if_pos an]at J ⊢;unfold A';simp only;rw[if_pos an];exact J
theorem Rm(h:0<=fM op):1<=op/\op<=21:=by
 unfold fM at h;split at h
 ·omega
 ·split at h
  ·omega
  ·split at h
   ·omega
   ·split at h
    ·omega
    ·omega
theorem Rn{ms:dj}{m:ct}{c:List df}(h:h5 ms m (⟨105,0,0⟩::c)){st:List av}{v:av}(U:m.top.stack=st++[v]):n' ms m=(let q:=if m.top.asked then m5 m.top.eW v m.S else m.S.ok v
  if q.2.2≠0 then .fail q.1 q.2.2 else match m.below.getLast? with
   |none=>.over q.1 q.2.1
   |some t=>.go ⟨q.1,{t with stack:=t.stack++[q.2.1]},m.below.dropLast⟩):=by
 unfold n';simp only[h.get];rw[if_neg (by omega),if_neg (by omega),if_neg (by omega),if_neg (by omega),if_neg (by omega),if_pos trivial];unfold ct.back;simp only[U,ge,sE];rfl
theorem abW{α:Type}(l:List α)(a:α):(l++[a]).getLast? =o a/\(l++[a]).dropLast=l:=⟨by simp,by simp⟩
theorem abX{cj k n I:Int}(h:ro cj 18 k n I=0):0<=k/\k<cj:=by
 unfold ro at h;split at h
 ·cases h
 ·rw[if_neg (by decide),if_neg (by decide),if_neg (by decide),if_pos rfl]at h;split at h
  ·cases h
  ·omega
theorem abY{cj k n I:Int}(h:ro cj 4 k n I=0):0<=k/\k<I:=by
 unfold ro at h;split at h
 ·cases h
 ·rw[if_pos rfl]at h;split at h
  ·cases h
  ·omega
theorem abZ{ms:dj}{v x:av}{aI:Nat}{S ca:bK}{q:tm}(h:hO ms v x aI S=(ca,q,0)):q.func.toNat<(gS ms q.bI).length/\aI≠20:=by
 unfold hO at h;simp only at h;split at h
 ·simp only[kh]at h;omega
 ·split at h
  ·simp only[kh]at h;omega
  ·split at h
   ·simp only[kh]at h;omega
   ·split at h
    ·simp only[kh]at h;omega
    ·rename_i aE;split at h
     ·simp only[kh]at h;omega
     ·rename_i bl;simp only[kh]at h;obtain⟨_,rfl,_⟩:=h;exact⟨by
       simp only;have:¬((gS ms (S.G.target v.n).1.bI).length:Int)<=(S.G.target v.n).1.func:=λe=>aE (.inr (.inl e));have ah:¬(S.G.target v.n).1.func<0:=λe=>aE (.inr (.inr e));omega,bl⟩
theorem Ro{f:bx->bK->bK×av×Int}:∀(l:List bx) (S:bK) (acc:List av),(jB f l S acc).2.2=0->(jB f l S acc).2.1.length=acc.length+l.length
 |[],S,acc,_=>rfl
 |x::l,S,acc,h=>by
   rw[jB]at h ⊢;rcases aW:f x S with⟨ca,v,c⟩;rw[aW]at h;simp only at h ⊢;by_cases an:c=0
   ·rw[if_neg (by simpa using an)]at h ⊢;rw[Ro l ca _ h];simp;omega
   ·rw[if_pos an]at h;exact absurd h an
theorem zs{p:Int}{x:bx}{arg:av}{names:List av}{S:bK}:kl p x arg names S=ad↔¬(x.op=1\/x.op=2\/x.op=3\/x.op=4\/x.op=21):=by
 unfold kl;constructor
 ·intro h
  repeat' split at h
  all_goals first
   |omega
   |cases h
 ·intro h;rw[if_neg (by omega),if_neg (by omega),if_neg (by omega),if_neg (by omega),if_neg (by omega)]
theorem Gv{α:Type}{l:List α}(h:l.length=2):∃a b,l=[a,b]:=by
 match l,h with
 |[a,b],_=>exact⟨a,b,rfl⟩
theorem ab0{α:Type}{l:List α}(h:l.length=3):∃a b c,l=[a,b,c]:=by
 match l,h with
 |[a,b,c],_=>exact⟨a,b,c,rfl⟩
theorem ab1{ms:dj}(a8:vY ms):∀N:Nat,abU ms N
 |0,x,m,ee,am,bl,aC=>by
   obtain⟨c,an⟩:=abS x ⟨_,_,bl⟩ m.top.bO;have aj:m.S.left=0:=by omega
   rw[an]at aC;exact ks.no (by decide) (abR ee aC aj)
 |N+1,x,m,ee,am,bl,aC=>by
   have aZ:=ab1 a8 N;obtain⟨c,an⟩:=abS x ⟨_,_,bl⟩ m.top.bO;have Rp:=aC;rw[an]at Rp;obtain⟨f1,f2,f3,f4,f5⟩:=Im bl;rw[ea];by_cases aj:m.S.left=0
   ·rw[if_pos aj];exact ks.no (by decide) (abR ee Rp aj)
   rw[if_neg aj];have zt:∀r,k3 ms (m.after m.S.tick 1 []) r->k3 ms m r:=λr ao=>ary ee Rp aj ao;have C4:(m.after m.S.tick 1 []).Good ms:=ee.after ee.S.tick (by have:=Ey aj;omega) (by have:=Ey aj;simp only[gf];omega) (by simp);have pQ:m.S.tick.left<=N:=by show m.S.left - 1<=N;omega
   have h0:=Rm f1;by_cases g':x.op=5
   ·have sH:kl m.top.bI x m.top.arg m.top.names m.S.tick=ad:=zs.2 (by omega);rw[sH];simp only;rw[if_pos g'];have hlen:x.l.length=2:=by rw[g']at f2;simp[fM]at f2;omega
    obtain⟨a,b,rj⟩:=Gv hlen;rw[g']at f5;rw[rj]at f5 ⊢;obtain⟨xQ,f6⟩:=Ab f5;obtain⟨bk,_⟩:=Ab f6;rw[if_neg (by omega)]at xQ;rw[if_pos (by omega)]at bk;simp only[sE,List.getD_cons_succ];have qf:cI x m.top.bO=⟨100,0,0⟩::(cI a (m.top.bO+1)++(⟨101,0,0⟩::(cI b (m.top.bO+1+(cI a (m.top.bO+1)).length+1)++[⟨102,0,0⟩]))):=by rw[Cf,rj];unfold uI;rw[if_pos g'];rfl
    rw[qf]at aC ⊢;have mw:h5 ms (m.after m.S.tick 1 []) _:=h5.right (a:=[⟨100,0,0⟩]) aC rfl rfl rfl;have J:=aZ a (m.after m.S.tick 1 []) C4 pQ xQ mw.left;have hle:=Cj ms N m.top.bI a m.top.arg m.top.names (m.below.length+1) m.S.tick;have lG:=oa ms N m.top.bI a m.top.arg m.top.names (m.below.length+1) m.S.tick ee.S.tick ee.top.arg ee.top.names;change ks ms _ _ (ea ms N m.top.bI a m.top.arg m.top.names (m.below.length+1) m.S.tick)at J;rcases aW:ea ms N m.top.bI a m.top.arg m.top.names (m.below.length+1) m.S.tick with⟨ca,v,c⟩;rw[aW]at J hle lG;simp only at J hle ⊢;unfold ks at J;simp only at J;by_cases an:c=0
    ·rw[if_neg (by simpa using an)]at J ⊢;rw[C3]at J;generalize fg:cI a (m.top.bO+1)=A at*;have zh:cI a (m.after m.S.tick 1 []).top.bO=A:=fg;rw[zh]at J;have iZ:h5 ms (m.after ca (1+A.length) ([]++[v])) (⟨101,0,0⟩::(cI b (m.top.bO+1+A.length+1)++[⟨102,0,0⟩])):=h5.right mw rfl rfl (by simp only[ct.after];omega);have xR:(m.after ca (1+A.length) ([]++[v])).Good ms:=by have:=ct.Good.zr (k:=A.length) C4 lG an;rwa [C3]at this
     have mr:=iZ.at xR ⟨by simp,by simp[ct.after],by simp,by simp,by simp,by simp⟩;have arB:v.code=0:=lG.1.val an;have bf:ca.left<m.S.tick.left:=lG.2 an;have KT:=(Ey aj).2;have q3:(⟨ca,{m.top with bO:=m.top.bO+1+A.length+1,names:=m.top.names++[v]},m.below⟩:ct).Good ms:=by
      refine xR.next rfl rfl ⟨ee.top.d',ee.top.there,ee.top.f0,ee.top.f1,ee.top.arg,λw hw=>?_,ee.top.stack,ee.top.eW⟩ (by simp[ct.after]) ?_
      ·rcases List.mem_append.1 hw with hw|hw
       ·exact ee.top.names w hw
       ·simp only[List.mem_singleton]at hw;rw[hw];exact arB
      ·have:=ee.vX;simp only[ff,gM];omega
     have au:n' ms (m.after ca (1+A.length) ([]++[v]))= .go {S:=ca,top:={m.top with bO:=m.top.bO+1+A.length+1,names:=m.top.names++[v]},below:=m.below}:=by unfold n';simp only[iZ.get];rw[if_neg (by decide),if_pos trivial];simp only[ct.after,lQ,ge,Ba,sE];rw[qv m.top.bO 1]
     have qP:h5 ms {S:=ca,top:={m.top with bO:=m.top.bO+1+A.length+1,names:=m.top.names++[v]},below:=m.below} (cI b (m.top.bO+1+A.length+1)++[⟨102,0,0⟩]):=h5.right (a:=[⟨101,0,0⟩]) iZ rfl rfl (by simp only[ct.after,gM];omega);have R:=aZ b {S:=ca,top:={m.top with bO:=m.top.bO+1+A.length+1,names:=m.top.names++[v]},below:=m.below} q3 (e7 hle pQ) (by simp only[ff,gM];exact bk) qP.left;simp only at R;have rN:=oa ms N m.top.bI b m.top.arg (m.top.names++[v]) (m.below.length+1) ca q3.S q3.top.arg q3.top.names;generalize ea ms N m.top.bI b m.top.arg (m.top.names++[v]) (m.below.length+1) ca=q at R rN ⊢;unfold ks at R ⊢;by_cases aN:q.2.2=0
     ·rw[if_neg (by simpa using aN)]at R ⊢;intro r ao;refine zt r (J r (.go mr au (R r ?_)));generalize cI b (m.top.bO+1+A.length+1)=B at*;have Gw:h5 ms (ct.after {S:=ca,top:={m.top with bO:=m.top.bO+1+A.length+1,names:=m.top.names++[v]},below:=m.below} q.1 B.length [q.2.1]) [⟨102,0,0⟩]:=h5.right qP rfl rfl rfl;refine .go (Gw.at (ct.Good.zr (c:=q.2.2) q3 rN aN) ⟨by simp,by simp,by simp[ct.after],by simp,by simp,by simp⟩) (a9:=m.after q.1 (⟨100,0,0⟩::(A++(⟨101,0,0⟩::(B++[⟨102,0,0⟩]))):List df).length [q.2.1]) ?_ ao;unfold n';simp only[Gw.get];rw[if_neg (by decide),if_neg (by decide),if_pos trivial];simp only[ct.after,List.dropLast_concat,hk,ff,gf];congr 3;omega
     ·rw[if_pos aN]at R ⊢;exact zt _ (J _ (.go mr au R))
    ·rw[if_pos an]at J ⊢;exact ks.no an (zt _ J)
   by_cases nt:x.op=7
   ·have sH:kl m.top.bI x m.top.arg m.top.names m.S.tick=ad:=zs.2 (by omega);rw[sH];simp only;rw[if_neg g',if_pos nt];have hlen:x.l.length=3:=by rw[nt]at f2;simp[fM]at f2;omega
    obtain⟨a,b,ej,rj⟩:=ab0 hlen;have wl:=jp g' f5;have xQ:=wl a (by rw[rj];simp);have bk:=wl b (by rw[rj];simp);have arC:=wl ej (by rw[rj];simp);rw[rj];simp only[sE,List.getD_cons_succ];have qf:cI x m.top.bO=⟨100,0,0⟩::(cI a (m.top.bO+1)++(⟨103,((p1 (cI a) (cI b) m.top.bO:Nat):Int),0⟩::(cI b (m.top.bO+1+(cI a (m.top.bO+1)).length+1)++ (⟨104,((p1 (cI a) (cI b) m.top.bO+(cI ej (p1 (cI a) (cI b) m.top.bO)).length:Nat):Int),0⟩::cI ej (p1 (cI a) (cI b) m.top.bO))))):=by rw[Cf,rj];unfold uI;rw[if_neg g',if_pos nt];rfl
    have Xm:p1 (cI a) (cI b) m.top.bO=m.top.bO+1+(cI a (m.top.bO+1)).length+1+(cI b (m.top.bO+1+(cI a (m.top.bO+1)).length+1)).length+1:=rfl;rw[qf]at aC ⊢;have mw:h5 ms (m.after m.S.tick 1 []) _:=h5.right (a:=[⟨100,0,0⟩]) aC rfl rfl rfl;have J:=aZ a (m.after m.S.tick 1 []) C4 pQ xQ mw.left;have hle:=Cj ms N m.top.bI a m.top.arg m.top.names (m.below.length+1) m.S.tick;have lG:=oa ms N m.top.bI a m.top.arg m.top.names (m.below.length+1) m.S.tick ee.S.tick ee.top.arg ee.top.names;change ks ms _ _ (ea ms N m.top.bI a m.top.arg m.top.names (m.below.length+1) m.S.tick)at J;rcases aW:ea ms N m.top.bI a m.top.arg m.top.names (m.below.length+1) m.S.tick with⟨ca,v,c⟩;rw[aW]at J hle lG;simp only at J hle ⊢;unfold ks at J;simp only at J;by_cases an:c=0
    ·rw[if_neg (by simpa using an)]at J ⊢;rw[C3]at J;have zh:cI a (m.after m.S.tick 1 []).top.bO=cI a (m.top.bO+1):=rfl;rw[zh]at J;have KS:∀q,q=m.top.bO+1+(cI a (m.top.bO+1)).length+1->cI b q=cI b (m.top.bO+1+(cI a (m.top.bO+1)).length+1):=λq e=>by rw[e]
     have ab2:∀q,q=p1 (cI a) (cI b) m.top.bO->cI ej q=cI ej (p1 (cI a) (cI b) m.top.bO):=λq e=>by rw[e]
     generalize cI ej (p1 (cI a) (cI b) m.top.bO)=C at*;generalize p1 (cI a) (cI b) m.top.bO=el at*;generalize cI b (m.top.bO+1+(cI a (m.top.bO+1)).length+1)=B at*;generalize cI a (m.top.bO+1)=A at*;have iZ:h5 ms (m.after ca (1+A.length) ([]++[v])) (⟨103,(el:Int),0⟩::(B++(⟨104,((el+C.length:Nat):Int),0⟩::C))):=h5.right mw rfl rfl (by simp only[ct.after];omega);have Z:(⟨100,0,0⟩::(A++(⟨103,(el:Int),0⟩::(B++(⟨104,((el+C.length:Nat):Int),0⟩::C)))):List df).length=1+A.length+1+B.length+1+C.length:=by simp only[hk,ff];omega
     rw[Z];have q4:∀r,k3 ms (m.after ca (1+A.length) ([]++[v])) r->k3 ms m r:=λr ao=>zt r (J r ao);have xR:(m.after ca (1+A.length) ([]++[v])).Good ms:=by have:=ct.Good.zr (k:=A.length) C4 lG an;rwa [C3]at this
     have mr:=iZ.at xR ⟨by simp,by simp[ct.after],by simp,by simp,by simp,by simp⟩;have q3:∀bO,(⟨ca,{m.top with bO:=bO},m.below⟩:ct).Good ms:=λbO=>by refine xR.next rfl rfl ⟨ee.top.d',ee.top.there,ee.top.f0,ee.top.f1,ee.top.arg,ee.top.names,ee.top.stack,ee.top.eW⟩ (by simp[ct.after]) xR.vX
     by_cases U:v.kind=1
     ·rw[if_neg (by simpa using U)];have au:n' ms (m.after ca (1+A.length) ([]++[v]))= .go {S:=ca,top:={m.top with bO:=if v.n=0 then el else m.top.bO+(1+A.length)+1},below:=m.below}:=by unfold n';simp only[iZ.get];rw[if_neg (by decide),if_neg (by decide),if_neg (by decide),if_pos trivial];simp only[ct.after,lQ,ge,Ba,sE,mE];rw[if_neg (by simpa using U)]
      by_cases aE:v.n=0
      ·rw[if_neg (by simpa using aE)];rw[if_pos aE]at au;have qP:h5 ms {S:=ca,top:={m.top with bO:=el},below:=m.below} C:=by have:=h5.right (a9:={S:=ca,top:={m.top with bO:=el},below:=m.below}) (a:=⟨100,0,0⟩::(A++(⟨103,(el:Int),0⟩::(B++[⟨104,((el+C.length:Nat):Int),0⟩])))) (b:=C) (ms:=ms) (m:=m) (by simpa using aC) rfl rfl (by simp only[hk,ff,gf];omega);exact this
       have R:=aZ ej {S:=ca,top:={m.top with bO:=el},below:=m.below} (q3 _) (e7 hle pQ) arC (by simp only;rw[ab2 el rfl];exact qP);simp only at R;rw[ab2 el rfl]at R;generalize ea ms N m.top.bI ej m.top.arg m.top.names (m.below.length+1) ca=q at R ⊢;unfold ks at R ⊢;by_cases aN:q.2.2=0
       ·rw[if_neg (by simpa using aN)]at R ⊢;intro r ao;refine q4 r (.go mr au (R r ?_));have:(ct.after {S:=ca,top:={m.top with bO:=el},below:=m.below} q.1 C.length [q.2.1])=m.after q.1 (1+A.length+1+B.length+1+C.length) [q.2.1]:=by simp only[ct.after];rw[show el+C.length=m.top.bO+(1+A.length+1+B.length+1+C.length) by omega]
        rw[this];exact ao
       ·rw[if_pos aN]at R ⊢;exact q4 _ (.go mr au R)
      ·rw[if_pos aE];rw[if_neg aE]at au;have qP:h5 ms {S:=ca,top:={m.top with bO:=m.top.bO+(1+A.length)+1},below:=m.below} (B++(⟨104,((el+C.length:Nat):Int),0⟩::C)):=h5.right (a:=[⟨103,(el:Int),0⟩]) iZ rfl rfl (by simp only[ct.after,gM]);have q':cI b (m.top.bO+(1+A.length)+1)=B:=KS _ (by omega);have R:=aZ b {S:=ca,top:={m.top with bO:=m.top.bO+(1+A.length)+1},below:=m.below} (q3 _) (e7 hle pQ) bk (by simp only;rw[q'];exact qP.left);simp only at R;rw[q']at R;have rN:=oa ms N m.top.bI b m.top.arg m.top.names (m.below.length+1) ca xR.S ee.top.arg ee.top.names;generalize ea ms N m.top.bI b m.top.arg m.top.names (m.below.length+1) ca=q at R rN ⊢;unfold ks at R ⊢;by_cases aN:q.2.2=0
       ·rw[if_neg (by simpa using aN)]at R ⊢;intro r ao;refine q4 r (.go mr au (R r ?_));have Gw:h5 ms (ct.after {S:=ca,top:={m.top with bO:=m.top.bO+(1+A.length)+1},below:=m.below} q.1 B.length [q.2.1]) (⟨104,((el+C.length:Nat):Int),0⟩::C):=h5.right qP rfl rfl rfl;refine .go (Gw.at (ct.Good.zr (c:=q.2.2) (q3 _) rN aN) ⟨by simp,by simp,by simp,λ_=>Int.natCast_nonneg _,by simp,by simp⟩) (a9:=m.after q.1 (1+A.length+1+B.length+1+C.length) [q.2.1]) ?_ ao;unfold n';simp only[Gw.get];rw[if_neg (by decide),if_neg (by decide),if_neg (by decide),if_neg (by decide),if_pos trivial];simp only[ct.after,mE];congr 3;omega
       ·rw[if_pos aN]at R ⊢;exact q4 _ (.go mr au R)
     ·rw[if_pos U];refine ks.no (by decide) (q4 _ (.fail mr ?_));unfold n';simp only[iZ.get];rw[if_neg (by decide),if_neg (by decide),if_neg (by decide),if_pos trivial];simp only[ct.after,lQ,ge,sE];rw[if_pos U]
    ·rw[if_pos an]at J ⊢;exact ks.no an (zt _ J)
   have qf:cI x m.top.bO=⟨100,0,0⟩::(lf (x.l.map cI) (m.top.bO+1)++[⟨x.op,x.k,x.n⟩]):=by rw[Cf];unfold uI;rw[if_neg g',if_neg nt]
   rw[qf]at aC ⊢;have mw:h5 ms (m.after m.S.tick 1 []) (lf (x.l.map cI) (m.top.bO+1)++[⟨x.op,x.k,x.n⟩]):=h5.right (a:=[⟨100,0,0⟩]) aC rfl rfl rfl;cases sH:kl m.top.bI x m.top.arg m.top.names m.S.tick with
   |some v=>
     have aN:x.l=[]:=by
      have:x.op=1\/x.op=2\/x.op=3\/x.op=4\/x.op=21:=by
       rcases Classical.em (x.op=1\/x.op=2\/x.op=3\/x.op=4\/x.op=21)with h|h
       ·exact h
       ·rw[zs.2 h]at sH;cases sH
      have aH:fM x.op=0:=by rw[fM,if_pos this]
      rw[aH]at f2;exact pR.1 (by omega)
     rw[aN]at mw ⊢;simp only[s2,lf,lQ]at mw ⊢;refine ks.ok λr ao=>zt r (.go (mw.at C4 ⟨.inl ⟨h0.1,h0.2,g',nt⟩,λh=>by simp only at h;omega,λh=>by simp only at h;omega,λh=>by simp only at h;omega,λ_=>by simp only;rw[aN]at f2;rw[<-f2];simp,λh=>?_⟩) ?_ ao)
     ·simp only at h;rw[h]at f3;exact abY f3
     rw[abT mw (by omega)];unfold n9;have Rq:kl m.top.bI (.mk x.op x.k x.n []) m.top.arg m.top.names m.S.tick=o v:=by rw[<-sH];exact arz rfl rfl rfl
     simp only[ct.after,n3,Rq,ct.push,hk,gf]
   |none=>
     simp only;rw[if_neg g',if_neg nt];have c5:=abV aZ x.l (m.after m.S.tick 1 []) [] C4 pQ (jp g' f5) mw.left;have hlen:=Ro (f:=λy S=>ea ms N m.top.bI y m.top.arg m.top.names (m.below.length+1) S) x.l m.S.tick [];have hle:=NW (f:=λy S=>ea ms N m.top.bI y m.top.arg m.top.names (m.below.length+1) S) (λy S=>Cj ms N m.top.bI y m.top.arg m.top.names (m.below.length+1) S) x.l m.S.tick [];have ab3:=Iw (f:=λy S=>ea ms N m.top.bI y m.top.arg m.top.names (m.below.length+1) S) (λy S h=>oa ms N m.top.bI y m.top.arg m.top.names (m.below.length+1) S h ee.top.arg ee.top.names) x.l m.S.tick [] ee.S.tick (by simp);change A' ms _ _ _ (jB (λy S=>ea ms N m.top.bI y m.top.arg m.top.names (m.below.length+1) S) x.l m.S.tick [])at c5;rcases aW:jB (λy S=>ea ms N m.top.bI y m.top.arg m.top.names (m.below.length+1) S) x.l m.S.tick []with⟨ca,l,c⟩;rw[aW]at c5 hlen hle ab3;obtain⟨Gx,arD,arE,ab4⟩:=ab3;simp only[gf,hH]at c5 hlen hle ⊢;unfold A' at c5;simp only at c5;by_cases an:c=0
     ·subst an;rw[if_neg (by simp)]at c5 ⊢;obtain⟨q2,ab5,c5⟩:=c5;rw[lQ]at ab5;subst ab5;have hlen:=hlen rfl;change ∀r,k3 ms ((m.after m.S.tick 1 []).after ca (lf (x.l.map cI) (m.top.bO+1)).length l) r->_ at c5;rw[C3,lQ]at c5;generalize lf (x.l.map cI) (m.top.bO+1)=A at*;have q4:∀r,k3 ms (m.after ca (1+A.length) l) r->k3 ms m r:=λr ao=>zt r (c5 r ao);have iZ:h5 ms (m.after ca (1+A.length) l) [⟨x.op,x.k,x.n⟩]:=h5.right mw rfl rfl (by simp only[ct.after];omega);have Rq:kl m.top.bI (.mk x.op x.k x.n []) m.top.arg m.top.names ca=ad:=zs.2 (zs.1 sH);have jx:=abT iZ (by omega);have Rr:=Ey aj;have tE:=(ab4 rfl).1;have oj:=(ab4 rfl).2;simp only[gf,Nat.add_zero]at Gx arD arE tE oj;have xR:(m.after ca (1+A.length) l).Good ms:=ee.after Gx (by omega) (by omega) tE;have mr:xq ms (m.after ca (1+A.length) l):=iZ.at xR ⟨.inl ⟨h0.1,h0.2,g',nt⟩,λh=>by simp only at h;omega,λh=>by simp only at h;omega,λh=>by simp only at h;omega,λ_=>by
       simp only[ct.after,ff];omega,λh=>by
       have:=zs.1 sH;simp only at h;omega⟩
      have arF:(fM x.op).toNat=l.length:=by omega
      have Z:(⟨100,0,0⟩::(A++[⟨x.op,x.k,x.n⟩]):List df).length=1+A.length+1:=by simp only[hk,ff,gf];omega
      rw[Z];clear Z qf aC mw;unfold n9 at jx;simp only[ct.after,n3,Rq]at jx;by_cases tV:x.op=18
      ·rw[if_pos tV]at jx ⊢;rw[tV]at f2 f3;obtain⟨hy,cE⟩:=abX f3;obtain⟨v,rfl⟩:∃v,l=[v]:=by
        have:l.length=1:=by rw[hlen];simp[fM]at f2;omega
        match l,this with
        |[v],_=>exact⟨v,rfl⟩
       rw[ge,Ba]at jx;simp only[sE]at jx ⊢;unfold ct.call at jx;simp only at jx;by_cases kr:m.below.length+1=20
       ·rw[if_pos kr]at jx ⊢;exact ks.no (by decide) (q4 _ (.fail mr jx))
       ·rw[if_neg kr]at jx ⊢;have A2:=Le a8 (p:=m.top.bI) (k:=x.k) (by omega);have q3:(⟨ca,⟨m.top.bI,x.k,0,v,[],[],T,[]⟩,m.below++[{m.top with bO:=m.top.bO+(1+A.length)+1}]⟩:ct).Good ms:=by
         have da:=ee.db;have ch:=ee.p2;have eF:=ee.a';refine⟨Gx,⟨ee.top.d',ee.top.there,hy,by simp only;omega,tE v (by simp),by simp,by simp,by simp⟩,by simp only;omega,?_,?_,?_⟩
         ·simp only[gf];omega
         ·simp only[gf];omega
         ·simp only[ff,gM];omega
        have rN:=oa ms N m.top.bI (gY ms m.top.bI x.k) v [] (m.below.length+1+1) ca Gx (tE v (by simp)) (by simp);have ah:=aZ (gY ms m.top.bI x.k) ⟨ca,⟨m.top.bI,x.k,0,v,[],[],T,[]⟩,m.below++[{m.top with bO:=m.top.bO+(1+A.length)+1}]⟩ q3 (e7 hle pQ) A2 ⟨[],[⟨105,0,0⟩],by simp[lz],rfl⟩;simp only[ff,gM]at ah;generalize ea ms N m.top.bI (gY ms m.top.bI x.k) v [] (m.below.length+1+1) ca=q at ah rN ⊢;unfold ks at ah ⊢;by_cases aN:q.2.2=0
        ·rw[if_neg (by simpa using aN)]at ah ⊢;intro r ao;refine q4 r (.go mr jx (ah r (.go (h5.at (c:=[]) (x:=⟨105,0,0⟩) ⟨cI (gY ms m.top.bI x.k) 0,[],by simp[lz,ct.after],by simp[ct.after]⟩ (ct.Good.zr (c:=q.2.2) q3 rN aN) ⟨by simp,by simp[ct.after],by simp,by simp,by simp,by simp⟩) ?_ ao)));rw[Rn (c:=[]) (st:=[]) (v:=q.2.1) ⟨cI (gY ms m.top.bI x.k) 0,[],by simp[lz,ct.after],by simp[ct.after]⟩ rfl];simp only[ct.after,bK.ok,abW];rw[if_neg (by simp)];simp only[l9,if_false];simp[qv]
        ·rw[if_pos aN]at ah ⊢;exact q4 _ (.go mr jx ah)
      by_cases wm:x.op=19
      ·rw[if_neg tV,if_pos wm]at jx ⊢;rw[wm]at f2;obtain⟨v,w,rfl⟩:∃v w,l=[v,w]:=Gv (by rw[hlen];simp[fM]at f2;omega);have Rr:=Gt m.top.stack [v,w];have ds:=Gu m.top.stack [v,w];simp only[hk,gf,hH,aq]at Rr ds;rw[Rr,ds]at jx;simp only[sE,List.getD_cons_succ]at jx ⊢;have EY:=NV ms v w (m.below.length+1) ca;have Rs:=Vn (ms:=ms) (v:=v) (x:=w) (aI:=m.below.length+1) Gx;rcases ab6:hO ms v w (m.below.length+1) ca with⟨lY,q,c⟩;rw[ab6]at jx EY Rs;simp only at jx EY Rs ⊢;by_cases an:c=0
       ·subst an;rw[if_neg (by simp)]at jx ⊢;obtain⟨arG,kr⟩:=abZ ab6;unfold ct.call at jx;simp only at jx;rw[if_neg kr]at jx;have A2:=Le a8 (p:=q.bI) (k:=q.func) arG;obtain⟨cg,dw,fW⟩:=Rs;obtain⟨qE,jE,jW,kt,Rt,ab7⟩:=fW rfl;have q3:(⟨lY,⟨q.bI,q.func,0,q.arg,[],[],O,q.eW⟩,m.below++[{m.top with bO:=m.top.bO+(1+A.length)+1}]⟩:ct).Good ms:=by
         have da:=ee.db;have ch:=ee.p2;have eF:=ee.a';refine⟨cg,⟨kt,jW,Rt,ab7,qE,by simp,by simp,jE⟩,by simp only;omega,?_,?_,?_⟩
         ·simp only[gf];omega
         ·simp only[gf];omega
         ·simp only[ff,gM];omega
        have rN:=oa ms N q.bI (gY ms q.bI q.func) q.arg [] (m.below.length+1+1) lY cg qE (by simp);have ah:=aZ (gY ms q.bI q.func) ⟨lY,⟨q.bI,q.func,0,q.arg,[],[],O,q.eW⟩,m.below++[{m.top with bO:=m.top.bO+(1+A.length)+1}]⟩ q3 (e7 (qA EY) (e7 hle pQ)) A2 ⟨[],[⟨105,0,0⟩],by simp[lz],rfl⟩;simp only[ff,gM]at ah;rcases yI:ea ms N q.bI (gY ms q.bI q.func) q.arg [] (m.below.length+1+1) lY with⟨n8,hB,cd⟩;rw[yI]at ah rN;unfold ks at ah;simp only at ah ⊢;by_cases aN:cd=0
        ·rw[if_neg (by simpa using aN)]at ah ⊢;have wo:=Rn (ms:=ms) (m:=ct.after ⟨lY,⟨q.bI,q.func,0,q.arg,[],[],O,q.eW⟩,m.below++[{m.top with bO:=m.top.bO+(1+A.length)+1}]⟩ n8 (cI (gY ms q.bI q.func) 0).length [hB]) (c:=[]) (st:=[]) (v:=hB) ⟨cI (gY ms q.bI q.func) 0,[],by simp[lz,ct.after],by simp[ct.after]⟩ rfl;have Lf:xq ms (ct.after ⟨lY,⟨q.bI,q.func,0,q.arg,[],[],O,q.eW⟩,m.below++[{m.top with bO:=m.top.bO+(1+A.length)+1}]⟩ n8 (cI (gY ms q.bI q.func) 0).length [hB]):=h5.at (c:=[]) (x:=⟨105,0,0⟩) ⟨cI (gY ms q.bI q.func) 0,[],by simp[lz,ct.after],by simp[ct.after]⟩ (q3.zr rN aN) ⟨by simp,by simp[ct.after],by simp,by simp,by simp,by simp⟩;simp only[ct.after,if_true,abW]at wo;generalize m5 q.eW hB n8=fv at wo ⊢;unfold ks;by_cases ab8:fv.2.2=0
         ·rw[if_neg (by simpa using ab8)]at wo ⊢;intro r ao;refine q4 r (.go mr jx (ah r (.go Lf wo ?_)));simpa[ct.after,qv]using ao
         ·rw[if_pos ab8]at wo ⊢;exact q4 _ (.go mr jx (ah _ (.fail Lf wo)))
        ·rw[if_pos aN]at ah ⊢;exact ks.no aN (q4 _ (.go mr jx ah))
       ·rw[if_pos an]at jx ⊢;exact ks.no an (q4 _ (.fail mr jx))
      rw[if_neg tV,if_neg wm]at jx ⊢;rw[arF,Gt,Gu]at jx;generalize gZ m.top.bI x.op x.k x.n l ca=q at jx ⊢;unfold ks;unfold ct.done ct.push at jx;by_cases aN:q.2.2=0
      ·rw[if_neg (by simpa using aN)]at jx ⊢;intro r ao;refine q4 r (.go mr jx ?_);simpa only[ct.after,qv]using ao
      ·rw[if_pos aN]at jx ⊢;exact q4 _ (.fail mr jx)
     ·rw[if_pos an]at c5 ⊢;exact ks.no an (zt _ c5)
theorem pE{α:Type}{l:List α}(h:1<=l.length):∃st v,l=st++[v]:=⟨l.dropLast,l.getLast (λe=>by rw[e]at h;simp at h),(List.dropLast_concat_getLast _).symm⟩
theorem Lg{α:Type}{l:List α}(h:2<=l.length):∃st v w,l=st++[v]++[w]:=by obtain⟨st,w,rfl⟩:=pE (l:=l) (by omega);obtain⟨st,v,rfl⟩:=pE (l:=st) (by simp at h;omega);exact⟨st,v,w,rfl⟩
section
variable{h F aj:ag}{ae ai aJ aG:Nat->Prop}{L:List b6}{c:ix}{i:Nat}{n:fJ}
abbrev fJ.m(n:fJ):ct:=⟨n.S,n.top,n.below⟩
theorem eZ.qh{st:List av}{q:bK×av×Int}(r:eZ aj aJ aG c L i (n.db st) q aI F):Gk aj aJ aG c L i (ct.done n.m st q) aI F:=by
 unfold ct.done;rcases r with⟨e,b,s⟩|⟨e,b,b',ax,s⟩
 ·rw[if_neg (by simpa using e)];exact⟨b,n.bk,s⟩
 ·rw[if_pos e];exact⟨b,b',ax,s⟩
theorem oV.qh{st:List av}{q:bK×tm×Int}(r:oV aj aJ aG c L i (n.db st) q aI F)(m6:q.2.2=0->n.below.length+1≠20):Gk aj aJ aG c L i (match q with
   |(ca,q,k)=>if k≠0 then .fail ca k else ct.call n.m ca st q.bI q.func q.arg O q.eW) aI F:=by
 obtain⟨ca,q,k⟩:=q;rcases r with⟨e,b,bk,s⟩|⟨e,b,b',ax,s⟩
 ·simp only at e s m6 ⊢;rw[if_neg (by simpa using e)];unfold ct.call;rw[if_neg (m6 e)];exact⟨b,bk,s⟩
 ·simp only at e b ax s ⊢;rw[if_pos e];exact⟨b,b',ax,s⟩
theorem Rl.qh{st:List av}{k:Int}{v:av}(r:Rl aj aJ aG c L i (n.db st) k v aI F):Gk aj aJ aG c L i (ct.call n.m n.S st n.top.bI k v T []) aI F:=by
 unfold ct.call;rcases r with⟨e,b,bk,s⟩|⟨e,b,s⟩
 ·rw[if_neg e];exact⟨b,bk,s⟩
 ·rw[if_pos e];exact⟨b,n.db st,rfl,s⟩
theorem ab9{ms:dj}{m:ct}{k x:Int}(h:¬(op=1\/op=2\/op=3\/op=4\/op=21))(hh:op≠18)(ru:op≠19):n9 ms m ⟨op,k,x⟩=m.done (uN m.top.stack (fM op).toNat) (gZ m.top.bI op k x (sf m.top.stack (fM op).toNat) m.S):=by unfold n9;have am:kl m.top.bI (.mk op k x []) m.top.arg m.top.names m.S=ad:=zs.2 h;simp only;rw[am];simp only;rw[if_neg hh,if_neg ru]
theorem arH{ms:dj}{m:ct}{k x:Int}{v:av}(h:kl m.top.bI (.mk op k x []) m.top.arg m.top.names m.S=o v):n9 ms m ⟨op,k,x⟩=m.push m.S m.top.stack v:=by unfold n9;simp only;rw[h]
theorem xS{ms:dj}{st:List av}{v:av}{k x:Int}(bS:n.top.stack=st++[v])(h:¬(op=1\/op=2\/op=3\/op=4\/op=21))(hh:op≠18)(ru:op≠19)(aH:(fM op).toNat=1):n9 ms n.m ⟨op,k,x⟩=ct.done n.m st (gZ n.top.bI op k x [v] n.S):=by rw[ab9 h hh ru,aH];simp only[bS,ge,Ba]
theorem Ru{ms:dj}{st:List av}{v w:av}{k x:Int}(bS:n.top.stack=st++[v]++[w])(h:¬(op=1\/op=2\/op=3\/op=4\/op=21))(hh:op≠18)(ru:op≠19)(aH:(fM op).toNat=2):n9 ms n.m ⟨op,k,x⟩=ct.done n.m st (gZ n.top.bI op k x [v,w] n.S):=by
 rw[ab9 h hh ru,aH];have e:n.top.stack=st++[v,w]:=by rw[bS,k'];rfl
 have t:=Gt st [v,w];have d:=Gu st [v,w];simp only[hk,gf,hH,aq]at t d;simp only[e,t,d]
theorem Gy{ms:dj}{v:av}{k x:Int}{J:ag}(am:kl n.top.bI (.mk op k x []) n.top.arg n.top.names n.S=o v)(s:aK aj aJ aG J (put c L i (n.db (n.top.stack++[v])))):Gk aj aJ aG c L i (n9 ms n.m ⟨op,k,x⟩) (.inl (.bU [])) J:=by rw[arH am];exact⟨rfl,n.bk,s⟩
theorem Rv{st:List av}{l:List av}(a8:n.top.Good c.ms)(bS:n.top.stack=st++l){v:av}(U:v∈l):v.code=0:=a8.stack v (by rw[bS];exact List.mem_append_right _ U)
theorem arI(s:aK aj aJ aG h L)(a:eY c L i n)(I:ie c n)(a8:n.top.Good c.ms){x:df}(aw:Ck n.m x)(h0:x.op<100):∃aI F,aQ ap W nd [.ptr c.bw 0 0,.agg (gn x)] h=o (aI,F)/\Gk aj aJ aG c L i (n9 c.ms n.m x) aI F:=by
 obtain⟨op,k,m⟩:=x;simp only at h0;have Z:=aw.kind;have oB:=aw.parts h0;have ab':=aw.var;simp only at Z oB ab';obtain⟨P,fT⟩:=lE a8.d';have pD:P<4:=by
  have:=a8.there;rw[fT]at this;have this:(c.ms.getD P ad).isSome=O:=this;rcases ox P 4 with h|h
  ·exact h
  ·rw[dz,o3 (by rw[I.ms];exact h)]at this;cases this
 have Lh:n.top.bI.toNat=P:=by rw[fT];rfl
 have w3:op=1\/op=2\/op=3\/op=4\/op=6\/op=8\/op=9\/op=10\/op=11\/op=12\/op=13\/op=14\/op=15\/op=16\/op=17\/op=18\/op=19\/op=20\/op=21:=by omega
 rcases w3 with rfl|rfl|rfl|rfl|rfl|rfl|rfl|rfl|rfl|rfl|rfl|rfl|rfl|rfl|rfl|rfl|rfl|rfl|rfl
 ·obtain⟨F,e,ew⟩:=aq8 s a I k m;exact⟨_,F,e,Gy rfl ew⟩
 ·obtain⟨F,e,ew⟩:=aq9 s a I k m;exact⟨_,F,e,Gy rfl ew⟩
 ·obtain⟨F,e,ew⟩:=aq' s a I k m;exact⟨_,F,e,Gy rfl ew⟩
 ·obtain⟨F,e,ew⟩:=ara s a I (ab' rfl) m;exact⟨_,F,e,Gy rfl ew⟩
 ·obtain⟨st,v,w,bS⟩:=Lg (l:=n.top.stack) oB;obtain⟨aI,F,e,r⟩:=aq3 s a I bS k m;exact⟨aI,F,e,by rw[Ru bS (by decide) (by decide) (by decide) rfl];exact r.qh⟩
 ·obtain⟨st,v,w,bS⟩:=Lg (l:=n.top.stack) oB;obtain⟨aI,F,e,r⟩:=aq4 s a I bS k m;exact⟨aI,F,e,by rw[Ru bS (by decide) (by decide) (by decide) rfl];exact r.qh⟩
 ·obtain⟨st,v,bS⟩:=pE (l:=n.top.stack) oB;obtain⟨aI,F,e,r⟩:=WP s a I bS (Rv a8 bS (by simp)) k m;exact⟨aI,F,e,by rw[xS bS (by decide) (by decide) (by decide) rfl];exact r.qh⟩
 ·obtain⟨st,v,bS⟩:=pE (l:=n.top.stack) oB;obtain⟨aI,F,e,r⟩:=aq5 s a I bS (Rv a8 bS (by simp)) k m;exact⟨aI,F,e,by rw[xS bS (by decide) (by decide) (by decide) rfl];exact r.qh⟩
 ·obtain⟨st,v,bS⟩:=pE (l:=n.top.stack) oB;obtain⟨aI,F,e,r⟩:=aq6 s a I bS k m;exact⟨aI,F,e,by rw[xS bS (by decide) (by decide) (by decide) rfl];exact r.qh⟩
 ·obtain⟨st,v,bS⟩:=pE (l:=n.top.stack) oB;obtain⟨aI,F,e,r⟩:=aq7 s a I bS (Rv a8 bS (by simp)) k m;exact⟨aI,F,e,by rw[xS bS (by decide) (by decide) (by decide) rfl];exact r.qh⟩
 ·obtain⟨st,v,bS⟩:=pE (l:=n.top.stack) oB;obtain⟨aI,F,e,r⟩:=arl s a I bS k m;exact⟨aI,F,e,by rw[xS bS (by decide) (by decide) (by decide) rfl];exact r.qh⟩
 ·obtain⟨st,v,w,bS⟩:=Lg (l:=n.top.stack) oB;obtain⟨aI,F,e,r⟩:=aro s a I bS k m;exact⟨aI,F,e,by rw[Ru bS (by decide) (by decide) (by decide) rfl];exact r.qh⟩
 ·obtain⟨st,v,bS⟩:=pE (l:=n.top.stack) oB;obtain⟨aI,F,e,r⟩:=arq s a I bS k m;exact⟨aI,F,e,by rw[xS bS (by decide) (by decide) (by decide) rfl];exact r.qh⟩
 ·obtain⟨st,v,bS⟩:=pE (l:=n.top.stack) oB;obtain⟨aI,F,e,r⟩:=arn s a I bS k m;exact⟨aI,F,e,by rw[xS bS (by decide) (by decide) (by decide) rfl];exact r.qh⟩
 ·obtain⟨st,v,bS⟩:=pE (l:=n.top.stack) oB;obtain⟨aI,F,e,r⟩:=ars s a I bS k m;exact⟨aI,F,e,by rw[xS bS (by decide) (by decide) (by decide) rfl];exact r.qh⟩
 ·obtain⟨st,v,bS⟩:=pE (l:=n.top.stack) oB;obtain⟨aI,F,e,r⟩:=art s a I bS k m;refine⟨aI,F,e,?_⟩;have:n9 c.ms n.m ⟨18,k,m⟩=ct.call n.m n.S st n.top.bI k v T []:=by unfold n9;simp only;have am:kl n.top.bI (.mk 18 k m []) n.top.arg n.top.names n.S=ad:=rfl;rw[am];simp only[bS,ge,Ba,if_true];rfl
  rw[this];exact r.qh
 ·obtain⟨st,v,w,bS⟩:=Lg (l:=n.top.stack) oB;obtain⟨aI,F,e,r⟩:=arp s a I bS k m;refine⟨aI,F,e,?_⟩;have ax:n.top.stack=st++[v,w]:=by rw[bS,k'];rfl
  have t:=Gt st [v,w];have d:=Gu st [v,w];simp only[hk,gf,hH,aq]at t d;have:n9 c.ms n.m ⟨19,k,m⟩=match hO c.ms v w (n.below.length+1) n.S with
   |(ca,q,k)=>if k≠0 then .fail ca k else ct.call n.m ca st q.bI q.func q.arg O q.eW:=by
   unfold n9;simp only;have am:kl n.top.bI (.mk 19 k m []) n.top.arg n.top.names n.S=ad:=rfl;rw[am];simp only[ax,t,d,if_true];rw[if_neg (by decide)];rfl
  rw[this];refine oV.qh (q:=hO c.ms v w (n.below.length+1) n.S) r λaj=>?_;exact(abZ (ca:=(hO c.ms v w (n.below.length+1) n.S).1) (q:=(hO c.ms v w (n.below.length+1) n.S).2.1) (by rw[<-aj])).2
 ·obtain⟨st,v,bS⟩:=pE (l:=n.top.stack) oB;obtain⟨aI,F,e,r⟩:=arw s a I bS fT pD k m;exact⟨aI,F,e,by rw[xS bS (by decide) (by decide) (by decide) rfl];exact r.qh⟩
 ·obtain⟨F,e,ew⟩:=arx s a I fT pD k m;refine⟨_,F,e,Gy ?_ ew⟩;show o (n.S.kept.getD n.top.bI.toNat cv)=_;rw[Lh]
end
def oW(c:ix)(L:List b6)(i bk:Nat)(S:bK):List b6:=(put c L i ⟨bk,S,[],⟨0,0,0,cv,[],[],T,[]⟩⟩).set i (A3 c.bw c.aO bk (S.left:Int))
theorem arJ{c:ix}{L:List b6}{i:Nat}{n:fJ}{X:b6}(cO:n.S=b'.S):(put c L i n).set i X=(put c L i b').set i X:=by
 refine A4 λD=>?_;rw[tQ,tQ,wn,wn,tP,tP,cO];by_cases aa:i=D
 ·rw[if_pos aa,if_pos aa]
 ·rw[if_neg aa,if_neg aa,if_neg (show ¬D=i from lP aa),if_neg (show ¬D=i from lP aa)]
theorem aca{c:ix}{L:List b6}{i bk:Nat}{n:fJ}:(put c L i n).set i (A3 c.bw c.aO bk (n.S.left:Int))=oW c L i bk n.S:=arJ rfl
def xT(aj:ag)(aJ aG:Nat->Prop)(c:ix)(L:List b6)(i:Nat)(q:qJ)(aI:E⊕E)(F:ag):Prop:=match q with
 |.go m=>∃r,aI= .inl (.bU [.agg r,.bool T])/\(r.length=3/\r.all E.one=O)/\∃hu,aK aj aJ aG F (put c L i ⟨hu,m.S,m.below,m.top⟩)
 |.fail S k=>aI= .inr (.iface mi (.int j k))/\∃b':fJ,b'.S=S/\aK aj aJ aG F (put c L i b')
 |.over S v=>∃r,aI= .inl (.bU [.agg r,.bool O])/\bT v r/\∃hu,aK aj aJ aG F (oW c L i hu S)
abbrev arK:c':=92
section
variable{h F aj:ag}{ae ai aJ aG:Nat->Prop}{L:List b6}{c:ix}{i:Nat}{n:fJ}
theorem arL{α:Type}(l:List α):l=[]\/∃a t,l=a++[t]:=by
 rcases Nat.eq_zero_or_pos l.length with h|h
 ·exact .inl (pR.1 h)
 ·obtain⟨a,t,e⟩:=pE (l:=l) h;exact .inr ⟨a,t,e⟩
theorem acb{fg:ag}{C5:List b6}{wq:Nat}{lH:fJ}(s:aK aj aJ aG fg C5)(a:eY c C5 wq lH)(ab:lH.below.length<=100)(a3:∀t,lH.below.getLast? =o t->t.stack.length<=100000){v:av}{r:List E}(U:bT v r):(∀k:Nat,cS T k fg (.ptr c.bw 0 1)=o (.bn lH.bk 0 (lH.below.length+1) fH))/\((lH.below=[]/\∃J,eQ 1 fg (.ptr c.bw 0 1) (.bn lH.bk 0 lH.below.length fH)=o J/\(∀k:Nat,cS T k J (.ptr c.bw 0 1)=o (.bn lH.bk 0 lH.below.length fH))/\aK aj aJ aG J (C5.set wq (A3 c.bw c.aO lH.bk (lH.S.left:Int))))\/(∃ot t,lH.below=ot++[t]/\∃J R,eQ 1 fg (.ptr c.bw 0 1) (.bn lH.bk 0 lH.below.length fH)=o J/\(∀k:Nat,cS T k J (.ptr c.bw 0 1)=o (.bn lH.bk 0 lH.below.length fH))/\aK aj aJ aG J (put c C5 wq ⟨lH.bk,lH.S,ot,t⟩)/\aQ ap W oO [.ptr c.bw 0 0,.agg r] J=o (.inl (.bU []),R)/\aK aj aJ aG R (put c C5 wq ⟨lH.bk,lH.S,ot,{t with stack:=t.stack++[v]}⟩))):=by
 obtain⟨_,_,_,_,a4⟩:=pB s wq a.m;refine⟨λk=>by rw[fL,a4.m];rfl,?_⟩;rcases arL lH.below with aE|⟨ot,t,aE⟩
 ·refine .inl ⟨aE,?_⟩;have C6:=a.m;rw[aE]at C6 ⊢;obtain⟨J,au,bg⟩:=apX s wq C6;refine⟨J,au,λk=>?_,bg⟩;have am:wq<C5.length:=(fQ.1 C6).1;have an:=(bg.cell wq (by rw[List.getElem?_set_self am];rfl)).1;rw[fL,an];rfl
 ·refine .inr ⟨ot,t,aE,?_⟩;have C6:=a.m;rw[aE]at C6;obtain⟨J,au,bg⟩:=apV s wq C6;rw[a.wg]at bg;have aR:=a.put ⟨lH.bk,lH.S,ot,t⟩;obtain⟨_,_,_,_,Ge⟩:=pB bg wq aR.m;have hlen:lH.below.length=ot.length+1:=by rw[aE];simp
  obtain⟨R,ax,aV⟩:=pC bg aR (by simp only;omega) (a3 t (by rw[aE];simp)) U;rw[hT]at aV;exact⟨J,R,by rw[hlen];exact au,λk=>by rw[fL,Ge.m,hlen];rfl,bg,ax,aV⟩
theorem acd{eW:List Int}{v:av}{S:bK}:m5 eW v S=if(fC eW S.G v).2.2≠0 then({S with G:=(fC eW S.G v).1}:bK).no (fC eW S.G v).2.2 else({S with G:=(fC eW S.G v).1}:bK).ok (fC eW S.G v).2.1:=rfl
theorem Rw{st:List av}{v:av}(bS:n.top.stack=st++[v]):ct.back n.m=(if(if n.top.asked then m5 n.top.eW v n.S else n.S.ok v).2.2≠0 then .fail (if n.top.asked then m5 n.top.eW v n.S else n.S.ok v).1 (if n.top.asked then m5 n.top.eW v n.S else n.S.ok v).2.2 else match n.below.getLast? with
  |none=>.over (if n.top.asked then m5 n.top.eW v n.S else n.S.ok v).1 (if n.top.asked then m5 n.top.eW v n.S else n.S.ok v).2.1
  |some t=>.go ⟨(if n.top.asked then m5 n.top.eW v n.S else n.S.ok v).1,{t with stack:=t.stack++[(if n.top.asked then m5 n.top.eW v n.S else n.S.ok v).2.1]},n.below.dropLast⟩):=by
 unfold ct.back;simp only[bS,ge,sE];rfl
theorem arM(s:aK aj aJ aG h L)(a:eY c L i n)(I:ie c n){st:List av}{v:av}(bS:n.top.stack=st++[v])(UO:n.top.eW.length<=80)(k7:∀a9,ct.back n.m= .go a9->a9.top.stack.length<=100000):∃aI F,aQ ap W arK [.ptr c.bw 0 0] h=o (aI,F)/\xT aj aJ aG c L i (ct.back n.m) aI F:=by
 have HU:n.top.asked=T->∀t,n.below.getLast? =o t->t.stack.length<=100000:=λZ t a3=>by rw[Rw bS,Z]at k7;simp only[l9,if_false]at k7;rw[if_neg (by simp[bK.ok]),a3]at k7;have:=k7 _ rfl;simp at this;omega
 have CK:n.top.asked=O->(fC n.top.eW n.S.G v).2.2=0->∀t,n.below.getLast? =o t->t.stack.length<=100000:=λZ an t a3=>by
  have ab:(m5 n.top.eW v n.S).2.2=0:=by rw[acd,if_neg (λe=>e an)];rfl
  rw[Rw bS,Z]at k7;simp only[if_true]at k7;rw[if_neg (λe=>e ab),a3]at k7;have:=k7 _ rfl;simp at this;omega
 clear k7;rw[Rw bS];have gG:=s.push [aU];have ja:=a.cons (aY h.n [aU]);obtain⟨R,r,ax,U,aV,a5⟩:=tS gG ja I bS;have dW:=I.rM bS;rw[eC]at aV a5;obtain⟨bt,bq⟩:=U.cD;have br:=aV.push [r];have bp:=a5.cons (aY R.n [r]);obtain⟨dM,_⟩:=nL br bp I.below;obtain⟨gu,dm,aL,g,a4⟩:=pB br (i+1+1) bp.m;have Gz:=a4.all;have k7:g.one=O:=by have:=a4.a8;rcases this with⟨_,rfl⟩|⟨id,rfl⟩<;>rfl
 have arN:fo 3 g (gl n.top.eW):=a4.a8;have i5:=oP (n.db st).top gu dm aL g a4.aX.cD.1;have xU:=Kq (f:=(n.db st).top) (g:=g) a4.aX.cD a4.dm.1 a4.aL.1 k7;generalize g7 (n.db st).top gu dm aL g=row at*;have bz:aK aj aJ aG _ (aY (R.n+1) [row]::aY R.n [r]::aY h.n [aU]::put c L i (n.db st)):=br.push [row];have cA:=bp.cons (aY (R.n+1) [row]);have aP:=(bz.cell 0 rfl).1;have bu:=(bz.cell 1 rfl).1;have qT:kK j (((n.below.length+1:Nat):Int) - 1)=(n.below.length:Int):=Ar (by omega) (by have:=I.below;omega) (by have:=I.below;omega);have sx:=Qj (e:=fH) (b:=n.bk) (n:=n.below.length+1) (m:=n.below.length) (by omega);have GA:b5 1 (.ptr c.bw 0 0)=o (.ptr c.bw 0 1):=rfl;have hf:row[8]? =o (.bool n.top.asked):=i5.2.2.2.2.1;have GB:row[9]? =o g:=i5.2.2.2.1;have C7:row.length=10:=i5.2.1;clear i5;cases xV:n.top.asked with
 |false=>
   rw[xV]at hf;simp only[l9,if_false,bK.ok];rw[if_neg (by simp)];obtain⟨i6,oD⟩:=acb bz cA I.below (HU xV) U;rcases oD with⟨oC,J,cU,nr,b8⟩|⟨ot,t,re,J,bo,cU,nr,b8,lB,cM⟩
   ·have oC:n.below=[]:=oC;rw[oC];have zq:aK aj aJ aG J (aY (R.n+1) [row]::aY R.n [r]::aY h.n [aU]::(put c L i (n.db st)).set i (A3 c.bw c.aO n.bk (n.S.left:Int))):=b8;have d1:=(zq.cell 1 rfl).1;have d2:=(zq.cell 2 rfl).1;have cM:=zq.set 2 rfl [r];have d3:=(cM.cell 2 rfl).1;refine⟨.inl (.bU [.agg r,.bool O]),_,?_,r,rfl,U,n.bk,by have:=cM.drop.drop.drop;rw[<-aca (n:=n.db st)];exact this⟩;have je:decide ((n.below.length:Int)=0)=O:=decide_eq_true (by rw[oC];rfl);refine a2 Ft rfl ?_;unfold CH;simp only[ak,aq,ar,al,bJ,ax,bt,bq,dM,Gz,C7,xU,aP,hf,GA,i6,qT,sx,cU,nr,je,d1,d2]
   ·have re:n.below=ot++[t]:=re;have hlen:n.below.length=ot.length+1:=by rw[re];simp
    have D5:n.below.getLast? =o t:=by rw[re];simp
    have Rx:n.below.dropLast=ot:=by rw[re];simp
    rw[D5,Rx];have zq:aK aj aJ aG J (aY (R.n+1) [row]::aY R.n [r]::aY h.n [aU]::put c (put c L i (n.db st)) i ⟨n.bk,n.S,ot,t⟩):=b8;have Ry:aK aj aJ aG bo (aY (R.n+1) [row]::aY R.n [r]::aY h.n [aU]::put c (put c L i (n.db st)) i ⟨n.bk,n.S,ot,{t with stack:=t.stack++[v]}⟩):=cM;have d1:=(zq.cell 1 rfl).1;have d2:=(Ry.cell 1 rfl).1;have d3:=(Ry.cell 2 rfl).1;have eM:=Ry.set 2 rfl [r];have d4:=(eM.cell 2 rfl).1;refine⟨.inl (.bU [.agg r,.bool T]),_,?_,r,rfl,U.cD,n.bk,by have:=eM.drop.drop.drop;rw[hT]at this;exact this⟩;have je:decide ((n.below.length:Int)=0)=T:=decide_eq_false (by rw[hlen];omega);refine a2 Ft rfl ?_;unfold CH;simp only[ak,aq,ar,al,bJ,ax,bt,bq,dM,Gz,C7,xU,aP,hf,GA,i6,qT,sx,cU,nr,je,d1,lB,d2,d3]
 |true=>
   rw[xV]at hf;simp only[if_true];have KM:=CK xV;clear HU CK;rw[acd];obtain⟨ib,cK,_⟩:=d8 bz cA I.len;have f0:b5 0 (.ptr c.bw 0 0)=o (.ptr c.bw 0 0):=rfl;have f1:b5 0 (.ptr c.aO 0 0)=o (.ptr c.aO 0 0):=rfl;obtain⟨bo,⟨y,cU,bE⟩,b8⟩:=Gi bz cA (cF:=λF=>∃bj,aQ ap W 113 [.ptr c.ck 0 0,.agg r,g] ((R.push [r]).push [row])=o (.inl (.bU [.agg bj,.int j (fC n.top.eW n.S.G v).2.2]),F)/\bT (fC n.top.eW n.S.G v).2.1 bj) λae ai zm=>abr zm I.S.wf U arN (by omega);generalize fC n.top.eW n.S.G v=q at*;obtain⟨cN,bs,iw⟩:=q;simp only at cU bE b8 ⊢;rw[eC,eC,eC,hT]at b8;obtain⟨eD,fR⟩:=bE.cD;have et:=(((a.put {(n.db st)with S:={n.S with G:=cN}}).cons (aY h.n [aU])).cons (aY R.n [r])).cons (aY (R.n+1) [row]);have cM:=b8.push [aU];have i3:=et.cons (aY bo.n [aU]);obtain⟨fU,fm,_⟩:=d8 cM i3 I.len;have d0:=(cM.cell 1 rfl).1;have d1:=(cM.cell 2 rfl).1;have eM:=b8.push [y];have tv:=et.cons (aY bo.n [y]);have d2:=(eM.cell 0 rfl).1;have d3:=(eM.cell 2 rfl).1;by_cases vB:iw=0
   ·subst vB;rw[if_neg (λh=>h rfl)];simp only[bK.ok];rw[if_neg (by simp)];have d5:decide ((0:Int)=0)=O:=rfl;have g8:aK aj aJ aG _ (aY bo.n [y]::aY (R.n+1) [row]::aY R.n [y]::aY h.n [aU]::put c L i {(n.db st)with S:={n.S with G:=cN}}):=eM.set 2 rfl [y];have uU:=(((a.put {(n.db st)with S:={n.S with G:=cN}}).cons (aY h.n [aU])).cons (aY R.n [y])).cons (aY (R.n+1) [row]) |>.cons (aY bo.n [y]);obtain⟨i6,oD⟩:=acb g8 uU I.below (KM rfl) bE;rcases oD with⟨oC,J,oo,Rz,kP⟩|⟨ot,t,re,J,ru,oo,Rz,kP,C1,zu⟩
    ·have oC:n.below=[]:=oC;rw[oC];have GC:aK aj aJ aG J (aY bo.n [y]::aY (R.n+1) [row]::aY R.n [y]::aY h.n [aU]::(put c L i {(n.db st)with S:={n.S with G:=cN}}).set i (A3 c.bw c.aO n.bk (n.S.left:Int))):=kP;have da:=(GC.cell 2 rfl).1;have ch:=(GC.cell 3 rfl).1;have xW:=GC.set 3 rfl [y];have eF:=(xW.cell 3 rfl).1;refine⟨.inl (.bU [.agg y,.bool O]),_,?_,y,rfl,bE,n.bk,by have:=xW.drop.drop.drop.drop;rw[<-aca (n:={(n.db st)with S:={n.S with G:=cN}})];exact this⟩;have je:decide ((n.below.length:Int)=0)=O:=decide_eq_true (by rw[oC];rfl);refine a2 Ft rfl ?_;unfold CH;simp only[ak,aq,ar,al,bJ,ax,bt,bq,dM,Gz,C7,xU,aP,bu,hf,GB,GA,f0,f1,ib,cK,cU,fU,fm,d0,d1,d2,d3,oU,eD,fR,i6,qT,sx,oo,Rz,je,da,ch]
    ·have re:n.below=ot++[t]:=re;have hlen:n.below.length=ot.length+1:=by rw[re];simp
     have D5:n.below.getLast? =o t:=by rw[re];simp
     have Rx:n.below.dropLast=ot:=by rw[re];simp
     rw[D5,Rx];have GC:aK aj aJ aG J (aY bo.n [y]::aY (R.n+1) [row]::aY R.n [y]::aY h.n [aU]::put c (put c L i {(n.db st)with S:={n.S with G:=cN}}) i ⟨n.bk,{n.S with G:=cN},ot,t⟩):=kP;have RA:aK aj aJ aG ru (aY bo.n [y]::aY (R.n+1) [row]::aY R.n [y]::aY h.n [aU]::put c (put c L i {(n.db st)with S:={n.S with G:=cN}}) i ⟨n.bk,{n.S with G:=cN},ot,{t with stack:=t.stack++[bs]}⟩):=zu;have da:=(GC.cell 2 rfl).1;have ch:=(RA.cell 2 rfl).1;have eF:=(RA.cell 3 rfl).1;have xW:=RA.set 3 rfl [y];have kk:=(xW.cell 3 rfl).1;refine⟨.inl (.bU [.agg y,.bool T]),_,?_,y,rfl,bE.cD,n.bk,by have:=xW.drop.drop.drop.drop;rw[hT]at this;exact this⟩;have je:decide ((n.below.length:Int)=0)=T:=decide_eq_false (by rw[hlen];omega);refine a2 Ft rfl ?_;unfold CH;simp only[ak,aq,ar,al,bJ,ax,bt,bq,dM,Gz,C7,xU,aP,bu,hf,GB,GA,f0,f1,ib,cK,cU,fU,fm,d0,d1,d2,d3,oU,eD,fR,i6,qT,sx,oo,Rz,je,da,C1,ch,eF]
   ·rw[if_pos vB,if_pos (show((({n.S with G:=cN}:bK).no iw).2.2≠0) from vB)];simp only[bK.no];have d5:decide (iw=0)=T:=decide_eq_false vB;refine⟨_,_,?_,rfl,{(n.db st)with S:={n.S with G:=cN}},rfl,eM.drop.drop.drop.drop⟩;refine a2 Ft rfl ?_;unfold CH;simp only[ak,aq,ar,al,bJ,ax,bt,bq,dM,Gz,C7,xU,aP,bu,hf,GB,GA,f0,f1,ib,cK,cU,fU,fm,d0,d1,d5,qc,eD,fR]
end
abbrev RB:a6:=174
abbrev Li:a6:=184
abbrev zv:c':=50
abbrev RC:List E:=[.int j 0,.int j 0,.int j 0]
theorem arO{ms:dj}{p f:Int}{L:List bx}{ae:Nat}(c5:ms.getD p.toNat ad=o L)(bl:f=(ae:Int)):lz ms p f=cI (L.getD ae lX) 0++[⟨105,0,0⟩]:=by unfold lz gY gS;rw[c5,bl];rfl
theorem arP{L:List bx}{ae bO:Nat}{x:df}(bl:ae<L.length)(aw:(cI (L.getD ae lX) 0++[(⟨105,0,0⟩:df)])[bO]? =o x):∃row bF,(∀q,dO (o RB) ad (lZ L) (.int q (ae:Int))=o (.ip row 0))/\(∀k,gO T k row 0=o bF)/\(∀q,dO (o Li) ad bF (.int q (bO:Int))=o (.ip (gn x) 0))/\gO O 3 (gn x) 0=o (.agg (gn x)):=by
 have au:L[ae]? =o L[ae]:=fr bl;have ax:L.getD ae lX=L[ae]:=by simp[dz,bl]
 rw[ax]at aw;refine⟨[.b0 ad Li ((cI L[ae] 0++[(⟨105,0,0⟩:df)]).map gn)],.b0 ad Li ((cI L[ae] 0++[(⟨105,0,0⟩:df)]).map gn),λq=>?_,λk=>?_,λq=>?_,gX rfl⟩
 ·exact Ii (q:=q) rfl (by rw[vF,au];rfl)
 ·rw[gi];rfl
 ·exact Ii (q:=q) rfl (by rw[vF,aw];rfl)
structure RD(bC:ag)(c:ix)(n:fJ)(P ae:Nat)(L:List bx):Prop where
 m:∀k:Nat,cS T k bC (.ptr c.bw 0 0)=o (.ptr c.aO 0 0)
 p:∀k:Nat,cS T k bC (.ptr n.bk n.below.length 0)=o (.int j (P:Int))
 iv:∀k:Nat,cS T k bC (.ptr c.aO 0 (2+P*5+1))=o (lZ L)
 f:∀k:Nat,cS T k bC (.ptr n.bk n.below.length 1)=o (.int j (ae:Int))
 bO:∀k:Nat,cS T k bC (.ptr n.bk n.below.length 2)=o (.int j (n.top.bO:Int))
 bV:∀q:gx,dO ad (o (4,5)) (.ptr c.aO 0 2) (.int q (P:Int))=o (.ptr c.aO 0 (2+P*5))
section
variable{h F aj:ag}{ae ai aJ aG:Nat->Prop}{L:List b6}{c:ix}{i:Nat}{n:fJ}
theorem RE(s:aK aj aJ aG h L)(a:eY c L i n)(I:ie c n){P K:Nat}{mu:List bx}(fT:n.top.bI=(P:Int))(dt:n.top.f=(K:Int))(pD:P<4)(c5:c.ms.getD P ad=o mu):RD h c n P K mu:=by obtain⟨ib,_,_⟩:=d8 s a I.len;obtain⟨gu,dm,aL,g,a4⟩:=pB s i a.m;have i5:=oP n.top gu dm aL g a4.aX.cD.1;obtain⟨bV,iv,_⟩:=Lb s a I pD;rw[c5]at iv;exact⟨ib,λk=>by rw[<-fT];exact a4.rd k 0 _ i5.2.2.2.2.2.1,iv,λk=>by rw[<-dt];exact a4.rd k 1 _ i5.2.2.2.2.2.2.1,λk=>a4.rd k 2 _ i5.2.2.2.2.2.2.2,bV⟩
abbrev fJ.at(n:fJ)(k:Nat):fJ:={n with top:={n.top with bO:=k}}
structure ace(aj:ag)(aJ aG:Nat->Prop)(h ah:ag)(c:ix)(L:List b6)(i:Nat)(n:fJ)(P K:Nat)(mu:List bx)(x:df):Prop where
 s:aK aj aJ aG ah (aY (h.n+1) [gn x]::aY h.n [aU]::put c L i (n.at (n.top.bO+1)))
 a:eY c (aY (h.n+1) [gn x]::aY h.n [aU]::put c L i (n.at (n.top.bO+1))) (i+1+1) (n.at (n.top.bO+1))
 I:ie c (n.at (n.top.bO+1))
 dM:aQ ap W JN [.ptr c.bw 0 0] (h.push [aU])=o (.inl (.ptr n.bk n.below.length 0),h.push [aU])
 au:RD (h.push [aU]) c n P K mu
 ax:RD ((h.push [aU]).push [RC]) c n P K mu
 bc:∀k:Nat,cS T k ((h.push [aU]).push [gn x]) (.ptr n.bk n.below.length 2)=o (.int j (n.top.bO:Int))
 w:kK j ((n.top.bO:Int)+1)=((n.top.bO+1:Nat):Int)
 st:eQ 1 ((h.push [aU]).push [gn x]) (.ptr n.bk n.below.length 2) (.int j ((n.top.bO+1:Nat):Int))=o ah
 sI:ah.cell (h.n+1)=o [gn x]
theorem arQ(s:aK aj aJ aG h L)(a:eY c L i n)(I:ie c n)(hm:xr c.ms){P K:Nat}{mu:List bx}(fT:n.top.bI=(P:Int))(dt:n.top.f=(K:Int))(pD:P<4)(c5:c.ms.getD P ad=o mu)(Lj:n.top.bO<(lz c.ms n.top.bI n.top.f).length)(x:df):∃ah,ace aj aJ aG h ah c L i n P K mu x:=by have bg:=s.push [aU];have aR:=a.cons (aY h.n [aU]);obtain⟨dM,_⟩:=nL bg aR I.below;have au:=RE bg aR I fT dt pD c5;have aV:=bg.push [RC];have a5:=aR.cons (aY (h.push [aU]).n [RC]);have ax:=RE aV a5 I fT dt pD c5;have br:aK aj aJ aG ((h.push [aU]).push [gn x]) (aY (h.n+1) [gn x]::aY h.n [aU]::L):=bg.push [gn x];have bp:=aR.cons (aY (h.n+1) [gn x]);have bc:=RE br bp I fT dt pD c5;obtain⟨aD,bY,bz⟩:=Q0 br (i+1+1) bp.m (n.top.bO+1);rw[bp.wg]at bz;have b8:aK aj aJ aG aD (aY (h.n+1) [gn x]::aY h.n [aU]::put c L i (n.at (n.top.bO+1))):=bz;have b:=hm n.top.bI n.top.f;exact⟨aD,b8,((a.put _).cons _).cons _,⟨I.ms,I.S,I.below,I.db,I.vX,I.log⟩,dM,au,ax,bc.bO,Ar (by omega) (by omega) (by omega),bY,(b8.cell 0 rfl).1⟩
theorem sJ{A B:b6}:put c (A::B::L) (i+1+1) b'=A::B::put c L i b':=rfl
structure ws(aj:ag)(aJ aG:Nat->Prop)(h:ag)(c:ix)(L:List b6)(i:Nat)(n:fJ)(x:df):Prop where
 s:aK aj aJ aG h L
 a:eY c L i n
 I:ie c n
 hm:xr c.ms
 ok:xq c.ms n.m
 get:(lz c.ms n.top.bI n.top.f).getD n.top.bO xo=x
theorem ws.pre{x:df}(b:ws aj aJ aG h c L i n x):∃(ah:ag) (P K:Nat) (mu:List bx) (row:List E) (bF:E),ace aj aJ aG h ah c L i n P K mu x/\(∀q,dO (o RB) ad (lZ mu) (.int q (K:Int))=o (.ip row 0))/\(∀k,gO T k row 0=o bF)/\(∀q,dO (o Li) ad bF (.int q (n.top.bO:Int))=o (.ip (gn x) 0))/\gO O 3 (gn x) 0=o (.agg (gn x)):=by
 have a8:=b.ok.cG.top;obtain⟨P,fT⟩:=lE a8.d';obtain⟨K,eg⟩:=lE a8.f0;have fT:n.top.bI=(P:Int):=fT;have eg:n.top.f=(K:Int):=eg;have Bb:=a8.there;have Lh:n.top.bI.toNat=P:=by rw[fT];rfl
 have pD:P<4:=by
  rcases ox P 4 with h|h
  ·exact h
  ·have Bb:(c.ms.getD n.top.bI.toNat ad).isSome=O:=Bb;rw[Lh,dz,o3 (by rw[b.I.ms];exact h)]at Bb;cases Bb
 obtain⟨mu,c5⟩:=Option.isSome_iff_exists.1 Bb;have c5:c.ms.getD n.top.bI.toNat ad=o mu:=c5;have Lj:n.top.bO<(lz c.ms n.top.bI n.top.f).length:=b.ok.bO;have tF:n.top.f.toNat<(gS c.ms n.top.bI).length:=a8.f1;have arR:K<mu.length:=by
  have e:n.top.f.toNat=K:=by rw[eg];rfl
  rw[e]at tF;unfold gS at tF;rw[c5]at tF;exact tF
 obtain⟨ah,p⟩:=arQ b.s b.a b.I b.hm fT eg pD (by rw[<-Lh];exact c5) Lj x;have aw:(cI (mu.getD K lX) 0++[(⟨105,0,0⟩:df)])[n.top.bO]? =o x:=by rw[<-arO c5 eg];have:=b.get;rw[dz,fr Lj]at this;rw[fr Lj];exact congrArg o this
 obtain⟨row,bF,bM,bL,de,fv⟩:=arP arR aw;exact⟨ah,P,K,mu,row,bF,p,bM,bL,de,fv⟩
theorem arS{k m:Int}(b:ws aj aJ aG h c L i n ⟨100,k,m⟩):∃aI F,aQ ap W zv [.ptr c.bw 0 0] h=o (aI,F)/\xT aj aJ aG c L i (if n.S.left=0 then .fail n.S 12 else .go ⟨n.S.tick,(n.at (n.top.bO+1)).top,n.below⟩) aI F:=by
 obtain⟨ah,P,K,mu,row,bF,p,bM,bL,de,fv⟩:=b.pre;have f0:b5 0 (.ptr c.bw 0 0)=o (.ptr c.bw 0 0):=rfl;have f1:b5 2 (.ptr c.aO 0 0)=o (.ptr c.aO 0 2):=rfl;have f2:b5 0 (.ptr n.bk n.below.length 0)=o (.ptr n.bk n.below.length 0):=rfl;have f3:b5 1 (.ptr c.aO 0 (2+P*5))=o (.ptr c.aO 0 (2+P*5+1)):=rfl;have f4:b5 1 (.ptr n.bk n.below.length 0)=o (.ptr n.bk n.below.length 1):=rfl;have f5:b5 2 (.ptr n.bk n.below.length 0)=o (.ptr n.bk n.below.length 2):=rfl;have f6:b5 2 (.ptr c.bw 0 0)=o (.ptr c.bw 0 2):=rfl;have f7:b5 7 (.ptr n.bk n.below.length 0)=o (.ptr n.bk n.below.length 7):=rfl;obtain⟨gu,dm,aL,g,a4⟩:=pB p.s (i+1+1) p.a.m;have vM:∀k:Nat,cS T k ah (.ptr c.bw 0 2)=o (.int j (n.S.left:Int)):=λk=>by rw[fL,a4.m];rfl
 by_cases am:n.S.left=0
 ·rw[if_pos am];refine⟨_,_,?_,rfl,n.at (n.top.bO+1),rfl,p.s.drop.drop⟩;have d:decide ((n.S.left:Int)=0)=O:=decide_eq_true (by omega);refine a2 sr rfl ?_;unfold rI;simp only[ak,aq,ar,al,bJ,cC,p.dM,p.au.m,p.au.p,p.au.iv,p.au.f,p.au.bO,p.au.bV,p.ax.m,p.ax.p,p.ax.iv,p.ax.f,p.ax.bO,p.bc,p.w,p.st,p.sI,bM,bL,de,fv,f0,f1,f2,f3,f4,f5,f6,f7,vM,d,qc]
 ·rw[if_neg am];have d:decide ((n.S.left:Int)=0)=T:=decide_eq_false (by omega);have ab:=b.ok.cG.db;have ab:n.top.stack.length+n.S.left<=100000:=ab;have w:kK j ((n.S.left:Int) - 1)=((n.S.left - 1:Nat):Int):=Ar (by omega) (by omega) (by omega);obtain⟨aD,bY,bz⟩:=apP p.s (i+1+1) p.a.m ((n.S.left - 1:Nat):Int);rw[p.a.wg,sJ,hT]at bz;have b8:=bz.set 1 rfl [aU];have dU:=(bz.cell 1 rfl).1;have gg:=(b8.cell 1 rfl).1;refine⟨.inl (.bU [.agg aU,.bool T]),_,?_,aU,rfl,⟨rfl,rfl⟩,n.bk,b8.drop.drop⟩;refine a2 sr rfl ?_;unfold rI;simp only[ak,aq,ar,al,bJ,cC,p.dM,p.au.m,p.au.p,p.au.iv,p.au.f,p.au.bO,p.au.bV,p.ax.m,p.ax.p,p.ax.iv,p.ax.f,p.ax.bO,p.bc,p.w,p.st,p.sI,bM,bL,de,fv,f0,f1,f2,f3,f4,f5,f6,f7,vM,d,oU,w,bY,dU]
theorem arT{k m:Int}(b:ws aj aJ aG h c L i n ⟨101,k,m⟩){st:List av}{v:av}(bS:n.top.stack=st++[v]):∃aI F,aQ ap W zv [.ptr c.bw 0 0] h=o (aI,F)/\xT aj aJ aG c L i (.go ⟨n.S,{(n.at (n.top.bO+1)).top with stack:=st,names:=n.top.names++[v]},n.below⟩) aI F:=by
 obtain⟨ah,P,K,mu,row,bF,p,bM,bL,de,fv⟩:=b.pre;have f0:b5 0 (.ptr c.bw 0 0)=o (.ptr c.bw 0 0):=rfl;have f1:b5 2 (.ptr c.aO 0 0)=o (.ptr c.aO 0 2):=rfl;have f2:b5 0 (.ptr n.bk n.below.length 0)=o (.ptr n.bk n.below.length 0):=rfl;have f3:b5 1 (.ptr c.aO 0 (2+P*5))=o (.ptr c.aO 0 (2+P*5+1)):=rfl;have f4:b5 1 (.ptr n.bk n.below.length 0)=o (.ptr n.bk n.below.length 1):=rfl;have f5:b5 2 (.ptr n.bk n.below.length 0)=o (.ptr n.bk n.below.length 2):=rfl;have f6:b5 2 (.ptr c.bw 0 0)=o (.ptr c.bw 0 2):=rfl;have f7:b5 7 (.ptr n.bk n.below.length 0)=o (.ptr n.bk n.below.length 7):=rfl;obtain⟨aD,r,bY,U,bz,cA⟩:=tS p.s p.a p.I (st:=st) (v:=v) bS;rw[sJ,hT]at bz;rw[sJ,hT]at cA;have b8:aK aj aJ aG ((aD.push [r]).push [aU]) (aY (aD.n+1) [aU]::aY aD.n [r]::aY (h.n+1) [gn ⟨101,k,m⟩]::aY h.n [aU]::put c L i ((n.at (n.top.bO+1)).db st)):=(bz.push [r]).push [aU];have et:=(cA.cons (aY aD.n [r])).cons (aY (aD.n+1) [aU]);obtain⟨gu,dm,aL,g,a4⟩:=pB b8 (i+1+1+1+1) et.m;have i5:=oP {(n.at (n.top.bO+1)).top with stack:=st} gu dm aL g a4.aX.cD.1;have zk:=λk=>a4.rd k 7 _ i5.2.2.1;have dP:=bz.push [r];have arU:=cA.cons (aY aD.n [r]);obtain⟨C8,zj,mL,fu,RF⟩:=pB dP (i+1+1+1) arU.m;have acf:=oP {(n.at (n.top.bO+1)).top with stack:=st} C8 zj mL fu RF.aX.cD.1;have tM:=λk=>RF.rd k 7 _ acf.2.2.1;clear i5 acf;have aN:=(b8.cell 0 rfl).1;obtain⟨bt,bq⟩:=U.cD;have Ed:mL=aL:=by have e:=(abF (h:=aD.push [r]) (b:=n.bk) (i:=n.below.length) (off:=7) (k:=0) (g:=T) (es:=[aU]) RF.apO).symm.trans (zk 0);rw[tM 0]at e;exact kx e
 subst Ed;obtain⟨q,b9,c4,hh,cg,dw,fW,qE,g8⟩:=apS b8 (i+1+1+1+1) et.m U (by have:=p.I.vX;simp only at this ⊢;omega) aN a4;rw[et.wg,eC,eC,sJ,hT]at g8;have kP:=g8.set 3 rfl [aU];have dU:=(dP.cell 0 rfl).1;have gg:=(b8.cell 1 rfl).1;have arV:=(g8.cell 1 rfl).1;have arW:=(g8.cell 3 rfl).1;have axA:=(kP.cell 3 rfl).1;have eN:=a4.aL.2.2.1;have ih:=a4.aL.1;have Ec:=a4.aL.2.2.2.1;have arX:dO (o bG) ad (.bn q 0 (n.top.names.length+1) bG) (.int j (n.top.names.length:Int))=o (.ptr q n.top.names.length 0):=by have:=vO (q:= j) (e:=bG) (el:=bG) (b:=q) (I:=0) (n:=n.top.names.length+1) (i:=n.top.names.length) rfl (by omega);rwa [hH]at this
 refine⟨.inl (.bU [.agg aU,.bool T]),_,?_,aU,rfl,⟨rfl,rfl⟩,n.bk,kP.drop.drop.drop.drop⟩;refine a2 sr rfl ?_;unfold rI;simp only[ak,aq,ar,al,bJ,cC,p.dM,p.au.m,p.au.p,p.au.iv,p.au.f,p.au.bO,p.au.bV,p.ax.m,p.ax.p,p.ax.iv,p.ax.f,p.ax.bO,p.bc,p.w,p.st,p.sI,bM,bL,de,fv,f0,f1,f2,f3,f4,f5,f6,f7,bY,bt,bq,dU,gg,zk,tM,eN,Ec,arX,cg,dw,fW,qE,arW]
theorem arY{k m:Int}(b:ws aj aJ aG h c L i n ⟨102,k,m⟩){iH:List av}{v:av}(bS:n.top.names=iH++[v]):∃aI F,aQ ap W zv [.ptr c.bw 0 0] h=o (aI,F)/\xT aj aJ aG c L i (.go ⟨n.S,{(n.at (n.top.bO+1)).top with names:=iH},n.below⟩) aI F:=by
 obtain⟨ah,P,K,mu,row,bF,p,bM,bL,de,fv⟩:=b.pre;have f0:b5 0 (.ptr c.bw 0 0)=o (.ptr c.bw 0 0):=rfl;have f1:b5 2 (.ptr c.aO 0 0)=o (.ptr c.aO 0 2):=rfl;have f2:b5 0 (.ptr n.bk n.below.length 0)=o (.ptr n.bk n.below.length 0):=rfl;have f3:b5 1 (.ptr c.aO 0 (2+P*5))=o (.ptr c.aO 0 (2+P*5+1)):=rfl;have f4:b5 1 (.ptr n.bk n.below.length 0)=o (.ptr n.bk n.below.length 1):=rfl;have f5:b5 2 (.ptr n.bk n.below.length 0)=o (.ptr n.bk n.below.length 2):=rfl;have f6:b5 2 (.ptr c.bw 0 0)=o (.ptr c.bw 0 2):=rfl;have f7:b5 7 (.ptr n.bk n.below.length 0)=o (.ptr n.bk n.below.length 7):=rfl;obtain⟨gu,dm,aL,g,a4⟩:=pB p.s (i+1+1) p.a.m;have i5:=oP (n.at (n.top.bO+1)).top gu dm aL g a4.aX.cD.1;have zk:=λk=>a4.rd k 7 _ i5.2.2.1;clear i5;obtain⟨mL,aD,cg,dw,fW,qE,bz⟩:=apQ p.s (i+1+1) p.a.m (iH:=iH) (v:=v) bS a4;rw[p.a.wg,sJ,hT]at bz;have b8:=bz.set 1 rfl [aU];have dU:=(bz.cell 1 rfl).1;have gg:=(b8.cell 1 rfl).1;have eN:=a4.aL.2.2.1;have hlen:(n.at (n.top.bO+1)).top.names.length=iH.length+1:=by show n.top.names.length=_;rw[bS];simp
 rw[hlen]at eN;have aE:=p.I.vX;rw[hlen]at aE;have ih:=a4.aL.1;have Ec:=a4.aL.2.2.2.1;have w:kK j (((iH.length+1:Nat):Int) - 1)=(iH.length:Int):=Ar (by omega) (by omega) (by omega);refine⟨.inl (.bU [.agg aU,.bool T]),_,?_,aU,rfl,⟨rfl,rfl⟩,n.bk,b8.drop.drop⟩;refine a2 sr rfl ?_;unfold rI;simp only[ak,aq,ar,al,bJ,cC,p.dM,p.au.m,p.au.p,p.au.iv,p.au.f,p.au.bO,p.au.bV,p.ax.m,p.ax.p,p.ax.iv,p.ax.f,p.ax.bO,p.bc,p.w,p.st,p.sI,bM,bL,de,fv,f0,f1,f2,f3,f4,f5,f6,f7,zk,eN,Ec,w,cg,qE,dU]
theorem arZ{k m:Int}(b:ws aj aJ aG h c L i n ⟨103,k,m⟩){st:List av}{v:av}(bS:n.top.stack=st++[v])(kU:0<=k):∃aI F,aQ ap W zv [.ptr c.bw 0 0] h=o (aI,F)/\xT aj aJ aG c L i (if v.kind≠1 then .fail n.S 2 else .go ⟨n.S,{(n.at (n.top.bO+1)).top with stack:=st,bO:=if v.n=0 then k.toNat else n.top.bO+1},n.below⟩) aI F:=by
 obtain⟨ah,P,K,mu,row,bF,p,bM,bL,de,fv⟩:=b.pre;have f0:b5 0 (.ptr c.bw 0 0)=o (.ptr c.bw 0 0):=rfl;have f1:b5 2 (.ptr c.aO 0 0)=o (.ptr c.aO 0 2):=rfl;have f2:b5 0 (.ptr n.bk n.below.length 0)=o (.ptr n.bk n.below.length 0):=rfl;have f3:b5 1 (.ptr c.aO 0 (2+P*5))=o (.ptr c.aO 0 (2+P*5+1)):=rfl;have f4:b5 1 (.ptr n.bk n.below.length 0)=o (.ptr n.bk n.below.length 1):=rfl;have f5:b5 2 (.ptr n.bk n.below.length 0)=o (.ptr n.bk n.below.length 2):=rfl;have f6:b5 2 (.ptr c.bw 0 0)=o (.ptr c.bw 0 2):=rfl;have f7:b5 7 (.ptr n.bk n.below.length 0)=o (.ptr n.bk n.below.length 7):=rfl;obtain⟨aD,r,bY,U,bz,cA⟩:=tS p.s p.a p.I (st:=st) (v:=v) bS;rw[sJ,hT]at bz;rw[sJ,hT]at cA;obtain⟨bt,bq⟩:=U.cD;by_cases Z:v.kind=1
 ·rw[if_neg (by simpa using Z)];obtain⟨bj,e8,hG⟩:=tN (h:=aD) U Z;obtain⟨w,hw,_⟩:=hG.iQ;have aE:H5 T 1 1 (.agg bj)=o (.int j v.n):=by rw[hw];rfl
  obtain⟨dW,e4⟩:=hG.cD;clear hw;by_cases aN:v.n=0
  ·rw[if_pos aN];have d:decide (v.n=0)=O:=decide_eq_true aN;have dU:=(bz.cell 0 rfl).1;obtain⟨bo,cU,b8⟩:=Q0 bz (i+1+1) cA.m k.toNat
   rw[Int.toNat_of_nonneg kU]at cU;rw[cA.wg,sJ,hT]at b8;have cM:=b8.set 1 rfl [aU];have gg:=(b8.cell 1 rfl).1;have ic:=(cM.cell 1 rfl).1;refine⟨.inl (.bU [.agg aU,.bool T]),_,?_,aU,rfl,⟨rfl,rfl⟩,n.bk,cM.drop.drop⟩;refine a2 sr rfl ?_;unfold rI;simp only[ak,aq,ar,al,bJ,cC,p.dM,p.au.m,p.au.p,p.au.iv,p.au.f,p.au.bO,p.au.bV,p.ax.m,p.ax.p,p.ax.iv,p.ax.f,p.ax.bO,p.bc,p.w,p.st,p.sI,bM,bL,de,fv,f0,f1,f2,f3,f4,f5,f6,f7,bY,bt,bq,e8,aE,d,dU,cU,gg]
  ·rw[if_neg aN];have d:decide (v.n=0)=T:=decide_eq_false aN;have cM:=bz.set 1 rfl [aU];have gg:=(bz.cell 1 rfl).1;have ic:=(cM.cell 1 rfl).1;refine⟨.inl (.bU [.agg aU,.bool T]),_,?_,aU,rfl,⟨rfl,rfl⟩,n.bk,cM.drop.drop⟩;refine a2 sr rfl ?_;unfold rI;simp only[ak,aq,ar,al,bJ,cC,p.dM,p.au.m,p.au.p,p.au.iv,p.au.f,p.au.bO,p.au.bV,p.ax.m,p.ax.p,p.ax.iv,p.ax.f,p.ax.bO,p.bc,p.w,p.st,p.sI,bM,bL,de,fv,f0,f1,f2,f3,f4,f5,f6,f7,bY,bt,bq,e8,aE,d,gg]
 ·rw[if_pos Z];have e8:=tO (h:=aD) U Z;refine⟨_,_,?_,rfl,(n.at (n.top.bO+1)).db st,rfl,bz.drop.drop⟩;refine a2 sr rfl ?_;unfold rI;simp only[ak,aq,ar,al,bJ,cC,p.dM,p.au.m,p.au.p,p.au.iv,p.au.f,p.au.bO,p.au.bV,p.ax.m,p.ax.p,p.ax.iv,p.ax.f,p.ax.bO,p.bc,p.w,p.st,p.sI,bM,bL,de,fv,f0,f1,f2,f3,f4,f5,f6,f7,bY,bt,bq,e8]
theorem ar0{k m:Int}(b:ws aj aJ aG h c L i n ⟨104,k,m⟩)(kU:0<=k):∃aI F,aQ ap W zv [.ptr c.bw 0 0] h=o (aI,F)/\xT aj aJ aG c L i (.go ⟨n.S,{(n.at (n.top.bO+1)).top with bO:=k.toNat},n.below⟩) aI F:=by
 obtain⟨ah,P,K,mu,row,bF,p,bM,bL,de,fv⟩:=b.pre;have f0:b5 0 (.ptr c.bw 0 0)=o (.ptr c.bw 0 0):=rfl;have f1:b5 2 (.ptr c.aO 0 0)=o (.ptr c.aO 0 2):=rfl;have f2:b5 0 (.ptr n.bk n.below.length 0)=o (.ptr n.bk n.below.length 0):=rfl;have f3:b5 1 (.ptr c.aO 0 (2+P*5))=o (.ptr c.aO 0 (2+P*5+1)):=rfl;have f4:b5 1 (.ptr n.bk n.below.length 0)=o (.ptr n.bk n.below.length 1):=rfl;have f5:b5 2 (.ptr n.bk n.below.length 0)=o (.ptr n.bk n.below.length 2):=rfl;have f6:b5 2 (.ptr c.bw 0 0)=o (.ptr c.bw 0 2):=rfl;have f7:b5 7 (.ptr n.bk n.below.length 0)=o (.ptr n.bk n.below.length 7):=rfl;have dU:=(p.s.cell 0 rfl).1;obtain⟨bo,cU,b8⟩:=Q0 p.s (i+1+1) p.a.m k.toNat
 rw[Int.toNat_of_nonneg kU]at cU;rw[p.a.wg,sJ,hT]at b8;have cM:=b8.set 1 rfl [aU];have gg:=(b8.cell 1 rfl).1;have ic:=(cM.cell 1 rfl).1;refine⟨.inl (.bU [.agg aU,.bool T]),_,?_,aU,rfl,⟨rfl,rfl⟩,n.bk,cM.drop.drop⟩;refine a2 sr rfl ?_;unfold rI;simp only[ak,aq,ar,al,bJ,cC,p.dM,p.au.m,p.au.p,p.au.iv,p.au.f,p.au.bO,p.au.bV,p.ax.m,p.ax.p,p.ax.iv,p.ax.f,p.ax.bO,p.bc,p.w,p.st,p.sI,bM,bL,de,fv,f0,f1,f2,f3,f4,f5,f6,f7,cU,gg]
theorem ar1{A B:b6}{hu:Nat}{S:bK}:oW c (A::B::put c L i b') (i+1+1) hu S=A::B::oW c L i hu S:=by
 have:oW c (put c L i b') i hu S=oW c L i hu S:=by unfold oW;rw[hT]
 exact congrArg (λl=>A::B::l) this
theorem ar2{k m:Int}(b:ws aj aJ aG h c L i n ⟨105,k,m⟩){st:List av}{v:av}(bS:n.top.stack=st++[v])(k7:∀a9,ct.back (n.at (n.top.bO+1)).m= .go a9->a9.top.stack.length<=100000):∃aI F,aQ ap W zv [.ptr c.bw 0 0] h=o (aI,F)/\xT aj aJ aG c L i (ct.back (n.at (n.top.bO+1)).m) aI F:=by
 obtain⟨ah,P,K,mu,row,bF,p,bM,bL,de,fv⟩:=b.pre;have f0:b5 0 (.ptr c.bw 0 0)=o (.ptr c.bw 0 0):=rfl;have f1:b5 2 (.ptr c.aO 0 0)=o (.ptr c.aO 0 2):=rfl;have f2:b5 0 (.ptr n.bk n.below.length 0)=o (.ptr n.bk n.below.length 0):=rfl;have f3:b5 1 (.ptr c.aO 0 (2+P*5))=o (.ptr c.aO 0 (2+P*5+1)):=rfl;have f4:b5 1 (.ptr n.bk n.below.length 0)=o (.ptr n.bk n.below.length 1):=rfl;have f5:b5 2 (.ptr n.bk n.below.length 0)=o (.ptr n.bk n.below.length 2):=rfl;have f6:b5 2 (.ptr c.bw 0 0)=o (.ptr c.bw 0 2):=rfl;have f7:b5 7 (.ptr n.bk n.below.length 0)=o (.ptr n.bk n.below.length 7):=rfl;obtain⟨aI,aD,bY,nM⟩:=arM p.s p.a p.I (st:=st) (v:=v) bS b.ok.cG.top.eW k7;generalize ct.back (n.at (n.top.bO+1)).m=q at*;cases q with
 |go a9=>obtain⟨r,rfl,⟨bt,bq⟩,hu,bz⟩:=nM;rw[sJ,hT]at bz;have b8:=bz.set 1 rfl [r];have dU:=(bz.cell 1 rfl).1;have gg:=(b8.cell 1 rfl).1;refine⟨.inl (.bU [.agg r,.bool T]),_,?_,r,rfl,⟨bt,bq⟩,hu,b8.drop.drop⟩;refine a2 sr rfl ?_;unfold rI;simp only[ak,aq,ar,al,bJ,cC,p.dM,p.au.m,p.au.p,p.au.iv,p.au.f,p.au.bO,p.au.bV,p.ax.m,p.ax.p,p.ax.iv,p.ax.f,p.ax.bO,p.bc,p.w,p.st,p.sI,bM,bL,de,fv,f0,f1,f2,f3,f4,f5,f6,f7,bY,bt,bq,dU]
 |fail S dQ=>obtain⟨rfl,b',ri,bz⟩:=nM;rw[sJ,hT]at bz;refine⟨_,_,?_,rfl,b',ri,bz.drop.drop⟩;refine a2 sr rfl ?_;unfold rI;simp only[ak,aq,ar,al,bJ,cC,p.dM,p.au.m,p.au.p,p.au.iv,p.au.f,p.au.bO,p.au.bV,p.ax.m,p.ax.p,p.ax.iv,p.ax.f,p.ax.bO,p.bc,p.w,p.st,p.sI,bM,bL,de,fv,f0,f1,f2,f3,f4,f5,f6,f7,bY]
 |over S bs=>obtain⟨r,rfl,U,hu,bz⟩:=nM;rw[ar1]at bz;obtain⟨bt,bq⟩:=U.cD;have b8:=bz.set 1 rfl [r];have dU:=(bz.cell 1 rfl).1;have gg:=(b8.cell 1 rfl).1;refine⟨.inl (.bU [.agg r,.bool O]),_,?_,r,rfl,U,hu,b8.drop.drop⟩;refine a2 sr rfl ?_;unfold rI;simp only[ak,aq,ar,al,bJ,cC,p.dM,p.au.m,p.au.p,p.au.iv,p.au.f,p.au.bO,p.au.bV,p.ax.m,p.ax.p,p.ax.iv,p.ax.f,p.ax.bO,p.bc,p.w,p.st,p.sI,bM,bL,de,fv,f0,f1,f2,f3,f4,f5,f6,f7,bY,bt,bq,dU]
theorem ar3{x:df}(b:ws aj aJ aG h c L i n x)(h0:x.op<100):∃aI F,aQ ap W zv [.ptr c.bw 0 0] h=o (aI,F)/\xT aj aJ aG c L i (n9 c.ms (n.at (n.top.bO+1)).m x) aI F:=by
 obtain⟨ah,P,K,mu,row,bF,p,bM,bL,de,fv⟩:=b.pre;have f0:b5 0 (.ptr c.bw 0 0)=o (.ptr c.bw 0 0):=rfl;have f1:b5 2 (.ptr c.aO 0 0)=o (.ptr c.aO 0 2):=rfl;have f2:b5 0 (.ptr n.bk n.below.length 0)=o (.ptr n.bk n.below.length 0):=rfl;have f3:b5 1 (.ptr c.aO 0 (2+P*5))=o (.ptr c.aO 0 (2+P*5+1)):=rfl;have f4:b5 1 (.ptr n.bk n.below.length 0)=o (.ptr n.bk n.below.length 1):=rfl;have f5:b5 2 (.ptr n.bk n.below.length 0)=o (.ptr n.bk n.below.length 2):=rfl;have f6:b5 2 (.ptr c.bw 0 0)=o (.ptr c.bw 0 2):=rfl;have f7:b5 7 (.ptr n.bk n.below.length 0)=o (.ptr n.bk n.below.length 7):=rfl;have a8:=b.ok.cG.top;have aw:=b.ok.op;have m1:(lz c.ms n.m.top.bI n.m.top.f).getD n.m.top.bO xo=x:=b.get;rw[m1]at aw;obtain⟨aI,aD,bY,RG⟩:=arI p.s p.a p.I (x:=x) ⟨a8.d',a8.there,a8.f0,a8.f1,a8.arg,a8.names,a8.stack,a8.eW⟩ ⟨aw.kind,aw.one,aw.Vo,aw.jump,aw.parts,aw.var⟩ h0;have d:∀D:Int,100<=D->decide (x.op=D)=T:=λD aa=>decide_eq_false (by omega);have d0:=d 100 (by decide);have d1:=d 101 (by decide);have d2:=d 102 (by decide);have d3:=d 103 (by decide);have d4:=d 104 (by decide);have d5:=d 105 (by decide);have cd:=(p.s.cell 0 rfl).1;generalize n9 c.ms (n.at (n.top.bO+1)).m x=q at*;cases q with
 |go a9=>obtain⟨rfl,hu,bz⟩:=RG;rw[sJ,hT]at bz;have b8:=bz.set 1 rfl [aU];have dU:=(bz.cell 1 rfl).1;have gg:=(b8.cell 1 rfl).1;refine⟨.inl (.bU [.agg aU,.bool T]),_,?_,aU,rfl,⟨rfl,rfl⟩,hu,b8.drop.drop⟩;refine a2 sr rfl ?_;unfold rI;simp only[ak,aq,ar,al,bJ,p.dM,p.au.m,p.au.p,p.au.iv,p.au.f,p.au.bO,p.au.bV,p.ax.m,p.ax.p,p.ax.iv,p.ax.f,p.ax.bO,p.bc,p.w,p.st,p.sI,bM,bL,de,fv,f0,f1,f2,f3,f4,f5,f6,f7,bY,dU,d0,d1,d2,d3,d4,d5]
 |fail S dQ=>obtain⟨rfl,b',ri,bz⟩:=RG;rw[sJ,hT]at bz;refine⟨_,_,?_,rfl,b',ri,bz.drop.drop⟩;refine a2 sr rfl ?_;unfold rI;simp only[ak,aq,ar,al,bJ,p.dM,p.au.m,p.au.p,p.au.iv,p.au.f,p.au.bO,p.au.bV,p.ax.m,p.ax.p,p.ax.iv,p.ax.f,p.ax.bO,p.bc,p.w,p.st,p.sI,bM,bL,de,fv,f0,f1,f2,f3,f4,f5,f6,f7,bY,d0,d1,d2,d3,d4,d5]
 |over S bs=>exact RG.elim
end
section
variable{h F aj:ag}{ae ai aJ aG:Nat->Prop}{L:List b6}{c:ix}{i:Nat}{n:fJ}
theorem ar4{c:ix}{n:fJ}(an:c.ms.length=4)(g:n.m.Good c.ms):ie c n:=by have da:n.S.a'<=1000000:=g.a';have ch:n.top.stack.length+n.S.left<=100000:=g.db;have eF:n.top.names.length+n.S.left<=100000:=g.vX;have kk:n.below.length+1<=20:=g.p2;unfold bK.a' at da;exact⟨an,g.S,by omega,by omega,by omega,by omega⟩
theorem RH(s:aK aj aJ aG h L)(a:eY c L i n)(an:c.ms.length=4)(hm:xr c.ms)(ok:xq c.ms n.m)(Lk:∀a9,n' c.ms n.m= .go a9->a9.Good c.ms):∃aI F,aQ ap W zv [.ptr c.bw 0 0] h=o (aI,F)/\xT aj aJ aG c L i (n' c.ms n.m) aI F:=by
 have b:ws aj aJ aG h c L i n ((lz c.ms n.top.bI n.top.f).getD n.top.bO xo):=⟨s,a,ar4 an ok.cG,hm,ok,rfl⟩;have aw:=ok.op;have aw:Ck n.m ((lz c.ms n.top.bI n.top.f).getD n.top.bO xo):=aw;have aC:n' c.ms n.m=(let x:=(lz c.ms n.top.bI n.top.f).getD n.top.bO xo
  let m:ct:=(n.at (n.top.bO+1)).m;let t:=m.top
  if x.op=100 then(if m.S.left=0 then .fail m.S 12 else .go {m with S:=m.S.tick})
  else if x.op=101 then .go {m with top:={t with stack:=uN t.stack 1,names:=t.names++[(sf t.stack 1).getD 0 cv]}}
  else if x.op=102 then .go {m with top:={t with names:=t.names.dropLast}}
  else if x.op=103 then(let v:=(sf t.stack 1).getD 0 cv
   if v.kind≠1 then .fail m.S 2 else .go {m with top:={t with stack:=uN t.stack 1,bO:=if v.n=0 then x.k.toNat else t.bO}})
  else if x.op=104 then .go {m with top:={t with bO:=x.k.toNat}}
  else if x.op=105 then m.back
  else n9 c.ms m x):=rfl
 rw[aC]at Lk ⊢;generalize (lz c.ms n.top.bI n.top.f).getD n.top.bO xo=x at*;clear aC;obtain⟨op,k,m⟩:=x;simp only at Lk ⊢;have acg:=aw.kind;simp only at acg;rcases acg with Z|Z
 ·rw[if_neg (by omega),if_neg (by omega),if_neg (by omega),if_neg (by omega),if_neg (by omega),if_neg (by omega)];exact ar3 b (by show op<100;omega)
 ·have ops:op=100\/op=101\/op=102\/op=103\/op=104\/op=105:=by omega
  rcases ops with rfl|rfl|rfl|rfl|rfl|rfl
  ·rw[if_pos rfl];exact arS b
  ·obtain⟨st,v,bS⟩:=pE (l:=n.top.stack) (by have:=aw.one (.inl rfl);exact List.length_pos_iff.2 this);rw[if_neg (by decide),if_pos rfl];have:=arT b bS;simp only[bS,ge,Ba];exact this
  ·obtain⟨iH,v,bS⟩:=pE (l:=n.top.names) (by have:=aw.Vo rfl;exact List.length_pos_iff.2 this);rw[if_neg (by decide),if_neg (by decide),if_pos rfl];have:=arY b bS;simp only[bS,List.dropLast_concat];exact this
  ·obtain⟨st,v,bS⟩:=pE (l:=n.top.stack) (by have:=aw.one (.inr (.inl rfl));exact List.length_pos_iff.2 this);rw[if_neg (by decide),if_neg (by decide),if_neg (by decide),if_pos rfl];have:=arZ b bS (aw.jump (.inl rfl));simp only[bS,ge,Ba,sE];exact this
  ·rw[if_neg (by decide),if_neg (by decide),if_neg (by decide),if_neg (by decide),if_pos rfl];exact ar0 b (aw.jump (.inr rfl))
  ·obtain⟨st,v,bS⟩:=pE (l:=n.top.stack) (by have:=aw.one (.inr (.inr rfl));exact List.length_pos_iff.2 this);simp only[cC,if_false,if_true]at Lk ⊢;refine ar2 b bS λa9 e=>?_;have g:=(Lk a9 e).db;omega
end
theorem RI:∀(N:Nat) (x:av),kL x<=N->x.size<=100000->∀(r:List E) (h:ag),bT x r->∃bj,aQ ap W 48 [.agg r] h=o (.inl (.agg bj),h)/\bT (id x) bj:=by
 intro N;induction N with
 |zero=>intro x aw;have:=x.mf;omega
 |succ N aZ=>
   intro x aw eJ r h he;obtain⟨v,es,rfl,ei,U,aE,eV⟩:=he.facts;have hlen:=x.p0;suffices key:∃bs,aQ ap W 48 [.agg [.int j x.kind,.int j x.n,v]] h=o (.inl bs,h)/\∃bj,bs= .agg bj/\bT (id x) bj by obtain⟨_,e,bj,rfl,R⟩:=key;exact⟨bj,e,R⟩
   have rest:∀(Q:ls->Prop) (aj:ag) (gH oQ:E) (z:Int),aj=((h.push [[.int j x.kind,.int j x.n,v]]).push [[.int j 0,.int j 0,.aA]]).push [[.int j x.kind,.int j z,.aA]]->z=(id x).n->(∀V F v bs,(iF V F [.cell O 3 2]).map iV=o v->aB h F->c7 v=o bs->(∃bj,bs= .agg bj/\bT (id x) bj)->Q (o (.ret,V,F)))->Q (bB (aQ ap W) 9 (.e' J1::.bP []::.cm 0::[.bP [.ops [sn,Ay],.ret]]) [.agg [.int j x.kind,.int j x.n,v],.ptr h.n 0 0,.ptr (h.n+1) 0 0,.ptr (h.n+1+1) 0 0,gH,v,.int j es.length,.int j 0,oQ] [] aj):=by
    intro Q aj gH oQ z CO aN cy;subst CO;refine oe (λi V F=>∃gH oQ acc rows,V=[.agg [.int j x.kind,.int j x.n,v],.ptr h.n 0 0,.ptr (h.n+1) 0 0,.ptr (h.n+1+1) 0 0,gH,v,.int j es.length,.int j (i:Nat),oQ]/\aB h F/\h.n+1+1<F.n/\F.cell h.n=o [[.int j x.kind,.int j x.n,v]]/\F.cell (h.n+1)=o [[.int j 0,.int j 0,.aA]]/\F.cell (h.n+1+1)=o [[.int j x.kind,.int j z,acc]]/\Acc h F bG acc rows/\c8 ((x.l.take i).map id) rows) x.l.length ⟨_,_,_,[],rfl,(by repeat (first|exact aB.refl _|refine aB.trans ?_ (aB.push _ _)|refine aB.trans ?_ (aB.fresh _ _))),by simp only[ey];omega,tl,vQ,vP,uF _ _ _,rfl⟩ ?_ ?_
    ·rintro i V F af ⟨gH,oQ,acc,rows,rfl,g,hm,aP,bu,cd,aX,ao⟩ next
     have bf:(i:Int)<(es.length:Int):=by rw[aE];omega
     obtain⟨y,bE⟩:=qS af;obtain⟨q,i1,d1,b3⟩:=eV i y bE;have hw:=eL (n:=(i:Int)+1) (by omega) (by omega);obtain⟨ek,au,dH⟩:=aZ y (by have:=av.mF (nb bE);omega) (by have:=av.ph (nb bE);omega) q (F.push [q]) b3;obtain⟨dA,ft⟩:=b3.one
     replace aP:=(ir (es:=[q]) (show h.n<F.n by omega)).trans aP
     replace bu:=(ir (es:=[q]) (show h.n+1<F.n by omega)).trans bu
     replace cd:=(ir (es:=[q]) hm).trans cd
     obtain⟨bt,bq⟩:=dH.one;have gP:rows.length<=1000000:=by rw[ao.len,fa,pN];omega
     obtain⟨ko,R,ax,aR,a5,bp,cA⟩:=mp (show Acc h (F.push [q]) bG acc rows from aX) (g.trans (aB.push _ _)) (row:=ek) bt gP;simp only[i4]at ax;have cg:(R.set (h.n+1+1) (o [[.int j x.kind,.int j z,ko]])).cell h.n=o [[.int j x.kind,.int j x.n,v]]:=by rw[eu (by omega),bp];exact aP
     have dw:(R.set (h.n+1+1) (o [[.int j x.kind,.int j z,ko]])).cell (h.n+1)=o [[.int j 0,.int j 0,.aA]]:=by rw[eu (by omega),bp];exact bu
     have oR:ko.one=O:=by rcases aR with⟨_,rfl⟩|⟨id,_,_,_,_,rfl⟩<;>rfl
     have ve:ko.cells=[ko]:=by rcases aR with⟨_,rfl⟩|⟨id,_,_,_,_,rfl⟩<;>rfl
     rw[cV J1.eq_1];simp only[ak,aq,ar,al,cb,cd,bf,i1,d1,au,dA,ft,bt,bq,ax,bp,oR,ve,hw];refine next _ _ ⟨_,_,_,_,rfl,a5.set (by omega),by rw[ny,cA];show _<F.n+1;omega,cg,dw,k1,aR,?_⟩
     rw[Aq bE,uR];exact ao.append dH
    ·rintro V F ⟨gH,oQ,acc,rows,rfl,g,hm,aP,bu,cd,aX,ao⟩;have bf:¬((x.l.length:Int)<(es.length:Int)):=by rw[aE];omega
     rw[List.take_length]at ao;have oR:acc.one=O:=by rcases aX with⟨_,rfl⟩|⟨id,_,_,_,_,rfl⟩<;>rfl
     have QO:fo bG acc rows:=by
      rcases aX with⟨bM,bL⟩|⟨id,_,_,_,_,bL⟩
      ·exact .inl ⟨bM,bL⟩
      ·exact .inr ⟨_,bL⟩
     have ur:bT (id x) [.int j x.kind,.int j z,acc]:=by rw[aN];have:=bT.mk (x:=id x) QO (by rw[anG];exact ao);rw[anF]at this;exact this
     obtain⟨bj,hw,hG⟩:=E6 ur;have qU:c7 (.agg [.int j x.kind,.int j z,acc])=o (.agg bj):=by simp only[c7,hw,hF]
     rw[cV J1.eq_1];simp only[ak,aq,ar,al,cb,bu,cd,bf,oR];exact cy _ _ _ _ (by simp only[ak,hk,gf,hF,c2,sE,List.getD_cons_succ]) (g.set (by omega)) qU ⟨bj,rfl,hG⟩
   refine OW ank rfl λQ cy=>?_;unfold YW;simp only[ak,aq,ar,al,bW,U,ei.len,ei.fits];exact rest _ _ _ _ x.n rfl rfl cy
open Go Go.RowKit
abbrev jK:c':=12
abbrev rO:c':=49
noncomputable def C9:fK:=Tryz.f12.body.getD .skip
noncomputable def sK:fK:=Tryz.f49.body.getD .skip
theorem RJ:(ap).funcs[rO]? =o Tryz.f49:=Tryz.func49
theorem ach:Tryz.f49.body=o sK:=rfl
theorem aci:sK= .seq (ep sK) (gK sK):=rfl
theorem acj:Tryz.f49.ntmps=27:=rfl
noncomputable def RK:bh:={dst:=o 8,op:=.call {callee:=.builtin .recover,args:= #[],argTypes:= #[]},type:=((mj (ep sK)).getD 0 default).type,pos:=((mj (ep sK)).getD 0 default).pos,after:= #[],guard:=ad}
noncomputable def RL:bh:={dst:=o 5,op:=.assign (.tmp 8),type:=((mj (ep sK)).getD 1 default).type,pos:=((mj (ep sK)).getD 1 default).pos,after:=((mj (ep sK)).getD 1 default).after,guard:=ad}
theorem ar5:ep sK= .region 0 #[RK,RL] T:=rfl
abbrev RM:List Nat:=[0,1,2,3,4,5,6,7,10,17]
theorem ack:g5 ap (W.a' rO) (W.cz rO) 27 RM (gK sK) []=o PU:=by kernel_rfl
theorem acm:iz (W.cz rO) (W.e9 rO) (gK sK)=O:=by kernel_rfl
theorem acn:tj 5 27 (W.aL rO) 10 RM=O:=by kernel_rfl
theorem aco(a:Array b1)(w:dy):∃v,(results Tryz.f49 a).run ap w= .ok v w:=⟨.tuple #[],by simp[results,Tryz.results49]⟩
theorem acp:Yw ap (ep sK) 27 8 5:=by
 intro cw v cs g3 w eJ h;rw[ar5];apply wpS_region;rcases h with J|⟨J,R,ah⟩
 ·simp[wpOpsS,go_sem,RK,RL,J,Act.put,Act.eval,eJ]
 ·simp[wpOpsS,go_sem,RK,RL,J,Act.put,Act.eval,eJ,R,ah]
theorem acq(x y z u t e:E):g6 27 RM [] (fj (fj ([x,y,z,u,t]++al (27 - [x,y,z,u,t].length) .az) (o 8) e) (o 5) e) [x,y,z,u,t,e,.az,.az,.az,.az] []:=by
 refine⟨by simp[fj],rfl,rfl,λD s aa=>?_,λD s aa=>by simp at aa⟩
 match D,aa with
 |0,aa|1,aa|2,aa|3,aa|4,aa|5,aa|6,aa|7,aa|8,aa|9,aa=>obtain rfl:=kx aa;exact⟨by decide,rfl⟩
 |D+10,aa=>simp at aa
theorem C':(ap).funcs[jK]? =o Tryz.f12:=Tryz.func12
theorem ar6:Tryz.f12.body=o C9:=rfl
theorem ar7:Tryz.f12.ntmps=93:=rfl
noncomputable abbrev wu:fK:=gK C9
noncomputable abbrev vk:fK:=gK wu
noncomputable abbrev xX:fK:=gK vk
noncomputable abbrev xY:fK:=gK xX
noncomputable abbrev q5:fK:=gK xY
noncomputable abbrev GD:fK:=gK q5
theorem ar8:C9= .seq (ep C9) wu:=rfl
theorem Ll:wu= .seq (ep wu) vk:=rfl
theorem acr:vk= .seq (ep vk) xX:=rfl
theorem ar9:xX= .seq (ep xX) xY:=rfl
theorem ar':xY= .seq (ep xY) q5:=rfl
theorem asa:q5= .seq (ep q5) GD:=rfl
abbrev sL:List Nat:=[0,1,2,3,4,8,9,10,11,12,13,14,15,16,17,33,62,84]
theorem vl:tj 5 93 (W.aL jK) 18 sL=O:=by kernel_rfl
theorem asb:g5 ap (W.a' jK) (W.cz jK) 93 sL (ep C9) []=o JR:=by kernel_rfl
theorem Lm:g5 ap (W.a' jK) (W.cz jK) 93 sL (ep wu) []=o za:=by kernel_rfl
theorem acs:g5 ap (W.a' jK) (W.cz jK) 93 sL (ep vk) []=o JT:=by kernel_rfl
theorem asc:g5 ap (W.a' jK) (W.cz jK) 93 sL (ep xX) []=o JU:=by kernel_rfl
theorem asd:g5 ap (W.a' jK) (W.cz jK) 93 sL (ep xY) []=o JV:=by kernel_rfl
theorem act:g5 ap (W.a' jK) (W.cz jK) 93 sL GD []=o FF:=by kernel_rfl
theorem ase:iz (W.cz jK) (W.e9 jK) (ep C9)=O:=by kernel_rfl
theorem Ln:iz (W.cz jK) (W.e9 jK) (ep wu)=O:=by kernel_rfl
theorem acu:iz (W.cz jK) (W.e9 jK) (ep vk)=O:=by kernel_rfl
theorem asf:iz (W.cz jK) (W.e9 jK) (ep xX)=O:=by kernel_rfl
theorem asg:iz (W.cz jK) (W.e9 jK) (ep xY)=O:=by kernel_rfl
theorem acv:iz (W.cz jK) (W.e9 jK) GD=O:=by kernel_rfl
theorem GF:pX ap sL Tryz.f12.results.toList=o [.cell O 3 7,.cell T 1 8,.cell T 1 9]:=by kernel_rfl
theorem ash(x y z u t:E):g6 93 sL [] ([x,y,z,u,t]++al (93 - [x,y,z,u,t].length) .az) ([x,y,z,u,t]++al (sL.length - [x,y,z,u,t].length) .az) []:=by
 refine⟨by simp,rfl,rfl,λD s aa=>?_,λD s aa=>by simp at aa⟩
 match D,aa with
 |0,aa|1,aa|2,aa|3,aa|4,aa|5,aa|6,aa|7,aa|8,aa|9,aa|10,aa|11,aa|12,aa|13,aa|14,aa|15,aa|16,aa|17,aa=>obtain rfl:=kx aa;exact⟨by decide,rfl⟩
 |D+18,aa=>simp at aa
noncomputable def acw:bh:={dst:=o 78,op:=.makeFunc (.func rO) #[] #[.tmp 9,.tmp 14,.tmp 10,.tmp 11,.tmp 12],type:=((mj (ep q5)).getD 0 default).type,pos:=((mj (ep q5)).getD 0 default).pos,after:= #[],guard:=ad}
noncomputable def acx:bh:={dst:=ad,op:=.defer {callee:=.value (.tmp 78),args:= #[],argTypes:= #[]},type:=((mj (ep q5)).getD 1 default).type,pos:=((mj (ep q5)).getD 1 default).pos,after:=((mj (ep q5)).getD 1 default).after,guard:=ad}
theorem asi:ep q5= .region 10 #[acw,acx] T:=rfl
theorem acy(fc:gI)(a:Act)(cs:List gI)(w:dy)(eJ:a.tmps.size=93):Steps ap (e3 (fc.at a [.code q5]) cs w) (e3 (fc.at {a.put (o 78) (CJ rO (u4 a [9,14,10,11,12]))with defers:=tD rO (u4 a [9,14,10,11,12])::a.defers} [.code GD]) cs w):=by
 have hw:(ep q5).wp ap (λe eP ba=>e= .normal/\ba=w/\eP={a.put (o 78) (CJ rO (u4 a [9,14,10,11,12]))with defers:=tD rO (u4 a [9,14,10,11,12])::a.defers}) a w:=by have aqD:∀(fn:Fn) (first cap:Array b1) (w:dy),(Instr.makeFunc fn first cap).run ap w= .ok (.func fn first cap) w:=λ_ _ _ _=>rfl;rw[asi];apply wp_region;simp[wpOps,go_sem,acw,acx,Act.put,Act.eval,eJ,CJ,tD,u4]
 obtain⟨e,eP,ba,⟨rfl,rfl,rfl⟩,AG⟩:=hw fc [.code GD] cs
 conv=>lhs;rw[asa]
 exact .head step_seq AG
theorem acz:∀r∈Tryz.f12.results.toList,∃i ty,r= .cell i ty/\W.e9 jK i=O:=by
 have h:Tryz.f12.results.toList.all (λr=>match r with|.cell i _=>W.e9 jK i|_=>T)=O:=by kernel_rfl
 rw[jq]at h;intro r ao;have:=h r ao;cases r with
 |tmp i=>cases this
 |cell i ty=>exact⟨i,ty,rfl,this⟩
open Go Go.RowKit
theorem asj{ms:dj}(a8:vY ms){p f:Int}{v:av}{S:bK}(cO:S.Good)(HE:S.a'<=1000000)(am:S.left<=2000)(U:v.code=0)(aH:0<=p)(a3:(ms.getD p.toNat ad).isSome)(bl:0<=f)(tF:f.toNat<(gS ms p).length){N:Nat}(eK:S.left<=N):k3 ms ⟨S,⟨p,f,0,v,[],[],T,[]⟩,[]⟩ (match ea ms N p (gY ms p f) v [] 1 S with
   |(ca,w,c)=>if c≠0 then .fail ca c else .over ca w):=by
 have ee:(⟨S,⟨p,f,0,v,[],[],T,[]⟩,[]⟩:ct).Good ms:=⟨cO,⟨aH,a3,bl,tF,U,by simp,by simp,by simp⟩,HE,by simp only[gf];omega,by simp only[gf];omega,by simp⟩;have ah:=ab1 a8 N (gY ms p f) ⟨S,⟨p,f,0,v,[],[],T,[]⟩,[]⟩ ee eK (Le a8 tF) ⟨[],[⟨105,0,0⟩],by simp[lz],rfl⟩;have rN:=oa ms N p (gY ms p f) v [] 1 S cO U (by simp);simp only[gf,hH]at ah;rcases yI:ea ms N p (gY ms p f) v [] 1 S with⟨n8,hB,cd⟩;rw[yI]at ah rN;unfold ks at ah;simp only at ah ⊢;by_cases aN:cd=0
 ·rw[if_neg (by simpa using aN)]at ah ⊢;have acA:h5 ms (ct.after ⟨S,⟨p,f,0,v,[],[],T,[]⟩,[]⟩ n8 (cI (gY ms p f) 0).length [hB]) [⟨105,0,0⟩]:=⟨cI (gY ms p f) 0,[],by simp[lz,ct.after],by simp[ct.after]⟩;have wo:=Rn (c:=[]) (st:=[]) (v:=hB) acA rfl;have Lf:=h5.at acA (ee.zr rN aN) ⟨by simp,by simp[ct.after],by simp,by simp,by simp,by simp⟩;simp only[ct.after,l9,if_false,List.getLast?_nil,bK.ok]at wo;rw[if_neg (by simp)]at wo;exact ah _ (.over Lf wo)
 ·rw[if_pos aN]at ah ⊢;exact ah
theorem k3.ok{ms:dj}{m:ct}{r:qJ}(h:k3 ms m r):xq ms m:=by cases h<;>assumption
theorem asl{h:ag}{a b c d e:E}{m:eh}{w:dy}{hj:List b1}(hw:cc ap m h w)(U:dT ap m h [a,b,c,d,e] hj):CallsD ap rO hj.toArray .returning w λe oi ba=>(∃v,e= .returned v)/\oi= .returning/\∃a9,Ext m h a9 h/\cc ap a9 h ba/\Below m.base w ba:=by refine Yx dg RJ ach aci acj aco acp (lk acn) ack acm (ga:=[a,b,c,d,e,.ig,.az,.az,.bool T,.az]) ?_ (acq _ _ _ _ _ .ig) hw U (by simp) .ig .returning λc an cs=>.inr ⟨amM c an cs,rfl,rfl⟩;unfold PU;have asm:oG .iface ad O .neq .ig .ig=o (.bool T):=rfl;simp only[ak,asm]
theorem asn{h:ag}{pt GG co xZ iw bw:Nat}{m:eh}{w:dy}{hj:List b1}{u:b1}{k fuel left:Int}{eD fR:E}{bt:List E}{bq dW:E}(hw:cc ap m h w)(U:dT ap m h [.ptr pt 0 0,.ptr GG 0 0,.ptr co 0 0,.ptr xZ 0 0,.ptr iw 0 0] hj)(Q9:bX ap m h (.iface mi (.int j k)) u)(bl:h.cell pt=o [[.int j fuel]])(hm:h.cell GG=o [[.ptr bw 0 0]])(ab:h.cell bw=o [[eD,fR,.int j left]])(aF:h.cell co=o [bt])(am:bt.length=3)(bQ:h.cell xZ=o [[bq]])(an:h.cell iw=o [[dW]])(fm:xZ≠co)(lp:iw≠co)(ll:iw≠xZ)(og:kK j (fuel - left)=fuel - left):CallsD ap rO hj.toArray (.panicking [{v:=u,recovered:=T}]) w λe oi ba=>(∃v,e= .returned v)/\oi= .panicking [{v:=u,recovered:=O}]/\∃a9,Ext m h a9 (((h.set co (o [aU])).set xZ (o [[.int j (fuel - left)]])).set iw (o [[.int j k]]))/\cc ap a9 (((h.set co (o [aU])).set xZ (o [[.int j (fuel - left)]])).set iw (o [[.int j k]])) ba/\Below m.base w ba:=by
 have r':(h.set co (o [aU])).cell xZ=o [[bq]]:=(eu fm).trans bQ;have aso:((h.set co (o [aU])).set xZ (o [[.int j (fuel - left)]])).cell iw=o [[dW]]:=(eu ll).trans ((eu lp).trans an);refine Yx dg RJ ach aci acj aco acp (lk acn) ack acm (ga:=[.ptr pt 0 0,.ptr GG 0 0,.ptr co 0 0,.ptr xZ 0 0,.ptr iw 0 0,.iface mi (.int j k),.int j k,.bool O,.bool O,.bool T]) ?_ (acq _ _ _ _ _ (.iface mi (.int j k))) hw U (by simp) Q9 (.panicking [{v:=u,recovered:=O}]) λc an cs=>.inl (amN c an cs);unfold PU;have asp:oG .iface ad O .neq (.iface mi (.int j k)) .ig=o (.bool O):=rfl;have asq:B7 mi O (.iface mi (.int j k))=o (.bU [.int j k,.bool O]):=by simp[B7]
 simp only[ak,aq,asp,asq,bl,hm,ab,aF,am,r',aso,og]
open Go Go.RowKit
abbrev sM(b bw:Nat)(code used:Int)(out:List E)(fuel:Int)(r:List E)(L:List b6):List b6:=aY (b+1+1+1+1+1+1) [[.ptr bw 0 0]]::aY (b+1+1+1+1) [[.int j code]]::aY (b+1+1+1) [[.int j used]]::aY (b+1+1) [out]::aY (b+1) [[.int j fuel]]::aY b [r]::L
abbrev wv(aO b:Nat)(p f:Int)(r:List E)(fuel:Int)(x y z:E):List E:=[.ptr aO 0 0,.int j p,.int j f,.agg r,.int j fuel,.ptr b 0 0,.ptr (b+1) 0 0,.ptr (b+1+1) 0 0,.ptr (b+1+1+1) 0 0,.ptr (b+1+1+1+1) 0 0,.int j 0,.ptr (b+1+1+1+1+1+1) 0 0,x,y,.bool T,.bool T,.bool T,z]
def asr(aj:ag)(aJ aG:Nat->Prop)(c:ix)(L:List b6)(b:Nat)(p f:Int)(r:List E)(fuel:Int)(q:qJ)(x:kw)(V:List E)(F:ag):Prop:=(∃x y z,V=wv c.aO b p f r fuel x y z)/\match q with
 |.go _=>False
 |.over S v=>x= .ret/\∃hu bj,bT v bj/\aK aj aJ aG F (sM b c.bw 0 (fuel - (S.left:Int)) bj fuel r (oW c L 0 hu S))
 |.fail S k=>x= .panic (.iface mi (.int j k))/\∃b':fJ,b'.S=S/\aK aj aJ aG F (sM b c.bw 0 0 aU fuel r (put c L 0 b'))
section
variable{h F aj:ag}{ae ai aJ aG:Nat->Prop}{L:List b6}{c:ix}
theorem ass{Bc Bd Be Bf Bg Bh:b6}{hu:Nat}{S:bK}:oW c (Bc::Bd::Be::Bf::Bg::Bh::put c L 0 b') (0+1+1+1+1+1+1) hu S=Bc::Bd::Be::Bf::Bg::Bh::oW c L 0 hu S:=by
 have:oW c (put c L 0 b') 0 hu S=oW c L 0 hu S:=by unfold oW;rw[hT]
 exact congrArg (λl=>Bc::Bd::Be::Bf::Bg::Bh::l) this
theorem acB{Bc Bd Be Bf Bg Bh:b6}{n:fJ}:put c (Bc::Bd::Be::Bf::Bg::Bh::put c L 0 n) (0+1+1+1+1+1+1) b'=Bc::Bd::Be::Bf::Bg::Bh::put c L 0 b':=by have:put c (put c L 0 n) 0 b'=put c L 0 b':=hT;exact congrArg (λl=>Bc::Bd::Be::Bf::Bg::Bh::l) this
theorem ast{i:Nat}(am:i+3<L.length)(b':fJ):eY c (put c L i b') i b':=by
 refine⟨?_,?_,?_,?_⟩<;>rw[tP]
 ·rw[if_pos (by omega),if_neg (by omega),if_neg (by omega),if_neg (by omega),if_pos rfl]
 ·rw[if_pos (by omega),if_neg (by omega),if_neg (by omega),if_pos rfl]
 ·rw[if_pos (by omega),if_neg (by omega),if_pos rfl]
 ·rw[if_pos (by omega),if_pos rfl]
theorem RN{b bw:Nat}{code used:Int}{out:List E}{fuel:Int}{r:List E}(am:3<L.length)(n:fJ):eY c (sM b bw code used out fuel r (put c L 0 n)) (0+1+1+1+1+1+1) n:=((((((ast (i:=0) am n).cons (aY b [r])).cons (aY (b+1) [[.int j fuel]])).cons (aY (b+1+1) [out])).cons (aY (b+1+1+1) [[.int j used]])).cons (aY (b+1+1+1+1) [[.int j code]])).cons (aY (b+1+1+1+1+1+1) [[.ptr bw 0 0]])
def asu:qJ->Prop
 |.go _=>False
 |.over S v=>S.left<=2000/\v.size<=100000
 |.fail S _=>S.left<=2000
theorem acC(c5:3<L.length)(an:c.ms.length=4)(hm:xr c.ms){b:Nat}{p f:Int}{r:List E}{fuel:Int}(axB:0<=fuel/\fuel<=2000){m:ct}{q:qJ}(ao:k3 c.ms m q):asu q->∀(n:fJ) (h:ag) (x y z:E),n.m=m->aK aj aJ aG h (sM b c.bw 0 0 aU fuel r (put c L 0 n))->∃e ga ah,bB (aQ ap W) 18 [.e' CM,.bP [],.cm 1,.bP [],.halt []] (wv c.aO b p f r fuel x y z) [] h=o (e,ga,ah)/\asr aj aJ aG c L b p f r fuel q e ga ah:=by
 induction ao with
 |@go m a9 q ok aC ao aZ=>
   intro aW n h x y z aE s;subst aE;have i3:=RN (c:=c) (b:=b) (bw:=c.bw) (code:=0) (used:=0) (out:=aU) (fuel:=fuel) (r:=r) c5 n;obtain⟨aI,J,au,nM⟩:=RH s i3 an hm ok λacD e=>by rw[aC]at e;cases e;exact ao.ok.cG
   rw[aC]at nM;obtain⟨bH,rfl,⟨bt,bq⟩,hu,bg⟩:=nM;rw[acB]at bg;have cp:=(s.cell 0 rfl).1;have aV:=bg.push [bH];obtain⟨e,ga,ah,bc,dW⟩:=aZ aW ⟨hu,a9.S,a9.below,a9.top⟩ (J.push [bH]) (.ptr J.n 0 0) (.bool T) (.bool T) rfl aV.drop;refine⟨e,ga,ah,?_,dW⟩;rw[<-bc];rw[cV CM.eq_1];simp only[ak,aq,ar,al,cb,bJ,cp,au,bt,bq]
 |@over m S v ok aC=>
   intro aW n h x y z aE s;subst aE;have i3:=RN (c:=c) (b:=b) (bw:=c.bw) (code:=0) (used:=0) (out:=aU) (fuel:=fuel) (r:=r) c5 n;obtain⟨aI,J,au,nM⟩:=RH s i3 an hm ok λacD e=>by rw[aC]at e;cases e
   rw[aC]at nM;obtain⟨bH,rfl,U,hu,bg⟩:=nM;rw[ass]at bg;obtain⟨HZ,tf⟩:=aW;obtain⟨bt,bq⟩:=U.cD;have cp:=(s.cell 0 rfl).1;have aV:aK aj aJ aG (J.push [bH]) (aY J.n [bH]::sM b c.bw 0 0 aU fuel r (oW c L 0 hu S)):=bg.push [bH];obtain⟨bR,ax,hN⟩:=RI _ v (b4 _) tf bH (J.push [bH]) U;have hN:bT v bR:=by rw[id_eq]at hN;exact hN
   obtain⟨dW,e4⟩:=hN.cD;have acE:(oW c L 0 hu S)[0]? =o (A3 c.bw c.aO hu (S.left:Int)):=by unfold oW;rw[List.getElem?_set_self (by rw[wn];omega)]
   have GG:=(aV.cell 7 acE).1;have ze:=(aV.cell 1 rfl).1;have pt:=(aV.cell 5 rfl).1;have co:=(aV.cell 4 rfl).1;have br:=aV.set 4 rfl [bR];have br:aK aj aJ aG _ (aY J.n [bH]::sM b c.bw 0 0 bR fuel r (oW c L 0 hu S)):=br;have asv:=(br.cell 7 acE).1;have asw:=(br.cell 1 rfl).1;have asx:=(br.cell 5 rfl).1;have asy:=(br.cell 3 rfl).1;have bz:=br.set 3 rfl [[.int j (fuel - (S.left:Int))]];have bz:aK aj aJ aG _ (aY J.n [bH]::sM b c.bw 0 (fuel - (S.left:Int)) bR fuel r (oW c L 0 hu S)):=bz;have asz:=(bz.cell 2 rfl).1;have b8:=bz.set 2 rfl [[.int j 0]];have w:kK j (fuel - (S.left:Int))=fuel - (S.left:Int):=eL (by omega) (by omega);have f2:b5 2 (.ptr c.bw 0 0)=o (.ptr c.bw 0 2):=rfl;refine⟨.ret,wv c.aO b p f r fuel (.ptr J.n 0 0) (.bool O) (.bool O),_,?_,⟨_,_,_,rfl⟩,rfl,hu,bR,hN,b8.drop⟩;rw[cV CM.eq_1];simp only[ak,aq,ar,al,cb,bJ,cp,au,bt,bq,dW,e4,ax,GG,ze,pt,co,asv,asw,asx,asy,asz,w,f2]
 |@fail m S k ok aC=>
   intro aW n h x y z aE s;subst aE;have i3:=RN (c:=c) (b:=b) (bw:=c.bw) (code:=0) (used:=0) (out:=aU) (fuel:=fuel) (r:=r) c5 n;obtain⟨aI,J,au,nM⟩:=RH s i3 an hm ok λacD e=>by rw[aC]at e;cases e
   rw[aC]at nM;obtain⟨rfl,b',ri,bg⟩:=nM;rw[acB]at bg;have cp:=(s.cell 0 rfl).1;refine⟨.panic (.iface mi (.int j k)),wv c.aO b p f r fuel x y z,_,?_,⟨_,_,_,rfl⟩,rfl,b',ri,bg⟩;rw[cV CM.eq_1];simp only[ak,aq,ar,al,cb,bJ,cp,au]
end
open Go Go.RowKit
abbrev RO:List n5:=[.cell O 3 7,.cell T 1 8,.cell T 1 9]
noncomputable def zw(V:List E)(h:ag):Option ((E⊕E)×ag):=((iF V h RO).map iV).map λv=>(.inl v,h)
noncomputable def x0(x:ls)(k:List E->ag->Option ((E⊕E)×ag)):Option ((E⊕E)×ag):=match x with
 |some (.halt _,V,h)=>k V h
 |some (.ret,V,h)=>zw V h
 |_=>ad
noncomputable def Lo(args:List E)(h:ag)(x:ls):Option ((E⊕E)×ag):=match x with
 |some (.ret,V,b9)=>zw V b9
 |some (.panic (.iface _ (.int _ k)),V,b9)=>match b9.cell (h.n+1+1+1+1+1),args with
   |some [[_,_,.int _ left]],[_,_,_,_,.int _ fuel]=>zw V (((b9.set (h.n+1+1) (o [aU])).set (h.n+1+1+1) (o [[.int j (fuel - left)]])).set (h.n+1+1+1+1) (o [[.int j k]]))
   |_,_=>ad
 |_=>ad
noncomputable abbrev qi:=aQ (ap) W
noncomputable def Da(args:List E)(h:ag):Option ((E⊕E)×ag):=x0 (bB qi 18 [.bP JR,.halt [.code wu]] (args++al (sL.length - args.length) .az) [] h) λGH J=>
 x0 (bB qi 18 [.bP za,.halt [.code vk]] GH [] J) λoq R=>
 x0 (bB qi 18 [.bP JT,.halt [.code xX]] oq [] R) λvm ah=>
 x0 (bB qi 18 [.bP JU,.halt [.code xY]] vm [] ah) λasA aD=>
 x0 (bB qi 18 [.bP JV,.halt [.code q5]] asA [] aD) λasB bo=>
 Lo args h (bB qi 18 [.bP FF,.halt []] asB [] bo)
def acF(ae ai:Nat->Prop)(aO ck cr:Nat)(ms:dj)(S:bK)(h:ag)(d:bK×av×Int×Int)(q:(E⊕E)×ag):Prop:=∃bj F,q=(.inl (.bU [.agg bj,.int j d.2.2.1,.int j d.2.2.2]),F)/\bT d.2.1 bj/\gw h ae ai F (cf [hQ aO ck cr ms d.1.kept,bi ck d.1.G,h3 cr d.1.cells d.1.log])
def Lp(ae ai:Nat->Prop)(aO ck cr:Nat)(ms:dj)(S:bK)(h:ag)(args:List E)(d:bK×av×Int×Int):Prop:=∃q,Da args h=o q/\AC ap jK args h q/\acF ae ai aO ck cr ms S h d q
section
variable{h F aj:ag}{ae ai aJ aG:Nat->Prop}{L:List b6}{aO ck cr:Nat}{ms:dj}{S:bK}{p f fuel:Int}{v:av}{r:List E}
abbrev lI(b:Nat)(code used:Int)(out:List E)(fuel:Int)(r:List E)(L:List b6):List b6:=aY (b+1+1+1+1) [[.int j code]]::aY (b+1+1+1) [[.int j used]]::aY (b+1+1) [out]::aY (b+1) [[.int j fuel]]::aY b [r]::L
abbrev tW(aO b:Nat)(p f:Int)(r:List E)(fuel:Int)(c x y z:E):List E:=[.ptr aO 0 0,.int j p,.int j f,.agg r,.int j fuel,.ptr b 0 0,.ptr (b+1) 0 0,.ptr (b+1+1) 0 0,.ptr (b+1+1+1) 0 0,.ptr (b+1+1+1+1) 0 0,c,.az,.az,.az,x,y,z,.az]
abbrev kD(h:ag)(r:List E)(fuel:Int):ag:=((((h.push [r]).push [[.int j fuel]]).push [aU]).push [[.int j 0]]).push [[.int j 0]]
abbrev rP(aO:Nat)(p f:Int)(r:List E)(fuel:Int):List E:=[.ptr aO 0 0,.int j p,.int j f,.agg r,.int j fuel]
theorem GI(U:bT v r):bB qi 18 [.bP JR,.halt [.code wu]] (rP aO p f r fuel++al (sL.length - (rP aO p f r fuel).length) .az) [] h=o (.halt [.code wu],tW aO h.n p f r fuel .az .az .az .az,kD h r fuel):=by obtain⟨bt,bq⟩:=U.cD;unfold JR;simp only[ak,aq,ar,al,bt,bq]
theorem GJ(s:aK aj aJ aG h L):aK aj aJ aG (kD h r fuel) (lI h.n 0 0 aU fuel r L):=((((s.push [r]).push [[.int j fuel]]).push [aU]).push [[.int j 0]]).push [[.int j 0]]
theorem RP{V:List E}{F:ag}{I u c:Nat}{bj:List E}{used code:Int}(c4:V.getD 7 .az= .ptr I 0 0)(hh:V.getD 8 .az= .ptr u 0 0)(ru:V.getD 9 .az= .ptr c 0 0)(aF:F.cell I=o [bj])(ao:bj.length=3)(bQ:F.cell u=o [[.int j used]])(an:F.cell c=o [[.int j code]]):(iF V F RO).map iV=o (.bU [.agg bj,.int j used,.int j code]):=by
 have au:cS O 3 F (.ptr I 0 0)=o (.agg bj):=by rw[fL,aF];exact gX ao
 have ax:cS T 1 F (.ptr u 0 0)=o (.int j used):=by rw[fL,bQ];rfl
 have bc:cS T 1 F (.ptr c 0 0)=o (.int j code):=by rw[fL,an];rfl
 simp only[iF,c4,hh,ru,au,ax,bc,c2,hF,iV]
theorem Lq(U:bT v r):nI ap W jK 93 sL (rP aO p f r fuel) h (.halt [.code wu]) (tW aO h.n p f r fuel .az .az .az .az) (kD h r fuel):=(nI.start C' ar6 ar7 (ash _ _ _ _ _)).next (aL:=18) dg ar8 (lk vl) asb ase (GI U)
abbrev Bi(h:ag)(r:List E)(fuel code:Int):ag:=(((kD h r fuel).set (h.n+1+1) (o [aU])).set (h.n+1+1+1) (o [[.int j 0]])).set (h.n+1+1+1+1) (o [[.int j code]])
theorem acG(s:aK aj aJ aG h L)(code:Int):aK aj aJ aG (Bi h r fuel code) (lI h.n code 0 aU fuel r L):=by have bg:aK aj aJ aG (kD h r fuel) (lI h.n 0 0 aU fuel r L):=GJ s;have aV:aK aj aJ aG _ (lI h.n 0 0 aU fuel r L):=bg.set 2 rfl [aU];have br:aK aj aJ aG _ (lI h.n 0 0 aU fuel r L):=aV.set 1 rfl [[.int j 0]];exact br.set 0 rfl [[.int j code]]
theorem Db{V:List E}(c4:V.getD 7 .az= .ptr (h.n+1+1) 0 0)(hh:V.getD 8 .az= .ptr (h.n+1+1+1) 0 0)(ru:V.getD 9 .az= .ptr (h.n+1+1+1+1) 0 0)(s:aK aj aJ aG h L)(code:Int):(iF V (Bi h r fuel code) RO).map iV=o (.bU [.agg aU,.int j 0,.int j code]):=by have bg:aK aj aJ aG (Bi h r fuel code) (lI h.n code 0 aU fuel r L):=acG s code;exact RP c4 hh ru (bg.cell 2 rfl).1 rfl (bg.cell 1 rfl).1 (bg.cell 0 rfl).1
theorem RQ(x:(cf [hQ aO ck cr ms S.kept,bi ck S.G,h3 cr S.cells S.log]).A h ae ai)(code:Int):acF ae ai aO ck cr ms S h (S,cv,0,code) (.inl (.bU [.agg aU,.int j 0,.int j code]),Bi h r fuel code):=⟨aU,_,rfl,e6,(acG (aK.start x) code).drop.drop.drop.drop.drop⟩
theorem asC(U:bT v r)(x:(cf [hQ aO ck cr ms S.kept,bi ck S.G,h3 cr S.cells S.log]).A h ae ai)(ao:fuel<0\/2000<fuel\/p<0\/4<=p):Lp ae ai aO ck cr ms S h (rP aO p f r fuel) (S,cv,0,1):=by
 have bg:aK h ae ai (kD h r fuel) (lI h.n 0 0 aU fuel r _):=GJ (aK.start x);have aP:=(bg.cell 0 rfl).1;have bu:=(bg.cell 1 rfl).1;have cd:=(bg.cell 2 rfl).1;have dU:=(bg.cell 3 rfl).1;have aV:aK h ae ai _ (lI h.n 0 0 aU fuel r _):=bg.set 2 rfl [aU];have d2:=(aV.cell 1 rfl).1;have br:aK h ae ai _ (lI h.n 0 0 aU fuel r _):=aV.set 1 rfl [[.int j 0]];have ax:=(br.cell 0 rfl).1;have run:bB qi 18 [.bP za,.halt [.code vk]] (tW aO h.n p f r fuel .az .az .az .az) [] (kD h r fuel)=o (.ret,tW aO h.n p f r fuel .az (.bool O) .az .az,Bi h r fuel 1):=by
  unfold za;by_cases J:fuel<0
  ·have cE:decide (fuel<0)=O:=decide_eq_true J;simp only[ak,aq,cd,dU,d2,ax,cE]
  ·have cE:decide (fuel<0)=T:=decide_eq_false J;by_cases R:2000<fuel
   ·have c6:decide (2000<fuel)=O:=decide_eq_true R;simp only[ak,aq,cd,dU,d2,ax,cE,c6]
   ·have c6:decide (2000<fuel)=T:=decide_eq_false R;by_cases ah:p<0
    ·have eb:decide (p<0)=O:=decide_eq_true ah;simp only[ak,aq,cd,dU,d2,ax,cE,c6,eb]
    ·have eb:decide (p<0)=T:=decide_eq_false ah;have dx:decide (4<=p)=O:=decide_eq_true (by omega);simp only[ak,aq,cd,dU,d2,ax,cE,c6,eb,dx]
 refine⟨_,?_,((Lq U).next (aL:=18) dg Ll (lk vl) Lm Ln run).ret C' GF (Db rfl rfl rfl (aK.start x) 1),RQ x 1⟩;unfold Da;rw[GI U];simp only[x0];rw[run];simp only[zw];rw[Db rfl rfl rfl (aK.start x) 1];rfl
theorem acH{i:Nat}(s:aK aj aJ aG h L){kept:List av}(af:L[i]? =o (hQ aO ck cr ms kept))(am:ms.length=kept.length)(aD:ms.length=4){P:Nat}(aH:P<4):(∀q:gx,dO ad (o (4,5)) (.ptr aO 0 2) (.int q (P:Int))=o (.ptr aO 0 (2+P*5)))/\(∀k:Nat,cS T k h (.ptr aO 0 (2+P*5))=o (.bool (ms.getD P ad).isSome))/\(∀k:Nat,cS T k h (.ptr aO 0 (2+P*5+1))=o (qL (ms.getD P ad))):=by
 obtain⟨ae,ai,x⟩:=s.get i af;obtain⟨row,aP,Gl,_,_,_,jZ⟩:=KU x am;obtain⟨bM,bL,_⟩:=jZ P (by rw[aD];exact aH);refine⟨λq=>by simp[dO,aH],λk=>?_,λk=>?_⟩
 ·rw[fL,aP,c2,mY,c2,gi,bM]
 ·rw[fL,aP,c2,mY,c2,gi,bL]
theorem acI(m:Option (List bx)):hX (qL m)=o (m.getD []).length/\∀s,j3 s (o RB) (qL m)=O:=by
 cases m with
 |none=>exact⟨rfl,λs=>rfl⟩
 |some L=>exact⟨(A9 L).1,λs=>(A9 L).2.1 s⟩
theorem GT(U:bT v r)(x:(cf [hQ aO ck cr ms S.kept,bi ck S.G,h3 cr S.cells S.log]).A h ae ai)(aD:ms.length=4)(cO:S.Good)(ao:¬(fuel<0\/2000<fuel\/p<0\/4<=p))(aE:(ms.getD p.toNat ad).isNone\/f<0\/((gS ms p).length:Int)<=f):Lp ae ai aO ck cr ms S h (rP aO p f r fuel) (S,cv,0,8):=by
 have bg:aK h ae ai (kD h r fuel) (lI h.n 0 0 aU fuel r [hQ aO ck cr ms S.kept,bi ck S.G,h3 cr S.cells S.log]):=GJ (aK.start x);have aP:=(bg.cell 0 rfl).1;have bu:=(bg.cell 1 rfl).1;have cd:=(bg.cell 2 rfl).1;have dU:=(bg.cell 3 rfl).1;have aV:aK h ae ai _ (lI h.n 0 0 aU fuel r _):=bg.set 2 rfl [aU];have d2:=(aV.cell 1 rfl).1;have br:aK h ae ai _ (lI h.n 0 0 aU fuel r _):=aV.set 1 rfl [[.int j 0]];have ax:=(br.cell 0 rfl).1;have cE:decide (fuel<0)=T:=decide_eq_false (by omega);have c6:decide (2000<fuel)=T:=decide_eq_false (by omega);have eb:decide (p<0)=T:=decide_eq_false (by omega);have dx:decide (4<=p)=T:=decide_eq_false (by omega);obtain⟨P,fT⟩:=lE (show 0<=p by omega);subst fT;obtain⟨bV,hR,cg⟩:=acH bg (i:=5) (kept:=S.kept) rfl (aD.trans cO.kept.symm) aD (P:=P) (by omega);obtain⟨mB,pt⟩:=acI (ms.getD P ad);have f2:b5 2 (.ptr aO 0 0)=o (.ptr aO 0 2):=rfl;have f0:b5 0 (.ptr aO 0 (2+P*5))=o (.ptr aO 0 (2+P*5)):=rfl;have f1:b5 1 (.ptr aO 0 (2+P*5))=o (.ptr aO 0 (2+P*5+1)):=rfl;have run:bB qi 18 [.bP za,.halt [.code vk]] (tW aO h.n P f r fuel .az .az .az .az) [] (kD h r fuel)=o (.ret,tW aO h.n P f r fuel .az (.bool T) (.bool O) .az,Bi h r fuel 8):=by
  unfold za;by_cases J:(ms.getD P ad).isSome=O
  ·by_cases R:f<0
   ·have gW:decide (f<0)=O:=decide_eq_true R;simp only[ak,aq,cd,dU,d2,ax,cE,c6,eb,dx,bV,hR,f0,f2,J,gW]
   ·have gW:decide (f<0)=T:=decide_eq_false R;have iD:decide ((((ms.getD P ad).getD []).length:Int)<=f)=O:=decide_eq_true (by
     rcases aE with aE|aE|aE
     ·rw[show((P:Nat):Int).toNat=P from rfl]at aE;cases hm:ms.getD P ad with
      |none=>rw[hm]at J;cases J
      |some l=>rw[hm]at aE;cases aE
     ·exact absurd aE R
     ·exact aE)
    simp only[ak,aq,cd,dU,d2,ax,cE,c6,eb,dx,bV,hR,cg,f0,f1,f2,J,gW,mB,pt,iD]
  ·have kW:(ms.getD P ad).isSome=T:=by simpa using J
   simp only[ak,aq,cd,dU,d2,ax,cE,c6,eb,dx,bV,hR,f0,f2,kW]
 refine⟨_,?_,((Lq U).next (aL:=18) dg Ll (lk vl) Lm Ln run).ret C' GF (Db rfl rfl rfl (aK.start x) 8),RQ x 8⟩;unfold Da;rw[GI U];simp only[x0];rw[run];simp only[zw];rw[Db rfl rfl rfl (aK.start x) 8];rfl
theorem acJ(bg:aK aj aJ aG (kD h r fuel) (lI h.n 0 0 aU fuel r (hQ aO ck cr ms S.kept::L)))(aD:ms.length=4)(cO:S.Good)(ao:¬(fuel<0\/2000<fuel\/p<0\/4<=p))(aE:¬((ms.getD p.toNat ad).isNone\/f<0\/((gS ms p).length:Int)<=f)):bB qi 18 [.bP za,.halt [.code vk]] (tW aO h.n p f r fuel .az .az .az .az) [] (kD h r fuel)=o (.halt [.code vk],tW aO h.n p f r fuel .az (.bool T) (.bool T) .az,kD h r fuel):=by
 have dU:=(bg.cell 3 rfl).1;have cE:decide (fuel<0)=T:=decide_eq_false (by omega);have c6:decide (2000<fuel)=T:=decide_eq_false (by omega);have eb:decide (p<0)=T:=decide_eq_false (by omega);have dx:decide (4<=p)=T:=decide_eq_false (by omega);obtain⟨P,fT⟩:=lE (show 0<=p by omega);subst fT;obtain⟨bV,hR,cg⟩:=acH bg (i:=5) (kept:=S.kept) rfl (aD.trans cO.kept.symm) aD (P:=P) (by omega);obtain⟨mB,pt⟩:=acI (ms.getD P ad);have f2:b5 2 (.ptr aO 0 0)=o (.ptr aO 0 2):=rfl;have f0:b5 0 (.ptr aO 0 (2+P*5))=o (.ptr aO 0 (2+P*5)):=rfl;have f1:b5 1 (.ptr aO 0 (2+P*5))=o (.ptr aO 0 (2+P*5+1)):=rfl;have acK:¬(ms.getD P ad).isNone=O:=λe=>aE (.inl e);have J:(ms.getD P ad).isSome=O:=by cases hm:ms.getD P ad with
  |none=>rw[hm]at acK;exact absurd rfl acK
  |some l=>rfl
 have gW:decide (f<0)=T:=decide_eq_false λe=>aE (.inr (.inl e));have iD:decide ((((ms.getD P ad).getD []).length:Int)<=f)=T:=decide_eq_false λe=>aE (.inr (.inr e));unfold za;simp only[ak,dU,cE,c6,eb,dx,bV,hR,cg,f0,f1,f2,J,gW,mB,pt,iD]
theorem acL(bg:aK aj aJ aG (kD h r fuel) (lI h.n 0 0 aU fuel r L))(U:bT v r):bB qi 18 [.bP JT,.halt [.code xX]] (tW aO h.n p f r fuel .az (.bool T) (.bool T) .az) [] (kD h r fuel)=if v.code=0 then o (.halt [.code xX],tW aO h.n p f r fuel (.int j 0) (.bool T) (.bool T) (.bool T),kD h r fuel)else o (.ret,tW aO h.n p f r fuel (.int j v.code) (.bool T) (.bool T) (.bool O),Bi h r fuel v.code):=by
 have aP:=(bg.cell 0 rfl).1;have bu:=(bg.cell 1 rfl).1;have cd:=(bg.cell 2 rfl).1;have gg:=(bg.cell 4 rfl).1;have aV:aK aj aJ aG _ (lI h.n 0 0 aU fuel r _):=bg.set 2 rfl [aU];have d2:=(aV.cell 1 rfl).1;have br:aK aj aJ aG _ (lI h.n 0 0 aU fuel r _):=aV.set 1 rfl [[.int j 0]];have ax:=(br.cell 0 rfl).1;have bZ:=Km (h:=kD h r fuel) U;obtain⟨bt,bq⟩:=U.cD;unfold JT;by_cases aN:v.code=0
 ·have k:decide (v.code=0)=O:=decide_eq_true aN;rw[if_pos aN];rw[aN]at bZ k;simp only[ak,aq,bJ,cd,gg,d2,ax,bt,bZ]
 ·have k:decide (v.code=0)=T:=decide_eq_false aN;rw[if_neg aN];simp only[ak,aq,bJ,cd,gg,d2,ax,bt,bZ,k]
end
open Go Go.RowKit
section
variable{h F aj:ag}{ae ai aJ aG:Nat->Prop}{L:List b6}{aO ck cr:Nat}{ms:dj}{S:bK}{p f fuel:Int}{v:av}{r:List E}
theorem asD{bw bk:Nat}{left:Int}{top:iO}{a:List E}{g:E}(aX:bT top.arg a)(a8:fo 3 g (gl top.eW))(aC:top.stack=[])(aE:top.names=[])(x:(cf (aY bw [[.ptr aO 0 0,.bn bk 0 1 fH,.int j left]]::aY bk [g7 top a .aA .aA g]::L)).A h ae ai):(cf (jc bw aO bk left [] top::L)).A h ae ai:=by refine rD (λh ae ai x=>?_) (λ_ _ _ y=>y) (E7 x);obtain⟨ez,eA,dX,ec,b3,dH,r⟩:=x;refine⟨⟨[],g7 top a .aA .aA g,[]⟩,ez,eA,dX,ec,b3,⟨dX,ec,λ_=>False,λ_=>False,dH,⟨λ_=>False,λ_=>False,λ_=>False,λ_=>False,aa3 aX a8 aC aE,⟨trivial,λ_ h=>h,λ_ h=>h⟩,λk=>by simp,λD=>by simp,λ_ h=>h.elim,λ_ h=>h.elim⟩,λk=>by simp,λD=>by simp,λ_ _ h=>h,λ_ _ h=>h⟩,r⟩
abbrev zx(p f:Int)(v:av):iO:=⟨p,f,0,v,[],[],T,[]⟩
abbrev x1(h:ag)(aO:Nat)(r:List E)(fuel:Int):ag:=((kD h r fuel).push [[.ptr aO 0 0,.aA,.int j fuel]]).push [[.ptr (h.n+1+1+1+1+1) 0 0]]
abbrev Bj(h:ag):Nat:=h.n+1+1+1+1+1+1+1
abbrev Dc(h:ag)(aO:Nat)(p f:Int)(v:av)(r bR:List E)(fuel:Int):ag:=((x1 h aO r fuel).push [g7 (zx p f v) bR .aA .aA .aA]).set (h.n+1+1+1+1+1) (o [[.ptr aO 0 0,.bn (Bj h) 0 1 fH,.int j fuel]])
theorem asE(bg:aK aj aJ aG (kD h r fuel) (lI h.n 0 0 aU fuel r L)):bB qi 18 [.bP JU,.halt [.code xY]] (tW aO h.n p f r fuel (.int j 0) (.bool T) (.bool T) (.bool T)) [] (kD h r fuel)=o (.halt [.code xY],wv aO h.n p f r fuel .az .az .az,x1 h aO r fuel):=by have dU:=(bg.cell 3 rfl).1;have gg:((((kD h r fuel).push [[.ptr aO 0 0,.aA,.int j fuel]]).push [[.e2]]).cell (h.n+1+1+1+1+1+1))=o [[.e2]]:=iG (h:=(kD h r fuel).push [[.ptr aO 0 0,.aA,.int j fuel]]);have ic:∀x,(((kD h r fuel).push [[.ptr aO 0 0,.aA,.int j fuel]]).push [[.e2]]).set (h.n+1+1+1+1+1+1) (o x)=((kD h r fuel).push [[.ptr aO 0 0,.aA,.int j fuel]]).push x:=λx=>i9 (h:=(kD h r fuel).push [[.ptr aO 0 0,.aA,.int j fuel]]);unfold JU;simp only[ak,aq,bW,dU,gg,ic]
theorem acM(bg:aK aj aJ aG (kD h r fuel) (lI h.n 0 0 aU fuel r L)):aK aj aJ aG (x1 h aO r fuel) (aY (h.n+1+1+1+1+1+1) [[.ptr (h.n+1+1+1+1+1) 0 0]]::aY (h.n+1+1+1+1+1) [[.ptr aO 0 0,.aA,.int j fuel]]::lI h.n 0 0 aU fuel r L):=(bg.push _).push _
theorem asF(bg:aK aj aJ aG (kD h r fuel) (lI h.n 0 0 aU fuel r L))(U:bT v r)(fl:v.size<=100000):∃bR,bT v bR/\bB qi 18 [.bP JV,.halt [.code q5]] (wv aO h.n p f r fuel .az .az .az) [] (x1 h aO r fuel)=o (.halt [.code q5],wv aO h.n p f r fuel .az .az .az,Dc h aO p f v r bR fuel):=by
 obtain⟨bR,ax,hN⟩:=RI _ v (b4 _) fl r (x1 h aO r fuel) U;have hN:bT v bR:=by rw[id_eq]at hN;exact hN
 refine⟨bR,hN,?_⟩;obtain⟨bt,bq⟩:=U.cD;obtain⟨dW,e4⟩:=hN.cD;have eM:aK aj aJ aG (x1 h aO r fuel) (aY (h.n+1+1+1+1+1+1) [[.ptr (h.n+1+1+1+1+1) 0 0]]::aY (h.n+1+1+1+1+1) [[.ptr aO 0 0,.aA,.int j fuel]]::lI h.n 0 0 aU fuel r L):=acM bg;have cp:=(eM.cell 0 rfl).1;have ic:=(eM.cell 6 rfl).1;have g8:=eM.push [g7 (zx p f v) bR .aA .aA .aA];have d0:=(g8.cell 1 rfl).1;have d1:=(g8.cell 2 rfl).1;have f1:b5 1 (.ptr (h.n+1+1+1+1+1) 0 0)=o (.ptr (h.n+1+1+1+1+1) 0 1):=rfl;obtain⟨nf,fs,jy,rfl⟩:∃a b c,bR=[a,b,c]:=by match bR,dW with|[a,b,c],_=>exact⟨a,b,c,rfl⟩
 simp only[pO,List.all_nil,pZ,hx]at e4;obtain⟨hl,lS,kj⟩:=e4;have asG:(x1 h aO r fuel).n=Bj h:=rfl;unfold Dc;generalize x1 h aO r fuel=aw at*;simp only[g7,k6,m3,lQ]at d0 d1 ⊢;unfold JV;simp only[ak,aq,al,bW,bJ,cp,ic,bt,ax,d0,d1,f1,hl,lS,kj,asG]
abbrev sN(h:ag):Nat:=h.n+1+1+1+1+1
abbrev GK(h:ag)(aO ck cr:Nat)(ms:dj)(S:bK)(p f:Int)(v:av):List b6:=[jc (sN h) aO (Bj h) (S.left:Int) [] (zx p f v),hQ aO ck cr ms S.kept,bi ck S.G,h3 cr S.cells S.log]
theorem asH{bR:List E}(bg:aK aj aJ aG (kD h r fuel) (lI h.n 0 0 aU fuel r [hQ aO ck cr ms S.kept,bi ck S.G,h3 cr S.cells S.log]))(hN:bT v bR)(bl:(S.left:Int)=fuel):aK aj aJ aG (Dc h aO p f v r bR fuel) (sM h.n (sN h) 0 0 aU fuel r (GK h aO ck cr ms S p f v)):=by have eM:aK aj aJ aG (x1 h aO r fuel) (aY (h.n+1+1+1+1+1+1) [[.ptr (h.n+1+1+1+1+1) 0 0]]::aY (h.n+1+1+1+1+1) [[.ptr aO 0 0,.aA,.int j fuel]]::lI h.n 0 0 aU fuel r [hQ aO ck cr ms S.kept,bi ck S.G,h3 cr S.cells S.log]):=acM bg;have g8:=eM.push [g7 (zx p f v) bR .aA .aA .aA];have kP:=g8.set 2 rfl [[.ptr aO 0 0,.bn (Bj h) 0 1 fH,.int j fuel]];have zu:=kP.front 2 rfl;have xW:aK aj aJ aG (Dc h aO p f v r bR fuel) (jc (sN h) aO (Bj h) (S.left:Int) [] (zx p f v)::([aY (h.n+1+1+1+1+1+1) [[.ptr (sN h) 0 0]],aY (h.n+1+1+1+1) [[.int j 0]],aY (h.n+1+1+1) [[.int j 0]],aY (h.n+1+1) [aU],aY (h.n+1) [[.int j fuel]],aY h.n [r]]++[hQ aO ck cr ms S.kept,bi ck S.G,h3 cr S.cells S.log])):=zu.imp λ_ _ _ x=>asD (top:=zx p f v) hN (.inl ⟨rfl,rfl⟩) rfl rfl (by rw[bl];exact x);exact xW.imp λ_ _ _=>aK.perm List.perm_middle.symm
theorem asI(U:bT v r)(fl:v.size<=100000)(x:(cf [hQ aO ck cr ms S.kept,bi ck S.G,h3 cr S.cells S.log]).A h ae ai)(aD:ms.length=4)(a8:vY ms)(hm:xr ms)(cO:S.Good)(Bk:S.log.length<=900000)(ao:¬(fuel<0\/2000<fuel\/p<0\/4<=p))(aE:¬((ms.getD p.toNat ad).isNone\/f<0\/((gS ms p).length:Int)<=f))(an:v.code=0):Lp ae ai aO ck cr ms S h (rP aO p f r fuel) (match ea ms fuel.toNat p (gY ms p f) v [] 1 {S with left:=fuel.toNat}with
  |(ca,w,c)=>({ca with left:=S.left},if c=0 then w else cv,fuel - (ca.left:Int),c)):=by
 have bg:aK h ae ai (kD h r fuel) (lI h.n 0 0 aU fuel r [hQ aO ck cr ms S.kept,bi ck S.G,h3 cr S.cells S.log]):=GJ (aK.start x);have pg:=acJ (p:=p) (f:=f) bg aD cO ao aE;have sc:=acL (aO:=aO) (p:=p) (f:=f) bg U;rw[if_pos an]at sc;have bH:=asE (aO:=aO) (p:=p) (f:=f) bg;obtain⟨bR,hN,acN⟩:=asF (aO:=aO) (p:=p) (f:=f) bg U fl;have Nw:((fuel.toNat:Nat):Int)=fuel:=Int.toNat_of_nonneg (by omega);have g8:aK h ae ai (Dc h aO p f v r bR fuel) (sM h.n (sN h) 0 0 aU fuel r (GK h aO ck cr ms {S with left:=fuel.toNat} p f v)):=asH (S:={S with left:=fuel.toNat}) bg hN Nw;have dA:=Lq (aO:=aO) (p:=p) (f:=f) (fuel:=fuel) (h:=h) U;have ft:=dA.next (aL:=18) dg Ll (lk vl) Lm Ln pg;have iM:=ft.next (aL:=18) dg acr (lk vl) acs acu sc;have kZ:=iM.next (aL:=18) dg ar9 (lk vl) asc asf bH;have w':=kZ.next (aL:=18) dg ar' (lk vl) asd asg acN;have cy:∀q,Lo (rP aO p f r fuel) h (bB qi 18 [.bP FF,.halt []] (wv aO h.n p f r fuel .az .az .az) [] (Dc h aO p f v r bR fuel))=o q->Da (rP aO p f r fuel) h=o q:=λq aW=>by unfold Da;rw[GI U];simp only[x0];rw[pg];simp only;rw[sc];simp only;rw[bH];simp only;rw[acN];simp only;exact aW
 have Lr:({S with left:=fuel.toNat}:bK).Good:=⟨cO.wf,cO.cells,cO.kept,cO.qK⟩;have rt:0<=p:=by omega
 have Bb:(ms.getD p.toNat ad).isSome=O:=by
  cases hm:ms.getD p.toNat ad with
  |none=>rw[hm]at aE;exact absurd (.inl rfl) aE
  |some l=>rfl
 have asJ:0<=f:=by
  rcases Int.lt_or_le f 0 with h|h
  ·exact absurd (.inr (.inl h)) aE
  ·exact h
 have tF:f.toNat<(gS ms p).length:=by
  rcases Int.lt_or_le f ((gS ms p).length:Int)with h|h
  ·omega
  ·exact absurd (.inr (.inr h)) aE
 have runs:=asj a8 (p:=p) (f:=f) (v:=v) (N:=fuel.toNat) Lr (by unfold bK.a';simp only;omega) (by simp only;omega) an rt Bb asJ tF (b4 _);have lG:=oa ms fuel.toNat p (gY ms p f) v [] 1 _ Lr an (by simp);have hle:=Cj ms fuel.toNat p (gY ms p f) v [] 1 {S with left:=fuel.toNat};generalize ea ms fuel.toNat p (gY ms p f) v [] 1 {S with left:=fuel.toNat}=Bl at runs lG hle ⊢;obtain⟨ca,w,c⟩:=Bl;simp only at runs lG hle ⊢;have am:∀V F,bB qi 18 [.bP FF,.halt []] V [] F=bB qi 18 [.e' CM,.bP [],.cm 1,.bP [],.halt []] V [] F:=λV F=>by unfold FF;rw[UY,UZ]
 rw[am]at cy;have JM:∃ps,(ap).funcs[(rO:Nat)]? =o ps/\(ps.body.isNone=T/\(ps.name== "runtime.NumGoroutine")=T):=⟨_,RJ,by kernel_rfl,by kernel_rfl⟩;have ne:∀{a b:Nat},a<b->¬(b=a):=λh e=>by omega
 by_cases aN:c=0
 ·subst aN;rw[if_neg (by simp)]at runs;obtain⟨e,ga,ah,bc,⟨b3,fs,eD,rfl⟩,rfl,hu,bj,mR,kP⟩:=acC (c:=⟨sN h,aO,ck,cr,ms⟩) (L:=GK h aO ck cr ms {S with left:=fuel.toNat} p f v) (b:=h.n) (p:=p) (f:=f) (r:=r) (fuel:=fuel) (show 3<4 by decide) aD hm (by omega) runs ⟨by omega,by have:=(xp (lG.1.val rfl)).1;simp only at this;omega⟩ ⟨Bj h,{S with left:=fuel.toNat},[],zx p f v⟩ _ .az .az .az rfl g8;have kH:=RP (V:=wv aO h.n p f r fuel b3 fs eD) rfl rfl rfl (kP.cell 3 rfl).1 mR.cD.1 (kP.cell 2 rfl).1 (kP.cell 1 rfl).1;refine⟨_,cy _ ?_,Ys (aL:=18) (hC:=[9,14,10,11,12]) (tC:=[6,11,7,8,9]) dg w' C' JM (by decide) rfl (by decide) acy (lk vl) act acv ((am _ _).trans bc) acz (.ret λm w hj hw yC=>asl hw yC) GF kH,bj,ah,rfl,mR,?_⟩
  ·rw[bc];simp only[Lo,zw];rw[kH];rfl
  ·exact kP.drop.drop.drop.drop.drop.drop.drop
 ·rw[if_pos aN]at runs;obtain⟨e,ga,ah,bc,⟨b3,fs,eD,rfl⟩,rfl,b',ri,kP⟩:=acC (c:=⟨sN h,aO,ck,cr,ms⟩) (L:=GK h aO ck cr ms {S with left:=fuel.toNat} p f v) (b:=h.n) (p:=p) (f:=f) (r:=r) (fuel:=fuel) (show 3<4 by decide) aD hm (by omega) runs (show ca.left<=2000 by omega) ⟨Bj h,{S with left:=fuel.toNat},[],zx p f v⟩ _ .az .az .az rfl g8;subst ri;have kP:aK h ae ai ah (sM h.n (sN h) 0 0 aU fuel r [jc (sN h) aO b'.bk (b'.S.left:Int) b'.below b'.top,hQ aO ck cr ms b'.S.kept,bi ck b'.S.G,h3 cr b'.S.cells b'.S.log]):=kP;have hy:=(kP.cell 0 rfl).1;have cE:=(kP.cell 1 rfl).1;have c6:=(kP.cell 2 rfl).1;have eb:=(kP.cell 3 rfl).1;have dx:=(kP.cell 4 rfl).1;obtain⟨gu,dm,aL,g,a4⟩:=pB kP 6 rfl;have zu:aK h ae ai _ (sM h.n (sN h) 0 0 aU fuel r _):=kP.set 3 rfl [aU];have xW:aK h ae ai _ (sM h.n (sN h) 0 (fuel - (b'.S.left:Int)) aU fuel r _):=zu.set 2 rfl [[.int j (fuel - (b'.S.left:Int))]];have Ls:aK h ae ai _ (sM h.n (sN h) c (fuel - (b'.S.left:Int)) aU fuel r [jc (sN h) aO b'.bk (b'.S.left:Int) b'.below b'.top,hQ aO ck cr ms b'.S.kept,bi ck b'.S.G,h3 cr b'.S.cells b'.S.log]):=xW.set 1 rfl [[.int j c]];have kH:=RP (V:=wv aO h.n p f r fuel b3 fs eD) rfl rfl rfl (Ls.cell 3 rfl).1 rfl (Ls.cell 2 rfl).1 (Ls.cell 1 rfl).1;refine⟨_,cy _ ?_,Ys (aL:=18) (hC:=[9,14,10,11,12]) (tC:=[6,11,7,8,9]) dg w' C' JM (by decide) rfl (by decide) acy (lk vl) act acv ((am _ _).trans bc) acz (.panic _ λm w hj u hw yC bQ=>asn hw yC bQ dx hy a4.m eb rfl c6 cE (ne (by omega)) (ne (by omega)) (ne (by omega)) (eL (by omega) (by omega))) GF kH,aU,((ah.set (h.n+1+1) (o [aU])).set (h.n+1+1+1) (o [[.int j (fuel - (b'.S.left:Int))]])).set (h.n+1+1+1+1) (o [[.int j c]]),rfl,?_,?_⟩
  ·rw[bc];simp only[Lo,a4.m,zw];rw[kH];rfl
  ·simp only;rw[if_neg aN];exact e6
  ·exact Ls.drop.drop.drop.drop.drop.drop.drop
theorem acO(U:bT v r)(fl:v.size<=100000)(x:(cf [hQ aO ck cr ms S.kept,bi ck S.G,h3 cr S.cells S.log]).A h ae ai)(aD:ms.length=4)(a8:vY ms)(hm:xr ms)(cO:S.Good)(Bk:S.log.length<=900000):Lp ae ai aO ck cr ms S h (rP aO p f r fuel) (ci ms p f v fuel S):=by
 unfold ci;by_cases J:fuel<0\/2000<fuel\/p<0\/4<=p
 ·rw[if_pos J];exact asC U x J
 rw[if_neg J];by_cases R:(ms.getD p.toNat ad).isNone\/f<0\/((gS ms p).length:Int)<=f
 ·rw[if_pos R];exact GT U x aD cO J R
 rw[if_neg R];by_cases ah:v.code=0
 ·rw[if_neg (λe=>e ah)];exact asI U fl x aD a8 hm cO Bk J R ah
 ·rw[if_pos ah];have bg:aK h ae ai (kD h r fuel) (lI h.n 0 0 aU fuel r [hQ aO ck cr ms S.kept,bi ck S.G,h3 cr S.cells S.log]):=GJ (aK.start x);have pg:=acJ (p:=p) (f:=f) bg aD cO J R;have sc:=acL (aO:=aO) (p:=p) (f:=f) bg U;rw[if_neg ah]at sc;have dA:=Lq (aO:=aO) (p:=p) (f:=f) (fuel:=fuel) (h:=h) U;have ft:=dA.next (aL:=18) dg Ll (lk vl) Lm Ln pg;refine⟨_,?_,(ft.next (aL:=18) dg acr (lk vl) acs acu sc).ret C' GF (Db rfl rfl rfl (aK.start x) v.code),RQ x v.code⟩;unfold Da;rw[GI U];simp only[x0];rw[pg];simp only;rw[sc];simp only[zw];rw[Db rfl rfl rfl (aK.start x) v.code];rfl
theorem asK(U:bT v r)(fl:v.size<=100000)(x:(cf [hQ aO ck cr ms S.kept,bi ck S.G,h3 cr S.cells S.log]).A h ae ai)(aD:ms.length=4)(a8:vY ms)(hm:xr ms)(cO:S.Good)(Bk:S.log.length<=900000):∃F,(∃bj,aQ ap W jK (rP aO p f r fuel) h=o (.inl (.bU [.agg bj,.int j (ci ms p f v fuel S).2.2.1,.int j (ci ms p f v fuel S).2.2.2]),F)/\bT (ci ms p f v fuel S).2.1 bj)/\gw h ae ai F (cf [hQ aO ck cr ms (ci ms p f v fuel S).1.kept,bi ck (ci ms p f v fuel S).1.G,h3 cr (ci ms p f v fuel S).1.cells (ci ms p f v fuel S).1.log]):=by
 obtain⟨q,aW,ac,_⟩:=acO (p:=p) (f:=f) (fuel:=fuel) U fl x aD a8 hm cO Bk;have cG:N2 (rP aO p f r fuel) h q:=by intro dX ec axC axD axE RR lY ft f2 axF cn bR pz hN asL asM mU uQ asN vD dH;injection pz with au pz;injection pz with ax pz;injection pz with bc pz;injection pz with bY pz;injection pz with cU pz;injection au with au;injection ax with _ ax;injection bc with _ bc;injection bY with bY;injection cU with _ cU;subst au ax bc bY cU;obtain⟨bL,tf,_,bj,F,dA,ft,iM⟩:=acO (p:=p) (f:=f) (fuel:=fuel) hN asL dH asM mU uQ asN vD;rw[aW]at tf;injection tf with tf;exact⟨bj,F,tf.trans dA,ft,iM⟩
 have H:∃q,AC ap jK (rP aO p f r fuel) h q/\N2 (rP aO p f r fuel) h q:=⟨q,ac,cG⟩;obtain⟨bj,F,e,mR,d⟩:=(Classical.choose_spec H).2 ae ai aO ck cr ms S p f fuel v r rfl U fl aD a8 hm cO Bk x;refine⟨F,⟨bj,?_,mR⟩,d⟩;unfold aQ;rw[ak8];show EA _ _=_;unfold EA;rw[dif_pos H,e]
end
section
variable{h F aj:ag}{ae ai aJ aG:Nat->Prop}{L A B:List b6}{X Y c1:b6}
theorem asO(y:Y.A h ae ai):(it (vV True) Y).A h ae ai:=⟨λ_=>False,λ_=>False,ae,ai,⟨trivial,λ_ h=>h,λ_ h=>h⟩,y,λk=>by simp,λD=>by simp,λ_ h=>h.elim,λ_ h=>h.elim⟩
theorem asP(x:(it (vV True) Y).A h ae ai):Y.A h ae ai:=by
 obtain⟨ez,eA,dX,ec,⟨_,a,b⟩,y,dt,gs,_,_⟩:=x;have au:ae=dX:=by funext k;exact propext ⟨λh=>((dt k).1 h).resolve_left (a k),λh=>(dt k).2 (.inr h)⟩
 have ax:ai=ec:=by funext k;exact propext ⟨λh=>((gs k).1 h).resolve_left (b k),λh=>(gs k).2 (.inr h)⟩
 rw[au,ax];exact y
theorem cf.app:∀{A B:List b6} {h:ag} {ae ai:Nat->Prop},(cf (A++B)).A h ae ai↔(it (cf A) (cf B)).A h ae ai
 |[],B,h,ae,ai=>⟨asO,asP⟩
 |X::A,B,h,ae,ai=>⟨λx=>E7 (rD (λ_ _ _ y=>y) (λ_ _ _ y=>cf.app.1 y) x),λx=>rD (λ_ _ _ y=>y) (λ_ _ _ y=>cf.app.2 y) (E3 x)⟩
theorem aK.ww{M q1:List b6}{cF:ag->Prop}(s:aK aj aJ aG h (A++M++B))(c:∀ae ai,(cf M).A h ae ai->∃F,cF F/\gw h ae ai F (cf q1)):∃F,cF F/\aK aj aJ aG F (A++q1++B):=by
 have p:∀M:List b6,List.Perm (A++M++B) (M++(A++B)):=λM=>by have:=(List.perm_append_comm (l₁:=A) (l₂:=M)).append_right B;simpa[k']using this
 obtain⟨ae,ai,x,gr,a,b⟩:=s;have dH:=cf.app.1 (aK.perm (p M) x);obtain⟨F,r,d⟩:=Xi dH c;exact⟨F,r,gw.chain gr a b (d.imp λ_ _ _ y=>aK.perm (p q1).symm (cf.app.2 y))⟩
structure asR where
 (aO ck cr:Nat)
 ms:dj
end
theorem acP:∀{ms:dj} {kept:List av} {aT:List (List E)} {p:Nat} {M:List bx} {v:av} {r:List E},c8 kept aT->ms.length=kept.length->p<ms.length->bT v r->∃qZ,c8 (kept.set p v) qZ/\dh (nB ms aT) (p*5) (.bool O::lZ M::r)=nB (ms.set p (o M)) qZ
 |[],kept,aT,p,_,_,_,_,_,aH,_=>by simp at aH
 |m::ms,[],aT,p,_,_,_,_,am,_,_=>by simp at am
 |m::ms,k::kept,aT,p,M,v,r,h,am,aH,U=>by
   obtain⟨gD,rs,rfl,J,R⟩:=h;have ah:=J.cD.1;have aD:=U.cD.1
   match gD,ah,r,aD with
   |[a,b,c],_,[x,y,z],_=>
     cases p with
     |zero=>exact⟨[x,y,z]::rs,⟨_,_,rfl,U,R⟩,rfl⟩
     |succ p=>
       obtain⟨qZ,bM,bL⟩:=acP (ms:=ms) (p:=p) (M:=M) R (by simpa using am) (by simpa using aH) U;refine⟨[a,b,c]::qZ,⟨_,_,rfl,J,bM⟩,?_⟩;have:(p+1)*5=p*5+5:=by omega
       rw[this];unfold dh at bL ⊢;simp only[nB,List.set_cons_succ,m3,lQ,List.take_succ_cons,hk,gf];rw[show p*5+5+(0+1+1+1+1+1)=p*5+5+5 by omega];simp only[List.drop_succ_cons];rw[<-bL];simp
section
variable{h F aj:ag}{ae ai aJ aG:Nat->Prop}{L:List b6}
theorem asS{b ck cr:Nat}{ms:dj}{kept:List av}(s:aK aj aJ aG h L)(i:Nat)(af:L[i]? =o (hQ b ck cr ms kept))(am:ms.length=kept.length){p:Nat}(aH:p<ms.length){M:List bx}{v:av}{r:List E}(U:bT v r):∃F,eQ 5 h (.ptr b 0 (2+p*5)) (.agg (.bool O::lZ M::r))=o F/\aK aj aJ aG F (L.set i (hQ b ck cr (ms.set p (o M)) (kept.set p v))):=by
 refine s.call (cF:=λF=>eQ 5 h (.ptr b 0 (2+p*5)) (.agg (.bool O::lZ M::r))=o F) i af λae ai x=>?_;obtain⟨aT,Z,aR,a5,bp,cA⟩:=x;obtain⟨qZ,bM,bL⟩:=acP (M:=M) Z am aH U;have hlen:=Ga Z am;have aF:(E.bool O::lZ M::r).all E.one=O:=by simp only[pO,(A9 M).2.2,U.cD.2,pZ];rfl
 refine⟨_,lc (es:=[nC ck cr ms aT]) (e:=nC ck cr ms aT) cA rfl aF (by simp[E.cells,U.cD.1]) (by simp only[nC,hk,hlen];omega),ae,ai,⟨qZ,bM,aR,a5,bp,?_⟩,⟨b4 _,b4 _,λk _ np=>eu λe=>np ((aR k).2 e),λ_ _ _=>rfl⟩,λ_=>.inl,λ_=>.inl⟩;rw[k1,vR];have:dh (nC ck cr ms aT) (2+p*5) (.bool O::lZ M::r)=nC ck cr (ms.set p (o M)) qZ:=by unfold nC;rw[<-bL];unfold dh;rw[show 2+p*5=p*5+1+1 by omega];simp only[List.take_succ_cons,m3];rw[show p*5+1+1+(E.bool O::lZ M::r).length=p*5+(E.bool O::lZ M::r).length+1+1 by omega];simp only[List.drop_succ_cons]
 simp only[E.cells,this]
abbrev wx:dj:=[ad,ad,ad,ad]
abbrev GL:List av:=[cv,cv,cv,cv]
abbrev vn:List Int:=[0,0,0,0,0,0,0,0,0,0,0,0]
abbrev x2:a0:=⟨[],[]⟩
def Dd(l:Nat):bK:=⟨x2,vn,[],GL,l⟩
theorem asT(l:Nat):(Dd l).Good:=⟨akW,rfl,rfl,λv U=>by
 have:v=cv:=by simpa[Dd]using U
 rw[this];exact vW⟩
theorem acQ:(bi h.n x2).A (h.push [[.aA,.aA]]) (λk=>k=h.n) (λ_=>False):=apx h
theorem asU{b:Nat}(ab:b=h.n):(h3 b vn []).A (h.push [vn.map (E.int j)++[E.aA]]) (λk=>k=b) (λ_=>False):=by subst ab;exact⟨.aA,λk=>k=h.n,λ_=>False,λ_=>False,λ_=>False,⟨λ_=>nF,λ_ h=>h,Nat.lt_succ_self _,iG⟩,.inl ⟨⟨rfl,rfl⟩,λ_ h=>h,λ_ h=>h⟩,λk=>by simp,λD=>by simp,λ_ _ h=>h,λ_ h=>h.elim⟩
theorem asV{b ck cr:Nat}(ab:b=h.n):(hQ b ck cr wx GL).A (h.push [nC ck cr wx [aU,aU,aU,aU]]) (λk=>k=b) (λ_=>False):=by subst ab;exact⟨[aU,aU,aU,aU],⟨_,_,rfl,e6,_,_,rfl,e6,_,_,rfl,e6,_,_,rfl,e6,rfl⟩,λ_=>nF,λ_ h=>h,Nat.lt_succ_self _,iG⟩
theorem asW(s:aK aj aJ aG h L):∃F aO ck cr,aQ ap W 39 [] h=o (.inl (.ptr aO 0 0),F)/\aK aj aJ aG F (hQ aO ck cr wx GL::bi ck x2::h3 cr vn []::L):=by
 have bg:aK aj aJ aG _ (bi h.n x2::L):=s.add (aB.push h _) acQ (λk Z=>qA Z.symm) (λ_ h=>h.elim);have aV:aK aj aJ aG _ (h3 (h.n+1) vn []::bi h.n x2::L):=bg.add (X:=h3 (h.n+1) vn []) (F:=(h.push [[.aA,.aA]]).push [vn.map (E.int j)++[E.aA]]) (ez:=λk=>k=h.n+1) (eA:=λ_=>False) (aB.push _ _) (asU (h:=h.push [[.aA,.aA]]) rfl) (λk Z=>qA Z.symm) (λ_ h=>h.elim);have br:aK aj aJ aG _ (hQ (h.n+1+1) h.n (h.n+1) wx GL::h3 (h.n+1) vn []::bi h.n x2::L):=aV.add (X:=hQ (h.n+1+1) h.n (h.n+1) wx GL) (F:=((h.push [[.aA,.aA]]).push [vn.map (E.int j)++[E.aA]]).push [nC h.n (h.n+1) wx [aU,aU,aU,aU]]) (ez:=λk=>k=h.n+1+1) (eA:=λ_=>False) (aB.push _ _) (asV (h:=(h.push [[.aA,.aA]]).push [vn.map (E.int j)++[E.aA]]) rfl) (λk Z=>qA Z.symm) (λ_ h=>h.elim);have bz:=br.imp λ_ _ _ x=>aK.perm (List.Perm.cons _ (List.Perm.swap _ _ _)) x;obtain⟨J,au,rfl⟩:=apw (h:=h);have ax:aQ ap W 77 [] (h.push [[.aA,.aA]])=o (.inl (.ptr (h.n+1) 0 0),(h.push [[.aA,.aA]]).push [vn.map (E.int j)++[E.aA]]):=by refine a2 amA rfl ?_;unfold X';simp only[ak,aq,ar,al]
 refine⟨_,h.n+1+1,h.n,h.n+1,?_,bz⟩;refine a2 amw rfl ?_;unfold Xs;simp only[ak,aq,ar,al,bW,bJ,au,ax];rfl
variable{ck h6 i D:Nat}{G H:a0}
theorem acR{X:b6}(af:L[i]? =o X):L.set i X=L:=by
 have am:i<L.length:=(fQ.1 af).1;have:X=L[i]:=by have:=(fQ.1 af).2;exact this.symm
 rw[this];exact List.set_getElem_self am
end
abbrev acS(b:Nat):List E:=[.bn b 0 12 ob,.aA,.e2,.e2,.e2,.e2,.int j 0,.int j 0,.aA,.int j 0,.int j 0,.aA,.int j 0,.int j 0,.aA,.int j 0,.int j 0,.aA,.aA,.aA,.aA,.aA]
section
variable{h F aj:ag}{ae ai aJ aG:Nat->Prop}{L:List b6}
end
theorem Bm:(ap).underlying 3=o (.int j):=by kernel_rfl
theorem asX{ms:dj}{S:bK}(cO:S.Good){p f fuel:Int}{v:av}:(ci ms p f v fuel S).1.Good/\(ci ms p f v fuel S).1.log.length<=S.log.length+2000/\((ci ms p f v fuel S).2.2.2=0->(ci ms p f v fuel S).2.1.code=0)/\(ci ms p f v fuel S).2.1.size<=100000:=by
 unfold ci;have z:cv.size<=100000:=by decide
 split
 ·exact⟨cO,by simp only;omega,λh=>by simp at h,z⟩
 ·split
  ·exact⟨cO,by simp only;omega,λh=>by simp at h,z⟩
  ·split
   ·rename_i J;exact⟨cO,by simp only;omega,λh=>absurd h J,z⟩
   ·rename_i J R ah;have Lr:({S with left:=fuel.toNat}:bK).Good:=⟨cO.wf,cO.cells,cO.kept,cO.qK⟩;have lG:=oa ms fuel.toNat p (gY ms p f) v [] 1 _ Lr (by simpa using ah) (by simp);generalize ea ms fuel.toNat p (gY ms p f) v [] 1 {S with left:=fuel.toNat}=q at lG;obtain⟨ca,w,c⟩:=q;have g:=lG.1.cG;have m:=lG.1.a';unfold bK.a' at m;simp only at g m ⊢;refine⟨⟨g.wf,g.cells,g.kept,g.qK⟩,by omega,λan=>?_,?_⟩
    ·rw[if_pos an];exact lG.1.val an
    ·by_cases an:c=0
     ·rw[if_pos an];have:=(xp (lG.1.val an)).1;simp only at this;omega
     ·rw[if_neg an];exact z
def wy(ms:dj):Prop:=∀M,o M∈ms->(e1 M).1=0
theorem wy.fun{ms:dj}(h:wy ms){p:Int}:∀x∈gS ms p,x.fault (gS ms p).length 0=0/\x.size<=120:=by
 intro x aw;unfold gS at aw ⊢;cases hm:ms.getD p.toNat ad with
 |none=>rw[hm]at aw;simp at aw
 |some M=>
   rw[hm]at aw;have gL:o M∈ms:=by
    rw[dz]at hm;cases a8:ms[p.toNat]? with
    |none=>rw[a8]at hm;simp at hm
    |some I=>rw[a8]at hm;simp only[rf]at hm;subst hm;exact tc a8
   exact(QP (h M gL)).2.2 x aw
theorem wy.cG{ms:dj}(h:wy ms):vY ms:=λ_ x aw=>(h.fun x aw).1
theorem wy.sized{ms:dj}(h:wy ms):xr ms:=λp f=>by
 unfold lz;have J:=xk _ (gY ms p f) (b4 _) 0;have R:(gY ms p f).size<=120:=by
  unfold gY;by_cases Z:f.toNat<(gS ms p).length
  ·have e:(gS ms p).getD f.toNat lX=(gS ms p)[f.toNat]:=by simp[dz,Z]
   rw[e];exact(h.fun _ (iX Z)).2
  ·have e:(gS ms p).getD f.toNat lX=lX:=by simp[dz,o3 (Nat.le_of_not_lt Z)]
   rw[e];decide
 simp only[ff,gM];omega
section
variable{h:ag}
theorem aK.acT{F:ag}{L:List b6}(s:aK h (λ_=>False) (λ_=>False) F L):aB h F:=by obtain⟨_,_,_,c,_⟩:=s;exact⟨c.n,c.ids,λk Z=>c.cell k Z (λh=>h),λD aa=>c.hw D aa (λh=>h)⟩
end
structure iR where
 (kind p q k h r g n:Int)
 m:List bx
structure nN where
 (code fuel:Int)
 v:av
structure dp where
 ms:dj
 S:bK
 a1:List (List av)
def nN.no(c:Int):nN:=⟨c,0,cv⟩
def nN.ok(v:av):nN:=⟨0,0,v⟩
def iS(p:Int):Bool:=decide (0<=p)&&decide (p<4)
theorem tX{p:Int}:iS p=O↔0<=p/\p<4:=by simp[iS]
def dp.hand(H:dp)(p:Int):List av:=H.a1.getD p.toNat []
def dp.load(H:dp)(p:Int)(m:List bx):dp×Int:=
 if iS p=T then(H,1)
 else if(e1 m).1≠0 then(H,(e1 m).1)
 else({H with ms:=H.ms.set p.toNat (o m),S:={H.S with kept:=H.S.kept.set p.toNat cv}},0)
def dp.graph(H:dp)(G:a0):dp:={H with S:={H.S with G:=G}}
def dp.ou(H:dp)(p n c:Int):dp×nN:=
 if c≠0 then(H,.no c)else({H with a1:=H.a1.set p.toNat (H.hand p++[ly n])},.ok (ly n))
def dp.call(H:dp)(x:iR):dp×nN:=
 if 0<=x.h/\(iS x.p=T\/((H.hand x.p).length:Int)<=x.h)then(H,.no 8)
 else match ci H.ms x.p x.k (if 0<=x.h then(H.hand x.p).getD x.h.toNat cv else lx x.n) 2000 H.S with
  |(ca,v,n,c)=>({H with S:=ca},⟨c,n,v⟩)
def dp.step(H:dp)(x:iR):dp×nN:=
 if x.kind=1 then((H.load x.p x.m).1,.no (H.load x.p x.m).2)
 else if x.kind=2\/x.kind=3 then
  (if iS x.p=T then(H,.no 1)
  else if x.kind=2 then(H.graph (H.S.G.j5 x.k x.r x.g).1).ou x.p (H.S.G.j5 x.k x.r x.g).2.1 (H.S.G.j5 x.k x.r x.g).2.2
  else(H.graph (H.S.G.j6 x.q x.k x.r x.g).1).ou x.p (H.S.G.j6 x.q x.k x.r x.g).2.1 (H.S.G.j6 x.q x.k x.r x.g).2.2)
 else if x.kind=4 then H.call x
 else if x.kind=5 then(H.graph (H.S.G.cut x.g).1,.no (H.S.G.cut x.g).2)
 else if x.kind=6 then(H.graph H.S.G.gate.1,if H.S.G.gate.2.2≠0 then .no H.S.G.gate.2.2 else .ok (lx H.S.G.gate.2.1))
 else(H,.no 2)
def wz:dp:=⟨wx,Dd 0,[[],[],[],[]]⟩
structure dp.Good(H:dp):Prop where
 ms:H.ms.length=4
 ok:wy H.ms
 st:H.S.Good
 a1:H.a1.length=4
 cap:∀l∈H.a1,∀v∈l,∃n:Int,v=ly n/\0<=n
theorem asY:wz.Good:=⟨rfl,λM j9=>by simp[wz]at j9,asT 0,rfl,λl am v U=>by
 have:l=[]:=by simpa[wz]using am
 rw[this]at U;cases U⟩
theorem wy.set{ms:dj}(h:wy ms){p:Nat}{M:List bx}(aN:(e1 M).1=0):wy (ms.set p (o M)):=by
 intro N eK;rcases List.mem_or_eq_of_mem_set eK with J|J
 ·exact h N J
 ·injection J with J;rw[J];exact aN
theorem bK.Good.g2{S:bK}(h:S.Good){p:Nat}{v:av}(U:v.code=0):({S with kept:=S.kept.set p v}:bK).Good:=⟨h.wf,h.cells,by simpa using h.kept,λw hw=>by
  rcases List.mem_or_eq_of_mem_set hw with J|J
  ·exact h.qK w J
  ·rw[J];exact U⟩
theorem dp.Good.hand{H:dp}(g:H.Good){p:Int}:∀v∈H.hand p,∃n:Int,v=ly n/\0<=n:=by
 intro v U;unfold dp.hand at U;by_cases aH:p.toNat<H.a1.length
 ·rw[dz,fr aH]at U;exact g.cap _ (iX aH) v U
 ·rw[dz,o3 (by omega)]at U;cases U
theorem dp.Good.graph{H:dp}(g:H.Good){G:a0}(ee:G.dE):(H.graph G).Good:=⟨g.ms,g.ok,⟨ee,g.st.cells,g.st.kept,g.st.qK⟩,g.a1,g.cap⟩
theorem dp.Good.ou{H:dp}(g:H.Good){p n c:Int}(aE:0<=n):(H.ou p n c).1.Good:=by
 unfold dp.ou;split
 ·exact g
 ·refine⟨g.ms,g.ok,g.st,by simpa using g.a1,λl am v U=>?_⟩;rcases List.mem_or_eq_of_mem_set am with J|J
  ·exact g.cap l J v U
  ·rw[J]at U;rcases List.mem_append.1 U with R|R
   ·exact g.hand v R
   ·exact⟨n,by simpa using R,aE⟩
theorem acU{n:e5}:0<=(G.add n).2.1:=by
 unfold a0.add;split
 ·exact Int.le_refl _
 ·split
  ·exact Int.le_refl _
  ·split
   ·exact Int.le_refl _
   ·exact Int.natCast_nonneg _
theorem asZ{c r g:Int}:0<=(G.j5 c r g).2.1:=by
 unfold a0.j5;split
 ·exact acU
 ·exact Int.le_refl _
theorem NE{p f r g:Int}:0<=(G.j6 p f r g).2.1:=by
 unfold a0.j6;split
 ·exact acU
 ·exact Int.le_refl _
theorem RS(n:Int):(ly n).size<=100000:=by simp[ly,av.size,jj]
theorem acV(n:Int):(lx n).size<=100000:=by simp[lx,av.size,jj]
theorem dp.Good.arg{H:dp}(g:H.Good)(x:iR):(if 0<=x.h then(H.hand x.p).getD x.h.toNat cv else lx x.n).code=0/\(if 0<=x.h then(H.hand x.p).getD x.h.toNat cv else lx x.n).size<=100000:=by
 split
 ·by_cases af:x.h.toNat<(H.hand x.p).length
  ·have e:(H.hand x.p).getD x.h.toNat cv=(H.hand x.p)[x.h.toNat]:=by simp[dz,af]
   rw[e];obtain⟨n,J,R⟩:=g.hand _ (iX af);rw[J];exact⟨Iu R,RS n⟩
  ·have e:(H.hand x.p).getD x.h.toNat cv=cv:=by simp[dz,o3 (Nat.le_of_not_lt af)]
   rw[e];exact⟨vW,by decide⟩
 ·exact⟨Ew _,acV _⟩
structure Lt(H:dp)(q:dp×nN):Prop where
 cG:q.1.Good
 log:q.1.S.log.length<=H.S.log.length+2000
 val:q.2.code=0->q.2.v.code=0
 size:q.2.v.size<=100000
 hand:∀l∈q.1.a1,l.length<=1000\/∃b2∈H.a1,l.length<=b2.length+1
theorem x3(c:Int):(nN.no c).v.size<=100000:=(by decide:cv.size<=100000)
theorem Lt.same{H rQ:dp}{e:nN}(g:rQ.Good)(am:rQ.S.log=H.S.log)(bC:rQ.a1=H.a1)(J:e.code=0->e.v.code=0)(R:e.v.size<=100000):Lt H (rQ,e):=⟨g,by rw[am];exact Nat.le_add_right _ _,J,R,λl hm=>.inr ⟨l,by rw[<-bC];exact hm,Nat.le_succ _⟩⟩
theorem acW{H rQ:dp}(g:rQ.Good)(am:rQ.S.log=H.S.log)(bC:rQ.a1=H.a1){p n c:Int}(aE:0<=n):Lt H (rQ.ou p n c):=by
 refine⟨g.ou aE,?_,?_,?_,?_⟩
 ·unfold dp.ou;split
  ·rw[am];exact Nat.le_add_right _ _
  ·show rQ.S.log.length<=_;rw[am];exact Nat.le_add_right _ _
 ·unfold dp.ou;split
  ·rename_i h;exact λF=>absurd F h
  ·exact λ_=>Iu aE
 ·unfold dp.ou;split
  ·exact x3 _
  ·exact RS _
 ·unfold dp.ou;split
  ·exact λl hm=>.inr ⟨l,by rw[<-bC];exact hm,Nat.le_succ _⟩
  ·intro l hm;rcases List.mem_or_eq_of_mem_set hm with J|J
   ·exact .inr ⟨l,by rw[<-bC];exact J,Nat.le_succ _⟩
   ·unfold dp.hand at J;by_cases aH:p.toNat<rQ.a1.length
    ·rw[dz,fr aH,rf]at J;exact .inr ⟨rQ.a1[p.toNat],by rw[<-bC];exact iX aH,by rw[J];simp⟩
    ·rw[dz,o3 (by omega),Option.getD_none]at J;exact .inl (by rw[J];simp)
theorem dp.Good.step{H:dp}(g:H.Good)(x:iR):Lt H (H.step x):=by
 unfold dp.step;by_cases cE:x.kind=1
 ·rw[if_pos cE];unfold dp.load;by_cases J:iS x.p=T
  ·rw[if_pos J];exact .same g rfl rfl (λh=>absurd h (by simp[nN.no])) (x3 _)
  ·rw[if_neg J];by_cases R:(e1 x.m).1≠0
   ·rw[if_pos R];exact .same g rfl rfl (λh=>absurd h R) (x3 _)
   ·rw[if_neg R];exact .same ⟨by simpa using g.ms,g.ok.set (Classical.not_not.1 R),g.st.g2 vW,g.a1,g.cap⟩ rfl rfl (λ_=>vW) (x3 _)
 rw[if_neg cE];by_cases c6:x.kind=2\/x.kind=3
 ·rw[if_pos c6];by_cases J:iS x.p=T
  ·rw[if_pos J];exact .same g rfl rfl (λh=>absurd h (by simp[nN.no])) (x3 _)
  ·rw[if_neg J];split
   ·exact acW (H:=H) (rQ:=H.graph (H.S.G.j5 x.k x.r x.g).1) (g.graph (g.st.wf.j5 _ _ _)) rfl rfl asZ
   ·exact acW (H:=H) (rQ:=H.graph (H.S.G.j6 x.q x.k x.r x.g).1) (g.graph (g.st.wf.j6 _ _ _ _)) rfl rfl NE
 rw[if_neg c6];by_cases dx:x.kind=4
 ·rw[if_pos dx];unfold dp.call;by_cases J:0<=x.h/\(iS x.p=T\/((H.hand x.p).length:Int)<=x.h)
  ·rw[if_pos J];exact .same g rfl rfl (λh=>absurd h (by simp[nN.no])) (x3 _)
  ·rw[if_neg J];have:=asX (ms:=H.ms) (p:=x.p) (f:=x.k) (fuel:=2000) (v:=if 0<=x.h then(H.hand x.p).getD x.h.toNat cv else lx x.n) g.st;generalize ci H.ms x.p x.k (if 0<=x.h then(H.hand x.p).getD x.h.toNat cv else lx x.n) 2000 H.S=q at this;obtain⟨ca,v,n,c⟩:=q;obtain⟨R,ah,aD,bo⟩:=this;exact⟨⟨g.ms,g.ok,R,g.a1,g.cap⟩,ah,aD,bo,λl hm=>.inr ⟨l,hm,Nat.le_succ _⟩⟩
 rw[if_neg dx];by_cases gW:x.kind=5
 ·rw[if_pos gW];exact .same (g.graph (g.st.wf.cut _)) rfl rfl (λ_=>vW) (x3 _)
 rw[if_neg gW];by_cases iD:x.kind=6
 ·rw[if_pos iD];refine .same (g.graph g.st.wf.gate) rfl rfl ?_ ?_
  ·split
   ·rename_i h;exact λF=>absurd F h
   ·exact λ_=>Ew _
  ·split
   ·exact x3 _
   ·exact acV _
 ·rw[if_neg iD];exact .same g rfl rfl (λh=>absurd h (by simp[nN.no])) (x3 _)
def acX:List be:=[EM,.ops [.i .l (.call (.c (.fn 39 [] [])) []),.i .l (.build [.e2,.aA,.aA,.aA,.aA] [(0,1),(1,4)] [(0,(.l 0))]),.i .l (.box 5 (.l 0)),Cr],.ret]
theorem as0:cq ap W 24 0 1 [0] acX [(.v 0)] T:=by refine⟨_,_,Tryz.func24,rfl,rfl,?_,?_,?_,?_,?_⟩<;>kernel_rfl
def acY:List be:=[yP,.ops [bd,tp,cl,xu,.g (.l 1) O .l OK,IS,oK],.ret]
theorem as1:cq ap W 57 1 2 [0,2] acY [(.v 1)] O:=by refine⟨_,_,Tryz.func57,rfl,rfl,?_,?_,?_,?_,?_⟩<;>kernel_rfl
def Lu:List be:=[Yk,.ops [cW,GM,.i (.v 7) u9],.cond (.v 7) [JC,.ret] [],.ops [CI,.i .l (.call (.c (.fn 40 [] [])) [.l 0]),cl,fx,fy,.i (.v 6) JD,Ai,.i .n (.store 2 (.v 6) (.l 0))],.ops [.i .l (.c0 0 (.v 6)),aM,JE],.cond (.v 8) [.ops [.i .l (.c0 0 (.v 6)),aM,jl],.ret] [],.ops [bd,cu,dB,aM,cW,hK,.i .l (.build [.bool T,.aA,.int j 0,.int j 0,.aA] [(0,1),(1,1),(2,3)] [(0,(.c (.bool O))),(1,(.l 0))]),.i .l (.j2 (.l 3)),kn,.i .l (.fG ad (o (4,5)) (.l 0) (.l 4)),.i .n (.store 5 (.l 0) (.l 3))],ts,.ret]
theorem RT:cq ap W 56 3 9 [0,1,2,5,6,7,8,11,19] Lu [(.v 4)] T:=by refine⟨_,_,Tryz.func56,rfl,rfl,?_,?_,?_,?_,?_⟩<;>kernel_rfl
def RU:List be:=[.ops [acZ],.ops [cR,Zz],.cond (.v 6) [.ops [cR,yJ,RV],.ret] [],.ops [gT,ID,v6,p9],.ops [bd,cW,tB,gU,uP,aM,so,X6,Pt,gU,Ob,.bZ [⟨ad,T,1,.l 6,(.l 5)⟩,⟨ad,O,3,.v 5,(.l 4)⟩],.i .l (.app O 35 (.l 5) (.l 0)),.i .l (.fG (o 35) ad (.l 0) (.l 4)),.i .l (.fG ad (o (4,1)) (.l 3) (.l 11)),.i .n (.store 3 (.l 1) (.l 7)),l1,.bZ [⟨ad,O,3,.l 1,(.l 7)⟩]],.ops [so,IF,RV],.ret]
theorem ac0:cq ap W 59 4 7 [0,1,2,3,8,9,11] RU [(.cell O 5 4)] T:=by refine⟨_,_,Tryz.func59,rfl,rfl,?_,?_,?_,?_,?_⟩<;>kernel_rfl
def GN:List be:=[RW,.ops [.i .l (.c0 7 (.v 2)),aM,y5,v5,uY],.ops [Lv,aM,ac1],.cond (.v 8) [.ops [nD,aM,GM,si,cl,ac2,k4,CR,ac3,IY,ac4,YI,ac5,ac6,ac7,ac8,.i (.v 9) RX],.cond (.v 9) [.ops [ac9,mN],.ret] [],.ops [bd,nD,aM,vZ,gU,uP,aM,Lv,aM,ac',jd,uY]] [],.ops [bd,cu,dB,aM,nD,aM,qa,aM,rE,.i .l (.call (.c (.fn 12 [] [])) [.l 5,.l 3,.l 1,.l 0,.c (.int j 2000)]),cl,fx,fy,.i .l (.ext (.l 2) 2),v6,.bZ [⟨ad,T,1,.l 11,(.l 10)⟩,⟨ad,T,1,.l 9,(.l 8)⟩,⟨ad,T,1,.l 7,(.l 6)⟩,⟨ad,O,3,.v 4,(.l 5)⟩],.i .n (.store 3 (.v 5) (.l 2)),Jr,mI],.ops [j7,k5,so,ada,mN],.ret]
theorem Lw:cq ap W 61 2 10 [0,1,3,4,5,6,7,8,14,31] GN [(.cell O 5 3)] T:=by refine⟨_,_,Tryz.func61,rfl,rfl,?_,?_,?_,?_,?_⟩<;>kernel_rfl
def vo:List be:=[RW,.ops [rF,XQ],.block 0 [.ops [XR,xA],.cond (.v 11) [.ops [bd,nD,aM,.i .l (.c0 8 (.v 2)),RY,.i .l (.call (.c (.fn 56 [] [])) [.l 4,.l 2,.l 0]),yJ,mN],.ret] [.ops [XS,y8],.cond (.v 12) [] [.ops [XT,y8]],.cond (.v 12) [.ops [nD,aM,GM,.i (.v 13) u9],.cond (.v 13) [.ops [adb,mN],.ret] [],.ops [rF,aM,.i (.v 14) J0],.cond (.v 14) [.ops [bd,cu,dB,aM,cu,dB,aM,qa,aM,Lx,aM,De,aM,.i .l (.call (.c (.fn 58 [] [])) [.l 6,.l 4,.l 2,.l 0]),cl,fx,fy,Ah,jT],.ops [bd,nD,aM,fb,hK,ade,mN],.ret] [],.ops [bd,cu,dB,aM,cu,dB,aM,tq,aM,qa,aM,Lx,aM,De,aM,.i .l (.call (.c (.fn 60 [] [])) [.l 8,.l 6,.l 4,.l 2,.l 0]),cl,fx,fy,Jr,mI],.ops [bd,nD,aM,k5,j7,ade,mN],.ret] [.ops [XV,CG],.cond (.v 15) [.ops [bd,RZ,.i .l (.call (.c (.fn 61 [] [])) [.l 1,.l 0]),mN],.ret] [.ops [.i .l (.bin (.int j) .eql (.v 10) (.c (.int j 5))),AB],.cond (.v 16) [.ops [bd,cu,dB,aM,cu,dB,aM,De,aM,.i .l (.call (.c (.fn 62 [] [])) [.l 2,.l 0]),yJ,mN],.ret] [.ops [XX,tz],.cond (.v 17) [.ops [bd,cu,dB,aM,cu,dB,aM,XI,cl,fx,fy,.i (.v 8) vb,u0],.ops [tA,ZA],.cond (.v 18) [.ops [tA,yJ,mN],.ret] [],.ops [p7,y5,IF,mN],.ret] []]]]]],.ops [adf,mN],.ret]
theorem wA:cq ap W 26 2 19 [0,1,3,4,5,6,7,8,9,10,12,13,22,28,32,81,86,99,113] vo [(.cell O 5 3)] T:=by refine⟨_,_,Tryz.func26,rfl,rfl,?_,?_,?_,?_,?_⟩<;>kernel_rfl
def Ly:List be:=[Aj,.ops [cW,GM,IG],.cond (.v 3) [Aj,.ret] [],.ops [bd,cW,tB,gU,uP,aM,.i .l (.call (.c (.fn 69 [] [])) [.l 0]),jv],.ret]
theorem R0:cq ap W 28 2 4 [0,1,4,7] Ly [(.v 2)] O:=by refine⟨_,_,Tryz.func28,rfl,rfl,?_,?_,?_,?_,?_⟩<;>kernel_rfl
def R1:List be:=[.ops [Fb],.ops [cW,GM,IG],.cond (.v 3) [.ops [kN,Ay],.ret] [],.ops [bd,cu,dB,aM,cW,tB,kn,CE,kn,jd,PR,Ay],.ret]
theorem adg:cq ap W 29 2 4 [0,1,4,7] R1 [(.cell O 3 2)] O:=by refine⟨_,_,Tryz.func29,rfl,rfl,?_,?_,?_,?_,?_⟩<;>kernel_rfl
def R2:List be:=[yO,OB,.cond (.v 2) [yO,.ret] [],.ops [.i .l (.lr T 35 [.int j 0,.int j 0,.aA] 3 0 []),bd,.i .l (.app T 35 (.l 1) (.l 0)),oK],.ret]
theorem adh:cq ap W 69 1 3 [0,2,4] R2 [(.v 1)] O:=by refine⟨_,_,Tryz.func69,rfl,rfl,?_,?_,?_,?_,?_⟩<;>kernel_rfl
def adi:List be:=[.ops [adj],.ops [adk,oK],.ops [cW,.i (.v 5) (.bin .ptr .eql (.l 0) (.c .e2))],.cond (.v 5) [.ops [adj],.ret] [],.ops [cW,.i .l (.build [.int j 0,.int j 0,.int j 0,.aA] [(0,1),(1,1),(2,1),(3,1)] [(0,(.c (.int j 3)))]),KJ,.i .l (.build [.int j 0,.int j 0,.int j 0,.aA] [(0,1),(1,1),(2,1),(3,1)] [(0,(.c (.int j 13))),(3,(.l 0))]),KJ,.i .l (.build [.aA] [(0,1)] [(0,(.l 0))]),.i .l (.build [.int j 0,.int j 0,.int j 0,.int j 0,.int j 0,.int j 0,.int j 0,.int j 0,.aA] [(0,1),(1,1),(2,1),(3,1),(4,1),(5,1),(6,1),(7,1),(8,1)] [(0,(.c (.int j 1))),(1,(.c (.int j 1))),(8,(.l 0))]),.i .l (.call (.c (.fn 26 [] [])) [.l 6,.l 0]),.i (.v 2) adl,.i .n (.store 5 (.v 2) (.l 0))],.ops [cW,.i .l (.build [.int j 0,.int j 0,.int j 0,.int j 0,.int j 0,.int j 0,.int j 0,.int j 0,.aA] [(0,1),(1,1),(2,1),(3,1),(4,1),(5,1),(6,1),(7,1),(8,1)] [(0,(.c (.int j 2))),(1,(.c (.int j 1))),(3,(.c (.int j 3))),(5,(.c (.int j 1))),(6,(.c (.int j (-1))))]),adm,adn,mN],.ops [cW,.i .l (.build [.int j 0,.int j 0,.int j 0,.int j 0,.int j 0,.int j 0,.int j 0,.int j 0,.aA] [(0,1),(1,1),(2,1),(3,1),(4,1),(5,1),(6,1),(7,1),(8,1)] [(0,(.c (.int j 4))),(1,(.c (.int j 1)))]),adm,acZ,RV],.ops [rF,aM,Fv,cl,.g (.l 0) O .l (.c0 2 (.v 3)),ado,EF,.g (.l 3) O .l J8,I1,cl,QA,oM,.g (.l 2) O .l Fs,AK,cl,.g (.l 0) O .l FQ,ado,EF,adp,I1,cl,.g (.l 0) O .l (.c0 1 (.v 4)),oM,.g (.l 2) O .l J0,AK,cl,ED,.g (.l 1) O .l (.call (.c (.fn 28 [] [])) [.l 0,.c (.int j 1)]),.g (.l 2) O .l Oa,adp,I1,Cr],.ret]
theorem as2:cq ap W 22 0 6 [0,1,2,3,4,7] adi [(.v 0)] O:=by refine⟨_,_,Tryz.func22,rfl,rfl,?_,?_,?_,?_,?_⟩<;>kernel_rfl
def x4:List be:=[.ops [cR,bd,Lz,.i .l Kj,cl,WH,J7,.g (.l 2) O .l JB,.i (.v 4) Cu],.cond (.v 4) [] [.exit 0],.block 1 [.ops [bd,cR,LA,.i .l (.c0 8 (.l 0)),RY,.i (.v 5) (.call (.c (.fn 43 [] [])) [.l 0])],.cond (.v 5) [yR,.ret] []],yQ]
def R3:List be:=[mg,p8,.block 0 [.loop x4],.ops [bd,Lz,cW,.i .l CT,jv],.ret]
theorem adq:cq ap W 23 2 6 [0,1,4,5,14,22] R3 [(.v 2)] O:=by refine⟨_,_,Tryz.func23,rfl,rfl,?_,?_,?_,?_,?_⟩<;>kernel_rfl
def d9(b aO:Nat)(a1:List (List av)):b6:=uM λbA:List E=>xn (bA.length=a1.length) (it (aY b [.ptr aO 0 0::bA]) (cf (iy h4 bA a1)))
section
variable{h F aj:ag}{ae ai aJ aG:Nat->Prop}{L:List b6}{ab aO:Nat}{a1:List (List av)}
theorem adr(x:(d9 ab aO a1).A h ae ai):∃bA,bA.length=a1.length/\aK h ae ai h (aY ab [.ptr aO 0 0::bA]::iy h4 bA a1):=by obtain⟨bA,am,x⟩:=x;exact⟨bA,am,aK.start x⟩
theorem as3{bA:List E}(am:bA.length=a1.length)(s:aK aj aJ aG h (aY ab [.ptr aO 0 0::bA]::iy h4 bA a1)):gw aj aJ aG h (d9 ab aO a1):=gw.imp (λ_ _ _ x=>⟨bA,am,x⟩) s
theorem Df{bA:List E}(am:bA.length=a1.length){p:Nat}(aH:p<a1.length):∃v,bA[p]? =o v/\(iy h4 bA a1)[p]? =o (h4 v (a1.getD p [])):=by
 have U:p<bA.length:=by omega
 refine⟨bA[p],fr U,?_⟩;rw[List.getElem?_zipWith,fr U,fr aH];simp[dz,aH]
theorem ads{bA:List E}{p:Nat}{v:E}{l:List av}:(iy h4 bA a1).set p (h4 v l)=iy h4 (bA.set p v) (a1.set p l):=by
 refine List.ext_getElem? λD=>?_;by_cases e:p=D
 ·subst e;rw[List.getElem?_zipWith,tQ,tQ,tQ];simp only[if_true,List.length_zipWith];by_cases J:p<bA.length
  ·by_cases R:p<a1.length
   ·simp[J,R,show p<min bA.length a1.length by omega]
   ·simp[J,R,show ¬p<min bA.length a1.length by omega]
  ·simp[J,show ¬p<min bA.length a1.length by omega]
 ·rw[List.getElem?_set_ne e,List.getElem?_zipWith,List.getElem?_zipWith,List.getElem?_set_ne e,List.getElem?_set_ne e]
structure Dg(h:ag)(v:E)(l:List av):Prop where
 one:v.one=O
 cells:v.cells=[v]
 len:hX v=o l.length
 fits:∀s,j3 s (o bG) v=O
 bV:∀(q:gx) (i:Nat) (y:av),l[i]? =o y->∃p r,dO (o bG) ad v (.int q (i:Int))=o p/\cS O 3 h p=o (.agg r)/\bT y r
 sx:(l=[]/\v= .aA)\/∃b rows,v= .bn b 0 l.length bG/\c8 l rows/\iT h bG v=o rows
theorem LB{v:E}{l:List av}(x:(h4 v l).A h ae ai):Dg h v l:=by
 obtain⟨aR,a5,bp,cA,et⟩:=Aw x;refine⟨aR,a5,bp,cA,et,?_⟩;obtain⟨rows,am,x⟩:=x;have hlen:=am.len;rcases x with⟨⟨rfl,rfl⟩,_⟩|⟨⟨b,es⟩,⟨rfl,J,R⟩,_,_,_,an⟩
 ·exact .inl ⟨pR.1 (by simpa using hlen.symm),rfl⟩
 ·simp only at J R an;refine .inr ⟨b,rows,by rw[hlen],am,?_⟩;simp only[iT,if_true,an,c2,hH,J,List.drop_zero];rw[<-R]
structure x5(h:ag)(ab aO:Nat)(a1:List (List av))(bA:List E):Prop where
 c:h.cell ab=o [.ptr aO 0 0::bA]
 lt:ab<h.n
 len:bA.length=a1.length
 v:∀p:Nat,p<a1.length->∃v,bA[p]? =o v/\Dg h v (a1.getD p [])
theorem wB(s:aK aj aJ aG h L)(i:Nat)(af:L[i]? =o (d9 ab aO a1)):∃bA,x5 h ab aO a1 bA:=by obtain⟨ae,ai,x⟩:=s.get i af;obtain⟨bA,am,bg⟩:=adr x;have c:=bg.cell 0 rfl;refine⟨bA,c.1,c.2,am,λp aH=>?_⟩;obtain⟨v,J,R⟩:=Df am aH;obtain⟨ez,eA,b3⟩:=bg.get (p+1) R;exact⟨v,J,LB b3⟩
theorem x5.push{bA:List E}{es:List (List E)}(v:x5 h ab aO a1 bA)(s:aK aj aJ aG (h.push es) L)(i:Nat)(af:L[i]? =o (d9 ab aO a1)):x5 (h.push es) ab aO a1 bA:=by
 obtain⟨rR,bs⟩:=wB s i af;have e:=bs.c;rw[ir v.lt,v.c]at e;obtain rfl:bA=rR:=by simpa using e
 exact bs
theorem x5.box{bA:List E}(v:x5 h ab aO a1 bA)(n:Nat):cS T n h (.ptr ab 0 0)=o (.ptr aO 0 0):=by rw[fL,v.c];rfl
theorem x5.i6{bA:List E}(v:x5 h ab aO a1 bA){p:Nat}{w:E}(hw:bA[p]? =o w)(n:Nat):cS T n h (.ptr ab 0 (1+p))=o w:=by rw[fL,v.c];show(E.ptr aO 0 0::bA)[1+p]? =o w;rw[Nat.add_comm,pS];exact hw
theorem adt{b p:Nat}(q:gx)(aH:p<4):dO ad (o (4,1)) (.ptr b 0 1) (.int q (p:Int))=o (.ptr b 0 (1+p)):=by simp[dO,aH]
theorem as4(gG:aK aj aJ aG h L)(i:Nat)(af:L[i]? =o (d9 ab aO a1)){p:Nat}(aH:p<a1.length){v:av}{r:List E}(U:bT v r)(am:(a1.getD p []).length<=1000000){jF:Nat}(aN:h.cell jF=o [aU]){bA:List E}{w:E}(fl:x5 h ab aO a1 bA)(hw:bA[p]? =o w):∃q J R ah,eU O bG w (.bn jF 0 1 bG) h=o (.bn q 0 ((a1.getD p []).length+1) bG,J)/\eQ 3 J (.ptr q (a1.getD p []).length 0) (.agg r)=o R/\eQ 1 R (.ptr ab 0 (1+p)) (.bn q 0 ((a1.getD p []).length+1) bG)=o ah/\cS O 3 ah (.ptr q (a1.getD p []).length 0)=o (.agg r)/\aK aj aJ aG ah (L.set i (d9 ab aO (a1.set p (a1.getD p []++[v])))):=by
 have zT:bT cv aU:=e6;obtain⟨ah,⟨q,J,R⟩,⟨au,ax,bc,bY⟩,ew⟩:=gG.y4 (cF:=λah (q:Nat×ag×ag)=>eU O bG w (.bn jF 0 1 bG) h=o (.bn q.1 0 ((a1.getD p []).length+1) bG,q.2.1)/\eQ 3 q.2.1 (.ptr q.1 (a1.getD p []).length 0) (.agg r)=o q.2.2/\eQ 1 q.2.2 (.ptr ab 0 (1+p)) (.bn q.1 0 ((a1.getD p []).length+1) bG)=o ah/\cS O 3 ah (.ptr q.1 (a1.getD p []).length 0)=o (.agg r)) i af (Y:=λ_=>d9 ab aO (a1.set p (a1.getD p []++[v]))) λae ai x=>by
  obtain⟨rR,h1,s⟩:=adr x;have cp:=s.cell 0 rfl;have Nm:rR=bA:=by have:=fl.c;rw[cp.1]at this;simpa using this
  subst Nm;obtain⟨ba,k0,yw⟩:=Df h1 aH;rw[hw]at k0;injection k0 with k0;subst k0;have eR:(aY ab [.ptr aO 0 0::rR]::iy h4 rR a1)[p+1]? =o (h4 w (a1.getD p [])):=yw;generalize a1.getD p []=l at*;obtain⟨J,au,bg⟩:=s.app (p+1) eR aN zT am;have bf:p+1<(aY ab [.ptr aO 0 0::rR]::iy h4 rR a1).length:=(fQ.1 eR).1;obtain⟨R,ax,aV⟩:=bg.call (cF:=λR=>eQ 3 J (.ptr h.n l.length 0) (.agg r)=o R) (X:=h4 (.bn h.n 0 (l.length+1) bG) (l++[cv])) (Y:=h4 (.bn h.n 0 (l.length+1) bG) ((l++[cv]).set l.length v)) (p+1) (by rw[tQ];simp only[if_true,bf]) λae ai x=>aa0 x (i:=l.length) (by simp) U;rw[List.set_set,show(l++[cv]).set l.length v=l++[v] from OX l [] cv v rfl]at aV;have aV:aK h ae ai R (aY ab [.ptr aO 0 0::rR]::iy h4 (rR.set p (.bn h.n 0 (l.length+1) bG)) (a1.set p (l++[v]))):=by rw[<-ads];exact aV
  have bu:=aV.cell 0 rfl;have br:=aV.set 0 rfl [.ptr aO 0 0::rR.set p (.bn h.n 0 (l.length+1) bG)];have jZ:p<rR.length:=by omega
  refine⟨_,(h.n,J,R),⟨au,ax,lc bu.1 rfl rfl rfl (by simp;omega),?_⟩,?_⟩
  ·have di:ab≠h.n:=by have:=cp.2;omega
   rw[fL,eu (lP di),<-fL (agg:=O) (n:=3)];exact aa1 ax
  ·refine as3 (bA:=rR.set p (.bn h.n 0 (l.length+1) bG)) (by simp[h1]) ?_;have e:dh (E.ptr aO 0 0::rR) (1+p) (E.bn h.n 0 (l.length+1) bG).cells= .ptr aO 0 0::rR.set p (.bn h.n 0 (l.length+1) bG):=by rw[Nat.add_comm];unfold dh;simp only[E.cells,List.take_succ_cons,gM,List.drop_succ_cons,m3];rw[List.set_eq_take_append_cons_drop,if_pos jZ];simp
   simp only[vR];rw[e];exact br
 exact⟨q,J,R,ah,au,ax,bc,bY,ew⟩
end
structure rS where
 (ab aO ck cr:Nat)
abbrev mO(c:rS)(H:dp):List b6:=[d9 c.ab c.aO H.a1,hQ c.aO c.ck c.cr H.ms H.S.kept,bi c.ck H.S.G,h3 c.cr H.S.cells H.S.log]
structure j'(H:dp):Prop where
 cG:H.Good
 log:H.S.log.length<=800000
 a1:∀l∈H.a1,l.length<=90000
theorem j'.len{H:dp}(I:j' H):H.ms.length=H.S.kept.length:=I.cG.ms.trans I.cG.st.kept.symm
section
variable{h F aj:ag}{ae ai aJ aG:Nat->Prop}{L:List b6}{ab aO:Nat}{a1:List (List av)}{c:rS}{H:dp}
theorem qj(p:Int):aQ ap W 57 [.int j p] h=o (.inl (.bool (iS p)),h):=by refine a2 as1 rfl ?_;unfold acY;unfold iS;cases J:decide (0<=p)<;>simp only[ak,aq,ar,al,J]
abbrev cP(c f:Int)(r:List E):List E:=.int j c::.int j f::r
theorem as5(x:(d9 ab aO a1).A h ae ai){k:Int}(Z:k≠0)(p n:Int):∃F,aQ ap W 59 [.ptr ab 0 0,.int j p,.int j n,.int j k] h=o (.inl (.agg (cP k 0 aU)),F)/\gw h ae ai F (d9 ab aO a1):=by have gG:aK h ae ai h [d9 ab aO a1]:=aK.start (cf.one x);have bg:=gG.push [cP k 0 aU];have d1:decide (k=0)=T:=decide_eq_false Z;refine⟨_,?_,gw.imp (λ_ _ _=>cf.Cz) bg.drop⟩;refine a2 ac0 rfl ?_;unfold RU;simp only[ak,aq,ar,al,bW,d1]
theorem as6(x:(d9 ab aO a1).A h ae ai)(aD:a1.length=4)(am:∀l∈a1,l.length<=90000){p:Int}(aH:0<=p/\p<4)(n:Int):∃F,aQ ap W 59 [.ptr ab 0 0,.int j p,.int j n,.int j 0] h=o (.inl (.agg (cP 0 0 [.int j 4,.int j n,.aA])),F)/\gw h ae ai F (d9 ab aO (a1.set p.toNat (a1.getD p.toNat []++[ly n]))):=by
 obtain⟨D,rfl⟩:∃D:Nat,p=(D:Int):=⟨p.toNat,by omega⟩;have aa:D<4:=by omega
 have gG:aK h ae ai h [d9 ab aO a1]:=aK.start (cf.one x);have bg:=gG.push [cP 0 0 aU];have aV:=bg.push [[.int j 4,.int j n,.aA]];have br:=aV.push [aU];have cp:=(br.cell 0 rfl).1;have aP:=(br.cell 1 rfl).1;have bu:=(br.cell 2 rfl).1;obtain⟨bA,hN⟩:=wB aV 2 rfl;have U:=hN.push br 3 rfl;obtain⟨w,hw,bC⟩:=U.v D (by omega);have i6:=U.i6 hw;have as7:=hN.i6 hw;have cg:=(aV.cell 0 rfl).1;have as8:(a1.getD D []).length<=1000000:=by
  have:a1.getD D []∈a1:=by rw[dz,fr (by omega),rf];exact iX _
  have:=am _ this;omega
 obtain⟨q,J,R,ah,aR,a5,bp,cA,bz⟩:=as4 br 3 rfl (p:=D) (by omega) (zl n) as8 cp U hw;have bz:aK h ae ai ah [aY (h.n+1+1) [aU],aY (h.n+1) [[.int j 4,.int j n,.aA]],aY h.n [cP 0 0 aU],d9 ab aO (a1.set D (a1.getD D []++[ly n]))]:=bz;have aR:eU O bG w (.bn (h.n+1+1) 0 1 bG) _=_:=aR;have au:=(bz.cell 1 rfl).1;have ax:=(bz.cell 2 rfl).1;have b8:=bz.set 2 rfl [cP 0 0 [.int j 4,.int j n,.aA]];have f1:b5 1 (.ptr ab 0 0)=o (.ptr ab 0 1):=rfl;have bV:∀q,dO ad (o (4,1)) (.ptr ab 0 1) (.int q (D:Int))=o (.ptr ab 0 (1+D)):=λq=>adt q aa;have as9:∀k,dO (o bG) ad (.bn q 0 ((a1.getD D []).length+1) bG) (.int k ((a1.getD D []).length:Int))=o (.ptr q (a1.getD D []).length 0):=λk=>by rw[vO rfl (Nat.lt_succ_self _),hH]
 obtain⟨cK,cX,jS,w4⟩:=bC.fits |> λf=>And.intro bC.len (And.intro f (And.intro bC.one bC.cells));rw[mE];generalize a1.getD D []=l at*;refine⟨_,?_,gw.imp (λ_ _ _=>cf.Cz) b8.drop.drop.drop⟩;have dA:∀x,(h.push [cP 0 0 aU]).push x=(h.push [cP 0 0 aU]).push x:=λ_=>rfl;refine a2 ac0 rfl ?_;unfold RU;simp only[ak,aq,ar,al,bW,f1,bV,as9,i6,as7,cK,cX,aR,a5,bp,cA,au,ax]
theorem adu{aO p:Nat}(q:gx)(aH:p<4):dO ad (o (4,5)) (.ptr aO 0 2) (.int q (p:Int))=o (.ptr aO 0 (2+p*5)):=by simp[dO];omega
theorem as'(x:(cf (mO c H)).A h ae ai)(I:j' H)(p:Int){M:List bx}{v:E}{es:List (List E)}(de:fo fp v es)(fv:gE M es)(c5:M.length<=100000)(aC:∀x∈M,x.size<=100000):∃F,aQ ap W 56 [.ptr c.ab 0 0,.int j p,.agg [v]] h=o (.inl (.int j (H.load p M).2),F)/\gw h ae ai F (cf (mO c (H.load p M).1)):=by
 have gG:aK h ae ai h (mO c H):=aK.start x;have bg:=gG.push [[v]];have kg:∀h,iP h v M:=λh=>iP.of de fv;have py:=(kg h).one;have aP:=(bg.cell 0 rfl).1;unfold dp.load;cases aH:iS p with
 |false=>refine⟨_,?_,bg.drop⟩;refine a2 RT rfl ?_;unfold Lu;simp only[ak,aq,ar,al,qj,aH,py]
 |true=>
   obtain⟨d',dA⟩:=tX.1 aH;rw[if_neg (by decide)];have mk:=λ(h:ag)=>aph (h:=h) de fv kg c5 aC;unfold Ae at mk;have aV:=bg.push [[.int j (e1 M).1,.int j (e1 M).2]];have bu:=(aV.cell 0 rfl).1;by_cases aN:(e1 M).1=0
   ·have je:decide ((e1 M).1=0)=O:=decide_eq_true aN;rw[if_neg (λh=>h aN)];obtain⟨D,rfl⟩:∃D:Nat,p=(D:Int):=⟨p.toNat,by omega⟩;obtain⟨f1,f2,f3⟩:=A9 M;have f4:(lZ M).cells=[lZ M]:=by unfold lZ;rfl
    have aa:D<4:=by omega
    obtain⟨bA,U⟩:=wB aV 2 rfl;have vg:=U.box 1;obtain⟨ah,bc,br⟩:=asS aV 3 rfl I.len (p:=D) (by rw[I.cG.ms];exact aa) (M:=M) e6;have bV:∀q,dO ad (o (4,5)) (.ptr c.aO 0 2) (.int q (D:Int))=o (.ptr c.aO 0 (2+D*5)):=λq=>adu q aa;have da:b5 2 (.ptr c.aO 0 0)=o (.ptr c.aO 0 2):=rfl;have rn:b5 0 (.ptr c.ab 0 0)=o (.ptr c.ab 0 0):=rfl;refine⟨ah,?_,br.drop.drop⟩;rw[if_pos aN]at mk;rw[mE];generalize lZ M=axH at*;refine a2 RT rfl ?_;unfold Lu;simp only[ak,aq,ar,al,bW,bJ,qj,aH,py,aP,mk,je,vg,bV,rn,da,f3,f4,bc]
   ·have je:decide ((e1 M).1=0)=T:=decide_eq_false aN;rw[if_pos aN];rw[if_neg aN]at mk;refine⟨_,?_,aV.drop.drop⟩;refine a2 RT rfl ?_;unfold Lu;simp only[ak,aq,ar,al,bJ,qj,aH,py,aP,mk,je]
def eE(x:iR)(m:E):List E:=[.int j x.kind,.int j x.p,.int j x.q,.int j x.k,.int j x.h,.int j x.r,.int j x.g,.int j x.n,m]
def ka(e:nN)(r:List E):Prop:=∃q,r=cP e.code e.fuel q/\bT e.v q
theorem ka.no{c:Int}:ka (nN.no c) (cP c 0 aU):=⟨aU,rfl,e6⟩
theorem R4{b:Nat}{p:Int}(q:gx)(aj:0<=p)(J:p<4):dO ad (o (4,1)) (.ptr b 0 1) (.int q p)=o (.ptr b 0 (1+p.toNat)):=by obtain⟨D,rfl⟩:=lE aj;rw[mE];exact adt q (by omega)
abbrev LC(fU:Nat)(y:iR)(m:E)(cJ:List E)(c:rS)(H:dp):List b6:=[aY (fU+1+1) [cJ],aY (fU+1) [cP 0 0 aU],aY fU [eE y m],d9 c.ab c.aO H.a1,hQ c.aO c.ck c.cr H.ms H.S.kept,bi c.ck H.S.G,h3 c.cr H.S.cells H.S.log]
structure ata(aj:ag)(aJ aG:Nat->Prop)(fU:Nat)(fg:ag)(y:iR)(m:E)(cJ:List E)(c:rS)(H:dp)(ca:bK)(v:av)(n k:Int)(bo:ag)(bj:List E):Prop where
 e:aQ ap W jK (rP c.aO y.p y.k cJ 2000) fg=o (.inl (.bU [.agg bj,.int j n,.int j k]),bo)
 fE:bT v bj
 ja:fg.cell (fU+1+1)=o [cJ]
 a5:fg.cell fU=o [eE y m]
 zy:cS T 1 fg (.ptr c.ab 0 0)=o (.ptr c.aO 0 0)
 hR:(bo.push [aU]).cell (fU+1+1)=o [cJ]
 dw:(bo.push [aU]).cell fU=o [eE y m]
 aO:cS T 1 (bo.push [aU]) (.ptr c.ab 0 0)=o (.ptr c.aO 0 0)
 d1:(bo.push [bj]).cell (fU+1)=o [cP 0 0 aU]
 s:aK aj aJ aG ((bo.push [bj]).set (fU+1) (o [cP k n bj])) (mO c {H with S:=ca})
theorem adv{fU:Nat}{fg:ag}{y:iR}{m:E}{cJ:List E}{arg:av}(s:aK aj aJ aG fg (LC fU y m cJ c H))(I:j' H)(U:bT arg cJ)(eJ:arg.size<=100000):∃bo bj,ata aj aJ aG fU fg y m cJ c H (ci H.ms y.p y.k arg 2000 H.S).1 (ci H.ms y.p y.k arg 2000 H.S).2.1 (ci H.ms y.p y.k arg 2000 H.S).2.2.1 (ci H.ms y.p y.k arg 2000 H.S).2.2.2 bo bj:=by
 obtain⟨bo,⟨bj,cU,b7⟩,b8⟩:=s.ww (A:=[aY (fU+1+1) [cJ],aY (fU+1) [cP 0 0 aU],aY fU [eE y m],d9 c.ab c.aO H.a1]) (M:=[hQ c.aO c.ck c.cr H.ms H.S.kept,bi c.ck H.S.G,h3 c.cr H.S.cells H.S.log]) (B:=[]) (q1:=[hQ c.aO c.ck c.cr H.ms (ci H.ms y.p y.k arg 2000 H.S).1.kept,bi c.ck (ci H.ms y.p y.k arg 2000 H.S).1.G,h3 c.cr (ci H.ms y.p y.k arg 2000 H.S).1.cells (ci H.ms y.p y.k arg 2000 H.S).1.log])
  λae ai x=>asK (p:=y.p) (f:=y.k) (fuel:=2000) U eJ x I.cG.ms I.cG.ok.cG I.cG.ok.sized I.cG.st (by have:=I.log;omega)
 have b8:aK aj aJ aG bo (LC fU y m cJ c {H with S:=(ci H.ms y.p y.k arg 2000 H.S).1}):=b8;obtain⟨bA,nV⟩:=wB s 3 rfl;have cM:=b8.push [aU];obtain⟨axI,atb⟩:=wB cM 4 rfl;have eM:=b8.push [bj];have g8:=eM.set 2 rfl [cP (ci H.ms y.p y.k arg 2000 H.S).2.2.2 (ci H.ms y.p y.k arg 2000 H.S).2.2.1 bj];exact⟨bo,bj,cU,b7,(s.cell 0 rfl).1,(s.cell 2 rfl).1,nV.box 1,(cM.cell 1 rfl).1,(cM.cell 3 rfl).1,atb.box 1,(eM.cell 2 rfl).1,g8.drop.drop.drop.drop⟩
theorem atc(x:(cf (mO c H)).A h ae ai)(I:j' H)(y:iR){m:E}(hm:m.one=O):∃F,(∃r,aQ ap W 61 [.ptr c.ab 0 0,.agg (eE y m)] h=o (.inl (.agg r),F)/\ka (H.call y).2 r)/\gw h ae ai F (cf (mO c (H.call y).1)):=by
 have gG:aK h ae ai h (mO c H):=aK.start x;have bg:=gG.push [eE y m];have aV:=bg.push [cP 0 0 aU];have br:aK h ae ai _ (LC h.n y m [.int j 1,.int j y.n,.aA] c H):=aV.push [[.int j 1,.int j y.n,.aA]];have cp:=(br.cell 0 rfl).1;have aP:=(br.cell 1 rfl).1;have bu:=(br.cell 2 rfl).1;have d2:=(aV.cell 1 rfl).1;obtain⟨bA,U⟩:=wB br 3 rfl;have lJ:∀x,(((h.push [eE y m]).push [cP 0 0 aU]).push [aU]).set (h.n+1+1) (o x)=((h.push [eE y m]).push [cP 0 0 aU]).push x:=λx=>i9;have lK:(((h.push [eE y m]).push [cP 0 0 aU]).push [aU]).cell (h.n+1+1)=o [aU]:=iG (h:=(h.push [eE y m]).push [cP 0 0 aU]);have f4:∀b I k,b5 I (.ptr b 0 k)=o (.ptr b 0 (k+I)):=λ_ _ _=>rfl;simp only[eE]at bu d2 lJ lK;unfold dp.call;by_cases an:0<=y.h/\(iS y.p=T\/((H.hand y.p).length:Int)<=y.h)
 ·rw[if_pos an];obtain⟨mS,iC⟩:=an;have qk:decide (0<=y.h)=O:=decide_eq_true mS;have bz:=br.set 1 rfl [cP 8 0 aU];refine⟨_,⟨_,?_,ka.no⟩,bz.drop.drop.drop⟩;cases aH:iS y.p with
  |false=>refine a2 Lw rfl ?_;unfold GN;simp only[ak,aq,ar,al,bW,eE,qj,aH,hm,qk,bu,d2,lK,lJ]
  |true=>obtain⟨d',dA⟩:=tX.1 aH;have am:((H.hand y.p).length:Int)<=y.h:=iC.resolve_left (by simp[aH]);have jJ:decide (((H.hand y.p).length:Int)<=y.h)=O:=decide_eq_true am;obtain⟨w,hw,bC⟩:=U.v y.p.toNat (by rw[I.cG.a1];omega);have i6:=U.i6 hw;simp only[eE]at i6;have bV:=λq=>R4 (b:=c.ab) q d' dA;have bC:Dg _ w (H.hand y.p):=bC;have cK:=bC.len;have cX:=bC.fits;refine a2 Lw rfl ?_;unfold GN;simp only[ak,aq,ar,al,bW,eE,qj,aH,hm,qk,bu,d2,lK,lJ,bV,i6,cK,cX,jJ]
 ·rw[if_neg an];have gb:=I.cG.arg y;by_cases J:0<=y.h
  ·have aH:iS y.p=O:=by
    cases aH:iS y.p with
    |true=>rfl
    |false=>exact absurd ⟨J,.inl aH⟩ an
   have am:¬((H.hand y.p).length:Int)<=y.h:=λh=>an ⟨J,.inr h⟩;obtain⟨d',dA⟩:=tX.1 aH;have jJ:decide (((H.hand y.p).length:Int)<=y.h)=T:=decide_eq_false am;have qk:decide (0<=y.h)=O:=decide_eq_true J;obtain⟨w,hw,bC⟩:=U.v y.p.toNat (by rw[I.cG.a1];omega);have i6:=U.i6 hw;simp only[eE]at i6;have bV:=λq=>R4 (b:=c.ab) q d' dA;have bC:Dg _ w (H.hand y.p):=bC;have cK:=bC.len;have cX:=bC.fits;rw[if_pos J]at gb ⊢;have af:y.h.toNat<(H.hand y.p).length:=by omega
   have Bn:(H.hand y.p)[y.h.toNat]? =o ((H.hand y.p).getD y.h.toNat cv):=by simp[dz,af]
   generalize (H.hand y.p).getD y.h.toNat cv=arg at*;obtain⟨axJ,cJ,i1,gt,fE⟩:=bC.bV j _ _ Bn;rw[Int.toNat_of_nonneg J]at i1;have adw:=gt;simp only[eE]at adw;have bz:aK h ae ai _ (LC h.n y m cJ c H):=aV.push [cJ];obtain⟨bH,bR⟩:=fE.cD;have RR:((((h.push [eE y m]).push [cP 0 0 aU]).push [[.int j 1,.int j y.n,.aA]]).set (h.n+1+1) (o [cJ]))=((h.push [eE y m]).push [cP 0 0 aU]).push [cJ]:=i9;simp only[eE]at RR;obtain⟨bo,bj,e,bs,ja,a5,zy,hR,dw,aO,d1,GO⟩:=adv bz I fE gb.2;generalize ci H.ms y.p y.k arg 2000 H.S=q at*;obtain⟨ca,v,n,k⟩:=q;simp only at e bs ja a5 zy hR dw aO d1 GO ⊢;obtain⟨eD,fR⟩:=bs.cD;refine⟨_,⟨_,?_,⟨bj,rfl,bs⟩⟩,GO⟩;simp only[eE]at e ja a5 zy hR dw;refine a2 Lw rfl ?_;unfold GN;simp only[ak,aq,ar,al,bW,eE,qj,aH,hm,qk,bu,d2,lK,lJ,bV,i6,cK,cX,jJ,RR,i1,adw,bH,bR,e,ja,a5,zy,hR,dw,aO,d1,eD,fR]
  ·rw[if_neg J]at gb ⊢;have qk:decide (0<=y.h)=T:=decide_eq_false J;obtain⟨bo,bj,e,bs,ja,a5,zy,hR,dw,aO,d1,GO⟩:=adv br I (we y.n) gb.2;generalize ci H.ms y.p y.k (lx y.n) 2000 H.S=q at*;obtain⟨ca,v,n,k⟩:=q;simp only at e bs ja a5 zy hR dw aO d1 GO ⊢;obtain⟨eD,fR⟩:=bs.cD;refine⟨_,⟨_,?_,⟨bj,rfl,bs⟩⟩,GO⟩;simp only[eE]at e ja a5 zy hR dw;refine a2 Lw rfl ?_;unfold GN;simp only[ak,aq,ar,al,bW,eE,qj,hm,qk,bu,d2,lK,lJ,e,ja,zy,hR,dw,aO,d1,eD,fR]
end
structure hL where
 (ab h6 ku:Nat)
 jn:List (E×E)
def ng(v:E×E):Option (List bx)->b6
 |none=>vV (v.1= .e2)
 |some M=>uM λq:Nat×List (List E)=>xn (v.1= .ptr q.1 0 0/\fo fp v.2 q.2/\gE M q.2) (aY q.1 [[v.2]])
abbrev rT(v:E)(l:List av):b6:=h4 v l
abbrev jL(c:hL)(bF:E)(dk:List (List E))(U:List E):List E:=.ptr c.h6 0 0::.bn c.ku 0 12 ob::bF::(c.jn.map Prod.fst++dk.flatten++U)
def jM(c:hL)(ms:dj)(S:bK)(a1:List (List av)):b6:=uM λq:E×List (List E)×List E=>
 xn (c.jn.length=ms.length/\c8 S.kept q.2.1/\q.2.2.length=a1.length) (cf (aY c.ab [jL c q.1 q.2.1 q.2.2]::aY c.ku (S.cells.map λx=>[.int j x])::ju hP q.1 (S.log.map g0)::(iy ng c.jn ms++iy rT q.2.2 a1)))
section
variable{h F aj:ag}{ae ai aJ aG:Nat->Prop}{L:List b6}{c:hL}{ms:dj}{S:bK}{a1:List (List av)}
theorem R5(x:(jM c ms S a1).A h ae ai):∃bF dk U,c.jn.length=ms.length/\c8 S.kept dk/\U.length=a1.length/\aK h ae ai h (aY c.ab [jL c bF dk U]::aY c.ku (S.cells.map λx=>[.int j x])::ju hP bF (S.log.map g0)::(iy ng c.jn ms++iy rT U a1)):=by obtain⟨⟨bF,dk,U⟩,⟨J,R,ah⟩,x⟩:=x;exact⟨bF,dk,U,J,R,ah,aK.start x⟩
theorem R6{bF:E}{dk:List (List E)}{U:List E}(J:c.jn.length=ms.length)(R:c8 S.kept dk)(ah:U.length=a1.length)(s:aK aj aJ aG h (aY c.ab [jL c bF dk U]::aY c.ku (S.cells.map λx=>[.int j x])::ju hP bF (S.log.map g0)::(iy ng c.jn ms++iy rT U a1))):gw aj aJ aG h (jM c ms S a1):=gw.imp (λ_ _ _ x=>⟨(bF,dk,U),⟨J,R,ah⟩,x⟩) s
end
def R7:List be:=[.ops [Fb,qM],.ops [cW,.i (.v 4) mJ],.cond (.v 4) [.ops [kN,cW,.i .n (.store 3 (.v 2) (.l 1)),jk],.ret] [],.ops [bd,ID,Ay,qM],.ret]
theorem adx:cq ap W 138 2 5 [0,1,4,5,7] R7 [(.cell O 3 2),(.v 3)] O:=by refine⟨_,_,Tryz.func138,rfl,rfl,?_,?_,?_,?_,?_⟩<;>kernel_rfl
def R8:List be:=[.ops [Az,Oz,p6],.ops [bd,cu,dB,aM,cu,dB,aM,nG,aM,gT,.i .l (.call (.c (.fn 152 [] [])) [.l 3,.l 1]),.i .l (.call (.c (.fn 151 [] [])) [.l 0,.l 1]),.i (.v 7) u9],.cond (.v 7) [.ops [Oy,IN,.i (.v 5) (.a4 (.c (.int j 9)))],.ret] [],.ops [bd,cu,dB,aM,cu,dB,aM,nG,aM,.i .l (.call (.c (.fn 153 [] [])) [.l 2,.l 0]),cl,fx,fy,Pp,.bZ [⟨ad,T,1,.l 10,(.l 9)⟩,⟨ad,T,1,.l 7,(.l 6)⟩,⟨ad,T,1,.l 5,(.l 4)⟩],.i .n (.store 6 (.v 6) (.l 1)),cl],.ops [.i .l (.load O 6 (.v 6)),IN,p6],.ret]
theorem ady:cq ap W 137 3 8 [0,1,2,4,6,7,8,22] R8 [(.cell O 6 4),(.v 5)] T:=by refine⟨_,_,Tryz.func137,rfl,rfl,?_,?_,?_,?_,?_⟩<;>kernel_rfl
def adz:List be:=[.ops [E9,yK],.ops [kN,bd,X9,jv],.ret]
theorem atd:cq ap W 135 1 3 [0,2,3] adz [(.cell O 3 1),(.v 2)] O:=by refine⟨_,_,Tryz.func135,rfl,rfl,?_,?_,?_,?_,?_⟩<;>kernel_rfl
def hM:List be:=[.ops [.i (.v 4) (.box 4 (.v 2)),v6,rx],.ops [.i (.v 7) (.a4 (.c (.fn 135 [] [])))],.ops [bd,cu,dB,aM,cu,dB,aM,kA],.ops [sq,.i (.v 26) oc],.block 0 [.ops [.i .l (.bin (.int j) .eql (.v 26) (.c (.int j 6))),.i (.v 27) nE],.cond (.v 27) [.ops [cR,lj,dB,aM,.i .l adA,cl,PW,adB,GP,CF,adC,.i (.v 28) adD],.cond (.v 28) [tY,.ret] [],.ops [od,aM,cR,lj,gU,aM,cR,LD,gU,aM,.i .l (.call (.c (.fn 136 [] [])) [.l 8,.l 4,.l 0]),y5,p9,rx],.ret] [.ops [.i .l (.bin (.int j) .eql (.v 26) (.c (.int j 8))),.i (.v 29) nE],.cond (.v 29) [] [.ops [.i .l (.bin (.int j) .eql (.v 26) (.c (.int j 11))),.i (.v 29) nE]],.cond (.v 29) [.ops [cR,Jt,Fi,Jx],.ops [sq,aM,.i (.v 30) (.bin (.int j) .eql (.l 0) (.c (.int j 11)))],.cond (.v 30) [.ops [cW,.i .l (.c0 0 (.v 9)),.i .n (.store 1 (.l 0) (.c (.int j 3))),.i .l (.c0 1 (.v 9)),l1]] [],.ops [Fj,Qd,.i (.v 31) mJ],.cond (.v 31) [.ops [j7,.i .l (.call (.l 0) [.c (.int j 3)]),fx,fy,rH,jC],.ret] [],.ops [Fj,p9,rx],.ret] [.ops [.i .l (.bin (.int j) .eql (.v 26) (.c (.int j 9))),.i (.v 32) nE],.cond (.v 32) [] [.ops [.i .l (.bin (.int j) .eql (.v 26) (.c (.int j 10))),.i (.v 32) nE]],.cond (.v 32) [.ops [cR,lj,dB,aM,.i (.v 33) (.bin (.int j) .neq (.l 0) (.c (.int j 2)))],.cond (.v 33) [tY,.ret] [],.ops [cR,lj,kn,aM,sq,aM,.i .l (.bin (.int j) .sub (.l 0) (.c (.int j 9))),.i .l (.fG (o 35) ad (.l 3) (.l 0)),jd,p9,rx],.ret] [.ops [.i .l (.bin (.int j) .eql (.v 26) (.c (.int j 12))),.i (.v 34) nE],.cond (.v 34) [.ops [cR,lj,dB,aM,.i (.v 35) (.bin (.int j) .neq (.l 0) (.c (.int j 3)))],.cond (.v 35) [tY,.ret] [],.ops [cR,lj,gU,aM,cW,.i (.v 36) Zi],.cond (.v 36) [.ops [j7,.i .l (.call (.l 0) [.c (.int j 10)]),fx,fy,rH,jC],.ret] [],.ops [cR,lj,kn,aM,lj,jd,p9,rx],.ret] [.ops [.i .l (.bin (.int j) .eql (.v 26) (.c (.int j 13))),.i (.v 37) nE],.cond (.v 37) [.ops [cR,lj,dB,aM,.i (.v 38) GQ],.cond (.v 38) [tY,.ret] [],.ops [bd,cR,lj,jd,.i .l (.call (.c (.fn 137 [] [])) [.l 3,.l 0,.c (.int j 0)]),cl,fx,fy,.i (.v 10) EN,.i .n (.store 6 (.v 10) (.l 1)),xA],.ops [wa,.i (.v 39) mJ],.cond (.v 39) [.ops [j7,wa,LF,fx,fy,rH,jC],.ret] [],.ops [.i .l (.c0 4 (.v 10)),aM,.i (.v 40) IP],.cond (.v 40) [tY,.ret] [],.ops [bd,cu,dB,aM,bd,cu,dB,aM,cu,kn,aM,cW,.i .l (.c0 3 (.v 10)),aM,cR,lj,gU,aM,.i .l (.build [.int j 0,.int j 0,.int j 0,.int j 0] [(0,1),(1,1),(2,1),(3,1)] [(0,(.l 6)),(1,(.l 4)),(2,(.c (.int j 1))),(3,(.l 0))]),Jz,.bZ [⟨ad,T,1,.l 17,(.l 16)⟩,⟨ad,T,1,.l 13,(.l 12)⟩,⟨ad,T,1,.l 10,(.l 9)⟩],adE,.bZ [⟨ad,T,1,.l 18,(.l 17)⟩],.i .l (.j2 (.l 17)),kn,l1],.ops [bd,cu,dB,aM,cu,gU,aM,.i .l (.c0 3 (.v 10)),aM,.i .l (.fG (o 2) ad (.l 2) (.l 0)),aM,y5,p9,rx],.ret] [.ops [.i .l (.bin (.int j) .eql (.v 26) (.c (.int j 14))),.i (.v 41) nE],.cond (.v 41) [.ops [cR,lj,dB,aM,.i .l GQ,cl,PW,adB,GP,CF,adC,.i (.v 42) adD],.cond (.v 42) [tY,.ret] [],.ops [bd,cR,lj,jd,.i .l (.call (.c (.fn 137 [] [])) [.l 3,.l 0,.c (.int j 1)]),cl,fx,fy,.i (.v 12) EN,.i .n (.store 6 (.v 12) (.l 1)),AA],.ops [AP,.i (.v 43) mJ],.cond (.v 43) [.ops [j7,AP,LF,fx,fy,rH,jC],.ret] [],.ops [.i .l (.c0 4 (.v 12)),aM,.i (.v 44) IP],.cond (.v 44) [tY,.ret] [],.ops [bd,cu,dB,aM,bd,cu,dB,aM,cu,kn,aM,cW,.i .l (.c0 3 (.v 12)),aM,cR,lj,gU,aM,.i .l (.build [.int j 0,.int j 0,.int j 0,.int j 0] [(0,1),(1,1),(2,1),(3,1)] [(0,(.l 6)),(1,(.l 4)),(2,(.c (.int j 2))),(3,(.l 0))]),Jz,.bZ [⟨ad,T,1,.l 17,(.l 16)⟩,⟨ad,T,1,.l 13,(.l 12)⟩,⟨ad,T,1,.l 10,(.l 9)⟩],adE,.bZ [⟨ad,T,1,.l 18,(.l 17)⟩],.i .l (.j2 (.l 17)),kn,l1],.ops [bd,cu,dB,aM,cu,gU,aM,.i .l (.c0 3 (.v 12)),aM,cR,LD,gU,aM,.i .l (.fG (o 2) ad (.l 6) (.l 4)),xt],.ops [cR,LD,jd,p9,rx],.ret] [.ops [.i .l (.bin (.int j) .eql (.v 26) (.c (.int j 15))),.i (.v 45) nE],.cond (.v 45) [.ops [cR,lj,dB,aM,.i (.v 46) GQ],.cond (.v 46) [tY,.ret] [],.ops [p7,cR,lj,gU,aM,od,aM,.i .l (.call (.c (.fn 85 [] [])) [.l 6,.l 2,.l 0,.c (.int j (-1))]),cl,fx,fy,.i (.v 14) vb,CG],.ops [GR,LG,adF,fx,fy,rH,jC],.ret] [.ops [.i .l (.bin (.int j) .eql (.v 26) (.c (.int j 16))),.i (.v 47) nE],.cond (.v 47) [.ops [cR,lj,dB,aM,.i (.v 48) GQ],.cond (.v 48) [tY,.ret] [],.ops [p7,adG,cl,fx,fy,.i (.v 16) vb,tz],.ops [Dh,.i (.v 49) mJ],.cond (.v 49) [adH,.ret] [],.ops [p7,cR,lj,gU,aM,.i .l (.a4 (.v 16)),.i .l (.call (.c (.fn 85 [] [])) [.l 5,.l 1,.c (.int j 15),.l 0]),cl,fx,fy,.i (.v 18) vb,tz],.ops [.i .l (.a4 (.v 18)),Dh,adF,cl,fx,fy,.i (.v 19) Di,.i .n (.store 3 (.v 19) (.l 1)),tz],.ops [Dh,.i (.v 50) mJ],.cond (.v 50) [adH,.ret] [],.ops [.i .l (.load O 3 (.v 19)),.i .l (.a4 (.v 16)),XJ,Pi,Jt,p9,rx],.ret] [.ops [.i .l (.bin (.int j) .eql (.v 26) (.c (.int j 17))),.i (.v 51) nE],.cond (.v 51) [.ops [cR,lj,dB,aM,.i (.v 52) (.bin (.int j) .neq (.l 0) (.c (.int j 5)))],.cond (.v 52) [tY,.ret] [],.ops [p7,cR,lj,gU,aM,.i .l (.call (.c (.fn 67 [] [])) [.l 4,.l 0])],.ops [kN,p9,rx],.ret] [.ops [.i .l (.bin (.int j) .eql (.v 26) (.c (.int j 18))),.i (.v 53) nE],.cond (.v 53) [.ops [bd,cW,od,aM,cR,lj,jd,.i .l (.call (.c (.fn 54 [] [])) [.l 6,.l 5,.l 3,.l 0]),fx,fy,rH,jC],.ret] [.ops [.i .l (.bin (.int j) .eql (.v 26) (.c (.int j 20))),.i (.v 54) nE],.cond (.v 54) [.ops [bd,cu,dB,aM,cW,tB,u2,adI,jd,.i (.v 20) Di,.i .n (.store 3 (.v 20) (.l 0))],.ops [bd,cu,dB,aM,cW,cR,lj,jd,y9,u2,.i .l (.fG ad (o (4,3)) (.l 0) (.l 5)),Ym],.ops [.i .l (.load O 3 (.v 20)),p9,rx],.ret] []]]]]]]]]]]],.ops [cR,lj,dB,aM,.i (.v 55) GQ],.cond (.v 55) [tY,.ret] [],.ops [bd,cR,lj,jd,.i .l (.call (.c (.fn 137 [] [])) [.l 3,.l 0,.c (.int j 3)]),cl,fx,fy,.i (.v 21) EN,.i .n (.store 6 (.v 21) (.l 1)),LH],.ops [LI,.i (.v 56) mJ],.cond (.v 56) [R9,.ret] [],.ops [R',aM,.i (.v 57) JY],.cond (.v 57) [tY,.ret] [],.ops [bd,cu,dB,aM,R',aM,vZ,Fk,uP,aM,adJ,cl,.g (.l 0) T .l (.c0 5 (.v 21)),k4,CR,Kx,Ky,.g (.l 5) T .l oc,.g (.l 6) T .l (.c0 4 (.v 21)),YJ,.g (.l 8) T .l (.j2 (.l 2)),.g (.l 9) T .l (.c0 3 (.l 0)),.g (.l 10) T .l adK,.g (.l 11) T .l oc,.g (.l 12) T .l (.j2 (.l 0)),.g (.l 13) T .l EE,.g (.l 14) T .l oc,.g (.l 15) T .l CQ,.g (.l 16) T .l (.bin (.int j) .geq (.l 14) (.l 0)),.i (.v 58) adL],.cond (.v 58) [.ops [j7,.i .l (.call (.l 0) [.c (.int j 8)]),fx,fy,rH,jC],.ret] [],.ops [bd,cu,kn,aM,.i (.v 59) Of],.cond (.v 59) [.ops [j7,.i .l (.call (.l 0) [.c (.int j 4)]),fx,fy,rH,jC],.ret] [],.ops [p7,cR,lj,gU,aM,.i .l (.call (.c (.fn 139 [] [])) [.l 4,.l 0]),Sa],.ops [p7,cR,LD,jd,.i .l (.a4 (.v 23)),.i .l (.call (.c (.fn 140 [] [])) [.l 4,.l 1,.l 0]),cl,fx,fy,.i (.v 24) Di,.i .n (.store 3 (.v 24) (.l 1)),LH],.ops [LI,.i (.v 60) mJ],.cond (.v 60) [R9,.ret] [],.ops [bd,R',aM,.i .l (.c0 5 (.v 21)),aM,.i .l (.load O 3 (.v 24)),.i .l (.call (.c (.fn 54 [] [])) [.l 5,.l 3,.l 1,.l 0]),cl,fx,fy,.i (.v 25) Di,.i .n (.store 3 (.v 25) (.l 1)),LH],.ops [LI,.i (.v 61) mJ],.cond (.v 61) [R9,.ret] [],.ops [p7,.i .l (.load O 3 (.v 25)),.i .l (.a4 (.v 23)),.i .l (.call (.c (.fn 140 [] [])) [.l 2,.l 1,.l 0]),fx,fy,rH,jC],.ret]
theorem hU:cq ap W 119 4 62 [0,1,2,3,6,8,9,10,11,12,13,14,15,16,17,18,19,20,21,22,23,24,25,26,27,28,37,38,51,68,75,81,87,94,108,114,124,135,141,155,163,203,216,230,238,283,289,310,316,327,350,361,367,379,391,418,432,440,474,483,504,521] hM [(.cell O 3 5),(.v 6)] T:=by refine⟨_,_,Tryz.func119,rfl,rfl,?_,?_,?_,?_,?_⟩<;>kernel_rfl
def Sb:List be:=[.ops [.i (.v 4) JS,v6,rx],.ops [bd,cu,kn,aM,.i (.v 9) Of],.cond (.v 9) [.ops [kN,p9,.i (.v 6) (.a4 (.c (.int j 4)))],.ret] [],.ops [bd,cu,kn,aM,ry,y9,kn,l1],.ops [bd,cW,bd,cu,dB,aM,cW,tB,Fk,uP,aM,cu,dB,aM,gT,vc,lC,rE,.i .l (.call (.c (.fn 95 [] [])) [.l 17,.l 16,.l 1,.l 0,.c .aA]),cl,fx,fy,Fm,.bZ [⟨ad,T,1,.l 17,(.l 16)⟩,⟨ad,T,1,.l 12,(.l 11)⟩,⟨ad,T,1,.l 9,(.l 8)⟩,⟨ad,O,4,.l 6,(.l 5)⟩,⟨ad,O,3,.v 4,(.l 4)⟩],xF,kA],X5,.ops [Pw,p7,rH,jC],.ret]
theorem adM:cq ap W 54 4 10 [0,1,2,3,7,8,9,10,11,16] Sb [(.cell O 3 5),(.v 6)] T:=by refine⟨_,_,Tryz.func54,rfl,rfl,?_,?_,?_,?_,?_⟩<;>kernel_rfl
def Bo:List be:=[.ops [LG,Bp,aM,pu,.i (.v 31) FO],.cond (.v 31) [] [.exit 1],.block 2 [.ops [bd,cW,Bp,aM,LG,vc,lC,sg,fb,.i .l (.call (.c (.fn 95 [] [])) [.l 8,.l 7,.l 2,.l 1,.l 0]),cl,fx,fy,.i (.v 16) Di,.bZ [⟨ad,T,1,.l 10,(.l 9)⟩,⟨ad,O,4,.l 7,(.l 6)⟩,⟨ad,O,3,.v 6,(.l 5)⟩],.i .n (.store 3 (.v 16) (.l 1)),tz],.ops [Dh,.i (.v 32) mJ],.cond (.v 32) [.ops [kN,Dh,xF,kA],.ret] [],.ops [GR,.i .l (.load O 3 (.v 16)),adN,ZB,Fl]],.ops [LG,ry,CG]]
def ql:List be:=[.ops [.i (.v 5) (.box 4 (.v 2)),.i (.v 6) JS,Fm,qN],.ops [bd,cu,gU,aM,.i (.v 18) Fs],.cond (.v 18) [.ops [kN,u3,.i (.v 8) (.a4 (.c (.int j 12)))],.ret] [],.ops [bd,cu,gU,aM,mh,y9,gU,l1],.ops [PA,.i (.v 19) oc],.block 0 [.ops [.i .l (.bin (.int j) .eql (.v 19) (.c (.int j 1))),Jw],.cond (.v 20) [.ops [kN,u3,qN],.ret] [.ops [.i .l (.bin (.int j) .eql (.v 19) (.c (.int j 2))),.i (.v 21) nE],.cond (.v 21) [.ops [.i .l (.c0 2 (.v 5)),aM,y5,u3,qN],.ret] [.ops [.i .l (.bin (.int j) .eql (.v 19) (.c (.int j 3))),LH],.cond (.v 22) [.ops [sg,u3,qN],.ret] [.ops [.i .l (.bin (.int j) .eql (.v 19) (.c (.int j 4))),Sa],.cond (.v 23) [.ops [fb,fb,qQ,mh,Ot,aM,XW,.i .l (.fG (o 35) ad (.l 6) (.l 0)),jd,u3,qN],.ret] [.ops [.i .l (.bin (.int j) .eql (.v 19) (.c (.int j 21))),.i (.v 24) nE],.cond (.v 24) [.ops [bd,cu,dB,aM,cW,tB,u2,adI,jd,u3,qN],.ret] [.ops [.i .l (.bin (.int j) .eql (.v 19) (.c (.int j 5))),.i (.v 25) nE],.cond (.v 25) [.ops [bd,cW,Bp,aM,Sc,lC,sg,fb,GS,cl,fx,fy,Fi,.bZ [⟨ad,T,1,.l 9,(.l 8)⟩,⟨ad,O,4,.l 7,(.l 6)⟩,⟨ad,O,3,.v 6,(.l 5)⟩],XO,u1],.ops [sp,.i (.v 26) mJ],.cond (.v 26) [.ops [kN,sp,xF,kA],.ret] [],.ops [.i (.v 11) (.a4 (.c .aA))],.ops [wa,fb,Fj,adN,.i .l (.app T 35 (.l 3) (.l 2)),.bZ [⟨ad,O,3,.v 9,(.l 2)⟩],.i .l (.app T 35 (.l 0) (.l 1)),xA],.ops [bd,cW,Bp,aM,Sd,lC,sg,wa,GS,fx,fy,xF,kA],.ret] [.ops [.i .l (.bin (.int j) .eql (.v 19) (.c (.int j 7))),.i (.v 27) nE],.cond (.v 27) [.ops [bd,cW,Bp,aM,Sc,lC,sg,fb,GS,cl,fx,fy,PS,.bZ [⟨ad,T,1,.l 9,(.l 8)⟩,⟨ad,O,4,.l 7,(.l 6)⟩,⟨ad,O,3,.v 6,(.l 5)⟩],PT,AA],.ops [AP,.i (.v 28) mJ],.cond (.v 28) [.ops [kN,AP,xF,kA],.ret] [],.ops [.i .l (.c0 0 (.v 12)),aM,.i (.v 29) adA],.cond (.v 29) [.ops [kN,u3,.i (.v 8) FN],.ret] [],.ops [.i .l (.c0 1 (.v 12)),aM,.i (.v 30) mJ],.cond (.v 30) [.ops [bd,cW,Bp,aM,Sd,lC,sg,fb,GS,fx,fy,xF,kA],.ret] [],.ops [bd,cW,Bp,aM,ZT,lC,sg,fb,GS,fx,fy,xF,kA],.ret] []]]]]]]],.ops [.i (.v 14) (.a4 (.c .aA))],.ops [.i (.v 15) (.a4 (.c (.int j 0)))],.block 1 [.loop Bo],.ops [bd,cW,.i .l (.load O 4 (.v 5)),GR,.i .l (.call (.c (.fn 119 [] [])) [.l 3,.l 2,.l 1,.l 0]),fx,fy,xF,kA],.ret]
theorem q6:cq ap W 95 5 33 [0,1,2,3,4,7,8,10,11,12,13,14,15,16,17,18,19,20,25,35,36,39,44,47,58,69,84,104,119,124,128,155,172] ql [(.cell O 3 7),(.v 8)] T:=by refine⟨_,_,Tryz.func95,rfl,rfl,?_,?_,?_,?_,?_⟩<;>kernel_rfl
def vp:List be:=[.ops [.i (.v 5) JS,EB,v0,qN],.ops [fb,oL,cl,.g (.l 0) T .l (.a4 (.v 4)),YF,xE,cl,xv,FE,xE,cl,xv,Fy,.i (.v 13) IW],.cond (.v 13) [.ops [kN,EC,v0,.i (.v 8) F1],.ret] [],.ops [bd,cW,tB,Fk,uP,aM,adJ,cl,u7,FE,xE,cl,u7,IX,YG,YH,.g (.l 4) T .l (.c0 3 (.l 0)),.g (.l 5) T .l adK,AT,.g (.l 7) T .l (.j2 (.l 0)),.g (.l 8) T .l EE,.g (.l 9) T .l oc,.g (.l 10) T .l CQ,.g (.l 11) T .l (.bin (.int j) .geq (.l 10) (.l 0)),.i (.v 14) (.pick (.l 12) (.c (.bool O)) (.l 0))],.cond (.v 14) [.ops [kN,EC,v0,.i (.v 8) (.a4 (.c (.int j 8)))],.ret] [],.ops [so,Qd,u0],.ops [tA,KF],.cond (.v 15) [.ops [kN,tA,.i .n (.store 3 (.v 6) (.l 1)),v0,kA],.ret] [],.ops [bd,fb,.i .l (.build [.e2,.int j 0,.int j 0] [(0,1),(1,1),(2,1)] [(0,(.l 1)),(1,(.l 0))]),.i .l (.box 3 (.l 0)),u1],.ops [sp,cW,gT,so,.i .l (.call (.c (.fn 54 [] [])) [.l 3,.l 2,.l 1,.l 0]),cl,fx,fy,.i (.v 11) Di,.i .n (.store 3 (.v 11) (.l 1)),y8],.ops [If,PO],.cond (.v 16) [.ops [kN,fb,sp,cu,gU,aM,JW,If,.i .n (.store 3 (.v 6) (.l 7)),.bZ [⟨ad,T,1,.l 3,(.l 2)⟩],.i (.v 7) vb,kA],.ret] [],.ops [.i .l (.load O 3 (.v 11)),fb,sp,cu,gU,aM,JW,.i .n (.store 3 (.v 6) (.l 6)),.bZ [⟨ad,T,1,.l 2,(.l 1)⟩],mI,qN],.ret]
theorem wC:cq ap W 18 5 17 [0,1,2,3,4,8,10,11,12,13,14,15,16,30,56,61,77] vp [(.cell O 3 6),(.v 7),(.v 8)] T:=by refine⟨_,_,Tryz.func18,rfl,rfl,?_,?_,?_,?_,?_⟩<;>kernel_rfl
def kE:List be:=[RW,.ops [nD,aM,tp,cl,P5,oM,.g (.l 2) O .l OK,AK,jl],.ops [rF,.i (.v 15) oc],.block 0 [.ops [.i .l (.bin (.int j) .eql (.v 15) (.c (.int j 1))),AB],.cond (.v 16) [.ops [bd,nD,aM,.i .l (.c0 8 (.v 2)),RY,.i .l (.call (.c (.fn 44 [] [])) [.l 4,.l 2,.l 0]),yJ,mN],.ret] [.ops [.i .l (.bin (.int j) .eql (.v 15) (.c (.int j 2))),tz],.cond (.v 17) [] [.ops [.i .l (.bin (.int j) .eql (.v 15) (.c (.int j 3))),tz]],.cond (.v 17) [.ops [fb,.i (.v 18) u9],.cond (.v 18) [.ops [adb,mN],.ret] [],.ops [rF,aM,.i (.v 19) Zj],.cond (.v 19) [.ops [bd,cu,dB,aM,tq,aM,qa,aM,Lx,aM,De,aM,.i .l (.call (.c (.fn 64 [] [])) [.l 8,.l 6,.l 4,.l 2,.l 0]),cl,fx,fy,Ai,jC],.ops [bd,RZ,hK,k5,adO,mN],.ret] [],.ops [bd,cu,dB,aM,qa,aM,Lx,aM,De,aM,.i .l (.call (.c (.fn 66 [] [])) [.l 6,.l 4,.l 2,.l 0]),cl,fx,fy,.i (.v 7) vb,kA],.ops [bd,RZ,j7,p7,adO,mN],.ret] [.ops [.i .l (.bin (.int j) .eql (.v 15) (.c (.int j 4))),Jw],.cond (.v 20) [.ops [.i .l (.c0 7 (.v 2)),aM,y5,Fi,Jx],.ops [Lv,aM,.i (.v 21) IP],.cond (.v 21) [.ops [fb,si,cl,ac2,k4,CR,ac3,IY,ac4,.g (.l 6) T .l (.c0 19 (.l 0)),ac5,ac6,ac7,ac8,.i (.v 22) RX],.cond (.v 22) [.ops [ac9,mN],.ret] [],.ops [bd,nD,aM,vZ,Cl,uP,aM,Lv,aM,ac',jd,Jx]] [],.ops [bd,nD,aM,qa,aM,Fj,.i .l (.call (.c (.fn 18 [] [])) [.l 5,.l 3,.l 1,.l 0,.c (.int j 2000)]),cl,fx,fy,.i .l (.ext (.l 2) 2),X4,.i .n (.store 3 (.v 10) (.l 2)),.i (.v 11) vb,y8],.ops [If,wa,.i .l (.load O 3 (.v 10)),ada,mN],.ret] [.ops [.i .l (.bin (.int j) .eql (.v 15) (.c (.int j 5))),Sa],.cond (.v 23) [.ops [bd,cu,dB,aM,De,aM,.i .l (.call (.c (.fn 67 [] [])) [.l 2,.l 0]),yJ,mN],.ret] [.ops [.i .l (.bin (.int j) .eql (.v 15) (.c (.int j 6))),.i (.v 24) nE],.cond (.v 24) [.ops [bd,cu,dB,aM,adG,cl,fx,fy,.i (.v 13) vb,Fl],.ops [GR,.i (.v 25) mJ],.cond (.v 25) [.ops [GR,yJ,mN],.ret] [],.ops [AP,y5,IF,mN],.ret] []]]]]],.ops [adf,mN],.ret]
theorem kQ:cq ap W 27 2 26 [0,1,3,4,5,6,7,8,9,10,11,12,13,14,15,25,26,35,39,43,84,91,106,134,144,155] kE [(.cell O 5 3)] T:=by refine⟨_,_,Tryz.func27,rfl,rfl,?_,?_,?_,?_,?_⟩<;>kernel_rfl
def Dj:List be:=[.ops [fb,bd,Lz,WD],.cond (.v 10) [] [.exit 0],.block 1 [.ops [gT,bd,fb,LA,.i .l (.load O 9 (.l 0)),cR,bd,fb,LA,.i .l (.load O 9 (.l 0)),.i .l (.call (.c (.fn 26 [] [])) [.l 9,.l 5]),.bZ [⟨ad,O,9,.l 2,(.l 1)⟩],.i .l (.call (.c (.fn 27 [] [])) [.l 5,.l 1]),Vq,.bZ [⟨ad,O,9,.l 8,(.l 7)⟩,⟨ad,O,9,.l 3,(.l 2)⟩],.i (.v 6) adl,.bZ [⟨ad,O,9,.l 8,(.l 7)⟩,⟨ad,O,9,.l 3,(.l 2)⟩],.i .n (.store 5 (.v 5) (.l 1)),.i .n (.store 5 (.v 6) (.l 0))],.ops [.i .l (.load O 5 (.v 5)),.i .l (.load O 5 (.v 6)),.i .l (.call (.c (.fn 13 [] [])) [.l 1,.l 0]),si,cl,u7,Se,GP,CF,Sf,adP,AT,Sg,Sh,.g (.l 9) T .l (.c0 1 (.l 0)),Si,.g (.l 11) T .l (.call (.c (.fn 21 [] [])) [.l 4]),.bZ [⟨(o ((.l 12),T)),T,1,.l 2,(.l 1)⟩],.g (.l 12) T .l (.call (.c (.fn 20 [] [])) [.l 0,.l 1]),adQ,adR,cl,u7,Se,GP,CF,Sf,adP,AT,Sg,Sh,.g (.l 9) T .l (.c0 2 (.l 0)),Si,.g (.l 11) T .l (.call (.c (.fn 17 [] [])) [.l 4]),.bZ [⟨(o ((.l 12),T)),T,1,.l 2,(.l 1)⟩],.g (.l 12) T .l (.call (.c (.fn 16 [] [])) [.l 0,.l 1]),adQ,adR,cl,u7,Se,GP,CF,Sf,Kz,AT,Sg,Sh,.g (.l 9) T .l EE,Si,.g (.l 11) T .l (.j2 (.l 0)),.g (.l 12) T .l EE,.g (.l 13) T .l oc,.g (.l 14) T .l (.call (.c (.fn 15 [] [])) [.l 7]),.bZ [⟨(o ((.l 15),T)),T,1,.l 5,(.l 4)⟩,⟨(o ((.l 15),T)),T,1,.l 2,(.l 1)⟩],.g (.l 15) T .l (.call (.c (.fn 14 [] [])) [.l 0,.l 1]),.g (.l 16) T .l u9,.i (.v 11) adL],.cond (.v 11) [yP,.ret] [],.ops [bd,fb,LA,gU,aM,mI],.ops [j7,oL,cl,.g (.l 0) T .l (.a4 (.v 7)),Fy,.i (.v 12) IW],.cond (.v 12) [.ops [gT,j7,.i .l (.call (.c (.fn 28 [] [])) [.l 1,.l 0]),qQ,.i .l OL,cl,u7,adS,.g (.l 2) T .l (.call (.c (.fn 29 [] [])) [.l 1,.l 0]),.g (.l 3) T .l (.build [.int j 0,.int j 0,.aA] [(0,1),(1,1),(2,1)] []),.g (.l 4) T .l (.call (.c (.fn 19 [] [])) [.l 1,.l 0]),.g (.l 5) T .l u9,.i (.v 13) XN],.cond (.v 13) [yP,.ret] [],.exit 1] [],.ops [gT,j7,cR,j7,tB,Cl,uP,aM,.i .l (.call (.c (.fn 28 [] [])) [.l 7,.l 6]),.bZ [⟨ad,T,1,.l 2,(.l 1)⟩],.i .l (.call (.c (.fn 30 [] [])) [.l 0,.l 1]),si,cl,u7,adS,.g (.l 2) T .l (.a4 (.v 3)),.g (.l 3) T .l (.a4 (.v 7)),.g (.l 4) T .l (.j2 (.l 1)),.g (.l 5) T .l (.c0 7 (.l 0)),.g (.l 6) T .l (.fG ad (o (4,3)) (.l 0) (.l 2)),.g (.l 7) T .l Sj,.g (.l 8) T .l (.call (.c (.fn 29 [] [])) [.l 7,.l 6]),.bZ [⟨(o ((.l 9),T)),O,3,.l 2,(.l 1)⟩],.g (.l 9) T .l (.call (.c (.fn 19 [] [])) [.l 0,.l 1]),.g (.l 10) T .l u9,.i (.v 14) RX],.cond (.v 14) [yP,.ret] []],AI]
def Sk:List be:=[yP,.ops [.i .l (.call (.c (.fn 22 [] [])) []),.i (.v 8) u9],.cond (.v 8) [yP,.ret] [],.ops [bd,.i (.v 9) (.call (.c (.fn 23 [] [])) [.l 0,.c (.int j 120)])],.cond (.v 9) [.ops [adT],.ret] [],.ops [adk,.i .l (.call (.c (.fn 25 [] [])) []),.i (.v 2) vb,jk],ts,.block 0 [.loop Dj],.ops [adT],.ret]
theorem adU:cq ap W 5 1 15 [0,2,3,4,5,6,7,8,10,12,18,87,98,111,135] Sk [(.v 1)] O:=by refine⟨_,_,Tryz.func5,rfl,rfl,?_,?_,?_,?_,?_⟩<;>kernel_rfl
def LJ:List be:=[.ops [hK,fb,Ct,.i (.v 7) Kj],.cond (.v 7) [] [.exit 0],.block 1 [.ops [bd,cu,dB,aM,fb,hK,I0,aM,WE,gU,aM,jC],.ops [k5,ac1],.cond (.v 8) [.ops [cR,k5,EL,YY,jk]] []],EO]
def BT:List be:=[Aj,EI,.ops [bd,cW,OM,jl],yS,.block 0 [.loop LJ],yN,.ret]
theorem ate:cq ap W 139 2 9 [0,1,4,5,6,7,8,15,30] BT [(.v 2)] O:=by refine⟨_,_,Tryz.func139,rfl,rfl,?_,?_,?_,?_,?_⟩<;>kernel_rfl
def adV:List be:=[.ops [Wb,EK],.ops [bd,cW,OM,jl],.ops [fb,Ct,Wc],.cond (.v 5) [.ops [Oy,IL,EK],.ret] [],.ops [bd,cu,dB,aM,fb,fb,Ct,mh,.i .l (.fG (o 3) ad (.l 3) (.l 0)),aM,.i .l (.fG (o 132) ad (.l 6) (.l 0)),yM,IL,Wd],.ret]
theorem atf:cq ap W 153 2 6 [0,1,4,5,6,12] adV [(.cell O 6 2),(.v 3)] O:=by refine⟨_,_,Tryz.func153,rfl,rfl,?_,?_,?_,?_,?_⟩<;>kernel_rfl
section
variable{h:ag}{ae ai:Nat->Prop}{b:Nat}{G:a0}
theorem atg(g:eX h ae ai b G)(cH:G.dE)(dC:List Int)(w:E)(hw:hn 3 w (gl dC))(O2:dC.length<=1000)(EX:∀i∈dC,G.has i=O)(dL:E):∀(l pre:List Int) (F:ag) (v dd t1 t2:E),dC=pre++l->aB h F->Acc h F 3 v (gl (lV (pre.map G.at_)))->lT O [.v 2] h (bB (aQ ap W) 9 [.e' LJ,.bP [],.cm 0,.bP [.ops [cR,jv],.ret]] [.ptr b 0 0,dL,.aA,v,w,.int j pre.length,dd,t1,t2] [] F)=o (.inl (i2 3 (gl (lV (dC.map G.at_)))),h):=by
 intro l;induction l with
 |nil=>
   intro pre F v dd t1 t2 e a8 aX;rw[cV LJ.eq_1];have bf:¬((pre.length:Int)<(dC.length:Int)):=by rw[e];simp
   rw[n3]at e;rw[<-e]at aX;simp only[ak,aq,ar,al,cb,hw.len,hw.fits,fa,bf,dI a8 (Ce aX (OQ _))]
 |cons i l aZ=>
   intro pre F v dd t1 t2 e a8 aX;have fu:=g.hb a8;obtain⟨aL,dm,J,R, -⟩:=fu.ex;rw[cV LJ.eq_1];have bf:(pre.length:Int)<(dC.length:Int):=by rw[e];simp;omega
   obtain⟨m,rfl,hm,uQ⟩:=a0.ER (EX i (by rw[e];simp));have eV:=hw.bV j pre.length [.int j (m:Int)] (by rw[e];simp);have v2:=R.ed.bV j m _ uQ;have Jb:G.at_ (m:Int)=G.nodes.getD m gN:=rfl;have og:=eL (n:=(pre.length:Int)+1) (by omega) (by omega);have ax:((pre++[(m:Int)]).length:Int)=(pre.length:Int)+1:=by simp
   have Ao:(gl (lV (pre.map G.at_))).length<=1000000:=by
    have:=List.length_filter_le (λn:e5=>decide (0<=n.gate)) (pre.map G.at_);have R:pre.length<=dC.length:=by rw[e];simp
    simp[lV]at this ⊢;omega
   by_cases aj:0<=(G.nodes.getD m gN).gate
   ·have k7:lV ((pre++[(m:Int)]).map G.at_)=lV (pre.map G.at_)++[(G.nodes.getD m gN).gate]:=by rw[uR,lV,List.filter_append,uR];simp only[kT,s2,Jb,List.filter_cons,aj,decide_true,if_true,List.filter_nil];rfl
    obtain⟨bs,nZ,au,aR,a5,bp,cA⟩:=mp aX a8 (row:=[.int j (G.nodes.getD m gN).gate]) rfl Ao;have:=aZ (pre++[(m:Int)]) nZ bs (.int j (G.nodes.getD m gN).gate) (.bool O) (.bool O) (by simp[e]) a5 (by rw[k7,gl,uR];exact aR);rw[ax]at this;simp only[ak,aq,ar,al,cb,hw.len,hw.fits,fa,bf,eV,v2,J,kM,aj,og,au,this]
   ·have k7:lV ((pre++[(m:Int)]).map G.at_)=lV (pre.map G.at_):=by rw[uR,lV,List.filter_append,uR];simp only[kT,s2,Jb,List.filter_cons,aj,decide_false,l9,if_false,List.filter_nil,n3];rfl
    have:=aZ (pre++[(m:Int)]) F v (.int j (G.nodes.getD m gN).gate) (.bool O) (.bool T) (by simp[e]) a8 (by rw[k7];exact aX);rw[ax]at this;simp only[ak,aq,ar,al,cb,hw.len,hw.fits,fa,bf,eV,v2,J,kM,aj,og,this]
theorem ath(g:eX h ae ai b G)(cH:G.dE)(i:Int):aQ ap W 139 [.ptr b 0 0,.int j i] h=o (.inl (i2 3 (gl (G.oJ i))),h):=by refine a2 ate rfl ?_;unfold BT;have am:=uH 3 (gl (G.jD i));have xw:=atg g cH (G.jD i) (i2 3 (gl (G.jD i))) am (by have:=a0.I' cH i;omega) (a0.OO i) (.int j i) (G.jD i) [] h .aA .az .az .az rfl (aB.refl h) (uF _ _ _);simp only[gf,k6]at xw;rw[a0.Am]at xw;simp only[ak,aq,ar,al,Ja g cH];exact xw
theorem ati(g:eX h ae ai b G)(cH:G.dE)(i:Int):aQ ap W 153 [.ptr b 0 0,.int j i] h=o (.inl (.bU [.agg (cQ (G.target i).1),.bool (G.target i).2]),h):=by
 refine a2 atf rfl ?_;unfold adV;have am:=uH 3 (gl (G.jD i));have hw:∀(n:e5) (x:Bool),c7 (.bU [.agg (cQ n),.bool x])=o (.bU [.agg (cQ n),.bool x]):=λn x=>rfl;have atj:=aB.push h [[E.int j 0,.int j 0,.int j 0,.int j 0,.int j 0,.int j 0]];have adW:=g.hb atj;obtain⟨aL,dm,J,R, -⟩:=adW.ex;have EW:=Ja adW cH;have pk:∀n:e5,aB h (h.push [cQ n]):=λn=>aB.push _ _;rcases List.eq_nil_or_concat (G.jD i)with aN|⟨pre,k,aN⟩
 ·have aH:G.path i=[]:=by rw[<-a0.Am,aN];rfl
  have a3:G.target i=(gN,T):=by simp[a0.target,aH]
  rw[a3];have hlen:(G.jD i).length=0:=by rw[aN];rfl
  simp only[ak,aq,ar,al,EW,am.len,am.fits,fa,hlen,k6];exact dI (pk gN) (hw gN T)
 ·rw[List.concat_eq_append]at aN;have Z:=a0.OO i k (by rw[aN];simp);obtain⟨m,rfl,hm,uQ⟩:=a0.ER Z;have a3:G.target i=(G.nodes.getD m gN,O):=by unfold a0.target;rw[<-a0.Am,aN,uR,List.map_singleton];have:G.at_ (m:Int)=G.nodes.getD m gN:=rfl;rw[this];generalize G.nodes.getD m gN=n;simp[List.getLastD_eq_getLast?]
  have aw:¬(((pre.length+1:Nat):Int)=0):=by omega
  have aC:kK j (((pre.length+1:Nat):Int) - 1)=(pre.length:Int):=by rw[eL]<;>(have:=a0.I' cH i;rw[aN]at this;simp at this;omega)
  have eV:=am.bV j pre.length [.int j (m:Int)] (by rw[aN];simp);have v2:=R.ed.bV j m _ uQ;rw[a3];have hlen:(G.jD i).length=pre.length+1:=by rw[aN];simp
  simp only[ak,aq,ar,al,EW,J,am.len,am.fits,fa,hlen,aw,aC,eV,v2,kM];exact dI (pk _) (hw _ O)
end
section
variable{h:ag}
theorem atk(k x y:Int):aQ ap W 136 [.int j k,.int j x,.int j y] h=o (.inl (.int j (yH k x y)),h):=by
 refine a2 amE rfl ?_;unfold Yi;unfold yH;cases J:decide (k=1)with
 |true=>
   have cE:k=1:=by simpa using J
   rw[if_pos cE];simp only[ak,aq,ar,al,J]
 |false=>
   have cE:¬k=1:=by simpa using J
   rw[if_neg cE];cases R:decide (k=2)with
   |true=>
     have c6:k=2:=by simpa using R
     rw[if_pos c6];simp only[ak,aq,ar,al,J,R]
   |false=>
     have c6:¬k=2:=by simpa using R
     rw[if_neg c6];cases ah:decide (k=3)with
     |true=>
       have eb:k=3:=by simpa using ah
       rw[if_pos eb];simp only[ak,aq,ar,al,J,R,ah]
     |false=>
       have eb:¬k=3:=by simpa using ah
       rw[if_neg eb];cases aD:decide (k=4)with
       |true=>
         have dx:k=4:=by simpa using aD
         rw[if_pos dx];cases bo:decide (x<y)with
         |true=>rw[if_pos (by simpa using bo)];simp only[ak,aq,ar,al,J,R,ah,aD,bo]
         |false=>rw[if_neg (by simpa using bo)];simp only[ak,aq,ar,al,J,R,ah,aD,bo]
       |false=>
         have dx:¬k=4:=by simpa using aD
         rw[if_neg dx];cases b9:decide (k=5)with
         |true=>
           have gW:k=5:=by simpa using b9
           rw[if_pos gW];cases bo:decide (x=y)with
           |true=>rw[if_pos (by simpa using bo)];simp only[ak,aq,ar,al,J,R,ah,aD,bo,b9]
           |false=>rw[if_neg (by simpa using bo)];simp only[ak,aq,ar,al,J,R,ah,aD,bo,b9]
         |false=>
           have gW:¬k=5:=by simpa using b9
           rw[if_neg gW];simp only[ak,aq,ar,al,J,R,ah,aD,b9]
end
theorem zz{α:Type}{l:List α}(h:l.length=4):∃a b c d,l=[a,b,c,d]:=by
 match l,h with
 |[a,b,c,d],_=>exact⟨a,b,c,d,rfl⟩
theorem GU{α:Type}{l:List α}(h:l.length=3):∃a b c,l=[a,b,c]:=by
 match l,h with
 |[a,b,c],_=>exact⟨a,b,c,rfl⟩
theorem Dk{dk:List (List E)}(h:dk.length=4)(ah:∀r∈dk,r.length=3):∃a b c d e f g i D k l m,dk=[[a,b,c],[d,e,f],[g,i,D],[k,l,m]]:=by obtain⟨x,y,z,w,rfl⟩:=zz h;obtain⟨a,b,c,rfl⟩:=GU (ah x (by simp));obtain⟨d,e,f,rfl⟩:=GU (ah y (by simp));obtain⟨g,i,D,rfl⟩:=GU (ah z (by simp));obtain⟨k,l,m,rfl⟩:=GU (ah w (by simp));exact⟨a,b,c,d,e,f,g,i,D,k,l,m,rfl⟩
theorem c8.cD:∀{l:List av} {es:List (List E)},c8 l es->∀r∈es,r.length=3
 |[],es,h,r,ao=>by simp only[c8]at h;subst h;simp at ao
 |x::l,es,h,r,ao=>by
   simp only[c8]at h;obtain⟨q,rs,rfl,J,R⟩:=h;rcases n0.1 ao with rfl|ao
   ·exact J.cD.1
   ·exact c8.cD R r ao
theorem c8.set:∀{l:List av} {es:List (List E)} {v:av} {r:List E},c8 l es->bT v r->∀n,c8 (l.set n v) (es.set n r)
 |[],es,v,r,h,U,n=>by simp only[c8]at h;subst h;simp[c8]
 |x::l,es,v,r,h,U,n=>by
   simp only[c8]at h;obtain⟨q,rs,rfl,J,R⟩:=h;cases n with
   |zero=>exact⟨r,rs,rfl,U,R⟩
   |succ n=>exact⟨q,rs.set n r,rfl,J,c8.set R U n⟩
section
variable{h F aj:ag}{ae ai aJ aG:Nat->Prop}{L:List b6}{c:hL}{ms:dj}{S:bK}{a1:List (List av)}
structure l6(h:ag)(c:hL)(bF:E)(dk:List (List E))(U:List E)(ms:dj):Prop where
 cell:h.cell c.ab=o [jL c bF dk U]
 lt:c.ab<h.n
 dP:c.jn.length=4
 dx:dk.length=4
 eb:∀r∈dk,r.length=3
 Sl:∀p:Nat,ms[p]? =o ad->∃v,c.jn[p]? =o (.e2,v)
 mod:∀(p:Nat) (M:List bx),ms[p]? =o (o M)->∃q v es,c.jn[p]? =o (.ptr q 0 0,v)/\h.cell q=o [[v]]/\q<h.n/\fo fp v es/\gE M es
theorem l6.push{bF:E}{dk:List (List E)}{U:List E}(f:l6 h c bF dk U ms)(g:aB h F):l6 F c bF dk U ms:=⟨(g.cell _ f.lt).trans f.cell,fq f.lt g.n,f.dP,f.dx,f.eb,f.Sl,λp M aH=>by obtain⟨q,v,es,a,b,d,e⟩:=f.mod p M aH;exact⟨q,v,es,a,(g.cell _ d).trans b,fq d g.n,e⟩⟩
theorem adX{α β LK:Type}{f:α->β->LK}{l:List α}{m:List β}{p:Nat}{b:β}(am:l.length=m.length)(aH:m[p]? =o b){cF:List LK}:∃a,l[p]? =o a/\(iy f l m++cF)[p]? =o (f a b):=by have yn:=(fQ.1 aH).1;refine⟨l[p]'(by omega),fr _,?_⟩;rw[o4 (by simp;omega),List.getElem?_zipWith,aH,fr (by omega)]
theorem Bq{S:bK}(x:(jM c ms S a1).A h ae ai)(aD:ms.length=4)(dx:S.kept.length=4):∃bF dk U,l6 h c bF dk U ms/\c8 S.kept dk/\c.jn.length=ms.length/\U.length=a1.length/\aK h ae ai h (aY c.ab [jL c bF dk U]::aY c.ku (S.cells.map λx=>[.int j x])::ju hP bF (S.log.map g0)::(iy ng c.jn ms++iy rT U a1))/\(cf (aY c.ab [jL c bF dk U]::aY c.ku (S.cells.map λx=>[.int j x])::ju hP bF (S.log.map g0)::(iy ng c.jn ms++iy rT U a1))).A h ae ai:=by
 obtain⟨⟨bF,dk,U⟩,⟨J,R,ah⟩,y⟩:=x;have s:=aK.start y;have cp:=s.cell 0 rfl;refine⟨bF,dk,U,⟨cp.1,cp.2,J.trans aD,R.len.trans dx,R.cD,λp aH=>?_,λp M aH=>?_⟩,R,J,ah,s,y⟩
 ·obtain⟨a,aX,aN⟩:=adX (f:=ng) (cF:=iy rT U a1) J aH;obtain⟨ez,eA,e,_⟩:=s.get (3+p) (X:=ng a ad) (by rw[show 3+p=p+1+1+1 by omega];exact aN);exact⟨a.2,by rw[aX,<-e]⟩
 ·obtain⟨a,aX,aN⟩:=adX (f:=ng) (cF:=iy rT U a1) J aH;obtain⟨ez,eA,⟨q,es⟩,⟨au,ax,bc⟩,y⟩:=s.get (3+p) (X:=ng a (o M)) (by rw[show 3+p=p+1+1+1 by omega];exact aN);simp only at au ax bc;obtain⟨_,_,fs,jy⟩:=y;exact⟨q,a.2,es,by rw[aX,<-au],jy,fs,ax,bc⟩
theorem lL(s:aK aj aJ aG h L)(i:Nat)(af:L[i]? =o (jM c ms S a1))(aD:ms.length=4)(dx:S.kept.length=4):∃bF dk U,l6 h c bF dk U ms/\c8 S.kept dk:=by obtain⟨ae,ai,x⟩:=s.get i af;obtain⟨bF,dk,U,a,b,_⟩:=Bq x aD dx;exact⟨bF,dk,U,a,b⟩
variable{bF:E}{dk:List (List E)}{U:List E}
theorem l6.nh(f:l6 h c bF dk U ms){n:Nat}:cS T n h (.ptr c.ab 0 0)=o (.ptr c.h6 0 0):=by rw[fL,f.cell];rfl
theorem l6.cells(f:l6 h c bF dk U ms){n:Nat}:cS T n h (.ptr c.ab 0 1)=o (.bn c.ku 0 12 ob):=by rw[fL,f.cell];rfl
theorem l6.atl(f:l6 h c bF dk U ms){n:Nat}:cS T n h (.ptr c.ab 0 2)=o bF:=by rw[fL,f.cell];rfl
theorem l6.l7(f:l6 h c bF dk U ms){n p:Nat}{v:E×E}(aH:c.jn[p]? =o v):cS T n h (.ptr c.ab 0 (3+p))=o v.1:=by
 rw[fL,f.cell];obtain⟨ab,h6,ku,jn⟩:=c;obtain⟨a,b,d,e,rfl⟩:=zz f.dP;simp only at aH;have:p<4:=(fQ.1 aH).1
 match p,this with
 |0,_=>obtain rfl:=kx aH;rfl
 |1,_=>obtain rfl:=kx aH;rfl
 |2,_=>obtain rfl:=kx aH;rfl
 |3,_=>obtain rfl:=kx aH;rfl
theorem l6.Sm(f:l6 h c bF dk U ms){p:Nat}{r:List E}(aH:dk[p]? =o r):cS O 3 h (.ptr c.ab 0 (7+p*3))=o (.agg r):=by
 rw[fL,f.cell];obtain⟨ab,h6,ku,jn⟩:=c;obtain⟨a,b,d,e,rfl⟩:=zz f.dP;have am:=f.dx;obtain⟨_,_,_,_,_,_,_,_,_,_,_,_,rfl⟩:=Dk f.dx f.eb;have:p<4:=(fQ.1 aH).1
 match p,this with
 |0,_=>obtain rfl:=kx aH;simp[gO]
 |1,_=>obtain rfl:=kx aH;simp[gO]
 |2,_=>obtain rfl:=kx aH;simp[gO]
 |3,_=>obtain rfl:=kx aH;simp[gO]
theorem l6.db(f:l6 h c bF dk U ms){p:Nat}(aH:p<4){r:List E}(ao:r.length=3):dh (jL c bF dk U) (7+p*3) r=jL c bF (dk.set p r) U:=by
 obtain⟨ab,h6,ku,jn⟩:=c;obtain⟨a,b,d,e,rfl⟩:=zz f.dP;obtain⟨_,_,_,_,_,_,_,_,_,_,_,_,rfl⟩:=Dk f.dx f.eb;obtain⟨_,_,_,rfl⟩:=GU ao
 match p,aH with
 |0,_=>simp[dh]
 |1,_=>simp[dh]
 |2,_=>simp[dh]
 |3,_=>simp[dh]
theorem l6.len(f:l6 h c bF dk U ms):19<=(jL c bF dk U).length:=by obtain⟨ab,h6,ku,jn⟩:=c;obtain⟨a,b,d,e,rfl⟩:=zz f.dP;obtain⟨_,_,_,_,_,_,_,_,_,_,_,_,rfl⟩:=Dk f.dx f.eb;simp
theorem atm(s:aK aj aJ aG h L)(i:Nat)(af:L[i]? =o (jM c ms S a1))(aD:ms.length=4)(dx:S.kept.length=4){p:Nat}(aH:p<4){v:av}{r:List E}(ao:bT v r):∃F,eQ 3 h (.ptr c.ab 0 (7+p*3)) (.agg r)=o F/\aK aj aJ aG F (L.set i (jM c ms {S with kept:=S.kept.set p v} a1)):=by refine s.call (cF:=λF=>eQ 3 h (.ptr c.ab 0 (7+p*3)) (.agg r)=o F) i af λae ai x=>?_;obtain⟨bF,dk,U,f,Z,J,ah,s,_⟩:=Bq x aD dx;have st:=lc (n:=3) (x:=.agg r) (off:=7+p*3) (i:=0) f.cell rfl (by exact ao.cD.2) (by exact ao.cD.1) (by have:=f.len;omega);rw[show(E.agg r).cells=r from rfl,f.db aH ao.cD.1,vR]at st;exact⟨_,st,R6 (S:={S with kept:=S.kept.set p v}) J (Z.set ao p) ah (s.set 0 rfl _)⟩
theorem adY(s:aK aj aJ aG h L)(i:Nat)(af:L[i]? =o (jM c ms S a1))(aE:S.log.length<=1000000)(e:nA):∃bF J R bs,(cS T 1 h (.ptr c.ab 0 2)=o bF/\cS T 1 (h.fresh 1) (.ptr c.ab 0 2)=o bF)/\eU T hP bF (.b0 (o h.ids) hP [g0 e]) (h.fresh 1)=o (bs,J)/\bs.one=O/\J.n=h.n/\J.cell=h.cell/\eQ 1 J (.ptr c.ab 0 2) bs=o R/\(∀k,k≠c.ab->R.cell k=h.cell k)/\aK aj aJ aG R (L.set i (jM c ms {S with log:=S.log++[e]} a1)):=by
 obtain⟨R,⟨bF,J,bs,a⟩,b⟩:=s.call (cF:=λR=>∃bF J bs,(cS T 1 h (.ptr c.ab 0 2)=o bF/\cS T 1 (h.fresh 1) (.ptr c.ab 0 2)=o bF)/\eU T hP bF (.b0 (o h.ids) hP [g0 e]) (h.fresh 1)=o (bs,J)/\bs.one=O/\J.n=h.n/\J.cell=h.cell/\eQ 1 J (.ptr c.ab 0 2) bs=o R/\(∀k,k≠c.ab->R.cell k=h.cell k)) i af λae ai x=>by
  obtain⟨bF,dk,U,J,R,ah,s⟩:=R5 x;have cp:=s.cell 0 rfl;obtain⟨bo,bs,⟨au,bt,bq,fm,cE⟩,bg⟩:=s.y4 (cF:=λF bs=>eU T hP bF (.b0 (o h.ids) hP [g0 e]) (h.fresh 1)=o (bs,F)/\bs.one=O/\bs.cells=[bs]/\F.n=h.n/\F.cell=h.cell) 2 rfl (Y:=λbs=>ju hP bs (S.log.map g0++[g0 e])) λae ai y=>by obtain⟨bs,F,aR,a5,bp,cA,et,i3⟩:=QT y (row:=g0 e) rfl (by simpa using aE);exact⟨F,bs,⟨aR,a5,bp,et,i3⟩,cA⟩
  have aP:=(bg.cell 0 rfl).1;have st:=lc (n:=1) (x:=bs) (off:=2) (i:=0) aP rfl (by rw[bq];simpa using bt) (by rw[bq];rfl) (by simp);rw[bq,show dh (jL c bF dk U) 2 [bs]=jL c bs dk U from rfl,vR]at st;have aV:=bg.set 0 rfl [jL c bs dk U];refine⟨_,⟨bF,bo,bs,⟨by rw[fL,cp.1];rfl,by rw[fL,U3,cp.1];rfl⟩,au,bt,fm,cE,st,λk Z=>by rw[eu Z,cE]⟩,R6 (S:={S with log:=S.log++[e]}) (bF:=bs) J R ah (by rw[uR];exact aV)⟩
 exact⟨bF,J,R,bs,a.1,a.2.1,a.2.2.1,a.2.2.2.1,a.2.2.2.2.1,a.2.2.2.2.2.1,a.2.2.2.2.2.2,b⟩
theorem atn(s:aK aj aJ aG h L)(i:Nat)(af:L[i]? =o (jM c ms S a1)){n:Nat}(D:Nat)(aa:D<S.cells.length):cS T n h (.ptr c.ku D 0)=o (.int j (S.cells.getD D 0)):=by obtain⟨ae,ai,x⟩:=s.get i af;obtain⟨bF,dk,U,J,R,ah,s⟩:=R5 x;rw[fL,(s.cell 1 rfl).1];simp[dz,aa,gO]
theorem ato(s:aK aj aJ aG h L)(i:Nat)(af:L[i]? =o (jM c ms S a1))(D:Nat)(aa:D<S.cells.length)(z:Int):∃F,eQ 1 h (.ptr c.ku D 0) (.int j z)=o F/\aK aj aJ aG F (L.set i (jM c ms {S with cells:=S.cells.set D z} a1)):=by refine s.call (cF:=λF=>eQ 1 h (.ptr c.ku D 0) (.int j z)=o F) i af λae ai x=>?_;obtain⟨bF,dk,U,J,R,ah,s⟩:=R5 x;have st:=lc (n:=1) (x:=.int j z) (off:=0) (i:=D) (e:=[.int j (S.cells[D])]) (s.cell 1 rfl).1 (by simp[aa]) rfl rfl (by simp);rw[show dh [E.int j S.cells[D]] 0 (E.int j z).cells=[.int j z] from rfl]at st;refine⟨_,st,R6 (S:={S with cells:=S.cells.set D z}) (bF:=bF) (U:=U) J R ah ?_⟩;rw[List.map_set];exact s.set 1 rfl _
end
end Go.Proofs.YtkdbjfncchmmpaaGreat
