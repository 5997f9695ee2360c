/- What Across defers: it takes back a panic of the mover's own. -/
import Derived.Test.YtkdbjfncchmmpaaMg6
namespace Go.Proofs.Ytkdbjfncchmmpaa
open Nat (reduceAdd reduceSub reduceLeDiff reduceLT)
open List (replicate)
set_option linter.unusedSimpArgs false
set_option linter.unusedVariables false
open Go Go.RowKit
abbrev fAc:FuncId:=106
abbrev fCl:FuncId:=121
noncomputable def cAc:Code:=Try.f106.body.getD .skip
noncomputable def cCl:Code:=Try.f121.body.getD .skip
theorem MT:(Try.prog).funcs[fCl]? =some Try.f121:=Try.func121
theorem LM:Try.f121.body=some cCl:=rfl
theorem OF:cCl= .seq (cL cCl) (cR cCl):=rfl
theorem Qh:Try.f121.ntmps=18:=rfl
noncomputable def clA:Oper:={dst:=some 5,op:= .call {callee:= .builtin .recover,args:= #[],argTypes:= #[]},type:=((fj (cL cCl)).getD 0 default).type,pos:=((fj (cL cCl)).getD 0 default).pos,after:= #[],guard:=none}
noncomputable def clB:Oper:={dst:=some 2,op:= .assign (.tmp 5),type:=((fj (cL cCl)).getD 1 default).type,pos:=((fj (cL cCl)).getD 1 default).pos,after:=((fj (cL cCl)).getD 1 default).after,guard:=none}
theorem Hx:cL cCl= .region 0 #[clA,clB] false:=rfl
theorem Pw:bi Try.prog (po.mu fCl) (po.plan fCl) 18 [0,1,2,3,4,7,14] (cR cCl) []=some qU:=by kernel_rfl
theorem NU:cU (po.plan fCl) (po.kp fCl) (cR cCl)=true:=by kernel_rfl
theorem O3:rg 2 18 (po.nv fCl) 7 [0,1,2,3,4,7,14]=true:=by kernel_rfl
theorem CS {h h':AH} {e:AV} {c6 c7:Nat} {V':List AV} (hr:aq (aj Try.prog po) 7 [.ss qU,.halt []] [.ptr c6 0 0,.ptr c7 0 0,e,.junk,.junk,.junk,.junk] [] h=some (.halt [],V',h'))
  {m:Mm} {w:World} {p6 p7 v:Value} (hw:WR Try.prog m h w) (v6:VR Try.prog m h (.ptr c6 0 0) p6) (v7:VR Try.prog m h (.ptr c7 0 0) p7) (ve:VR Try.prog m h e v) {u:FrameMode} (u':FrameMode)
  (hrec:∀ c:Frame,c.mode=u→∀ cs,(recoverD (c::cs)=some (v,{c with mode:=u'}::cs))∨(recoverD (c::cs)=none∧v= .nilIface∧u'=u)):
  CallsD Try.prog fCl #[p6,p7] u w fun e u'' w'=>(∃ v,e= .returned v)∧u''=u'∧∃ m',Ext m h m' h'∧WR Try.prog m' h' w'∧Below m.base w w':=by
 intro c cs hu
 have hvs:VRs Try.prog m h [.ptr c6 0 0,.ptr c7 0 0] [p6,p7]:=⟨rfl,fun j hj hj'=>by
  match j,hj with
  | 0,_=>exact v6
  | 1,_=>exact v7⟩
 have he:=nI MT LM [p6,p7] .deferred
 have ht:=oq (P:=Try.prog) (h:=h) (k:=18) hvs
 generalize hb:Frame.enter Try.prog fCl #[p6,p7] .deferred=b at he
 have hbk:b.kind= .deferred:=by rw[←hb];simp[Frame.enter]
 have hbf:b.fn=fCl:=by rw[←hb];simp[Frame.enter]
 have hbr:b.roundOf=none:=by rw[←hb];simp[Frame.enter]
 rw[Qh]at he
 generalize ha:([p6,p7]++replicate (18 - [p6,p7].length) undef).toArray=ts at he ht
 have h1:Steps Try.prog (lone b (c::cs) w) (lone (b.at {tmps:=ts,defers:=[]} [.code (cL cCl),.code (cR cCl)]) (c::cs) w):=by
  rw[←he]
  conv=>lhs;rw[OF]
  exact .one step_seq
 have hsz:ts.size=18:=by rw[ht.1];rfl
 have hreg:(cL cCl).wpS Try.prog (fun e a' cs' w'=>e= .normal∧cs'={c with mode:=u'}::cs∧w'=w∧a'=(({tmps:=ts,defers:=[]}:Act).put (some 5) v).put (some 2) v) {tmps:=ts,defers:=[]} (c::cs) w:=by
  rw[Hx]
  apply wpS_region
  rcases hrec c hu cs with h1 | ⟨h1,h2,h3⟩
  ·simp[wpOpsS,go_sem,clA,clB,h1,Act.put,Act.eval,hsz]
  ·have h4:({c with mode:=u'}:Frame)=c:=by rw[h3,←hu]
   simp[wpOpsS,go_sem,clA,clB,h1,Act.put,Act.eval,hsz,h2,h4]
 obtain⟨e1,a1,cs1,w1,⟨rfl,rfl,rfl,rfl⟩,harr⟩:=hreg b [.code (cR cCl)] hbk hbr
 have ht1:=(ht.put (a:={tmps:=ts,defers:=[]}) ve (some 5)).put ve (some 2)
 have rv:RV 18 [0,1,2,3,4,7,14] [] (bJ (bJ ([AV.ptr c6 0 0,.ptr c7 0 0]++replicate (18 - [AV.ptr c6 0 0,.ptr c7 0 0].length) .junk) (some 5) e) (some 2) e) [.ptr c6 0 0,.ptr c7 0 0,e,.junk,.junk,.junk,.junk] []:=by
  refine⟨by simp[bJ],rfl,rfl,fun j s hj=> ?_,fun j s hj=>by simp at hj⟩
  match j,hj with
  | 0,hj | 1,hj | 2,hj | 3,hj | 4,hj | 5,hj | 6,hj=>obtain rfl:=Option.some.inj hj;exact⟨by decide,rfl⟩
  | j+7,hj=>simp at hj
 obtain⟨t',hp,hrv⟩:=qA pok (bQ O3) Pw NU hr rv
 obtain⟨m',w',x1,x2,x3,a',x4,x5,x6⟩:=hp m w1 _ {b with defers:=[]} ({c with mode:=u'}::cs) hw ht1 rfl
 have hfin:Steps Try.prog (lone b (c::cs) w1) (lone {b.at a' []with mode:= .returning} ({c with mode:=u'}::cs) w'):=h1.trans (harr.trans (x6.trans (.one step_end)))
 refine⟨.returned (.tuple #[]),u',w',_,⟨⟨_,rfl⟩,rfl,m',x1,x2,x3⟩,hfin,hbk,rfl,x5,Try.f121,?_,?_⟩
 ·show(Try.prog).funcs[b.fn]? =_
  rw[hbf]
  exact MT
 ·simp[results,Try.results121]
theorem A9 (c:Frame) (h:c.mode= .returning) (cs:List Frame):recoverD (c::cs)=none:=by simp[recoverD,h]
theorem AG {v:Value} (c:Frame) (h:c.mode= .panicking [{v:=v,recovered:=false}]) (cs:List Frame):recoverD (c::cs)=some (v,{c with mode:= .panicking [{v:=v,recovered:=true}]}::cs):=by simp[recoverD,h]
theorem OT:mH .iface none true .neq .nili .nili=some (.bool false):=rfl
theorem OC {q:TypeId} {v:AV}:mH .iface none true .neq (.iface q v) .nili=some (.bool true):=rfl
theorem LB {q:TypeId} {v:AV}:Fa q true (.iface q v)=some (.tup [v,.bool true]):=by simp[Fa]
theorem Bn {h:AH} {c6 c7:Nat} {m:Mm} {w:World} {p6 p7:Value} (hw:WR Try.prog m h w) (v6:VR Try.prog m h (.ptr c6 0 0) p6) (v7:VR Try.prog m h (.ptr c7 0 0) p7):
  CallsD Try.prog fCl #[p6,p7] .returning w fun e u'' w'=>(∃ v,e= .returned v)∧u''= .returning∧∃ m',Ext m h m' h∧WR Try.prog m' h w'∧Below m.base w w':=by
 refine CS (V':=[.ptr c6 0 0,.ptr c7 0 0,.nili,.junk,.junk,.bool false,.junk]) (e:= .nili) ?_ hw v6 v7 .nili .returning fun c hc cs=> .inr ⟨A9 c hc cs,rfl,rfl⟩
 unfold qU
 simp only[sim,ag,reduceAdd,reduceSub,replicate,reduceCtorEq,reduceLeDiff,reduceLT,aa,OT]
theorem FN {h:AH} {c6 c7:Nat} {m:Mm} {w:World} {p6 p7 u:Value} {code x y:Int} {l z:AV} (hw:WR Try.prog m h w) (v6:VR Try.prog m h (.ptr c6 0 0) p6) (v7:VR Try.prog m h (.ptr c7 0 0) p7) (vu:VR Try.prog m h (.iface nL (.int .i64 code)) u)
  (h6:h.cell c6=some [[.int .i64 x,.int .i64 y,l]]) (h7:h.cell c7=some [[z]]) (hne:c7≠c6) (hl:l.one=true):
  CallsD Try.prog fCl #[p6,p7] (.panicking [{v:=u,recovered:=false}]) w fun e u'' w'=>(∃ v,e= .returned v)∧u''= .panicking [{v:=u,recovered:=true}]∧
   ∃ m',Ext m h m' ((h.set c6 (some [[.int .i64 0,.int .i64 0,.nils]])).set c7 (some [[.int .i64 code]]))∧WR Try.prog m' ((h.set c6 (some [[.int .i64 0,.int .i64 0,.nils]])).set c7 (some [[.int .i64 code]])) w'∧Below m.base w w':=by
 refine CS (V':=[.ptr c6 0 0,.ptr c7 0 0,.iface nL (.int .i64 code),.int .i64 code,.bool true,.bool true,.bool false]) (e:= .iface nL (.int .i64 code)) ?_ hw v6 v7 vu (.panicking [{v:=u,recovered:=true}]) fun c hc cs=> .inl (AG c hc cs)
 have h7':(h.set c6 (some [[.int .i64 0,.int .i64 0,.nils]])).cell c7=some [[z]]:=(bc hne).trans h7
 unfold qU
 simp only[sim,ag,reduceAdd,reduceSub,replicate,reduceCtorEq,reduceLeDiff,reduceLT,aa,OC,LB,h6,h7']
open Go Go.RowKit
theorem Pt:(Try.prog).funcs[fAc]? =some Try.f106:=Try.func106
theorem Ku:Try.f106.body=some cAc:=rfl
theorem P7:Try.f106.ntmps=25:=rfl
noncomputable abbrev cY:Code:=cL (cR cAc)
noncomputable abbrev cZ:Code:=cR (cR cAc)
noncomputable abbrev cW:Code:=cR cZ
theorem NA:cAc= .seq (cL cAc) (cR cAc):=rfl
theorem L6:cR cAc= .seq cY cZ:=rfl
theorem JQ:cZ= .seq (cL cZ) cW:=rfl
theorem Lp:cW= .seq (cL cW) (cR cW):=rfl
theorem LC:cR cW= .seq (cL (cR cW)) .ret:=rfl
abbrev vA:List Nat:=[0,1,2,4,6,7,8,9,14]
theorem DQ:rg 3 25 (po.nv fAc) 9 vA=true:=by kernel_rfl
theorem OD:bi Try.prog (po.mu fAc) (po.plan fAc) 25 vA (cL cAc) []=some xk:=by kernel_rfl
theorem Oe:bi Try.prog (po.mu fAc) (po.plan fAc) 25 vA cY []=some mj:=by kernel_rfl
theorem NQ:bi Try.prog (po.mu fAc) (po.plan fAc) 25 vA cW []=some xA:=by kernel_rfl
theorem NB:bi Try.prog (po.mu fAc) (po.plan fAc) 25 vA (cL cW) []=some wT:=by kernel_rfl
theorem K1:cU (po.plan fAc) (po.kp fAc) (cL cAc)=true:=by kernel_rfl
theorem Lq:cU (po.plan fAc) (po.kp fAc) cY=true:=by kernel_rfl
theorem KE:cU (po.plan fAc) (po.kp fAc) cW=true:=by kernel_rfl
theorem KX:cU (po.plan fAc) (po.kp fAc) (cL cW)=true:=by kernel_rfl
theorem N4:jB Try.prog vA Try.f106.results.toList=some [.cell true 3 4,.cell false 1 5]:=by kernel_rfl
noncomputable def acA:Oper:={dst:=some 17,op:= .makeFunc (.func fCl) #[] #[.tmp 6,.tmp 7],type:=((fj (cL cZ)).getD 0 default).type,pos:=((fj (cL cZ)).getD 0 default).pos,after:= #[],guard:=none}
noncomputable def acB:Oper:={dst:=none,op:= .defer {callee:= .value (.tmp 17),args:= #[],argTypes:= #[]},type:=((fj (cL cZ)).getD 1 default).type,pos:=((fj (cL cZ)).getD 1 default).pos,after:=((fj (cL cZ)).getD 1 default).after,guard:=none}
theorem Kv:cL cZ= .region 4 #[acA,acB] false:=rfl
section
variable {h:AH} {m:Mm} {w:World}
abbrev zR:List AV:=[.int .i64 0,.int .i64 0,.nils]
def acH (h:AH) (r:List AV):AH:=((h.push [r]).push [zR]).push [[.int .i64 0]]
theorem K3 {b:Nat} {r:List AV} {gv:AV} {K:List Item} (o1:r.all AV.one=true) (o2:r.length=3):aq (aj Try.prog po) 9 [.ss xk,.halt K] [.ptr b 0 0,.agg r,gv,.junk,.junk,.junk,.junk,.junk,.junk] [] h=
  some (.halt K,[.ptr b 0 0,.agg r,gv,.ptr h.n 0 0,.ptr (h.n+1) 0 0,.ptr (h.n+1+1) 0 0,.junk,.junk,.junk],acH h r):=by
 unfold xk
 simp only[sim,ag,reduceAdd,reduceSub,replicate,reduceCtorEq,reduceLeDiff,reduceLT,aa,o1,o2,acH]
theorem Lo (x y z:AV):RV 25 vA [] ([x,y,z]++replicate (25 - [x,y,z].length) .junk) [x,y,z,.junk,.junk,.junk,.junk,.junk,.junk] []:=by
 refine⟨by simp,rfl,rfl,fun j s hj=> ?_,fun j s hj=>by simp at hj⟩
 match j,hj with
 | 0,hj | 1,hj | 2,hj | 3,hj | 4,hj | 5,hj | 6,hj | 7,hj | 8,hj=>obtain rfl:=Option.some.inj hj;exact⟨by decide,rfl⟩
 | j+9,hj=>simp at hj
theorem Cv {b:Nat} {r:List AV} {gv:AV} {x:AEx} {V2:List AV} {h2:AH} (o1:r.all AV.one=true) (o2:r.length=3)
  (hr:aq (aj Try.prog po) 9 [.ss mj,.halt [.code cZ]] [.ptr b 0 0,.agg r,gv,.ptr h.n 0 0,.ptr (h.n+1) 0 0,.ptr (h.n+1+1) 0 0,.junk,.junk,.junk] [] (acH h r)=some (x,V2,h2)) (hx:∀ v,x≠.panic v)
  {vs:List Value} (hw:WR Try.prog m h w) (hvs:VRs Try.prog m h [.ptr b 0 0,.agg r,gv] vs) (cs:List Frame):
  ∃ (bf:Frame) (t2:List AV),bf.fn=fAc∧bf.kind= .normal∧bf.defers=[]∧RV 25 vA [] t2 V2 []∧bW Try.prog (po.kp fAc) m h w bf cs (lone (Frame.enter Try.prog fAc vs.toArray .normal) cs w) (x,t2,h2):=by
 have he:=nI Pt Ku vs .normal
 have ht:=oq (P:=Try.prog) (h:=h) (k:=25) hvs
 rw[P7]at he
 obtain⟨t1,hp1,rv1⟩:=qA pok (bQ DQ) OD K1 (K3 (K:=[.code (cR cAc)]) (h:=h) (gv:=gv) (b:=b) o1 o2) (Lo _ _ _)
 obtain⟨t2,hp2,rv2⟩:=qA pok (bQ DQ) Oe Lq hr rv1
 refine⟨Frame.enter Try.prog fAc vs.toArray .normal,t2,by simp[Frame.enter],by simp[Frame.enter],by simp[Frame.enter],rv2,?_⟩
 generalize Frame.enter Try.prog fAc vs.toArray .normal=bf at he ⊢
 obtain⟨m1,w1,x1,x2,x3,a1,x4,x5,x6⟩:=hp1 m w {tmps:=_,defers:=[]} {bf with defers:=[]} cs hw ht rfl
 have x5:a1.defers=[]:=x5
 have s0:Steps Try.prog (lone bf cs w) (lone (bf.at a1 [.code cY,.code cZ]) cs w1):=by
  conv=>lhs;rw[←he,NA]
  refine .head step_seq (x6.trans ?_)
  conv=>lhs;rw[L6]
  exact .one step_seq
 obtain⟨m2,w2,y1,y2,y3,y4⟩:=hp2 m1 w1 a1 {bf with defers:=[]} cs x2 x4 x5
 have y5:bW Try.prog (po.kp fAc) m1 (acH h r) w1 {bf with defers:=[]} cs (lone (bf.at a1 [.code cY,.code cZ]) cs w1) (x,t2,h2):=⟨m2,w2,y1,y2,y3,y4⟩
 have y6:=bW.steps s0 (bW.after x1 x3 y5)
 have hd:bf.defers=[]:=by rw[←he];rfl
 have hbf:({bf with defers:=[]}:Frame)=bf:=by rw[←hd]
 rwa [hbf]at y6
theorem xV {t V:List AV} {h:AH} {v:AV} (rv:RV 25 vA [] t V []) (hv:(fz V h [.cell true 3 4,.cell false 1 5]).map fU=some v):nE Try.f106 t h Try.prog=some v:=by
 unfold nE
 rw[gP (h:=h) rv N4]
 exact hv
theorem OG {h:AH} {b:Nat} {es:Option (List (List AV))} (hc:h.cell b=es):h.set b es=h:=by
 cases h with
 | mk=>
   simp only[AH.set,AH.mk.injEq,and_true,true_and]
   funext k
   by_cases hk:k=b
   ·subst hk
    simpa using hc.symm
   ·simp[hk]
theorem Bm {b:Nat} {r:List AV} {gv:AV} {c:Int} (o1:r.all AV.one=true) (o2:r.length=3) (hc:c≠0)
  (eM:aj Try.prog po 120 [.ptr b 0 0,.agg r] (acH h r)=some (.inl (.int .i64 c),acH h r)):
  AC Try.prog fAc [.ptr b 0 0,.agg r,gv] h (.inl (.tup [.agg zR,.int .i64 c]),(acH h r).set (h.n+1+1) (some [[.int .i64 c]])):=by
 intro m w vs hw hvs cs
 have c4:(acH h r).cell h.n=some [r]:=iJ
 have c6:(acH h r).cell (h.n+1)=some [zR]:=kL
 have c7:(acH h r).cell (h.n+1+1)=some [[.int .i64 0]]:=fI
 have hs6:(acH h r).set (h.n+1) (some [zR])=acH h r:=OG c6
 have hr:aq (aj Try.prog po) 9 [.ss mj,.halt [.code cZ]] [.ptr b 0 0,.agg r,gv,.ptr h.n 0 0,.ptr (h.n+1) 0 0,.ptr (h.n+1+1) 0 0,.junk,.junk,.junk] [] (acH h r)=
   some (.ret,[.ptr b 0 0,.agg r,gv,.ptr h.n 0 0,.ptr (h.n+1) 0 0,.ptr (h.n+1+1) 0 0,.int .i64 c,.junk,.bool true],(acH h r).set (h.n+1+1) (some [[.int .i64 c]])):=by
  unfold mj
  simp only[sim,ag,reduceAdd,reduceSub,replicate,reduceCtorEq,reduceLeDiff,reduceLT,aa,c4,bo o2,eM,hc,c6,hs6,c7]
 obtain⟨bf,t2,b1,b2,b3,rv,m',w',x1,x2,x3,a',todo,x4,x5,x6⟩:=Cv o1 o2 hr (fun v=>by simp) hw hvs cs
 rw[b3]at x5
 have hres:=xV (h:=(acH h r).set (h.n+1+1) (some [[.int .i64 c]])) (v:= .tup [.agg zR,.int .i64 c]) rv (by
  have q6:((acH h r).set (h.n+1+1) (some [[.int .i64 c]])).cell (h.n+1)=some [zR]:=(bc (by omega)).trans c6
  simp only[sim,ag,reduceAdd,reduceSub,replicate,reduceCtorEq,reduceLeDiff,reduceLT,aa,q6])
 obtain⟨u,h7,h8⟩:=gI x2 x4 hres
 exact⟨.returned u,w',_,⟨m',x1,x2,x3,u,rfl,h8⟩,x6,b1,rfl,x5,b2,_,by simp[Frame.at,b1],h7⟩
theorem xy {n:Nat} {vm:List Nat} {t V:List AV} {i:Nat} {v:AV} (rv:RV n vm [] t V []) (hi:i ∉ vm):RV n vm [] (bJ t (some i) v) V []:=by
 refine⟨by simpa[bJ]using rv.len,rv.lv,rv.ll,fun j s hj=> ?_,fun j s hj=>by simp at hj⟩
 obtain⟨h1,h2⟩:=rv.v j s hj
 refine⟨h1,?_⟩
 rw[←h2]
 have hne:i≠s:=fun e=>hi (by rw[e];exact List.mem_of_getElem? hj)
 simp[bJ,List.getD,List.getElem?_set,hne]
theorem Ee {n:Nat} {vm:List Nat} {t V:List AV} (rv:RV n vm [] t V []) {j s:Nat} (hj:vm[j]? =some s):s<t.length∧t.getD s .junk=V.getD j .junk:=by
 obtain⟨h1,h2⟩:=rv.v j s hj
 exact⟨by rw[rv.len];exact h1,h2⟩
theorem Jm {bf:Frame} {a2:Act} {cs:List Frame} {p6 p7:Value} (hsz:a2.tmps.size=25) (h6:a2.tmps.getD 6 undef=p6) (h7:a2.tmps.getD 7 undef=p7):
  Steps Try.prog (lone (bf.at a2 [.code cZ]) cs w) (lone (bf.at {a2.put (some 17) (.func (.func fCl) #[] #[p6,p7])with defers:={target:= .fn (.func fCl) #[p6,p7],args:= #[]}::a2.defers} [.code cW]) cs w):=by
 have hw:(cL cZ).wp Try.prog (fun e a' w'=>e= .normal∧w'=w∧a'={a2.put (some 17) (.func (.func fCl) #[] #[p6,p7])with defers:={target:= .fn (.func fCl) #[p6,p7],args:= #[]}::a2.defers}) a2 w:=by
  have hmf:∀ (fn:Fn) (first cap:Array Value) (w:World),(Instr.makeFunc fn first cap).run Try.prog w= .ok (.func fn first cap) w:=fun _ _ _ _=>rfl
  subst h6 h7
  rw[Kv]
  apply wp_region
  simp[wpOps,go_sem,acA,acB,hmf,Act.put,Act.eval,hsz]
 obtain⟨e,a',w',⟨rfl,rfl,rfl⟩,harr⟩:=hw bf [.code cW] cs
 conv=>lhs;rw[JQ]
 exact .head step_seq harr
theorem CH {b:Nat} {r:List AV} {gv:AV} (o2:r.length=3) (eM:aj Try.prog po 120 [.ptr b 0 0,.agg r] (acH h r)=some (.inl (.int .i64 0),acH h r)):
  aq (aj Try.prog po) 9 [.ss mj,.halt [.code cZ]] [.ptr b 0 0,.agg r,gv,.ptr h.n 0 0,.ptr (h.n+1) 0 0,.ptr (h.n+1+1) 0 0,.junk,.junk,.junk] [] (acH h r)=
   some (.halt [.code cZ],[.ptr b 0 0,.agg r,gv,.ptr h.n 0 0,.ptr (h.n+1) 0 0,.ptr (h.n+1+1) 0 0,.int .i64 0,.junk,.bool false],acH h r):=by
 have c4:(acH h r).cell h.n=some [r]:=iJ
 unfold mj
 simp only[sim,ag,reduceAdd,reduceSub,replicate,reduceCtorEq,reduceLeDiff,reduceLT,aa,c4,bo o2,eM]
theorem xa {h2:AH} {m2:Mm} {t2 V2:List AV} {a2:Act} (rv:RV 25 vA [] t2 V2 []) (ht:TR Try.prog m2 h2 t2 a2.tmps) {j s:Nat} (hj:vA[j]? =some s):VR Try.prog m2 h2 (V2.getD j .junk) (a2.tmps.getD s undef):=by
 obtain⟨h1,e1⟩:=Ee rv hj
 rw[←e1]
 exact ML ht h1
theorem Pk {b:Nat} {r r':List AV} {gv:AV} {h4:AH} (o1:r.all AV.one=true) (o2:r.length=3) (o3:r'.all AV.one=true) (o4:r'.length=3) (og:gv= .nils∨∃ id e rows,gv= .isl id e rows)
  (eM:aj Try.prog po 120 [.ptr b 0 0,.agg r] (acH h r)=some (.inl (.int .i64 0),acH h r))
  (eV:aj Try.prog po 122 [.ptr (acH h r).n 0 0,.agg r] ((acH h r).push [[.ptr b 0 0,gv]])=some (.inl (.agg r'),h4)) (k6:h4.cell (h.n+1)=some [zR]) (k7:h4.cell (h.n+1+1)=some [[.int .i64 0]]):
  AC Try.prog fAc [.ptr b 0 0,.agg r,gv] h (.inl (.tup [.agg r',.int .i64 0]),(h4.set (h.n+1) (some [r'])).set (h.n+1+1) (some [[.int .i64 0]])):=by
 intro m w vs hw hvs cs
 have c4:((acH h r).push [[.ptr b 0 0,gv]]).cell h.n=some [r]:=(aL (by simp only[acH,aM];omega)).trans iJ
 have k7':(h4.set (h.n+1) (some [r'])).cell (h.n+1+1)=some [[.int .i64 0]]:=(bc (by omega)).trans k7
 have hr2:aq (aj Try.prog po) 9 [.ss xA,.halt []] [.ptr b 0 0,.agg r,gv,.ptr h.n 0 0,.ptr (h.n+1) 0 0,.ptr (h.n+1+1) 0 0,.int .i64 0,.junk,.bool false] [] (acH h r)=
   some (.ret,[.ptr b 0 0,.agg r,gv,.ptr h.n 0 0,.ptr (h.n+1) 0 0,.ptr (h.n+1+1) 0 0,.int .i64 0,.ptr (acH h r).n 0 0,.bool false],(h4.set (h.n+1) (some [r'])).set (h.n+1+1) (some [[.int .i64 0]])):=by
  unfold xA
  rcases og with rfl | ⟨id,e,rows,rfl⟩
  ·simp only[sim,ag,reduceAdd,reduceSub,replicate,reduceCtorEq,reduceLeDiff,reduceLT,aa,c4,bo o2,eV,k6,o3,o4,k7']
  ·simp only[sim,ag,reduceAdd,reduceSub,replicate,reduceCtorEq,reduceLeDiff,reduceLT,aa,c4,bo o2,eV,k6,o3,o4,k7']
 obtain⟨bf,t2,b1,b2,b3,rv,m2,w2,x1,x2,x3,a2,x4,x5,x6⟩:=Cv o1 o2 (CH (gv:=gv) o2 eM) (fun v=>by simp) hw hvs cs
 rw[b3]at x5
 have v6:=xa rv x4 (j:=4) (s:=6) rfl
 have v7:=xa rv x4 (j:=5) (s:=7) rfl
 have hsz:a2.tmps.size=25:=by rw[x4.1,rv.len]
 have lay:=Jm (w:=w2) (bf:=bf) (a2:=a2) (cs:=cs) hsz rfl rfl
 generalize hp6:a2.tmps.getD 6 undef=p6 at v6 lay
 generalize hp7:a2.tmps.getD 7 undef=p7 at v7 lay
 rw[x5]at lay
 have ht3:=x4.put (VR.junk (.func (.func fCl) #[] #[p6,p7])) (some 17)
 have rv3:=xy (i:=17) (v:= .junk) rv (by decide)
 obtain⟨t5,hp,rv5⟩:=qA pok (bQ DQ) NQ KE hr2 rv3
 obtain⟨m3,w3,y1,y2,y3,a5,todo,y4,y5,y6⟩:=hp m2 w2 {a2.put (some 17) (.func (.func fCl) #[] #[p6,p7])with defers:=[{target:= .fn (.func fCl) #[p6,p7],args:= #[]}]} {bf with defers:=[{target:= .fn (.func fCl) #[p6,p7],args:= #[]}]} cs x2 ht3 rfl
 have hlv:Leaves Try.prog Try.f106 a5.tmps (fun e w'=>∃ m',Ext m h m' ((h4.set (h.n+1) (some [r'])).set (h.n+1+1) (some [[.int .i64 0]]))∧WR Try.prog m' ((h4.set (h.n+1) (some [r'])).set (h.n+1+1) (some [[.int .i64 0]])) w'∧Below m.base w w'∧∃ u,e= .returned u∧VR Try.prog m' ((h4.set (h.n+1) (some [r'])).set (h.n+1+1) (some [[.int .i64 0]])) (.tup [.agg r',.int .i64 0]) u) [{target:= .fn (.func fCl) #[p6,p7],args:= #[]}] .returning w3:=by
  refine leaves_cons (f:=fCl) (args:= #[p6,p7]) (by simp) (by simp[go_sem]) ?_
  refine(Bn y2 (v6.ext y1) (v7.ext y1)).mono ?_
  rintro e u'' w' ⟨⟨v,rfl⟩,rfl,m4,z1,z2,z3⟩
  have hres:=xV (h:=(h4.set (h.n+1) (some [r'])).set (h.n+1+1) (some [[.int .i64 0]])) (v:= .tup [.agg r',.int .i64 0]) rv5 (by
   have q6:((h4.set (h.n+1) (some [r'])).set (h.n+1+1) (some [[.int .i64 0]])).cell (h.n+1)=some [r']:=(bc (by omega)).trans aO
   simp only[sim,ag,reduceAdd,reduceSub,replicate,reduceCtorEq,reduceLeDiff,reduceLT,aa,q6,bo o4])
  obtain⟨u,h7,h8⟩:=gI z2 (y4.ext z1) hres
  refine⟨u,h7,m4,(x1.trans y1).trans z1,z2,?_,u,rfl,h8⟩
  have q1:m2.base=m.base:=x1.base
  have q2:m3.base=m2.base:=y1.base
  rw[q2,q1]at z3
  rw[q1]at y3
  exact(x3.trans y3).trans z3
 obtain⟨e,w4,fr',hR,hs,hfn,hl⟩:=leaves_steps [{target:= .fn (.func fCl) #[p6,p7],args:= #[]}] .returning w3 {(({bf with defers:=[{target:= .fn (.func fCl) #[p6,p7],args:= #[]}]}:Frame).at a5 todo)with mode:= .returning} cs rfl y5 rfl (by simp[Frame.at,b1]) (by simpa[Frame.at]using b2) hlv
 exact⟨e,w4,fr',hR,Comes.of_steps (x6.trans (lay.trans y6)) hs,hfn.trans b1,hl⟩
noncomputable abbrev uB:Array Oper:=fj (cL (cR cW))
noncomputable abbrev o6 (i:Nat):Oper:=uB.getD i default
theorem Ny:cL (cR cW)= .region 6 uB false:=rfl
theorem P1:((Try.prog).underlying tV).isNone=false:=by kernel_rfl
theorem PT:f9 Try.prog tV=true:=by kernel_rfl
theorem P8:szA Try.prog tV=3:=by kernel_rfl
theorem P6 (t:List AV) (h:AH):OpF Try.prog po fAc t h (o6 0) (t.getD 9 .junk) h:= .inl ⟨rfl,rfl⟩
theorem PZ {t:List AV} {h:AH} {v:AV} (hl:aE true 3 h (t.getD 4 .junk)=some v):OpF Try.prog po fAc t h (o6 1) v h:=by
 refine .inl ⟨rfl,?_⟩
 show(if((Try.prog).underlying tV).isNone then none else(aE (f9 Try.prog tV) (szA Try.prog tV) h (t.getD 4 .junk)).map fun v=>(v,h))=_
 rw[P1,PT,P8,hl]
 rfl
theorem Qb (t:List AV):aG t (o6 2)=some (122,[t.getD 22 .junk,t.getD 23 .junk]):=rfl
theorem NP:∃ fn,(Try.prog).funcs[(122:Nat)]? =some fn∧(fn.body.isNone=false∧(fn.name== "runtime.NumGoroutine")=false):=⟨_,Try.func122,by kernel_rfl,by kernel_rfl⟩
theorem JR {b:Nat} {r:List AV} {gv:AV} {h4:AH} {c:Int} (o1:r.all AV.one=true) (o2:r.length=3) (og:gv= .nils∨∃ id e rows,gv= .isl id e rows)
  (eM:aj Try.prog po 120 [.ptr b 0 0,.agg r] (acH h r)=some (.inl (.int .i64 0),acH h r))
  (eV:aj Try.prog po 122 [.ptr (acH h r).n 0 0,.agg r] ((acH h r).push [[.ptr b 0 0,gv]])=some (.inr (.iface nL (.int .i64 c)),h4)) (k6:h4.cell (h.n+1)=some [zR]) (k7:h4.cell (h.n+1+1)=some [[.int .i64 0]]):
  AC Try.prog fAc [.ptr b 0 0,.agg r,gv] h (.inl (.tup [.agg zR,.int .i64 c]),(h4.set (h.n+1) (some [zR])).set (h.n+1+1) (some [[.int .i64 c]])):=by
 intro m w vs hw hvs cs
 have c4:((acH h r).push [[.ptr b 0 0,gv]]).cell h.n=some [r]:=(aL (by simp only[acH,aM];omega)).trans iJ
 have hr3:aq (aj Try.prog po) 9 [.ss wT,.halt [.code (cR cW)]] [.ptr b 0 0,.agg r,gv,.ptr h.n 0 0,.ptr (h.n+1) 0 0,.ptr (h.n+1+1) 0 0,.int .i64 0,.junk,.bool false] [] (acH h r)=
   some (.halt [.code (cR cW)],[.ptr b 0 0,.agg r,gv,.ptr h.n 0 0,.ptr (h.n+1) 0 0,.ptr (h.n+1+1) 0 0,.int .i64 0,.ptr (acH h r).n 0 0,.bool false],(acH h r).push [[.ptr b 0 0,gv]]):=by
  unfold wT
  rcases og with rfl | ⟨id,e,rows,rfl⟩
  ·simp only[sim,ag,reduceAdd,reduceSub,replicate,reduceCtorEq,reduceLeDiff,reduceLT,aa]
  ·simp only[sim,ag,reduceAdd,reduceSub,replicate,reduceCtorEq,reduceLeDiff,reduceLT,aa]
 obtain⟨bf,t2,b1,b2,b3,rv,m2,w2,x1,x2,x3,a2,x4,x5,x6⟩:=Cv o1 o2 (CH (gv:=gv) o2 eM) (fun v=>by simp) hw hvs cs
 rw[b3]at x5
 have v6:=xa rv x4 (j:=4) (s:=6) rfl
 have v7:=xa rv x4 (j:=5) (s:=7) rfl
 have hsz:a2.tmps.size=25:=by rw[x4.1,rv.len]
 have lay:=Jm (w:=w2) (bf:=bf) (a2:=a2) (cs:=cs) hsz rfl rfl
 generalize hp6:a2.tmps.getD 6 undef=p6 at v6 lay
 generalize hp7:a2.tmps.getD 7 undef=p7 at v7 lay
 rw[x5]at lay
 have ht3:=x4.put (VR.junk (.func (.func fCl) #[] #[p6,p7])) (some 17)
 have rv3:=xy (i:=17) (v:= .junk) rv (by decide)
 obtain⟨t5,hp,rv5⟩:=qA pok (bQ DQ) NB KX hr3 rv3
 obtain⟨m3,w3,y1,y2,y3,a5,y4,y5,y6⟩:=hp m2 w2 {a2.put (some 17) (.func (.func fCl) #[] #[p6,p7])with defers:=[{target:= .fn (.func fCl) #[p6,p7],args:= #[]}]} {bf with defers:=[{target:= .fn (.func fCl) #[p6,p7],args:= #[]}]} cs x2 ht3 rfl
 have s1:Steps Try.prog (lone (bf.at {a2.put (some 17) (.func (.func fCl) #[] #[p6,p7])with defers:=[{target:= .fn (.func fCl) #[p6,p7],args:= #[]}]} [.code cW]) cs w2) (lone (bf.at a5 [.inRegion uB [0,1,2,3,4],.code .ret]) cs w3):=by
  conv=>lhs;rw[Lp]
  refine .head step_seq (y6.trans ?_)
  conv=>lhs;rw[LC]
  refine .head step_seq ?_
  conv=>lhs;rw[Ny]
  exact .one step_region
 -- the first two operations of the last statement
 obtain⟨q9,e9⟩:=Ee rv5 (j:=7) (s:=9) rfl
 obtain⟨q4,e4⟩:=Ee rv5 (j:=3) (s:=4) rfl
 obtain⟨m6,w6,u6,d1,d2,d3,d4,d5⟩:=pE (b:=bf) (cs:=cs) (K:=[.code .ret]) (all:=uB) (i:=0) (rest:=[1,2,3,4]) pok rfl (rfl:aZ uB t5 (o6 0)=some true) y2 y4 (P6 t5 _)
 have ht6:=(y4.ext d1).put d3 (some 22)
 have rv6:=xy (i:=22) (v:=t5.getD 9 .junk) rv5 (by decide)
 obtain⟨q4',e4'⟩:=Ee rv6 (j:=3) (s:=4) rfl
 obtain⟨m7,w7,u7,f1,f2,f3,f4,f5⟩:=pE (b:=bf) (cs:=cs) (K:=[.code .ret]) (all:=uB) (i:=1) (rest:=[2,3,4]) (o:=o6 1) (a:=a5.put (some 22) u6) (v:= .agg r) pok rfl (rfl:aZ uB _ (o6 1)=some true) d2 ht6 (PZ (by
  rw[e4']
  simp[aE,AH.row,c4,bo o2]))
 have ht7:=(ht6.ext f1).put f3 (some 23)
 have rv7:=xy (i:=23) (v:= .agg r) rv6 (by decide)
 -- the call that gives up
 obtain⟨fn,g1,g2,g3⟩:=NP
 have hl7:(bJ (bJ t5 (some 22) (t5.getD 9 .junk)) (some 23) (.agg r)).length=25:=rv7.len
 have hl5:t5.length=25:=rv5.len
 have ecl:=Qb (bJ (bJ t5 (some 22) (t5.getD 9 .junk)) (some 23) (.agg r))
 have ea:(bJ (bJ t5 (some 22) (t5.getD 9 .junk)) (some 23) (.agg r)).getD 22 .junk= .ptr (acH h r).n 0 0:=by
  have:(bJ (bJ t5 (some 22) (t5.getD 9 .junk)) (some 23) (.agg r)).getD 22 .junk=t5.getD 9 .junk:=by simp[bJ,List.getD,List.getElem?_set,hl5]
  rw[this,e9]
  rfl
 have eb:(bJ (bJ t5 (some 22) (t5.getD 9 .junk)) (some 23) (.agg r)).getD 23 .junk= .agg r:=by simp[bJ,List.getD,List.getElem?_set,hl5]
 rw[ea,eb]at ecl
 have hac:=sQ pok eV
 obtain⟨vs7,v1,v2⟩:=iG (w:=w7) ht7 ecl g1 g3 g2
 obtain⟨e,w8,hR,hst⟩:=kc (b:=bf) (cs:=cs) (k:=[.code .ret]) (rest:=[3,4]) (all:=uB) (i:=2) rfl (dV ht7 uB (o6 2) (rfl:aZ uB _ (o6 2)=some true)) v2 (hac m7 w7 vs7 f2 v1) (by rintro w' ⟨m',_,_,_,u',h,_⟩;cases h)
 obtain⟨m8,z1,z2,z3,u8,rfl,z5⟩:=hR
 rcases hst with⟨v',h3,_⟩ | ⟨ch,h3,todo,z6⟩
 ·cases h3
 injection h3 with h3
 subst h3
 have hlv:Leaves Try.prog Try.f106 ((a5.put (some 22) u6).put (some 23) u7).tmps (fun e w'=>∃ m',Ext m h m' ((h4.set (h.n+1) (some [zR])).set (h.n+1+1) (some [[.int .i64 c]]))∧WR Try.prog m' ((h4.set (h.n+1) (some [zR])).set (h.n+1+1) (some [[.int .i64 c]])) w'∧Below m.base w w'∧∃ u,e= .returned u∧VR Try.prog m' ((h4.set (h.n+1) (some [zR])).set (h.n+1+1) (some [[.int .i64 c]])) (.tup [.agg zR,.int .i64 c]) u) [{target:= .fn (.func fCl) #[p6,p7],args:= #[]}] (.panicking [{v:=u8,recovered:=false}]) w8:=by
  refine leaves_cons (f:=fCl) (args:= #[p6,p7]) (by simp) (by simp[go_sem]) ?_
  refine(FN (code:=c) z2 (((((v6.ext y1).ext d1).ext f1).ext z1)) (((((v7.ext y1).ext d1).ext f1).ext z1)) z5 k6 k7 (by omega) rfl).mono ?_
  rintro e u'' w' ⟨⟨v,rfl⟩,rfl,m9,n1,n2,n3⟩
  have hres:=xV (h:=(h4.set (h.n+1) (some [zR])).set (h.n+1+1) (some [[.int .i64 c]])) (v:= .tup [.agg zR,.int .i64 c]) rv7 (by
   have q6:((h4.set (h.n+1) (some [zR])).set (h.n+1+1) (some [[.int .i64 c]])).cell (h.n+1)=some [zR]:=(bc (by omega)).trans aO
   simp only[sim,ag,reduceAdd,reduceSub,replicate,reduceCtorEq,reduceLeDiff,reduceLT,aa,q6])
  obtain⟨u,h7,h8⟩:=gI n2 ((ht7.ext z1).ext n1) hres
  refine⟨u,h7,m9,((((x1.trans y1).trans d1).trans f1).trans z1).trans n1,n2,?_,u,rfl,h8⟩
  have q1:m2.base=m.base:=x1.base
  have q2:m3.base=m2.base:=y1.base
  have q3:m6.base=m3.base:=d1.base
  have q5:m7.base=m6.base:=f1.base
  have q6:m8.base=m7.base:=z1.base
  rw[q6,q5,q3,q2,q1]at n3
  rw[q5,q3,q2,q1]at z3
  rw[q3,q2,q1]at f4
  rw[q2,q1]at d4
  rw[q1]at y3
  exact((((x3.trans y3).trans d4).trans f4).trans z3).trans n3
 have hdf:((a5.put (some 22) u6).put (some 23) u7).defers=[{target:= .fn (.func fCl) #[p6,p7],args:= #[]}]:=y5
 obtain⟨e,w9,fr',hR,hs,hfn,hl⟩:=leaves_steps [{target:= .fn (.func fCl) #[p6,p7],args:= #[]}] (.panicking [{v:=u8,recovered:=false}]) w8 {(bf.at ((a5.put (some 22) u6).put (some 23) u7) todo)with mode:= .panicking [{v:=u8,recovered:=false}]} cs rfl hdf rfl (by simp[Frame.at,b1]) (by simpa[Frame.at]using b2) hlv
 exact⟨e,w9,fr',hR,Comes.of_steps (x6.trans (lay.trans (s1.trans (d5.trans (f5.trans z6))))) hs,hfn.trans b1,hl⟩
end
section
variable {h:AH} {F J:Nat→Prop} {b:Nat} {G:ae}
theorem BG (g:IsG h F J b G) (r:List AV):Mv h F J b (acH h r) G [h.n+1+1,h.n+1,h.n] []:=(((Mv.start g).push [r]).push [zR]).push [[.int .i64 0]]
theorem n7 (g:IsG h F J b G) (hW:G.Wf) {x:VD} {r:List AV} (hx:VaA x r):aj Try.prog po 120 [.ptr b 0 0,.agg r] (acH h r)=some (.inl (.int .i64 (ue G x)),acH h r):=by
 obtain⟨F2,J2,g2⟩:=(BG g r).isG
 exact G7 g2 hW hx
theorem Gu {x:VD} (hz:ue G x=0):x.size≤100000:=by
 have:x.code=0:=by
  unfold ue at hz
  split at hz
  ·exact hz
  ·rename_i hc
   simpa using hc
 have:=zf this
 omega
theorem so (g:IsG h F J b G) (hW:G.Wf) {x:VD} {r:List AV} {gv:AV} {ks:List Int} (hx:VaA x r) (hg:SlA 3 gv (bq ks)) (hk:ks.length≤1000000) (hz:ue G x=0):
  ∃ h4,(∃ q,aj Try.prog po 122 [.ptr (acH h r).n 0 0,.agg r] ((acH h r).push [[.ptr b 0 0,gv]])=some (q,h4)∧Js ks G x q)∧Mv h F J b h4 (df ks x G).1 [(acH h r).n,h.n+1+1,h.n+1,h.n] []∧h4.cell (h.n+1)=some [zR]∧h4.cell (h.n+1+1)=some [[.int .i64 0]]:=by
 have m1:=(BG g r).push [[.ptr b 0 0,gv]]
 obtain⟨h4,e,m2,k, -, -⟩:=m1.callF (R:=fun h4=>∃ q,aj Try.prog po 122 [.ptr (acH h r).n 0 0,.agg r] ((acH h r).push [[.ptr b 0 0,gv]])=some (q,h4)∧Js ks G x q) (G':=(df ks x G).1) fun F2 J2 g2 _ hC=>by
  obtain⟨q,h4,e,r2,d⟩:=GY hg.isL hk _ x (Nat.le_refl _) (Gu hz) r ((acH h r).push [[.ptr b 0 0,gv]]) F2 J2 G g2 hW (by simp only[aM];omega) (hC _ (by simp)) aC hx
  exact⟨h4,⟨q,e,r2⟩,d⟩
 refine⟨h4,e,m2,(k _ (by simp)).trans ?_,(k _ (by simp)).trans ?_⟩
 ·exact(aL (by simp only[acH,aM];omega)).trans kL
 ·exact(aL (by simp only[acH,aM];omega)).trans fI
theorem GJ {gv:AV} {e:TypeId} {rows:List (List AV)} (hg:SlA e gv rows):gv= .nils∨∃ id e rows,gv= .isl id e rows:=by
 rcases hg with⟨_,h⟩ | ⟨id,h⟩
 ·exact .inl h
 ·exact .inr ⟨_,_,_,h⟩
theorem EU (g:IsG h F J b G) (hW:G.Wf) {x:VD} {r:List AV} {gv:AV} {ks:List Int} (hx:VaA x r) (hg:SlA 3 gv (bq ks)) (hk:ks.length≤1000000):
  ∃ q,AC Try.prog fAc [.ptr b 0 0,.agg r,gv] h q∧tS [.ptr b 0 0,.agg r,gv] h q:=by
 obtain⟨o1,o2⟩:=hx.one
 have eM:=n7 g hW hx
 by_cases hz:ue G x=0
 ·rw[hz]at eM
  obtain⟨h4,⟨q,eV,rV⟩,mv,k6,k7⟩:=so g hW hx hg hk hz
  rcases rV with⟨hz2,r',rfl,x2⟩ | ⟨hz2,rfl⟩
  ·obtain⟨o3,o4⟩:=x2.one
   refine⟨_,Pk o1 o2 o3 o4 (GJ hg) eM eV k6 k7,?_⟩
   rintro F2 J2 b2 G2 x3 r3 gv3 ks3 e g3 hW3 hx3 hg3 hk3
   simp only[List.cons.injEq,AV.ptr.injEq,AV.agg.injEq,and_true]at e
   obtain⟨rfl,rfl,rfl⟩:=e
   have eM3:=n7 g3 hW3 hx3
   rw[eM]at eM3
   simp only[Option.some.injEq,Prod.mk.injEq,Sum.inl.injEq,AV.int.injEq,true_and,and_true]at eM3
   obtain⟨h5,⟨q,eV3,rV3⟩,mv3, -, -⟩:=so g3 hW3 hx3 hg3 hk3 eM3.symm
   rw[eV]at eV3
   simp only[Option.some.injEq,Prod.mk.injEq]at eV3
   obtain⟨rfl,rfl⟩:=eV3
   have ha:aV ks3 G2 x3=df ks3 x3 G2:=by rw[aV,if_neg (by simp[←eM3])]
   rcases rV3 with⟨hz3,r4,e4,x4⟩ | ⟨_,e4⟩
   ·simp only[Sum.inl.injEq,AV.agg.injEq]at e4
    subst e4
    rw[ha]
    exact⟨r',_,by rw[hz3],x4,((mv3.set (by simp) _).set (by simp) _).did⟩
   ·cases e4
  ·refine⟨_,JR o1 o2 (GJ hg) eM eV k6 k7,?_⟩
   rintro F2 J2 b2 G2 x3 r3 gv3 ks3 e g3 hW3 hx3 hg3 hk3
   simp only[List.cons.injEq,AV.ptr.injEq,AV.agg.injEq,and_true]at e
   obtain⟨rfl,rfl,rfl⟩:=e
   have eM3:=n7 g3 hW3 hx3
   rw[eM]at eM3
   simp only[Option.some.injEq,Prod.mk.injEq,Sum.inl.injEq,AV.int.injEq,true_and,and_true]at eM3
   obtain⟨h5,⟨q,eV3,rV3⟩,mv3, -, -⟩:=so g3 hW3 hx3 hg3 hk3 eM3.symm
   rw[eV]at eV3
   simp only[Option.some.injEq,Prod.mk.injEq]at eV3
   obtain⟨rfl,rfl⟩:=eV3
   have ha:aV ks3 G2 x3=df ks3 x3 G2:=by rw[aV,if_neg (by simp[←eM3])]
   rcases rV3 with⟨_,r4,e4,_⟩ | ⟨hz3,e4⟩
   ·cases e4
   ·simp only[Sum.inr.injEq,AV.iface.injEq,AV.int.injEq,true_and]at e4
    have hv:(df ks3 x3 G2).2.1=au:=by
     rw[DA]at hz3 ⊢
     split
     ·rfl
     ·rename_i h1
      rw[if_neg h1]at hz3
      split
      ·rfl
      ·rename_i h2
       rw[if_neg h2]at hz3
       exact absurd rfl hz3
    rw[ha,hv]
    exact⟨zR,_,by rw[e4],eE,((mv3.set (by simp) _).set (by simp) _).did⟩
 ·refine⟨_,Bm o1 o2 hz eM,?_⟩
  rintro F2 J2 b2 G2 x3 r3 gv3 ks3 e g3 hW3 hx3 hg3 hk3
  simp only[List.cons.injEq,AV.ptr.injEq,AV.agg.injEq,and_true]at e
  obtain⟨rfl,rfl,rfl⟩:=e
  have eM3:=n7 g3 hW3 hx3
  rw[eM]at eM3
  simp only[Option.some.injEq,Prod.mk.injEq,Sum.inl.injEq,AV.int.injEq,true_and,and_true]at eM3
  have ha:aV ks3 G2 x3=(G2,au,ue G2 x3):=by rw[aV,if_pos (by rw[←eM3];exact hz)]
  rw[ha]
  exact⟨zR,_,by rw[eM3],eE,((BG g3 r).set (by simp) _).did⟩
theorem Bs:po.ext fAc=some oD:=by
 show qI fAc=_
 unfold qI
 exact if_pos rfl
theorem rL (g:IsG h F J b G) (hW:G.Wf) {x:VD} {r:List AV} {gv:AV} {ks:List Int} (hx:VaA x r) (hg:SlA 3 gv (bq ks)) (hk:ks.length≤1000000):
  ∃ h',(∃ r',aj Try.prog po 106 [.ptr b 0 0,.agg r,gv] h=some (.inl (.tup [.agg r',.int .i64 (aV ks G x).2.2]),h')∧VaA (aV ks G x).2.1 r')∧dk h F J b h' (aV ks G x).1:=by
 have H:=EU g hW hx hg hk
 have e:aj Try.prog po fAc [.ptr b 0 0,.agg r,gv] h=some (Classical.choose H):=by
  unfold aj
  rw[Bs]
  show oD _ _=_
  unfold oD
  rw[dif_pos H]
 obtain⟨r',h',h1,h2,h3⟩:=(Classical.choose_spec H).2 F J b G x r gv ks rfl g hW hx hg hk
 rw[h1]at e
 exact⟨h',⟨r',e,h2⟩,h3⟩
end
structure OkR (c:Cfg) (n:Now):Prop where
 ms:c.ms.length=4
 S:n.S.Good
 below:n.below.length≤100
 stk:n.top.stack.length≤100000
 nms:n.top.names.length≤100000
 log:n.S.log.length≤1000000
theorem OkR.len {c:Cfg} {n:Now} (o:OkR c n):c.ms.length=n.S.kept.length:=o.ms.trans o.S.kept.symm
def bA (h0:AH) (F0 J0:Nat→Prop) (c:Cfg) (L:List Asn) (i:Nat) (n:Now) (q:StD×VD×Int) (fr:AV ⊕ AV) (h':AH):Prop:=
 (q.2.2=0∧fr= .inl (.tup [])∧St h0 F0 J0 h' (put c L i {n with S:=q.1,top:={n.top with stack:=n.top.stack++[q.2.1]}}))∨
 (q.2.2≠0∧fr= .inr (.iface tGo (.int .i64 q.2.2))∧∃ n':Now,n'.S=q.1∧St h0 F0 J0 h' (put c L i n'))
section
variable {h h' h0:AH} {F J F0 J0:Nat→Prop} {L:List Asn} {c:Cfg} {i:Nat} {n:Now}
theorem bA.no {S:StD} {k:Int} (hk:k≠0) (n':Now) (hS:n'.S=S) (s:St h0 F0 J0 h' (put c L i n')):bA h0 F0 J0 c L i n (S.no k) (.inr (.iface tGo (.int .i64 k))) h':= .inr ⟨hk,rfl,n',hS,s⟩
theorem bA.ok {S:StD} {v:VD} (s:St h0 F0 J0 h' (put c L i {n with S:=S,top:={n.top with stack:=n.top.stack++[v]}})):bA h0 F0 J0 c L i n (S.ok v) (.inl (.tup [])) h':= .inl ⟨rfl,rfl,s⟩
theorem bA.fail (a:At c L i n) {k:Int} (hk:k≠0) (s:St h0 F0 J0 h' L):bA h0 F0 J0 c L i n (n.S.no k) (.inr (.iface tGo (.int .i64 k))) h':=bA.no hk n rfl (by rw[a.same];exact s)
theorem bA.drop {X:Asn} {q:StD×VD×Int} {fr:AV ⊕ AV} (r:bA h0 F0 J0 c (X::L) (i+1) n q fr h'):bA h0 F0 J0 c L i n q fr h':=by
 rcases r with⟨a,b,s⟩ | ⟨a,b,n',e,s⟩
 ·exact .inl ⟨a,b,s.drop⟩
 ·exact .inr ⟨a,b,n',e,s.drop⟩
theorem dx (s:St h0 F0 J0 h L) (a:At c L i n) (hb:n.below.length≤100) (hs:n.top.stack.length≤100000) {v:VD} {r:List AV} (hv:VaA v r):
  ∃ h',aj Try.prog po fPu [.ptr c.mb 0 0,.agg r] h=some (.inl (.tup []),h')∧St h0 F0 J0 h' (put c L i {n with top:={n.top with stack:=n.top.stack++[v]}}):=by
 obtain⟨h',e,s'⟩:=Lf s i a.m hv (by omega) (by omega)
 rw[a.setM]at s'
 exact⟨h',e,s'⟩
theorem BJ (s:St h0 F0 J0 h L) (a:At c L i n) {st:List VD} {v:VD} (hst:n.top.stack=st++[v]) (hb:n.below.length≤100) (hl:st.length≤100000):
  ∃ h' r,aj Try.prog po 83 [.ptr c.mb 0 0] h=some (.inl (.agg r),h')∧VaA v r∧St h0 F0 J0 h' (put c L i {n with top:={n.top with stack:=st}}):=by
 obtain⟨h',⟨r,e,hv⟩,s'⟩:=NO s i a.m hst (by omega) (by omega)
 rw[a.setM]at s'
 exact⟨h',r,e,hv,s'⟩
theorem lz (s:St h0 F0 J0 h L) (a:At c L i n) {R:AH→Prop} {G':ae} (cc:∀ F J,IsG h F J c.gb n.S.G→∃ h',R h'∧dk h F J c.gb h' G'):∃ h',R h'∧St h0 F0 J0 h' (put c L i {n with S:={n.S with G:=G'}}):=by
 obtain⟨h',r,s'⟩:=s.call (R:=R) (Y:=br c.gb G') (i+2) a.g cc
 rw[a.setG]at s'
 exact⟨h',r,s'⟩
theorem db (s:St h0 F0 J0 h L) (a:At c L i n) (hl:c.ms.length=n.S.kept.length):(∀ k:Nat,aE false k h (.ptr c.mb 0 0)=some (.ptr c.bb 0 0))∧(∀ k:Nat,aE false k h (.ptr c.bb 0 0)=some (.ptr c.gb 0 0))∧∀ k:Nat,aE false k h (.ptr c.bb 0 1)=some (.ptr c.wb 0 0):=by
 obtain⟨a',sv,nv,g,mv⟩:=dA s i a.m
 obtain⟨b1,b2⟩:=jP s a.b hl
 refine⟨fun k=> ?_,b1,b2⟩
 rw[bD,mv.m,Option.bind_some,List.getElem?_cons_zero,Option.bind_some,fL];rfl
theorem cK (s:St h0 F0 J0 h L) (a:At c L i n) (hb:n.below.length≤100):aj Try.prog po HP [.ptr c.mb 0 0] h=some (.inl (.ptr n.fb n.below.length 0),h)∧∀ k:Nat,aE false k h (.ptr n.fb n.below.length 0)=some (.int .i64 n.top.plugin):=by
 obtain⟨a',sv,nv,g,mv⟩:=dA s i a.m
 exact⟨q8 mv.m (by omega),fun k=>mv.rd k 0 _ (ct n.top a' sv nv g mv.ha.len3.1).2.2.2.2.2.1⟩
theorem gQ (t:aX):aH t=[.int .i64 t.parent,.int .i64 t.gate,.int .i64 t.rights,.int .i64 t.cell,.int .i64 t.plugin,.int .i64 t.func]:=rfl
theorem Of {p k n:Int} {v:VD} {S:StD}:bI p 13 k n [v] S=if v.kind≠4 then S.no 2 else if ew (S.G.rights v.n) 0=false then S.no 9 else if 0≤(S.G.target v.n).1.plugin then S.no 2
  else({S with log:=S.log++[ca.mk p (S.G.target v.n).1.cell 1 v.n]}:StD).ok (iH (S.cells.getD (S.G.target v.n).1.cell.toNat 0)):=rfl
theorem qv {G:ae} (hW:G.Wf) {i:Int} {k:Nat} (hb:ew (G.rights i) k=true) (hp:¬ 0≤(G.target i).1.plugin):0≤(G.target i).1.cell∧(G.target i).1.cell<12:=by
 have hh:G.has i=true:=by
  cases h:G.has i with
  | true=>rfl
  | false=>
    have:G.rights i=0:=by unfold ae.rights;rw[if_pos (.inl (ae.path_no h))]
    rw[this]at hb
    have h2:ew 0 k=false:=by unfold ew;rw[Int.zero_ediv];decide
    rw[h2]at hb
    cases hb
 obtain⟨_,_,h1 | h1⟩:=ae.target_ok hW hh
 ·exact⟨h1.2.1,h1.2.2.1⟩
 ·omega
set_option maxHeartbeats 1000000 in
theorem IF (s:St h0 F0 J0 h L) (a:At c L i n) (o:OkR c n) {v:VD} {r:List AV} (hv:VaA v r) (k m:Int):∃ fr h',aj Try.prog po 123 [.ptr c.mb 0 0,.agg r] h=some (fr,h')∧bA h0 F0 J0 c L i n (bI n.top.plugin 13 k m [v] n.S) fr h':=by
 rw[Of]
 have s1:=s.push [r]
 have a1:=a.cons (ai h.n [r])
 obtain⟨o1,o2⟩:=hv.len3
 by_cases hk:v.kind=4
 ·rw[if_neg (by simpa using hk)]
  obtain⟨r',ek,hv'⟩:=ei (h:=h.push [r]) hv hk
  have ec:=th s1 a1.m a1.b a1.g o.len o.S.wf hv' (k:=0) (q:=1) (by decide) (by decide)
  by_cases hb:ew (n.S.G.rights v.n) 0=true
  ·rw[if_pos hb]at ec
   rw[if_neg (by simp[hb])]
   have s2:=s1.push [aH (n.S.G.target v.n).1]
   have a2:=a1.cons (ai (h.push [r]).n [aH (n.S.G.target v.n).1])
   by_cases hp:0≤(n.S.G.target v.n).1.plugin
   ·rw[if_pos hp]
    have d:decide (0≤(n.S.G.target v.n).1.plugin)=true:=decide_eq_true hp
    refine⟨_,_,?_,bA.fail a (by decide) s2.drop.drop⟩
    refine ah pe rfl ?_;unfold lE
    simp only[sim,ag,reduceAdd,reduceSub,replicate,reduceCtorEq,reduceLeDiff,reduceLT,aa,az,o1,o2,ek,ec,gQ,d,bP]
   ·rw[if_neg hp]
    have d:decide (0≤(n.S.G.target v.n).1.plugin)=false:=decide_eq_false hp
    obtain⟨l0,l1,l2⟩:=db s2 a2 o.len
    obtain⟨tp,tl⟩:=cK s2 a2 o.below
    obtain⟨h3,e3,s3⟩:=LL s2 (i+1+1+3) a2.w o.S.cells o.log (qv o.S.wf hb hp) n.top.plugin v.n
    rw[a2.setW]at s3
    have a3:=a2.put {n with S:={n.S with cells:=n.S.cells,log:=n.S.log++[⟨n.top.plugin,(n.S.G.target v.n).1.cell,1,v.n⟩]}}
    obtain⟨h4,e4,s4⟩:=dx s3 a3 o.below o.stk (tZ (n.S.cells.getD (n.S.G.target v.n).1.cell.toNat 0))
    rw[aR,ap,ap]at s4
    refine⟨_,h4,?_,bA.ok s4.drop.drop⟩
    have f0:aI 0 (.ptr c.mb 0 0)=some (.ptr c.mb 0 0):=rfl
    have f1:aI 1 (.ptr c.bb 0 0)=some (.ptr c.bb 0 1):=rfl
    have f2:aI 0 (.ptr n.fb n.below.length 0)=some (.ptr n.fb n.below.length 0):=rfl
    rw[gQ]at l0 l1 l2 tp tl e3
    refine ah pe rfl ?_;unfold lE
    simp only[sim,ag,reduceAdd,reduceSub,replicate,reduceCtorEq,reduceLeDiff,reduceLT,aa,az,o1,o2,ek,ec,gQ,d,cb,f0,f1,f2,l0,l1,l2,tp,tl,e3,lR,e4]
  ·rw[if_neg hb]at ec
   rw[if_pos (by simpa using hb)]
   refine⟨_,_,?_,bA.fail a (by decide) s1.drop⟩
   refine ah pe rfl ?_;unfold lE
   simp only[sim,ag,reduceAdd,reduceSub,replicate,reduceCtorEq,reduceLeDiff,reduceLT,aa,az,o1,o2,ek,ec]
 ·rw[if_pos hk]
  have ek:=fG (h:=h.push [r]) hv hk
  refine⟨_,_,?_,bA.fail a (by decide) s1.drop⟩
  refine ah pe rfl ?_;unfold lE
  simp only[sim,ag,reduceAdd,reduceSub,replicate,reduceCtorEq,reduceLeDiff,reduceLT,aa,az,o1,o2,ek]
theorem Ox {p k n:Int} {v x:VD} {S:StD}:bI p 14 k n [v,x] S=if v.kind≠4∨x.kind≠1 then S.no 2 else if ew (S.G.rights v.n) 1=false then S.no 9 else if 0≤(S.G.target v.n).1.plugin then S.no 2
  else({S with log:=S.log++[ca.mk p (S.G.target v.n).1.cell 2 v.n],cells:=S.cells.set (S.G.target v.n).1.cell.toNat x.n}:StD).ok x:=rfl
set_option maxHeartbeats 1000000 in
theorem EL (s:St h0 F0 J0 h L) (a:At c L i n) (o:OkR c n) {v x:VD} {r t:List AV} (hv:VaA v r) (hx:VaA x t) (k m:Int):∃ fr h',aj Try.prog po 124 [.ptr c.mb 0 0,.agg r,.agg t] h=some (fr,h')∧bA h0 F0 J0 c L i n (bI n.top.plugin 14 k m [v,x] n.S) fr h':=by
 rw[Ox]
 have s1:=(s.push [r]).push [t]
 have a1:=(a.cons (ai h.n [r])).cons (ai (h.push [r]).n [t])
 obtain⟨o1,o2⟩:=hv.len3
 obtain⟨o3,o4⟩:=hx.len3
 have c1:((h.push [r]).push [t]).cell h.n=some [r]:=(s1.cell 1 rfl).1
 have c2:((h.push [r]).push [t]).cell (h.n+1)=some [t]:=(s1.cell 0 rfl).1
 by_cases hk:v.kind=4
 ·obtain⟨r',ek,hv'⟩:=ei (h:=(h.push [r]).push [t]) hv hk
  by_cases hk2:x.kind=1
  ·rw[if_neg (by simp[hk,hk2])]
   obtain⟨t',ek2,hx'⟩:=ei (h:=(h.push [r]).push [t]) hx hk2
   have ec:=th s1 a1.m a1.b a1.g o.len o.S.wf hv (k:=1) (q:=2) (by decide) (by decide)
   by_cases hb:ew (n.S.G.rights v.n) 1=true
   ·rw[if_pos hb]at ec
    rw[if_neg (by simp[hb])]
    have s2:=s1.push [aH (n.S.G.target v.n).1]
    have a2:=a1.cons (ai ((h.push [r]).push [t]).n [aH (n.S.G.target v.n).1])
    by_cases hp:0≤(n.S.G.target v.n).1.plugin
    ·rw[if_pos hp]
     have d:decide (0≤(n.S.G.target v.n).1.plugin)=true:=decide_eq_true hp
     refine⟨_,_,?_,bA.fail a (by decide) s2.drop.drop.drop⟩
     refine ah jQ rfl ?_;unfold iV
     simp only[sim,ag,reduceAdd,reduceSub,replicate,reduceCtorEq,reduceLeDiff,reduceLT,aa,az,o1,o2,o3,o4,c1,c2,ek,ek2,ec,gQ,d,bP]
    ·rw[if_neg hp]
     have d:decide (0≤(n.S.G.target v.n).1.plugin)=false:=decide_eq_false hp
     obtain⟨l0,l1,l2⟩:=db s2 a2 o.len
     obtain⟨tp,tl⟩:=cK s2 a2 o.below
     obtain⟨w,hw,_⟩:=hx.cells3
     have c3:(((h.push [r]).push [t]).push [aH (n.S.G.target v.n).1]).cell (h.n+1)=some [t]:=(s2.cell 1 rfl).1
     have hxn:t[1]? =some (.int .i64 x.n):=by rw[hw];rfl
     obtain⟨h3,e3,s3⟩:=It s2 (i+1+1+1+3) a2.w o.S.cells o.log (qv o.S.wf hb hp) n.top.plugin v.n x.n
     rw[a2.setW]at s3
     have a3:=a2.put {n with S:={n.S with cells:=n.S.cells.set (n.S.G.target v.n).1.cell.toNat x.n,log:=n.S.log++[⟨n.top.plugin,(n.S.G.target v.n).1.cell,2,v.n⟩]}}
     have c4:=(s3.cell 1 rfl).1
     simp only[aM]at c4
     obtain⟨h4,e4,s4⟩:=dx s3 a3 o.below o.stk hx
     rw[aR,ap,ap,ap]at s4
     refine⟨_,h4,?_,bA.ok s4.drop.drop.drop⟩
     have f0:aI 0 (.ptr c.mb 0 0)=some (.ptr c.mb 0 0):=rfl
     have f1:aI 1 (.ptr c.bb 0 0)=some (.ptr c.bb 0 1):=rfl
     have f2:aI 0 (.ptr n.fb n.below.length 0)=some (.ptr n.fb n.below.length 0):=rfl
     rw[gQ]at l0 l1 l2 tp tl e3 c3
     refine ah jQ rfl ?_;unfold iV
     simp only[sim,ag,reduceAdd,reduceSub,replicate,reduceCtorEq,reduceLeDiff,reduceLT,aa,az,o1,o2,o3,o4,c1,c2,ek,ek2,ec,gQ,d,cb,f0,f1,f2,l0,l1,l2,tp,tl,c3,hxn,e3,c4,e4]
   ·rw[if_neg hb]at ec
    rw[if_pos (by simpa using hb)]
    refine⟨_,_,?_,bA.fail a (by decide) s1.drop.drop⟩
    refine ah jQ rfl ?_;unfold iV
    simp only[sim,ag,reduceAdd,reduceSub,replicate,reduceCtorEq,reduceLeDiff,reduceLT,aa,az,o1,o2,o3,o4,c1,c2,ek,ek2,ec]
  ·rw[if_pos (.inr hk2)]
   have ek2:=fG (h:=(h.push [r]).push [t]) hx hk2
   refine⟨_,_,?_,bA.fail a (by decide) s1.drop.drop⟩
   refine ah jQ rfl ?_;unfold iV
   simp only[sim,ag,reduceAdd,reduceSub,replicate,reduceCtorEq,reduceLeDiff,reduceLT,aa,az,o1,o2,o3,o4,c1,c2,ek,ek2]
 ·rw[if_pos (.inl hk)]
  have ek:=fG (h:=(h.push [r]).push [t]) hv hk
  refine⟨_,_,?_,bA.fail a (by decide) s1.drop.drop⟩
  refine ah jQ rfl ?_;unfold iV
  simp only[sim,ag,reduceAdd,reduceSub,replicate,reduceCtorEq,reduceLeDiff,reduceLT,aa,az,o1,o2,o3,o4,c1,c2,ek]
end
section
variable {h h' h0:AH} {F J F0 J0:Nat→Prop} {L:List Asn} {c:Cfg} {i:Nat} {n:Now}
theorem qD (s:St h0 F0 J0 h L) (a:At c L i n) (hl:c.ms.length=n.S.kept.length) (hW:n.S.G.Wf) {v:VD} {r:List AV} (hv:VaA v r) (rr g:Int):
  ∃ h',aj Try.prog po 125 [.ptr c.mb 0 0,.agg r,.int .i64 rr,.int .i64 g] h=some (if(n.S.G.derive v.n rr g).2.2=0 then .inl (.agg [.int .i64 4,.int .i64 (n.S.G.derive v.n rr g).2.1,.nils])else .inr (.iface tGo (.int .i64 (n.S.G.derive v.n rr g).2.2)),h')∧
    St h0 F0 J0 h' (put c L i {n with S:={n.S with G:=(n.S.G.derive v.n rr g).1}}):=by
 have s1:=(s.push [r]).push [zR3]
 have a1:=(a.cons (ai h.n [r])).cons (ai (h.push [r]).n [zR3])
 obtain⟨w,hw,ho⟩:=hv.cells3
 obtain⟨o1,o2⟩:=hv.len3
 have c1:((h.push [r]).push [zR3]).cell h.n=some [r]:=(s1.cell 1 rfl).1
 obtain⟨l0,l1,l2⟩:=db s1 a1 hl
 have hn:r[1]? =some (.int .i64 v.n):=by rw[hw];rfl
 obtain⟨h2,e2,s2⟩:=lz s1 a1 (R:=fun h'=>aj Try.prog po 79 [.ptr c.gb 0 0,.int .i64 v.n,.int .i64 rr,.int .i64 g] ((h.push [r]).push [zR3])=some (.inl (.tup [.int .i64 (n.S.G.derive v.n rr g).2.1,.int .i64 (n.S.G.derive v.n rr g).2.2]),h')) fun F J x=>yK x hW v.n rr g
 rw[ap,ap]at s2
 have c2:=(s2.cell 0 rfl).1
 simp only[aM]at c2
 have f0:aI 0 (.ptr c.mb 0 0)=some (.ptr c.mb 0 0):=rfl
 have f1:aI 0 (.ptr c.bb 0 0)=some (.ptr c.bb 0 0):=rfl
 by_cases hc:(n.S.G.derive v.n rr g).2.2=0
 ·have d:decide ((n.S.G.derive v.n rr g).2.2=0)=true:=decide_eq_true hc
  rw[if_pos hc]
  have s3:=s2.set 0 rfl [[.int .i64 4,.int .i64 (n.S.G.derive v.n rr g).2.1,.nils]]
  refine⟨_,?_,s3.drop.drop⟩
  generalize n.S.G.derive v.n rr g=q at*
  refine ah qm rfl ?_;unfold lq
  simp only[sim,ag,reduceAdd,reduceSub,replicate,reduceCtorEq,reduceLeDiff,reduceLT,aa,az,o1,o2,c1,l0,l1,f0,f1,hn,e2,d,cb,c2]
 ·have d:decide ((n.S.G.derive v.n rr g).2.2=0)=false:=decide_eq_false hc
  rw[if_neg hc]
  refine⟨_,?_,s2.drop.drop⟩
  generalize n.S.G.derive v.n rr g=q at*
  refine ah qm rfl ?_;unfold lq
  simp only[sim,ag,reduceAdd,reduceSub,replicate,reduceCtorEq,reduceLeDiff,reduceLT,aa,az,o1,o2,c1,l0,l1,f0,f1,hn,e2,d,bP,c2]
theorem Oa {p k n:Int} {v:VD} {S:StD}:bI p 16 k n [v] S=if v.kind≠4 then S.no 2 else if S.G.gate.2.2≠0 then({S with G:=S.G.gate.1}:StD).no S.G.gate.2.2
  else match S.G.gate.1.derive v.n 15 S.G.gate.2.1 with
   | (G',m,c)=>if c≠0 then({S with G:=G'}:StD).no c else({S with G:=G'}:StD).ok (.mk 2 0 [fA m,.mk 5 S.G.gate.2.1 []]):=rfl
set_option maxHeartbeats 1000000 in
theorem IX (s:St h0 F0 J0 h L) (a:At c L i n) (o:OkR c n) {v:VD} {r:List AV} (hv:VaA v r) (k m:Int):∃ fr h',aj Try.prog po 126 [.ptr c.mb 0 0,.agg r] h=some (fr,h')∧bA h0 F0 J0 c L i n (bI n.top.plugin 16 k m [v] n.S) fr h':=by
 rw[Oa]
 have s1:=s.push [r]
 have a1:=a.cons (ai h.n [r])
 obtain⟨o1,o2⟩:=hv.len3
 by_cases hk:v.kind=4
 ·rw[if_neg (by simpa using hk)]
  obtain⟨r',ek,hv'⟩:=ei (h:=h.push [r]) hv hk
  obtain⟨l0,l1,l2⟩:=db s1 a1 o.len
  have f0:aI 0 (.ptr c.mb 0 0)=some (.ptr c.mb 0 0):=rfl
  have f1:aI 0 (.ptr c.bb 0 0)=some (.ptr c.bb 0 0):=rfl
  obtain⟨h2,e2,s2⟩:=lz s1 a1 (R:=fun h'=>aj Try.prog po 58 [.ptr c.gb 0 0] (h.push [r])=some (.inl (.tup [.int .i64 n.S.G.gate.2.1,.int .i64 n.S.G.gate.2.2]),h')) fun F J x=>G8 x o.S.wf
  have a2:=a1.put {n with S:={n.S with G:=n.S.G.gate.1}}
  have s2':=s2
  rw[ap]at s2'
  have c2:=(s2'.cell 0 rfl).1
  by_cases hg:n.S.G.gate.2.2=0
  ·rw[if_neg (by simpa using hg)]
   have dg:decide (n.S.G.gate.2.2=0)=true:=decide_eq_true hg
   obtain⟨h3,e3,s3⟩:=qD s2 a2 o.len (o.S.wf.gate) hv 15 n.S.G.gate.2.1
   rw[aR]at s3
   have a3:=a1.put {n with S:={n.S with G:=(n.S.G.gate.1.derive v.n 15 n.S.G.gate.2.1).1}}
   generalize n.S.G.gate.1.derive v.n 15 n.S.G.gate.2.1=q at*
   obtain⟨G',m',cc⟩:=q
   simp only at e3 s3 a3 ⊢
   by_cases hc:cc=0
   ·subst hc
    rw[if_pos rfl]at e3
    rw[if_neg (by simp)]
    have s4:=(s3.push [[.int .i64 4,.int .i64 m',.nils]]).fresh 2
    have a4:=(a3.cons (ai h3.n [[.int .i64 4,.int .i64 m',.nils]])).cons (idA (h3.push [[.int .i64 4,.int .i64 m',.nils]]).ids 2)
    have pv:VaA (.mk 2 0 [fA m',.mk 5 n.S.G.gate.2.1 []]) [.int .i64 2,.int .i64 0,.isl (some h3.ids) tV [[.int .i64 4,.int .i64 m',.nils],[.int .i64 5,.int .i64 n.S.G.gate.2.1,.nils]]]:=wZ ⟨_,_,rfl,wx m',_,_,rfl,KP _,rfl⟩
    obtain⟨h5,e5,s5⟩:=dx s4 a4 o.below o.stk pv
    rw[ap,ap,aR,ap]at s5
    refine⟨_,h5,?_,bA.ok s5.drop.drop.drop⟩
    refine ah nS rfl ?_;unfold lS
    simp only[sim,ag,reduceAdd,reduceSub,replicate,reduceCtorEq,reduceLeDiff,reduceLT,aa,az,o1,o2,ek,l0,l1,f0,f1,e2,dg,cb,c2,e3,e5]
   ·rw[if_neg hc]at e3
    rw[if_pos hc]
    rw[ap]at s3
    refine⟨_,_,?_,bA.no hc {n with S:={n.S with G:=G'}} rfl s3.drop⟩
    refine ah nS rfl ?_;unfold lS
    simp only[sim,ag,reduceAdd,reduceSub,replicate,reduceCtorEq,reduceLeDiff,reduceLT,aa,az,o1,o2,ek,l0,l1,f0,f1,e2,dg,cb,c2,e3]
  ·rw[if_pos hg]
   have dg:decide (n.S.G.gate.2.2=0)=false:=decide_eq_false hg
   refine⟨_,_,?_,bA.no hg {n with S:={n.S with G:=n.S.G.gate.1}} rfl s2'.drop⟩
   refine ah nS rfl ?_;unfold lS
   simp only[sim,ag,reduceAdd,reduceSub,replicate,reduceCtorEq,reduceLeDiff,reduceLT,aa,az,o1,o2,ek,l0,l1,f0,f1,e2,dg,bP]
 ·rw[if_pos hk]
  have ek:=fG (h:=h.push [r]) hv hk
  refine⟨_,_,?_,bA.fail a (by decide) s1.drop⟩
  refine ah nS rfl ?_;unfold lS
  simp only[sim,ag,reduceAdd,reduceSub,replicate,reduceCtorEq,reduceLeDiff,reduceLT,aa,az,o1,o2,ek]
theorem AN (s:St h0 F0 J0 h L) (a:At c L i n) (hb:n.below.length≤100) {f:FrD} {ar:List AV} {g:AV} (ha:VaA f.arg ar) (hg:SlA 3 g (bq f.gates)) (hs:f.stack=[]) (hn:f.names=[]):
  (n.below.length+1=20→∃ h',aj Try.prog po 127 [.ptr c.mb 0 0,.agg (cS f ar .nils .nils g)] h=some (.inr (.iface tGo (.int .i64 4)),h')∧St h0 F0 J0 h' L)∧
  (n.below.length+1≠20→∃ h' fb',aj Try.prog po 127 [.ptr c.mb 0 0,.agg (cS f ar .nils .nils g)] h=some (.inl (.tup []),h')∧St h0 F0 J0 h' (put c L i ⟨fb',n.S,n.below++[n.top],f⟩)):=by
 have hgo:g.one=true:=by rcases hg with⟨_,rfl⟩ | ⟨id,rfl⟩<;>rfl
 have o2:=(ct f ar .nils .nils g ha.len3.1).2.1
 have o1:=oS (f:=f) (s:= .nils) (n:= .nils) ha.len3 rfl rfl hgo
 generalize hrow:cS f ar .nils .nils g=row at*
 have s1:=s.push [row]
 have a1:=a.cons (ai h.n [row])
 obtain⟨_,_,_,_,mv⟩:=dA s1 (i+1) a1.m
 have ld:∀ (k:Nat) (x:AH),x.cell c.mb=some [[.ptr c.bb 0 0,.msl n.fb 0 (n.below.length+1) tFr,.int .i64 (n.S.left:Int)]]→aE false k x (.ptr c.mb 0 1)=some (.msl n.fb 0 (n.below.length+1) tFr):=fun k x hx=>by
  rw[bD,hx];rfl
 have l1:=fun k=>ld k _ mv.m
 have f1:aI 1 (.ptr c.mb 0 0)=some (.ptr c.mb 0 1):=rfl
 refine⟨fun h20=> ?_,fun h20=> ?_⟩
 ·have d:decide (((n.below.length+1:Nat):Int)=20)=true:=decide_eq_true (by omega)
  refine⟨_,?_,s1.drop⟩
  refine ah zs rfl ?_;unfold ua
  simp only[sim,ag,reduceAdd,reduceSub,replicate,reduceCtorEq,reduceLeDiff,reduceLT,aa,az,o1,o2,f1,l1,d,bP]
 ·have d:decide (((n.below.length+1:Nat):Int)=20)=false:=decide_eq_false (by omega)
  have s2:=s1.push [row]
  have a2:=a1.cons (ai (h.push [row]).n [row])
  obtain⟨_,_,_,_,mv2⟩:=dA s2 (i+2) a2.m
  have l2:=fun k=>ld k _ mv2.m
  obtain⟨h3,h4,e3,e4,s4⟩:=JE s2 (i+1+1) a2.m (f:=f) (a:=ar) (g:=g) ha hg hs hn (by omega) (bz:=h.n+1) (by rw[hrow];exact(s2.cell 0 rfl).1)
  rw[a2.setM,ap,ap]at s4
  have c1:(h.push [row]).cell h.n=some [row]:=(s1.cell 0 rfl).1
  simp only[aM]at e3 e4
  refine⟨_,_,?_,s4.drop.drop⟩
  refine ah zs rfl ?_;unfold ua
  simp only[sim,ag,reduceAdd,reduceSub,replicate,reduceCtorEq,reduceLeDiff,reduceLT,aa,az,o1,o2,f1,l1,l2,d,cb,c1,e3,e4]
theorem O7 {p k n:Int} {v:VD} {S:StD}:bI p 9 k n [v] S=if v.kind≠2 then S.no 2 else S.ok (v.l.getD 0 au):=rfl
theorem Om {p k n:Int} {v:VD} {S:StD}:bI p 10 k n [v] S=if v.kind≠2 then S.no 2 else S.ok (v.l.getD 1 au):=rfl
end
abbrev jH:FuncId:=86
section
variable {h h' h0:AH} {F J F0 J0:Nat→Prop} {L:List Asn} {c:Cfg} {i:Nat} {n:Now}
theorem BT (k x y:Int):aj Try.prog po 12 [.int .i64 k,.int .i64 x,.int .i64 y] h=some (.inl (.int .i64 (rh k x y)),h):=by
 unfold rh
 by_cases h1:k=1
 ·subst h1
  refine ah fN rfl ?_;unfold fg
  simp only[sim,ag,reduceAdd,reduceSub,replicate,reduceCtorEq,reduceLeDiff,reduceLT,aa,decide_true]
 have d1:decide (k=1)=false:=decide_eq_false h1
 rw[if_neg h1]
 by_cases h2:k=2
 ·subst h2
  rw[if_pos rfl]
  refine ah fN rfl ?_;unfold fg
  simp only[sim,ag,reduceAdd,reduceSub,replicate,reduceCtorEq,reduceLeDiff,reduceLT,aa,d1,decide_true]
 have d2:decide (k=2)=false:=decide_eq_false h2
 rw[if_neg h2]
 by_cases h3:k=3
 ·subst h3
  rw[if_pos rfl]
  refine ah fN rfl ?_;unfold fg
  simp only[sim,ag,reduceAdd,reduceSub,replicate,reduceCtorEq,reduceLeDiff,reduceLT,aa,d1,d2,decide_true]
 have d3:decide (k=3)=false:=decide_eq_false h3
 rw[if_neg h3]
 by_cases h4:k=4
 ·subst h4
  rw[if_pos rfl]
  by_cases hl:x<y
  ·have dl:decide (x<y)=true:=decide_eq_true hl
   rw[if_pos hl]
   refine ah fN rfl ?_;unfold fg
   simp only[sim,ag,reduceAdd,reduceSub,replicate,reduceCtorEq,reduceLeDiff,reduceLT,aa,d1,d2,d3,dl,decide_true]
  ·have dl:decide (x<y)=false:=decide_eq_false hl
   rw[if_neg hl]
   refine ah fN rfl ?_;unfold fg
   simp only[sim,ag,reduceAdd,reduceSub,replicate,reduceCtorEq,reduceLeDiff,reduceLT,aa,d1,d2,d3,dl,decide_true]
 have d4:decide (k=4)=false:=decide_eq_false h4
 rw[if_neg h4]
 by_cases h5:k=5
 ·subst h5
  rw[if_pos rfl]
  by_cases hl:x=y
  ·have dl:decide (x=y)=true:=decide_eq_true hl
   rw[if_pos hl]
   refine ah fN rfl ?_;unfold fg
   simp only[sim,ag,reduceAdd,reduceSub,replicate,reduceCtorEq,reduceLeDiff,reduceLT,aa,d1,d2,d3,d4,dl,decide_true]
  ·have dl:decide (x=y)=false:=decide_eq_false hl
   rw[if_neg hl]
   refine ah fN rfl ?_;unfold fg
   simp only[sim,ag,reduceAdd,reduceSub,replicate,reduceCtorEq,reduceLeDiff,reduceLT,aa,d1,d2,d3,d4,dl,decide_true]
 have d5:decide (k=5)=false:=decide_eq_false h5
 rw[if_neg h5]
 refine ah fN rfl ?_;unfold fg
 simp only[sim,ag,reduceAdd,reduceSub,replicate,reduceCtorEq,reduceLeDiff,reduceLT,aa,d1,d2,d3,d4,d5]
abbrev iR (op k m:Int):List AV:=[.int .i64 op,.int .i64 k,.int .i64 m]
abbrev Now.stk (n:Now) (l:List VD):Now:={n with top:={n.top with stack:=l}}
theorem fE (s:St h0 F0 J0 h L) (a:At c L i n) (o:OkR c n) {st:List VD} {v:VD} (hst:n.top.stack=st++[v]):
  ∃ h' r,aj Try.prog po 83 [.ptr c.mb 0 0] h=some (.inl (.agg r),h')∧VaA v r∧St h0 F0 J0 h' (put c L i (n.stk st))∧At c (put c L i (n.stk st)) i (n.stk st):=by
 have hsl:=o.stk
 rw[hst]at hsl
 simp only[List.length_append,List.length_singleton]at hsl
 obtain⟨h',r,e,hv,s'⟩:=BJ s a hst o.below (by omega)
 exact⟨h',r,e,hv,s',a.put _⟩
theorem qS (s:St h0 F0 J0 h L) (a:At c L i n) (o:OkR c n) {st:List VD} {v w:VD} (hst:n.top.stack=st++[v]++[w]):
  ∃ h2 h3 rw_ rv,aj Try.prog po 83 [.ptr c.mb 0 0] h=some (.inl (.agg rw_),h2)∧aj Try.prog po 83 [.ptr c.mb 0 0] h2=some (.inl (.agg rv),h3)∧VaA w rw_∧VaA v rv∧St h0 F0 J0 h3 (put c L i (n.stk st))∧At c (put c L i (n.stk st)) i (n.stk st):=by
 have hsl:=o.stk
 rw[hst]at hsl
 simp only[List.length_append,List.length_singleton]at hsl
 obtain⟨h2,r2,e2,hw,s2⟩:=BJ s a hst o.below (by simp;omega)
 obtain⟨h3,r3,e3,hv,s3⟩:=BJ s2 (a.put (n.stk (st++[v]))) rfl o.below (by omega)
 rw[aR]at s3
 exact⟨h2,h3,r2,r3,e2,e3,hw,hv,s3,a.put _⟩
theorem OkR.stk' {n:Now} {st:List VD} {l:List VD} (o:OkR c n) (hst:n.top.stack=st++l):OkR c (n.stk st):=by
 have hsl:=o.stk
 rw[hst]at hsl
 simp only[List.length_append]at hsl
 exact⟨o.ms,o.S,o.below,by simp only;omega,o.nms,o.log⟩
theorem Pj {p k n:Int} {v x:VD} {S:StD}:bI p 6 k n [v,x] S=if v.kind≠1∨x.kind≠1 then S.no 2 else S.ok (iH (rh k v.n x.n)):=rfl
set_option maxHeartbeats 1000000 in
theorem KK (s:St h0 F0 J0 h L) (a:At c L i n) (o:OkR c n) {st:List VD} {v w:VD} (hst:n.top.stack=st++[v]++[w]) (k m:Int):∃ fr h',aj Try.prog po jH [.ptr c.mb 0 0,.agg (iR 6 k m)] h=some (fr,h')∧bA h0 F0 J0 c L i (n.stk st) (bI n.top.plugin 6 k m [v,w] n.S) fr h':=by
 rw[Pj]
 have s1:=s.push [iR 6 k m]
 have a1:=a.cons (ai h.n [iR 6 k m])
 obtain⟨tp,tl⟩:=cK s1 a1 o.below
 have c1:=(s1.cell 0 rfl).1
 obtain⟨h2,h3,rw_,rv,e2,e3,hw,hv,s3,a3⟩:=qS s1 a1 o hst
 rw[ap]at s3 a3
 have o3:=(o.stk' (st:=st) (l:=[v]++[w]) (by rw[hst,List.append_assoc]))
 have s4:=(s3.push [zR3]).push [zR3]
 have s5:St h0 F0 J0 _ (ai (h3.n+1) [zR3]::ai h3.n [rw_]::ai h.n [iR 6 k m]::put c L i (n.stk st)):=s4.set 1 rfl [rw_]
 have s6:St h0 F0 J0 _ (ai (h3.n+1) [rv]::ai h3.n [rw_]::ai h.n [iR 6 k m]::put c L i (n.stk st)):=s5.set 0 rfl [rv]
 have a6:=(a3.cons (ai h3.n [rw_])).cons (ai (h3.n+1) [rv])
 obtain⟨o1,o2⟩:=hw.len3
 obtain⟨o5,o4⟩:=hv.len3
 have q0:=(s5.cell 0 rfl).1
 have q1:=(s6.cell 0 rfl).1
 have q2:=(s6.cell 1 rfl).1
 have q3:=(s6.cell 2 rfl).1
 generalize hh6:(((h3.push [zR3]).push [zR3]).set h3.n (some [rw_])).set (h3.n+1) (some [rv])=h6 at*
 by_cases hk:v.kind=1
 ·obtain⟨r1,ek1,hv'⟩:=ei (h:=h6) hv hk
  by_cases hk2:w.kind=1
  ·rw[if_neg (by simp[hk,hk2])]
   obtain⟨r2,ek2,hw'⟩:=ei (h:=h6) hw hk2
   obtain⟨y1,hy1,_⟩:=hv.cells3
   obtain⟨y2,hy2,_⟩:=hw.cells3
   have n1:rv[1]? =some (.int .i64 v.n):=by rw[hy1];rfl
   have n2:rw_[1]? =some (.int .i64 w.n):=by rw[hy2];rfl
   obtain⟨h7,e7,s7⟩:=dx s6 a6 o.below o3.stk (tZ (rh k v.n w.n))
   rw[ap,ap,ap,aR]at s7
   refine⟨_,h7,?_,bA.ok s7.drop.drop.drop⟩
   refine ah cJ rfl ?_;unfold cD
   simp only[sim,ag,reduceAdd,reduceSub,replicate,reduceCtorEq,reduceLeDiff,reduceLT,aa,az,tp,c1,Int.reduceEq,decide_false,decide_true,e2,e3,o1,o2,o5,o4,q0,hh6,q1,q2,q3,ek1,ek2,n1,n2,BT,lR,e7]
  ·rw[if_pos (.inr hk2)]
   have ek2:=fG (h:=h6) hw hk2
   refine⟨_,_,?_,bA.no (by decide) (n.stk st) rfl s6.drop.drop.drop⟩
   refine ah cJ rfl ?_;unfold cD
   simp only[sim,ag,reduceAdd,reduceSub,replicate,reduceCtorEq,reduceLeDiff,reduceLT,aa,az,tp,c1,Int.reduceEq,decide_false,decide_true,e2,e3,o1,o2,o5,o4,q0,hh6,q1,q2,q3,ek1,ek2]
 ·rw[if_pos (.inl hk)]
  have ek1:=fG (h:=h6) hv hk
  refine⟨_,_,?_,bA.no (by decide) (n.stk st) rfl s6.drop.drop.drop⟩
  refine ah cJ rfl ?_;unfold cD
  simp only[sim,ag,reduceAdd,reduceSub,replicate,reduceCtorEq,reduceLeDiff,reduceLT,aa,az,tp,c1,Int.reduceEq,decide_false,decide_true,e2,e3,o1,o2,o5,o4,q0,hh6,q1,q2,q3,ek1]
end
section
variable {h h' h0:AH} {F J F0 J0:Nat→Prop} {L:List Asn} {c:Cfg} {i:Nat} {n:Now}
theorem Pp {p k n:Int} {v x:VD} {S:StD}:bI p 8 k n [v,x] S=if(VD.mk 2 0 [v,x]).code≠0 then S.no 3 else S.ok (.mk 2 0 [v,x]):=rfl
theorem N2 {p k n:Int} {v:VD} {S:StD}:bI p 11 k n [v] S=if(VD.mk 3 p [v]).code≠0 then S.no 3 else S.ok (.mk 3 p [v]):=rfl
theorem Oj {p k n:Int} {v:VD} {S:StD}:bI p 12 k n [v] S=if v.kind≠3 then S.no 2 else if v.n≠p then S.no 10 else S.ok (v.l.getD 0 au):=rfl
set_option maxHeartbeats 1000000 in
theorem LE (s:St h0 F0 J0 h L) (a:At c L i n) (o:OkR c n) {st:List VD} {v w:VD} (hst:n.top.stack=st++[v]++[w]) (k m:Int):∃ fr h',aj Try.prog po jH [.ptr c.mb 0 0,.agg (iR 8 k m)] h=some (fr,h')∧bA h0 F0 J0 c L i (n.stk st) (bI n.top.plugin 8 k m [v,w] n.S) fr h':=by
 rw[Pp]
 have s1:=s.push [iR 8 k m]
 have a1:=a.cons (ai h.n [iR 8 k m])
 obtain⟨tp,tl⟩:=cK s1 a1 o.below
 have c1:=(s1.cell 0 rfl).1
 obtain⟨h2,h3,rw_,rv,e2,e3,hw,hv,s3,a3⟩:=qS s1 a1 o hst
 rw[ap]at s3 a3
 have o3:=(o.stk' (st:=st) (l:=[v]++[w]) (by rw[hst,List.append_assoc]))
 have s4:=(s3.push [zR3]).push [zR3]
 have s5:St h0 F0 J0 _ (ai (h3.n+1) [zR3]::ai h3.n [rw_]::ai h.n [iR 8 k m]::put c L i (n.stk st)):=s4.set 1 rfl [rw_]
 have s6:St h0 F0 J0 _ (ai (h3.n+1) [rv]::ai h3.n [rw_]::ai h.n [iR 8 k m]::put c L i (n.stk st)):=s5.set 0 rfl [rv]
 have a6:=(a3.cons (ai h3.n [rw_])).cons (ai (h3.n+1) [rv])
 obtain⟨o1,o2⟩:=hw.len3
 obtain⟨o5,o4⟩:=hv.len3
 have q0:=(s5.cell 0 rfl).1
 have q1:=(s6.cell 0 rfl).1
 have q2:=(s6.cell 1 rfl).1
 generalize hh6:(((h3.push [zR3]).push [zR3]).set h3.n (some [rw_])).set (h3.n+1) (some [rv])=h6 at*
 have s7:=s6.fresh 2
 have a7:=a6.cons (idA h6.ids 2)
 have pv:VaA (.mk 2 0 [v,w]) [.int .i64 2,.int .i64 0,.isl (some h6.ids) tV [rv,rw_]]:=wZ ⟨_,_,rfl,hv,_,_,rfl,hw,rfl⟩
 by_cases hk:(VD.mk 2 0 [v,w]).code=0
 ·rw[if_neg (by simpa using hk)]
  obtain⟨r',es,hr'⟩:=uE (h:=h6.fresh 2) pv hk
  obtain⟨h8,e8,s8⟩:=dx s7 a7 o.below o3.stk hr'
  rw[ap,ap,ap,ap,aR]at s8
  refine⟨_,h8,?_,bA.ok s8.drop.drop.drop.drop⟩
  refine ah cJ rfl ?_;unfold cD
  simp only[sim,ag,reduceAdd,reduceSub,replicate,reduceCtorEq,reduceLeDiff,reduceLT,aa,az,tp,c1,Int.reduceEq,decide_false,decide_true,e2,e3,o1,o2,o5,o4,q0,hh6,q1,q2,es,e8]
 ·rw[if_pos hk]
  have es:=zJ (h:=h6.fresh 2) pv hk
  refine⟨_,_,?_,bA.no (by decide) (n.stk st) rfl s7.drop.drop.drop.drop⟩
  refine ah cJ rfl ?_;unfold cD
  simp only[sim,ag,reduceAdd,reduceSub,replicate,reduceCtorEq,reduceLeDiff,reduceLT,aa,az,tp,c1,Int.reduceEq,decide_false,decide_true,e2,e3,o1,o2,o5,o4,q0,hh6,q1,q2,es]
theorem VaA.part {v:VD} {r:List AV} (hv:VaA v r) {j:Nat} {x:VD} (hx:v.l[j]? =some x):∃ lv rx,r[2]? =some lv∧(∀ q:IntKind,bT (some tV) none lv (.int q (j:Int))=some (.ip rx 0))∧ldA true 3 rx 0=some (.agg rx)∧VaA x rx:=by
 cases v with
 | mk k n l=>
   obtain⟨w,es,rfl,h1,h2⟩:=hv
   obtain⟨rx,e1,e2⟩:=h2.get hx
   rcases h1 with⟨rfl,_⟩ | ⟨id,rfl⟩
   ·simp at e1
   ·exact⟨_,rx,rfl,fun q=>xS rfl e1,bo e2.len3.1,e2⟩
set_option maxHeartbeats 1000000 in
theorem DN (s:St h0 F0 J0 h L) (a:At c L i n) (o:OkR c n) {st:List VD} {v:VD} (hst:n.top.stack=st++[v]) (hc:v.code=0) {j:Nat} (hj:j<2):∃ fr h',aj Try.prog po 110 [.ptr c.mb 0 0,.int .i64 (j:Int)] h=some (fr,h')∧bA h0 F0 J0 c L i (n.stk st) (if v.kind≠2 then n.S.no 2 else n.S.ok (v.l.getD j au)) fr h':=by
 obtain⟨h2,r,e2,hv,s2,a2⟩:=fE s a o hst
 have o3:=o.stk' hst
 by_cases hk:v.kind=2
 ·rw[if_neg (by simpa using hk)]
  obtain⟨x,y,hxy⟩:=(Am hc).1 hk
  obtain⟨z,hz⟩:∃ z,v.l[j]? =some z:=by rw[hxy];match j,hj with | 0,_=>exact⟨x,rfl⟩ | 1,_=>exact⟨y,rfl⟩
  have hzd:v.l.getD j au=z:=by simp[List.getD,hz]
  rw[hzd]
  obtain⟨r',ek,hr'⟩:=ei (h:=h2) hv hk
  obtain⟨o1,o2⟩:=hr'.len3
  obtain⟨lv,rz,p1,p2,p3,p4⟩:=hr'.part hz
  have s3:=s2.push [r']
  have a3:=a2.cons (ai h2.n [r'])
  have c3:=(s3.cell 0 rfl).1
  obtain⟨h4,e4,s4⟩:=dx s3 a3 o.below o3.stk p4
  rw[ap,aR]at s4
  refine⟨_,h4,?_,bA.ok s4.drop⟩
  refine ah zy rfl ?_;unfold tO
  simp only[sim,ag,reduceAdd,reduceSub,replicate,reduceCtorEq,reduceLeDiff,reduceLT,aa,az,e2,ek,o1,o2,c3,p1,p2,p3,e4]
 ·rw[if_pos hk]
  have ek:=fG (h:=h2) hv hk
  refine⟨_,_,?_,bA.no (by decide) (n.stk st) rfl s2⟩
  refine ah zy rfl ?_;unfold tO
  simp only[sim,ag,reduceAdd,reduceSub,replicate,reduceCtorEq,reduceLeDiff,reduceLT,aa,az,e2,ek]
theorem KG (s:St h0 F0 J0 h L) (a:At c L i n) (o:OkR c n) {st:List VD} {v:VD} (hst:n.top.stack=st++[v]) (hc:v.code=0) (k m:Int):∃ fr h',aj Try.prog po jH [.ptr c.mb 0 0,.agg (iR 9 k m)] h=some (fr,h')∧bA h0 F0 J0 c L i (n.stk st) (bI n.top.plugin 9 k m [v] n.S) fr h':=by
 rw[O7]
 have s1:=s.push [iR 9 k m]
 have a1:=a.cons (ai h.n [iR 9 k m])
 obtain⟨tp,tl⟩:=cK s1 a1 o.below
 have c1:=(s1.cell 0 rfl).1
 obtain⟨fr,h2,e2,r2⟩:=DN s1 a1 o hst hc (j:=0) (by decide)
 have e2:aj Try.prog po 110 [.ptr c.mb 0 0,.int .i64 0] (h.push [iR 9 k m])=some (fr,h2):=e2
 refine⟨fr,h2,?_,r2.drop⟩
 rcases r2 with⟨_,rfl,_⟩ | ⟨_,rfl,_⟩
 ·refine ah cJ rfl ?_;unfold cD
  simp only[sim,ag,reduceAdd,reduceSub,replicate,reduceCtorEq,reduceLeDiff,reduceLT,aa,az,tp,c1,Int.reduceEq,decide_false,decide_true,e2]
 ·refine ah cJ rfl ?_;unfold cD
  simp only[sim,ag,reduceAdd,reduceSub,replicate,reduceCtorEq,reduceLeDiff,reduceLT,aa,az,tp,c1,Int.reduceEq,decide_false,decide_true,e2]
theorem Gg (s:St h0 F0 J0 h L) (a:At c L i n) (o:OkR c n) {st:List VD} {v:VD} (hst:n.top.stack=st++[v]) (hc:v.code=0) (k m:Int):∃ fr h',aj Try.prog po jH [.ptr c.mb 0 0,.agg (iR 10 k m)] h=some (fr,h')∧bA h0 F0 J0 c L i (n.stk st) (bI n.top.plugin 10 k m [v] n.S) fr h':=by
 rw[Om]
 have s1:=s.push [iR 10 k m]
 have a1:=a.cons (ai h.n [iR 10 k m])
 obtain⟨tp,tl⟩:=cK s1 a1 o.below
 have c1:=(s1.cell 0 rfl).1
 obtain⟨fr,h2,e2,r2⟩:=DN s1 a1 o hst hc (j:=1) (by decide)
 have e2:aj Try.prog po 110 [.ptr c.mb 0 0,.int .i64 1] (h.push [iR 10 k m])=some (fr,h2):=e2
 refine⟨fr,h2,?_,r2.drop⟩
 rcases r2 with⟨_,rfl,_⟩ | ⟨_,rfl,_⟩
 ·refine ah cJ rfl ?_;unfold cD
  simp only[sim,ag,reduceAdd,reduceSub,replicate,reduceCtorEq,reduceLeDiff,reduceLT,aa,az,tp,c1,Int.reduceEq,decide_false,decide_true,e2]
 ·refine ah cJ rfl ?_;unfold cD
  simp only[sim,ag,reduceAdd,reduceSub,replicate,reduceCtorEq,reduceLeDiff,reduceLT,aa,az,tp,c1,Int.reduceEq,decide_false,decide_true,e2]
set_option maxHeartbeats 1000000 in
theorem IA (s:St h0 F0 J0 h L) (a:At c L i n) (o:OkR c n) {st:List VD} {v:VD} (hst:n.top.stack=st++[v]) (k m:Int):∃ fr h',aj Try.prog po jH [.ptr c.mb 0 0,.agg (iR 11 k m)] h=some (fr,h')∧bA h0 F0 J0 c L i (n.stk st) (bI n.top.plugin 11 k m [v] n.S) fr h':=by
 rw[N2]
 have s1:=s.push [iR 11 k m]
 have a1:=a.cons (ai h.n [iR 11 k m])
 obtain⟨tp,_⟩:=cK s1 a1 o.below
 have c1:=(s1.cell 0 rfl).1
 obtain⟨h2,r,e2,hv,s2,a2⟩:=fE s1 a1 o hst
 rw[ap]at s2 a2
 have o3:=o.stk' hst
 obtain⟨o1,o2⟩:=hv.len3
 have s3:=s2.push [r]
 have a3:=a2.cons (ai h2.n [r])
 have c3:=(s3.cell 0 rfl).1
 obtain⟨_,tl3⟩:=cK s3 a3 o.below
 have s4:=s3.fresh 1
 have a4:=a3.cons (idA (h2.push [r]).ids 1)
 obtain⟨_,tl4⟩:=cK s4 a4 o.below
 have f0:aI 0 (.ptr n.fb n.below.length 0)=some (.ptr n.fb n.below.length 0):=rfl
 have pv:VaA (.mk 3 n.top.plugin [v]) [.int .i64 3,.int .i64 n.top.plugin,.isl (some h2.ids) tV [r]]:=wZ ⟨_,_,rfl,hv,rfl⟩
 by_cases hk:(VD.mk 3 n.top.plugin [v]).code=0
 ·rw[if_neg (by simpa using hk)]
  obtain⟨r',es,hr'⟩:=uE (h:=(h2.push [r]).fresh 1) pv hk
  obtain⟨h5,e5,s5⟩:=dx s4 a4 o.below o3.stk hr'
  rw[ap,ap,ap,aR]at s5
  refine⟨_,h5,?_,bA.ok s5.drop.drop.drop⟩
  refine ah cJ rfl ?_;unfold cD
  simp only[sim,ag,reduceAdd,reduceSub,replicate,reduceCtorEq,reduceLeDiff,reduceLT,aa,az,tp,c1,Int.reduceEq,decide_false,decide_true,e2,o1,o2,c3,f0,tl3,tl4,es,e5]
 ·rw[if_pos hk]
  have es:=zJ (h:=(h2.push [r]).fresh 1) pv hk
  refine⟨_,_,?_,bA.no (by decide) (n.stk st) rfl s4.drop.drop.drop⟩
  refine ah cJ rfl ?_;unfold cD
  simp only[sim,ag,reduceAdd,reduceSub,replicate,reduceCtorEq,reduceLeDiff,reduceLT,aa,az,tp,c1,Int.reduceEq,decide_false,decide_true,e2,o1,o2,c3,f0,tl3,tl4,es]
set_option maxHeartbeats 1000000 in
theorem GC (s:St h0 F0 J0 h L) (a:At c L i n) (o:OkR c n) {st:List VD} {v:VD} (hst:n.top.stack=st++[v]) (hc:v.code=0) (k m:Int):∃ fr h',aj Try.prog po jH [.ptr c.mb 0 0,.agg (iR 12 k m)] h=some (fr,h')∧bA h0 F0 J0 c L i (n.stk st) (bI n.top.plugin 12 k m [v] n.S) fr h':=by
 rw[Oj]
 have s1:=s.push [iR 12 k m]
 have a1:=a.cons (ai h.n [iR 12 k m])
 obtain⟨tp,_⟩:=cK s1 a1 o.below
 have c1:=(s1.cell 0 rfl).1
 obtain⟨h2,r,e2,hv,s2,a2⟩:=fE s1 a1 o hst
 rw[ap]at s2 a2
 have o3:=o.stk' hst
 have f0:aI 0 (.ptr n.fb n.below.length 0)=some (.ptr n.fb n.below.length 0):=rfl
 by_cases hk:v.kind=3
 ·rw[if_neg (by simpa using hk)]
  obtain⟨x,hx⟩:=(Am hc).2 hk
  have hz:v.l[0]? =some x:=by rw[hx];rfl
  have hzd:v.l.getD 0 au=x:=by rw[hx];rfl
  rw[hzd]
  obtain⟨r',ek,hr'⟩:=ei (h:=h2) hv hk
  obtain⟨o1,o2⟩:=hr'.len3
  obtain⟨lv,rz,p1,p2,p3,p4⟩:=hr'.part hz
  have p2:∀ q:IntKind,bT (some tV) none lv (.int q 0)=some (.ip rz 0):=p2
  obtain⟨w,hw,_⟩:=hr'.cells3
  have hn:r'[1]? =some (.int .i64 v.n):=by rw[hw];rfl
  have s3:=s2.push [r']
  have a3:=a2.cons (ai h2.n [r'])
  have c3:=(s3.cell 0 rfl).1
  obtain⟨_,tl3⟩:=cK s3 a3 o.below
  by_cases hp:v.n=n.top.plugin
  ·rw[if_neg (by simpa using hp)]
   have d:decide (v.n=n.top.plugin)=true:=decide_eq_true hp
   obtain⟨h4,e4,s4⟩:=dx s3 a3 o.below o3.stk p4
   rw[ap,ap,aR]at s4
   refine⟨_,h4,?_,bA.ok s4.drop.drop⟩
   refine ah cJ rfl ?_;unfold cD
   simp only[sim,ag,reduceAdd,reduceSub,replicate,reduceCtorEq,reduceLeDiff,reduceLT,aa,az,tp,c1,Int.reduceEq,decide_false,decide_true,e2,ek,o1,o2,c3,hn,f0,tl3,d,cb,p1,p2,p3,e4]
  ·rw[if_pos hp]
   have d:decide (v.n=n.top.plugin)=false:=decide_eq_false hp
   refine⟨_,_,?_,bA.no (by decide) (n.stk st) rfl s3.drop.drop⟩
   refine ah cJ rfl ?_;unfold cD
   simp only[sim,ag,reduceAdd,reduceSub,replicate,reduceCtorEq,reduceLeDiff,reduceLT,aa,az,tp,c1,Int.reduceEq,decide_false,decide_true,e2,ek,o1,o2,c3,hn,f0,tl3,d,bP]
 ·rw[if_pos hk]
  have ek:=fG (h:=h2) hv hk
  refine⟨_,_,?_,bA.no (by decide) (n.stk st) rfl s2.drop⟩
  refine ah cJ rfl ?_;unfold cD
  simp only[sim,ag,reduceAdd,reduceSub,replicate,reduceCtorEq,reduceLeDiff,reduceLT,aa,az,tp,c1,Int.reduceEq,decide_false,decide_true,e2,ek]
theorem Kk (s:St h0 F0 J0 h L) (a:At c L i n) (o:OkR c n) (k m:Int):∃ h',aj Try.prog po jH [.ptr c.mb 0 0,.agg (iR 1 k m)] h=some (.inl (.tup []),h')∧St h0 F0 J0 h' (put c L i (n.stk (n.top.stack++[au]))):=by
 have s1:=s.push [iR 1 k m]
 have a1:=a.cons (ai h.n [iR 1 k m])
 obtain⟨tp,_⟩:=cK s1 a1 o.below
 have c1:=(s1.cell 0 rfl).1
 obtain⟨h2,e2,s2⟩:=dx s1 a1 o.below o.stk eE
 rw[ap]at s2
 refine⟨h2,?_,s2.drop⟩
 refine ah cJ rfl ?_;unfold cD
 simp only[sim,ag,reduceAdd,reduceSub,replicate,reduceCtorEq,reduceLeDiff,reduceLT,aa,az,tp,c1,Int.reduceEq,decide_false,decide_true,e2]
theorem Km (s:St h0 F0 J0 h L) (a:At c L i n) (o:OkR c n) (k m:Int):∃ h',aj Try.prog po jH [.ptr c.mb 0 0,.agg (iR 2 k m)] h=some (.inl (.tup []),h')∧St h0 F0 J0 h' (put c L i (n.stk (n.top.stack++[iH m]))):=by
 have s1:=s.push [iR 2 k m]
 have a1:=a.cons (ai h.n [iR 2 k m])
 obtain⟨tp,_⟩:=cK s1 a1 o.below
 have c1:=(s1.cell 0 rfl).1
 obtain⟨h2,e2,s2⟩:=dx s1 a1 o.below o.stk (tZ m)
 rw[ap]at s2
 refine⟨h2,?_,s2.drop⟩
 refine ah cJ rfl ?_;unfold cD
 simp only[sim,ag,reduceAdd,reduceSub,replicate,reduceCtorEq,reduceLeDiff,reduceLT,aa,az,tp,c1,Int.reduceEq,decide_false,decide_true,lR,e2]
theorem Lv (s:St h0 F0 J0 h L) (a:At c L i n) (o:OkR c n) (k m:Int):∃ h',aj Try.prog po jH [.ptr c.mb 0 0,.agg (iR 3 k m)] h=some (.inl (.tup []),h')∧St h0 F0 J0 h' (put c L i (n.stk (n.top.stack++[n.top.arg]))):=by
 have s1:=s.push [iR 3 k m]
 have a1:=a.cons (ai h.n [iR 3 k m])
 obtain⟨tp,_⟩:=cK s1 a1 o.below
 have c1:=(s1.cell 0 rfl).1
 obtain⟨ar,sv,nv,g,mv⟩:=dA s1 (i+1) a1.m
 have f3:aI 3 (.ptr n.fb n.below.length 0)=some (.ptr n.fb n.below.length 3):=rfl
 have la:=mv.arg
 obtain⟨h2,e2,s2⟩:=dx s1 a1 o.below o.stk mv.ha
 rw[ap]at s2
 refine⟨h2,?_,s2.drop⟩
 refine ah cJ rfl ?_;unfold cD
 simp only[sim,ag,reduceAdd,reduceSub,replicate,reduceCtorEq,reduceLeDiff,reduceLT,aa,az,tp,c1,Int.reduceEq,decide_false,decide_true,f3,la,e2]
theorem KS (s:St h0 F0 J0 h L) (a:At c L i n) (o:OkR c n) {k:Int} (hk:0≤k∧k<n.top.names.length) (m:Int):∃ h',aj Try.prog po jH [.ptr c.mb 0 0,.agg (iR 4 k m)] h=some (.inl (.tup []),h')∧St h0 F0 J0 h' (put c L i (n.stk (n.top.stack++[n.top.names.getD (n.top.names.length - 1 - k.toNat) au]))):=by
 have s1:=s.push [iR 4 k m]
 have a1:=a.cons (ai h.n [iR 4 k m])
 obtain⟨tp,_⟩:=cK s1 a1 o.below
 have c1:=(s1.cell 0 rfl).1
 obtain⟨ar,sv,nv,g,mv⟩:=dA s1 (i+1) a1.m
 have f7:aI 7 (.ptr n.fb n.below.length 0)=some (.ptr n.fb n.below.length 7):=rfl
 have ln:=fun q=>mv.rd q 7 nv (ct n.top ar sv nv g mv.ha.len3.1).2.2.1
 obtain⟨p,rx,p1,p2,p3⟩:=mv.nv.2.2.2.2 .i64 (n.top.names.length - 1 - k.toNat) (n.top.names.getD (n.top.names.length - 1 - k.toNat) au) (by
  simp only[List.getD]
  rw[List.getElem?_eq_getElem (by omega)]
  rfl)
 have hn:=o.nms
 have w1:IntKind.wrap .i64 ((n.top.names.length:Int) - 1)=(n.top.names.length:Int) - 1:=w64 (by omega) (by omega)
 have w2:IntKind.wrap .i64 ((n.top.names.length:Int) - 1 - k)=((n.top.names.length - 1 - k.toNat:Nat):Int):=Ci (by omega) (by omega) (by omega)
 have lnn:=mv.nv.2.2.1
 have fn:=mv.nv.2.2.2.1
 obtain⟨h2,e2,s2⟩:=dx s1 a1 o.below o.stk p3
 rw[ap]at s2
 refine⟨h2,?_,s2.drop⟩
 refine ah cJ rfl ?_;unfold cD
 simp only[sim,ag,reduceAdd,reduceSub,replicate,reduceCtorEq,reduceLeDiff,reduceLT,aa,az,tp,c1,Int.reduceEq,decide_false,decide_true,f7,ln,lnn,fn,w1,w2,p1,p2,e2]
end
def Gm (h0:AH) (F0 J0:Nat→Prop) (c:Cfg) (L:List Asn) (i:Nat) (q:i8) (fr:AV ⊕ AV) (h':AH):Prop:=match q with
 | .go m=>fr= .inl (.tup [])∧∃ fb',St h0 F0 J0 h' (put c L i ⟨fb',m.S,m.below,m.top⟩)
 | .fail S k=>fr= .inr (.iface tGo (.int .i64 k))∧∃ n':Now,n'.S=S∧St h0 F0 J0 h' (put c L i n')
 | .over _ _=>False
section
variable {h h' h0:AH} {F J F0 J0:Nat→Prop} {L:List Asn} {c:Cfg} {i:Nat} {n:Now}
theorem eI (M:List XD):dR (eD M)=some M.length∧(∀ s,de s (some 158) (eD M)=true)∧(eD M).one=true:=by
 unfold eD
 exact⟨by simp[dR],fun s=>kj,rfl⟩
theorem KW (e:TypeId) (rows:List (List AV)):SlA e (cQ e rows) rows:=by
 unfold cQ
 by_cases hz:rows=[]
 ·exact .inl ⟨hz,by rw[if_pos hz]⟩
 ·exact .inr ⟨none,by rw[if_neg hz]⟩
theorem nQ (s:St h0 F0 J0 h L) (a:At c L i n) (o:OkR c n) {p:Nat} (hp:p<4):(∀ q:IntKind,bT none (some (4,5)) (.ptr c.bb 0 2) (.int q (p:Int))=some (.ptr c.bb 0 (2+p*5)))∧(∀ k:Nat,aE false k h (.ptr c.bb 0 (2+p*5+1))=some (ji (c.ms.getD p none)))∧
  ∃ r,aE true 3 h (.ptr c.bb 0 (2+p*5+2))=some (.agg r)∧VaA (n.S.kept.getD p au) r∧aE true 5 h (.ptr c.bb 0 (2+p*5))=some (.agg (.bool (c.ms.getD p none).isSome::ji (c.ms.getD p none)::r))∧c.bb<h.n:=by
 obtain⟨F,J,x⟩:=s.get (i+1) a.b
 obtain⟨row,c1,cn,_,_,_,hpl⟩:=ya x o.len
 obtain⟨q1,q2,r,q3,q4,q5⟩:=hpl p (by rw[o.ms];exact hp)
 refine⟨fun q=>by simp[bT,hp],fun k=> ?_,r,?_,q4,?_,cn⟩
 ·rw[bD,c1,Option.bind_some,List.getElem?_cons_zero,Option.bind_some,fL,q2]
 ·rw[bD,c1,Option.bind_some,List.getElem?_cons_zero,Option.bind_some,q3]
 ·rw[bD,c1,Option.bind_some,List.getElem?_cons_zero,Option.bind_some,q5]
theorem vE {b i off k:Nat} {g:Bool} {es:List (List AV)} (hb:b<h.n):aE g k (h.push es) (.ptr b i off)=aE g k h (.ptr b i off):=by rw[bD,bD,aL hb]
abbrev zR5:List AV:=[.bool false,.nils,.int .i64 0,.int .i64 0,.nils]
theorem IB {G:ae} {i:Int} {k:Nat} (hb:ew (G.rights i) k=true):G.has i=true:=by
 cases h:G.has i with
 | true=>rfl
 | false=>
   have:G.rights i=0:=by unfold ae.rights;rw[if_pos (.inl (ae.path_no h))]
   rw[this]at hb
   have h2:ew 0 k=false:=by unfold ew;rw[Int.zero_ediv];decide
   rw[h2]at hb
   cases hb
def kY (h0:AH) (F0 J0:Nat→Prop) (c:Cfg) (L:List Asn) (i:Nat) (n:Now) (q:StD×uf×Int) (fr:AV ⊕ AV) (h':AH):Prop:=
 (q.2.2=0∧fr= .inl (.tup [])∧∃ fb',St h0 F0 J0 h' (put c L i ⟨fb',q.1,n.below++[n.top],⟨q.2.1.plugin,q.2.1.func,0,q.2.1.arg,[],[],true,q.2.1.gates⟩⟩))∨
 (q.2.2≠0∧fr= .inr (.iface tGo (.int .i64 q.2.2))∧∃ n':Now,n'.S=q.1∧St h0 F0 J0 h' (put c L i n'))
theorem kY.no (a:At c L i n) {q:uf} {k:Int} (hk:k≠0) (s:St h0 F0 J0 h' L):kY h0 F0 J0 c L i n (n.S,q,k) (.inr (.iface tGo (.int .i64 k))) h':= .inr ⟨hk,rfl,n,rfl,by rw[a.same];exact s⟩
set_option maxRecDepth 100000 in
set_option maxHeartbeats 2000000 in
theorem KO (s:St h0 F0 J0 h L) (a:At c L i n) (o:OkR c n) {v x:VD} {r t:List AV} (hv:VaA v r) (hx:VaA x t):∃ fr h',aj Try.prog po 128 [.ptr c.mb 0 0,.agg r,.agg t] h=some (fr,h')∧kY h0 F0 J0 c L i n (fp c.ms v x (n.below.length+1) n.S) fr h':=by
 unfold fp
 simp only
 have s1:=(s.push [r]).push [t]
 have a1:=(a.cons (ai h.n [r])).cons (ai (h.push [r]).n [t])
 obtain⟨o1,o2⟩:=hv.len3
 obtain⟨o3,o4⟩:=hx.len3
 have c1:((h.push [r]).push [t]).cell h.n=some [r]:=(s1.cell 1 rfl).1
 have c2:((h.push [r]).push [t]).cell (h.n+1)=some [t]:=(s1.cell 0 rfl).1
 by_cases hk:v.kind=4
 case neg=>
  rw[if_pos hk]
  have ek:=fG (h:=(h.push [r]).push [t]) hv hk
  refine⟨_,_,?_,kY.no a (by decide) s1.drop.drop⟩
  refine ah jC rfl ?_;unfold iw
  simp only[sim,ag,reduceAdd,reduceSub,replicate,reduceCtorEq,reduceLeDiff,reduceLT,aa,az,o1,o2,o3,o4,c1,c2,ek]
 rw[if_neg (by simpa using hk)]
 obtain⟨r',ek,hv'⟩:=ei (h:=(h.push [r]).push [t]) hv hk
 have ec:=th s1 a1.m a1.b a1.g o.len o.S.wf hv' (k:=3) (q:=8) (by decide) (by decide)
 by_cases hb:ew (n.S.G.rights v.n) 3=true
 case neg=>
  rw[if_neg hb]at ec
  rw[if_pos (by simpa using hb)]
  refine⟨_,_,?_,kY.no a (by decide) s1.drop.drop⟩
  refine ah jC rfl ?_;unfold iw
  simp only[sim,ag,reduceAdd,reduceSub,replicate,reduceCtorEq,reduceLeDiff,reduceLT,aa,az,o1,o2,o3,o4,c1,c2,ek,ec]
 rw[if_pos hb]at ec
 rw[if_neg (by simp[hb])]
 obtain⟨_,_,ht⟩:=ae.target_ok o.S.wf (IB hb)
 generalize (n.S.G.target v.n).1=T at*
 obtain⟨t1,t2,t3,t4,t5,t6⟩:=T
 simp only[aH]at ht ec ⊢
 generalize hN:([.int .i64 t1,.int .i64 t2,.int .i64 t3,.int .i64 t4,.int .i64 t5,.int .i64 t6]:List AV)=N at*
 have n4:N[4]? =some (.int .i64 t5):=by rw[←hN];rfl
 have n5:N[5]? =some (.int .i64 t6):=by rw[←hN];rfl
 have nl:N.length=6:=by rw[←hN];rfl
 have no:N.all AV.one=true:=by rw[←hN];rfl
 have s2:=s1.push [N]
 have a2:=a1.cons (ai ((h.push [r]).push [t]).n [N])
 have c3:=(s2.cell 0 rfl).1
 simp only[aM]at c3
 by_cases hp:t5<0
 ·rw[if_pos hp]
  have d:decide (t5<0)=true:=decide_eq_true hp
  refine⟨_,_,?_,kY.no a (by decide) s2.drop.drop.drop⟩
  refine ah jC rfl ?_;unfold iw
  simp only[sim,ag,reduceAdd,reduceSub,replicate,reduceCtorEq,reduceLeDiff,reduceLT,aa,az,o1,o2,o3,o4,c1,c2,ek,ec,nl,no,n4,d,bP]
 rw[if_neg hp]
 obtain⟨P,rfl⟩:=Int.eq_ofNat_of_zero_le (show 0≤t5 by omega)
 have d:decide ((P:Int)<0)=false:=decide_eq_false (by omega)
 have hP4:P<4:=by omega
 rw[Int.toNat_natCast]
 -- the plugin is looked at
 have s3':=s2.push [zR5]
 have a3':=a2.cons (ai (((h.push [r]).push [t]).push [N]).n [zR5])
 obtain⟨l0,_,_⟩:=db s2 a2 o.len
 obtain⟨l0',_,_⟩:=db s3' a3' o.len
 obtain⟨ix,_,kr,_,hkr,l5,bn⟩:=nQ s2 a2 o hP4
 have l5':aE true 5 ((((h.push [r]).push [t]).push [N]).push [zR5]) (.ptr c.bb 0 (2+P*5))=_:=(vE bn).trans l5
 have fa0:aI 0 (.ptr c.mb 0 0)=some (.ptr c.mb 0 0):=rfl
 have fa1:aI 2 (.ptr c.bb 0 0)=some (.ptr c.bb 0 2):=rfl
 have fa2:aI 1 (.ptr c.mb 0 0)=some (.ptr c.mb 0 1):=rfl
 have fa3:aI 0 (.ptr c.bb 0 0)=some (.ptr c.bb 0 0):=rfl
 have c3':=(s3'.cell 1 rfl).1
 have c7:=(s3'.cell 0 rfl).1
 have m4:∀ x,((((h.push [r]).push [t]).push [N]).push [zR5]).set (h.n+1+1+1) (some x)=(((h.push [r]).push [t]).push [N]).push x:=fun x=>bm (h:=((h.push [r]).push [t]).push [N])
 simp only[aM]at c3' c7
 generalize hM:c.ms.getD P none=M at*
 have oc:(ji M).one=true:=by cases M<;>first | rfl | exact(eI _).2.2
 obtain⟨k1,k2⟩:=hkr.len3
 generalize hq:AV.bool M.isSome::ji M::kr=pl at*
 have p0:pl[0]? =some (.bool M.isSome):=by rw[←hq];rfl
 have p1:pl[1]? =some (ji M):=by rw[←hq];rfl
 have pl5:pl.length=5:=by rw[←hq];simp[k1]
 have po':pl.all AV.one=true:=by rw[←hq];simp only[List.all_cons,oc,k2,Bool.and_true];rfl
 have s3:St h0 F0 J0 _ (ai (h.n+1+1+1) [pl]::ai (h.n+1+1) [N]::ai (h.n+1) [t]::ai h.n [r]::L):=s2.push [pl]
 have a3:=a2.cons (ai (h.n+1+1+1) [pl])
 have c4:=(s3.cell 0 rfl).1
 have c5:=(s3.cell 1 rfl).1
 have c6:=(s3.cell 2 rfl).1
 have hfM:cI c.ms (P:Int)=M.getD []:=by unfold cI;rw[Int.toNat_natCast,hM]
 by_cases hcode:M.isNone∨((cI c.ms (P:Int)).length:Int)≤t6∨t6<0
 ·rw[if_pos hcode]
  refine⟨_,_,?_,kY.no a (by decide) s3.drop.drop.drop.drop⟩
  cases M with
  | none=>
    simp only[Option.isSome_none]at p0
    refine ah jC rfl ?_;unfold iw
    simp only[sim,ag,reduceAdd,reduceSub,replicate,reduceCtorEq,reduceLeDiff,reduceLT,aa,az,o1,o2,o3,o4,c1,c2,ek,ec,nl,no,n4,n5,d,cb,bP,fa0,fa1,l0,l0',ix,l5,l5',c3,c3',pl5,po',c7,m4,c4,c5,p0]
  | some M=>
    simp only[Option.isSome_some]at p0
    have d2:decide ((M.length:Int)≤t6)=true:=by
     refine decide_eq_true ?_
     rw[hfM]at hcode
     simp only[Option.getD_some]at hcode
     rcases hcode with h | h | h
     ·cases h
     ·exact h
     ·omega
    obtain⟨m1,m2,_⟩:=eI M
    simp only[ji]at p1
    refine ah jC rfl ?_;unfold iw
    simp only[sim,ag,reduceAdd,reduceSub,replicate,reduceCtorEq,reduceLeDiff,reduceLT,aa,az,o1,o2,o3,o4,c1,c2,ek,ec,nl,no,n4,n5,d,cb,bP,fa0,fa1,l0,l0',ix,l5,l5',c3,c3',pl5,po',c7,m4,c4,c5,p0,p1,m1,m2,d2]
 rw[if_neg hcode]
 obtain⟨M,rfl⟩:∃ M',M=some M':=by
  cases M with
  | none=>exact absurd (.inl rfl) hcode
  | some M=>exact⟨M,rfl⟩
 simp only[Option.isSome_some]at p0
 have d2:decide ((M.length:Int)≤t6)=false:=by
  refine decide_eq_false fun h=>hcode (.inr (.inl ?_))
  rw[hfM]
  exact h
 obtain⟨m1,m2,_⟩:=eI M
 simp only[ji]at p1
 obtain⟨l0'',l1'',_⟩:=db s3 a3 o.len
 obtain⟨_,_,_,_,mv⟩:=dA s3 (i+4) a3.m
 have lm:∀ k:Nat,aE false k ((((h.push [r]).push [t]).push [N]).push [pl]) (.ptr c.mb 0 1)=some (.msl n.fb 0 (n.below.length+1) tFr):=fun k=>by
  rw[bD,mv.m];rfl
 by_cases h20:n.below.length+1=20
 ·rw[if_pos h20]
  have d3:decide (((n.below.length+1:Nat):Int)=20)=true:=decide_eq_true (by omega)
  refine⟨_,_,?_,kY.no a (by decide) s3.drop.drop.drop.drop⟩
  refine ah jC rfl ?_;unfold iw
  simp only[sim,ag,reduceAdd,reduceSub,replicate,reduceCtorEq,reduceLeDiff,reduceLT,aa,az,o1,o2,o3,o4,c1,c2,ek,ec,nl,no,n4,n5,d,cb,bP,fa0,fa1,fa2,l0,l0',l0'',ix,l5,l5',c3,c3',pl5,po',c7,m4,c4,c5,p0,p1,m1,m2,d2,lm,d3]
 rw[if_neg h20]
 have d3:decide (((n.below.length+1:Nat):Int)=20)=false:=decide_eq_false (by omega)
 -- the argument goes across
 obtain⟨F1,J1,gx⟩:=s3.get (i+1+1+1+1+2) a3.g
 have gg:=K9 (gx:IsG _ F1 J1 c.gb n.S.G) o.S.wf v.n
 have gs:SlA 3 (cQ 3 ((n.S.G.gatesC v.n).map fun x=>[.int .i64 x])) (bq (n.S.G.gatesC v.n)):=KW _ _
 have gfew:=vB (i:=v.n) o.S.wf
 generalize cQ 3 ((n.S.G.gatesC v.n).map fun x=>[.int .i64 x])=gv at*
 generalize n.S.G.gatesC v.n=ks at*
 obtain⟨h4,⟨y,e4,hy⟩,s4⟩:=lz s3 a3 (R:=fun h'=>∃ r',aj Try.prog po 106 [.ptr c.gb 0 0,.agg t,gv] ((((h.push [r]).push [t]).push [N]).push [pl])=some (.inl (.tup [.agg r',.int .i64 (aV ks n.S.G x).2.2]),h')∧VaA (aV ks n.S.G x).2.1 r') fun F J gx=>rL gx o.S.wf hx gs (by omega)
 generalize aV ks n.S.G x=q at*
 obtain⟨G',y',cc⟩:=q
 simp only at e4 hy s4 ⊢
 have a4:=a3.put {n with S:={n.S with G:=G'}}
 rw[ap,ap,ap,ap]at s4 a4
 obtain⟨z1,z2⟩:=hy.len3
 have s5':=s4.push [zR3]
 have a5':=a4.cons (ai h4.n [zR3])
 obtain⟨n0,n1,_⟩:=db s5' a5' o.len
 have d0:=(s5'.cell 3 rfl).1
 have s5:=s4.push [y]
 have a5:=a4.cons (ai h4.n [y])
 have d1:=(s5.cell 0 rfl).1
 have d2':=(s5.cell 2 rfl).1
 have hfo:(gv).one=true:=by rcases gs with⟨_,rfl⟩ | ⟨id,rfl⟩<;>rfl
 have hgc:gv.cells=[gv]:=by rcases gs with⟨_,rfl⟩ | ⟨id,rfl⟩<;>rfl
 by_cases hcc:cc=0
 ·subst hcc
  have d5:decide ((0:Int)=0)=true:=rfl
  obtain⟨_,ec6⟩:=AN s5 a5 o.below (f:=⟨P,t6,0,y',[],[],true,ks⟩) (ar:=y) (g:=gv) hy gs rfl rfl
  obtain⟨h6,fb',e6,s6⟩:=ec6 h20
  rw[ap,ap,ap,ap,ap,aR]at s6
  refine⟨_,h6,?_,.inl ⟨rfl,rfl,fb',s6.drop.drop.drop.drop.drop⟩⟩
  obtain⟨y0,y1,y2,rfl⟩:∃ a b c,y=[a,b,c]:=by match y,z1 with | [a,b,c],_=>exact⟨a,b,c,rfl⟩
  simp only[List.all_cons,List.all_nil,Bool.and_true,Bool.and_eq_true]at z2
  obtain⟨z3,z4,z5⟩:=z2
  simp only[cS,Int.natCast_zero,List.cons_append,List.nil_append]at e6
  refine ah jC rfl ?_;unfold iw
  simp only[sim,ag,reduceAdd,reduceSub,replicate,reduceCtorEq,reduceLeDiff,reduceLT,aa,az,o1,o2,o3,o4,c1,c2,ek,ec,nl,no,n4,n5,d,cb,bP,fa0,fa1,fa2,fa3,l0,l0',l0'',l1'',ix,l5,l5',c3,c3',pl5,po',c7,m4,c4,c5,c6,p0,p1,m1,m2,d2,lm,d3,gg,e4,n0,n1,d0,d1,d2',d5,z3,z4,z5,hfo,hgc,e6]
 ·have d5:decide (cc=0)=false:=decide_eq_false hcc
  refine⟨_,_,?_,.inr ⟨hcc,rfl,{n with S:={n.S with G:=G'}},rfl,s5.drop.drop.drop.drop.drop⟩⟩
  refine ah jC rfl ?_;unfold iw
  simp only[sim,ag,reduceAdd,reduceSub,replicate,reduceCtorEq,reduceLeDiff,reduceLT,aa,az,o1,o2,o3,o4,c1,c2,ek,ec,nl,no,n4,n5,d,cb,bP,fa0,fa1,fa2,fa3,l0,l0',l0'',l1'',ix,l5,l5',c3,c3',pl5,po',c7,m4,c4,c5,c6,p0,p1,m1,m2,d2,lm,d3,gg,e4,n0,n1,d0,d1,d2',d5,z1,z2]
end
abbrev PS:FuncId:=111
section
variable {h h' h0:AH} {F J F0 J0:Nat→Prop} {L:List Asn} {c:Cfg} {i:Nat} {n:Now}
theorem cV (s:St h0 F0 J0 h L) (a:At c L i n) (o:OkR c n) {op k m:Int} (hop:13≤op) {fr:AV ⊕ AV} (e:aj Try.prog po PS [.ptr c.mb 0 0,.agg (iR op k m)] (h.push [iR op k m])=some (fr,h')) (hfr:fr= .inl (.tup [])∨∃ v,fr= .inr v):
  aj Try.prog po jH [.ptr c.mb 0 0,.agg (iR op k m)] h=some (fr,h'):=by
 have s1:=s.push [iR op k m]
 have a1:=a.cons (ai h.n [iR op k m])
 obtain⟨tp,_⟩:=cK s1 a1 o.below
 have c1:=(s1.cell 0 rfl).1
 have d:∀ j:Int,j<13→decide (op=j)=false:=fun j hj=>decide_eq_false (by omega)
 have e1:=d 1 (by decide);have e2:=d 2 (by decide);have e3:=d 3 (by decide);have e4:=d 4 (by decide);have e6:=d 6 (by decide);have e8:=d 8 (by decide);have e9:=d 9 (by decide);have e10:=d 10 (by decide);have e11:=d 11 (by decide);have e12:=d 12 (by decide)
 rcases hfr with rfl | ⟨v,rfl⟩
 ·refine ah cJ rfl ?_;unfold cD
  simp only[sim,ag,reduceAdd,reduceSub,replicate,reduceCtorEq,reduceLeDiff,reduceLT,aa,az,tp,c1,e1,e2,e3,e4,e6,e8,e9,e10,e11,e12,e]
 ·refine ah cJ rfl ?_;unfold cD
  simp only[sim,ag,reduceAdd,reduceSub,replicate,reduceCtorEq,reduceLeDiff,reduceLT,aa,az,tp,c1,e1,e2,e3,e4,e6,e8,e9,e10,e11,e12,e]
theorem bA.fr {q:StD×VD×Int} {fr:AV ⊕ AV} (r:bA h0 F0 J0 c L i n q fr h'):fr= .inl (.tup [])∨∃ v,fr= .inr v:=by
 rcases r with⟨_,b,_⟩ | ⟨_,b,_⟩
 ·exact .inl b
 ·exact .inr ⟨_,b⟩
theorem bA.put {q:StD×VD×Int} {n1:Now} {fr:AV ⊕ AV} (r:bA h0 F0 J0 c (put c L i n1) i n q fr h'):bA h0 F0 J0 c L i n q fr h':=by
 rcases r with⟨x,y,z⟩ | ⟨x,y,n',z,w⟩
 ·exact .inl ⟨x,y,by rw[aR]at z;exact z⟩
 ·exact .inr ⟨x,y,n',z,by rw[aR]at w;exact w⟩
theorem kY.put {q:StD×uf×Int} {n1:Now} {fr:AV ⊕ AV} (r:kY h0 F0 J0 c (put c L i n1) i n q fr h'):kY h0 F0 J0 c L i n q fr h':=by
 rcases r with⟨x,y,fb,z⟩ | ⟨x,y,n',z,w⟩
 ·exact .inl ⟨x,y,fb,by rw[aR]at z;exact z⟩
 ·exact .inr ⟨x,y,n',z,by rw[aR]at w;exact w⟩
theorem kY.drop {X:Asn} {q:StD×uf×Int} {fr:AV ⊕ AV} (r:kY h0 F0 J0 c (X::L) (i+1) n q fr h'):kY h0 F0 J0 c L i n q fr h':=by
 rcases r with⟨x,y,fb,z⟩ | ⟨x,y,n',z,w⟩
 ·exact .inl ⟨x,y,fb,z.drop⟩
 ·exact .inr ⟨x,y,n',z,w.drop⟩
theorem iO (s:St h0 F0 J0 h L) (a:At c L i n) (o:OkR c n) (op k m:Int):St h0 F0 J0 ((h.push [iR op k m]).push [iR op k m]) (ai (h.n+1) [iR op k m]::ai h.n [iR op k m]::L)∧At c (ai (h.n+1) [iR op k m]::ai h.n [iR op k m]::L) (i+1+1) n∧
  aj Try.prog po HP [.ptr c.mb 0 0] ((h.push [iR op k m]).push [iR op k m])=some (.inl (.ptr n.fb n.below.length 0),(h.push [iR op k m]).push [iR op k m])∧(∀ k':Nat,aE false k' ((h.push [iR op k m]).push [iR op k m]) (.ptr n.fb n.below.length 0)=some (.int .i64 n.top.plugin))∧((h.push [iR op k m]).push [iR op k m]).cell (h.n+1)=some [iR op k m]:=by
 have s1:=(s.push [iR op k m]).push [iR op k m]
 have a1:=(a.cons (ai h.n [iR op k m])).cons (ai (h.n+1) [iR op k m])
 obtain⟨tp,tl⟩:=cK s1 a1 o.below
 exact⟨s1,a1,tp,tl,(s1.cell 0 rfl).1⟩
theorem Ic (s:St h0 F0 J0 h L) (a:At c L i n) (o:OkR c n) {st:List VD} {v:VD} (hst:n.top.stack=st++[v]) (k m:Int):∃ fr h',aj Try.prog po jH [.ptr c.mb 0 0,.agg (iR 13 k m)] h=some (fr,h')∧bA h0 F0 J0 c L i (n.stk st) (bI n.top.plugin 13 k m [v] n.S) fr h':=by
 obtain⟨s1,a1,tp,_,c1⟩:=iO s a o 13 k m
 obtain⟨h2,r,e2,hv,s2,a2⟩:=fE s1 a1 o hst
 obtain⟨fr,h3,e3,r3⟩:=IF s2 a2 (o.stk' hst) hv k m
 have r4:=r3.put.drop.drop
 refine⟨fr,h3,cV s a o (by decide) ?_ r4.fr,r4⟩
 rcases r4.fr with rfl | ⟨u,rfl⟩
 ·refine ah bR rfl ?_;unfold bG
  simp only[sim,ag,reduceAdd,reduceSub,replicate,reduceCtorEq,reduceLeDiff,reduceLT,aa,az,tp,c1,Int.reduceEq,decide_false,decide_true,e2,e3]
 ·refine ah bR rfl ?_;unfold bG
  simp only[sim,ag,reduceAdd,reduceSub,replicate,reduceCtorEq,reduceLeDiff,reduceLT,aa,az,tp,c1,Int.reduceEq,decide_false,decide_true,e2,e3]
theorem HK (s:St h0 F0 J0 h L) (a:At c L i n) (o:OkR c n) {st:List VD} {v:VD} (hst:n.top.stack=st++[v]) (k m:Int):∃ fr h',aj Try.prog po jH [.ptr c.mb 0 0,.agg (iR 16 k m)] h=some (fr,h')∧bA h0 F0 J0 c L i (n.stk st) (bI n.top.plugin 16 k m [v] n.S) fr h':=by
 obtain⟨s1,a1,tp,_,c1⟩:=iO s a o 16 k m
 obtain⟨h2,r,e2,hv,s2,a2⟩:=fE s1 a1 o hst
 obtain⟨fr,h3,e3,r3⟩:=IX s2 a2 (o.stk' hst) hv k m
 have r4:=r3.put.drop.drop
 refine⟨fr,h3,cV s a o (by decide) ?_ r4.fr,r4⟩
 rcases r4.fr with rfl | ⟨u,rfl⟩
 ·refine ah bR rfl ?_;unfold bG
  simp only[sim,ag,reduceAdd,reduceSub,replicate,reduceCtorEq,reduceLeDiff,reduceLT,aa,az,tp,c1,Int.reduceEq,decide_false,decide_true,e2,e3]
 ·refine ah bR rfl ?_;unfold bG
  simp only[sim,ag,reduceAdd,reduceSub,replicate,reduceCtorEq,reduceLeDiff,reduceLT,aa,az,tp,c1,Int.reduceEq,decide_false,decide_true,e2,e3]
theorem yE {h3:AH} {L3:List Asn} (s3:St h0 F0 J0 h3 L3) (x y:List AV):St h0 F0 J0 ((((h3.push [zR3]).push [zR3]).set h3.n (some [x])).set (h3.n+1) (some [y])) (ai (h3.n+1) [y]::ai h3.n [x]::L3)∧(((h3.push [zR3]).push [zR3]).set h3.n (some [x])).cell (h3.n+1)=some [zR3]:=by
 have s4:=(s3.push [zR3]).push [zR3]
 have s5:St h0 F0 J0 _ (ai (h3.n+1) [zR3]::ai h3.n [x]::L3):=s4.set 1 rfl [x]
 exact⟨s5.set 0 rfl [y],(s5.cell 0 rfl).1⟩
set_option maxHeartbeats 1000000 in
theorem HE (s:St h0 F0 J0 h L) (a:At c L i n) (o:OkR c n) {st:List VD} {v w:VD} (hst:n.top.stack=st++[v]++[w]) (k m:Int):∃ fr h',aj Try.prog po jH [.ptr c.mb 0 0,.agg (iR 14 k m)] h=some (fr,h')∧bA h0 F0 J0 c L i (n.stk st) (bI n.top.plugin 14 k m [v,w] n.S) fr h':=by
 obtain⟨s1,a1,tp,_,c1⟩:=iO s a o 14 k m
 obtain⟨h2,h3,rw_,rv,e2,e3,hw,hv,s3,a3⟩:=qS s1 a1 o hst
 have o3:=(o.stk' (st:=st) (l:=[v]++[w]) (by rw[hst,List.append_assoc]))
 obtain⟨o1,o2⟩:=hw.len3
 obtain⟨o5,o4⟩:=hv.len3
 obtain⟨s6,q0⟩:=yE s3 rw_ rv
 have a6:=(a3.cons (ai h3.n [rw_])).cons (ai (h3.n+1) [rv])
 have q1:=(s6.cell 0 rfl).1
 have q2:=(s6.cell 1 rfl).1
 generalize hh6:(((h3.push [zR3]).push [zR3]).set h3.n (some [rw_])).set (h3.n+1) (some [rv])=h6 at*
 obtain⟨fr,h7,e7,r7⟩:=EL s6 a6 o3 hv hw k m
 have r8:=r7.drop.drop.put.drop.drop
 refine⟨fr,h7,cV s a o (by decide) ?_ r8.fr,r8⟩
 rcases r8.fr with rfl | ⟨u,rfl⟩
 ·refine ah bR rfl ?_;unfold bG
  simp only[sim,ag,reduceAdd,reduceSub,replicate,reduceCtorEq,reduceLeDiff,reduceLT,aa,az,tp,c1,Int.reduceEq,decide_false,decide_true,e2,e3,o1,o2,o4,o5,q0,hh6,q1,q2,e7]
 ·refine ah bR rfl ?_;unfold bG
  simp only[sim,ag,reduceAdd,reduceSub,replicate,reduceCtorEq,reduceLeDiff,reduceLT,aa,az,tp,c1,Int.reduceEq,decide_false,decide_true,e2,e3,o1,o2,o4,o5,q0,hh6,q1,q2,e7]
set_option maxHeartbeats 1000000 in
theorem Jx (s:St h0 F0 J0 h L) (a:At c L i n) (o:OkR c n) {st:List VD} {v w:VD} (hst:n.top.stack=st++[v]++[w]) (k m:Int):∃ fr h',aj Try.prog po jH [.ptr c.mb 0 0,.agg (iR 19 k m)] h=some (fr,h')∧kY h0 F0 J0 c L i (n.stk st) (fp c.ms v w (n.below.length+1) n.S) fr h':=by
 obtain⟨s1,a1,tp,_,c1⟩:=iO s a o 19 k m
 obtain⟨h2,h3,rw_,rv,e2,e3,hw,hv,s3,a3⟩:=qS s1 a1 o hst
 have o3:=(o.stk' (st:=st) (l:=[v]++[w]) (by rw[hst,List.append_assoc]))
 obtain⟨o1,o2⟩:=hw.len3
 obtain⟨o5,o4⟩:=hv.len3
 obtain⟨s6,q0⟩:=yE s3 rw_ rv
 have a6:=(a3.cons (ai h3.n [rw_])).cons (ai (h3.n+1) [rv])
 have q1:=(s6.cell 0 rfl).1
 have q2:=(s6.cell 1 rfl).1
 generalize hh6:(((h3.push [zR3]).push [zR3]).set h3.n (some [rw_])).set (h3.n+1) (some [rv])=h6 at*
 obtain⟨fr,h7,e7,r7⟩:=KO s6 a6 o3 hv hw
 have r8:=r7.drop.drop.put.drop.drop
 have hfr:fr= .inl (.tup [])∨∃ v,fr= .inr v:=by
  rcases r8 with⟨_,b,_⟩ | ⟨_,b,_⟩
  ·exact .inl b
  ·exact .inr ⟨_,b⟩
 refine⟨fr,h7,cV s a o (by decide) ?_ hfr,r8⟩
 rcases hfr with rfl | ⟨u,rfl⟩
 ·refine ah bR rfl ?_;unfold bG
  simp only[sim,ag,reduceAdd,reduceSub,replicate,reduceCtorEq,reduceLeDiff,reduceLT,aa,az,tp,c1,Int.reduceEq,decide_false,decide_true,e2,e3,o1,o2,o4,o5,q0,hh6,q1,q2,e7]
 ·refine ah bR rfl ?_;unfold bG
  simp only[sim,ag,reduceAdd,reduceSub,replicate,reduceCtorEq,reduceLeDiff,reduceLT,aa,az,tp,c1,Int.reduceEq,decide_false,decide_true,e2,e3,o1,o2,o4,o5,q0,hh6,q1,q2,e7]
theorem OE {p k n:Int} {v:VD} {S:StD}:bI p 15 k n [v] S=if v.kind≠4 then S.no 2 else xp S (S.G.derive v.n k (-1)):=rfl
theorem NL {p k n:Int} {v:VD} {S:StD}:bI p 17 k n [v] S=if v.kind≠5 then S.no 2 else({S with G:=(S.G.cut v.n).1}:StD).ok au:=rfl
theorem No {p k n:Int} {v:VD} {S:StD}:bI p 20 k n [v] S=({S with kept:=S.kept.set p.toNat v}:StD).ok (S.kept.getD p.toNat au):=rfl
set_option maxHeartbeats 1000000 in
theorem Jh (s:St h0 F0 J0 h L) (a:At c L i n) (o:OkR c n) {st:List VD} {v:VD} (hst:n.top.stack=st++[v]) (k m:Int):∃ fr h',aj Try.prog po jH [.ptr c.mb 0 0,.agg (iR 15 k m)] h=some (fr,h')∧bA h0 F0 J0 c L i (n.stk st) (bI n.top.plugin 15 k m [v] n.S) fr h':=by
 rw[OE]
 obtain⟨s1,a1,tp,_,c1⟩:=iO s a o 15 k m
 obtain⟨h2,r,e2,hv,s2,a2⟩:=fE s1 a1 o hst
 have o3:=o.stk' hst
 rw[ap,ap]at s2 a2
 have c2:=(s2.cell 0 rfl).1
 by_cases hk:v.kind=4
 ·rw[if_neg (by simpa using hk)]
  obtain⟨r',ek,hv'⟩:=ei (h:=h2) hv hk
  obtain⟨h3,e3,s3⟩:=qD s2 a2 o.len o.S.wf hv' k (-1)
  have a3:=a2.put {(n.stk st)with S:={n.S with G:=(n.S.G.derive v.n k (-1)).1}}
  unfold xp
  by_cases hc:(n.S.G.derive v.n k (-1)).2.2=0
  ·rw[if_pos hc]at e3
   rw[if_neg (by simpa using hc)]
   obtain⟨h4,e4,s4⟩:=dx s3 a3 o.below o3.stk (wx (n.S.G.derive v.n k (-1)).2.1)
   rw[aR,ap,ap,aR]at s4
   have r8:bA h0 F0 J0 c L i (n.stk st) _ _ h4:=bA.ok s4.drop.drop
   refine⟨_,h4,cV s a o (by decide) ?_ r8.fr,r8⟩
   refine ah bR rfl ?_;unfold bG
   simp only[sim,ag,reduceAdd,reduceSub,replicate,reduceCtorEq,reduceLeDiff,reduceLT,aa,az,tp,c1,Int.reduceEq,decide_false,decide_true,e2,c2,ek,e3,e4]
  ·rw[if_neg hc]at e3
   rw[if_pos hc]
   rw[ap,ap,aR]at s3
   have r8:bA h0 F0 J0 c L i (n.stk st) _ _ h3:=bA.no (S:={n.S with G:=(n.S.G.derive v.n k (-1)).1}) hc {(n.stk st)with S:={n.S with G:=(n.S.G.derive v.n k (-1)).1}} rfl s3.drop.drop
   refine⟨_,h3,cV s a o (by decide) ?_ r8.fr,r8⟩
   refine ah bR rfl ?_;unfold bG
   simp only[sim,ag,reduceAdd,reduceSub,replicate,reduceCtorEq,reduceLeDiff,reduceLT,aa,az,tp,c1,Int.reduceEq,decide_false,decide_true,e2,c2,ek,e3]
 ·rw[if_pos hk]
  have ek:=fG (h:=h2) hv hk
  have r8:bA h0 F0 J0 c L i (n.stk st) _ _ h2:=bA.no (S:=n.S) (k:=2) (by decide) (n.stk st) rfl s2.drop.drop
  refine⟨_,h2,cV s a o (by decide) ?_ r8.fr,r8⟩
  refine ah bR rfl ?_;unfold bG
  simp only[sim,ag,reduceAdd,reduceSub,replicate,reduceCtorEq,reduceLeDiff,reduceLT,aa,az,tp,c1,Int.reduceEq,decide_false,decide_true,e2,c2,ek]
set_option maxHeartbeats 1000000 in
theorem Gn (s:St h0 F0 J0 h L) (a:At c L i n) (o:OkR c n) {st:List VD} {v:VD} (hst:n.top.stack=st++[v]) (k m:Int):∃ fr h',aj Try.prog po jH [.ptr c.mb 0 0,.agg (iR 17 k m)] h=some (fr,h')∧bA h0 F0 J0 c L i (n.stk st) (bI n.top.plugin 17 k m [v] n.S) fr h':=by
 rw[NL]
 obtain⟨s1,a1,tp,_,c1⟩:=iO s a o 17 k m
 obtain⟨l0,l1,_⟩:=db s1 a1 o.len
 obtain⟨h2,r,e2,hv,s2,a2⟩:=fE s1 a1 o hst
 have o3:=o.stk' hst
 obtain⟨l2,l3,_⟩:=db s2 a2 o.len
 rw[ap,ap]at s2 a2
 have f0:aI 0 (.ptr c.mb 0 0)=some (.ptr c.mb 0 0):=rfl
 have f1:aI 0 (.ptr c.bb 0 0)=some (.ptr c.bb 0 0):=rfl
 by_cases hk:v.kind=5
 ·rw[if_neg (by simpa using hk)]
  obtain⟨r',ek,hv'⟩:=ei (h:=h2) hv hk
  obtain⟨w,hw,_⟩:=hv'.cells3
  have fl:KU false 1 1 (.agg r')=some (.int .i64 v.n):=by rw[hw];rfl
  obtain⟨h3,e3,s3⟩:=lz s2 a2 (R:=fun h'=>aj Try.prog po 57 [.ptr c.gb 0 0,.int .i64 v.n] h2=some (.inl (.int .i64 (n.S.G.cut v.n).2),h')) fun F J x=>Mt x v.n
  have a3:=a2.put {(n.stk st)with S:={n.S with G:=(n.S.G.cut v.n).1}}
  obtain⟨h4,e4,s4⟩:=dx s3 a3 o.below o3.stk eE
  rw[aR,ap,ap,aR]at s4
  have r8:bA h0 F0 J0 c L i (n.stk st) _ _ h4:=bA.ok (S:={n.S with G:=(n.S.G.cut v.n).1}) (v:=au) s4.drop.drop
  refine⟨_,h4,cV s a o (by decide) ?_ r8.fr,r8⟩
  refine ah bR rfl ?_;unfold bG
  simp only[sim,ag,reduceAdd,reduceSub,replicate,reduceCtorEq,reduceLeDiff,reduceLT,aa,az,tp,c1,Int.reduceEq,decide_false,decide_true,f0,f1,l0,l1,l2,l3,e2,ek,fl,e3,e4]
 ·rw[if_pos hk]
  have ek:=fG (h:=h2) hv hk
  have r8:bA h0 F0 J0 c L i (n.stk st) _ _ h2:=bA.no (S:=n.S) (k:=2) (by decide) (n.stk st) rfl s2.drop.drop
  refine⟨_,h2,cV s a o (by decide) ?_ r8.fr,r8⟩
  refine ah bR rfl ?_;unfold bG
  simp only[sim,ag,reduceAdd,reduceSub,replicate,reduceCtorEq,reduceLeDiff,reduceLT,aa,az,tp,c1,Int.reduceEq,decide_false,decide_true,f0,f1,l0,l1,l2,l3,e2,ek]
def Nl (h0:AH) (F0 J0:Nat→Prop) (c:Cfg) (L:List Asn) (i:Nat) (n:Now) (k:Int) (v:VD) (fr:AV ⊕ AV) (h':AH):Prop:=
 (n.below.length+1≠20∧fr= .inl (.tup [])∧∃ fb',St h0 F0 J0 h' (put c L i ⟨fb',n.S,n.below++[n.top],⟨n.top.plugin,k,0,v,[],[],false,[]⟩⟩))∨
 (n.below.length+1=20∧fr= .inr (.iface tGo (.int .i64 4))∧St h0 F0 J0 h' (put c L i n))
set_option maxRecDepth 100000 in
set_option maxHeartbeats 1000000 in
theorem IC (s:St h0 F0 J0 h L) (a:At c L i n) (o:OkR c n) {st:List VD} {v:VD} (hst:n.top.stack=st++[v]) (k m:Int):∃ fr h',aj Try.prog po jH [.ptr c.mb 0 0,.agg (iR 18 k m)] h=some (fr,h')∧Nl h0 F0 J0 c L i (n.stk st) k v fr h':=by
 obtain⟨s1,a1,tp,_,c1⟩:=iO s a o 18 k m
 obtain⟨h2,r,e2,hv,s2,a2⟩:=fE s1 a1 o hst
 have o3:=o.stk' hst
 rw[ap,ap]at s2 a2
 obtain⟨o1,o2⟩:=hv.len3
 have s3:=s2.push [r]
 have a3:=a2.cons (ai h2.n [r])
 have c3:=(s3.cell 0 rfl).1
 have c4:=(s3.cell 1 rfl).1
 obtain⟨_,tl⟩:=cK s3 a3 o.below
 have f0:aI 0 (.ptr n.fb n.below.length 0)=some (.ptr n.fb n.below.length 0):=rfl
 obtain⟨e20,e21⟩:=AN s3 a3 o.below (f:=⟨n.top.plugin,k,0,v,[],[],false,[]⟩) (ar:=r) (g:= .nils) hv (.inl ⟨rfl,rfl⟩) rfl rfl
 obtain⟨y0,y1,y2,rfl⟩:∃ a b c,r=[a,b,c]:=by match r,o1 with | [a,b,c],_=>exact⟨a,b,c,rfl⟩
 simp only[List.all_cons,List.all_nil,Bool.and_true,Bool.and_eq_true]at o2
 obtain⟨z3,z4,z5⟩:=o2
 by_cases h20:n.below.length+1=20
 ·obtain⟨h4,e4,s4⟩:=e20 h20
  simp only[cS,Int.natCast_zero,List.cons_append,List.nil_append]at e4
  refine⟨_,h4,cV s a o (by decide) ?_ (.inr ⟨_,rfl⟩),.inr ⟨h20,rfl,s4.drop.drop.drop⟩⟩
  refine ah bR rfl ?_;unfold bG
  simp only[sim,ag,reduceAdd,reduceSub,replicate,reduceCtorEq,reduceLeDiff,reduceLT,aa,az,tp,c1,Int.reduceEq,decide_false,decide_true,e2,f0,tl,c3,c4,z3,z4,z5,e4]
 ·obtain⟨h4,fb',e4,s4⟩:=e21 h20
  simp only[cS,Int.natCast_zero,List.cons_append,List.nil_append]at e4
  rw[ap,ap,ap,aR]at s4
  refine⟨_,h4,cV s a o (by decide) ?_ (.inl rfl),.inl ⟨h20,rfl,fb',s4.drop.drop.drop⟩⟩
  refine ah bR rfl ?_;unfold bG
  simp only[sim,ag,reduceAdd,reduceSub,replicate,reduceCtorEq,reduceLeDiff,reduceLT,aa,az,tp,c1,Int.reduceEq,decide_false,decide_true,e2,f0,tl,c3,c4,z3,z4,z5,e4]
set_option maxHeartbeats 1000000 in
theorem IG (s:St h0 F0 J0 h L) (a:At c L i n) (o:OkR c n) {st:List VD} {v:VD} (hst:n.top.stack=st++[v]) {P:Nat} (hP:n.top.plugin=(P:Int)) (hP4:P<4) (k m:Int):∃ fr h',aj Try.prog po jH [.ptr c.mb 0 0,.agg (iR 20 k m)] h=some (fr,h')∧bA h0 F0 J0 c L i (n.stk st) (bI n.top.plugin 20 k m [v] n.S) fr h':=by
 rw[No]
 obtain⟨s1,a1,tp,tl,c1⟩:=iO s a o 20 k m
 obtain⟨l0,l1,_⟩:=db s1 a1 o.len
 obtain⟨ix,_,kr,lk,hkr,_,bn⟩:=nQ s1 a1 o hP4
 rw[hP]at tl ⊢
 rw[Int.toNat_natCast]
 obtain⟨k1,k2⟩:=hkr.len3
 have f0:aI 0 (.ptr c.mb 0 0)=some (.ptr c.mb 0 0):=rfl
 have f1:aI 2 (.ptr c.bb 0 0)=some (.ptr c.bb 0 2):=rfl
 have f2:aI 0 (.ptr n.fb n.below.length 0)=some (.ptr n.fb n.below.length 0):=rfl
 have f3:aI 2 (.ptr c.bb 0 (2+P*5))=some (.ptr c.bb 0 (2+P*5+2)):=rfl
 have s2:St h0 F0 J0 _ (ai (h.n+1+1) [kr]::ai (h.n+1) [iR 20 k m]::ai h.n [iR 20 k m]::L):=s1.push [kr]
 have a2:=a1.cons (ai (h.n+1+1) [kr])
 obtain⟨h3,r,e3,hv,s3,a3⟩:=fE s2 a2 o hst
 have o3:=o.stk' hst
 rw[ap,ap,ap]at s3
 have a3':At c (ai (h.n+1+1) [kr]::ai (h.n+1) [iR 20 k m]::ai h.n [iR 20 k m]::put c L i (n.stk st)) (i+1+1+1) (n.stk st):=a3
 obtain⟨h4,e4,s4⟩:=Iz s3 (i+1+1+1+1) a3'.b o.len (p:=P) (by rw[o.ms];exact hP4) hv
 have s4':St h0 F0 J0 h4 (ai (h.n+1+1) [kr]::ai (h.n+1) [iR 20 k m]::ai h.n [iR 20 k m]::put c L i {(n.stk st)with S:={n.S with kept:=n.S.kept.set P v}}):=by
  rw[a3'.setB,ap,ap,ap,aR]at s4
  exact s4
 have a4:=((((a.put {(n.stk st)with S:={n.S with kept:=n.S.kept.set P v}}).cons (ai h.n [iR 20 k m])).cons (ai (h.n+1) [iR 20 k m])).cons (ai (h.n+1+1) [kr]))
 have c4:=(s4'.cell 0 rfl).1
 obtain⟨h5,e5,s5⟩:=dx s4' a4 o.below o3.stk hkr
 rw[ap,ap,ap,aR]at s5
 have r8:bA h0 F0 J0 c L i (n.stk st) _ _ h5:=bA.ok (S:={n.S with kept:=n.S.kept.set P v}) (v:=n.S.kept.getD P au) s5.drop.drop.drop
 refine⟨_,h5,cV s a o (by decide) ?_ r8.fr,r8⟩
 refine ah bR rfl ?_;unfold bG
 simp only[sim,ag,reduceAdd,reduceSub,replicate,reduceCtorEq,reduceLeDiff,reduceLT,aa,az,tp,c1,Int.reduceEq,decide_false,decide_true,f0,f1,f2,f3,l0,tl,ix,lk,k1,k2,e3,e4,c4,e5]
set_option maxHeartbeats 1000000 in
theorem Hw (s:St h0 F0 J0 h L) (a:At c L i n) (o:OkR c n) {P:Nat} (hP:n.top.plugin=(P:Int)) (hP4:P<4) (k m:Int):∃ h',aj Try.prog po jH [.ptr c.mb 0 0,.agg (iR 21 k m)] h=some (.inl (.tup []),h')∧St h0 F0 J0 h' (put c L i (n.stk (n.top.stack++[n.S.kept.getD P au]))):=by
 obtain⟨s1,a1,tp,tl,c1⟩:=iO s a o 21 k m
 obtain⟨l0,l1,_⟩:=db s1 a1 o.len
 obtain⟨ix,_,kr,lk,hkr,_,bn⟩:=nQ s1 a1 o hP4
 rw[hP]at tl
 have f0:aI 0 (.ptr c.mb 0 0)=some (.ptr c.mb 0 0):=rfl
 have f1:aI 2 (.ptr c.bb 0 0)=some (.ptr c.bb 0 2):=rfl
 have f2:aI 0 (.ptr n.fb n.below.length 0)=some (.ptr n.fb n.below.length 0):=rfl
 have f3:aI 2 (.ptr c.bb 0 (2+P*5))=some (.ptr c.bb 0 (2+P*5+2)):=rfl
 obtain⟨h2,e2,s2⟩:=dx s1 a1 o.below o.stk hkr
 rw[ap,ap]at s2
 refine⟨h2,cV s a o (by decide) ?_ (.inl rfl),s2.drop.drop⟩
 refine ah bR rfl ?_;unfold bG
 simp only[sim,ag,reduceAdd,reduceSub,replicate,reduceCtorEq,reduceLeDiff,reduceLT,aa,az,tp,c1,Int.reduceEq,decide_false,decide_true,f0,f1,f2,f3,l0,tl,ix,lk,e2]
end
theorem tD {ms:aN} (g:qs ms) {p k:Int} (hk:k.toNat<(cI ms p).length):(cX ms p k).fault (cI ms p).length 0=0:=by
 have:cX ms p k=(cI ms p)[k.toNat]:=by simp[cX,List.getD,hk]
 rw[this]
 exact g p _ (List.getElem_mem hk)
def MaD.after (m:MaD) (S:StD) (k:Nat) (vs:List VD):MaD:={S:=S,top:={m.top with pc:=m.top.pc+k,stack:=m.top.stack++vs},below:=m.below}
def bk (ms:aN) (m:MaD) (c:List aT):Prop:=∃ pre post,d7 ms m.top.plugin m.top.f=pre++c++post∧m.top.pc=pre.length
theorem bk.get {ms:aN} {m:MaD} {x:aT} {c:List aT} (h:bk ms m (x::c)):(d7 ms m.top.plugin m.top.f).getD m.top.pc oo=x:=by
 obtain⟨pre,post,e,hp⟩:=h
 rw[e,hp]
 simp[List.getD]
theorem bk.at {ms:aN} {m:MaD} {x:aT} {c:List aT} (h:bk ms m (x::c)) (hg:m.Good ms) (ho:E0 m x):Ok ms m:=by
 refine⟨hg,?_,by rw[h.get];exact ho⟩
 obtain⟨pre,post,e,hp⟩:=h
 rw[e,hp]
 simp
theorem MaD.Good.after {ms:aN} {m:MaD} {S:StD} {k:Nat} {vs:List VD} (h:m.Good ms) (hS:S.Good) (hmu:S.mu≤m.S.mu) (hl:S.left+vs.length≤m.S.left) (hv:∀ v∈vs,v.code=0):(m.after S k vs).Good ms:=by
 have h1:=h.stk;have h2:=h.nms;have h3:=h.mu
 refine⟨hS,⟨h.top.p0,h.top.there,h.top.f0,h.top.f1,h.top.arg,h.top.names,fun v hm=> ?_,h.top.gates⟩,Nat.le_trans hmu h3,?_,?_,h.few⟩
 ·rcases List.mem_append.1 hm with hm | hm
  ·exact h.top.stack v hm
  ·exact hv v hm
 ·simp only[MaD.after,List.length_append];omega
 ·simp only[MaD.after];omega
theorem MaD.Good.next {ms:aN} {m m':MaD} (h:m.Good ms) (hS:m'.S=m.S) (hb:m'.below.length=m.below.length) (ht:m'.top.Good ms) (h1:m'.top.stack.length≤m.top.stack.length) (h2:m'.top.names.length+m'.S.left≤100000):m'.Good ms:=by
 have h3:=h.stk;have h4:=h.mu;have h5:=h.few
 refine⟨by rw[hS];exact h.S,ht,by rw[hS];exact h4,by rw[hS];omega,h2,by omega⟩
theorem E0.tick (m:MaD):E0 m ⟨100,0,0⟩:=⟨by simp,by simp,by simp,by simp,by simp,by simp⟩
theorem bk.left {ms:aN} {m:MaD} {a b:List aT} (h:bk ms m (a++b)):bk ms m a:=by
 obtain⟨pre,post,e,hp⟩:=h
 exact⟨pre,b++post,by rw[e];simp,hp⟩
theorem bk.right {ms:aN} {m m':MaD} {a b:List aT} (h:bk ms m (a++b)) (h1:m'.top.plugin=m.top.plugin) (h2:m'.top.f=m.top.f) (h3:m'.top.pc=m.top.pc+a.length):bk ms m' b:=by
 obtain⟨pre,post,e,hp⟩:=h
 exact⟨pre++a,post,by rw[h1,h2,e];simp,by rw[h3,hp];simp⟩
def fT (ms:aN) (m:MaD) (k:Nat) (q:StD×VD×Int):Prop:=
 if q.2.2≠0 then gM ms m (.fail q.1 q.2.2)else ∀ r,gM ms (m.after q.1 k [q.2.1]) r→gM ms m r
def BU (ms:aN) (m:MaD) (k:Nat) (acc:List VD) (q:StD×List VD×Int):Prop:=
 if q.2.2≠0 then gM ms m (.fail q.1 q.2.2)else ∃ ws,q.2.1=acc++ws∧∀ r,gM ms (m.after q.1 k ws) r→gM ms m r
theorem fT.no {ms:aN} {m:MaD} {k:Nat} {S:StD} {c:Int} (hc:c≠0) (h:gM ms m (.fail S c)):fT ms m k (S.no c):=by
 unfold fT
 rw[if_pos (show(S.no c).2.2≠0 from hc)]
 exact h
theorem fT.ok {ms:aN} {m:MaD} {k:Nat} {S:StD} {v:VD} (h:∀ r,gM ms (m.after S k [v]) r→gM ms m r):fT ms m k (S.ok v):=by
 unfold fT
 rw[if_neg (by simp[StD.ok])]
 exact h
theorem Ke {ms:aN} {m:MaD} {c:List aT} (hG:m.Good ms) (h:bk ms m (⟨100,0,0⟩::c)) (hl:m.S.left≠0) {r:i8} (hr:gM ms (m.after m.S.tick 1 []) r):gM ms m r:=by
 refine .go (h.at hG (.tick m)) ?_ hr
 unfold fV
 simp only[h.get,if_true]
 rw[if_neg hl]
 simp[MaD.after]
theorem ye {ms:aN} {m:MaD} {c:List aT} (hG:m.Good ms) (h:bk ms m (⟨100,0,0⟩::c)) (hl:m.S.left=0):gM ms m (.fail m.S 12):=by
 refine .fail (h.at hG (.tick m)) ?_
 unfold fV
 simp only[h.get,if_true]
 rw[if_pos hl]
theorem jV (st ws:List VD):kf (st++ws) ws.length=ws:=by
 unfold kf
 rw[List.length_append,Nat.add_sub_cancel]
 exact List.drop_left
theorem j7 (st ws:List VD):ma (st++ws) ws.length=st:=by
 unfold ma
 rw[List.length_append,Nat.add_sub_cancel]
 exact List.take_left
theorem eu (st:List VD) (v:VD):kf (st++[v]) 1=[v]:=jV st [v]
theorem gR (st:List VD) (v:VD):ma (st++[v]) 1=st:=j7 st [v]
theorem Ds (x:XD) (hx:∃ nf o,x.fault nf o=0) (p:Nat):∃ c,ay x p=⟨100,0,0⟩::c:=by
 obtain⟨nf,o,h⟩:=hx
 obtain⟨h1,h2,_⟩:=lZ h
 rw[iW]
 unfold sU
 split
 ·rename_i h5
  rw[h5]at h2
  have:x.l.length=2:=by simp[aW]at h2;omega
  match hl:x.l,this with
  | [a,b],_=>exact⟨_,rfl⟩
 ·split
  ·rename_i h7
   rw[h7]at h2
   have:x.l.length=3:=by simp[aW]at h2;omega
   match hl:x.l,this with
   | [a,b,c],_=>exact⟨_,rfl⟩
  ·exact⟨_,rfl⟩
theorem Er {p:Int} {x y:XD} {arg:VD} {names:List VD} {S:StD} (h1:x.op=y.op) (h2:x.k=y.k) (h3:x.n=y.n):d9 p x arg names S=d9 p y arg names S:=by
 unfold d9
 rw[h1,h2,h3]
theorem fR (m:MaD) (S S':StD) (a b:Nat) (vs ws:List VD):(m.after S a vs).after S' b ws=m.after S' (a+b) (vs++ws):=by
 simp[MaD.after,Nat.add_assoc]
theorem Cg (m:MaD):m.after m.S 0 []=m:=by simp[MaD.after]
theorem yZ {ms:aN} {m:MaD} {op k n:Int} {c:List aT} (h:bk ms m (⟨op,k,n⟩::c)) (ho:op<100):fV ms m=kD ms (m.after m.S 1 []) ⟨op,k,n⟩:=by
 unfold fV
 simp only[h.get]
 rw[if_neg (by omega),if_neg (by omega),if_neg (by omega),if_neg (by omega),if_neg (by omega),if_neg (by omega)]
 simp[MaD.after]
def PQ (ms:aN) (N:Nat):Prop:=∀ (x:XD) (m:MaD),m.Good ms→m.S.left≤N→x.fault (cI ms m.top.plugin).length m.top.names.length=0→bk ms m (ay x m.top.pc)→
 fT ms m (ay x m.top.pc).length (ofD ms N m.top.plugin x m.top.arg m.top.names (m.below.length+1) m.S)
theorem MaD.Good.after1 {ms:aN} {m:MaD} {S':StD} {v:VD} {c:Int} {k:Nat} (h:m.Good ms) (hox:Kl m.S (S',v,c)) (hc:c=0):(m.after S' k [v]).Good ms:=by
 have h1:=hox.1.mu
 have h2:=hox.2 hc
 have h3:=hox.1.val hc
 simp only at h1 h2 h3
 exact h.after hox.1.good (by omega) (by simp only[List.length_singleton];omega) (fun w hw=>by simp only[List.mem_singleton]at hw;rw[hw];exact h3)
theorem Pf {ms:aN} {N:Nat} (ih:PQ ms N):∀ (l:List XD) (m:MaD) (acc:List VD),m.Good ms→m.S.left≤N→(∀ y∈l,y.fault (cI ms m.top.plugin).length m.top.names.length=0)→bk ms m (g9 (l.map ay) m.top.pc)→
  BU ms m (g9 (l.map ay) m.top.pc).length acc (evL (fun y S=>ofD ms N m.top.plugin y m.top.arg m.top.names (m.below.length+1) S) l m.S acc)
 | [],m,acc,_,_,_,_=>by
   unfold BU
   simp only[evL,List.map_nil,g9,List.length_nil]
   rw[if_neg (by simp)]
   exact⟨[],by simp,fun r hr=>by rw[Cg]at hr;exact hr⟩
 | x::l,m,acc,hG,hl,hf,hs=>by
   simp only[List.map_cons,g9]at hs ⊢
   have h1:=ih x m hG hl (hf x (by simp)) hs.left
   have hle:=j9 ms N m.top.plugin x m.top.arg m.top.names (m.below.length+1) m.S
   have hox:=ie ms N m.top.plugin x m.top.arg m.top.names (m.below.length+1) m.S hG.S hG.top.arg hG.top.names
   rw[evL]
   rcases hq:ofD ms N m.top.plugin x m.top.arg m.top.names (m.below.length+1) m.S with⟨S',v,c⟩
   rw[hq]at h1 hle hox
   simp only at h1 hle ⊢
   unfold fT at h1
   simp only at h1
   by_cases hc:c=0
   ·rw[if_neg (by simpa using hc)]at h1 ⊢
    have h2:=Pf ih l (m.after S' (ay x m.top.pc).length [v]) (acc++[v]) (hG.after1 hox hc) (Nat.le_trans hle hl) (fun y hy=>hf y (by simp[hy])) (hs.right rfl rfl rfl)
    have e1:(m.after S' (ay x m.top.pc).length [v]).top.pc=m.top.pc+(ay x m.top.pc).length:=rfl
    rw[e1]at h2
    change BU ms _ _ _ (evL (fun y S=>ofD ms N m.top.plugin y m.top.arg m.top.names (m.below.length+1) S) l S' (acc++[v]))at h2
    generalize evL (fun y S=>ofD ms N m.top.plugin y m.top.arg m.top.names (m.below.length+1) S) l S' (acc++[v])=q at h2 ⊢
    unfold BU at h2 ⊢
    by_cases hz:q.2.2=0
    ·rw[if_neg (by simpa using hz)]at h2 ⊢
     obtain⟨ws,e,h2⟩:=h2
     refine⟨v::ws,by rw[e];simp,fun r hr=>h1 r (h2 r ?_)⟩
     rw[fR,List.singleton_append]
     rw[List.length_append]at hr
     exact hr
    ·rw[if_pos hz]at h2 ⊢
     exact h1 _ h2
   ·rw[if_pos hc]at h1 ⊢
    unfold BU
    simp only
    rw[if_pos hc]
    exact h1
theorem F7 {op:Int} (h:0≤aW op):1≤op∧op≤21:=by
 unfold aW at h
 split at h
 ·omega
 ·split at h
  ·omega
  ·split at h
   ·omega
   ·split at h
    ·omega
    ·omega
theorem pJ {ms:aN} {m:MaD} {c:List aT} (h:bk ms m (⟨105,0,0⟩::c)) {st:List VD} {v:VD} (hv:m.top.stack=st++[v]):fV ms m=(
  let q:=if m.top.asked then eQ m.top.gates v m.S else m.S.ok v
  if q.2.2≠0 then .fail q.1 q.2.2 else match m.below.getLast? with
   | none=> .over q.1 q.2.1
   | some t=> .go ⟨q.1,{t with stack:=t.stack++[q.2.1]},m.below.dropLast⟩):=by
 unfold fV
 simp only[h.get]
 rw[if_neg (by omega),if_neg (by omega),if_neg (by omega),if_neg (by omega),if_neg (by omega),if_pos trivial]
 unfold MaD.back
 simp only[hv,eu,List.getD_cons_zero]
 rfl
theorem pi {α:Type} (l:List α) (a:α):(l++[a]).getLast? =some a∧(l++[a]).dropLast=l:=⟨by simp,by simp⟩
theorem I0 {nf k n o:Int} (h:jG nf 18 k n o=0):0≤k∧k<nf:=by
 unfold jG at h
 split at h
 ·cases h
 ·rw[if_neg (by decide),if_neg (by decide),if_neg (by decide),if_pos rfl]at h
  split at h
  ·cases h
  ·omega
theorem HL {nf k n o:Int} (h:jG nf 4 k n o=0):0≤k∧k<o:=by
 unfold jG at h
 split at h
 ·cases h
 ·rw[if_pos rfl]at h
  split at h
  ·cases h
  ·omega
theorem CI {ms:aN} {v x:VD} {fr:Nat} {S S':StD} {q:uf} (h:fp ms v x fr S=(S',q,0)):q.func.toNat<(cI ms q.plugin).length∧fr≠20:=by
 unfold fp at h
 simp only at h
 split at h
 ·simp only[Prod.mk.injEq]at h;omega
 ·split at h
  ·simp only[Prod.mk.injEq]at h;omega
  ·split at h
   ·simp only[Prod.mk.injEq]at h;omega
   ·split at h
    ·simp only[Prod.mk.injEq]at h;omega
    ·rename_i hn
     split at h
     ·simp only[Prod.mk.injEq]at h;omega
     ·rename_i hf
      simp only[Prod.mk.injEq]at h
      obtain⟨_,rfl,_⟩:=h
      exact⟨by
       simp only
       have:¬ ((cI ms (S.G.target v.n).1.plugin).length:Int)≤(S.G.target v.n).1.func:=fun e=>hn (.inr (.inl e))
       have h3:¬ (S.G.target v.n).1.func<0:=fun e=>hn (.inr (.inr e))
       omega,hf⟩
theorem DD {f:XD→StD→StD×VD×Int}:∀ (l:List XD) (S:StD) (acc:List VD),(evL f l S acc).2.2=0→(evL f l S acc).2.1.length=acc.length+l.length
 | [],S,acc,_=>rfl
 | x::l,S,acc,h=>by
   rw[evL]at h ⊢
   rcases hq:f x S with⟨S',v,c⟩
   rw[hq]at h
   simp only at h ⊢
   by_cases hc:c=0
   ·rw[if_neg (by simpa using hc)]at h ⊢
    rw[DD l S' _ h]
    simp
    omega
   ·rw[if_pos hc]at h
    exact absurd h hc
theorem ju {p:Int} {x:XD} {arg:VD} {names:List VD} {S:StD}:d9 p x arg names S=none↔¬ (x.op=1∨x.op=2∨x.op=3∨x.op=4∨x.op=21):=by
 unfold d9
 constructor
 ·intro h
  repeat' split at h
  all_goals first
   | omega
   | cases h
 ·intro h
  rw[if_neg (by omega),if_neg (by omega),if_neg (by omega),if_neg (by omega),if_neg (by omega)]
theorem Gj {α:Type} {l:List α} (h:l.length=2):∃ a b,l=[a,b]:=by
 match l,h with
 | [a,b],_=>exact⟨a,b,rfl⟩
theorem Nu {α:Type} {l:List α} (h:l.length=3):∃ a b c,l=[a,b,c]:=by
 match l,h with
 | [a,b,c],_=>exact⟨a,b,c,rfl⟩
set_option maxHeartbeats 1000000 in
theorem O6 {ms:aN} (hg:qs ms):∀ N:Nat,PQ ms N
 | 0,x,m,hG,hl,hf,hs=>by
   obtain⟨c,hc⟩:=Ds x ⟨_,_,hf⟩ m.top.pc
   have h0:m.S.left=0:=by omega
   rw[hc]at hs
   exact fT.no (by decide) (ye hG hs h0)
 | N+1,x,m,hG,hl,hf,hs=>by
   have ih:=O6 hg N
   obtain⟨c,hc⟩:=Ds x ⟨_,_,hf⟩ m.top.pc
   have hs0:=hs
   rw[hc]at hs0
   obtain⟨f1,f2,f3,f4,f5⟩:=lZ hf
   rw[ofD]
   by_cases h0:m.S.left=0
   ·rw[if_pos h0]
    exact fT.no (by decide) (ye hG hs0 h0)
   rw[if_neg h0]
   have go1:∀ r,gM ms (m.after m.S.tick 1 []) r→gM ms m r:=fun r hr=>Ke hG hs0 h0 hr
   have hG1:(m.after m.S.tick 1 []).Good ms:=hG.after hG.S.tick (by have:=n8 h0;omega) (by have:=n8 h0;simp only[List.length_nil];omega) (by simp)
   have hl1:m.S.tick.left≤N:=by show m.S.left - 1≤N;omega
   have hop:=F7 f1
   by_cases o5:x.op=5
   ·have hlf:d9 m.top.plugin x m.top.arg m.top.names m.S.tick=none:=ju.2 (by omega)
    rw[hlf]
    simp only
    rw[if_pos o5]
    have hlen:x.l.length=2:=by rw[o5]at f2;simp[aW]at f2;omega
    obtain⟨a,b,hab⟩:=Gj hlen
    rw[o5]at f5
    rw[hab]at f5 ⊢
    obtain⟨fa,f6⟩:=gY f5
    obtain⟨fb,_⟩:=gY f6
    rw[if_neg (by omega)]at fa
    rw[if_pos (by omega)]at fb
    simp only[List.getD_cons_zero,List.getD_cons_succ]
    have hcode:ay x m.top.pc=⟨100,0,0⟩::(ay a (m.top.pc+1)++(⟨101,0,0⟩::(ay b (m.top.pc+1+(ay a (m.top.pc+1)).length+1)++[⟨102,0,0⟩]))):=by
     rw[iW,hab]
     unfold sU
     rw[if_pos o5]
     rfl
    rw[hcode]at hs ⊢
    have hs1:bk ms (m.after m.S.tick 1 []) _:=bk.right (a:=[⟨100,0,0⟩]) hs rfl rfl rfl
    have h1:=ih a (m.after m.S.tick 1 []) hG1 hl1 fa hs1.left
    have hle:=j9 ms N m.top.plugin a m.top.arg m.top.names (m.below.length+1) m.S.tick
    have hox:=ie ms N m.top.plugin a m.top.arg m.top.names (m.below.length+1) m.S.tick hG.S.tick hG.top.arg hG.top.names
    change fT ms _ _ (ofD ms N m.top.plugin a m.top.arg m.top.names (m.below.length+1) m.S.tick)at h1
    rcases hq:ofD ms N m.top.plugin a m.top.arg m.top.names (m.below.length+1) m.S.tick with⟨S',v,c⟩
    rw[hq]at h1 hle hox
    simp only at h1 hle ⊢
    unfold fT at h1
    simp only at h1
    by_cases hc:c=0
    ·rw[if_neg (by simpa using hc)]at h1 ⊢
     rw[fR]at h1
     generalize hA:ay a (m.top.pc+1)=A at*
     have hA':ay a (m.after m.S.tick 1 []).top.pc=A:=hA
     rw[hA']at h1
     have hs2:bk ms (m.after S' (1+A.length) ([]++[v])) (⟨101,0,0⟩::(ay b (m.top.pc+1+A.length+1)++[⟨102,0,0⟩])):=bk.right hs1 rfl rfl (by simp only[MaD.after];omega)
     have hG2:(m.after S' (1+A.length) ([]++[v])).Good ms:=by
      have:=MaD.Good.after1 (k:=A.length) hG1 hox hc
      rwa [fR]at this
     have ok2:=hs2.at hG2 ⟨by simp,by simp[MaD.after],by simp,by simp,by simp,by simp⟩
     have hvc:v.code=0:=hox.1.val hc
     have hlt:S'.left<m.S.tick.left:=hox.2 hc
     have htk:=(n8 h0).2
     have hG3:(⟨S',{m.top with pc:=m.top.pc+1+A.length+1,names:=m.top.names++[v]},m.below⟩:MaD).Good ms:=by
      refine hG2.next rfl rfl ⟨hG.top.p0,hG.top.there,hG.top.f0,hG.top.f1,hG.top.arg,fun w hw=> ?_,hG.top.stack,hG.top.gates⟩ (by simp[MaD.after]) ?_
      ·rcases List.mem_append.1 hw with hw | hw
       ·exact hG.top.names w hw
       ·simp only[List.mem_singleton]at hw
        rw[hw];exact hvc
      ·have:=hG.nms
       simp only[List.length_append,List.length_singleton]
       omega
     -- the name is open
     have e1:fV ms (m.after S' (1+A.length) ([]++[v]))= .go {S:=S',top:={m.top with pc:=m.top.pc+1+A.length+1,names:=m.top.names++[v]},below:=m.below}:=by
      unfold fV
      simp only[hs2.get]
      rw[if_neg (by decide),if_pos trivial]
      simp only[MaD.after,List.nil_append,eu,gR,List.getD_cons_zero]
      rw[Nat.add_assoc m.top.pc 1]
     have hs3:bk ms {S:=S',top:={m.top with pc:=m.top.pc+1+A.length+1,names:=m.top.names++[v]},below:=m.below} (ay b (m.top.pc+1+A.length+1)++[⟨102,0,0⟩]):=bk.right (a:=[⟨101,0,0⟩]) hs2 rfl rfl (by simp only[MaD.after,List.length_singleton];omega)
     have h2:=ih b {S:=S',top:={m.top with pc:=m.top.pc+1+A.length+1,names:=m.top.names++[v]},below:=m.below} hG3 (Nat.le_trans hle hl1) (by
      simp only[List.length_append,List.length_singleton]
      exact fb) hs3.left
     simp only at h2
     have hox3:=ie ms N m.top.plugin b m.top.arg (m.top.names++[v]) (m.below.length+1) S' hG3.S hG3.top.arg hG3.top.names
     generalize ofD ms N m.top.plugin b m.top.arg (m.top.names++[v]) (m.below.length+1) S'=q at h2 hox3 ⊢
     unfold fT at h2 ⊢
     by_cases hz:q.2.2=0
     ·rw[if_neg (by simpa using hz)]at h2 ⊢
      intro r hr
      refine go1 r (h1 r (.go ok2 e1 (h2 r ?_)))
      generalize ay b (m.top.pc+1+A.length+1)=B at*
      have hs4:bk ms (MaD.after {S:=S',top:={m.top with pc:=m.top.pc+1+A.length+1,names:=m.top.names++[v]},below:=m.below} q.1 B.length [q.2.1]) [⟨102,0,0⟩]:=bk.right hs3 rfl rfl rfl
      refine .go (hs4.at (MaD.Good.after1 (c:=q.2.2) hG3 hox3 hz) ⟨by simp,by simp,by simp[MaD.after],by simp,by simp,by simp⟩) (m':=m.after q.1 (⟨100,0,0⟩::(A++(⟨101,0,0⟩::(B++[⟨102,0,0⟩]))):List aT).length [q.2.1]) ?_ hr
      unfold fV
      simp only[hs4.get]
      rw[if_neg (by decide),if_neg (by decide),if_pos trivial]
      simp only[MaD.after,List.dropLast_concat,List.length_cons,List.length_append,List.length_nil]
      congr 3
      omega
     ·rw[if_pos hz]at h2 ⊢
      exact go1 _ (h1 _ (.go ok2 e1 h2))
    ·rw[if_pos hc]at h1 ⊢
     exact fT.no hc (go1 _ h1)
   by_cases o7:x.op=7
   ·have hlf:d9 m.top.plugin x m.top.arg m.top.names m.S.tick=none:=ju.2 (by omega)
    rw[hlf]
    simp only
    rw[if_neg o5,if_pos o7]
    have hlen:x.l.length=3:=by rw[o7]at f2;simp[aW]at f2;omega
    obtain⟨a,b,c',hab⟩:=Nu hlen
    have fall:=kH o5 f5
    have fa:=fall a (by rw[hab];simp)
    have fb:=fall b (by rw[hab];simp)
    have fc:=fall c' (by rw[hab];simp)
    rw[hab]
    simp only[List.getD_cons_zero,List.getD_cons_succ]
    have hcode:ay x m.top.pc=⟨100,0,0⟩::(ay a (m.top.pc+1)++(⟨103,((ir (ay a) (ay b) m.top.pc:Nat):Int),0⟩::(ay b (m.top.pc+1+(ay a (m.top.pc+1)).length+1)++
      (⟨104,((ir (ay a) (ay b) m.top.pc+(ay c' (ir (ay a) (ay b) m.top.pc)).length:Nat):Int),0⟩::ay c' (ir (ay a) (ay b) m.top.pc))))):=by
     rw[iW,hab]
     unfold sU
     rw[if_neg o5,if_pos o7]
     rfl
    have hel:ir (ay a) (ay b) m.top.pc=m.top.pc+1+(ay a (m.top.pc+1)).length+1+(ay b (m.top.pc+1+(ay a (m.top.pc+1)).length+1)).length+1:=rfl
    rw[hcode]at hs ⊢
    have hs1:bk ms (m.after m.S.tick 1 []) _:=bk.right (a:=[⟨100,0,0⟩]) hs rfl rfl rfl
    have h1:=ih a (m.after m.S.tick 1 []) hG1 hl1 fa hs1.left
    have hle:=j9 ms N m.top.plugin a m.top.arg m.top.names (m.below.length+1) m.S.tick
    have hox:=ie ms N m.top.plugin a m.top.arg m.top.names (m.below.length+1) m.S.tick hG.S.tick hG.top.arg hG.top.names
    change fT ms _ _ (ofD ms N m.top.plugin a m.top.arg m.top.names (m.below.length+1) m.S.tick)at h1
    rcases hq:ofD ms N m.top.plugin a m.top.arg m.top.names (m.below.length+1) m.S.tick with⟨S',v,c⟩
    rw[hq]at h1 hle hox
    simp only at h1 hle ⊢
    unfold fT at h1
    simp only at h1
    by_cases hc:c=0
    ·rw[if_neg (by simpa using hc)]at h1 ⊢
     rw[fR]at h1
     have hA':ay a (m.after m.S.tick 1 []).top.pc=ay a (m.top.pc+1):=rfl
     rw[hA']at h1
     have hB':∀ q,q=m.top.pc+1+(ay a (m.top.pc+1)).length+1→ay b q=ay b (m.top.pc+1+(ay a (m.top.pc+1)).length+1):=fun q e=>by rw[e]
     have hC':∀ q,q=ir (ay a) (ay b) m.top.pc→ay c' q=ay c' (ir (ay a) (ay b) m.top.pc):=fun q e=>by rw[e]
     generalize ay c' (ir (ay a) (ay b) m.top.pc)=C at*
     generalize ir (ay a) (ay b) m.top.pc=el at*
     generalize ay b (m.top.pc+1+(ay a (m.top.pc+1)).length+1)=B at*
     generalize ay a (m.top.pc+1)=A at*
     have hs2:bk ms (m.after S' (1+A.length) ([]++[v])) (⟨103,(el:Int),0⟩::(B++(⟨104,((el+C.length:Nat):Int),0⟩::C))):=bk.right hs1 rfl rfl (by simp only[MaD.after];omega)
     have hk:(⟨100,0,0⟩::(A++(⟨103,(el:Int),0⟩::(B++(⟨104,((el+C.length:Nat):Int),0⟩::C)))):List aT).length=1+A.length+1+B.length+1+C.length:=by simp only[List.length_cons,List.length_append];omega
     rw[hk]
     have go2:∀ r,gM ms (m.after S' (1+A.length) ([]++[v])) r→gM ms m r:=fun r hr=>go1 r (h1 r hr)
     have hG2:(m.after S' (1+A.length) ([]++[v])).Good ms:=by
      have:=MaD.Good.after1 (k:=A.length) hG1 hox hc
      rwa [fR]at this
     have ok2:=hs2.at hG2 ⟨by simp,by simp[MaD.after],by simp,by simp,by simp,by simp⟩
     have hG3:∀ pc,(⟨S',{m.top with pc:=pc},m.below⟩:MaD).Good ms:=fun pc=>by
      refine hG2.next rfl rfl ⟨hG.top.p0,hG.top.there,hG.top.f0,hG.top.f1,hG.top.arg,hG.top.names,hG.top.stack,hG.top.gates⟩ (by simp[MaD.after]) hG2.nms
     by_cases hv:v.kind=1
     ·rw[if_neg (by simpa using hv)]
      have e1:fV ms (m.after S' (1+A.length) ([]++[v]))= .go {S:=S',top:={m.top with pc:=if v.n=0 then el else m.top.pc+(1+A.length)+1},below:=m.below}:=by
       unfold fV
       simp only[hs2.get]
       rw[if_neg (by decide),if_neg (by decide),if_neg (by decide),if_pos trivial]
       simp only[MaD.after,List.nil_append,eu,gR,List.getD_cons_zero,Int.toNat_natCast]
       rw[if_neg (by simpa using hv)]
      by_cases hn:v.n=0
      ·rw[if_neg (by simpa using hn)]
       rw[if_pos hn]at e1
       have hs3:bk ms {S:=S',top:={m.top with pc:=el},below:=m.below} C:=by
        have:=bk.right (m':={S:=S',top:={m.top with pc:=el},below:=m.below}) (a:=⟨100,0,0⟩::(A++(⟨103,(el:Int),0⟩::(B++[⟨104,((el+C.length:Nat):Int),0⟩])))) (b:=C) (ms:=ms) (m:=m) (by simpa using hs) rfl rfl (by simp only[List.length_cons,List.length_append,List.length_nil];omega)
        exact this
       have h2:=ih c' {S:=S',top:={m.top with pc:=el},below:=m.below} (hG3 _) (Nat.le_trans hle hl1) fc (by simp only;rw[hC' el rfl];exact hs3)
       simp only at h2
       rw[hC' el rfl]at h2
       generalize ofD ms N m.top.plugin c' m.top.arg m.top.names (m.below.length+1) S'=q at h2 ⊢
       unfold fT at h2 ⊢
       by_cases hz:q.2.2=0
       ·rw[if_neg (by simpa using hz)]at h2 ⊢
        intro r hr
        refine go2 r (.go ok2 e1 (h2 r ?_))
        have:(MaD.after {S:=S',top:={m.top with pc:=el},below:=m.below} q.1 C.length [q.2.1])=m.after q.1 (1+A.length+1+B.length+1+C.length) [q.2.1]:=by
         simp only[MaD.after]
         rw[show el+C.length=m.top.pc+(1+A.length+1+B.length+1+C.length) by omega]
        rw[this]
        exact hr
       ·rw[if_pos hz]at h2 ⊢
        exact go2 _ (.go ok2 e1 h2)
      ·rw[if_pos hn]
       rw[if_neg hn]at e1
       have hs3:bk ms {S:=S',top:={m.top with pc:=m.top.pc+(1+A.length)+1},below:=m.below} (B++(⟨104,((el+C.length:Nat):Int),0⟩::C)):=bk.right (a:=[⟨103,(el:Int),0⟩]) hs2 rfl rfl (by simp only[MaD.after,List.length_singleton])
       have hB:ay b (m.top.pc+(1+A.length)+1)=B:=hB' _ (by omega)
       have h2:=ih b {S:=S',top:={m.top with pc:=m.top.pc+(1+A.length)+1},below:=m.below} (hG3 _) (Nat.le_trans hle hl1) fb (by simp only;rw[hB];exact hs3.left)
       simp only at h2
       rw[hB]at h2
       have hox3:=ie ms N m.top.plugin b m.top.arg m.top.names (m.below.length+1) S' hG2.S hG.top.arg hG.top.names
       generalize ofD ms N m.top.plugin b m.top.arg m.top.names (m.below.length+1) S'=q at h2 hox3 ⊢
       unfold fT at h2 ⊢
       by_cases hz:q.2.2=0
       ·rw[if_neg (by simpa using hz)]at h2 ⊢
        intro r hr
        refine go2 r (.go ok2 e1 (h2 r ?_))
        have hs4:bk ms (MaD.after {S:=S',top:={m.top with pc:=m.top.pc+(1+A.length)+1},below:=m.below} q.1 B.length [q.2.1]) (⟨104,((el+C.length:Nat):Int),0⟩::C):=bk.right hs3 rfl rfl rfl
        refine .go (hs4.at (MaD.Good.after1 (c:=q.2.2) (hG3 _) hox3 hz) ⟨by simp,by simp,by simp,fun _=>Int.natCast_nonneg _,by simp,by simp⟩) (m':=m.after q.1 (1+A.length+1+B.length+1+C.length) [q.2.1]) ?_ hr
        unfold fV
        simp only[hs4.get]
        rw[if_neg (by decide),if_neg (by decide),if_neg (by decide),if_neg (by decide),if_pos trivial]
        simp only[MaD.after,Int.toNat_natCast]
        congr 3
        omega
       ·rw[if_pos hz]at h2 ⊢
        exact go2 _ (.go ok2 e1 h2)
     ·rw[if_pos hv]
      refine fT.no (by decide) (go2 _ (.fail ok2 ?_))
      unfold fV
      simp only[hs2.get]
      rw[if_neg (by decide),if_neg (by decide),if_neg (by decide),if_pos trivial]
      simp only[MaD.after,List.nil_append,eu,List.getD_cons_zero]
      rw[if_pos hv]
    ·rw[if_pos hc]at h1 ⊢
     exact fT.no hc (go1 _ h1)
   have hcode:ay x m.top.pc=⟨100,0,0⟩::(g9 (x.l.map ay) (m.top.pc+1)++[⟨x.op,x.k,x.n⟩]):=by
    rw[iW]
    unfold sU
    rw[if_neg o5,if_neg o7]
   rw[hcode]at hs ⊢
   have hs1:bk ms (m.after m.S.tick 1 []) (g9 (x.l.map ay) (m.top.pc+1)++[⟨x.op,x.k,x.n⟩]):=bk.right (a:=[⟨100,0,0⟩]) hs rfl rfl rfl
   cases hlf:d9 m.top.plugin x m.top.arg m.top.names m.S.tick with
   | some v=>
     have hz:x.l=[]:=by
      have:x.op=1∨x.op=2∨x.op=3∨x.op=4∨x.op=21:=by
       rcases Classical.em (x.op=1∨x.op=2∨x.op=3∨x.op=4∨x.op=21)with h | h
       ·exact h
       ·rw[ju.2 h]at hlf
        cases hlf
      have hp:aW x.op=0:=by rw[aW,if_pos this]
      rw[hp]at f2
      exact List.length_eq_zero_iff.1 (by omega)
     rw[hz]at hs1 ⊢
     simp only[List.map_nil,g9,List.nil_append]at hs1 ⊢
     refine fT.ok fun r hr=>go1 r (.go (hs1.at hG1 ⟨.inl ⟨hop.1,hop.2,o5,o7⟩,fun h=>by simp only at h;omega,fun h=>by simp only at h;omega,fun h=>by simp only at h;omega,fun _=>by
      simp only
      rw[hz]at f2
      rw[←f2]
      simp,fun h=> ?_⟩) ?_ hr)
     ·simp only at h
      rw[h]at f3
      exact HL f3
     rw[yZ hs1 (by omega)]
     unfold kD
     have hlf2:d9 m.top.plugin (.mk x.op x.k x.n []) m.top.arg m.top.names m.S.tick=some v:=by
      rw[←hlf]
      exact Er rfl rfl rfl
     simp only[MaD.after,List.append_nil,hlf2,MaD.push,List.length_cons,List.length_nil]
   | none=>
     simp only
     rw[if_neg o5,if_neg o7]
     have hL:=Pf ih x.l (m.after m.S.tick 1 []) [] hG1 hl1 (kH o5 f5) hs1.left
     have hlen:=DD (f:=fun y S=>ofD ms N m.top.plugin y m.top.arg m.top.names (m.below.length+1) S) x.l m.S.tick []
     have hle:=tC (f:=fun y S=>ofD ms N m.top.plugin y m.top.arg m.top.names (m.below.length+1) S) (fun y S=>j9 ms N m.top.plugin y m.top.arg m.top.names (m.below.length+1) S) x.l m.S.tick []
     have hoL:=CD (f:=fun y S=>ofD ms N m.top.plugin y m.top.arg m.top.names (m.below.length+1) S) (fun y S h=>ie ms N m.top.plugin y m.top.arg m.top.names (m.below.length+1) S h hG.top.arg hG.top.names) x.l m.S.tick [] hG.S.tick (by simp)
     change BU ms _ _ _ (evL (fun y S=>ofD ms N m.top.plugin y m.top.arg m.top.names (m.below.length+1) S) x.l m.S.tick [])at hL
     rcases hq:evL (fun y S=>ofD ms N m.top.plugin y m.top.arg m.top.names (m.below.length+1) S) x.l m.S.tick []with⟨S',l,c⟩
     rw[hq]at hL hlen hle hoL
     obtain⟨oL1,oL2,oL3,oL4⟩:=hoL
     simp only[List.length_nil,Nat.zero_add]at hL hlen hle ⊢
     unfold BU at hL
     simp only at hL
     by_cases hc:c=0
     ·subst hc
      rw[if_neg (by simp)]at hL ⊢
      obtain⟨ws,hws,hL⟩:=hL
      rw[List.nil_append]at hws
      subst hws
      have hlen:=hlen rfl
      change ∀ r,gM ms ((m.after m.S.tick 1 []).after S' (g9 (x.l.map ay) (m.top.pc+1)).length l) r→_ at hL
      rw[fR,List.nil_append]at hL
      generalize g9 (x.l.map ay) (m.top.pc+1)=A at*
      have go2:∀ r,gM ms (m.after S' (1+A.length) l) r→gM ms m r:=fun r hr=>go1 r (hL r hr)
      have hs2:bk ms (m.after S' (1+A.length) l) [⟨x.op,x.k,x.n⟩]:=bk.right hs1 rfl rfl (by simp only[MaD.after];omega)
      have hlf2:d9 m.top.plugin (.mk x.op x.k x.n []) m.top.arg m.top.names S'=none:=ju.2 (ju.1 hlf)
      have est:=yZ hs2 (by omega)
      have tk:=n8 h0
      have hlv:=(oL4 rfl).1
      have hll:=(oL4 rfl).2
      simp only[List.length_nil,Nat.add_zero]at oL1 oL2 oL3 hlv hll
      have hG2:(m.after S' (1+A.length) l).Good ms:=hG.after oL1 (by omega) (by omega) hlv
      have ok2:Ok ms (m.after S' (1+A.length) l):=hs2.at hG2 ⟨.inl ⟨hop.1,hop.2,o5,o7⟩,fun h=>by simp only at h;omega,fun h=>by simp only at h;omega,fun h=>by simp only at h;omega,fun _=>by
       simp only[MaD.after,List.length_append]
       omega,fun h=>by
       have:=ju.1 hlf
       simp only at h
       omega⟩
      have hlp:(aW x.op).toNat=l.length:=by omega
      have hk:(⟨100,0,0⟩::(A++[⟨x.op,x.k,x.n⟩]):List aT).length=1+A.length+1:=by simp only[List.length_cons,List.length_append,List.length_nil];omega
      rw[hk]
      clear hk hcode hs hs1
      unfold kD at est
      simp only[MaD.after,List.append_nil,hlf2]at est
      by_cases o18:x.op=18
      ·rw[if_pos o18]at est ⊢
       rw[o18]at f2 f3
       obtain⟨k0,k1⟩:=I0 f3
       obtain⟨v,rfl⟩:∃ v,l=[v]:=by
        have:l.length=1:=by rw[hlen];simp[aW]at f2;omega
        match l,this with
        | [v],_=>exact⟨v,rfl⟩
       rw[eu,gR]at est
       simp only[List.getD_cons_zero]at est ⊢
       unfold MaD.call at est
       simp only at est
       by_cases hfr:m.below.length+1=20
       ·rw[if_pos hfr]at est ⊢
        exact fT.no (by decide) (go2 _ (.fail ok2 est))
       ·rw[if_neg hfr]at est ⊢
        have gf:=tD hg (p:=m.top.plugin) (k:=x.k) (by omega)
        have hG3:(⟨S',⟨m.top.plugin,x.k,0,v,[],[],false,[]⟩,m.below++[{m.top with pc:=m.top.pc+(1+A.length)+1}]⟩:MaD).Good ms:=by
         have g1:=hG.stk;have g2:=hG.few;have g3:=hG.mu
         refine⟨oL1,⟨hG.top.p0,hG.top.there,k0,by simp only;omega,hlv v (by simp),by simp,by simp,by simp⟩,by simp only;omega,?_,?_,?_⟩
         ·simp only[List.length_nil];omega
         ·simp only[List.length_nil];omega
         ·simp only[List.length_append,List.length_singleton];omega
        have hox3:=ie ms N m.top.plugin (cX ms m.top.plugin x.k) v [] (m.below.length+1+1) S' oL1 (hlv v (by simp)) (by simp)
        have h3:=ih (cX ms m.top.plugin x.k) ⟨S',⟨m.top.plugin,x.k,0,v,[],[],false,[]⟩,m.below++[{m.top with pc:=m.top.pc+(1+A.length)+1}]⟩ hG3 (Nat.le_trans hle hl1) gf ⟨[],[⟨105,0,0⟩],by simp[d7],rfl⟩
        simp only[List.length_append,List.length_singleton]at h3
        generalize ofD ms N m.top.plugin (cX ms m.top.plugin x.k) v [] (m.below.length+1+1) S'=q at h3 hox3 ⊢
        unfold fT at h3 ⊢
        by_cases hz:q.2.2=0
        ·rw[if_neg (by simpa using hz)]at h3 ⊢
         intro r hr
         refine go2 r (.go ok2 est (h3 r (.go (bk.at (c:=[]) (x:=⟨105,0,0⟩) ⟨ay (cX ms m.top.plugin x.k) 0,[],by simp[d7,MaD.after],by simp[MaD.after]⟩ (MaD.Good.after1 (c:=q.2.2) hG3 hox3 hz) ⟨by simp,by simp[MaD.after],by simp,by simp,by simp,by simp⟩) ?_ hr)))
         rw[pJ (c:=[]) (st:=[]) (v:=q.2.1) ⟨ay (cX ms m.top.plugin x.k) 0,[],by simp[d7,MaD.after],by simp[MaD.after]⟩ rfl]
         simp only[MaD.after,StD.ok,pi]
         rw[if_neg (by simp)]
         simp only[pi,Bool.false_eq_true,if_false]
         simp[Nat.add_assoc]
        ·rw[if_pos hz]at h3 ⊢
         exact go2 _ (.go ok2 est h3)
      by_cases o19:x.op=19
      ·rw[if_neg o18,if_pos o19]at est ⊢
       rw[o19]at f2
       obtain⟨v,w,rfl⟩:∃ v w,l=[v,w]:=Gj (by rw[hlen];simp[aW]at f2;omega)
       have tk:=jV m.top.stack [v,w]
       have dr:=j7 m.top.stack [v,w]
       simp only[List.length_cons,List.length_nil,Nat.zero_add,reduceAdd]at tk dr
       rw[tk,dr]at est
       simp only[List.getD_cons_zero,List.getD_cons_succ]at est ⊢
       have hal:=pO ms v w (m.below.length+1) S'
       have hao:=Dt (ms:=ms) (v:=v) (x:=w) (fr:=m.below.length+1) oL1
       rcases hqa:fp ms v w (m.below.length+1) S' with⟨S2,q,c⟩
       rw[hqa]at est hal hao
       simp only at est hal hao ⊢
       by_cases hc:c=0
       ·subst hc
        rw[if_neg (by simp)]at est ⊢
        obtain⟨qf,hfr⟩:=CI hqa
        unfold MaD.call at est
        simp only at est
        rw[if_neg hfr]at est
        have gf:=tD hg (p:=q.plugin) (k:=q.func) qf
        obtain⟨b1,b2,b3⟩:=hao
        obtain⟨b4,b5,b6,b7,b8,b9⟩:=b3 rfl
        have hG3:(⟨S2,⟨q.plugin,q.func,0,q.arg,[],[],true,q.gates⟩,m.below++[{m.top with pc:=m.top.pc+(1+A.length)+1}]⟩:MaD).Good ms:=by
         have g1:=hG.stk;have g2:=hG.few;have g3:=hG.mu
         refine⟨b1,⟨b7,b6,b8,b9,b4,by simp,by simp,b5⟩,by simp only;omega,?_,?_,?_⟩
         ·simp only[List.length_nil];omega
         ·simp only[List.length_nil];omega
         ·simp only[List.length_append,List.length_singleton];omega
        have hox3:=ie ms N q.plugin (cX ms q.plugin q.func) q.arg [] (m.below.length+1+1) S2 b1 b4 (by simp)
        have h3:=ih (cX ms q.plugin q.func) ⟨S2,⟨q.plugin,q.func,0,q.arg,[],[],true,q.gates⟩,m.below++[{m.top with pc:=m.top.pc+(1+A.length)+1}]⟩ hG3 (Nat.le_trans (Nat.le_of_eq hal) (Nat.le_trans hle hl1)) gf ⟨[],[⟨105,0,0⟩],by simp[d7],rfl⟩
        simp only[List.length_append,List.length_singleton]at h3
        rcases hq3:ofD ms N q.plugin (cX ms q.plugin q.func) q.arg [] (m.below.length+1+1) S2 with⟨S3,v3,c3⟩
        rw[hq3]at h3 hox3
        unfold fT at h3
        simp only at h3 ⊢
        by_cases hz:c3=0
        ·rw[if_neg (by simpa using hz)]at h3 ⊢
         have bst:=pJ (ms:=ms) (m:=MaD.after ⟨S2,⟨q.plugin,q.func,0,q.arg,[],[],true,q.gates⟩,m.below++[{m.top with pc:=m.top.pc+(1+A.length)+1}]⟩ S3 (ay (cX ms q.plugin q.func) 0).length [v3]) (c:=[]) (st:=[]) (v:=v3) ⟨ay (cX ms q.plugin q.func) 0,[],by simp[d7,MaD.after],by simp[MaD.after]⟩ rfl
         have ok3:Ok ms (MaD.after ⟨S2,⟨q.plugin,q.func,0,q.arg,[],[],true,q.gates⟩,m.below++[{m.top with pc:=m.top.pc+(1+A.length)+1}]⟩ S3 (ay (cX ms q.plugin q.func) 0).length [v3]):=
          bk.at (c:=[]) (x:=⟨105,0,0⟩) ⟨ay (cX ms q.plugin q.func) 0,[],by simp[d7,MaD.after],by simp[MaD.after]⟩ (hG3.after1 hox3 hz) ⟨by simp,by simp[MaD.after],by simp,by simp,by simp,by simp⟩
         simp only[MaD.after,if_true,pi]at bst
         generalize eQ q.gates v3 S3=q4 at bst ⊢
         unfold fT
         by_cases hz4:q4.2.2=0
         ·rw[if_neg (by simpa using hz4)]at bst ⊢
          intro r hr
          refine go2 r (.go ok2 est (h3 r (.go ok3 bst ?_)))
          simpa[MaD.after,Nat.add_assoc]using hr
         ·rw[if_pos hz4]at bst ⊢
          exact go2 _ (.go ok2 est (h3 _ (.fail ok3 bst)))
        ·rw[if_pos hz]at h3 ⊢
         exact fT.no hz (go2 _ (.go ok2 est h3))
       ·rw[if_pos hc]at est ⊢
        exact fT.no hc (go2 _ (.fail ok2 est))
      rw[if_neg o18,if_neg o19]at est ⊢
      rw[hlp,jV,j7]at est
      generalize bI m.top.plugin x.op x.k x.n l S'=q at est ⊢
      unfold fT
      unfold MaD.done MaD.push at est
      by_cases hz:q.2.2=0
      ·rw[if_neg (by simpa using hz)]at est ⊢
       intro r hr
       refine go2 r (.go ok2 est ?_)
       simpa only[MaD.after,Nat.add_assoc]using hr
      ·rw[if_pos hz]at est ⊢
       exact go2 _ (.fail ok2 est)
     ·rw[if_pos hc]at hL ⊢
      exact fT.no hc (go1 _ hL)
theorem eO {α:Type} {l:List α} (h:1≤l.length):∃ st v,l=st++[v]:=⟨l.dropLast,l.getLast (fun e=>by rw[e]at h;simp at h),(List.dropLast_concat_getLast _).symm⟩
theorem wX {α:Type} {l:List α} (h:2≤l.length):∃ st v w,l=st++[v]++[w]:=by
 obtain⟨st,w,rfl⟩:=eO (l:=l) (by omega)
 obtain⟨st,v,rfl⟩:=eO (l:=st) (by simp at h;omega)
 exact⟨st,v,w,rfl⟩
section
variable {h h' h0:AH} {F J F0 J0:Nat→Prop} {L:List Asn} {c:Cfg} {i:Nat} {n:Now}
abbrev Now.m (n:Now):MaD:=⟨n.S,n.top,n.below⟩
theorem bA.toI {st:List VD} {q:StD×VD×Int} {fr:AV ⊕ AV} (r:bA h0 F0 J0 c L i (n.stk st) q fr h'):Gm h0 F0 J0 c L i (MaD.done n.m st q) fr h':=by
 unfold MaD.done
 rcases r with⟨e,b,s⟩ | ⟨e,b,n',e2,s⟩
 ·rw[if_neg (by simpa using e)]
  exact⟨b,n.fb,s⟩
 ·rw[if_pos e]
  exact⟨b,n',e2,s⟩
theorem kY.toI {st:List VD} {q:StD×uf×Int} {fr:AV ⊕ AV} (r:kY h0 F0 J0 c L i (n.stk st) q fr h') (h20:q.2.2=0→n.below.length+1≠20):Gm h0 F0 J0 c L i (match q with
   | (S',q,k)=>if k≠0 then .fail S' k else MaD.call n.m S' st q.plugin q.func q.arg true q.gates) fr h':=by
 obtain⟨S',q,k⟩:=q
 rcases r with⟨e,b,fb,s⟩ | ⟨e,b,n',e2,s⟩
 ·simp only at e s h20 ⊢
  rw[if_neg (by simpa using e)]
  unfold MaD.call
  rw[if_neg (h20 e)]
  exact⟨b,fb,s⟩
 ·simp only at e b e2 s ⊢
  rw[if_pos e]
  exact⟨b,n',e2,s⟩
theorem Nl.toI {st:List VD} {k:Int} {v:VD} {fr:AV ⊕ AV} (r:Nl h0 F0 J0 c L i (n.stk st) k v fr h'):Gm h0 F0 J0 c L i (MaD.call n.m n.S st n.top.plugin k v false []) fr h':=by
 unfold MaD.call
 rcases r with⟨e,b,fb,s⟩ | ⟨e,b,s⟩
 ·rw[if_neg e]
  exact⟨b,fb,s⟩
 ·rw[if_pos e]
  exact⟨b,n.stk st,rfl,s⟩
theorem uY {ms:aN} {m:MaD} {op k x:Int} (h:¬ (op=1∨op=2∨op=3∨op=4∨op=21)) (h8:op≠18) (h9:op≠19):kD ms m ⟨op,k,x⟩=m.done (ma m.top.stack (aW op).toNat) (bI m.top.plugin op k x (kf m.top.stack (aW op).toNat) m.S):=by
 unfold kD
 have hl:d9 m.top.plugin (.mk op k x []) m.top.arg m.top.names m.S=none:=ju.2 h
 simp only
 rw[hl]
 simp only
 rw[if_neg h8,if_neg h9]
theorem Fi {ms:aN} {m:MaD} {op k x:Int} {v:VD} (h:d9 m.top.plugin (.mk op k x []) m.top.arg m.top.names m.S=some v):kD ms m ⟨op,k,x⟩=m.push m.S m.top.stack v:=by
 unfold kD
 simp only
 rw[h]
theorem oj {ms:aN} {st:List VD} {v:VD} {op k x:Int} (hst:n.top.stack=st++[v]) (h:¬ (op=1∨op=2∨op=3∨op=4∨op=21)) (h8:op≠18) (h9:op≠19) (hp:(aW op).toNat=1):kD ms n.m ⟨op,k,x⟩=MaD.done n.m st (bI n.top.plugin op k x [v] n.S):=by
 rw[uY h h8 h9,hp]
 simp only[hst,eu,gR]
theorem Jj {ms:aN} {st:List VD} {v w:VD} {op k x:Int} (hst:n.top.stack=st++[v]++[w]) (h:¬ (op=1∨op=2∨op=3∨op=4∨op=21)) (h8:op≠18) (h9:op≠19) (hp:(aW op).toNat=2):kD ms n.m ⟨op,k,x⟩=MaD.done n.m st (bI n.top.plugin op k x [v,w] n.S):=by
 rw[uY h h8 h9,hp]
 have e:n.top.stack=st++[v,w]:=by rw[hst,List.append_assoc];rfl
 have t:=jV st [v,w]
 have d:=j7 st [v,w]
 simp only[List.length_cons,List.length_nil,Nat.zero_add,reduceAdd]at t d
 simp only[e,t,d]
theorem nR {ms:aN} {v:VD} {op k x:Int} {h1:AH} (hl:d9 n.top.plugin (.mk op k x []) n.top.arg n.top.names n.S=some v) (s:St h0 F0 J0 h1 (put c L i (n.stk (n.top.stack++[v])))):Gm h0 F0 J0 c L i (kD ms n.m ⟨op,k,x⟩) (.inl (.tup [])) h1:=by
 rw[Fi hl]
 exact⟨rfl,n.fb,s⟩
theorem qd {st:List VD} {l:List VD} (hg:n.top.Good c.ms) (hst:n.top.stack=st++l) {v:VD} (hv:v∈l):v.code=0:=hg.stack v (by rw[hst];exact List.mem_append_right _ hv)
set_option maxHeartbeats 1000000 in
theorem NK (s:St h0 F0 J0 h L) (a:At c L i n) (o:OkR c n) (hg:n.top.Good c.ms) {x:aT} (hx:E0 n.m x) (hop:x.op<100):
  ∃ fr h',aj Try.prog po jH [.ptr c.mb 0 0,.agg (cr x)] h=some (fr,h')∧Gm h0 F0 J0 c L i (kD c.ms n.m x) fr h':=by
 obtain⟨op,k,m⟩:=x
 simp only at hop
 have hk:=hx.kind
 have hparts:=hx.parts hop
 have hvar:=hx.var
 simp only at hk hparts hvar
 obtain⟨P,hP⟩:=Int.eq_ofNat_of_zero_le hg.p0
 have hP4:P<4:=by
  have:=hg.there
  rw[hP]at this
  have this:(c.ms.getD P none).isSome=true:=this
  rcases Nat.lt_or_ge P 4 with h | h
  ·exact h
  ·rw[List.getD,List.getElem?_eq_none (by rw[o.ms];exact h)]at this
   cases this
 have pP:n.top.plugin.toNat=P:=by rw[hP];rfl
 have cases_:op=1∨op=2∨op=3∨op=4∨op=6∨op=8∨op=9∨op=10∨op=11∨op=12∨op=13∨op=14∨op=15∨op=16∨op=17∨op=18∨op=19∨op=20∨op=21:=by omega
 rcases cases_ with rfl | rfl | rfl | rfl | rfl | rfl | rfl | rfl | rfl | rfl | rfl | rfl | rfl | rfl | rfl | rfl | rfl | rfl | rfl
 ·obtain⟨h',e,s'⟩:=Kk s a o k m
  exact⟨_,h',e,nR rfl s'⟩
 ·obtain⟨h',e,s'⟩:=Km s a o k m
  exact⟨_,h',e,nR rfl s'⟩
 ·obtain⟨h',e,s'⟩:=Lv s a o k m
  exact⟨_,h',e,nR rfl s'⟩
 ·obtain⟨h',e,s'⟩:=KS s a o (hvar rfl) m
  exact⟨_,h',e,nR rfl s'⟩
 ·obtain⟨st,v,w,hst⟩:=wX (l:=n.top.stack) hparts
  obtain⟨fr,h',e,r⟩:=KK s a o hst k m
  exact⟨fr,h',e,by rw[Jj hst (by decide) (by decide) (by decide) rfl];exact r.toI⟩
 ·obtain⟨st,v,w,hst⟩:=wX (l:=n.top.stack) hparts
  obtain⟨fr,h',e,r⟩:=LE s a o hst k m
  exact⟨fr,h',e,by rw[Jj hst (by decide) (by decide) (by decide) rfl];exact r.toI⟩
 ·obtain⟨st,v,hst⟩:=eO (l:=n.top.stack) hparts
  obtain⟨fr,h',e,r⟩:=KG s a o hst (qd hg hst (by simp)) k m
  exact⟨fr,h',e,by rw[oj hst (by decide) (by decide) (by decide) rfl];exact r.toI⟩
 ·obtain⟨st,v,hst⟩:=eO (l:=n.top.stack) hparts
  obtain⟨fr,h',e,r⟩:=Gg s a o hst (qd hg hst (by simp)) k m
  exact⟨fr,h',e,by rw[oj hst (by decide) (by decide) (by decide) rfl];exact r.toI⟩
 ·obtain⟨st,v,hst⟩:=eO (l:=n.top.stack) hparts
  obtain⟨fr,h',e,r⟩:=IA s a o hst k m
  exact⟨fr,h',e,by rw[oj hst (by decide) (by decide) (by decide) rfl];exact r.toI⟩
 ·obtain⟨st,v,hst⟩:=eO (l:=n.top.stack) hparts
  obtain⟨fr,h',e,r⟩:=GC s a o hst (qd hg hst (by simp)) k m
  exact⟨fr,h',e,by rw[oj hst (by decide) (by decide) (by decide) rfl];exact r.toI⟩
 ·obtain⟨st,v,hst⟩:=eO (l:=n.top.stack) hparts
  obtain⟨fr,h',e,r⟩:=Ic s a o hst k m
  exact⟨fr,h',e,by rw[oj hst (by decide) (by decide) (by decide) rfl];exact r.toI⟩
 ·obtain⟨st,v,w,hst⟩:=wX (l:=n.top.stack) hparts
  obtain⟨fr,h',e,r⟩:=HE s a o hst k m
  exact⟨fr,h',e,by rw[Jj hst (by decide) (by decide) (by decide) rfl];exact r.toI⟩
 ·obtain⟨st,v,hst⟩:=eO (l:=n.top.stack) hparts
  obtain⟨fr,h',e,r⟩:=Jh s a o hst k m
  exact⟨fr,h',e,by rw[oj hst (by decide) (by decide) (by decide) rfl];exact r.toI⟩
 ·obtain⟨st,v,hst⟩:=eO (l:=n.top.stack) hparts
  obtain⟨fr,h',e,r⟩:=HK s a o hst k m
  exact⟨fr,h',e,by rw[oj hst (by decide) (by decide) (by decide) rfl];exact r.toI⟩
 ·obtain⟨st,v,hst⟩:=eO (l:=n.top.stack) hparts
  obtain⟨fr,h',e,r⟩:=Gn s a o hst k m
  exact⟨fr,h',e,by rw[oj hst (by decide) (by decide) (by decide) rfl];exact r.toI⟩
 ·obtain⟨st,v,hst⟩:=eO (l:=n.top.stack) hparts
  obtain⟨fr,h',e,r⟩:=IC s a o hst k m
  refine⟨fr,h',e,?_⟩
  have:kD c.ms n.m ⟨18,k,m⟩=MaD.call n.m n.S st n.top.plugin k v false []:=by
   unfold kD
   simp only
   have hl:d9 n.top.plugin (.mk 18 k m []) n.top.arg n.top.names n.S=none:=rfl
   rw[hl]
   simp only[hst,eu,gR,if_true]
   rfl
  rw[this]
  exact r.toI
 ·obtain⟨st,v,w,hst⟩:=wX (l:=n.top.stack) hparts
  obtain⟨fr,h',e,r⟩:=Jx s a o hst k m
  refine⟨fr,h',e,?_⟩
  have e2:n.top.stack=st++[v,w]:=by rw[hst,List.append_assoc];rfl
  have t:=jV st [v,w]
  have d:=j7 st [v,w]
  simp only[List.length_cons,List.length_nil,Nat.zero_add,reduceAdd]at t d
  have:kD c.ms n.m ⟨19,k,m⟩=match fp c.ms v w (n.below.length+1) n.S with
   | (S',q,k)=>if k≠0 then .fail S' k else MaD.call n.m S' st q.plugin q.func q.arg true q.gates:=by
   unfold kD
   simp only
   have hl:d9 n.top.plugin (.mk 19 k m []) n.top.arg n.top.names n.S=none:=rfl
   rw[hl]
   simp only[e2,t,d,if_true]
   rw[if_neg (by decide)]
   rfl
  rw[this]
  refine kY.toI (q:=fp c.ms v w (n.below.length+1) n.S) r fun h0=> ?_
  exact(CI (S':=(fp c.ms v w (n.below.length+1) n.S).1) (q:=(fp c.ms v w (n.below.length+1) n.S).2.1) (by rw[←h0])).2
 ·obtain⟨st,v,hst⟩:=eO (l:=n.top.stack) hparts
  obtain⟨fr,h',e,r⟩:=IG s a o hst hP hP4 k m
  exact⟨fr,h',e,by rw[oj hst (by decide) (by decide) (by decide) rfl];exact r.toI⟩
 ·obtain⟨h',e,s'⟩:=Hw s a o hP hP4 k m
  refine⟨_,h',e,nR ?_ s'⟩
  show some (n.S.kept.getD n.top.plugin.toNat au)=_
  rw[pP]
end
def lh (c:Cfg) (L:List Asn) (i fb:Nat) (S:StD):List Asn:=(put c L i ⟨fb,S,[],⟨0,0,0,au,[],[],false,[]⟩⟩).set i (AY c.mb c.bb fb (S.left:Int))
theorem Kh {c:Cfg} {L:List Asn} {i:Nat} {n n':Now} {X:Asn} (hS:n.S=n'.S):(put c L i n).set i X=(put c L i n').set i X:=by
 refine kt fun j=> ?_
 rw[List.getElem?_set,List.getElem?_set,qP,qP,fD,fD,hS]
 by_cases hj:i=j
 ·rw[if_pos hj,if_pos hj]
 ·rw[if_neg hj,if_neg hj,if_neg (show ¬ j=i from Ne.symm hj),if_neg (show ¬ j=i from Ne.symm hj)]
theorem Do {c:Cfg} {L:List Asn} {i fb:Nat} {n:Now}:(put c L i n).set i (AY c.mb c.bb fb (n.S.left:Int))=lh c L i fb n.S:=Kh rfl
def xu (h0:AH) (F0 J0:Nat→Prop) (c:Cfg) (L:List Asn) (i:Nat) (q:i8) (fr:AV ⊕ AV) (h':AH):Prop:=match q with
 | .go m=>∃ r,fr= .inl (.tup [.agg r,.bool false])∧(r.length=3∧r.all AV.one=true)∧∃ fb',St h0 F0 J0 h' (put c L i ⟨fb',m.S,m.below,m.top⟩)
 | .fail S k=>fr= .inr (.iface tGo (.int .i64 k))∧∃ n':Now,n'.S=S∧St h0 F0 J0 h' (put c L i n')
 | .over S v=>∃ r,fr= .inl (.tup [.agg r,.bool true])∧VaA v r∧∃ fb',St h0 F0 J0 h' (lh c L i fb' S)
abbrev Pc:FuncId:=85
section
variable {h h' h0:AH} {F J F0 J0:Nat→Prop} {L:List Asn} {c:Cfg} {i:Nat} {n:Now}
theorem HH {α:Type} (l:List α):l=[]∨∃ a t,l=a++[t]:=by
 rcases Nat.eq_zero_or_pos l.length with h | h
 ·exact .inl (List.length_eq_zero_iff.1 h)
 ·obtain⟨a,t,e⟩:=eO (l:=l) h
  exact .inr ⟨a,t,e⟩
theorem Al {hA:AH} {LA:List Asn} {iA:Nat} {nA:Now} (s:St h0 F0 J0 hA LA) (a:At c LA iA nA) (hb:nA.below.length≤100) (ht:∀ t,nA.below.getLast? =some t→t.stack.length≤100000) {v:VD} {r:List AV} (hv:VaA v r):
  (∀ k:Nat,aE false k hA (.ptr c.mb 0 1)=some (.msl nA.fb 0 (nA.below.length+1) tFr))∧
  ((nA.below=[]∧∃ h1,aJ 1 hA (.ptr c.mb 0 1) (.msl nA.fb 0 nA.below.length tFr)=some h1∧(∀ k:Nat,aE false k h1 (.ptr c.mb 0 1)=some (.msl nA.fb 0 nA.below.length tFr))∧St h0 F0 J0 h1 (LA.set iA (AY c.mb c.bb nA.fb (nA.S.left:Int))))∨
   (∃ bl t,nA.below=bl++[t]∧∃ h1 h2,aJ 1 hA (.ptr c.mb 0 1) (.msl nA.fb 0 nA.below.length tFr)=some h1∧(∀ k:Nat,aE false k h1 (.ptr c.mb 0 1)=some (.msl nA.fb 0 nA.below.length tFr))∧St h0 F0 J0 h1 (put c LA iA ⟨nA.fb,nA.S,bl,t⟩)∧
      aj Try.prog po fPu [.ptr c.mb 0 0,.agg r] h1=some (.inl (.tup []),h2)∧St h0 F0 J0 h2 (put c LA iA ⟨nA.fb,nA.S,bl,{t with stack:=t.stack++[v]}⟩))):=by
 obtain⟨_,_,_,_,mv⟩:=dA s iA a.m
 refine⟨fun k=>by rw[bD,mv.m];rfl,?_⟩
 rcases HH nA.below with hn | ⟨bl,t,hn⟩
 ·refine .inl ⟨hn,?_⟩
  have am:=a.m
  rw[hn]at am ⊢
  obtain⟨h1,e1,s1⟩:=LW s iA am
  refine⟨h1,e1,fun k=> ?_,s1⟩
  have hl:iA<LA.length:=(List.getElem?_eq_some_iff.1 am).1
  have hc:=(s1.cell iA (by rw[List.getElem?_set_self hl];rfl)).1
  rw[bD,hc];rfl
 ·refine .inr ⟨bl,t,hn,?_⟩
  have am:=a.m
  rw[hn]at am
  obtain⟨h1,e1,s1⟩:=GT s iA am
  rw[a.setM]at s1
  have a1:=a.put ⟨nA.fb,nA.S,bl,t⟩
  obtain⟨_,_,_,_,mv1⟩:=dA s1 iA a1.m
  have hlen:nA.below.length=bl.length+1:=by rw[hn];simp
  obtain⟨h2,e2,s2⟩:=dx s1 a1 (by simp only;omega) (ht t (by rw[hn];simp)) hv
  rw[aR]at s2
  exact⟨h1,h2,by rw[hlen];exact e1,fun k=>by rw[bD,mv1.m,hlen];rfl,s1,e2,s2⟩
theorem zh {gates:List Int} {v:VD} {S:StD}:eQ gates v S=if(aV gates S.G v).2.2≠0 then({S with G:=(aV gates S.G v).1}:StD).no (aV gates S.G v).2.2 else({S with G:=(aV gates S.G v).1}:StD).ok (aV gates S.G v).2.1:=rfl
theorem xN {st:List VD} {v:VD} (hst:n.top.stack=st++[v]):MaD.back n.m=(if(if n.top.asked then eQ n.top.gates v n.S else n.S.ok v).2.2≠0 then .fail (if n.top.asked then eQ n.top.gates v n.S else n.S.ok v).1 (if n.top.asked then eQ n.top.gates v n.S else n.S.ok v).2.2
  else match n.below.getLast? with
  | none=> .over (if n.top.asked then eQ n.top.gates v n.S else n.S.ok v).1 (if n.top.asked then eQ n.top.gates v n.S else n.S.ok v).2.1
  | some t=> .go ⟨(if n.top.asked then eQ n.top.gates v n.S else n.S.ok v).1,{t with stack:=t.stack++[(if n.top.asked then eQ n.top.gates v n.S else n.S.ok v).2.1]},n.below.dropLast⟩):=by
 unfold MaD.back
 simp only[hst,eu,List.getD_cons_zero]
 rfl
set_option maxRecDepth 100000 in
set_option maxHeartbeats 2000000 in
theorem J9 (s:St h0 F0 J0 h L) (a:At c L i n) (o:OkR c n) {st:List VD} {v:VD} (hst:n.top.stack=st++[v]) (hgf:n.top.gates.length≤80) (hgo:∀ m',MaD.back n.m= .go m'→m'.top.stack.length≤100000):
  ∃ fr h',aj Try.prog po Pc [.ptr c.mb 0 0] h=some (fr,h')∧xu h0 F0 J0 c L i (MaD.back n.m) fr h':=by
 have ht0:n.top.asked=false→∀ t,n.below.getLast? =some t→t.stack.length≤100000:=fun hk t ht=>by
  rw[xN hst,hk]at hgo
  simp only[Bool.false_eq_true,if_false]at hgo
  rw[if_neg (by simp[StD.ok]),ht]at hgo
  have:=hgo _ rfl
  simp at this
  omega
 have ht1:n.top.asked=true→(aV n.top.gates n.S.G v).2.2=0→∀ t,n.below.getLast? =some t→t.stack.length≤100000:=fun hk hc t ht=>by
  have hb:(eQ n.top.gates v n.S).2.2=0:=by rw[zh,if_neg (fun e=>e hc)];rfl
  rw[xN hst,hk]at hgo
  simp only[if_true]at hgo
  rw[if_neg (fun e=>e hb),ht]at hgo
  have:=hgo _ rfl
  simp at this
  omega
 clear hgo
 rw[xN hst]
 have s0:=s.push [zR3]
 have a0:=a.cons (ai h.n [zR3])
 obtain⟨h2,r,e2,hv,s2,a2⟩:=fE s0 a0 o hst
 have o3:=o.stk' hst
 rw[ap]at s2 a2
 obtain⟨o1,o2⟩:=hv.len3
 have s3:=s2.push [r]
 have a3:=a2.cons (ai h2.n [r])
 obtain⟨tp,_⟩:=cK s3 a3 o.below
 obtain⟨ar,sv,nv,g,mv⟩:=dA s3 (i+1+1) a3.m
 have lall:=mv.all
 have hgo:g.one=true:=by
  have:=mv.hg
  rcases this with⟨_,rfl⟩ | ⟨id,rfl⟩<;>rfl
 have hga:SlA 3 g (bq n.top.gates):=mv.hg
 have g6:=ct (n.stk st).top ar sv nv g mv.ha.len3.1
 have g7:=oS (f:=(n.stk st).top) (g:=g) mv.ha.len3 mv.sv.1 mv.nv.1 hgo
 generalize cS (n.stk st).top ar sv nv g=row at*
 have s4:St h0 F0 J0 _ (ai (h2.n+1) [row]::ai h2.n [r]::ai h.n [zR3]::put c L i (n.stk st)):=s3.push [row]
 have a4:=a3.cons (ai (h2.n+1) [row])
 have c1:=(s4.cell 0 rfl).1
 have c2:=(s4.cell 1 rfl).1
 have wl:IntKind.wrap .i64 (((n.below.length+1:Nat):Int) - 1)=(n.below.length:Int):=Ci (by omega) (by have:=o.below;omega) (by have:=o.below;omega)
 have sl:=xX (e:=tFr) (b:=n.fb) (n:=n.below.length+1) (m:=n.below.length) (by omega)
 have fm:aI 1 (.ptr c.mb 0 0)=some (.ptr c.mb 0 1):=rfl
 have r8:row[8]? =some (.bool n.top.asked):=g6.2.2.2.2.1
 have r9:row[9]? =some g:=g6.2.2.2.1
 have rl:row.length=10:=g6.2.1
 clear g6
 cases hask:n.top.asked with
 | false=>
   rw[hask]at r8
   simp only[Bool.false_eq_true,if_false,StD.ok]
   rw[if_neg (by simp)]
   obtain⟨ld,hfin⟩:=Al s4 a4 o.below (ht0 hask) hv
   rcases hfin with⟨hb0,h1,e5,l5,s5⟩ | ⟨bl,t,hbl,h1,h5,e5,l5,s5,e6,s6⟩
   ·have hb0:n.below=[]:=hb0
    rw[hb0]
    have s5':St h0 F0 J0 h1 (ai (h2.n+1) [row]::ai h2.n [r]::ai h.n [zR3]::(put c L i (n.stk st)).set i (AY c.mb c.bb n.fb (n.S.left:Int))):=s5
    have d1:=(s5'.cell 1 rfl).1
    have d2:=(s5'.cell 2 rfl).1
    have s6:=s5'.set 2 rfl [r]
    have d3:=(s6.cell 2 rfl).1
    refine⟨.inl (.tup [.agg r,.bool true]),_,?_,r,rfl,hv,n.fb,by have:=s6.drop.drop.drop;rw[←Do (n:=n.stk st)];exact this⟩
    have dz:decide ((n.below.length:Int)=0)=true:=decide_eq_true (by rw[hb0];rfl)
    refine ah lT rfl ?_;unfold jT
    simp only[sim,ag,reduceAdd,reduceSub,replicate,reduceCtorEq,reduceLeDiff,reduceLT,aa,az,e2,o1,o2,tp,lall,rl,g7,c1,c2,r8,fm,ld,wl,sl,e5,l5,dz,d1,d2,d3,oU,oH]
   ·have hbl:n.below=bl++[t]:=hbl
    have hlen:n.below.length=bl.length+1:=by rw[hbl];simp
    have hlast:n.below.getLast? =some t:=by rw[hbl];simp
    have hdrop:n.below.dropLast=bl:=by rw[hbl];simp
    rw[hlast,hdrop]
    have s5':St h0 F0 J0 h1 (ai (h2.n+1) [row]::ai h2.n [r]::ai h.n [zR3]::put c (put c L i (n.stk st)) i ⟨n.fb,n.S,bl,t⟩):=s5
    have s6':St h0 F0 J0 h5 (ai (h2.n+1) [row]::ai h2.n [r]::ai h.n [zR3]::put c (put c L i (n.stk st)) i ⟨n.fb,n.S,bl,{t with stack:=t.stack++[v]}⟩):=s6
    have d1:=(s5'.cell 1 rfl).1
    have d2:=(s6'.cell 1 rfl).1
    have d3:=(s6'.cell 2 rfl).1
    have s7:=s6'.set 2 rfl [r]
    have d4:=(s7.cell 2 rfl).1
    refine⟨.inl (.tup [.agg r,.bool false]),_,?_,r,rfl,hv.len3,n.fb,by have:=s7.drop.drop.drop;rw[aR]at this;exact this⟩
    have dz:decide ((n.below.length:Int)=0)=false:=decide_eq_false (by rw[hlen];omega)
    refine ah lT rfl ?_;unfold jT
    simp only[sim,ag,reduceAdd,reduceSub,replicate,reduceCtorEq,reduceLeDiff,reduceLT,aa,az,e2,o1,o2,tp,lall,rl,g7,c1,c2,r8,fm,ld,wl,sl,e5,l5,dz,d1,e6,d2,d3,d4,oU,oH]
 | true=>
   rw[hask]at r8
   simp only[if_true]
   have ht2:=ht1 hask
   clear ht0 ht1
   rw[zh]
   obtain⟨l0,l1,_⟩:=db s4 a4 o.len
   have f0:aI 0 (.ptr c.mb 0 0)=some (.ptr c.mb 0 0):=rfl
   have f1:aI 0 (.ptr c.bb 0 0)=some (.ptr c.bb 0 0):=rfl
   obtain⟨h5,⟨y,e5,hy⟩,s5⟩:=lz s4 a4 (R:=fun h'=>∃ r',aj Try.prog po 106 [.ptr c.gb 0 0,.agg r,g] ((h2.push [r]).push [row])=some (.inl (.tup [.agg r',.int .i64 (aV n.top.gates n.S.G v).2.2]),h')∧VaA (aV n.top.gates n.S.G v).2.1 r') fun F J gx=>rL gx o.S.wf hv hga (by omega)
   generalize aV n.top.gates n.S.G v=q at*
   obtain⟨G',v',cc⟩:=q
   simp only at e5 hy s5 ⊢
   rw[ap,ap,ap,aR]at s5
   obtain⟨z1,z2⟩:=hy.len3
   have a5:=(((a.put {(n.stk st)with S:={n.S with G:=G'}}).cons (ai h.n [zR3])).cons (ai h2.n [r])).cons (ai (h2.n+1) [row])
   have s6:=s5.push [zR3]
   have a6:=a5.cons (ai h5.n [zR3])
   obtain⟨n0,n1,_⟩:=db s6 a6 o.len
   have d0:=(s6.cell 1 rfl).1
   have d1:=(s6.cell 2 rfl).1
   have s7:=s5.push [y]
   have a7:=a5.cons (ai h5.n [y])
   have d2:=(s7.cell 0 rfl).1
   have d3:=(s7.cell 2 rfl).1
   by_cases hcc:cc=0
   ·subst hcc
    rw[if_neg (fun h=>h rfl)]
    simp only[StD.ok]
    rw[if_neg (by simp)]
    have d5:decide ((0:Int)=0)=true:=rfl
    have s8:St h0 F0 J0 _ (ai h5.n [y]::ai (h2.n+1) [row]::ai h2.n [y]::ai h.n [zR3]::put c L i {(n.stk st)with S:={n.S with G:=G'}}):=s7.set 2 rfl [y]
    have a8:=(((a.put {(n.stk st)with S:={n.S with G:=G'}}).cons (ai h.n [zR3])).cons (ai h2.n [y])).cons (ai (h2.n+1) [row]) |>.cons (ai h5.n [y])
    obtain⟨ld,hfin⟩:=Al s8 a8 o.below (ht2 rfl) hy
    rcases hfin with⟨hb0,h1,e9,l9,s9⟩ | ⟨bl,t,hbl,h1,h9,e9,l9,s9,e10,s10⟩
    ·have hb0:n.below=[]:=hb0
     rw[hb0]
     have s9':St h0 F0 J0 h1 (ai h5.n [y]::ai (h2.n+1) [row]::ai h2.n [y]::ai h.n [zR3]::(put c L i {(n.stk st)with S:={n.S with G:=G'}}).set i (AY c.mb c.bb n.fb (n.S.left:Int))):=s9
     have g1:=(s9'.cell 2 rfl).1
     have g2:=(s9'.cell 3 rfl).1
     have s11:=s9'.set 3 rfl [y]
     have g3:=(s11.cell 3 rfl).1
     refine⟨.inl (.tup [.agg y,.bool true]),_,?_,y,rfl,hy,n.fb,by have:=s11.drop.drop.drop.drop;rw[←Do (n:={(n.stk st)with S:={n.S with G:=G'}})];exact this⟩
     have dz:decide ((n.below.length:Int)=0)=true:=decide_eq_true (by rw[hb0];rfl)
     refine ah lT rfl ?_;unfold jT
     simp only[sim,ag,reduceAdd,reduceSub,replicate,reduceCtorEq,reduceLeDiff,reduceLT,aa,az,e2,o1,o2,tp,lall,rl,g7,c1,c2,r8,r9,fm,f0,f1,l0,l1,e5,n0,n1,d0,d1,d2,d3,d5,cb,z1,z2,ld,wl,sl,e9,l9,dz,g1,g2,g3,oU,oH]
    ·have hbl:n.below=bl++[t]:=hbl
     have hlen:n.below.length=bl.length+1:=by rw[hbl];simp
     have hlast:n.below.getLast? =some t:=by rw[hbl];simp
     have hdrop:n.below.dropLast=bl:=by rw[hbl];simp
     rw[hlast,hdrop]
     have s9':St h0 F0 J0 h1 (ai h5.n [y]::ai (h2.n+1) [row]::ai h2.n [y]::ai h.n [zR3]::put c (put c L i {(n.stk st)with S:={n.S with G:=G'}}) i ⟨n.fb,{n.S with G:=G'},bl,t⟩):=s9
     have s10':St h0 F0 J0 h9 (ai h5.n [y]::ai (h2.n+1) [row]::ai h2.n [y]::ai h.n [zR3]::put c (put c L i {(n.stk st)with S:={n.S with G:=G'}}) i ⟨n.fb,{n.S with G:=G'},bl,{t with stack:=t.stack++[v']}⟩):=s10
     have g1:=(s9'.cell 2 rfl).1
     have g2:=(s10'.cell 2 rfl).1
     have g3:=(s10'.cell 3 rfl).1
     have s11:=s10'.set 3 rfl [y]
     have g4:=(s11.cell 3 rfl).1
     refine⟨.inl (.tup [.agg y,.bool false]),_,?_,y,rfl,hy.len3,n.fb,by have:=s11.drop.drop.drop.drop;rw[aR]at this;exact this⟩
     have dz:decide ((n.below.length:Int)=0)=false:=decide_eq_false (by rw[hlen];omega)
     refine ah lT rfl ?_;unfold jT
     simp only[sim,ag,reduceAdd,reduceSub,replicate,reduceCtorEq,reduceLeDiff,reduceLT,aa,az,e2,o1,o2,tp,lall,rl,g7,c1,c2,r8,r9,fm,f0,f1,l0,l1,e5,n0,n1,d0,d1,d2,d3,d5,cb,z1,z2,ld,wl,sl,e9,l9,dz,g1,e10,g2,g3,g4,oU,oH]
   ·rw[if_pos hcc,if_pos (show((({n.S with G:=G'}:StD).no cc).2.2≠0) from hcc)]
    simp only[StD.no]
    have d5:decide (cc=0)=false:=decide_eq_false hcc
    refine⟨_,_,?_,rfl,{(n.stk st)with S:={n.S with G:=G'}},rfl,s7.drop.drop.drop.drop⟩
    refine ah lT rfl ?_;unfold jT
    simp only[sim,ag,reduceAdd,reduceSub,replicate,reduceCtorEq,reduceLeDiff,reduceLT,aa,az,e2,o1,o2,tp,lall,rl,g7,c1,c2,r8,r9,fm,f0,f1,l0,l1,e5,n0,n1,d0,d1,d2,d3,d5,bP,z1,z2]
end
abbrev tFs:TypeId:=158
abbrev Kg:TypeId:=169
abbrev Ad:FuncId:=48
abbrev zI3:List AV:=[.int .i64 0,.int .i64 0,.int .i64 0]
theorem IR {ms:aN} {p f:Int} {L:List XD} {F:Nat} (hL:ms.getD p.toNat none=some L) (hf:f=(F:Int)):d7 ms p f=ay (L.getD F cB) 0++[⟨105,0,0⟩]:=by
 unfold d7 cX cI
 rw[hL,hf]
 rfl
theorem Jp {L:List XD} {F pc:Nat} {x:aT} (hf:F<L.length) (hx:(ay (L.getD F cB) 0++[(⟨105,0,0⟩:aT)])[pc]? =some x):
  ∃ row lv,(∀ q,bT (some tFs) none (eD L) (.int q (F:Int))=some (.ip row 0))∧(∀ k,ldA false k row 0=some lv)∧(∀ q,bT (some Kg) none lv (.int q (pc:Int))=some (.ip (cr x) 0))∧ldA true 3 (cr x) 0=some (.agg (cr x)):=by
 have e1:L[F]? =some L[F]:=List.getElem?_eq_getElem hf
 have e2:L.getD F cB=L[F]:=by simp[List.getD,hf]
 rw[e2]at hx
 refine⟨[.isl none Kg ((ay L[F] 0++[(⟨105,0,0⟩:aT)]).map cr)],.isl none Kg ((ay L[F] 0++[(⟨105,0,0⟩:aT)]).map cr),fun q=> ?_,fun k=> ?_,fun q=> ?_,bo rfl⟩
 ·exact xS (q:=q) rfl (by rw[List.getElem?_map,e1];rfl)
 ·rw[fL];rfl
 ·exact xS (q:=q) rfl (by rw[List.getElem?_map,hx];rfl)
structure NF (hh:AH) (c:Cfg) (n:Now) (P F:Nat) (L:List XD):Prop where
 m:∀ k:Nat,aE false k hh (.ptr c.mb 0 0)=some (.ptr c.bb 0 0)
 p:∀ k:Nat,aE false k hh (.ptr n.fb n.below.length 0)=some (.int .i64 (P:Int))
 cd:∀ k:Nat,aE false k hh (.ptr c.bb 0 (2+P*5+1))=some (eD L)
 f:∀ k:Nat,aE false k hh (.ptr n.fb n.below.length 1)=some (.int .i64 (F:Int))
 pc:∀ k:Nat,aE false k hh (.ptr n.fb n.below.length 2)=some (.int .i64 (n.top.pc:Int))
 ix:∀ q:IntKind,bT none (some (4,5)) (.ptr c.bb 0 2) (.int q (P:Int))=some (.ptr c.bb 0 (2+P*5))
section
variable {h h' h0:AH} {F J F0 J0:Nat→Prop} {L:List Asn} {c:Cfg} {i:Nat} {n:Now}
theorem wU (s:St h0 F0 J0 h L) (a:At c L i n) (o:OkR c n) {P K:Nat} {Ls:List XD} (hP:n.top.plugin=(P:Int)) (hF:n.top.f=(K:Int)) (hP4:P<4) (hL:c.ms.getD P none=some Ls):NF h c n P K Ls:=by
 obtain⟨l0,_,_⟩:=db s a o.len
 obtain⟨ar,sv,nv,g,mv⟩:=dA s i a.m
 have g6:=ct n.top ar sv nv g mv.ha.len3.1
 obtain⟨ix,cd,_⟩:=nQ s a o hP4
 rw[hL]at cd
 exact⟨l0,fun k=>by rw[←hP];exact mv.rd k 0 _ g6.2.2.2.2.2.1,cd,fun k=>by rw[←hF];exact mv.rd k 1 _ g6.2.2.2.2.2.2.1,fun k=>mv.rd k 2 _ g6.2.2.2.2.2.2.2,ix⟩
abbrev Now.at (n:Now) (k:Nat):Now:={n with top:={n.top with pc:=k}}
structure Me (h0:AH) (F0 J0:Nat→Prop) (h h3:AH) (c:Cfg) (L:List Asn) (i:Nat) (n:Now) (P K:Nat) (Ls:List XD) (x:aT):Prop where
 s:St h0 F0 J0 h3 (ai (h.n+1) [cr x]::ai h.n [zR3]::put c L i (n.at (n.top.pc+1)))
 a:At c (ai (h.n+1) [cr x]::ai h.n [zR3]::put c L i (n.at (n.top.pc+1))) (i+1+1) (n.at (n.top.pc+1))
 o:OkR c (n.at (n.top.pc+1))
 tp:aj Try.prog po HP [.ptr c.mb 0 0] (h.push [zR3])=some (.inl (.ptr n.fb n.below.length 0),h.push [zR3])
 e1:NF (h.push [zR3]) c n P K Ls
 e2:NF ((h.push [zR3]).push [zI3]) c n P K Ls
 e3:∀ k:Nat,aE false k ((h.push [zR3]).push [cr x]) (.ptr n.fb n.below.length 2)=some (.int .i64 (n.top.pc:Int))
 w:IntKind.wrap .i64 ((n.top.pc:Int)+1)=((n.top.pc+1:Nat):Int)
 st:aJ 1 ((h.push [zR3]).push [cr x]) (.ptr n.fb n.below.length 2) (.int .i64 ((n.top.pc+1:Nat):Int))=some h3
 cx:h3.cell (h.n+1)=some [cr x]
theorem HS (s:St h0 F0 J0 h L) (a:At c L i n) (o:OkR c n) (hm:kz c.ms) {P K:Nat} {Ls:List XD} (hP:n.top.plugin=(P:Int)) (hF:n.top.f=(K:Int)) (hP4:P<4) (hL:c.ms.getD P none=some Ls) (hpc:n.top.pc<(d7 c.ms n.top.plugin n.top.f).length) (x:aT):∃ h3,Me h0 F0 J0 h h3 c L i n P K Ls x:=by
 have s1:=s.push [zR3]
 have a1:=a.cons (ai h.n [zR3])
 obtain⟨tp,_⟩:=cK s1 a1 o.below
 have e1:=wU s1 a1 o hP hF hP4 hL
 have s2:=s1.push [zI3]
 have a2:=a1.cons (ai (h.push [zR3]).n [zI3])
 have e2:=wU s2 a2 o hP hF hP4 hL
 have s3:St h0 F0 J0 ((h.push [zR3]).push [cr x]) (ai (h.n+1) [cr x]::ai h.n [zR3]::L):=s1.push [cr x]
 have a3:=a1.cons (ai (h.n+1) [cr x])
 have e3:=wU s3 a3 o hP hF hP4 hL
 obtain⟨h4,e4,s4⟩:=AR s3 (i+1+1) a3.m (n.top.pc+1)
 rw[a3.setM]at s4
 have s5:St h0 F0 J0 h4 (ai (h.n+1) [cr x]::ai h.n [zR3]::put c L i (n.at (n.top.pc+1))):=s4
 have b:=hm n.top.plugin n.top.f
 exact⟨h4,s5,((a.put _).cons _).cons _,⟨o.ms,o.S,o.below,o.stk,o.nms,o.log⟩,tp,e1,e2,e3.pc,Ci (by omega) (by omega) (by omega),e4,(s5.cell 0 rfl).1⟩
theorem pL {A B:Asn} {n':Now}:put c (A::B::L) (i+1+1) n'=A::B::put c L i n':=rfl
structure jL (h0:AH) (F0 J0:Nat→Prop) (h:AH) (c:Cfg) (L:List Asn) (i:Nat) (n:Now) (x:aT):Prop where
 s:St h0 F0 J0 h L
 a:At c L i n
 o:OkR c n
 hm:kz c.ms
 ok:Ok c.ms n.m
 get:(d7 c.ms n.top.plugin n.top.f).getD n.top.pc oo=x
theorem jL.pre {x:aT} (b:jL h0 F0 J0 h c L i n x):∃ (h3:AH) (P K:Nat) (Ls:List XD) (row:List AV) (lv:AV),Me h0 F0 J0 h h3 c L i n P K Ls x∧(∀ q,bT (some tFs) none (eD Ls) (.int q (K:Int))=some (.ip row 0))∧(∀ k,ldA false k row 0=some lv)∧(∀ q,bT (some Kg) none lv (.int q (n.top.pc:Int))=some (.ip (cr x) 0))∧ldA true 3 (cr x) 0=some (.agg (cr x)):=by
 have hg:=b.ok.good.top
 obtain⟨P,hP⟩:=Int.eq_ofNat_of_zero_le hg.p0
 obtain⟨K,hK⟩:=Int.eq_ofNat_of_zero_le hg.f0
 have hP:n.top.plugin=(P:Int):=hP
 have hK:n.top.f=(K:Int):=hK
 have hth:=hg.there
 have pP:n.top.plugin.toNat=P:=by rw[hP];rfl
 have hP4:P<4:=by
  rcases Nat.lt_or_ge P 4 with h | h
  ·exact h
  ·have hth:(c.ms.getD n.top.plugin.toNat none).isSome=true:=hth
   rw[pP,List.getD,List.getElem?_eq_none (by rw[b.o.ms];exact h)]at hth
   cases hth
 obtain⟨Ls,hL⟩:=Option.isSome_iff_exists.1 hth
 have hL:c.ms.getD n.top.plugin.toNat none=some Ls:=hL
 have hpc:n.top.pc<(d7 c.ms n.top.plugin n.top.f).length:=b.ok.pc
 have hf1:n.top.f.toNat<(cI c.ms n.top.plugin).length:=hg.f1
 have hKl:K<Ls.length:=by
  have e:n.top.f.toNat=K:=by rw[hK];rfl
  rw[e]at hf1
  unfold cI at hf1
  rw[hL]at hf1
  exact hf1
 obtain⟨h3,p⟩:=HS b.s b.a b.o b.hm hP hK hP4 (by rw[←pP];exact hL) hpc x
 have hx:(ay (Ls.getD K cB) 0++[(⟨105,0,0⟩:aT)])[n.top.pc]? =some x:=by
  rw[←IR hL hK]
  have:=b.get
  rw[List.getD,List.getElem?_eq_getElem hpc]at this
  rw[List.getElem?_eq_getElem hpc]
  exact congrArg some this
 obtain⟨row,lv,q1,q2,q3,q4⟩:=Jp hKl hx
 exact⟨h3,P,K,Ls,row,lv,p,q1,q2,q3,q4⟩
set_option maxRecDepth 100000 in
set_option maxHeartbeats 2000000 in
theorem Cr {k m:Int} (b:jL h0 F0 J0 h c L i n ⟨100,k,m⟩):∃ fr h',aj Try.prog po Ad [.ptr c.mb 0 0] h=some (fr,h')∧xu h0 F0 J0 c L i (if n.S.left=0 then .fail n.S 12 else .go ⟨n.S.tick,(n.at (n.top.pc+1)).top,n.below⟩) fr h':=by
 obtain⟨h3,P,K,Ls,row,lv,p,q1,q2,q3,q4⟩:=b.pre
 have f0:aI 0 (.ptr c.mb 0 0)=some (.ptr c.mb 0 0):=rfl
 have f1:aI 2 (.ptr c.bb 0 0)=some (.ptr c.bb 0 2):=rfl
 have f2:aI 0 (.ptr n.fb n.below.length 0)=some (.ptr n.fb n.below.length 0):=rfl
 have f3:aI 1 (.ptr c.bb 0 (2+P*5))=some (.ptr c.bb 0 (2+P*5+1)):=rfl
 have f4:aI 1 (.ptr n.fb n.below.length 0)=some (.ptr n.fb n.below.length 1):=rfl
 have f5:aI 2 (.ptr n.fb n.below.length 0)=some (.ptr n.fb n.below.length 2):=rfl
 have f6:aI 2 (.ptr c.mb 0 0)=some (.ptr c.mb 0 2):=rfl
 have f7:aI 7 (.ptr n.fb n.below.length 0)=some (.ptr n.fb n.below.length 7):=rfl
 obtain⟨ar,sv,nv,g,mv⟩:=dA p.s (i+1+1) p.a.m
 have ll:∀ k:Nat,aE false k h3 (.ptr c.mb 0 2)=some (.int .i64 (n.S.left:Int)):=fun k=>by rw[bD,mv.m];rfl
 by_cases hl:n.S.left=0
 ·rw[if_pos hl]
  refine⟨_,_,?_,rfl,n.at (n.top.pc+1),rfl,p.s.drop.drop⟩
  have d:decide ((n.S.left:Int)=0)=true:=decide_eq_true (by omega)
  refine ah dQ rfl ?_;unfold dt
  simp only[sim,ag,reduceAdd,reduceSub,replicate,reduceCtorEq,reduceLeDiff,reduceLT,aa,az,Int.reduceEq,decide_false,decide_true,p.tp,p.e1.m,p.e1.p,p.e1.cd,p.e1.f,p.e1.pc,p.e1.ix,p.e2.m,p.e2.p,p.e2.cd,p.e2.f,p.e2.pc,p.e3,p.w,p.st,p.cx,q1,q2,q3,q4,f0,f1,f2,f3,f4,f5,f6,f7,ll,d,bP]
 ·rw[if_neg hl]
  have d:decide ((n.S.left:Int)=0)=false:=decide_eq_false (by omega)
  have hb:=b.ok.good.stk
  have hb:n.top.stack.length+n.S.left≤100000:=hb
  have w:IntKind.wrap .i64 ((n.S.left:Int) - 1)=((n.S.left - 1:Nat):Int):=Ci (by omega) (by omega) (by omega)
  obtain⟨h4,e4,s4⟩:=Hm p.s (i+1+1) p.a.m ((n.S.left - 1:Nat):Int)
  rw[p.a.setM,pL,aR]at s4
  have s5:=s4.set 1 rfl [zR3]
  have c4:=(s4.cell 1 rfl).1
  have c5:=(s5.cell 1 rfl).1
  refine⟨.inl (.tup [.agg zR3,.bool false]),_,?_,zR3,rfl,⟨rfl,rfl⟩,n.fb,s5.drop.drop⟩
  refine ah dQ rfl ?_;unfold dt
  simp only[sim,ag,reduceAdd,reduceSub,replicate,reduceCtorEq,reduceLeDiff,reduceLT,aa,az,Int.reduceEq,decide_false,decide_true,p.tp,p.e1.m,p.e1.p,p.e1.cd,p.e1.f,p.e1.pc,p.e1.ix,p.e2.m,p.e2.p,p.e2.cd,p.e2.f,p.e2.pc,p.e3,p.w,p.st,p.cx,q1,q2,q3,q4,f0,f1,f2,f3,f4,f5,f6,f7,ll,d,cb,w,e4,c4,c5]
set_option maxRecDepth 100000 in
set_option maxHeartbeats 2000000 in
theorem BN {k m:Int} (b:jL h0 F0 J0 h c L i n ⟨101,k,m⟩) {st:List VD} {v:VD} (hst:n.top.stack=st++[v]):∃ fr h',aj Try.prog po Ad [.ptr c.mb 0 0] h=some (fr,h')∧xu h0 F0 J0 c L i (.go ⟨n.S,{(n.at (n.top.pc+1)).top with stack:=st,names:=n.top.names++[v]},n.below⟩) fr h':=by
 obtain⟨h3,P,K,Ls,row,lv,p,q1,q2,q3,q4⟩:=b.pre
 have f0:aI 0 (.ptr c.mb 0 0)=some (.ptr c.mb 0 0):=rfl
 have f1:aI 2 (.ptr c.bb 0 0)=some (.ptr c.bb 0 2):=rfl
 have f2:aI 0 (.ptr n.fb n.below.length 0)=some (.ptr n.fb n.below.length 0):=rfl
 have f3:aI 1 (.ptr c.bb 0 (2+P*5))=some (.ptr c.bb 0 (2+P*5+1)):=rfl
 have f4:aI 1 (.ptr n.fb n.below.length 0)=some (.ptr n.fb n.below.length 1):=rfl
 have f5:aI 2 (.ptr n.fb n.below.length 0)=some (.ptr n.fb n.below.length 2):=rfl
 have f6:aI 2 (.ptr c.mb 0 0)=some (.ptr c.mb 0 2):=rfl
 have f7:aI 7 (.ptr n.fb n.below.length 0)=some (.ptr n.fb n.below.length 7):=rfl
 obtain⟨h4,r,e4,hv,s4,a4⟩:=fE p.s p.a p.o (st:=st) (v:=v) hst
 rw[pL,aR]at s4
 rw[pL,aR]at a4
 have s5:St h0 F0 J0 ((h4.push [r]).push [zR3]) (ai (h4.n+1) [zR3]::ai h4.n [r]::ai (h.n+1) [cr ⟨101,k,m⟩]::ai h.n [zR3]::put c L i ((n.at (n.top.pc+1)).stk st)):=(s4.push [r]).push [zR3]
 have a5:=(a4.cons (ai h4.n [r])).cons (ai (h4.n+1) [zR3])
 obtain⟨ar,sv,nv,g,mv⟩:=dA s5 (i+1+1+1+1) a5.m
 have g6:=ct {(n.at (n.top.pc+1)).top with stack:=st} ar sv nv g mv.ha.len3.1
 have l7:=fun k=>mv.rd k 7 _ g6.2.2.1
 have m4:=s4.push [r]
 have m4a:=a4.cons (ai h4.n [r])
 obtain⟨ar',sv',nv',g',mv'⟩:=dA m4 (i+1+1+1) m4a.m
 have g6':=ct {(n.at (n.top.pc+1)).top with stack:=st} ar' sv' nv' g' mv'.ha.len3.1
 have l7':=fun k=>mv'.rd k 7 _ g6'.2.2.1
 clear g6 g6'
 have hz:=(s5.cell 0 rfl).1
 obtain⟨o1,o2⟩:=hv.len3
 have hnv:nv'=nv:=by
  have e:=(vE (h:=h4.push [r]) (b:=n.fb) (i:=n.below.length) (off:=7) (k:=0) (g:=false) (es:=[zR3]) mv'.fbn).symm.trans (l7 0)
  rw[l7' 0]at e
  exact Option.some.inj e
 subst hnv
 obtain⟨q,h6,h7,h8,b1,b2,b3,b4,s8⟩:=GP s5 (i+1+1+1+1) a5.m hv (by have:=p.o.nms;simp only at this ⊢;omega) hz mv
 rw[a5.setM,ap,ap,pL,aR]at s8
 have s9:=s8.set 3 rfl [zR3]
 have c4:=(m4.cell 0 rfl).1
 have c5:=(s5.cell 1 rfl).1
 have c8:=(s8.cell 1 rfl).1
 have c9:=(s8.cell 3 rfl).1
 have c10:=(s9.cell 3 rfl).1
 have ln:=mv.nv.2.2.1
 have lo:=mv.nv.1
 have fi:=mv.nv.2.2.2.1
 have xm:bT (some tV) none (.msl q 0 (n.top.names.length+1) tV) (.int .i64 (n.top.names.length:Int))=some (.ptr q n.top.names.length 0):=by
  have:=rA (q:= .i64) (e:=tV) (el:=tV) (b:=q) (o:=0) (n:=n.top.names.length+1) (i:=n.top.names.length) rfl (by omega)
  rwa [Nat.zero_add]at this
 refine⟨.inl (.tup [.agg zR3,.bool false]),_,?_,zR3,rfl,⟨rfl,rfl⟩,n.fb,s9.drop.drop.drop.drop⟩
 refine ah dQ rfl ?_;unfold dt
 simp only[sim,ag,reduceAdd,reduceSub,replicate,reduceCtorEq,reduceLeDiff,reduceLT,aa,az,Int.reduceEq,decide_false,decide_true,p.tp,p.e1.m,p.e1.p,p.e1.cd,p.e1.f,p.e1.pc,p.e1.ix,p.e2.m,p.e2.p,p.e2.cd,p.e2.f,p.e2.pc,p.e3,p.w,p.st,p.cx,q1,q2,q3,q4,f0,f1,f2,f3,f4,f5,f6,f7,e4,o1,o2,c4,c5,l7,l7',ln,lo,fi,xm,b1,b2,b3,b4,c8,c9,c10]
set_option maxRecDepth 100000 in
set_option maxHeartbeats 2000000 in
theorem Ck {k m:Int} (b:jL h0 F0 J0 h c L i n ⟨102,k,m⟩) {nm:List VD} {v:VD} (hst:n.top.names=nm++[v]):∃ fr h',aj Try.prog po Ad [.ptr c.mb 0 0] h=some (fr,h')∧xu h0 F0 J0 c L i (.go ⟨n.S,{(n.at (n.top.pc+1)).top with names:=nm},n.below⟩) fr h':=by
 obtain⟨h3,P,K,Ls,row,lv,p,q1,q2,q3,q4⟩:=b.pre
 have f0:aI 0 (.ptr c.mb 0 0)=some (.ptr c.mb 0 0):=rfl
 have f1:aI 2 (.ptr c.bb 0 0)=some (.ptr c.bb 0 2):=rfl
 have f2:aI 0 (.ptr n.fb n.below.length 0)=some (.ptr n.fb n.below.length 0):=rfl
 have f3:aI 1 (.ptr c.bb 0 (2+P*5))=some (.ptr c.bb 0 (2+P*5+1)):=rfl
 have f4:aI 1 (.ptr n.fb n.below.length 0)=some (.ptr n.fb n.below.length 1):=rfl
 have f5:aI 2 (.ptr n.fb n.below.length 0)=some (.ptr n.fb n.below.length 2):=rfl
 have f6:aI 2 (.ptr c.mb 0 0)=some (.ptr c.mb 0 2):=rfl
 have f7:aI 7 (.ptr n.fb n.below.length 0)=some (.ptr n.fb n.below.length 7):=rfl
 obtain⟨ar,sv,nv,g,mv⟩:=dA p.s (i+1+1) p.a.m
 have g6:=ct (n.at (n.top.pc+1)).top ar sv nv g mv.ha.len3.1
 have l7:=fun k=>mv.rd k 7 _ g6.2.2.1
 clear g6
 obtain⟨nv',h4,b1,b2,b3,b4,s4⟩:=JG p.s (i+1+1) p.a.m (nm:=nm) (v:=v) hst mv
 rw[p.a.setM,pL,aR]at s4
 have s5:=s4.set 1 rfl [zR3]
 have c4:=(s4.cell 1 rfl).1
 have c5:=(s5.cell 1 rfl).1
 have ln:=mv.nv.2.2.1
 have hlen:(n.at (n.top.pc+1)).top.names.length=nm.length+1:=by
  show n.top.names.length=_
  rw[hst];simp
 rw[hlen]at ln
 have hn:=p.o.nms
 rw[hlen]at hn
 have lo:=mv.nv.1
 have fi:=mv.nv.2.2.2.1
 have w:IntKind.wrap .i64 (((nm.length+1:Nat):Int) - 1)=(nm.length:Int):=Ci (by omega) (by omega) (by omega)
 refine⟨.inl (.tup [.agg zR3,.bool false]),_,?_,zR3,rfl,⟨rfl,rfl⟩,n.fb,s5.drop.drop⟩
 refine ah dQ rfl ?_;unfold dt
 simp only[sim,ag,reduceAdd,reduceSub,replicate,reduceCtorEq,reduceLeDiff,reduceLT,aa,az,Int.reduceEq,decide_false,decide_true,p.tp,p.e1.m,p.e1.p,p.e1.cd,p.e1.f,p.e1.pc,p.e1.ix,p.e2.m,p.e2.p,p.e2.cd,p.e2.f,p.e2.pc,p.e3,p.w,p.st,p.cx,q1,q2,q3,q4,f0,f1,f2,f3,f4,f5,f6,f7,l7,ln,lo,fi,w,b1,b2,b3,b4,c4,c5]
set_option maxRecDepth 100000 in
set_option maxHeartbeats 2000000 in
theorem BM {k m:Int} (b:jL h0 F0 J0 h c L i n ⟨103,k,m⟩) {st:List VD} {v:VD} (hst:n.top.stack=st++[v]) (hk0:0≤k):∃ fr h',aj Try.prog po Ad [.ptr c.mb 0 0] h=some (fr,h')∧xu h0 F0 J0 c L i (if v.kind≠1 then .fail n.S 2 else .go ⟨n.S,{(n.at (n.top.pc+1)).top with stack:=st,pc:=if v.n=0 then k.toNat else n.top.pc+1},n.below⟩) fr h':=by
 obtain⟨h3,P,K,Ls,row,lv,p,q1,q2,q3,q4⟩:=b.pre
 have f0:aI 0 (.ptr c.mb 0 0)=some (.ptr c.mb 0 0):=rfl
 have f1:aI 2 (.ptr c.bb 0 0)=some (.ptr c.bb 0 2):=rfl
 have f2:aI 0 (.ptr n.fb n.below.length 0)=some (.ptr n.fb n.below.length 0):=rfl
 have f3:aI 1 (.ptr c.bb 0 (2+P*5))=some (.ptr c.bb 0 (2+P*5+1)):=rfl
 have f4:aI 1 (.ptr n.fb n.below.length 0)=some (.ptr n.fb n.below.length 1):=rfl
 have f5:aI 2 (.ptr n.fb n.below.length 0)=some (.ptr n.fb n.below.length 2):=rfl
 have f6:aI 2 (.ptr c.mb 0 0)=some (.ptr c.mb 0 2):=rfl
 have f7:aI 7 (.ptr n.fb n.below.length 0)=some (.ptr n.fb n.below.length 7):=rfl
 obtain⟨h4,r,e4,hv,s4,a4⟩:=fE p.s p.a p.o (st:=st) (v:=v) hst
 rw[pL,aR]at s4
 rw[pL,aR]at a4
 obtain⟨o1,o2⟩:=hv.len3
 by_cases hk:v.kind=1
 ·rw[if_neg (by simpa using hk)]
  obtain⟨r',ek,hr'⟩:=ei (h:=h4) hv hk
  obtain⟨w,hw,_⟩:=hr'.cells3
  have hn:KU false 1 1 (.agg r')=some (.int .i64 v.n):=by rw[hw];rfl
  obtain⟨o3,o4⟩:=hr'.len3
  clear hw
  by_cases hz:v.n=0
  ·rw[if_pos hz]
   have d:decide (v.n=0)=true:=decide_eq_true hz
   have c4:=(s4.cell 0 rfl).1
   obtain⟨h5,e5,s5⟩:=AR s4 (i+1+1) a4.m k.toNat
   rw[Int.toNat_of_nonneg hk0]at e5
   rw[a4.setM,pL,aR]at s5
   have s6:=s5.set 1 rfl [zR3]
   have c5:=(s5.cell 1 rfl).1
   have c6:=(s6.cell 1 rfl).1
   refine⟨.inl (.tup [.agg zR3,.bool false]),_,?_,zR3,rfl,⟨rfl,rfl⟩,n.fb,s6.drop.drop⟩
   refine ah dQ rfl ?_;unfold dt
   simp only[sim,ag,reduceAdd,reduceSub,replicate,reduceCtorEq,reduceLeDiff,reduceLT,aa,az,Int.reduceEq,decide_false,decide_true,p.tp,p.e1.m,p.e1.p,p.e1.cd,p.e1.f,p.e1.pc,p.e1.ix,p.e2.m,p.e2.p,p.e2.cd,p.e2.f,p.e2.pc,p.e3,p.w,p.st,p.cx,q1,q2,q3,q4,f0,f1,f2,f3,f4,f5,f6,f7,e4,o1,o2,ek,hn,o3,o4,d,c4,e5,c5,c6]
  ·rw[if_neg hz]
   have d:decide (v.n=0)=false:=decide_eq_false hz
   have s6:=s4.set 1 rfl [zR3]
   have c5:=(s4.cell 1 rfl).1
   have c6:=(s6.cell 1 rfl).1
   refine⟨.inl (.tup [.agg zR3,.bool false]),_,?_,zR3,rfl,⟨rfl,rfl⟩,n.fb,s6.drop.drop⟩
   refine ah dQ rfl ?_;unfold dt
   simp only[sim,ag,reduceAdd,reduceSub,replicate,reduceCtorEq,reduceLeDiff,reduceLT,aa,az,Int.reduceEq,decide_false,decide_true,p.tp,p.e1.m,p.e1.p,p.e1.cd,p.e1.f,p.e1.pc,p.e1.ix,p.e2.m,p.e2.p,p.e2.cd,p.e2.f,p.e2.pc,p.e3,p.w,p.st,p.cx,q1,q2,q3,q4,f0,f1,f2,f3,f4,f5,f6,f7,e4,o1,o2,ek,hn,o3,o4,d,c5,c6]
 ·rw[if_pos hk]
  have ek:=fG (h:=h4) hv hk
  refine⟨_,_,?_,rfl,(n.at (n.top.pc+1)).stk st,rfl,s4.drop.drop⟩
  refine ah dQ rfl ?_;unfold dt
  simp only[sim,ag,reduceAdd,reduceSub,replicate,reduceCtorEq,reduceLeDiff,reduceLT,aa,az,Int.reduceEq,decide_false,decide_true,p.tp,p.e1.m,p.e1.p,p.e1.cd,p.e1.f,p.e1.pc,p.e1.ix,p.e2.m,p.e2.p,p.e2.cd,p.e2.f,p.e2.pc,p.e3,p.w,p.st,p.cx,q1,q2,q3,q4,f0,f1,f2,f3,f4,f5,f6,f7,e4,o1,o2,ek]
set_option maxRecDepth 100000 in
set_option maxHeartbeats 2000000 in
theorem AX {k m:Int} (b:jL h0 F0 J0 h c L i n ⟨104,k,m⟩) (hk0:0≤k):∃ fr h',aj Try.prog po Ad [.ptr c.mb 0 0] h=some (fr,h')∧xu h0 F0 J0 c L i (.go ⟨n.S,{(n.at (n.top.pc+1)).top with pc:=k.toNat},n.below⟩) fr h':=by
 obtain⟨h3,P,K,Ls,row,lv,p,q1,q2,q3,q4⟩:=b.pre
 have f0:aI 0 (.ptr c.mb 0 0)=some (.ptr c.mb 0 0):=rfl
 have f1:aI 2 (.ptr c.bb 0 0)=some (.ptr c.bb 0 2):=rfl
 have f2:aI 0 (.ptr n.fb n.below.length 0)=some (.ptr n.fb n.below.length 0):=rfl
 have f3:aI 1 (.ptr c.bb 0 (2+P*5))=some (.ptr c.bb 0 (2+P*5+1)):=rfl
 have f4:aI 1 (.ptr n.fb n.below.length 0)=some (.ptr n.fb n.below.length 1):=rfl
 have f5:aI 2 (.ptr n.fb n.below.length 0)=some (.ptr n.fb n.below.length 2):=rfl
 have f6:aI 2 (.ptr c.mb 0 0)=some (.ptr c.mb 0 2):=rfl
 have f7:aI 7 (.ptr n.fb n.below.length 0)=some (.ptr n.fb n.below.length 7):=rfl
 have c4:=(p.s.cell 0 rfl).1
 obtain⟨h5,e5,s5⟩:=AR p.s (i+1+1) p.a.m k.toNat
 rw[Int.toNat_of_nonneg hk0]at e5
 rw[p.a.setM,pL,aR]at s5
 have s6:=s5.set 1 rfl [zR3]
 have c5:=(s5.cell 1 rfl).1
 have c6:=(s6.cell 1 rfl).1
 refine⟨.inl (.tup [.agg zR3,.bool false]),_,?_,zR3,rfl,⟨rfl,rfl⟩,n.fb,s6.drop.drop⟩
 refine ah dQ rfl ?_;unfold dt
 simp only[sim,ag,reduceAdd,reduceSub,replicate,reduceCtorEq,reduceLeDiff,reduceLT,aa,az,Int.reduceEq,decide_false,decide_true,p.tp,p.e1.m,p.e1.p,p.e1.cd,p.e1.f,p.e1.pc,p.e1.ix,p.e2.m,p.e2.p,p.e2.cd,p.e2.f,p.e2.pc,p.e3,p.w,p.st,p.cx,q1,q2,q3,q4,f0,f1,f2,f3,f4,f5,f6,f7,c4,e5,c5,c6]
theorem ON {A B:Asn} {n':Now} {fb':Nat} {S:StD}:lh c (A::B::put c L i n') (i+1+1) fb' S=A::B::lh c L i fb' S:=by
 have:lh c (put c L i n') i fb' S=lh c L i fb' S:=by
  unfold lh
  rw[aR]
 exact congrArg (fun l=>A::B::l) this
set_option maxRecDepth 100000 in
set_option maxHeartbeats 2000000 in
theorem Bu {k m:Int} (b:jL h0 F0 J0 h c L i n ⟨105,k,m⟩) {st:List VD} {v:VD} (hst:n.top.stack=st++[v]) (hgo:∀ m',MaD.back (n.at (n.top.pc+1)).m= .go m'→m'.top.stack.length≤100000):∃ fr h',aj Try.prog po Ad [.ptr c.mb 0 0] h=some (fr,h')∧xu h0 F0 J0 c L i (MaD.back (n.at (n.top.pc+1)).m) fr h':=by
 obtain⟨h3,P,K,Ls,row,lv,p,q1,q2,q3,q4⟩:=b.pre
 have f0:aI 0 (.ptr c.mb 0 0)=some (.ptr c.mb 0 0):=rfl
 have f1:aI 2 (.ptr c.bb 0 0)=some (.ptr c.bb 0 2):=rfl
 have f2:aI 0 (.ptr n.fb n.below.length 0)=some (.ptr n.fb n.below.length 0):=rfl
 have f3:aI 1 (.ptr c.bb 0 (2+P*5))=some (.ptr c.bb 0 (2+P*5+1)):=rfl
 have f4:aI 1 (.ptr n.fb n.below.length 0)=some (.ptr n.fb n.below.length 1):=rfl
 have f5:aI 2 (.ptr n.fb n.below.length 0)=some (.ptr n.fb n.below.length 2):=rfl
 have f6:aI 2 (.ptr c.mb 0 0)=some (.ptr c.mb 0 2):=rfl
 have f7:aI 7 (.ptr n.fb n.below.length 0)=some (.ptr n.fb n.below.length 7):=rfl
 obtain⟨fr,h4,e4,ob⟩:=J9 p.s p.a p.o (st:=st) (v:=v) hst b.ok.good.top.gates hgo
 generalize MaD.back (n.at (n.top.pc+1)).m=q at*
 cases q with
 | go m'=>
   obtain⟨r,rfl,⟨o1,o2⟩,fb',s4⟩:=ob
   rw[pL,aR]at s4
   have s5:=s4.set 1 rfl [r]
   have c4:=(s4.cell 1 rfl).1
   have c5:=(s5.cell 1 rfl).1
   refine⟨.inl (.tup [.agg r,.bool false]),_,?_,r,rfl,⟨o1,o2⟩,fb',s5.drop.drop⟩
   refine ah dQ rfl ?_;unfold dt
   simp only[sim,ag,reduceAdd,reduceSub,replicate,reduceCtorEq,reduceLeDiff,reduceLT,aa,az,Int.reduceEq,decide_false,decide_true,p.tp,p.e1.m,p.e1.p,p.e1.cd,p.e1.f,p.e1.pc,p.e1.ix,p.e2.m,p.e2.p,p.e2.cd,p.e2.f,p.e2.pc,p.e3,p.w,p.st,p.cx,q1,q2,q3,q4,f0,f1,f2,f3,f4,f5,f6,f7,e4,o1,o2,c4,c5]
 | fail S k'=>
   obtain⟨rfl,n',hn',s4⟩:=ob
   rw[pL,aR]at s4
   refine⟨_,_,?_,rfl,n',hn',s4.drop.drop⟩
   refine ah dQ rfl ?_;unfold dt
   simp only[sim,ag,reduceAdd,reduceSub,replicate,reduceCtorEq,reduceLeDiff,reduceLT,aa,az,Int.reduceEq,decide_false,decide_true,p.tp,p.e1.m,p.e1.p,p.e1.cd,p.e1.f,p.e1.pc,p.e1.ix,p.e2.m,p.e2.p,p.e2.cd,p.e2.f,p.e2.pc,p.e3,p.w,p.st,p.cx,q1,q2,q3,q4,f0,f1,f2,f3,f4,f5,f6,f7,e4]
 | over S v'=>
   obtain⟨r,rfl,hv,fb',s4⟩:=ob
   rw[ON]at s4
   obtain⟨o1,o2⟩:=hv.len3
   have s5:=s4.set 1 rfl [r]
   have c4:=(s4.cell 1 rfl).1
   have c5:=(s5.cell 1 rfl).1
   refine⟨.inl (.tup [.agg r,.bool true]),_,?_,r,rfl,hv,fb',s5.drop.drop⟩
   refine ah dQ rfl ?_;unfold dt
   simp only[sim,ag,reduceAdd,reduceSub,replicate,reduceCtorEq,reduceLeDiff,reduceLT,aa,az,Int.reduceEq,decide_false,decide_true,p.tp,p.e1.m,p.e1.p,p.e1.cd,p.e1.f,p.e1.pc,p.e1.ix,p.e2.m,p.e2.p,p.e2.cd,p.e2.f,p.e2.pc,p.e3,p.w,p.st,p.cx,q1,q2,q3,q4,f0,f1,f2,f3,f4,f5,f6,f7,e4,o1,o2,c4,c5]
set_option maxRecDepth 100000 in
set_option maxHeartbeats 2000000 in
theorem Hy {x:aT} (b:jL h0 F0 J0 h c L i n x) (hop:x.op<100):∃ fr h',aj Try.prog po Ad [.ptr c.mb 0 0] h=some (fr,h')∧xu h0 F0 J0 c L i (kD c.ms (n.at (n.top.pc+1)).m x) fr h':=by
 obtain⟨h3,P,K,Ls,row,lv,p,q1,q2,q3,q4⟩:=b.pre
 have f0:aI 0 (.ptr c.mb 0 0)=some (.ptr c.mb 0 0):=rfl
 have f1:aI 2 (.ptr c.bb 0 0)=some (.ptr c.bb 0 2):=rfl
 have f2:aI 0 (.ptr n.fb n.below.length 0)=some (.ptr n.fb n.below.length 0):=rfl
 have f3:aI 1 (.ptr c.bb 0 (2+P*5))=some (.ptr c.bb 0 (2+P*5+1)):=rfl
 have f4:aI 1 (.ptr n.fb n.below.length 0)=some (.ptr n.fb n.below.length 1):=rfl
 have f5:aI 2 (.ptr n.fb n.below.length 0)=some (.ptr n.fb n.below.length 2):=rfl
 have f6:aI 2 (.ptr c.mb 0 0)=some (.ptr c.mb 0 2):=rfl
 have f7:aI 7 (.ptr n.fb n.below.length 0)=some (.ptr n.fb n.below.length 7):=rfl
 have hg:=b.ok.good.top
 have hx:=b.ok.op
 have hget:(d7 c.ms n.m.top.plugin n.m.top.f).getD n.m.top.pc oo=x:=b.get
 rw[hget]at hx
 obtain⟨fr,h4,e4,oi⟩:=NK p.s p.a p.o (x:=x) ⟨hg.p0,hg.there,hg.f0,hg.f1,hg.arg,hg.names,hg.stack,hg.gates⟩ ⟨hx.kind,hx.one,hx.nam,hx.jump,hx.parts,hx.var⟩ hop
 have d:∀ j:Int,100≤j→decide (x.op=j)=false:=fun j hj=>decide_eq_false (by omega)
 have d0:=d 100 (by decide);have d1:=d 101 (by decide);have d2:=d 102 (by decide);have d3:=d 103 (by decide);have d4:=d 104 (by decide);have d5:=d 105 (by decide)
 have c3:=(p.s.cell 0 rfl).1
 generalize kD c.ms (n.at (n.top.pc+1)).m x=q at*
 cases q with
 | go m'=>
   obtain⟨rfl,fb',s4⟩:=oi
   rw[pL,aR]at s4
   have s5:=s4.set 1 rfl [zR3]
   have c4:=(s4.cell 1 rfl).1
   have c5:=(s5.cell 1 rfl).1
   refine⟨.inl (.tup [.agg zR3,.bool false]),_,?_,zR3,rfl,⟨rfl,rfl⟩,fb',s5.drop.drop⟩
   refine ah dQ rfl ?_;unfold dt
   simp only[sim,ag,reduceAdd,reduceSub,replicate,reduceCtorEq,reduceLeDiff,reduceLT,aa,az,Int.reduceEq,decide_false,decide_true,p.tp,p.e1.m,p.e1.p,p.e1.cd,p.e1.f,p.e1.pc,p.e1.ix,p.e2.m,p.e2.p,p.e2.cd,p.e2.f,p.e2.pc,p.e3,p.w,p.st,p.cx,q1,q2,q3,q4,f0,f1,f2,f3,f4,f5,f6,f7,e4,c3,c4,c5,d0,d1,d2,d3,d4,d5]
 | fail S k'=>
   obtain⟨rfl,n',hn',s4⟩:=oi
   rw[pL,aR]at s4
   refine⟨_,_,?_,rfl,n',hn',s4.drop.drop⟩
   refine ah dQ rfl ?_;unfold dt
   simp only[sim,ag,reduceAdd,reduceSub,replicate,reduceCtorEq,reduceLeDiff,reduceLT,aa,az,Int.reduceEq,decide_false,decide_true,p.tp,p.e1.m,p.e1.p,p.e1.cd,p.e1.f,p.e1.pc,p.e1.ix,p.e2.m,p.e2.p,p.e2.cd,p.e2.f,p.e2.pc,p.e3,p.w,p.st,p.cx,q1,q2,q3,q4,f0,f1,f2,f3,f4,f5,f6,f7,e4,c3,d0,d1,d2,d3,d4,d5]
 | over S v'=>exact oi.elim
end
section
variable {h h' h0:AH} {F J F0 J0:Nat→Prop} {L:List Asn} {c:Cfg} {i:Nat} {n:Now}
theorem Pe {c:Cfg} {n:Now} (hc:c.ms.length=4) (g:n.m.Good c.ms):OkR c n:=by
 have g1:n.S.mu≤1000000:=g.mu
 have g2:n.top.stack.length+n.S.left≤100000:=g.stk
 have g3:n.top.names.length+n.S.left≤100000:=g.nms
 have g4:n.below.length+1≤20:=g.few
 unfold StD.mu at g1
 exact⟨hc,g.S,by omega,by omega,by omega,by omega⟩
theorem xf (s:St h0 F0 J0 h L) (a:At c L i n) (hc:c.ms.length=4) (hm:kz c.ms) (ok:Ok c.ms n.m) (hnext:∀ m',fV c.ms n.m= .go m'→m'.Good c.ms):
  ∃ fr h',aj Try.prog po Ad [.ptr c.mb 0 0] h=some (fr,h')∧xu h0 F0 J0 c L i (fV c.ms n.m) fr h':=by
 have b:jL h0 F0 J0 h c L i n ((d7 c.ms n.top.plugin n.top.f).getD n.top.pc oo):=⟨s,a,Pe hc ok.good,hm,ok,rfl⟩
 have hx:=ok.op
 have hx:E0 n.m ((d7 c.ms n.top.plugin n.top.f).getD n.top.pc oo):=hx
 have hs:fV c.ms n.m=(let x:=(d7 c.ms n.top.plugin n.top.f).getD n.top.pc oo
  let m:MaD:=(n.at (n.top.pc+1)).m
  let t:=m.top
  if x.op=100 then(if m.S.left=0 then .fail m.S 12 else .go {m with S:=m.S.tick})
  else if x.op=101 then .go {m with top:={t with stack:=ma t.stack 1,names:=t.names++[(kf t.stack 1).getD 0 au]}}
  else if x.op=102 then .go {m with top:={t with names:=t.names.dropLast}}
  else if x.op=103 then(let v:=(kf t.stack 1).getD 0 au
   if v.kind≠1 then .fail m.S 2 else .go {m with top:={t with stack:=ma t.stack 1,pc:=if v.n=0 then x.k.toNat else t.pc}})
  else if x.op=104 then .go {m with top:={t with pc:=x.k.toNat}}
  else if x.op=105 then m.back
  else kD c.ms m x):=rfl
 rw[hs]at hnext ⊢
 generalize (d7 c.ms n.top.plugin n.top.f).getD n.top.pc oo=x at*
 clear hs
 obtain⟨op,k,m⟩:=x
 simp only at hnext ⊢
 have hkind:=hx.kind
 simp only at hkind
 rcases hkind with hk | hk
 ·rw[if_neg (by omega),if_neg (by omega),if_neg (by omega),if_neg (by omega),if_neg (by omega),if_neg (by omega)]
  exact Hy b (by show op<100;omega)
 ·have ops:op=100∨op=101∨op=102∨op=103∨op=104∨op=105:=by omega
  rcases ops with rfl | rfl | rfl | rfl | rfl | rfl
  ·rw[if_pos rfl]
   exact Cr b
  ·obtain⟨st,v,hst⟩:=eO (l:=n.top.stack) (by have:=hx.one (.inl rfl);exact List.length_pos_iff.2 this)
   rw[if_neg (by decide),if_pos rfl]
   have:=BN b hst
   simp only[hst,eu,gR]
   exact this
  ·obtain⟨nm,v,hst⟩:=eO (l:=n.top.names) (by have:=hx.nam rfl;exact List.length_pos_iff.2 this)
   rw[if_neg (by decide),if_neg (by decide),if_pos rfl]
   have:=Ck b hst
   simp only[hst,List.dropLast_concat]
   exact this
  ·obtain⟨st,v,hst⟩:=eO (l:=n.top.stack) (by have:=hx.one (.inr (.inl rfl));exact List.length_pos_iff.2 this)
   rw[if_neg (by decide),if_neg (by decide),if_neg (by decide),if_pos rfl]
   have:=BM b hst (hx.jump (.inl rfl))
   simp only[hst,eu,gR,List.getD_cons_zero]
   exact this
  ·rw[if_neg (by decide),if_neg (by decide),if_neg (by decide),if_neg (by decide),if_pos rfl]
   exact AX b (hx.jump (.inr rfl))
  ·obtain⟨st,v,hst⟩:=eO (l:=n.top.stack) (by have:=hx.one (.inr (.inr rfl));exact List.length_pos_iff.2 this)
   simp only[Int.reduceEq,if_false,if_true]at hnext ⊢
   refine Bu b hst fun m' e=> ?_
   have g:=(hnext m' e).stk
   omega
end
set_option maxHeartbeats 1000000 in
theorem AB:∀ (N:Nat) (x:VD),SizeOf.sizeOf x≤N→x.size≤100000→∀ (r:List AV) (h:AH),VaA x r→
  ∃ r',aj Try.prog po 46 [.agg r] h=some (.inl (.agg r'),h)∧VaA (id x) r':=by
 intro N
 induction N with
 | zero=>intro x hx;have:=x.so_pos;omega
 | succ N ih=>
   intro x hx hsz r h he
   obtain⟨v,es,rfl,hsl,hv,hn,hix⟩:=he.facts
   have hlen:=x.len_size
   suffices key:∃ v',aj Try.prog po 46 [.agg [.int .i64 x.kind,.int .i64 x.n,v]] h=some (.inl v',h)∧∃ r',v'= .agg r'∧VaA (id x) r' by
    obtain⟨_,e,r',rfl,h2⟩:=key
    exact⟨r',e,h2⟩
   have rest:∀ (Q:jI→Prop) (h0:AH) (w4 w8:AV) (z:Int),h0=((h.push [[.int .i64 x.kind,.int .i64 x.n,v]]).push [[.int .i64 0,.int .i64 0,.nils]]).push [[.int .i64 x.kind,.int .i64 z,.nils]]→
     z=(id x).n→
     (∀ V h' v v',(fz V h' [.cell true 3 2]).map fU=some v→af h h'→wkA v=some v'→(∃ r',v'= .agg r'∧VaA (id x) r')→Q (some (.ret,V,h')))→
     Q (aq (aj Try.prog po) 9 (.lp kE:: .ss []:: .blk 0::[.ss [.ops [(.i .l (.load true 3 (.v 3))),(.i .n (.store 3 (.v 2) (.l 0)))],.ret]])
       [.agg [.int .i64 x.kind,.int .i64 x.n,v],.ptr h.n 0 0,.ptr (h.n+1) 0 0,.ptr (h.n+1+1) 0 0,w4,v,.int .i64 es.length,.int .i64 0,w8] [] h0):=by
    intro Q h0 w4 w8 z hh0 hz hQ
    subst hh0
    refine jd (fun i V h'=>∃ w4 w8 acc rows,V=[.agg [.int .i64 x.kind,.int .i64 x.n,v],.ptr h.n 0 0,.ptr (h.n+1) 0 0,.ptr (h.n+1+1) 0 0,w4,v,.int .i64 es.length,.int .i64 (i:Nat),w8]∧
     af h h'∧h.n+1+1<h'.n∧h'.cell h.n=some [[.int .i64 x.kind,.int .i64 x.n,v]]∧h'.cell (h.n+1)=some [[.int .i64 0,.int .i64 0,.nils]]∧h'.cell (h.n+1+1)=some [[.int .i64 x.kind,.int .i64 z,acc]]∧
     Acc h h' tV acc rows∧VaL ((x.l.take i).map id) rows) x.l.length ⟨_,_,_,[],rfl,(by repeat (first | exact af.refl _ | refine af.trans ?_ (af.push _ _) | refine af.trans ?_ (af.fresh _ _))),by simp only[aM];omega,iJ,kL,fI,mD _ _ _,rfl⟩ ?_ ?_
    ·rintro i V h' hi ⟨w4,w8,acc,rows,rfl,g,hm,c1,c2,c3,ha,hr⟩ next
     have hlt:(i:Int)<(es.length:Int):=by rw[hn];omega
     obtain⟨y,hy⟩:=lB hi
     obtain⟨q,i1,d1,x1⟩:=hix i y hy
     have hw:=w64 (n:=(i:Int)+1) (by omega) (by omega)
     obtain⟨q',e1,x2⟩:=ih y (by have:=VD.lt_mem (jw hy);omega) (by have:=VD.size_mem (jw hy);omega) q (h'.push [q]) x1
     obtain⟨p1,p2⟩:=x1.one
     replace c1:=(aL (es:=[q]) (show h.n<h'.n by omega)).trans c1
     replace c2:=(aL (es:=[q]) (show h.n+1<h'.n by omega)).trans c2
     replace c3:=(aL (es:=[q]) hm).trans c3
     obtain⟨o1,o2⟩:=x2.one
     have hrl:rows.length≤1000000:=by rw[hr.len,List.length_map,List.length_take];omega
     obtain⟨acc2,h2,e2,a1,a2,a3,a4⟩:=mF (show Acc h (h'.push [q]) tV acc rows from ha) (g.trans (af.push _ _)) (row:=q') o1 hrl
     simp only[hU]at e2
     have b1:(h2.set (h.n+1+1) (some [[.int .i64 x.kind,.int .i64 z,acc2]])).cell h.n=some [[.int .i64 x.kind,.int .i64 x.n,v]]:=by rw[bc (by omega),a3];exact c1
     have b2:(h2.set (h.n+1+1) (some [[.int .i64 x.kind,.int .i64 z,acc2]])).cell (h.n+1)=some [[.int .i64 0,.int .i64 0,.nils]]:=by rw[bc (by omega),a3];exact c2
     have oA:acc2.one=true:=by
      rcases a1 with⟨_,rfl⟩ | ⟨id,_,_,_,_,rfl⟩<;>rfl
     have cA:acc2.cells=[acc2]:=by
      rcases a1 with⟨_,rfl⟩ | ⟨id,_,_,_,_,rfl⟩<;>rfl
     rw[aB kE.eq_1]
     simp only[sim,ag,reduceAdd,reduceSub,replicate,reduceCtorEq,reduceLeDiff,reduceLT,aa,c1,c2,c3,hsl.len,hsl.fits,hlt,i1,d1,e1,p1,p2,bo p2,o1,o2,e2,hsl.len,a3,oA,cA,hw]
     refine next _ _ ⟨_,_,_,_,rfl,a2.set (by omega),by rw[eh,a4];show _<h'.n+1;omega,b1,b2,aO,a1,?_⟩
     rw[jZ hy,List.map_append]
     exact hr.append x2
    ·rintro V h' ⟨w4,w8,acc,rows,rfl,g,hm,c1,c2,c3,ha,hr⟩
     have hlt:¬ ((x.l.length:Int)<(es.length:Int)):=by rw[hn];omega
     rw[List.take_length]at hr
     have oA:acc.one=true:=by
      rcases ha with⟨_,rfl⟩ | ⟨id,_,_,_,_,rfl⟩<;>rfl
     have hsl':SlA tV acc rows:=by
      rcases ha with⟨q1,q2⟩ | ⟨id,_,_,_,_,q2⟩
      ·exact .inl ⟨q1,q2⟩
      ·exact .inr ⟨_,q2⟩
     have hx':VaA (id x) [.int .i64 x.kind,.int .i64 z,acc]:=by
      rw[hz]
      have:=VaA.mk (x:=id x) hsl' (by rw[P5];exact hr)
      rw[Qa]at this
      exact this
     obtain⟨r',hw,hr'⟩:=Da hx'
     have hwA:wkA (.agg [.int .i64 x.kind,.int .i64 z,acc])=some (.agg r'):=by simp only[wkA,hw,Option.map_some]
     rw[aB kE.eq_1]
     simp only[sim,ag,reduceAdd,reduceSub,replicate,reduceCtorEq,reduceLeDiff,reduceLT,aa,c1,c2,c3,hsl.len,hsl.fits,hlt,oA]
     exact hQ _ _ _ _ (by simp only[sim,oA,List.all_cons,List.all_nil,List.length_cons,List.length_nil,Option.map_some,Option.bind_some,List.getD_cons_zero,List.getD_cons_succ,List.take_succ_cons,List.take_zero,List.drop_zero]) (g.set (by omega)) hwA ⟨r',rfl,hr'⟩
   refine BL Ki rfl fun Q hQ=> ?_;unfold CM
   simp only[sim,ag,reduceAdd,reduceSub,replicate,reduceCtorEq,reduceLeDiff,reduceLT,aa,hv,hsl.len,hsl.fits]
   exact rest _ _ _ _ x.n rfl rfl hQ
open Go Go.RowKit
abbrev fq:FuncId:=17
abbrev fRc:FuncId:=47
noncomputable def cRu:Code:=Try.f17.body.getD .skip
noncomputable def cRc:Code:=Try.f47.body.getD .skip
theorem Ji:(Try.prog).funcs[fRc]? =some Try.f47:=Try.func47
theorem D8:Try.f47.body=some cRc:=rfl
theorem HY:cRc= .seq (cL cRc) (cR cRc):=rfl
theorem Py:Try.f47.ntmps=27:=rfl
noncomputable def rcA:Oper:={dst:=some 8,op:= .call {callee:= .builtin .recover,args:= #[],argTypes:= #[]},type:=((fj (cL cRc)).getD 0 default).type,pos:=((fj (cL cRc)).getD 0 default).pos,after:= #[],guard:=none}
noncomputable def rcB:Oper:={dst:=some 5,op:= .assign (.tmp 8),type:=((fj (cL cRc)).getD 1 default).type,pos:=((fj (cL cRc)).getD 1 default).pos,after:=((fj (cL cRc)).getD 1 default).after,guard:=none}
theorem GR:cL cRc= .region 0 #[rcA,rcB] false:=rfl
abbrev vRc:List Nat:=[0,1,2,3,4,5,6,7,10,17]
theorem Mi:bi Try.prog (po.mu fRc) (po.plan fRc) 27 vRc (cR cRc) []=some Cq:=by kernel_rfl
theorem Jq:cU (po.plan fRc) (po.kp fRc) (cR cRc)=true:=by kernel_rfl
theorem Mk:rg 5 27 (po.nv fRc) 10 vRc=true:=by kernel_rfl
theorem JC (a:Array Value) (w:World):∃ v,(results Try.f47 a).run Try.prog w= .ok v w:=⟨.tuple #[],by simp[results,Try.results47]⟩
theorem GZ:Ia Try.prog (cL cRc) 27 8 5:=by
 intro ts v cs cs' w hsz h
 rw[GR]
 apply wpS_region
 rcases h with h1 | ⟨h1,h2,h3⟩
 ·simp[wpOpsS,go_sem,rcA,rcB,h1,Act.put,Act.eval,hsz]
 ·simp[wpOpsS,go_sem,rcA,rcB,h1,Act.put,Act.eval,hsz,h2,h3]
theorem My (x y z u t e:AV):RV 27 vRc [] (bJ (bJ ([x,y,z,u,t]++replicate (27 - [x,y,z,u,t].length) .junk) (some 8) e) (some 5) e) [x,y,z,u,t,e,.junk,.junk,.junk,.junk] []:=by
 refine⟨by simp[bJ],rfl,rfl,fun j s hj=> ?_,fun j s hj=>by simp at hj⟩
 match j,hj with
 | 0,hj | 1,hj | 2,hj | 3,hj | 4,hj | 5,hj | 6,hj | 7,hj | 8,hj | 9,hj=>obtain rfl:=Option.some.inj hj;exact⟨by decide,rfl⟩
 | j+10,hj=>simp at hj
theorem uU:(Try.prog).funcs[fq]? =some Try.f17:=Try.func17
theorem LN:Try.f17.body=some cRu:=rfl
theorem P3:Try.f17.ntmps=93:=rfl
noncomputable abbrev cR1:Code:=cR cRu
noncomputable abbrev cR2:Code:=cR cR1
noncomputable abbrev cR3:Code:=cR cR2
noncomputable abbrev cR4:Code:=cR cR3
noncomputable abbrev cR5:Code:=cR cR4
noncomputable abbrev cR6:Code:=cR cR5
theorem OA:cRu= .seq (cL cRu) cR1:=rfl
theorem qL:cR1= .seq (cL cR1) cR2:=rfl
theorem D9:cR2= .seq (cL cR2) cR3:=rfl
theorem Lh:cR3= .seq (cL cR3) cR4:=rfl
theorem L8:cR4= .seq (cL cR4) cR5:=rfl
theorem J7:cR5= .seq (cL cR5) cR6:=rfl
abbrev vRu:List Nat:=[0,1,2,3,4,8,9,10,11,12,13,14,15,16,17,33,62,84]
theorem lH:rg 5 93 (po.nv fq) 18 vRu=true:=by kernel_rfl
theorem NN:bi Try.prog (po.mu fq) (po.plan fq) 93 vRu (cL cRu) []=some xo:=by kernel_rfl
theorem xq:bi Try.prog (po.mu fq) (po.plan fq) 93 vRu (cL cR1) []=some lQ:=by kernel_rfl
theorem HU:bi Try.prog (po.mu fq) (po.plan fq) 93 vRu (cL cR2) []=some xF:=by kernel_rfl
theorem OI:bi Try.prog (po.mu fq) (po.plan fq) 93 vRu (cL cR3) []=some wJ:=by kernel_rfl
theorem Nq:bi Try.prog (po.mu fq) (po.plan fq) 93 vRu (cL cR4) []=some xK:=by kernel_rfl
theorem H9:bi Try.prog (po.mu fq) (po.plan fq) 93 vRu cR6 []=some sa:=by kernel_rfl
theorem LZ:cU (po.plan fq) (po.kp fq) (cL cRu)=true:=by kernel_rfl
theorem qT:cU (po.plan fq) (po.kp fq) (cL cR1)=true:=by kernel_rfl
theorem Dl:cU (po.plan fq) (po.kp fq) (cL cR2)=true:=by kernel_rfl
theorem Kf:cU (po.plan fq) (po.kp fq) (cL cR3)=true:=by kernel_rfl
theorem Lu:cU (po.plan fq) (po.kp fq) (cL cR4)=true:=by kernel_rfl
theorem D5:cU (po.plan fq) (po.kp fq) cR6=true:=by kernel_rfl
theorem tq:jB Try.prog vRu Try.f17.results.toList=some [.cell true 3 7,.cell false 1 8,.cell false 1 9]:=by kernel_rfl
theorem O9 (x y z u t:AV):RV 93 vRu [] ([x,y,z,u,t]++replicate (93 - [x,y,z,u,t].length) .junk) ([x,y,z,u,t]++replicate (vRu.length - [x,y,z,u,t].length) .junk) []:=by
 refine⟨by simp,rfl,rfl,fun j s hj=> ?_,fun j s hj=>by simp at hj⟩
 match j,hj with
 | 0,hj | 1,hj | 2,hj | 3,hj | 4,hj | 5,hj | 6,hj | 7,hj | 8,hj | 9,hj | 10,hj | 11,hj | 12,hj | 13,hj | 14,hj | 15,hj | 16,hj | 17,hj=>obtain rfl:=Option.some.inj hj;exact⟨by decide,rfl⟩
 | j+18,hj=>simp at hj
noncomputable def ruA:Oper:={dst:=some 78,op:= .makeFunc (.func fRc) #[] #[.tmp 9,.tmp 14,.tmp 10,.tmp 11,.tmp 12],type:=((fj (cL cR5)).getD 0 default).type,pos:=((fj (cL cR5)).getD 0 default).pos,after:= #[],guard:=none}
noncomputable def ruB:Oper:={dst:=none,op:= .defer {callee:= .value (.tmp 78),args:= #[],argTypes:= #[]},type:=((fj (cL cR5)).getD 1 default).type,pos:=((fj (cL cR5)).getD 1 default).pos,after:=((fj (cL cR5)).getD 1 default).after,guard:=none}
theorem OB:cL cR5= .region 10 #[ruA,ruB] false:=rfl
theorem GI (bf:Frame) (a:Act) (cs:List Frame) (w:World) (hsz:a.tmps.size=93):
  Steps Try.prog (lone (bf.at a [.code cR5]) cs w) (lone (bf.at {a.put (some 78) (Fd fRc (rY a [9,14,10,11,12]))with defers:=qF fRc (rY a [9,14,10,11,12])::a.defers} [.code cR6]) cs w):=by
 have hw:(cL cR5).wp Try.prog (fun e a' w'=>e= .normal∧w'=w∧a'={a.put (some 78) (Fd fRc (rY a [9,14,10,11,12]))with defers:=qF fRc (rY a [9,14,10,11,12])::a.defers}) a w:=by
  have hmf:∀ (fn:Fn) (first cap:Array Value) (w:World),(Instr.makeFunc fn first cap).run Try.prog w= .ok (.func fn first cap) w:=fun _ _ _ _=>rfl
  rw[OB]
  apply wp_region
  simp[wpOps,go_sem,ruA,ruB,hmf,Act.put,Act.eval,hsz,Fd,qF,rY]
 obtain⟨e,a',w',⟨rfl,rfl,rfl⟩,harr⟩:=hw bf [.code cR6] cs
 conv=>lhs;rw[J7]
 exact .head step_seq harr
theorem Mb:∀ r∈Try.f17.results.toList,∃ i ty,r= .cell i ty∧po.kp fq i=true:=by
 have h:Try.f17.results.toList.all (fun r=>match r with | .cell i _=>po.kp fq i | _=>false)=true:=by kernel_rfl
 rw[List.all_eq_true]at h
 intro r hr
 have:=h r hr
 cases r with
 | tmp i=>cases this
 | cell i ty=>exact⟨i,ty,rfl,this⟩
end Go.Proofs.Ytkdbjfncchmmpaa
