/- One step of the machine. One step of the machine does what is said, and so do many. Own: a value's copy. Run: its pieces; what it defers takes back a machine's giving up. Run: the machine runs till all is over, or it gives up. Run: the loop. Run: all of it. Run does what is said. A box among other things in memory; its Run there. A new box; a plugin is laid in; a graph's step on both sides. Arguments that are rows: numbers, steps of a graph. The laws of runs: what they begin with; Arith. A house in plain Lean: what each step answers, and what becomes of the house. No program here. The functions of the part 'house' as lists of steps. A house in memory: its box, and what each plugin was given. A house's methods: give, load, call. A house's steps. A new house; what a plugin was given, what it keeps; steps as they are handed in. A house is begun; many steps, one behind the other. What is loaded anew keeps nothing: the law's walk. -/
import Derived.Test.YtkdbjfncchmmpaaMg6
namespace Go.Proofs.Ytkdbjfncchmmpaa
set_option linter.unusedSimpArgs false
set_option linter.unusedVariables false
open Go
abbrev tFs:TypeId:=158
abbrev HT:TypeId:=169
abbrev wm:FuncId:=48
abbrev zI3:List AV:=[.int .i64 0,.int .i64 0,.int .i64 0]
theorem Gm {ms:aL} {p f:Int} {L:List XD} {F:Nat} (hL:ms.getD p.toNat none=some L) (hf:f=(F:Int)):dM ms p f=aw (L.getD F di) 0++[⟨105,0,0⟩]:=by
 unfold dM cU ci
 rw[hL,hf]
 rfl
theorem Gf {L:List XD} {F pc:Nat} {x:aQ} (hf:F<L.length) (hx:(aw (L.getD F di) 0++[(⟨105,0,0⟩:aQ)])[pc]? =some x):
  ∃ row lv,(∀ q,bQ (some tFs) none (dW L) (.int q (F:Int))=some (.ip row 0))∧(∀ k,ldA false k row 0=some lv)∧(∀ q,bQ (some HT) none lv (.int q (pc:Int))=some (.ip (bW x) 0))∧ldA true 3 (bW x) 0=some (.agg (bW x)):=by
 have e1:L[F]? =some L[F]:=List.getElem?_eq_getElem hf
 have e2:L.getD F di=L[F]:=by simp[List.getD,hf]
 rw[e2]at hx
 refine⟨[.isl none HT ((aw L[F] 0++[(⟨105,0,0⟩:aQ)]).map bW)],.isl none HT ((aw L[F] 0++[(⟨105,0,0⟩:aQ)]).map bW),fun q=> ?_,fun k=> ?_,fun q=> ?_,bI rfl⟩
 ·exact wc (q:=q) rfl (by rw[List.getElem?_map,e1];rfl)
 ·rw[eY];rfl
 ·exact wc (q:=q) rfl (by rw[List.getElem?_map,hx];rfl)
structure Kx (hh:AH) (c:Cfg) (n:Now) (P F:Nat) (L:List XD):Prop where
 m:∀ k:Nat,aD false k hh (.ptr c.mb 0 0)=some (.ptr c.bb 0 0)
 p:∀ k:Nat,aD false k hh (.ptr n.fb n.below.length 0)=some (.int .i64 (P:Int))
 cd:∀ k:Nat,aD false k hh (.ptr c.bb 0 (2+P*5+1))=some (dW L)
 f:∀ k:Nat,aD false k hh (.ptr n.fb n.below.length 1)=some (.int .i64 (F:Int))
 pc:∀ k:Nat,aD false k hh (.ptr n.fb n.below.length 2)=some (.int .i64 (n.top.pc:Int))
 ix:∀ q:IntKind,bQ none (some (4,5)) (.ptr c.bb 0 2) (.int q (P:Int))=some (.ptr c.bb 0 (2+P*5))
section
variable {h h' h0:AH} {F J F0 J0:Nat→Prop} {L:List Asn} {c:Cfg} {i:Nat} {n:Now}
theorem vH (s:St h0 F0 J0 h L) (a:At c L i n) (o:OkR c n) {P K:Nat} {Ls:List XD} (hP:n.top.plugin=(P:Int)) (hF:n.top.f=(K:Int)) (hP4:P<4) (hL:c.ms.getD P none=some Ls):Kx h c n P K Ls:=by
 obtain⟨l0,_,_⟩:=cH s a o.len
 obtain⟨ar,sv,nv,g,mv⟩:=cV s i a.m
 have g6:=bY n.top ar sv nv g mv.ha.len3.1
 obtain⟨ix,cd,_⟩:=mQ s a o hP4
 rw[hL]at cd
 exact⟨l0,fun k=>by rw[←hP];exact mv.rd k 0 _ g6.2.2.2.2.2.1,cd,fun k=>by rw[←hF];exact mv.rd k 1 _ g6.2.2.2.2.2.2.1,fun k=>mv.rd k 2 _ g6.2.2.2.2.2.2.2,ix⟩
abbrev Now.at (n:Now) (k:Nat):Now:={n with top:={n.top with pc:=k}}
structure Jw (h0:AH) (F0 J0:Nat→Prop) (h h3:AH) (c:Cfg) (L:List Asn) (i:Nat) (n:Now) (P K:Nat) (Ls:List XD) (x:aQ):Prop where
 s:St h0 F0 J0 h3 (ai (h.n+1) [bW x]::ai h.n [zR3]::put c L i (n.at (n.top.pc+1)))
 a:At c (ai (h.n+1) [bW x]::ai h.n [zR3]::put c L i (n.at (n.top.pc+1))) (i+1+1) (n.at (n.top.pc+1))
 o:OkR c (n.at (n.top.pc+1))
 tp:aj Try.prog po FX [.ptr c.mb 0 0] (h.push [zR3])=some (.inl (.ptr n.fb n.below.length 0),h.push [zR3])
 e1:Kx (h.push [zR3]) c n P K Ls
 e2:Kx ((h.push [zR3]).push [zI3]) c n P K Ls
 e3:∀ k:Nat,aD false k ((h.push [zR3]).push [bW x]) (.ptr n.fb n.below.length 2)=some (.int .i64 (n.top.pc:Int))
 w:IntKind.wrap .i64 ((n.top.pc:Int)+1)=((n.top.pc+1:Nat):Int)
 st:aI 1 ((h.push [zR3]).push [bW x]) (.ptr n.fb n.below.length 2) (.int .i64 ((n.top.pc+1:Nat):Int))=some h3
 cx:h3.cell (h.n+1)=some [bW x]
theorem DM (s:St h0 F0 J0 h L) (a:At c L i n) (o:OkR c n) (hm:jI c.ms) {P K:Nat} {Ls:List XD} (hP:n.top.plugin=(P:Int)) (hF:n.top.f=(K:Int)) (hP4:P<4) (hL:c.ms.getD P none=some Ls) (hpc:n.top.pc<(dM c.ms n.top.plugin n.top.f).length) (x:aQ):∃ h3,Jw h0 F0 J0 h h3 c L i n P K Ls x:=by
 have s1:=s.push [zR3]
 have a1:=a.cons (ai h.n [zR3])
 obtain⟨tp,_⟩:=ct s1 a1 o.below
 have e1:=vH s1 a1 o hP hF hP4 hL
 have s2:=s1.push [zI3]
 have a2:=a1.cons (ai (h.push [zR3]).n [zI3])
 have e2:=vH s2 a2 o hP hF hP4 hL
 have s3:St h0 F0 J0 ((h.push [zR3]).push [bW x]) (ai (h.n+1) [bW x]::ai h.n [zR3]::L):=s1.push [bW x]
 have a3:=a1.cons (ai (h.n+1) [bW x])
 have e3:=vH s3 a3 o hP hF hP4 hL
 obtain⟨h4,e4,s4⟩:=zi s3 (i+1+1) a3.m (n.top.pc+1)
 rw[a3.setM]at s4
 have s5:St h0 F0 J0 h4 (ai (h.n+1) [bW x]::ai h.n [zR3]::put c L i (n.at (n.top.pc+1))):=s4
 have b:=hm n.top.plugin n.top.f
 exact⟨h4,s5,((a.put _).cons _).cons _,⟨o.ms,o.S,o.below,o.stk,o.nms,o.log⟩,tp,e1,e2,e3.pc,y9 (by omega) (by omega) (by omega),e4,(s5.cell 0 rfl).1⟩
theorem n8 {A B:Asn} {n':Now}:put c (A::B::L) (i+1+1) n'=A::B::put c L i n':=rfl
structure iV (h0:AH) (F0 J0:Nat→Prop) (h:AH) (c:Cfg) (L:List Asn) (i:Nat) (n:Now) (x:aQ):Prop where
 s:St h0 F0 J0 h L
 a:At c L i n
 o:OkR c n
 hm:jI c.ms
 ok:Ok c.ms n.m
 get:(dM c.ms n.top.plugin n.top.f).getD n.top.pc np=x
theorem iV.pre {x:aQ} (b:iV h0 F0 J0 h c L i n x):∃ (h3:AH) (P K:Nat) (Ls:List XD) (row:List AV) (lv:AV),Jw h0 F0 J0 h h3 c L i n P K Ls x∧(∀ q,bQ (some tFs) none (dW Ls) (.int q (K:Int))=some (.ip row 0))∧(∀ k,ldA false k row 0=some lv)∧(∀ q,bQ (some HT) none lv (.int q (n.top.pc:Int))=some (.ip (bW x) 0))∧ldA true 3 (bW x) 0=some (.agg (bW x)):=by
 have hg:=b.ok.good.top
 obtain⟨P,hP⟩:=Int.eq_ofNat_of_zero_le hg.p0
 obtain⟨K,hK⟩:=Int.eq_ofNat_of_zero_le hg.f0
 have hP:n.top.plugin=(P:Int):=hP
 have hK:n.top.f=(K:Int):=hK
 have hth:=hg.there
 have pP:n.top.plugin.toNat=P:=by rw[hP];rfl
 have hP4:P<4:=by
  rcases Nat.lt_or_ge P 4 with h | h
  ·exact h
  ·have hth:(c.ms.getD n.top.plugin.toNat none).isSome=true:=hth
   rw[pP,List.getD,List.getElem?_eq_none (by rw[b.o.ms];exact h)]at hth
   cases hth
 obtain⟨Ls,hL⟩:=Option.isSome_iff_exists.1 hth
 have hL:c.ms.getD n.top.plugin.toNat none=some Ls:=hL
 have hpc:n.top.pc<(dM c.ms n.top.plugin n.top.f).length:=b.ok.pc
 have hf1:n.top.f.toNat<(ci c.ms n.top.plugin).length:=hg.f1
 have hKl:K<Ls.length:=by
  have e:n.top.f.toNat=K:=by rw[hK];rfl
  rw[e]at hf1
  unfold ci at hf1
  rw[hL]at hf1
  exact hf1
 obtain⟨h3,p⟩:=DM b.s b.a b.o b.hm hP hK hP4 (by rw[←pP];exact hL) hpc x
 have hx:(aw (Ls.getD K di) 0++[(⟨105,0,0⟩:aQ)])[n.top.pc]? =some x:=by
  rw[←Gm hL hK]
  have:=b.get
  rw[List.getD,List.getElem?_eq_getElem hpc]at this
  rw[List.getElem?_eq_getElem hpc]
  exact congrArg some this
 obtain⟨row,lv,q1,q2,q3,q4⟩:=Gf hKl hx
 exact⟨h3,P,K,Ls,row,lv,p,q1,q2,q3,q4⟩
set_option maxRecDepth 100000 in
set_option maxHeartbeats 2000000 in
theorem Aq {k m:Int} (b:iV h0 F0 J0 h c L i n ⟨100,k,m⟩):∃ fr h',aj Try.prog po wm [.ptr c.mb 0 0] h=some (fr,h')∧uG h0 F0 J0 c L i (if n.S.left=0 then .fail n.S 12 else .go ⟨n.S.tick,(n.at (n.top.pc+1)).top,n.below⟩) fr h':=by
 obtain⟨h3,P,K,Ls,row,lv,p,q1,q2,q3,q4⟩:=b.pre
 have f0:aK 0 (.ptr c.mb 0 0)=some (.ptr c.mb 0 0):=rfl
 have f1:aK 2 (.ptr c.bb 0 0)=some (.ptr c.bb 0 2):=rfl
 have f2:aK 0 (.ptr n.fb n.below.length 0)=some (.ptr n.fb n.below.length 0):=rfl
 have f3:aK 1 (.ptr c.bb 0 (2+P*5))=some (.ptr c.bb 0 (2+P*5+1)):=rfl
 have f4:aK 1 (.ptr n.fb n.below.length 0)=some (.ptr n.fb n.below.length 1):=rfl
 have f5:aK 2 (.ptr n.fb n.below.length 0)=some (.ptr n.fb n.below.length 2):=rfl
 have f6:aK 2 (.ptr c.mb 0 0)=some (.ptr c.mb 0 2):=rfl
 have f7:aK 7 (.ptr n.fb n.below.length 0)=some (.ptr n.fb n.below.length 7):=rfl
 obtain⟨ar,sv,nv,g,mv⟩:=cV p.s (i+1+1) p.a.m
 have ll:∀ k:Nat,aD false k h3 (.ptr c.mb 0 2)=some (.int .i64 (n.S.left:Int)):=fun k=>by rw[bC,mv.m];rfl
 by_cases hl:n.S.left=0
 ·rw[if_pos hl]
  refine⟨_,_,?_,rfl,n.at (n.top.pc+1),rfl,p.s.drop.drop⟩
  have d:decide ((n.S.left:Int)=0)=true:=decide_eq_true (by omega)
  refine ah dq rfl ?_;unfold cO
  simp only[sim,ag,Nat.reduceAdd,Nat.reduceSub,List.replicate,reduceCtorEq,Nat.reduceLeDiff,Nat.reduceLT,aa,az,Int.reduceEq,decide_false,decide_true,p.tp,p.e1.m,p.e1.p,p.e1.cd,p.e1.f,p.e1.pc,p.e1.ix,p.e2.m,p.e2.p,p.e2.cd,p.e2.f,p.e2.pc,p.e3,p.w,p.st,p.cx,q1,q2,q3,q4,f0,f1,f2,f3,f4,f5,f6,f7,ll,d,bL]
 ·rw[if_neg hl]
  have d:decide ((n.S.left:Int)=0)=false:=decide_eq_false (by omega)
  have hb:=b.ok.good.stk
  have hb:n.top.stack.length+n.S.left≤100000:=hb
  have w:IntKind.wrap .i64 ((n.S.left:Int) - 1)=((n.S.left - 1:Nat):Int):=y9 (by omega) (by omega) (by omega)
  obtain⟨h4,e4,s4⟩:=Ff p.s (i+1+1) p.a.m ((n.S.left - 1:Nat):Int)
  rw[p.a.setM,n8,aO]at s4
  have s5:=s4.set 1 rfl [zR3]
  have c4:=(s4.cell 1 rfl).1
  have c5:=(s5.cell 1 rfl).1
  refine⟨.inl (.tup [.agg zR3,.bool false]),_,?_,zR3,rfl,⟨rfl,rfl⟩,n.fb,s5.drop.drop⟩
  refine ah dq rfl ?_;unfold cO
  simp only[sim,ag,Nat.reduceAdd,Nat.reduceSub,List.replicate,reduceCtorEq,Nat.reduceLeDiff,Nat.reduceLT,aa,az,Int.reduceEq,decide_false,decide_true,p.tp,p.e1.m,p.e1.p,p.e1.cd,p.e1.f,p.e1.pc,p.e1.ix,p.e2.m,p.e2.p,p.e2.cd,p.e2.f,p.e2.pc,p.e3,p.w,p.st,p.cx,q1,q2,q3,q4,f0,f1,f2,f3,f4,f5,f6,f7,ll,d,bX,w,e4,c4,c5]
set_option maxRecDepth 100000 in
set_option maxHeartbeats 2000000 in
theorem zs {k m:Int} (b:iV h0 F0 J0 h c L i n ⟨101,k,m⟩) {st:List VD} {v:VD} (hst:n.top.stack=st++[v]):∃ fr h',aj Try.prog po wm [.ptr c.mb 0 0] h=some (fr,h')∧uG h0 F0 J0 c L i (.go ⟨n.S,{(n.at (n.top.pc+1)).top with stack:=st,names:=n.top.names++[v]},n.below⟩) fr h':=by
 obtain⟨h3,P,K,Ls,row,lv,p,q1,q2,q3,q4⟩:=b.pre
 have f0:aK 0 (.ptr c.mb 0 0)=some (.ptr c.mb 0 0):=rfl
 have f1:aK 2 (.ptr c.bb 0 0)=some (.ptr c.bb 0 2):=rfl
 have f2:aK 0 (.ptr n.fb n.below.length 0)=some (.ptr n.fb n.below.length 0):=rfl
 have f3:aK 1 (.ptr c.bb 0 (2+P*5))=some (.ptr c.bb 0 (2+P*5+1)):=rfl
 have f4:aK 1 (.ptr n.fb n.below.length 0)=some (.ptr n.fb n.below.length 1):=rfl
 have f5:aK 2 (.ptr n.fb n.below.length 0)=some (.ptr n.fb n.below.length 2):=rfl
 have f6:aK 2 (.ptr c.mb 0 0)=some (.ptr c.mb 0 2):=rfl
 have f7:aK 7 (.ptr n.fb n.below.length 0)=some (.ptr n.fb n.below.length 7):=rfl
 obtain⟨h4,r,e4,hv,s4,a4⟩:=eQ p.s p.a p.o (st:=st) (v:=v) hst
 rw[n8,aO]at s4
 rw[n8,aO]at a4
 have s5:St h0 F0 J0 ((h4.push [r]).push [zR3]) (ai (h4.n+1) [zR3]::ai h4.n [r]::ai (h.n+1) [bW ⟨101,k,m⟩]::ai h.n [zR3]::put c L i ((n.at (n.top.pc+1)).stk st)):=(s4.push [r]).push [zR3]
 have a5:=(a4.cons (ai h4.n [r])).cons (ai (h4.n+1) [zR3])
 obtain⟨ar,sv,nv,g,mv⟩:=cV s5 (i+1+1+1+1) a5.m
 have g6:=bY {(n.at (n.top.pc+1)).top with stack:=st} ar sv nv g mv.ha.len3.1
 have l7:=fun k=>mv.rd k 7 _ g6.2.2.1
 have m4:=s4.push [r]
 have m4a:=a4.cons (ai h4.n [r])
 obtain⟨ar',sv',nv',g',mv'⟩:=cV m4 (i+1+1+1) m4a.m
 have g6':=bY {(n.at (n.top.pc+1)).top with stack:=st} ar' sv' nv' g' mv'.ha.len3.1
 have l7':=fun k=>mv'.rd k 7 _ g6'.2.2.1
 clear g6 g6'
 have hz:=(s5.cell 0 rfl).1
 obtain⟨o1,o2⟩:=hv.len3
 have hnv:nv'=nv:=by
  have e:=(tF (h:=h4.push [r]) (b:=n.fb) (i:=n.below.length) (off:=7) (k:=0) (g:=false) (es:=[zR3]) mv'.fbn).symm.trans (l7 0)
  rw[l7' 0]at e
  exact Option.some.inj e
 subst hnv
 obtain⟨q,h6,h7,h8,b1,b2,b3,b4,s8⟩:=DX s5 (i+1+1+1+1) a5.m hv (by have:=p.o.nms;simp only at this ⊢;omega) hz mv
 rw[a5.setM,ap,ap,n8,aO]at s8
 have s9:=s8.set 3 rfl [zR3]
 have c4:=(m4.cell 0 rfl).1
 have c5:=(s5.cell 1 rfl).1
 have c8:=(s8.cell 1 rfl).1
 have c9:=(s8.cell 3 rfl).1
 have c10:=(s9.cell 3 rfl).1
 have ln:=mv.nv.2.2.1
 have lo:=mv.nv.1
 have fi:=mv.nv.2.2.2.1
 have xm:bQ (some tV) none (.msl q 0 (n.top.names.length+1) tV) (.int .i64 (n.top.names.length:Int))=some (.ptr q n.top.names.length 0):=by
  have:=qO (q:= .i64) (e:=tV) (el:=tV) (b:=q) (o:=0) (n:=n.top.names.length+1) (i:=n.top.names.length) rfl (by omega)
  rwa [Nat.zero_add]at this
 refine⟨.inl (.tup [.agg zR3,.bool false]),_,?_,zR3,rfl,⟨rfl,rfl⟩,n.fb,s9.drop.drop.drop.drop⟩
 refine ah dq rfl ?_;unfold cO
 simp only[sim,ag,Nat.reduceAdd,Nat.reduceSub,List.replicate,reduceCtorEq,Nat.reduceLeDiff,Nat.reduceLT,aa,az,Int.reduceEq,decide_false,decide_true,p.tp,p.e1.m,p.e1.p,p.e1.cd,p.e1.f,p.e1.pc,p.e1.ix,p.e2.m,p.e2.p,p.e2.cd,p.e2.f,p.e2.pc,p.e3,p.w,p.st,p.cx,q1,q2,q3,q4,f0,f1,f2,f3,f4,f5,f6,f7,e4,o1,o2,c4,c5,l7,l7',ln,lo,fi,xm,b1,b2,b3,b4,c8,c9,c10]
set_option maxRecDepth 100000 in
set_option maxHeartbeats 2000000 in
theorem yO {k m:Int} (b:iV h0 F0 J0 h c L i n ⟨102,k,m⟩) {nm:List VD} {v:VD} (hst:n.top.names=nm++[v]):∃ fr h',aj Try.prog po wm [.ptr c.mb 0 0] h=some (fr,h')∧uG h0 F0 J0 c L i (.go ⟨n.S,{(n.at (n.top.pc+1)).top with names:=nm},n.below⟩) fr h':=by
 obtain⟨h3,P,K,Ls,row,lv,p,q1,q2,q3,q4⟩:=b.pre
 have f0:aK 0 (.ptr c.mb 0 0)=some (.ptr c.mb 0 0):=rfl
 have f1:aK 2 (.ptr c.bb 0 0)=some (.ptr c.bb 0 2):=rfl
 have f2:aK 0 (.ptr n.fb n.below.length 0)=some (.ptr n.fb n.below.length 0):=rfl
 have f3:aK 1 (.ptr c.bb 0 (2+P*5))=some (.ptr c.bb 0 (2+P*5+1)):=rfl
 have f4:aK 1 (.ptr n.fb n.below.length 0)=some (.ptr n.fb n.below.length 1):=rfl
 have f5:aK 2 (.ptr n.fb n.below.length 0)=some (.ptr n.fb n.below.length 2):=rfl
 have f6:aK 2 (.ptr c.mb 0 0)=some (.ptr c.mb 0 2):=rfl
 have f7:aK 7 (.ptr n.fb n.below.length 0)=some (.ptr n.fb n.below.length 7):=rfl
 obtain⟨ar,sv,nv,g,mv⟩:=cV p.s (i+1+1) p.a.m
 have g6:=bY (n.at (n.top.pc+1)).top ar sv nv g mv.ha.len3.1
 have l7:=fun k=>mv.rd k 7 _ g6.2.2.1
 clear g6
 obtain⟨nv',h4,b1,b2,b3,b4,s4⟩:=E0 p.s (i+1+1) p.a.m (nm:=nm) (v:=v) hst mv
 rw[p.a.setM,n8,aO]at s4
 have s5:=s4.set 1 rfl [zR3]
 have c4:=(s4.cell 1 rfl).1
 have c5:=(s5.cell 1 rfl).1
 have ln:=mv.nv.2.2.1
 have hlen:(n.at (n.top.pc+1)).top.names.length=nm.length+1:=by
  show n.top.names.length=_
  rw[hst];simp
 rw[hlen]at ln
 have hn:=p.o.nms
 rw[hlen]at hn
 have lo:=mv.nv.1
 have fi:=mv.nv.2.2.2.1
 have w:IntKind.wrap .i64 (((nm.length+1:Nat):Int) - 1)=(nm.length:Int):=y9 (by omega) (by omega) (by omega)
 refine⟨.inl (.tup [.agg zR3,.bool false]),_,?_,zR3,rfl,⟨rfl,rfl⟩,n.fb,s5.drop.drop⟩
 refine ah dq rfl ?_;unfold cO
 simp only[sim,ag,Nat.reduceAdd,Nat.reduceSub,List.replicate,reduceCtorEq,Nat.reduceLeDiff,Nat.reduceLT,aa,az,Int.reduceEq,decide_false,decide_true,p.tp,p.e1.m,p.e1.p,p.e1.cd,p.e1.f,p.e1.pc,p.e1.ix,p.e2.m,p.e2.p,p.e2.cd,p.e2.f,p.e2.pc,p.e3,p.w,p.st,p.cx,q1,q2,q3,q4,f0,f1,f2,f3,f4,f5,f6,f7,l7,ln,lo,fi,w,b1,b2,b3,b4,c4,c5]
set_option maxRecDepth 100000 in
set_option maxHeartbeats 2000000 in
theorem zX {k m:Int} (b:iV h0 F0 J0 h c L i n ⟨103,k,m⟩) {st:List VD} {v:VD} (hst:n.top.stack=st++[v]) (hk0:0≤k):∃ fr h',aj Try.prog po wm [.ptr c.mb 0 0] h=some (fr,h')∧uG h0 F0 J0 c L i (if v.kind≠1 then .fail n.S 2 else .go ⟨n.S,{(n.at (n.top.pc+1)).top with stack:=st,pc:=if v.n=0 then k.toNat else n.top.pc+1},n.below⟩) fr h':=by
 obtain⟨h3,P,K,Ls,row,lv,p,q1,q2,q3,q4⟩:=b.pre
 have f0:aK 0 (.ptr c.mb 0 0)=some (.ptr c.mb 0 0):=rfl
 have f1:aK 2 (.ptr c.bb 0 0)=some (.ptr c.bb 0 2):=rfl
 have f2:aK 0 (.ptr n.fb n.below.length 0)=some (.ptr n.fb n.below.length 0):=rfl
 have f3:aK 1 (.ptr c.bb 0 (2+P*5))=some (.ptr c.bb 0 (2+P*5+1)):=rfl
 have f4:aK 1 (.ptr n.fb n.below.length 0)=some (.ptr n.fb n.below.length 1):=rfl
 have f5:aK 2 (.ptr n.fb n.below.length 0)=some (.ptr n.fb n.below.length 2):=rfl
 have f6:aK 2 (.ptr c.mb 0 0)=some (.ptr c.mb 0 2):=rfl
 have f7:aK 7 (.ptr n.fb n.below.length 0)=some (.ptr n.fb n.below.length 7):=rfl
 obtain⟨h4,r,e4,hv,s4,a4⟩:=eQ p.s p.a p.o (st:=st) (v:=v) hst
 rw[n8,aO]at s4
 rw[n8,aO]at a4
 obtain⟨o1,o2⟩:=hv.len3
 by_cases hk:v.kind=1
 ·rw[if_neg (by simpa using hk)]
  obtain⟨r',ek,hr'⟩:=dK (h:=h4) hv hk
  obtain⟨w,hw,_⟩:=hr'.cells3
  have hn:HW false 1 1 (.agg r')=some (.int .i64 v.n):=by rw[hw];rfl
  obtain⟨o3,o4⟩:=hr'.len3
  clear hw
  by_cases hz:v.n=0
  ·rw[if_pos hz]
   have d:decide (v.n=0)=true:=decide_eq_true hz
   have c4:=(s4.cell 0 rfl).1
   obtain⟨h5,e5,s5⟩:=zi s4 (i+1+1) a4.m k.toNat
   rw[Int.toNat_of_nonneg hk0]at e5
   rw[a4.setM,n8,aO]at s5
   have s6:=s5.set 1 rfl [zR3]
   have c5:=(s5.cell 1 rfl).1
   have c6:=(s6.cell 1 rfl).1
   refine⟨.inl (.tup [.agg zR3,.bool false]),_,?_,zR3,rfl,⟨rfl,rfl⟩,n.fb,s6.drop.drop⟩
   refine ah dq rfl ?_;unfold cO
   simp only[sim,ag,Nat.reduceAdd,Nat.reduceSub,List.replicate,reduceCtorEq,Nat.reduceLeDiff,Nat.reduceLT,aa,az,Int.reduceEq,decide_false,decide_true,p.tp,p.e1.m,p.e1.p,p.e1.cd,p.e1.f,p.e1.pc,p.e1.ix,p.e2.m,p.e2.p,p.e2.cd,p.e2.f,p.e2.pc,p.e3,p.w,p.st,p.cx,q1,q2,q3,q4,f0,f1,f2,f3,f4,f5,f6,f7,e4,o1,o2,ek,hn,o3,o4,d,c4,e5,c5,c6]
  ·rw[if_neg hz]
   have d:decide (v.n=0)=false:=decide_eq_false hz
   have s6:=s4.set 1 rfl [zR3]
   have c5:=(s4.cell 1 rfl).1
   have c6:=(s6.cell 1 rfl).1
   refine⟨.inl (.tup [.agg zR3,.bool false]),_,?_,zR3,rfl,⟨rfl,rfl⟩,n.fb,s6.drop.drop⟩
   refine ah dq rfl ?_;unfold cO
   simp only[sim,ag,Nat.reduceAdd,Nat.reduceSub,List.replicate,reduceCtorEq,Nat.reduceLeDiff,Nat.reduceLT,aa,az,Int.reduceEq,decide_false,decide_true,p.tp,p.e1.m,p.e1.p,p.e1.cd,p.e1.f,p.e1.pc,p.e1.ix,p.e2.m,p.e2.p,p.e2.cd,p.e2.f,p.e2.pc,p.e3,p.w,p.st,p.cx,q1,q2,q3,q4,f0,f1,f2,f3,f4,f5,f6,f7,e4,o1,o2,ek,hn,o3,o4,d,c5,c6]
 ·rw[if_pos hk]
  have ek:=eU (h:=h4) hv hk
  refine⟨_,_,?_,rfl,(n.at (n.top.pc+1)).stk st,rfl,s4.drop.drop⟩
  refine ah dq rfl ?_;unfold cO
  simp only[sim,ag,Nat.reduceAdd,Nat.reduceSub,List.replicate,reduceCtorEq,Nat.reduceLeDiff,Nat.reduceLT,aa,az,Int.reduceEq,decide_false,decide_true,p.tp,p.e1.m,p.e1.p,p.e1.cd,p.e1.f,p.e1.pc,p.e1.ix,p.e2.m,p.e2.p,p.e2.cd,p.e2.f,p.e2.pc,p.e3,p.w,p.st,p.cx,q1,q2,q3,q4,f0,f1,f2,f3,f4,f5,f6,f7,e4,o1,o2,ek]
set_option maxRecDepth 100000 in
set_option maxHeartbeats 2000000 in
theorem zq {k m:Int} (b:iV h0 F0 J0 h c L i n ⟨104,k,m⟩) (hk0:0≤k):∃ fr h',aj Try.prog po wm [.ptr c.mb 0 0] h=some (fr,h')∧uG h0 F0 J0 c L i (.go ⟨n.S,{(n.at (n.top.pc+1)).top with pc:=k.toNat},n.below⟩) fr h':=by
 obtain⟨h3,P,K,Ls,row,lv,p,q1,q2,q3,q4⟩:=b.pre
 have f0:aK 0 (.ptr c.mb 0 0)=some (.ptr c.mb 0 0):=rfl
 have f1:aK 2 (.ptr c.bb 0 0)=some (.ptr c.bb 0 2):=rfl
 have f2:aK 0 (.ptr n.fb n.below.length 0)=some (.ptr n.fb n.below.length 0):=rfl
 have f3:aK 1 (.ptr c.bb 0 (2+P*5))=some (.ptr c.bb 0 (2+P*5+1)):=rfl
 have f4:aK 1 (.ptr n.fb n.below.length 0)=some (.ptr n.fb n.below.length 1):=rfl
 have f5:aK 2 (.ptr n.fb n.below.length 0)=some (.ptr n.fb n.below.length 2):=rfl
 have f6:aK 2 (.ptr c.mb 0 0)=some (.ptr c.mb 0 2):=rfl
 have f7:aK 7 (.ptr n.fb n.below.length 0)=some (.ptr n.fb n.below.length 7):=rfl
 have c4:=(p.s.cell 0 rfl).1
 obtain⟨h5,e5,s5⟩:=zi p.s (i+1+1) p.a.m k.toNat
 rw[Int.toNat_of_nonneg hk0]at e5
 rw[p.a.setM,n8,aO]at s5
 have s6:=s5.set 1 rfl [zR3]
 have c5:=(s5.cell 1 rfl).1
 have c6:=(s6.cell 1 rfl).1
 refine⟨.inl (.tup [.agg zR3,.bool false]),_,?_,zR3,rfl,⟨rfl,rfl⟩,n.fb,s6.drop.drop⟩
 refine ah dq rfl ?_;unfold cO
 simp only[sim,ag,Nat.reduceAdd,Nat.reduceSub,List.replicate,reduceCtorEq,Nat.reduceLeDiff,Nat.reduceLT,aa,az,Int.reduceEq,decide_false,decide_true,p.tp,p.e1.m,p.e1.p,p.e1.cd,p.e1.f,p.e1.pc,p.e1.ix,p.e2.m,p.e2.p,p.e2.cd,p.e2.f,p.e2.pc,p.e3,p.w,p.st,p.cx,q1,q2,q3,q4,f0,f1,f2,f3,f4,f5,f6,f7,c4,e5,c5,c6]
theorem LP {A B:Asn} {n':Now} {fb':Nat} {S:StD}:j8 c (A::B::put c L i n') (i+1+1) fb' S=A::B::j8 c L i fb' S:=by
 have:j8 c (put c L i n') i fb' S=j8 c L i fb' S:=by
  unfold j8
  rw[aO]
 exact congrArg (fun l=>A::B::l) this
set_option maxRecDepth 100000 in
set_option maxHeartbeats 2000000 in
theorem zF {k m:Int} (b:iV h0 F0 J0 h c L i n ⟨105,k,m⟩) {st:List VD} {v:VD} (hst:n.top.stack=st++[v]) (hgo:∀ m',MaD.back (n.at (n.top.pc+1)).m= .go m'→m'.top.stack.length≤100000):∃ fr h',aj Try.prog po wm [.ptr c.mb 0 0] h=some (fr,h')∧uG h0 F0 J0 c L i (MaD.back (n.at (n.top.pc+1)).m) fr h':=by
 obtain⟨h3,P,K,Ls,row,lv,p,q1,q2,q3,q4⟩:=b.pre
 have f0:aK 0 (.ptr c.mb 0 0)=some (.ptr c.mb 0 0):=rfl
 have f1:aK 2 (.ptr c.bb 0 0)=some (.ptr c.bb 0 2):=rfl
 have f2:aK 0 (.ptr n.fb n.below.length 0)=some (.ptr n.fb n.below.length 0):=rfl
 have f3:aK 1 (.ptr c.bb 0 (2+P*5))=some (.ptr c.bb 0 (2+P*5+1)):=rfl
 have f4:aK 1 (.ptr n.fb n.below.length 0)=some (.ptr n.fb n.below.length 1):=rfl
 have f5:aK 2 (.ptr n.fb n.below.length 0)=some (.ptr n.fb n.below.length 2):=rfl
 have f6:aK 2 (.ptr c.mb 0 0)=some (.ptr c.mb 0 2):=rfl
 have f7:aK 7 (.ptr n.fb n.below.length 0)=some (.ptr n.fb n.below.length 7):=rfl
 obtain⟨fr,h4,e4,ob⟩:=Ik p.s p.a p.o (st:=st) (v:=v) hst b.ok.good.top.gates hgo
 generalize MaD.back (n.at (n.top.pc+1)).m=q at*
 cases q with
 | go m'=>
   obtain⟨r,rfl,⟨o1,o2⟩,fb',s4⟩:=ob
   rw[n8,aO]at s4
   have s5:=s4.set 1 rfl [r]
   have c4:=(s4.cell 1 rfl).1
   have c5:=(s5.cell 1 rfl).1
   refine⟨.inl (.tup [.agg r,.bool false]),_,?_,r,rfl,⟨o1,o2⟩,fb',s5.drop.drop⟩
   refine ah dq rfl ?_;unfold cO
   simp only[sim,ag,Nat.reduceAdd,Nat.reduceSub,List.replicate,reduceCtorEq,Nat.reduceLeDiff,Nat.reduceLT,aa,az,Int.reduceEq,decide_false,decide_true,p.tp,p.e1.m,p.e1.p,p.e1.cd,p.e1.f,p.e1.pc,p.e1.ix,p.e2.m,p.e2.p,p.e2.cd,p.e2.f,p.e2.pc,p.e3,p.w,p.st,p.cx,q1,q2,q3,q4,f0,f1,f2,f3,f4,f5,f6,f7,e4,o1,o2,c4,c5]
 | fail S k'=>
   obtain⟨rfl,n',hn',s4⟩:=ob
   rw[n8,aO]at s4
   refine⟨_,_,?_,rfl,n',hn',s4.drop.drop⟩
   refine ah dq rfl ?_;unfold cO
   simp only[sim,ag,Nat.reduceAdd,Nat.reduceSub,List.replicate,reduceCtorEq,Nat.reduceLeDiff,Nat.reduceLT,aa,az,Int.reduceEq,decide_false,decide_true,p.tp,p.e1.m,p.e1.p,p.e1.cd,p.e1.f,p.e1.pc,p.e1.ix,p.e2.m,p.e2.p,p.e2.cd,p.e2.f,p.e2.pc,p.e3,p.w,p.st,p.cx,q1,q2,q3,q4,f0,f1,f2,f3,f4,f5,f6,f7,e4]
 | over S v'=>
   obtain⟨r,rfl,hv,fb',s4⟩:=ob
   rw[LP]at s4
   obtain⟨o1,o2⟩:=hv.len3
   have s5:=s4.set 1 rfl [r]
   have c4:=(s4.cell 1 rfl).1
   have c5:=(s5.cell 1 rfl).1
   refine⟨.inl (.tup [.agg r,.bool true]),_,?_,r,rfl,hv,fb',s5.drop.drop⟩
   refine ah dq rfl ?_;unfold cO
   simp only[sim,ag,Nat.reduceAdd,Nat.reduceSub,List.replicate,reduceCtorEq,Nat.reduceLeDiff,Nat.reduceLT,aa,az,Int.reduceEq,decide_false,decide_true,p.tp,p.e1.m,p.e1.p,p.e1.cd,p.e1.f,p.e1.pc,p.e1.ix,p.e2.m,p.e2.p,p.e2.cd,p.e2.f,p.e2.pc,p.e3,p.w,p.st,p.cx,q1,q2,q3,q4,f0,f1,f2,f3,f4,f5,f6,f7,e4,o1,o2,c4,c5]
set_option maxRecDepth 100000 in
set_option maxHeartbeats 2000000 in
theorem Fi {x:aQ} (b:iV h0 F0 J0 h c L i n x) (hop:x.op<100):∃ fr h',aj Try.prog po wm [.ptr c.mb 0 0] h=some (fr,h')∧uG h0 F0 J0 c L i (jP c.ms (n.at (n.top.pc+1)).m x) fr h':=by
 obtain⟨h3,P,K,Ls,row,lv,p,q1,q2,q3,q4⟩:=b.pre
 have f0:aK 0 (.ptr c.mb 0 0)=some (.ptr c.mb 0 0):=rfl
 have f1:aK 2 (.ptr c.bb 0 0)=some (.ptr c.bb 0 2):=rfl
 have f2:aK 0 (.ptr n.fb n.below.length 0)=some (.ptr n.fb n.below.length 0):=rfl
 have f3:aK 1 (.ptr c.bb 0 (2+P*5))=some (.ptr c.bb 0 (2+P*5+1)):=rfl
 have f4:aK 1 (.ptr n.fb n.below.length 0)=some (.ptr n.fb n.below.length 1):=rfl
 have f5:aK 2 (.ptr n.fb n.below.length 0)=some (.ptr n.fb n.below.length 2):=rfl
 have f6:aK 2 (.ptr c.mb 0 0)=some (.ptr c.mb 0 2):=rfl
 have f7:aK 7 (.ptr n.fb n.below.length 0)=some (.ptr n.fb n.below.length 7):=rfl
 have hg:=b.ok.good.top
 have hx:=b.ok.op
 have hget:(dM c.ms n.m.top.plugin n.m.top.f).getD n.m.top.pc np=x:=b.get
 rw[hget]at hx
 obtain⟨fr,h4,e4,oi⟩:=KX p.s p.a p.o (x:=x) ⟨hg.p0,hg.there,hg.f0,hg.f1,hg.arg,hg.names,hg.stack,hg.gates⟩ ⟨hx.kind,hx.one,hx.nam,hx.jump,hx.parts,hx.var⟩ hop
 have d:∀ j:Int,100≤j→decide (x.op=j)=false:=fun j hj=>decide_eq_false (by omega)
 have d0:=d 100 (by decide);have d1:=d 101 (by decide);have d2:=d 102 (by decide);have d3:=d 103 (by decide);have d4:=d 104 (by decide);have d5:=d 105 (by decide)
 have c3:=(p.s.cell 0 rfl).1
 generalize jP c.ms (n.at (n.top.pc+1)).m x=q at*
 cases q with
 | go m'=>
   obtain⟨rfl,fb',s4⟩:=oi
   rw[n8,aO]at s4
   have s5:=s4.set 1 rfl [zR3]
   have c4:=(s4.cell 1 rfl).1
   have c5:=(s5.cell 1 rfl).1
   refine⟨.inl (.tup [.agg zR3,.bool false]),_,?_,zR3,rfl,⟨rfl,rfl⟩,fb',s5.drop.drop⟩
   refine ah dq rfl ?_;unfold cO
   simp only[sim,ag,Nat.reduceAdd,Nat.reduceSub,List.replicate,reduceCtorEq,Nat.reduceLeDiff,Nat.reduceLT,aa,az,Int.reduceEq,decide_false,decide_true,p.tp,p.e1.m,p.e1.p,p.e1.cd,p.e1.f,p.e1.pc,p.e1.ix,p.e2.m,p.e2.p,p.e2.cd,p.e2.f,p.e2.pc,p.e3,p.w,p.st,p.cx,q1,q2,q3,q4,f0,f1,f2,f3,f4,f5,f6,f7,e4,c3,c4,c5,d0,d1,d2,d3,d4,d5]
 | fail S k'=>
   obtain⟨rfl,n',hn',s4⟩:=oi
   rw[n8,aO]at s4
   refine⟨_,_,?_,rfl,n',hn',s4.drop.drop⟩
   refine ah dq rfl ?_;unfold cO
   simp only[sim,ag,Nat.reduceAdd,Nat.reduceSub,List.replicate,reduceCtorEq,Nat.reduceLeDiff,Nat.reduceLT,aa,az,Int.reduceEq,decide_false,decide_true,p.tp,p.e1.m,p.e1.p,p.e1.cd,p.e1.f,p.e1.pc,p.e1.ix,p.e2.m,p.e2.p,p.e2.cd,p.e2.f,p.e2.pc,p.e3,p.w,p.st,p.cx,q1,q2,q3,q4,f0,f1,f2,f3,f4,f5,f6,f7,e4,c3,d0,d1,d2,d3,d4,d5]
 | over S v'=>exact oi.elim
end
section
variable {h h' h0:AH} {F J F0 J0:Nat→Prop} {L:List Asn} {c:Cfg} {i:Nat} {n:Now}
theorem LO {c:Cfg} {n:Now} (hc:c.ms.length=4) (g:n.m.Good c.ms):OkR c n:=by
 have g1:n.S.mu≤1000000:=g.mu
 have g2:n.top.stack.length+n.S.left≤100000:=g.stk
 have g3:n.top.names.length+n.S.left≤100000:=g.nms
 have g4:n.below.length+1≤20:=g.few
 unfold StD.mu at g1
 exact⟨hc,g.S,by omega,by omega,by omega,by omega⟩
theorem vP (s:St h0 F0 J0 h L) (a:At c L i n) (hc:c.ms.length=4) (hm:jI c.ms) (ok:Ok c.ms n.m) (hnext:∀ m',fB c.ms n.m= .go m'→m'.Good c.ms):
  ∃ fr h',aj Try.prog po wm [.ptr c.mb 0 0] h=some (fr,h')∧uG h0 F0 J0 c L i (fB c.ms n.m) fr h':=by
 have b:iV h0 F0 J0 h c L i n ((dM c.ms n.top.plugin n.top.f).getD n.top.pc np):=⟨s,a,LO hc ok.good,hm,ok,rfl⟩
 have hx:=ok.op
 have hx:Cn n.m ((dM c.ms n.top.plugin n.top.f).getD n.top.pc np):=hx
 have hs:fB c.ms n.m=(let x:=(dM c.ms n.top.plugin n.top.f).getD n.top.pc np
  let m:MaD:=(n.at (n.top.pc+1)).m
  let t:=m.top
  if x.op=100 then(if m.S.left=0 then .fail m.S 12 else .go {m with S:=m.S.tick})
  else if x.op=101 then .go {m with top:={t with stack:=kx t.stack 1,names:=t.names++[(jl t.stack 1).getD 0 ay]}}
  else if x.op=102 then .go {m with top:={t with names:=t.names.dropLast}}
  else if x.op=103 then(let v:=(jl t.stack 1).getD 0 ay
   if v.kind≠1 then .fail m.S 2 else .go {m with top:={t with stack:=kx t.stack 1,pc:=if v.n=0 then x.k.toNat else t.pc}})
  else if x.op=104 then .go {m with top:={t with pc:=x.k.toNat}}
  else if x.op=105 then m.back
  else jP c.ms m x):=rfl
 rw[hs]at hnext ⊢
 generalize (dM c.ms n.top.plugin n.top.f).getD n.top.pc np=x at*
 clear hs
 obtain⟨op,k,m⟩:=x
 simp only at hnext ⊢
 have hkind:=hx.kind
 simp only at hkind
 rcases hkind with hk | hk
 ·rw[if_neg (by omega),if_neg (by omega),if_neg (by omega),if_neg (by omega),if_neg (by omega),if_neg (by omega)]
  exact Fi b (by show op<100;omega)
 ·have ops:op=100∨op=101∨op=102∨op=103∨op=104∨op=105:=by omega
  rcases ops with rfl | rfl | rfl | rfl | rfl | rfl
  ·rw[if_pos rfl]
   exact Aq b
  ·obtain⟨st,v,hst⟩:=ei (l:=n.top.stack) (by have:=hx.one (.inl rfl);exact List.length_pos_iff.2 this)
   rw[if_neg (by decide),if_pos rfl]
   have:=zs b hst
   simp only[hst,dQ,fS]
   exact this
  ·obtain⟨nm,v,hst⟩:=ei (l:=n.top.names) (by have:=hx.nam rfl;exact List.length_pos_iff.2 this)
   rw[if_neg (by decide),if_neg (by decide),if_pos rfl]
   have:=yO b hst
   simp only[hst,List.dropLast_concat]
   exact this
  ·obtain⟨st,v,hst⟩:=ei (l:=n.top.stack) (by have:=hx.one (.inr (.inl rfl));exact List.length_pos_iff.2 this)
   rw[if_neg (by decide),if_neg (by decide),if_neg (by decide),if_pos rfl]
   have:=zX b hst (hx.jump (.inl rfl))
   simp only[hst,dQ,fS,List.getD_cons_zero]
   exact this
  ·rw[if_neg (by decide),if_neg (by decide),if_neg (by decide),if_neg (by decide),if_pos rfl]
   exact zq b (hx.jump (.inr rfl))
  ·obtain⟨st,v,hst⟩:=ei (l:=n.top.stack) (by have:=hx.one (.inr (.inr rfl));exact List.length_pos_iff.2 this)
   simp only[Int.reduceEq,if_false,if_true]at hnext ⊢
   refine zF b hst fun m' e=> ?_
   have g:=(hnext m' e).stk
   omega
end
set_option maxHeartbeats 1000000 in
theorem pF:∀ (N:Nat) (x:VD),SizeOf.sizeOf x≤N→x.size≤100000→∀ (r:List AV) (h:AH),VaA x r→
  ∃ r',aj Try.prog po 46 [.agg r] h=some (.inl (.agg r'),h)∧VaA (id x) r':=by
 intro N
 induction N with
 | zero=>intro x hx;have:=x.so_pos;omega
 | succ N ih=>
   intro x hx hsz r h he
   obtain⟨v,es,rfl,hsl,hv,hn,hix⟩:=he.facts
   have hlen:=x.len_size
   suffices key:∃ v',aj Try.prog po 46 [.agg [.int .i64 x.kind,.int .i64 x.n,v]] h=some (.inl v',h)∧∃ r',v'= .agg r'∧VaA (id x) r' by
    obtain⟨_,e,r',rfl,h2⟩:=key
    exact⟨r',e,h2⟩
   have rest:∀ (Q:iX→Prop) (h0:AH) (w4 w8:AV) (z:Int),h0=((h.push [[.int .i64 x.kind,.int .i64 x.n,v]]).push [[.int .i64 0,.int .i64 0,.nils]]).push [[.int .i64 x.kind,.int .i64 z,.nils]]→
     z=(id x).n→
     (∀ V h' v v',(eL V h' [.cell true 3 2]).map fq=some v→ae h h'→wkA v=some v'→(∃ r',v'= .agg r'∧VaA (id x) r')→Q (some (.ret,V,h')))→
     Q (aq (aj Try.prog po) 9 (.lp jN:: .ss []:: .blk 0::[.ss [.ops [(.i .l (.load true 3 (.v 3))),(.i .n (.store 3 (.v 2) (.l 0)))],.ret]])
       [.agg [.int .i64 x.kind,.int .i64 x.n,v],.ptr h.n 0 0,.ptr (h.n+1) 0 0,.ptr (h.n+1+1) 0 0,w4,v,.int .i64 es.length,.int .i64 0,w8] [] h0):=by
    intro Q h0 w4 w8 z hh0 hz hQ
    subst hh0
    refine gX (fun i V h'=>∃ w4 w8 acc rows,V=[.agg [.int .i64 x.kind,.int .i64 x.n,v],.ptr h.n 0 0,.ptr (h.n+1) 0 0,.ptr (h.n+1+1) 0 0,w4,v,.int .i64 es.length,.int .i64 (i:Nat),w8]∧
     ae h h'∧h.n+1+1<h'.n∧h'.cell h.n=some [[.int .i64 x.kind,.int .i64 x.n,v]]∧h'.cell (h.n+1)=some [[.int .i64 0,.int .i64 0,.nils]]∧h'.cell (h.n+1+1)=some [[.int .i64 x.kind,.int .i64 z,acc]]∧
     Acc h h' tV acc rows∧VaL ((x.l.take i).map id) rows) x.l.length ⟨_,_,_,[],rfl,(by repeat (first | exact ae.refl _ | refine ae.trans ?_ (ae.push _ _) | refine ae.trans ?_ (ae.fresh _ _))),by simp only[aM];omega,gE,jO,eZ,kU _ _ _,rfl⟩ ?_ ?_
    ·rintro i V h' hi ⟨w4,w8,acc,rows,rfl,g,hm,c1,c2,c3,ha,hr⟩ next
     have hlt:(i:Int)<(es.length:Int):=by rw[hn];omega
     obtain⟨y,hy⟩:=ke hi
     obtain⟨q,i1,d1,x1⟩:=hix i y hy
     have hw:=w64 (n:=(i:Int)+1) (by omega) (by omega)
     obtain⟨q',e1,x2⟩:=ih y (by have:=VD.lt_mem (ir hy);omega) (by have:=VD.size_mem (ir hy);omega) q (h'.push [q]) x1
     obtain⟨p1,p2⟩:=x1.one
     replace c1:=(aR (es:=[q]) (show h.n<h'.n by omega)).trans c1
     replace c2:=(aR (es:=[q]) (show h.n+1<h'.n by omega)).trans c2
     replace c3:=(aR (es:=[q]) hm).trans c3
     obtain⟨o1,o2⟩:=x2.one
     have hrl:rows.length≤1000000:=by rw[hr.len,List.length_map,List.length_take];omega
     obtain⟨acc2,h2,e2,a1,a2,a3,a4⟩:=mr (show Acc h (h'.push [q]) tV acc rows from ha) (g.trans (ae.push _ _)) (row:=q') o1 hrl
     simp only[gU]at e2
     have b1:(h2.set (h.n+1+1) (some [[.int .i64 x.kind,.int .i64 z,acc2]])).cell h.n=some [[.int .i64 x.kind,.int .i64 x.n,v]]:=by rw[bc (by omega),a3];exact c1
     have b2:(h2.set (h.n+1+1) (some [[.int .i64 x.kind,.int .i64 z,acc2]])).cell (h.n+1)=some [[.int .i64 0,.int .i64 0,.nils]]:=by rw[bc (by omega),a3];exact c2
     have oA:acc2.one=true:=by
      rcases a1 with⟨_,rfl⟩ | ⟨id,_,_,_,_,rfl⟩<;>rfl
     have cA:acc2.cells=[acc2]:=by
      rcases a1 with⟨_,rfl⟩ | ⟨id,_,_,_,_,rfl⟩<;>rfl
     rw[aG jN.eq_1]
     simp only[sim,ag,Nat.reduceAdd,Nat.reduceSub,List.replicate,reduceCtorEq,Nat.reduceLeDiff,Nat.reduceLT,aa,c1,c2,c3,hsl.len,hsl.fits,hlt,i1,d1,e1,p1,p2,bI p2,o1,o2,e2,hsl.len,a3,oA,cA,hw]
     refine next _ _ ⟨_,_,_,_,rfl,a2.set (by omega),by rw[dN,a4];show _<h'.n+1;omega,b1,b2,aP,a1,?_⟩
     rw[jd hy,List.map_append]
     exact hr.append x2
    ·rintro V h' ⟨w4,w8,acc,rows,rfl,g,hm,c1,c2,c3,ha,hr⟩
     have hlt:¬ ((x.l.length:Int)<(es.length:Int)):=by rw[hn];omega
     rw[List.take_length]at hr
     have oA:acc.one=true:=by
      rcases ha with⟨_,rfl⟩ | ⟨id,_,_,_,_,rfl⟩<;>rfl
     have hsl':SlA tV acc rows:=by
      rcases ha with⟨q1,q2⟩ | ⟨id,_,_,_,_,q2⟩
      ·exact .inl ⟨q1,q2⟩
      ·exact .inr ⟨_,q2⟩
     have hx':VaA (id x) [.int .i64 x.kind,.int .i64 z,acc]:=by
      rw[hz]
      have:=VaA.mk (x:=id x) hsl' (by rw[ML];exact hr)
      rw[MT]at this
      exact this
     obtain⟨r',hw,hr'⟩:=xy hx'
     have hwA:wkA (.agg [.int .i64 x.kind,.int .i64 z,acc])=some (.agg r'):=by simp only[wkA,hw,Option.map_some]
     rw[aG jN.eq_1]
     simp only[sim,ag,Nat.reduceAdd,Nat.reduceSub,List.replicate,reduceCtorEq,Nat.reduceLeDiff,Nat.reduceLT,aa,c1,c2,c3,hsl.len,hsl.fits,hlt,oA]
     exact hQ _ _ _ _ (by simp only[sim,oA,List.all_cons,List.all_nil,List.length_cons,List.length_nil,Option.map_some,Option.bind_some,List.getD_cons_zero,List.getD_cons_succ,List.take_succ_cons,List.take_zero,List.drop_zero]) (g.set (by omega)) hwA ⟨r',rfl,hr'⟩
   refine zZ Ib rfl fun Q hQ=> ?_;unfold AX
   simp only[sim,ag,Nat.reduceAdd,Nat.reduceSub,List.replicate,reduceCtorEq,Nat.reduceLeDiff,Nat.reduceLT,aa,hv,hsl.len,hsl.fits]
   exact rest _ _ _ _ x.n rfl rfl hQ
open Go Go.RowKit
abbrev eG:FuncId:=17
abbrev fRc:FuncId:=47
noncomputable def cRu:Code:=Try.f17.body.getD .skip
noncomputable def cRc:Code:=Try.f47.body.getD .skip
theorem Gw:(Try.prog).funcs[fRc]? =some Try.f47:=Try.func47
theorem Ay:Try.f47.body=some cRc:=rfl
theorem DO:cRc= .seq (cL cRc) (cR cRc):=rfl
theorem L1:Try.f47.ntmps=27:=rfl
noncomputable def rcA:Oper:={dst:=some 8,op:= .call {callee:= .builtin .recover,args:= #[],argTypes:= #[]},type:=((eB (cL cRc)).getD 0 default).type,pos:=((eB (cL cRc)).getD 0 default).pos,after:= #[],guard:=none}
noncomputable def rcB:Oper:={dst:=some 5,op:= .assign (.tmp 8),type:=((eB (cL cRc)).getD 1 default).type,pos:=((eB (cL cRc)).getD 1 default).pos,after:=((eB (cL cRc)).getD 1 default).after,guard:=none}
theorem Ez:cL cRc= .region 0 #[rcA,rcB] false:=rfl
abbrev vRc:List Nat:=[0,1,2,3,4,5,6,7,10,17]
theorem Kh:be Try.prog (po.mu fRc) (po.plan fRc) 27 vRc (cR cRc) []=some zD:=by kernel_rfl
theorem Fd:cE (po.plan fRc) (po.kp fRc) (cR cRc)=true:=by kernel_rfl
theorem JZ:sa 5 27 (po.nv fRc) 10 vRc=true:=by kernel_rfl
theorem Fv (a:Array Value) (w:World):∃ v,(results Try.f47 a).run Try.prog w= .ok v w:=⟨.tuple #[],by simp[results,Try.results47]⟩
theorem Em:EH Try.prog (cL cRc) 27 8 5:=by
 intro ts v cs cs' w hsz h
 rw[Ez]
 apply wpS_region
 rcases h with h1 | ⟨h1,h2,h3⟩
 ·simp[wpOpsS,go_sem,rcA,rcB,h1,Act.put,Act.eval,hsz]
 ·simp[wpOpsS,go_sem,rcA,rcB,h1,Act.put,Act.eval,hsz,h2,h3]
theorem J9 (x y z u t e:AV):RV 27 vRc [] (bD (bD ([x,y,z,u,t]++List.replicate (27 - [x,y,z,u,t].length) .junk) (some 8) e) (some 5) e) [x,y,z,u,t,e,.junk,.junk,.junk,.junk] []:=by
 refine⟨by simp[bD],rfl,rfl,fun j s hj=> ?_,fun j s hj=>by simp at hj⟩
 match j,hj with
 | 0,hj | 1,hj | 2,hj | 3,hj | 4,hj | 5,hj | 6,hj | 7,hj | 8,hj | 9,hj=>obtain rfl:=Option.some.inj hj;exact⟨by decide,rfl⟩
 | j+10,hj=>simp at hj
theorem tS:(Try.prog).funcs[eG]? =some Try.f17:=Try.func17
theorem H2:Try.f17.body=some cRu:=rfl
theorem MN:Try.f17.ntmps=93:=rfl
noncomputable abbrev cR1:Code:=cR cRu
noncomputable abbrev cR2:Code:=cR cR1
noncomputable abbrev cR3:Code:=cR cR2
noncomputable abbrev cR4:Code:=cR cR3
noncomputable abbrev cR5:Code:=cR cR4
noncomputable abbrev cR6:Code:=cR cR5
theorem Ln:cRu= .seq (cL cRu) cR1:=rfl
theorem pi:cR1= .seq (cL cR1) cR2:=rfl
theorem Bx:cR2= .seq (cL cR2) cR3:=rfl
theorem H5:cR3= .seq (cL cR3) cR4:=rfl
theorem H8:cR4= .seq (cL cR4) cR5:=rfl
theorem Ih:cR5= .seq (cL cR5) cR6:=rfl
abbrev vRu:List Nat:=[0,1,2,3,4,8,9,10,11,12,13,14,15,16,17,33,62,84]
theorem kf:sa 5 93 (po.nv eG) 18 vRu=true:=by kernel_rfl
theorem Kw:be Try.prog (po.mu eG) (po.plan eG) 93 vRu (cL cRu) []=some we:=by kernel_rfl
theorem uU:be Try.prog (po.mu eG) (po.plan eG) 93 vRu (cL cR1) []=some kJ:=by kernel_rfl
theorem E3:be Try.prog (po.mu eG) (po.plan eG) 93 vRu (cL cR2) []=some wd:=by kernel_rfl
theorem K7:be Try.prog (po.mu eG) (po.plan eG) 93 vRu (cL cR3) []=some vO:=by kernel_rfl
theorem K6:be Try.prog (po.mu eG) (po.plan eG) 93 vRu (cL cR4) []=some wa:=by kernel_rfl
theorem DQ:be Try.prog (po.mu eG) (po.plan eG) 93 vRu cR6 []=some qk:=by kernel_rfl
theorem Hh:cE (po.plan eG) (po.kp eG) (cL cRu)=true:=by kernel_rfl
theorem px:cE (po.plan eG) (po.kp eG) (cL cR1)=true:=by kernel_rfl
theorem Ax:cE (po.plan eG) (po.kp eG) (cL cR2)=true:=by kernel_rfl
theorem Iv:cE (po.plan eG) (po.kp eG) (cL cR3)=true:=by kernel_rfl
theorem HM:cE (po.plan eG) (po.kp eG) (cL cR4)=true:=by kernel_rfl
theorem Bf:cE (po.plan eG) (po.kp eG) cR6=true:=by kernel_rfl
theorem pH:iI Try.prog vRu Try.f17.results.toList=some [.cell true 3 7,.cell false 1 8,.cell false 1 9]:=by kernel_rfl
theorem My (x y z u t:AV):RV 93 vRu [] ([x,y,z,u,t]++List.replicate (93 - [x,y,z,u,t].length) .junk) ([x,y,z,u,t]++List.replicate (vRu.length - [x,y,z,u,t].length) .junk) []:=by
 refine⟨by simp,rfl,rfl,fun j s hj=> ?_,fun j s hj=>by simp at hj⟩
 match j,hj with
 | 0,hj | 1,hj | 2,hj | 3,hj | 4,hj | 5,hj | 6,hj | 7,hj | 8,hj | 9,hj | 10,hj | 11,hj | 12,hj | 13,hj | 14,hj | 15,hj | 16,hj | 17,hj=>obtain rfl:=Option.some.inj hj;exact⟨by decide,rfl⟩
 | j+18,hj=>simp at hj
noncomputable def ruA:Oper:={dst:=some 78,op:= .makeFunc (.func fRc) #[] #[.tmp 9,.tmp 14,.tmp 10,.tmp 11,.tmp 12],type:=((eB (cL cR5)).getD 0 default).type,pos:=((eB (cL cR5)).getD 0 default).pos,after:= #[],guard:=none}
noncomputable def ruB:Oper:={dst:=none,op:= .defer {callee:= .value (.tmp 78),args:= #[],argTypes:= #[]},type:=((eB (cL cR5)).getD 1 default).type,pos:=((eB (cL cR5)).getD 1 default).pos,after:=((eB (cL cR5)).getD 1 default).after,guard:=none}
theorem KL:cL cR5= .region 10 #[ruA,ruB] false:=rfl
theorem DP (bf:Frame) (a:Act) (cs:List Frame) (w:World) (hsz:a.tmps.size=93):
  Steps Try.prog (lone (bf.at a [.code cR5]) cs w) (lone (bf.at {a.put (some 78) (DK fRc (sq a [9,14,10,11,12]))with defers:=pb fRc (sq a [9,14,10,11,12])::a.defers} [.code cR6]) cs w):=by
 have hw:(cL cR5).wp Try.prog (fun e a' w'=>e= .normal∧w'=w∧a'={a.put (some 78) (DK fRc (sq a [9,14,10,11,12]))with defers:=pb fRc (sq a [9,14,10,11,12])::a.defers}) a w:=by
  have hmf:∀ (fn:Fn) (first cap:Array Value) (w:World),(Instr.makeFunc fn first cap).run Try.prog w= .ok (.func fn first cap) w:=fun _ _ _ _=>rfl
  rw[KL]
  apply wp_region
  simp[wpOps,go_sem,ruA,ruB,hmf,Act.put,Act.eval,hsz,DK,pb,sq]
 obtain⟨e,a',w',⟨rfl,rfl,rfl⟩,harr⟩:=hw bf [.code cR6] cs
 conv=>lhs;rw[Ih]
 exact .head step_seq harr
theorem JW:∀ r∈Try.f17.results.toList,∃ i ty,r= .cell i ty∧po.kp eG i=true:=by
 have h:Try.f17.results.toList.all (fun r=>match r with | .cell i _=>po.kp eG i | _=>false)=true:=by kernel_rfl
 rw[List.all_eq_true]at h
 intro r hr
 have:=h r hr
 cases r with
 | tmp i=>cases this
 | cell i ty=>exact⟨i,ty,rfl,this⟩
open Go Go.RowKit
theorem It {ms:aL} (hg:oJ ms) {p f:Int} {v:VD} {S:StD} (hS:S.Good) (hmu:S.mu≤1000000) (hl:S.left≤2000) (hv:v.code=0) (hp:0≤p) (ht:(ms.getD p.toNat none).isSome) (hf:0≤f) (hf1:f.toNat<(ci ms p).length) {N:Nat} (hN:S.left≤N):
  fN ms ⟨S,⟨p,f,0,v,[],[],false,[]⟩,[]⟩ (match ofD ms N p (cU ms p f) v [] 1 S with
   | (S',w,c)=>if c≠0 then .fail S' c else .over S' w):=by
 have hG:(⟨S,⟨p,f,0,v,[],[],false,[]⟩,[]⟩:MaD).Good ms:=⟨hS,⟨hp,ht,hf,hf1,hv,by simp,by simp,by simp⟩,hmu,by simp only[List.length_nil];omega,by simp only[List.length_nil];omega,by simp⟩
 have h3:=Mn hg N (cU ms p f) ⟨S,⟨p,f,0,v,[],[],false,[]⟩,[]⟩ hG hN (rI hg hf1) ⟨[],[⟨105,0,0⟩],by simp[dM],rfl⟩
 have hox3:=gt ms N p (cU ms p f) v [] 1 S hS hv (by simp)
 simp only[List.length_nil,Nat.zero_add]at h3
 rcases hq3:ofD ms N p (cU ms p f) v [] 1 S with⟨S3,v3,c3⟩
 rw[hq3]at h3 hox3
 unfold ft at h3
 simp only at h3 ⊢
 by_cases hz:c3=0
 ·rw[if_neg (by simpa using hz)]at h3 ⊢
  have st3:bh ms (MaD.after ⟨S,⟨p,f,0,v,[],[],false,[]⟩,[]⟩ S3 (aw (cU ms p f) 0).length [v3]) [⟨105,0,0⟩]:=⟨aw (cU ms p f) 0,[],by simp[dM,MaD.after],by simp[MaD.after]⟩
  have bst:=nT (c:=[]) (st:=[]) (v:=v3) st3 rfl
  have ok3:=bh.at st3 (hG.after1 hox3 hz) ⟨by simp,by simp[MaD.after],by simp,by simp,by simp,by simp⟩
  simp only[MaD.after,Bool.false_eq_true,if_false,List.getLast?_nil,StD.ok]at bst
  rw[if_neg (by simp)]at bst
  exact h3 _ (.over ok3 bst)
 ·rw[if_pos hz]at h3 ⊢
  exact h3
theorem fN.ok {ms:aL} {m:MaD} {r:ij} (h:fN ms m r):Ok ms m:=by cases h<;>assumption
theorem yX {h:AH} {a b c d e:AV} {m:Mm} {w:World} {ps:List Value} (hw:WR Try.prog m h w) (hv:VRs Try.prog m h [a,b,c,d,e] ps):
  CallsD Try.prog fRc ps.toArray .returning w fun e u'' w'=>(∃ v,e= .returned v)∧u''= .returning∧∃ m',Ext m h m' h∧WR Try.prog m' h w'∧Below m.base w w':=by
 refine clG pok Gw Ay DO L1 Fv Em (bK JZ) Kh Fd (V':=[a,b,c,d,e,.nili,.junk,.junk,.bool false,.junk]) ?_ (J9 _ _ _ _ _ .nili) hw hv (by simp) .nili .returning fun c hc cs=> .inr ⟨C1 c hc cs,rfl,rfl⟩
 unfold zD
 have ifG_no:ka .iface none true .neq .nili .nili=some (.bool false):=rfl
 simp only[sim,ag,Nat.reduceAdd,Nat.reduceSub,List.replicate,reduceCtorEq,Nat.reduceLeDiff,Nat.reduceLT,aa,ifG_no]
theorem CH {h:AH} {cf cm co cu cc mb:Nat} {m:Mm} {w:World} {ps:List Value} {u:Value} {k fuel left:Int} {z1 z2:AV} {o1:List AV} {o2 o3:AV} (hw:WR Try.prog m h w) (hv:VRs Try.prog m h [.ptr cf 0 0,.ptr cm 0 0,.ptr co 0 0,.ptr cu 0 0,.ptr cc 0 0] ps) (vu:VR Try.prog m h (.iface tGo (.int .i64 k)) u)
  (hf:h.cell cf=some [[.int .i64 fuel]]) (hm:h.cell cm=some [[.ptr mb 0 0]]) (hb:h.cell mb=some [[z1,z2,.int .i64 left]]) (ho:h.cell co=some [o1]) (hl:o1.length=3) (hu:h.cell cu=some [[o2]]) (hc:h.cell cc=some [[o3]]) (n1:cu≠co) (n2:cc≠co) (n3:cc≠cu) (hwr:IntKind.wrap .i64 (fuel - left)=fuel - left):
  CallsD Try.prog fRc ps.toArray (.panicking [{v:=u,recovered:=false}]) w fun e u'' w'=>(∃ v,e= .returned v)∧u''= .panicking [{v:=u,recovered:=true}]∧
   ∃ m',Ext m h m' (((h.set co (some [zR3])).set cu (some [[.int .i64 (fuel - left)]])).set cc (some [[.int .i64 k]]))∧WR Try.prog m' (((h.set co (some [zR3])).set cu (some [[.int .i64 (fuel - left)]])).set cc (some [[.int .i64 k]])) w'∧Below m.base w w':=by
 have k7:(h.set co (some [zR3])).cell cu=some [[o2]]:=(bc n1).trans hu
 have k8:((h.set co (some [zR3])).set cu (some [[.int .i64 (fuel - left)]])).cell cc=some [[o3]]:=(bc n3).trans ((bc n2).trans hc)
 refine clG pok Gw Ay DO L1 Fv Em (bK JZ) Kh Fd (V':=[.ptr cf 0 0,.ptr cm 0 0,.ptr co 0 0,.ptr cu 0 0,.ptr cc 0 0,.iface tGo (.int .i64 k),.int .i64 k,.bool true,.bool true,.bool false]) ?_ (J9 _ _ _ _ _ (.iface tGo (.int .i64 k))) hw hv (by simp) vu (.panicking [{v:=u,recovered:=true}]) fun c hc cs=> .inl (Ao c hc cs)
 unfold zD
 have ifG_yes:ka .iface none true .neq (.iface tGo (.int .i64 k)) .nili=some (.bool true):=rfl
 have tasG_yes:Ds tGo true (.iface tGo (.int .i64 k))=some (.tup [.int .i64 k,.bool true]):=by simp[Ds]
 simp only[sim,ag,Nat.reduceAdd,Nat.reduceSub,List.replicate,reduceCtorEq,Nat.reduceLeDiff,Nat.reduceLT,aa,ifG_yes,tasG_yes,hf,hm,hb,ho,hl,k7,k8,hwr]
open Go Go.RowKit
abbrev six (b mb:Nat) (code used:Int) (out:List AV) (fuel:Int) (r:List AV) (L:List Asn):List Asn:=
 ai (b+1+1+1+1+1+1) [[.ptr mb 0 0]]::ai (b+1+1+1+1) [[.int .i64 code]]::ai (b+1+1+1) [[.int .i64 used]]::ai (b+1+1) [out]::ai (b+1) [[.int .i64 fuel]]::ai b [r]::L
abbrev Vv (bb b:Nat) (p f:Int) (r:List AV) (fuel:Int) (x y z:AV):List AV:=
 [.ptr bb 0 0,.int .i64 p,.int .i64 f,.agg r,.int .i64 fuel,.ptr b 0 0,.ptr (b+1) 0 0,.ptr (b+1+1) 0 0,.ptr (b+1+1+1) 0 0,.ptr (b+1+1+1+1) 0 0,.int .i64 0,.ptr (b+1+1+1+1+1+1) 0 0,x,y,.bool false,.bool false,.bool false,z]
def MW (h0:AH) (F0 J0:Nat→Prop) (c:Cfg) (L:List Asn) (b:Nat) (p f:Int) (r:List AV) (fuel:Int) (q:ij) (x:AEx) (V:List AV) (h':AH):Prop:=(∃ x y z,V=Vv c.bb b p f r fuel x y z)∧match q with
 | .go _=>False
 | .over S v=>x= .ret∧∃ fb' r',VaA v r'∧St h0 F0 J0 h' (six b c.mb 0 (fuel - (S.left:Int)) r' fuel r (j8 c L 0 fb' S))
 | .fail S k=>x= .panic (.iface tGo (.int .i64 k))∧∃ n':Now,n'.S=S∧St h0 F0 J0 h' (six b c.mb 0 0 zR3 fuel r (put c L 0 n'))
section
variable {h h' h0:AH} {F J F0 J0:Nat→Prop} {L:List Asn} {c:Cfg}
theorem Md {A1 A2 A3 A4 A5 A6:Asn} {n':Now} {fb':Nat} {S:StD}:j8 c (A1::A2::A3::A4::A5::A6::put c L 0 n') (0+1+1+1+1+1+1) fb' S=A1::A2::A3::A4::A5::A6::j8 c L 0 fb' S:=by
 have:j8 c (put c L 0 n') 0 fb' S=j8 c L 0 fb' S:=by
  unfold j8
  rw[aO]
 exact congrArg (fun l=>A1::A2::A3::A4::A5::A6::l) this
theorem Mf {A1 A2 A3 A4 A5 A6:Asn} {n n':Now}:put c (A1::A2::A3::A4::A5::A6::put c L 0 n) (0+1+1+1+1+1+1) n'=A1::A2::A3::A4::A5::A6::put c L 0 n':=by
 have:put c (put c L 0 n) 0 n'=put c L 0 n':=aO
 exact congrArg (fun l=>A1::A2::A3::A4::A5::A6::l) this
theorem KB {i:Nat} (hl:i+3<L.length) (n':Now):At c (put c L i n') i n':=by
 refine⟨?_,?_,?_,?_⟩<;>rw[eW]
 ·rw[if_pos (by omega),if_neg (by omega),if_neg (by omega),if_neg (by omega),if_pos rfl]
 ·rw[if_pos (by omega),if_neg (by omega),if_neg (by omega),if_pos rfl]
 ·rw[if_pos (by omega),if_neg (by omega),if_pos rfl]
 ·rw[if_pos (by omega),if_pos rfl]
theorem Ae {b mb:Nat} {code used:Int} {out:List AV} {fuel:Int} {r:List AV} (hl:3<L.length) (n:Now):At c (six b mb code used out fuel r (put c L 0 n)) (0+1+1+1+1+1+1) n:=
 ((((((KB (i:=0) hl n).cons (ai b [r])).cons (ai (b+1) [[.int .i64 fuel]])).cons (ai (b+1+1) [out])).cons (ai (b+1+1+1) [[.int .i64 used]])).cons (ai (b+1+1+1+1) [[.int .i64 code]])).cons (ai (b+1+1+1+1+1+1) [[.ptr mb 0 0]])
def LS:ij→Prop
 | .go _=>False
 | .over S v=>S.left≤2000∧v.size≤100000
 | .fail S _=>S.left≤2000
set_option maxRecDepth 100000 in
set_option maxHeartbeats 2000000 in
theorem wM (hL:3<L.length) (hc:c.ms.length=4) (hm:jI c.ms) {b:Nat} {p f:Int} {r:List AV} {fuel:Int} (hfu:0≤fuel∧fuel≤2000) {m:MaD} {q:ij} (hr:fN c.ms m q):LS q→∀ (n:Now) (h:AH) (x y z:AV),n.m=m→St h0 F0 J0 h (six b c.mb 0 0 zR3 fuel r (put c L 0 n))→
  ∃ e V' h3,aq (aj Try.prog po) 18 [.lp gS,.ss [],.blk 1,.ss [],.halt []] (Vv c.bb b p f r fuel x y z) [] h=some (e,V',h3)∧MW h0 F0 J0 c L b p f r fuel q e V' h3:=by
 induction hr with
 | @go m m' q ok hs hr ih=>
   intro hq n h x y z hn s
   subst hn
   have a6:=Ae (c:=c) (b:=b) (mb:=c.mb) (code:=0) (used:=0) (out:=zR3) (fuel:=fuel) (r:=r) hL n
   obtain⟨fr,h1,e1,ob⟩:=vP s a6 hc hm ok fun m'' e=>by rw[hs]at e;cases e;exact hr.ok.good
   rw[hs]at ob
   obtain⟨r1,rfl,⟨o1,o2⟩,fb',s1⟩:=ob
   rw[Mf]at s1
   have c0:=(s.cell 0 rfl).1
   have s2:=s1.push [r1]
   obtain⟨e,V',h3,e3,o3⟩:=ih hq ⟨fb',m'.S,m'.below,m'.top⟩ (h1.push [r1]) (.ptr h1.n 0 0) (.bool false) (.bool false) rfl s2.drop
   refine⟨e,V',h3,?_,o3⟩
   rw[←e3]
   rw[aG gS.eq_1]
   simp only[sim,ag,Nat.reduceAdd,Nat.reduceSub,List.replicate,reduceCtorEq,Nat.reduceLeDiff,Nat.reduceLT,aa,az,c0,e1,o1,o2]
 | @over m S v ok hs=>
   intro hq n h x y z hn s
   subst hn
   have a6:=Ae (c:=c) (b:=b) (mb:=c.mb) (code:=0) (used:=0) (out:=zR3) (fuel:=fuel) (r:=r) hL n
   obtain⟨fr,h1,e1,ob⟩:=vP s a6 hc hm ok fun m'' e=>by rw[hs]at e;cases e
   rw[hs]at ob
   obtain⟨r1,rfl,hv,fb',s1⟩:=ob
   rw[Md]at s1
   obtain⟨hq1,hq2⟩:=hq
   obtain⟨o1,o2⟩:=hv.len3
   have c0:=(s.cell 0 rfl).1
   have s2:St h0 F0 J0 (h1.push [r1]) (ai h1.n [r1]::six b c.mb 0 0 zR3 fuel r (j8 c L 0 fb' S)):=s1.push [r1]
   obtain⟨r2,e2,hv2⟩:=pF _ v (Nat.le_refl _) hq2 r1 (h1.push [r1]) hv
   have hv2:VaA v r2:=by rw[id_eq]at hv2;exact hv2
   obtain⟨o3,o4⟩:=hv2.len3
   have hend:(j8 c L 0 fb' S)[0]? =some (yW c.mb c.bb fb' (S.left:Int)):=by
    unfold j8
    rw[List.getElem?_set_self (by rw[pD];omega)]
   have cm:=(s2.cell 7 hend).1
   have cp:=(s2.cell 1 rfl).1
   have cf:=(s2.cell 5 rfl).1
   have co:=(s2.cell 4 rfl).1
   have s3:=s2.set 4 rfl [r2]
   have s3:St h0 F0 J0 _ (ai h1.n [r1]::six b c.mb 0 0 r2 fuel r (j8 c L 0 fb' S)):=s3
   have cm3:=(s3.cell 7 hend).1
   have cp3:=(s3.cell 1 rfl).1
   have cf3:=(s3.cell 5 rfl).1
   have cu3:=(s3.cell 3 rfl).1
   have s4:=s3.set 3 rfl [[.int .i64 (fuel - (S.left:Int))]]
   have s4:St h0 F0 J0 _ (ai h1.n [r1]::six b c.mb 0 (fuel - (S.left:Int)) r2 fuel r (j8 c L 0 fb' S)):=s4
   have cc4:=(s4.cell 2 rfl).1
   have s5:=s4.set 2 rfl [[.int .i64 0]]
   have w:IntKind.wrap .i64 (fuel - (S.left:Int))=fuel - (S.left:Int):=w64 (by omega) (by omega)
   have f2:aK 2 (.ptr c.mb 0 0)=some (.ptr c.mb 0 2):=rfl
   refine⟨.ret,Vv c.bb b p f r fuel (.ptr h1.n 0 0) (.bool true) (.bool true),_,?_,⟨_,_,_,rfl⟩,rfl,fb',r2,hv2,s5.drop⟩
   rw[aG gS.eq_1]
   simp only[sim,ag,Nat.reduceAdd,Nat.reduceSub,List.replicate,reduceCtorEq,Nat.reduceLeDiff,Nat.reduceLT,aa,az,c0,e1,o1,o2,o3,o4,e2,cm,cp,cf,co,cm3,cp3,cf3,cu3,cc4,w,f2]
 | @fail m S k ok hs=>
   intro hq n h x y z hn s
   subst hn
   have a6:=Ae (c:=c) (b:=b) (mb:=c.mb) (code:=0) (used:=0) (out:=zR3) (fuel:=fuel) (r:=r) hL n
   obtain⟨fr,h1,e1,ob⟩:=vP s a6 hc hm ok fun m'' e=>by rw[hs]at e;cases e
   rw[hs]at ob
   obtain⟨rfl,n',hn',s1⟩:=ob
   rw[Mf]at s1
   have c0:=(s.cell 0 rfl).1
   refine⟨.panic (.iface tGo (.int .i64 k)),Vv c.bb b p f r fuel x y z,_,?_,⟨_,_,_,rfl⟩,rfl,n',hn',s1⟩
   rw[aG gS.eq_1]
   simp only[sim,ag,Nat.reduceAdd,Nat.reduceSub,List.replicate,reduceCtorEq,Nat.reduceLeDiff,Nat.reduceLT,aa,az,c0,e1]
end
open Go Go.RowKit
abbrev rsR:List j9:=[.cell true 3 7,.cell false 1 8,.cell false 1 9]
noncomputable def wE (V:List AV) (h:AH):Option ((AV ⊕ AV)×AH):=((eL V h rsR).map fq).map fun v=>(.inl v,h)
noncomputable def wh (x:iX) (k:List AV→AH→Option ((AV ⊕ AV)×AH)):Option ((AV ⊕ AV)×AH):=match x with
 | some (.halt _,V,h)=>k V h
 | some (.ret,V,h)=>wE V h
 | _=>none
noncomputable def A8 (args:List AV) (h:AH) (x:iX):Option ((AV ⊕ AV)×AH):=match x with
 | some (.ret,V,h6)=>wE V h6
 | some (.panic (.iface _ (.int _ k)),V,h6)=>match h6.cell (h.n+1+1+1+1+1),args with
   | some [[_,_,.int _ left]],[_,_,_,_,.int _ fuel]=>wE V (((h6.set (h.n+1+1) (some [zR3])).set (h.n+1+1+1) (some [[.int .i64 (fuel - left)]])).set (h.n+1+1+1+1) (some [[.int .i64 k]]))
   | _,_=>none
 | _=>none
noncomputable abbrev lz:=aj (Try.prog) po
noncomputable def CD (args:List AV) (h:AH):Option ((AV ⊕ AV)×AH):=
 wh (aq lz 18 [.ss we,.halt [.code cR1]] (args++List.replicate (vRu.length - args.length) .junk) [] h) fun V1 h1=>
 wh (aq lz 18 [.ss kJ,.halt [.code cR2]] V1 [] h1) fun V2 h2=>
 wh (aq lz 18 [.ss wd,.halt [.code cR3]] V2 [] h2) fun V3 h3=>
 wh (aq lz 18 [.ss vO,.halt [.code cR4]] V3 [] h3) fun V4 h4=>
 wh (aq lz 18 [.ss wa,.halt [.code cR5]] V4 [] h4) fun V5 h5=>
 A8 args h (aq lz 18 [.ss qk,.halt []] V5 [] h5)
def Ju (F J:Nat→Prop) (bb gb wb:Nat) (ms:aL) (S:StD) (h:AH) (d:StD×VD×Int×Int) (q:(AV ⊕ AV)×AH):Prop:=
 ∃ r' h',q=(.inl (.tup [.agg r',.int .i64 d.2.2.1,.int .i64 d.2.2.2]),h')∧VaA d.2.1 r'∧Did h F J h' (aX [dc bb gb wb ms d.1.kept,bo gb d.1.G,bd wb d.1.cells d.1.log])
def Bl (F J:Nat→Prop) (bb gb wb:Nat) (ms:aL) (S:StD) (h:AH) (args:List AV) (d:StD×VD×Int×Int):Prop:=∃ q,CD args h=some q∧AC Try.prog eG args h q∧Ju F J bb gb wb ms S h d q
section
variable {h h' h0:AH} {F J F0 J0:Nat→Prop} {L:List Asn} {bb gb wb:Nat} {ms:aL} {S:StD} {p f fuel:Int} {v:VD} {r:List AV}
abbrev dO (b:Nat) (code used:Int) (out:List AV) (fuel:Int) (r:List AV) (L:List Asn):List Asn:=
 ai (b+1+1+1+1) [[.int .i64 code]]::ai (b+1+1+1) [[.int .i64 used]]::ai (b+1+1) [out]::ai (b+1) [[.int .i64 fuel]]::ai b [r]::L
abbrev V5q (bb b:Nat) (p f:Int) (r:List AV) (fuel:Int) (c x y z:AV):List AV:=
 [.ptr bb 0 0,.int .i64 p,.int .i64 f,.agg r,.int .i64 fuel,.ptr b 0 0,.ptr (b+1) 0 0,.ptr (b+1+1) 0 0,.ptr (b+1+1+1) 0 0,.ptr (b+1+1+1+1) 0 0,c,.junk,.junk,.junk,x,y,z,.junk]
abbrev h5q (h:AH) (r:List AV) (fuel:Int):AH:=((((h.push [r]).push [[.int .i64 fuel]]).push [zR3]).push [[.int .i64 0]]).push [[.int .i64 0]]
abbrev mS (bb:Nat) (p f:Int) (r:List AV) (fuel:Int):List AV:=[.ptr bb 0 0,.int .i64 p,.int .i64 f,.agg r,.int .i64 fuel]
theorem ng (hv:VaA v r):aq lz 18 [.ss we,.halt [.code cR1]] (mS bb p f r fuel++List.replicate (vRu.length - (mS bb p f r fuel).length) .junk) [] h=some (.halt [.code cR1],V5q bb h.n p f r fuel .junk .junk .junk .junk,h5q h r fuel):=by
 obtain⟨o1,o2⟩:=hv.len3
 unfold we
 simp only[sim,ag,Nat.reduceAdd,Nat.reduceSub,List.replicate,reduceCtorEq,Nat.reduceLeDiff,Nat.reduceLT,aa,o1,o2]
theorem mA (s:St h0 F0 J0 h L):St h0 F0 J0 (h5q h r fuel) (dO h.n 0 0 zR3 fuel r L):=((((s.push [r]).push [[.int .i64 fuel]]).push [zR3]).push [[.int .i64 0]]).push [[.int .i64 0]]
theorem uX {V:List AV} {h':AH} {o u c:Nat} {r':List AV} {used code:Int} (h7:V.getD 7 .junk= .ptr o 0 0) (h8:V.getD 8 .junk= .ptr u 0 0) (h9:V.getD 9 .junk= .ptr c 0 0) (ho:h'.cell o=some [r']) (hr:r'.length=3) (hu:h'.cell u=some [[.int .i64 used]]) (hc:h'.cell c=some [[.int .i64 code]]):
  (eL V h' rsR).map fq=some (.tup [.agg r',.int .i64 used,.int .i64 code]):=by
 have e1:aD true 3 h' (.ptr o 0 0)=some (.agg r'):=by rw[bC,ho];exact bI hr
 have e2:aD false 1 h' (.ptr u 0 0)=some (.int .i64 used):=by rw[bC,hu];rfl
 have e3:aD false 1 h' (.ptr c 0 0)=some (.int .i64 code):=by rw[bC,hc];rfl
 simp only[eL,h7,h8,h9,e1,e2,e3,Option.bind_some,Option.map_some,fq]
theorem Ir (hv:VaA v r):lR Try.prog po eG 93 vRu (mS bb p f r fuel) h (.halt [.code cR1]) (V5q bb h.n p f r fuel .junk .junk .junk .junk) (h5q h r fuel):=
 (lR.start tS H2 MN (My _ _ _ _ _)).next (nv:=18) pok Ln (bK kf) Kw Hh (ng hv)
abbrev Ai (h:AH) (r:List AV) (fuel code:Int):AH:=(((h5q h r fuel).set (h.n+1+1) (some [zR3])).set (h.n+1+1+1) (some [[.int .i64 0]])).set (h.n+1+1+1+1) (some [[.int .i64 code]])
theorem GU (s:St h0 F0 J0 h L) (code:Int):St h0 F0 J0 (Ai h r fuel code) (dO h.n code 0 zR3 fuel r L):=by
 have s1:St h0 F0 J0 (h5q h r fuel) (dO h.n 0 0 zR3 fuel r L):=mA s
 have s2:St h0 F0 J0 _ (dO h.n 0 0 zR3 fuel r L):=s1.set 2 rfl [zR3]
 have s3:St h0 F0 J0 _ (dO h.n 0 0 zR3 fuel r L):=s2.set 1 rfl [[.int .i64 0]]
 exact s3.set 0 rfl [[.int .i64 code]]
theorem lr {V:List AV} (h7:V.getD 7 .junk= .ptr (h.n+1+1) 0 0) (h8:V.getD 8 .junk= .ptr (h.n+1+1+1) 0 0) (h9:V.getD 9 .junk= .ptr (h.n+1+1+1+1) 0 0) (s:St h0 F0 J0 h L) (code:Int):(eL V (Ai h r fuel code) rsR).map fq=some (.tup [.agg zR3,.int .i64 0,.int .i64 code]):=by
 have s1:St h0 F0 J0 (Ai h r fuel code) (dO h.n code 0 zR3 fuel r L):=GU s code
 exact uX h7 h8 h9 (s1.cell 2 rfl).1 rfl (s1.cell 1 rfl).1 (s1.cell 0 rfl).1
theorem rJ (x:(aX [dc bb gb wb ms S.kept,bo gb S.G,bd wb S.cells S.log]).A h F J) (code:Int):Ju F J bb gb wb ms S h (S,ay,0,code) (.inl (.tup [.agg zR3,.int .i64 0,.int .i64 code]),Ai h r fuel code):=
 ⟨zR3,_,rfl,cQ,(GU (St.start x) code).drop.drop.drop.drop.drop⟩
theorem yp (hv:VaA v r) (x:(aX [dc bb gb wb ms S.kept,bo gb S.G,bd wb S.cells S.log]).A h F J) (hr:fuel<0∨2000<fuel∨p<0∨4≤p):Bl F J bb gb wb ms S h (mS bb p f r fuel) (S,ay,0,1):=by
 have s1:St h F J (h5q h r fuel) (dO h.n 0 0 zR3 fuel r _):=mA (St.start x)
 have c1:=(s1.cell 0 rfl).1
 have c2:=(s1.cell 1 rfl).1
 have c3:=(s1.cell 2 rfl).1
 have c4:=(s1.cell 3 rfl).1
 have s2:St h F J _ (dO h.n 0 0 zR3 fuel r _):=s1.set 2 rfl [zR3]
 have d2:=(s2.cell 1 rfl).1
 have s3:St h F J _ (dO h.n 0 0 zR3 fuel r _):=s2.set 1 rfl [[.int .i64 0]]
 have e2:=(s3.cell 0 rfl).1
 have run:aq lz 18 [.ss kJ,.halt [.code cR2]] (V5q bb h.n p f r fuel .junk .junk .junk .junk) [] (h5q h r fuel)=some (.ret,V5q bb h.n p f r fuel .junk (.bool true) .junk .junk,Ai h r fuel 1):=by
  unfold kJ
  by_cases h1:fuel<0
  ·have k1:decide (fuel<0)=true:=decide_eq_true h1
   simp only[sim,ag,Nat.reduceAdd,Nat.reduceSub,List.replicate,reduceCtorEq,Nat.reduceLeDiff,Nat.reduceLT,aa,c1,c2,c3,c4,d2,e2,k1]
  ·have k1:decide (fuel<0)=false:=decide_eq_false h1
   by_cases h2:2000<fuel
   ·have k2:decide (2000<fuel)=true:=decide_eq_true h2
    simp only[sim,ag,Nat.reduceAdd,Nat.reduceSub,List.replicate,reduceCtorEq,Nat.reduceLeDiff,Nat.reduceLT,aa,c1,c2,c3,c4,d2,e2,k1,k2]
   ·have k2:decide (2000<fuel)=false:=decide_eq_false h2
    by_cases h3:p<0
    ·have k3:decide (p<0)=true:=decide_eq_true h3
     simp only[sim,ag,Nat.reduceAdd,Nat.reduceSub,List.replicate,reduceCtorEq,Nat.reduceLeDiff,Nat.reduceLT,aa,c1,c2,c3,c4,d2,e2,k1,k2,k3]
    ·have k3:decide (p<0)=false:=decide_eq_false h3
     have k4:decide (4≤p)=true:=decide_eq_true (by omega)
     simp only[sim,ag,Nat.reduceAdd,Nat.reduceSub,List.replicate,reduceCtorEq,Nat.reduceLeDiff,Nat.reduceLT,aa,c1,c2,c3,c4,d2,e2,k1,k2,k3,k4]
 refine⟨_,?_,((Ir hv).next (nv:=18) pok pi (bK kf) uU px run).ret tS pH (lr rfl rfl rfl (St.start x) 1),rJ x 1⟩
 unfold CD
 rw[ng hv]
 simp only[wh]
 rw[run]
 simp only[wE]
 rw[lr rfl rfl rfl (St.start x) 1]
 rfl
theorem Mo {i:Nat} (s:St h0 F0 J0 h L) {kept:List VD} (hi:L[i]? =some (dc bb gb wb ms kept)) (hl:ms.length=kept.length) (h4:ms.length=4) {P:Nat} (hp:P<4):(∀ q:IntKind,bQ none (some (4,5)) (.ptr bb 0 2) (.int q (P:Int))=some (.ptr bb 0 (2+P*5)))∧(∀ k:Nat,aD false k h (.ptr bb 0 (2+P*5))=some (.bool (ms.getD P none).isSome))∧(∀ k:Nat,aD false k h (.ptr bb 0 (2+P*5+1))=some (gZ (ms.getD P none))):=by
 obtain⟨F,J,x⟩:=s.get i hi
 obtain⟨row,c1,cn,_,_,_,hpl⟩:=pz x hl
 obtain⟨q1,q2,_⟩:=hpl P (by rw[h4];exact hp)
 refine⟨fun q=>by simp[bQ,hp],fun k=> ?_,fun k=> ?_⟩
 ·rw[bC,c1,Option.bind_some,List.getElem?_cons_zero,Option.bind_some,eY,q1]
 ·rw[bC,c1,Option.bind_some,List.getElem?_cons_zero,Option.bind_some,eY,q2]
theorem um (m:Option (List XD)):dR (gZ m)=some (m.getD []).length∧∀ s,cN s (some tFs) (gZ m)=true:=by
 cases m with
 | none=>exact⟨rfl,fun s=>rfl⟩
 | some L=>exact⟨(d7 L).1,fun s=>(d7 L).2.1 s⟩
theorem zf (hv:VaA v r) (x:(aX [dc bb gb wb ms S.kept,bo gb S.G,bd wb S.cells S.log]).A h F J) (h4:ms.length=4) (hS:S.Good) (hr:¬ (fuel<0∨2000<fuel∨p<0∨4≤p)) (hn:(ms.getD p.toNat none).isNone∨f<0∨((ci ms p).length:Int)≤f):Bl F J bb gb wb ms S h (mS bb p f r fuel) (S,ay,0,8):=by
 have s1:St h F J (h5q h r fuel) (dO h.n 0 0 zR3 fuel r [dc bb gb wb ms S.kept,bo gb S.G,bd wb S.cells S.log]):=mA (St.start x)
 have c1:=(s1.cell 0 rfl).1
 have c2:=(s1.cell 1 rfl).1
 have c3:=(s1.cell 2 rfl).1
 have c4:=(s1.cell 3 rfl).1
 have s2:St h F J _ (dO h.n 0 0 zR3 fuel r _):=s1.set 2 rfl [zR3]
 have d2:=(s2.cell 1 rfl).1
 have s3:St h F J _ (dO h.n 0 0 zR3 fuel r _):=s2.set 1 rfl [[.int .i64 0]]
 have e2:=(s3.cell 0 rfl).1
 have k1:decide (fuel<0)=false:=decide_eq_false (by omega)
 have k2:decide (2000<fuel)=false:=decide_eq_false (by omega)
 have k3:decide (p<0)=false:=decide_eq_false (by omega)
 have k4:decide (4≤p)=false:=decide_eq_false (by omega)
 obtain⟨P,hP⟩:=Int.eq_ofNat_of_zero_le (show 0≤p by omega)
 subst hP
 obtain⟨ix,b0,b1⟩:=Mo s1 (i:=5) (kept:=S.kept) rfl (h4.trans hS.kept.symm) h4 (P:=P) (by omega)
 obtain⟨cl,cf⟩:=um (ms.getD P none)
 have f2:aK 2 (.ptr bb 0 0)=some (.ptr bb 0 2):=rfl
 have f0:aK 0 (.ptr bb 0 (2+P*5))=some (.ptr bb 0 (2+P*5)):=rfl
 have f1:aK 1 (.ptr bb 0 (2+P*5))=some (.ptr bb 0 (2+P*5+1)):=rfl
 have run:aq lz 18 [.ss kJ,.halt [.code cR2]] (V5q bb h.n P f r fuel .junk .junk .junk .junk) [] (h5q h r fuel)=some (.ret,V5q bb h.n P f r fuel .junk (.bool false) (.bool true) .junk,Ai h r fuel 8):=by
  unfold kJ
  by_cases h1:(ms.getD P none).isSome=true
  ·by_cases h2:f<0
   ·have k5:decide (f<0)=true:=decide_eq_true h2
    simp only[sim,ag,Nat.reduceAdd,Nat.reduceSub,List.replicate,reduceCtorEq,Nat.reduceLeDiff,Nat.reduceLT,aa,c1,c2,c3,c4,d2,e2,k1,k2,k3,k4,ix,b0,b1,f0,f1,f2,h1,k5]
   ·have k5:decide (f<0)=false:=decide_eq_false h2
    have k6:decide ((((ms.getD P none).getD []).length:Int)≤f)=true:=decide_eq_true (by
     rcases hn with hn | hn | hn
     ·rw[show((P:Nat):Int).toNat=P from rfl]at hn
      cases hm:ms.getD P none with
      | none=>rw[hm]at h1;cases h1
      | some l=>rw[hm]at hn;cases hn
     ·exact absurd hn h2
     ·exact hn)
    simp only[sim,ag,Nat.reduceAdd,Nat.reduceSub,List.replicate,reduceCtorEq,Nat.reduceLeDiff,Nat.reduceLT,aa,c1,c2,c3,c4,d2,e2,k1,k2,k3,k4,ix,b0,b1,f0,f1,f2,h1,k5,cl,cf,k6]
  ·have h1':(ms.getD P none).isSome=false:=by simpa using h1
   simp only[sim,ag,Nat.reduceAdd,Nat.reduceSub,List.replicate,reduceCtorEq,Nat.reduceLeDiff,Nat.reduceLT,aa,c1,c2,c3,c4,d2,e2,k1,k2,k3,k4,ix,b0,b1,f0,f1,f2,h1']
 refine⟨_,?_,((Ir hv).next (nv:=18) pok pi (bK kf) uU px run).ret tS pH (lr rfl rfl rfl (St.start x) 8),rJ x 8⟩
 unfold CD
 rw[ng hv]
 simp only[wh]
 rw[run]
 simp only[wE]
 rw[lr rfl rfl rfl (St.start x) 8]
 rfl
theorem DS (s1:St h0 F0 J0 (h5q h r fuel) (dO h.n 0 0 zR3 fuel r (dc bb gb wb ms S.kept::L))) (h4:ms.length=4) (hS:S.Good) (hr:¬ (fuel<0∨2000<fuel∨p<0∨4≤p)) (hn:¬ ((ms.getD p.toNat none).isNone∨f<0∨((ci ms p).length:Int)≤f)):
  aq lz 18 [.ss kJ,.halt [.code cR2]] (V5q bb h.n p f r fuel .junk .junk .junk .junk) [] (h5q h r fuel)=some (.halt [.code cR2],V5q bb h.n p f r fuel .junk (.bool false) (.bool false) .junk,h5q h r fuel):=by
 have c4:=(s1.cell 3 rfl).1
 have k1:decide (fuel<0)=false:=decide_eq_false (by omega)
 have k2:decide (2000<fuel)=false:=decide_eq_false (by omega)
 have k3:decide (p<0)=false:=decide_eq_false (by omega)
 have k4:decide (4≤p)=false:=decide_eq_false (by omega)
 obtain⟨P,hP⟩:=Int.eq_ofNat_of_zero_le (show 0≤p by omega)
 subst hP
 obtain⟨ix,b0,b1⟩:=Mo s1 (i:=5) (kept:=S.kept) rfl (h4.trans hS.kept.symm) h4 (P:=P) (by omega)
 obtain⟨cl,cf⟩:=um (ms.getD P none)
 have f2:aK 2 (.ptr bb 0 0)=some (.ptr bb 0 2):=rfl
 have f0:aK 0 (.ptr bb 0 (2+P*5))=some (.ptr bb 0 (2+P*5)):=rfl
 have f1:aK 1 (.ptr bb 0 (2+P*5))=some (.ptr bb 0 (2+P*5+1)):=rfl
 have hn1:¬ (ms.getD P none).isNone=true:=fun e=>hn (.inl e)
 have h1:(ms.getD P none).isSome=true:=by cases hm:ms.getD P none with
  | none=>rw[hm]at hn1;exact absurd rfl hn1
  | some l=>rfl
 have k5:decide (f<0)=false:=decide_eq_false fun e=>hn (.inr (.inl e))
 have k6:decide ((((ms.getD P none).getD []).length:Int)≤f)=false:=decide_eq_false fun e=>hn (.inr (.inr e))
 unfold kJ
 simp only[sim,ag,Nat.reduceAdd,Nat.reduceSub,List.replicate,reduceCtorEq,Nat.reduceLeDiff,Nat.reduceLT,aa,c4,k1,k2,k3,k4,ix,b0,b1,f0,f1,f2,h1,k5,cl,cf,k6]
theorem Cc (s1:St h0 F0 J0 (h5q h r fuel) (dO h.n 0 0 zR3 fuel r L)) (hv:VaA v r):aq lz 18 [.ss wd,.halt [.code cR3]] (V5q bb h.n p f r fuel .junk (.bool false) (.bool false) .junk) [] (h5q h r fuel)=
  if v.code=0 then some (.halt [.code cR3],V5q bb h.n p f r fuel (.int .i64 0) (.bool false) (.bool false) (.bool false),h5q h r fuel)else some (.ret,V5q bb h.n p f r fuel (.int .i64 v.code) (.bool false) (.bool false) (.bool true),Ai h r fuel v.code):=by
 have c1:=(s1.cell 0 rfl).1
 have c2:=(s1.cell 1 rfl).1
 have c3:=(s1.cell 2 rfl).1
 have c5:=(s1.cell 4 rfl).1
 have s2:St h0 F0 J0 _ (dO h.n 0 0 zR3 fuel r _):=s1.set 2 rfl [zR3]
 have d2:=(s2.cell 1 rfl).1
 have s3:St h0 F0 J0 _ (dO h.n 0 0 zR3 fuel r _):=s2.set 1 rfl [[.int .i64 0]]
 have e2:=(s3.cell 0 rfl).1
 have ck:=jM (h:=h5q h r fuel) hv
 obtain⟨o1,o2⟩:=hv.len3
 unfold wd
 by_cases hz:v.code=0
 ·have k:decide (v.code=0)=true:=decide_eq_true hz
  rw[if_pos hz]
  rw[hz]at ck k
  simp only[sim,ag,Nat.reduceAdd,Nat.reduceSub,List.replicate,reduceCtorEq,Nat.reduceLeDiff,Nat.reduceLT,aa,az,c1,c2,c3,c5,d2,e2,o1,o2,ck,k]
 ·have k:decide (v.code=0)=false:=decide_eq_false hz
  rw[if_neg hz]
  simp only[sim,ag,Nat.reduceAdd,Nat.reduceSub,List.replicate,reduceCtorEq,Nat.reduceLeDiff,Nat.reduceLT,aa,az,c1,c2,c3,c5,d2,e2,o1,o2,ck,k]
end
open Go Go.RowKit
section
variable {h h' h0:AH} {F J F0 J0:Nat→Prop} {L:List Asn} {bb gb wb:Nat} {ms:aL} {S:StD} {p f fuel:Int} {v:VD} {r:List AV}
theorem G9 {mb fb:Nat} {left:Int} {top:FrD} {a:List AV} {g:AV} (ha:VaA top.arg a) (hg:SlA 3 g (dw top.gates)) (hs:top.stack=[]) (hn:top.names=[]) (x:(aX (ai mb [[.ptr bb 0 0,.msl fb 0 1 tFr,.int .i64 left]]::ai fb [cD top a .nils .nils g]::L)).A h F J):(aX (dY mb bb fb left [] top::L)).A h F J:=by
 refine eK (fun h F J x=> ?_) (fun _ _ _ y=>y) (oj x)
 obtain⟨F1,J1,F2,J2,x1,x2,r⟩:=x
 refine⟨⟨[],cD top a .nils .nils g,[]⟩,F1,J1,F2,J2,x1,⟨F2,J2,fun _=>False,fun _=>False,x2,⟨fun _=>False,fun _=>False,fun _=>False,fun _=>False,th ha hg hs hn,⟨trivial,fun _ h=>h,fun _ h=>h⟩,fun k=>by simp,fun j=>by simp,fun _ h=>h.elim,fun _ h=>h.elim⟩,fun k=>by simp,fun j=>by simp,fun _ _ h=>h,fun _ _ h=>h⟩,r⟩
abbrev yJ (p f:Int) (v:VD):FrD:=⟨p,f,0,v,[],[],false,[]⟩
abbrev h7q (h:AH) (bb:Nat) (r:List AV) (fuel:Int):AH:=((h5q h r fuel).push [[.ptr bb 0 0,.nils,.int .i64 fuel]]).push [[.ptr (h.n+1+1+1+1+1) 0 0]]
abbrev fbq (h:AH):Nat:=h.n+1+1+1+1+1+1+1
abbrev h8q (h:AH) (bb:Nat) (p f:Int) (v:VD) (r r2:List AV) (fuel:Int):AH:=((h7q h bb r fuel).push [cD (yJ p f v) r2 .nils .nils .nils]).set (h.n+1+1+1+1+1) (some [[.ptr bb 0 0,.msl (fbq h) 0 1 tFr,.int .i64 fuel]])
theorem IA (s1:St h0 F0 J0 (h5q h r fuel) (dO h.n 0 0 zR3 fuel r L)):aq lz 18 [.ss vO,.halt [.code cR4]] (V5q bb h.n p f r fuel (.int .i64 0) (.bool false) (.bool false) (.bool false)) [] (h5q h r fuel)=
  some (.halt [.code cR4],Vv bb h.n p f r fuel .junk .junk .junk,h7q h bb r fuel):=by
 have c4:=(s1.cell 3 rfl).1
 have c5:((((h5q h r fuel).push [[.ptr bb 0 0,.nils,.int .i64 fuel]]).push [[.nilp]]).cell (h.n+1+1+1+1+1+1))=some [[.nilp]]:=aE (h:=(h5q h r fuel).push [[.ptr bb 0 0,.nils,.int .i64 fuel]])
 have c6:∀ x,(((h5q h r fuel).push [[.ptr bb 0 0,.nils,.int .i64 fuel]]).push [[.nilp]]).set (h.n+1+1+1+1+1+1) (some x)=((h5q h r fuel).push [[.ptr bb 0 0,.nils,.int .i64 fuel]]).push x:=fun x=>bw (h:=(h5q h r fuel).push [[.ptr bb 0 0,.nils,.int .i64 fuel]])
 unfold vO
 simp only[sim,ag,Nat.reduceAdd,Nat.reduceSub,List.replicate,reduceCtorEq,Nat.reduceLeDiff,Nat.reduceLT,aa,c4,c5,c6]
theorem yw (s1:St h0 F0 J0 (h5q h r fuel) (dO h.n 0 0 zR3 fuel r L)):St h0 F0 J0 (h7q h bb r fuel) (ai (h.n+1+1+1+1+1+1) [[.ptr (h.n+1+1+1+1+1) 0 0]]::ai (h.n+1+1+1+1+1) [[.ptr bb 0 0,.nils,.int .i64 fuel]]::dO h.n 0 0 zR3 fuel r L):=
 (s1.push _).push _
set_option maxRecDepth 100000 in
theorem Ht (s1:St h0 F0 J0 (h5q h r fuel) (dO h.n 0 0 zR3 fuel r L)) (hv:VaA v r) (hvs:v.size≤100000):∃ r2,VaA v r2∧aq lz 18 [.ss wa,.halt [.code cR5]] (Vv bb h.n p f r fuel .junk .junk .junk) [] (h7q h bb r fuel)=
  some (.halt [.code cR5],Vv bb h.n p f r fuel .junk .junk .junk,h8q h bb p f v r r2 fuel):=by
 obtain⟨r2,e2,hv2⟩:=pF _ v (Nat.le_refl _) hvs r (h7q h bb r fuel) hv
 have hv2:VaA v r2:=by rw[id_eq]at hv2;exact hv2
 refine⟨r2,hv2,?_⟩
 obtain⟨o1,o2⟩:=hv.len3
 obtain⟨o3,o4⟩:=hv2.len3
 have s7:St h0 F0 J0 (h7q h bb r fuel) (ai (h.n+1+1+1+1+1+1) [[.ptr (h.n+1+1+1+1+1) 0 0]]::ai (h.n+1+1+1+1+1) [[.ptr bb 0 0,.nils,.int .i64 fuel]]::dO h.n 0 0 zR3 fuel r L):=yw s1
 have c0:=(s7.cell 0 rfl).1
 have c6:=(s7.cell 6 rfl).1
 have s8:=s7.push [cD (yJ p f v) r2 .nils .nils .nils]
 have d0:=(s8.cell 1 rfl).1
 have d1:=(s8.cell 2 rfl).1
 have f1:aK 1 (.ptr (h.n+1+1+1+1+1) 0 0)=some (.ptr (h.n+1+1+1+1+1) 0 1):=rfl
 obtain⟨y0,y1,y2,rfl⟩:∃ a b c,r2=[a,b,c]:=by match r2,o3 with | [a,b,c],_=>exact⟨a,b,c,rfl⟩
 simp only[List.all_cons,List.all_nil,Bool.and_true,Bool.and_eq_true]at o4
 obtain⟨z3,z4,z5⟩:=o4
 have en:(h7q h bb r fuel).n=fbq h:=rfl
 unfold h8q
 generalize h7q h bb r fuel=hx at*
 simp only[cD,Int.natCast_zero,List.cons_append,List.nil_append]at d0 d1 ⊢
 unfold wa
 simp only[sim,ag,Nat.reduceAdd,Nat.reduceSub,List.replicate,reduceCtorEq,Nat.reduceLeDiff,Nat.reduceLT,aa,az,c0,c6,o1,o2,e2,d0,d1,f1,z3,z4,z5,en]
abbrev mb5 (h:AH):Nat:=h.n+1+1+1+1+1
abbrev L4 (h:AH) (bb gb wb:Nat) (ms:aL) (S:StD) (p f:Int) (v:VD):List Asn:=[dY (mb5 h) bb (fbq h) (S.left:Int) [] (yJ p f v),dc bb gb wb ms S.kept,bo gb S.G,bd wb S.cells S.log]
theorem D1 {r2:List AV} (s1:St h0 F0 J0 (h5q h r fuel) (dO h.n 0 0 zR3 fuel r [dc bb gb wb ms S.kept,bo gb S.G,bd wb S.cells S.log])) (hv2:VaA v r2) (hf:(S.left:Int)=fuel):St h0 F0 J0 (h8q h bb p f v r r2 fuel) (six h.n (mb5 h) 0 0 zR3 fuel r (L4 h bb gb wb ms S p f v)):=by
 have s7:St h0 F0 J0 (h7q h bb r fuel) (ai (h.n+1+1+1+1+1+1) [[.ptr (h.n+1+1+1+1+1) 0 0]]::ai (h.n+1+1+1+1+1) [[.ptr bb 0 0,.nils,.int .i64 fuel]]::dO h.n 0 0 zR3 fuel r [dc bb gb wb ms S.kept,bo gb S.G,bd wb S.cells S.log]):=yw s1
 have s8:=s7.push [cD (yJ p f v) r2 .nils .nils .nils]
 have s9:=s8.set 2 rfl [[.ptr bb 0 0,.msl (fbq h) 0 1 tFr,.int .i64 fuel]]
 have s10:=s9.front 2 rfl
 have s11:St h0 F0 J0 (h8q h bb p f v r r2 fuel) (dY (mb5 h) bb (fbq h) (S.left:Int) [] (yJ p f v)::([ai (h.n+1+1+1+1+1+1) [[.ptr (mb5 h) 0 0]],ai (h.n+1+1+1+1) [[.int .i64 0]],ai (h.n+1+1+1) [[.int .i64 0]],ai (h.n+1+1) [zR3],ai (h.n+1) [[.int .i64 fuel]],ai h.n [r]]++[dc bb gb wb ms S.kept,bo gb S.G,bd wb S.cells S.log])):=
  s10.imp fun _ _ _ x=>G9 (top:=yJ p f v) hv2 (.inl ⟨rfl,rfl⟩) rfl rfl (by rw[hf];exact x)
 exact s11.imp fun _ _ _=>St.perm List.perm_middle.symm
theorem CA (hv:VaA v r) (hvs:v.size≤100000) (x:(aX [dc bb gb wb ms S.kept,bo gb S.G,bd wb S.cells S.log]).A h F J) (h4:ms.length=4) (hg:oJ ms) (hm:jI ms) (hS:S.Good) (hlog:S.log.length≤900000) (hr:¬ (fuel<0∨2000<fuel∨p<0∨4≤p)) (hn:¬ ((ms.getD p.toNat none).isNone∨f<0∨((ci ms p).length:Int)≤f)) (hc:v.code=0):
  Bl F J bb gb wb ms S h (mS bb p f r fuel) (match ofD ms fuel.toNat p (cU ms p f) v [] 1 {S with left:=fuel.toNat}with
  | (S',w,c)=>({S' with left:=S.left},if c=0 then w else ay,fuel - (S'.left:Int),c)):=by
 have s1:St h F J (h5q h r fuel) (dO h.n 0 0 zR3 fuel r [dc bb gb wb ms S.kept,bo gb S.G,bd wb S.cells S.log]):=mA (St.start x)
 have rS:=DS (p:=p) (f:=f) s1 h4 hS hr hn
 have rC:=Cc (bb:=bb) (p:=p) (f:=f) s1 hv
 rw[if_pos hc]at rC
 have r1:=IA (bb:=bb) (p:=p) (f:=f) s1
 obtain⟨r2,hv2,r2e⟩:=Ht (bb:=bb) (p:=p) (f:=f) s1 hv hvs
 have hfl:((fuel.toNat:Nat):Int)=fuel:=Int.toNat_of_nonneg (by omega)
 have s8:St h F J (h8q h bb p f v r r2 fuel) (six h.n (mb5 h) 0 0 zR3 fuel r (L4 h bb gb wb ms {S with left:=fuel.toNat} p f v)):=D1 (S:={S with left:=fuel.toNat}) s1 hv2 hfl
 have p1:=Ir (bb:=bb) (p:=p) (f:=f) (fuel:=fuel) (h:=h) hv
 have p2:=p1.next (nv:=18) pok pi (bK kf) uU px rS
 have p3:=p2.next (nv:=18) pok Bx (bK kf) E3 Ax rC
 have p4:=p3.next (nv:=18) pok H5 (bK kf) K7 Iv r1
 have p5:=p4.next (nv:=18) pok H8 (bK kf) K6 HM r2e
 have hQ:∀ q,A8 (mS bb p f r fuel) h (aq lz 18 [.ss qk,.halt []] (Vv bb h.n p f r fuel .junk .junk .junk) [] (h8q h bb p f v r r2 fuel))=some q→CD (mS bb p f r fuel) h=some q:=fun q hq=>by
  unfold CD
  rw[ng hv]
  simp only[wh]
  rw[rS]
  simp only
  rw[rC]
  simp only
  rw[r1]
  simp only
  rw[r2e]
  simp only
  exact hq
 have hS0:({S with left:=fuel.toNat}:StD).Good:=⟨hS.wf,hS.cells,hS.kept,hS.keptV⟩
 have hp0:0≤p:=by omega
 have hth:(ms.getD p.toNat none).isSome=true:=by
  cases hm:ms.getD p.toNat none with
  | none=>rw[hm]at hn;exact absurd (.inl rfl) hn
  | some l=>rfl
 have hf0:0≤f:=by
  rcases Int.lt_or_le f 0 with h | h
  ·exact absurd (.inr (.inl h)) hn
  ·exact h
 have hf1:f.toNat<(ci ms p).length:=by
  rcases Int.lt_or_le f ((ci ms p).length:Int)with h | h
  ·omega
  ·exact absurd (.inr (.inr h)) hn
 have runs:=It hg (p:=p) (f:=f) (v:=v) (N:=fuel.toNat) hS0 (by unfold StD.mu;simp only;omega) (by simp only;omega) hc hp0 hth hf0 hf1 (Nat.le_refl _)
 have hox:=gt ms fuel.toNat p (cU ms p f) v [] 1 _ hS0 hc (by simp)
 have hle:=iC ms fuel.toNat p (cU ms p f) v [] 1 {S with left:=fuel.toNat}
 generalize ofD ms fuel.toNat p (cU ms p f) v [] 1 {S with left:=fuel.toNat}=qq at runs hox hle ⊢
 obtain⟨S',w,c⟩:=qq
 simp only at runs hox hle ⊢
 have hl:∀ V h',aq lz 18 [.ss qk,.halt []] V [] h'=aq lz 18 [.lp gS,.ss [],.blk 1,.ss [],.halt []] V [] h':=fun V h'=>by
  unfold qk
  rw[vT,zo]
 rw[hl]at hQ
 have hcf:∃ fnC,(Try.prog).funcs[(fRc:Nat)]? =some fnC∧(fnC.body.isNone=false∧(fnC.name== "runtime.NumGoroutine")=false):=⟨_,Gw,by kernel_rfl,by kernel_rfl⟩
 have ne:∀ {a b:Nat},a<b→¬ (b=a):=fun h e=>by omega
 by_cases hz:c=0
 ·subst hz
  rw[if_neg (by simp)]at runs
  obtain⟨e,V',h3,e3,⟨x1,y1,z1,rfl⟩,rfl,fb',r',hv',s9⟩:=wM (c:=⟨mb5 h,bb,gb,wb,ms⟩) (L:=L4 h bb gb wb ms {S with left:=fuel.toNat} p f v) (b:=h.n) (p:=p) (f:=f) (r:=r) (fuel:=fuel) (show 3<4 by decide) h4 hm (by omega) runs ⟨by omega,by have:=(db (hox.1.val rfl)).1;simp only at this;omega⟩ ⟨fbq h,{S with left:=fuel.toNat},[],yJ p f v⟩ _ .junk .junk .junk rfl s8
  have hres:=uX (V:=Vv bb h.n p f r fuel x1 y1 z1) rfl rfl rfl (s9.cell 3 rfl).1 hv'.len3.1 (s9.cell 2 rfl).1 (s9.cell 1 rfl).1
  refine⟨_,hQ _ ?_,wI (nv:=18) (caps:=[9,14,10,11,12]) (js:=[6,11,7,8,9]) pok p5 tS hcf (by decide) rfl (by decide) DP (bK kf) DQ Bf ((hl _ _).trans e3) JW (.ret fun m w ps hw hps=>yX hw hps) pH hres,r',h3,rfl,hv',?_⟩
  ·rw[e3]
   simp only[A8,wE]
   rw[hres]
   rfl
  ·exact s9.drop.drop.drop.drop.drop.drop.drop
 ·rw[if_pos hz]at runs
  obtain⟨e,V',h3,e3,⟨x1,y1,z1,rfl⟩,rfl,n',hn',s9⟩:=wM (c:=⟨mb5 h,bb,gb,wb,ms⟩) (L:=L4 h bb gb wb ms {S with left:=fuel.toNat} p f v) (b:=h.n) (p:=p) (f:=f) (r:=r) (fuel:=fuel) (show 3<4 by decide) h4 hm (by omega) runs (show S'.left≤2000 by omega) ⟨fbq h,{S with left:=fuel.toNat},[],yJ p f v⟩ _ .junk .junk .junk rfl s8
  subst hn'
  have s9:St h F J h3 (six h.n (mb5 h) 0 0 zR3 fuel r [dY (mb5 h) bb n'.fb (n'.S.left:Int) n'.below n'.top,dc bb gb wb ms n'.S.kept,bo gb n'.S.G,bd wb n'.S.cells n'.S.log]):=s9
  have k0:=(s9.cell 0 rfl).1
  have k1:=(s9.cell 1 rfl).1
  have k2:=(s9.cell 2 rfl).1
  have k3:=(s9.cell 3 rfl).1
  have k4:=(s9.cell 4 rfl).1
  obtain⟨ar,sv,nv,g,mv⟩:=cV s9 6 rfl
  have s10:St h F J _ (six h.n (mb5 h) 0 0 zR3 fuel r _):=s9.set 3 rfl [zR3]
  have s11:St h F J _ (six h.n (mb5 h) 0 (fuel - (n'.S.left:Int)) zR3 fuel r _):=s10.set 2 rfl [[.int .i64 (fuel - (n'.S.left:Int))]]
  have s12:St h F J _ (six h.n (mb5 h) c (fuel - (n'.S.left:Int)) zR3 fuel r [dY (mb5 h) bb n'.fb (n'.S.left:Int) n'.below n'.top,dc bb gb wb ms n'.S.kept,bo gb n'.S.G,bd wb n'.S.cells n'.S.log]):=s11.set 1 rfl [[.int .i64 c]]
  have hres:=uX (V:=Vv bb h.n p f r fuel x1 y1 z1) rfl rfl rfl (s12.cell 3 rfl).1 rfl (s12.cell 2 rfl).1 (s12.cell 1 rfl).1
  refine⟨_,hQ _ ?_,wI (nv:=18) (caps:=[9,14,10,11,12]) (js:=[6,11,7,8,9]) pok p5 tS hcf (by decide) rfl (by decide) DP (bK kf) DQ Bf ((hl _ _).trans e3) JW (.panic _ fun m w ps u hw hps hu=>CH hw hps hu k4 k0 mv.m k3 rfl k2 k1 (ne (by omega)) (ne (by omega)) (ne (by omega)) (w64 (by omega) (by omega))) pH hres,zR3,((h3.set (h.n+1+1) (some [zR3])).set (h.n+1+1+1) (some [[.int .i64 (fuel - (n'.S.left:Int))]])).set (h.n+1+1+1+1) (some [[.int .i64 c]]),rfl,?_,?_⟩
  ·rw[e3]
   simp only[A8,mv.m,wE]
   rw[hres]
   rfl
  ·simp only
   rw[if_neg hz];exact cQ
  ·exact s12.drop.drop.drop.drop.drop.drop.drop
theorem xn (hv:VaA v r) (hvs:v.size≤100000) (x:(aX [dc bb gb wb ms S.kept,bo gb S.G,bd wb S.cells S.log]).A h F J) (h4:ms.length=4) (hg:oJ ms) (hm:jI ms) (hS:S.Good) (hlog:S.log.length≤900000):Bl F J bb gb wb ms S h (mS bb p f r fuel) (cX ms p f v fuel S):=by
 unfold cX
 by_cases h1:fuel<0∨2000<fuel∨p<0∨4≤p
 ·rw[if_pos h1]
  exact yp hv x h1
 rw[if_neg h1]
 by_cases h2:(ms.getD p.toNat none).isNone∨f<0∨((ci ms p).length:Int)≤f
 ·rw[if_pos h2]
  exact zf hv x h4 hS h1 h2
 rw[if_neg h2]
 by_cases h3:v.code=0
 ·rw[if_neg (fun e=>e h3)]
  exact CA hv hvs x h4 hg hm hS hlog h1 h2 h3
 ·rw[if_pos h3]
  have s1:St h F J (h5q h r fuel) (dO h.n 0 0 zR3 fuel r [dc bb gb wb ms S.kept,bo gb S.G,bd wb S.cells S.log]):=mA (St.start x)
  have rS:=DS (p:=p) (f:=f) s1 h4 hS h1 h2
  have rC:=Cc (bb:=bb) (p:=p) (f:=f) s1 hv
  rw[if_neg h3]at rC
  have p1:=Ir (bb:=bb) (p:=p) (f:=f) (fuel:=fuel) (h:=h) hv
  have p2:=p1.next (nv:=18) pok pi (bK kf) uU px rS
  refine⟨_,?_,(p2.next (nv:=18) pok Bx (bK kf) E3 Ax rC).ret tS pH (lr rfl rfl rfl (St.start x) v.code),rJ x v.code⟩
  unfold CD
  rw[ng hv]
  simp only[wh]
  rw[rS]
  simp only
  rw[rC]
  simp only[wE]
  rw[lr rfl rfl rfl (St.start x) v.code]
  rfl
theorem HN (hv:VaA v r) (hvs:v.size≤100000) (x:(aX [dc bb gb wb ms S.kept,bo gb S.G,bd wb S.cells S.log]).A h F J) (h4:ms.length=4) (hg:oJ ms) (hm:jI ms) (hS:S.Good) (hlog:S.log.length≤900000):
  ∃ h',(∃ r',aj Try.prog po eG (mS bb p f r fuel) h=some (.inl (.tup [.agg r',.int .i64 (cX ms p f v fuel S).2.2.1,.int .i64 (cX ms p f v fuel S).2.2.2]),h')∧VaA (cX ms p f v fuel S).2.1 r')∧
    Did h F J h' (aX [dc bb gb wb ms (cX ms p f v fuel S).1.kept,bo gb (cX ms p f v fuel S).1.G,bd wb (cX ms p f v fuel S).1.cells (cX ms p f v fuel S).1.log]):=by
 obtain⟨q,hq,ac,_⟩:=xn (p:=p) (f:=f) (fuel:=fuel) hv hvs x h4 hg hm hS hlog
 have good:vp (mS bb p f r fuel) h q:=by
  intro F2 J2 bb2 gb2 wb2 ms2 S2 p2 f2 fuel2 v2 r2 ea hv2 hvs2 h42 hg2 hm2 hS2 hl2 x2
  injection ea with e1 ea
  injection ea with e2 ea
  injection ea with e3 ea
  injection ea with e4 ea
  injection ea with e5 ea
  injection e1 with e1
  injection e2 with _ e2
  injection e3 with _ e3
  injection e4 with e4
  injection e5 with _ e5
  subst e1 e2 e3 e4 e5
  obtain⟨q2,hq2,_,r',h',p1,p2,p3⟩:=xn (p:=p) (f:=f) (fuel:=fuel) hv2 hvs2 x2 h42 hg2 hm2 hS2 hl2
  rw[hq]at hq2
  injection hq2 with hq2
  exact⟨r',h',hq2.trans p1,p2,p3⟩
 have H:∃ q,AC Try.prog eG (mS bb p f r fuel) h q∧vp (mS bb p f r fuel) h q:=⟨q,ac,good⟩
 obtain⟨r',h',e,hv',d⟩:=(Classical.choose_spec H).2 F J bb gb wb ms S p f fuel v r rfl hv hvs h4 hg hm hS hlog x
 refine⟨h',⟨r',?_,hv'⟩,d⟩
 unfold aj
 rw[IM]
 show rh _ _=_
 unfold rh
 rw[dif_pos H,e]
end
section
variable {h h' h0:AH} {F J F0 J0:Nat→Prop} {L A B:List Asn} {X Y Z:Asn}
theorem Gx (y:Y.A h F J):(dB (vw True) Y).A h F J:=⟨fun _=>False,fun _=>False,F,J,⟨trivial,fun _ h=>h,fun _ h=>h⟩,y,fun k=>by simp,fun j=>by simp,fun _ h=>h.elim,fun _ h=>h.elim⟩
theorem Ex (x:(dB (vw True) Y).A h F J):Y.A h F J:=by
 obtain⟨F1,J1,F2,J2,⟨_,a,b⟩,y,hF,hJ,_,_⟩:=x
 have e1:F=F2:=by funext k;exact propext ⟨fun h=>((hF k).1 h).resolve_left (a k),fun h=>(hF k).2 (.inr h)⟩
 have e2:J=J2:=by funext k;exact propext ⟨fun h=>((hJ k).1 h).resolve_left (b k),fun h=>(hJ k).2 (.inr h)⟩
 rw[e1,e2];exact y
theorem aX.app:∀ {A B:List Asn} {h:AH} {F J:Nat→Prop},(aX (A++B)).A h F J↔(dB (aX A) (aX B)).A h F J
 | [],B,h,F,J=>⟨Gx,Ex⟩
 | X::A,B,h,F,J=>⟨fun x=>oj (eK (fun _ _ _ y=>y) (fun _ _ _ y=>aX.app.1 y) x),fun x=>eK (fun _ _ _ y=>y) (fun _ _ _ y=>aX.app.2 y) (iB x)⟩
theorem St.callL {M M':List Asn} {R:AH→Prop} (s:St h0 F0 J0 h (A++M++B)) (c:∀ F J,(aX M).A h F J→∃ h',R h'∧Did h F J h' (aX M')):∃ h',R h'∧St h0 F0 J0 h' (A++M'++B):=by
 have p:∀ M:List Asn,List.Perm (A++M++B) (M++(A++B)):=fun M=>by
  have:=(List.perm_append_comm (l₁:=A) (l₂:=M)).append_right B
  simpa[List.append_assoc]using this
 obtain⟨F,J,x,ch,a,b⟩:=s
 have x2:=aX.app.1 (St.perm (p M) x)
 obtain⟨h',r,d⟩:=tU x2 c
 exact⟨h',r,Did.chain ch a b (d.imp fun _ _ _ y=>St.perm (p M').symm (aX.app.2 y))⟩
end
theorem oV:∀ {ms:aL} {kept:List VD} {ks:List (List AV)} {p:Nat} {M:List XD} {v:VD} {r:List AV},VaL kept ks→ms.length=kept.length→p<ms.length→VaA v r→
  ∃ ks',VaL (kept.set p v) ks'∧stA (dt ms ks) (p*5) (.bool true::dW M::r)=dt (ms.set p (some M)) ks'
 | [],kept,ks,p,_,_,_,_,_,hp,_=>by simp at hp
 | m::ms,[],ks,p,_,_,_,_,hl,_,_=>by simp at hl
 | m::ms,k::kept,ks,p,M,v,r,h,hl,hp,hv=>by
   obtain⟨r0,rs,rfl,h1,h2⟩:=h
   have h3:=h1.len3.1
   have h4:=hv.len3.1
   match r0,h3,r,h4 with
   | [a,b,c],_,[x,y,z],_=>
     cases p with
     | zero=>exact⟨[x,y,z]::rs,⟨_,_,rfl,hv,h2⟩,rfl⟩
     | succ p=>
       obtain⟨ks',q1,q2⟩:=oV (ms:=ms) (p:=p) (M:=M) h2 (by simpa using hl) (by simpa using hp) hv
       refine⟨[a,b,c]::ks',⟨_,_,rfl,h1,q1⟩,?_⟩
       have:(p+1)*5=p*5+5:=by omega
       rw[this]
       unfold stA at q2 ⊢
       simp only[dt,List.set_cons_succ,List.cons_append,List.nil_append,List.take_succ_cons,List.length_cons,List.length_nil]
       rw[show p*5+5+(0+1+1+1+1+1)=p*5+5+5 by omega]
       simp only[List.drop_succ_cons]
       rw[←q2]
       simp
section
variable {h h' h0:AH} {F J F0 J0:Nat→Prop} {L:List Asn}
theorem G3 {b gb wb:Nat} {ms:aL} {kept:List VD} (s:St h0 F0 J0 h L) (i:Nat) (hi:L[i]? =some (dc b gb wb ms kept)) (hl:ms.length=kept.length) {p:Nat} (hp:p<ms.length) {M:List XD} {v:VD} {r:List AV} (hv:VaA v r):
  ∃ h',aI 5 h (.ptr b 0 (2+p*5)) (.agg (.bool true::dW M::r))=some h'∧St h0 F0 J0 h' (L.set i (dc b gb wb (ms.set p (some M)) (kept.set p v))):=by
 refine s.call (R:=fun h'=>aI 5 h (.ptr b 0 (2+p*5)) (.agg (.bool true::dW M::r))=some h') i hi fun F J x=> ?_
 obtain⟨ks,hk,a1,a2,a3,a4⟩:=x
 obtain⟨ks',q1,q2⟩:=oV (M:=M) hk hl hp hv
 have hlen:=gY hk hl
 have ho:(AV.bool true::dW M::r).all AV.one=true:=by
  simp only[List.all_cons,(d7 M).2.2,hv.len3.2,Bool.and_true];rfl
 refine⟨_,bk (es:=[jo gb wb ms ks]) (e:=jo gb wb ms ks) a4 rfl ho (by simp[AV.cells,hv.len3.1]) (by simp only[jo,List.length_cons,hlen];omega),F,J,⟨ks',q1,a1,a2,a3,?_⟩,⟨Nat.le_refl _,Nat.le_refl _,fun k _ hk'=>bc fun e=>hk' ((a1 k).2 e),fun _ _ _=>rfl⟩,fun _=> .inl,fun _=> .inl⟩
 rw[aP,List.set_cons_zero]
 have:stA (jo gb wb ms ks) (2+p*5) (.bool true::dW M::r)=jo gb wb (ms.set p (some M)) ks':=by
  unfold jo
  rw[←q2]
  unfold stA
  rw[show 2+p*5=p*5+1+1 by omega]
  simp only[List.take_succ_cons,List.cons_append]
  rw[show p*5+1+1+(AV.bool true::dW M::r).length=p*5+(AV.bool true::dW M::r).length+1+1 by omega]
  simp only[List.drop_succ_cons]
 simp only[AV.cells,this]
abbrev ms0:aL:=[none,none,none,none]
abbrev xb:List VD:=[ay,ay,ay,ay]
abbrev ia:List Int:=[0,0,0,0,0,0,0,0,0,0,0,0]
abbrev G0:af:=⟨[],[]⟩
def Im (l:Nat):StD:=⟨G0,ia,[],xb,l⟩
theorem Dc (l:Nat):(Im l).Good:=⟨Ku,rfl,rfl,fun v hv=>by
 have:v=ay:=by simpa[Im]using hv
 rw[this];exact da⟩
theorem Dp:(bo h.n G0).A (h.push [[.nils,.nils]]) (fun k=>k=h.n) (fun _=>False):=Iw h
theorem Ct {b:Nat} (hb:b=h.n):(bd b ia []).A (h.push [ia.map (AV.int .i64)++[AV.nils]]) (fun k=>k=b) (fun _=>False):=by
 subst hb
 exact⟨.nils,fun k=>k=h.n,fun _=>False,fun _=>False,fun _=>False,⟨fun _=>Iff.rfl,fun _ h=>h,Nat.lt_succ_self _,aE⟩,.inl ⟨⟨rfl,rfl⟩,fun _ h=>h,fun _ h=>h⟩,fun k=>by simp,fun j=>by simp,fun _ _ h=>h,fun _ h=>h.elim⟩
theorem He {b gb wb:Nat} (hb:b=h.n):(dc b gb wb ms0 xb).A (h.push [jo gb wb ms0 [zR3,zR3,zR3,zR3]]) (fun k=>k=b) (fun _=>False):=by
 subst hb
 exact⟨[zR3,zR3,zR3,zR3],⟨_,_,rfl,cQ,_,_,rfl,cQ,_,_,rfl,cQ,_,_,rfl,cQ,rfl⟩,fun _=>Iff.rfl,fun _ h=>h,Nat.lt_succ_self _,aE⟩
theorem Fj (s:St h0 F0 J0 h L):∃ h' bb gb wb,aj Try.prog po 39 [] h=some (.inl (.ptr bb 0 0),h')∧St h0 F0 J0 h' (dc bb gb wb ms0 xb::bo gb G0::bd wb ia []::L):=by
 have s1:St h0 F0 J0 _ (bo h.n G0::L):=s.add (ae.push h _) Dp (fun k hk=>Nat.le_of_eq hk.symm) (fun _ h=>h.elim)
 have s2:St h0 F0 J0 _ (bd (h.n+1) ia []::bo h.n G0::L):=s1.add (X:=bd (h.n+1) ia []) (h':=(h.push [[.nils,.nils]]).push [ia.map (AV.int .i64)++[AV.nils]]) (F1:=fun k=>k=h.n+1) (J1:=fun _=>False) (ae.push _ _) (Ct (h:=h.push [[.nils,.nils]]) rfl) (fun k hk=>Nat.le_of_eq hk.symm) (fun _ h=>h.elim)
 have s3:St h0 F0 J0 _ (dc (h.n+1+1) h.n (h.n+1) ms0 xb::bd (h.n+1) ia []::bo h.n G0::L):=s2.add (X:=dc (h.n+1+1) h.n (h.n+1) ms0 xb) (h':=((h.push [[.nils,.nils]]).push [ia.map (AV.int .i64)++[AV.nils]]).push [jo h.n (h.n+1) ms0 [zR3,zR3,zR3,zR3]]) (F1:=fun k=>k=h.n+1+1) (J1:=fun _=>False) (ae.push _ _) (He (h:=(h.push [[.nils,.nils]]).push [ia.map (AV.int .i64)++[AV.nils]]) rfl) (fun k hk=>Nat.le_of_eq hk.symm) (fun _ h=>h.elim)
 have s4:=s3.imp fun _ _ _ x=>St.perm (List.Perm.cons _ (List.Perm.swap _ _ _)) x
 obtain⟨h1,e1,rfl⟩:=Mc (h:=h)
 have e2:aj Try.prog po 69 [] (h.push [[.nils,.nils]])=some (.inl (.ptr (h.n+1) 0 0),(h.push [[.nils,.nils]]).push [ia.map (AV.int .i64)++[AV.nils]]):=by
  refine ah Ii rfl ?_;unfold AE
  simp only[sim,ag,Nat.reduceAdd,Nat.reduceSub,List.replicate,reduceCtorEq,Nat.reduceLeDiff,Nat.reduceLT,aa]
 refine⟨_,h.n+1+1,h.n,h.n+1,?_,s4⟩
 refine ah GO rfl ?_;unfold xV
 simp only[sim,ag,Nat.reduceAdd,Nat.reduceSub,List.replicate,reduceCtorEq,Nat.reduceLeDiff,Nat.reduceLT,aa,az,e1,e2]
 rfl
variable {gb nb i j:Nat} {G H:af}
end
theorem ru:(Try.prog).underlying 3=some (.int .i64):=by kernel_rfl
theorem Hq {ms:aL} {S:StD} (hS:S.Good) {p f fuel:Int} {v:VD}:(cX ms p f v fuel S).1.Good∧(cX ms p f v fuel S).1.log.length≤S.log.length+2000∧((cX ms p f v fuel S).2.2.2=0→(cX ms p f v fuel S).2.1.code=0)∧(cX ms p f v fuel S).2.1.size≤100000:=by
 unfold cX
 have z:ay.size≤100000:=by decide
 split
 ·exact⟨hS,by simp only;omega,fun h=>by simp at h,z⟩
 ·split
  ·exact⟨hS,by simp only;omega,fun h=>by simp at h,z⟩
  ·split
   ·rename_i h1;exact⟨hS,by simp only;omega,fun h=>absurd h h1,z⟩
   ·rename_i h1 h2 h3
    have hS0:({S with left:=fuel.toNat}:StD).Good:=⟨hS.wf,hS.cells,hS.kept,hS.keptV⟩
    have hox:=gt ms fuel.toNat p (cU ms p f) v [] 1 _ hS0 (by simpa using h3) (by simp)
    generalize ofD ms fuel.toNat p (cU ms p f) v [] 1 {S with left:=fuel.toNat}=q at hox
    obtain⟨S',w,c⟩:=q
    have g:=hox.1.good
    have m:=hox.1.mu
    unfold StD.mu at m
    simp only at g m ⊢
    refine⟨⟨g.wf,g.cells,g.kept,g.keptV⟩,by omega,fun hc=> ?_,?_⟩
    ·rw[if_pos hc];exact hox.1.val hc
    ·by_cases hc:c=0
     ·rw[if_pos hc]
      have:=(db (hox.1.val hc)).1
      simp only at this
      omega
     ·rw[if_neg hc];exact z
def lH (ms:aL):Prop:=∀ M,some M∈ms→(aZ M).1=0
theorem lH.fun {ms:aL} (h:lH ms) {p:Int}:∀ x∈ci ms p,x.fault (ci ms p).length 0=0∧x.size≤120:=by
 intro x hx
 unfold ci at hx ⊢
 cases hm:ms.getD p.toNat none with
 | none=>rw[hm]at hx;simp at hx
 | some M=>
   rw[hm]at hx
   have hin:some M∈ms:=by
    rw[List.getD]at hm
    cases hg:ms[p.toNat]? with
    | none=>rw[hg]at hm;simp at hm
    | some o=>
      rw[hg]at hm
      simp only[Option.getD_some]at hm
      subst hm
      exact List.mem_of_getElem? hg
   exact(pQ (h M hin)).2.2 x hx
theorem lH.good {ms:aL} (h:lH ms):oJ ms:=fun _ x hx=>(h.fun x hx).1
theorem lH.sized {ms:aL} (h:lH ms):jI ms:=fun p f=>by
 unfold dM
 have h1:=eo _ (cU ms p f) (Nat.le_refl _) 0
 have h2:(cU ms p f).size≤120:=by
  unfold cU
  by_cases hk:f.toNat<(ci ms p).length
  ·have e:(ci ms p).getD f.toNat di=(ci ms p)[f.toNat]:=by simp[List.getD,hk]
   rw[e]
   exact(h.fun _ (List.getElem_mem hk)).2
  ·have e:(ci ms p).getD f.toNat di=di:=by simp[List.getD,List.getElem?_eq_none (Nat.le_of_not_lt hk)]
   rw[e]
   decide
 simp only[List.length_append,List.length_singleton]
 omega
section
variable {h:AH}
theorem St.grewA {h':AH} {L:List Asn} (s:St h (fun _=>False) (fun _=>False) h' L):ae h h':=by
 obtain⟨_,_,_,c,_⟩:=s
 exact⟨c.n,c.ids,fun k hk=>c.cell k hk (fun h=>h),fun j hj=>c.hw j hj (fun h=>h)⟩
end
structure de where
 (kind p q k h r g n:Int)
 m:List XD
structure EvD where
 (code fuel:Int)
 v:VD
structure HoD where
 ms:aL
 S:StD
 hands:List (List VD)
def EvD.no (c:Int):EvD:=⟨c,0,ay⟩
def EvD.ok (v:VD):EvD:=⟨0,0,v⟩
def inP (p:Int):Bool:=decide (0≤p) && decide (p<4)
theorem iM {p:Int}:inP p=true↔0≤p∧p<4:=by simp[inP]
def HoD.hand (H:HoD) (p:Int):List VD:=H.hands.getD p.toNat []
def HoD.load (H:HoD) (p:Int) (m:List XD):HoD×Int:=
 if inP p=false then(H,1)
 else if(aZ m).1≠0 then(H,(aZ m).1)
 else({H with ms:=H.ms.set p.toNat (some m),S:={H.S with kept:=H.S.kept.set p.toNat ay}},0)
def HoD.graph (H:HoD) (G:af):HoD:={H with S:={H.S with G:=G}}
def HoD.give (H:HoD) (p n c:Int):HoD×EvD:=
 if c≠0 then(H,.no c)else({H with hands:=H.hands.set p.toNat (H.hand p++[fg n])},.ok (fg n))
def HoD.call (H:HoD) (x:de):HoD×EvD:=
 if 0≤x.h∧(inP x.p=false∨((H.hand x.p).length:Int)≤x.h)then(H,.no 8)
 else match cX H.ms x.p x.k (if 0≤x.h then(H.hand x.p).getD x.h.toNat ay else ju x.n) 2000 H.S with
  | (S',v,n,c)=>({H with S:=S'},⟨c,n,v⟩)
def HoD.step (H:HoD) (x:de):HoD×EvD:=
 if x.kind=1 then((H.load x.p x.m).1,.no (H.load x.p x.m).2)
 else if x.kind=2∨x.kind=3 then
  (if inP x.p=false then(H,.no 1)
  else if x.kind=2 then(H.graph (H.S.G.cellC x.k x.r x.g).1).give x.p (H.S.G.cellC x.k x.r x.g).2.1 (H.S.G.cellC x.k x.r x.g).2.2
  else(H.graph (H.S.G.funcC x.q x.k x.r x.g).1).give x.p (H.S.G.funcC x.q x.k x.r x.g).2.1 (H.S.G.funcC x.q x.k x.r x.g).2.2)
 else if x.kind=4 then H.call x
 else if x.kind=5 then(H.graph (H.S.G.cut x.g).1,.no (H.S.G.cut x.g).2)
 else if x.kind=6 then(H.graph H.S.G.gate.1,if H.S.G.gate.2.2≠0 then .no H.S.G.gate.2.2 else .ok (ju H.S.G.gate.2.1))
 else(H,.no 2)
def ho0:HoD:=⟨ms0,Im 0,[[],[],[],[]]⟩
def HoD.steps (H:HoD) (l:List de):HoD:=l.foldl (fun H x=>(H.step x).1) H
structure HoD.Good (H:HoD):Prop where
 ms:H.ms.length=4
 ok:lH H.ms
 st:H.S.Good
 hands:H.hands.length=4
 cap:∀ l∈H.hands,∀ v∈l,∃ n:Int,v=fg n∧0≤n
theorem E6:ho0.Good:=⟨rfl,fun M hM=>by simp[ho0]at hM,Dc 0,rfl,fun l hl v hv=>by
 have:l=[]:=by simpa[ho0]using hl
 rw[this]at hv
 cases hv⟩
theorem lH.set {ms:aL} (h:lH ms) {p:Nat} {M:List XD} (hz:(aZ M).1=0):lH (ms.set p (some M)):=by
 intro N hN
 rcases List.mem_or_eq_of_mem_set hN with h1 | h1
 ·exact h N h1
 ·injection h1 with h1
  rw[h1];exact hz
theorem StD.Good.keep {S:StD} (h:S.Good) {p:Nat} {v:VD} (hv:v.code=0):({S with kept:=S.kept.set p v}:StD).Good:=
 ⟨h.wf,h.cells,by simpa using h.kept,fun w hw=>by
  rcases List.mem_or_eq_of_mem_set hw with h1 | h1
  ·exact h.keptV w h1
  ·rw[h1];exact hv⟩
theorem HoD.Good.hand {H:HoD} (g:H.Good) {p:Int}:∀ v∈H.hand p,∃ n:Int,v=fg n∧0≤n:=by
 intro v hv
 unfold HoD.hand at hv
 by_cases hp:p.toNat<H.hands.length
 ·rw[List.getD,List.getElem?_eq_getElem hp]at hv
  exact g.cap _ (List.getElem_mem hp) v hv
 ·rw[List.getD,List.getElem?_eq_none (by omega)]at hv
  cases hv
theorem HoD.Good.graph {H:HoD} (g:H.Good) {G:af} (hG:G.Wf):(H.graph G).Good:=⟨g.ms,g.ok,⟨hG,g.st.cells,g.st.kept,g.st.keptV⟩,g.hands,g.cap⟩
theorem HoD.Good.give {H:HoD} (g:H.Good) {p n c:Int} (hn:0≤n):(H.give p n c).1.Good:=by
 unfold HoD.give
 split
 ·exact g
 ·refine⟨g.ms,g.ok,g.st,by simpa using g.hands,fun l hl v hv=> ?_⟩
  rcases List.mem_or_eq_of_mem_set hl with h1 | h1
  ·exact g.cap l h1 v hv
  ·rw[h1]at hv
   rcases List.mem_append.1 hv with h2 | h2
   ·exact g.hand v h2
   ·exact⟨n,by simpa using h2,hn⟩
theorem AK {G:af} {n:bi}:0≤(G.add n).2.1:=by
 unfold af.add
 split
 ·exact Int.le_refl _
 ·split
  ·exact Int.le_refl _
  ·split
   ·exact Int.le_refl _
   ·exact Int.natCast_nonneg _
theorem Db {G:af} {c r g:Int}:0≤(G.cellC c r g).2.1:=by
 unfold af.cellC
 split
 ·exact AK
 ·exact Int.le_refl _
theorem Dk {G:af} {p f r g:Int}:0≤(G.funcC p f r g).2.1:=by
 unfold af.funcC
 split
 ·exact AK
 ·exact Int.le_refl _
theorem oo (n:Int):(fg n).size≤100000:=by simp[fg,VD.size,bA]
theorem sR (n:Int):(ju n).size≤100000:=by simp[ju,VD.size,bA]
theorem HoD.Good.arg {H:HoD} (g:H.Good) (x:de):(if 0≤x.h then(H.hand x.p).getD x.h.toNat ay else ju x.n).code=0∧(if 0≤x.h then(H.hand x.p).getD x.h.toNat ay else ju x.n).size≤100000:=by
 split
 ·by_cases hi:x.h.toNat<(H.hand x.p).length
  ·have e:(H.hand x.p).getD x.h.toNat ay=(H.hand x.p)[x.h.toNat]:=by simp[List.getD,hi]
   rw[e]
   obtain⟨n,h1,h2⟩:=g.hand _ (List.getElem_mem hi)
   rw[h1]
   exact⟨mO h2,oo n⟩
  ·have e:(H.hand x.p).getD x.h.toNat ay=ay:=by simp[List.getD,List.getElem?_eq_none (Nat.le_of_not_lt hi)]
   rw[e]
   exact⟨da,by decide⟩
 ·exact⟨jc _,sR _⟩
structure uR (H:HoD) (q:HoD×EvD):Prop where
 good:q.1.Good
 log:q.1.S.log.length≤H.S.log.length+2000
 val:q.2.code=0→q.2.v.code=0
 size:q.2.v.size≤100000
 hand:∀ l∈q.1.hands,l.length≤1000∨∃ l'∈H.hands,l.length≤l'.length+1
theorem gK (c:Int):(EvD.no c).v.size≤100000:=(by decide:ay.size≤100000)
theorem uR.same {H H':HoD} {e:EvD} (g:H'.Good) (hl:H'.S.log=H.S.log) (hh:H'.hands=H.hands) (h1:e.code=0→e.v.code=0) (h2:e.v.size≤100000):uR H (H',e):=
 ⟨g,by rw[hl];exact Nat.le_add_right _ _,h1,h2,fun l hm=> .inr ⟨l,by rw[←hh];exact hm,Nat.le_succ _⟩⟩
theorem A0 {H H':HoD} (g:H'.Good) (hl:H'.S.log=H.S.log) (hh:H'.hands=H.hands) {p n c:Int} (hn:0≤n):uR H (H'.give p n c):=by
 refine⟨g.give hn,?_,?_,?_,?_⟩
 ·unfold HoD.give
  split
  ·rw[hl];exact Nat.le_add_right _ _
  ·show H'.S.log.length≤_
   rw[hl];exact Nat.le_add_right _ _
 ·unfold HoD.give
  split
  ·rename_i h;exact fun h'=>absurd h' h
  ·exact fun _=>mO hn
 ·unfold HoD.give
  split
  ·exact gK _
  ·exact oo _
 ·unfold HoD.give
  split
  ·exact fun l hm=> .inr ⟨l,by rw[←hh];exact hm,Nat.le_succ _⟩
  ·intro l hm
   rcases List.mem_or_eq_of_mem_set hm with h1 | h1
   ·exact .inr ⟨l,by rw[←hh];exact h1,Nat.le_succ _⟩
   ·unfold HoD.hand at h1
    by_cases hp:p.toNat<H'.hands.length
    ·rw[List.getD,List.getElem?_eq_getElem hp,Option.getD_some]at h1
     exact .inr ⟨H'.hands[p.toNat],by rw[←hh];exact List.getElem_mem hp,by rw[h1];simp⟩
    ·rw[List.getD,List.getElem?_eq_none (by omega),Option.getD_none]at h1
     exact .inl (by rw[h1];simp)
theorem HoD.Good.step {H:HoD} (g:H.Good) (x:de):uR H (H.step x):=by
 unfold HoD.step
 by_cases k1:x.kind=1
 ·rw[if_pos k1]
  unfold HoD.load
  by_cases h1:inP x.p=false
  ·rw[if_pos h1]
   exact .same g rfl rfl (fun h=>absurd h (by simp[EvD.no])) (gK _)
  ·rw[if_neg h1]
   by_cases h2:(aZ x.m).1≠0
   ·rw[if_pos h2]
    exact .same g rfl rfl (fun h=>absurd h h2) (gK _)
   ·rw[if_neg h2]
    exact .same ⟨by simpa using g.ms,g.ok.set (Classical.not_not.1 h2),g.st.keep da,g.hands,g.cap⟩ rfl rfl (fun _=>da) (gK _)
 rw[if_neg k1]
 by_cases k2:x.kind=2∨x.kind=3
 ·rw[if_pos k2]
  by_cases h1:inP x.p=false
  ·rw[if_pos h1]
   exact .same g rfl rfl (fun h=>absurd h (by simp[EvD.no])) (gK _)
  ·rw[if_neg h1]
   split
   ·exact A0 (H:=H) (H':=H.graph (H.S.G.cellC x.k x.r x.g).1) (g.graph (g.st.wf.cellC _ _ _)) rfl rfl Db
   ·exact A0 (H:=H) (H':=H.graph (H.S.G.funcC x.q x.k x.r x.g).1) (g.graph (g.st.wf.funcC _ _ _ _)) rfl rfl Dk
 rw[if_neg k2]
 by_cases k4:x.kind=4
 ·rw[if_pos k4]
  unfold HoD.call
  by_cases h1:0≤x.h∧(inP x.p=false∨((H.hand x.p).length:Int)≤x.h)
  ·rw[if_pos h1]
   exact .same g rfl rfl (fun h=>absurd h (by simp[EvD.no])) (gK _)
  ·rw[if_neg h1]
   have:=Hq (ms:=H.ms) (p:=x.p) (f:=x.k) (fuel:=2000) (v:=if 0≤x.h then(H.hand x.p).getD x.h.toNat ay else ju x.n) g.st
   generalize cX H.ms x.p x.k (if 0≤x.h then(H.hand x.p).getD x.h.toNat ay else ju x.n) 2000 H.S=q at this
   obtain⟨S',v,n,c⟩:=q
   obtain⟨h2,h3,h4,h5⟩:=this
   exact⟨⟨g.ms,g.ok,h2,g.hands,g.cap⟩,h3,h4,h5,fun l hm=> .inr ⟨l,hm,Nat.le_succ _⟩⟩
 rw[if_neg k4]
 by_cases k5:x.kind=5
 ·rw[if_pos k5]
  exact .same (g.graph (g.st.wf.cut _)) rfl rfl (fun _=>da) (gK _)
 rw[if_neg k5]
 by_cases k6:x.kind=6
 ·rw[if_pos k6]
  refine .same (g.graph g.st.wf.gate) rfl rfl ?_ ?_
  ·split
   ·rename_i h;exact fun h'=>absurd h' h
   ·exact fun _=>jc _
  ·split
   ·exact gK _
   ·exact sR _
 ·rw[if_neg k6]
  exact .same g rfl rfl (fun h=>absurd h (by simp[EvD.no])) (gK _)
theorem CV {H:HoD} {x:de} (hx:x.kind=1):H.step x=((H.load x.p x.m).1,.no (H.load x.p x.m).2):=by
 unfold HoD.step
 rw[if_pos hx]
theorem zz {H:HoD} {p:Int} {m:List XD}:(H.load p m).1.hands=H.hands∧(H.load p m).1.S.G=H.S.G∧∀ j:Nat,(H.load p m).1.S.kept.getD j ay=if(j:Int)=p∧(H.load p m).2=0 then ay else H.S.kept.getD j ay:=by
 unfold HoD.load
 split
 ·exact⟨rfl,rfl,fun j=>by rw[if_neg (by simp)]⟩
 ·split
  ·rename_i h2;exact⟨rfl,rfl,fun j=>by rw[if_neg (fun h=>h2 h.2)]⟩
  ·rename_i h1 h2
   refine⟨rfl,rfl,fun j=> ?_⟩
   have hp:inP p=true:=by simpa using h1
   rw[iM]at hp
   show(H.S.kept.set p.toNat ay).getD j ay=_
   by_cases e:(j:Int)=p
   ·rw[if_pos ⟨e,rfl⟩]
    have e2:p.toNat=j:=by omega
    rw[e2,List.getD,List.getElem?_set]
    split
    ·split<;>rfl
    ·rename_i h;exact absurd rfl h
   ·rw[if_neg (fun h=>e h.1),List.getD,List.getElem?_set_ne (by omega)]
    rfl
theorem oO {G:af} {n:bi} (h:(G.add n).2.2≠0):(G.add n).1=G:=by
 unfold af.add at h ⊢
 split
 ·rfl
 ·split
  ·rfl
  ·split
   ·rfl
   ·rename_i h1 h2 h3
    rw[if_neg h1,if_neg h2,if_neg h3]at h
    exact absurd rfl h
theorem su {G:af} {c r g:Int} (h:(G.cellC c r g).2.2≠0):(G.cellC c r g).1=G:=by
 unfold af.cellC at h ⊢
 split
 ·rename_i h1
  rw[if_pos h1]at h
  exact oO h
 ·rfl
theorem sI {G:af} {p f r g:Int} (h:(G.funcC p f r g).2.2≠0):(G.funcC p f r g).1=G:=by
 unfold af.funcC at h ⊢
 split
 ·rename_i h1
  rw[if_pos h1]at h
  exact oO h
 ·rfl
theorem wg {G:af} (h:G.gate.2.2≠0):G.gate.1=G:=by
 unfold af.gate at h ⊢
 split
 ·rfl
 ·rename_i h1
  rw[if_neg h1]at h
  exact absurd rfl h
theorem yn {G:af} {k:Int} (h:(G.cut k).2≠0):(G.cut k).1=G:=by
 unfold af.cut at h ⊢
 split
 ·rename_i h1
  rw[if_pos h1]at h
  exact absurd rfl h
 ·rfl
theorem Dj (ms:aL) {N:Nat} {p:Int} {x:XD} {arg:VD} {names:List VD} {fr:Nat} {S:StD} (hN:N≠0) (h:S.left≠0):(ofD ms N p x arg names fr S).1.left<S.left:=by
 obtain⟨n,rfl⟩:∃ n,N=n+1:=⟨N - 1,by omega⟩
 have ht:S.tick.left<S.left:=by
  have:S.tick.left=S.left - 1:=rfl
  omega
 have ih:=iC ms n
 rw[ofD,if_neg h]
 generalize S.tick=T at ht
 split
 ·exact ht
 ·split
  ·have h1:=ih p (x.l.getD 0 di) arg names fr T
   rcases hq:ofD ms n p (x.l.getD 0 di) arg names fr T with⟨S',v,c⟩
   rw[hq]at h1
   simp only at h1 ⊢
   split
   ·exact Nat.lt_of_le_of_lt h1 ht
   ·exact Nat.lt_of_le_of_lt (ih _ _ _ _ _ _) (Nat.lt_of_le_of_lt h1 ht)
  ·split
   ·have h1:=ih p (x.l.getD 0 di) arg names fr T
    rcases hq:ofD ms n p (x.l.getD 0 di) arg names fr T with⟨S',v,c⟩
    rw[hq]at h1
    simp only at h1 ⊢
    split
    ·exact Nat.lt_of_le_of_lt h1 ht
    ·split
     ·exact Nat.lt_of_le_of_lt h1 ht
     ·split
      ·exact Nat.lt_of_le_of_lt (ih _ _ _ _ _ _) (Nat.lt_of_le_of_lt h1 ht)
      ·exact Nat.lt_of_le_of_lt (ih _ _ _ _ _ _) (Nat.lt_of_le_of_lt h1 ht)
   ·have h1:=mf (f:=fun y S=>ofD ms n p y arg names fr S) (fun y S=>ih p y arg names fr S) x.l T []
    rcases hq:evL (fun y S=>ofD ms n p y arg names fr S) x.l T []with⟨S',l,c⟩
    rw[hq]at h1
    simp only at h1 ⊢
    split
    ·exact Nat.lt_of_le_of_lt h1 ht
    ·split
     ·split
      ·exact Nat.lt_of_le_of_lt h1 ht
      ·exact Nat.lt_of_le_of_lt (ih _ _ _ _ _ _) (Nat.lt_of_le_of_lt h1 ht)
     ·split
      ·have h2:=lu ms (l.getD 0 ay) (l.getD 1 ay) fr S'
       rcases hq2:fJ ms (l.getD 0 ay) (l.getD 1 ay) fr S' with⟨S2,q,c2⟩
       rw[hq2]at h2
       simp only at h2 ⊢
       split
       ·show S2.left<S.left;omega
       ·have h3:=ih q.plugin (cU ms q.plugin q.func) q.arg [] (fr+1) S2
        rcases hq3:ofD ms n q.plugin (cU ms q.plugin q.func) q.arg [] (fr+1) S2 with⟨S3,v,c3⟩
        rw[hq3]at h3
        simp only at h3 ⊢
        split
        ·show S3.left<S.left;omega
        ·rw[qH]
         omega
      ·rw[qc]
       exact Nat.lt_of_le_of_lt h1 ht
theorem vg {ms:aL} {p f:Int} {v:VD} {S:StD} (hc:(cX ms p f v 2000 S).2.2.2≠0):(cX ms p f v 2000 S).2.1=ay∧((cX ms p f v 2000 S).2.2.1≤0→(cX ms p f v 2000 S).1=S):=by
 unfold cX at hc ⊢
 split
 ·exact⟨rfl,fun _=>rfl⟩
 ·split
  ·exact⟨rfl,fun _=>rfl⟩
  ·split
   ·exact⟨rfl,fun _=>rfl⟩
   ·rename_i h1 h2 h3
    rw[if_neg h1,if_neg h2,if_neg h3]at hc
    have ht:=Dj ms (N:=(2000:Int).toNat) (p:=p) (x:=cU ms p f) (arg:=v) (names:=[]) (fr:=1) (S:={S with left:=(2000:Int).toNat}) (by decide) (show(2000:Int).toNat≠0 by decide)
    generalize ofD ms (2000:Int).toNat p (cU ms p f) v [] 1 {S with left:=(2000:Int).toNat}=q at hc ht
    obtain⟨S',w,c⟩:=q
    simp only at hc ht ⊢
    rw[if_neg hc]
    have e:(2000:Int).toNat=2000:=rfl
    rw[e]at ht
    exact⟨rfl,fun h=>by omega⟩
theorem vt {H:HoD} {x:de} (hc:(H.step x).2.code≠0) (hf:¬ (x.kind=4∧0<(H.step x).2.fuel)):(H.step x).1=H∧(H.step x).2.v=ay:=by
 unfold HoD.step at hc hf ⊢
 by_cases k1:x.kind=1
 ·rw[if_pos k1]at hc ⊢
  refine⟨?_,rfl⟩
  unfold HoD.load at hc ⊢
  split
  ·rfl
  ·rename_i h1
   rw[if_neg h1]at hc
   split
   ·rfl
   ·rename_i h2
    rw[if_neg h2]at hc
    exact absurd rfl hc
 rw[if_neg k1]at hc hf ⊢
 by_cases k2:x.kind=2∨x.kind=3
 ·rw[if_pos k2]at hc ⊢
  split
  ·exact⟨rfl,rfl⟩
  ·rename_i h1
   rw[if_neg h1]at hc
   split
   ·rename_i h2
    rw[if_pos h2]at hc
    unfold HoD.give at hc ⊢
    split
    ·rename_i h3
     rw[su h3]
     exact⟨rfl,rfl⟩
    ·rename_i h3
     rw[if_neg h3]at hc
     exact absurd rfl hc
   ·rename_i h2
    rw[if_neg h2]at hc
    unfold HoD.give at hc ⊢
    split
    ·rename_i h3
     rw[sI h3]
     exact⟨rfl,rfl⟩
    ·rename_i h3
     rw[if_neg h3]at hc
     exact absurd rfl hc
 rw[if_neg k2]at hc hf ⊢
 by_cases k4:x.kind=4
 ·rw[if_pos k4]at hc hf ⊢
  unfold HoD.call at hc hf ⊢
  split
  ·exact⟨rfl,rfl⟩
  ·rename_i h1
   rw[if_neg h1]at hc hf
   have:=vg (ms:=H.ms) (p:=x.p) (f:=x.k) (v:=if 0≤x.h then(H.hand x.p).getD x.h.toNat ay else ju x.n) (S:=H.S)
   generalize cX H.ms x.p x.k (if 0≤x.h then(H.hand x.p).getD x.h.toNat ay else ju x.n) 2000 H.S=q at hc hf this
   obtain⟨S',v,n,c⟩:=q
   simp only at hc hf this ⊢
   obtain⟨r1,r2⟩:=this hc
   have r3:=r2 (by
    rcases Int.lt_or_le 0 n with h | h
    ·exact absurd ⟨k4,h⟩ hf
    ·exact h)
   rw[r3]
   exact⟨rfl,r1⟩
 rw[if_neg k4]at hc hf ⊢
 by_cases k5:x.kind=5
 ·rw[if_pos k5]at hc ⊢
  rw[yn hc]
  exact⟨rfl,rfl⟩
 rw[if_neg k5]at hc hf ⊢
 by_cases k6:x.kind=6
 ·rw[if_pos k6]at hc ⊢
  by_cases h1:H.S.G.gate.2.2≠0
  ·rw[wg h1,if_pos h1]
   exact⟨rfl,rfl⟩
  ·simp only[if_neg h1]at hc
   exact absurd rfl hc
 ·rw[if_neg k6]
  exact⟨rfl,rfl⟩
def AY:List RS:=[(.ops [(.i (.v 0) (.mv (.c .nilp)))]),(.ops [(.i .l (.call (.c (.fn 39 [] [])) [])),(.i .l (.build [.nilp,.nils,.nils,.nils,.nils] [(0,1),(1,4)] [(0,(.l 0))])),(.i .l (.box 5 (.l 0))),(.i (.v 0) (.mv (.l 0)))]),.ret]
theorem Hf:FnR Try.prog po 22 0 1 [0] AY [(.v 0)] false:=⟨_,_,Try.func22,rfl,rfl,by kernel_rfl,by kernel_rfl,by kernel_rfl,by kernel_rfl,by kernel_rfl⟩
def qJ:List RS:=[(.ops [(.i (.v 1) (.mv (.c (.bool false))))]),(.ops [(.i .l (.mv (.v 0))),(.i .l (.bin (.int .i64) .geq (.l 0) (.c (.int .i64 0)))),(.i .l (.mv (.l 0))),(.g (.l 0) true .l (.mv (.v 0))),(.g (.l 1) true .l (.bin (.int .i64) .lss (.l 0) (.c (.int .i64 4)))),(.i .l (.pick (.l 2) (.l 0) (.c (.bool false)))),(.i (.v 1) (.mv (.l 0)))]),.ret]
theorem Aa:FnR Try.prog po 52 1 2 [0,2] qJ [(.v 1)] true:=⟨_,_,Try.func52,rfl,rfl,by kernel_rfl,by kernel_rfl,by kernel_rfl,by kernel_rfl,by kernel_rfl⟩
def mh:List RS:=[(.ops [(.i (.v 3) (.box 1 (.v 2))),(.i (.v 4) (.mv (.c (.int .i64 0))))]),(.ops [(.i .l (.mv (.v 1))),(.i .l (.call (.c (.fn 52 [] [])) [(.l 0)])),(.i (.v 7) (.un .not (.l 0)))]),(.cond (.v 7) [(.ops [(.i (.v 4) (.mv (.c (.int .i64 1))))]),.ret] []),(.ops [(.i .l (.load true 1 (.v 3))),(.i .l (.call (.c (.fn 40 [] [])) [(.l 0)])),(.i .l (.mv (.l 0))),(.i .l (.ext (.l 0) 0)),(.i .l (.ext (.l 1) 1)),(.i (.v 6) (.alloc [(.int .i64 0),(.int .i64 0)])),(.i (.v 5) (.mv (.l 1))),(.i .n (.store 2 (.v 6) (.l 0)))]),(.ops [(.i .l (.fad 0 (.v 6))),(.i .l (.load false 1 (.l 0))),(.i (.v 8) (.bin (.int .i64) .neq (.l 0) (.c (.int .i64 0))))]),(.cond (.v 8) [(.ops [(.i .l (.fad 0 (.v 6))),(.i .l (.load false 1 (.l 0))),(.i (.v 4) (.mv (.l 0)))]),.ret] []),(.ops [(.i .l (.mv (.v 0))),(.i .l (.nilc (.l 0))),(.i .l (.fad 0 (.l 0))),(.i .l (.load false 1 (.l 0))),(.i .l (.mv (.v 1))),(.i .l (.mv (.v 5))),(.i .l (.build [(.bool false),.nils,(.int .i64 0),(.int .i64 0),.nils] [(0,1),(1,1),(2,3)] [(0,(.c (.bool true))),(1,(.l 0))])),(.i .l (.nilc (.l 3))),(.i .l (.fad 2 (.l 0))),(.i .l (.ixa none (some (4,5)) (.l 0) (.l 4))),(.i .n (.store 5 (.l 0) (.l 3)))]),(.ops [(.i (.v 4) (.mv (.c (.int .i64 0))))]),.ret]
theorem qi:FnR Try.prog po 51 3 9 [0,1,2,5,6,7,8,11,19] mh [(.v 4)] false:=⟨_,_,Try.func51,rfl,rfl,by kernel_rfl,by kernel_rfl,by kernel_rfl,by kernel_rfl,by kernel_rfl⟩
def pK:List RS:=[(.ops [(.i (.v 4) (.alloc [(.int .i64 0),(.int .i64 0),(.int .i64 0),(.int .i64 0),.nils]))]),(.ops [(.i .l (.mv (.v 3))),(.i (.v 6) (.bin (.int .i64) .neq (.l 0) (.c (.int .i64 0))))]),(.cond (.v 6) [(.ops [(.i .l (.mv (.v 3))),(.i .l (.build [(.int .i64 0),(.int .i64 0),(.int .i64 0),(.int .i64 0),.nils] [(0,1),(1,1),(2,3)] [(0,(.l 0))])),(.i .n (.store 5 (.v 4) (.l 0)))]),.ret] []),(.ops [(.i .l (.mv (.v 2))),(.i .l (.build [(.int .i64 0),(.int .i64 0),.nils] [(0,1),(1,1),(2,1)] [(0,(.c (.int .i64 4))),(1,(.l 0))])),(.i (.v 5) (.alloc [(.int .i64 0),(.int .i64 0),.nils])),(.i .n (.store 3 (.v 5) (.l 0)))]),(.ops [(.i .l (.mv (.v 0))),(.i .l (.mv (.v 1))),(.i .l (.nilc (.l 1))),(.i .l (.fad 1 (.l 0))),(.i .l (.ixa none (some (4,1)) (.l 0) (.l 2))),(.i .l (.load false 1 (.l 0))),(.i .l (.load true 3 (.v 5))),(.i .l (.len false (some 29) (.l 1))),(.i .l (.nilc (.l 7))),(.i .l (.fad 1 (.l 0))),(.i .l (.bsl true 29 [(.int .i64 0),(.int .i64 0),.nils] 3 1 [(0,(.c (.agg [(.int .i64 0),(.int .i64 0),.nils])))])),(.ck [⟨none,false,1,(.l 6),(.l 5)⟩,⟨none,true,3,(.v 5),(.l 4)⟩]),(.i .l (.app true 29 (.l 5) (.l 0))),(.i .l (.ixa (some 29) none (.l 0) (.l 4))),(.i .l (.ixa none (some (4,1)) (.l 3) (.l 11))),(.i .n (.store 3 (.l 1) (.l 7))),(.i .n (.store 1 (.l 0) (.l 2))),(.ck [⟨none,true,3,(.l 1),(.l 7)⟩])]),(.ops [(.i .l (.load true 3 (.v 5))),(.i .l (.build [(.int .i64 0),(.int .i64 0),(.int .i64 0),(.int .i64 0),.nils] [(0,1),(1,1),(2,3)] [(2,(.l 0))])),(.i .n (.store 5 (.v 4) (.l 0)))]),.ret]
theorem wy:FnR Try.prog po 54 4 7 [0,1,2,3,8,9,11] pK [(.cell true 5 4)] false:=⟨_,_,Try.func54,rfl,rfl,by kernel_rfl,by kernel_rfl,by kernel_rfl,by kernel_rfl,by kernel_rfl⟩
def kj:List RS:=[(.ops [(.i (.v 2) (.box 9 (.v 1))),(.i (.v 3) (.alloc [(.int .i64 0),(.int .i64 0),(.int .i64 0),(.int .i64 0),.nils]))]),(.ops [(.i .l (.fad 7 (.v 2))),(.i .l (.load false 1 (.l 0))),(.i .l (.build [(.int .i64 0),(.int .i64 0),.nils] [(0,1),(1,1),(2,1)] [(0,(.c (.int .i64 1))),(1,(.l 0))])),(.i (.v 4) (.alloc [(.int .i64 0),(.int .i64 0),.nils])),(.i .n (.store 3 (.v 4) (.l 0)))]),(.ops [(.i .l (.fad 4 (.v 2))),(.i .l (.load false 1 (.l 0))),(.i (.v 8) (.bin (.int .i64) .geq (.l 0) (.c (.int .i64 0))))]),(.cond (.v 8) [(.ops [(.i .l (.fad 1 (.v 2))),(.i .l (.load false 1 (.l 0))),(.i .l (.call (.c (.fn 52 [] [])) [(.l 0)])),(.i .l (.un .not (.l 0))),(.i .l (.mv (.l 0))),(.g (.l 0) false .l (.fad 4 (.v 2))),(.g (.l 1) false .l (.load false 1 (.l 0))),(.g (.l 2) false .l (.mv (.v 0))),(.g (.l 3) false .l (.fad 1 (.v 2))),(.g (.l 4) false .l (.load false 1 (.l 0))),(.g (.l 5) false .l (.nilc (.l 2))),(.g (.l 6) false .l (.fad 1 (.l 0))),(.g (.l 7) false .l (.ixa none (some (4,1)) (.l 0) (.l 2))),(.g (.l 8) false .l (.load false 1 (.l 0))),(.g (.l 9) false .l (.len false (some 29) (.l 0))),(.g (.l 10) false .l (.bin (.int .i64) .geq (.l 8) (.l 0))),(.i (.v 9) (.pick (.l 11) (.c (.bool true)) (.l 0)))]),(.cond (.v 9) [(.ops [(.i .l (.build [(.int .i64 0),(.int .i64 0),(.int .i64 0),(.int .i64 0),.nils] [(0,1),(1,1),(2,3)] [(0,(.c (.int .i64 8)))])),(.i .n (.store 5 (.v 3) (.l 0)))]),.ret] []),(.ops [(.i .l (.mv (.v 0))),(.i .l (.fad 1 (.v 2))),(.i .l (.load false 1 (.l 0))),(.i .l (.nilc (.l 2))),(.i .l (.fad 1 (.l 0))),(.i .l (.ixa none (some (4,1)) (.l 0) (.l 2))),(.i .l (.load false 1 (.l 0))),(.i .l (.fad 4 (.v 2))),(.i .l (.load false 1 (.l 0))),(.i .l (.ixa (some 29) none (.l 2) (.l 0))),(.i .l (.load true 3 (.l 0))),(.i .n (.store 3 (.v 4) (.l 0)))])] []),(.ops [(.i .l (.mv (.v 0))),(.i .l (.nilc (.l 0))),(.i .l (.fad 0 (.l 0))),(.i .l (.load false 1 (.l 0))),(.i .l (.fad 1 (.v 2))),(.i .l (.load false 1 (.l 0))),(.i .l (.fad 3 (.v 2))),(.i .l (.load false 1 (.l 0))),(.i .l (.load true 3 (.v 4))),(.i .l (.call (.c (.fn 17 [] [])) [(.l 5),(.l 3),(.l 1),(.l 0),(.c (.int .i64 2000))])),(.i .l (.mv (.l 0))),(.i .l (.ext (.l 0) 0)),(.i .l (.ext (.l 1) 1)),(.i .l (.ext (.l 2) 2)),(.i (.v 5) (.alloc [(.int .i64 0),(.int .i64 0),.nils])),(.ck [⟨none,false,1,(.l 11),(.l 10)⟩,⟨none,false,1,(.l 9),(.l 8)⟩,⟨none,false,1,(.l 7),(.l 6)⟩,⟨none,true,3,(.v 4),(.l 5)⟩]),(.i .n (.store 3 (.v 5) (.l 2))),(.i (.v 6) (.mv (.l 1))),(.i (.v 7) (.mv (.l 0)))]),(.ops [(.i .l (.mv (.v 7))),(.i .l (.mv (.v 6))),(.i .l (.load true 3 (.v 5))),(.i .l (.build [(.int .i64 0),(.int .i64 0),(.int .i64 0),(.int .i64 0),.nils] [(0,1),(1,1),(2,3)] [(0,(.l 2)),(1,(.l 1)),(2,(.l 0))])),(.i .n (.store 5 (.v 3) (.l 0)))]),.ret]
theorem nz:FnR Try.prog po 56 2 10 [0,1,3,4,5,6,7,8,14,31] kj [(.cell true 5 3)] false:=⟨_,_,Try.func56,rfl,rfl,by kernel_rfl,by kernel_rfl,by kernel_rfl,by kernel_rfl,by kernel_rfl⟩
def ik:List RS:=[(.ops [(.i (.v 2) (.box 9 (.v 1))),(.i (.v 3) (.alloc [(.int .i64 0),(.int .i64 0),(.int .i64 0),(.int .i64 0),.nils]))]),(.ops [(.i .l (.fad 0 (.v 2))),(.i (.v 10) (.load false 1 (.l 0)))]),(.block 0 [(.ops [(.i .l (.bin (.int .i64) .eql (.v 10) (.c (.int .i64 1)))),(.i (.v 11) (.mv (.l 0)))]),(.cond (.v 11) [(.ops [(.i .l (.mv (.v 0))),(.i .l (.fad 1 (.v 2))),(.i .l (.load false 1 (.l 0))),(.i .l (.fad 8 (.v 2))),(.i .l (.load true 1 (.l 0))),(.i .l (.call (.c (.fn 51 [] [])) [(.l 4),(.l 2),(.l 0)])),(.i .l (.build [(.int .i64 0),(.int .i64 0),(.int .i64 0),(.int .i64 0),.nils] [(0,1),(1,1),(2,3)] [(0,(.l 0))])),(.i .n (.store 5 (.v 3) (.l 0)))]),.ret] [(.ops [(.i .l (.bin (.int .i64) .eql (.v 10) (.c (.int .i64 2)))),(.i (.v 12) (.mv (.l 0)))]),(.cond (.v 12) [] [(.ops [(.i .l (.bin (.int .i64) .eql (.v 10) (.c (.int .i64 3)))),(.i (.v 12) (.mv (.l 0)))])]),(.cond (.v 12) [(.ops [(.i .l (.fad 1 (.v 2))),(.i .l (.load false 1 (.l 0))),(.i .l (.call (.c (.fn 52 [] [])) [(.l 0)])),(.i (.v 13) (.un .not (.l 0)))]),(.cond (.v 13) [(.ops [(.i .l (.build [(.int .i64 0),(.int .i64 0),(.int .i64 0),(.int .i64 0),.nils] [(0,1),(1,1),(2,3)] [(0,(.c (.int .i64 1)))])),(.i .n (.store 5 (.v 3) (.l 0)))]),.ret] []),(.ops [(.i .l (.fad 0 (.v 2))),(.i .l (.load false 1 (.l 0))),(.i (.v 14) (.bin (.int .i64) .eql (.l 0) (.c (.int .i64 2))))]),(.cond (.v 14) [(.ops [(.i .l (.mv (.v 0))),(.i .l (.nilc (.l 0))),(.i .l (.fad 0 (.l 0))),(.i .l (.load false 1 (.l 0))),(.i .l (.nilc (.l 0))),(.i .l (.fad 0 (.l 0))),(.i .l (.load false 1 (.l 0))),(.i .l (.fad 3 (.v 2))),(.i .l (.load false 1 (.l 0))),(.i .l (.fad 5 (.v 2))),(.i .l (.load false 1 (.l 0))),(.i .l (.fad 6 (.v 2))),(.i .l (.load false 1 (.l 0))),(.i .l (.call (.c (.fn 53 [] [])) [(.l 6),(.l 4),(.l 2),(.l 0)])),(.i .l (.mv (.l 0))),(.i .l (.ext (.l 0) 0)),(.i .l (.ext (.l 1) 1)),(.i (.v 4) (.mv (.l 1))),(.i (.v 5) (.mv (.l 0)))]),(.ops [(.i .l (.mv (.v 0))),(.i .l (.fad 1 (.v 2))),(.i .l (.load false 1 (.l 0))),(.i .l (.mv (.v 4))),(.i .l (.mv (.v 5))),(.i .l (.call (.c (.fn 54 [] [])) [(.l 4),(.l 2),(.l 1),(.l 0)])),(.i .n (.store 5 (.v 3) (.l 0)))]),.ret] []),(.ops [(.i .l (.mv (.v 0))),(.i .l (.nilc (.l 0))),(.i .l (.fad 0 (.l 0))),(.i .l (.load false 1 (.l 0))),(.i .l (.nilc (.l 0))),(.i .l (.fad 0 (.l 0))),(.i .l (.load false 1 (.l 0))),(.i .l (.fad 2 (.v 2))),(.i .l (.load false 1 (.l 0))),(.i .l (.fad 3 (.v 2))),(.i .l (.load false 1 (.l 0))),(.i .l (.fad 5 (.v 2))),(.i .l (.load false 1 (.l 0))),(.i .l (.fad 6 (.v 2))),(.i .l (.load false 1 (.l 0))),(.i .l (.call (.c (.fn 55 [] [])) [(.l 8),(.l 6),(.l 4),(.l 2),(.l 0)])),(.i .l (.mv (.l 0))),(.i .l (.ext (.l 0) 0)),(.i .l (.ext (.l 1) 1)),(.i (.v 6) (.mv (.l 1))),(.i (.v 7) (.mv (.l 0)))]),(.ops [(.i .l (.mv (.v 0))),(.i .l (.fad 1 (.v 2))),(.i .l (.load false 1 (.l 0))),(.i .l (.mv (.v 6))),(.i .l (.mv (.v 7))),(.i .l (.call (.c (.fn 54 [] [])) [(.l 4),(.l 2),(.l 1),(.l 0)])),(.i .n (.store 5 (.v 3) (.l 0)))]),.ret] [(.ops [(.i .l (.bin (.int .i64) .eql (.v 10) (.c (.int .i64 4)))),(.i (.v 15) (.mv (.l 0)))]),(.cond (.v 15) [(.ops [(.i .l (.mv (.v 0))),(.i .l (.load true 9 (.v 2))),(.i .l (.call (.c (.fn 56 [] [])) [(.l 1),(.l 0)])),(.i .n (.store 5 (.v 3) (.l 0)))]),.ret] [(.ops [(.i .l (.bin (.int .i64) .eql (.v 10) (.c (.int .i64 5)))),(.i (.v 16) (.mv (.l 0)))]),(.cond (.v 16) [(.ops [(.i .l (.mv (.v 0))),(.i .l (.nilc (.l 0))),(.i .l (.fad 0 (.l 0))),(.i .l (.load false 1 (.l 0))),(.i .l (.nilc (.l 0))),(.i .l (.fad 0 (.l 0))),(.i .l (.load false 1 (.l 0))),(.i .l (.fad 6 (.v 2))),(.i .l (.load false 1 (.l 0))),(.i .l (.call (.c (.fn 57 [] [])) [(.l 2),(.l 0)])),(.i .l (.build [(.int .i64 0),(.int .i64 0),(.int .i64 0),(.int .i64 0),.nils] [(0,1),(1,1),(2,3)] [(0,(.l 0))])),(.i .n (.store 5 (.v 3) (.l 0)))]),.ret] [(.ops [(.i .l (.bin (.int .i64) .eql (.v 10) (.c (.int .i64 6)))),(.i (.v 17) (.mv (.l 0)))]),(.cond (.v 17) [(.ops [(.i .l (.mv (.v 0))),(.i .l (.nilc (.l 0))),(.i .l (.fad 0 (.l 0))),(.i .l (.load false 1 (.l 0))),(.i .l (.nilc (.l 0))),(.i .l (.fad 0 (.l 0))),(.i .l (.load false 1 (.l 0))),(.i .l (.call (.c (.fn 58 [] [])) [(.l 0)])),(.i .l (.mv (.l 0))),(.i .l (.ext (.l 0) 0)),(.i .l (.ext (.l 1) 1)),(.i (.v 8) (.mv (.l 1))),(.i (.v 9) (.mv (.l 0)))]),(.ops [(.i .l (.mv (.v 9))),(.i (.v 18) (.bin (.int .i64) .neq (.l 0) (.c (.int .i64 0))))]),(.cond (.v 18) [(.ops [(.i .l (.mv (.v 9))),(.i .l (.build [(.int .i64 0),(.int .i64 0),(.int .i64 0),(.int .i64 0),.nils] [(0,1),(1,1),(2,3)] [(0,(.l 0))])),(.i .n (.store 5 (.v 3) (.l 0)))]),.ret] []),(.ops [(.i .l (.mv (.v 8))),(.i .l (.build [(.int .i64 0),(.int .i64 0),.nils] [(0,1),(1,1),(2,1)] [(0,(.c (.int .i64 1))),(1,(.l 0))])),(.i .l (.build [(.int .i64 0),(.int .i64 0),(.int .i64 0),(.int .i64 0),.nils] [(0,1),(1,1),(2,3)] [(2,(.l 0))])),(.i .n (.store 5 (.v 3) (.l 0)))]),.ret] [])])])])])]),(.ops [(.i .l (.build [(.int .i64 0),(.int .i64 0),(.int .i64 0),(.int .i64 0),.nils] [(0,1),(1,1),(2,3)] [(0,(.c (.int .i64 2)))])),(.i .n (.store 5 (.v 3) (.l 0)))]),.ret]
theorem iZ:FnR Try.prog po 23 2 19 [0,1,3,4,5,6,7,8,9,10,12,13,22,28,32,81,86,99,113] ik [(.cell true 5 3)] false:=⟨_,_,Try.func23,rfl,rfl,by kernel_rfl,by kernel_rfl,by kernel_rfl,by kernel_rfl,by kernel_rfl⟩
def mC:List RS:=[(.ops [(.i (.v 2) (.mv (.c .nils)))]),(.ops [(.i .l (.mv (.v 1))),(.i .l (.call (.c (.fn 52 [] [])) [(.l 0)])),(.i (.v 3) (.un .not (.l 0)))]),(.cond (.v 3) [(.ops [(.i (.v 2) (.mv (.c .nils)))]),.ret] []),(.ops [(.i .l (.mv (.v 0))),(.i .l (.mv (.v 1))),(.i .l (.nilc (.l 1))),(.i .l (.fad 1 (.l 0))),(.i .l (.ixa none (some (4,1)) (.l 0) (.l 2))),(.i .l (.load false 1 (.l 0))),(.i .l (.call (.c (.fn 61 [] [])) [(.l 0)])),(.i (.v 2) (.mv (.l 0)))]),.ret]
theorem qz:FnR Try.prog po 27 2 4 [0,1,4,7] mC [(.v 2)] true:=⟨_,_,Try.func27,rfl,rfl,by kernel_rfl,by kernel_rfl,by kernel_rfl,by kernel_rfl,by kernel_rfl⟩
def rp:List RS:=[(.ops [(.i (.v 2) (.alloc [(.int .i64 0),(.int .i64 0),.nils]))]),(.ops [(.i .l (.mv (.v 1))),(.i .l (.call (.c (.fn 52 [] [])) [(.l 0)])),(.i (.v 3) (.un .not (.l 0)))]),(.cond (.v 3) [(.ops [(.i .l (.build [(.int .i64 0),(.int .i64 0),.nils] [(0,1),(1,1),(2,1)] [])),(.i .n (.store 3 (.v 2) (.l 0)))]),.ret] []),(.ops [(.i .l (.mv (.v 0))),(.i .l (.nilc (.l 0))),(.i .l (.fad 0 (.l 0))),(.i .l (.load false 1 (.l 0))),(.i .l (.mv (.v 1))),(.i .l (.nilc (.l 1))),(.i .l (.fad 2 (.l 0))),(.i .l (.ixa none (some (4,5)) (.l 0) (.l 2))),(.i .l (.fad 2 (.l 0))),(.i .l (.load true 3 (.l 0))),(.i .l (.call (.c (.fn 46 [] [])) [(.l 0)])),(.i .n (.store 3 (.v 2) (.l 0)))]),.ret]
theorem wA:FnR Try.prog po 28 2 4 [0,1,4,7] rp [(.cell true 3 2)] true:=⟨_,_,Try.func28,rfl,rfl,by kernel_rfl,by kernel_rfl,by kernel_rfl,by kernel_rfl,by kernel_rfl⟩
def nZ:List RS:=[(.ops [(.i (.v 1) (.mv (.c .nils)))]),(.ops [(.i .l (.mv (.v 0))),(.i (.v 2) (.bin .slice .eql (.l 0) (.c .nils)))]),(.cond (.v 2) [(.ops [(.i (.v 1) (.mv (.c .nils)))]),.ret] []),(.ops [(.i .l (.bsl false 29 [(.int .i64 0),(.int .i64 0),.nils] 3 0 [])),(.i .l (.mv (.v 0))),(.i .l (.app false 29 (.l 1) (.l 0))),(.i (.v 1) (.mv (.l 0)))]),.ret]
theorem tz:FnR Try.prog po 61 1 3 [0,2,4] nZ [(.v 1)] true:=⟨_,_,Try.func61,rfl,rfl,by kernel_rfl,by kernel_rfl,by kernel_rfl,by kernel_rfl,by kernel_rfl⟩
def lG:List RS:=[(.ops [(.i (.v 0) (.mv (.c (.bool false))))]),(.ops [(.i .l (.call (.c (.fn 22 [] [])) [])),(.i (.v 1) (.mv (.l 0)))]),(.ops [(.i .l (.mv (.v 1))),(.i (.v 5) (.bin .ptr .eql (.l 0) (.c .nilp)))]),(.cond (.v 5) [(.ops [(.i (.v 0) (.mv (.c (.bool false))))]),.ret] []),(.ops [(.i .l (.mv (.v 1))),(.i .l (.build [(.int .i64 0),(.int .i64 0),(.int .i64 0),.nils] [(0,1),(1,1),(2,1),(3,1)] [(0,(.c (.int .i64 3)))])),(.i .l (.bsl false 46 [(.int .i64 0),(.int .i64 0),(.int .i64 0),.nils] 4 1 [(0,(.l 0))])),(.i .l (.build [(.int .i64 0),(.int .i64 0),(.int .i64 0),.nils] [(0,1),(1,1),(2,1),(3,1)] [(0,(.c (.int .i64 13))),(3,(.l 0))])),(.i .l (.bsl false 46 [(.int .i64 0),(.int .i64 0),(.int .i64 0),.nils] 4 1 [(0,(.l 0))])),(.i .l (.build [.nils] [(0,1)] [(0,(.l 0))])),(.i .l (.build [(.int .i64 0),(.int .i64 0),(.int .i64 0),(.int .i64 0),(.int .i64 0),(.int .i64 0),(.int .i64 0),(.int .i64 0),.nils] [(0,1),(1,1),(2,1),(3,1),(4,1),(5,1),(6,1),(7,1),(8,1)] [(0,(.c (.int .i64 1))),(1,(.c (.int .i64 1))),(8,(.l 0))])),(.i .l (.call (.c (.fn 23 [] [])) [(.l 6),(.l 0)])),(.i (.v 2) (.alloc [(.int .i64 0),(.int .i64 0),(.int .i64 0),(.int .i64 0),.nils])),(.i .n (.store 5 (.v 2) (.l 0)))]),(.ops [(.i .l (.mv (.v 1))),(.i .l (.build [(.int .i64 0),(.int .i64 0),(.int .i64 0),(.int .i64 0),(.int .i64 0),(.int .i64 0),(.int .i64 0),(.int .i64 0),.nils] [(0,1),(1,1),(2,1),(3,1),(4,1),(5,1),(6,1),(7,1),(8,1)] [(0,(.c (.int .i64 2))),(1,(.c (.int .i64 1))),(3,(.c (.int .i64 3))),(5,(.c (.int .i64 1))),(6,(.c (.int .i64 (-1))))])),(.i .l (.call (.c (.fn 23 [] [])) [(.l 1),(.l 0)])),(.i (.v 3) (.alloc [(.int .i64 0),(.int .i64 0),(.int .i64 0),(.int .i64 0),.nils])),(.i .n (.store 5 (.v 3) (.l 0)))]),(.ops [(.i .l (.mv (.v 1))),(.i .l (.build [(.int .i64 0),(.int .i64 0),(.int .i64 0),(.int .i64 0),(.int .i64 0),(.int .i64 0),(.int .i64 0),(.int .i64 0),.nils] [(0,1),(1,1),(2,1),(3,1),(4,1),(5,1),(6,1),(7,1),(8,1)] [(0,(.c (.int .i64 4))),(1,(.c (.int .i64 1)))])),(.i .l (.call (.c (.fn 23 [] [])) [(.l 1),(.l 0)])),(.i (.v 4) (.alloc [(.int .i64 0),(.int .i64 0),(.int .i64 0),(.int .i64 0),.nils])),(.i .n (.store 5 (.v 4) (.l 0)))]),(.ops [(.i .l (.fad 0 (.v 2))),(.i .l (.load false 1 (.l 0))),(.i .l (.bin (.int .i64) .eql (.l 0) (.c (.int .i64 0)))),(.i .l (.mv (.l 0))),(.g (.l 0) true .l (.fad 2 (.v 3))),(.g (.l 1) true .l (.fad 0 (.l 0))),(.g (.l 2) true .l (.load false 1 (.l 0))),(.g (.l 3) true .l (.bin (.int .i64) .eql (.l 0) (.c (.int .i64 4)))),(.i .l (.pick (.l 4) (.l 0) (.c (.bool false)))),(.i .l (.mv (.l 0))),(.g (.l 0) true .l (.fad 0 (.v 4))),(.g (.l 1) true .l (.load false 1 (.l 0))),(.g (.l 2) true .l (.bin (.int .i64) .eql (.l 0) (.c (.int .i64 0)))),(.i .l (.pick (.l 3) (.l 0) (.c (.bool false)))),(.i .l (.mv (.l 0))),(.g (.l 0) true .l (.fad 2 (.v 4))),(.g (.l 1) true .l (.fad 0 (.l 0))),(.g (.l 2) true .l (.load false 1 (.l 0))),(.g (.l 3) true .l (.bin (.int .i64) .eql (.l 0) (.c (.int .i64 1)))),(.i .l (.pick (.l 4) (.l 0) (.c (.bool false)))),(.i .l (.mv (.l 0))),(.g (.l 0) true .l (.fad 1 (.v 4))),(.g (.l 1) true .l (.load false 1 (.l 0))),(.g (.l 2) true .l (.bin (.int .i64) .eql (.l 0) (.c (.int .i64 2)))),(.i .l (.pick (.l 3) (.l 0) (.c (.bool false)))),(.i .l (.mv (.l 0))),(.g (.l 0) true .l (.mv (.v 1))),(.g (.l 1) true .l (.call (.c (.fn 27 [] [])) [(.l 0),(.c (.int .i64 1))])),(.g (.l 2) true .l (.len false (some 29) (.l 0))),(.g (.l 3) true .l (.bin (.int .i64) .eql (.l 0) (.c (.int .i64 1)))),(.i .l (.pick (.l 4) (.l 0) (.c (.bool false)))),(.i (.v 0) (.mv (.l 0)))]),.ret]
theorem sx:FnR Try.prog po 20 0 6 [0,1,2,3,4,7] lG [(.v 0)] true:=⟨_,_,Try.func20,rfl,rfl,by kernel_rfl,by kernel_rfl,by kernel_rfl,by kernel_rfl,by kernel_rfl⟩
def bv:List RS:=[(.ops [(.i .l (.mv (.v 3))),(.i .l (.mv (.v 0))),(.i .l (.len false (some 56) (.l 0))),(.i .l (.bin (.int .i64) .lss (.l 2) (.l 0))),(.i .l (.mv (.l 0))),(.g (.l 0) true .l (.mv (.v 3))),(.g (.l 1) true .l (.mv (.v 1))),(.g (.l 2) true .l (.bin (.int .i64) .lss (.l 1) (.l 0))),(.i (.v 4) (.pick (.l 3) (.l 0) (.c (.bool false))))]),(.cond (.v 4) [] [(.exit 0)]),(.block 1 [(.ops [(.i .l (.mv (.v 0))),(.i .l (.mv (.v 3))),(.i .l (.ixa (some 56) none (.l 1) (.l 0))),(.i .l (.fad 8 (.l 0))),(.i .l (.load true 1 (.l 0))),(.i (.v 5) (.call (.c (.fn 26 [] [])) [(.l 0)]))]),(.cond (.v 5) [(.ops [(.i (.v 2) (.mv (.c (.bool true))))]),.ret] [])]),(.ops [(.i .l (.mv (.v 3))),(.i .l (.bin (.int .i64) .add (.l 0) (.c (.int .i64 1)))),(.i (.v 3) (.mv (.l 0)))])]
def iT:List RS:=[(.ops [(.i (.v 2) (.mv (.c (.bool false))))]),(.ops [(.i (.v 3) (.mv (.c (.int .i64 0))))]),(.block 0 [(.loop bv)]),(.ops [(.i .l (.mv (.v 0))),(.i .l (.len false (some 56) (.l 0))),(.i .l (.mv (.v 1))),(.i .l (.bin (.int .i64) .gtr (.l 1) (.l 0))),(.i (.v 2) (.mv (.l 0)))]),.ret]
theorem lE:FnR Try.prog po 21 2 6 [0,1,4,5,14,22] iT [(.v 2)] true:=⟨_,_,Try.func21,rfl,rfl,by kernel_rfl,by kernel_rfl,by kernel_rfl,by kernel_rfl,by kernel_rfl⟩
def bZ:List RS:=[(.ops [(.i .l (.mv (.v 10))),(.i (.v 16) (.bin (.int .i64) .lss (.l 0) (.c (.int .i64 4))))]),(.cond (.v 16) [] [(.exit 4)]),(.block 5 [(.ops [(.i .l (.mv (.v 10))),(.i .l (.ixa none (some (4,3)) (.v 7) (.l 0))),(.i .l (.load true 3 (.l 0))),(.i (.v 11) (.alloc [(.int .i64 0),(.int .i64 0),.nils])),(.i .n (.store 3 (.v 11) (.l 0)))]),(.ops [(.i .l (.mv (.v 10))),(.i .l (.fad 1 (.v 2))),(.i .l (.load false 1 (.l 0))),(.i .l (.bin (.int .i64) .eql (.l 2) (.l 0))),(.i .l (.mv (.l 0))),(.g (.l 0) true .l (.fad 0 (.v 9))),(.g (.l 1) true .l (.load false 1 (.l 0))),(.g (.l 2) true .l (.bin (.int .i64) .eql (.l 0) (.c (.int .i64 0)))),(.i (.v 17) (.pick (.l 3) (.l 0) (.c (.bool false))))]),(.cond (.v 17) [(.ops [(.i .l (.build [(.int .i64 0),(.int .i64 0),.nils] [(0,1),(1,1),(2,1)] [])),(.i .n (.store 3 (.v 11) (.l 0)))])] []),(.ops [(.i .l (.mv (.v 4))),(.i .l (.mv (.v 10))),(.i .l (.mv (.v 10))),(.i .l (.ixa none (some (4,1)) (.v 6) (.l 0))),(.i .l (.load false 1 (.l 0))),(.i .l (.call (.c (.fn 27 [] [])) [(.l 4),(.l 3)])),(.ck [⟨none,false,1,(.l 2),(.l 1)⟩]),(.i .l (.call (.c (.fn 29 [] [])) [(.l 0),(.l 1)])),(.i .l (.un .not (.l 0))),(.i .l (.mv (.l 0))),(.g (.l 0) false .l (.mv (.v 4))),(.g (.l 1) false .l (.mv (.v 10))),(.g (.l 2) false .l (.load true 3 (.v 11))),(.g (.l 3) false .l (.call (.c (.fn 28 [] [])) [(.l 2),(.l 1)])),(.ck [⟨(some ((.l 4),false)),true,3,(.v 11),(.l 1)⟩]),(.g (.l 4) false .l (.call (.c (.fn 19 [] [])) [(.l 0),(.l 1)])),(.g (.l 5) false .l (.un .not (.l 0))),(.i (.v 18) (.pick (.l 6) (.c (.bool true)) (.l 0)))]),(.cond (.v 18) [(.ops [(.i (.v 3) (.mv (.c (.bool false))))]),.ret] [])]),(.ops [(.i .l (.mv (.v 10))),(.i .l (.bin (.int .i64) .add (.l 0) (.c (.int .i64 1)))),(.i (.v 10) (.mv (.l 0)))])]
def ep:List RS:=[(.ops [(.i .l (.mv (.v 8))),(.i (.v 15) (.bin (.int .i64) .lss (.l 0) (.c (.int .i64 4))))]),(.cond (.v 15) [] [(.exit 2)]),(.block 3 [(.ops [(.i .l (.mv (.v 8))),(.i .l (.mv (.v 8))),(.i .l (.mv (.v 4))),(.i .l (.mv (.v 8))),(.i .l (.mv (.v 4))),(.i .l (.mv (.v 8))),(.i .l (.call (.c (.fn 27 [] [])) [(.l 3),(.l 2)])),(.i .l (.ixa none (some (4,1)) (.v 6) (.l 6))),(.i .l (.call (.c (.fn 28 [] [])) [(.l 3),(.l 2)])),(.i .n (.store 1 (.l 1) (.l 2))),(.i .l (.ixa none (some (4,3)) (.v 7) (.l 7))),(.i .n (.store 3 (.l 0) (.l 1)))])]),(.ops [(.i .l (.mv (.v 8))),(.i .l (.bin (.int .i64) .add (.l 0) (.c (.int .i64 1)))),(.i (.v 8) (.mv (.l 0)))])]
def ew:List RS:=[(.ops [(.i .l (.mv (.v 5))),(.i .l (.mv (.v 0))),(.i .l (.len false (some 56) (.l 0))),(.i (.v 14) (.bin (.int .i64) .lss (.l 2) (.l 0)))]),(.cond (.v 14) [] [(.exit 0)]),(.block 1 [(.ops [(.i .l (.mv (.v 4))),(.i .l (.mv (.v 0))),(.i .l (.mv (.v 5))),(.i .l (.ixa (some 56) none (.l 1) (.l 0))),(.i .l (.load true 9 (.l 0))),(.i .l (.call (.c (.fn 23 [] [])) [(.l 4),(.l 0)]))])]),(.ops [(.i .l (.mv (.v 5))),(.i .l (.bin (.int .i64) .add (.l 0) (.c (.int .i64 1)))),(.i (.v 5) (.mv (.l 0)))])]
def fV:List RS:=[(.ops [(.i (.v 2) (.box 9 (.v 1))),(.i (.v 3) (.mv (.c (.bool false))))]),(.ops [(.i .l (.call (.c (.fn 20 [] [])) [])),(.i (.v 12) (.un .not (.l 0)))]),(.cond (.v 12) [(.ops [(.i (.v 3) (.mv (.c (.bool false))))]),.ret] []),(.ops [(.i .l (.mv (.v 0))),(.i .l (.call (.c (.fn 21 [] [])) [(.l 0),(.c (.int .i64 100))])),(.i .l (.mv (.l 0))),(.g (.l 0) false .l (.fad 8 (.v 2))),(.g (.l 1) false .l (.load true 1 (.l 0))),(.g (.l 2) false .l (.call (.c (.fn 26 [] [])) [(.l 0)])),(.i (.v 13) (.pick (.l 3) (.c (.bool true)) (.l 0)))]),(.cond (.v 13) [(.ops [(.i (.v 3) (.mv (.c (.bool true))))]),.ret] []),(.ops [(.i .l (.call (.c (.fn 22 [] [])) [])),(.i (.v 4) (.mv (.l 0)))]),(.ops [(.i (.v 5) (.mv (.c (.int .i64 0))))]),(.block 0 [(.loop ew)]),(.ops [(.i (.v 6) (.alloc [.nils,.nils,.nils,.nils]))]),(.ops [(.i (.v 7) (.alloc [(.int .i64 0),(.int .i64 0),.nils,(.int .i64 0),(.int .i64 0),.nils,(.int .i64 0),(.int .i64 0),.nils,(.int .i64 0),(.int .i64 0),.nils]))]),(.ops [(.i (.v 8) (.mv (.c (.int .i64 0))))]),(.block 2 [(.loop ep)]),(.ops [(.i .l (.fad 0 (.v 2))),(.i .n (.store 1 (.l 0) (.c (.int .i64 1))))]),(.ops [(.i .l (.mv (.v 4))),(.i .l (.load true 9 (.v 2))),(.i .l (.call (.c (.fn 23 [] [])) [(.l 1),(.l 0)])),(.i (.v 9) (.alloc [(.int .i64 0),(.int .i64 0),(.int .i64 0),(.int .i64 0),.nils])),(.i .n (.store 5 (.v 9) (.l 0)))]),(.ops [(.i (.v 10) (.mv (.c (.int .i64 0))))]),(.block 4 [(.loop bZ)]),(.ops [(.i (.v 3) (.mv (.c (.bool true))))]),.ret]
theorem iW:FnR Try.prog po 7 2 19 [0,1,3,4,5,6,7,8,9,10,11,12,14,21,26,36,54,68,85] fV [(.v 3)] true:=⟨_,_,Try.func7,rfl,rfl,by kernel_rfl,by kernel_rfl,by kernel_rfl,by kernel_rfl,by kernel_rfl⟩
def dE:List RS:=[(.ops [(.i .l (.mv (.v 11))),(.i (.v 17) (.bin (.int .i64) .lss (.l 0) (.c (.int .i64 4))))]),(.cond (.v 17) [] [(.exit 4)]),(.block 5 [(.ops [(.i .l (.mv (.v 11))),(.i .l (.ixa none (some (4,1)) (.v 4) (.l 0))),(.i .l (.load false 1 (.l 0))),(.i .l (.mv (.v 2))),(.i .l (.mv (.v 11))),(.i .l (.call (.c (.fn 27 [] [])) [(.l 1),(.l 0)])),(.ck [⟨none,false,1,(.l 4),(.l 3)⟩]),(.i .l (.call (.c (.fn 29 [] [])) [(.l 3),(.l 0)])),(.i .l (.un .not (.l 0))),(.i .l (.mv (.l 0))),(.g (.l 0) false .l (.mv (.v 11))),(.g (.l 1) false .l (.ixa none (some (4,3)) (.v 5) (.l 0))),(.g (.l 2) false .l (.load true 3 (.l 0))),(.g (.l 3) false .l (.mv (.v 2))),(.g (.l 4) false .l (.mv (.v 11))),(.g (.l 5) false .l (.call (.c (.fn 28 [] [])) [(.l 1),(.l 0)])),(.ck [⟨(some ((.l 6),false)),true,3,(.l 4),(.l 3)⟩]),(.g (.l 6) false .l (.call (.c (.fn 19 [] [])) [(.l 3),(.l 0)])),(.g (.l 7) false .l (.un .not (.l 0))),(.i (.v 18) (.pick (.l 8) (.c (.bool true)) (.l 0)))]),(.cond (.v 18) [(.ops [(.i (.v 1) (.mv (.c (.bool false))))]),.ret] [])]),(.ops [(.i .l (.mv (.v 11))),(.i .l (.bin (.int .i64) .add (.l 0) (.c (.int .i64 1)))),(.i (.v 11) (.mv (.l 0)))])]
def dG:List RS:=[(.ops [(.i .l (.mv (.v 6))),(.i (.v 15) (.bin (.int .i64) .lss (.l 0) (.c (.int .i64 4))))]),(.cond (.v 15) [] [(.exit 2)]),(.block 3 [(.ops [(.i .l (.mv (.v 6))),(.i .l (.mv (.v 6))),(.i .l (.mv (.v 2))),(.i .l (.mv (.v 6))),(.i .l (.mv (.v 2))),(.i .l (.mv (.v 6))),(.i .l (.call (.c (.fn 27 [] [])) [(.l 3),(.l 2)])),(.i .l (.ixa none (some (4,1)) (.v 4) (.l 6))),(.i .l (.call (.c (.fn 28 [] [])) [(.l 3),(.l 2)])),(.i .n (.store 1 (.l 1) (.l 2))),(.i .l (.ixa none (some (4,3)) (.v 5) (.l 7))),(.i .n (.store 3 (.l 0) (.l 1)))])]),(.ops [(.i .l (.mv (.v 6))),(.i .l (.bin (.int .i64) .add (.l 0) (.c (.int .i64 1)))),(.i (.v 6) (.mv (.l 0)))])]
def br:List RS:=[(.ops [(.i .l (.mv (.v 3))),(.i .l (.mv (.v 0))),(.i .l (.len false (some 56) (.l 0))),(.i (.v 14) (.bin (.int .i64) .lss (.l 2) (.l 0)))]),(.cond (.v 14) [] [(.exit 0)]),(.block 1 [(.ops [(.i (.v 4) (.alloc [.nils,.nils,.nils,.nils]))]),(.ops [(.i (.v 5) (.alloc [(.int .i64 0),(.int .i64 0),.nils,(.int .i64 0),(.int .i64 0),.nils,(.int .i64 0),(.int .i64 0),.nils,(.int .i64 0),(.int .i64 0),.nils]))]),(.ops [(.i (.v 6) (.mv (.c (.int .i64 0))))]),(.block 2 [(.loop dG)]),(.ops [(.i .l (.mv (.v 2))),(.i .l (.nilc (.l 0))),(.i .l (.fad 0 (.l 0))),(.i .l (.load false 1 (.l 0))),(.i .l (.nilc (.l 0))),(.i .l (.fad 0 (.l 0))),(.i .l (.load false 1 (.l 0))),(.i .l (.mv (.v 2))),(.i .l (.nilc (.l 0))),(.i .l (.fad 0 (.l 0))),(.i .l (.load false 1 (.l 0))),(.i .l (.nilc (.l 0))),(.i .l (.fad 1 (.l 0))),(.i .l (.load false 1 (.l 0))),(.i .l (.mv (.v 2))),(.i .l (.nilc (.l 0))),(.i .l (.fad 0 (.l 0))),(.i .l (.load false 1 (.l 0))),(.i .l (.nilc (.l 0))),(.i .l (.fad 1 (.l 0))),(.i .l (.load false 1 (.l 0))),(.i .l (.call (.c (.fn 30 [] [])) [(.l 14)])),(.ck [⟨none,false,1,(.l 12),(.l 11)⟩,⟨none,false,1,(.l 9),(.l 8)⟩,⟨none,false,1,(.l 5),(.l 4)⟩,⟨none,false,1,(.l 2),(.l 1)⟩]),(.i .l (.call (.c (.fn 25 [] [])) [(.l 8)])),(.ck [⟨none,false,1,(.l 6),(.l 5)⟩,⟨none,false,1,(.l 3),(.l 2)⟩]),(.i .l (.call (.c (.fn 31 [] [])) [(.l 2)])),(.i .l (.len false (some 98) (.l 0))),(.i (.v 7) (.mv (.l 3))),(.i (.v 8) (.mv (.l 2))),(.i (.v 9) (.mv (.l 0)))]),(.ops [(.i .l (.mv (.v 2))),(.i .l (.mv (.v 0))),(.i .l (.mv (.v 3))),(.i .l (.ixa (some 56) none (.l 1) (.l 0))),(.i .l (.load true 9 (.l 0))),(.i .l (.call (.c (.fn 23 [] [])) [(.l 4),(.l 0)])),(.i (.v 10) (.alloc [(.int .i64 0),(.int .i64 0),(.int .i64 0),(.int .i64 0),.nils])),(.i .n (.store 5 (.v 10) (.l 0)))]),(.ops [(.i .l (.fad 0 (.v 10))),(.i .l (.load false 1 (.l 0))),(.i .l (.bin (.int .i64) .eql (.l 0) (.c (.int .i64 0)))),(.i .l (.mv (.l 0))),(.g (.l 0) false .l (.mv (.v 0))),(.g (.l 1) false .l (.mv (.v 3))),(.g (.l 2) false .l (.ixa (some 56) none (.l 1) (.l 0))),(.g (.l 3) false .l (.fad 0 (.l 0))),(.g (.l 4) false .l (.load false 1 (.l 0))),(.g (.l 5) false .l (.bin (.int .i64) .eql (.l 0) (.c (.int .i64 4)))),(.g (.l 6) false .l (.mv (.l 0))),(.g (.l 0) true .l (.fad 1 (.v 10))),(.g (.l 1) true .l (.load false 1 (.l 0))),(.g (.l 2) true .l (.bin (.int .i64) .gtr (.l 0) (.c (.int .i64 0)))),(.g (.l 10) false .l (.pick (.l 3) (.l 0) (.c (.bool false)))),(.i (.v 16) (.pick (.l 11) (.c (.bool true)) (.l 0)))]),(.cond (.v 16) [(.exit 1)] []),(.ops [(.i (.v 11) (.mv (.c (.int .i64 0))))]),(.block 4 [(.loop dE)]),(.ops [(.i .l (.mv (.v 7))),(.i .l (.mv (.v 2))),(.i .l (.nilc (.l 0))),(.i .l (.fad 0 (.l 0))),(.i .l (.load false 1 (.l 0))),(.i .l (.nilc (.l 0))),(.i .l (.fad 0 (.l 0))),(.i .l (.load false 1 (.l 0))),(.i .l (.call (.c (.fn 30 [] [])) [(.l 0)])),(.i .l (.call (.c (.fn 32 [] [])) [(.l 8),(.l 0)])),(.i .l (.un .not (.l 0))),(.i .l (.mv (.l 0))),(.g (.l 0) false .l (.mv (.v 8))),(.g (.l 1) false .l (.mv (.v 2))),(.g (.l 2) false .l (.nilc (.l 0))),(.g (.l 3) false .l (.fad 0 (.l 0))),(.g (.l 4) false .l (.load false 1 (.l 0))),(.g (.l 5) false .l (.nilc (.l 0))),(.g (.l 6) false .l (.fad 1 (.l 0))),(.g (.l 7) false .l (.load false 1 (.l 0))),(.g (.l 8) false .l (.call (.c (.fn 25 [] [])) [(.l 0)])),(.g (.l 9) false .l (.call (.c (.fn 33 [] [])) [(.l 8),(.l 0)])),(.g (.l 10) false .l (.un .not (.l 0))),(.i .l (.pick (.l 11) (.c (.bool true)) (.l 0))),(.i .l (.mv (.l 0))),(.g (.l 0) false .l (.mv (.v 9))),(.g (.l 1) false .l (.mv (.v 2))),(.g (.l 2) false .l (.nilc (.l 0))),(.g (.l 3) false .l (.fad 0 (.l 0))),(.g (.l 4) false .l (.load false 1 (.l 0))),(.g (.l 5) false .l (.nilc (.l 0))),(.g (.l 6) false .l (.fad 1 (.l 0))),(.g (.l 7) false .l (.load false 1 (.l 0))),(.g (.l 8) false .l (.call (.c (.fn 31 [] [])) [(.l 0)])),(.g (.l 9) false .l (.len false (some 98) (.l 0))),(.g (.l 10) false .l (.bin (.int .i64) .neq (.l 9) (.l 0))),(.i .l (.pick (.l 11) (.c (.bool true)) (.l 0))),(.i .l (.mv (.l 0))),(.g (.l 0) false .l (.fad 2 (.v 10))),(.g (.l 1) false .l (.load true 3 (.l 0))),(.g (.l 2) false .l (.build [(.int .i64 0),(.int .i64 0),.nils] [(0,1),(1,1),(2,1)] [])),(.g (.l 3) false .l (.call (.c (.fn 19 [] [])) [(.l 1),(.l 0)])),(.g (.l 4) false .l (.un .not (.l 0))),(.i (.v 19) (.pick (.l 5) (.c (.bool true)) (.l 0)))]),(.cond (.v 19) [(.ops [(.i (.v 1) (.mv (.c (.bool false))))]),.ret] [])]),(.ops [(.i .l (.mv (.v 3))),(.i .l (.bin (.int .i64) .add (.l 0) (.c (.int .i64 1)))),(.i (.v 3) (.mv (.l 0)))])]
def gu:List RS:=[(.ops [(.i (.v 1) (.mv (.c (.bool false))))]),(.ops [(.i .l (.call (.c (.fn 20 [] [])) [])),(.i (.v 12) (.un .not (.l 0)))]),(.cond (.v 12) [(.ops [(.i (.v 1) (.mv (.c (.bool false))))]),.ret] []),(.ops [(.i .l (.mv (.v 0))),(.i (.v 13) (.call (.c (.fn 21 [] [])) [(.l 0),(.c (.int .i64 100))]))]),(.cond (.v 13) [(.ops [(.i (.v 1) (.mv (.c (.bool true))))]),.ret] []),(.ops [(.i .l (.call (.c (.fn 22 [] [])) [])),(.i (.v 2) (.mv (.l 0)))]),(.ops [(.i (.v 3) (.mv (.c (.int .i64 0))))]),(.block 0 [(.loop br)]),(.ops [(.i (.v 1) (.mv (.c (.bool true))))]),.ret]
theorem jZ:FnR Try.prog po 8 1 20 [0,2,3,4,5,6,7,8,9,10,11,12,14,16,21,25,84,86,106,150] gu [(.v 1)] true:=⟨_,_,Try.func8,rfl,rfl,by kernel_rfl,by kernel_rfl,by kernel_rfl,by kernel_rfl,by kernel_rfl⟩
def cJ (b bb:Nat) (hands:List (List VD)):Asn:=oF fun vs:List AV=>sM (vs.length=hands.length) (dB (ai b [.ptr bb 0 0::vs]) (aX (List.zipWith cr vs hands)))
section
variable {h h' h0:AH} {F J F0 J0:Nat→Prop} {L:List Asn} {hb bb:Nat} {hands:List (List VD)}
theorem ry (x:(cJ hb bb hands).A h F J):∃ vs,vs.length=hands.length∧St h F J h (ai hb [.ptr bb 0 0::vs]::List.zipWith cr vs hands):=by
 obtain⟨vs,hl,x⟩:=x
 exact⟨vs,hl,St.start x⟩
theorem Cq {vs:List AV} (hl:vs.length=hands.length) (s:St h0 F0 J0 h (ai hb [.ptr bb 0 0::vs]::List.zipWith cr vs hands)):Did h0 F0 J0 h (cJ hb bb hands):=Did.imp (fun _ _ _ x=>⟨vs,hl,x⟩) s
theorem Bm {vs:List AV} (hl:vs.length=hands.length) {p:Nat} (hp:p<hands.length):∃ v,vs[p]? =some v∧(List.zipWith cr vs hands)[p]? =some (cr v (hands.getD p [])):=by
 have hv:p<vs.length:=by omega
 refine⟨vs[p],List.getElem?_eq_getElem hv,?_⟩
 rw[List.getElem?_zipWith,List.getElem?_eq_getElem hv,List.getElem?_eq_getElem hp]
 simp[List.getD,hp]
theorem Is {vs:List AV} {p:Nat} {v:AV} {l:List VD}:(List.zipWith cr vs hands).set p (cr v l)=List.zipWith cr (vs.set p v) (hands.set p l):=by
 refine List.ext_getElem? fun j=> ?_
 by_cases e:p=j
 ·subst e
  rw[List.getElem?_zipWith,List.getElem?_set,List.getElem?_set,List.getElem?_set]
  simp only[if_true,List.length_zipWith]
  by_cases h1:p<vs.length
  ·by_cases h2:p<hands.length
   ·simp[h1,h2,show p<min vs.length hands.length by omega]
   ·simp[h1,h2,show ¬ p<min vs.length hands.length by omega]
  ·simp[h1,show ¬ p<min vs.length hands.length by omega]
 ·rw[List.getElem?_set_ne e,List.getElem?_zipWith,List.getElem?_zipWith,List.getElem?_set_ne e,List.getElem?_set_ne e]
structure xX (h:AH) (v:AV) (l:List VD):Prop where
 one:v.one=true
 cells:v.cells=[v]
 len:dR v=some l.length
 fits:∀ s,cN s (some tV) v=true
 ix:∀ (q:IntKind) (i:Nat) (y:VD),l[i]? =some y→∃ p r,bQ (some tV) none v (.int q (i:Int))=some p∧aD true 3 h p=some (.agg r)∧VaA y r
 sl:(l=[]∧v= .nils)∨∃ b rows,v= .msl b 0 l.length tV∧VaL l rows∧bH h tV v=some rows
theorem yV {v:AV} {l:List VD} (x:(cr v l).A h F J):xX h v l:=by
 obtain⟨a1,a2,a3,a4,a5⟩:=fQ x
 refine⟨a1,a2,a3,a4,a5,?_⟩
 obtain⟨rows,hl,x⟩:=x
 have hlen:=hl.len
 rcases x with⟨⟨rfl,rfl⟩,_⟩ | ⟨⟨b,es⟩,⟨rfl,h1,h2⟩,_,_,_,hc⟩
 ·exact .inl ⟨List.length_eq_zero_iff.1 (by simpa using hlen.symm),rfl⟩
 ·simp only at h1 h2 hc
  refine .inr ⟨b,rows,by rw[hlen],hl,?_⟩
  simp only[bH,if_true,hc,Option.bind_some,Nat.zero_add,h1,List.drop_zero]
  rw[←h2]
structure uF (h:AH) (hb bb:Nat) (hands:List (List VD)) (vs:List AV):Prop where
 c:h.cell hb=some [.ptr bb 0 0::vs]
 lt:hb<h.n
 len:vs.length=hands.length
 v:∀ p:Nat,p<hands.length→∃ v,vs[p]? =some v∧xX h v (hands.getD p [])
theorem dP (s:St h0 F0 J0 h L) (i:Nat) (hi:L[i]? =some (cJ hb bb hands)):∃ vs,uF h hb bb hands vs:=by
 obtain⟨F,J,x⟩:=s.get i hi
 obtain⟨vs,hl,s1⟩:=ry x
 have c:=s1.cell 0 rfl
 refine⟨vs,c.1,c.2,hl,fun p hp=> ?_⟩
 obtain⟨v,h1,h2⟩:=Bm hl hp
 obtain⟨F1,J1,x1⟩:=s1.get (p+1) h2
 exact⟨v,h1,yV x1⟩
theorem uF.push {vs:List AV} {es:List (List AV)} (v:uF h hb bb hands vs) (s:St h0 F0 J0 (h.push es) L) (i:Nat) (hi:L[i]? =some (cJ hb bb hands)):uF (h.push es) hb bb hands vs:=by
 obtain⟨vs',v'⟩:=dP s i hi
 have e:=v'.c
 rw[aR v.lt,v.c]at e
 obtain rfl:vs=vs':=by simpa using e
 exact v'
theorem uF.box {vs:List AV} (v:uF h hb bb hands vs) (n:Nat):aD false n h (.ptr hb 0 0)=some (.ptr bb 0 0):=by rw[bC,v.c];rfl
theorem uF.ld {vs:List AV} (v:uF h hb bb hands vs) {p:Nat} {w:AV} (hw:vs[p]? =some w) (n:Nat):aD false n h (.ptr hb 0 (1+p))=some w:=by
 rw[bC,v.c]
 show(AV.ptr bb 0 0::vs)[1+p]? =some w
 rw[Nat.add_comm,List.getElem?_cons_succ]
 exact hw
theorem ix4 {b p:Nat} (q:IntKind) (hp:p<4):bQ none (some (4,1)) (.ptr b 0 1) (.int q (p:Int))=some (.ptr b 0 (1+p)):=by simp[bQ,hp]
theorem C7 (s0:St h0 F0 J0 h L) (i:Nat) (hi:L[i]? =some (cJ hb bb hands)) {p:Nat} (hp:p<hands.length) {v:VD} {r:List AV} (hv:VaA v r) (hl:(hands.getD p []).length≤1000000) {bz:Nat} (hz:h.cell bz=some [zR3]) {vs:List AV} {w:AV} (hvs:uF h hb bb hands vs) (hw:vs[p]? =some w):
  ∃ q h1 h2 h3,aH true tV w (.msl bz 0 1 tV) h=some (.msl q 0 ((hands.getD p []).length+1) tV,h1)∧aI 3 h1 (.ptr q (hands.getD p []).length 0) (.agg r)=some h2∧aI 1 h2 (.ptr hb 0 (1+p)) (.msl q 0 ((hands.getD p []).length+1) tV)=some h3∧aD true 3 h3 (.ptr q (hands.getD p []).length 0)=some (.agg r)∧
    St h0 F0 J0 h3 (L.set i (cJ hb bb (hands.set p (hands.getD p []++[v])))):=by
 have zv:VaA ay zR3:=cQ
 obtain⟨h3,⟨q,h1,h2⟩,⟨e1,e2,e3,e4⟩,s'⟩:=s0.callE (R:=fun h3 (q:Nat×AH×AH)=>aH true tV w (.msl bz 0 1 tV) h=some (.msl q.1 0 ((hands.getD p []).length+1) tV,q.2.1)∧aI 3 q.2.1 (.ptr q.1 (hands.getD p []).length 0) (.agg r)=some q.2.2∧aI 1 q.2.2 (.ptr hb 0 (1+p)) (.msl q.1 0 ((hands.getD p []).length+1) tV)=some h3∧aD true 3 h3 (.ptr q.1 (hands.getD p []).length 0)=some (.agg r)) i hi (Y:=fun _=>cJ hb bb (hands.set p (hands.getD p []++[v]))) fun F J x=>by
  obtain⟨vs',hl',s⟩:=ry x
  have c0:=s.cell 0 rfl
  have ev:vs'=vs:=by
   have:=hvs.c
   rw[c0.1]at this
   simpa using this
  subst ev
  obtain⟨w',hw',hz'⟩:=Bm hl' hp
  rw[hw]at hw'
  injection hw' with hw'
  subst hw'
  have hi':(ai hb [.ptr bb 0 0::vs']::List.zipWith cr vs' hands)[p+1]? =some (cr w (hands.getD p [])):=hz'
  generalize hands.getD p []=l at*
  obtain⟨h1,e1,s1⟩:=s.app (p+1) hi' hz zv hl
  have hlt:p+1<(ai hb [.ptr bb 0 0::vs']::List.zipWith cr vs' hands).length:=(List.getElem?_eq_some_iff.1 hi').1
  obtain⟨h2,e2,s2⟩:=s1.call (R:=fun h2=>aI 3 h1 (.ptr h.n l.length 0) (.agg r)=some h2) (X:=cr (.msl h.n 0 (l.length+1) tV) (l++[ay])) (Y:=cr (.msl h.n 0 (l.length+1) tV) ((l++[ay]).set l.length v)) (p+1) (by rw[List.getElem?_set];simp only[if_true,hlt]) fun F J x=>wP x (i:=l.length) (by simp) hv
  rw[List.set_set,show(l++[ay]).set l.length v=l++[v] from uS l [] ay v rfl]at s2
  have s2:St h F J h2 (ai hb [.ptr bb 0 0::vs']::List.zipWith cr (vs'.set p (.msl h.n 0 (l.length+1) tV)) (hands.set p (l++[v]))):=by
   rw[←Is];exact s2
  have c2:=s2.cell 0 rfl
  have s3:=s2.set 0 rfl [.ptr bb 0 0::vs'.set p (.msl h.n 0 (l.length+1) tV)]
  have hpl:p<vs'.length:=by omega
  refine⟨_,(h.n,h1,h2),⟨e1,e2,bk c2.1 rfl rfl rfl (by simp;omega),?_⟩,?_⟩
  ·have hne:hb≠h.n:=by have:=c0.2;omega
   rw[bC,bc (Ne.symm hne),←bC (agg:=true) (n:=3)]
   exact pI e2
  ·refine Cq (vs:=vs'.set p (.msl h.n 0 (l.length+1) tV)) (by simp[hl']) ?_
   have e:stA (AV.ptr bb 0 0::vs') (1+p) (AV.msl h.n 0 (l.length+1) tV).cells= .ptr bb 0 0::vs'.set p (.msl h.n 0 (l.length+1) tV):=by
    rw[Nat.add_comm]
    unfold stA
    simp only[AV.cells,List.take_succ_cons,List.length_singleton,List.drop_succ_cons,List.cons_append]
    rw[List.set_eq_take_append_cons_drop,if_pos hpl]
    simp
   simp only[List.set_cons_zero]
   rw[e]
   exact s3
 exact⟨q,h1,h2,h3,e1,e2,e3,e4,s'⟩
end
structure HoC where
 (hb bb gb wb:Nat)
abbrev cb (c:HoC) (H:HoD):List Asn:=[cJ c.hb c.bb H.hands,dc c.bb c.gb c.wb H.ms H.S.kept,bo c.gb H.S.G,bd c.wb H.S.cells H.S.log]
structure OkH (H:HoD):Prop where
 good:H.Good
 log:H.S.log.length≤800000
 hands:∀ l∈H.hands,l.length≤90000
theorem OkH.len {H:HoD} (o:OkH H):H.ms.length=H.S.kept.length:=o.good.ms.trans o.good.st.kept.symm
section
variable {h h' h0:AH} {F J F0 J0:Nat→Prop} {L:List Asn} {hb bb:Nat} {hands:List (List VD)} {c:HoC} {H:HoD}
theorem bm (p:Int):aj Try.prog po 52 [.int .i64 p] h=some (.inl (.bool (inP p)),h):=by
 refine ah Aa rfl ?_;unfold qJ
 unfold inP
 cases h1:decide (0≤p)<;>simp only[sim,ag,Nat.reduceAdd,Nat.reduceSub,List.replicate,reduceCtorEq,Nat.reduceLeDiff,Nat.reduceLT,aa,h1]
abbrev evR (c f:Int) (r:List AV):List AV:= .int .i64 c:: .int .i64 f::r
theorem H9 (x:(cJ hb bb hands).A h F J) {k:Int} (hk:k≠0) (p n:Int):∃ h',aj Try.prog po 54 [.ptr hb 0 0,.int .i64 p,.int .i64 n,.int .i64 k] h=some (.inl (.agg (evR k 0 zR3)),h')∧Did h F J h' (cJ hb bb hands):=by
 have s0:St h F J h [cJ hb bb hands]:=St.start (aX.one x)
 have s1:=s0.push [evR k 0 zR3]
 have d1:decide (k=0)=false:=decide_eq_false hk
 refine⟨_,?_,Did.imp (fun _ _ _=>aX.one') s1.drop⟩
 refine ah wy rfl ?_;unfold pK
 simp only[sim,ag,Nat.reduceAdd,Nat.reduceSub,List.replicate,reduceCtorEq,Nat.reduceLeDiff,Nat.reduceLT,aa,d1,aE,bw]
theorem Et (x:(cJ hb bb hands).A h F J) (h4:hands.length=4) (hl:∀ l∈hands,l.length≤90000) {p:Int} (hp:0≤p∧p<4) (n:Int):∃ h',aj Try.prog po 54 [.ptr hb 0 0,.int .i64 p,.int .i64 n,.int .i64 0] h=some (.inl (.agg (evR 0 0 [.int .i64 4,.int .i64 n,.nils])),h')∧Did h F J h' (cJ hb bb (hands.set p.toNat (hands.getD p.toNat []++[fg n]))):=by
 obtain⟨j,rfl⟩:∃ j:Nat,p=(j:Int):=⟨p.toNat,by omega⟩
 have hj:j<4:=by omega
 have s0:St h F J h [cJ hb bb hands]:=St.start (aX.one x)
 have s1:=s0.push [evR 0 0 zR3]
 have s2:=s1.push [[.int .i64 4,.int .i64 n,.nils]]
 have s3:=s2.push [zR3]
 have c0:=(s3.cell 0 rfl).1
 have c1:=(s3.cell 1 rfl).1
 have c2:=(s3.cell 2 rfl).1
 obtain⟨vs,hv2⟩:=dP s2 2 rfl
 have hv:=hv2.push s3 3 rfl
 obtain⟨w,hw,hh⟩:=hv.v j (by omega)
 have ld:=hv.ld hw
 have ld2:=hv2.ld hw
 have b1:=(s2.cell 0 rfl).1
 have hlj:(hands.getD j []).length≤1000000:=by
  have:hands.getD j []∈hands:=by
   rw[List.getD,List.getElem?_eq_getElem (by omega),Option.getD_some]
   exact List.getElem_mem _
  have:=hl _ this
  omega
 obtain⟨q,h1,h2,h3,a1,a2,a3,a4,s4⟩:=C7 s3 3 rfl (p:=j) (by omega) (uP n) hlj c0 hv hw
 have s4:St h F J h3 [ai (h.n+1+1) [zR3],ai (h.n+1) [[.int .i64 4,.int .i64 n,.nils]],ai h.n [evR 0 0 zR3],cJ hb bb (hands.set j (hands.getD j []++[fg n]))]:=s4
 have a1:aH true tV w (.msl (h.n+1+1) 0 1 tV) _=_:=a1
 have e1:=(s4.cell 1 rfl).1
 have e2:=(s4.cell 2 rfl).1
 have s5:=s4.set 2 rfl [evR 0 0 [.int .i64 4,.int .i64 n,.nils]]
 have f1:aK 1 (.ptr hb 0 0)=some (.ptr hb 0 1):=rfl
 have ix:∀ q,bQ none (some (4,1)) (.ptr hb 0 1) (.int q (j:Int))=some (.ptr hb 0 (1+j)):=fun q=>ix4 q hj
 have iq:∀ k,bQ (some tV) none (.msl q 0 ((hands.getD j []).length+1) tV) (.int k ((hands.getD j []).length:Int))=some (.ptr q (hands.getD j []).length 0):=fun k=>by
  rw[qO rfl (Nat.lt_succ_self _),Nat.zero_add]
 obtain⟨l1,l2,l3,l4⟩:=hh.fits |> fun f=>And.intro hh.len (And.intro f (And.intro hh.one hh.cells))
 rw[Int.toNat_natCast]
 generalize hands.getD j []=l at*
 refine⟨_,?_,Did.imp (fun _ _ _=>aX.one') s5.drop.drop.drop⟩
 have p1:∀ x,(h.push [evR 0 0 zR3]).push x=(h.push [evR 0 0 zR3]).push x:=fun _=>rfl
 refine ah wy rfl ?_;unfold pK
 simp only[sim,ag,Nat.reduceAdd,Nat.reduceSub,List.replicate,reduceCtorEq,Nat.reduceLeDiff,Nat.reduceLT,aa,aE,bw,cI,jm,c0,c1,c2,f1,ix,iq,ld,ld2,b1,l1,l2,l3,l4,a1,a2,a3,a4,e1,e2]
theorem Ey {bb p:Nat} (q:IntKind) (hp:p<4):bQ none (some (4,5)) (.ptr bb 0 2) (.int q (p:Int))=some (.ptr bb 0 (2+p*5)):=by simp[bQ];omega
set_option maxHeartbeats 1000000 in
theorem DC (x:(aX (cb c H)).A h F J) (o:OkH H) (p:Int) {M:List XD} {v:AV} {es:List (List AV)} (q3:SlA tE v es) (q4:ExL M es) (hL:M.length≤100000) (hs:∀ x∈M,x.size≤100000):
  ∃ h',aj Try.prog po 51 [.ptr c.hb 0 0,.int .i64 p,.agg [v]] h=some (.inl (.int .i64 (H.load p M).2),h')∧Did h F J h' (aX (cb c (H.load p M).1)):=by
 have s0:St h F J h (cb c H):=St.start x
 have s1:=s0.push [[v]]
 have mm:∀ h,fI h v M:=fun h=>fI.of q3 q4
 have ov:=(mm h).one
 have c1:=(s1.cell 0 rfl).1
 unfold HoD.load
 cases hp:inP p with
 | false=>
   refine⟨_,?_,s1.drop⟩
   refine ah qi rfl ?_;unfold mh
   simp only[sim,ag,Nat.reduceAdd,Nat.reduceSub,List.replicate,reduceCtorEq,Nat.reduceLeDiff,Nat.reduceLT,aa,bm,hp,ov,if_true]
 | true=>
   obtain⟨p0,p1⟩:=iM.1 hp
   rw[if_neg (by decide)]
   have mk:=fun(h:AH)=>CY (h:=h) q3 q4 mm hL hs
   unfold qw at mk
   have s2:=s1.push [[.int .i64 (aZ M).1,.int .i64 (aZ M).2]]
   have c2:=(s2.cell 0 rfl).1
   by_cases hz:(aZ M).1=0
   ·have dz:decide ((aZ M).1=0)=true:=decide_eq_true hz
    rw[if_neg (fun h=>h hz)]
    obtain⟨j,rfl⟩:∃ j:Nat,p=(j:Int):=⟨p.toNat,by omega⟩
    obtain⟨f1,f2,f3⟩:=d7 M
    have f4:(dW M).cells=[dW M]:=by unfold dW;rfl
    have hj:j<4:=by omega
    obtain⟨vs,hv⟩:=dP s2 2 rfl
    have lb:=hv.box 1
    obtain⟨h3,e3,s3⟩:=G3 s2 3 rfl o.len (p:=j) (by rw[o.good.ms];exact hj) (M:=M) cQ
    have ix:∀ q,bQ none (some (4,5)) (.ptr c.bb 0 2) (.int q (j:Int))=some (.ptr c.bb 0 (2+j*5)):=fun q=>Ey q hj
    have g1:aK 2 (.ptr c.bb 0 0)=some (.ptr c.bb 0 2):=rfl
    have g0:aK 0 (.ptr c.hb 0 0)=some (.ptr c.hb 0 0):=rfl
    refine⟨h3,?_,s3.drop.drop⟩
    rw[if_pos hz]at mk
    rw[Int.toNat_natCast]
    generalize dW M=cv at*
    refine ah qi rfl ?_;unfold mh
    simp only[sim,ag,Nat.reduceAdd,Nat.reduceSub,List.replicate,reduceCtorEq,Nat.reduceLeDiff,Nat.reduceLT,aa,az,bm,hp,ov,c1,mk,aE,bw,cI,jm,c2,dz,lb,ix,g0,g1,f3,f4,e3]
   ·have dz:decide ((aZ M).1=0)=false:=decide_eq_false hz
    rw[if_pos hz]
    rw[if_neg hz]at mk
    refine⟨_,?_,s2.drop.drop⟩
    refine ah qi rfl ?_;unfold mh
    simp only[sim,ag,Nat.reduceAdd,Nat.reduceSub,List.replicate,reduceCtorEq,Nat.reduceLeDiff,Nat.reduceLT,aa,az,bm,hp,ov,c1,mk,aE,bw,cI,jm,c2,dz]
def aW (x:de) (m:AV):List AV:=[.int .i64 x.kind,.int .i64 x.p,.int .i64 x.q,.int .i64 x.k,.int .i64 x.h,.int .i64 x.r,.int .i64 x.g,.int .i64 x.n,m]
def EvR (e:EvD) (r:List AV):Prop:=∃ q,r=evR e.code e.fuel q∧VaA e.v q
theorem EvR.no {c:Int}:EvR (EvD.no c) (evR c 0 zR3):=⟨zR3,rfl,cQ⟩
theorem Lv {b:Nat} {p:Int} (q:IntKind) (h0:0≤p) (h1:p<4):bQ none (some (4,1)) (.ptr b 0 1) (.int q p)=some (.ptr b 0 (1+p.toNat)):=by
 obtain⟨j,rfl⟩:=Int.eq_ofNat_of_zero_le h0
 rw[Int.toNat_natCast]
 exact ix4 q (by omega)
abbrev B0 (n0:Nat) (y:de) (m:AV) (ra:List AV) (c:HoC) (H:HoD):List Asn:=[ai (n0+1+1) [ra],ai (n0+1) [evR 0 0 zR3],ai n0 [aW y m],cJ c.hb c.bb H.hands,dc c.bb c.gb c.wb H.ms H.S.kept,bo c.gb H.S.G,bd c.wb H.S.cells H.S.log]
structure LQ (h0:AH) (F0 J0:Nat→Prop) (n0:Nat) (hA:AH) (y:de) (m:AV) (ra:List AV) (c:HoC) (H:HoD) (S':StD) (v:VD) (n k:Int) (h5:AH) (r':List AV):Prop where
 e:aj Try.prog po eG (mS c.bb y.p y.k ra 2000) hA=some (.inl (.tup [.agg r',.int .i64 n,.int .i64 k]),h5)
 va:VaA v r'
 a0:hA.cell (n0+1+1)=some [ra]
 a2:hA.cell n0=some [aW y m]
 ab:aD false 1 hA (.ptr c.hb 0 0)=some (.ptr c.bb 0 0)
 b0:(h5.push [zR3]).cell (n0+1+1)=some [ra]
 b2:(h5.push [zR3]).cell n0=some [aW y m]
 bb:aD false 1 (h5.push [zR3]) (.ptr c.hb 0 0)=some (.ptr c.bb 0 0)
 d1:(h5.push [r']).cell (n0+1)=some [evR 0 0 zR3]
 s:St h0 F0 J0 ((h5.push [r']).set (n0+1) (some [evR k n r'])) (cb c {H with S:=S'})
theorem tC {n0:Nat} {hA:AH} {y:de} {m:AV} {ra:List AV} {arg:VD} (s:St h0 F0 J0 hA (B0 n0 y m ra c H)) (o:OkH H) (hv:VaA arg ra) (hsz:arg.size≤100000):
  ∃ h5 r',LQ h0 F0 J0 n0 hA y m ra c H (cX H.ms y.p y.k arg 2000 H.S).1 (cX H.ms y.p y.k arg 2000 H.S).2.1 (cX H.ms y.p y.k arg 2000 H.S).2.2.1 (cX H.ms y.p y.k arg 2000 H.S).2.2.2 h5 r':=by
 obtain⟨h5,⟨r',e5,v5⟩,s5⟩:=s.callL (A:=[ai (n0+1+1) [ra],ai (n0+1) [evR 0 0 zR3],ai n0 [aW y m],cJ c.hb c.bb H.hands]) (M:=[dc c.bb c.gb c.wb H.ms H.S.kept,bo c.gb H.S.G,bd c.wb H.S.cells H.S.log]) (B:=[])
  (M':=[dc c.bb c.gb c.wb H.ms (cX H.ms y.p y.k arg 2000 H.S).1.kept,bo c.gb (cX H.ms y.p y.k arg 2000 H.S).1.G,bd c.wb (cX H.ms y.p y.k arg 2000 H.S).1.cells (cX H.ms y.p y.k arg 2000 H.S).1.log])
  fun F J x=>HN (p:=y.p) (f:=y.k) (fuel:=2000) hv hsz x o.good.ms o.good.ok.good o.good.ok.sized o.good.st (by have:=o.log;omega)
 have s5:St h0 F0 J0 h5 (B0 n0 y m ra c {H with S:=(cX H.ms y.p y.k arg 2000 H.S).1}):=s5
 obtain⟨vs,hv1⟩:=dP s 3 rfl
 have s6:=s5.push [zR3]
 obtain⟨vs6,hv6⟩:=dP s6 4 rfl
 have s7:=s5.push [r']
 have s8:=s7.set 2 rfl [evR (cX H.ms y.p y.k arg 2000 H.S).2.2.2 (cX H.ms y.p y.k arg 2000 H.S).2.2.1 r']
 exact⟨h5,r',e5,v5,(s.cell 0 rfl).1,(s.cell 2 rfl).1,hv1.box 1,(s6.cell 1 rfl).1,(s6.cell 3 rfl).1,hv6.box 1,(s7.cell 2 rfl).1,s8.drop.drop.drop.drop⟩
set_option maxHeartbeats 1000000 in
theorem CM (x:(aX (cb c H)).A h F J) (o:OkH H) (y:de) {m:AV} (hm:m.one=true):
  ∃ h',(∃ r,aj Try.prog po 56 [.ptr c.hb 0 0,.agg (aW y m)] h=some (.inl (.agg r),h')∧EvR (H.call y).2 r)∧Did h F J h' (aX (cb c (H.call y).1)):=by
 have s0:St h F J h (cb c H):=St.start x
 have s1:=s0.push [aW y m]
 have s2:=s1.push [evR 0 0 zR3]
 have s3:St h F J _ (B0 h.n y m [.int .i64 1,.int .i64 y.n,.nils] c H):=s2.push [[.int .i64 1,.int .i64 y.n,.nils]]
 have c0:=(s3.cell 0 rfl).1
 have c1:=(s3.cell 1 rfl).1
 have c2:=(s3.cell 2 rfl).1
 have d2:=(s2.cell 1 rfl).1
 obtain⟨vs,hv⟩:=dP s3 3 rfl
 have mset:∀ x,(((h.push [aW y m]).push [evR 0 0 zR3]).push [zR3]).set (h.n+1+1) (some x)=((h.push [aW y m]).push [evR 0 0 zR3]).push x:=fun x=>bw
 have mget:(((h.push [aW y m]).push [evR 0 0 zR3]).push [zR3]).cell (h.n+1+1)=some [zR3]:=aE (h:=(h.push [aW y m]).push [evR 0 0 zR3])
 have f4:∀ b o k,aK o (.ptr b 0 k)=some (.ptr b 0 (k+o)):=fun _ _ _=>rfl
 simp only[aW]at c2 d2 mset mget
 unfold HoD.call
 by_cases hc:0≤y.h∧(inP y.p=false∨((H.hand y.p).length:Int)≤y.h)
 ·rw[if_pos hc]
  obtain⟨hc1,hc2⟩:=hc
  have dh:decide (0≤y.h)=true:=decide_eq_true hc1
  have s4:=s3.set 1 rfl [evR 8 0 zR3]
  refine⟨_,⟨_,?_,EvR.no⟩,s4.drop.drop.drop⟩
  cases hp:inP y.p with
  | false=>
    refine ah nz rfl ?_;unfold kj
    simp only[sim,ag,Nat.reduceAdd,Nat.reduceSub,List.replicate,reduceCtorEq,Nat.reduceLeDiff,Nat.reduceLT,aa,aW,bm,hp,hm,dh,c0,c1,c2,d2,mget,mset,aP]
  | true=>
    obtain⟨p0,p1⟩:=iM.1 hp
    have hl:((H.hand y.p).length:Int)≤y.h:=hc2.resolve_left (by simp[hp])
    have dl:decide (((H.hand y.p).length:Int)≤y.h)=true:=decide_eq_true hl
    obtain⟨w,hw,hh⟩:=hv.v y.p.toNat (by rw[o.good.hands];omega)
    have ld:=hv.ld hw
    simp only[aW]at ld
    have ix:=fun q=>Lv (b:=c.hb) q p0 p1
    have hh:xX _ w (H.hand y.p):=hh
    have l1:=hh.len
    have l2:=hh.fits
    refine ah nz rfl ?_;unfold kj
    simp only[sim,ag,Nat.reduceAdd,Nat.reduceSub,List.replicate,reduceCtorEq,Nat.reduceLeDiff,Nat.reduceLT,aa,aW,bm,hp,hm,dh,c0,c1,c2,d2,mget,mset,aP,ix,ld,l1,l2,dl]
 ·rw[if_neg hc]
  have oa:=o.good.arg y
  by_cases h1:0≤y.h
  ·have hp:inP y.p=true:=by
    cases hp:inP y.p with
    | true=>rfl
    | false=>exact absurd ⟨h1,.inl hp⟩ hc
   have hl:¬ ((H.hand y.p).length:Int)≤y.h:=fun h=>hc ⟨h1,.inr h⟩
   obtain⟨p0,p1⟩:=iM.1 hp
   have dl:decide (((H.hand y.p).length:Int)≤y.h)=false:=decide_eq_false hl
   have dh:decide (0≤y.h)=true:=decide_eq_true h1
   obtain⟨w,hw,hh⟩:=hv.v y.p.toNat (by rw[o.good.hands];omega)
   have ld:=hv.ld hw
   simp only[aW]at ld
   have ix:=fun q=>Lv (b:=c.hb) q p0 p1
   have hh:xX _ w (H.hand y.p):=hh
   have l1:=hh.len
   have l2:=hh.fits
   rw[if_pos h1]at oa ⊢
   have hi:y.h.toNat<(H.hand y.p).length:=by omega
   have eg:(H.hand y.p)[y.h.toNat]? =some ((H.hand y.p).getD y.h.toNat ay):=by simp[List.getD,hi]
   generalize (H.hand y.p).getD y.h.toNat ay=arg at*
   obtain⟨pr,ra,i1,i2,va⟩:=hh.ix .i64 _ _ eg
   rw[Int.toNat_of_nonneg h1]at i1
   have i2s:=i2
   simp only[aW]at i2s
   have s4:St h F J _ (B0 h.n y m ra c H):=s2.push [ra]
   obtain⟨r1,r2⟩:=va.len3
   have ms2:((((h.push [aW y m]).push [evR 0 0 zR3]).push [[.int .i64 1,.int .i64 y.n,.nils]]).set (h.n+1+1) (some [ra]))=((h.push [aW y m]).push [evR 0 0 zR3]).push [ra]:=bw
   simp only[aW]at ms2
   obtain⟨h5,r',e,v',a0,a2,ab,b0,b2,bb,d1,sF⟩:=tC s4 o va oa.2
   generalize cX H.ms y.p y.k arg 2000 H.S=q at*
   obtain⟨S',v,n,k⟩:=q
   simp only at e v' a0 a2 ab b0 b2 bb d1 sF ⊢
   obtain⟨z1,z2⟩:=v'.len3
   refine⟨_,⟨_,?_,⟨r',rfl,v'⟩⟩,sF⟩
   simp only[aW]at e a0 a2 ab b0 b2
   refine ah nz rfl ?_;unfold kj
   simp only[sim,ag,Nat.reduceAdd,Nat.reduceSub,List.replicate,reduceCtorEq,Nat.reduceLeDiff,Nat.reduceLT,aa,aW,bm,hp,hm,dh,c0,c1,c2,d2,mget,mset,aP,ix,ld,l1,l2,dl,ms2,i1,i2s,r1,r2,e,a0,a2,ab,b0,b2,bb,d1,z1,z2,aE,bw]
  ·rw[if_neg h1]at oa ⊢
   have dh:decide (0≤y.h)=false:=decide_eq_false h1
   obtain⟨h5,r',e,v',a0,a2,ab,b0,b2,bb,d1,sF⟩:=tC s3 o (pZ y.n) oa.2
   generalize cX H.ms y.p y.k (ju y.n) 2000 H.S=q at*
   obtain⟨S',v,n,k⟩:=q
   simp only at e v' a0 a2 ab b0 b2 bb d1 sF ⊢
   obtain⟨z1,z2⟩:=v'.len3
   refine⟨_,⟨_,?_,⟨r',rfl,v'⟩⟩,sF⟩
   simp only[aW]at e a0 a2 ab b0 b2
   refine ah nz rfl ?_;unfold kj
   simp only[sim,ag,Nat.reduceAdd,Nat.reduceSub,List.replicate,reduceCtorEq,Nat.reduceLeDiff,Nat.reduceLT,aa,aW,bm,hm,dh,c0,c1,c2,d2,mget,mset,aP,e,a0,a2,ab,b0,b2,bb,d1,z1,z2,aE,bw]
end
section
variable {h h' h0:AH} {F J F0 J0:Nat→Prop} {L:List Asn} {c:HoC} {H:HoD}
abbrev doL (n0:Nat) (y:de) (m:AV) (c:HoC) (H:HoD):List Asn:=[ai (n0+1) [evR 0 0 zR3],ai n0 [aW y m],cJ c.hb c.bb H.hands,dc c.bb c.gb c.wb H.ms H.S.kept,bo c.gb H.S.G,bd c.wb H.S.cells H.S.log]
theorem iw {n0:Nat} {hA:AH} {y:de} {m:AV} (s:St h0 F0 J0 hA (doL n0 y m c H)) (q:List AV):hA.cell (n0+1)=some [evR 0 0 zR3]∧hA.cell n0=some [aW y m]∧St h0 F0 J0 (hA.set (n0+1) (some [q])) (cb c H):=
 ⟨(s.cell 0 rfl).1,(s.cell 1 rfl).1,(s.set 0 rfl [q]).drop.drop⟩
theorem mD {n0:Nat} {hA:AH} {y:de} {m:AV} (s:St h0 F0 J0 hA (doL n0 y m c H)) (o:OkH H) {R:AH→Prop} {G':af} (cc:∀ F J,IsG hA F J c.gb H.S.G→∃ h',R h'∧cK hA F J c.gb h' G'):
  aD false 1 hA (.ptr c.hb 0 0)=some (.ptr c.bb 0 0)∧aD false 1 hA (.ptr c.bb 0 0)=some (.ptr c.gb 0 0)∧∃ h',R h'∧St h0 F0 J0 h' (doL n0 y m c (H.graph G')):=by
 obtain⟨vs,hv⟩:=dP s 2 rfl
 have l2:=(kX s (ib:=3) rfl o.len).1 1
 obtain⟨h',r,s'⟩:=s.call (R:=R) (Y:=bo c.gb G') 4 rfl cc
 exact⟨hv.box 1,l2,h',r,s'⟩
theorem BN {n0:Nat} {hA:AH} {y:de} {m:AV} (s:St h0 F0 J0 hA (doL n0 y m c H)) (o:OkH H) {p:Int} (hp:inP p=true) (n k:Int):
  ∃ h' r,aj Try.prog po 54 [.ptr c.hb 0 0,.int .i64 p,.int .i64 n,.int .i64 k] hA=some (.inl (.agg r),h')∧EvR (H.give p n k).2 r∧St h0 F0 J0 h' (doL n0 y m c (H.give p n k).1):=by
 unfold HoD.give
 by_cases hk:k≠0
 ·rw[if_pos hk]
  obtain⟨h',e,s'⟩:=s.call (R:=fun h'=>aj Try.prog po 54 [.ptr c.hb 0 0,.int .i64 p,.int .i64 n,.int .i64 k] hA=some (.inl (.agg (evR k 0 zR3)),h')) 2 rfl fun F J x=>H9 x hk p n
  exact⟨h',_,e,EvR.no,s'⟩
 ·rw[if_neg hk]
  have hk:=Classical.not_not.1 hk
  subst hk
  obtain⟨h',e,s'⟩:=s.call (R:=fun h'=>aj Try.prog po 54 [.ptr c.hb 0 0,.int .i64 p,.int .i64 n,.int .i64 0] hA=some (.inl (.agg (evR 0 0 [.int .i64 4,.int .i64 n,.nils])),h')) 2 rfl fun F J x=>Et x o.good.hands o.hands (iM.1 hp) n
  exact⟨h',_,e,⟨_,rfl,uP n⟩,s'⟩
theorem EvR.all {e:EvD} {r:List AV} (h:EvR e r):r.length=5∧r.all AV.one=true:=by
 obtain⟨q,rfl,hq⟩:=h
 obtain⟨q1,q2⟩:=hq.len3
 refine⟨by simp[q1],?_⟩
 simp only[List.all_cons,q2,Bool.and_true]
 rfl
set_option maxHeartbeats 2000000 in
theorem Hr (x:(aX (cb c H)).A h F J) (o:OkH H) (y:de) {m:AV} {es:List (List AV)} (q3:SlA tE m es) (q4:ExL y.m es) (hL:y.m.length≤100000) (hs:∀ x∈y.m,x.size≤100000):
  ∃ h',(∃ r,aj Try.prog po 23 [.ptr c.hb 0 0,.agg (aW y m)] h=some (.inl (.agg r),h')∧EvR (H.step y).2 r)∧Did h F J h' (aX (cb c (H.step y).1)):=by
 have s0:St h F J h (cb c H):=St.start x
 have s1:=s0.push [aW y m]
 have s2:St h F J _ (doL h.n y m c H):=s1.push [evR 0 0 zR3]
 have hm:m.one=true:=(fI.of (h:=h) q3 q4).one
 have c1:((h.push [aW y m]).push [evR 0 0 zR3]).cell h.n=some [aW y m]:=(s2.cell 1 rfl).1
 have mset:∀ x,((h.push [aW y m]).push [evR 0 0 zR3]).set (h.n+1) (some x)=(h.push [aW y m]).push x:=fun x=>bw
 have mget:∀ x,((h.push [aW y m]).push x).cell (h.n+1)=some x:=fun x=>aE (h:=h.push [aW y m])
 unfold HoD.step
 by_cases k1:y.kind=1
 ·have d1:decide (y.kind=1)=true:=decide_eq_true k1
  rw[if_pos k1]
  obtain⟨h5,e5,s5⟩:=s2.callL (A:=[ai (h.n+1) [evR 0 0 zR3],ai h.n [aW y m]]) (M:=cb c H) (B:=[]) (M':=cb c (H.load y.p y.m).1) (R:=fun h'=>aj Try.prog po 51 [.ptr c.hb 0 0,.int .i64 y.p,.agg [m]] _=some (.inl (.int .i64 (H.load y.p y.m).2),h')) fun F J x=>DC x o y.p q3 q4 hL hs
  have s5:St h F J h5 (doL h.n y m c (H.load y.p y.m).1):=s5
  obtain⟨b1,b2,s6⟩:=iw s5 (evR (H.load y.p y.m).2 0 zR3)
  refine⟨_,⟨_,?_,EvR.no⟩,s6⟩
  have lm:ldA true 1 (aW y m) 8=some (.agg [m]):=rfl
  simp only[aW]at c1 mset mget e5 lm
  refine ah iZ rfl ?_;unfold ik
  simp only[sim,ag,Nat.reduceAdd,Nat.reduceSub,List.replicate,reduceCtorEq,Nat.reduceLeDiff,Nat.reduceLT,aa,aW,hm,d1,c1,mget,mset,lm,e5,b1,aP]
 have d1:decide (y.kind=1)=false:=decide_eq_false k1
 rw[if_neg k1]
 by_cases k23:y.kind=2∨y.kind=3
 ·rw[if_pos k23]
  cases hp:inP y.p with
  | false=>
    have s6:=(iw s2 (evR 1 0 zR3)).2.2
    refine⟨_,⟨_,?_,EvR.no⟩,s6⟩
    simp only[aW]at c1 mset mget
    rcases k23 with k2 | k3
    ·have d2:decide (y.kind=2)=true:=decide_eq_true k2
     refine ah iZ rfl ?_;unfold ik
     simp only[sim,ag,Nat.reduceAdd,Nat.reduceSub,List.replicate,reduceCtorEq,Nat.reduceLeDiff,Nat.reduceLT,aa,aW,bm,hp,hm,d1,d2,c1,mget,mset,aP]
    ·have d2:decide (y.kind=2)=false:=decide_eq_false (by omega)
     have d3:decide (y.kind=3)=true:=decide_eq_true k3
     refine ah iZ rfl ?_;unfold ik
     simp only[sim,ag,Nat.reduceAdd,Nat.reduceSub,List.replicate,reduceCtorEq,Nat.reduceLeDiff,Nat.reduceLT,aa,aW,bm,hp,hm,d1,d2,d3,c1,mget,mset,aP]
  | true=>
    rw[if_neg (by decide)]
    by_cases k2:y.kind=2
    ·have d2:decide (y.kind=2)=true:=decide_eq_true k2
     rw[if_pos k2]
     obtain⟨l1,l2,h3,e3,s3⟩:=mD s2 o (fun F J g=>Ky g o.good.st.wf y.k y.r y.g)
     have o':OkH (H.graph (H.S.G.cellC y.k y.r y.g).1):=⟨o.good.graph (o.good.st.wf.cellC _ _ _),o.log,o.hands⟩
     obtain⟨h5,r5,e5,v5,s5⟩:=BN s3 o' hp (H.S.G.cellC y.k y.r y.g).2.1 (H.S.G.cellC y.k y.r y.g).2.2
     obtain⟨a1,a2,_⟩:=iw s3 r5
     obtain⟨b1,b2,s6⟩:=iw s5 r5
     obtain⟨z1,z2⟩:=v5.all
     refine⟨_,⟨_,?_,v5⟩,s6⟩
     simp only[aW]at c1 mset mget l1 l2 e3 a2
     refine ah iZ rfl ?_;unfold ik
     simp only[sim,ag,Nat.reduceAdd,Nat.reduceSub,List.replicate,reduceCtorEq,Nat.reduceLeDiff,Nat.reduceLT,aa,aW,bm,hp,hm,d1,d2,c1,mget,mset,l1,l2,e3,a2,e5,b1,z1,z2,aP]
    ·have d2:decide (y.kind=2)=false:=decide_eq_false k2
     have d3:decide (y.kind=3)=true:=decide_eq_true (k23.resolve_left k2)
     rw[if_neg k2]
     obtain⟨l1,l2,h3,e3,s3⟩:=mD s2 o (fun F J g=>Kl g o.good.st.wf y.q y.k y.r y.g)
     have o':OkH (H.graph (H.S.G.funcC y.q y.k y.r y.g).1):=⟨o.good.graph (o.good.st.wf.funcC _ _ _ _),o.log,o.hands⟩
     obtain⟨h5,r5,e5,v5,s5⟩:=BN s3 o' hp (H.S.G.funcC y.q y.k y.r y.g).2.1 (H.S.G.funcC y.q y.k y.r y.g).2.2
     obtain⟨a1,a2,_⟩:=iw s3 r5
     obtain⟨b1,b2,s6⟩:=iw s5 r5
     obtain⟨z1,z2⟩:=v5.all
     refine⟨_,⟨_,?_,v5⟩,s6⟩
     simp only[aW]at c1 mset mget l1 l2 e3 a2
     refine ah iZ rfl ?_;unfold ik
     simp only[sim,ag,Nat.reduceAdd,Nat.reduceSub,List.replicate,reduceCtorEq,Nat.reduceLeDiff,Nat.reduceLT,aa,aW,bm,hp,hm,d1,d2,d3,c1,mget,mset,l1,l2,e3,a2,e5,b1,z1,z2,aP]
 rw[if_neg k23]
 have d2:decide (y.kind=2)=false:=decide_eq_false fun h=>k23 (.inl h)
 have d3:decide (y.kind=3)=false:=decide_eq_false fun h=>k23 (.inr h)
 by_cases k4:y.kind=4
 ·have d4:decide (y.kind=4)=true:=decide_eq_true k4
  rw[if_pos k4]
  obtain⟨h5,⟨r5,e5,v5⟩,s5⟩:=s2.callL (A:=[ai (h.n+1) [evR 0 0 zR3],ai h.n [aW y m]]) (M:=cb c H) (B:=[]) (M':=cb c (H.call y).1) (R:=fun h'=>∃ r,aj Try.prog po 56 [.ptr c.hb 0 0,.agg (aW y m)] _=some (.inl (.agg r),h')∧EvR (H.call y).2 r) fun F J x=>CM x o y hm
  have s5:St h F J h5 (doL h.n y m c (H.call y).1):=s5
  obtain⟨b1,b2,s6⟩:=iw s5 r5
  obtain⟨z1,z2⟩:=v5.all
  refine⟨_,⟨_,?_,v5⟩,s6⟩
  simp only[aW]at c1 mset mget e5
  refine ah iZ rfl ?_;unfold ik
  simp only[sim,ag,Nat.reduceAdd,Nat.reduceSub,List.replicate,reduceCtorEq,Nat.reduceLeDiff,Nat.reduceLT,aa,aW,hm,d1,d2,d3,d4,c1,mget,mset,e5,b1,z1,z2,aP]
 have d4:decide (y.kind=4)=false:=decide_eq_false k4
 rw[if_neg k4]
 by_cases k5:y.kind=5
 ·have d5:decide (y.kind=5)=true:=decide_eq_true k5
  rw[if_pos k5]
  obtain⟨l1,l2,h3,e3,s3⟩:=mD s2 o (fun F J g=>Jx g y.g)
  obtain⟨b1,b2,s6⟩:=iw s3 (evR (H.S.G.cut y.g).2 0 zR3)
  refine⟨_,⟨_,?_,EvR.no⟩,s6⟩
  simp only[aW]at c1 mset mget l1 l2 e3
  refine ah iZ rfl ?_;unfold ik
  simp only[sim,ag,Nat.reduceAdd,Nat.reduceSub,List.replicate,reduceCtorEq,Nat.reduceLeDiff,Nat.reduceLT,aa,aW,hm,d1,d2,d3,d4,d5,c1,mget,mset,l1,l2,e3,b1,aP]
 have d5:decide (y.kind=5)=false:=decide_eq_false k5
 rw[if_neg k5]
 by_cases k6:y.kind=6
 ·have d6:decide (y.kind=6)=true:=decide_eq_true k6
  rw[if_pos k6]
  obtain⟨l1,l2,h3,e3,s3⟩:=mD s2 o (fun F J g=>GX g o.good.st.wf)
  by_cases hz:H.S.G.gate.2.2=0
  ·have dz:decide (H.S.G.gate.2.2=0)=true:=decide_eq_true hz
   obtain⟨b1,b2,s6⟩:=iw s3 (evR 0 0 [.int .i64 1,.int .i64 H.S.G.gate.2.1,.nils])
   refine⟨_,⟨evR 0 0 [.int .i64 1,.int .i64 H.S.G.gate.2.1,.nils],?_,?_⟩,s6⟩
   rotate_left
   ·simp only[if_neg (fun h:H.S.G.gate.2.2≠0=>h hz)]
    exact⟨_,rfl,pZ _⟩
   simp only[aW]at c1 mset mget l1 l2 e3
   refine ah iZ rfl ?_;unfold ik
   simp only[sim,ag,Nat.reduceAdd,Nat.reduceSub,List.replicate,reduceCtorEq,Nat.reduceLeDiff,Nat.reduceLT,aa,aW,hm,d1,d2,d3,d4,d5,d6,c1,mget,mset,l1,l2,e3,b1,dz,aP]
  ·have dz:decide (H.S.G.gate.2.2=0)=false:=decide_eq_false hz
   obtain⟨b1,b2,s6⟩:=iw s3 (evR H.S.G.gate.2.2 0 zR3)
   refine⟨_,⟨evR H.S.G.gate.2.2 0 zR3,?_,?_⟩,s6⟩
   rotate_left
   ·simp only[if_pos (show H.S.G.gate.2.2≠0 from hz)]
    exact EvR.no
   simp only[aW]at c1 mset mget l1 l2 e3
   refine ah iZ rfl ?_;unfold ik
   simp only[sim,ag,Nat.reduceAdd,Nat.reduceSub,List.replicate,reduceCtorEq,Nat.reduceLeDiff,Nat.reduceLT,aa,aW,hm,d1,d2,d3,d4,d5,d6,c1,mget,mset,l1,l2,e3,b1,dz,aP]
 have d6:decide (y.kind=6)=false:=decide_eq_false k6
 rw[if_neg k6]
 have s6:=(iw s2 (evR 2 0 zR3)).2.2
 refine⟨_,⟨_,?_,EvR.no⟩,s6⟩
 simp only[aW]at c1 mset mget
 refine ah iZ rfl ?_;unfold ik
 simp only[sim,ag,Nat.reduceAdd,Nat.reduceSub,List.replicate,reduceCtorEq,Nat.reduceLeDiff,Nat.reduceLT,aa,aW,hm,d1,d2,d3,d4,d5,d6,c1,mget,mset,aP]
end
abbrev tSt:TypeId:=56
section
variable {h h' h0:AH} {F J F0 J0:Nat→Prop} {L:List Asn} {c:HoC} {H:HoD} {hb bb:Nat} {hands:List (List VD)}
theorem GK:(cr .nils []).A h (fun _=>False) (fun _=>False):=⟨[],rfl,.inl ⟨⟨rfl,rfl⟩,fun _ h=>h,fun _ h=>h⟩⟩
theorem aX.vals_nils:∀ n:Nat,(aX (List.zipWith cr (List.replicate n .nils) (List.replicate n []))).A h (fun _=>False) (fun _=>False)
 | 0=>⟨trivial,fun _ h=>h,fun _ h=>h⟩
 | n+1=>⟨fun _=>False,fun _=>False,fun _=>False,fun _=>False,GK,aX.vals_nils n,fun k=>by simp,fun j=>by simp,fun _ h=>h.elim,fun _ h=>h.elim⟩
theorem Dn {b:Nat} (hb:b=h.n):(cJ b bb [[],[],[],[]]).A (h.push [[.ptr bb 0 0,.nils,.nils,.nils,.nils]]) (fun k=>k=b) (fun _=>False):=by
 subst hb
 exact⟨[.nils,.nils,.nils,.nils],rfl,fun k=>k=h.n,fun _=>False,fun _=>False,fun _=>False,⟨fun _=>Iff.rfl,fun _ h=>h,Nat.lt_succ_self _,aE⟩,aX.vals_nils 4,fun k=>by simp,fun j=>by simp,fun _ _ h=>h,fun _ h=>h.elim⟩
theorem u9 (s:St h0 F0 J0 h L):∃ h' c,aj Try.prog po 22 [] h=some (.inl (.ptr c.hb 0 0),h')∧St h0 F0 J0 h' (cb c ho0++L):=by
 obtain⟨h1,bb,gb,wb,e1,s1⟩:=Fj s
 have s2:=s1.add (X:=cJ h1.n bb [[],[],[],[]]) (h':=h1.push [[.ptr bb 0 0,.nils,.nils,.nils,.nils]]) (F1:=fun k=>k=h1.n) (J1:=fun _=>False) (ae.push _ _) (Dn rfl) (fun k hk=>Nat.le_of_eq hk.symm) (fun _ h=>h.elim)
 refine⟨_,⟨h1.n,bb,gb,wb⟩,?_,s2⟩
 refine ah Hf rfl ?_;unfold AY
 simp only[sim,ag,Nat.reduceAdd,Nat.reduceSub,List.replicate,reduceCtorEq,Nat.reduceLeDiff,Nat.reduceLT,aa,e1]
theorem yQ (b:Nat) (n:Nat) {l:List VD} {rows:List (List AV)} (hl:VaL l rows) (he:bH h tV (.msl b 0 n tV)=some rows) (hn:l.length≤1000000):∃ es,aj Try.prog po 61 [.msl b 0 n tV] h=some (.inl (.isl none tV es),h)∧VaL l es:=by
 have hlen:=hl.len
 have he0:∀ m,bH (h.fresh m) tV (.msl b 0 n tV)=some rows:=fun m=>he
 have ho:∀ r∈rows,r.all AV.one=true:=by
  intro r hr
  obtain⟨i,hi⟩:=List.mem_iff_getElem?.1 hr
  have h1:i<l.length:=by rw[←hlen];exact(List.getElem?_eq_some_iff.1 hi).1
  obtain⟨r',q1,q2⟩:=hl.get (List.getElem?_eq_getElem h1)
  rw[hi]at q1
  injection q1 with q1
  rw[q1]
  exact q2.len3.2
 have e1:aH false tV (.isl (some h.ids) tV []) (.msl b 0 n tV) (h.fresh 0)=some (.isl (some h.ids) tV rows,if rows.length=0 then h.fresh 0 else(h.fresh 0).grow h.ids rows.length):=by
  simp only[aH,he0,Option.bind_some]
  by_cases hz:rows.length=0
  ·simp[hz,j0,List.length_eq_zero_iff.1 hz]
  ·rw[if_neg hz,if_neg hz]
   unfold dX
   rw[if_pos ⟨by omega,by omega,by rw[List.all_eq_true];exact ho⟩]
   simp[kc]
 have hg:ae h (if rows.length=0 then h.fresh 0 else(h.fresh 0).grow h.ids rows.length):=by
  split
  ·exact ae.fresh h 0
  ·exact(ae.fresh h 0).grow (Nat.le_refl _)
 obtain⟨es,w1,w2⟩:=vb hl
 have hw:wkA (.isl (some h.ids) tV rows)=some (.isl none tV es):=by simp only[wkA,w1,Option.map_some]
 refine⟨es,?_,w2⟩
 refine ah tz rfl ?_;unfold nZ
 simp only[sim,ag,Nat.reduceAdd,Nat.reduceSub,List.replicate,reduceCtorEq,Nat.reduceLeDiff,Nat.reduceLT,aa,e1,aB hg hw]
theorem zu:aj Try.prog po 61 [.nils] h=some (.inl .nils,h):=by
 refine ah tz rfl ?_;unfold nZ
 simp only[sim,ag,Nat.reduceAdd,Nat.reduceSub,List.replicate,reduceCtorEq,Nat.reduceLeDiff,Nat.reduceLT,aa]
 exact aB (ae.refl h) rfl
def HoD.handO (H:HoD) (p:Int):List VD:=if inP p then H.hand p else[]
def HoD.keptO (H:HoD) (p:Int):VD:=if inP p then H.S.kept.getD p.toNat ay else ay
theorem mI (s:St h0 F0 J0 h L) (i:Nat) (hi:L[i]? =some (cJ hb bb H.hands)) (h4:H.hands.length=4) (hlen:∀ l∈H.hands,l.length≤90000) (p:Int):
  ∃ v es,aj Try.prog po 27 [.ptr hb 0 0,.int .i64 p] h=some (.inl v,h)∧SlA tV v es∧VaL (H.handO p) es:=by
 unfold HoD.handO
 cases hp:inP p with
 | false=>
   refine⟨.nils,[],?_,.inl ⟨rfl,rfl⟩,by simp[VaL]⟩
   refine ah qz rfl ?_;unfold mC
   simp only[sim,ag,Nat.reduceAdd,Nat.reduceSub,List.replicate,reduceCtorEq,Nat.reduceLeDiff,Nat.reduceLT,aa,bm,hp]
   exact aB (ae.refl h) rfl
 | true=>
   obtain⟨p0,p1⟩:=iM.1 hp
   obtain⟨vs,hv⟩:=dP s i hi
   obtain⟨w,hw,hh⟩:=hv.v p.toNat (by omega)
   have ld:=hv.ld hw
   have ix:=fun q=>Lv (b:=hb) q p0 p1
   have f1:aK 1 (.ptr hb 0 0)=some (.ptr hb 0 1):=rfl
   have hl:(H.hand p).length≤1000000:=by
    have:H.hand p∈H.hands:=by
     unfold HoD.hand
     rw[List.getD,List.getElem?_eq_getElem (by omega),Option.getD_some]
     exact List.getElem_mem _
    have:=hlen _ this
    omega
   have hh:xX h w (H.hand p):=hh
   rw[if_pos rfl]
   rcases hh.sl with⟨e1,rfl⟩ | ⟨b,rows,rfl,e2,e3⟩
   ·refine⟨.nils,[],?_,.inl ⟨rfl,rfl⟩,by rw[e1];simp[VaL]⟩
    refine ah qz rfl ?_;unfold mC
    simp only[sim,ag,Nat.reduceAdd,Nat.reduceSub,List.replicate,reduceCtorEq,Nat.reduceLeDiff,Nat.reduceLT,aa,bm,hp,f1,ix,ld,zu]
    exact aB (ae.refl h) rfl
   ·obtain⟨es,e4,e5⟩:=yQ b _ e2 e3 hl
    obtain⟨es',w1,w2⟩:=vb e5
    refine⟨.isl none tV es',es',?_,.inr ⟨_,rfl⟩,w2⟩
    have hwk:wkA (.isl none tV es)=some (.isl none tV es'):=by simp only[wkA,w1,Option.map_some]
    refine ah qz rfl ?_;unfold mC
    simp only[sim,ag,Nat.reduceAdd,Nat.reduceSub,List.replicate,reduceCtorEq,Nat.reduceLeDiff,Nat.reduceLT,aa,bm,hp,f1,ix,ld,e4]
    exact aB (ae.refl h) hwk
theorem qe (s:St h0 F0 J0 h L) (i j:Nat) (hi:L[i]? =some (cJ hb bb hands)) {gb wb:Nat} (hj:L[j]? =some (dc bb gb wb H.ms H.S.kept)) (g:H.Good) (p:Int):
  ∃ r,aj Try.prog po 28 [.ptr hb 0 0,.int .i64 p] h=some (.inl (.agg r),h)∧VaA (H.keptO p) r:=by
 unfold HoD.keptO
 have s1:=s.push [zR3]
 have p0:(h.push [zR3]).cell h.n=some [zR3]:=aE
 have p1:∀ x,(h.push [zR3]).set h.n (some x)=h.push x:=fun x=>bw
 have p2:∀ x,(h.push [x]).cell h.n=some [x]:=fun x=>aE
 cases hp:inP p with
 | false=>
   refine⟨zR3,?_,cQ⟩
   refine ah wA rfl ?_;unfold rp
   simp only[sim,ag,Nat.reduceAdd,Nat.reduceSub,List.replicate,reduceCtorEq,Nat.reduceLeDiff,Nat.reduceLT,aa,bm,hp,p0,p1,p2]
   exact aB (ae.push h _) rfl
 | true=>
   obtain⟨q0,q1⟩:=iM.1 hp
   obtain⟨vs,hv⟩:=dP s1 (i+1) hi
   have lb:=hv.box 1
   have hl:H.ms.length=H.S.kept.length:=g.ms.trans g.st.kept.symm
   obtain⟨F1,J1,x1⟩:=s1.get (j+1) hj
   obtain⟨row,b1,b2,b3,b4,b5,b6⟩:=pz x1 hl
   obtain⟨c1,c2,r,c3,c4,c5⟩:=b6 p.toNat (by rw[g.ms];omega)
   have lk:aD true 3 (h.push [zR3]) (.ptr bb 0 (2+p.toNat*5+2))=some (.agg r):=by
    rw[bC,b1]
    exact c3
   have ix:∀ q,bQ none (some (4,5)) (.ptr bb 0 2) (.int q p)=some (.ptr bb 0 (2+p.toNat*5)):=fun q=>by
    obtain⟨m,rfl⟩:=Int.eq_ofNat_of_zero_le q0
    rw[Int.toNat_natCast]
    exact Ey q (by omega)
   have f2:aK 2 (.ptr bb 0 0)=some (.ptr bb 0 2):=rfl
   have f2':∀ k,aK 2 (.ptr bb 0 k)=some (.ptr bb 0 (k+2)):=fun _=>rfl
   have hcode:(H.S.kept.getD p.toNat ay).code=0:=dp g.st.keptV _
   have hsz:(H.S.kept.getD p.toNat ay).size≤100000:=by have:=(db hcode).1;omega
   obtain⟨r',o1,o2⟩:=pF _ _ (Nat.le_refl _) hsz r (h.push [zR3]) c4
   obtain⟨r2,w1,w2⟩:=xy o2
   obtain⟨z1,z2⟩:=c4.len3
   obtain⟨z3,z4⟩:=o2.len3
   rw[if_pos rfl]
   refine⟨r2,?_,w2⟩
   have hwk:wkA (.agg r')=some (.agg r2):=by simp only[wkA,w1,Option.map_some]
   refine ah wA rfl ?_;unfold rp
   simp only[sim,ag,Nat.reduceAdd,Nat.reduceSub,List.replicate,reduceCtorEq,Nat.reduceLeDiff,Nat.reduceLT,aa,bm,hp,p0,p1,p2,lb,f2,f2',ix,lk,o1,z1,z2,z3,z4]
   exact aB (ae.push h _) hwk
def iJ:List de→List (List AV)→Prop
 | [],es=>es=[]
 | x::xs,es=>∃ m ms rs,es=aW x m::rs∧SlA tE m ms∧ExL x.m ms∧iJ xs rs
theorem iJ.len:∀ {xs:List de} {es:List (List AV)},iJ xs es→es.length=xs.length
 | [],es,h=>by simp only[iJ]at h;subst h;rfl
 | x::xs,es,h=>by
   obtain⟨m,ms,rs,rfl,_,_,h2⟩:=h
   simp[h2.len]
theorem iJ.get:∀ {xs:List de} {es:List (List AV)} {i:Nat} {x:de},iJ xs es→xs[i]? =some x→∃ m ms,es[i]? =some (aW x m)∧SlA tE m ms∧ExL x.m ms
 | [],es,i,x,h,hi=>by simp at hi
 | y::xs,es,i,x,h,hi=>by
   obtain⟨m,ms,rs,rfl,h1,h2,h3⟩:=h
   cases i with
   | zero=>obtain rfl:y=x:=by simpa using hi
           exact⟨m,ms,rfl,h1,h2⟩
   | succ i=>exact h3.get (by simpa using hi)
def nO (xs:List de) (most:Nat):Bool:=(xs.take most).any (fun x=>fe x.m) || decide (most<xs.length)
theorem uv {xs:List de} {most:Nat} (h:nO xs most=false):xs.length≤most∧∀ x∈xs,x.m.length≤100000∧∀ e∈x.m,e.size≤100000:=by
 unfold nO at h
 simp only[Bool.or_eq_false_iff,decide_eq_false_iff_not,Nat.not_lt]at h
 obtain⟨h1,h2⟩:=h
 rw[List.take_of_length_le h2]at h1
 refine⟨h2,fun x hx=> ?_⟩
 have hg:fe x.m=false:=by
  cases hg:fe x.m with
  | false=>rfl
  | true=>
    have:xs.any (fun x=>fe x.m)=true:=List.any_eq_true.2 ⟨x,hx,hg⟩
    rw[this]at h1;cases h1
 obtain⟨q1,q2⟩:=yj hg
 exact⟨by omega,fun e he=>by have:=q2 e he;omega⟩
theorem xN {lv:AV} {rows:List (List AV)} {xs:List de} (hs:SlA tSt lv rows) (hl:iJ xs rows) (hxl:xs.length≤9223372036854775807) {most:Nat} (hm:most≤1000) (K:List RK):∀ (d k:Nat) (h':AH) (v4 v5:AV),k+d=most→ae h h'→
  (((xs.take most).drop k).any (fun x=>fe x.m)=true→∃ V,aq (aj Try.prog po) 6 (.lp bv:: .ss []:: .blk 0::K) [lv,.int .i64 (most:Int),.bool false,.int .i64 (k:Int),v4,v5] [] h'=some (.ret,V,h')∧V.getD 2 .junk= .bool true)∧
  (((xs.take most).drop k).any (fun x=>fe x.m)=false→∃ w3 w4 w5,aq (aj Try.prog po) 6 (.lp bv:: .ss []:: .blk 0::K) [lv,.int .i64 (most:Int),.bool false,.int .i64 (k:Int),v4,v5] [] h'=aq (aj Try.prog po) 6 K [lv,.int .i64 (most:Int),.bool false,w3,w4,w5] [] h'):=by
 have hll:=hl.len
 have end_:∀ (k:Nat) (h':AH) (v4 v5:AV),(xs.length≤k∨most≤k)→∃ w3 w4 w5,aq (aj Try.prog po) 6 (.lp bv:: .ss []:: .blk 0::K) [lv,.int .i64 (most:Int),.bool false,.int .i64 (k:Int),v4,v5] [] h'=aq (aj Try.prog po) 6 K [lv,.int .i64 (most:Int),.bool false,w3,w4,w5] [] h':=by
  intro k h' v4 v5 hk
  by_cases h1:k<xs.length
  ·have d1:decide ((k:Int)<(xs.length:Int))=true:=decide_eq_true (by omega)
   have d2:decide ((k:Int)<(most:Int))=false:=decide_eq_false (by omega)
   refine⟨.int .i64 (k:Int),.bool false,v5,?_⟩
   rw[aG bv.eq_1]
   simp only[sim,ag,Nat.reduceAdd,Nat.reduceSub,List.replicate,reduceCtorEq,Nat.reduceLeDiff,Nat.reduceLT,aa,hs.isL.len,hs.isL.fits,hll,d1,d2]
  ·have d1:decide ((k:Int)<(xs.length:Int))=false:=decide_eq_false (by omega)
   refine⟨.int .i64 (k:Int),.bool false,v5,?_⟩
   rw[aG bv.eq_1]
   simp only[sim,ag,Nat.reduceAdd,Nat.reduceSub,List.replicate,reduceCtorEq,Nat.reduceLeDiff,Nat.reduceLT,aa,hs.isL.len,hs.isL.fits,hll,d1]
 intro d
 induction d with
 | zero=>
   intro k h' v4 v5 hk hg
   refine⟨fun h=> ?_,fun _=>end_ k h' v4 v5 (.inr (by omega))⟩
   rw[List.drop_eq_nil_of_le (by simp;omega)]at h
   cases h
 | succ d ih=>
   intro k h' v4 v5 hk hg
   by_cases h1:k<xs.length
   ·have d1:decide ((k:Int)<(xs.length:Int))=true:=decide_eq_true (by omega)
    have d2:decide ((k:Int)<(most:Int))=true:=decide_eq_true (by omega)
    have hx:xs[k]? =some xs[k]:=List.getElem?_eq_getElem h1
    have hk2:k<(xs.take most).length:=by simp;omega
    have ed:(xs.take most).drop k=xs[k]::(xs.take most).drop (k+1):=by
     rw[List.drop_eq_getElem_cons hk2]
     simp
    rw[ed,List.any_cons]
    generalize xs[k]=x at hx
    obtain⟨m,ms,q1,q3,q4⟩:=hl.get hx
    have ix:=hs.isL.ix .i64 k _ q1
    have mm:∀ h,fI h m x.m:=fun h=>fI.of q3 q4
    have gr:=sT (h:=h') m x.m (mm h')
    have om:=(mm h').one
    have f8:aK 8 (.ip (aW x m) 0)=some (.ip (aW x m) 8):=rfl
    have lm:ldA true 1 (aW x m) 8=some (.agg [m]):=rfl
    have w:=w64 (n:=(k:Int)+1) (by omega) (by omega)
    obtain⟨i1,i2⟩:=ih (k+1) h' (.bool true) (.bool (fe x.m)) (by omega) hg
    have ek:((k+1:Nat):Int)=(k:Int)+1:=by omega
    cases hgx:fe x.m with
    | true=>
      rw[hgx]at gr
      refine⟨fun _=>⟨[lv,.int .i64 (most:Int),.bool true,.int .i64 (k:Int),.bool true,.bool true],?_,rfl⟩,fun h=>by simp at h⟩
      rw[aG bv.eq_1]
      simp only[sim,ag,Nat.reduceAdd,Nat.reduceSub,List.replicate,reduceCtorEq,Nat.reduceLeDiff,Nat.reduceLT,aa,az,hs.isL.len,hs.isL.fits,hll,d1,d2,ix,f8,lm,gr]
    | false=>
      rw[hgx]at gr i1 i2
      rw[Bool.false_or]
      refine⟨fun h=> ?_,fun h=> ?_⟩
      ·obtain⟨V,r1,r2⟩:=i1 h
       refine⟨V,?_,r2⟩
       rw[←r1,ek]
       conv=>lhs;rw[aG bv.eq_1]
       simp only[sim,ag,Nat.reduceAdd,Nat.reduceSub,List.replicate,reduceCtorEq,Nat.reduceLeDiff,Nat.reduceLT,aa,az,hs.isL.len,hs.isL.fits,hll,d1,d2,ix,f8,lm,gr,w]
      ·obtain⟨w3,w4,w5,r1⟩:=i2 h
       refine⟨w3,w4,w5,?_⟩
       rw[←r1,ek]
       conv=>lhs;rw[aG bv.eq_1]
       simp only[sim,ag,Nat.reduceAdd,Nat.reduceSub,List.replicate,reduceCtorEq,Nat.reduceLeDiff,Nat.reduceLT,aa,az,hs.isL.len,hs.isL.fits,hll,d1,d2,ix,f8,lm,gr,w]
   ·refine⟨fun h=> ?_,fun _=>end_ k h' v4 v5 (.inl (by omega))⟩
    rw[List.drop_eq_nil_of_le (by simp;omega)]at h
    cases h
theorem kh {lv:AV} {rows:List (List AV)} {xs:List de} (hs:SlA tSt lv rows) (hl:iJ xs rows) (hxl:xs.length≤9223372036854775807) (most:Nat) (hm:most≤1000):aj Try.prog po 21 [lv,.int .i64 (most:Int)] h=some (.inl (.bool (nO xs most)),h):=by
 obtain⟨i1,i2⟩:=xN (h:=h) hs hl hxl hm [.ss [.ops [(.i .l (.mv (.v 0))),(.i .l (.len false (some 56) (.l 0))),(.i .l (.mv (.v 1))),(.i .l (.bin (.int .i64) .gtr (.l 1) (.l 0))),(.i (.v 2) (.mv (.l 0)))],.ret]] most 0 h .junk .junk (Nat.zero_add _) (ae.refl h)
 rw[List.drop_zero]at i1 i2
 simp only[Int.natCast_zero]at i1 i2
 have hll:=hl.len
 unfold nO
 cases hg:(xs.take most).any (fun x=>fe x.m)with
 | true=>
   obtain⟨V,r1,r2⟩:=i1 hg
   refine ah lE rfl ?_;unfold iT
   simp only[sim,ag,Nat.reduceAdd,Nat.reduceSub,List.replicate,reduceCtorEq,Nat.reduceLeDiff,Nat.reduceLT,aa]
   rw[r1]
   simp only[sim,ag,Nat.reduceAdd,Nat.reduceSub,List.replicate,reduceCtorEq,Nat.reduceLeDiff,Nat.reduceLT,aa,r2]
 | false=>
   obtain⟨w3,w4,w5,r1⟩:=i2 hg
   refine ah lE rfl ?_;unfold iT
   simp only[sim,ag,Nat.reduceAdd,Nat.reduceSub,List.replicate,reduceCtorEq,Nat.reduceLeDiff,Nat.reduceLT,aa]
   rw[r1]
   simp only[sim,ag,Nat.reduceAdd,Nat.reduceSub,List.replicate,reduceCtorEq,Nat.reduceLeDiff,Nat.reduceLT,aa,hs.isL.len,hs.isL.fits,hll]
   have e:decide ((most:Int)<(xs.length:Int))=decide (most<xs.length):=by rw[decide_eq_decide];omega
   simp only[e,Bool.false_or]
end
structure mo (n:Nat) (H:HoD):Prop where
 good:H.Good
 log:H.S.log.length≤2000*n
 hands:∀ l∈H.hands,l.length≤1000+n
theorem mo.ok {n:Nat} {H:HoD} (o:mo n H) (hn:n≤400):OkH H:=⟨o.good,by have:=o.log;omega,fun l hl=>by have:=o.hands l hl;omega⟩
theorem mo.step {n:Nat} {H:HoD} (o:mo n H) (x:de):mo (n+1) (H.step x).1:=by
 have s:=o.good.step x
 refine⟨s.good,by have:=s.log;have:=o.log;omega,fun l hl=> ?_⟩
 rcases s.hand l hl with h1 | ⟨l',h1,h2⟩
 ·omega
 ·have:=o.hands l' h1;omega
theorem rQ:mo 0 ho0:=⟨E6,by simp[ho0,Im],fun l hl=>by
 have:l=[]:=by simpa[ho0]using hl
 rw[this];simp⟩
theorem yr:∀ (l:List de) {n:Nat} {H:HoD},mo n H→mo (n+l.length) (H.steps l)
 | [],n,H,o=>o
 | x::l,n,H,o=>by
   have:=yr l (o.step x)
   rw[List.length_cons,show n+(l.length+1)=n+1+l.length by omega]
   exact this
def Bo:List XD:=[.mk 13 0 0 [.mk 3 0 0 []]]
def hb1:de:=⟨1,1,0,0,0,0,0,0,Bo⟩
def hb2:de:=⟨2,1,0,3,0,1, -1,0,[]⟩
def hb3:de:=⟨4,1,0,0,0,0,0,0,[]⟩
def HB1:HoD:=(ho0.step hb1).1
def HB2:HoD:=(HB1.step hb2).1
def HB3:HoD:=(HB2.step hb3).1
theorem MQ:HB3.handO 1=[fg 0]:=by rfl
section
variable {h h' h0:AH} {F J F0 J0:Nat→Prop} {L A B:List Asn} {c:HoC} {H:HoD}
theorem nU (s:St h0 F0 J0 h (A++cb c H++B)) (o:OkH H) (y:de) {m:AV} {es:List (List AV)} (q3:SlA tE m es) (q4:ExL y.m es) (hL:y.m.length≤100000) (hs:∀ x∈y.m,x.size≤100000):
  ∃ h' r,aj Try.prog po 23 [.ptr c.hb 0 0,.agg (aW y m)] h=some (.inl (.agg r),h')∧EvR (H.step y).2 r∧St h0 F0 J0 h' (A++cb c (H.step y).1++B):=by
 obtain⟨h',⟨r,e,v⟩,s'⟩:=s.callL (M':=cb c (H.step y).1) fun F J x=>Hr x o y q3 q4 hL hs
 exact⟨h',r,e,v,s'⟩
set_option maxHeartbeats 1000000 in
theorem d8:aj Try.prog po 20 [] h=some (.inl (.bool true),h):=by
 have s0:St h (fun _=>False) (fun _=>False) h []:=St.start (aX.nil _ _ _ (fun _ h=>h) (fun _ h=>h))
 obtain⟨h1,c,e1,s1⟩:=u9 s0
 have g2:ae h1 ((h1.fresh 1).fresh 1):=(ae.fresh h1 1).trans (ae.fresh _ 1)
 have s2:=s1.grew g2
 have x1:ExL Bo [[.int .i64 13,.int .i64 0,.int .i64 0,.isl (some h1.ids) tE [[.int .i64 3,.int .i64 0,.int .i64 0,.nils]]]]:=⟨_,_,rfl,⟨_,_,rfl,.inr ⟨_,rfl⟩,⟨_,[],rfl,⟨_,_,rfl,.inl ⟨rfl,rfl⟩,rfl⟩,rfl⟩⟩,rfl⟩
 have b1:∀ x∈Bo,x.size≤100000:=fun x hx=>by
  have:x= .mk 13 0 0 [.mk 3 0 0 []]:=by simpa[Bo]using hx
  rw[this];decide
 obtain⟨h3,r3,e3,v3,s3⟩:=nU (A:=[]) (B:=[]) (c:=c) s2 (rQ.ok (by decide)) hb1 (m:= .isl (some (h1.ids+1)) tE [[.int .i64 13,.int .i64 0,.int .i64 0,.isl (some h1.ids) tE [[.int .i64 3,.int .i64 0,.int .i64 0,.nils]]]]) (.inr ⟨_,rfl⟩) x1 (by decide) b1
 obtain⟨q3,rfl,w3⟩:=v3
 have s4:=s3.push [evR 0 0 q3]
 have o1:mo 1 HB1:=rQ.step hb1
 obtain⟨h5,r5,e5,v5,s5⟩:=nU (A:=[ai h3.n [evR 0 0 q3]]) (B:=[]) (c:=c) (H:=HB1) s4 (o1.ok (by decide)) hb2 (m:= .nils) (.inl ⟨rfl,rfl⟩) rfl (by decide) (fun x hx=>by cases hx)
 obtain⟨q5,rfl,w5⟩:=v5
 have s6:=s5.push [evR 0 0 q5]
 have o2:mo 2 HB2:=o1.step hb2
 obtain⟨h7,r7,e7,v7,s7⟩:=nU (A:=[ai h5.n [evR 0 0 q5],ai h3.n [evR 0 0 q3]]) (B:=[]) (c:=c) (H:=HB2) s6 (o2.ok (by decide)) hb3 (m:= .nils) (.inl ⟨rfl,rfl⟩) rfl (by decide) (fun x hx=>by cases hx)
 obtain⟨q7,rfl,w7⟩:=v7
 have s8:St h (fun _=>False) (fun _=>False) _ (ai h7.n [evR 0 2 q7]::ai h5.n [evR 0 0 q5]::ai h3.n [evR 0 0 q3]::cb c HB3):=s7.push [evR 0 2 q7]
 have o3:mo 3 HB3:=o2.step hb3
 have c0:=(s8.cell 0 rfl).1
 have c1:=(s8.cell 1 rfl).1
 have c2:=(s8.cell 2 rfl).1
 obtain⟨hv,hes,e9,sl,vl⟩:=mI s8 3 rfl o3.good.hands (fun l hl=>by have:=o3.hands l hl;omega) 1
 rw[MQ]at vl
 have hlen:hes.length=1:=vl.len
 have ll:=sl.isL.len
 have lf:=sl.isL.fits
 rw[hlen]at ll
 have w5':VaA (fg 0) q5:=w5
 have w7':VaA (ju 0) q7:=w7
 obtain⟨u3,rfl,u3o⟩:=w3.cells3
 obtain⟨u5,rfl,u5o⟩:=w5'.cells3
 obtain⟨u7,rfl,u7o⟩:=w7'.cells3
 have e3:aj Try.prog po 23 [.ptr c.hb 0 0,.agg [.int .i64 1,.int .i64 1,.int .i64 0,.int .i64 0,.int .i64 0,.int .i64 0,.int .i64 0,.int .i64 0,.isl (some (h1.ids+1)) tE [[.int .i64 13,.int .i64 0,.int .i64 0,.isl (some h1.ids) tE [[.int .i64 3,.int .i64 0,.int .i64 0,.nils]]]]]] ((h1.fresh 1).fresh 1)=some (.inl (.agg [.int .i64 0,.int .i64 0,.int .i64 0,.int .i64 0,u3]),h3):=e3
 have e5:aj Try.prog po 23 [.ptr c.hb 0 0,.agg [.int .i64 2,.int .i64 1,.int .i64 0,.int .i64 3,.int .i64 0,.int .i64 1,.int .i64 (-1),.int .i64 0,.nils]] (h3.push [[.int .i64 0,.int .i64 0,.int .i64 0,.int .i64 0,u3]])=some (.inl (.agg [.int .i64 0,.int .i64 0,.int .i64 4,.int .i64 0,u5]),h5):=e5
 have e7:aj Try.prog po 23 [.ptr c.hb 0 0,.agg [.int .i64 4,.int .i64 1,.int .i64 0,.int .i64 0,.int .i64 0,.int .i64 0,.int .i64 0,.int .i64 0,.nils]] (h5.push [[.int .i64 0,.int .i64 0,.int .i64 4,.int .i64 0,u5]])=some (.inl (.agg [.int .i64 0,.int .i64 2,.int .i64 1,.int .i64 0,u7]),h7):=e7
 have g8:=s8.grewA
 have c0:(h7.push [[.int .i64 0,.int .i64 2,.int .i64 1,.int .i64 0,u7]]).cell h7.n=some [[.int .i64 0,.int .i64 2,.int .i64 1,.int .i64 0,u7]]:=c0
 have c1:(h7.push [[.int .i64 0,.int .i64 2,.int .i64 1,.int .i64 0,u7]]).cell h5.n=some [[.int .i64 0,.int .i64 0,.int .i64 4,.int .i64 0,u5]]:=c1
 have c2:(h7.push [[.int .i64 0,.int .i64 2,.int .i64 1,.int .i64 0,u7]]).cell h3.n=some [[.int .i64 0,.int .i64 0,.int .i64 0,.int .i64 0,u3]]:=c2
 have e9:aj Try.prog po 27 [.ptr c.hb 0 0,.int .i64 1] (h7.push [[.int .i64 0,.int .i64 2,.int .i64 1,.int .i64 0,u7]])=_:=e9
 clear s1 s2 s3 s4 s5 s6 s7 s8
 refine ah sx rfl ?_;unfold lG
 simp only[sim,ag,Nat.reduceAdd,Nat.reduceSub,List.replicate,reduceCtorEq,Nat.reduceLeDiff,Nat.reduceLT,aa,e1,e3,aE,bw,u3o,u5o,u7o,e5,e7,c0,c1,c2,e9,ll,lf,eq_self,decide_true]
 exact aB g8 rfl
end
structure pa (H:HoD) (k:Nat) (hs ks:List AV):Prop where
 l1:hs.length=4
 l2:ks.length=12
 hd:∀ j:Nat,j<k→∃ v es,hs[j]? =some v∧SlA tV v es∧VaL (H.handO j) es
 kp:∀ j:Nat,j<k→∃ r,ldA true 3 ks (j*3)=some (.agg r)∧VaA (H.keptO j) r
abbrev lQ:List AV:=[.nils,.nils,.nils,.nils]
abbrev lU:List AV:=[.int .i64 0,.int .i64 0,.nils,.int .i64 0,.int .i64 0,.nils,.int .i64 0,.int .i64 0,.nils,.int .i64 0,.int .i64 0,.nils]
theorem uk (H:HoD):pa H 0 lQ lU:=⟨rfl,rfl,fun j hj=>absurd hj (Nat.not_lt_zero _),fun j hj=>absurd hj (Nat.not_lt_zero _)⟩
theorem Ie {l:List AV} {k:Nat} {v:AV} (hv:v.cells=[v]) (hk:k<l.length):stA l k v.cells=l.set k v:=by
 rw[hv]
 unfold stA
 rw[List.set_eq_take_append_cons_drop,if_pos hk]
 simp
theorem GJ {ks r:List AV} {k j:Nat} (hr:r.length=3) (hj:j*3+3≤k*3) (hk:k*3+3≤ks.length):ldA true 3 (stA ks (k*3) r) (j*3)=ldA true 3 ks (j*3):=by
 have hl:=gc ks r (k*3) (by omega)
 unfold ldA
 rw[if_pos rfl,if_pos rfl,if_pos (by omega),if_pos (by omega)]
 congr 2
 refine List.ext_getElem? fun q=> ?_
 rw[List.getElem?_take,List.getElem?_take]
 split
 ·rename_i hq
  rw[List.getElem?_drop,List.getElem?_drop]
  unfold stA
  rw[List.append_assoc,List.getElem?_append_left (by simp;omega),List.getElem?_take,if_pos (by omega)]
 ·rfl
theorem FE {ks r:List AV} {k:Nat} (hr:r.length=3) (hk:k*3+3≤ks.length):ldA true 3 (stA ks (k*3) r) (k*3)=some (.agg r):=by
 have hl:=gc ks r (k*3) (by omega)
 unfold ldA
 rw[if_pos rfl,if_pos (by omega)]
 have:((stA ks (k*3) r).drop (k*3)).take 3=r:=by
  unfold stA
  rw[List.append_assoc,List.drop_left' (by simp;omega),List.take_left' hr]
 rw[this]
theorem pa.next {H:HoD} {k:Nat} {hs ks:List AV} (s:pa H k hs ks) (hk:k<4) {v:AV} {es:List (List AV)} (h1:SlA tV v es) (h2:VaL (H.handO k) es) {r:List AV} (h3:VaA (H.keptO k) r):pa H (k+1) (hs.set k v) (stA ks (k*3) r):=by
 have hr:=h3.len3.1
 have l1:=s.l1
 have l2:=s.l2
 refine⟨by simp[s.l1],by rw[gc _ _ _ (by omega)];exact s.l2,fun j hj=> ?_,fun j hj=> ?_⟩
 ·by_cases e:j=k
  ·subst e
   exact⟨v,es,by rw[List.getElem?_set_self (by omega)],h1,h2⟩
  ·rw[List.getElem?_set_ne (Ne.symm e)]
   exact s.hd j (by omega)
 ·by_cases e:j=k
  ·subst e
   exact⟨r,FE hr (by omega),h3⟩
  ·rw[GJ hr (by omega) (by omega)]
   exact s.kp j (by omega)
section
variable {h h' h0:AH} {F J F0 J0:Nat→Prop} {L:List Asn} {c:HoC} {H:HoD}
theorem HQ {b k:Nat} (q:IntKind) (hk:k<4):bQ none (some (4,3)) (.ptr b 0 0) (.int q (k:Int))=some (.ptr b 0 (k*3)):=by simp[bQ,hk]
theorem Ig {b k:Nat} (q:IntKind) (hk:k<4):bQ none (some (4,1)) (.ptr b 0 0) (.int q (k:Int))=some (.ptr b 0 k):=by simp[bQ,hk]
theorem SlA.one1 {e:TypeId} {v:AV} {es:List (List AV)} (h:SlA e v es):v.one=true∧v.cells=[v]:=by
 rcases h with⟨_,rfl⟩ | ⟨id,rfl⟩<;>exact⟨rfl,rfl⟩
abbrev snL (b6 b7:Nat) (hs ks:List AV) (c:HoC) (H:HoD) (L:List Asn):List Asn:=ai b7 [ks]::ai b6 [hs]::(cb c H++L)
theorem uC {b6 b7:Nat} {hs ks:List AV} {k:Nat} (s:St h0 F0 J0 h (snL b6 b7 hs ks c H L)) (sn:pa H k hs ks) (hk:k<4) (o:OkH H):
  ∃ v r h1 h2 hs' ks',aj Try.prog po 27 [.ptr c.hb 0 0,.int .i64 (k:Int)] h=some (.inl v,h)∧aj Try.prog po 28 [.ptr c.hb 0 0,.int .i64 (k:Int)] h=some (.inl (.agg r),h)∧v.one=true∧v.cells=[v]∧r.length=3∧r.all AV.one=true∧
    aI 1 h (.ptr b6 0 k) v=some h1∧aI 3 h1 (.ptr b7 0 (k*3)) (.agg r)=some h2∧pa H (k+1) hs' ks'∧St h0 F0 J0 h2 (snL b6 b7 hs' ks' c H L):=by
 obtain⟨v,es,e1,a1,a2⟩:=mI s 2 rfl o.good.hands o.hands k
 obtain⟨r,e2,a3⟩:=qe s 2 3 rfl rfl o.good k
 obtain⟨z1,z2⟩:=a1.one1
 obtain⟨z3,z4⟩:=a3.len3
 have c6:=s.cell 1 rfl
 have s1:=s.set 1 rfl [hs.set k v]
 have c7:=s1.cell 0 rfl
 have s2:=s1.set 0 rfl [stA ks (k*3) r]
 have l1:=sn.l1
 have l2:=sn.l2
 refine⟨v,r,h.set b6 (some [hs.set k v]),_,hs.set k v,stA ks (k*3) r,e1,e2,z1,z2,z3,z4,?_,?_,sn.next hk a1 a2 a3,s2⟩
 ·rw[bk (es:=[hs]) (e:=hs) c6.1 rfl (by rw[z2];simp[z1]) (by rw[z2];rfl) (by omega)]
  rw[Ie z2 (by omega)]
  rfl
 ·exact bk (es:=[ks]) (e:=ks) c7.1 rfl z4 z3 (by omega)
theorem tP {l:List VD} (hl:∀ v∈l,∃ n:Int,v=fg n∧0≤n):∀ x∈l,∀ (y:VD) (q q':List AV) (h:AH),VaA x q→VaA y q'→aj Try.prog po 19 [.agg q,.agg q'] h=some (.inl (.bool (kA x y)),h):=by
 intro x hx y q q' h hq hq'
 obtain⟨n,rfl,_⟩:=hl x hx
 exact iN _ (fg n) (Nat.le_refl _) (oo n) y q q' h hq hq'
theorem rD (g:H.Good) (p:Int):∀ v∈H.handO p,∃ n:Int,v=fg n∧0≤n:=by
 unfold HoD.handO
 split
 ·exact g.hand
 ·intro v hv;cases hv
theorem tW (o:OkH H) (p:Int):(H.handO p).length≤90000:=by
 unfold HoD.handO
 split
 ·unfold HoD.hand
  by_cases hp:p.toNat<H.hands.length
  ·rw[List.getD,List.getElem?_eq_getElem hp]
   exact o.hands _ (List.getElem_mem hp)
  ·rw[List.getD,List.getElem?_eq_none (by omega)]
   simp
 ·simp
theorem pO (g:H.Good) (p:Int):(H.keptO p).code=0:=by
 unfold HoD.keptO
 split
 ·exact dp g.st.keptV _
 ·exact da
section
variable {lv xa:AV} {hx b6 b7 b9:Nat} {hs ks:List AV}
theorem Fh {rows:List (List AV)} {xs:List de} (hs:SlA tSt lv rows) (hl:iJ xs rows) (hxl:xs.length≤100) (hgr:∀ x∈xs,x.m.length≤100000∧∀ e∈x.m,e.size≤100000):∀ (l pre:List de) (h':AH) (H:HoD) (v6 v7 v8 v9 v10 v11 v12 v13 v14 v15 v16 v17 v18:AV),xs=pre++l→mo pre.length H→St h0 F0 J0 h' (cb c H++L)→
  ∃ h'' w5 w14,(∀ K,aq (aj Try.prog po) 19 (.lp ew:: .ss []:: .blk 0::K) [lv,xa,.ptr hx 0 0,.bool false,.ptr c.hb 0 0,.int .i64 (pre.length:Int),v6,v7,v8,v9,v10,v11,v12,v13,v14,v15,v16,v17,v18] [] h'=aq (aj Try.prog po) 19 K [lv,xa,.ptr hx 0 0,.bool false,.ptr c.hb 0 0,w5,v6,v7,v8,v9,v10,v11,v12,v13,w14,v15,v16,v17,v18] [] h'')∧
    St h0 F0 J0 h'' (cb c (H.steps l)++L):=by
 have hll:=hl.len
 intro l
 induction l with
 | nil=>
   intro pre h' H v6 v7 v8 v9 v10 v11 v12 v13 v14 v15 v16 v17 v18 e o s
   have d1:decide ((pre.length:Int)<(xs.length:Int))=false:=decide_eq_false (by rw[e];simp)
   refine⟨h',.int .i64 (pre.length:Int),.bool false,fun K=> ?_,s⟩
   rw[aG ew.eq_1]
   simp only[sim,ag,Nat.reduceAdd,Nat.reduceSub,List.replicate,reduceCtorEq,Nat.reduceLeDiff,Nat.reduceLT,aa,hs.isL.len,hs.isL.fits,hll,d1]
 | cons x l ih=>
   intro pre h' H v6 v7 v8 v9 v10 v11 v12 v13 v14 v15 v16 v17 v18 e o s
   have hpl:pre.length<xs.length:=by rw[e];simp
   have d1:decide ((pre.length:Int)<(xs.length:Int))=true:=decide_eq_true (by omega)
   have hi:xs[pre.length]? =some x:=by rw[e];simp
   obtain⟨m,ms,q1,q3,q4⟩:=hl.get hi
   have ix:=hs.isL.ix .i64 pre.length _ q1
   obtain⟨g1,g2⟩:=hgr x (List.mem_of_getElem? hi)
   obtain⟨h2,r2,e2,_,s2⟩:=nU (A:=[]) (B:=L) s (o.ok (by omega)) x q3 q4 g1 g2
   have w:=w64 (n:=(pre.length:Int)+1) (by omega) (by omega)
   have ek:((pre++[x]).length:Int)=(pre.length:Int)+1:=by simp
   obtain⟨h'',w5,w14,r1,s3⟩:=ih (pre++[x]) h2 (H.step x).1 v6 v7 v8 v9 v10 v11 v12 v13 (.bool true) v15 v16 v17 v18 (by simp[e]) (by rw[List.length_append];exact o.step x) s2
   refine⟨h'',w5,w14,fun K=> ?_,s3⟩
   rw[←r1 K,ek]
   have la:ldA true 9 (aW x m) 0=some (.agg (aW x m)):=bI rfl
   conv=>lhs;rw[aG ew.eq_1]
   simp only[sim,ag,Nat.reduceAdd,Nat.reduceSub,List.replicate,reduceCtorEq,Nat.reduceLeDiff,Nat.reduceLT,aa,hs.isL.len,hs.isL.fits,hll,d1,ix,la,e2,w]
theorem GM (o:OkH H):∀ (d k:Nat) (h':AH) (hs ks:List AV) (v9 v10 v11 v12 v13 v14 v15 v16 v17 v18 v5:AV),k+d=4→pa H k hs ks→St h0 F0 J0 h' (snL b6 b7 hs ks c H L)→
  ∃ h'' hs' ks' w8 w15,(∀ K,aq (aj Try.prog po) 19 (.lp ep:: .ss []:: .blk 2::K) [lv,xa,.ptr hx 0 0,.bool false,.ptr c.hb 0 0,v5,.ptr b6 0 0,.ptr b7 0 0,.int .i64 (k:Int),v9,v10,v11,v12,v13,v14,v15,v16,v17,v18] [] h'=aq (aj Try.prog po) 19 K [lv,xa,.ptr hx 0 0,.bool false,.ptr c.hb 0 0,v5,.ptr b6 0 0,.ptr b7 0 0,w8,v9,v10,v11,v12,v13,v14,w15,v16,v17,v18] [] h'')∧
    pa H 4 hs' ks'∧St h0 F0 J0 h'' (snL b6 b7 hs' ks' c H L):=by
 intro d
 induction d with
 | zero=>
   intro k h' hs ks v9 v10 v11 v12 v13 v14 v15 v16 v17 v18 v5 hk sn s
   obtain rfl:k=4:=by omega
   refine⟨h',hs,ks,.int .i64 4,.bool false,fun K=> ?_,sn,s⟩
   have h4:((4:Nat):Int)=4:=rfl
   rw[aG ep.eq_1]
   simp only[sim,ag,Nat.reduceAdd,Nat.reduceSub,List.replicate,reduceCtorEq,Nat.reduceLeDiff,Nat.reduceLT,aa,h4,Int.lt_irrefl,decide_false]
 | succ d ih=>
   intro k h' hs ks v9 v10 v11 v12 v13 v14 v15 v16 v17 v18 v5 hk sn s
   have d1:decide ((k:Int)<4)=true:=decide_eq_true (by omega)
   obtain⟨v,r,h1,h2,hs',ks',e1,e2,z1,z2,z3,z4,e3,e4,sn',s'⟩:=uC s sn (by omega) o
   have i1:=fun q=>Ig (b:=b6) (k:=k) q (by omega)
   have i3:=fun q=>HQ (b:=b7) (k:=k) q (by omega)
   have w:=w64 (n:=(k:Int)+1) (by omega) (by omega)
   have ek:((k+1:Nat):Int)=(k:Int)+1:=by omega
   obtain⟨h'',hs2,ks2,w8,w15,r1,sn2,s2⟩:=ih (k+1) h2 hs' ks' v9 v10 v11 v12 v13 v14 (.bool true) v16 v17 v18 v5 (by omega) sn' s'
   refine⟨h'',hs2,ks2,w8,w15,fun K=> ?_,sn2,s2⟩
   rw[←r1 K,ek]
   conv=>lhs;rw[aG ep.eq_1]
   simp only[sim,ag,Nat.reduceAdd,Nat.reduceSub,List.replicate,reduceCtorEq,Nat.reduceLeDiff,Nat.reduceLT,aa,d1,e1,e2,i1,i3,z1,z2,z3,z4,e3,e4,w]
abbrev frL (hx b6 b7 b9:Nat) (x:de) (m:AV) (hs ks ev:List AV) (c:HoC) (H:HoD) (L:List Asn):List Asn:=ai b9 [ev]::snL b6 b7 hs ks c H (ai hx [aW x m]::L)
theorem EP {x:de} {m:AV} {H':HoD} {code fuel:Int} {q:List AV} (o:OkH H) (o':OkH H') (hh:H'.hands=H.hands) (hk:∀ j:Nat,j<4→H'.keptO j=if(j:Int)=x.p∧code=0 then ay else H.keptO j) (sn:pa H 4 hs ks):∀ (d k:Nat) (h':AH) (v5 v8 v11 v12 v13 v14 v15 v16 v17 v18:AV),k+d=4→St h0 F0 J0 h' (frL hx b6 b7 b9 x m hs ks (evR code fuel q) c H' L)→
  ∃ h'' w10 w11 w16 w17 w18,(∀ K,aq (aj Try.prog po) 19 (.lp bZ:: .ss []:: .blk 4::K) [lv,xa,.ptr hx 0 0,.bool false,.ptr c.hb 0 0,v5,.ptr b6 0 0,.ptr b7 0 0,v8,.ptr b9 0 0,.int .i64 (k:Int),v11,v12,v13,v14,v15,v16,v17,v18] [] h'=aq (aj Try.prog po) 19 K [lv,xa,.ptr hx 0 0,.bool false,.ptr c.hb 0 0,v5,.ptr b6 0 0,.ptr b7 0 0,v8,.ptr b9 0 0,w10,w11,v12,v13,v14,v15,w16,w17,w18] [] h'')∧
    St h0 F0 J0 h'' (frL hx b6 b7 b9 x m hs ks (evR code fuel q) c H' L):=by
 intro d
 induction d with
 | zero=>
   intro k h' v5 v8 v11 v12 v13 v14 v15 v16 v17 v18 hk s
   obtain rfl:k=4:=by omega
   refine⟨h',.int .i64 4,v11,.bool false,v17,v18,fun K=> ?_,s⟩
   have h4:((4:Nat):Int)=4:=rfl
   rw[aG bZ.eq_1]
   simp only[sim,ag,Nat.reduceAdd,Nat.reduceSub,List.replicate,reduceCtorEq,Nat.reduceLeDiff,Nat.reduceLT,aa,h4,Int.lt_irrefl,decide_false]
 | succ d ih=>
   intro k h' v5 v8 v11 v12 v13 v14 v15 v16 v17 v18 hkd s
   have d1:decide ((k:Int)<4)=true:=decide_eq_true (by omega)
   have i1:=fun q=>Ig (b:=b6) (k:=k) q (by omega)
   have i3:=fun q=>HQ (b:=b7) (k:=k) q (by omega)
   have w:=w64 (n:=(k:Int)+1) (by omega) (by omega)
   have ek:((k+1:Nat):Int)=(k:Int)+1:=by omega
   obtain⟨hv,hes,a1,a2,a3⟩:=sn.hd k (by omega)
   obtain⟨kr,a4,a5⟩:=sn.kp k (by omega)
   obtain⟨z3,z4⟩:=a5.len3
   have c9:=(s.cell 0 rfl).1
   have c7:=(s.cell 1 rfl).1
   have c6:=(s.cell 2 rfl).1
   have cx:=(s.cell 7 rfl).1
   have lk:aD true 3 h' (.ptr b7 0 (k*3))=some (.agg kr):=by rw[bC,c7];exact a4
   have go:∀ kr2:List AV,VaA (H'.keptO k) kr2→(decide ((k:Int)=x.p) && decide (code=0))=true∧kr2=zR3∨(decide ((k:Int)=x.p) && decide (code=0))=false∧kr2=kr→
     ∃ h'' w10 w11 w16 w17 w18,(∀ K,aq (aj Try.prog po) 19 (.lp bZ:: .ss []:: .blk 4::K) [lv,xa,.ptr hx 0 0,.bool false,.ptr c.hb 0 0,v5,.ptr b6 0 0,.ptr b7 0 0,v8,.ptr b9 0 0,.int .i64 (k:Int),v11,v12,v13,v14,v15,v16,v17,v18] [] h'=aq (aj Try.prog po) 19 K [lv,xa,.ptr hx 0 0,.bool false,.ptr c.hb 0 0,v5,.ptr b6 0 0,.ptr b7 0 0,v8,.ptr b9 0 0,w10,w11,v12,v13,v14,v15,w16,w17,w18] [] h'')∧
       St h0 F0 J0 h'' (frL hx b6 b7 b9 x m hs ks (evR code fuel q) c H' L):=by
    intro kr2 hv2 hc
    have s2:=s.push [kr2]
    have p0:=(s2.cell 0 rfl).1
    have pc9:∀ y:List AV,(h'.push [y]).cell b9=some [evR code fuel q]:=fun y=>by rw[aR (s.cell 0 rfl).2];exact c9
    have pcx:∀ y:List AV,(h'.push [y]).cell hx=some [aW x m]:=fun y=>by rw[aR (s.cell 7 rfl).2];exact cx
    have pc6:∀ y:List AV,aD false 1 (h'.push [y]) (.ptr b6 0 k)=some hv:=fun y=>by rw[bC,aR (s.cell 2 rfl).2,c6];exact a1
    obtain⟨v2,es2,e1,b2,b3⟩:=mI s2 4 rfl o'.good.hands o'.hands k
    obtain⟨r2,e2,b5⟩:=qe s2 4 5 rfl rfl o'.good k
    have hO:H'.handO k=H.handO k:=by unfold HoD.handO HoD.hand;rw[hh]
    rw[hO]at b3
    have sv:=fun h=>jB (h:=h) (H.handO k) (H.handO k) v2 hv (fun _=>l6.of b2 b3) (fun _=>l6.of a2 a3) (by have:=tW o (k:Int);omega) (tP (rD o.good k))
    rw[iO]at sv
    have hcode:=pO o'.good (k:Int)
    have sk:=fun h=>iN _ (H'.keptO k) (Nat.le_refl _) (by have:=(db hcode).1;omega) (H'.keptO k) r2 kr2 h b5 hv2
    rw[jX]at sk
    obtain⟨y3,y4⟩:=hv2.len3
    have pset:∀ y z:List AV,(h'.push [y]).set h'.n (some [z])=h'.push [z]:=fun y z=>bw
    have pget:∀ y:List AV,(h'.push [y]).cell h'.n=some [y]:=fun y=>aE
    obtain⟨h'',w10,w11,w16,w17,w18,r1,s3⟩:=ih (k+1) (h'.push [kr2]) v5 v8 (.ptr h'.n 0 0) v12 v13 v14 v15 (.bool true) (.bool (decide ((k:Int)=x.p) && decide (code=0))) (.bool false) (by omega) s2.drop
    refine⟨h'',w10,w11,w16,w17,w18,fun K=> ?_,s3⟩
    rw[←r1 K,ek]
    simp only[aW]at pcx
    rcases hc with⟨hc,rfl⟩ | ⟨hc,rfl⟩
    ·have hc0:=hc
     rw[Bool.and_eq_true]at hc
     obtain⟨u1,u2⟩:=hc
     conv=>lhs;rw[aG bZ.eq_1]
     simp only[sim,ag,Nat.reduceAdd,Nat.reduceSub,List.replicate,reduceCtorEq,Nat.reduceLeDiff,Nat.reduceLT,aa,d1,i1,i3,lk,z3,z4,pcx,pc9,pc6,u1,u2,pset,pget,e1,e2,sv,sk,w]
    ·cases u1:decide ((k:Int)=x.p)with
     | false=>
       conv=>lhs;rw[aG bZ.eq_1]
       simp only[sim,ag,Nat.reduceAdd,Nat.reduceSub,List.replicate,reduceCtorEq,Nat.reduceLeDiff,Nat.reduceLT,aa,d1,i1,i3,lk,z3,z4,pcx,pc9,pc6,u1,pset,pget,e1,e2,sv,sk,w]
     | true=>
       rw[u1,Bool.true_and]at hc
       conv=>lhs;rw[aG bZ.eq_1]
       simp only[sim,ag,Nat.reduceAdd,Nat.reduceSub,List.replicate,reduceCtorEq,Nat.reduceLeDiff,Nat.reduceLT,aa,d1,i1,i3,lk,z3,z4,pcx,pc9,pc6,u1,hc,pset,pget,e1,e2,sv,sk,w]
   have hkk:=hk k (by omega)
   by_cases hc:(k:Int)=x.p∧code=0
   ·rw[if_pos hc]at hkk
    exact go zR3 (by rw[hkk];exact cQ) (.inl ⟨by simp[hc.1,hc.2],rfl⟩)
   ·rw[if_neg hc]at hkk
    refine go kr (by rw[hkk];exact a5) (.inr ⟨?_,rfl⟩)
    rw[Bool.and_eq_false_iff]
    by_cases h1:(k:Int)=x.p
    ·exact .inr (decide_eq_false fun h2=>hc ⟨h1,h2⟩)
    ·exact .inl (decide_eq_false h1)
end
end
end Go.Proofs.Ytkdbjfncchmmpaa
