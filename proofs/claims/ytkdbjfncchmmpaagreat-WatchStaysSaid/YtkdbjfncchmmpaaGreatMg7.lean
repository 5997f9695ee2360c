/- One step of the machine. -/
import Derived.Test.YtkdbjfncchmmpaaGreatMg6
namespace Go.Proofs.YtkdbjfncchmmpaaGreat
open Nat (reduceAdd reduceSub reduceLeDiff reduceLT)
open List (replicate)
set_option linter.unusedSimpArgs false
set_option linter.unusedVariables false
open Go
abbrev tFs:TypeId:=174
abbrev Kb:TypeId:=184
abbrev zo:FuncId:=50
abbrev zI3:List AV:=[.int .i64 0,.int .i64 0,.int .i64 0]
theorem GN {ms:aM} {p f:Int} {L:List XD} {F:Nat} (hL:ms.getD p.toNat none=some L) (hf:f=(F:Int)):dU ms p f=az (L.getD F cz) 0++[⟨105,0,0⟩]:=by
 unfold dU cS cH
 rw[hL,hf]
 rfl
theorem Hy {L:List XD} {F pc:Nat} {x:aR} (hf:F<L.length) (hx:(az (L.getD F cz) 0++[(⟨105,0,0⟩:aR)])[pc]? =some x):
  ∃ row lv,(∀ q,bX (some tFs) none (ei L) (.int q (F:Int))=some (.ip row 0))∧(∀ k,ldA false k row 0=some lv)∧(∀ q,bX (some Kb) none lv (.int q (pc:Int))=some (.ip (cb x) 0))∧ldA true 3 (cb x) 0=some (.agg (cb x)):=by
 have e1:L[F]? =some L[F]:=List.getElem?_eq_getElem hf
 have e2:L.getD F cz=L[F]:=by simp[List.getD,hf]
 rw[e2]at hx
 refine⟨[.isl none Kb ((az L[F] 0++[(⟨105,0,0⟩:aR)]).map cb)],.isl none Kb ((az L[F] 0++[(⟨105,0,0⟩:aR)]).map cb),fun q=> ?_,fun k=> ?_,fun q=> ?_,bq rfl⟩
 ·exact xn (q:=q) rfl (by rw[List.getElem?_map,e1];rfl)
 ·rw[fD];rfl
 ·exact xn (q:=q) rfl (by rw[List.getElem?_map,hx];rfl)
structure MO (hh:AH) (c:Cfg) (n:Now) (P F:Nat) (L:List XD):Prop where
 m:∀ k:Nat,aD false k hh (.ptr c.mb 0 0)=some (.ptr c.bb 0 0)
 p:∀ k:Nat,aD false k hh (.ptr n.fb n.below.length 0)=some (.int .i64 (P:Int))
 cd:∀ k:Nat,aD false k hh (.ptr c.bb 0 (2+P*5+1))=some (ei L)
 f:∀ k:Nat,aD false k hh (.ptr n.fb n.below.length 1)=some (.int .i64 (F:Int))
 pc:∀ k:Nat,aD false k hh (.ptr n.fb n.below.length 2)=some (.int .i64 (n.top.pc:Int))
 ix:∀ q:IntKind,bX none (some (4,5)) (.ptr c.bb 0 2) (.int q (P:Int))=some (.ptr c.bb 0 (2+P*5))
section
variable {h h' h0:AH} {F J F0 J0:Nat→Prop} {L:List Asn} {c:Cfg} {i:Nat} {n:Now}
theorem wO (s:St h0 F0 J0 h L) (a:At c L i n) (o:OkR c n) {P K:Nat} {Ls:List XD} (hP:n.top.plugin=(P:Int)) (hF:n.top.f=(K:Int)) (hP4:P<4) (hL:c.ms.getD P none=some Ls):MO h c n P K Ls:=by
 obtain⟨l0,_,_⟩:=cX s a o.len
 obtain⟨ar,sv,nv,g,mv⟩:=dv s i a.m
 have g6:=ca n.top ar sv nv g mv.ha.len3.1
 obtain⟨ix,cd,_⟩:=nQ s a o hP4
 rw[hL]at cd
 exact⟨l0,fun k=>by rw[←hP];exact mv.rd k 0 _ g6.2.2.2.2.2.1,cd,fun k=>by rw[←hF];exact mv.rd k 1 _ g6.2.2.2.2.2.2.1,fun k=>mv.rd k 2 _ g6.2.2.2.2.2.2.2,ix⟩
abbrev Now.at (n:Now) (k:Nat):Now:={n with top:={n.top with pc:=k}}
structure LI (h0:AH) (F0 J0:Nat→Prop) (h h3:AH) (c:Cfg) (L:List Asn) (i:Nat) (n:Now) (P K:Nat) (Ls:List XD) (x:aR):Prop where
 s:St h0 F0 J0 h3 (ai (h.n+1) [cb x]::ai h.n [zR3]::put c L i (n.at (n.top.pc+1)))
 a:At c (ai (h.n+1) [cb x]::ai h.n [zR3]::put c L i (n.at (n.top.pc+1))) (i+1+1) (n.at (n.top.pc+1))
 o:OkR c (n.at (n.top.pc+1))
 tp:aj Tryz.prog po HV [.ptr c.mb 0 0] (h.push [zR3])=some (.inl (.ptr n.fb n.below.length 0),h.push [zR3])
 e1:MO (h.push [zR3]) c n P K Ls
 e2:MO ((h.push [zR3]).push [zI3]) c n P K Ls
 e3:∀ k:Nat,aD false k ((h.push [zR3]).push [cb x]) (.ptr n.fb n.below.length 2)=some (.int .i64 (n.top.pc:Int))
 w:IntKind.wrap .i64 ((n.top.pc:Int)+1)=((n.top.pc+1:Nat):Int)
 st:aH 1 ((h.push [zR3]).push [cb x]) (.ptr n.fb n.below.length 2) (.int .i64 ((n.top.pc+1:Nat):Int))=some h3
 cx:h3.cell (h.n+1)=some [cb x]
theorem FX (s:St h0 F0 J0 h L) (a:At c L i n) (o:OkR c n) (hm:kC c.ms) {P K:Nat} {Ls:List XD} (hP:n.top.plugin=(P:Int)) (hF:n.top.f=(K:Int)) (hP4:P<4) (hL:c.ms.getD P none=some Ls) (hpc:n.top.pc<(dU c.ms n.top.plugin n.top.f).length) (x:aR):∃ h3,LI h0 F0 J0 h h3 c L i n P K Ls x:=by
 have s1:=s.push [zR3]
 have a1:=a.cons (ai h.n [zR3])
 obtain⟨tp,_⟩:=cK s1 a1 o.below
 have e1:=wO s1 a1 o hP hF hP4 hL
 have s2:=s1.push [zI3]
 have a2:=a1.cons (ai (h.push [zR3]).n [zI3])
 have e2:=wO s2 a2 o hP hF hP4 hL
 have s3:St h0 F0 J0 ((h.push [zR3]).push [cb x]) (ai (h.n+1) [cb x]::ai h.n [zR3]::L):=s1.push [cb x]
 have a3:=a1.cons (ai (h.n+1) [cb x])
 have e3:=wO s3 a3 o hP hF hP4 hL
 obtain⟨h4,e4,s4⟩:=Bq s3 (i+1+1) a3.m (n.top.pc+1)
 rw[a3.setM]at s4
 have s5:St h0 F0 J0 h4 (ai (h.n+1) [cb x]::ai h.n [zR3]::put c L i (n.at (n.top.pc+1))):=s4
 have b:=hm n.top.plugin n.top.f
 exact⟨h4,s5,((a.put _).cons _).cons _,⟨o.ms,o.S,o.below,o.stk,o.nms,o.log⟩,tp,e1,e2,e3.pc,Bj (by omega) (by omega) (by omega),e4,(s5.cell 0 rfl).1⟩
theorem pm {A B:Asn} {n':Now}:put c (A::B::L) (i+1+1) n'=A::B::put c L i n':=rfl
structure jF (h0:AH) (F0 J0:Nat→Prop) (h:AH) (c:Cfg) (L:List Asn) (i:Nat) (n:Now) (x:aR):Prop where
 s:St h0 F0 J0 h L
 a:At c L i n
 o:OkR c n
 hm:kC c.ms
 ok:Ok c.ms n.m
 get:(dU c.ms n.top.plugin n.top.f).getD n.top.pc oJ=x
theorem jF.pre {x:aR} (b:jF h0 F0 J0 h c L i n x):∃ (h3:AH) (P K:Nat) (Ls:List XD) (row:List AV) (lv:AV),LI h0 F0 J0 h h3 c L i n P K Ls x∧(∀ q,bX (some tFs) none (ei Ls) (.int q (K:Int))=some (.ip row 0))∧(∀ k,ldA false k row 0=some lv)∧(∀ q,bX (some Kb) none lv (.int q (n.top.pc:Int))=some (.ip (cb x) 0))∧ldA true 3 (cb x) 0=some (.agg (cb x)):=by
 have hg:=b.ok.good.top
 obtain⟨P,hP⟩:=Int.eq_ofNat_of_zero_le hg.p0
 obtain⟨K,hK⟩:=Int.eq_ofNat_of_zero_le hg.f0
 have hP:n.top.plugin=(P:Int):=hP
 have hK:n.top.f=(K:Int):=hK
 have hth:=hg.there
 have pP:n.top.plugin.toNat=P:=by rw[hP];rfl
 have hP4:P<4:=by
  rcases Nat.lt_or_ge P 4 with h | h
  ·exact h
  ·have hth:(c.ms.getD n.top.plugin.toNat none).isSome=true:=hth
   rw[pP,List.getD,List.getElem?_eq_none (by rw[b.o.ms];exact h)]at hth
   cases hth
 obtain⟨Ls,hL⟩:=Option.isSome_iff_exists.1 hth
 have hL:c.ms.getD n.top.plugin.toNat none=some Ls:=hL
 have hpc:n.top.pc<(dU c.ms n.top.plugin n.top.f).length:=b.ok.pc
 have hf1:n.top.f.toNat<(cH c.ms n.top.plugin).length:=hg.f1
 have hKl:K<Ls.length:=by
  have e:n.top.f.toNat=K:=by rw[hK];rfl
  rw[e]at hf1
  unfold cH at hf1
  rw[hL]at hf1
  exact hf1
 obtain⟨h3,p⟩:=FX b.s b.a b.o b.hm hP hK hP4 (by rw[←pP];exact hL) hpc x
 have hx:(az (Ls.getD K cz) 0++[(⟨105,0,0⟩:aR)])[n.top.pc]? =some x:=by
  rw[←GN hL hK]
  have:=b.get
  rw[List.getD,List.getElem?_eq_getElem hpc]at this
  rw[List.getElem?_eq_getElem hpc]
  exact congrArg some this
 obtain⟨row,lv,q1,q2,q3,q4⟩:=Hy hKl hx
 exact⟨h3,P,K,Ls,row,lv,p,q1,q2,q3,q4⟩
set_option maxRecDepth 100000 in
set_option maxHeartbeats 2000000 in
theorem BI {k m:Int} (b:jF h0 F0 J0 h c L i n ⟨100,k,m⟩):∃ fr h',aj Tryz.prog po zo [.ptr c.mb 0 0] h=some (fr,h')∧wj h0 F0 J0 c L i (if n.S.left=0 then .fail n.S 12 else .go ⟨n.S.tick,(n.at (n.top.pc+1)).top,n.below⟩) fr h':=by
 obtain⟨h3,P,K,Ls,row,lv,p,q1,q2,q3,q4⟩:=b.pre
 have f0:aI 0 (.ptr c.mb 0 0)=some (.ptr c.mb 0 0):=rfl
 have f1:aI 2 (.ptr c.bb 0 0)=some (.ptr c.bb 0 2):=rfl
 have f2:aI 0 (.ptr n.fb n.below.length 0)=some (.ptr n.fb n.below.length 0):=rfl
 have f3:aI 1 (.ptr c.bb 0 (2+P*5))=some (.ptr c.bb 0 (2+P*5+1)):=rfl
 have f4:aI 1 (.ptr n.fb n.below.length 0)=some (.ptr n.fb n.below.length 1):=rfl
 have f5:aI 2 (.ptr n.fb n.below.length 0)=some (.ptr n.fb n.below.length 2):=rfl
 have f6:aI 2 (.ptr c.mb 0 0)=some (.ptr c.mb 0 2):=rfl
 have f7:aI 7 (.ptr n.fb n.below.length 0)=some (.ptr n.fb n.below.length 7):=rfl
 obtain⟨ar,sv,nv,g,mv⟩:=dv p.s (i+1+1) p.a.m
 have ll:∀ k:Nat,aD false k h3 (.ptr c.mb 0 2)=some (.int .i64 (n.S.left:Int)):=fun k=>by rw[bC,mv.m];rfl
 by_cases hl:n.S.left=0
 ·rw[if_pos hl]
  refine⟨_,_,?_,rfl,n.at (n.top.pc+1),rfl,p.s.drop.drop⟩
  have d:decide ((n.S.left:Int)=0)=true:=decide_eq_true (by omega)
  refine ah dL rfl ?_;unfold dj
  simp only[sim,ag,reduceAdd,reduceSub,replicate,reduceCtorEq,reduceLeDiff,reduceLT,aa,ay,Int.reduceEq,decide_false,decide_true,p.tp,p.e1.m,p.e1.p,p.e1.cd,p.e1.f,p.e1.pc,p.e1.ix,p.e2.m,p.e2.p,p.e2.cd,p.e2.f,p.e2.pc,p.e3,p.w,p.st,p.cx,q1,q2,q3,q4,f0,f1,f2,f3,f4,f5,f6,f7,ll,d,bP]
 ·rw[if_neg hl]
  have d:decide ((n.S.left:Int)=0)=false:=decide_eq_false (by omega)
  have hb:=b.ok.good.stk
  have hb:n.top.stack.length+n.S.left≤100000:=hb
  have w:IntKind.wrap .i64 ((n.S.left:Int) - 1)=((n.S.left - 1:Nat):Int):=Bj (by omega) (by omega) (by omega)
  obtain⟨h4,e4,s4⟩:=G9 p.s (i+1+1) p.a.m ((n.S.left - 1:Nat):Int)
  rw[p.a.setM,pm,aQ]at s4
  have s5:=s4.set 1 rfl [zR3]
  have c4:=(s4.cell 1 rfl).1
  have c5:=(s5.cell 1 rfl).1
  refine⟨.inl (.tup [.agg zR3,.bool false]),_,?_,zR3,rfl,⟨rfl,rfl⟩,n.fb,s5.drop.drop⟩
  refine ah dL rfl ?_;unfold dj
  simp only[sim,ag,reduceAdd,reduceSub,replicate,reduceCtorEq,reduceLeDiff,reduceLT,aa,ay,Int.reduceEq,decide_false,decide_true,p.tp,p.e1.m,p.e1.p,p.e1.cd,p.e1.f,p.e1.pc,p.e1.ix,p.e2.m,p.e2.p,p.e2.cd,p.e2.f,p.e2.pc,p.e3,p.w,p.st,p.cx,q1,q2,q3,q4,f0,f1,f2,f3,f4,f5,f6,f7,ll,d,bZ,w,e4,c4,c5]
set_option maxRecDepth 100000 in
set_option maxHeartbeats 2000000 in
theorem AE {k m:Int} (b:jF h0 F0 J0 h c L i n ⟨101,k,m⟩) {st:List VD} {v:VD} (hst:n.top.stack=st++[v]):∃ fr h',aj Tryz.prog po zo [.ptr c.mb 0 0] h=some (fr,h')∧wj h0 F0 J0 c L i (.go ⟨n.S,{(n.at (n.top.pc+1)).top with stack:=st,names:=n.top.names++[v]},n.below⟩) fr h':=by
 obtain⟨h3,P,K,Ls,row,lv,p,q1,q2,q3,q4⟩:=b.pre
 have f0:aI 0 (.ptr c.mb 0 0)=some (.ptr c.mb 0 0):=rfl
 have f1:aI 2 (.ptr c.bb 0 0)=some (.ptr c.bb 0 2):=rfl
 have f2:aI 0 (.ptr n.fb n.below.length 0)=some (.ptr n.fb n.below.length 0):=rfl
 have f3:aI 1 (.ptr c.bb 0 (2+P*5))=some (.ptr c.bb 0 (2+P*5+1)):=rfl
 have f4:aI 1 (.ptr n.fb n.below.length 0)=some (.ptr n.fb n.below.length 1):=rfl
 have f5:aI 2 (.ptr n.fb n.below.length 0)=some (.ptr n.fb n.below.length 2):=rfl
 have f6:aI 2 (.ptr c.mb 0 0)=some (.ptr c.mb 0 2):=rfl
 have f7:aI 7 (.ptr n.fb n.below.length 0)=some (.ptr n.fb n.below.length 7):=rfl
 obtain⟨h4,r,e4,hv,s4,a4⟩:=fk p.s p.a p.o (st:=st) (v:=v) hst
 rw[pm,aQ]at s4
 rw[pm,aQ]at a4
 have s5:St h0 F0 J0 ((h4.push [r]).push [zR3]) (ai (h4.n+1) [zR3]::ai h4.n [r]::ai (h.n+1) [cb ⟨101,k,m⟩]::ai h.n [zR3]::put c L i ((n.at (n.top.pc+1)).stk st)):=(s4.push [r]).push [zR3]
 have a5:=(a4.cons (ai h4.n [r])).cons (ai (h4.n+1) [zR3])
 obtain⟨ar,sv,nv,g,mv⟩:=dv s5 (i+1+1+1+1) a5.m
 have g6:=ca {(n.at (n.top.pc+1)).top with stack:=st} ar sv nv g mv.ha.len3.1
 have l7:=fun k=>mv.rd k 7 _ g6.2.2.1
 have m4:=s4.push [r]
 have m4a:=a4.cons (ai h4.n [r])
 obtain⟨ar',sv',nv',g',mv'⟩:=dv m4 (i+1+1+1) m4a.m
 have g6':=ca {(n.at (n.top.pc+1)).top with stack:=st} ar' sv' nv' g' mv'.ha.len3.1
 have l7':=fun k=>mv'.rd k 7 _ g6'.2.2.1
 clear g6 g6'
 have hz:=(s5.cell 0 rfl).1
 obtain⟨o1,o2⟩:=hv.len3
 have hnv:nv'=nv:=by
  have e:=(uT (h:=h4.push [r]) (b:=n.fb) (i:=n.below.length) (off:=7) (k:=0) (g:=false) (es:=[zR3]) mv'.fbn).symm.trans (l7 0)
  rw[l7' 0]at e
  exact Option.some.inj e
 subst hnv
 obtain⟨q,h6,h7,h8,b1,b2,b3,b4,s8⟩:=Gw s5 (i+1+1+1+1) a5.m hv (by have:=p.o.nms;simp only at this ⊢;omega) hz mv
 rw[a5.setM,ap,ap,pm,aQ]at s8
 have s9:=s8.set 3 rfl [zR3]
 have c4:=(m4.cell 0 rfl).1
 have c5:=(s5.cell 1 rfl).1
 have c8:=(s8.cell 1 rfl).1
 have c9:=(s8.cell 3 rfl).1
 have c10:=(s9.cell 3 rfl).1
 have ln:=mv.nv.2.2.1
 have lo:=mv.nv.1
 have fi:=mv.nv.2.2.2.1
 have xm:bX (some tV) none (.msl q 0 (n.top.names.length+1) tV) (.int .i64 (n.top.names.length:Int))=some (.ptr q n.top.names.length 0):=by
  have:=sj (q:= .i64) (e:=tV) (el:=tV) (b:=q) (o:=0) (n:=n.top.names.length+1) (i:=n.top.names.length) rfl (by omega)
  rwa [Nat.zero_add]at this
 refine⟨.inl (.tup [.agg zR3,.bool false]),_,?_,zR3,rfl,⟨rfl,rfl⟩,n.fb,s9.drop.drop.drop.drop⟩
 refine ah dL rfl ?_;unfold dj
 simp only[sim,ag,reduceAdd,reduceSub,replicate,reduceCtorEq,reduceLeDiff,reduceLT,aa,ay,Int.reduceEq,decide_false,decide_true,p.tp,p.e1.m,p.e1.p,p.e1.cd,p.e1.f,p.e1.pc,p.e1.ix,p.e2.m,p.e2.p,p.e2.cd,p.e2.f,p.e2.pc,p.e3,p.w,p.st,p.cx,q1,q2,q3,q4,f0,f1,f2,f3,f4,f5,f6,f7,e4,o1,o2,c4,c5,l7,l7',ln,lo,fi,xm,b1,b2,b3,b4,c8,c9,c10]
set_option maxRecDepth 100000 in
set_option maxHeartbeats 2000000 in
theorem BX {k m:Int} (b:jF h0 F0 J0 h c L i n ⟨102,k,m⟩) {nm:List VD} {v:VD} (hst:n.top.names=nm++[v]):∃ fr h',aj Tryz.prog po zo [.ptr c.mb 0 0] h=some (fr,h')∧wj h0 F0 J0 c L i (.go ⟨n.S,{(n.at (n.top.pc+1)).top with names:=nm},n.below⟩) fr h':=by
 obtain⟨h3,P,K,Ls,row,lv,p,q1,q2,q3,q4⟩:=b.pre
 have f0:aI 0 (.ptr c.mb 0 0)=some (.ptr c.mb 0 0):=rfl
 have f1:aI 2 (.ptr c.bb 0 0)=some (.ptr c.bb 0 2):=rfl
 have f2:aI 0 (.ptr n.fb n.below.length 0)=some (.ptr n.fb n.below.length 0):=rfl
 have f3:aI 1 (.ptr c.bb 0 (2+P*5))=some (.ptr c.bb 0 (2+P*5+1)):=rfl
 have f4:aI 1 (.ptr n.fb n.below.length 0)=some (.ptr n.fb n.below.length 1):=rfl
 have f5:aI 2 (.ptr n.fb n.below.length 0)=some (.ptr n.fb n.below.length 2):=rfl
 have f6:aI 2 (.ptr c.mb 0 0)=some (.ptr c.mb 0 2):=rfl
 have f7:aI 7 (.ptr n.fb n.below.length 0)=some (.ptr n.fb n.below.length 7):=rfl
 obtain⟨ar,sv,nv,g,mv⟩:=dv p.s (i+1+1) p.a.m
 have g6:=ca (n.at (n.top.pc+1)).top ar sv nv g mv.ha.len3.1
 have l7:=fun k=>mv.rd k 7 _ g6.2.2.1
 clear g6
 obtain⟨nv',h4,b1,b2,b3,b4,s4⟩:=H2 p.s (i+1+1) p.a.m (nm:=nm) (v:=v) hst mv
 rw[p.a.setM,pm,aQ]at s4
 have s5:=s4.set 1 rfl [zR3]
 have c4:=(s4.cell 1 rfl).1
 have c5:=(s5.cell 1 rfl).1
 have ln:=mv.nv.2.2.1
 have hlen:(n.at (n.top.pc+1)).top.names.length=nm.length+1:=by
  show n.top.names.length=_
  rw[hst];simp
 rw[hlen]at ln
 have hn:=p.o.nms
 rw[hlen]at hn
 have lo:=mv.nv.1
 have fi:=mv.nv.2.2.2.1
 have w:IntKind.wrap .i64 (((nm.length+1:Nat):Int) - 1)=(nm.length:Int):=Bj (by omega) (by omega) (by omega)
 refine⟨.inl (.tup [.agg zR3,.bool false]),_,?_,zR3,rfl,⟨rfl,rfl⟩,n.fb,s5.drop.drop⟩
 refine ah dL rfl ?_;unfold dj
 simp only[sim,ag,reduceAdd,reduceSub,replicate,reduceCtorEq,reduceLeDiff,reduceLT,aa,ay,Int.reduceEq,decide_false,decide_true,p.tp,p.e1.m,p.e1.p,p.e1.cd,p.e1.f,p.e1.pc,p.e1.ix,p.e2.m,p.e2.p,p.e2.cd,p.e2.f,p.e2.pc,p.e3,p.w,p.st,p.cx,q1,q2,q3,q4,f0,f1,f2,f3,f4,f5,f6,f7,l7,ln,lo,fi,w,b1,b2,b3,b4,c4,c5]
set_option maxRecDepth 100000 in
set_option maxHeartbeats 2000000 in
theorem BG {k m:Int} (b:jF h0 F0 J0 h c L i n ⟨103,k,m⟩) {st:List VD} {v:VD} (hst:n.top.stack=st++[v]) (hk0:0≤k):∃ fr h',aj Tryz.prog po zo [.ptr c.mb 0 0] h=some (fr,h')∧wj h0 F0 J0 c L i (if v.kind≠1 then .fail n.S 2 else .go ⟨n.S,{(n.at (n.top.pc+1)).top with stack:=st,pc:=if v.n=0 then k.toNat else n.top.pc+1},n.below⟩) fr h':=by
 obtain⟨h3,P,K,Ls,row,lv,p,q1,q2,q3,q4⟩:=b.pre
 have f0:aI 0 (.ptr c.mb 0 0)=some (.ptr c.mb 0 0):=rfl
 have f1:aI 2 (.ptr c.bb 0 0)=some (.ptr c.bb 0 2):=rfl
 have f2:aI 0 (.ptr n.fb n.below.length 0)=some (.ptr n.fb n.below.length 0):=rfl
 have f3:aI 1 (.ptr c.bb 0 (2+P*5))=some (.ptr c.bb 0 (2+P*5+1)):=rfl
 have f4:aI 1 (.ptr n.fb n.below.length 0)=some (.ptr n.fb n.below.length 1):=rfl
 have f5:aI 2 (.ptr n.fb n.below.length 0)=some (.ptr n.fb n.below.length 2):=rfl
 have f6:aI 2 (.ptr c.mb 0 0)=some (.ptr c.mb 0 2):=rfl
 have f7:aI 7 (.ptr n.fb n.below.length 0)=some (.ptr n.fb n.below.length 7):=rfl
 obtain⟨h4,r,e4,hv,s4,a4⟩:=fk p.s p.a p.o (st:=st) (v:=v) hst
 rw[pm,aQ]at s4
 rw[pm,aQ]at a4
 obtain⟨o1,o2⟩:=hv.len3
 by_cases hk:v.kind=1
 ·rw[if_neg (by simpa using hk)]
  obtain⟨r',ek,hr'⟩:=dW (h:=h4) hv hk
  obtain⟨w,hw,_⟩:=hr'.cells3
  have hn:K0 false 1 1 (.agg r')=some (.int .i64 v.n):=by rw[hw];rfl
  obtain⟨o3,o4⟩:=hr'.len3
  clear hw
  by_cases hz:v.n=0
  ·rw[if_pos hz]
   have d:decide (v.n=0)=true:=decide_eq_true hz
   have c4:=(s4.cell 0 rfl).1
   obtain⟨h5,e5,s5⟩:=Bq s4 (i+1+1) a4.m k.toNat
   rw[Int.toNat_of_nonneg hk0]at e5
   rw[a4.setM,pm,aQ]at s5
   have s6:=s5.set 1 rfl [zR3]
   have c5:=(s5.cell 1 rfl).1
   have c6:=(s6.cell 1 rfl).1
   refine⟨.inl (.tup [.agg zR3,.bool false]),_,?_,zR3,rfl,⟨rfl,rfl⟩,n.fb,s6.drop.drop⟩
   refine ah dL rfl ?_;unfold dj
   simp only[sim,ag,reduceAdd,reduceSub,replicate,reduceCtorEq,reduceLeDiff,reduceLT,aa,ay,Int.reduceEq,decide_false,decide_true,p.tp,p.e1.m,p.e1.p,p.e1.cd,p.e1.f,p.e1.pc,p.e1.ix,p.e2.m,p.e2.p,p.e2.cd,p.e2.f,p.e2.pc,p.e3,p.w,p.st,p.cx,q1,q2,q3,q4,f0,f1,f2,f3,f4,f5,f6,f7,e4,o1,o2,ek,hn,o3,o4,d,c4,e5,c5,c6]
  ·rw[if_neg hz]
   have d:decide (v.n=0)=false:=decide_eq_false hz
   have s6:=s4.set 1 rfl [zR3]
   have c5:=(s4.cell 1 rfl).1
   have c6:=(s6.cell 1 rfl).1
   refine⟨.inl (.tup [.agg zR3,.bool false]),_,?_,zR3,rfl,⟨rfl,rfl⟩,n.fb,s6.drop.drop⟩
   refine ah dL rfl ?_;unfold dj
   simp only[sim,ag,reduceAdd,reduceSub,replicate,reduceCtorEq,reduceLeDiff,reduceLT,aa,ay,Int.reduceEq,decide_false,decide_true,p.tp,p.e1.m,p.e1.p,p.e1.cd,p.e1.f,p.e1.pc,p.e1.ix,p.e2.m,p.e2.p,p.e2.cd,p.e2.f,p.e2.pc,p.e3,p.w,p.st,p.cx,q1,q2,q3,q4,f0,f1,f2,f3,f4,f5,f6,f7,e4,o1,o2,ek,hn,o3,o4,d,c5,c6]
 ·rw[if_pos hk]
  have ek:=fq (h:=h4) hv hk
  refine⟨_,_,?_,rfl,(n.at (n.top.pc+1)).stk st,rfl,s4.drop.drop⟩
  refine ah dL rfl ?_;unfold dj
  simp only[sim,ag,reduceAdd,reduceSub,replicate,reduceCtorEq,reduceLeDiff,reduceLT,aa,ay,Int.reduceEq,decide_false,decide_true,p.tp,p.e1.m,p.e1.p,p.e1.cd,p.e1.f,p.e1.pc,p.e1.ix,p.e2.m,p.e2.p,p.e2.cd,p.e2.f,p.e2.pc,p.e3,p.w,p.st,p.cx,q1,q2,q3,q4,f0,f1,f2,f3,f4,f5,f6,f7,e4,o1,o2,ek]
set_option maxRecDepth 100000 in
set_option maxHeartbeats 2000000 in
theorem AB {k m:Int} (b:jF h0 F0 J0 h c L i n ⟨104,k,m⟩) (hk0:0≤k):∃ fr h',aj Tryz.prog po zo [.ptr c.mb 0 0] h=some (fr,h')∧wj h0 F0 J0 c L i (.go ⟨n.S,{(n.at (n.top.pc+1)).top with pc:=k.toNat},n.below⟩) fr h':=by
 obtain⟨h3,P,K,Ls,row,lv,p,q1,q2,q3,q4⟩:=b.pre
 have f0:aI 0 (.ptr c.mb 0 0)=some (.ptr c.mb 0 0):=rfl
 have f1:aI 2 (.ptr c.bb 0 0)=some (.ptr c.bb 0 2):=rfl
 have f2:aI 0 (.ptr n.fb n.below.length 0)=some (.ptr n.fb n.below.length 0):=rfl
 have f3:aI 1 (.ptr c.bb 0 (2+P*5))=some (.ptr c.bb 0 (2+P*5+1)):=rfl
 have f4:aI 1 (.ptr n.fb n.below.length 0)=some (.ptr n.fb n.below.length 1):=rfl
 have f5:aI 2 (.ptr n.fb n.below.length 0)=some (.ptr n.fb n.below.length 2):=rfl
 have f6:aI 2 (.ptr c.mb 0 0)=some (.ptr c.mb 0 2):=rfl
 have f7:aI 7 (.ptr n.fb n.below.length 0)=some (.ptr n.fb n.below.length 7):=rfl
 have c4:=(p.s.cell 0 rfl).1
 obtain⟨h5,e5,s5⟩:=Bq p.s (i+1+1) p.a.m k.toNat
 rw[Int.toNat_of_nonneg hk0]at e5
 rw[p.a.setM,pm,aQ]at s5
 have s6:=s5.set 1 rfl [zR3]
 have c5:=(s5.cell 1 rfl).1
 have c6:=(s6.cell 1 rfl).1
 refine⟨.inl (.tup [.agg zR3,.bool false]),_,?_,zR3,rfl,⟨rfl,rfl⟩,n.fb,s6.drop.drop⟩
 refine ah dL rfl ?_;unfold dj
 simp only[sim,ag,reduceAdd,reduceSub,replicate,reduceCtorEq,reduceLeDiff,reduceLT,aa,ay,Int.reduceEq,decide_false,decide_true,p.tp,p.e1.m,p.e1.p,p.e1.cd,p.e1.f,p.e1.pc,p.e1.ix,p.e2.m,p.e2.p,p.e2.cd,p.e2.f,p.e2.pc,p.e3,p.w,p.st,p.cx,q1,q2,q3,q4,f0,f1,f2,f3,f4,f5,f6,f7,c4,e5,c5,c6]
theorem Pk {A B:Asn} {n':Now} {fb':Nat} {S:StD}:kV c (A::B::put c L i n') (i+1+1) fb' S=A::B::kV c L i fb' S:=by
 have:kV c (put c L i n') i fb' S=kV c L i fb' S:=by
  unfold kV
  rw[aQ]
 exact congrArg (fun l=>A::B::l) this
set_option maxRecDepth 100000 in
set_option maxHeartbeats 2000000 in
theorem AU {k m:Int} (b:jF h0 F0 J0 h c L i n ⟨105,k,m⟩) {st:List VD} {v:VD} (hst:n.top.stack=st++[v]) (hgo:∀ m',MaD.back (n.at (n.top.pc+1)).m= .go m'→m'.top.stack.length≤100000):∃ fr h',aj Tryz.prog po zo [.ptr c.mb 0 0] h=some (fr,h')∧wj h0 F0 J0 c L i (MaD.back (n.at (n.top.pc+1)).m) fr h':=by
 obtain⟨h3,P,K,Ls,row,lv,p,q1,q2,q3,q4⟩:=b.pre
 have f0:aI 0 (.ptr c.mb 0 0)=some (.ptr c.mb 0 0):=rfl
 have f1:aI 2 (.ptr c.bb 0 0)=some (.ptr c.bb 0 2):=rfl
 have f2:aI 0 (.ptr n.fb n.below.length 0)=some (.ptr n.fb n.below.length 0):=rfl
 have f3:aI 1 (.ptr c.bb 0 (2+P*5))=some (.ptr c.bb 0 (2+P*5+1)):=rfl
 have f4:aI 1 (.ptr n.fb n.below.length 0)=some (.ptr n.fb n.below.length 1):=rfl
 have f5:aI 2 (.ptr n.fb n.below.length 0)=some (.ptr n.fb n.below.length 2):=rfl
 have f6:aI 2 (.ptr c.mb 0 0)=some (.ptr c.mb 0 2):=rfl
 have f7:aI 7 (.ptr n.fb n.below.length 0)=some (.ptr n.fb n.below.length 7):=rfl
 obtain⟨fr,h4,e4,ob⟩:=Kq p.s p.a p.o (st:=st) (v:=v) hst b.ok.good.top.gates hgo
 generalize MaD.back (n.at (n.top.pc+1)).m=q at*
 cases q with
 | go m'=>
   obtain⟨r,rfl,⟨o1,o2⟩,fb',s4⟩:=ob
   rw[pm,aQ]at s4
   have s5:=s4.set 1 rfl [r]
   have c4:=(s4.cell 1 rfl).1
   have c5:=(s5.cell 1 rfl).1
   refine⟨.inl (.tup [.agg r,.bool false]),_,?_,r,rfl,⟨o1,o2⟩,fb',s5.drop.drop⟩
   refine ah dL rfl ?_;unfold dj
   simp only[sim,ag,reduceAdd,reduceSub,replicate,reduceCtorEq,reduceLeDiff,reduceLT,aa,ay,Int.reduceEq,decide_false,decide_true,p.tp,p.e1.m,p.e1.p,p.e1.cd,p.e1.f,p.e1.pc,p.e1.ix,p.e2.m,p.e2.p,p.e2.cd,p.e2.f,p.e2.pc,p.e3,p.w,p.st,p.cx,q1,q2,q3,q4,f0,f1,f2,f3,f4,f5,f6,f7,e4,o1,o2,c4,c5]
 | fail S k'=>
   obtain⟨rfl,n',hn',s4⟩:=ob
   rw[pm,aQ]at s4
   refine⟨_,_,?_,rfl,n',hn',s4.drop.drop⟩
   refine ah dL rfl ?_;unfold dj
   simp only[sim,ag,reduceAdd,reduceSub,replicate,reduceCtorEq,reduceLeDiff,reduceLT,aa,ay,Int.reduceEq,decide_false,decide_true,p.tp,p.e1.m,p.e1.p,p.e1.cd,p.e1.f,p.e1.pc,p.e1.ix,p.e2.m,p.e2.p,p.e2.cd,p.e2.f,p.e2.pc,p.e3,p.w,p.st,p.cx,q1,q2,q3,q4,f0,f1,f2,f3,f4,f5,f6,f7,e4]
 | over S v'=>
   obtain⟨r,rfl,hv,fb',s4⟩:=ob
   rw[Pk]at s4
   obtain⟨o1,o2⟩:=hv.len3
   have s5:=s4.set 1 rfl [r]
   have c4:=(s4.cell 1 rfl).1
   have c5:=(s5.cell 1 rfl).1
   refine⟨.inl (.tup [.agg r,.bool true]),_,?_,r,rfl,hv,fb',s5.drop.drop⟩
   refine ah dL rfl ?_;unfold dj
   simp only[sim,ag,reduceAdd,reduceSub,replicate,reduceCtorEq,reduceLeDiff,reduceLT,aa,ay,Int.reduceEq,decide_false,decide_true,p.tp,p.e1.m,p.e1.p,p.e1.cd,p.e1.f,p.e1.pc,p.e1.ix,p.e2.m,p.e2.p,p.e2.cd,p.e2.f,p.e2.pc,p.e3,p.w,p.st,p.cx,q1,q2,q3,q4,f0,f1,f2,f3,f4,f5,f6,f7,e4,o1,o2,c4,c5]
set_option maxRecDepth 100000 in
set_option maxHeartbeats 2000000 in
theorem GQ {x:aR} (b:jF h0 F0 J0 h c L i n x) (hop:x.op<100):∃ fr h',aj Tryz.prog po zo [.ptr c.mb 0 0] h=some (fr,h')∧wj h0 F0 J0 c L i (kF c.ms (n.at (n.top.pc+1)).m x) fr h':=by
 obtain⟨h3,P,K,Ls,row,lv,p,q1,q2,q3,q4⟩:=b.pre
 have f0:aI 0 (.ptr c.mb 0 0)=some (.ptr c.mb 0 0):=rfl
 have f1:aI 2 (.ptr c.bb 0 0)=some (.ptr c.bb 0 2):=rfl
 have f2:aI 0 (.ptr n.fb n.below.length 0)=some (.ptr n.fb n.below.length 0):=rfl
 have f3:aI 1 (.ptr c.bb 0 (2+P*5))=some (.ptr c.bb 0 (2+P*5+1)):=rfl
 have f4:aI 1 (.ptr n.fb n.below.length 0)=some (.ptr n.fb n.below.length 1):=rfl
 have f5:aI 2 (.ptr n.fb n.below.length 0)=some (.ptr n.fb n.below.length 2):=rfl
 have f6:aI 2 (.ptr c.mb 0 0)=some (.ptr c.mb 0 2):=rfl
 have f7:aI 7 (.ptr n.fb n.below.length 0)=some (.ptr n.fb n.below.length 7):=rfl
 have hg:=b.ok.good.top
 have hx:=b.ok.op
 have hget:(dU c.ms n.m.top.plugin n.m.top.f).getD n.m.top.pc oJ=x:=b.get
 rw[hget]at hx
 obtain⟨fr,h4,e4,oi⟩:=Np p.s p.a p.o (x:=x) ⟨hg.p0,hg.there,hg.f0,hg.f1,hg.arg,hg.names,hg.stack,hg.gates⟩ ⟨hx.kind,hx.one,hx.nam,hx.jump,hx.parts,hx.var⟩ hop
 have d:∀ j:Int,100≤j→decide (x.op=j)=false:=fun j hj=>decide_eq_false (by omega)
 have d0:=d 100 (by decide);have d1:=d 101 (by decide);have d2:=d 102 (by decide);have d3:=d 103 (by decide);have d4:=d 104 (by decide);have d5:=d 105 (by decide)
 have c3:=(p.s.cell 0 rfl).1
 generalize kF c.ms (n.at (n.top.pc+1)).m x=q at*
 cases q with
 | go m'=>
   obtain⟨rfl,fb',s4⟩:=oi
   rw[pm,aQ]at s4
   have s5:=s4.set 1 rfl [zR3]
   have c4:=(s4.cell 1 rfl).1
   have c5:=(s5.cell 1 rfl).1
   refine⟨.inl (.tup [.agg zR3,.bool false]),_,?_,zR3,rfl,⟨rfl,rfl⟩,fb',s5.drop.drop⟩
   refine ah dL rfl ?_;unfold dj
   simp only[sim,ag,reduceAdd,reduceSub,replicate,reduceCtorEq,reduceLeDiff,reduceLT,aa,ay,Int.reduceEq,decide_false,decide_true,p.tp,p.e1.m,p.e1.p,p.e1.cd,p.e1.f,p.e1.pc,p.e1.ix,p.e2.m,p.e2.p,p.e2.cd,p.e2.f,p.e2.pc,p.e3,p.w,p.st,p.cx,q1,q2,q3,q4,f0,f1,f2,f3,f4,f5,f6,f7,e4,c3,c4,c5,d0,d1,d2,d3,d4,d5]
 | fail S k'=>
   obtain⟨rfl,n',hn',s4⟩:=oi
   rw[pm,aQ]at s4
   refine⟨_,_,?_,rfl,n',hn',s4.drop.drop⟩
   refine ah dL rfl ?_;unfold dj
   simp only[sim,ag,reduceAdd,reduceSub,replicate,reduceCtorEq,reduceLeDiff,reduceLT,aa,ay,Int.reduceEq,decide_false,decide_true,p.tp,p.e1.m,p.e1.p,p.e1.cd,p.e1.f,p.e1.pc,p.e1.ix,p.e2.m,p.e2.p,p.e2.cd,p.e2.f,p.e2.pc,p.e3,p.w,p.st,p.cx,q1,q2,q3,q4,f0,f1,f2,f3,f4,f5,f6,f7,e4,c3,d0,d1,d2,d3,d4,d5]
 | over S v'=>exact oi.elim
end
section
variable {h h' h0:AH} {F J F0 J0:Nat→Prop} {L:List Asn} {c:Cfg} {i:Nat} {n:Now}
theorem Ot {c:Cfg} {n:Now} (hc:c.ms.length=4) (g:n.m.Good c.ms):OkR c n:=by
 have g1:n.S.mu≤1000000:=g.mu
 have g2:n.top.stack.length+n.S.left≤100000:=g.stk
 have g3:n.top.names.length+n.S.left≤100000:=g.nms
 have g4:n.below.length+1≤20:=g.few
 unfold StD.mu at g1
 exact⟨hc,g.S,by omega,by omega,by omega,by omega⟩
theorem xC (s:St h0 F0 J0 h L) (a:At c L i n) (hc:c.ms.length=4) (hm:kC c.ms) (ok:Ok c.ms n.m) (hnext:∀ m',fQ c.ms n.m= .go m'→m'.Good c.ms):
  ∃ fr h',aj Tryz.prog po zo [.ptr c.mb 0 0] h=some (fr,h')∧wj h0 F0 J0 c L i (fQ c.ms n.m) fr h':=by
 have b:jF h0 F0 J0 h c L i n ((dU c.ms n.top.plugin n.top.f).getD n.top.pc oJ):=⟨s,a,Ot hc ok.good,hm,ok,rfl⟩
 have hx:=ok.op
 have hx:Ff n.m ((dU c.ms n.top.plugin n.top.f).getD n.top.pc oJ):=hx
 have hs:fQ c.ms n.m=(let x:=(dU c.ms n.top.plugin n.top.f).getD n.top.pc oJ
  let m:MaD:=(n.at (n.top.pc+1)).m
  let t:=m.top
  if x.op=100 then(if m.S.left=0 then .fail m.S 12 else .go {m with S:=m.S.tick})
  else if x.op=101 then .go {m with top:={t with stack:=ly t.stack 1,names:=t.names++[(kc t.stack 1).getD 0 au]}}
  else if x.op=102 then .go {m with top:={t with names:=t.names.dropLast}}
  else if x.op=103 then(let v:=(kc t.stack 1).getD 0 au
   if v.kind≠1 then .fail m.S 2 else .go {m with top:={t with stack:=ly t.stack 1,pc:=if v.n=0 then x.k.toNat else t.pc}})
  else if x.op=104 then .go {m with top:={t with pc:=x.k.toNat}}
  else if x.op=105 then m.back
  else kF c.ms m x):=rfl
 rw[hs]at hnext ⊢
 generalize (dU c.ms n.top.plugin n.top.f).getD n.top.pc oJ=x at*
 clear hs
 obtain⟨op,k,m⟩:=x
 simp only at hnext ⊢
 have hkind:=hx.kind
 simp only at hkind
 rcases hkind with hk | hk
 ·rw[if_neg (by omega),if_neg (by omega),if_neg (by omega),if_neg (by omega),if_neg (by omega),if_neg (by omega)]
  exact GQ b (by show op<100;omega)
 ·have ops:op=100∨op=101∨op=102∨op=103∨op=104∨op=105:=by omega
  rcases ops with rfl | rfl | rfl | rfl | rfl | rfl
  ·rw[if_pos rfl]
   exact BI b
  ·obtain⟨st,v,hst⟩:=eB (l:=n.top.stack) (by have:=hx.one (.inl rfl);exact List.length_pos_iff.2 this)
   rw[if_neg (by decide),if_pos rfl]
   have:=AE b hst
   simp only[hst,d8,gu]
   exact this
  ·obtain⟨nm,v,hst⟩:=eB (l:=n.top.names) (by have:=hx.nam rfl;exact List.length_pos_iff.2 this)
   rw[if_neg (by decide),if_neg (by decide),if_pos rfl]
   have:=BX b hst
   simp only[hst,List.dropLast_concat]
   exact this
  ·obtain⟨st,v,hst⟩:=eB (l:=n.top.stack) (by have:=hx.one (.inr (.inl rfl));exact List.length_pos_iff.2 this)
   rw[if_neg (by decide),if_neg (by decide),if_neg (by decide),if_pos rfl]
   have:=BG b hst (hx.jump (.inl rfl))
   simp only[hst,d8,gu,List.getD_cons_zero]
   exact this
  ·rw[if_neg (by decide),if_neg (by decide),if_neg (by decide),if_neg (by decide),if_pos rfl]
   exact AB b (hx.jump (.inr rfl))
  ·obtain⟨st,v,hst⟩:=eB (l:=n.top.stack) (by have:=hx.one (.inr (.inr rfl));exact List.length_pos_iff.2 this)
   simp only[Int.reduceEq,if_false,if_true]at hnext ⊢
   refine AU b hst fun m' e=> ?_
   have g:=(hnext m' e).stk
   omega
end
set_option maxHeartbeats 1000000 in
theorem Ai:∀ (N:Nat) (x:VD),SizeOf.sizeOf x≤N→x.size≤100000→∀ (r:List AV) (h:AH),VaA x r→
  ∃ r',aj Tryz.prog po 48 [.agg r] h=some (.inl (.agg r'),h)∧VaA (id x) r':=by
 intro N
 induction N with
 | zero=>intro x hx;have:=x.so_pos;omega
 | succ N ih=>
   intro x hx hsz r h he
   obtain⟨v,es,rfl,hsl,hv,hn,hix⟩:=he.facts
   have hlen:=x.len_size
   suffices key:∃ v',aj Tryz.prog po 48 [.agg [.int .i64 x.kind,.int .i64 x.n,v]] h=some (.inl v',h)∧∃ r',v'= .agg r'∧VaA (id x) r' by
    obtain⟨_,e,r',rfl,h2⟩:=key
    exact⟨r',e,h2⟩
   have rest:∀ (Q:jm→Prop) (h0:AH) (w4 w8:AV) (z:Int),h0=((h.push [[.int .i64 x.kind,.int .i64 x.n,v]]).push [[.int .i64 0,.int .i64 0,.nils]]).push [[.int .i64 x.kind,.int .i64 z,.nils]]→
     z=(id x).n→
     (∀ V h' v v',(eS V h' [.cell true 3 2]).map fC=some v→af h h'→wkA v=some v'→(∃ r',v'= .agg r'∧VaA (id x) r')→Q (some (.ret,V,h')))→
     Q (aq (aj Tryz.prog po) 9 (.lp kl:: .ss []:: .blk 0::[.ss [.ops [(.i .l (.load true 3 (.v 3))),(.i .n (.store 3 (.v 2) (.l 0)))],.ret]])
       [.agg [.int .i64 x.kind,.int .i64 x.n,v],.ptr h.n 0 0,.ptr (h.n+1) 0 0,.ptr (h.n+1+1) 0 0,w4,v,.int .i64 es.length,.int .i64 0,w8] [] h0):=by
    intro Q h0 w4 w8 z hh0 hz hQ
    subst hh0
    refine gY (fun i V h'=>∃ w4 w8 acc rows,V=[.agg [.int .i64 x.kind,.int .i64 x.n,v],.ptr h.n 0 0,.ptr (h.n+1) 0 0,.ptr (h.n+1+1) 0 0,w4,v,.int .i64 es.length,.int .i64 (i:Nat),w8]∧
     af h h'∧h.n+1+1<h'.n∧h'.cell h.n=some [[.int .i64 x.kind,.int .i64 x.n,v]]∧h'.cell (h.n+1)=some [[.int .i64 0,.int .i64 0,.nils]]∧h'.cell (h.n+1+1)=some [[.int .i64 x.kind,.int .i64 z,acc]]∧
     Acc h h' tV acc rows∧VaL ((x.l.take i).map id) rows) x.l.length ⟨_,_,_,[],rfl,(by repeat (first | exact af.refl _ | refine af.trans ?_ (af.push _ _) | refine af.trans ?_ (af.fresh _ _))),by simp only[aJ];omega,hU,kD,fB,kH _ _ _,rfl⟩ ?_ ?_
    ·rintro i V h' hi ⟨w4,w8,acc,rows,rfl,g,hm,c1,c2,c3,ha,hr⟩ next
     have hlt:(i:Int)<(es.length:Int):=by rw[hn];omega
     obtain⟨y,hy⟩:=ky hi
     obtain⟨q,i1,d1,x1⟩:=hix i y hy
     have hw:=w64 (n:=(i:Int)+1) (by omega) (by omega)
     obtain⟨q',e1,x2⟩:=ih y (by have:=VD.lt_mem (fS hy);omega) (by have:=VD.size_mem (fS hy);omega) q (h'.push [q]) x1
     obtain⟨p1,p2⟩:=x1.one
     replace c1:=(aN (es:=[q]) (show h.n<h'.n by omega)).trans c1
     replace c2:=(aN (es:=[q]) (show h.n+1<h'.n by omega)).trans c2
     replace c3:=(aN (es:=[q]) hm).trans c3
     obtain⟨o1,o2⟩:=x2.one
     have hrl:rows.length≤1000000:=by rw[hr.len,List.length_map,List.length_take];omega
     obtain⟨acc2,h2,e2,a1,a2,a3,a4⟩:=lW (show Acc h (h'.push [q]) tV acc rows from ha) (g.trans (af.push _ _)) (row:=q') o1 hrl
     simp only[gS]at e2
     have b1:(h2.set (h.n+1+1) (some [[.int .i64 x.kind,.int .i64 z,acc2]])).cell h.n=some [[.int .i64 x.kind,.int .i64 x.n,v]]:=by rw[be (by omega),a3];exact c1
     have b2:(h2.set (h.n+1+1) (some [[.int .i64 x.kind,.int .i64 z,acc2]])).cell (h.n+1)=some [[.int .i64 0,.int .i64 0,.nils]]:=by rw[be (by omega),a3];exact c2
     have oA:acc2.one=true:=by
      rcases a1 with⟨_,rfl⟩ | ⟨id,_,_,_,_,rfl⟩<;>rfl
     have cA:acc2.cells=[acc2]:=by
      rcases a1 with⟨_,rfl⟩ | ⟨id,_,_,_,_,rfl⟩<;>rfl
     rw[aF kl.eq_1]
     simp only[sim,ag,reduceAdd,reduceSub,replicate,reduceCtorEq,reduceLeDiff,reduceLT,aa,c1,c2,c3,hsl.len,hsl.fits,hlt,i1,d1,e1,p1,p2,bq p2,o1,o2,e2,hsl.len,a3,oA,cA,hw]
     refine next _ _ ⟨_,_,_,_,rfl,a2.set (by omega),by rw[dT,a4];show _<h'.n+1;omega,b1,b2,aP,a1,?_⟩
     rw[i4 hy,List.map_append]
     exact hr.append x2
    ·rintro V h' ⟨w4,w8,acc,rows,rfl,g,hm,c1,c2,c3,ha,hr⟩
     have hlt:¬ ((x.l.length:Int)<(es.length:Int)):=by rw[hn];omega
     rw[List.take_length]at hr
     have oA:acc.one=true:=by
      rcases ha with⟨_,rfl⟩ | ⟨id,_,_,_,_,rfl⟩<;>rfl
     have hsl':SlA tV acc rows:=by
      rcases ha with⟨q1,q2⟩ | ⟨id,_,_,_,_,q2⟩
      ·exact .inl ⟨q1,q2⟩
      ·exact .inr ⟨_,q2⟩
     have hx':VaA (id x) [.int .i64 x.kind,.int .i64 z,acc]:=by
      rw[hz]
      have:=VaA.mk (x:=id x) hsl' (by rw[Pv];exact hr)
      rw[Pp]at this
      exact this
     obtain⟨r',hw,hr'⟩:=Cx hx'
     have hwA:wkA (.agg [.int .i64 x.kind,.int .i64 z,acc])=some (.agg r'):=by simp only[wkA,hw,Option.map_some]
     rw[aF kl.eq_1]
     simp only[sim,ag,reduceAdd,reduceSub,replicate,reduceCtorEq,reduceLeDiff,reduceLT,aa,c1,c2,c3,hsl.len,hsl.fits,hlt,oA]
     exact hQ _ _ _ _ (by simp only[sim,oA,List.all_cons,List.all_nil,List.length_cons,List.length_nil,Option.map_some,Option.bind_some,List.getD_cons_zero,List.getD_cons_succ,List.take_succ_cons,List.take_zero,List.drop_zero]) (g.set (by omega)) hwA ⟨r',rfl,hr'⟩
   refine B4 Ke rfl fun Q hQ=> ?_;unfold Cu
   simp only[sim,ag,reduceAdd,reduceSub,replicate,reduceCtorEq,reduceLeDiff,reduceLT,aa,hv,hsl.len,hsl.fits]
   exact rest _ _ _ _ x.n rfl rfl hQ
open Go Go.RowKit
abbrev eU:FuncId:=12
abbrev fRc:FuncId:=49
noncomputable def cRu:Code:=Tryz.f12.body.getD .skip
noncomputable def cRc:Code:=Tryz.f49.body.getD .skip
theorem Hk:(Tryz.prog).funcs[fRc]? =some Tryz.f49:=Tryz.func49
theorem C6:Tryz.f49.body=some cRc:=rfl
theorem Hh:cRc= .seq (cL cRc) (cR cRc):=rfl
theorem OJ:Tryz.f49.ntmps=27:=rfl
noncomputable def rcA:Oper:={dst:=some 8,op:= .call {callee:= .builtin .recover,args:= #[],argTypes:= #[]},type:=((eO (cL cRc)).getD 0 default).type,pos:=((eO (cL cRc)).getD 0 default).pos,after:= #[],guard:=none}
noncomputable def rcB:Oper:={dst:=some 5,op:= .assign (.tmp 8),type:=((eO (cL cRc)).getD 1 default).type,pos:=((eO (cL cRc)).getD 1 default).pos,after:=((eO (cL cRc)).getD 1 default).after,guard:=none}
theorem HR:cL cRc= .region 0 #[rcA,rcB] false:=rfl
abbrev vRc:List Nat:=[0,1,2,3,4,5,6,7,10,17]
theorem MN:bj Tryz.prog (po.mu fRc) (po.plan fRc) 27 vRc (cR cRc) []=some BS:=by kernel_rfl
theorem G7:cQ (po.plan fRc) (po.kp fRc) (cR cRc)=true:=by kernel_rfl
theorem Ms:sw 5 27 (po.nv fRc) 10 vRc=true:=by kernel_rfl
theorem IR (a:Array Value) (w:World):∃ v,(results Tryz.f49 a).run Tryz.prog w= .ok v w:=⟨.tuple #[],by simp[results,Tryz.results49]⟩
theorem Gh:FO Tryz.prog (cL cRc) 27 8 5:=by
 intro ts v cs cs' w hsz h
 rw[HR]
 apply wpS_region
 rcases h with h1 | ⟨h1,h2,h3⟩
 ·simp[wpOpsS,go_sem,rcA,rcB,h1,Act.put,Act.eval,hsz]
 ·simp[wpOpsS,go_sem,rcA,rcB,h1,Act.put,Act.eval,hsz,h2,h3]
theorem LF (x y z u t e:AV):RV 27 vRc [] (bI (bI ([x,y,z,u,t]++replicate (27 - [x,y,z,u,t].length) .junk) (some 8) e) (some 5) e) [x,y,z,u,t,e,.junk,.junk,.junk,.junk] []:=by
 refine⟨by simp[bI],rfl,rfl,fun j s hj=> ?_,fun j s hj=>by simp at hj⟩
 match j,hj with
 | 0,hj | 1,hj | 2,hj | 3,hj | 4,hj | 5,hj | 6,hj | 7,hj | 8,hj | 9,hj=>obtain rfl:=Option.some.inj hj;exact⟨by decide,rfl⟩
 | j+10,hj=>simp at hj
theorem uM:(Tryz.prog).funcs[eU]? =some Tryz.f12:=Tryz.func12
theorem Ka:Tryz.f12.body=some cRu:=rfl
theorem PH:Tryz.f12.ntmps=93:=rfl
noncomputable abbrev cR1:Code:=cR cRu
noncomputable abbrev cR2:Code:=cR cR1
noncomputable abbrev cR3:Code:=cR cR2
noncomputable abbrev cR4:Code:=cR cR3
noncomputable abbrev cR5:Code:=cR cR4
noncomputable abbrev cR6:Code:=cR cR5
theorem Nl:cRu= .seq (cL cRu) cR1:=rfl
theorem qC:cR1= .seq (cL cR1) cR2:=rfl
theorem Dq:cR2= .seq (cL cR2) cR3:=rfl
theorem KE:cR3= .seq (cL cR3) cR4:=rfl
theorem Jx:cR4= .seq (cL cR4) cR5:=rfl
theorem Kr:cR5= .seq (cL cR5) cR6:=rfl
abbrev vRu:List Nat:=[0,1,2,3,4,8,9,10,11,12,13,14,15,16,17,33,62,84]
theorem lL:sw 5 93 (po.nv eU) 18 vRu=true:=by kernel_rfl
theorem NQ:bj Tryz.prog (po.mu eU) (po.plan eU) 93 vRu (cL cRu) []=some xb:=by kernel_rfl
theorem ww:bj Tryz.prog (po.mu eU) (po.plan eU) 93 vRu (cL cR1) []=some lK:=by kernel_rfl
theorem GK:bj Tryz.prog (po.mu eU) (po.plan eU) 93 vRu (cL cR2) []=some wH:=by kernel_rfl
theorem MR:bj Tryz.prog (po.mu eU) (po.plan eU) 93 vRu (cL cR3) []=some wT:=by kernel_rfl
theorem Nk:bj Tryz.prog (po.mu eU) (po.plan eU) 93 vRu (cL cR4) []=some wA:=by kernel_rfl
theorem Ig:bj Tryz.prog (po.mu eU) (po.plan eU) 93 vRu cR6 []=some rR:=by kernel_rfl
theorem Jv:cQ (po.plan eU) (po.kp eU) (cL cRu)=true:=by kernel_rfl
theorem qI:cQ (po.plan eU) (po.kp eU) (cL cR1)=true:=by kernel_rfl
theorem CI:cQ (po.plan eU) (po.kp eU) (cL cR2)=true:=by kernel_rfl
theorem Jw:cQ (po.plan eU) (po.kp eU) (cL cR3)=true:=by kernel_rfl
theorem Lf:cQ (po.plan eU) (po.kp eU) (cL cR4)=true:=by kernel_rfl
theorem CS:cQ (po.plan eU) (po.kp eU) cR6=true:=by kernel_rfl
theorem rp:ju Tryz.prog vRu Tryz.f12.results.toList=some [.cell true 3 7,.cell false 1 8,.cell false 1 9]:=by kernel_rfl
theorem O9 (x y z u t:AV):RV 93 vRu [] ([x,y,z,u,t]++replicate (93 - [x,y,z,u,t].length) .junk) ([x,y,z,u,t]++replicate (vRu.length - [x,y,z,u,t].length) .junk) []:=by
 refine⟨by simp,rfl,rfl,fun j s hj=> ?_,fun j s hj=>by simp at hj⟩
 match j,hj with
 | 0,hj | 1,hj | 2,hj | 3,hj | 4,hj | 5,hj | 6,hj | 7,hj | 8,hj | 9,hj | 10,hj | 11,hj | 12,hj | 13,hj | 14,hj | 15,hj | 16,hj | 17,hj=>obtain rfl:=Option.some.inj hj;exact⟨by decide,rfl⟩
 | j+18,hj=>simp at hj
noncomputable def ruA:Oper:={dst:=some 78,op:= .makeFunc (.func fRc) #[] #[.tmp 9,.tmp 14,.tmp 10,.tmp 11,.tmp 12],type:=((eO (cL cR5)).getD 0 default).type,pos:=((eO (cL cR5)).getD 0 default).pos,after:= #[],guard:=none}
noncomputable def ruB:Oper:={dst:=none,op:= .defer {callee:= .value (.tmp 78),args:= #[],argTypes:= #[]},type:=((eO (cL cR5)).getD 1 default).type,pos:=((eO (cL cR5)).getD 1 default).pos,after:=((eO (cL cR5)).getD 1 default).after,guard:=none}
theorem NX:cL cR5= .region 10 #[ruA,ruB] false:=rfl
theorem IH (bf:Frame) (a:Act) (cs:List Frame) (w:World) (hsz:a.tmps.size=93):
  Steps Tryz.prog (lone (bf.at a [.code cR5]) cs w) (lone (bf.at {a.put (some 78) (Ft fRc (rh a [9,14,10,11,12]))with defers:=qm fRc (rh a [9,14,10,11,12])::a.defers} [.code cR6]) cs w):=by
 have hw:(cL cR5).wp Tryz.prog (fun e a' w'=>e= .normal∧w'=w∧a'={a.put (some 78) (Ft fRc (rh a [9,14,10,11,12]))with defers:=qm fRc (rh a [9,14,10,11,12])::a.defers}) a w:=by
  have hmf:∀ (fn:Fn) (first cap:Array Value) (w:World),(Instr.makeFunc fn first cap).run Tryz.prog w= .ok (.func fn first cap) w:=fun _ _ _ _=>rfl
  rw[NX]
  apply wp_region
  simp[wpOps,go_sem,ruA,ruB,hmf,Act.put,Act.eval,hsz,Ft,qm,rh]
 obtain⟨e,a',w',⟨rfl,rfl,rfl⟩,harr⟩:=hw bf [.code cR6] cs
 conv=>lhs;rw[Kr]
 exact .head step_seq harr
theorem LE:∀ r∈Tryz.f12.results.toList,∃ i ty,r= .cell i ty∧po.kp eU i=true:=by
 have h:Tryz.f12.results.toList.all (fun r=>match r with | .cell i _=>po.kp eU i | _=>false)=true:=by kernel_rfl
 rw[List.all_eq_true]at h
 intro r hr
 have:=h r hr
 cases r with
 | tmp i=>cases this
 | cell i ty=>exact⟨i,ty,rfl,this⟩
open Go Go.RowKit
theorem Le {ms:aM} (hg:qh ms) {p f:Int} {v:VD} {S:StD} (hS:S.Good) (hmu:S.mu≤1000000) (hl:S.left≤2000) (hv:v.code=0) (hp:0≤p) (ht:(ms.getD p.toNat none).isSome) (hf:0≤f) (hf1:f.toNat<(cH ms p).length) {N:Nat} (hN:S.left≤N):
  gA ms ⟨S,⟨p,f,0,v,[],[],false,[]⟩,[]⟩ (match ofD ms N p (cS ms p f) v [] 1 S with
   | (S',w,c)=>if c≠0 then .fail S' c else .over S' w):=by
 have hG:(⟨S,⟨p,f,0,v,[],[],false,[]⟩,[]⟩:MaD).Good ms:=⟨hS,⟨hp,ht,hf,hf1,hv,by simp,by simp,by simp⟩,hmu,by simp only[List.length_nil];omega,by simp only[List.length_nil];omega,by simp⟩
 have h3:=OQ hg N (cS ms p f) ⟨S,⟨p,f,0,v,[],[],false,[]⟩,[]⟩ hG hN (sG hg hf1) ⟨[],[⟨105,0,0⟩],by simp[dU],rfl⟩
 have hox3:=gW ms N p (cS ms p f) v [] 1 S hS hv (by simp)
 simp only[List.length_nil,Nat.zero_add]at h3
 rcases hq3:ofD ms N p (cS ms p f) v [] 1 S with⟨S3,v3,c3⟩
 rw[hq3]at h3 hox3
 unfold fL at h3
 simp only at h3 ⊢
 by_cases hz:c3=0
 ·rw[if_neg (by simpa using hz)]at h3 ⊢
  have st3:bi ms (MaD.after ⟨S,⟨p,f,0,v,[],[],false,[]⟩,[]⟩ S3 (az (cS ms p f) 0).length [v3]) [⟨105,0,0⟩]:=⟨az (cS ms p f) 0,[],by simp[dU,MaD.after],by simp[MaD.after]⟩
  have bst:=pf (c:=[]) (st:=[]) (v:=v3) st3 rfl
  have ok3:=bi.at st3 (hG.after1 hox3 hz) ⟨by simp,by simp[MaD.after],by simp,by simp,by simp,by simp⟩
  simp only[MaD.after,Bool.false_eq_true,if_false,List.getLast?_nil,StD.ok]at bst
  rw[if_neg (by simp)]at bst
  exact h3 _ (.over ok3 bst)
 ·rw[if_pos hz]at h3 ⊢
  exact h3
theorem gA.ok {ms:aM} {m:MaD} {r:iY} (h:gA ms m r):Ok ms m:=by cases h<;>assumption
theorem BK {h:AH} {a b c d e:AV} {m:Mm} {w:World} {ps:List Value} (hw:WR Tryz.prog m h w) (hv:VRs Tryz.prog m h [a,b,c,d,e] ps):
  CallsD Tryz.prog fRc ps.toArray .returning w fun e u'' w'=>(∃ v,e= .returned v)∧u''= .returning∧∃ m',Ext m h m' h∧WR Tryz.prog m' h w'∧Below m.base w w':=by
 refine clG pok Hk C6 Hh OJ IR Gh (bO Ms) MN G7 (V':=[a,b,c,d,e,.nili,.junk,.junk,.bool false,.junk]) ?_ (LF _ _ _ _ _ .nili) hw hv (by simp) .nili .returning fun c hc cs=> .inr ⟨Eu c hc cs,rfl,rfl⟩
 unfold BS
 have ifG_no:mq .iface none true .neq .nili .nili=some (.bool false):=rfl
 simp only[sim,ag,reduceAdd,reduceSub,replicate,reduceCtorEq,reduceLeDiff,reduceLT,aa,ifG_no]
theorem Ep {h:AH} {cf cm co cu cc mb:Nat} {m:Mm} {w:World} {ps:List Value} {u:Value} {k fuel left:Int} {z1 z2:AV} {o1:List AV} {o2 o3:AV} (hw:WR Tryz.prog m h w) (hv:VRs Tryz.prog m h [.ptr cf 0 0,.ptr cm 0 0,.ptr co 0 0,.ptr cu 0 0,.ptr cc 0 0] ps) (vu:VR Tryz.prog m h (.iface tGo (.int .i64 k)) u)
  (hf:h.cell cf=some [[.int .i64 fuel]]) (hm:h.cell cm=some [[.ptr mb 0 0]]) (hb:h.cell mb=some [[z1,z2,.int .i64 left]]) (ho:h.cell co=some [o1]) (hl:o1.length=3) (hu:h.cell cu=some [[o2]]) (hc:h.cell cc=some [[o3]]) (n1:cu≠co) (n2:cc≠co) (n3:cc≠cu) (hwr:IntKind.wrap .i64 (fuel - left)=fuel - left):
  CallsD Tryz.prog fRc ps.toArray (.panicking [{v:=u,recovered:=false}]) w fun e u'' w'=>(∃ v,e= .returned v)∧u''= .panicking [{v:=u,recovered:=true}]∧
   ∃ m',Ext m h m' (((h.set co (some [zR3])).set cu (some [[.int .i64 (fuel - left)]])).set cc (some [[.int .i64 k]]))∧WR Tryz.prog m' (((h.set co (some [zR3])).set cu (some [[.int .i64 (fuel - left)]])).set cc (some [[.int .i64 k]])) w'∧Below m.base w w':=by
 have k7:(h.set co (some [zR3])).cell cu=some [[o2]]:=(be n1).trans hu
 have k8:((h.set co (some [zR3])).set cu (some [[.int .i64 (fuel - left)]])).cell cc=some [[o3]]:=(be n3).trans ((be n2).trans hc)
 refine clG pok Hk C6 Hh OJ IR Gh (bO Ms) MN G7 (V':=[.ptr cf 0 0,.ptr cm 0 0,.ptr co 0 0,.ptr cu 0 0,.ptr cc 0 0,.iface tGo (.int .i64 k),.int .i64 k,.bool true,.bool true,.bool false]) ?_ (LF _ _ _ _ _ (.iface tGo (.int .i64 k))) hw hv (by simp) vu (.panicking [{v:=u,recovered:=true}]) fun c hc cs=> .inl (AS c hc cs)
 unfold BS
 have ifG_yes:mq .iface none true .neq (.iface tGo (.int .i64 k)) .nili=some (.bool true):=rfl
 have tasG_yes:Fd tGo true (.iface tGo (.int .i64 k))=some (.tup [.int .i64 k,.bool true]):=by simp[Fd]
 simp only[sim,ag,reduceAdd,reduceSub,replicate,reduceCtorEq,reduceLeDiff,reduceLT,aa,ifG_yes,tasG_yes,hf,hm,hb,ho,hl,k7,k8,hwr]
open Go Go.RowKit
abbrev six (b mb:Nat) (code used:Int) (out:List AV) (fuel:Int) (r:List AV) (L:List Asn):List Asn:=
 ai (b+1+1+1+1+1+1) [[.ptr mb 0 0]]::ai (b+1+1+1+1) [[.int .i64 code]]::ai (b+1+1+1) [[.int .i64 used]]::ai (b+1+1) [out]::ai (b+1) [[.int .i64 fuel]]::ai b [r]::L
abbrev Vv (bb b:Nat) (p f:Int) (r:List AV) (fuel:Int) (x y z:AV):List AV:=
 [.ptr bb 0 0,.int .i64 p,.int .i64 f,.agg r,.int .i64 fuel,.ptr b 0 0,.ptr (b+1) 0 0,.ptr (b+1+1) 0 0,.ptr (b+1+1+1) 0 0,.ptr (b+1+1+1+1) 0 0,.int .i64 0,.ptr (b+1+1+1+1+1+1) 0 0,x,y,.bool false,.bool false,.bool false,z]
def Pl (h0:AH) (F0 J0:Nat→Prop) (c:Cfg) (L:List Asn) (b:Nat) (p f:Int) (r:List AV) (fuel:Int) (q:iY) (x:AEx) (V:List AV) (h':AH):Prop:=(∃ x y z,V=Vv c.bb b p f r fuel x y z)∧match q with
 | .go _=>False
 | .over S v=>x= .ret∧∃ fb' r',VaA v r'∧St h0 F0 J0 h' (six b c.mb 0 (fuel - (S.left:Int)) r' fuel r (kV c L 0 fb' S))
 | .fail S k=>x= .panic (.iface tGo (.int .i64 k))∧∃ n':Now,n'.S=S∧St h0 F0 J0 h' (six b c.mb 0 0 zR3 fuel r (put c L 0 n'))
section
variable {h h' h0:AH} {F J F0 J0:Nat→Prop} {L:List Asn} {c:Cfg}
theorem ON {A1 A2 A3 A4 A5 A6:Asn} {n':Now} {fb':Nat} {S:StD}:kV c (A1::A2::A3::A4::A5::A6::put c L 0 n') (0+1+1+1+1+1+1) fb' S=A1::A2::A3::A4::A5::A6::kV c L 0 fb' S:=by
 have:kV c (put c L 0 n') 0 fb' S=kV c L 0 fb' S:=by
  unfold kV
  rw[aQ]
 exact congrArg (fun l=>A1::A2::A3::A4::A5::A6::l) this
theorem Oz {A1 A2 A3 A4 A5 A6:Asn} {n n':Now}:put c (A1::A2::A3::A4::A5::A6::put c L 0 n) (0+1+1+1+1+1+1) n'=A1::A2::A3::A4::A5::A6::put c L 0 n':=by
 have:put c (put c L 0 n) 0 n'=put c L 0 n':=aQ
 exact congrArg (fun l=>A1::A2::A3::A4::A5::A6::l) this
theorem Ng {i:Nat} (hl:i+3<L.length) (n':Now):At c (put c L i n') i n':=by
 refine⟨?_,?_,?_,?_⟩<;>rw[ft]
 ·rw[if_pos (by omega),if_neg (by omega),if_neg (by omega),if_neg (by omega),if_pos rfl]
 ·rw[if_pos (by omega),if_neg (by omega),if_neg (by omega),if_pos rfl]
 ·rw[if_pos (by omega),if_neg (by omega),if_pos rfl]
 ·rw[if_pos (by omega),if_pos rfl]
theorem B1 {b mb:Nat} {code used:Int} {out:List AV} {fuel:Int} {r:List AV} (hl:3<L.length) (n:Now):At c (six b mb code used out fuel r (put c L 0 n)) (0+1+1+1+1+1+1) n:=
 ((((((Ng (i:=0) hl n).cons (ai b [r])).cons (ai (b+1) [[.int .i64 fuel]])).cons (ai (b+1+1) [out])).cons (ai (b+1+1+1) [[.int .i64 used]])).cons (ai (b+1+1+1+1) [[.int .i64 code]])).cons (ai (b+1+1+1+1+1+1) [[.ptr mb 0 0]])
def OI:iY→Prop
 | .go _=>False
 | .over S v=>S.left≤2000∧v.size≤100000
 | .fail S _=>S.left≤2000
set_option maxRecDepth 100000 in
set_option maxHeartbeats 2000000 in
theorem zd (hL:3<L.length) (hc:c.ms.length=4) (hm:kC c.ms) {b:Nat} {p f:Int} {r:List AV} {fuel:Int} (hfu:0≤fuel∧fuel≤2000) {m:MaD} {q:iY} (hr:gA c.ms m q):OI q→∀ (n:Now) (h:AH) (x y z:AV),n.m=m→St h0 F0 J0 h (six b c.mb 0 0 zR3 fuel r (put c L 0 n))→
  ∃ e V' h3,aq (aj Tryz.prog po) 18 [.lp iM,.ss [],.blk 1,.ss [],.halt []] (Vv c.bb b p f r fuel x y z) [] h=some (e,V',h3)∧Pl h0 F0 J0 c L b p f r fuel q e V' h3:=by
 induction hr with
 | @go m m' q ok hs hr ih=>
   intro hq n h x y z hn s
   subst hn
   have a6:=B1 (c:=c) (b:=b) (mb:=c.mb) (code:=0) (used:=0) (out:=zR3) (fuel:=fuel) (r:=r) hL n
   obtain⟨fr,h1,e1,ob⟩:=xC s a6 hc hm ok fun m'' e=>by rw[hs]at e;cases e;exact hr.ok.good
   rw[hs]at ob
   obtain⟨r1,rfl,⟨o1,o2⟩,fb',s1⟩:=ob
   rw[Oz]at s1
   have c0:=(s.cell 0 rfl).1
   have s2:=s1.push [r1]
   obtain⟨e,V',h3,e3,o3⟩:=ih hq ⟨fb',m'.S,m'.below,m'.top⟩ (h1.push [r1]) (.ptr h1.n 0 0) (.bool false) (.bool false) rfl s2.drop
   refine⟨e,V',h3,?_,o3⟩
   rw[←e3]
   rw[aF iM.eq_1]
   simp only[sim,ag,reduceAdd,reduceSub,replicate,reduceCtorEq,reduceLeDiff,reduceLT,aa,ay,c0,e1,o1,o2]
 | @over m S v ok hs=>
   intro hq n h x y z hn s
   subst hn
   have a6:=B1 (c:=c) (b:=b) (mb:=c.mb) (code:=0) (used:=0) (out:=zR3) (fuel:=fuel) (r:=r) hL n
   obtain⟨fr,h1,e1,ob⟩:=xC s a6 hc hm ok fun m'' e=>by rw[hs]at e;cases e
   rw[hs]at ob
   obtain⟨r1,rfl,hv,fb',s1⟩:=ob
   rw[ON]at s1
   obtain⟨hq1,hq2⟩:=hq
   obtain⟨o1,o2⟩:=hv.len3
   have c0:=(s.cell 0 rfl).1
   have s2:St h0 F0 J0 (h1.push [r1]) (ai h1.n [r1]::six b c.mb 0 0 zR3 fuel r (kV c L 0 fb' S)):=s1.push [r1]
   obtain⟨r2,e2,hv2⟩:=Ai _ v (Nat.le_refl _) hq2 r1 (h1.push [r1]) hv
   have hv2:VaA v r2:=by rw[id_eq]at hv2;exact hv2
   obtain⟨o3,o4⟩:=hv2.len3
   have hend:(kV c L 0 fb' S)[0]? =some (BP c.mb c.bb fb' (S.left:Int)):=by
    unfold kV
    rw[List.getElem?_set_self (by rw[qF];omega)]
   have cm:=(s2.cell 7 hend).1
   have cp:=(s2.cell 1 rfl).1
   have cf:=(s2.cell 5 rfl).1
   have co:=(s2.cell 4 rfl).1
   have s3:=s2.set 4 rfl [r2]
   have s3:St h0 F0 J0 _ (ai h1.n [r1]::six b c.mb 0 0 r2 fuel r (kV c L 0 fb' S)):=s3
   have cm3:=(s3.cell 7 hend).1
   have cp3:=(s3.cell 1 rfl).1
   have cf3:=(s3.cell 5 rfl).1
   have cu3:=(s3.cell 3 rfl).1
   have s4:=s3.set 3 rfl [[.int .i64 (fuel - (S.left:Int))]]
   have s4:St h0 F0 J0 _ (ai h1.n [r1]::six b c.mb 0 (fuel - (S.left:Int)) r2 fuel r (kV c L 0 fb' S)):=s4
   have cc4:=(s4.cell 2 rfl).1
   have s5:=s4.set 2 rfl [[.int .i64 0]]
   have w:IntKind.wrap .i64 (fuel - (S.left:Int))=fuel - (S.left:Int):=w64 (by omega) (by omega)
   have f2:aI 2 (.ptr c.mb 0 0)=some (.ptr c.mb 0 2):=rfl
   refine⟨.ret,Vv c.bb b p f r fuel (.ptr h1.n 0 0) (.bool true) (.bool true),_,?_,⟨_,_,_,rfl⟩,rfl,fb',r2,hv2,s5.drop⟩
   rw[aF iM.eq_1]
   simp only[sim,ag,reduceAdd,reduceSub,replicate,reduceCtorEq,reduceLeDiff,reduceLT,aa,ay,c0,e1,o1,o2,o3,o4,e2,cm,cp,cf,co,cm3,cp3,cf3,cu3,cc4,w,f2]
 | @fail m S k ok hs=>
   intro hq n h x y z hn s
   subst hn
   have a6:=B1 (c:=c) (b:=b) (mb:=c.mb) (code:=0) (used:=0) (out:=zR3) (fuel:=fuel) (r:=r) hL n
   obtain⟨fr,h1,e1,ob⟩:=xC s a6 hc hm ok fun m'' e=>by rw[hs]at e;cases e
   rw[hs]at ob
   obtain⟨rfl,n',hn',s1⟩:=ob
   rw[Oz]at s1
   have c0:=(s.cell 0 rfl).1
   refine⟨.panic (.iface tGo (.int .i64 k)),Vv c.bb b p f r fuel x y z,_,?_,⟨_,_,_,rfl⟩,rfl,n',hn',s1⟩
   rw[aF iM.eq_1]
   simp only[sim,ag,reduceAdd,reduceSub,replicate,reduceCtorEq,reduceLeDiff,reduceLT,aa,ay,c0,e1]
end
open Go Go.RowKit
abbrev rsR:List kU:=[.cell true 3 7,.cell false 1 8,.cell false 1 9]
noncomputable def zX (V:List AV) (h:AH):Option ((AV ⊕ AV)×AH):=((eS V h rsR).map fC).map fun v=>(.inl v,h)
noncomputable def wV (x:jm) (k:List AV→AH→Option ((AV ⊕ AV)×AH)):Option ((AV ⊕ AV)×AH):=match x with
 | some (.halt _,V,h)=>k V h
 | some (.ret,V,h)=>zX V h
 | _=>none
noncomputable def C9 (args:List AV) (h:AH) (x:jm):Option ((AV ⊕ AV)×AH):=match x with
 | some (.ret,V,h6)=>zX V h6
 | some (.panic (.iface _ (.int _ k)),V,h6)=>match h6.cell (h.n+1+1+1+1+1),args with
   | some [[_,_,.int _ left]],[_,_,_,_,.int _ fuel]=>zX V (((h6.set (h.n+1+1) (some [zR3])).set (h.n+1+1+1) (some [[.int .i64 (fuel - left)]])).set (h.n+1+1+1+1) (some [[.int .i64 k]]))
   | _,_=>none
 | _=>none
noncomputable abbrev mz:=aj (Tryz.prog) po
noncomputable def Ed (args:List AV) (h:AH):Option ((AV ⊕ AV)×AH):=
 wV (aq mz 18 [.ss xb,.halt [.code cR1]] (args++replicate (vRu.length - args.length) .junk) [] h) fun V1 h1=>
 wV (aq mz 18 [.ss lK,.halt [.code cR2]] V1 [] h1) fun V2 h2=>
 wV (aq mz 18 [.ss wH,.halt [.code cR3]] V2 [] h2) fun V3 h3=>
 wV (aq mz 18 [.ss wT,.halt [.code cR4]] V3 [] h3) fun V4 h4=>
 wV (aq mz 18 [.ss wA,.halt [.code cR5]] V4 [] h4) fun V5 h5=>
 C9 args h (aq mz 18 [.ss rR,.halt []] V5 [] h5)
def MD (F J:Nat→Prop) (bb gb wb:Nat) (ms:aM) (S:StD) (h:AH) (d:StD×VD×Int×Int) (q:(AV ⊕ AV)×AH):Prop:=
 ∃ r' h',q=(.inl (.tup [.agg r',.int .i64 d.2.2.1,.int .i64 d.2.2.2]),h')∧VaA d.2.1 r'∧Did h F J h' (aX [dA bb gb wb ms d.1.kept,bp gb d.1.G,bk wb d.1.cells d.1.log])
def Dd (F J:Nat→Prop) (bb gb wb:Nat) (ms:aM) (S:StD) (h:AH) (args:List AV) (d:StD×VD×Int×Int):Prop:=∃ q,Ed args h=some q∧AC Tryz.prog eU args h q∧MD F J bb gb wb ms S h d q
section
variable {h h' h0:AH} {F J F0 J0:Nat→Prop} {L:List Asn} {bb gb wb:Nat} {ms:aM} {S:StD} {p f fuel:Int} {v:VD} {r:List AV}
abbrev dY (b:Nat) (code used:Int) (out:List AV) (fuel:Int) (r:List AV) (L:List Asn):List Asn:=
 ai (b+1+1+1+1) [[.int .i64 code]]::ai (b+1+1+1) [[.int .i64 used]]::ai (b+1+1) [out]::ai (b+1) [[.int .i64 fuel]]::ai b [r]::L
abbrev V5q (bb b:Nat) (p f:Int) (r:List AV) (fuel:Int) (c x y z:AV):List AV:=
 [.ptr bb 0 0,.int .i64 p,.int .i64 f,.agg r,.int .i64 fuel,.ptr b 0 0,.ptr (b+1) 0 0,.ptr (b+1+1) 0 0,.ptr (b+1+1+1) 0 0,.ptr (b+1+1+1+1) 0 0,c,.junk,.junk,.junk,x,y,z,.junk]
abbrev h5q (h:AH) (r:List AV) (fuel:Int):AH:=((((h.push [r]).push [[.int .i64 fuel]]).push [zR3]).push [[.int .i64 0]]).push [[.int .i64 0]]
abbrev nP (bb:Nat) (p f:Int) (r:List AV) (fuel:Int):List AV:=[.ptr bb 0 0,.int .i64 p,.int .i64 f,.agg r,.int .i64 fuel]
theorem oK (hv:VaA v r):aq mz 18 [.ss xb,.halt [.code cR1]] (nP bb p f r fuel++replicate (vRu.length - (nP bb p f r fuel).length) .junk) [] h=some (.halt [.code cR1],V5q bb h.n p f r fuel .junk .junk .junk .junk,h5q h r fuel):=by
 obtain⟨o1,o2⟩:=hv.len3
 unfold xb
 simp only[sim,ag,reduceAdd,reduceSub,replicate,reduceCtorEq,reduceLeDiff,reduceLT,aa,o1,o2]
theorem oQ (s:St h0 F0 J0 h L):St h0 F0 J0 (h5q h r fuel) (dY h.n 0 0 zR3 fuel r L):=((((s.push [r]).push [[.int .i64 fuel]]).push [zR3]).push [[.int .i64 0]]).push [[.int .i64 0]]
theorem xO {V:List AV} {h':AH} {o u c:Nat} {r':List AV} {used code:Int} (h7:V.getD 7 .junk= .ptr o 0 0) (h8:V.getD 8 .junk= .ptr u 0 0) (h9:V.getD 9 .junk= .ptr c 0 0) (ho:h'.cell o=some [r']) (hr:r'.length=3) (hu:h'.cell u=some [[.int .i64 used]]) (hc:h'.cell c=some [[.int .i64 code]]):
  (eS V h' rsR).map fC=some (.tup [.agg r',.int .i64 used,.int .i64 code]):=by
 have e1:aD true 3 h' (.ptr o 0 0)=some (.agg r'):=by rw[bC,ho];exact bq hr
 have e2:aD false 1 h' (.ptr u 0 0)=some (.int .i64 used):=by rw[bC,hu];rfl
 have e3:aD false 1 h' (.ptr c 0 0)=some (.int .i64 code):=by rw[bC,hc];rfl
 simp only[eS,h7,h8,h9,e1,e2,e3,Option.bind_some,Option.map_some,fC]
theorem Jy (hv:VaA v r):mS Tryz.prog po eU 93 vRu (nP bb p f r fuel) h (.halt [.code cR1]) (V5q bb h.n p f r fuel .junk .junk .junk .junk) (h5q h r fuel):=
 (mS.start uM Ka PH (O9 _ _ _ _ _)).next (nv:=18) pok Nl (bO lL) NQ Jv (oK hv)
abbrev AG (h:AH) (r:List AV) (fuel code:Int):AH:=(((h5q h r fuel).set (h.n+1+1) (some [zR3])).set (h.n+1+1+1) (some [[.int .i64 0]])).set (h.n+1+1+1+1) (some [[.int .i64 code]])
theorem Ik (s:St h0 F0 J0 h L) (code:Int):St h0 F0 J0 (AG h r fuel code) (dY h.n code 0 zR3 fuel r L):=by
 have s1:St h0 F0 J0 (h5q h r fuel) (dY h.n 0 0 zR3 fuel r L):=oQ s
 have s2:St h0 F0 J0 _ (dY h.n 0 0 zR3 fuel r L):=s1.set 2 rfl [zR3]
 have s3:St h0 F0 J0 _ (dY h.n 0 0 zR3 fuel r L):=s2.set 1 rfl [[.int .i64 0]]
 exact s3.set 0 rfl [[.int .i64 code]]
theorem mf {V:List AV} (h7:V.getD 7 .junk= .ptr (h.n+1+1) 0 0) (h8:V.getD 8 .junk= .ptr (h.n+1+1+1) 0 0) (h9:V.getD 9 .junk= .ptr (h.n+1+1+1+1) 0 0) (s:St h0 F0 J0 h L) (code:Int):(eS V (AG h r fuel code) rsR).map fC=some (.tup [.agg zR3,.int .i64 0,.int .i64 code]):=by
 have s1:St h0 F0 J0 (AG h r fuel code) (dY h.n code 0 zR3 fuel r L):=Ik s code
 exact xO h7 h8 h9 (s1.cell 2 rfl).1 rfl (s1.cell 1 rfl).1 (s1.cell 0 rfl).1
theorem sb (x:(aX [dA bb gb wb ms S.kept,bp gb S.G,bk wb S.cells S.log]).A h F J) (code:Int):MD F J bb gb wb ms S h (S,au,0,code) (.inl (.tup [.agg zR3,.int .i64 0,.int .i64 code]),AG h r fuel code):=
 ⟨zR3,_,rfl,ee,(Ik (St.start x) code).drop.drop.drop.drop.drop⟩
theorem yF (hv:VaA v r) (x:(aX [dA bb gb wb ms S.kept,bp gb S.G,bk wb S.cells S.log]).A h F J) (hr:fuel<0∨2000<fuel∨p<0∨4≤p):Dd F J bb gb wb ms S h (nP bb p f r fuel) (S,au,0,1):=by
 have s1:St h F J (h5q h r fuel) (dY h.n 0 0 zR3 fuel r _):=oQ (St.start x)
 have c1:=(s1.cell 0 rfl).1
 have c2:=(s1.cell 1 rfl).1
 have c3:=(s1.cell 2 rfl).1
 have c4:=(s1.cell 3 rfl).1
 have s2:St h F J _ (dY h.n 0 0 zR3 fuel r _):=s1.set 2 rfl [zR3]
 have d2:=(s2.cell 1 rfl).1
 have s3:St h F J _ (dY h.n 0 0 zR3 fuel r _):=s2.set 1 rfl [[.int .i64 0]]
 have e2:=(s3.cell 0 rfl).1
 have run:aq mz 18 [.ss lK,.halt [.code cR2]] (V5q bb h.n p f r fuel .junk .junk .junk .junk) [] (h5q h r fuel)=some (.ret,V5q bb h.n p f r fuel .junk (.bool true) .junk .junk,AG h r fuel 1):=by
  unfold lK
  by_cases h1:fuel<0
  ·have k1:decide (fuel<0)=true:=decide_eq_true h1
   simp only[sim,ag,reduceAdd,reduceSub,replicate,reduceCtorEq,reduceLeDiff,reduceLT,aa,c1,c2,c3,c4,d2,e2,k1]
  ·have k1:decide (fuel<0)=false:=decide_eq_false h1
   by_cases h2:2000<fuel
   ·have k2:decide (2000<fuel)=true:=decide_eq_true h2
    simp only[sim,ag,reduceAdd,reduceSub,replicate,reduceCtorEq,reduceLeDiff,reduceLT,aa,c1,c2,c3,c4,d2,e2,k1,k2]
   ·have k2:decide (2000<fuel)=false:=decide_eq_false h2
    by_cases h3:p<0
    ·have k3:decide (p<0)=true:=decide_eq_true h3
     simp only[sim,ag,reduceAdd,reduceSub,replicate,reduceCtorEq,reduceLeDiff,reduceLT,aa,c1,c2,c3,c4,d2,e2,k1,k2,k3]
    ·have k3:decide (p<0)=false:=decide_eq_false h3
     have k4:decide (4≤p)=true:=decide_eq_true (by omega)
     simp only[sim,ag,reduceAdd,reduceSub,replicate,reduceCtorEq,reduceLeDiff,reduceLT,aa,c1,c2,c3,c4,d2,e2,k1,k2,k3,k4]
 refine⟨_,?_,((Jy hv).next (nv:=18) pok qC (bO lL) ww qI run).ret uM rp (mf rfl rfl rfl (St.start x) 1),sb x 1⟩
 unfold Ed
 rw[oK hv]
 simp only[wV]
 rw[run]
 simp only[zX]
 rw[mf rfl rfl rfl (St.start x) 1]
 rfl
theorem Oo {i:Nat} (s:St h0 F0 J0 h L) {kept:List VD} (hi:L[i]? =some (dA bb gb wb ms kept)) (hl:ms.length=kept.length) (h4:ms.length=4) {P:Nat} (hp:P<4):(∀ q:IntKind,bX none (some (4,5)) (.ptr bb 0 2) (.int q (P:Int))=some (.ptr bb 0 (2+P*5)))∧(∀ k:Nat,aD false k h (.ptr bb 0 (2+P*5))=some (.bool (ms.getD P none).isSome))∧(∀ k:Nat,aD false k h (.ptr bb 0 (2+P*5+1))=some (iT (ms.getD P none))):=by
 obtain⟨F,J,x⟩:=s.get i hi
 obtain⟨row,c1,cn,_,_,_,hpl⟩:=wy x hl
 obtain⟨q1,q2,_⟩:=hpl P (by rw[h4];exact hp)
 refine⟨fun q=>by simp[bX,hp],fun k=> ?_,fun k=> ?_⟩
 ·rw[bC,c1,Option.bind_some,List.getElem?_cons_zero,Option.bind_some,fD,q1]
 ·rw[bC,c1,Option.bind_some,List.getElem?_cons_zero,Option.bind_some,fD,q2]
theorem vo (m:Option (List XD)):dH (iT m)=some (m.getD []).length∧∀ s,du s (some tFs) (iT m)=true:=by
 cases m with
 | none=>exact⟨rfl,fun s=>rfl⟩
 | some L=>exact⟨(eD L).1,fun s=>(eD L).2.1 s⟩
theorem Bf (hv:VaA v r) (x:(aX [dA bb gb wb ms S.kept,bp gb S.G,bk wb S.cells S.log]).A h F J) (h4:ms.length=4) (hS:S.Good) (hr:¬ (fuel<0∨2000<fuel∨p<0∨4≤p)) (hn:(ms.getD p.toNat none).isNone∨f<0∨((cH ms p).length:Int)≤f):Dd F J bb gb wb ms S h (nP bb p f r fuel) (S,au,0,8):=by
 have s1:St h F J (h5q h r fuel) (dY h.n 0 0 zR3 fuel r [dA bb gb wb ms S.kept,bp gb S.G,bk wb S.cells S.log]):=oQ (St.start x)
 have c1:=(s1.cell 0 rfl).1
 have c2:=(s1.cell 1 rfl).1
 have c3:=(s1.cell 2 rfl).1
 have c4:=(s1.cell 3 rfl).1
 have s2:St h F J _ (dY h.n 0 0 zR3 fuel r _):=s1.set 2 rfl [zR3]
 have d2:=(s2.cell 1 rfl).1
 have s3:St h F J _ (dY h.n 0 0 zR3 fuel r _):=s2.set 1 rfl [[.int .i64 0]]
 have e2:=(s3.cell 0 rfl).1
 have k1:decide (fuel<0)=false:=decide_eq_false (by omega)
 have k2:decide (2000<fuel)=false:=decide_eq_false (by omega)
 have k3:decide (p<0)=false:=decide_eq_false (by omega)
 have k4:decide (4≤p)=false:=decide_eq_false (by omega)
 obtain⟨P,hP⟩:=Int.eq_ofNat_of_zero_le (show 0≤p by omega)
 subst hP
 obtain⟨ix,b0,b1⟩:=Oo s1 (i:=5) (kept:=S.kept) rfl (h4.trans hS.kept.symm) h4 (P:=P) (by omega)
 obtain⟨cl,cf⟩:=vo (ms.getD P none)
 have f2:aI 2 (.ptr bb 0 0)=some (.ptr bb 0 2):=rfl
 have f0:aI 0 (.ptr bb 0 (2+P*5))=some (.ptr bb 0 (2+P*5)):=rfl
 have f1:aI 1 (.ptr bb 0 (2+P*5))=some (.ptr bb 0 (2+P*5+1)):=rfl
 have run:aq mz 18 [.ss lK,.halt [.code cR2]] (V5q bb h.n P f r fuel .junk .junk .junk .junk) [] (h5q h r fuel)=some (.ret,V5q bb h.n P f r fuel .junk (.bool false) (.bool true) .junk,AG h r fuel 8):=by
  unfold lK
  by_cases h1:(ms.getD P none).isSome=true
  ·by_cases h2:f<0
   ·have k5:decide (f<0)=true:=decide_eq_true h2
    simp only[sim,ag,reduceAdd,reduceSub,replicate,reduceCtorEq,reduceLeDiff,reduceLT,aa,c1,c2,c3,c4,d2,e2,k1,k2,k3,k4,ix,b0,b1,f0,f1,f2,h1,k5]
   ·have k5:decide (f<0)=false:=decide_eq_false h2
    have k6:decide ((((ms.getD P none).getD []).length:Int)≤f)=true:=decide_eq_true (by
     rcases hn with hn | hn | hn
     ·rw[show((P:Nat):Int).toNat=P from rfl]at hn
      cases hm:ms.getD P none with
      | none=>rw[hm]at h1;cases h1
      | some l=>rw[hm]at hn;cases hn
     ·exact absurd hn h2
     ·exact hn)
    simp only[sim,ag,reduceAdd,reduceSub,replicate,reduceCtorEq,reduceLeDiff,reduceLT,aa,c1,c2,c3,c4,d2,e2,k1,k2,k3,k4,ix,b0,b1,f0,f1,f2,h1,k5,cl,cf,k6]
  ·have h1':(ms.getD P none).isSome=false:=by simpa using h1
   simp only[sim,ag,reduceAdd,reduceSub,replicate,reduceCtorEq,reduceLeDiff,reduceLT,aa,c1,c2,c3,c4,d2,e2,k1,k2,k3,k4,ix,b0,b1,f0,f1,f2,h1']
 refine⟨_,?_,((Jy hv).next (nv:=18) pok qC (bO lL) ww qI run).ret uM rp (mf rfl rfl rfl (St.start x) 8),sb x 8⟩
 unfold Ed
 rw[oK hv]
 simp only[wV]
 rw[run]
 simp only[zX]
 rw[mf rfl rfl rfl (St.start x) 8]
 rfl
theorem HD (s1:St h0 F0 J0 (h5q h r fuel) (dY h.n 0 0 zR3 fuel r (dA bb gb wb ms S.kept::L))) (h4:ms.length=4) (hS:S.Good) (hr:¬ (fuel<0∨2000<fuel∨p<0∨4≤p)) (hn:¬ ((ms.getD p.toNat none).isNone∨f<0∨((cH ms p).length:Int)≤f)):
  aq mz 18 [.ss lK,.halt [.code cR2]] (V5q bb h.n p f r fuel .junk .junk .junk .junk) [] (h5q h r fuel)=some (.halt [.code cR2],V5q bb h.n p f r fuel .junk (.bool false) (.bool false) .junk,h5q h r fuel):=by
 have c4:=(s1.cell 3 rfl).1
 have k1:decide (fuel<0)=false:=decide_eq_false (by omega)
 have k2:decide (2000<fuel)=false:=decide_eq_false (by omega)
 have k3:decide (p<0)=false:=decide_eq_false (by omega)
 have k4:decide (4≤p)=false:=decide_eq_false (by omega)
 obtain⟨P,hP⟩:=Int.eq_ofNat_of_zero_le (show 0≤p by omega)
 subst hP
 obtain⟨ix,b0,b1⟩:=Oo s1 (i:=5) (kept:=S.kept) rfl (h4.trans hS.kept.symm) h4 (P:=P) (by omega)
 obtain⟨cl,cf⟩:=vo (ms.getD P none)
 have f2:aI 2 (.ptr bb 0 0)=some (.ptr bb 0 2):=rfl
 have f0:aI 0 (.ptr bb 0 (2+P*5))=some (.ptr bb 0 (2+P*5)):=rfl
 have f1:aI 1 (.ptr bb 0 (2+P*5))=some (.ptr bb 0 (2+P*5+1)):=rfl
 have hn1:¬ (ms.getD P none).isNone=true:=fun e=>hn (.inl e)
 have h1:(ms.getD P none).isSome=true:=by cases hm:ms.getD P none with
  | none=>rw[hm]at hn1;exact absurd rfl hn1
  | some l=>rfl
 have k5:decide (f<0)=false:=decide_eq_false fun e=>hn (.inr (.inl e))
 have k6:decide ((((ms.getD P none).getD []).length:Int)≤f)=false:=decide_eq_false fun e=>hn (.inr (.inr e))
 unfold lK
 simp only[sim,ag,reduceAdd,reduceSub,replicate,reduceCtorEq,reduceLeDiff,reduceLT,aa,c4,k1,k2,k3,k4,ix,b0,b1,f0,f1,f2,h1,k5,cl,cf,k6]
theorem D2 (s1:St h0 F0 J0 (h5q h r fuel) (dY h.n 0 0 zR3 fuel r L)) (hv:VaA v r):aq mz 18 [.ss wH,.halt [.code cR3]] (V5q bb h.n p f r fuel .junk (.bool false) (.bool false) .junk) [] (h5q h r fuel)=
  if v.code=0 then some (.halt [.code cR3],V5q bb h.n p f r fuel (.int .i64 0) (.bool false) (.bool false) (.bool false),h5q h r fuel)else some (.ret,V5q bb h.n p f r fuel (.int .i64 v.code) (.bool false) (.bool false) (.bool true),AG h r fuel v.code):=by
 have c1:=(s1.cell 0 rfl).1
 have c2:=(s1.cell 1 rfl).1
 have c3:=(s1.cell 2 rfl).1
 have c5:=(s1.cell 4 rfl).1
 have s2:St h0 F0 J0 _ (dY h.n 0 0 zR3 fuel r _):=s1.set 2 rfl [zR3]
 have d2:=(s2.cell 1 rfl).1
 have s3:St h0 F0 J0 _ (dY h.n 0 0 zR3 fuel r _):=s2.set 1 rfl [[.int .i64 0]]
 have e2:=(s3.cell 0 rfl).1
 have ck:=kf (h:=h5q h r fuel) hv
 obtain⟨o1,o2⟩:=hv.len3
 unfold wH
 by_cases hz:v.code=0
 ·have k:decide (v.code=0)=true:=decide_eq_true hz
  rw[if_pos hz]
  rw[hz]at ck k
  simp only[sim,ag,reduceAdd,reduceSub,replicate,reduceCtorEq,reduceLeDiff,reduceLT,aa,ay,c1,c2,c3,c5,d2,e2,o1,o2,ck,k]
 ·have k:decide (v.code=0)=false:=decide_eq_false hz
  rw[if_neg hz]
  simp only[sim,ag,reduceAdd,reduceSub,replicate,reduceCtorEq,reduceLeDiff,reduceLT,aa,ay,c1,c2,c3,c5,d2,e2,o1,o2,ck,k]
end
open Go Go.RowKit
section
variable {h h' h0:AH} {F J F0 J0:Nat→Prop} {L:List Asn} {bb gb wb:Nat} {ms:aM} {S:StD} {p f fuel:Int} {v:VD} {r:List AV}
theorem KM {mb fb:Nat} {left:Int} {top:FrD} {a:List AV} {g:AV} (ha:VaA top.arg a) (hg:SlA 3 g (bh top.gates)) (hs:top.stack=[]) (hn:top.names=[]) (x:(aX (ai mb [[.ptr bb 0 0,.msl fb 0 1 tFr,.int .i64 left]]::ai fb [cP top a .nils .nils g]::L)).A h F J):(aX (eu mb bb fb left [] top::L)).A h F J:=by
 refine eZ (fun h F J x=> ?_) (fun _ _ _ y=>y) (oX x)
 obtain⟨F1,J1,F2,J2,x1,x2,r⟩:=x
 refine⟨⟨[],cP top a .nils .nils g,[]⟩,F1,J1,F2,J2,x1,⟨F2,J2,fun _=>False,fun _=>False,x2,⟨fun _=>False,fun _=>False,fun _=>False,fun _=>False,uB ha hg hs hn,⟨trivial,fun _ h=>h,fun _ h=>h⟩,fun k=>by simp,fun j=>by simp,fun _ h=>h.elim,fun _ h=>h.elim⟩,fun k=>by simp,fun j=>by simp,fun _ _ h=>h,fun _ _ h=>h⟩,r⟩
abbrev yc (p f:Int) (v:VD):FrD:=⟨p,f,0,v,[],[],false,[]⟩
abbrev h7q (h:AH) (bb:Nat) (r:List AV) (fuel:Int):AH:=((h5q h r fuel).push [[.ptr bb 0 0,.nils,.int .i64 fuel]]).push [[.ptr (h.n+1+1+1+1+1) 0 0]]
abbrev fbq (h:AH):Nat:=h.n+1+1+1+1+1+1+1
abbrev h8q (h:AH) (bb:Nat) (p f:Int) (v:VD) (r r2:List AV) (fuel:Int):AH:=((h7q h bb r fuel).push [cP (yc p f v) r2 .nils .nils .nils]).set (h.n+1+1+1+1+1) (some [[.ptr bb 0 0,.msl (fbq h) 0 1 tFr,.int .i64 fuel]])
theorem Ju (s1:St h0 F0 J0 (h5q h r fuel) (dY h.n 0 0 zR3 fuel r L)):aq mz 18 [.ss wT,.halt [.code cR4]] (V5q bb h.n p f r fuel (.int .i64 0) (.bool false) (.bool false) (.bool false)) [] (h5q h r fuel)=
  some (.halt [.code cR4],Vv bb h.n p f r fuel .junk .junk .junk,h7q h bb r fuel):=by
 have c4:=(s1.cell 3 rfl).1
 have c5:((((h5q h r fuel).push [[.ptr bb 0 0,.nils,.int .i64 fuel]]).push [[.nilp]]).cell (h.n+1+1+1+1+1+1))=some [[.nilp]]:=aC (h:=(h5q h r fuel).push [[.ptr bb 0 0,.nils,.int .i64 fuel]])
 have c6:∀ x,(((h5q h r fuel).push [[.ptr bb 0 0,.nils,.int .i64 fuel]]).push [[.nilp]]).set (h.n+1+1+1+1+1+1) (some x)=((h5q h r fuel).push [[.ptr bb 0 0,.nils,.int .i64 fuel]]).push x:=fun x=>bm (h:=(h5q h r fuel).push [[.ptr bb 0 0,.nils,.int .i64 fuel]])
 unfold wT
 simp only[sim,ag,reduceAdd,reduceSub,replicate,reduceCtorEq,reduceLeDiff,reduceLT,aa,c4,c5,c6]
theorem yU (s1:St h0 F0 J0 (h5q h r fuel) (dY h.n 0 0 zR3 fuel r L)):St h0 F0 J0 (h7q h bb r fuel) (ai (h.n+1+1+1+1+1+1) [[.ptr (h.n+1+1+1+1+1) 0 0]]::ai (h.n+1+1+1+1+1) [[.ptr bb 0 0,.nils,.int .i64 fuel]]::dY h.n 0 0 zR3 fuel r L):=
 (s1.push _).push _
set_option maxRecDepth 100000 in
theorem KW (s1:St h0 F0 J0 (h5q h r fuel) (dY h.n 0 0 zR3 fuel r L)) (hv:VaA v r) (hvs:v.size≤100000):∃ r2,VaA v r2∧aq mz 18 [.ss wA,.halt [.code cR5]] (Vv bb h.n p f r fuel .junk .junk .junk) [] (h7q h bb r fuel)=
  some (.halt [.code cR5],Vv bb h.n p f r fuel .junk .junk .junk,h8q h bb p f v r r2 fuel):=by
 obtain⟨r2,e2,hv2⟩:=Ai _ v (Nat.le_refl _) hvs r (h7q h bb r fuel) hv
 have hv2:VaA v r2:=by rw[id_eq]at hv2;exact hv2
 refine⟨r2,hv2,?_⟩
 obtain⟨o1,o2⟩:=hv.len3
 obtain⟨o3,o4⟩:=hv2.len3
 have s7:St h0 F0 J0 (h7q h bb r fuel) (ai (h.n+1+1+1+1+1+1) [[.ptr (h.n+1+1+1+1+1) 0 0]]::ai (h.n+1+1+1+1+1) [[.ptr bb 0 0,.nils,.int .i64 fuel]]::dY h.n 0 0 zR3 fuel r L):=yU s1
 have c0:=(s7.cell 0 rfl).1
 have c6:=(s7.cell 6 rfl).1
 have s8:=s7.push [cP (yc p f v) r2 .nils .nils .nils]
 have d0:=(s8.cell 1 rfl).1
 have d1:=(s8.cell 2 rfl).1
 have f1:aI 1 (.ptr (h.n+1+1+1+1+1) 0 0)=some (.ptr (h.n+1+1+1+1+1) 0 1):=rfl
 obtain⟨y0,y1,y2,rfl⟩:∃ a b c,r2=[a,b,c]:=by match r2,o3 with | [a,b,c],_=>exact⟨a,b,c,rfl⟩
 simp only[List.all_cons,List.all_nil,Bool.and_true,Bool.and_eq_true]at o4
 obtain⟨z3,z4,z5⟩:=o4
 have en:(h7q h bb r fuel).n=fbq h:=rfl
 unfold h8q
 generalize h7q h bb r fuel=hx at*
 simp only[cP,Int.natCast_zero,List.cons_append,List.nil_append]at d0 d1 ⊢
 unfold wA
 simp only[sim,ag,reduceAdd,reduceSub,replicate,reduceCtorEq,reduceLeDiff,reduceLT,aa,ay,c0,c6,o1,o2,e2,d0,d1,f1,z3,z4,z5,en]
abbrev mb5 (h:AH):Nat:=h.n+1+1+1+1+1
abbrev L4 (h:AH) (bb gb wb:Nat) (ms:aM) (S:StD) (p f:Int) (v:VD):List Asn:=[eu (mb5 h) bb (fbq h) (S.left:Int) [] (yc p f v),dA bb gb wb ms S.kept,bp gb S.G,bk wb S.cells S.log]
theorem HC {r2:List AV} (s1:St h0 F0 J0 (h5q h r fuel) (dY h.n 0 0 zR3 fuel r [dA bb gb wb ms S.kept,bp gb S.G,bk wb S.cells S.log])) (hv2:VaA v r2) (hf:(S.left:Int)=fuel):St h0 F0 J0 (h8q h bb p f v r r2 fuel) (six h.n (mb5 h) 0 0 zR3 fuel r (L4 h bb gb wb ms S p f v)):=by
 have s7:St h0 F0 J0 (h7q h bb r fuel) (ai (h.n+1+1+1+1+1+1) [[.ptr (h.n+1+1+1+1+1) 0 0]]::ai (h.n+1+1+1+1+1) [[.ptr bb 0 0,.nils,.int .i64 fuel]]::dY h.n 0 0 zR3 fuel r [dA bb gb wb ms S.kept,bp gb S.G,bk wb S.cells S.log]):=yU s1
 have s8:=s7.push [cP (yc p f v) r2 .nils .nils .nils]
 have s9:=s8.set 2 rfl [[.ptr bb 0 0,.msl (fbq h) 0 1 tFr,.int .i64 fuel]]
 have s10:=s9.front 2 rfl
 have s11:St h0 F0 J0 (h8q h bb p f v r r2 fuel) (eu (mb5 h) bb (fbq h) (S.left:Int) [] (yc p f v)::([ai (h.n+1+1+1+1+1+1) [[.ptr (mb5 h) 0 0]],ai (h.n+1+1+1+1) [[.int .i64 0]],ai (h.n+1+1+1) [[.int .i64 0]],ai (h.n+1+1) [zR3],ai (h.n+1) [[.int .i64 fuel]],ai h.n [r]]++[dA bb gb wb ms S.kept,bp gb S.G,bk wb S.cells S.log])):=
  s10.imp fun _ _ _ x=>KM (top:=yc p f v) hv2 (.inl ⟨rfl,rfl⟩) rfl rfl (by rw[hf];exact x)
 exact s11.imp fun _ _ _=>St.perm List.perm_middle.symm
theorem Eh (hv:VaA v r) (hvs:v.size≤100000) (x:(aX [dA bb gb wb ms S.kept,bp gb S.G,bk wb S.cells S.log]).A h F J) (h4:ms.length=4) (hg:qh ms) (hm:kC ms) (hS:S.Good) (hlog:S.log.length≤900000) (hr:¬ (fuel<0∨2000<fuel∨p<0∨4≤p)) (hn:¬ ((ms.getD p.toNat none).isNone∨f<0∨((cH ms p).length:Int)≤f)) (hc:v.code=0):
  Dd F J bb gb wb ms S h (nP bb p f r fuel) (match ofD ms fuel.toNat p (cS ms p f) v [] 1 {S with left:=fuel.toNat}with
  | (S',w,c)=>({S' with left:=S.left},if c=0 then w else au,fuel - (S'.left:Int),c)):=by
 have s1:St h F J (h5q h r fuel) (dY h.n 0 0 zR3 fuel r [dA bb gb wb ms S.kept,bp gb S.G,bk wb S.cells S.log]):=oQ (St.start x)
 have rS:=HD (p:=p) (f:=f) s1 h4 hS hr hn
 have rC:=D2 (bb:=bb) (p:=p) (f:=f) s1 hv
 rw[if_pos hc]at rC
 have r1:=Ju (bb:=bb) (p:=p) (f:=f) s1
 obtain⟨r2,hv2,r2e⟩:=KW (bb:=bb) (p:=p) (f:=f) s1 hv hvs
 have hfl:((fuel.toNat:Nat):Int)=fuel:=Int.toNat_of_nonneg (by omega)
 have s8:St h F J (h8q h bb p f v r r2 fuel) (six h.n (mb5 h) 0 0 zR3 fuel r (L4 h bb gb wb ms {S with left:=fuel.toNat} p f v)):=HC (S:={S with left:=fuel.toNat}) s1 hv2 hfl
 have p1:=Jy (bb:=bb) (p:=p) (f:=f) (fuel:=fuel) (h:=h) hv
 have p2:=p1.next (nv:=18) pok qC (bO lL) ww qI rS
 have p3:=p2.next (nv:=18) pok Dq (bO lL) GK CI rC
 have p4:=p3.next (nv:=18) pok KE (bO lL) MR Jw r1
 have p5:=p4.next (nv:=18) pok Jx (bO lL) Nk Lf r2e
 have hQ:∀ q,C9 (nP bb p f r fuel) h (aq mz 18 [.ss rR,.halt []] (Vv bb h.n p f r fuel .junk .junk .junk) [] (h8q h bb p f v r r2 fuel))=some q→Ed (nP bb p f r fuel) h=some q:=fun q hq=>by
  unfold Ed
  rw[oK hv]
  simp only[wV]
  rw[rS]
  simp only
  rw[rC]
  simp only
  rw[r1]
  simp only
  rw[r2e]
  simp only
  exact hq
 have hS0:({S with left:=fuel.toNat}:StD).Good:=⟨hS.wf,hS.cells,hS.kept,hS.keptV⟩
 have hp0:0≤p:=by omega
 have hth:(ms.getD p.toNat none).isSome=true:=by
  cases hm:ms.getD p.toNat none with
  | none=>rw[hm]at hn;exact absurd (.inl rfl) hn
  | some l=>rfl
 have hf0:0≤f:=by
  rcases Int.lt_or_le f 0 with h | h
  ·exact absurd (.inr (.inl h)) hn
  ·exact h
 have hf1:f.toNat<(cH ms p).length:=by
  rcases Int.lt_or_le f ((cH ms p).length:Int)with h | h
  ·omega
  ·exact absurd (.inr (.inr h)) hn
 have runs:=Le hg (p:=p) (f:=f) (v:=v) (N:=fuel.toNat) hS0 (by unfold StD.mu;simp only;omega) (by simp only;omega) hc hp0 hth hf0 hf1 (Nat.le_refl _)
 have hox:=gW ms fuel.toNat p (cS ms p f) v [] 1 _ hS0 hc (by simp)
 have hle:=jJ ms fuel.toNat p (cS ms p f) v [] 1 {S with left:=fuel.toNat}
 generalize ofD ms fuel.toNat p (cS ms p f) v [] 1 {S with left:=fuel.toNat}=qq at runs hox hle ⊢
 obtain⟨S',w,c⟩:=qq
 simp only at runs hox hle ⊢
 have hl:∀ V h',aq mz 18 [.ss rR,.halt []] V [] h'=aq mz 18 [.lp iM,.ss [],.blk 1,.ss [],.halt []] V [] h':=fun V h'=>by
  unfold rR
  rw[wS,B8]
 rw[hl]at hQ
 have hcf:∃ fnC,(Tryz.prog).funcs[(fRc:Nat)]? =some fnC∧(fnC.body.isNone=false∧(fnC.name== "runtime.NumGoroutine")=false):=⟨_,Hk,by kernel_rfl,by kernel_rfl⟩
 have ne:∀ {a b:Nat},a<b→¬ (b=a):=fun h e=>by omega
 by_cases hz:c=0
 ·subst hz
  rw[if_neg (by simp)]at runs
  obtain⟨e,V',h3,e3,⟨x1,y1,z1,rfl⟩,rfl,fb',r',hv',s9⟩:=zd (c:=⟨mb5 h,bb,gb,wb,ms⟩) (L:=L4 h bb gb wb ms {S with left:=fuel.toNat} p f v) (b:=h.n) (p:=p) (f:=f) (r:=r) (fuel:=fuel) (show 3<4 by decide) h4 hm (by omega) runs ⟨by omega,by have:=(fA (hox.1.val rfl)).1;simp only at this;omega⟩ ⟨fbq h,{S with left:=fuel.toNat},[],yc p f v⟩ _ .junk .junk .junk rfl s8
  have hres:=xO (V:=Vv bb h.n p f r fuel x1 y1 z1) rfl rfl rfl (s9.cell 3 rfl).1 hv'.len3.1 (s9.cell 2 rfl).1 (s9.cell 1 rfl).1
  refine⟨_,hQ _ ?_,An (nv:=18) (caps:=[9,14,10,11,12]) (js:=[6,11,7,8,9]) pok p5 uM hcf (by decide) rfl (by decide) IH (bO lL) Ig CS ((hl _ _).trans e3) LE (.ret fun m w ps hw hps=>BK hw hps) rp hres,r',h3,rfl,hv',?_⟩
  ·rw[e3]
   simp only[C9,zX]
   rw[hres]
   rfl
  ·exact s9.drop.drop.drop.drop.drop.drop.drop
 ·rw[if_pos hz]at runs
  obtain⟨e,V',h3,e3,⟨x1,y1,z1,rfl⟩,rfl,n',hn',s9⟩:=zd (c:=⟨mb5 h,bb,gb,wb,ms⟩) (L:=L4 h bb gb wb ms {S with left:=fuel.toNat} p f v) (b:=h.n) (p:=p) (f:=f) (r:=r) (fuel:=fuel) (show 3<4 by decide) h4 hm (by omega) runs (show S'.left≤2000 by omega) ⟨fbq h,{S with left:=fuel.toNat},[],yc p f v⟩ _ .junk .junk .junk rfl s8
  subst hn'
  have s9:St h F J h3 (six h.n (mb5 h) 0 0 zR3 fuel r [eu (mb5 h) bb n'.fb (n'.S.left:Int) n'.below n'.top,dA bb gb wb ms n'.S.kept,bp gb n'.S.G,bk wb n'.S.cells n'.S.log]):=s9
  have k0:=(s9.cell 0 rfl).1
  have k1:=(s9.cell 1 rfl).1
  have k2:=(s9.cell 2 rfl).1
  have k3:=(s9.cell 3 rfl).1
  have k4:=(s9.cell 4 rfl).1
  obtain⟨ar,sv,nv,g,mv⟩:=dv s9 6 rfl
  have s10:St h F J _ (six h.n (mb5 h) 0 0 zR3 fuel r _):=s9.set 3 rfl [zR3]
  have s11:St h F J _ (six h.n (mb5 h) 0 (fuel - (n'.S.left:Int)) zR3 fuel r _):=s10.set 2 rfl [[.int .i64 (fuel - (n'.S.left:Int))]]
  have s12:St h F J _ (six h.n (mb5 h) c (fuel - (n'.S.left:Int)) zR3 fuel r [eu (mb5 h) bb n'.fb (n'.S.left:Int) n'.below n'.top,dA bb gb wb ms n'.S.kept,bp gb n'.S.G,bk wb n'.S.cells n'.S.log]):=s11.set 1 rfl [[.int .i64 c]]
  have hres:=xO (V:=Vv bb h.n p f r fuel x1 y1 z1) rfl rfl rfl (s12.cell 3 rfl).1 rfl (s12.cell 2 rfl).1 (s12.cell 1 rfl).1
  refine⟨_,hQ _ ?_,An (nv:=18) (caps:=[9,14,10,11,12]) (js:=[6,11,7,8,9]) pok p5 uM hcf (by decide) rfl (by decide) IH (bO lL) Ig CS ((hl _ _).trans e3) LE (.panic _ fun m w ps u hw hps hu=>Ep hw hps hu k4 k0 mv.m k3 rfl k2 k1 (ne (by omega)) (ne (by omega)) (ne (by omega)) (w64 (by omega) (by omega))) rp hres,zR3,((h3.set (h.n+1+1) (some [zR3])).set (h.n+1+1+1) (some [[.int .i64 (fuel - (n'.S.left:Int))]])).set (h.n+1+1+1+1) (some [[.int .i64 c]]),rfl,?_,?_⟩
  ·rw[e3]
   simp only[C9,mv.m,zX]
   rw[hres]
   rfl
  ·simp only
   rw[if_neg hz];exact ee
  ·exact s12.drop.drop.drop.drop.drop.drop.drop
theorem y9 (hv:VaA v r) (hvs:v.size≤100000) (x:(aX [dA bb gb wb ms S.kept,bp gb S.G,bk wb S.cells S.log]).A h F J) (h4:ms.length=4) (hg:qh ms) (hm:kC ms) (hS:S.Good) (hlog:S.log.length≤900000):Dd F J bb gb wb ms S h (nP bb p f r fuel) (cO ms p f v fuel S):=by
 unfold cO
 by_cases h1:fuel<0∨2000<fuel∨p<0∨4≤p
 ·rw[if_pos h1]
  exact yF hv x h1
 rw[if_neg h1]
 by_cases h2:(ms.getD p.toNat none).isNone∨f<0∨((cH ms p).length:Int)≤f
 ·rw[if_pos h2]
  exact Bf hv x h4 hS h1 h2
 rw[if_neg h2]
 by_cases h3:v.code=0
 ·rw[if_neg (fun e=>e h3)]
  exact Eh hv hvs x h4 hg hm hS hlog h1 h2 h3
 ·rw[if_pos h3]
  have s1:St h F J (h5q h r fuel) (dY h.n 0 0 zR3 fuel r [dA bb gb wb ms S.kept,bp gb S.G,bk wb S.cells S.log]):=oQ (St.start x)
  have rS:=HD (p:=p) (f:=f) s1 h4 hS h1 h2
  have rC:=D2 (bb:=bb) (p:=p) (f:=f) s1 hv
  rw[if_neg h3]at rC
  have p1:=Jy (bb:=bb) (p:=p) (f:=f) (fuel:=fuel) (h:=h) hv
  have p2:=p1.next (nv:=18) pok qC (bO lL) ww qI rS
  refine⟨_,?_,(p2.next (nv:=18) pok Dq (bO lL) GK CI rC).ret uM rp (mf rfl rfl rfl (St.start x) v.code),sb x v.code⟩
  unfold Ed
  rw[oK hv]
  simp only[wV]
  rw[rS]
  simp only
  rw[rC]
  simp only[zX]
  rw[mf rfl rfl rfl (St.start x) v.code]
  rfl
theorem KT (hv:VaA v r) (hvs:v.size≤100000) (x:(aX [dA bb gb wb ms S.kept,bp gb S.G,bk wb S.cells S.log]).A h F J) (h4:ms.length=4) (hg:qh ms) (hm:kC ms) (hS:S.Good) (hlog:S.log.length≤900000):
  ∃ h',(∃ r',aj Tryz.prog po eU (nP bb p f r fuel) h=some (.inl (.tup [.agg r',.int .i64 (cO ms p f v fuel S).2.2.1,.int .i64 (cO ms p f v fuel S).2.2.2]),h')∧VaA (cO ms p f v fuel S).2.1 r')∧
    Did h F J h' (aX [dA bb gb wb ms (cO ms p f v fuel S).1.kept,bp gb (cO ms p f v fuel S).1.G,bk wb (cO ms p f v fuel S).1.cells (cO ms p f v fuel S).1.log]):=by
 obtain⟨q,hq,ac,_⟩:=y9 (p:=p) (f:=f) (fuel:=fuel) hv hvs x h4 hg hm hS hlog
 have good:wn (nP bb p f r fuel) h q:=by
  intro F2 J2 bb2 gb2 wb2 ms2 S2 p2 f2 fuel2 v2 r2 ea hv2 hvs2 h42 hg2 hm2 hS2 hl2 x2
  injection ea with e1 ea
  injection ea with e2 ea
  injection ea with e3 ea
  injection ea with e4 ea
  injection ea with e5 ea
  injection e1 with e1
  injection e2 with _ e2
  injection e3 with _ e3
  injection e4 with e4
  injection e5 with _ e5
  subst e1 e2 e3 e4 e5
  obtain⟨q2,hq2,_,r',h',p1,p2,p3⟩:=y9 (p:=p) (f:=f) (fuel:=fuel) hv2 hvs2 x2 h42 hg2 hm2 hS2 hl2
  rw[hq]at hq2
  injection hq2 with hq2
  exact⟨r',h',hq2.trans p1,p2,p3⟩
 have H:∃ q,AC Tryz.prog eU (nP bb p f r fuel) h q∧wn (nP bb p f r fuel) h q:=⟨q,ac,good⟩
 obtain⟨r',h',e,hv',d⟩:=(Classical.choose_spec H).2 F J bb gb wb ms S p f fuel v r rfl hv hvs h4 hg hm hS hlog x
 refine⟨h',⟨r',?_,hv'⟩,d⟩
 unfold aj
 rw[Kv]
 show tH _ _=_
 unfold tH
 rw[dif_pos H,e]
end
section
variable {h h' h0:AH} {F J F0 J0:Nat→Prop} {L A B:List Asn} {X Y Z:Asn}
theorem Gy (y:Y.A h F J):(dw (wk True) Y).A h F J:=⟨fun _=>False,fun _=>False,F,J,⟨trivial,fun _ h=>h,fun _ h=>h⟩,y,fun k=>by simp,fun j=>by simp,fun _ h=>h.elim,fun _ h=>h.elim⟩
theorem Gq (x:(dw (wk True) Y).A h F J):Y.A h F J:=by
 obtain⟨F1,J1,F2,J2,⟨_,a,b⟩,y,hF,hJ,_,_⟩:=x
 have e1:F=F2:=by funext k;exact propext ⟨fun h=>((hF k).1 h).resolve_left (a k),fun h=>(hF k).2 (.inr h)⟩
 have e2:J=J2:=by funext k;exact propext ⟨fun h=>((hJ k).1 h).resolve_left (b k),fun h=>(hJ k).2 (.inr h)⟩
 rw[e1,e2];exact y
theorem aX.app:∀ {A B:List Asn} {h:AH} {F J:Nat→Prop},(aX (A++B)).A h F J↔(dw (aX A) (aX B)).A h F J
 | [],B,h,F,J=>⟨Gy,Gq⟩
 | X::A,B,h,F,J=>⟨fun x=>oX (eZ (fun _ _ _ y=>y) (fun _ _ _ y=>aX.app.1 y) x),fun x=>eZ (fun _ _ _ y=>y) (fun _ _ _ y=>aX.app.2 y) (iV x)⟩
theorem St.callL {M M':List Asn} {R:AH→Prop} (s:St h0 F0 J0 h (A++M++B)) (c:∀ F J,(aX M).A h F J→∃ h',R h'∧Did h F J h' (aX M')):∃ h',R h'∧St h0 F0 J0 h' (A++M'++B):=by
 have p:∀ M:List Asn,List.Perm (A++M++B) (M++(A++B)):=fun M=>by
  have:=(List.perm_append_comm (l₁:=A) (l₂:=M)).append_right B
  simpa[List.append_assoc]using this
 obtain⟨F,J,x,ch,a,b⟩:=s
 have x2:=aX.app.1 (St.perm (p M) x)
 obtain⟨h',r,d⟩:=vX x2 c
 exact⟨h',r,Did.chain ch a b (d.imp fun _ _ _ y=>St.perm (p M').symm (aX.app.2 y))⟩
end
theorem qc:∀ {ms:aM} {kept:List VD} {ks:List (List AV)} {p:Nat} {M:List XD} {v:VD} {r:List AV},VaL kept ks→ms.length=kept.length→p<ms.length→VaA v r→
  ∃ ks',VaL (kept.set p v) ks'∧stA (dE ms ks) (p*5) (.bool true::ei M::r)=dE (ms.set p (some M)) ks'
 | [],kept,ks,p,_,_,_,_,_,hp,_=>by simp at hp
 | m::ms,[],ks,p,_,_,_,_,hl,_,_=>by simp at hl
 | m::ms,k::kept,ks,p,M,v,r,h,hl,hp,hv=>by
   obtain⟨r0,rs,rfl,h1,h2⟩:=h
   have h3:=h1.len3.1
   have h4:=hv.len3.1
   match r0,h3,r,h4 with
   | [a,b,c],_,[x,y,z],_=>
     cases p with
     | zero=>exact⟨[x,y,z]::rs,⟨_,_,rfl,hv,h2⟩,rfl⟩
     | succ p=>
       obtain⟨ks',q1,q2⟩:=qc (ms:=ms) (p:=p) (M:=M) h2 (by simpa using hl) (by simpa using hp) hv
       refine⟨[a,b,c]::ks',⟨_,_,rfl,h1,q1⟩,?_⟩
       have:(p+1)*5=p*5+5:=by omega
       rw[this]
       unfold stA at q2 ⊢
       simp only[dE,List.set_cons_succ,List.cons_append,List.nil_append,List.take_succ_cons,List.length_cons,List.length_nil]
       rw[show p*5+5+(0+1+1+1+1+1)=p*5+5+5 by omega]
       simp only[List.drop_succ_cons]
       rw[←q2]
       simp
section
variable {h h' h0:AH} {F J F0 J0:Nat→Prop} {L:List Asn}
theorem HH {b gb wb:Nat} {ms:aM} {kept:List VD} (s:St h0 F0 J0 h L) (i:Nat) (hi:L[i]? =some (dA b gb wb ms kept)) (hl:ms.length=kept.length) {p:Nat} (hp:p<ms.length) {M:List XD} {v:VD} {r:List AV} (hv:VaA v r):
  ∃ h',aH 5 h (.ptr b 0 (2+p*5)) (.agg (.bool true::ei M::r))=some h'∧St h0 F0 J0 h' (L.set i (dA b gb wb (ms.set p (some M)) (kept.set p v))):=by
 refine s.call (R:=fun h'=>aH 5 h (.ptr b 0 (2+p*5)) (.agg (.bool true::ei M::r))=some h') i hi fun F J x=> ?_
 obtain⟨ks,hk,a1,a2,a3,a4⟩:=x
 obtain⟨ks',q1,q2⟩:=qc (M:=M) hk hl hp hv
 have hlen:=i8 hk hl
 have ho:(AV.bool true::ei M::r).all AV.one=true:=by
  simp only[List.all_cons,(eD M).2.2,hv.len3.2,Bool.and_true];rfl
 refine⟨_,bo (es:=[ka gb wb ms ks]) (e:=ka gb wb ms ks) a4 rfl ho (by simp[AV.cells,hv.len3.1]) (by simp only[ka,List.length_cons,hlen];omega),F,J,⟨ks',q1,a1,a2,a3,?_⟩,⟨Nat.le_refl _,Nat.le_refl _,fun k _ hk'=>be fun e=>hk' ((a1 k).2 e),fun _ _ _=>rfl⟩,fun _=> .inl,fun _=> .inl⟩
 rw[aP,List.set_cons_zero]
 have:stA (ka gb wb ms ks) (2+p*5) (.bool true::ei M::r)=ka gb wb (ms.set p (some M)) ks':=by
  unfold ka
  rw[←q2]
  unfold stA
  rw[show 2+p*5=p*5+1+1 by omega]
  simp only[List.take_succ_cons,List.cons_append]
  rw[show p*5+1+1+(AV.bool true::ei M::r).length=p*5+(AV.bool true::ei M::r).length+1+1 by omega]
  simp only[List.drop_succ_cons]
 simp only[AV.cells,this]
abbrev ms0:aM:=[none,none,none,none]
abbrev qU:List VD:=[au,au,au,au]
abbrev jg:List Int:=[0,0,0,0,0,0,0,0,0,0,0,0]
abbrev G0:ae:=⟨[],[]⟩
def Kj (l:Nat):StD:=⟨G0,jg,[],qU,l⟩
theorem Fp (l:Nat):(Kj l).Good:=⟨GW,rfl,rfl,fun v hv=>by
 have:v=au:=by simpa[Kj]using hv
 rw[this];exact dO⟩
theorem ED:(bp h.n G0).A (h.push [[.nils,.nils]]) (fun k=>k=h.n) (fun _=>False):=Lc h
theorem Fi {b:Nat} (hb:b=h.n):(bk b jg []).A (h.push [jg.map (AV.int .i64)++[AV.nils]]) (fun k=>k=b) (fun _=>False):=by
 subst hb
 exact⟨.nils,fun k=>k=h.n,fun _=>False,fun _=>False,fun _=>False,⟨fun _=>Iff.rfl,fun _ h=>h,Nat.lt_succ_self _,aC⟩,.inl ⟨⟨rfl,rfl⟩,fun _ h=>h,fun _ h=>h⟩,fun k=>by simp,fun j=>by simp,fun _ _ h=>h,fun _ h=>h.elim⟩
theorem Lh {b gb wb:Nat} (hb:b=h.n):(dA b gb wb ms0 qU).A (h.push [ka gb wb ms0 [zR3,zR3,zR3,zR3]]) (fun k=>k=b) (fun _=>False):=by
 subst hb
 exact⟨[zR3,zR3,zR3,zR3],⟨_,_,rfl,ee,_,_,rfl,ee,_,_,rfl,ee,_,_,rfl,ee,rfl⟩,fun _=>Iff.rfl,fun _ h=>h,Nat.lt_succ_self _,aC⟩
theorem Ge (s:St h0 F0 J0 h L):∃ h' bb gb wb,aj Tryz.prog po 39 [] h=some (.inl (.ptr bb 0 0),h')∧St h0 F0 J0 h' (dA bb gb wb ms0 qU::bp gb G0::bk wb jg []::L):=by
 have s1:St h0 F0 J0 _ (bp h.n G0::L):=s.add (af.push h _) ED (fun k hk=>Nat.le_of_eq hk.symm) (fun _ h=>h.elim)
 have s2:St h0 F0 J0 _ (bk (h.n+1) jg []::bp h.n G0::L):=s1.add (X:=bk (h.n+1) jg []) (h':=(h.push [[.nils,.nils]]).push [jg.map (AV.int .i64)++[AV.nils]]) (F1:=fun k=>k=h.n+1) (J1:=fun _=>False) (af.push _ _) (Fi (h:=h.push [[.nils,.nils]]) rfl) (fun k hk=>Nat.le_of_eq hk.symm) (fun _ h=>h.elim)
 have s3:St h0 F0 J0 _ (dA (h.n+1+1) h.n (h.n+1) ms0 qU::bk (h.n+1) jg []::bp h.n G0::L):=s2.add (X:=dA (h.n+1+1) h.n (h.n+1) ms0 qU) (h':=((h.push [[.nils,.nils]]).push [jg.map (AV.int .i64)++[AV.nils]]).push [ka h.n (h.n+1) ms0 [zR3,zR3,zR3,zR3]]) (F1:=fun k=>k=h.n+1+1) (J1:=fun _=>False) (af.push _ _) (Lh (h:=(h.push [[.nils,.nils]]).push [jg.map (AV.int .i64)++[AV.nils]]) rfl) (fun k hk=>Nat.le_of_eq hk.symm) (fun _ h=>h.elim)
 have s4:=s3.imp fun _ _ _ x=>St.perm (List.Perm.cons _ (List.Perm.swap _ _ _)) x
 obtain⟨h1,e1,rfl⟩:=Pg (h:=h)
 have e2:aj Tryz.prog po 77 [] (h.push [[.nils,.nils]])=some (.inl (.ptr (h.n+1) 0 0),(h.push [[.nils,.nils]]).push [jg.map (AV.int .i64)++[AV.nils]]):=by
  refine ah JK rfl ?_;unfold DV
  simp only[sim,ag,reduceAdd,reduceSub,replicate,reduceCtorEq,reduceLeDiff,reduceLT,aa]
 refine⟨_,h.n+1+1,h.n,h.n+1,?_,s4⟩
 refine ah Iw rfl ?_;unfold xW
 simp only[sim,ag,reduceAdd,reduceSub,replicate,reduceCtorEq,reduceLeDiff,reduceLT,aa,ay,e1,e2]
 rfl
variable {gb nb i j:Nat} {G H:ae}
theorem D9 {X:Asn} (hi:L[i]? =some X):L.set i X=L:=by
 have hl:i<L.length:=(List.getElem?_eq_some_iff.1 hi).1
 have:X=L[i]:=by have:=(List.getElem?_eq_some_iff.1 hi).2;exact this.symm
 rw[this];exact List.set_getElem_self hl
end
theorem rL:(Tryz.prog).underlying 3=some (.int .i64):=by kernel_rfl
theorem Kk {ms:aM} {S:StD} (hS:S.Good) {p f fuel:Int} {v:VD}:(cO ms p f v fuel S).1.Good∧(cO ms p f v fuel S).1.log.length≤S.log.length+2000∧((cO ms p f v fuel S).2.2.2=0→(cO ms p f v fuel S).2.1.code=0)∧(cO ms p f v fuel S).2.1.size≤100000:=by
 unfold cO
 have z:au.size≤100000:=by decide
 split
 ·exact⟨hS,by simp only;omega,fun h=>by simp at h,z⟩
 ·split
  ·exact⟨hS,by simp only;omega,fun h=>by simp at h,z⟩
  ·split
   ·rename_i h1;exact⟨hS,by simp only;omega,fun h=>absurd h h1,z⟩
   ·rename_i h1 h2 h3
    have hS0:({S with left:=fuel.toNat}:StD).Good:=⟨hS.wf,hS.cells,hS.kept,hS.keptV⟩
    have hox:=gW ms fuel.toNat p (cS ms p f) v [] 1 _ hS0 (by simpa using h3) (by simp)
    generalize ofD ms fuel.toNat p (cS ms p f) v [] 1 {S with left:=fuel.toNat}=q at hox
    obtain⟨S',w,c⟩:=q
    have g:=hox.1.good
    have m:=hox.1.mu
    unfold StD.mu at m
    simp only at g m ⊢
    refine⟨⟨g.wf,g.cells,g.kept,g.keptV⟩,by omega,fun hc=> ?_,?_⟩
    ·rw[if_pos hc];exact hox.1.val hc
    ·by_cases hc:c=0
     ·rw[if_pos hc]
      have:=(fA (hox.1.val hc)).1
      simp only at this
      omega
     ·rw[if_neg hc];exact z
def mK (ms:aM):Prop:=∀ M,some M∈ms→(bc M).1=0
theorem mK.fun {ms:aM} (h:mK ms) {p:Int}:∀ x∈cH ms p,x.fault (cH ms p).length 0=0∧x.size≤120:=by
 intro x hx
 unfold cH at hx ⊢
 cases hm:ms.getD p.toNat none with
 | none=>rw[hm]at hx;simp at hx
 | some M=>
   rw[hm]at hx
   have hin:some M∈ms:=by
    rw[List.getD]at hm
    cases hg:ms[p.toNat]? with
    | none=>rw[hg]at hm;simp at hm
    | some o=>
      rw[hg]at hm
      simp only[Option.getD_some]at hm
      subst hm
      exact List.mem_of_getElem? hg
   exact(qN (h M hin)).2.2 x hx
theorem mK.good {ms:aM} (h:mK ms):qh ms:=fun _ x hx=>(h.fun x hx).1
theorem mK.sized {ms:aM} (h:mK ms):kC ms:=fun p f=>by
 unfold dU
 have h1:=eK _ (cS ms p f) (Nat.le_refl _) 0
 have h2:(cS ms p f).size≤120:=by
  unfold cS
  by_cases hk:f.toNat<(cH ms p).length
  ·have e:(cH ms p).getD f.toNat cz=(cH ms p)[f.toNat]:=by simp[List.getD,hk]
   rw[e]
   exact(h.fun _ (List.getElem_mem hk)).2
  ·have e:(cH ms p).getD f.toNat cz=cz:=by simp[List.getD,List.getElem?_eq_none (Nat.le_of_not_lt hk)]
   rw[e]
   decide
 simp only[List.length_append,List.length_singleton]
 omega
section
variable {h:AH}
theorem St.grewA {h':AH} {L:List Asn} (s:St h (fun _=>False) (fun _=>False) h' L):af h h':=by
 obtain⟨_,_,_,c,_⟩:=s
 exact⟨c.n,c.ids,fun k hk=>c.cell k hk (fun h=>h),fun j hj=>c.hw j hj (fun h=>h)⟩
end
structure ci where
 (kind p q k h r g n:Int)
 m:List XD
structure EvD where
 (code fuel:Int)
 v:VD
structure HoD where
 ms:aM
 S:StD
 hands:List (List VD)
def EvD.no (c:Int):EvD:=⟨c,0,au⟩
def EvD.ok (v:VD):EvD:=⟨0,0,v⟩
def inP (p:Int):Bool:=decide (0≤p) && decide (p<4)
theorem lZ {p:Int}:inP p=true↔0≤p∧p<4:=by simp[inP]
def HoD.hand (H:HoD) (p:Int):List VD:=H.hands.getD p.toNat []
def HoD.load (H:HoD) (p:Int) (m:List XD):HoD×Int:=
 if inP p=false then(H,1)
 else if(bc m).1≠0 then(H,(bc m).1)
 else({H with ms:=H.ms.set p.toNat (some m),S:={H.S with kept:=H.S.kept.set p.toNat au}},0)
def HoD.graph (H:HoD) (G:ae):HoD:={H with S:={H.S with G:=G}}
def HoD.give (H:HoD) (p n c:Int):HoD×EvD:=
 if c≠0 then(H,.no c)else({H with hands:=H.hands.set p.toNat (H.hand p++[fh n])},.ok (fh n))
def HoD.call (H:HoD) (x:ci):HoD×EvD:=
 if 0≤x.h∧(inP x.p=false∨((H.hand x.p).length:Int)≤x.h)then(H,.no 8)
 else match cO H.ms x.p x.k (if 0≤x.h then(H.hand x.p).getD x.h.toNat au else iH x.n) 2000 H.S with
  | (S',v,n,c)=>({H with S:=S'},⟨c,n,v⟩)
def HoD.step (H:HoD) (x:ci):HoD×EvD:=
 if x.kind=1 then((H.load x.p x.m).1,.no (H.load x.p x.m).2)
 else if x.kind=2∨x.kind=3 then
  (if inP x.p=false then(H,.no 1)
  else if x.kind=2 then(H.graph (H.S.G.cellC x.k x.r x.g).1).give x.p (H.S.G.cellC x.k x.r x.g).2.1 (H.S.G.cellC x.k x.r x.g).2.2
  else(H.graph (H.S.G.funcC x.q x.k x.r x.g).1).give x.p (H.S.G.funcC x.q x.k x.r x.g).2.1 (H.S.G.funcC x.q x.k x.r x.g).2.2)
 else if x.kind=4 then H.call x
 else if x.kind=5 then(H.graph (H.S.G.cut x.g).1,.no (H.S.G.cut x.g).2)
 else if x.kind=6 then(H.graph H.S.G.gate.1,if H.S.G.gate.2.2≠0 then .no H.S.G.gate.2.2 else .ok (iH H.S.G.gate.2.1))
 else(H,.no 2)
def ho0:HoD:=⟨ms0,Kj 0,[[],[],[],[]]⟩
structure HoD.Good (H:HoD):Prop where
 ms:H.ms.length=4
 ok:mK H.ms
 st:H.S.Good
 hands:H.hands.length=4
 cap:∀ l∈H.hands,∀ v∈l,∃ n:Int,v=fh n∧0≤n
theorem rX:ho0.Good:=⟨rfl,fun M hM=>by simp[ho0]at hM,Fp 0,rfl,fun l hl v hv=>by
 have:l=[]:=by simpa[ho0]using hl
 rw[this]at hv
 cases hv⟩
theorem mK.set {ms:aM} (h:mK ms) {p:Nat} {M:List XD} (hz:(bc M).1=0):mK (ms.set p (some M)):=by
 intro N hN
 rcases List.mem_or_eq_of_mem_set hN with h1 | h1
 ·exact h N h1
 ·injection h1 with h1
  rw[h1];exact hz
theorem StD.Good.keep {S:StD} (h:S.Good) {p:Nat} {v:VD} (hv:v.code=0):({S with kept:=S.kept.set p v}:StD).Good:=
 ⟨h.wf,h.cells,by simpa using h.kept,fun w hw=>by
  rcases List.mem_or_eq_of_mem_set hw with h1 | h1
  ·exact h.keptV w h1
  ·rw[h1];exact hv⟩
theorem HoD.Good.hand {H:HoD} (g:H.Good) {p:Int}:∀ v∈H.hand p,∃ n:Int,v=fh n∧0≤n:=by
 intro v hv
 unfold HoD.hand at hv
 by_cases hp:p.toNat<H.hands.length
 ·rw[List.getD,List.getElem?_eq_getElem hp]at hv
  exact g.cap _ (List.getElem_mem hp) v hv
 ·rw[List.getD,List.getElem?_eq_none (by omega)]at hv
  cases hv
theorem HoD.Good.graph {H:HoD} (g:H.Good) {G:ae} (hG:G.Wf):(H.graph G).Good:=⟨g.ms,g.ok,⟨hG,g.st.cells,g.st.kept,g.st.keptV⟩,g.hands,g.cap⟩
theorem HoD.Good.give {H:HoD} (g:H.Good) {p n c:Int} (hn:0≤n):(H.give p n c).1.Good:=by
 unfold HoD.give
 split
 ·exact g
 ·refine⟨g.ms,g.ok,g.st,by simpa using g.hands,fun l hl v hv=> ?_⟩
  rcases List.mem_or_eq_of_mem_set hl with h1 | h1
  ·exact g.cap l h1 v hv
  ·rw[h1]at hv
   rcases List.mem_append.1 hv with h2 | h2
   ·exact g.hand v h2
   ·exact⟨n,by simpa using h2,hn⟩
theorem we {G:ae} {n:aY}:0≤(G.add n).2.1:=by
 unfold ae.add
 split
 ·exact Int.le_refl _
 ·split
  ·exact Int.le_refl _
  ·split
   ·exact Int.le_refl _
   ·exact Int.natCast_nonneg _
theorem E6 {G:ae} {c r g:Int}:0≤(G.cellC c r g).2.1:=by
 unfold ae.cellC
 split
 ·exact we
 ·exact Int.le_refl _
theorem EO {G:ae} {p f r g:Int}:0≤(G.funcC p f r g).2.1:=by
 unfold ae.funcC
 split
 ·exact we
 ·exact Int.le_refl _
theorem vk (n:Int):(fh n).size≤100000:=by simp[fh,VD.size,bD]
theorem uR (n:Int):(iH n).size≤100000:=by simp[iH,VD.size,bD]
theorem HoD.Good.arg {H:HoD} (g:H.Good) (x:ci):(if 0≤x.h then(H.hand x.p).getD x.h.toNat au else iH x.n).code=0∧(if 0≤x.h then(H.hand x.p).getD x.h.toNat au else iH x.n).size≤100000:=by
 split
 ·by_cases hi:x.h.toNat<(H.hand x.p).length
  ·have e:(H.hand x.p).getD x.h.toNat au=(H.hand x.p)[x.h.toNat]:=by simp[List.getD,hi]
   rw[e]
   obtain⟨n,h1,h2⟩:=g.hand _ (List.getElem_mem hi)
   rw[h1]
   exact⟨nq h2,vk n⟩
  ·have e:(H.hand x.p).getD x.h.toNat au=au:=by simp[List.getD,List.getElem?_eq_none (Nat.le_of_not_lt hi)]
   rw[e]
   exact⟨dO,by decide⟩
 ·exact⟨jG _,uR _⟩
structure xe (H:HoD) (q:HoD×EvD):Prop where
 good:q.1.Good
 log:q.1.S.log.length≤H.S.log.length+2000
 val:q.2.code=0→q.2.v.code=0
 size:q.2.v.size≤100000
 hand:∀ l∈q.1.hands,l.length≤1000∨∃ l'∈H.hands,l.length≤l'.length+1
theorem ir (c:Int):(EvD.no c).v.size≤100000:=(by decide:au.size≤100000)
theorem xe.same {H H':HoD} {e:EvD} (g:H'.Good) (hl:H'.S.log=H.S.log) (hh:H'.hands=H.hands) (h1:e.code=0→e.v.code=0) (h2:e.v.size≤100000):xe H (H',e):=
 ⟨g,by rw[hl];exact Nat.le_add_right _ _,h1,h2,fun l hm=> .inr ⟨l,by rw[←hh];exact hm,Nat.le_succ _⟩⟩
theorem Cz {H H':HoD} (g:H'.Good) (hl:H'.S.log=H.S.log) (hh:H'.hands=H.hands) {p n c:Int} (hn:0≤n):xe H (H'.give p n c):=by
 refine⟨g.give hn,?_,?_,?_,?_⟩
 ·unfold HoD.give
  split
  ·rw[hl];exact Nat.le_add_right _ _
  ·show H'.S.log.length≤_
   rw[hl];exact Nat.le_add_right _ _
 ·unfold HoD.give
  split
  ·rename_i h;exact fun h'=>absurd h' h
  ·exact fun _=>nq hn
 ·unfold HoD.give
  split
  ·exact ir _
  ·exact vk _
 ·unfold HoD.give
  split
  ·exact fun l hm=> .inr ⟨l,by rw[←hh];exact hm,Nat.le_succ _⟩
  ·intro l hm
   rcases List.mem_or_eq_of_mem_set hm with h1 | h1
   ·exact .inr ⟨l,by rw[←hh];exact h1,Nat.le_succ _⟩
   ·unfold HoD.hand at h1
    by_cases hp:p.toNat<H'.hands.length
    ·rw[List.getD,List.getElem?_eq_getElem hp,Option.getD_some]at h1
     exact .inr ⟨H'.hands[p.toNat],by rw[←hh];exact List.getElem_mem hp,by rw[h1];simp⟩
    ·rw[List.getD,List.getElem?_eq_none (by omega),Option.getD_none]at h1
     exact .inl (by rw[h1];simp)
theorem HoD.Good.step {H:HoD} (g:H.Good) (x:ci):xe H (H.step x):=by
 unfold HoD.step
 by_cases k1:x.kind=1
 ·rw[if_pos k1]
  unfold HoD.load
  by_cases h1:inP x.p=false
  ·rw[if_pos h1]
   exact .same g rfl rfl (fun h=>absurd h (by simp[EvD.no])) (ir _)
  ·rw[if_neg h1]
   by_cases h2:(bc x.m).1≠0
   ·rw[if_pos h2]
    exact .same g rfl rfl (fun h=>absurd h h2) (ir _)
   ·rw[if_neg h2]
    exact .same ⟨by simpa using g.ms,g.ok.set (Classical.not_not.1 h2),g.st.keep dO,g.hands,g.cap⟩ rfl rfl (fun _=>dO) (ir _)
 rw[if_neg k1]
 by_cases k2:x.kind=2∨x.kind=3
 ·rw[if_pos k2]
  by_cases h1:inP x.p=false
  ·rw[if_pos h1]
   exact .same g rfl rfl (fun h=>absurd h (by simp[EvD.no])) (ir _)
  ·rw[if_neg h1]
   split
   ·exact Cz (H:=H) (H':=H.graph (H.S.G.cellC x.k x.r x.g).1) (g.graph (g.st.wf.cellC _ _ _)) rfl rfl E6
   ·exact Cz (H:=H) (H':=H.graph (H.S.G.funcC x.q x.k x.r x.g).1) (g.graph (g.st.wf.funcC _ _ _ _)) rfl rfl EO
 rw[if_neg k2]
 by_cases k4:x.kind=4
 ·rw[if_pos k4]
  unfold HoD.call
  by_cases h1:0≤x.h∧(inP x.p=false∨((H.hand x.p).length:Int)≤x.h)
  ·rw[if_pos h1]
   exact .same g rfl rfl (fun h=>absurd h (by simp[EvD.no])) (ir _)
  ·rw[if_neg h1]
   have:=Kk (ms:=H.ms) (p:=x.p) (f:=x.k) (fuel:=2000) (v:=if 0≤x.h then(H.hand x.p).getD x.h.toNat au else iH x.n) g.st
   generalize cO H.ms x.p x.k (if 0≤x.h then(H.hand x.p).getD x.h.toNat au else iH x.n) 2000 H.S=q at this
   obtain⟨S',v,n,c⟩:=q
   obtain⟨h2,h3,h4,h5⟩:=this
   exact⟨⟨g.ms,g.ok,h2,g.hands,g.cap⟩,h3,h4,h5,fun l hm=> .inr ⟨l,hm,Nat.le_succ _⟩⟩
 rw[if_neg k4]
 by_cases k5:x.kind=5
 ·rw[if_pos k5]
  exact .same (g.graph (g.st.wf.cut _)) rfl rfl (fun _=>dO) (ir _)
 rw[if_neg k5]
 by_cases k6:x.kind=6
 ·rw[if_pos k6]
  refine .same (g.graph g.st.wf.gate) rfl rfl ?_ ?_
  ·split
   ·rename_i h;exact fun h'=>absurd h' h
   ·exact fun _=>jG _
  ·split
   ·exact ir _
   ·exact uR _
 ·rw[if_neg k6]
  exact .same g rfl rfl (fun h=>absurd h (by simp[EvD.no])) (ir _)
theorem D6 {H:HoD} {x:ci} (hx:x.kind=1):H.step x=((H.load x.p x.m).1,.no (H.load x.p x.m).2):=by
 unfold HoD.step
 rw[if_pos hx]
theorem lB {G:ae} {n:aY} (h:(G.add n).2.2≠0):(G.add n).1=G:=by
 unfold ae.add at h ⊢
 split
 ·rfl
 ·split
  ·rfl
  ·split
   ·rfl
   ·rename_i h1 h2 h3
    rw[if_neg h1,if_neg h2,if_neg h3]at h
    exact absurd rfl h
theorem uj {G:ae} {c r g:Int} (h:(G.cellC c r g).2.2≠0):(G.cellC c r g).1=G:=by
 unfold ae.cellC at h ⊢
 split
 ·rename_i h1
  rw[if_pos h1]at h
  exact lB h
 ·rfl
theorem uk {G:ae} {p f r g:Int} (h:(G.funcC p f r g).2.2≠0):(G.funcC p f r g).1=G:=by
 unfold ae.funcC at h ⊢
 split
 ·rename_i h1
  rw[if_pos h1]at h
  exact lB h
 ·rfl
def C2:List RS:=[(.ops [(.i (.v 0) (.mv (.c .nilp)))]),(.ops [(.i .l (.call (.c (.fn 39 [] [])) [])),(.i .l (.build [.nilp,.nils,.nils,.nils,.nils] [(0,1),(1,4)] [(0,(.l 0))])),(.i .l (.box 5 (.l 0))),(.i (.v 0) (.mv (.l 0)))]),.ret]
theorem Ko:FnR Tryz.prog po 24 0 1 [0] C2 [(.v 0)] false:=⟨_,_,Tryz.func24,rfl,rfl,by kernel_rfl,by kernel_rfl,by kernel_rfl,by kernel_rfl,by kernel_rfl⟩
def rQ:List RS:=[(.ops [(.i (.v 1) (.mv (.c (.bool false))))]),(.ops [(.i .l (.mv (.v 0))),(.i .l (.bin (.int .i64) .geq (.l 0) (.c (.int .i64 0)))),(.i .l (.mv (.l 0))),(.g (.l 0) true .l (.mv (.v 0))),(.g (.l 1) true .l (.bin (.int .i64) .lss (.l 0) (.c (.int .i64 4)))),(.i .l (.pick (.l 2) (.l 0) (.c (.bool false)))),(.i (.v 1) (.mv (.l 0)))]),.ret]
theorem Ba:FnR Tryz.prog po 57 1 2 [0,2] rQ [(.v 1)] true:=⟨_,_,Tryz.func57,rfl,rfl,by kernel_rfl,by kernel_rfl,by kernel_rfl,by kernel_rfl,by kernel_rfl⟩
def nH:List RS:=[(.ops [(.i (.v 3) (.box 1 (.v 2))),(.i (.v 4) (.mv (.c (.int .i64 0))))]),(.ops [(.i .l (.mv (.v 1))),(.i .l (.call (.c (.fn 57 [] [])) [(.l 0)])),(.i (.v 7) (.un .not (.l 0)))]),(.cond (.v 7) [(.ops [(.i (.v 4) (.mv (.c (.int .i64 1))))]),.ret] []),(.ops [(.i .l (.load true 1 (.v 3))),(.i .l (.call (.c (.fn 40 [] [])) [(.l 0)])),(.i .l (.mv (.l 0))),(.i .l (.ext (.l 0) 0)),(.i .l (.ext (.l 1) 1)),(.i (.v 6) (.alloc [(.int .i64 0),(.int .i64 0)])),(.i (.v 5) (.mv (.l 1))),(.i .n (.store 2 (.v 6) (.l 0)))]),(.ops [(.i .l (.fad 0 (.v 6))),(.i .l (.load false 1 (.l 0))),(.i (.v 8) (.bin (.int .i64) .neq (.l 0) (.c (.int .i64 0))))]),(.cond (.v 8) [(.ops [(.i .l (.fad 0 (.v 6))),(.i .l (.load false 1 (.l 0))),(.i (.v 4) (.mv (.l 0)))]),.ret] []),(.ops [(.i .l (.mv (.v 0))),(.i .l (.nilc (.l 0))),(.i .l (.fad 0 (.l 0))),(.i .l (.load false 1 (.l 0))),(.i .l (.mv (.v 1))),(.i .l (.mv (.v 5))),(.i .l (.build [(.bool false),.nils,(.int .i64 0),(.int .i64 0),.nils] [(0,1),(1,1),(2,3)] [(0,(.c (.bool true))),(1,(.l 0))])),(.i .l (.nilc (.l 3))),(.i .l (.fad 2 (.l 0))),(.i .l (.ixa none (some (4,5)) (.l 0) (.l 4))),(.i .n (.store 5 (.l 0) (.l 3)))]),(.ops [(.i (.v 4) (.mv (.c (.int .i64 0))))]),.ret]
theorem sa:FnR Tryz.prog po 56 3 9 [0,1,2,5,6,7,8,11,19] nH [(.v 4)] false:=⟨_,_,Tryz.func56,rfl,rfl,by kernel_rfl,by kernel_rfl,by kernel_rfl,by kernel_rfl,by kernel_rfl⟩
def tf:List RS:=[(.ops [(.i (.v 4) (.alloc [(.int .i64 0),(.int .i64 0),(.int .i64 0),(.int .i64 0),.nils]))]),(.ops [(.i .l (.mv (.v 3))),(.i (.v 6) (.bin (.int .i64) .neq (.l 0) (.c (.int .i64 0))))]),(.cond (.v 6) [(.ops [(.i .l (.mv (.v 3))),(.i .l (.build [(.int .i64 0),(.int .i64 0),(.int .i64 0),(.int .i64 0),.nils] [(0,1),(1,1),(2,3)] [(0,(.l 0))])),(.i .n (.store 5 (.v 4) (.l 0)))]),.ret] []),(.ops [(.i .l (.mv (.v 2))),(.i .l (.build [(.int .i64 0),(.int .i64 0),.nils] [(0,1),(1,1),(2,1)] [(0,(.c (.int .i64 4))),(1,(.l 0))])),(.i (.v 5) (.alloc [(.int .i64 0),(.int .i64 0),.nils])),(.i .n (.store 3 (.v 5) (.l 0)))]),(.ops [(.i .l (.mv (.v 0))),(.i .l (.mv (.v 1))),(.i .l (.nilc (.l 1))),(.i .l (.fad 1 (.l 0))),(.i .l (.ixa none (some (4,1)) (.l 0) (.l 2))),(.i .l (.load false 1 (.l 0))),(.i .l (.load true 3 (.v 5))),(.i .l (.len false (some 35) (.l 1))),(.i .l (.nilc (.l 7))),(.i .l (.fad 1 (.l 0))),(.i .l (.bsl true 35 [(.int .i64 0),(.int .i64 0),.nils] 3 1 [(0,(.c (.agg [(.int .i64 0),(.int .i64 0),.nils])))])),(.ck [⟨none,false,1,(.l 6),(.l 5)⟩,⟨none,true,3,(.v 5),(.l 4)⟩]),(.i .l (.app true 35 (.l 5) (.l 0))),(.i .l (.ixa (some 35) none (.l 0) (.l 4))),(.i .l (.ixa none (some (4,1)) (.l 3) (.l 11))),(.i .n (.store 3 (.l 1) (.l 7))),(.i .n (.store 1 (.l 0) (.l 2))),(.ck [⟨none,true,3,(.l 1),(.l 7)⟩])]),(.ops [(.i .l (.load true 3 (.v 5))),(.i .l (.build [(.int .i64 0),(.int .i64 0),(.int .i64 0),(.int .i64 0),.nils] [(0,1),(1,1),(2,3)] [(2,(.l 0))])),(.i .n (.store 5 (.v 4) (.l 0)))]),.ret]
theorem Aw:FnR Tryz.prog po 59 4 7 [0,1,2,3,8,9,11] tf [(.cell true 5 4)] false:=⟨_,_,Tryz.func59,rfl,rfl,by kernel_rfl,by kernel_rfl,by kernel_rfl,by kernel_rfl,by kernel_rfl⟩
def lR:List RS:=[(.ops [(.i (.v 2) (.box 9 (.v 1))),(.i (.v 3) (.alloc [(.int .i64 0),(.int .i64 0),(.int .i64 0),(.int .i64 0),.nils]))]),(.ops [(.i .l (.fad 7 (.v 2))),(.i .l (.load false 1 (.l 0))),(.i .l (.build [(.int .i64 0),(.int .i64 0),.nils] [(0,1),(1,1),(2,1)] [(0,(.c (.int .i64 1))),(1,(.l 0))])),(.i (.v 4) (.alloc [(.int .i64 0),(.int .i64 0),.nils])),(.i .n (.store 3 (.v 4) (.l 0)))]),(.ops [(.i .l (.fad 4 (.v 2))),(.i .l (.load false 1 (.l 0))),(.i (.v 8) (.bin (.int .i64) .geq (.l 0) (.c (.int .i64 0))))]),(.cond (.v 8) [(.ops [(.i .l (.fad 1 (.v 2))),(.i .l (.load false 1 (.l 0))),(.i .l (.call (.c (.fn 57 [] [])) [(.l 0)])),(.i .l (.un .not (.l 0))),(.i .l (.mv (.l 0))),(.g (.l 0) false .l (.fad 4 (.v 2))),(.g (.l 1) false .l (.load false 1 (.l 0))),(.g (.l 2) false .l (.mv (.v 0))),(.g (.l 3) false .l (.fad 1 (.v 2))),(.g (.l 4) false .l (.load false 1 (.l 0))),(.g (.l 5) false .l (.nilc (.l 2))),(.g (.l 6) false .l (.fad 1 (.l 0))),(.g (.l 7) false .l (.ixa none (some (4,1)) (.l 0) (.l 2))),(.g (.l 8) false .l (.load false 1 (.l 0))),(.g (.l 9) false .l (.len false (some 35) (.l 0))),(.g (.l 10) false .l (.bin (.int .i64) .geq (.l 8) (.l 0))),(.i (.v 9) (.pick (.l 11) (.c (.bool true)) (.l 0)))]),(.cond (.v 9) [(.ops [(.i .l (.build [(.int .i64 0),(.int .i64 0),(.int .i64 0),(.int .i64 0),.nils] [(0,1),(1,1),(2,3)] [(0,(.c (.int .i64 8)))])),(.i .n (.store 5 (.v 3) (.l 0)))]),.ret] []),(.ops [(.i .l (.mv (.v 0))),(.i .l (.fad 1 (.v 2))),(.i .l (.load false 1 (.l 0))),(.i .l (.nilc (.l 2))),(.i .l (.fad 1 (.l 0))),(.i .l (.ixa none (some (4,1)) (.l 0) (.l 2))),(.i .l (.load false 1 (.l 0))),(.i .l (.fad 4 (.v 2))),(.i .l (.load false 1 (.l 0))),(.i .l (.ixa (some 35) none (.l 2) (.l 0))),(.i .l (.load true 3 (.l 0))),(.i .n (.store 3 (.v 4) (.l 0)))])] []),(.ops [(.i .l (.mv (.v 0))),(.i .l (.nilc (.l 0))),(.i .l (.fad 0 (.l 0))),(.i .l (.load false 1 (.l 0))),(.i .l (.fad 1 (.v 2))),(.i .l (.load false 1 (.l 0))),(.i .l (.fad 3 (.v 2))),(.i .l (.load false 1 (.l 0))),(.i .l (.load true 3 (.v 4))),(.i .l (.call (.c (.fn 12 [] [])) [(.l 5),(.l 3),(.l 1),(.l 0),(.c (.int .i64 2000))])),(.i .l (.mv (.l 0))),(.i .l (.ext (.l 0) 0)),(.i .l (.ext (.l 1) 1)),(.i .l (.ext (.l 2) 2)),(.i (.v 5) (.alloc [(.int .i64 0),(.int .i64 0),.nils])),(.ck [⟨none,false,1,(.l 11),(.l 10)⟩,⟨none,false,1,(.l 9),(.l 8)⟩,⟨none,false,1,(.l 7),(.l 6)⟩,⟨none,true,3,(.v 4),(.l 5)⟩]),(.i .n (.store 3 (.v 5) (.l 2))),(.i (.v 6) (.mv (.l 1))),(.i (.v 7) (.mv (.l 0)))]),(.ops [(.i .l (.mv (.v 7))),(.i .l (.mv (.v 6))),(.i .l (.load true 3 (.v 5))),(.i .l (.build [(.int .i64 0),(.int .i64 0),(.int .i64 0),(.int .i64 0),.nils] [(0,1),(1,1),(2,3)] [(0,(.l 2)),(1,(.l 1)),(2,(.l 0))])),(.i .n (.store 5 (.v 3) (.l 0)))]),.ret]
theorem oC:FnR Tryz.prog po 61 2 10 [0,1,3,4,5,6,7,8,14,31] lR [(.cell true 5 3)] false:=⟨_,_,Tryz.func61,rfl,rfl,by kernel_rfl,by kernel_rfl,by kernel_rfl,by kernel_rfl,by kernel_rfl⟩
def i7:List RS:=[(.ops [(.i (.v 2) (.box 9 (.v 1))),(.i (.v 3) (.alloc [(.int .i64 0),(.int .i64 0),(.int .i64 0),(.int .i64 0),.nils]))]),(.ops [(.i .l (.fad 0 (.v 2))),(.i (.v 10) (.load false 1 (.l 0)))]),(.block 0 [(.ops [(.i .l (.bin (.int .i64) .eql (.v 10) (.c (.int .i64 1)))),(.i (.v 11) (.mv (.l 0)))]),(.cond (.v 11) [(.ops [(.i .l (.mv (.v 0))),(.i .l (.fad 1 (.v 2))),(.i .l (.load false 1 (.l 0))),(.i .l (.fad 8 (.v 2))),(.i .l (.load true 1 (.l 0))),(.i .l (.call (.c (.fn 56 [] [])) [(.l 4),(.l 2),(.l 0)])),(.i .l (.build [(.int .i64 0),(.int .i64 0),(.int .i64 0),(.int .i64 0),.nils] [(0,1),(1,1),(2,3)] [(0,(.l 0))])),(.i .n (.store 5 (.v 3) (.l 0)))]),.ret] [(.ops [(.i .l (.bin (.int .i64) .eql (.v 10) (.c (.int .i64 2)))),(.i (.v 12) (.mv (.l 0)))]),(.cond (.v 12) [] [(.ops [(.i .l (.bin (.int .i64) .eql (.v 10) (.c (.int .i64 3)))),(.i (.v 12) (.mv (.l 0)))])]),(.cond (.v 12) [(.ops [(.i .l (.fad 1 (.v 2))),(.i .l (.load false 1 (.l 0))),(.i .l (.call (.c (.fn 57 [] [])) [(.l 0)])),(.i (.v 13) (.un .not (.l 0)))]),(.cond (.v 13) [(.ops [(.i .l (.build [(.int .i64 0),(.int .i64 0),(.int .i64 0),(.int .i64 0),.nils] [(0,1),(1,1),(2,3)] [(0,(.c (.int .i64 1)))])),(.i .n (.store 5 (.v 3) (.l 0)))]),.ret] []),(.ops [(.i .l (.fad 0 (.v 2))),(.i .l (.load false 1 (.l 0))),(.i (.v 14) (.bin (.int .i64) .eql (.l 0) (.c (.int .i64 2))))]),(.cond (.v 14) [(.ops [(.i .l (.mv (.v 0))),(.i .l (.nilc (.l 0))),(.i .l (.fad 0 (.l 0))),(.i .l (.load false 1 (.l 0))),(.i .l (.nilc (.l 0))),(.i .l (.fad 0 (.l 0))),(.i .l (.load false 1 (.l 0))),(.i .l (.fad 3 (.v 2))),(.i .l (.load false 1 (.l 0))),(.i .l (.fad 5 (.v 2))),(.i .l (.load false 1 (.l 0))),(.i .l (.fad 6 (.v 2))),(.i .l (.load false 1 (.l 0))),(.i .l (.call (.c (.fn 58 [] [])) [(.l 6),(.l 4),(.l 2),(.l 0)])),(.i .l (.mv (.l 0))),(.i .l (.ext (.l 0) 0)),(.i .l (.ext (.l 1) 1)),(.i (.v 4) (.mv (.l 1))),(.i (.v 5) (.mv (.l 0)))]),(.ops [(.i .l (.mv (.v 0))),(.i .l (.fad 1 (.v 2))),(.i .l (.load false 1 (.l 0))),(.i .l (.mv (.v 4))),(.i .l (.mv (.v 5))),(.i .l (.call (.c (.fn 59 [] [])) [(.l 4),(.l 2),(.l 1),(.l 0)])),(.i .n (.store 5 (.v 3) (.l 0)))]),.ret] []),(.ops [(.i .l (.mv (.v 0))),(.i .l (.nilc (.l 0))),(.i .l (.fad 0 (.l 0))),(.i .l (.load false 1 (.l 0))),(.i .l (.nilc (.l 0))),(.i .l (.fad 0 (.l 0))),(.i .l (.load false 1 (.l 0))),(.i .l (.fad 2 (.v 2))),(.i .l (.load false 1 (.l 0))),(.i .l (.fad 3 (.v 2))),(.i .l (.load false 1 (.l 0))),(.i .l (.fad 5 (.v 2))),(.i .l (.load false 1 (.l 0))),(.i .l (.fad 6 (.v 2))),(.i .l (.load false 1 (.l 0))),(.i .l (.call (.c (.fn 60 [] [])) [(.l 8),(.l 6),(.l 4),(.l 2),(.l 0)])),(.i .l (.mv (.l 0))),(.i .l (.ext (.l 0) 0)),(.i .l (.ext (.l 1) 1)),(.i (.v 6) (.mv (.l 1))),(.i (.v 7) (.mv (.l 0)))]),(.ops [(.i .l (.mv (.v 0))),(.i .l (.fad 1 (.v 2))),(.i .l (.load false 1 (.l 0))),(.i .l (.mv (.v 6))),(.i .l (.mv (.v 7))),(.i .l (.call (.c (.fn 59 [] [])) [(.l 4),(.l 2),(.l 1),(.l 0)])),(.i .n (.store 5 (.v 3) (.l 0)))]),.ret] [(.ops [(.i .l (.bin (.int .i64) .eql (.v 10) (.c (.int .i64 4)))),(.i (.v 15) (.mv (.l 0)))]),(.cond (.v 15) [(.ops [(.i .l (.mv (.v 0))),(.i .l (.load true 9 (.v 2))),(.i .l (.call (.c (.fn 61 [] [])) [(.l 1),(.l 0)])),(.i .n (.store 5 (.v 3) (.l 0)))]),.ret] [(.ops [(.i .l (.bin (.int .i64) .eql (.v 10) (.c (.int .i64 5)))),(.i (.v 16) (.mv (.l 0)))]),(.cond (.v 16) [(.ops [(.i .l (.mv (.v 0))),(.i .l (.nilc (.l 0))),(.i .l (.fad 0 (.l 0))),(.i .l (.load false 1 (.l 0))),(.i .l (.nilc (.l 0))),(.i .l (.fad 0 (.l 0))),(.i .l (.load false 1 (.l 0))),(.i .l (.fad 6 (.v 2))),(.i .l (.load false 1 (.l 0))),(.i .l (.call (.c (.fn 62 [] [])) [(.l 2),(.l 0)])),(.i .l (.build [(.int .i64 0),(.int .i64 0),(.int .i64 0),(.int .i64 0),.nils] [(0,1),(1,1),(2,3)] [(0,(.l 0))])),(.i .n (.store 5 (.v 3) (.l 0)))]),.ret] [(.ops [(.i .l (.bin (.int .i64) .eql (.v 10) (.c (.int .i64 6)))),(.i (.v 17) (.mv (.l 0)))]),(.cond (.v 17) [(.ops [(.i .l (.mv (.v 0))),(.i .l (.nilc (.l 0))),(.i .l (.fad 0 (.l 0))),(.i .l (.load false 1 (.l 0))),(.i .l (.nilc (.l 0))),(.i .l (.fad 0 (.l 0))),(.i .l (.load false 1 (.l 0))),(.i .l (.call (.c (.fn 63 [] [])) [(.l 0)])),(.i .l (.mv (.l 0))),(.i .l (.ext (.l 0) 0)),(.i .l (.ext (.l 1) 1)),(.i (.v 8) (.mv (.l 1))),(.i (.v 9) (.mv (.l 0)))]),(.ops [(.i .l (.mv (.v 9))),(.i (.v 18) (.bin (.int .i64) .neq (.l 0) (.c (.int .i64 0))))]),(.cond (.v 18) [(.ops [(.i .l (.mv (.v 9))),(.i .l (.build [(.int .i64 0),(.int .i64 0),(.int .i64 0),(.int .i64 0),.nils] [(0,1),(1,1),(2,3)] [(0,(.l 0))])),(.i .n (.store 5 (.v 3) (.l 0)))]),.ret] []),(.ops [(.i .l (.mv (.v 8))),(.i .l (.build [(.int .i64 0),(.int .i64 0),.nils] [(0,1),(1,1),(2,1)] [(0,(.c (.int .i64 1))),(1,(.l 0))])),(.i .l (.build [(.int .i64 0),(.int .i64 0),(.int .i64 0),(.int .i64 0),.nils] [(0,1),(1,1),(2,3)] [(2,(.l 0))])),(.i .n (.store 5 (.v 3) (.l 0)))]),.ret] [])])])])])]),(.ops [(.i .l (.build [(.int .i64 0),(.int .i64 0),(.int .i64 0),(.int .i64 0),.nils] [(0,1),(1,1),(2,3)] [(0,(.c (.int .i64 2)))])),(.i .n (.store 5 (.v 3) (.l 0)))]),.ret]
theorem jA:FnR Tryz.prog po 26 2 19 [0,1,3,4,5,6,7,8,9,10,12,13,22,28,32,81,86,99,113] i7 [(.cell true 5 3)] false:=⟨_,_,Tryz.func26,rfl,rfl,by kernel_rfl,by kernel_rfl,by kernel_rfl,by kernel_rfl,by kernel_rfl⟩
def oS:List RS:=[(.ops [(.i (.v 2) (.mv (.c .nils)))]),(.ops [(.i .l (.mv (.v 1))),(.i .l (.call (.c (.fn 57 [] [])) [(.l 0)])),(.i (.v 3) (.un .not (.l 0)))]),(.cond (.v 3) [(.ops [(.i (.v 2) (.mv (.c .nils)))]),.ret] []),(.ops [(.i .l (.mv (.v 0))),(.i .l (.mv (.v 1))),(.i .l (.nilc (.l 1))),(.i .l (.fad 1 (.l 0))),(.i .l (.ixa none (some (4,1)) (.l 0) (.l 2))),(.i .l (.load false 1 (.l 0))),(.i .l (.call (.c (.fn 69 [] [])) [(.l 0)])),(.i (.v 2) (.mv (.l 0)))]),.ret]
theorem qJ:FnR Tryz.prog po 28 2 4 [0,1,4,7] oS [(.v 2)] true:=⟨_,_,Tryz.func28,rfl,rfl,by kernel_rfl,by kernel_rfl,by kernel_rfl,by kernel_rfl,by kernel_rfl⟩
def pb:List RS:=[(.ops [(.i (.v 1) (.mv (.c .nils)))]),(.ops [(.i .l (.mv (.v 0))),(.i (.v 2) (.bin .slice .eql (.l 0) (.c .nils)))]),(.cond (.v 2) [(.ops [(.i (.v 1) (.mv (.c .nils)))]),.ret] []),(.ops [(.i .l (.bsl false 35 [(.int .i64 0),(.int .i64 0),.nils] 3 0 [])),(.i .l (.mv (.v 0))),(.i .l (.app false 35 (.l 1) (.l 0))),(.i (.v 1) (.mv (.l 0)))]),.ret]
theorem vO:FnR Tryz.prog po 69 1 3 [0,2,4] pb [(.v 1)] true:=⟨_,_,Tryz.func69,rfl,rfl,by kernel_rfl,by kernel_rfl,by kernel_rfl,by kernel_rfl,by kernel_rfl⟩
def bA:List RS:=[(.ops [(.i .l (.mv (.v 3))),(.i .l (.mv (.v 0))),(.i .l (.len false (some 82) (.l 0))),(.i .l (.bin (.int .i64) .lss (.l 2) (.l 0))),(.i .l (.mv (.l 0))),(.g (.l 0) true .l (.mv (.v 3))),(.g (.l 1) true .l (.mv (.v 1))),(.g (.l 2) true .l (.bin (.int .i64) .lss (.l 1) (.l 0))),(.i (.v 4) (.pick (.l 3) (.l 0) (.c (.bool false))))]),(.cond (.v 4) [] [(.exit 0)]),(.block 1 [(.ops [(.i .l (.mv (.v 0))),(.i .l (.mv (.v 3))),(.i .l (.ixa (some 82) none (.l 1) (.l 0))),(.i .l (.fad 8 (.l 0))),(.i .l (.load true 1 (.l 0))),(.i (.v 5) (.call (.c (.fn 43 [] [])) [(.l 0)]))]),(.cond (.v 5) [(.ops [(.i (.v 2) (.mv (.c (.bool true))))]),.ret] [])]),(.ops [(.i .l (.mv (.v 3))),(.i .l (.bin (.int .i64) .add (.l 0) (.c (.int .i64 1)))),(.i (.v 3) (.mv (.l 0)))])]
def jC:List RS:=[(.ops [(.i (.v 2) (.mv (.c (.bool false))))]),(.ops [(.i (.v 3) (.mv (.c (.int .i64 0))))]),(.block 0 [(.loop bA)]),(.ops [(.i .l (.mv (.v 0))),(.i .l (.len false (some 82) (.l 0))),(.i .l (.mv (.v 1))),(.i .l (.bin (.int .i64) .gtr (.l 1) (.l 0))),(.i (.v 2) (.mv (.l 0)))]),.ret]
theorem mI:FnR Tryz.prog po 23 2 6 [0,1,4,5,14,22] jC [(.v 2)] true:=⟨_,_,Tryz.func23,rfl,rfl,by kernel_rfl,by kernel_rfl,by kernel_rfl,by kernel_rfl,by kernel_rfl⟩
def cU (b bb:Nat) (hands:List (List VD)):Asn:=oH fun vs:List AV=>uJ (vs.length=hands.length) (dw (ai b [.ptr bb 0 0::vs]) (aX (List.zipWith cG vs hands)))
section
variable {h h' h0:AH} {F J F0 J0:Nat→Prop} {L:List Asn} {hb bb:Nat} {hands:List (List VD)}
theorem tK (x:(cU hb bb hands).A h F J):∃ vs,vs.length=hands.length∧St h F J h (ai hb [.ptr bb 0 0::vs]::List.zipWith cG vs hands):=by
 obtain⟨vs,hl,x⟩:=x
 exact⟨vs,hl,St.start x⟩
theorem EQ {vs:List AV} (hl:vs.length=hands.length) (s:St h0 F0 J0 h (ai hb [.ptr bb 0 0::vs]::List.zipWith cG vs hands)):Did h0 F0 J0 h (cU hb bb hands):=Did.imp (fun _ _ _ x=>⟨vs,hl,x⟩) s
theorem Cp {vs:List AV} (hl:vs.length=hands.length) {p:Nat} (hp:p<hands.length):∃ v,vs[p]? =some v∧(List.zipWith cG vs hands)[p]? =some (cG v (hands.getD p [])):=by
 have hv:p<vs.length:=by omega
 refine⟨vs[p],List.getElem?_eq_getElem hv,?_⟩
 rw[List.getElem?_zipWith,List.getElem?_eq_getElem hv,List.getElem?_eq_getElem hp]
 simp[List.getD,hp]
theorem KG {vs:List AV} {p:Nat} {v:AV} {l:List VD}:(List.zipWith cG vs hands).set p (cG v l)=List.zipWith cG (vs.set p v) (hands.set p l):=by
 refine List.ext_getElem? fun j=> ?_
 by_cases e:p=j
 ·subst e
  rw[List.getElem?_zipWith,List.getElem?_set,List.getElem?_set,List.getElem?_set]
  simp only[if_true,List.length_zipWith]
  by_cases h1:p<vs.length
  ·by_cases h2:p<hands.length
   ·simp[h1,h2,show p<min vs.length hands.length by omega]
   ·simp[h1,h2,show ¬ p<min vs.length hands.length by omega]
  ·simp[h1,show ¬ p<min vs.length hands.length by omega]
 ·rw[List.getElem?_set_ne e,List.getElem?_zipWith,List.getElem?_zipWith,List.getElem?_set_ne e,List.getElem?_set_ne e]
structure yJ (h:AH) (v:AV) (l:List VD):Prop where
 one:v.one=true
 cells:v.cells=[v]
 len:dH v=some l.length
 fits:∀ s,du s (some tV) v=true
 ix:∀ (q:IntKind) (i:Nat) (y:VD),l[i]? =some y→∃ p r,bX (some tV) none v (.int q (i:Int))=some p∧aD true 3 h p=some (.agg r)∧VaA y r
 sl:(l=[]∧v= .nils)∨∃ b rows,v= .msl b 0 l.length tV∧VaL l rows∧bL h tV v=some rows
theorem BQ {v:AV} {l:List VD} (x:(cG v l).A h F J):yJ h v l:=by
 obtain⟨a1,a2,a3,a4,a5⟩:=gE x
 refine⟨a1,a2,a3,a4,a5,?_⟩
 obtain⟨rows,hl,x⟩:=x
 have hlen:=hl.len
 rcases x with⟨⟨rfl,rfl⟩,_⟩ | ⟨⟨b,es⟩,⟨rfl,h1,h2⟩,_,_,_,hc⟩
 ·exact .inl ⟨List.length_eq_zero_iff.1 (by simpa using hlen.symm),rfl⟩
 ·simp only at h1 h2 hc
  refine .inr ⟨b,rows,by rw[hlen],hl,?_⟩
  simp only[bL,if_true,hc,Option.bind_some,Nat.zero_add,h1,List.drop_zero]
  rw[←h2]
structure wD (h:AH) (hb bb:Nat) (hands:List (List VD)) (vs:List AV):Prop where
 c:h.cell hb=some [.ptr bb 0 0::vs]
 lt:hb<h.n
 len:vs.length=hands.length
 v:∀ p:Nat,p<hands.length→∃ v,vs[p]? =some v∧yJ h v (hands.getD p [])
theorem d7 (s:St h0 F0 J0 h L) (i:Nat) (hi:L[i]? =some (cU hb bb hands)):∃ vs,wD h hb bb hands vs:=by
 obtain⟨F,J,x⟩:=s.get i hi
 obtain⟨vs,hl,s1⟩:=tK x
 have c:=s1.cell 0 rfl
 refine⟨vs,c.1,c.2,hl,fun p hp=> ?_⟩
 obtain⟨v,h1,h2⟩:=Cp hl hp
 obtain⟨F1,J1,x1⟩:=s1.get (p+1) h2
 exact⟨v,h1,BQ x1⟩
theorem wD.push {vs:List AV} {es:List (List AV)} (v:wD h hb bb hands vs) (s:St h0 F0 J0 (h.push es) L) (i:Nat) (hi:L[i]? =some (cU hb bb hands)):wD (h.push es) hb bb hands vs:=by
 obtain⟨vs',v'⟩:=d7 s i hi
 have e:=v'.c
 rw[aN v.lt,v.c]at e
 obtain rfl:vs=vs':=by simpa using e
 exact v'
theorem wD.box {vs:List AV} (v:wD h hb bb hands vs) (n:Nat):aD false n h (.ptr hb 0 0)=some (.ptr bb 0 0):=by rw[bC,v.c];rfl
theorem wD.ld {vs:List AV} (v:wD h hb bb hands vs) {p:Nat} {w:AV} (hw:vs[p]? =some w) (n:Nat):aD false n h (.ptr hb 0 (1+p))=some w:=by
 rw[bC,v.c]
 show(AV.ptr bb 0 0::vs)[1+p]? =some w
 rw[Nat.add_comm,List.getElem?_cons_succ]
 exact hw
theorem ix4 {b p:Nat} (q:IntKind) (hp:p<4):bX none (some (4,1)) (.ptr b 0 1) (.int q (p:Int))=some (.ptr b 0 (1+p)):=by simp[bX,hp]
theorem Fs (s0:St h0 F0 J0 h L) (i:Nat) (hi:L[i]? =some (cU hb bb hands)) {p:Nat} (hp:p<hands.length) {v:VD} {r:List AV} (hv:VaA v r) (hl:(hands.getD p []).length≤1000000) {bz:Nat} (hz:h.cell bz=some [zR3]) {vs:List AV} {w:AV} (hvs:wD h hb bb hands vs) (hw:vs[p]? =some w):
  ∃ q h1 h2 h3,aE true tV w (.msl bz 0 1 tV) h=some (.msl q 0 ((hands.getD p []).length+1) tV,h1)∧aH 3 h1 (.ptr q (hands.getD p []).length 0) (.agg r)=some h2∧aH 1 h2 (.ptr hb 0 (1+p)) (.msl q 0 ((hands.getD p []).length+1) tV)=some h3∧aD true 3 h3 (.ptr q (hands.getD p []).length 0)=some (.agg r)∧
    St h0 F0 J0 h3 (L.set i (cU hb bb (hands.set p (hands.getD p []++[v])))):=by
 have zv:VaA au zR3:=ee
 obtain⟨h3,⟨q,h1,h2⟩,⟨e1,e2,e3,e4⟩,s'⟩:=s0.callE (R:=fun h3 (q:Nat×AH×AH)=>aE true tV w (.msl bz 0 1 tV) h=some (.msl q.1 0 ((hands.getD p []).length+1) tV,q.2.1)∧aH 3 q.2.1 (.ptr q.1 (hands.getD p []).length 0) (.agg r)=some q.2.2∧aH 1 q.2.2 (.ptr hb 0 (1+p)) (.msl q.1 0 ((hands.getD p []).length+1) tV)=some h3∧aD true 3 h3 (.ptr q.1 (hands.getD p []).length 0)=some (.agg r)) i hi (Y:=fun _=>cU hb bb (hands.set p (hands.getD p []++[v]))) fun F J x=>by
  obtain⟨vs',hl',s⟩:=tK x
  have c0:=s.cell 0 rfl
  have ev:vs'=vs:=by
   have:=hvs.c
   rw[c0.1]at this
   simpa using this
  subst ev
  obtain⟨w',hw',hz'⟩:=Cp hl' hp
  rw[hw]at hw'
  injection hw' with hw'
  subst hw'
  have hi':(ai hb [.ptr bb 0 0::vs']::List.zipWith cG vs' hands)[p+1]? =some (cG w (hands.getD p [])):=hz'
  generalize hands.getD p []=l at*
  obtain⟨h1,e1,s1⟩:=s.app (p+1) hi' hz zv hl
  have hlt:p+1<(ai hb [.ptr bb 0 0::vs']::List.zipWith cG vs' hands).length:=(List.getElem?_eq_some_iff.1 hi').1
  obtain⟨h2,e2,s2⟩:=s1.call (R:=fun h2=>aH 3 h1 (.ptr h.n l.length 0) (.agg r)=some h2) (X:=cG (.msl h.n 0 (l.length+1) tV) (l++[au])) (Y:=cG (.msl h.n 0 (l.length+1) tV) ((l++[au]).set l.length v)) (p+1) (by rw[List.getElem?_set];simp only[if_true,hlt]) fun F J x=>xZ x (i:=l.length) (by simp) hv
  rw[List.set_set,show(l++[au]).set l.length v=l++[v] from wo l [] au v rfl]at s2
  have s2:St h F J h2 (ai hb [.ptr bb 0 0::vs']::List.zipWith cG (vs'.set p (.msl h.n 0 (l.length+1) tV)) (hands.set p (l++[v]))):=by
   rw[←KG];exact s2
  have c2:=s2.cell 0 rfl
  have s3:=s2.set 0 rfl [.ptr bb 0 0::vs'.set p (.msl h.n 0 (l.length+1) tV)]
  have hpl:p<vs'.length:=by omega
  refine⟨_,(h.n,h1,h2),⟨e1,e2,bo c2.1 rfl rfl rfl (by simp;omega),?_⟩,?_⟩
  ·have hne:hb≠h.n:=by have:=c0.2;omega
   rw[bC,be (Ne.symm hne),←bC (agg:=true) (n:=3)]
   exact tF e2
  ·refine EQ (vs:=vs'.set p (.msl h.n 0 (l.length+1) tV)) (by simp[hl']) ?_
   have e:stA (AV.ptr bb 0 0::vs') (1+p) (AV.msl h.n 0 (l.length+1) tV).cells= .ptr bb 0 0::vs'.set p (.msl h.n 0 (l.length+1) tV):=by
    rw[Nat.add_comm]
    unfold stA
    simp only[AV.cells,List.take_succ_cons,List.length_singleton,List.drop_succ_cons,List.cons_append]
    rw[List.set_eq_take_append_cons_drop,if_pos hpl]
    simp
   simp only[List.set_cons_zero]
   rw[e]
   exact s3
 exact⟨q,h1,h2,h3,e1,e2,e3,e4,s'⟩
end
structure HoC where
 (hb bb gb wb:Nat)
abbrev df (c:HoC) (H:HoD):List Asn:=[cU c.hb c.bb H.hands,dA c.bb c.gb c.wb H.ms H.S.kept,bp c.gb H.S.G,bk c.wb H.S.cells H.S.log]
structure OkH (H:HoD):Prop where
 good:H.Good
 log:H.S.log.length≤800000
 hands:∀ l∈H.hands,l.length≤90000
theorem OkH.len {H:HoD} (o:OkH H):H.ms.length=H.S.kept.length:=o.good.ms.trans o.good.st.kept.symm
section
variable {h h' h0:AH} {F J F0 J0:Nat→Prop} {L:List Asn} {hb bb:Nat} {hands:List (List VD)} {c:HoC} {H:HoD}
theorem bE (p:Int):aj Tryz.prog po 57 [.int .i64 p] h=some (.inl (.bool (inP p)),h):=by
 refine ah Ba rfl ?_;unfold rQ
 unfold inP
 cases h1:decide (0≤p)<;>simp only[sim,ag,reduceAdd,reduceSub,replicate,reduceCtorEq,reduceLeDiff,reduceLT,aa,h1]
abbrev evR (c f:Int) (r:List AV):List AV:= .int .i64 c:: .int .i64 f::r
theorem Ld (x:(cU hb bb hands).A h F J) {k:Int} (hk:k≠0) (p n:Int):∃ h',aj Tryz.prog po 59 [.ptr hb 0 0,.int .i64 p,.int .i64 n,.int .i64 k] h=some (.inl (.agg (evR k 0 zR3)),h')∧Did h F J h' (cU hb bb hands):=by
 have s0:St h F J h [cU hb bb hands]:=St.start (aX.one x)
 have s1:=s0.push [evR k 0 zR3]
 have d1:decide (k=0)=false:=decide_eq_false hk
 refine⟨_,?_,Did.imp (fun _ _ _=>aX.one') s1.drop⟩
 refine ah Aw rfl ?_;unfold tf
 simp only[sim,ag,reduceAdd,reduceSub,replicate,reduceCtorEq,reduceLeDiff,reduceLT,aa,d1,aC,bm]
theorem I7 (x:(cU hb bb hands).A h F J) (h4:hands.length=4) (hl:∀ l∈hands,l.length≤90000) {p:Int} (hp:0≤p∧p<4) (n:Int):∃ h',aj Tryz.prog po 59 [.ptr hb 0 0,.int .i64 p,.int .i64 n,.int .i64 0] h=some (.inl (.agg (evR 0 0 [.int .i64 4,.int .i64 n,.nils])),h')∧Did h F J h' (cU hb bb (hands.set p.toNat (hands.getD p.toNat []++[fh n]))):=by
 obtain⟨j,rfl⟩:∃ j:Nat,p=(j:Int):=⟨p.toNat,by omega⟩
 have hj:j<4:=by omega
 have s0:St h F J h [cU hb bb hands]:=St.start (aX.one x)
 have s1:=s0.push [evR 0 0 zR3]
 have s2:=s1.push [[.int .i64 4,.int .i64 n,.nils]]
 have s3:=s2.push [zR3]
 have c0:=(s3.cell 0 rfl).1
 have c1:=(s3.cell 1 rfl).1
 have c2:=(s3.cell 2 rfl).1
 obtain⟨vs,hv2⟩:=d7 s2 2 rfl
 have hv:=hv2.push s3 3 rfl
 obtain⟨w,hw,hh⟩:=hv.v j (by omega)
 have ld:=hv.ld hw
 have ld2:=hv2.ld hw
 have b1:=(s2.cell 0 rfl).1
 have hlj:(hands.getD j []).length≤1000000:=by
  have:hands.getD j []∈hands:=by
   rw[List.getD,List.getElem?_eq_getElem (by omega),Option.getD_some]
   exact List.getElem_mem _
  have:=hl _ this
  omega
 obtain⟨q,h1,h2,h3,a1,a2,a3,a4,s4⟩:=Fs s3 3 rfl (p:=j) (by omega) (wE n) hlj c0 hv hw
 have s4:St h F J h3 [ai (h.n+1+1) [zR3],ai (h.n+1) [[.int .i64 4,.int .i64 n,.nils]],ai h.n [evR 0 0 zR3],cU hb bb (hands.set j (hands.getD j []++[fh n]))]:=s4
 have a1:aE true tV w (.msl (h.n+1+1) 0 1 tV) _=_:=a1
 have e1:=(s4.cell 1 rfl).1
 have e2:=(s4.cell 2 rfl).1
 have s5:=s4.set 2 rfl [evR 0 0 [.int .i64 4,.int .i64 n,.nils]]
 have f1:aI 1 (.ptr hb 0 0)=some (.ptr hb 0 1):=rfl
 have ix:∀ q,bX none (some (4,1)) (.ptr hb 0 1) (.int q (j:Int))=some (.ptr hb 0 (1+j)):=fun q=>ix4 q hj
 have iq:∀ k,bX (some tV) none (.msl q 0 ((hands.getD j []).length+1) tV) (.int k ((hands.getD j []).length:Int))=some (.ptr q (hands.getD j []).length 0):=fun k=>by
  rw[sj rfl (Nat.lt_succ_self _),Nat.zero_add]
 obtain⟨l1,l2,l3,l4⟩:=hh.fits |> fun f=>And.intro hh.len (And.intro f (And.intro hh.one hh.cells))
 rw[Int.toNat_natCast]
 generalize hands.getD j []=l at*
 refine⟨_,?_,Did.imp (fun _ _ _=>aX.one') s5.drop.drop.drop⟩
 have p1:∀ x,(h.push [evR 0 0 zR3]).push x=(h.push [evR 0 0 zR3]).push x:=fun _=>rfl
 refine ah Aw rfl ?_;unfold tf
 simp only[sim,ag,reduceAdd,reduceSub,replicate,reduceCtorEq,reduceLeDiff,reduceLT,aa,aC,bm,ct,kb,c0,c1,c2,f1,ix,iq,ld,ld2,b1,l1,l2,l3,l4,a1,a2,a3,a4,e1,e2]
theorem MV {bb p:Nat} (q:IntKind) (hp:p<4):bX none (some (4,5)) (.ptr bb 0 2) (.int q (p:Int))=some (.ptr bb 0 (2+p*5)):=by simp[bX];omega
set_option maxHeartbeats 1000000 in
theorem EA (x:(aX (df c H)).A h F J) (o:OkH H) (p:Int) {M:List XD} {v:AV} {es:List (List AV)} (q3:SlA tE v es) (q4:ExL M es) (hL:M.length≤100000) (hs:∀ x∈M,x.size≤100000):
  ∃ h',aj Tryz.prog po 56 [.ptr c.hb 0 0,.int .i64 p,.agg [v]] h=some (.inl (.int .i64 (H.load p M).2),h')∧Did h F J h' (aX (df c (H.load p M).1)):=by
 have s0:St h F J h (df c H):=St.start x
 have s1:=s0.push [[v]]
 have mm:∀ h,gk h v M:=fun h=>gk.of q3 q4
 have ov:=(mm h).one
 have c1:=(s1.cell 0 rfl).1
 unfold HoD.load
 cases hp:inP p with
 | false=>
   refine⟨_,?_,s1.drop⟩
   refine ah sa rfl ?_;unfold nH
   simp only[sim,ag,reduceAdd,reduceSub,replicate,reduceCtorEq,reduceLeDiff,reduceLT,aa,bE,hp,ov,if_true]
 | true=>
   obtain⟨p0,p1⟩:=lZ.1 hp
   rw[if_neg (by decide)]
   have mk:=fun(h:AH)=>Eo (h:=h) q3 q4 mm hL hs
   unfold sD at mk
   have s2:=s1.push [[.int .i64 (bc M).1,.int .i64 (bc M).2]]
   have c2:=(s2.cell 0 rfl).1
   by_cases hz:(bc M).1=0
   ·have dz:decide ((bc M).1=0)=true:=decide_eq_true hz
    rw[if_neg (fun h=>h hz)]
    obtain⟨j,rfl⟩:∃ j:Nat,p=(j:Int):=⟨p.toNat,by omega⟩
    obtain⟨f1,f2,f3⟩:=eD M
    have f4:(ei M).cells=[ei M]:=by unfold ei;rfl
    have hj:j<4:=by omega
    obtain⟨vs,hv⟩:=d7 s2 2 rfl
    have lb:=hv.box 1
    obtain⟨h3,e3,s3⟩:=HH s2 3 rfl o.len (p:=j) (by rw[o.good.ms];exact hj) (M:=M) ee
    have ix:∀ q,bX none (some (4,5)) (.ptr c.bb 0 2) (.int q (j:Int))=some (.ptr c.bb 0 (2+j*5)):=fun q=>MV q hj
    have g1:aI 2 (.ptr c.bb 0 0)=some (.ptr c.bb 0 2):=rfl
    have g0:aI 0 (.ptr c.hb 0 0)=some (.ptr c.hb 0 0):=rfl
    refine⟨h3,?_,s3.drop.drop⟩
    rw[if_pos hz]at mk
    rw[Int.toNat_natCast]
    generalize ei M=cv at*
    refine ah sa rfl ?_;unfold nH
    simp only[sim,ag,reduceAdd,reduceSub,replicate,reduceCtorEq,reduceLeDiff,reduceLT,aa,ay,bE,hp,ov,c1,mk,aC,bm,ct,kb,c2,dz,lb,ix,g0,g1,f3,f4,e3]
   ·have dz:decide ((bc M).1=0)=false:=decide_eq_false hz
    rw[if_pos hz]
    rw[if_neg hz]at mk
    refine⟨_,?_,s2.drop.drop⟩
    refine ah sa rfl ?_;unfold nH
    simp only[sim,ag,reduceAdd,reduceSub,replicate,reduceCtorEq,reduceLeDiff,reduceLT,aa,ay,bE,hp,ov,c1,mk,aC,bm,ct,kb,c2,dz]
def aU (x:ci) (m:AV):List AV:=[.int .i64 x.kind,.int .i64 x.p,.int .i64 x.q,.int .i64 x.k,.int .i64 x.h,.int .i64 x.r,.int .i64 x.g,.int .i64 x.n,m]
def EvR (e:EvD) (r:List AV):Prop:=∃ q,r=evR e.code e.fuel q∧VaA e.v q
theorem EvR.no {c:Int}:EvR (EvD.no c) (evR c 0 zR3):=⟨zR3,rfl,ee⟩
theorem MX {b:Nat} {p:Int} (q:IntKind) (h0:0≤p) (h1:p<4):bX none (some (4,1)) (.ptr b 0 1) (.int q p)=some (.ptr b 0 (1+p.toNat)):=by
 obtain⟨j,rfl⟩:=Int.eq_ofNat_of_zero_le h0
 rw[Int.toNat_natCast]
 exact ix4 q (by omega)
abbrev CL (n0:Nat) (y:ci) (m:AV) (ra:List AV) (c:HoC) (H:HoD):List Asn:=[ai (n0+1+1) [ra],ai (n0+1) [evR 0 0 zR3],ai n0 [aU y m],cU c.hb c.bb H.hands,dA c.bb c.gb c.wb H.ms H.S.kept,bp c.gb H.S.G,bk c.wb H.S.cells H.S.log]
structure OU (h0:AH) (F0 J0:Nat→Prop) (n0:Nat) (hA:AH) (y:ci) (m:AV) (ra:List AV) (c:HoC) (H:HoD) (S':StD) (v:VD) (n k:Int) (h5:AH) (r':List AV):Prop where
 e:aj Tryz.prog po eU (nP c.bb y.p y.k ra 2000) hA=some (.inl (.tup [.agg r',.int .i64 n,.int .i64 k]),h5)
 va:VaA v r'
 a0:hA.cell (n0+1+1)=some [ra]
 a2:hA.cell n0=some [aU y m]
 ab:aD false 1 hA (.ptr c.hb 0 0)=some (.ptr c.bb 0 0)
 b0:(h5.push [zR3]).cell (n0+1+1)=some [ra]
 b2:(h5.push [zR3]).cell n0=some [aU y m]
 bb:aD false 1 (h5.push [zR3]) (.ptr c.hb 0 0)=some (.ptr c.bb 0 0)
 d1:(h5.push [r']).cell (n0+1)=some [evR 0 0 zR3]
 s:St h0 F0 J0 ((h5.push [r']).set (n0+1) (some [evR k n r'])) (df c {H with S:=S'})
theorem vD {n0:Nat} {hA:AH} {y:ci} {m:AV} {ra:List AV} {arg:VD} (s:St h0 F0 J0 hA (CL n0 y m ra c H)) (o:OkH H) (hv:VaA arg ra) (hsz:arg.size≤100000):
  ∃ h5 r',OU h0 F0 J0 n0 hA y m ra c H (cO H.ms y.p y.k arg 2000 H.S).1 (cO H.ms y.p y.k arg 2000 H.S).2.1 (cO H.ms y.p y.k arg 2000 H.S).2.2.1 (cO H.ms y.p y.k arg 2000 H.S).2.2.2 h5 r':=by
 obtain⟨h5,⟨r',e5,v5⟩,s5⟩:=s.callL (A:=[ai (n0+1+1) [ra],ai (n0+1) [evR 0 0 zR3],ai n0 [aU y m],cU c.hb c.bb H.hands]) (M:=[dA c.bb c.gb c.wb H.ms H.S.kept,bp c.gb H.S.G,bk c.wb H.S.cells H.S.log]) (B:=[])
  (M':=[dA c.bb c.gb c.wb H.ms (cO H.ms y.p y.k arg 2000 H.S).1.kept,bp c.gb (cO H.ms y.p y.k arg 2000 H.S).1.G,bk c.wb (cO H.ms y.p y.k arg 2000 H.S).1.cells (cO H.ms y.p y.k arg 2000 H.S).1.log])
  fun F J x=>KT (p:=y.p) (f:=y.k) (fuel:=2000) hv hsz x o.good.ms o.good.ok.good o.good.ok.sized o.good.st (by have:=o.log;omega)
 have s5:St h0 F0 J0 h5 (CL n0 y m ra c {H with S:=(cO H.ms y.p y.k arg 2000 H.S).1}):=s5
 obtain⟨vs,hv1⟩:=d7 s 3 rfl
 have s6:=s5.push [zR3]
 obtain⟨vs6,hv6⟩:=d7 s6 4 rfl
 have s7:=s5.push [r']
 have s8:=s7.set 2 rfl [evR (cO H.ms y.p y.k arg 2000 H.S).2.2.2 (cO H.ms y.p y.k arg 2000 H.S).2.2.1 r']
 exact⟨h5,r',e5,v5,(s.cell 0 rfl).1,(s.cell 2 rfl).1,hv1.box 1,(s6.cell 1 rfl).1,(s6.cell 3 rfl).1,hv6.box 1,(s7.cell 2 rfl).1,s8.drop.drop.drop.drop⟩
set_option maxHeartbeats 1000000 in
theorem Ex (x:(aX (df c H)).A h F J) (o:OkH H) (y:ci) {m:AV} (hm:m.one=true):
  ∃ h',(∃ r,aj Tryz.prog po 61 [.ptr c.hb 0 0,.agg (aU y m)] h=some (.inl (.agg r),h')∧EvR (H.call y).2 r)∧Did h F J h' (aX (df c (H.call y).1)):=by
 have s0:St h F J h (df c H):=St.start x
 have s1:=s0.push [aU y m]
 have s2:=s1.push [evR 0 0 zR3]
 have s3:St h F J _ (CL h.n y m [.int .i64 1,.int .i64 y.n,.nils] c H):=s2.push [[.int .i64 1,.int .i64 y.n,.nils]]
 have c0:=(s3.cell 0 rfl).1
 have c1:=(s3.cell 1 rfl).1
 have c2:=(s3.cell 2 rfl).1
 have d2:=(s2.cell 1 rfl).1
 obtain⟨vs,hv⟩:=d7 s3 3 rfl
 have mset:∀ x,(((h.push [aU y m]).push [evR 0 0 zR3]).push [zR3]).set (h.n+1+1) (some x)=((h.push [aU y m]).push [evR 0 0 zR3]).push x:=fun x=>bm
 have mget:(((h.push [aU y m]).push [evR 0 0 zR3]).push [zR3]).cell (h.n+1+1)=some [zR3]:=aC (h:=(h.push [aU y m]).push [evR 0 0 zR3])
 have f4:∀ b o k,aI o (.ptr b 0 k)=some (.ptr b 0 (k+o)):=fun _ _ _=>rfl
 simp only[aU]at c2 d2 mset mget
 unfold HoD.call
 by_cases hc:0≤y.h∧(inP y.p=false∨((H.hand y.p).length:Int)≤y.h)
 ·rw[if_pos hc]
  obtain⟨hc1,hc2⟩:=hc
  have dh:decide (0≤y.h)=true:=decide_eq_true hc1
  have s4:=s3.set 1 rfl [evR 8 0 zR3]
  refine⟨_,⟨_,?_,EvR.no⟩,s4.drop.drop.drop⟩
  cases hp:inP y.p with
  | false=>
    refine ah oC rfl ?_;unfold lR
    simp only[sim,ag,reduceAdd,reduceSub,replicate,reduceCtorEq,reduceLeDiff,reduceLT,aa,aU,bE,hp,hm,dh,c0,c1,c2,d2,mget,mset,aP]
  | true=>
    obtain⟨p0,p1⟩:=lZ.1 hp
    have hl:((H.hand y.p).length:Int)≤y.h:=hc2.resolve_left (by simp[hp])
    have dl:decide (((H.hand y.p).length:Int)≤y.h)=true:=decide_eq_true hl
    obtain⟨w,hw,hh⟩:=hv.v y.p.toNat (by rw[o.good.hands];omega)
    have ld:=hv.ld hw
    simp only[aU]at ld
    have ix:=fun q=>MX (b:=c.hb) q p0 p1
    have hh:yJ _ w (H.hand y.p):=hh
    have l1:=hh.len
    have l2:=hh.fits
    refine ah oC rfl ?_;unfold lR
    simp only[sim,ag,reduceAdd,reduceSub,replicate,reduceCtorEq,reduceLeDiff,reduceLT,aa,aU,bE,hp,hm,dh,c0,c1,c2,d2,mget,mset,aP,ix,ld,l1,l2,dl]
 ·rw[if_neg hc]
  have oa:=o.good.arg y
  by_cases h1:0≤y.h
  ·have hp:inP y.p=true:=by
    cases hp:inP y.p with
    | true=>rfl
    | false=>exact absurd ⟨h1,.inl hp⟩ hc
   have hl:¬ ((H.hand y.p).length:Int)≤y.h:=fun h=>hc ⟨h1,.inr h⟩
   obtain⟨p0,p1⟩:=lZ.1 hp
   have dl:decide (((H.hand y.p).length:Int)≤y.h)=false:=decide_eq_false hl
   have dh:decide (0≤y.h)=true:=decide_eq_true h1
   obtain⟨w,hw,hh⟩:=hv.v y.p.toNat (by rw[o.good.hands];omega)
   have ld:=hv.ld hw
   simp only[aU]at ld
   have ix:=fun q=>MX (b:=c.hb) q p0 p1
   have hh:yJ _ w (H.hand y.p):=hh
   have l1:=hh.len
   have l2:=hh.fits
   rw[if_pos h1]at oa ⊢
   have hi:y.h.toNat<(H.hand y.p).length:=by omega
   have eg:(H.hand y.p)[y.h.toNat]? =some ((H.hand y.p).getD y.h.toNat au):=by simp[List.getD,hi]
   generalize (H.hand y.p).getD y.h.toNat au=arg at*
   obtain⟨pr,ra,i1,i2,va⟩:=hh.ix .i64 _ _ eg
   rw[Int.toNat_of_nonneg h1]at i1
   have i2s:=i2
   simp only[aU]at i2s
   have s4:St h F J _ (CL h.n y m ra c H):=s2.push [ra]
   obtain⟨r1,r2⟩:=va.len3
   have ms2:((((h.push [aU y m]).push [evR 0 0 zR3]).push [[.int .i64 1,.int .i64 y.n,.nils]]).set (h.n+1+1) (some [ra]))=((h.push [aU y m]).push [evR 0 0 zR3]).push [ra]:=bm
   simp only[aU]at ms2
   obtain⟨h5,r',e,v',a0,a2,ab,b0,b2,bb,d1,sF⟩:=vD s4 o va oa.2
   generalize cO H.ms y.p y.k arg 2000 H.S=q at*
   obtain⟨S',v,n,k⟩:=q
   simp only at e v' a0 a2 ab b0 b2 bb d1 sF ⊢
   obtain⟨z1,z2⟩:=v'.len3
   refine⟨_,⟨_,?_,⟨r',rfl,v'⟩⟩,sF⟩
   simp only[aU]at e a0 a2 ab b0 b2
   refine ah oC rfl ?_;unfold lR
   simp only[sim,ag,reduceAdd,reduceSub,replicate,reduceCtorEq,reduceLeDiff,reduceLT,aa,aU,bE,hp,hm,dh,c0,c1,c2,d2,mget,mset,aP,ix,ld,l1,l2,dl,ms2,i1,i2s,r1,r2,e,a0,a2,ab,b0,b2,bb,d1,z1,z2,aC,bm]
  ·rw[if_neg h1]at oa ⊢
   have dh:decide (0≤y.h)=false:=decide_eq_false h1
   obtain⟨h5,r',e,v',a0,a2,ab,b0,b2,bb,d1,sF⟩:=vD s3 o (tD y.n) oa.2
   generalize cO H.ms y.p y.k (iH y.n) 2000 H.S=q at*
   obtain⟨S',v,n,k⟩:=q
   simp only at e v' a0 a2 ab b0 b2 bb d1 sF ⊢
   obtain⟨z1,z2⟩:=v'.len3
   refine⟨_,⟨_,?_,⟨r',rfl,v'⟩⟩,sF⟩
   simp only[aU]at e a0 a2 ab b0 b2
   refine ah oC rfl ?_;unfold lR
   simp only[sim,ag,reduceAdd,reduceSub,replicate,reduceCtorEq,reduceLeDiff,reduceLT,aa,aU,bE,hm,dh,c0,c1,c2,d2,mget,mset,aP,e,a0,a2,ab,b0,b2,bb,d1,z1,z2,aC,bm]
end
section
variable {h h' h0:AH} {F J F0 J0:Nat→Prop} {L:List Asn} {c:HoC} {H:HoD}
abbrev doL (n0:Nat) (y:ci) (m:AV) (c:HoC) (H:HoD):List Asn:=[ai (n0+1) [evR 0 0 zR3],ai n0 [aU y m],cU c.hb c.bb H.hands,dA c.bb c.gb c.wb H.ms H.S.kept,bp c.gb H.S.G,bk c.wb H.S.cells H.S.log]
theorem iU {n0:Nat} {hA:AH} {y:ci} {m:AV} (s:St h0 F0 J0 hA (doL n0 y m c H)) (q:List AV):hA.cell (n0+1)=some [evR 0 0 zR3]∧hA.cell n0=some [aU y m]∧St h0 F0 J0 (hA.set (n0+1) (some [q])) (df c H):=
 ⟨(s.cell 0 rfl).1,(s.cell 1 rfl).1,(s.set 0 rfl [q]).drop.drop⟩
theorem oT {n0:Nat} {hA:AH} {y:ci} {m:AV} (s:St h0 F0 J0 hA (doL n0 y m c H)) (o:OkH H) {R:AH→Prop} {G':ae} (cc:∀ F J,IsG hA F J c.gb H.S.G→∃ h',R h'∧de hA F J c.gb h' G'):
  aD false 1 hA (.ptr c.hb 0 0)=some (.ptr c.bb 0 0)∧aD false 1 hA (.ptr c.bb 0 0)=some (.ptr c.gb 0 0)∧∃ h',R h'∧St h0 F0 J0 h' (doL n0 y m c (H.graph G')):=by
 obtain⟨vs,hv⟩:=d7 s 2 rfl
 have l2:=(jX s (ib:=3) rfl o.len).1 1
 obtain⟨h',r,s'⟩:=s.call (R:=R) (Y:=bp c.gb G') 4 rfl cc
 exact⟨hv.box 1,l2,h',r,s'⟩
theorem Dg {n0:Nat} {hA:AH} {y:ci} {m:AV} (s:St h0 F0 J0 hA (doL n0 y m c H)) (o:OkH H) {p:Int} (hp:inP p=true) (n k:Int):
  ∃ h' r,aj Tryz.prog po 59 [.ptr c.hb 0 0,.int .i64 p,.int .i64 n,.int .i64 k] hA=some (.inl (.agg r),h')∧EvR (H.give p n k).2 r∧St h0 F0 J0 h' (doL n0 y m c (H.give p n k).1):=by
 unfold HoD.give
 by_cases hk:k≠0
 ·rw[if_pos hk]
  obtain⟨h',e,s'⟩:=s.call (R:=fun h'=>aj Tryz.prog po 59 [.ptr c.hb 0 0,.int .i64 p,.int .i64 n,.int .i64 k] hA=some (.inl (.agg (evR k 0 zR3)),h')) 2 rfl fun F J x=>Ld x hk p n
  exact⟨h',_,e,EvR.no,s'⟩
 ·rw[if_neg hk]
  have hk:=Classical.not_not.1 hk
  subst hk
  obtain⟨h',e,s'⟩:=s.call (R:=fun h'=>aj Tryz.prog po 59 [.ptr c.hb 0 0,.int .i64 p,.int .i64 n,.int .i64 0] hA=some (.inl (.agg (evR 0 0 [.int .i64 4,.int .i64 n,.nils])),h')) 2 rfl fun F J x=>I7 x o.good.hands o.hands (lZ.1 hp) n
  exact⟨h',_,e,⟨_,rfl,wE n⟩,s'⟩
theorem EvR.all {e:EvD} {r:List AV} (h:EvR e r):r.length=5∧r.all AV.one=true:=by
 obtain⟨q,rfl,hq⟩:=h
 obtain⟨q1,q2⟩:=hq.len3
 refine⟨by simp[q1],?_⟩
 simp only[List.all_cons,q2,Bool.and_true]
 rfl
set_option maxHeartbeats 2000000 in
theorem Kw (x:(aX (df c H)).A h F J) (o:OkH H) (y:ci) {m:AV} {es:List (List AV)} (q3:SlA tE m es) (q4:ExL y.m es) (hL:y.m.length≤100000) (hs:∀ x∈y.m,x.size≤100000):
  ∃ h',(∃ r,aj Tryz.prog po 26 [.ptr c.hb 0 0,.agg (aU y m)] h=some (.inl (.agg r),h')∧EvR (H.step y).2 r)∧Did h F J h' (aX (df c (H.step y).1)):=by
 have s0:St h F J h (df c H):=St.start x
 have s1:=s0.push [aU y m]
 have s2:St h F J _ (doL h.n y m c H):=s1.push [evR 0 0 zR3]
 have hm:m.one=true:=(gk.of (h:=h) q3 q4).one
 have c1:((h.push [aU y m]).push [evR 0 0 zR3]).cell h.n=some [aU y m]:=(s2.cell 1 rfl).1
 have mset:∀ x,((h.push [aU y m]).push [evR 0 0 zR3]).set (h.n+1) (some x)=(h.push [aU y m]).push x:=fun x=>bm
 have mget:∀ x,((h.push [aU y m]).push x).cell (h.n+1)=some x:=fun x=>aC (h:=h.push [aU y m])
 unfold HoD.step
 by_cases k1:y.kind=1
 ·have d1:decide (y.kind=1)=true:=decide_eq_true k1
  rw[if_pos k1]
  obtain⟨h5,e5,s5⟩:=s2.callL (A:=[ai (h.n+1) [evR 0 0 zR3],ai h.n [aU y m]]) (M:=df c H) (B:=[]) (M':=df c (H.load y.p y.m).1) (R:=fun h'=>aj Tryz.prog po 56 [.ptr c.hb 0 0,.int .i64 y.p,.agg [m]] _=some (.inl (.int .i64 (H.load y.p y.m).2),h')) fun F J x=>EA x o y.p q3 q4 hL hs
  have s5:St h F J h5 (doL h.n y m c (H.load y.p y.m).1):=s5
  obtain⟨b1,b2,s6⟩:=iU s5 (evR (H.load y.p y.m).2 0 zR3)
  refine⟨_,⟨_,?_,EvR.no⟩,s6⟩
  have lm:ldA true 1 (aU y m) 8=some (.agg [m]):=rfl
  simp only[aU]at c1 mset mget e5 lm
  refine ah jA rfl ?_;unfold i7
  simp only[sim,ag,reduceAdd,reduceSub,replicate,reduceCtorEq,reduceLeDiff,reduceLT,aa,aU,hm,d1,c1,mget,mset,lm,e5,b1,aP]
 have d1:decide (y.kind=1)=false:=decide_eq_false k1
 rw[if_neg k1]
 by_cases k23:y.kind=2∨y.kind=3
 ·rw[if_pos k23]
  cases hp:inP y.p with
  | false=>
    have s6:=(iU s2 (evR 1 0 zR3)).2.2
    refine⟨_,⟨_,?_,EvR.no⟩,s6⟩
    simp only[aU]at c1 mset mget
    rcases k23 with k2 | k3
    ·have d2:decide (y.kind=2)=true:=decide_eq_true k2
     refine ah jA rfl ?_;unfold i7
     simp only[sim,ag,reduceAdd,reduceSub,replicate,reduceCtorEq,reduceLeDiff,reduceLT,aa,aU,bE,hp,hm,d1,d2,c1,mget,mset,aP]
    ·have d2:decide (y.kind=2)=false:=decide_eq_false (by omega)
     have d3:decide (y.kind=3)=true:=decide_eq_true k3
     refine ah jA rfl ?_;unfold i7
     simp only[sim,ag,reduceAdd,reduceSub,replicate,reduceCtorEq,reduceLeDiff,reduceLT,aa,aU,bE,hp,hm,d1,d2,d3,c1,mget,mset,aP]
  | true=>
    rw[if_neg (by decide)]
    by_cases k2:y.kind=2
    ·have d2:decide (y.kind=2)=true:=decide_eq_true k2
     rw[if_pos k2]
     obtain⟨l1,l2,h3,e3,s3⟩:=oT s2 o (fun F J g=>ND g o.good.st.wf y.k y.r y.g)
     have o':OkH (H.graph (H.S.G.cellC y.k y.r y.g).1):=⟨o.good.graph (o.good.st.wf.cellC _ _ _),o.log,o.hands⟩
     obtain⟨h5,r5,e5,v5,s5⟩:=Dg s3 o' hp (H.S.G.cellC y.k y.r y.g).2.1 (H.S.G.cellC y.k y.r y.g).2.2
     obtain⟨a1,a2,_⟩:=iU s3 r5
     obtain⟨b1,b2,s6⟩:=iU s5 r5
     obtain⟨z1,z2⟩:=v5.all
     refine⟨_,⟨_,?_,v5⟩,s6⟩
     simp only[aU]at c1 mset mget l1 l2 e3 a2
     refine ah jA rfl ?_;unfold i7
     simp only[sim,ag,reduceAdd,reduceSub,replicate,reduceCtorEq,reduceLeDiff,reduceLT,aa,aU,bE,hp,hm,d1,d2,c1,mget,mset,l1,l2,e3,a2,e5,b1,z1,z2,aP]
    ·have d2:decide (y.kind=2)=false:=decide_eq_false k2
     have d3:decide (y.kind=3)=true:=decide_eq_true (k23.resolve_left k2)
     rw[if_neg k2]
     obtain⟨l1,l2,h3,e3,s3⟩:=oT s2 o (fun F J g=>Nh g o.good.st.wf y.q y.k y.r y.g)
     have o':OkH (H.graph (H.S.G.funcC y.q y.k y.r y.g).1):=⟨o.good.graph (o.good.st.wf.funcC _ _ _ _),o.log,o.hands⟩
     obtain⟨h5,r5,e5,v5,s5⟩:=Dg s3 o' hp (H.S.G.funcC y.q y.k y.r y.g).2.1 (H.S.G.funcC y.q y.k y.r y.g).2.2
     obtain⟨a1,a2,_⟩:=iU s3 r5
     obtain⟨b1,b2,s6⟩:=iU s5 r5
     obtain⟨z1,z2⟩:=v5.all
     refine⟨_,⟨_,?_,v5⟩,s6⟩
     simp only[aU]at c1 mset mget l1 l2 e3 a2
     refine ah jA rfl ?_;unfold i7
     simp only[sim,ag,reduceAdd,reduceSub,replicate,reduceCtorEq,reduceLeDiff,reduceLT,aa,aU,bE,hp,hm,d1,d2,d3,c1,mget,mset,l1,l2,e3,a2,e5,b1,z1,z2,aP]
 rw[if_neg k23]
 have d2:decide (y.kind=2)=false:=decide_eq_false fun h=>k23 (.inl h)
 have d3:decide (y.kind=3)=false:=decide_eq_false fun h=>k23 (.inr h)
 by_cases k4:y.kind=4
 ·have d4:decide (y.kind=4)=true:=decide_eq_true k4
  rw[if_pos k4]
  obtain⟨h5,⟨r5,e5,v5⟩,s5⟩:=s2.callL (A:=[ai (h.n+1) [evR 0 0 zR3],ai h.n [aU y m]]) (M:=df c H) (B:=[]) (M':=df c (H.call y).1) (R:=fun h'=>∃ r,aj Tryz.prog po 61 [.ptr c.hb 0 0,.agg (aU y m)] _=some (.inl (.agg r),h')∧EvR (H.call y).2 r) fun F J x=>Ex x o y hm
  have s5:St h F J h5 (doL h.n y m c (H.call y).1):=s5
  obtain⟨b1,b2,s6⟩:=iU s5 r5
  obtain⟨z1,z2⟩:=v5.all
  refine⟨_,⟨_,?_,v5⟩,s6⟩
  simp only[aU]at c1 mset mget e5
  refine ah jA rfl ?_;unfold i7
  simp only[sim,ag,reduceAdd,reduceSub,replicate,reduceCtorEq,reduceLeDiff,reduceLT,aa,aU,hm,d1,d2,d3,d4,c1,mget,mset,e5,b1,z1,z2,aP]
 have d4:decide (y.kind=4)=false:=decide_eq_false k4
 rw[if_neg k4]
 by_cases k5:y.kind=5
 ·have d5:decide (y.kind=5)=true:=decide_eq_true k5
  rw[if_pos k5]
  obtain⟨l1,l2,h3,e3,s3⟩:=oT s2 o (fun F J g=>Mn g y.g)
  obtain⟨b1,b2,s6⟩:=iU s3 (evR (H.S.G.cut y.g).2 0 zR3)
  refine⟨_,⟨_,?_,EvR.no⟩,s6⟩
  simp only[aU]at c1 mset mget l1 l2 e3
  refine ah jA rfl ?_;unfold i7
  simp only[sim,ag,reduceAdd,reduceSub,replicate,reduceCtorEq,reduceLeDiff,reduceLT,aa,aU,hm,d1,d2,d3,d4,d5,c1,mget,mset,l1,l2,e3,b1,aP]
 have d5:decide (y.kind=5)=false:=decide_eq_false k5
 rw[if_neg k5]
 by_cases k6:y.kind=6
 ·have d6:decide (y.kind=6)=true:=decide_eq_true k6
  rw[if_pos k6]
  obtain⟨l1,l2,h3,e3,s3⟩:=oT s2 o (fun F J g=>IJ g o.good.st.wf)
  by_cases hz:H.S.G.gate.2.2=0
  ·have dz:decide (H.S.G.gate.2.2=0)=true:=decide_eq_true hz
   obtain⟨b1,b2,s6⟩:=iU s3 (evR 0 0 [.int .i64 1,.int .i64 H.S.G.gate.2.1,.nils])
   refine⟨_,⟨evR 0 0 [.int .i64 1,.int .i64 H.S.G.gate.2.1,.nils],?_,?_⟩,s6⟩
   rotate_left
   ·simp only[if_neg (fun h:H.S.G.gate.2.2≠0=>h hz)]
    exact⟨_,rfl,tD _⟩
   simp only[aU]at c1 mset mget l1 l2 e3
   refine ah jA rfl ?_;unfold i7
   simp only[sim,ag,reduceAdd,reduceSub,replicate,reduceCtorEq,reduceLeDiff,reduceLT,aa,aU,hm,d1,d2,d3,d4,d5,d6,c1,mget,mset,l1,l2,e3,b1,dz,aP]
  ·have dz:decide (H.S.G.gate.2.2=0)=false:=decide_eq_false hz
   obtain⟨b1,b2,s6⟩:=iU s3 (evR H.S.G.gate.2.2 0 zR3)
   refine⟨_,⟨evR H.S.G.gate.2.2 0 zR3,?_,?_⟩,s6⟩
   rotate_left
   ·simp only[if_pos (show H.S.G.gate.2.2≠0 from hz)]
    exact EvR.no
   simp only[aU]at c1 mset mget l1 l2 e3
   refine ah jA rfl ?_;unfold i7
   simp only[sim,ag,reduceAdd,reduceSub,replicate,reduceCtorEq,reduceLeDiff,reduceLT,aa,aU,hm,d1,d2,d3,d4,d5,d6,c1,mget,mset,l1,l2,e3,b1,dz,aP]
 have d6:decide (y.kind=6)=false:=decide_eq_false k6
 rw[if_neg k6]
 have s6:=(iU s2 (evR 2 0 zR3)).2.2
 refine⟨_,⟨_,?_,EvR.no⟩,s6⟩
 simp only[aU]at c1 mset mget
 refine ah jA rfl ?_;unfold i7
 simp only[sim,ag,reduceAdd,reduceSub,replicate,reduceCtorEq,reduceLeDiff,reduceLT,aa,aU,hm,d1,d2,d3,d4,d5,d6,c1,mget,mset,aP]
end
abbrev tSt:TypeId:=82
section
variable {h h' h0:AH} {F J F0 J0:Nat→Prop} {L:List Asn} {c:HoC} {H:HoD} {hb bb:Nat} {hands:List (List VD)}
theorem Ja:(cG .nils []).A h (fun _=>False) (fun _=>False):=⟨[],rfl,.inl ⟨⟨rfl,rfl⟩,fun _ h=>h,fun _ h=>h⟩⟩
theorem aX.vals_nils:∀ n:Nat,(aX (List.zipWith cG (replicate n .nils) (replicate n []))).A h (fun _=>False) (fun _=>False)
 | 0=>⟨trivial,fun _ h=>h,fun _ h=>h⟩
 | n+1=>⟨fun _=>False,fun _=>False,fun _=>False,fun _=>False,Ja,aX.vals_nils n,fun k=>by simp,fun j=>by simp,fun _ h=>h.elim,fun _ h=>h.elim⟩
theorem EH {b:Nat} (hb:b=h.n):(cU b bb [[],[],[],[]]).A (h.push [[.ptr bb 0 0,.nils,.nils,.nils,.nils]]) (fun k=>k=b) (fun _=>False):=by
 subst hb
 exact⟨[.nils,.nils,.nils,.nils],rfl,fun k=>k=h.n,fun _=>False,fun _=>False,fun _=>False,⟨fun _=>Iff.rfl,fun _ h=>h,Nat.lt_succ_self _,aC⟩,aX.vals_nils 4,fun k=>by simp,fun j=>by simp,fun _ _ h=>h,fun _ h=>h.elim⟩
theorem Jo (s:St h0 F0 J0 h L):∃ h' c,aj Tryz.prog po 24 [] h=some (.inl (.ptr c.hb 0 0),h')∧St h0 F0 J0 h' (df c ho0++L):=by
 obtain⟨h1,bb,gb,wb,e1,s1⟩:=Ge s
 have s2:=s1.add (X:=cU h1.n bb [[],[],[],[]]) (h':=h1.push [[.ptr bb 0 0,.nils,.nils,.nils,.nils]]) (F1:=fun k=>k=h1.n) (J1:=fun _=>False) (af.push _ _) (EH rfl) (fun k hk=>Nat.le_of_eq hk.symm) (fun _ h=>h.elim)
 refine⟨_,⟨h1.n,bb,gb,wb⟩,?_,s2⟩
 refine ah Ko rfl ?_;unfold C2
 simp only[sim,ag,reduceAdd,reduceSub,replicate,reduceCtorEq,reduceLeDiff,reduceLT,aa,e1]
theorem BB (b:Nat) (n:Nat) {l:List VD} {rows:List (List AV)} (hl:VaL l rows) (he:bL h tV (.msl b 0 n tV)=some rows) (hn:l.length≤1000000):∃ es,aj Tryz.prog po 69 [.msl b 0 n tV] h=some (.inl (.isl none tV es),h)∧VaL l es:=by
 have hlen:=hl.len
 have he0:∀ m,bL (h.fresh m) tV (.msl b 0 n tV)=some rows:=fun m=>he
 have ho:∀ r∈rows,r.all AV.one=true:=by
  intro r hr
  obtain⟨i,hi⟩:=List.mem_iff_getElem?.1 hr
  have h1:i<l.length:=by rw[←hlen];exact(List.getElem?_eq_some_iff.1 hi).1
  obtain⟨r',q1,q2⟩:=hl.get (List.getElem?_eq_getElem h1)
  rw[hi]at q1
  injection q1 with q1
  rw[q1]
  exact q2.len3.2
 have e1:aE false tV (.isl (some h.ids) tV []) (.msl b 0 n tV) (h.fresh 0)=some (.isl (some h.ids) tV rows,if rows.length=0 then h.fresh 0 else(h.fresh 0).grow h.ids rows.length):=by
  simp only[aE,he0,Option.bind_some]
  by_cases hz:rows.length=0
  ·simp[hz,kT,List.length_eq_zero_iff.1 hz]
  ·rw[if_neg hz,if_neg hz]
   unfold eo
   rw[if_pos ⟨by omega,by omega,by rw[List.all_eq_true];exact ho⟩]
   simp[jR]
 have hg:af h (if rows.length=0 then h.fresh 0 else(h.fresh 0).grow h.ids rows.length):=by
  split
  ·exact af.fresh h 0
  ·exact(af.fresh h 0).grow (Nat.le_refl _)
 obtain⟨es,w1,w2⟩:=xB hl
 have hw:wkA (.isl (some h.ids) tV rows)=some (.isl none tV es):=by simp only[wkA,w1,Option.map_some]
 refine⟨es,?_,w2⟩
 refine ah vO rfl ?_;unfold pb
 simp only[sim,ag,reduceAdd,reduceSub,replicate,reduceCtorEq,reduceLeDiff,reduceLT,aa,e1,aA hg hw]
theorem Bk:aj Tryz.prog po 69 [.nils] h=some (.inl .nils,h):=by
 refine ah vO rfl ?_;unfold pb
 simp only[sim,ag,reduceAdd,reduceSub,replicate,reduceCtorEq,reduceLeDiff,reduceLT,aa]
 exact aA (af.refl h) rfl
def HoD.handO (H:HoD) (p:Int):List VD:=if inP p then H.hand p else[]
theorem Gs (s:St h0 F0 J0 h L) (i:Nat) (hi:L[i]? =some (cU hb bb H.hands)) (h4:H.hands.length=4) (hlen:∀ l∈H.hands,l.length≤90000) (p:Int):
  ∃ v es,aj Tryz.prog po 28 [.ptr hb 0 0,.int .i64 p] h=some (.inl v,h)∧SlA tV v es∧VaL (H.handO p) es:=by
 unfold HoD.handO
 cases hp:inP p with
 | false=>
   refine⟨.nils,[],?_,.inl ⟨rfl,rfl⟩,by simp[VaL]⟩
   refine ah qJ rfl ?_;unfold oS
   simp only[sim,ag,reduceAdd,reduceSub,replicate,reduceCtorEq,reduceLeDiff,reduceLT,aa,bE,hp]
   exact aA (af.refl h) rfl
 | true=>
   obtain⟨p0,p1⟩:=lZ.1 hp
   obtain⟨vs,hv⟩:=d7 s i hi
   obtain⟨w,hw,hh⟩:=hv.v p.toNat (by omega)
   have ld:=hv.ld hw
   have ix:=fun q=>MX (b:=hb) q p0 p1
   have f1:aI 1 (.ptr hb 0 0)=some (.ptr hb 0 1):=rfl
   have hl:(H.hand p).length≤1000000:=by
    have:H.hand p∈H.hands:=by
     unfold HoD.hand
     rw[List.getD,List.getElem?_eq_getElem (by omega),Option.getD_some]
     exact List.getElem_mem _
    have:=hlen _ this
    omega
   have hh:yJ h w (H.hand p):=hh
   rw[if_pos rfl]
   rcases hh.sl with⟨e1,rfl⟩ | ⟨b,rows,rfl,e2,e3⟩
   ·refine⟨.nils,[],?_,.inl ⟨rfl,rfl⟩,by rw[e1];simp[VaL]⟩
    refine ah qJ rfl ?_;unfold oS
    simp only[sim,ag,reduceAdd,reduceSub,replicate,reduceCtorEq,reduceLeDiff,reduceLT,aa,bE,hp,f1,ix,ld,Bk]
    exact aA (af.refl h) rfl
   ·obtain⟨es,e4,e5⟩:=BB b _ e2 e3 hl
    obtain⟨es',w1,w2⟩:=xB e5
    refine⟨.isl none tV es',es',?_,.inr ⟨_,rfl⟩,w2⟩
    have hwk:wkA (.isl none tV es)=some (.isl none tV es'):=by simp only[wkA,w1,Option.map_some]
    refine ah qJ rfl ?_;unfold oS
    simp only[sim,ag,reduceAdd,reduceSub,replicate,reduceCtorEq,reduceLeDiff,reduceLT,aa,bE,hp,f1,ix,ld,e4]
    exact aA (af.refl h) hwk
def fK:List ci→List (List AV)→Prop
 | [],es=>es=[]
 | x::xs,es=>∃ m ms rs,es=aU x m::rs∧SlA tE m ms∧ExL x.m ms∧fK xs rs
theorem fK.len:∀ {xs:List ci} {es:List (List AV)},fK xs es→es.length=xs.length
 | [],es,h=>by simp only[fK]at h;subst h;rfl
 | x::xs,es,h=>by
   obtain⟨m,ms,rs,rfl,_,_,h2⟩:=h
   simp[h2.len]
theorem fK.get:∀ {xs:List ci} {es:List (List AV)} {i:Nat} {x:ci},fK xs es→xs[i]? =some x→∃ m ms,es[i]? =some (aU x m)∧SlA tE m ms∧ExL x.m ms
 | [],es,i,x,h,hi=>by simp at hi
 | y::xs,es,i,x,h,hi=>by
   obtain⟨m,ms,rs,rfl,h1,h2,h3⟩:=h
   cases i with
   | zero=>obtain rfl:y=x:=by simpa using hi
           exact⟨m,ms,rfl,h1,h2⟩
   | succ i=>exact h3.get (by simpa using hi)
def tR (xs:List ci) (most:Nat):Bool:=(xs.take most).any (fun x=>fU x.m) || decide (most<xs.length)
theorem EB {xs:List ci} {most:Nat} (h:tR xs most=false):xs.length≤most∧∀ x∈xs,x.m.length≤100000∧∀ e∈x.m,e.size≤100000:=by
 unfold tR at h
 simp only[Bool.or_eq_false_iff,decide_eq_false_iff_not,Nat.not_lt]at h
 obtain⟨h1,h2⟩:=h
 rw[List.take_of_length_le h2]at h1
 refine⟨h2,fun x hx=> ?_⟩
 have hg:fU x.m=false:=by
  cases hg:fU x.m with
  | false=>rfl
  | true=>
    have:xs.any (fun x=>fU x.m)=true:=List.any_eq_true.2 ⟨x,hx,hg⟩
    rw[this]at h1;cases h1
 obtain⟨q1,q2⟩:=GP hg
 exact⟨by omega,fun e he=>by have:=q2 e he;omega⟩
theorem yY {lv:AV} {rows:List (List AV)} {xs:List ci} (hs:SlA tSt lv rows) (hl:fK xs rows) (hxl:xs.length≤9223372036854775807) {most:Nat} (hm:most≤1000) (K:List RK):∀ (d k:Nat) (h':AH) (v4 v5:AV),k+d=most→af h h'→
  (((xs.take most).drop k).any (fun x=>fU x.m)=true→∃ V,aq (aj Tryz.prog po) 6 (.lp bA:: .ss []:: .blk 0::K) [lv,.int .i64 (most:Int),.bool false,.int .i64 (k:Int),v4,v5] [] h'=some (.ret,V,h')∧V.getD 2 .junk= .bool true)∧
  (((xs.take most).drop k).any (fun x=>fU x.m)=false→∃ w3 w4 w5,aq (aj Tryz.prog po) 6 (.lp bA:: .ss []:: .blk 0::K) [lv,.int .i64 (most:Int),.bool false,.int .i64 (k:Int),v4,v5] [] h'=aq (aj Tryz.prog po) 6 K [lv,.int .i64 (most:Int),.bool false,w3,w4,w5] [] h'):=by
 have hll:=hl.len
 have end_:∀ (k:Nat) (h':AH) (v4 v5:AV),(xs.length≤k∨most≤k)→∃ w3 w4 w5,aq (aj Tryz.prog po) 6 (.lp bA:: .ss []:: .blk 0::K) [lv,.int .i64 (most:Int),.bool false,.int .i64 (k:Int),v4,v5] [] h'=aq (aj Tryz.prog po) 6 K [lv,.int .i64 (most:Int),.bool false,w3,w4,w5] [] h':=by
  intro k h' v4 v5 hk
  by_cases h1:k<xs.length
  ·have d1:decide ((k:Int)<(xs.length:Int))=true:=decide_eq_true (by omega)
   have d2:decide ((k:Int)<(most:Int))=false:=decide_eq_false (by omega)
   refine⟨.int .i64 (k:Int),.bool false,v5,?_⟩
   rw[aF bA.eq_1]
   simp only[sim,ag,reduceAdd,reduceSub,replicate,reduceCtorEq,reduceLeDiff,reduceLT,aa,hs.isL.len,hs.isL.fits,hll,d1,d2]
  ·have d1:decide ((k:Int)<(xs.length:Int))=false:=decide_eq_false (by omega)
   refine⟨.int .i64 (k:Int),.bool false,v5,?_⟩
   rw[aF bA.eq_1]
   simp only[sim,ag,reduceAdd,reduceSub,replicate,reduceCtorEq,reduceLeDiff,reduceLT,aa,hs.isL.len,hs.isL.fits,hll,d1]
 intro d
 induction d with
 | zero=>
   intro k h' v4 v5 hk hg
   refine⟨fun h=> ?_,fun _=>end_ k h' v4 v5 (.inr (by omega))⟩
   rw[List.drop_eq_nil_of_le (by simp;omega)]at h
   cases h
 | succ d ih=>
   intro k h' v4 v5 hk hg
   by_cases h1:k<xs.length
   ·have d1:decide ((k:Int)<(xs.length:Int))=true:=decide_eq_true (by omega)
    have d2:decide ((k:Int)<(most:Int))=true:=decide_eq_true (by omega)
    have hx:xs[k]? =some xs[k]:=List.getElem?_eq_getElem h1
    have hk2:k<(xs.take most).length:=by simp;omega
    have ed:(xs.take most).drop k=xs[k]::(xs.take most).drop (k+1):=by
     rw[List.drop_eq_getElem_cons hk2]
     simp
    rw[ed,List.any_cons]
    generalize xs[k]=x at hx
    obtain⟨m,ms,q1,q3,q4⟩:=hl.get hx
    have ix:=hs.isL.ix .i64 k _ q1
    have mm:∀ h,gk h m x.m:=fun h=>gk.of q3 q4
    have gr:=FF (h:=h') m x.m (mm h')
    have om:=(mm h').one
    have f8:aI 8 (.ip (aU x m) 0)=some (.ip (aU x m) 8):=rfl
    have lm:ldA true 1 (aU x m) 8=some (.agg [m]):=rfl
    have w:=w64 (n:=(k:Int)+1) (by omega) (by omega)
    obtain⟨i1,i2⟩:=ih (k+1) h' (.bool true) (.bool (fU x.m)) (by omega) hg
    have ek:((k+1:Nat):Int)=(k:Int)+1:=by omega
    cases hgx:fU x.m with
    | true=>
      rw[hgx]at gr
      refine⟨fun _=>⟨[lv,.int .i64 (most:Int),.bool true,.int .i64 (k:Int),.bool true,.bool true],?_,rfl⟩,fun h=>by simp at h⟩
      rw[aF bA.eq_1]
      simp only[sim,ag,reduceAdd,reduceSub,replicate,reduceCtorEq,reduceLeDiff,reduceLT,aa,ay,hs.isL.len,hs.isL.fits,hll,d1,d2,ix,f8,lm,gr]
    | false=>
      rw[hgx]at gr i1 i2
      rw[Bool.false_or]
      refine⟨fun h=> ?_,fun h=> ?_⟩
      ·obtain⟨V,r1,r2⟩:=i1 h
       refine⟨V,?_,r2⟩
       rw[←r1,ek]
       conv=>lhs;rw[aF bA.eq_1]
       simp only[sim,ag,reduceAdd,reduceSub,replicate,reduceCtorEq,reduceLeDiff,reduceLT,aa,ay,hs.isL.len,hs.isL.fits,hll,d1,d2,ix,f8,lm,gr,w]
      ·obtain⟨w3,w4,w5,r1⟩:=i2 h
       refine⟨w3,w4,w5,?_⟩
       rw[←r1,ek]
       conv=>lhs;rw[aF bA.eq_1]
       simp only[sim,ag,reduceAdd,reduceSub,replicate,reduceCtorEq,reduceLeDiff,reduceLT,aa,ay,hs.isL.len,hs.isL.fits,hll,d1,d2,ix,f8,lm,gr,w]
   ·refine⟨fun h=> ?_,fun _=>end_ k h' v4 v5 (.inl (by omega))⟩
    rw[List.drop_eq_nil_of_le (by simp;omega)]at h
    cases h
theorem sA {lv:AV} {rows:List (List AV)} {xs:List ci} (hs:SlA tSt lv rows) (hl:fK xs rows) (hxl:xs.length≤9223372036854775807) (most:Nat) (hm:most≤1000):aj Tryz.prog po 23 [lv,.int .i64 (most:Int)] h=some (.inl (.bool (tR xs most)),h):=by
 obtain⟨i1,i2⟩:=yY (h:=h) hs hl hxl hm [.ss [.ops [(.i .l (.mv (.v 0))),(.i .l (.len false (some 82) (.l 0))),(.i .l (.mv (.v 1))),(.i .l (.bin (.int .i64) .gtr (.l 1) (.l 0))),(.i (.v 2) (.mv (.l 0)))],.ret]] most 0 h .junk .junk (Nat.zero_add _) (af.refl h)
 rw[List.drop_zero]at i1 i2
 simp only[Int.natCast_zero]at i1 i2
 have hll:=hl.len
 unfold tR
 cases hg:(xs.take most).any (fun x=>fU x.m)with
 | true=>
   obtain⟨V,r1,r2⟩:=i1 hg
   refine ah mI rfl ?_;unfold jC
   simp only[sim,ag,reduceAdd,reduceSub,replicate,reduceCtorEq,reduceLeDiff,reduceLT,aa]
   rw[r1]
   simp only[sim,ag,reduceAdd,reduceSub,replicate,reduceCtorEq,reduceLeDiff,reduceLT,aa,r2]
 | false=>
   obtain⟨w3,w4,w5,r1⟩:=i2 hg
   refine ah mI rfl ?_;unfold jC
   simp only[sim,ag,reduceAdd,reduceSub,replicate,reduceCtorEq,reduceLeDiff,reduceLT,aa]
   rw[r1]
   simp only[sim,ag,reduceAdd,reduceSub,replicate,reduceCtorEq,reduceLeDiff,reduceLT,aa,hs.isL.len,hs.isL.fits,hll]
   have e:decide ((most:Int)<(xs.length:Int))=decide (most<xs.length):=by rw[decide_eq_decide];omega
   simp only[e,Bool.false_or]
end
structure yC (n:Nat) (H:HoD):Prop where
 good:H.Good
 log:H.S.log.length≤2000*n
 hands:∀ l∈H.hands,l.length≤1000+n
theorem yC.ok {n:Nat} {H:HoD} (o:yC n H) (hn:n≤400):OkH H:=⟨o.good,by have:=o.log;omega,fun l hl=>by have:=o.hands l hl;omega⟩
theorem yC.step {n:Nat} {H:HoD} (o:yC n H) (x:ci):yC (n+1) (H.step x).1:=by
 have s:=o.good.step x
 refine⟨s.good,by have:=s.log;have:=o.log;omega,fun l hl=> ?_⟩
 rcases s.hand l hl with h1 | ⟨l',h1,h2⟩
 ·omega
 ·have:=o.hands l' h1;omega
theorem N1:yC 0 ho0:=⟨rX,by simp[ho0,Kj],fun l hl=>by
 have:l=[]:=by simpa[ho0]using hl
 rw[this];simp⟩
def N8:List XD:=[.mk 13 0 0 [.mk 3 0 0 []]]
def hb1:ci:=⟨1,1,0,0,0,0,0,0,N8⟩
def hb2:ci:=⟨2,1,0,3,0,1, -1,0,[]⟩
def hb3:ci:=⟨4,1,0,0,0,0,0,0,[]⟩
section
variable {h h' h0:AH} {F J F0 J0:Nat→Prop} {L A B:List Asn} {c:HoC} {H:HoD}
theorem Nz (s:St h0 F0 J0 h (A++df c H++B)) (o:OkH H) (y:ci) {m:AV} {es:List (List AV)} (q3:SlA tE m es) (q4:ExL y.m es) (hL:y.m.length≤100000) (hs:∀ x∈y.m,x.size≤100000):
  ∃ h' r,aj Tryz.prog po 26 [.ptr c.hb 0 0,.agg (aU y m)] h=some (.inl (.agg r),h')∧EvR (H.step y).2 r∧St h0 F0 J0 h' (A++df c (H.step y).1++B):=by
 obtain⟨h',⟨r,e,v⟩,s'⟩:=s.callL (M':=df c (H.step y).1) fun F J x=>Kw x o y q3 q4 hL hs
 exact⟨h',r,e,v,s'⟩
end
def oN (a x y:Int) (out:List Int):List Int:=if x=a∧out.contains y=false then out++[y]else out
def lV (a:Int) (out:List Int) (l:Int×Int):List Int:=oN a l.2 l.1 (oN a l.1 l.2 out)
def ii (links:List (Int×Int)):Nat→Nat→List Int→List Int
 | 0,_,out=>out
 | f+1,i,out=>if i<out.length then ii links f (i+1) (links.foldl (lV (out.getD i 0)) out)else out
def gy (links:List (Int×Int)) (p:Int):List Int:=ii links (2*links.length+2) 0 [p]
structure iX where
 (plugin cell rights:Int)
def oM (gifts:List iX) (links:List (Int×Int)) (p cell right:Int):Bool:=gifts.any fun g=>decide (g.cell=cell) && (decide (fJ g.rights right=right) && (gy links p).contains g.plugin)
structure WaD where
 H:HoD
 gifts:List iX
 links:List (Int×Int)
 (code at_ n:Int)
def WaD.note (W:WaD) (x:ci):WaD:=if x.kind=2 then{W with gifts:=W.gifts++[⟨x.p,x.k,x.r⟩]}else if x.kind=3 then{W with links:=W.links++[(x.p,x.q)]}else W
def WaD.see (W:WaD) (y:cE):WaD:=if W.code=0∧oM W.gifts W.links y.plugin y.cell y.right=false then{W with code:=14,at_:=W.n}else W
def WaD.step (W:WaD) (x:ci):WaD×EvD×Int×Int:=
 let W1:WaD:={W with H:=(W.H.step x).1}
 let W2:=if(W.H.step x).2.code=0 then W1.note x else W1
 let W3:=((W.H.step x).1.S.log.drop W.H.S.log.length).foldl WaD.see W2
 ({W3 with n:=W3.n+1},(W.H.step x).2,W3.code,W3.at_)
def wa0:WaD:=⟨ho0,[],[],0,0,0⟩
theorem ti {a x y:Int} {out:List Int}:out.length≤(oN a x y out).length∧∃ e,oN a x y out=out++e:=by
 unfold oN
 split
 ·exact⟨by simp,[y],rfl⟩
 ·exact⟨Nat.le_refl _,[],by simp⟩
theorem zc {a:Int} {out:List Int} {l:Int×Int}:∃ e,lV a out l=out++e:=by
 unfold lV
 obtain⟨_,e1,h1⟩:=ti (a:=a) (x:=l.1) (y:=l.2) (out:=out)
 obtain⟨_,e2,h2⟩:=ti (a:=a) (x:=l.2) (y:=l.1) (out:=oN a l.1 l.2 out)
 exact⟨e1++e2,by rw[h2,h1,List.append_assoc]⟩
theorem sT {a:Int}:∀ (ls:List (Int×Int)) (out:List Int),∃ e,ls.foldl (lV a) out=out++e
 | [],out=>⟨[],by simp⟩
 | l::ls,out=>by
   obtain⟨e1,h1⟩:=zc (a:=a) (out:=out) (l:=l)
   obtain⟨e2,h2⟩:=sT (a:=a) ls (lV a out l)
   exact⟨e1++e2,by rw[List.foldl_cons,h2,h1,List.append_assoc]⟩
def Fb (links:List (Int×Int)):List Int:=links.flatMap fun l=>[l.1,l.2]
theorem Id (links:List (Int×Int)):(Fb links).length=2*links.length:=by
 induction links with
 | nil=>rfl
 | cons l ls ih=>
   simp only[Fb,List.flatMap_cons,List.length_append,List.length_cons,List.length_nil]at ih ⊢
   omega
structure j6 (links:List (Int×Int)) (p:Int) (out:List Int):Prop where
 nd:out.Nodup
 sub:∀ x∈out,x∈p::Fb links
theorem EI {l m:List Int} (h:l.Nodup) (hs:∀ x∈l,x∈m):l.length≤m.length:=by
 induction l generalizing m with
 | nil=>simp
 | cons x l ih=>
   have hx:=hs x (by simp)
   rw[List.nodup_cons]at h
   have h2:∀ y∈l,y∈m.erase x:=fun y hy=>by
    have hy':=hs y (by simp[hy])
    refine(List.mem_erase_of_ne ?_).2 hy'
    rintro rfl
    exact h.1 hy
   have:=ih h.2 h2
   rw[List.length_erase_of_mem hx]at this
   have:0<m.length:=List.length_pos_of_mem hx
   simp only[List.length_cons]
   omega
theorem j6.addK {links:List (Int×Int)} {p a x y:Int} {out:List Int} (g:j6 links p out) (hy:y∈Fb links):j6 links p (oN a x y out):=by
 unfold Go.Proofs.YtkdbjfncchmmpaaGreat.oN
 split
 ·rename_i h
  refine⟨?_,fun z hz=> ?_⟩
  ·rw[List.nodup_append]
   refine⟨g.nd,by simp,fun u hu v hv e=> ?_⟩
   obtain rfl:v=y:=by simpa using hv
   subst e
   have:=h.2
   rw[List.contains_eq_mem]at this
   simp at this
   exact this hu
  ·rcases List.mem_append.1 hz with hz | hz
   ·exact g.sub z hz
   ·obtain rfl:z=y:=by simpa using hz
    exact List.mem_cons_of_mem _ hy
 ·exact g
theorem j6.fold {links:List (Int×Int)} {p a:Int}:∀ (ls:List (Int×Int)) (out:List Int),(∀ l∈ls,l∈links)→j6 links p out→j6 links p (ls.foldl (lV a) out)
 | [],out,_,g=>g
 | l::ls,out,hs,g=>by
   have hl:=hs l (by simp)
   have e1:l.2∈Fb links:=List.mem_flatMap.2 ⟨l,hl,by simp⟩
   have e2:l.1∈Fb links:=List.mem_flatMap.2 ⟨l,hl,by simp⟩
   exact j6.fold ls _ (fun m hm=>hs m (by simp[hm])) ((g.addK e1).addK e2)
theorem j6.len {links:List (Int×Int)} {p:Int} {out:List Int} (g:j6 links p out):out.length≤2*links.length+1:=by
 have:=EI g.nd g.sub
 rw[List.length_cons,Id]at this
 exact this
theorem ph (links:List (Int×Int)) (p:Int):j6 links p [p]:=⟨by simp,fun x hx=>by
 obtain rfl:x=p:=by simpa using hx
 simp⟩
section
variable {h h' h0:AH} {F J F0 J0:Nat→Prop} {L:List Asn} {c:HoC} {H:HoD}
theorem zq {log:List cE}:∀ r∈log.map eE,r.all AV.one=true∧r.all lz=true:=fun r hr=>by
 obtain⟨e,_,rfl⟩:=List.mem_map.1 hr
 exact⟨rfl,rfl⟩
theorem Bg (id:Option Nat) (rows:List (List AV)) (hf:∀ r∈rows,r.all AV.one=true∧r.all lz=true) (hl:rows.length≤1000000):
  aj Tryz.prog po 52 [.isl id tEn rows] h=some (.inl (.isl none tEn rows),h):=by
 refine ah u9 rfl ?_;unfold px
 have e1:aE false tEn (.isl (some h.ids) tEn []) (.isl id tEn rows) (h.fresh 0)=some (.isl (some h.ids) tEn rows,if rows.length=0 then h.fresh 0 else(h.fresh 0).grow h.ids rows.length):=by
  simp only[aE,bL,if_true,Option.bind_some]
  by_cases hz:rows.length=0
  ·simp[hz,kT,List.length_eq_zero_iff.1 hz]
  ·rw[if_neg hz,if_neg hz]
   unfold eo
   rw[if_pos ⟨by omega,by omega,by rw[List.all_eq_true];exact fun r hr=>(hf r hr).1⟩]
   simp[jR]
 have hg:af h (if rows.length=0 then h.fresh 0 else(h.fresh 0).grow h.ids rows.length):=by
  split
  ·exact af.fresh h 0
  ·exact(af.fresh h 0).grow (Nat.le_refl _)
 have hw:wkA (.isl (some h.ids) tEn rows)=some (.isl none tEn rows):=by
  simp only[wkA,jd fun r hr=>(hf r hr).2,Option.map_some]
 simp only[sim,ag,reduceAdd,reduceSub,replicate,reduceCtorEq,reduceLeDiff,reduceLT,aa,e1,aA hg hw]
theorem B0:aj Tryz.prog po 52 [.nils] h=some (.inl .nils,h):=by
 refine ah u9 rfl ?_;unfold px
 simp only[sim,ag,reduceAdd,reduceSub,replicate,reduceCtorEq,reduceLeDiff,reduceLT,aa]
 exact aA (af.refl h) rfl
theorem KJ (s:St h0 F0 J0 h L) (i:Nat) {wb:Nat} {cells:List Int} {log:List cE} (hi:L[i]? =some (bk wb cells log)) (hc:cells.length=12) (hn:log.length≤1000000):aj Tryz.prog po 17 [.ptr wb 0 0] h=some (.inl (dD tEn (log.map eE)),h):=by
 obtain⟨F,J,x⟩:=s.get i hi
 obtain⟨v,s1⟩:=kw x
 have cw:=(s1.cell 0 rfl).1
 have c12:=(j8 (v:=v) hc (j:=0) (by decide)).2.1
 have ld:∀ n,aD false n h (.ptr wb 0 12)=some v:=fun n=>by rw[bC,cw];exact c12
 have f12:aI 12 (.ptr wb 0 0)=some (.ptr wb 0 12):=rfl
 obtain⟨F1,J1,x1⟩:=s1.get 1 rfl
 rcases x1 with⟨⟨e1,rfl⟩,_⟩ | ⟨id,⟨e1,rfl⟩,_⟩
 ·rw[e1]
  refine ah C3 rfl ?_;unfold wu
  simp only[sim,ag,reduceAdd,reduceSub,replicate,reduceCtorEq,reduceLeDiff,reduceLT,aa,f12,ld,B0]
  exact aA (af.refl h) rfl
 ·have hcl:=Bg (h:=h) (some id) (log.map eE) zq (by simpa using hn)
  have hw:wkA (.isl none tEn (log.map eE))=some (dD tEn (log.map eE)):=by
   simp only[wkA,jd fun r hr=>(zq r hr).2,Option.map_some,dD,if_neg e1]
  refine ah C3 rfl ?_;unfold wu
  simp only[sim,ag,reduceAdd,reduceSub,replicate,reduceCtorEq,reduceLeDiff,reduceLT,aa,f12,ld,hcl,aA (af.refl h) hw]
theorem Ef (s:St h0 F0 J0 h L) (i:Nat) {wb:Nat} {cells:List Int} {log:List cE} (hi:L[i]? =some (bk wb cells log)) (hc:cells.length=12):aj Tryz.prog po 21 [.ptr wb 0 0] h=some (.inl (.isl none tL (cells.map fun x=>[.int .i64 x])),h):=by
 obtain⟨F,J,x⟩:=s.get i hi
 obtain⟨v,s1⟩:=kw x
 exact Bh (s1.cell 0 rfl).1 hc
structure OH (h:AH) (c:HoC) (H:HoD):Prop where
 lb:aD false 1 h (.ptr c.hb 0 0)=some (.ptr c.bb 0 0)
 lg:aD false 1 h (.ptr c.bb 0 0)=some (.ptr c.gb 0 0)
 lw:aD false 1 h (.ptr c.bb 0 1)=some (.ptr c.wb 0 0)
 no:aj Tryz.prog po 15 [.ptr c.gb 0 0] h=some (.inl (dD tN (H.S.G.nodes.map aL)),h)
 ce:aj Tryz.prog po 21 [.ptr c.wb 0 0] h=some (.inl (.isl none tL (H.S.cells.map fun x=>[.int .i64 x])),h)
 lo:aj Tryz.prog po 17 [.ptr c.wb 0 0] h=some (.inl (dD tEn (H.S.log.map eE)),h)
theorem Oq (s:St h0 F0 J0 h L) (i:Nat) (o:OkH H) (h1:L[i]? =some (cU c.hb c.bb H.hands)) (h2:L[i+1]? =some (dA c.bb c.gb c.wb H.ms H.S.kept)) (h3:L[i+1+1]? =some (bp c.gb H.S.G)) (h4:L[i+1+1+1]? =some (bk c.wb H.S.cells H.S.log)):OH h c H:=by
 obtain⟨vs,hv⟩:=d7 s i h1
 have bg:=jX s h2 o.len
 obtain⟨F,J,g⟩:=s.get _ h3
 exact⟨hv.box 1,bg.1 1,bg.2 1,KV g o.good.st.wf,Ef s _ h4 o.good.st.cells,KJ s _ h4 o.good.st.cells (by have:=o.log;omega)⟩
variable {lv:AV} {b4 b5 b10:Nat} {hs ks:List AV}
end
def Au:List RS:=[(.ops [(.i (.v 0) (.mv (.c .nilp)))]),(.ops [(.i .l (.call (.c (.fn 24 [] [])) [])),(.i .l (.build [.nilp,.nils,.nils,(.int .i64 0),(.int .i64 0),(.int .i64 0)] [(0,1),(1,1),(2,1),(3,2),(5,1)] [(0,(.l 0))])),(.i .l (.box 6 (.l 0))),(.i (.v 0) (.mv (.l 0)))]),.ret]
theorem IZ:FnR Tryz.prog po 35 0 1 [0] Au [(.v 0)] false:=⟨_,_,Tryz.func35,rfl,rfl,by kernel_rfl,by kernel_rfl,by kernel_rfl,by kernel_rfl,by kernel_rfl⟩
def dq:List RS:=[(.ops [(.i (.v 13) (.bin (.int .i64) .lss (.v 12) (.c (.int .i64 2))))]),(.cond (.v 13) [] [(.exit 4)]),(.block 5 [(.ops [(.i .l (.mv (.v 12))),(.i (.v 6) (.mv (.l 0)))]),(.ops [(.i .l (.mv (.v 6))),(.i .l (.ixa none (some (2,1)) (.v 5) (.l 0))),(.i .l (.load false 1 (.l 0))),(.i .l (.mv (.v 3))),(.i .l (.mv (.v 4))),(.i .l (.ixa (some 3) none (.l 1) (.l 0))),(.i .l (.load false 1 (.l 0))),(.i .l (.bin (.int .i64) .eql (.l 4) (.l 0))),(.i .l (.mv (.l 0))),(.g (.l 0) true .l (.mv (.v 3))),(.g (.l 1) true .l (.mv (.v 6))),(.g (.l 2) true .l (.bin (.int .i64) .sub (.c (.int .i64 1)) (.l 0))),(.g (.l 3) true .l (.ixa none (some (2,1)) (.v 5) (.l 0))),(.g (.l 4) true .l (.load false 1 (.l 0))),(.g (.l 5) true .l (.call (.c (.fn 74 [] [])) [(.l 4),(.l 0)])),(.g (.l 6) true .l (.un .not (.l 0))),(.i (.v 14) (.pick (.l 7) (.l 0) (.c (.bool false))))]),(.cond (.v 14) [(.ops [(.i .l (.mv (.v 3))),(.i .l (.mv (.v 6))),(.i .l (.bin (.int .i64) .sub (.c (.int .i64 1)) (.l 0))),(.i .l (.ixa none (some (2,1)) (.v 5) (.l 0))),(.i .l (.load false 1 (.l 0))),(.i .l (.bsl false 3 [(.int .i64 0)] 1 1 [(0,(.l 0))])),(.i .l (.app false 3 (.l 5) (.l 0))),(.i (.v 3) (.mv (.l 0)))])] [])]),(.ops [(.i .l (.bin (.int .i64) .add (.v 12) (.c (.int .i64 1)))),(.i (.v 12) (.mv (.l 0)))])]
def ia:List RS:=[(.ops [(.i (.v 11) (.bin (.int .i64) .lss (.v 10) (.v 9)))]),(.cond (.v 11) [] [(.exit 2)]),(.block 3 [(.ops [(.i .l (.ixa (some 191) none (.v 8) (.v 10))),(.i .l (.load true 2 (.l 0))),(.i (.v 5) (.alloc [(.int .i64 0),(.int .i64 0)])),(.i .n (.store 2 (.v 5) (.l 0)))]),(.ops [(.i (.v 12) (.mv (.c (.int .i64 0))))]),(.block 4 [(.loop dq)])]),(.ops [(.i .l (.bin (.int .i64) .add (.v 10) (.c (.int .i64 1)))),(.i (.v 10) (.mv (.l 0)))])]
def iL:List RS:=[(.ops [(.i .l (.mv (.v 4))),(.i .l (.mv (.v 3))),(.i .l (.len false (some 3) (.l 0))),(.i (.v 7) (.bin (.int .i64) .lss (.l 2) (.l 0)))]),(.cond (.v 7) [] [(.exit 0)]),(.block 1 [(.ops [(.i .l (.mv (.v 0))),(.i .l (.nilc (.l 0))),(.i .l (.fad 2 (.l 0))),(.i (.v 8) (.load false 1 (.l 0))),(.i (.v 9) (.len false (some 191) (.v 8))),(.i (.v 10) (.mv (.c (.int .i64 0))))]),(.block 2 [(.loop ia)])]),(.ops [(.i .l (.mv (.v 4))),(.i .l (.bin (.int .i64) .add (.l 0) (.c (.int .i64 1)))),(.i (.v 4) (.mv (.l 0)))])]
def uD:List RS:=[(.ops [(.i (.v 2) (.mv (.c .nils)))]),(.ops [(.i .l (.mv (.v 1))),(.i .l (.bsl false 3 [(.int .i64 0)] 1 1 [(0,(.l 0))])),(.i (.v 3) (.mv (.l 0)))]),(.ops [(.i (.v 4) (.mv (.c (.int .i64 0))))]),(.block 0 [(.loop iL)]),(.ops [(.i .l (.mv (.v 3))),(.i (.v 2) (.mv (.l 0)))]),.ret]
theorem Ec:FnR Tryz.prog po 71 2 15 [0,1,4,5,6,8,9,15,21,22,23,24,27,28,46] uD [(.v 2)] true:=⟨_,_,Tryz.func71,rfl,rfl,by kernel_rfl,by kernel_rfl,by kernel_rfl,by kernel_rfl,by kernel_rfl⟩
def Cy:List RS:=[(.ops [(.i (.v 4) (.box 1 (.v 2))),(.i (.v 5) (.box 1 (.v 3))),(.i (.v 6) (.mv (.c (.bool false))))]),(.ops [(.i .l (.mv (.v 0))),(.i .l (.mv (.v 1))),(.i .l (.call (.c (.fn 71 [] [])) [(.l 1),(.l 0)])),(.i (.v 7) (.alloc [.nils])),(.i .n (.store 1 (.v 7) (.l 0)))]),(.ops [(.i .l (.mv (.v 0))),(.i .l (.nilc (.l 0))),(.i .l (.fad 1 (.l 0))),(.i .l (.load false 1 (.l 0))),(.i .l (.mkf 73 [] [(.v 4),(.v 5),(.v 7)])),(.i .l (.call (.c (.fn 72 [] [])) [(.l 1),(.l 0)])),(.i (.v 6) (.mv (.l 0)))]),.ret]
theorem Lr:FnR Tryz.prog po 37 4 8 [0,1,2,3,6,7,8,9] Cy [(.v 6)] true:=⟨_,_,Tryz.func37,rfl,rfl,by kernel_rfl,by kernel_rfl,by kernel_rfl,by kernel_rfl,by kernel_rfl⟩
def yD:List RS:=[(.ops [(.i (.v 4) (.box 3 (.v 0))),(.i (.v 5) (.mv (.c (.bool false))))]),(.ops [(.i .l (.fad 1 (.v 4))),(.i .l (.load false 1 (.l 0))),(.i .l (.load false 1 (.v 1))),(.i .l (.bin (.int .i64) .eql (.l 1) (.l 0))),(.i .l (.mv (.l 0))),(.g (.l 0) true .l (.fad 2 (.v 4))),(.g (.l 1) true .l (.load false 1 (.l 0))),(.g (.l 2) true .l (.load false 1 (.v 2))),(.g (.l 3) true .l (.bin (.int .i64) .and (.l 1) (.l 0))),(.g (.l 4) true .l (.load false 1 (.v 2))),(.g (.l 5) true .l (.bin (.int .i64) .eql (.l 1) (.l 0))),(.i .l (.pick (.l 6) (.l 0) (.c (.bool false)))),(.i .l (.mv (.l 0))),(.g (.l 0) true .l (.load false 1 (.v 3))),(.g (.l 1) true .l (.fad 0 (.v 4))),(.g (.l 2) true .l (.load false 1 (.l 0))),(.g (.l 3) true .l (.call (.c (.fn 74 [] [])) [(.l 2),(.l 0)])),(.i .l (.pick (.l 4) (.l 0) (.c (.bool false)))),(.i (.v 5) (.mv (.l 0)))]),.ret]
theorem HE:FnR Tryz.prog po 73 4 6 [0,1,2,3,4,5] yD [(.v 5)] true:=⟨_,_,Tryz.func73,rfl,rfl,by kernel_rfl,by kernel_rfl,by kernel_rfl,by kernel_rfl,by kernel_rfl⟩
def oO:List RS:=[(.ops [(.i (.v 2) (.mv (.c (.bool false))))]),(.ops [(.i .l (.mv (.v 0))),(.i .l (.mv (.v 1))),(.i .l (.call (.c (.fn 101 [] [])) [(.l 1),(.l 0)])),(.i .l (.bin (.int .i64) .geq (.l 0) (.c (.int .i64 0)))),(.i (.v 2) (.mv (.l 0)))]),.ret]
theorem wm:FnR Tryz.prog po 72 2 3 [0,1,4] oO [(.v 2)] true:=⟨_,_,Tryz.func72,rfl,rfl,by kernel_rfl,by kernel_rfl,by kernel_rfl,by kernel_rfl,by kernel_rfl⟩
def fX:List RS:=[(.ops [(.i (.v 6) (.bin (.int .i64) .lss (.v 5) (.v 4)))]),(.cond (.v 6) [] [(.exit 0)]),(.block 1 [(.ops [(.i .l (.mv (.v 5))),(.i (.v 3) (.mv (.l 0)))]),(.ops [(.i .l (.mv (.v 1))),(.i .l (.mv (.v 0))),(.i .l (.mv (.v 3))),(.i .l (.ixa (some 165) none (.l 1) (.l 0))),(.i .l (.load true 3 (.l 0))),(.i (.v 7) (.call (.l 4) [(.l 0)]))]),(.cond (.v 7) [(.ops [(.i .l (.mv (.v 3))),(.i (.v 2) (.mv (.l 0)))]),.ret] [])]),(.ops [(.i .l (.bin (.int .i64) .add (.v 5) (.c (.int .i64 1)))),(.i (.v 5) (.mv (.l 0)))])]
def vK:List RS:=[(.ops [(.i (.v 2) (.mv (.c (.int .i64 0))))]),(.ops [(.i .l (.mv (.v 0))),(.i (.v 4) (.len false (some 165) (.l 0))),(.i (.v 5) (.mv (.c (.int .i64 0))))]),(.block 0 [(.loop fX)]),(.ops [(.i (.v 2) (.mv (.c (.int .i64 (-1)))))]),.ret]
theorem D4:FnR Tryz.prog po 101 2 8 [0,1,4,5,7,8,9,16] vK [(.v 2)] true:=⟨_,_,Tryz.func101,rfl,rfl,by kernel_rfl,by kernel_rfl,by kernel_rfl,by kernel_rfl,by kernel_rfl⟩
def nu:List RS:=[(.ops [(.i (.v 2) (.mv (.c (.bool false))))]),(.ops [(.i .l (.mv (.v 0))),(.i .l (.mv (.v 1))),(.i .l (.call (.c (.fn 102 [] [])) [(.l 1),(.l 0)])),(.i .l (.bin (.int .i64) .geq (.l 0) (.c (.int .i64 0)))),(.i (.v 2) (.mv (.l 0)))]),.ret]
theorem xo:FnR Tryz.prog po 74 2 3 [0,1,4] nu [(.v 2)] true:=⟨_,_,Tryz.func74,rfl,rfl,by kernel_rfl,by kernel_rfl,by kernel_rfl,by kernel_rfl,by kernel_rfl⟩
def fV:List RS:=[(.ops [(.i (.v 6) (.bin (.int .i64) .lss (.v 5) (.v 4)))]),(.cond (.v 6) [] [(.exit 0)]),(.block 1 [(.ops [(.i .l (.mv (.v 5))),(.i (.v 3) (.mv (.l 0)))]),(.ops [(.i .l (.mv (.v 1))),(.i .l (.mv (.v 0))),(.i .l (.mv (.v 3))),(.i .l (.ixa (some 3) none (.l 1) (.l 0))),(.i .l (.load false 1 (.l 0))),(.i (.v 7) (.bin (.int .i64) .eql (.l 4) (.l 0)))]),(.cond (.v 7) [(.ops [(.i .l (.mv (.v 3))),(.i (.v 2) (.mv (.l 0)))]),.ret] [])]),(.ops [(.i .l (.bin (.int .i64) .add (.v 5) (.c (.int .i64 1)))),(.i (.v 5) (.mv (.l 0)))])]
def vi:List RS:=[(.ops [(.i (.v 2) (.mv (.c (.int .i64 0))))]),(.ops [(.i .l (.mv (.v 0))),(.i (.v 4) (.len false (some 3) (.l 0))),(.i (.v 5) (.mv (.c (.int .i64 0))))]),(.block 0 [(.loop fV)]),(.ops [(.i (.v 2) (.mv (.c (.int .i64 (-1)))))]),.ret]
theorem Fr:FnR Tryz.prog po 102 2 8 [0,1,4,5,7,8,9,16] vi [(.v 2)] true:=⟨_,_,Tryz.func102,rfl,rfl,by kernel_rfl,by kernel_rfl,by kernel_rfl,by kernel_rfl,by kernel_rfl⟩
def oq:List RS:=[(.ops [(.i (.v 2) (.box 9 (.v 1)))]),(.ops [(.i .l (.fad 0 (.v 2))),(.i (.v 3) (.load false 1 (.l 0)))]),(.block 0 [(.ops [(.i .l (.bin (.int .i64) .eql (.v 3) (.c (.int .i64 2)))),(.i (.v 4) (.mv (.l 0)))]),(.cond (.v 4) [(.ops [(.i .l (.mv (.v 0))),(.i .l (.mv (.v 0))),(.i .l (.nilc (.l 0))),(.i .l (.fad 1 (.l 0))),(.i .l (.load false 1 (.l 0))),(.i .l (.fad 1 (.v 2))),(.i .l (.load false 1 (.l 0))),(.i .l (.fad 3 (.v 2))),(.i .l (.load false 1 (.l 0))),(.i .l (.fad 5 (.v 2))),(.i .l (.load false 1 (.l 0))),(.i .l (.build [(.int .i64 0),(.int .i64 0),(.int .i64 0)] [(0,1),(1,1),(2,1)] [(0,(.l 4)),(1,(.l 2)),(2,(.l 0))])),(.i .l (.bsl false 165 [(.int .i64 0),(.int .i64 0),(.int .i64 0)] 3 1 [(0,(.l 0))])),(.ck [⟨none,false,1,(.l 9),(.l 8)⟩]),(.i .l (.app false 165 (.l 8) (.l 0))),(.i .l (.nilc (.l 13))),(.i .l (.fad 1 (.l 0))),(.i .n (.store 1 (.l 0) (.l 2)))])] [(.ops [(.i .l (.bin (.int .i64) .eql (.v 3) (.c (.int .i64 3)))),(.i (.v 5) (.mv (.l 0)))]),(.cond (.v 5) [(.ops [(.i .l (.mv (.v 0))),(.i .l (.mv (.v 0))),(.i .l (.nilc (.l 0))),(.i .l (.fad 2 (.l 0))),(.i .l (.load false 1 (.l 0))),(.i .l (.fad 1 (.v 2))),(.i .l (.load false 1 (.l 0))),(.i .l (.fad 2 (.v 2))),(.i .l (.load false 1 (.l 0))),(.i .l (.build [(.int .i64 0),(.int .i64 0)] [(0,1),(1,1)] [(0,(.l 2)),(1,(.l 0))])),(.i .l (.bsl false 191 [(.int .i64 0),(.int .i64 0)] 2 1 [(0,(.l 0))])),(.ck [⟨none,false,1,(.l 7),(.l 6)⟩]),(.i .l (.app false 191 (.l 6) (.l 0))),(.i .l (.nilc (.l 11))),(.i .l (.fad 2 (.l 0))),(.i .n (.store 1 (.l 0) (.l 2)))])] [])])])]
theorem qX:FnR Tryz.prog po 70 2 6 [0,1,3,5,6,24] oq [] false:=⟨_,_,Tryz.func70,rfl,rfl,by kernel_rfl,by kernel_rfl,by kernel_rfl,by kernel_rfl,by kernel_rfl⟩
def gF:List RS:=[(.ops [(.i (.v 12) (.bin (.int .i64) .lss (.v 11) (.v 10)))]),(.cond (.v 12) [] [(.exit 0)]),(.block 1 [(.ops [(.i .l (.ixa (some 137) none (.v 9) (.v 11))),(.i .l (.load true 4 (.l 0))),(.i (.v 7) (.alloc [(.int .i64 0),(.int .i64 0),(.int .i64 0),(.int .i64 0)])),(.i .n (.store 4 (.v 7) (.l 0)))]),(.ops [(.i .l (.mv (.v 0))),(.i .l (.nilc (.l 0))),(.i .l (.fad 3 (.l 0))),(.i .l (.fad 0 (.l 0))),(.i .l (.load false 1 (.l 0))),(.i .l (.bin (.int .i64) .eql (.l 0) (.c (.int .i64 0)))),(.i .l (.mv (.l 0))),(.g (.l 0) true .l (.mv (.v 0))),(.g (.l 1) true .l (.fad 0 (.v 7))),(.g (.l 2) true .l (.load false 1 (.l 0))),(.g (.l 3) true .l (.fad 1 (.v 7))),(.g (.l 4) true .l (.load false 1 (.l 0))),(.g (.l 5) true .l (.fad 2 (.v 7))),(.g (.l 6) true .l (.load false 1 (.l 0))),(.g (.l 7) true .l (.call (.c (.fn 37 [] [])) [(.l 6),(.l 4),(.l 2),(.l 0)])),(.g (.l 8) true .l (.un .not (.l 0))),(.i (.v 13) (.pick (.l 9) (.l 0) (.c (.bool false))))]),(.cond (.v 13) [(.ops [(.i .l (.mv (.v 0))),(.i .l (.mv (.v 0))),(.i .l (.nilc (.l 0))),(.i .l (.fad 5 (.l 0))),(.i .l (.load false 1 (.l 0))),(.i .l (.build [(.int .i64 0),(.int .i64 0)] [(0,1),(1,1)] [(0,(.c (.int .i64 14))),(1,(.l 0))])),(.i .l (.nilc (.l 5))),(.i .l (.fad 3 (.l 0))),(.i .n (.store 2 (.l 0) (.l 2)))])] [])]),(.ops [(.i .l (.bin (.int .i64) .add (.v 11) (.c (.int .i64 1)))),(.i (.v 11) (.mv (.l 0)))])]
def Bo:List RS:=[(.ops [(.i (.v 2) (.box 9 (.v 1))),(.i (.v 3) (.alloc [(.int .i64 0),(.int .i64 0),(.int .i64 0),(.int .i64 0),.nils])),(.i (.v 4) (.alloc [(.int .i64 0),(.int .i64 0)]))]),(.ops [(.i .l (.mv (.v 0))),(.i .l (.nilc (.l 0))),(.i .l (.fad 0 (.l 0))),(.i .l (.load false 1 (.l 0))),(.i .l (.nilc (.l 0))),(.i .l (.fad 0 (.l 0))),(.i .l (.load false 1 (.l 0))),(.i .l (.nilc (.l 0))),(.i .l (.fad 1 (.l 0))),(.i .l (.load false 1 (.l 0))),(.i .l (.call (.c (.fn 17 [] [])) [(.l 0)])),(.i .l (.len false (some 137) (.l 0))),(.i (.v 5) (.mv (.l 0)))]),(.ops [(.i .l (.mv (.v 0))),(.i .l (.nilc (.l 0))),(.i .l (.fad 0 (.l 0))),(.i .l (.load false 1 (.l 0))),(.i .l (.load true 9 (.v 2))),(.i .l (.call (.c (.fn 26 [] [])) [(.l 1),(.l 0)])),(.i (.v 6) (.alloc [(.int .i64 0),(.int .i64 0),(.int .i64 0),(.int .i64 0),.nils])),(.ck [⟨none,false,1,(.l 3),(.l 2)⟩,⟨none,true,9,(.v 2),(.l 1)⟩]),(.i .n (.store 5 (.v 6) (.l 0)))]),(.ops [(.i .l (.fad 0 (.v 6))),(.i .l (.load false 1 (.l 0))),(.i (.v 8) (.bin (.int .i64) .eql (.l 0) (.c (.int .i64 0))))]),(.cond (.v 8) [(.ops [(.i .l (.mv (.v 0))),(.i .l (.load true 9 (.v 2))),(.i .l (.call (.c (.fn 70 [] [])) [(.l 1),(.l 0)]))])] []),(.ops [(.i .l (.mv (.v 0))),(.i .l (.nilc (.l 0))),(.i .l (.fad 0 (.l 0))),(.i .l (.load false 1 (.l 0))),(.i .l (.nilc (.l 0))),(.i .l (.fad 0 (.l 0))),(.i .l (.load false 1 (.l 0))),(.i .l (.nilc (.l 0))),(.i .l (.fad 1 (.l 0))),(.i .l (.load false 1 (.l 0))),(.i .l (.call (.c (.fn 17 [] [])) [(.l 0)])),(.i .l (.mv (.v 5))),(.i (.v 9) (.slc false (some 137) (.l 1) (some (.l 0)) none)),(.i (.v 10) (.len false (some 137) (.v 9))),(.i (.v 11) (.mv (.c (.int .i64 0))))]),(.block 0 [(.loop gF)]),(.ops [(.i .l (.mv (.v 0))),(.i .l (.nilc (.l 0))),(.i .l (.fad 5 (.l 0))),(.i .l (.load false 1 (.l 0))),(.i .l (.bin (.int .i64) .add (.l 0) (.c (.int .i64 1)))),(.i .l (.nilc (.l 4))),(.i .l (.fad 5 (.l 0))),(.i .n (.store 1 (.l 0) (.l 2)))]),(.ops [(.i .l (.load true 5 (.v 6))),(.i .l (.mv (.v 0))),(.i .l (.nilc (.l 0))),(.i .l (.fad 3 (.l 0))),(.i .l (.load true 2 (.l 0))),(.i .n (.store 5 (.v 3) (.l 4))),(.ck [⟨none,true,2,(.l 1),(.l 0)⟩]),(.i .n (.store 2 (.v 4) (.l 0)))]),.ret]
theorem H7:FnR Tryz.prog po 36 2 14 [0,1,3,4,5,6,7,9,30,46,47,48,49,68] Bo [(.cell true 5 3),(.cell true 2 4)] false:=⟨_,_,Tryz.func36,rfl,rfl,by kernel_rfl,by kernel_rfl,by kernel_rfl,by kernel_rfl,by kernel_rfl⟩
def mF:List RS:=[(.ops [(.i (.v 0) (.mv (.c (.bool false))))]),(.ops [(.i .l (.call (.c (.fn 35 [] [])) [])),(.i (.v 1) (.mv (.l 0)))]),(.ops [(.i .l (.mv (.v 1))),(.i (.v 4) (.bin .ptr .eql (.l 0) (.c .nilp)))]),(.cond (.v 4) [(.ops [(.i (.v 0) (.mv (.c (.bool false))))]),.ret] []),(.ops [(.i .l (.mv (.v 1))),(.i .l (.build [(.int .i64 0),(.int .i64 0),(.int .i64 0),(.int .i64 0),(.int .i64 0),(.int .i64 0),(.int .i64 0),(.int .i64 0),.nils] [(0,1),(1,1),(2,1),(3,1),(4,1),(5,1),(6,1),(7,1),(8,1)] [(0,(.c (.int .i64 2))),(1,(.c (.int .i64 1))),(3,(.c (.int .i64 3))),(5,(.c (.int .i64 1))),(6,(.c (.int .i64 (-1))))])),(.i .l (.call (.c (.fn 36 [] [])) [(.l 1),(.l 0)])),(.i .l (.mv (.l 0))),(.i .l (.ext (.l 0) 0)),(.i .l (.ext (.l 1) 1)),(.i (.v 2) (.alloc [(.int .i64 0),(.int .i64 0),(.int .i64 0),(.int .i64 0),.nils])),(.i (.v 3) (.alloc [(.int .i64 0),(.int .i64 0)])),(.i .n (.store 5 (.v 2) (.l 1))),(.i .n (.store 2 (.v 3) (.l 0)))]),(.ops [(.i .l (.fad 0 (.v 2))),(.i .l (.load false 1 (.l 0))),(.i .l (.bin (.int .i64) .eql (.l 0) (.c (.int .i64 0)))),(.i .l (.mv (.l 0))),(.g (.l 0) true .l (.fad 0 (.v 3))),(.g (.l 1) true .l (.load false 1 (.l 0))),(.g (.l 2) true .l (.bin (.int .i64) .eql (.l 0) (.c (.int .i64 0)))),(.i .l (.pick (.l 3) (.l 0) (.c (.bool false)))),(.i .l (.mv (.l 0))),(.g (.l 0) true .l (.mv (.v 1))),(.g (.l 1) true .l (.call (.c (.fn 37 [] [])) [(.l 0),(.c (.int .i64 1)),(.c (.int .i64 3)),(.c (.int .i64 1))])),(.i .l (.pick (.l 2) (.l 0) (.c (.bool false)))),(.i .l (.mv (.l 0))),(.g (.l 0) true .l (.mv (.v 1))),(.g (.l 1) true .l (.call (.c (.fn 37 [] [])) [(.l 0),(.c (.int .i64 1)),(.c (.int .i64 3)),(.c (.int .i64 2))])),(.g (.l 2) true .l (.un .not (.l 0))),(.i .l (.pick (.l 3) (.l 0) (.c (.bool false)))),(.i .l (.mv (.l 0))),(.g (.l 0) true .l (.mv (.v 1))),(.g (.l 1) true .l (.call (.c (.fn 37 [] [])) [(.l 0),(.c (.int .i64 0)),(.c (.int .i64 3)),(.c (.int .i64 1))])),(.g (.l 2) true .l (.un .not (.l 0))),(.i .l (.pick (.l 3) (.l 0) (.c (.bool false)))),(.i .l (.mv (.l 0))),(.g (.l 0) true .l (.mv (.v 1))),(.g (.l 1) true .l (.nilc (.l 0))),(.g (.l 2) true .l (.fad 0 (.l 0))),(.g (.l 3) true .l (.load false 1 (.l 0))),(.g (.l 4) true .l (.call (.c (.fn 28 [] [])) [(.l 0),(.c (.int .i64 1))])),(.g (.l 5) true .l (.len false (some 35) (.l 0))),(.g (.l 6) true .l (.bin (.int .i64) .eql (.l 0) (.c (.int .i64 1)))),(.i .l (.pick (.l 7) (.l 0) (.c (.bool false)))),(.i (.v 0) (.mv (.l 0)))]),.ret]
theorem uf:FnR Tryz.prog po 31 0 5 [0,1,2,3,6] mF [(.v 0)] true:=⟨_,_,Tryz.func31,rfl,rfl,by kernel_rfl,by kernel_rfl,by kernel_rfl,by kernel_rfl,by kernel_rfl⟩
abbrev tIn:TypeId:=3
abbrev tGi:TypeId:=165
abbrev tLi:TypeId:=191
def gq (g:iX):List AV:=[.int .i64 g.plugin,.int .i64 g.cell,.int .i64 g.rights]
def gn (l:Int×Int):List AV:=[.int .i64 l.1,.int .i64 l.2]
def dx (b hb:Nat) (gifts:List iX) (links:List (Int×Int)) (code at_ n:Int):Asn:=oH fun q:AV×AV=>dw (ai b [[.ptr hb 0 0,q.1,q.2,.int .i64 code,.int .i64 at_,.int .i64 n]]) (dw (db tGi q.1 (gifts.map gq)) (db tLi q.2 (links.map gn)))
section
variable {h h' h0:AH} {F J F0 J0:Nat→Prop} {L:List Asn}
theorem zH {v:AV} {l:List Int} (hv:IsL tIn v (bh l)) (hl:l.length≤1000000) (x:Int):∀ (r pre:List Int) (v3 v6 v7:AV),l=pre++r→pre.contains x=false→
  ∃ V,(∀ K,aq (aj Tryz.prog po) 8 (.lp fV:: .ss []:: .blk 0::(.ss [.ops [(.i (.v 2) (.mv (.c (.int .i64 (-1)))))],.ret])::K) [v,.int .i64 x,.int .i64 0,v3,.int .i64 (l.length:Int),.int .i64 (pre.length:Int),v6,v7] [] h=some (.ret,V,h))∧∃ n:Int,V.getD 2 .junk= .int .i64 n∧decide (0≤n)=l.contains x:=by
 intro r
 induction r with
 | nil=>
   intro pre v3 v6 v7 e hc
   have d1:decide ((pre.length:Int)<(l.length:Int))=false:=decide_eq_false (by rw[e];simp)
   refine⟨[v,.int .i64 x,.int .i64 (-1),v3,.int .i64 (l.length:Int),.int .i64 (pre.length:Int),.bool false,v7],fun K=> ?_, -1,rfl,?_⟩
   ·rw[aF fV.eq_1]
    simp only[sim,ag,reduceAdd,reduceSub,replicate,reduceCtorEq,reduceLeDiff,reduceLT,aa,d1]
   ·rw[e,List.append_nil,hc];rfl
 | cons y r ih=>
   intro pre v3 v6 v7 e hc
   have d1:decide ((pre.length:Int)<(l.length:Int))=true:=decide_eq_true (by rw[e];simp;omega)
   have hx:(bh l)[pre.length]? =some [.int .i64 y]:=by rw[e];simp
   have ix:=hv.ix .i64 pre.length _ hx
   have hpl:pre.length<l.length:=by rw[e];simp
   have w:=w64 (n:=(pre.length:Int)+1) (by omega) (by omega)
   cases hy:decide (y=x)with
   | true=>
     refine⟨[v,.int .i64 x,.int .i64 (pre.length:Int),.int .i64 (pre.length:Int),.int .i64 (l.length:Int),.int .i64 (pre.length:Int),.bool true,.bool true],fun K=> ?_,(pre.length:Int),rfl,?_⟩
     ·have hy':decide (x=y)=true:=by rw[decide_eq_true_eq]at hy ⊢;exact hy.symm
      rw[aF fV.eq_1]
      simp only[sim,ag,reduceAdd,reduceSub,replicate,reduceCtorEq,reduceLeDiff,reduceLT,aa,d1,ix,hy,hy']
     ·rw[e,List.contains_eq_mem]
      have:x=y:=by rw[decide_eq_true_eq]at hy;exact hy.symm
      simp[this]
   | false=>
     have hy':decide (x=y)=false:=by rw[decide_eq_false_iff_not]at hy ⊢;exact fun h=>hy h.symm
     have ek:((pre++[y]).length:Int)=(pre.length:Int)+1:=by simp
     obtain⟨V,r1,r2⟩:=ih (pre++[y]) (.int .i64 (pre.length:Int)) (.bool true) (.bool false) (by simp[e]) (by
      rw[List.contains_eq_mem]at hc ⊢
      simp at hc hy' ⊢
      exact⟨hc,hy'⟩)
     refine⟨V,fun K=> ?_,r2⟩
     rw[←r1 K,ek]
     conv=>lhs;rw[aF fV.eq_1]
     simp only[sim,ag,reduceAdd,reduceSub,replicate,reduceCtorEq,reduceLeDiff,reduceLT,aa,d1,ix,hy,hy',w]
theorem mH {v:AV} {l:List Int} (hv:IsL tIn v (bh l)) (hl:l.length≤1000000) (x:Int):aj Tryz.prog po 74 [v,.int .i64 x] h=some (.inl (.bool (l.contains x)),h):=by
 obtain⟨V,r1,n,r2,r3⟩:=zH (h:=h) hv hl x l [] .junk .junk .junk rfl rfl
 simp only[List.length_nil,Int.natCast_zero]at r1
 have e1:aj Tryz.prog po 102 [v,.int .i64 x] h=some (.inl (.int .i64 n),h):=by
  refine ah Fr rfl ?_;unfold vi
  simp only[sim,ag,reduceAdd,reduceSub,replicate,reduceCtorEq,reduceLeDiff,reduceLT,aa,hv.len,hv.fits,List.length_map]
  rw[r1]
  simp only[sim,ag,reduceAdd,reduceSub,replicate,reduceCtorEq,reduceLeDiff,reduceLT,aa,r2]
 refine ah xo rfl ?_;unfold nu
 simp only[sim,ag,reduceAdd,reduceSub,replicate,reduceCtorEq,reduceLeDiff,reduceLT,aa,e1,r3]
theorem Mx {b:Nat} {x y a:Int} {out:List Int} {v:AV} {i:Int} {w p:AV} (hb:h'.cell b=some [[.int .i64 x,.int .i64 y]]) (hlt:b<h'.n) (ha:Acc h h' tIn v (bh out)) (g:af h h') (hl:out.length≤1000) {j:Nat} (hj:out[j]? =some a) (hi:i=(j:Int)) (k:Nat) (hk:k<2) (v2 v6 v7 v8 v9 v10 v11 v13 v14:AV):
  ∃ h'' v' w14,(∀ K,aq (aj Tryz.prog po) 15 (.lp dq::K) [w,p,v2,v,.int .i64 i,.ptr b 0 0,v6,v7,v8,v9,v10,v11,.int .i64 (k:Int),v13,v14] [] h'=aq (aj Tryz.prog po) 15 (.lp dq::K) [w,p,v2,v',.int .i64 i,.ptr b 0 0,.int .i64 (k:Int),v7,v8,v9,v10,v11,.int .i64 ((k:Int)+1),.bool true,w14] [] h'')∧
    Acc h h'' tIn v' (bh (oN a (if k=0 then x else y) (if k=0 then y else x) out))∧af h h''∧h''.cell=h'.cell∧h''.n=h'.n:=by
 subst hi
 have hv:=Cq ha
 have ij:=hv.ix .i64 j [.int .i64 a] (by simp[hj])
 have d2:decide ((k:Int)<2)=true:=decide_eq_true (by omega)
 have ik:∀ q,bX none (some (2,1)) (.ptr b 0 0) (.int q (k:Int))=some (.ptr b 0 k):=fun q=>by simp[bX,hk]
 have ik2:∀ q,bX none (some (2,1)) (.ptr b 0 0) (.int q (1 - (k:Int)))=some (.ptr b 0 (1 - k)):=fun q=>by
  have:k=0∨k=1:=by omega
  rcases this with rfl | rfl<;>rfl
 have w1:IntKind.wrap .i64 (1 - (k:Int))=1 - (k:Int):=w64 (by omega) (by omega)
 have w2:IntKind.wrap .i64 ((k:Int)+1)=(k:Int)+1:=w64 (by omega) (by omega)
 have lk:aD false 1 h' (.ptr b 0 k)=some (.int .i64 (if k=0 then x else y)):=by
  rw[bC,hb]
  have:k=0∨k=1:=by omega
  rcases this with rfl | rfl<;>rfl
 have lk2:aD false 1 h' (.ptr b 0 (1 - k))=some (.int .i64 (if k=0 then y else x)):=by
  rw[bC,hb]
  have:k=0∨k=1:=by omega
  rcases this with rfl | rfl<;>rfl
 generalize (if k=0 then x else y)=xx at*
 generalize (if k=0 then y else x)=yy at*
 have cn:=fun(h:AH)=>mH (h:=h) hv (by omega) yy
 unfold oN
 cases hxa:decide (xx=a)with
 | false=>
   have hn:¬ (xx=a∧out.contains yy=false):=fun h=>by rw[decide_eq_false_iff_not]at hxa;exact hxa h.1
   rw[if_neg hn]
   refine⟨h',v,.bool false,fun K=> ?_,ha,g,rfl,rfl⟩
   conv=>lhs;rw[aF dq.eq_1]
   simp only[sim,ag,reduceAdd,reduceSub,replicate,reduceCtorEq,reduceLeDiff,reduceLT,aa,d2,ik,lk,ij,hxa,w2]
 | true=>
   have hxa':xx=a:=of_decide_eq_true hxa
   cases hc:out.contains yy with
   | true=>
     rw[if_neg (by simp)]
     rw[hc]at cn
     refine⟨h',v,.bool false,fun K=> ?_,ha,g,rfl,rfl⟩
     conv=>lhs;rw[aF dq.eq_1]
     simp only[sim,ag,reduceAdd,reduceSub,replicate,reduceCtorEq,reduceLeDiff,reduceLT,aa,d2,ik,lk,ij,hxa,ik2,w1,lk2,cn,w2]
   | false=>
     rw[if_pos ⟨hxa',rfl⟩]
     rw[hc]at cn
     obtain⟨v',h2,e1,a2,g2,c2,n2⟩:=lW ha g (row:=[.int .i64 yy]) rfl (by simp;omega)
     have lk3:aD false 1 (h'.fresh 1) (.ptr b 0 (1 - k))=some (.int .i64 yy):=lk2
     refine⟨h2,v',.bool true,fun K=> ?_,by simpa using a2,g2,c2,n2⟩
     conv=>lhs;rw[aF dq.eq_1]
     simp only[sim,ag,reduceAdd,reduceSub,replicate,reduceCtorEq,reduceLeDiff,reduceLT,aa,d2,ik,lk,ij,hxa,ik2,w1,lk2,cn,e1,w2]
end
end Go.Proofs.YtkdbjfncchmmpaaGreat
