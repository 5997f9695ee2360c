/- Who is in a group; what may be done. -/
import Derived.Test.YtkdbjfncchmmpaaMg8
namespace Go.Proofs.Ytkdbjfncchmmpaa
open Nat (reduceAdd reduceSub reduceLeDiff reduceLT)
open List (replicate)
set_option linter.unusedSimpArgs false
set_option linter.unusedVariables false
open Go
section
variable {h h' h0:AH} {F J F0 J0:Nat→Prop} {L:List Asn}
theorem Pu {b:Nat} {x y a:Int} {out:List Int} {v:AV} {w p:AV} (hb:h'.cell b=some [[.int .i64 x,.int .i64 y]]) (hlt:b<h'.n) (ha:Acc h h' tIn v (bq out)) (g:af h h') (hl:out.length+2≤1000) {j:Nat} (hj:out[j]? =some a) (v2 v6 v7 v8 v9 v10 v11 v13 v14:AV):
  ∃ h'' v' w6 w12 w14,(∀ K,aq (aj Try.prog po) 15 (.lp dv:: .ss []:: .blk 4::K) [w,p,v2,v,.int .i64 (j:Int),.ptr b 0 0,v6,v7,v8,v9,v10,v11,.int .i64 0,v13,v14] [] h'=aq (aj Try.prog po) 15 K [w,p,v2,v',.int .i64 (j:Int),.ptr b 0 0,w6,v7,v8,v9,v10,v11,w12,.bool false,w14] [] h'')∧
    Acc h h'' tIn v' (bq (pK a out (x,y)))∧af h h''∧h''.cell=h'.cell∧h''.n=h'.n:=by
 obtain⟨h1,v1,u1,r1,a1,g1,c1,n1⟩:=MH (w:=w) (p:=p) hb hlt ha g (by omega) hj rfl 0 (by decide) v2 v6 v7 v8 v9 v10 v11 v13 v14
 rw[if_pos rfl,if_pos rfl]at a1
 have hj1:(qH a x y out)[j]? =some a:=by
  obtain⟨_,e,he⟩:=tz (a:=a) (x:=x) (y:=y) (out:=out)
  rw[he,List.getElem?_append_left (List.getElem?_eq_some_iff.1 hj).1]
  exact hj
 have hl1:(qH a x y out).length≤1000:=by
  unfold qH
  split
  ·simp;omega
  ·omega
 obtain⟨h2,v2',u2,r2,a2,g2,c2,n2⟩:=MH (w:=w) (p:=p) (h':=h1) (b:=b) (x:=x) (y:=y) (by rw[c1];exact hb) (by omega) a1 g1 hl1 hj1 rfl 1 (by decide) v2 (.int .i64 0) v7 v8 v9 v10 v11 (.bool true) u1
 rw[if_neg (by decide),if_neg (by decide)]at a2
 refine⟨h2,v2',.int .i64 1,.int .i64 2,u2,fun K=> ?_,a2,g2,c2.trans c1,n2.trans n1⟩
 have z0:((0:Nat):Int)=0:=rfl
 have z1:((1:Nat):Int)=1:=rfl
 have z2:(0:Int)+1=1:=rfl
 have z3:(1:Int)+1=2:=rfl
 simp only[z0,z1,z2,z3]at r1 r2
 rw[r1,r2]
 rw[aB dv.eq_1]
 simp only[sim,ag,reduceAdd,reduceSub,replicate,reduceCtorEq,reduceLeDiff,reduceLT,aa,Int.lt_irrefl,decide_false]
theorem N5 {links:List (Int×Int)} {lv:AV} (hv:IsL tLi lv (links.map gG)) (hll:links.length≤200) {a:Int} {w p:AV} {q:Int} {j:Nat}:∀ (r pre:List (Int×Int)) (h':AH) (out:List Int) (v:AV) (v2 v5 v6 v7 v11 v12 v13 v14:AV),links=pre++r→kZ links q out→out[j]? =some a→Acc h h' tIn v (bq out)→af h h'→
  ∃ h'' v' w5 w6 w10 w12 w13 w14,(∀ K,aq (aj Try.prog po) 15 (.lp iI:: .ss []:: .blk 2::K) [w,p,v2,v,.int .i64 (j:Int),v5,v6,v7,lv,.int .i64 (links.length:Int),.int .i64 (pre.length:Int),v11,v12,v13,v14] [] h'=aq (aj Try.prog po) 15 K [w,p,v2,v',.int .i64 (j:Int),w5,w6,v7,lv,.int .i64 (links.length:Int),w10,.bool false,w12,w13,w14] [] h'')∧
    Acc h h'' tIn v' (bq (r.foldl (pK a) out))∧af h h'':=by
 intro r
 induction r with
 | nil=>
   intro pre h' out v v2 v5 v6 v7 v11 v12 v13 v14 e gi hj ha g
   have d1:decide ((pre.length:Int)<(links.length:Int))=false:=decide_eq_false (by rw[e];simp)
   refine⟨h',v,v5,v6,.int .i64 (pre.length:Int),v12,v13,v14,fun K=> ?_,ha,g⟩
   rw[aB iI.eq_1]
   simp only[sim,ag,reduceAdd,reduceSub,replicate,reduceCtorEq,reduceLeDiff,reduceLT,aa,d1]
 | cons l r ih=>
   intro pre h' out v v2 v5 v6 v7 v11 v12 v13 v14 e gi hj ha g
   have hpl:pre.length<links.length:=by rw[e];simp
   have d1:decide ((pre.length:Int)<(links.length:Int))=true:=decide_eq_true (by omega)
   have ix:=hv.ix .i64 pre.length (gG l) (by rw[e];simp)
   have w1:=w64 (n:=(pre.length:Int)+1) (by omega) (by omega)
   have ek:((pre++[l]).length:Int)=(pre.length:Int)+1:=by simp
   have la:ldA true 2 (gG l) 0=some (.agg (gG l)):=bo rfl
   have hlen:=gi.len
   have ha1:Acc h (h'.push [gG l]) tIn v (bq out):=by
    rcases ha with ha | ⟨id,q1,q2,q3,q4,q5⟩
    ·exact .inl ha
    ·exact .inr ⟨id,q1,q2,q3,q4,q5⟩
   have pg:∀ z,(h'.push z).cell h'.n=some z:=fun z=>aC
   have ps:∀ y z,(h'.push y).set h'.n (some z)=h'.push z:=fun y z=>bm
   obtain⟨h2,v2',u6,u12,u14,r2,a2,g2,c2,n2⟩:=Pu (w:=w) (p:=p) (h':=h'.push [gG l]) (b:=h'.n) (x:=l.1) (y:=l.2) aC (Nat.lt_succ_self _) ha1 (g.trans (af.push _ _)) (by omega) hj v2 v6 v7 lv (.int .i64 (links.length:Int)) (.int .i64 (pre.length:Int)) (.bool true) v13 v14
   have hl:l∈links:=by rw[e];simp
   have gi2:kZ links q (pK a out l):=(gi.addK (List.mem_flatMap.2 ⟨l,hl,by simp⟩)).addK (List.mem_flatMap.2 ⟨l,hl,by simp⟩)
   have hj2:(pK a out l)[j]? =some a:=by
    obtain⟨e',he⟩:=z8 (a:=a) (out:=out) (l:=l)
    rw[he,List.getElem?_append_left (List.getElem?_eq_some_iff.1 hj).1]
    exact hj
   obtain⟨h3,v3,u5,w6,u10,u12',u13,w14,r3,a3,g3⟩:=ih (pre++[l]) h2 (pK a out l) v2' v2 (.ptr h'.n 0 0) u6 v7 (.bool true) u12 (.bool false) u14 (by simp[e]) gi2 hj2 a2 g2
   refine⟨h3,v3,u5,w6,u10,u12',u13,w14,fun K=> ?_,a3,g3⟩
   rw[←r3 K,ek]
   simp only[gG]at ix la r2 pg
   conv=>lhs;rw[aB iI.eq_1]
   simp only[sim,ag,reduceAdd,reduceSub,replicate,reduceCtorEq,reduceLeDiff,reduceLT,aa,d1,ix,la,pg,ps]
   rw[r2]
   simp only[sim,ag,reduceAdd,reduceSub,replicate,reduceCtorEq,reduceLeDiff,reduceLT,aa,w1]
theorem Ow {links:List (Int×Int)} {lv:AV} (hv:IsL tLi lv (links.map gG)) (hll:links.length≤200) {b:Nat} {p:AV} {q:Int} (hlk:∀ h',af h h'→aE false 1 h' (.ptr b 0 2)=some lv):∀ (f i:Nat) (h':AH) (out:List Int) (v:AV) (v2 v5 v6 v7 v8 v9 v10 v11 v12 v13 v14:AV),i≤out.length→2*links.length+2≤f+i→kZ links q out→Acc h h' tIn v (bq out)→af h h'→
  ∃ h'' v' V,(∀ K,aq (aj Try.prog po) 15 (.lp iD:: .ss []:: .blk 0::K) [.ptr b 0 0,p,v2,v,.int .i64 (i:Int),v5,v6,v7,v8,v9,v10,v11,v12,v13,v14] [] h'=aq (aj Try.prog po) 15 K (.ptr b 0 0::p::v2::v'::V) [] h'')∧V.length=11∧
    Acc h h'' tIn v' (bq (kT links f i out))∧af h h'':=by
 intro f
 induction f with
 | zero=>
   intro i h' out v v2 v5 v6 v7 v8 v9 v10 v11 v12 v13 v14 hi hf gi ha g
   have:=gi.len
   omega
 | succ f ih=>
   intro i h' out v v2 v5 v6 v7 v8 v9 v10 v11 v12 v13 v14 hi hf gi ha g
   have hvo:=Dz ha
   unfold kT
   by_cases hlt:i<out.length
   ·rw[if_pos hlt]
    have d1:decide ((i:Int)<(out.length:Int))=true:=decide_eq_true (by omega)
    have hj:out[i]? =some (out.getD i 0):=by simp[List.getD,hlt]
    have f2:aI 2 (.ptr b 0 0)=some (.ptr b 0 2):=rfl
    have ld:=hlk h' g
    have hlen:=gi.len
    have w1:=w64 (n:=(i:Int)+1) (by omega) (by omega)
    have ek:((i+1:Nat):Int)=(i:Int)+1:=by omega
    obtain⟨h2,v2',u5,u6,u10,u12,u13,u14,r2,a2,g2⟩:=N5 (w:= .ptr b 0 0) (p:=p) hv hll (a:=out.getD i 0) (j:=i) (q:=q) links [] h' out v v2 v5 v6 (.bool true) v11 v12 v13 v14 rfl gi hj ha g
    have gi2:kZ links q (links.foldl (pK (out.getD i 0)) out):=kZ.fold links out (fun l hl=>hl) gi
    obtain⟨e',he⟩:=Aj (a:=out.getD i 0) links out
    obtain⟨h3,v3,V,r3,hV,a3,g3⟩:=ih (i+1) h2 (links.foldl (pK (out.getD i 0)) out) v2' v2 u5 u6 (.bool true) lv (.int .i64 (links.length:Int)) u10 (.bool false) u12 u13 u14 (by rw[he];simp;omega) (by omega) gi2 a2 g2
    refine⟨h3,v3,V,fun K=> ?_,hV,a3,g3⟩
    rw[←r3 K,ek]
    simp only[List.length_nil,Int.natCast_zero]at r2
    conv=>lhs;rw[aB iD.eq_1]
    simp only[sim,ag,reduceAdd,reduceSub,replicate,reduceCtorEq,reduceLeDiff,reduceLT,aa,hvo.len,hvo.fits,List.length_map,d1,f2,ld,hv.len,hv.fits]
    rw[r2]
    simp only[sim,ag,reduceAdd,reduceSub,replicate,reduceCtorEq,reduceLeDiff,reduceLT,aa,w1]
   ·rw[if_neg hlt]
    have d1:decide ((i:Int)<(out.length:Int))=false:=decide_eq_false (by omega)
    refine⟨h',v,[.int .i64 (i:Int),v5,v6,.bool false,v8,v9,v10,v11,v12,v13,v14],fun K=> ?_,rfl,ha,g⟩
    rw[aB iD.eq_1]
    simp only[sim,ag,reduceAdd,reduceSub,replicate,reduceCtorEq,reduceLeDiff,reduceLT,aa,hvo.len,hvo.fits,List.length_map,d1]
theorem A8 {links:List (Int×Int)} {lv:AV} (hv:IsL tLi lv (links.map gG)) (hll:links.length≤200) {b:Nat} (hlk:∀ h',af h h'→aE false 1 h' (.ptr b 0 2)=some lv) (p:Int):aj Try.prog po 90 [.ptr b 0 0,.int .i64 p] h=some (.inl (cQ tIn (bq (ic links p))),h):=by
 have ha:Acc h (h.fresh 1) tIn (.isl (some h.ids) tIn [[.int .i64 p]]) (bq [p]):= .inr ⟨h.ids,by simp,Nat.le_refl _,Nat.lt_succ_self _,jW,rfl⟩
 obtain⟨h2,v',V,r2,hV,a2,g2⟩:=Ow (p:= .int .i64 p) (q:=p) hv hll hlk (2*links.length+2) 0 (h.fresh 1) [p] _ .nils .junk .junk .junk .junk .junk .junk .junk .junk .junk .junk (Nat.zero_le _) (by omega) (vN links p) ha (af.fresh h 1)
 have hw:=xe a2 (fun r hr=>by obtain⟨x,_,rfl⟩:=List.mem_map.1 hr;rfl)
 have e:kT links (2*links.length+2) 0 [p]=ic links p:=rfl
 rw[e]at hw
 simp only[Int.natCast_zero]at r2
 match V,hV with
 | [x4,x5,x6,x7,x8,x9,x10,x11,x12,x13,x14],_=>
   refine ah FY rfl ?_;unfold vG
   simp only[sim,ag,reduceAdd,reduceSub,replicate,reduceCtorEq,reduceLeDiff,reduceLT,aa]
   rw[r2]
   simp only[sim,ag,reduceAdd,reduceSub,replicate,reduceCtorEq,reduceLeDiff,reduceLT,aa]
   exact aA g2 hw
theorem Hj {g:jF} {c r:Int} {b4 b5 b7:Nat} {all:List Int} (h4:h.cell b4=some [[.int .i64 c]]) (h5:h.cell b5=some [[.int .i64 r]]) (h7:h.cell b7=some [[cQ tIn (bq all)]]) (l4:b4<h.n) (l5:b5<h.n) (l7:b7<h.n) (hl:all.length≤1000000):
  aj Try.prog po 92 [.agg (gE g),.ptr b4 0 0,.ptr b5 0 0,.ptr b7 0 0] h=some (.inl (.bool (decide (g.cell=c) && (decide (dT g.rights r=r) && all.contains g.plugin))),h):=by
 have pg:∀ z,(h.push z).cell h.n=some z:=fun z=>aC
 have p4:∀ z,(h.push z).cell b4=some [[.int .i64 c]]:=fun z=>by rw[aL l4];exact h4
 have p5:∀ z,(h.push z).cell b5=some [[.int .i64 r]]:=fun z=>by rw[aL l5];exact h5
 have p7:∀ z,(h.push z).cell b7=some [[cQ tIn (bq all)]]:=fun z=>by rw[aL l7];exact h7
 have cn:=fun(h:AH)=>mN (h:=h) (iK tIn (bq all)) (by omega) g.plugin
 have hm:∀ x y:Int,IntKind.wrap .i64 ((BitVec.ofInt IntKind.i64.bits x &&& BitVec.ofInt IntKind.i64.bits y).toNat:Int)=dT x y:=fun x y=>rfl
 simp only[gE]at*
 refine ah Hq rfl ?_;unfold zi
 cases d1:decide (g.cell=c)with
 | false=>
   simp only[sim,ag,reduceAdd,reduceSub,replicate,reduceCtorEq,reduceLeDiff,reduceLT,aa,pg,p4,p5,p7,d1]
   exact aA (af.push h _) rfl
 | true=>
   cases d2:decide (dT g.rights r=r)with
   | false=>
     simp only[sim,ag,reduceAdd,reduceSub,replicate,reduceCtorEq,reduceLeDiff,reduceLT,aa,pg,p4,p5,p7,d1,hm,d2]
     exact aA (af.push h _) rfl
   | true=>
     simp only[sim,ag,reduceAdd,reduceSub,replicate,reduceCtorEq,reduceLeDiff,reduceLT,aa,pg,p4,p5,p7,d1,hm,d2,cn]
     exact aA (af.push h _) rfl
theorem ym {v:AV} {gs:List jF} (hv:IsL tGi v (gs.map gE)) (hl:gs.length≤1000000) {f:FuncId} {caps:List AV} {P:jF→Bool} (hf:∀ g∈gs,aj Try.prog po f (.agg (gE g)::caps) h=some (.inl (.bool (P g)),h)):∀ (r pre:List jF) (v3 v6 v7:AV),gs=pre++r→pre.any P=false→
  ∃ V,(∀ K,aq (aj Try.prog po) 8 (.lp fW:: .ss []:: .blk 0::(.ss [.ops [(.i (.v 2) (.mv (.c (.int .i64 (-1)))))],.ret])::K) [v,.fn f [] caps,.int .i64 0,v3,.int .i64 (gs.length:Int),.int .i64 (pre.length:Int),v6,v7] [] h=some (.ret,V,h))∧∃ n:Int,V.getD 2 .junk= .int .i64 n∧decide (0≤n)=gs.any P:=by
 intro r
 induction r with
 | nil=>
   intro pre v3 v6 v7 e hc
   have d1:decide ((pre.length:Int)<(gs.length:Int))=false:=decide_eq_false (by rw[e];simp)
   refine⟨[v,.fn f [] caps,.int .i64 (-1),v3,.int .i64 (gs.length:Int),.int .i64 (pre.length:Int),.bool false,v7],fun K=> ?_, -1,rfl,?_⟩
   ·rw[aB fW.eq_1]
    simp only[sim,ag,reduceAdd,reduceSub,replicate,reduceCtorEq,reduceLeDiff,reduceLT,aa,d1]
   ·rw[e,List.append_nil,hc];rfl
 | cons g r ih=>
   intro pre v3 v6 v7 e hc
   have d1:decide ((pre.length:Int)<(gs.length:Int))=true:=decide_eq_true (by rw[e];simp;omega)
   have ix:=hv.ix .i64 pre.length (gE g) (by rw[e];simp)
   have la:ldA true 3 (gE g) 0=some (.agg (gE g)):=bo rfl
   have hpl:pre.length<gs.length:=by rw[e];simp
   have w:=w64 (n:=(pre.length:Int)+1) (by omega) (by omega)
   have hg:=hf g (by rw[e];simp)
   cases hy:P g with
   | true=>
     rw[hy]at hg
     refine⟨[v,.fn f [] caps,.int .i64 (pre.length:Int),.int .i64 (pre.length:Int),.int .i64 (gs.length:Int),.int .i64 (pre.length:Int),.bool true,.bool true],fun K=> ?_,(pre.length:Int),rfl,?_⟩
     ·rw[aB fW.eq_1]
      simp only[sim,ag,reduceAdd,reduceSub,replicate,reduceCtorEq,reduceLeDiff,reduceLT,aa,az,d1,ix,la,hg]
     ·rw[e];simp[hy]
   | false=>
     rw[hy]at hg
     have ek:((pre++[g]).length:Int)=(pre.length:Int)+1:=by simp
     obtain⟨V,r1,r2⟩:=ih (pre++[g]) (.int .i64 (pre.length:Int)) (.bool true) (.bool false) (by simp[e]) (by simp[hc,hy])
     refine⟨V,fun K=> ?_,r2⟩
     rw[←r1 K,ek]
     conv=>lhs;rw[aB fW.eq_1]
     simp only[sim,ag,reduceAdd,reduceSub,replicate,reduceCtorEq,reduceLeDiff,reduceLT,aa,az,d1,ix,la,hg,w]
end
theorem PW {e:TypeId} {rows:List (List AV)} {k:Nat} (hk:k≤rows.length):∃ v,eN (cQ e rows) (some (.int .i64 (k:Int))) none=some v∧IsL e v (rows.drop k):=by
 unfold cQ
 by_cases hz:rows=[]
 ·subst hz
  have:k=0:=by simpa using hk
  subst this
  exact⟨.nils,by simp[eN,loA,hiA,dR,py],jv e⟩
 ·rw[if_neg hz]
  refine⟨.isl none e (rows.drop k),?_,kJ _ _ _⟩
  have h2:(rows.drop k).take (rows.length - k)=rows.drop k:=List.take_of_length_le (by simp)
  simp[eN,loA,hiA,dR,py,hk,h2]
section
variable {h h' h0:AH} {F J F0 J0:Nat→Prop} {L:List Asn} {b hb:Nat} {gs:List jF} {ls:List (Int×Int)} {cd at_ n:Int}
theorem kx (x:(dD b hb gs ls cd at_ n).A h F J):∃ gv lv,St h F J h [ai b [[.ptr hb 0 0,gv,lv,.int .i64 cd,.int .i64 at_,.int .i64 n]],di tGi gv (gs.map gE),di tLi lv (ls.map gG)]:=by
 obtain⟨⟨gv,lv⟩,F1,J1,F2,J2,x1,x2,r⟩:=x
 exact⟨gv,lv,St.start ⟨F1,J1,F2,J2,x1,aY.two x2,r⟩⟩
theorem aY.three {X Y Z:Asn} (x:(aY [X,Y,Z]).A h F J):(dE X (dE Y Z)).A h F J:=by
 obtain⟨F1,J1,F2,J2,x1,x2,r⟩:=x
 refine⟨F1,J1,F2,J2,x1,?_,r⟩
 obtain⟨F3,J3,F4,J4,y,z,r2⟩:=x2
 exact⟨F3,J3,F4,J4,y,aY.one' z,r2⟩
theorem pF {gv lv:AV} (s:St h0 F0 J0 h [ai b [[.ptr hb 0 0,gv,lv,.int .i64 cd,.int .i64 at_,.int .i64 n]],di tGi gv (gs.map gE),di tLi lv (ls.map gG)]):Did h0 F0 J0 h (dD b hb gs ls cd at_ n):=
 Did.imp (fun _ _ _ x=>⟨(gv,lv),aY.three x⟩) s
theorem yX {e:TypeId} {v:AV} {rows:List (List AV)} (x:(di e v rows).A h F J):IsL e v rows∧v.one=true∧v.cells=[v]:=by
 rcases x with⟨⟨rfl,rfl⟩,_⟩ | ⟨id,⟨_,rfl⟩,_⟩
 ·exact⟨jv e,rfl,rfl⟩
 ·exact⟨kJ _ _ _,rfl,rfl⟩
structure KD (h:AH) (b hb:Nat) (gs:List jF) (ls:List (Int×Int)) (cd at_ n:Int) (gv lv:AV):Prop where
 c:h.cell b=some [[.ptr hb 0 0,gv,lv,.int .i64 cd,.int .i64 at_,.int .i64 n]]
 lt:b<h.n
 g:IsL tGi gv (gs.map gE)
 l:IsL tLi lv (ls.map gG)
theorem gK (s:St h0 F0 J0 h L) (i:Nat) (hi:L[i]? =some (dD b hb gs ls cd at_ n)):∃ gv lv,KD h b hb gs ls cd at_ n gv lv:=by
 obtain⟨F,J,x⟩:=s.get i hi
 obtain⟨gv,lv,s1⟩:=kx x
 have c:=s1.cell 0 rfl
 obtain⟨F1,J1,x1⟩:=s1.get 1 rfl
 obtain⟨F2,J2,x2⟩:=s1.get 2 rfl
 exact⟨gv,lv,c.1,c.2,(yX x1).1,(yX x2).1⟩
theorem uA {v:AV} {gs:List jF} (hv:IsL tGi v (gs.map gE)) (hl:gs.length≤1000000) {f:FuncId} {caps:List AV} {P:jF→Bool} (hf:∀ g∈gs,aj Try.prog po f (.agg (gE g)::caps) h=some (.inl (.bool (P g)),h)):
  aj Try.prog po 91 [v,.fn f [] caps] h=some (.inl (.bool (gs.any P)),h):=by
 obtain⟨V,r1,n,r2,r3⟩:=ym (h:=h) hv hl hf gs [] .junk .junk .junk rfl rfl
 simp only[List.length_nil,Int.natCast_zero]at r1
 have e1:aj Try.prog po 113 [v,.fn f [] caps] h=some (.inl (.int .i64 n),h):=by
  refine ah E3 rfl ?_;unfold vF
  simp only[sim,ag,reduceAdd,reduceSub,replicate,reduceCtorEq,reduceLeDiff,reduceLT,aa,hv.len,hv.fits,List.length_map]
  rw[r1]
  simp only[sim,ag,reduceAdd,reduceSub,replicate,reduceCtorEq,reduceLeDiff,reduceLT,aa,r2]
 refine ah xn rfl ?_;unfold oz
 simp only[sim,ag,reduceAdd,reduceSub,replicate,reduceCtorEq,reduceLeDiff,reduceLT,aa,e1,r3]
theorem Bv (ls:List (Int×Int)) (p:Int):(ic ls p).length≤2*ls.length+1:=by
 have key:∀ (f i:Nat) (out:List Int),kZ ls p out→kZ ls p (kT ls f i out):=by
  intro f
  induction f with
  | zero=>exact fun i out g=>g
  | succ f ih=>
    intro i out g
    unfold kT
    split
    ·exact ih _ _ (kZ.fold ls out (fun l hl=>hl) g)
    ·exact g
 exact(key _ _ _ (vN ls p)).len
theorem qR (s:St h0 F0 J0 h L) (i:Nat) (hi:L[i]? =some (dD b hb gs ls cd at_ n)) (hg:gs.length≤200) (hl:ls.length≤200) (p c r:Int):aj Try.prog po 64 [.ptr b 0 0,.int .i64 p,.int .i64 c,.int .i64 r] h=some (.inl (.bool (BS gs ls p c r)),h):=by
 obtain⟨gv,lv,wv⟩:=gK s i hi
 have s1:=s.push [[.int .i64 c]]
 have s2:=s1.push [[.int .i64 r]]
 have hlk:∀ h',af ((h.push [[.int .i64 c]]).push [[.int .i64 r]]) h'→aE false 1 h' (.ptr b 0 2)=some lv:=fun h' g=>by
  have e:h'.cell b=h.cell b:=by
   rw[g.cell b (by have:=wv.lt;simp only[aM];omega),aL (by have:=wv.lt;simp only[aM];omega),aL wv.lt]
  rw[bD,e,wv.c]
  rfl
 have gr:=A8 (h:=(h.push [[.int .i64 c]]).push [[.int .i64 r]]) wv.l hl hlk p
 have s3:=s2.push [[cQ tIn (bq (ic ls p))]]
 have c7:=s3.cell 0 rfl
 have c5:=s3.cell 1 rfl
 have c4:=s3.cell 2 rfl
 obtain⟨gv3,lv3,wv3⟩:=gK s3 (i+1+1+1) hi
 have eg:gv3=gv:=by
  have:=wv3.c
  rw[aL (by have:=wv.lt;simp only[aM];omega),aL (by have:=wv.lt;simp only[aM];omega),aL wv.lt,wv.c]at this
  simp at this
  exact this.1.symm
 subst eg
 have f1:aI 1 (.ptr b 0 0)=some (.ptr b 0 1):=rfl
 have l1:aE false 1 (((h.push [[.int .i64 c]]).push [[.int .i64 r]]).push [[cQ tIn (bq (ic ls p))]]) (.ptr b 0 1)=some gv3:=by rw[bD,wv3.c];rfl
 have cg:=uA (h:=((h.push [[.int .i64 c]]).push [[.int .i64 r]]).push [[cQ tIn (bq (ic ls p))]]) wv.g (by omega) (f:=92) (caps:=[.ptr h.n 0 0,.ptr (h.n+1) 0 0,.ptr (h.n+1+1) 0 0]) (P:=fun g=>decide (g.cell=c) && (decide (dT g.rights r=r) && (ic ls p).contains g.plugin)) (fun g _=>Hj c4.1 c5.1 c7.1 c4.2 c5.2 c7.2 (by have:=Bv ls p;omega))
 have hlo:(cQ tIn (bq (ic ls p))).one=true∧(cQ tIn (bq (ic ls p))).cells=[cQ tIn (bq (ic ls p))]:=by
  unfold cQ
  split<;>exact⟨rfl,rfl⟩
 have m3:∀ y z,((((h.push [[.int .i64 c]]).push [[.int .i64 r]]).push y).set (h.n+1+1) (some z))=((h.push [[.int .i64 c]]).push [[.int .i64 r]]).push z:=fun y z=>bm
 have m4:∀ y,((((h.push [[.int .i64 c]]).push [[.int .i64 r]]).push y).cell (h.n+1+1))=some y:=fun y=>aC
 unfold BS
 generalize cQ tIn (bq (ic ls p))=gl at*
 refine ah Ky rfl ?_;unfold CK
 simp only[sim,ag,reduceAdd,reduceSub,replicate,reduceCtorEq,reduceLeDiff,reduceLT,aa,az,gr,hlo,m3,m4,f1,l1,cg]
 exact aA (((af.push h _).trans (af.push _ _)).trans (af.push _ _)) rfl
end
structure WaC extends HoC where
 wt:Nat
abbrev dG (c:WaC) (W:WaD):List Asn:=dD c.wt c.hb W.gifts W.links W.code W.at_ W.n::dj c.toHoC W.H
structure OkW (k:Nat) (W:WaD):Prop where
 h:AP k W.H
 g:W.gifts.length≤k
 l:W.links.length≤k
 n:W.n=(k:Int)
section
variable {h h' h0:AH} {F J F0 J0:Nat→Prop} {L:List Asn} {b hb:Nat} {gs:List jF} {ls:List (Int×Int)} {cd at_ n:Int}
theorem B7 (s0:St h0 F0 J0 h L) (i:Nat) (hi:L[i]? =some (dD b hb gs ls cd at_ n)) (hl:gs.length≤1000) (g:jF) {gv lv:AV} (wv:KD h b hb gs ls cd at_ n gv lv):
  ∃ v' h1 h2,aF false tGi gv (.isl (some h.ids) tGi [gE g]) (h.fresh 1)=some (v',h1)∧v'.one=true∧v'.cells=[v']∧h1.cell=h.cell∧aJ 1 h1 (.ptr b 0 1) v'=some h2∧St h0 F0 J0 h2 (L.set i (dD b hb (gs++[g]) ls cd at_ n)):=by
 obtain⟨h2,⟨v',h1⟩,⟨e1,e2,e3,e4,e5⟩,s'⟩:=s0.callE (R:=fun h2 (q:AV×AH)=>aF false tGi gv (.isl (some h.ids) tGi [gE g]) (h.fresh 1)=some (q.1,q.2)∧q.1.one=true∧q.1.cells=[q.1]∧q.2.cell=h.cell∧aJ 1 q.2 (.ptr b 0 1) q.1=some h2) i hi (Y:=fun _=>dD b hb (gs++[g]) ls cd at_ n) fun F J x=>by
  obtain⟨gv',lv',s⟩:=kx x
  have c0:=s.cell 0 rfl
  have e:=wv.c
  rw[c0.1]at e
  simp at e
  obtain⟨rfl,rfl⟩:=e
  obtain⟨F1,J1,x1⟩:=s.get 1 rfl
  obtain⟨h1,v',⟨a1,a2,a3,a4⟩,s1⟩:=s.callE (R:=fun h1 (v':AV)=>aF false tGi gv' (.isl (some h.ids) tGi [gE g]) (h.fresh 1)=some (v',h1)∧v'.one=true∧v'.cells=[v']∧h1.cell=h.cell) 1 rfl (Y:=fun v'=>di tGi v' ((gs++[g]).map gE)) fun F J x=>by
   obtain⟨v',h1,a1,a2,a3,a4,_,a5⟩:=kq x (row:=gE g) rfl (by simp;omega)
   exact⟨h1,v',⟨a1,a2,a3,a5⟩,by simpa using a4⟩
  have c1:=s1.cell 0 rfl
  have s2:=s1.set 0 rfl [[.ptr hb 0 0,v',lv',.int .i64 cd,.int .i64 at_,.int .i64 n]]
  refine⟨_,(v',h1),⟨a1,a2,a3,a4,?_⟩,pF s2⟩
  rw[bp c1.1 rfl (by rw[a3];simp[a2]) (by rw[a3];rfl) (by simp)]
  rw[a3]
  rfl
 exact⟨v',h1,h2,e1,e2,e3,e4,e5,s'⟩
theorem Ba (s0:St h0 F0 J0 h L) (i:Nat) (hi:L[i]? =some (dD b hb gs ls cd at_ n)) (hl:ls.length≤1000) (g:Int×Int) {gv lv:AV} (wv:KD h b hb gs ls cd at_ n gv lv):
  ∃ v' h1 h2,aF false tLi lv (.isl (some h.ids) tLi [gG g]) (h.fresh 1)=some (v',h1)∧v'.one=true∧v'.cells=[v']∧h1.cell=h.cell∧aJ 1 h1 (.ptr b 0 2) v'=some h2∧St h0 F0 J0 h2 (L.set i (dD b hb gs (ls++[g]) cd at_ n)):=by
 obtain⟨h2,⟨v',h1⟩,⟨e1,e2,e3,e4,e5⟩,s'⟩:=s0.callE (R:=fun h2 (q:AV×AH)=>aF false tLi lv (.isl (some h.ids) tLi [gG g]) (h.fresh 1)=some (q.1,q.2)∧q.1.one=true∧q.1.cells=[q.1]∧q.2.cell=h.cell∧aJ 1 q.2 (.ptr b 0 2) q.1=some h2) i hi (Y:=fun _=>dD b hb gs (ls++[g]) cd at_ n) fun F J x=>by
  obtain⟨gv',lv',s⟩:=kx x
  have c0:=s.cell 0 rfl
  have e:=wv.c
  rw[c0.1]at e
  simp at e
  obtain⟨rfl,rfl⟩:=e
  obtain⟨h1,v',⟨a1,a2,a3,a4⟩,s1⟩:=s.callE (R:=fun h1 (v':AV)=>aF false tLi lv' (.isl (some h.ids) tLi [gG g]) (h.fresh 1)=some (v',h1)∧v'.one=true∧v'.cells=[v']∧h1.cell=h.cell) 2 rfl (Y:=fun v'=>di tLi v' ((ls++[g]).map gG)) fun F J x=>by
   obtain⟨v',h1,a1,a2,a3,a4,_,a5⟩:=kq x (row:=gG g) rfl (by simp;omega)
   exact⟨h1,v',⟨a1,a2,a3,a5⟩,by simpa using a4⟩
  have c1:=s1.cell 0 rfl
  have s2:=s1.set 0 rfl [[.ptr hb 0 0,gv',v',.int .i64 cd,.int .i64 at_,.int .i64 n]]
  refine⟨_,(v',h1),⟨a1,a2,a3,a4,?_⟩,pF s2⟩
  rw[bp c1.1 rfl (by rw[a3];simp[a2]) (by rw[a3];rfl) (by simp)]
  rw[a3]
  rfl
 exact⟨v',h1,h2,e1,e2,e3,e4,e5,s'⟩
theorem sA (s0:St h0 F0 J0 h L) (i:Nat) (hi:L[i]? =some (dD b hb gs ls cd at_ n)) (cd' at' n':Int) {row:List AV} {gv lv:AV} (wv:KD h b hb gs ls cd at_ n gv lv):St h0 F0 J0 (h.set b (some [[.ptr hb 0 0,gv,lv,.int .i64 cd',.int .i64 at',.int .i64 n']])) (L.set i (dD b hb gs ls cd' at' n')):=by
 obtain⟨h',rfl,s'⟩:=s0.call (R:=fun h'=>h'=h.set b (some [[.ptr hb 0 0,gv,lv,.int .i64 cd',.int .i64 at',.int .i64 n']])) i hi (Y:=dD b hb gs ls cd' at' n') fun F J x=>by
  obtain⟨gv',lv',s⟩:=kx x
  have c0:=s.cell 0 rfl
  have e:=wv.c
  rw[c0.1]at e
  simp at e
  obtain⟨rfl,rfl⟩:=e
  exact⟨_,rfl,pF (s.set 0 rfl [[.ptr hb 0 0,gv',lv',.int .i64 cd',.int .i64 at',.int .i64 n']])⟩
 exact s'
theorem JL (s:St h0 F0 J0 h L) (i:Nat) (hi:L[i]? =some (dD b hb gs ls cd at_ n)) (hg:gs.length≤1000) (hl:ls.length≤1000) (x:cG) {m:AV} (hm:m.one=true):
  ∃ h',aj Try.prog po 65 [.ptr b 0 0,.agg (aQ x m)] h=some (.inl (.tup []),h')∧St h0 F0 J0 h' (L.set i (dD b hb (if x.kind=2 then gs++[⟨x.p,x.k,x.r⟩]else gs) (if x.kind=2 then ls else if x.kind=3 then ls++[(x.p,x.q)]else ls) cd at_ n)):=by
 have s1:=s.push [aQ x m]
 have c1:∀ z,(h.push z).cell h.n=some z:=fun z=>aC
 have f1:aI 1 (.ptr b 0 0)=some (.ptr b 0 1):=rfl
 have f2:aI 2 (.ptr b 0 0)=some (.ptr b 0 2):=rfl
 obtain⟨gv,lv,wv⟩:=gK s1 (i+1) hi
 have lg:aE false 1 (h.push [aQ x m]) (.ptr b 0 1)=some gv:=by rw[bD,wv.c];rfl
 have ll:aE false 1 (h.push [aQ x m]) (.ptr b 0 2)=some lv:=by rw[bD,wv.c];rfl
 by_cases k2:x.kind=2
 ·have d2:decide (x.kind=2)=true:=decide_eq_true k2
  rw[if_pos k2,if_pos k2]
  obtain⟨v',h1,h2,a1,a2,a3,a4,a5,s2⟩:=B7 s1 (i+1) hi hg ⟨x.p,x.k,x.r⟩ wv
  have lg2:aE false 1 ((h.push [aQ x m]).fresh 1) (.ptr b 0 1)=some gv:=lg
  have a1:aF false tGi gv (.isl (some h.ids) tGi [[.int .i64 x.p,.int .i64 x.k,.int .i64 x.r]]) ((h.push [aQ x m]).fresh 1)=some (v',h1):=a1
  refine⟨h2,?_,s2.drop⟩
  simp only[aQ]at lg lg2 a1
  refine ah sc rfl ?_;unfold oX
  simp only[sim,ag,reduceAdd,reduceSub,replicate,reduceCtorEq,reduceLeDiff,reduceLT,aa,aQ,hm,c1,f1,d2,lg,lg2,a1,a2,a3,a5]
 ·have d2:decide (x.kind=2)=false:=decide_eq_false k2
  rw[if_neg k2,if_neg k2]
  by_cases k3:x.kind=3
  ·have d3:decide (x.kind=3)=true:=decide_eq_true k3
   rw[if_pos k3]
   obtain⟨v',h1,h2,a1,a2,a3,a4,a5,s2⟩:=Ba s1 (i+1) hi hl (x.p,x.q) wv
   have ll2:aE false 1 ((h.push [aQ x m]).fresh 1) (.ptr b 0 2)=some lv:=ll
   have a1:aF false tLi lv (.isl (some h.ids) tLi [[.int .i64 x.p,.int .i64 x.q]]) ((h.push [aQ x m]).fresh 1)=some (v',h1):=a1
   refine⟨h2,?_,s2.drop⟩
   simp only[aQ]at ll ll2 a1
   refine ah sc rfl ?_;unfold oX
   simp only[sim,ag,reduceAdd,reduceSub,replicate,reduceCtorEq,reduceLeDiff,reduceLT,aa,aQ,hm,c1,f2,d2,d3,ll,ll2,a1,a2,a3,a5]
  ·have d3:decide (x.kind=3)=false:=decide_eq_false k3
   rw[if_neg k3]
   refine⟨h.push [aQ x m],?_,?_⟩
   ·refine ah sc rfl ?_;unfold oX
    simp only[sim,ag,reduceAdd,reduceSub,replicate,reduceCtorEq,reduceLeDiff,reduceLT,aa,aQ,hm,c1,d2,d3]
   ·rw[Fx hi]
    exact s1.drop
end
def iz {α:Type} (S:StD) (q:StD×α×Int):Prop:=S.log<+:q.1.log
section
variable {α β:Type}
theorem iz.same {S:StD} {q:StD×α×Int} (h:q.1.log=S.log):iz S q:=by unfold iz;rw[h];exact List.prefix_refl _
theorem iz.bind {S:StD} {q:StD×α×Int} {z:β} {k:StD→α→StD×β×Int} (h:iz S q) (hk:∀ T v,iz T (k T v)):iz S (ja z q k):=by
 obtain⟨T,v,c⟩:=q
 unfold ja
 simp only
 split
 ·exact h
 ·exact List.IsPrefix.trans h (hk T v)
theorem iz.ite {S:StD} {p:Prop} [Decidable p] {a b:StD×α×Int} (h1:iz S a) (h2:iz S b):iz S (if p then a else b):=by split<;>assumption
end
theorem GL (S:StD) (q:ae×Int×Int):iz S (xp S q):=by
 unfold xp
 exact .ite (.same rfl) (.same rfl)
theorem Fw (p op k n:Int) (l:List VD) (S:StD):iz S (bI p op k n l S):=by
 unfold bI
 repeat' (first | exact iz.same rfl | exact GL _ _ | exact List.prefix_append _ _ | refine iz.ite ?_ ?_)
theorem GQ (ms:aN) (v x:VD) (fr:Nat) (S:StD):iz S (fp ms v x fr S):=by
 unfold fp
 repeat' (first | exact iz.same rfl | refine iz.ite ?_ ?_)
theorem Fb (gates:List Int) (v:VD) (S:StD):iz S (eQ gates v S):=by
 unfold eQ
 exact .ite (.same rfl) (.same rfl)
theorem C1 {f:XD→StD→StD×VD×Int} (hf:∀ x S,iz S (f x S)):∀ (l:List XD) (S:StD) (acc:List VD),iz S (evL f l S acc)
 | [],S,acc=> .same rfl
 | x::l,S,acc=>by
   rw[yp]
   exact(hf x S).bind fun T v=>C1 hf l T _
theorem DG (ms:aN):∀ (N:Nat) (p:Int) (x:XD) (arg:VD) (names:List VD) (fr:Nat) (S:StD),iz S (ofD ms N p x arg names fr S)
 | 0,p,x,arg,names,fr,S=> .same rfl
 | N+1,p,x,arg,names,fr,S=>by
   have ih:=DG ms N
   have tk:∀ {q:StD×VD×Int},iz S.tick q→iz S q:=fun h=>h
   rw[AO]
   refine .ite (.same rfl) (tk ?_)
   cases d9 p x arg names S.tick with
   | some v=>exact .same rfl
   | none=>
     refine .ite ((ih _ _ _ _ _ _).bind fun T v=>ih _ _ _ _ _ _) (.ite ((ih _ _ _ _ _ _).bind fun T v=> .ite (.same rfl) (.ite (ih _ _ _ _ _ _) (ih _ _ _ _ _ _))) ?_)
     refine(C1 (fun y S=>ih _ _ _ _ _ _) _ _ _).bind fun T l=> .ite (.ite (.same rfl) (ih _ _ _ _ _ _)) (.ite ?_ (Fw _ _ _ _ _ _))
     exact(GQ _ _ _ _ _).bind fun T q=>(ih _ _ _ _ _ _).bind fun T v=>Fb _ _ _
theorem G4 {ms:aN} {S:StD} {p f fuel:Int} {v:VD}:S.log<+:(cO ms p f v fuel S).1.log:=by
 unfold cO
 split
 ·exact List.prefix_refl _
 ·split
  ·exact List.prefix_refl _
  ·split
   ·exact List.prefix_refl _
   ·have h:=DG ms fuel.toNat p (cX ms p f) v [] 1 {S with left:=fuel.toNat}
    generalize ofD ms fuel.toNat p (cX ms p f) v [] 1 {S with left:=fuel.toNat}=q at h
    obtain⟨S',w,c⟩:=q
    exact h
theorem AL {H:HoD} {p n c:Int}:(H.give p n c).1.S.log=H.S.log:=by
 unfold HoD.give
 split<;>rfl
theorem Ey (H:HoD) (x:cG):H.S.log<+:(H.step x).1.S.log:=by
 have same:∀ {l:List ca},l=H.S.log→H.S.log<+:l:=fun h=>by rw[h];exact List.prefix_refl _
 unfold HoD.step
 split
 ·unfold HoD.load
  split
  ·exact same rfl
  ·split<;>exact same rfl
 ·split
  ·split
   ·exact same rfl
   ·split
    ·exact same AL
    ·exact same AL
  ·split
   ·unfold HoD.call
    split
    ·exact same rfl
    ·have:=G4 (ms:=H.ms) (S:=H.S) (p:=x.p) (f:=x.k) (fuel:=2000) (v:=if 0≤x.h then(H.hand x.p).getD x.h.toNat au else iH x.n)
     generalize cO H.ms x.p x.k (if 0≤x.h then(H.hand x.p).getD x.h.toNat au else iH x.n) 2000 H.S=q at this
     obtain⟨S',v,n,c⟩:=q
     exact this
   ·split
    ·exact same rfl
    ·split<;>exact same rfl
abbrev waA (b hb:Nat) (W:WaD):Asn:=dD b hb W.gifts W.links W.code W.at_ W.n
theorem zp (W:WaD) (y:ca):(W.see y).gifts=W.gifts∧(W.see y).links=W.links∧(W.see y).n=W.n∧(W.see y).H=W.H:=by
 unfold WaD.see
 split<;>exact⟨rfl,rfl,rfl,rfl⟩
theorem mC:∀ (l:List ca) (W:WaD),(l.foldl WaD.see W).gifts=W.gifts∧(l.foldl WaD.see W).links=W.links∧(l.foldl WaD.see W).n=W.n∧(l.foldl WaD.see W).H=W.H
 | [],W=>⟨rfl,rfl,rfl,rfl⟩
 | y::l,W=>by
   obtain⟨a1,a2,a3,a4⟩:=zp W y
   obtain⟨b1,b2,b3,b4⟩:=mC l (W.see y)
   exact⟨b1.trans a1,b2.trans a2,b3.trans a3,b4.trans a4⟩
section
variable {h h' h0:AH} {F J F0 J0:Nat→Prop} {L:List Asn} {b hb:Nat}
theorem GB {i:Nat} (hil:i<L.length) {v9:AV} {es:List ca} (hv:IsL tEn v9 (es.map cz)) (hel:es.length≤1000000):∀ (r pre:List ca) (h':AH) (W:WaD) (v1 v2 v3 v4 v5 v6 v7 v8 v12 v13:AV),es=pre++r→W.gifts.length≤200→W.links.length≤200→St h0 F0 J0 h' (L.set i (waA b hb W))→
  ∃ h'' w7 w11 w13,(∀ K,aq (aj Try.prog po) 14 (.lp gN:: .ss []:: .blk 0::K) [.ptr b 0 0,v1,v2,v3,v4,v5,v6,v7,v8,v9,.int .i64 (es.length:Int),.int .i64 (pre.length:Int),v12,v13] [] h'=aq (aj Try.prog po) 14 K [.ptr b 0 0,v1,v2,v3,v4,v5,v6,w7,v8,v9,.int .i64 (es.length:Int),w11,.bool false,w13] [] h'')∧St h0 F0 J0 h'' (L.set i (waA b hb (r.foldl WaD.see W))):=by
 intro r
 induction r with
 | nil=>
   intro pre h' W v1 v2 v3 v4 v5 v6 v7 v8 v12 v13 e hg hl s
   have d1:decide ((pre.length:Int)<(es.length:Int))=false:=decide_eq_false (by rw[e];simp)
   refine⟨h',v7,.int .i64 (pre.length:Int),v13,fun K=> ?_,s⟩
   rw[aB gN.eq_1]
   simp only[sim,ag,reduceAdd,reduceSub,replicate,reduceCtorEq,reduceLeDiff,reduceLT,aa,d1]
 | cons y r ih=>
   intro pre h' W v1 v2 v3 v4 v5 v6 v7 v8 v12 v13 e hg hl s
   have hpl:pre.length<es.length:=by rw[e];simp
   have d1:decide ((pre.length:Int)<(es.length:Int))=true:=decide_eq_true (by omega)
   have ix:=hv.ix .i64 pre.length (cz y) (by rw[e];simp)
   have w1:=w64 (n:=(pre.length:Int)+1) (by omega) (by omega)
   have ek:((pre++[y]).length:Int)=(pre.length:Int)+1:=by simp
   have la:ldA true 4 (cz y) 0=some (.agg (cz y)):=bo rfl
   have s1:=s.push [cz y]
   have hi:(ai h'.n [cz y]::L.set i (waA b hb W))[i+1]? =some (waA b hb W):=by
    rw[List.getElem?_cons_succ,List.getElem?_set_self hil]
   have my:=qR s1 (i+1) hi hg hl y.plugin y.cell y.right
   obtain⟨gv,lv,wv⟩:=gK s1 (i+1) hi
   have pg:∀ z,(h'.push z).cell h'.n=some z:=fun z=>aC
   have ps:∀ y z,(h'.push y).set h'.n (some z)=h'.push z:=fun y z=>bm
   have f3:aI 3 (.ptr b 0 0)=some (.ptr b 0 3):=rfl
   have f3':aI 0 (.ptr b 0 3)=some (.ptr b 0 3):=rfl
   have f5:aI 5 (.ptr b 0 0)=some (.ptr b 0 5):=rfl
   have wc:=wv.c
   obtain⟨z1,z2,z3,_⟩:=zp W y
   -- what comes of it
   have go:∀ (hh:AH) (w13:AV),St h0 F0 J0 hh (L.set i (waA b hb (W.see y)))→∃ h'' w7 w11 w13',(∀ K,aq (aj Try.prog po) 14 (.lp gN:: .ss []:: .blk 0::K) [.ptr b 0 0,v1,v2,v3,v4,v5,v6,.ptr h'.n 0 0,v8,v9,.int .i64 (es.length:Int),.int .i64 ((pre.length:Int)+1),.bool true,w13] [] hh=aq (aj Try.prog po) 14 K [.ptr b 0 0,v1,v2,v3,v4,v5,v6,w7,v8,v9,.int .i64 (es.length:Int),w11,.bool false,w13'] [] h'')∧St h0 F0 J0 h'' (L.set i (waA b hb ((y::r).foldl WaD.see W))):=fun hh w13 sh=>by
    obtain⟨h'',w7,w11,w13',r1,s2⟩:=ih (pre++[y]) hh (W.see y) v1 v2 v3 v4 v5 v6 (.ptr h'.n 0 0) v8 (.bool true) w13 (by simp[e]) (by rw[z1];exact hg) (by rw[z2];exact hl) sh
    exact⟨h'',w7,w11,w13',fun K=>by rw[←r1 K,ek],s2⟩
   simp only[cz]at ix la my wc
   by_cases hc:W.code=0
   ·have dc:decide (W.code=0)=true:=decide_eq_true hc
    cases hm:BS W.gifts W.links y.plugin y.cell y.right with
    | true=>
      rw[hm]at my
      have hs:W.see y=W:=by unfold WaD.see;rw[if_neg (by simp[hm])]
      obtain⟨h'',w7,w11,w13',r1,s2⟩:=go (h'.push [cz y]) (.bool false) (by rw[hs];exact s1.drop)
      refine⟨h'',w7,w11,w13',fun K=> ?_,s2⟩
      rw[←r1 K]
      simp only[cz]
      conv=>lhs;rw[aB gN.eq_1]
      simp only[sim,ag,reduceAdd,reduceSub,replicate,reduceCtorEq,reduceLeDiff,reduceLT,aa,d1,ix,la,pg,ps,f3,f3',wc,dc,my,w1]
    | false=>
      rw[hm]at my
      have hs:W.see y={W with code:=14,at_:=W.n}:=by unfold WaD.see;rw[if_pos ⟨hc,hm⟩]
      have s3:=sA s1 (i+1) hi 14 W.n W.n (row:=[]) wv
      have s3:St h0 F0 J0 _ (ai h'.n [cz y]::(L.set i (waA b hb W)).set i (dD b hb W.gifts W.links 14 W.n W.n)):=s3
      rw[List.set_set]at s3
      obtain⟨h'',w7,w11,w13',r1,s2⟩:=go _ (.bool true) (by rw[hs];exact s3.drop)
      refine⟨h'',w7,w11,w13',fun K=> ?_,s2⟩
      rw[←r1 K]
      simp only[cz]
      conv=>lhs;rw[aB gN.eq_1]
      simp only[sim,ag,reduceAdd,reduceSub,replicate,reduceCtorEq,reduceLeDiff,reduceLT,aa,d1,ix,la,pg,ps,f3,f3',f5,wc,dc,my,w1]
   ·have dc:decide (W.code=0)=false:=decide_eq_false hc
    have hs:W.see y=W:=by unfold WaD.see;rw[if_neg (fun h=>hc h.1)]
    obtain⟨h'',w7,w11,w13',r1,s2⟩:=go (h'.push [cz y]) (.bool false) (by rw[hs];exact s1.drop)
    refine⟨h'',w7,w11,w13',fun K=> ?_,s2⟩
    rw[←r1 K]
    simp only[cz]
    conv=>lhs;rw[aB gN.eq_1]
    simp only[sim,ag,reduceAdd,reduceSub,replicate,reduceCtorEq,reduceLeDiff,reduceLT,aa,d1,ix,la,pg,ps,f3,f3',wc,dc,w1]
end
section
variable {h h' h0:AH} {F J F0 J0:Nat→Prop} {A B:List Asn} {c:WaC} {W:WaD}
abbrev wdL (n0:Nat) (y:cG) (m:AV) (c:WaC) (W:WaD):List Asn:=[ai (n0+1+1) [[.int .i64 0,.int .i64 0]],ai (n0+1) [evR 0 0 zR3],ai n0 [aQ y m]]++dG c W
structure OY (h:AH) (c:WaC):Prop where
 w:aE false 1 h (.ptr c.wt 0 0)=some (.ptr c.hb 0 0)
 b:aE false 1 h (.ptr c.hb 0 0)=some (.ptr c.bb 0 0)
 d:aE false 1 h (.ptr c.bb 0 1)=some (.ptr c.wb 0 0)
 g:aE false 1 h (.ptr c.bb 0 0)=some (.ptr c.gb 0 0)
theorem Cu (s:St h0 F0 J0 h B) (i:Nat) (o:OkH W.H) (h1:B[i]? =some (waA c.wt c.hb W)) (h2:B[i+1]? =some (da c.hb c.bb W.H.hands)) (h3:B[i+1+1]? =some (dH c.bb c.gb c.wb W.H.ms W.H.S.kept)):OY h c:=by
 obtain⟨gv,lv,wv⟩:=gK s i h1
 obtain⟨vs,hv⟩:=eo s (i+1) h2
 have bg:=jP s h3 o.len
 exact⟨by rw[bD,wv.c];rfl,hv.box 1,bg.2 1,bg.1 1⟩
theorem OkW.step {k:Nat} (o:OkW k W) (x:cG):OkW (k+1) (W.step x).1:=by
 have hn:∀ W1:WaD,(W1.note x).gifts.length≤W1.gifts.length+1∧(W1.note x).links.length≤W1.links.length+1∧(W1.note x).n=W1.n∧(W1.note x).H=W1.H:=fun W1=>by
  unfold WaD.note
  split
  ·exact⟨by simp,by simp,rfl,rfl⟩
  ·split
   ·exact⟨by simp,by simp,rfl,rfl⟩
   ·exact⟨by omega,by omega,rfl,rfl⟩
 have h2:∀ W2:WaD,W2.gifts.length≤k+1→W2.links.length≤k+1→W2.n=(k:Int)→AP (k+1) W2.H→∀ l:List ca,OkW (k+1) {(l.foldl WaD.see W2)with n:=(l.foldl WaD.see W2).n+1}:=fun W2 a1 a2 a3 a4 l=>by
  obtain⟨b1,b2,b3,b4⟩:=mC l W2
  exact⟨by rw[b4];exact a4,by rw[b1];exact a1,by rw[b2];exact a2,by show(l.foldl WaD.see W2).n+1=_;rw[b3,a3];omega⟩
 unfold WaD.step
 simp only
 have o1:=o.h.step x
 have og:=o.g
 have ol:=o.l
 obtain⟨c1,c2,c3,c4⟩:=hn {W with H:=(W.H.step x).1}
 refine h2 _ ?_ ?_ ?_ ?_ _
 ·split
  ·exact Nat.le_trans c1 (Nat.succ_le_succ og)
  ·exact Nat.le_trans og (Nat.le_succ _)
 ·split
  ·exact Nat.le_trans c2 (Nat.succ_le_succ ol)
  ·exact Nat.le_trans ol (Nat.le_succ _)
 ·split
  ·rw[c3];exact o.n
  ·exact o.n
 ·split
  ·rw[c4];exact o1
  ·exact o1
set_option maxHeartbeats 4000000 in
theorem K7 {k:Nat} (x:(aY (dG c W)).A h F J) (o:OkW k W) (hk:k≤190) (y:cG) {m:AV} {es:List (List AV)} (q3:SlA tE m es) (q4:ExL y.m es) (hL:y.m.length≤100000) (hs:∀ x∈y.m,x.size≤100000):
  ∃ h',(∃ r,aj Try.prog po 36 [.ptr c.wt 0 0,.agg (aQ y m)] h=some (.inl (.tup [.agg r,.agg [.int .i64 (W.step y).2.2.1,.int .i64 (W.step y).2.2.2]]),h')∧EvR (W.step y).2.1 r)∧Did h F J h' (aY (dG c (W.step y).1)):=by
 have s0:St h F J h (dG c W):=St.start x
 have s1:=s0.push [aQ y m]
 have s2:=s1.push [evR 0 0 zR3]
 have s3:St h F J _ (wdL h.n y m c W):=s2.push [[.int .i64 0,.int .i64 0]]
 have hm:m.one=true:=(gC.of (h:=h) q3 q4).one
 have oh:=o.h.ok (by omega)
 have c3:=(s3.cell 2 rfl).1
 have p3:=Cu s3 3 oh rfl rfl rfl
 have t3:=(KQ (c:=c.toHoC) s3 4 oh rfl rfl rfl rfl).lo
 have fw:∀ b,aI 0 (.ptr b 0 0)=some (.ptr b 0 0):=fun _=>rfl
 have fb:aI 1 (.ptr c.bb 0 0)=some (.ptr c.bb 0 1):=rfl
 have f5:aI 5 (.ptr c.wt 0 0)=some (.ptr c.wt 0 5):=rfl
 have f3:aI 3 (.ptr c.wt 0 0)=some (.ptr c.wt 0 3):=rfl
 have nl3:=iK tEn (W.H.S.log.map cz)
 obtain⟨h4,r4,e4,v4,s4⟩:=Od (A:=[ai (h.n+1+1) [[.int .i64 0,.int .i64 0]],ai (h.n+1) [evR 0 0 zR3],ai h.n [aQ y m],waA c.wt c.hb W]) (B:=[]) (c:=c.toHoC) s3 oh y q3 q4 hL hs
 have s4:St h F J h4 (wdL h.n y m c {W with H:=(W.H.step y).1}):=s4
 have o4:=(o.h.step y).ok (by omega)
 have s5:=s4.push [evR 0 0 zR3]
 have s6:=s4.push [r4]
 have p5:=Cu s5 4 o4 rfl rfl rfl
 have c5:=(s5.cell 3 rfl).1
 have c6:=(s6.cell 3 rfl).1
 have c60:=(s6.cell 0 rfl).1
 obtain⟨z1,z2⟩:=v4.all
 have pg:∀ z,(h4.push z).cell h4.n=some z:=fun z=>aC
 have ps:∀ y z,(h4.push y).set h4.n (some z)=h4.push z:=fun y z=>bm
 have la:ldA true 9 (aQ y m) 0=some (.agg (aQ y m)):=bo rfl
 obtain⟨ext,hext⟩:=Ey W.H y
 -- what was given is noted
 obtain⟨h7,e7,s7⟩:∃ h7,((W.H.step y).2.code=0→aj Try.prog po 65 [.ptr c.wt 0 0,.agg (aQ y m)] (h4.push [r4])=some (.inl (.tup []),h7))∧((W.H.step y).2.code≠0→h7=h4.push [r4])∧St h F J h7 (ai h4.n [r4]::wdL h.n y m c (if(W.H.step y).2.code=0 then({W with H:=(W.H.step y).1}:WaD).note y else{W with H:=(W.H.step y).1})):=by
  by_cases hz:(W.H.step y).2.code=0
  ·have og:=o.g
   have ol:=o.l
   obtain⟨h7,e7,s7⟩:=JL s6 4 rfl (by show W.gifts.length≤1000;omega) (by show W.links.length≤1000;omega) y hm
   refine⟨h7,fun _=>e7,fun h=>absurd hz h,?_⟩
   rw[if_pos hz]
   have en:({W with H:=(W.H.step y).1}:WaD).note y={W with H:=(W.H.step y).1,gifts:=if y.kind=2 then W.gifts++[⟨y.p,y.k,y.r⟩]else W.gifts,links:=if y.kind=2 then W.links else if y.kind=3 then W.links++[(y.p,y.q)]else W.links}:=by
    unfold WaD.note
    by_cases k2:y.kind=2
    ·simp only[if_pos k2]
    ·simp only[if_neg k2]
     by_cases k3:y.kind=3
     ·simp only[if_pos k3]
     ·simp only[if_neg k3]
   rw[en]
   exact s7
  ·refine⟨h4.push [r4],fun h=>absurd h hz,fun _=>rfl,?_⟩
   rw[if_neg hz]
   exact s6
 obtain⟨e7n,s7⟩:=s7
 have eW:W.step y=({(((W.H.step y).1.S.log.drop W.H.S.log.length).foldl WaD.see (if(W.H.step y).2.code=0 then({W with H:=(W.H.step y).1}:WaD).note y else{W with H:=(W.H.step y).1}))with n:=(((W.H.step y).1.S.log.drop W.H.S.log.length).foldl WaD.see (if(W.H.step y).2.code=0 then({W with H:=(W.H.step y).1}:WaD).note y else{W with H:=(W.H.step y).1})).n+1},(W.H.step y).2,(((W.H.step y).1.S.log.drop W.H.S.log.length).foldl WaD.see (if(W.H.step y).2.code=0 then({W with H:=(W.H.step y).1}:WaD).note y else{W with H:=(W.H.step y).1})).code,(((W.H.step y).1.S.log.drop W.H.S.log.length).foldl WaD.see (if(W.H.step y).2.code=0 then({W with H:=(W.H.step y).1}:WaD).note y else{W with H:=(W.H.step y).1})).at_):=rfl
 have hW2:(if(W.H.step y).2.code=0 then({W with H:=(W.H.step y).1}:WaD).note y else{W with H:=(W.H.step y).1}).H=(W.H.step y).1∧(if(W.H.step y).2.code=0 then({W with H:=(W.H.step y).1}:WaD).note y else{W with H:=(W.H.step y).1}).gifts.length≤200∧(if(W.H.step y).2.code=0 then({W with H:=(W.H.step y).1}:WaD).note y else{W with H:=(W.H.step y).1}).links.length≤200:=by
  have og:=o.g
  have ol:=o.l
  split
  ·unfold WaD.note
   split
   ·exact⟨rfl,by simp;omega,by show W.links.length≤200;omega⟩
   ·split
    ·exact⟨rfl,by show W.gifts.length≤200;omega,by simp;omega⟩
    ·exact⟨rfl,by show W.gifts.length≤200;omega,by show W.links.length≤200;omega⟩
  ·exact⟨rfl,by show W.gifts.length≤200;omega,by show W.links.length≤200;omega⟩
 have hWn:(if(W.H.step y).2.code=0 then({W with H:=(W.H.step y).1}:WaD).note y else{W with H:=(W.H.step y).1}).n=W.n:=by
  split
  ·unfold WaD.note
   split
   ·rfl
   ·split<;>rfl
  ·rfl
 generalize (if(W.H.step y).2.code=0 then({W with H:=(W.H.step y).1}:WaD).note y else{W with H:=(W.H.step y).1})=W2 at s7 eW hW2 hWn
 obtain⟨hH,hg2,hl2⟩:=hW2
 have s7':St h F J h7 ([ai h4.n [r4],ai (h.n+1+1) [[.int .i64 0,.int .i64 0]],ai (h.n+1) [evR 0 0 zR3],ai h.n [aQ y m]]++dG c W2):=s7
 have o7:OkH W2.H:=by rw[hH];exact o4
 have p7:=Cu s7' 4 o7 rfl rfl rfl
 have t7:=(KQ (c:=c.toHoC) s7' 5 o7 rfl rfl rfl rfl).lo
 rw[hH]at t7
 have nl7:=iK tEn ((W.H.step y).1.S.log.map cz)
 obtain⟨v9,u1,u2⟩:=PW (e:=tEn) (rows:=(W.H.step y).1.S.log.map cz) (k:=W.H.S.log.length) (by rw[←hext];simp)
 rw[←List.map_drop]at u2
 have hdl:((W.H.step y).1.S.log.drop W.H.S.log.length).length≤1000000:=by have:=o4.log;rw[List.length_drop];omega
 obtain⟨h8,w7,w11,w13,r8,s8⟩:=GB (L:=[ai h4.n [r4],ai (h.n+1+1) [[.int .i64 0,.int .i64 0]],ai (h.n+1) [evR 0 0 zR3],ai h.n [aQ y m]]++dG c W2) (i:=4) (b:=c.wt) (hb:=c.hb) (show 4<9 by decide) u2 hdl ((W.H.step y).1.S.log.drop W.H.S.log.length) [] h7 W2 (.agg (aQ y m)) (.ptr h.n 0 0) (.ptr (h.n+1) 0 0) (.ptr (h.n+1+1) 0 0) (.int .i64 (W.H.S.log.length:Int)) (.ptr h4.n 0 0) .junk (.bool (decide ((W.H.step y).2.code=0))) .junk .junk rfl hg2 hl2 s7'
 have s8:St h F J h8 ([ai h4.n [r4],ai (h.n+1+1) [[.int .i64 0,.int .i64 0]],ai (h.n+1) [evR 0 0 zR3],ai h.n [aQ y m],waA c.wt c.hb (((W.H.step y).1.S.log.drop W.H.S.log.length).foldl WaD.see W2)]++dj c.toHoC W2.H):=s8
 obtain⟨b1,b2,b3,b4⟩:=mC ((W.H.step y).1.S.log.drop W.H.S.log.length) W2
 rw[eW]
 generalize ((W.H.step y).1.S.log.drop W.H.S.log.length).foldl WaD.see W2=W8 at s8 b1 b2 b3 b4 ⊢
 obtain⟨gv,lv,wv⟩:=gK s8 4 rfl
 have hn8:W8.n=(k:Int):=by rw[b3,hWn,o.n]
 have w1:=w64 (n:=W8.n+1) (by omega) (by omega)
 have s9:=sA s8 4 rfl W8.code W8.at_ (W8.n+1) (row:=[]) wv
 have s9:St h F J _ ([ai h4.n [r4],ai (h.n+1+1) [[.int .i64 0,.int .i64 0]],ai (h.n+1) [evR 0 0 zR3],ai h.n [aQ y m],dD c.wt c.hb W8.gifts W8.links W8.code W8.at_ (W8.n+1)]++dj c.toHoC W2.H):=s9
 have c90:=(s9.cell 0 rfl).1
 have c92:=(s9.cell 2 rfl).1
 have s10:=s9.set 2 rfl [r4]
 have c10:=(s10.cell 1 rfl).1
 obtain⟨gv2,lv2,wv10⟩:=gK s10 4 rfl
 have c10w:=wv10.c
 have s11:=s10.set 1 rfl [[.int .i64 W8.code,.int .i64 W8.at_]]
 have c112:=(s11.cell 2 rfl).1
 have lf:∀ gv lv n,ldA true 2 [.ptr c.hb 0 0,gv,lv,.int .i64 W8.code,.int .i64 W8.at_,.int .i64 n] 3=some (.agg [.int .i64 W8.code,.int .i64 W8.at_]):=fun _ _ _=>rfl
 have lr:ldA true 5 r4 0=some (.agg r4):=bo z1
 obtain⟨q4',rq,vq⟩:=v4
 have s12:=s11.drop.drop.drop.drop
 rw[←b4]at s12
 refine⟨_,⟨r4,?_,⟨q4',rq,vq⟩⟩,s12⟩
 have lc:r4[0]? =some (.int .i64 (W.H.step y).2.code):=by rw[rq];rfl
 have wvc:=wv.c
 simp only[List.length_nil,Int.natCast_zero]at r8
 obtain⟨p3w,p3b,p3d,_⟩:=p3
 obtain⟨p5w,p5b,p5d,_⟩:=p5
 obtain⟨p7w,p7b,p7d,_⟩:=p7
 simp only[aQ]at c3 p3w p3b p3d t3 e4 c5 c6 la e7 r8
 cases dz:decide ((W.H.step y).2.code=0)with
 | true=>
   have e7:=e7 (of_decide_eq_true dz)
   rw[dz]at r8
   refine ah Ip rfl ?_;unfold Bt
   simp only[sim,ag,reduceAdd,reduceSub,replicate,reduceCtorEq,reduceLeDiff,reduceLT,aa,az,aQ,hm,fw,fb,p3w,p3b,p3d,t3,nl3.len,nl3.fits,List.length_map,c3,la,e4,pg,ps,p5w,c5,z1,z2,c60,c6,lc,dz,e7,p7w,p7b,p7d,t7,nl7.fits,u1,u2.len,u2.fits]
   rw[r8]
   simp only[sim,ag,reduceAdd,reduceSub,replicate,reduceCtorEq,reduceLeDiff,reduceLT,aa,f3,f5,wvc,w1,aO,c90,c92,lr,lf,z1,z2,c10,c10w,c112]
 | false=>
   have e7:=e7n (of_decide_eq_false dz)
   rw[dz]at r8
   subst e7
   refine ah Ip rfl ?_;unfold Bt
   simp only[sim,ag,reduceAdd,reduceSub,replicate,reduceCtorEq,reduceLeDiff,reduceLT,aa,az,aQ,hm,fw,fb,p3w,p3b,p3d,t3,nl3.len,nl3.fits,List.length_map,c3,la,e4,pg,ps,p5w,c5,z1,z2,c60,c6,lc,dz,p7w,p7b,p7d,t7,nl7.fits,u1,u2.len,u2.fits]
   rw[r8]
   simp only[sim,ag,reduceAdd,reduceSub,replicate,reduceCtorEq,reduceLeDiff,reduceLT,aa,f3,f5,wvc,w1,aO,c90,c92,lr,lf,z1,z2,c10,c10w,c112]
end
theorem Cf:OkW 0 wa0:=⟨NJ,by simp[wa0],by simp[wa0],rfl⟩
theorem Ka (W:WaD) (x:cG):(W.step x).1.H=(W.H.step x).1∧(W.step x).2.1=(W.H.step x).2:=by
 unfold WaD.step
 refine⟨?_,rfl⟩
 simp only
 rw[(mC _ _).2.2.2]
 split
 ·unfold WaD.note
  split
  ·rfl
  ·split<;>rfl
 ·rfl
def wb1:cG:=⟨2,1,0,3,0,1, -1,0,[]⟩
def WB1:WaD:=(wa0.step wb1).1
theorem PB:WB1.gifts=[⟨1,3,1⟩]∧WB1.links=[]:=by constructor<;>rfl
theorem PF:BS [⟨1,3,1⟩] [] 1 3 1=true:=by decide
theorem PC:BS [⟨1,3,1⟩] [] 1 3 2=false:=by decide
theorem Ps:BS [⟨1,3,1⟩] [] 0 3 1=false:=by decide
theorem P4:WB1.H.handO 1=[fA 0]:=by rfl
section
variable {h h' h0:AH} {F J F0 J0:Nat→Prop} {L A B:List Asn} {c:WaC} {W:WaD}
theorem sr {e:TypeId}:(di e .nils []).A h (fun _=>False) (fun _=>False):= .inl ⟨⟨rfl,rfl⟩,fun _ h=>h,fun _ h=>h⟩
theorem Ga {b hb:Nat} (he:b=h.n):(dD b hb [] [] 0 0 0).A (h.push [[.ptr hb 0 0,.nils,.nils,.int .i64 0,.int .i64 0,.int .i64 0]]) (fun k=>k=b) (fun _=>False):=by
 subst he
 refine⟨(.nils,.nils),fun k=>k=h.n,fun _=>False,fun _=>False,fun _=>False,⟨fun _=>Iff.rfl,fun _ h=>h,Nat.lt_succ_self _,aC⟩,⟨fun _=>False,fun _=>False,fun _=>False,fun _=>False,sr,sr,fun k=>by simp,fun j=>by simp,fun _ h=>h.elim,fun _ h=>h.elim⟩,fun k=>by simp,fun j=>by simp,fun _ _ h=>h,fun _ h=>h.elim⟩
theorem zq (s:St h0 F0 J0 h L):∃ h' c,aj Try.prog po 35 [] h=some (.inl (.ptr (c:WaC).wt 0 0),h')∧St h0 F0 J0 h' (dG c wa0++L):=by
 obtain⟨h1,c,e1,s1⟩:=KM s
 have s2:=s1.add (X:=dD h1.n c.hb [] [] 0 0 0) (h':=h1.push [[.ptr c.hb 0 0,.nils,.nils,.int .i64 0,.int .i64 0,.int .i64 0]]) (F1:=fun k=>k=h1.n) (J1:=fun _=>False) (af.push _ _) (Ga rfl) (fun k hk=>Nat.le_of_eq hk.symm) (fun _ h=>h.elim)
 refine⟨_,⟨c,h1.n⟩,?_,s2⟩
 refine ah GD rfl ?_;unfold AI
 simp only[sim,ag,reduceAdd,reduceSub,replicate,reduceCtorEq,reduceLeDiff,reduceLT,aa,e1]
theorem Jg {k:Nat} (s:St h0 F0 J0 h (A++dG c W++B)) (o:OkW k W) (hk:k≤190) (y:cG) {m:AV} {es:List (List AV)} (q3:SlA tE m es) (q4:ExL y.m es) (hL:y.m.length≤100000) (hs:∀ x∈y.m,x.size≤100000):
  ∃ h' r,aj Try.prog po 36 [.ptr c.wt 0 0,.agg (aQ y m)] h=some (.inl (.tup [.agg r,.agg [.int .i64 (W.step y).2.2.1,.int .i64 (W.step y).2.2.2]]),h')∧EvR (W.step y).2.1 r∧St h0 F0 J0 h' (A++dG c (W.step y).1++B):=by
 obtain⟨h',⟨r,e,v⟩,s'⟩:=s.callL (M':=dG c (W.step y).1) fun F J x=>K7 x o hk y q3 q4 hL hs
 exact⟨h',r,e,v,s'⟩
theorem qE {j:Nat} {y:List (List AV)} {z:Option (List (List AV))} (hj:j<h.n):(h.push y).set j z=(h.set j z).push y:=by
 unfold AH.push AH.set
 congr 1
 funext k
 by_cases h1:k=j
 ·subst h1
  have h2:k≠h.n:=by omega
  simp[h2]
 ·simp[h1]
theorem lU:aj Try.prog po 34 [] h=some (.inl (.bool true),h):=by
 have s0:St h (fun _=>False) (fun _=>False) h []:=St.start (aY.nil _ _ _ (fun _ h=>h) (fun _ h=>h))
 obtain⟨h1,c,e1,s1⟩:=zq s0
 obtain⟨h3,r3,e3,v3,s3⟩:=Jg (A:=[]) (B:=[]) (c:=c) s1 Cf (by decide) wb1 (m:= .nils) (.inl ⟨rfl,rfl⟩) rfl (by decide) (fun x hx=>by cases hx)
 obtain⟨q3,rfl,w3⟩:=v3
 have w3':VaA (fA 0) q3:=w3
 obtain⟨u3,rfl,u3o⟩:=w3'.cells3
 have e3:aj Try.prog po 36 [.ptr c.wt 0 0,.agg [.int .i64 2,.int .i64 1,.int .i64 0,.int .i64 3,.int .i64 0,.int .i64 1,.int .i64 (-1),.int .i64 0,.nils]] h1=some (.inl (.tup [.agg [.int .i64 0,.int .i64 0,.int .i64 4,.int .i64 0,u3],.agg [.int .i64 0,.int .i64 0]]),h3):=e3
 have s4:St h (fun _=>False) (fun _=>False) h3 (dG c WB1):=s3
 have s5:=(s4.push [[.int .i64 0,.int .i64 0,.int .i64 4,.int .i64 0,u3]]).push [[.int .i64 0,.int .i64 0]]
 have o1:OkW 1 WB1:=Cf.step wb1
 have m1:=qR s5 2 rfl (by decide) (by decide) 1 3 1
 have m2:=qR s5 2 rfl (by decide) (by decide) 1 3 2
 have m3:=qR s5 2 rfl (by decide) (by decide) 0 3 1
 rw[PB.1,PB.2]at m1 m2 m3
 rw[PF]at m1
 rw[PC]at m2
 rw[Ps]at m3
 have c0:=(s5.cell 0 rfl).1
 have c1:=(s5.cell 1 rfl).1
 obtain⟨hv,hes,e9,sl,vl⟩:=IP s5 3 rfl o1.h.good.hands (fun l hl=>by have:=o1.h.hands l hl;omega) 1
 rw[P4]at vl
 have hlen:hes.length=1:=vl.len
 have ll:=sl.isL.len
 have lf:=sl.isL.fits
 rw[hlen]at ll
 have pw:=Cu s5 2 (o1.h.ok (by decide)) rfl rfl rfl
 have pww:=pw.w
 have fw:∀ b,aI 0 (.ptr b 0 0)=some (.ptr b 0 0):=fun _=>rfl
 have p0:∀ x y,(h3.push x).push y=(h3.push x).push y:=fun _ _=>rfl
 have q1:∀ x y z,(((h3.push x).push y).set h3.n (some z))=(h3.push z).push y:=fun x y z=>by rw[qE (Nat.lt_succ_self _),bm]
 have q2:∀ x y z,(((h3.push x).push y).set (h3.n+1) (some z))=(h3.push x).push z:=fun x y z=>bm (h:=h3.push x)
 have q3':∀ x y,((h3.push x).push y).cell h3.n=some x:=fun x y=>eS
 have q4:∀ x y,((h3.push x).push y).cell (h3.n+1)=some y:=fun x y=>bO
 have g5:=s5.grewA
 clear s1 s3 s4 s5
 refine ah uq rfl ?_;unfold mO
 simp only[sim,ag,reduceAdd,reduceSub,replicate,reduceCtorEq,reduceLeDiff,reduceLT,aa,az,e1,e3,q1,q2,q3',q4,u3o,c0,c1,m1,m2,m3,fw,pww,e9,ll,lf,Int.natCast_one,eq_self,decide_true]
 exact aA g5 rfl
end
theorem Qg:(Try.prog).underlying 50=some (.slice 56):=by kernel_rfl
theorem LY:nG Try.prog 56=some [3,3,3,3,3,3,3,2,48]:=by kernel_rfl
theorem NR:(Try.prog).underlying 2=some (.int .i64):=by kernel_rfl
theorem Pm {α:Type} {l:List α} (h:l.length=9):∃ a b c d e f g i j,l=[a,b,c,d,e,f,g,i,j]:=by
 match l,h with
 | [a,b,c,d,e,f,g,i,j],_=>exact⟨a,b,c,d,e,f,g,i,j,rfl⟩
theorem NT {n:Nat} {r:List AV} (h:TyA Try.prog n 56 r):∃ (x:cG) (m:AV) (ms:List (List AV)),r=aQ x m∧SlA tE m ms∧ExL x.m ms:=by
 obtain⟨m2,rfl,parts,rfl,hl,hf⟩:=qa LY h
 obtain⟨p0,a0,_,b0⟩:=hf 0 _ rfl
 obtain⟨p1,a1,_,b1⟩:=hf 1 _ rfl
 obtain⟨p2,a2,_,b2⟩:=hf 2 _ rfl
 obtain⟨p3,a3,_,b3⟩:=hf 3 _ rfl
 obtain⟨p4,a4,_,b4⟩:=hf 4 _ rfl
 obtain⟨p5,a5,_,b5⟩:=hf 5 _ rfl
 obtain⟨p6,a6,_,b6⟩:=hf 6 _ rfl
 obtain⟨p7,a7,_,b7⟩:=hf 7 _ rfl
 obtain⟨p8,a8,_,b8⟩:=hf 8 _ rfl
 obtain⟨z0,rfl,_⟩:=iY td b0
 obtain⟨z1,rfl,_⟩:=iY td b1
 obtain⟨z2,rfl,_⟩:=iY td b2
 obtain⟨z3,rfl,_⟩:=iY td b3
 obtain⟨z4,rfl,_⟩:=iY td b4
 obtain⟨z5,rfl,_⟩:=iY td b5
 obtain⟨z6,rfl,_⟩:=iY td b6
 obtain⟨z7,rfl,_⟩:=iY NR b7
 obtain⟨M,v,es,rfl,hv,hM⟩:=Ot b8
 obtain⟨c0,c1,c2,c3,c4,c5,c6,c7,c8,rfl⟩:=Pm hl
 obtain rfl:=Option.some.inj a0
 obtain rfl:=Option.some.inj a1
 obtain rfl:=Option.some.inj a2
 obtain rfl:=Option.some.inj a3
 obtain rfl:=Option.some.inj a4
 obtain rfl:=Option.some.inj a5
 obtain rfl:=Option.some.inj a6
 obtain rfl:=Option.some.inj a7
 obtain rfl:=Option.some.inj a8
 exact⟨⟨z0,z1,z2,z3,z4,z5,z6,z7,M⟩,v,es,by simp only[List.flatten_cons,List.flatten_nil,List.append_nil,List.cons_append,List.nil_append];rfl,hv,hM⟩
theorem zk:∀ {es:List (List AV)},(∀ r∈es,∃ (x:cG) (m:AV) (ms:List (List AV)),r=aQ x m∧SlA tE m ms∧ExL x.m ms)→∃ xs,gk xs es
 | [],_=>⟨[],rfl⟩
 | r::es,h=>by
   obtain⟨x,m,ms,rfl,h1,h2⟩:=h r (by simp)
   obtain⟨xs,hx⟩:=zk fun q hq=>h q (List.mem_cons_of_mem _ hq)
   exact⟨x::xs,m,ms,es,rfl,h1,h2,hx⟩
theorem Lz {n:Nat} {av:AV} (h:TyA Try.prog n 50 [av]):∃ (es:List (List AV)) (xs:List cG),SlA tSt av es∧gk xs es∧xs.length≤9223372036854775807:=by
 obtain⟨m,v,es,rfl,e,hv,hlen,hr⟩:=BE Qg h
 obtain rfl:av=v:=by simpa using e
 obtain⟨xs,hx⟩:=zk (es:=es) fun r hr'=>NT (hr r hr').2
 refine⟨es,xs,hv.sla,hx,?_⟩
 rw[←hx.len]
 unfold maxLen at hlen
 omega
def L9:List TypeId:=[3,2,46,44,48,56,50]
theorem Gh:xQ Try.prog L9=true:=by kernel_rfl
abbrev tEv:TypeId:=58
def Iu (es:List EvD) (rows:List (List AV)):Prop:=rows.length=es.length∧∀ (i:Nat) (e:EvD),es[i]? =some e→∃ r,rows[i]? =some r∧EvR e r
theorem Iu.snoc {es:List EvD} {rows:List (List AV)} (h:Iu es rows) {e:EvD} {r:List AV} (hr:EvR e r):Iu (es++[e]) (rows++[r]):=by
 refine⟨by simp[h.1],fun i x hi=> ?_⟩
 by_cases hlt:i<es.length
 ·rw[List.getElem?_append_left hlt]at hi
  obtain⟨q,h1,h2⟩:=h.2 i x hi
  exact⟨q,by rw[List.getElem?_append_left (by rw[h.1];exact hlt)];exact h1,h2⟩
 ·rw[List.getElem?_append_right (by omega)]at hi
  have h0:i - es.length=0:=by
   have:=(List.getElem?_eq_some_iff.1 hi).1
   simpa using this
  rw[h0]at hi
  obtain rfl:e=x:=by simpa using hi
  exact⟨r,by rw[List.getElem?_append_right (by rw[h.1];omega),h.1,h0];rfl,hr⟩
theorem gk.take:∀ {xs:List cG} {es:List (List AV)} (k:Nat),gk xs es→gk (xs.take k) (es.take k)
 | [],es,k,h=>by simp only[gk]at h;subst h;simp[gk]
 | x::xs,es,0,h=>by simp[gk]
 | x::xs,es,k+1,h=>by
   obtain⟨m,ms,rs,rfl,h1,h2,h3⟩:=h
   exact⟨m,ms,rs.take k,rfl,h1,h2,h3.take k⟩
abbrev bsA (S:List Bool):List AV:=S.map AV.bool
theorem Co {S:List Bool} (hS:S.length=4) {p:Int} (hp:inP p=true):(bsA S)[p.toNat]? =some (.bool (inB S p)):=by
 have:=dB.1 hp
 have hlt:p.toNat<S.length:=by omega
 simp[inB,List.getD,hlt]
theorem IY {S:List Bool} (hS:S.length=4) {p:Int} (hp:inP p=true) (h:AH) (b:Nat):s2A 1 h b 0 p.toNat [.bool true] [bsA S] (some (bsA S))=some (h.set b (some [bsA (eL S p)])):=by
 have hh:=dB.1 hp
 unfold eL
 match S,hS with
 | [a,b',c,d],_=>
   have:p.toNat=0∨p.toNat=1∨p.toNat=2∨p.toNat=3:=by omega
   rcases this with e | e | e | e<;>rw[e]<;>rfl
theorem CE {p:Int} (hp:inP p=true) (b:Nat) (q:IntKind):bT none (some (4,1)) (.ptr b 0 0) (.int q p)=some (.ptr b 0 p.toNat):=by
 have:=dB.1 hp
 simp[bT,this.1,this.2]
def pA (S:List Bool) (z:cG×EvD):List Bool:=if z.1.kind=3∧z.2.code=0 then ki S (z.1.p,z.1.q)else S
theorem pu:∀ (d:dK) (S:List Bool),d.foldl pA S=gA (ba d) S
 | [],S=>rfl
 | z::d,S=>by
   rw[List.foldl_cons,pu d]
   unfold pA
   by_cases h:z.1.kind=3∧z.2.code=0
   ·rw[if_pos h]
    have:ba (z::d)=(z.1.p,z.1.q)::ba d:=by simp[ba,h.1,h.2]
    rw[this];rfl
   ·rw[if_neg h]
    have:ba (z::d)=ba d:=by
     unfold ba
     rw[List.filter_cons_of_neg]
     simpa using h
    rw[this]
theorem mQ (d:dK) (S:List Bool):(d.foldl pA S).length=S.length:=by rw[pu,eJ]
structure DnA (d:dK) (v0 v1:AV) (rows erows:List (List AV)):Prop where
 s:IsL tSt v0 rows
 st:gk (d.map (·.1)) rows
 e:IsL tEv v1 erows
 ev:Iu (d.map (·.2)) erows
 few:d.length≤1000
 ok:pW d
section
variable {h h' h0:AH} {d:dK} {v0 v1:AV} {rows erows:List (List AV)}
theorem DnA.sl (a:DnA d v0 v1 rows erows):rows.length=d.length:=by rw[a.st.len,List.length_map]
theorem DnA.el (a:DnA d v0 v1 rows erows):erows.length=d.length:=by rw[a.ev.1,List.length_map]
theorem DnA.get (a:DnA d v0 v1 rows erows) {i:Nat} {z:cG×EvD} (hi:d[i]? =some z):∃ m q,m.one=true∧(∀ k:IntKind,bT (some tSt) none v0 (.int k (i:Int))=some (.ip (aQ z.1 m) 0))∧∀ k:IntKind,bT (some tEv) none v1 (.int k (i:Int))=some (.ip (evR z.2.code z.2.fuel q) 0):=by
 obtain⟨m,ms,q1,q3,q4⟩:=a.st.get (i:=i) (x:=z.1) (by simp[hi])
 obtain⟨r,e1,q,rfl,_⟩:=a.ev.2 i z.2 (by simp[hi])
 exact⟨m,q,(gC.of (h:=h0A) q3 q4).one,fun k=>a.s.ix k i _ q1,fun k=>a.e.ix k i _ e1⟩
set_option maxHeartbeats 2000000 in
theorem N8 (a:DnA d v0 v1 rows erows) {b:Nat} (hb0:h.n≤b) (v2 v3 v5 v8 v9:AV):∀ (l pre:dK) (h':AH) (S:List Bool) (v7 v10 v11:AV),d=pre++l→S.length=4→h'.cell b=some [bsA S]→b<h'.n→af h h'→
  ∃ h'' w6 w7 w10 w11,(∀ K,aq (aj Try.prog po) 12 (.lp dC:: .ss []:: .blk 2::K) [v0,v1,v2,v3,.ptr b 0 0,v5,.int .i64 (pre.length:Int),v7,v8,v9,v10,v11] [] h'=aq (aj Try.prog po) 12 K [v0,v1,v2,v3,.ptr b 0 0,v5,w6,w7,v8,v9,w10,w11] [] h'')∧h''.cell b=some [bsA (l.foldl pA S)]∧b<h''.n∧af h h''∧∀ k,k<b→h''.cell k=h'.cell k:=by
 intro l
 induction l with
 | nil=>
   intro pre h' S v7 v10 v11 e hS hc hlt g
   have d1:decide ((pre.length:Int)<(d.length:Int))=false:=decide_eq_false (by rw[e];simp)
   refine⟨h',.int .i64 (pre.length:Int),v7,.bool false,v11,fun K=> ?_,hc,hlt,g,fun _ _=>rfl⟩
   rw[aB dC.eq_1]
   simp only[sim,ag,reduceAdd,reduceSub,replicate,reduceCtorEq,reduceLeDiff,reduceLT,aa,a.s.len,a.s.fits,a.sl,d1]
 | cons z l ih=>
   intro pre h' S v7 v10 v11 e hS hc hlt g
   have hpl:pre.length<d.length:=by rw[e];simp
   have hi:d[pre.length]? =some z:=by rw[e];simp
   have d1:decide ((pre.length:Int)<(d.length:Int))=true:=decide_eq_true (by omega)
   obtain⟨m,q,hm,ix,iy⟩:=a.get hi
   have hz:=a.ok z (List.mem_of_getElem? hi)
   have w1:=w64 (n:=(pre.length:Int)+1) (by have:=a.few;omega) (by have:=a.few;omega)
   have ek:((pre++[z]).length:Int)=(pre.length:Int)+1:=by simp
   have la:ldA true 9 (aQ z.1 m) 0=some (.agg (aQ z.1 m)):=bo rfl
   have pg:∀ z,(h'.push z).cell h'.n=some z:=fun z=>aC
   have ps:∀ y z,(h'.push y).set h'.n (some z)=h'.push z:=fun y z=>bm
   have pb:∀ z,(h'.push z).cell b=some [bsA S]:=fun z=>by rw[aL hlt];exact hc
   have pz:∀ y z,((h'.push y).set b z).cell h'.n=some y:=fun y z=>by rw[bc (by omega)];exact aC
   have pl:∀ y k,k<b→(h'.push y).cell k=h'.cell k:=fun y k hk=>aL (by omega)
   by_cases hk:z.1.kind=3∧z.2.code=0
   ·obtain⟨k1,k2⟩:=hk
    obtain⟨hp,hq⟩:=(hz k2).2 k1
    have gp:=Co hS hp
    have gq:=Co hS hq
    have iP:=CE hp b
    have iQ:=CE hq b
    have sp:=IY hS hp
    have hS2:(eL S z.1.p).length=4:=by rw[jc];exact hS
    have sq:=IY hS2 hq
    have dk3:decide (z.1.kind=3)=true:=decide_eq_true k1
    have dk0:decide (z.2.code=0)=true:=decide_eq_true k2
    have ef:pA S z=ki S (z.1.p,z.1.q):=by unfold pA;rw[if_pos ⟨k1,k2⟩]
    by_cases hin:(inB S z.1.p || inB S z.1.q)=true
    ·have ef2:pA S z=eL (eL S z.1.p) z.1.q:=by rw[ef];unfold ki;rw[if_pos hin]
     obtain⟨h'',w6,w7,w10,w11,r1,c1,l1,g1,o1⟩:=ih (pre++[z]) ((h'.push [aQ z.1 m]).set b (some [bsA (eL (eL S z.1.p) z.1.q)])) (eL (eL S z.1.p) z.1.q) (.ptr h'.n 0 0) (.bool true) (.bool true) (by simp[e]) (by rw[jc,jc];exact hS) aO (by show b<h'.n+1;omega) ((g.trans (af.push _ _)).set hb0)
     refine⟨h'',w6,w7,w10,w11,fun K=> ?_,by rw[List.foldl_cons,ef2];exact c1,l1,g1,fun k hk=>by rw[o1 k hk,bc (by omega),pl _ _ hk]⟩
     rw[←r1 K,ek]
     simp only[aQ]at ix la
     cases hpb:inB S z.1.p with
     | true=>
       rw[hpb]at gp
       conv=>lhs;rw[aB dC.eq_1]
       simp only[sim,ag,reduceAdd,reduceSub,replicate,reduceCtorEq,reduceLeDiff,reduceLT,aa,a.s.len,a.s.fits,a.sl,a.e.len,a.e.fits,a.el,d1,ix,iy,la,hm,pg,ps,pb,pz,gp,gq,iP,iQ,sp,sq,dk3,dk0,w1]
       rfl
     | false=>
       have hqb:inB S z.1.q=true:=by rw[hpb]at hin;exact hin
       rw[hpb]at gp
       rw[hqb]at gq
       conv=>lhs;rw[aB dC.eq_1]
       simp only[sim,ag,reduceAdd,reduceSub,replicate,reduceCtorEq,reduceLeDiff,reduceLT,aa,a.s.len,a.s.fits,a.sl,a.e.len,a.e.fits,a.el,d1,ix,iy,la,hm,pg,ps,pb,pz,gp,gq,iP,iQ,sp,sq,dk3,dk0,w1]
       rfl
    ·have ef2:pA S z=S:=by rw[ef];unfold ki;rw[if_neg hin]
     obtain⟨h'',w6,w7,w10,w11,r1,c1,l1,g1,o1⟩:=ih (pre++[z]) (h'.push [aQ z.1 m]) S (.ptr h'.n 0 0) (.bool true) (.bool false) (by simp[e]) hS (pb _) (by show b<h'.n+1;omega) (g.trans (af.push _ _))
     refine⟨h'',w6,w7,w10,w11,fun K=> ?_,by rw[List.foldl_cons,ef2];exact c1,l1,g1,fun k hk=>by rw[o1 k hk,pl _ _ hk]⟩
     rw[←r1 K,ek]
     rw[Bool.or_eq_true,not_or,Bool.not_eq_true,Bool.not_eq_true]at hin
     rw[hin.1]at gp
     rw[hin.2]at gq
     simp only[aQ]at ix la
     conv=>lhs;rw[aB dC.eq_1]
     simp only[sim,ag,reduceAdd,reduceSub,replicate,reduceCtorEq,reduceLeDiff,reduceLT,aa,a.s.len,a.s.fits,a.sl,a.e.len,a.e.fits,a.el,d1,ix,iy,la,hm,pg,ps,pb,gp,gq,iP,iQ,dk3,dk0,w1]
     rfl
   ·have ef:pA S z=S:=by unfold pA;rw[if_neg hk]
    obtain⟨h'',w6,w7,w10,w11,r1,c1,l1,g1,o1⟩:=ih (pre++[z]) (h'.push [aQ z.1 m]) S (.ptr h'.n 0 0) (.bool true) (.bool false) (by simp[e]) hS (pb _) (by show b<h'.n+1;omega) (g.trans (af.push _ _))
    refine⟨h'',w6,w7,w10,w11,fun K=> ?_,by rw[List.foldl_cons,ef];exact c1,l1,g1,fun k hk=>by rw[o1 k hk,pl _ _ hk]⟩
    rw[←r1 K,ek]
    simp only[aQ]at ix la
    cases dk3:decide (z.1.kind=3)with
    | false=>
      conv=>lhs;rw[aB dC.eq_1]
      simp only[sim,ag,reduceAdd,reduceSub,replicate,reduceCtorEq,reduceLeDiff,reduceLT,aa,a.s.len,a.s.fits,a.sl,a.e.len,a.e.fits,a.el,d1,ix,iy,la,hm,pg,ps,dk3,w1]
      rfl
    | true=>
      have dk0:decide (z.2.code=0)=false:=decide_eq_false fun h0=>hk ⟨of_decide_eq_true dk3,h0⟩
      conv=>lhs;rw[aB dC.eq_1]
      simp only[sim,ag,reduceAdd,reduceSub,replicate,reduceCtorEq,reduceLeDiff,reduceLT,aa,a.s.len,a.s.fits,a.sl,a.e.len,a.e.fits,a.el,d1,ix,iy,la,hm,pg,ps,dk3,dk0,w1]
      rfl
def wk (d:dK):Nat→List Bool→List Bool
 | 0,S=>S
 | k+1,S=>wk d k (d.foldl pA S)
theorem pH (d:dK):∀ (k:Nat) (S:List Bool),(wk d k S).length=S.length
 | 0,S=>rfl
 | k+1,S=>by show(wk d k (d.foldl pA S)).length=_;rw[pH d k,mQ]
theorem N6 (a:DnA d v0 v1 rows erows) {b:Nat} (hb0:h.n≤b) (v2 v3 v8:AV):∀ (k r:Nat) (h':AH) (S:List Bool) (v6 v7 v9 v10 v11:AV),r+k=4→S.length=4→h'.cell b=some [bsA S]→b<h'.n→af h h'→
  ∃ h'' w5 w6 w7 w9 w10 w11,(∀ K,aq (aj Try.prog po) 12 (.lp gh:: .ss []:: .blk 0::K) [v0,v1,v2,v3,.ptr b 0 0,.int .i64 (r:Int),v6,v7,v8,v9,v10,v11] [] h'=aq (aj Try.prog po) 12 K [v0,v1,v2,v3,.ptr b 0 0,w5,w6,w7,v8,w9,w10,w11] [] h'')∧h''.cell b=some [bsA (wk d k S)]∧b<h''.n∧af h h''∧∀ k,k<b→h''.cell k=h'.cell k:=by
 intro k
 induction k with
 | zero=>
   intro r h' S v6 v7 v9 v10 v11 hr hS hc hlt g
   have d1:decide ((r:Int)<4)=false:=decide_eq_false (by omega)
   refine⟨h',.int .i64 (r:Int),v6,v7,.bool false,v10,v11,fun K=> ?_,hc,hlt,g,fun _ _=>rfl⟩
   rw[aB gh.eq_1]
   simp only[sim,ag,reduceAdd,reduceSub,replicate,reduceCtorEq,reduceLeDiff,reduceLT,aa,d1]
 | succ k ih=>
   intro r h' S v6 v7 v9 v10 v11 hr hS hc hlt g
   have d1:decide ((r:Int)<4)=true:=decide_eq_true (by omega)
   have w1:=w64 (n:=(r:Int)+1) (by omega) (by omega)
   obtain⟨h1,u6,u7,u10,u11,r1,c1,l1,g1,o1⟩:=N8 a hb0 v2 v3 (.int .i64 (r:Int)) v8 (.bool true) d [] h' S v7 v10 v11 rfl hS hc hlt g
   obtain⟨h2,u5,y6,y7,y9,y10,y11,r2,c2,l2,g2,o2⟩:=ih (r+1) h1 (d.foldl pA S) u6 u7 (.bool true) u10 u11 (by omega) (by rw[mQ];exact hS) c1 l1 g1
   refine⟨h2,u5,y6,y7,y9,y10,y11,fun K=> ?_,c2,l2,g2,fun k hk=>by rw[o2 k hk,o1 k hk]⟩
   have e1:((r+1:Nat):Int)=(r:Int)+1:=by omega
   rw[←r2 K,e1]
   simp only[List.length_nil,Int.natCast_zero]at r1
   conv=>lhs;rw[aB gh.eq_1]
   simp only[sim,ag,reduceAdd,reduceSub,replicate,reduceCtorEq,reduceLeDiff,reduceLT,aa,d1]
   rw[r1]
   simp only[sim,ag,reduceAdd,reduceSub,replicate,reduceCtorEq,reduceLeDiff,reduceLT,aa,w1]
theorem lD (d:dK) (p:Int):wk d 4 (lx p)=cE (ba d) p:=by
 unfold cE
 simp only[wk,pu]
theorem AT (a:DnA d v0 v1 rows erows) (p:Int):aj Try.prog po 66 [v0,v1,.int .i64 p] h=some (.inl (.agg (bsA (cE (ba d) p))),h):=by
 have hq:af h ((h.push [bsA [false,false,false,false]]).push [bsA [false,false,false,false]]):=(af.push _ _).trans (af.push _ _)
 have fin:∀ (h':AH) (S:List Bool) (v8:AV),S=lx p→h'.cell (h.n+1)=some [bsA S]→h.n+1<h'.n→h'.cell h.n=some [bsA [false,false,false,false]]→af h h'→∃ h'' w5 w6 w7 w9 w10 w11,(∀ K,aq (aj Try.prog po) 12 (.lp gh:: .ss []:: .blk 0::K) [v0,v1,.int .i64 p,.ptr h.n 0 0,.ptr (h.n+1) 0 0,.int .i64 0,.junk,.junk,v8,.junk,.junk,.junk] [] h'=aq (aj Try.prog po) 12 K [v0,v1,.int .i64 p,.ptr h.n 0 0,.ptr (h.n+1) 0 0,w5,w6,w7,v8,w9,w10,w11] [] h'')∧h''.cell (h.n+1)=some [bsA (cE (ba d) p)]∧af h h''∧h''.cell h.n=some [bsA [false,false,false,false]]:=fun h' S v8 hS hc hlt h3 g=>by
  subst hS
  obtain⟨h'',w5,w6,w7,w9,w10,w11,r,c,l,g',o⟩:=N6 a (h:=h) (b:=h.n+1) (by omega) (.int .i64 p) (.ptr h.n 0 0) v8 4 0 h' (lx p) .junk .junk .junk .junk .junk rfl (lI p) hc hlt g
  exact⟨h'',w5,w6,w7,w9,w10,w11,r,by rw[←lD];exact c,g',by rw[o _ (by omega)];exact h3⟩
 have hll:(cE (ba d) p).length=4:=by rw[←lD,pH,lI]
 have ld:ldA true 4 (bsA (cE (ba d) p)) 0=some (.agg (bsA (cE (ba d) p))):=bo (by simp[hll])
 have p1:∀ x y,((h.push x).push y).cell (h.n+1)=some y:=fun x y=>bO
 have p0:∀ x y,((h.push x).push y).cell h.n=some x:=fun x y=>eS
 by_cases hp:inP p=true
 ·have hh:=dB.1 hp
  have d1:decide (0≤p)=true:=decide_eq_true hh.1
  have d2:decide (p<4)=true:=decide_eq_true hh.2
  have ip:=CE hp (h.n+1)
  have st:=IY (S:=[false,false,false,false]) rfl hp
  have e0:lx p=eL [false,false,false,false] p:=by unfold lx;rw[if_pos hp]
  obtain⟨h2,w5,w6,w7,w9,w10,w11,r,c,g,o⟩:=fin ((h.push [bsA [false,false,false,false]]).push [bsA (eL [false,false,false,false] p)]) _ (.bool true) e0.symm (p1 _ _) (by show h.n+1<h.n+1+1;omega) (p0 _ _) ((af.push _ _).trans (af.push _ _))
  simp only[bsA,List.map_cons,List.map_nil]at st r o p1 p0
  generalize cE (ba d) p=T at*
  match T,hll with
  | [t0,t1,t2,t3],_=>
    simp only[bsA,List.map_cons,List.map_nil]at c ld
    refine ah pm rfl ?_;unfold mE
    simp only[sim,ag,reduceAdd,reduceSub,replicate,reduceCtorEq,reduceLeDiff,reduceLT,aa,d1,d2,ip,st,p1,p0]
    rw[r]
    simp only[sim,ag,reduceAdd,reduceSub,replicate,reduceCtorEq,reduceLeDiff,reduceLT,aa,c,ld,o]
    exact aA (g.set (by omega)) rfl
 ·have e0:lx p=[false,false,false,false]:=by unfold lx;rw[if_neg hp]
  obtain⟨h2,w5,w6,w7,w9,w10,w11,r,c,g,o⟩:=fin ((h.push [bsA [false,false,false,false]]).push [bsA [false,false,false,false]]) _ (.bool false) e0.symm (p1 _ _) (by show h.n+1<h.n+1+1;omega) (p0 _ _) hq
  simp only[bsA,List.map_cons,List.map_nil]at r o p1 p0
  generalize cE (ba d) p=T at*
  match T,hll with
  | [t0,t1,t2,t3],_=>
    simp only[bsA,List.map_cons,List.map_nil]at c ld
    cases d1:decide (0≤p)with
    | false=>
      refine ah pm rfl ?_;unfold mE
      simp only[sim,ag,reduceAdd,reduceSub,replicate,reduceCtorEq,reduceLeDiff,reduceLT,aa,d1,p1,p0]
      rw[r]
      simp only[sim,ag,reduceAdd,reduceSub,replicate,reduceCtorEq,reduceLeDiff,reduceLT,aa,c,ld,o]
      exact aA (g.set (by omega)) rfl
    | true=>
      have d2:decide (p<4)=false:=decide_eq_false fun h4=>hp (dB.2 ⟨of_decide_eq_true d1,h4⟩)
      refine ah pm rfl ?_;unfold mE
      simp only[sim,ag,reduceAdd,reduceSub,replicate,reduceCtorEq,reduceLeDiff,reduceLT,aa,d1,d2,p1,p0]
      rw[r]
      simp only[sim,ag,reduceAdd,reduceSub,replicate,reduceCtorEq,reduceLeDiff,reduceLT,aa,c,ld,o]
      exact aA (g.set (by omega)) rfl
end
def Cs (S:List Bool) (p cell right:Int) (z:cG×EvD):Bool:=decide (z.1.kind=2) && (decide (z.2.code=0) && (decide (z.1.k=cell) && (decide (dT z.1.r right=right) && (inB S z.1.p || decide (z.1.p=p)))))
theorem JT (d:dK) (p cell right:Int):LF d p cell right=d.any (Cs (cE (ba d) p) p cell right):=rfl
section
variable {h h' h0:AH} {d:dK} {v0 v1:AV} {rows erows:List (List AV)}
set_option maxHeartbeats 2000000 in
theorem Nv (a:DnA d v0 v1 rows erows) {b:Nat} {S:List Bool} (hS:S.length=4) (p cell right:Int) (v5:AV):∀ (l pre:dK) (h':AH) (v8 v9 v10:AV),d=pre++l→h'.cell b=some [bsA S]→b<h'.n→af h h'→
  ∃ V h'',(∀ K,aq (aj Try.prog po) 11 (.lp cT:: .ss []:: .blk 0::(.ss [.ops [(.i (.v 5) (.mv (.c (.bool false))))],.ret])::K) [v0,v1,.int .i64 p,.int .i64 cell,.int .i64 right,v5,.ptr b 0 0,.int .i64 (pre.length:Int),v8,v9,v10] [] h'=some (.ret,V,h''))∧V.getD 5 .junk= .bool (l.any (Cs S p cell right))∧af h h'':=by
 intro l
 induction l with
 | nil=>
   intro pre h' v8 v9 v10 e hc hlt g
   have d1:decide ((pre.length:Int)<(d.length:Int))=false:=decide_eq_false (by rw[e];simp)
   refine⟨[v0,v1,.int .i64 p,.int .i64 cell,.int .i64 right,.bool false,.ptr b 0 0,.int .i64 (pre.length:Int),v8,.bool false,v10],h',fun K=> ?_,rfl,g⟩
   rw[aB cT.eq_1]
   simp only[sim,ag,reduceAdd,reduceSub,replicate,reduceCtorEq,reduceLeDiff,reduceLT,aa,a.s.len,a.s.fits,a.sl,d1]
 | cons z l ih=>
   intro pre h' v8 v9 v10 e hc hlt g
   have hpl:pre.length<d.length:=by rw[e];simp
   have hi:d[pre.length]? =some z:=by rw[e];simp
   have d1:decide ((pre.length:Int)<(d.length:Int))=true:=decide_eq_true (by omega)
   obtain⟨m,q,hm,ix,iy⟩:=a.get hi
   have hz:=a.ok z (List.mem_of_getElem? hi)
   have w1:=w64 (n:=(pre.length:Int)+1) (by have:=a.few;omega) (by have:=a.few;omega)
   have ek:((pre++[z]).length:Int)=(pre.length:Int)+1:=by simp
   have la:ldA true 9 (aQ z.1 m) 0=some (.agg (aQ z.1 m)):=bo rfl
   have pg:∀ z,(h'.push z).cell h'.n=some z:=fun z=>aC
   have ps:∀ y z,(h'.push y).set h'.n (some z)=h'.push z:=fun y z=>bm
   have pb:∀ z,(h'.push z).cell b=some [bsA S]:=fun z=>by rw[aL hlt];exact hc
   have hmt:∀ x y:Int,IntKind.wrap .i64 ((BitVec.ofInt IntKind.i64.bits x &&& BitVec.ofInt IntKind.i64.bits y).toNat:Int)=dT x y:=fun x y=>rfl
   have g1:af h (h'.push [aQ z.1 m]):=g.trans (af.push _ _)
   obtain⟨V,h'',r1,r2,g2⟩:=ih (pre++[z]) (h'.push [aQ z.1 m]) (.ptr h'.n 0 0) (.bool true) (.bool false) (by simp[e]) (pb _) (by show b<h'.n+1;omega) g1
   simp only[aQ]at ix la r1 g1
   rw[ek]at r1
   have no:Cs S p cell right z=false→V.getD 5 .junk= .bool ((z::l).any (Cs S p cell right)):=fun h=>by rw[r2,List.any_cons,h,Bool.false_or]
   have yes:Cs S p cell right z=true→(.bool true:AV)= .bool ((z::l).any (Cs S p cell right)):=fun h=>by rw[List.any_cons,h,Bool.true_or]
   unfold Cs at no yes
   cases e2:decide (z.1.kind=2)with
   | false=>
     refine⟨V,h'',fun K=> ?_,no (by rw[e2];rfl),g2⟩
     rw[←r1 K]
     conv=>lhs;rw[aB cT.eq_1]
     simp only[sim,ag,reduceAdd,reduceSub,replicate,reduceCtorEq,reduceLeDiff,reduceLT,aa,a.s.len,a.s.fits,a.sl,a.e.len,a.e.fits,a.el,d1,ix,iy,la,hm,pg,ps,e2,w1]
   | true=>
   cases e0:decide (z.2.code=0)with
   | false=>
     refine⟨V,h'',fun K=> ?_,no (by rw[e2,e0];rfl),g2⟩
     rw[←r1 K]
     conv=>lhs;rw[aB cT.eq_1]
     simp only[sim,ag,reduceAdd,reduceSub,replicate,reduceCtorEq,reduceLeDiff,reduceLT,aa,a.s.len,a.s.fits,a.sl,a.e.len,a.e.fits,a.el,d1,ix,iy,la,hm,pg,ps,e2,e0,w1]
   | true=>
   cases ec:decide (z.1.k=cell)with
   | false=>
     refine⟨V,h'',fun K=> ?_,no (by rw[e2,e0,ec];rfl),g2⟩
     rw[←r1 K]
     conv=>lhs;rw[aB cT.eq_1]
     simp only[sim,ag,reduceAdd,reduceSub,replicate,reduceCtorEq,reduceLeDiff,reduceLT,aa,a.s.len,a.s.fits,a.sl,a.e.len,a.e.fits,a.el,d1,ix,iy,la,hm,pg,ps,e2,e0,ec,w1]
   | true=>
   cases er:decide (dT z.1.r right=right)with
   | false=>
     refine⟨V,h'',fun K=> ?_,no (by rw[e2,e0,ec,er];rfl),g2⟩
     rw[←r1 K]
     conv=>lhs;rw[aB cT.eq_1]
     simp only[sim,ag,reduceAdd,reduceSub,replicate,reduceCtorEq,reduceLeDiff,reduceLT,aa,a.s.len,a.s.fits,a.sl,a.e.len,a.e.fits,a.el,d1,ix,iy,la,hm,pg,ps,e2,e0,ec,hmt,er,w1]
   | true=>
   have hp:=(hz (of_decide_eq_true e0)).1 (of_decide_eq_true e2)
   have gp:=Co hS hp
   have iP:=CE hp b
   cases eb:inB S z.1.p with
   | true=>
     rw[eb]at gp
     refine⟨[v0,v1,.int .i64 p,.int .i64 cell,.int .i64 right,.bool true,.ptr b 0 0,.int .i64 (pre.length:Int),.ptr h'.n 0 0,.bool true,.bool true],_,fun K=> ?_,yes (by rw[e2,e0,ec,er,eb];rfl),g1⟩
     conv=>lhs;rw[aB cT.eq_1]
     simp only[sim,ag,reduceAdd,reduceSub,replicate,reduceCtorEq,reduceLeDiff,reduceLT,aa,a.s.len,a.s.fits,a.sl,a.e.len,a.e.fits,a.el,d1,ix,iy,la,hm,pg,ps,pb,e2,e0,ec,hmt,er,gp,iP,w1]
   | false=>
     rw[eb]at gp
     cases eq:decide (z.1.p=p)with
     | true=>
       refine⟨[v0,v1,.int .i64 p,.int .i64 cell,.int .i64 right,.bool true,.ptr b 0 0,.int .i64 (pre.length:Int),.ptr h'.n 0 0,.bool true,.bool true],_,fun K=> ?_,yes (by rw[e2,e0,ec,er,eb,eq];rfl),g1⟩
       conv=>lhs;rw[aB cT.eq_1]
       simp only[sim,ag,reduceAdd,reduceSub,replicate,reduceCtorEq,reduceLeDiff,reduceLT,aa,a.s.len,a.s.fits,a.sl,a.e.len,a.e.fits,a.el,d1,ix,iy,la,hm,pg,ps,pb,e2,e0,ec,hmt,er,gp,iP,eq,w1]
     | false=>
       refine⟨V,h'',fun K=> ?_,no (by rw[e2,e0,ec,er,eb,eq];rfl),g2⟩
       rw[←r1 K]
       conv=>lhs;rw[aB cT.eq_1]
       simp only[sim,ag,reduceAdd,reduceSub,replicate,reduceCtorEq,reduceLeDiff,reduceLT,aa,a.s.len,a.s.fits,a.sl,a.e.len,a.e.fits,a.el,d1,ix,iy,la,hm,pg,ps,pb,e2,e0,ec,hmt,er,gp,iP,eq,w1]
theorem Fk (a:DnA d v0 v1 rows erows) (p cell right:Int):aj Try.prog po 37 [v0,v1,.int .i64 p,.int .i64 cell,.int .i64 right] h=some (.inl (.bool (LF d p cell right)),h):=by
 have lk:=AT (h:=h) a p
 have hll:(cE (ba d) p).length=4:=by rw[←lD,pH,lI]
 have m:=fun v5=>Nv (h:=h) a hll p cell right v5 (b:=h.n) d [] (h.push [bsA (cE (ba d) p)]) .junk .junk .junk rfl aC (Nat.lt_succ_self _) (af.push _ _)
 rw[←JT]at m
 obtain⟨V,h'',r1,r2,g⟩:=m (.bool false)
 generalize cE (ba d) p=T at*
 match T,hll with
 | [t0,t1,t2,t3],_=>
   simp only[bsA,List.map_cons,List.map_nil,List.length_nil,Int.natCast_zero]at lk r1
   refine ah JK rfl ?_;unfold zB
   simp only[sim,ag,reduceAdd,reduceSub,replicate,reduceCtorEq,reduceLeDiff,reduceLT,aa,az,lk]
   rw[r1]
   simp only[sim,ag,reduceAdd,reduceSub,replicate,reduceCtorEq,reduceLeDiff,reduceLT,aa,r2]
   exact aA g rfl
end
theorem yR {e:TypeId} {v:AV} {rows:List (List AV)} (hv:SlA e v rows) {k:Nat} (hk:k≤rows.length):∃ v',eN v none (some (.int .i64 (k:Int)))=some v'∧IsL e v' (rows.take k):=by
 rcases hv with⟨rfl,rfl⟩ | ⟨id,rfl⟩
 ·have:k=0:=by simpa using hk
  subst this
  exact⟨.nils,by simp[eN,loA,hiA,dR,py],jv e⟩
 ·refine⟨.isl none e (rows.take k),?_,kJ _ _ _⟩
  have:((k:Int)≤(rows.length:Int)):=by omega
  simp[eN,loA,hiA,dR,py,hk]
theorem IU {h:AH} {F J:Nat→Prop} {e:TypeId} {v:AV} {rows:List (List AV)} (x:(di e v rows).A h F J):SlA e v rows:=by
 rcases x with⟨⟨h1,h2⟩,_⟩ | ⟨id,⟨_,h2⟩,_⟩
 ·exact .inl ⟨h1,h2⟩
 ·exact .inr ⟨some id,h2⟩
section
variable {h h' h0:AH} {F J F0 J0:Nat→Prop} {L:List Asn} {c:WaC} {W:WaD} {d:dK}
theorem NZ (s:St h0 F0 J0 h L) (i:Nat) {v:AV} {erows:List (List AV)} (hi:L[i]? =some (di tEv v erows)) {r:List AV} (hr:r.all AV.one=true) (hl:erows.length≤1000000):
  ∃ h' v',aF false tEv v (.isl (some h.ids) tEv [r]) (h.fresh 1)=some (v',h')∧St h0 F0 J0 h' (L.set i (di tEv v' (erows++[r]))):=by
 obtain⟨h',v',e,s'⟩:=s.callE (R:=fun h1 (v':AV)=>aF false tEv v (.isl (some h.ids) tEv [r]) (h.fresh 1)=some (v',h1)) i hi (Y:=fun v'=>di tEv v' (erows++[r])) fun F J x=>by
  obtain⟨v',h1,a1,a2,a3,a4,_,a5⟩:=kq x hr hl
  exact⟨h1,v',a1,a4⟩
 exact⟨h',v',e,s'⟩
theorem OH {G:ae} (hW:G.Wf) {bY:Nat} {e:ca} (hy:h'.cell bY=some [cz e]) (v0 v2 v3 v4 v5 v6 v7 v9 v10 v13 v14 v15 v16 v17 v18:AV):∀ (N:Nat) (k:Int) (v19 v20:AV),k<(N:Int)→G.has k=true∨k= -1→(∀ nd∈G.path k,dT nd.rights e.right=e.right)→
  ∃ w12 w19 w20,∀ K,aq (aj Try.prog po) 21 (.lp dM:: .ss []:: .blk 4::K) [v0,.bool false,v2,v3,v4,v5,v6,v7,.ptr bY 0 0,v9,v10,cQ tN (G.nodes.map aH),.int .i64 k,v13,v14,v15,v16,v17,v18,v19,v20] [] h'=aq (aj Try.prog po) 21 K [v0,.bool false,v2,v3,v4,v5,v6,v7,.ptr bY 0 0,v9,v10,cQ tN (G.nodes.map aH),w12,v13,v14,v15,v16,v17,v18,w19,w20] [] h':=by
 have hl:=iK tN (G.nodes.map aH)
 have few:=hW.few
 have out:∀ v19 v20,∃ w12 w19 w20,∀ K,aq (aj Try.prog po) 21 (.lp dM:: .ss []:: .blk 4::K) [v0,.bool false,v2,v3,v4,v5,v6,v7,.ptr bY 0 0,v9,v10,cQ tN (G.nodes.map aH),.int .i64 (-1),v13,v14,v15,v16,v17,v18,v19,v20] [] h'=aq (aj Try.prog po) 21 K [v0,.bool false,v2,v3,v4,v5,v6,v7,.ptr bY 0 0,v9,v10,cQ tN (G.nodes.map aH),w12,v13,v14,v15,v16,v17,v18,w19,w20] [] h':=fun v19 v20=>by
  have d1:decide ((0:Int)≤ -1)=false:=rfl
  refine⟨.int .i64 (-1),.bool false,v20,fun K=> ?_⟩
  rw[aB dM.eq_1]
  simp only[sim,ag,reduceAdd,reduceSub,replicate,reduceCtorEq,reduceLeDiff,reduceLT,aa,d1]
 intro N
 induction N with
 | zero=>
   intro k v19 v20 hk hh hp
   rcases hh with hh | rfl
   ·simp only[ae.has,decide_eq_true_eq]at hh;omega
   ·exact out v19 v20
 | succ N ih=>
   intro k v19 v20 hk hh hp
   rcases hh with hh | rfl
   ·have hwf:=hW.get hh
    rw[ae.path_yes hW hh]at hp
    have hg:G.nodes[k.toNat]? =some (G.nodes.getD k.toNat bH):=by
     simp only[ae.has,decide_eq_true_eq]at hh
     have:k.toNat<G.nodes.length:=by omega
     simp[List.getD,this]
    generalize G.nodes.getD k.toNat bH=nd at*
    have hkk:((k.toNat:Nat):Int)=k:=by simp only[ae.has,decide_eq_true_eq]at hh;omega
    have ix:=hl.ix .i64 k.toNat (aH nd) (by simp[hg])
    rw[hkk]at ix
    have d0:decide (0≤k)=true:=decide_eq_true (by omega)
    have d1:decide ((G.nodes.length:Int)≤k)=false:=decide_eq_false (by simp only[ae.has,decide_eq_true_eq]at hh;omega)
    have d2:decide (k≤nd.parent)=false:=decide_eq_false (by have:=hwf.p1;omega)
    have d3:decide (dT nd.rights e.right=e.right)=true:=decide_eq_true (hp nd (by simp))
    have hmt:∀ x y:Int,IntKind.wrap .i64 ((BitVec.ofInt IntKind.i64.bits x &&& BitVec.ofInt IntKind.i64.bits y).toNat:Int)=dT x y:=fun x y=>rfl
    have hhp:G.has nd.parent=true∨nd.parent= -1:=by
     have h0:=hwf.p0
     have h1:=hwf.p1
     simp only[ae.has,decide_eq_true_eq]at hh ⊢
     omega
    obtain⟨w12,w19,w20,r⟩:=ih nd.parent (.bool true) (.bool false) (by have:=hwf.p1;omega) hhp (fun m hm=>hp m (by simp[hm]))
    refine⟨w12,w19,w20,fun K=> ?_⟩
    rw[←r K]
    simp only[aH]at ix
    simp only[cz]at hy
    conv=>lhs;rw[aB dM.eq_1]
    simp only[sim,ag,reduceAdd,reduceSub,replicate,reduceCtorEq,reduceLeDiff,reduceLT,aa,hl.len,hl.fits,List.length_map,ix,hy,d0,d1,d2,hmt,d3,Bool.not_true]
   ·exact out v19 v20
set_option maxHeartbeats 4000000 in
theorem NW {lv ev v0' v3':AV} {rows' erows':List (List AV)} (a:DnA d v0' v3' rows' erows') {i:Nat} (fl:de false (some tSt) lv=true) (fe:de false (some tEv) ev=true) (sl:eN lv none (some (.int .i64 (i:Int)))=some v0') (se:eN ev none (some (.int .i64 (i:Int)))=some v3') (o:OkH W.H) (v6 v13 v14 v15:AV):∀ (r pre:List ca) (h':AH) (v8 v9 v10 v11 v12 v16 v17 v18 v19 v20:AV),W.H.S.log=pre++r→(∀ e∈r,Ax d W.H.S.G e)→St h0 F0 J0 h' (dG c W++L)→
  ∃ h'' w8 w9 w10 w11 w12 w16 w17 w18 w19 w20,(∀ K,aq (aj Try.prog po) 21 (.lp eU:: .ss []:: .blk 2::K) [lv,.bool false,.ptr c.wt 0 0,ev,.int .i64 (pre.length:Int),.int .i64 (i:Int),v6,cQ tEn (W.H.S.log.map cz),v8,v9,v10,v11,v12,v13,v14,v15,v16,v17,v18,v19,v20] [] h'=aq (aj Try.prog po) 21 K [lv,.bool false,.ptr c.wt 0 0,ev,.int .i64 (W.H.S.log.length:Int),.int .i64 (i:Int),v6,cQ tEn (W.H.S.log.map cz),w8,w9,w10,w11,w12,v13,v14,v15,w16,w17,w18,w19,w20] [] h'')∧St h0 F0 J0 h'' (dG c W++L):=by
 have hv:=iK tEn (W.H.S.log.map cz)
 have hlog:=o.log
 intro r
 induction r with
 | nil=>
   intro pre h' v8 v9 v10 v11 v12 v16 v17 v18 v19 v20 e he s
   have e':pre.length=W.H.S.log.length:=by rw[e];simp
   have d1:decide ((W.H.S.log.length:Int)<(W.H.S.log.length:Int))=false:=decide_eq_false (by omega)
   refine⟨h',v8,v9,v10,v11,v12,.bool false,v17,v18,v19,v20,fun K=> ?_,s⟩
   rw[e']
   rw[aB eU.eq_1]
   simp only[sim,ag,reduceAdd,reduceSub,replicate,reduceCtorEq,reduceLeDiff,reduceLT,aa,hv.len,hv.fits,List.length_map,d1]
 | cons y r ih=>
   intro pre h' v8 v9 v10 v11 v12 v16 v17 v18 v19 v20 e he s
   have hpl:pre.length<W.H.S.log.length:=by rw[e];simp
   have d1:decide ((pre.length:Int)<(W.H.S.log.length:Int))=true:=decide_eq_true (by omega)
   have ix:=hv.ix .i64 pre.length (cz y) (by rw[e];simp)
   have la:ldA true 4 (cz y) 0=some (.agg (cz y)):=bo rfl
   have w1:=w64 (n:=(pre.length:Int)+1) (by omega) (by omega)
   have ek:((pre++[y]).length:Int)=(pre.length:Int)+1:=by simp
   have hok:=he y (by simp)
   have hmay:=L5 a.ok hok
   obtain⟨_,g1,g2,g3,g4,_⟩:=hok
   have hW:=o.good.st.wf
   obtain⟨t1,_,_⟩:=ae.target_ok hW g1
   have s1:=s.push [cz y]
   have pw:=Cu s1 1 o rfl rfl rfl
   obtain⟨F1,J1,gx⟩:=s1.get 4 rfl
   have tg:=zX gx hW y.node
   obtain⟨t,et⟩:∃ t,(W.H.S.G.target y.node).1=t:=⟨_,rfl⟩
   rw[et]at g2 g3 tg
   rw[t1]at tg
   have s2:=s1.push [aH t]
   have s2':=fun z=>s1.push [z]
   have pw2:∀ z,OY ((h'.push [cz y]).push [z]) c:=fun z=>Cu (s2' z) 2 o rfl rfl rfl
   have lw2:=fun z=>(pw2 z).w
   have lb2:=fun z=>(pw2 z).b
   have lg2:=fun z=>(pw2 z).g
   have fw:∀ b,aI 0 (.ptr b 0 0)=some (.ptr b 0 0):=fun _=>rfl
   have no2:=(KQ (c:=c.toHoC) s2 3 o rfl rfl rfl rfl).no
   have my:∀ h,aj Try.prog po 37 [v0',v3',.int .i64 y.plugin,.int .i64 y.cell,.int .i64 y.right] h=some (.inl (.bool true),h):=fun h=>by rw[Fk a,hmay]
   have pg:∀ z,(h'.push z).cell h'.n=some z:=fun z=>aC
   have ps:∀ y z,(h'.push y).set h'.n (some z)=h'.push z:=fun y z=>bm
   have pg2:∀ z,((h'.push [cz y]).push z).cell (h'.n+1)=some z:=fun z=>bO
   have pg1:∀ z,((h'.push [cz y]).push z).cell h'.n=some [cz y]:=fun z=>eS
   have ps2:∀ x z,((h'.push [cz y]).push x).set (h'.n+1) (some z)=(h'.push [cz y]).push z:=fun x z=>bm (h:=h'.push [cz y])
   have dp:decide (0≤t.plugin)=false:=decide_eq_false (by omega)
   have dc:decide (t.cell=y.cell)=true:=decide_eq_true g3
   obtain⟨w12,w19,w20,rb⟩:=OH (h':=(h'.push [cz y]).push [aH t]) hW (bY:=h'.n) (e:=y) (pg1 _) lv (.ptr c.wt 0 0) ev (.int .i64 (pre.length:Int)) (.int .i64 (i:Int)) v6 (cQ tEn (W.H.S.log.map cz)) (.ptr (h'.n+1) 0 0) (.bool true) v13 v14 v15 (.bool true) (.bool false) (.bool false) W.H.S.G.nodes.length y.node v19 v20 (by simp only[ae.has,decide_eq_true_eq]at g1;omega) (.inl g1) g4
   obtain⟨h'',u8,u9,u10,u11,u12,u16,u17,u18,u19,u20,r1,s3⟩:=ih (pre++[y]) ((h'.push [cz y]).push [aH t]) (.ptr h'.n 0 0) (.ptr (h'.n+1) 0 0) (.bool true) (cQ tN (W.H.S.G.nodes.map aH)) w12 (.bool true) (.bool false) (.bool false) w19 w20 (by simp[e]) (fun z hz=>he z (by simp[hz])) s2.drop.drop
   refine⟨h'',u8,u9,u10,u11,u12,u16,u17,u18,u19,u20,fun K=> ?_,s3⟩
   rw[←r1 K,ek]
   simp only[cz,aH]at ix la tg pw lw2 lb2 lg2 no2 pg1 pg2 ps2 rb
   have pww:=pw.w
   have pwb:=pw.b
   have pwg:=pw.g
   conv=>lhs;rw[aB eU.eq_1]
   simp only[sim,ag,reduceAdd,reduceSub,replicate,reduceCtorEq,reduceLeDiff,reduceLT,aa,az,hv.len,hv.fits,List.length_map,d1,ix,la,pg,ps,fl,fe,sl,se,my,Bool.not_true,fw,pww,pwb,pwg,tg,lw2,lb2,lg2,no2,pg1,pg2,ps2,dp,dc]
   rw[rb]
   simp only[sim,ag,reduceAdd,reduceSub,replicate,reduceCtorEq,reduceLeDiff,reduceLT,aa,w1]
   rfl
end
section
variable {h h' h0:AH} {F J F0 J0:Nat→Prop} {L:List Asn} {c:WaC}
set_option maxRecDepth 100000 in
set_option maxHeartbeats 8000000 in
theorem N3 {lv:AV} {rows:List (List AV)} {xs:List cG} (hs:SlA tSt lv rows) (hl:gk xs rows) (hxl:xs.length≤150) (hgr:∀ x∈xs,x.m.length≤100000∧∀ e∈x.m,e.size≤100000):∀ (l pre:List cG) (dn:dK) (own:Int→Int) (h':AH) (W:WaD) (ev:AV) (erows:List (List AV)) (v6 v7 v8 v9 v10 v11 v12 v13 v14 v15 v16 v17 v18 v19 v20:AV),xs=pre++l→dn.map (·.1)=pre→Iu (dn.map (·.2)) erows→pW dn→lW dn own W.H→OkW pre.length W→St h0 F0 J0 h' (dG c W++[di tEv ev erows])→
  ∃ h'' V,(∀ K,aq (aj Try.prog po) 21 (.lp eY:: .ss []:: .blk 0::K) [lv,.bool false,.ptr c.wt 0 0,ev,.int .i64 (W.H.S.log.length:Int),.int .i64 (pre.length:Int),v6,v7,v8,v9,v10,v11,v12,v13,v14,v15,v16,v17,v18,v19,v20] [] h'=aq (aj Try.prog po) 21 K (lv:: .bool false::V) [] h'')∧∃ L',St h0 F0 J0 h'' L':=by
 have hll:=hl.len
 have hsl:=hs.isL
 intro l
 induction l with
 | nil=>
   intro pre dn own h' W ev erows v6 v7 v8 v9 v10 v11 v12 v13 v14 v15 v16 v17 v18 v19 v20 e hd he hdo hg o s
   have d1:decide ((pre.length:Int)<(xs.length:Int))=false:=decide_eq_false (by rw[e];simp)
   refine⟨h',[.ptr c.wt 0 0,ev,.int .i64 (W.H.S.log.length:Int),.int .i64 (pre.length:Int),v6,v7,v8,v9,v10,v11,v12,v13,v14,.bool false,v16,v17,v18,v19,v20],fun K=> ?_,_,s⟩
   rw[aB eY.eq_1]
   simp only[sim,ag,reduceAdd,reduceSub,replicate,reduceCtorEq,reduceLeDiff,reduceLT,aa,hsl.len,hsl.fits,hll,d1]
 | cons x l ih=>
   intro pre dn own h' W ev erows v6 v7 v8 v9 v10 v11 v12 v13 v14 v15 v16 v17 v18 v19 v20 e hd he hdo hg o s
   have hpl:pre.length<xs.length:=by rw[e];simp
   have d1:decide ((pre.length:Int)<(xs.length:Int))=true:=decide_eq_true (by omega)
   have hi:xs[pre.length]? =some x:=by rw[e];simp
   obtain⟨m,ms,q1,q3,q4⟩:=hl.get hi
   have ix:=hsl.ix .i64 pre.length _ q1
   obtain⟨g1,g2⟩:=hgr x (List.mem_of_getElem? hi)
   have w1:=w64 (n:=(pre.length:Int)+1) (by omega) (by omega)
   have ek:((pre++[x]).length:Int)=(pre.length:Int)+1:=by simp
   have ekn:(pre++[x]).length=pre.length+1:=by simp
   have la:ldA true 9 (aQ x m) 0=some (.agg (aQ x m)):=bo rfl
   have hdl:dn.length=pre.length:=by rw[←hd,List.length_map]
   obtain⟨h2,r2,e2,v2,s2⟩:=Jg (A:=[]) (B:=[di tEv ev erows]) (c:=c) s o (by omega) x q3 q4 g1 g2
   obtain⟨q2,rfl,w2⟩:=v2
   obtain⟨u2,rfl,u2o⟩:=w2.cells3
   have o2:=o.step x
   obtain⟨wH,wE⟩:=Ka W x
   obtain⟨own',hg2,ext,hlog,hext⟩:=hg.step x
   have hdone:=Eu W.H x
   rw[←wH]at hg2 hlog hext
   rw[←wE]at hg2 hdone
   -- what came is put down
   have hvr:EvR (W.step x).2.1 (evR (W.step x).2.1.code (W.step x).2.1.fuel [.int .i64 (W.step x).2.1.v.kind,.int .i64 (W.step x).2.1.v.n,u2]):=⟨_,rfl,w2⟩
   have hro:(evR (W.step x).2.1.code (W.step x).2.1.fuel [.int .i64 (W.step x).2.1.v.kind,.int .i64 (W.step x).2.1.v.n,u2]).all AV.one=true:=by
    simp only[evR,List.all_cons,List.all_nil,u2o]
    rfl
   have s2:St h0 F0 J0 h2 (dG c (W.step x).1++[di tEv ev erows]):=s2
   generalize (W.step x).1=W2 at*
   generalize (W.step x).2.1=E2 at*
   generalize (W.step x).2.2=F2 at*
   have s3:=(s2.push [evR E2.code E2.fuel [.int .i64 E2.v.kind,.int .i64 E2.v.n,u2]]).push [[.int .i64 F2.1,.int .i64 F2.2]]
   have hel:erows.length=pre.length:=by rw[he.1,List.length_map,hdl]
   obtain⟨h4,ev',ea,s4⟩:=NZ s3 7 rfl hro (by omega)
   have s4:St h0 F0 J0 h4 ([ai (h2.push [evR E2.code E2.fuel [.int .i64 E2.v.kind,.int .i64 E2.v.n,u2]]).n [[.int .i64 F2.1,.int .i64 F2.2]],ai h2.n [evR E2.code E2.fuel [.int .i64 E2.v.kind,.int .i64 E2.v.n,u2]]]++(dG c W2++[di tEv ev' (erows++[evR E2.code E2.fuel [.int .i64 E2.v.kind,.int .i64 E2.v.n,u2]])])):=s4
   have s5:St h0 F0 J0 h4 (dG c W2++[di tEv ev' (erows++[evR E2.code E2.fuel [.int .i64 E2.v.kind,.int .i64 E2.v.n,u2]])]):=s4.drop.drop
   obtain⟨F5,J5,gx⟩:=s5.get 5 rfl
   have hev:=IU gx
   obtain⟨v0',sl0,il0⟩:=yR hs (k:=pre.length) (by omega)
   obtain⟨v3',sl3,il3⟩:=yR hev (k:=pre.length) (by simp;omega)
   have a:DnA dn v0' v3' (rows.take pre.length) erows:=by
    refine⟨il0,?_,?_,he,by omega,hdo⟩
    ·have:=hl.take pre.length
     rw[hd]
     have e0:xs.take pre.length=pre:=by rw[e];simp
     rw[e0]at this
     exact this
    ·have e0:(erows++[evR E2.code E2.fuel [.int .i64 E2.v.kind,.int .i64 E2.v.n,u2]]).take pre.length=erows:=by rw[←hel];simp
     rw[e0]at il3
     exact il3
   have oh2:=o2.h.ok (by omega)
   have pw:=Cu s5 0 oh2 rfl rfl rfl
   have lo:=(KQ (c:=c.toHoC) s5 1 oh2 rfl rfl rfl rfl).lo
   have pww:=pw.w
   have pwb:=pw.b
   have pwd:=pw.d
   have fw:∀ b,aI 0 (.ptr b 0 0)=some (.ptr b 0 0):=fun _=>rfl
   have fb:aI 1 (.ptr c.bb 0 0)=some (.ptr c.bb 0 1):=rfl
   obtain⟨h6,u8,u9,u10,u11,u12,u16,u17,u18,u19,u20,r6,s6⟩:=NW (W:=W2) a (i:=pre.length) (hsl.fits false) (hev.isL.fits false) sl0 sl3 oh2 (.ptr h2.n 0 0) v13 v14 (.bool true) ext W.H.S.log h4 v8 v9 v10 v11 v12 v16 v17 v18 v19 v20 hlog hext s5
   have hdo2:pW (dn++[(x,E2)]):=fun z hz=>by
    rcases List.mem_append.1 hz with hz | hz
    ·exact hdo z hz
    ·obtain rfl:z=(x,E2):=by simpa using hz
     exact hdone
   obtain⟨h7,V,r7,L7,s7⟩:=ih (pre++[x]) (dn++[(x,E2)]) own' h6 W2 ev' (erows++[evR E2.code E2.fuel [.int .i64 E2.v.kind,.int .i64 E2.v.n,u2]]) (.ptr h2.n 0 0) (cQ tEn (W2.H.S.log.map cz)) u8 u9 u10 u11 u12 v13 v14 (.bool true) u16 u17 u18 u19 u20 (by simp[e]) (by simp[hd]) (by rw[List.map_append];exact he.snoc hvr) hdo2 hg2 (by rw[ekn];exact o2) s6
   refine⟨h7,V,fun K=> ?_,L7,s7⟩
   rw[←r7 K,ek]
   have p1:∀ x y z,(((h2.push x).push y).set h2.n (some z))=(h2.push z).push y:=fun x y z=>by rw[qE (Nat.lt_succ_self _),bm]
   have p2:∀ x y z,(((h2.push x).push y).set (h2.n+1) (some z))=(h2.push x).push z:=fun x y z=>bm (h:=h2.push x)
   have p3:∀ x y,((h2.push x).push y).cell h2.n=some x:=fun x y=>eS
   have p4:∀ x y,((h2.push x).push y).cell (h2.n+1)=some y:=fun x y=>bO
   simp only[aQ]at ix la e2
   conv=>lhs;rw[aB eY.eq_1]
   simp only[sim,ag,reduceAdd,reduceSub,replicate,reduceCtorEq,reduceLeDiff,reduceLT,aa,az,hsl.len,hsl.fits,hll,d1,ix,la,e2,p1,p2,p3,p4,u2o]
   simp only[hU]at ea
   rw[ea]
   simp only[sim,ag,reduceAdd,reduceSub,replicate,reduceCtorEq,reduceLeDiff,reduceLT,aa,az,fw,fb,pww,pwb,pwd,lo]
   rw[r6]
   simp only[sim,ag,reduceAdd,reduceSub,replicate,reduceCtorEq,reduceLeDiff,reduceLT,aa,w1]
set_option maxRecDepth 100000 in
set_option maxHeartbeats 2000000 in
theorem sH {lv:AV} {rl:List (List AV)} {xl:List cG} (hs:SlA tSt lv rl) (hl:gk xl rl) (hml:xl.length≤9223372036854775807):aj Try.prog po 10 [lv] h=some (.inl (.bool true),h):=by
 have s0:St h (fun _=>False) (fun _=>False) h []:=St.start (aY.nil _ _ _ (fun _ h=>h) (fun _ h=>h))
 have gh1:=fun(h:AH)=>uc (h:=h) hs hl hml 120 (by decide)
 have e120:((120:Nat):Int)=120:=rfl
 simp only[e120]at gh1
 cases hg1:sZ xl 120 with
 | true=>
   rw[hg1]at gh1
   refine ah mW rfl ?_;unfold jO
   simp only[sim,ag,reduceAdd,reduceSub,replicate,reduceCtorEq,reduceLeDiff,reduceLT,aa,lU,gh1]
 | false=>
   rw[hg1]at gh1
   obtain⟨hx1,hgr1⟩:=FH hg1
   obtain⟨h2,c,e2,s2⟩:=zq s0
   have s3:St h (fun _=>False) (fun _=>False) h2 (di tEv .nils []::(dG c wa0++[])):=s2.add (af.refl _) sr (fun _ h=>h.elim) (fun _ h=>h.elim)
   have s4:St h (fun _=>False) (fun _=>False) h2 (dG c wa0++[di tEv .nils []]):=s3.imp fun _ _ _ x=>St.perm (by
    have:List.Perm ([di tEv .nils []]++dG c wa0) (dG c wa0++[di tEv .nils []]):=List.perm_append_comm
    simpa using this) x
   obtain⟨h3,V,r3,L3,s5⟩:=N3 hs hl (by omega) hgr1 xl [] [] (fun _=>0) h2 wa0 .nils [] .junk .junk .junk .junk .junk .junk .junk (.bool false) (.bool false) .junk .junk .junk .junk .junk .junk rfl rfl ⟨rfl,fun i e h=>by simp at h⟩ (fun z hz=>by cases hz) Qf Cf s4
   have g5:=s5.grewA
   have hz:(wa0.H.S.log.length:Int)=0:=rfl
   simp only[List.length_nil,Int.natCast_zero,hz]at r3
   refine ah mW rfl ?_;unfold jO
   simp only[sim,ag,reduceAdd,reduceSub,replicate,reduceCtorEq,reduceLeDiff,reduceLT,aa,lU,gh1,e2]
   rw[r3]
   simp only[sim,ag,reduceAdd,reduceSub,replicate,reduceCtorEq,reduceLeDiff,reduceLT,aa]
   exact aA g5 rfl
end
theorem qJ {n0:Nat} {lv:AV} {x0:Value} (W:World) (t0:TyA Try.prog n0 50 [lv]) (u0:VR Try.prog (m0A W) h0A lv x0):
  Law Try.prog 10 #[x0] W:=by
 obtain⟨es,xs,hs,hl,hml⟩:=Lz t0
 exact NI (vs:=[x0]) (sH hs hl hml) (VRs.cons u0 VRs.nil)
end Go.Proofs.Ytkdbjfncchmmpaa
