/- Who is in a group; what may be done. -/
import Derived.Test.YtkdbjfncchmmpaaGreatMg7
namespace Go.Proofs.YtkdbjfncchmmpaaGreat
open Nat (reduceAdd reduceSub reduceLeDiff reduceLT)
open List (replicate)
set_option linter.unusedSimpArgs false
set_option linter.unusedVariables false
open Go
section
variable {h h' h0:AH} {F J F0 J0:Nat→Prop} {L:List Asn}
theorem OC {b:Nat} {x y a:Int} {out:List Int} {v:AV} {w p:AV} (hb:h'.cell b=some [[.int .i64 x,.int .i64 y]]) (hlt:b<h'.n) (ha:Acc h h' tIn v (bh out)) (g:af h h') (hl:out.length+2≤1000) {j:Nat} (hj:out[j]? =some a) (v2 v6 v7 v8 v9 v10 v11 v13 v14:AV):
  ∃ h'' v' w6 w12 w14,(∀ K,aq (aj Tryz.prog po) 15 (.lp dq:: .ss []:: .blk 4::K) [w,p,v2,v,.int .i64 (j:Int),.ptr b 0 0,v6,v7,v8,v9,v10,v11,.int .i64 0,v13,v14] [] h'=aq (aj Tryz.prog po) 15 K [w,p,v2,v',.int .i64 (j:Int),.ptr b 0 0,w6,v7,v8,v9,v10,v11,w12,.bool false,w14] [] h'')∧
    Acc h h'' tIn v' (bh (lV a out (x,y)))∧af h h''∧h''.cell=h'.cell∧h''.n=h'.n:=by
 obtain⟨h1,v1,u1,r1,a1,g1,c1,n1⟩:=Mx (w:=w) (p:=p) hb hlt ha g (by omega) hj rfl 0 (by decide) v2 v6 v7 v8 v9 v10 v11 v13 v14
 rw[if_pos rfl,if_pos rfl]at a1
 have hj1:(oN a x y out)[j]? =some a:=by
  obtain⟨_,e,he⟩:=ti (a:=a) (x:=x) (y:=y) (out:=out)
  rw[he,List.getElem?_append_left (List.getElem?_eq_some_iff.1 hj).1]
  exact hj
 have hl1:(oN a x y out).length≤1000:=by
  unfold oN
  split
  ·simp;omega
  ·omega
 obtain⟨h2,v2',u2,r2,a2,g2,c2,n2⟩:=Mx (w:=w) (p:=p) (h':=h1) (b:=b) (x:=x) (y:=y) (by rw[c1];exact hb) (by omega) a1 g1 hl1 hj1 rfl 1 (by decide) v2 (.int .i64 0) v7 v8 v9 v10 v11 (.bool true) u1
 rw[if_neg (by decide),if_neg (by decide)]at a2
 refine⟨h2,v2',.int .i64 1,.int .i64 2,u2,fun K=> ?_,a2,g2,c2.trans c1,n2.trans n1⟩
 have z0:((0:Nat):Int)=0:=rfl
 have z1:((1:Nat):Int)=1:=rfl
 have z2:(0:Int)+1=1:=rfl
 have z3:(1:Int)+1=2:=rfl
 simp only[z0,z1,z2,z3]at r1 r2
 rw[r1,r2]
 rw[aF dq.eq_1]
 simp only[sim,ag,reduceAdd,reduceSub,replicate,reduceCtorEq,reduceLeDiff,reduceLT,aa,Int.lt_irrefl,decide_false]
theorem NM {links:List (Int×Int)} {lv:AV} (hv:IsL tLi lv (links.map gn)) (hll:links.length≤200) {a:Int} {w p:AV} {q:Int} {j:Nat}:∀ (r pre:List (Int×Int)) (h':AH) (out:List Int) (v:AV) (v2 v5 v6 v7 v11 v12 v13 v14:AV),links=pre++r→j6 links q out→out[j]? =some a→Acc h h' tIn v (bh out)→af h h'→
  ∃ h'' v' w5 w6 w10 w12 w13 w14,(∀ K,aq (aj Tryz.prog po) 15 (.lp ia:: .ss []:: .blk 2::K) [w,p,v2,v,.int .i64 (j:Int),v5,v6,v7,lv,.int .i64 (links.length:Int),.int .i64 (pre.length:Int),v11,v12,v13,v14] [] h'=aq (aj Tryz.prog po) 15 K [w,p,v2,v',.int .i64 (j:Int),w5,w6,v7,lv,.int .i64 (links.length:Int),w10,.bool false,w12,w13,w14] [] h'')∧
    Acc h h'' tIn v' (bh (r.foldl (lV a) out))∧af h h'':=by
 intro r
 induction r with
 | nil=>
   intro pre h' out v v2 v5 v6 v7 v11 v12 v13 v14 e gi hj ha g
   have d1:decide ((pre.length:Int)<(links.length:Int))=false:=decide_eq_false (by rw[e];simp)
   refine⟨h',v,v5,v6,.int .i64 (pre.length:Int),v12,v13,v14,fun K=> ?_,ha,g⟩
   rw[aF ia.eq_1]
   simp only[sim,ag,reduceAdd,reduceSub,replicate,reduceCtorEq,reduceLeDiff,reduceLT,aa,d1]
 | cons l r ih=>
   intro pre h' out v v2 v5 v6 v7 v11 v12 v13 v14 e gi hj ha g
   have hpl:pre.length<links.length:=by rw[e];simp
   have d1:decide ((pre.length:Int)<(links.length:Int))=true:=decide_eq_true (by omega)
   have ix:=hv.ix .i64 pre.length (gn l) (by rw[e];simp)
   have w1:=w64 (n:=(pre.length:Int)+1) (by omega) (by omega)
   have ek:((pre++[l]).length:Int)=(pre.length:Int)+1:=by simp
   have la:ldA true 2 (gn l) 0=some (.agg (gn l)):=bq rfl
   have hlen:=gi.len
   have ha1:Acc h (h'.push [gn l]) tIn v (bh out):=by
    rcases ha with ha | ⟨id,q1,q2,q3,q4,q5⟩
    ·exact .inl ha
    ·exact .inr ⟨id,q1,q2,q3,q4,q5⟩
   have pg:∀ z,(h'.push z).cell h'.n=some z:=fun z=>aC
   have ps:∀ y z,(h'.push y).set h'.n (some z)=h'.push z:=fun y z=>bm
   obtain⟨h2,v2',u6,u12,u14,r2,a2,g2,c2,n2⟩:=OC (w:=w) (p:=p) (h':=h'.push [gn l]) (b:=h'.n) (x:=l.1) (y:=l.2) aC (Nat.lt_succ_self _) ha1 (g.trans (af.push _ _)) (by omega) hj v2 v6 v7 lv (.int .i64 (links.length:Int)) (.int .i64 (pre.length:Int)) (.bool true) v13 v14
   have hl:l∈links:=by rw[e];simp
   have gi2:j6 links q (lV a out l):=(gi.addK (List.mem_flatMap.2 ⟨l,hl,by simp⟩)).addK (List.mem_flatMap.2 ⟨l,hl,by simp⟩)
   have hj2:(lV a out l)[j]? =some a:=by
    obtain⟨e',he⟩:=zc (a:=a) (out:=out) (l:=l)
    rw[he,List.getElem?_append_left (List.getElem?_eq_some_iff.1 hj).1]
    exact hj
   obtain⟨h3,v3,u5,w6,u10,u12',u13,w14,r3,a3,g3⟩:=ih (pre++[l]) h2 (lV a out l) v2' v2 (.ptr h'.n 0 0) u6 v7 (.bool true) u12 (.bool false) u14 (by simp[e]) gi2 hj2 a2 g2
   refine⟨h3,v3,u5,w6,u10,u12',u13,w14,fun K=> ?_,a3,g3⟩
   rw[←r3 K,ek]
   simp only[gn]at ix la r2 pg
   conv=>lhs;rw[aF ia.eq_1]
   simp only[sim,ag,reduceAdd,reduceSub,replicate,reduceCtorEq,reduceLeDiff,reduceLT,aa,d1,ix,la,pg,ps]
   rw[r2]
   simp only[sim,ag,reduceAdd,reduceSub,replicate,reduceCtorEq,reduceLeDiff,reduceLT,aa,w1]
theorem NC {links:List (Int×Int)} {lv:AV} (hv:IsL tLi lv (links.map gn)) (hll:links.length≤200) {b:Nat} {p:AV} {q:Int} (hlk:∀ h',af h h'→aD false 1 h' (.ptr b 0 2)=some lv):∀ (f i:Nat) (h':AH) (out:List Int) (v:AV) (v2 v5 v6 v7 v8 v9 v10 v11 v12 v13 v14:AV),i≤out.length→2*links.length+2≤f+i→j6 links q out→Acc h h' tIn v (bh out)→af h h'→
  ∃ h'' v' V,(∀ K,aq (aj Tryz.prog po) 15 (.lp iL:: .ss []:: .blk 0::K) [.ptr b 0 0,p,v2,v,.int .i64 (i:Int),v5,v6,v7,v8,v9,v10,v11,v12,v13,v14] [] h'=aq (aj Tryz.prog po) 15 K (.ptr b 0 0::p::v2::v'::V) [] h'')∧V.length=11∧
    Acc h h'' tIn v' (bh (ii links f i out))∧af h h'':=by
 intro f
 induction f with
 | zero=>
   intro i h' out v v2 v5 v6 v7 v8 v9 v10 v11 v12 v13 v14 hi hf gi ha g
   have:=gi.len
   omega
 | succ f ih=>
   intro i h' out v v2 v5 v6 v7 v8 v9 v10 v11 v12 v13 v14 hi hf gi ha g
   have hvo:=Cq ha
   unfold ii
   by_cases hlt:i<out.length
   ·rw[if_pos hlt]
    have d1:decide ((i:Int)<(out.length:Int))=true:=decide_eq_true (by omega)
    have hj:out[i]? =some (out.getD i 0):=by simp[List.getD,hlt]
    have f2:aI 2 (.ptr b 0 0)=some (.ptr b 0 2):=rfl
    have ld:=hlk h' g
    have hlen:=gi.len
    have w1:=w64 (n:=(i:Int)+1) (by omega) (by omega)
    have ek:((i+1:Nat):Int)=(i:Int)+1:=by omega
    obtain⟨h2,v2',u5,u6,u10,u12,u13,u14,r2,a2,g2⟩:=NM (w:= .ptr b 0 0) (p:=p) hv hll (a:=out.getD i 0) (j:=i) (q:=q) links [] h' out v v2 v5 v6 (.bool true) v11 v12 v13 v14 rfl gi hj ha g
    have gi2:j6 links q (links.foldl (lV (out.getD i 0)) out):=j6.fold links out (fun l hl=>hl) gi
    obtain⟨e',he⟩:=sT (a:=out.getD i 0) links out
    obtain⟨h3,v3,V,r3,hV,a3,g3⟩:=ih (i+1) h2 (links.foldl (lV (out.getD i 0)) out) v2' v2 u5 u6 (.bool true) lv (.int .i64 (links.length:Int)) u10 (.bool false) u12 u13 u14 (by rw[he];simp;omega) (by omega) gi2 a2 g2
    refine⟨h3,v3,V,fun K=> ?_,hV,a3,g3⟩
    rw[←r3 K,ek]
    simp only[List.length_nil,Int.natCast_zero]at r2
    conv=>lhs;rw[aF iL.eq_1]
    simp only[sim,ag,reduceAdd,reduceSub,replicate,reduceCtorEq,reduceLeDiff,reduceLT,aa,hvo.len,hvo.fits,List.length_map,d1,f2,ld,hv.len,hv.fits]
    rw[r2]
    simp only[sim,ag,reduceAdd,reduceSub,replicate,reduceCtorEq,reduceLeDiff,reduceLT,aa,w1]
   ·rw[if_neg hlt]
    have d1:decide ((i:Int)<(out.length:Int))=false:=decide_eq_false (by omega)
    refine⟨h',v,[.int .i64 (i:Int),v5,v6,.bool false,v8,v9,v10,v11,v12,v13,v14],fun K=> ?_,rfl,ha,g⟩
    rw[aF iL.eq_1]
    simp only[sim,ag,reduceAdd,reduceSub,replicate,reduceCtorEq,reduceLeDiff,reduceLT,aa,hvo.len,hvo.fits,List.length_map,d1]
theorem AI {links:List (Int×Int)} {lv:AV} (hv:IsL tLi lv (links.map gn)) (hll:links.length≤200) {b:Nat} (hlk:∀ h',af h h'→aD false 1 h' (.ptr b 0 2)=some lv) (p:Int):aj Tryz.prog po 71 [.ptr b 0 0,.int .i64 p] h=some (.inl (dD tIn (bh (gy links p))),h):=by
 have ha:Acc h (h.fresh 1) tIn (.isl (some h.ids) tIn [[.int .i64 p]]) (bh [p]):= .inr ⟨h.ids,by simp,Nat.le_refl _,Nat.lt_succ_self _,jR,rfl⟩
 obtain⟨h2,v',V,r2,hV,a2,g2⟩:=NC (p:= .int .i64 p) (q:=p) hv hll hlk (2*links.length+2) 0 (h.fresh 1) [p] _ .nils .junk .junk .junk .junk .junk .junk .junk .junk .junk .junk (Nat.zero_le _) (by omega) (ph links p) ha (af.fresh h 1)
 have hw:=sc a2 (fun r hr=>by obtain⟨x,_,rfl⟩:=List.mem_map.1 hr;rfl)
 have e:ii links (2*links.length+2) 0 [p]=gy links p:=rfl
 rw[e]at hw
 simp only[Int.natCast_zero]at r2
 match V,hV with
 | [x4,x5,x6,x7,x8,x9,x10,x11,x12,x13,x14],_=>
   refine ah Ec rfl ?_;unfold uD
   simp only[sim,ag,reduceAdd,reduceSub,replicate,reduceCtorEq,reduceLeDiff,reduceLT,aa]
   rw[r2]
   simp only[sim,ag,reduceAdd,reduceSub,replicate,reduceCtorEq,reduceLeDiff,reduceLT,aa]
   exact aA g2 hw
theorem FY {g:iX} {c r:Int} {b4 b5 b7:Nat} {all:List Int} (h4:h.cell b4=some [[.int .i64 c]]) (h5:h.cell b5=some [[.int .i64 r]]) (h7:h.cell b7=some [[dD tIn (bh all)]]) (l4:b4<h.n) (l5:b5<h.n) (l7:b7<h.n) (hl:all.length≤1000000):
  aj Tryz.prog po 73 [.agg (gq g),.ptr b4 0 0,.ptr b5 0 0,.ptr b7 0 0] h=some (.inl (.bool (decide (g.cell=c) && (decide (fJ g.rights r=r) && all.contains g.plugin))),h):=by
 have pg:∀ z,(h.push z).cell h.n=some z:=fun z=>aC
 have p4:∀ z,(h.push z).cell b4=some [[.int .i64 c]]:=fun z=>by rw[aN l4];exact h4
 have p5:∀ z,(h.push z).cell b5=some [[.int .i64 r]]:=fun z=>by rw[aN l5];exact h5
 have p7:∀ z,(h.push z).cell b7=some [[dD tIn (bh all)]]:=fun z=>by rw[aN l7];exact h7
 have cn:=fun(h:AH)=>mH (h:=h) (kq tIn (bh all)) (by omega) g.plugin
 have hm:∀ x y:Int,IntKind.wrap .i64 ((BitVec.ofInt IntKind.i64.bits x &&& BitVec.ofInt IntKind.i64.bits y).toNat:Int)=fJ x y:=fun x y=>rfl
 simp only[gq]at*
 refine ah HE rfl ?_;unfold yD
 cases d1:decide (g.cell=c)with
 | false=>
   simp only[sim,ag,reduceAdd,reduceSub,replicate,reduceCtorEq,reduceLeDiff,reduceLT,aa,pg,p4,p5,p7,d1]
   exact aA (af.push h _) rfl
 | true=>
   cases d2:decide (fJ g.rights r=r)with
   | false=>
     simp only[sim,ag,reduceAdd,reduceSub,replicate,reduceCtorEq,reduceLeDiff,reduceLT,aa,pg,p4,p5,p7,d1,hm,d2]
     exact aA (af.push h _) rfl
   | true=>
     simp only[sim,ag,reduceAdd,reduceSub,replicate,reduceCtorEq,reduceLeDiff,reduceLT,aa,pg,p4,p5,p7,d1,hm,d2,cn]
     exact aA (af.push h _) rfl
theorem Ay {v:AV} {gs:List iX} (hv:IsL tGi v (gs.map gq)) (hl:gs.length≤1000000) {f:FuncId} {caps:List AV} {P:iX→Bool} (hf:∀ g∈gs,aj Tryz.prog po f (.agg (gq g)::caps) h=some (.inl (.bool (P g)),h)):∀ (r pre:List iX) (v3 v6 v7:AV),gs=pre++r→pre.any P=false→
  ∃ V,(∀ K,aq (aj Tryz.prog po) 8 (.lp fX:: .ss []:: .blk 0::(.ss [.ops [(.i (.v 2) (.mv (.c (.int .i64 (-1)))))],.ret])::K) [v,.fn f [] caps,.int .i64 0,v3,.int .i64 (gs.length:Int),.int .i64 (pre.length:Int),v6,v7] [] h=some (.ret,V,h))∧∃ n:Int,V.getD 2 .junk= .int .i64 n∧decide (0≤n)=gs.any P:=by
 intro r
 induction r with
 | nil=>
   intro pre v3 v6 v7 e hc
   have d1:decide ((pre.length:Int)<(gs.length:Int))=false:=decide_eq_false (by rw[e];simp)
   refine⟨[v,.fn f [] caps,.int .i64 (-1),v3,.int .i64 (gs.length:Int),.int .i64 (pre.length:Int),.bool false,v7],fun K=> ?_, -1,rfl,?_⟩
   ·rw[aF fX.eq_1]
    simp only[sim,ag,reduceAdd,reduceSub,replicate,reduceCtorEq,reduceLeDiff,reduceLT,aa,d1]
   ·rw[e,List.append_nil,hc];rfl
 | cons g r ih=>
   intro pre v3 v6 v7 e hc
   have d1:decide ((pre.length:Int)<(gs.length:Int))=true:=decide_eq_true (by rw[e];simp;omega)
   have ix:=hv.ix .i64 pre.length (gq g) (by rw[e];simp)
   have la:ldA true 3 (gq g) 0=some (.agg (gq g)):=bq rfl
   have hpl:pre.length<gs.length:=by rw[e];simp
   have w:=w64 (n:=(pre.length:Int)+1) (by omega) (by omega)
   have hg:=hf g (by rw[e];simp)
   cases hy:P g with
   | true=>
     rw[hy]at hg
     refine⟨[v,.fn f [] caps,.int .i64 (pre.length:Int),.int .i64 (pre.length:Int),.int .i64 (gs.length:Int),.int .i64 (pre.length:Int),.bool true,.bool true],fun K=> ?_,(pre.length:Int),rfl,?_⟩
     ·rw[aF fX.eq_1]
      simp only[sim,ag,reduceAdd,reduceSub,replicate,reduceCtorEq,reduceLeDiff,reduceLT,aa,ay,d1,ix,la,hg]
     ·rw[e];simp[hy]
   | false=>
     rw[hy]at hg
     have ek:((pre++[g]).length:Int)=(pre.length:Int)+1:=by simp
     obtain⟨V,r1,r2⟩:=ih (pre++[g]) (.int .i64 (pre.length:Int)) (.bool true) (.bool false) (by simp[e]) (by simp[hc,hy])
     refine⟨V,fun K=> ?_,r2⟩
     rw[←r1 K,ek]
     conv=>lhs;rw[aF fX.eq_1]
     simp only[sim,ag,reduceAdd,reduceSub,replicate,reduceCtorEq,reduceLeDiff,reduceLT,aa,ay,d1,ix,la,hg,w]
end
theorem PJ {e:TypeId} {rows:List (List AV)} {k:Nat} (hk:k≤rows.length):∃ v,fz (dD e rows) (some (.int .i64 (k:Int))) none=some v∧IsL e v (rows.drop k):=by
 unfold dD
 by_cases hz:rows=[]
 ·subst hz
  have:k=0:=by simpa using hk
  subst this
  exact⟨.nils,by simp[fz,loA,hiA,dH,pj],iP e⟩
 ·rw[if_neg hz]
  refine⟨.isl none e (rows.drop k),?_,kA _ _ _⟩
  have h2:(rows.drop k).take (rows.length - k)=rows.drop k:=List.take_of_length_le (by simp)
  simp[fz,loA,hiA,dH,pj,hk,h2]
section
variable {h h' h0:AH} {F J F0 J0:Nat→Prop} {L:List Asn} {b hb:Nat} {gs:List iX} {ls:List (Int×Int)} {cd at_ n:Int}
theorem kI (x:(dx b hb gs ls cd at_ n).A h F J):∃ gv lv,St h F J h [ai b [[.ptr hb 0 0,gv,lv,.int .i64 cd,.int .i64 at_,.int .i64 n]],db tGi gv (gs.map gq),db tLi lv (ls.map gn)]:=by
 obtain⟨⟨gv,lv⟩,F1,J1,F2,J2,x1,x2,r⟩:=x
 exact⟨gv,lv,St.start ⟨F1,J1,F2,J2,x1,aX.two x2,r⟩⟩
theorem aX.three {X Y Z:Asn} (x:(aX [X,Y,Z]).A h F J):(dw X (dw Y Z)).A h F J:=by
 obtain⟨F1,J1,F2,J2,x1,x2,r⟩:=x
 refine⟨F1,J1,F2,J2,x1,?_,r⟩
 obtain⟨F3,J3,F4,J4,y,z,r2⟩:=x2
 exact⟨F3,J3,F4,J4,y,aX.one' z,r2⟩
theorem pC {gv lv:AV} (s:St h0 F0 J0 h [ai b [[.ptr hb 0 0,gv,lv,.int .i64 cd,.int .i64 at_,.int .i64 n]],db tGi gv (gs.map gq),db tLi lv (ls.map gn)]):Did h0 F0 J0 h (dx b hb gs ls cd at_ n):=
 Did.imp (fun _ _ _ x=>⟨(gv,lv),aX.three x⟩) s
theorem yO {e:TypeId} {v:AV} {rows:List (List AV)} (x:(db e v rows).A h F J):IsL e v rows∧v.one=true∧v.cells=[v]:=by
 rcases x with⟨⟨rfl,rfl⟩,_⟩ | ⟨id,⟨_,rfl⟩,_⟩
 ·exact⟨iP e,rfl,rfl⟩
 ·exact⟨kA _ _ _,rfl,rfl⟩
structure Kp (h:AH) (b hb:Nat) (gs:List iX) (ls:List (Int×Int)) (cd at_ n:Int) (gv lv:AV):Prop where
 c:h.cell b=some [[.ptr hb 0 0,gv,lv,.int .i64 cd,.int .i64 at_,.int .i64 n]]
 lt:b<h.n
 g:IsL tGi gv (gs.map gq)
 l:IsL tLi lv (ls.map gn)
theorem gH (s:St h0 F0 J0 h L) (i:Nat) (hi:L[i]? =some (dx b hb gs ls cd at_ n)):∃ gv lv,Kp h b hb gs ls cd at_ n gv lv:=by
 obtain⟨F,J,x⟩:=s.get i hi
 obtain⟨gv,lv,s1⟩:=kI x
 have c:=s1.cell 0 rfl
 obtain⟨F1,J1,x1⟩:=s1.get 1 rfl
 obtain⟨F2,J2,x2⟩:=s1.get 2 rfl
 exact⟨gv,lv,c.1,c.2,(yO x1).1,(yO x2).1⟩
theorem tU {v:AV} {gs:List iX} (hv:IsL tGi v (gs.map gq)) (hl:gs.length≤1000000) {f:FuncId} {caps:List AV} {P:iX→Bool} (hf:∀ g∈gs,aj Tryz.prog po f (.agg (gq g)::caps) h=some (.inl (.bool (P g)),h)):
  aj Tryz.prog po 72 [v,.fn f [] caps] h=some (.inl (.bool (gs.any P)),h):=by
 obtain⟨V,r1,n,r2,r3⟩:=Ay (h:=h) hv hl hf gs [] .junk .junk .junk rfl rfl
 simp only[List.length_nil,Int.natCast_zero]at r1
 have e1:aj Tryz.prog po 101 [v,.fn f [] caps] h=some (.inl (.int .i64 n),h):=by
  refine ah D4 rfl ?_;unfold vK
  simp only[sim,ag,reduceAdd,reduceSub,replicate,reduceCtorEq,reduceLeDiff,reduceLT,aa,hv.len,hv.fits,List.length_map]
  rw[r1]
  simp only[sim,ag,reduceAdd,reduceSub,replicate,reduceCtorEq,reduceLeDiff,reduceLT,aa,r2]
 refine ah wm rfl ?_;unfold oO
 simp only[sim,ag,reduceAdd,reduceSub,replicate,reduceCtorEq,reduceLeDiff,reduceLT,aa,e1,r3]
theorem Bw (ls:List (Int×Int)) (p:Int):(gy ls p).length≤2*ls.length+1:=by
 have key:∀ (f i:Nat) (out:List Int),j6 ls p out→j6 ls p (ii ls f i out):=by
  intro f
  induction f with
  | zero=>exact fun i out g=>g
  | succ f ih=>
    intro i out g
    unfold ii
    split
    ·exact ih _ _ (j6.fold ls out (fun l hl=>hl) g)
    ·exact g
 exact(key _ _ _ (ph ls p)).len
theorem nD (s:St h0 F0 J0 h L) (i:Nat) (hi:L[i]? =some (dx b hb gs ls cd at_ n)) (hg:gs.length≤200) (hl:ls.length≤200) (p c r:Int):aj Tryz.prog po 37 [.ptr b 0 0,.int .i64 p,.int .i64 c,.int .i64 r] h=some (.inl (.bool (oM gs ls p c r)),h):=by
 obtain⟨gv,lv,wv⟩:=gH s i hi
 have s1:=s.push [[.int .i64 c]]
 have s2:=s1.push [[.int .i64 r]]
 have hlk:∀ h',af ((h.push [[.int .i64 c]]).push [[.int .i64 r]]) h'→aD false 1 h' (.ptr b 0 2)=some lv:=fun h' g=>by
  have e:h'.cell b=h.cell b:=by
   rw[g.cell b (by have:=wv.lt;simp only[aJ];omega),aN (by have:=wv.lt;simp only[aJ];omega),aN wv.lt]
  rw[bC,e,wv.c]
  rfl
 have gr:=AI (h:=(h.push [[.int .i64 c]]).push [[.int .i64 r]]) wv.l hl hlk p
 have s3:=s2.push [[dD tIn (bh (gy ls p))]]
 have c7:=s3.cell 0 rfl
 have c5:=s3.cell 1 rfl
 have c4:=s3.cell 2 rfl
 obtain⟨gv3,lv3,wv3⟩:=gH s3 (i+1+1+1) hi
 have eg:gv3=gv:=by
  have:=wv3.c
  rw[aN (by have:=wv.lt;simp only[aJ];omega),aN (by have:=wv.lt;simp only[aJ];omega),aN wv.lt,wv.c]at this
  simp at this
  exact this.1.symm
 subst eg
 have f1:aI 1 (.ptr b 0 0)=some (.ptr b 0 1):=rfl
 have l1:aD false 1 (((h.push [[.int .i64 c]]).push [[.int .i64 r]]).push [[dD tIn (bh (gy ls p))]]) (.ptr b 0 1)=some gv3:=by rw[bC,wv3.c];rfl
 have cg:=tU (h:=((h.push [[.int .i64 c]]).push [[.int .i64 r]]).push [[dD tIn (bh (gy ls p))]]) wv.g (by omega) (f:=73) (caps:=[.ptr h.n 0 0,.ptr (h.n+1) 0 0,.ptr (h.n+1+1) 0 0]) (P:=fun g=>decide (g.cell=c) && (decide (fJ g.rights r=r) && (gy ls p).contains g.plugin)) (fun g _=>FY c4.1 c5.1 c7.1 c4.2 c5.2 c7.2 (by have:=Bw ls p;omega))
 have hlo:(dD tIn (bh (gy ls p))).one=true∧(dD tIn (bh (gy ls p))).cells=[dD tIn (bh (gy ls p))]:=by
  unfold dD
  split<;>exact⟨rfl,rfl⟩
 have m3:∀ y z,((((h.push [[.int .i64 c]]).push [[.int .i64 r]]).push y).set (h.n+1+1) (some z))=((h.push [[.int .i64 c]]).push [[.int .i64 r]]).push z:=fun y z=>bm
 have m4:∀ y,((((h.push [[.int .i64 c]]).push [[.int .i64 r]]).push y).cell (h.n+1+1))=some y:=fun y=>aC
 unfold oM
 generalize dD tIn (bh (gy ls p))=gl at*
 refine ah Lr rfl ?_;unfold Cy
 simp only[sim,ag,reduceAdd,reduceSub,replicate,reduceCtorEq,reduceLeDiff,reduceLT,aa,ay,gr,hlo,m3,m4,f1,l1,cg]
 exact aA (((af.push h _).trans (af.push _ _)).trans (af.push _ _)) rfl
end
structure WaC extends HoC where
 wt:Nat
abbrev cV (c:WaC) (W:WaD):List Asn:=dx c.wt c.hb W.gifts W.links W.code W.at_ W.n::df c.toHoC W.H
structure OkW (k:Nat) (W:WaD):Prop where
 h:yC k W.H
 g:W.gifts.length≤k
 l:W.links.length≤k
 n:W.n=(k:Int)
section
variable {h h' h0:AH} {F J F0 J0:Nat→Prop} {L:List Asn} {b hb:Nat} {gs:List iX} {ls:List (Int×Int)} {cd at_ n:Int}
theorem BJ (s0:St h0 F0 J0 h L) (i:Nat) (hi:L[i]? =some (dx b hb gs ls cd at_ n)) (hl:gs.length≤1000) (g:iX) {gv lv:AV} (wv:Kp h b hb gs ls cd at_ n gv lv):
  ∃ v' h1 h2,aE false tGi gv (.isl (some h.ids) tGi [gq g]) (h.fresh 1)=some (v',h1)∧v'.one=true∧v'.cells=[v']∧h1.cell=h.cell∧aH 1 h1 (.ptr b 0 1) v'=some h2∧St h0 F0 J0 h2 (L.set i (dx b hb (gs++[g]) ls cd at_ n)):=by
 obtain⟨h2,⟨v',h1⟩,⟨e1,e2,e3,e4,e5⟩,s'⟩:=s0.callE (R:=fun h2 (q:AV×AH)=>aE false tGi gv (.isl (some h.ids) tGi [gq g]) (h.fresh 1)=some (q.1,q.2)∧q.1.one=true∧q.1.cells=[q.1]∧q.2.cell=h.cell∧aH 1 q.2 (.ptr b 0 1) q.1=some h2) i hi (Y:=fun _=>dx b hb (gs++[g]) ls cd at_ n) fun F J x=>by
  obtain⟨gv',lv',s⟩:=kI x
  have c0:=s.cell 0 rfl
  have e:=wv.c
  rw[c0.1]at e
  simp at e
  obtain⟨rfl,rfl⟩:=e
  obtain⟨F1,J1,x1⟩:=s.get 1 rfl
  obtain⟨h1,v',⟨a1,a2,a3,a4⟩,s1⟩:=s.callE (R:=fun h1 (v':AV)=>aE false tGi gv' (.isl (some h.ids) tGi [gq g]) (h.fresh 1)=some (v',h1)∧v'.one=true∧v'.cells=[v']∧h1.cell=h.cell) 1 rfl (Y:=fun v'=>db tGi v' ((gs++[g]).map gq)) fun F J x=>by
   obtain⟨v',h1,a1,a2,a3,a4,_,a5⟩:=jL x (row:=gq g) rfl (by simp;omega)
   exact⟨h1,v',⟨a1,a2,a3,a5⟩,by simpa using a4⟩
  have c1:=s1.cell 0 rfl
  have s2:=s1.set 0 rfl [[.ptr hb 0 0,v',lv',.int .i64 cd,.int .i64 at_,.int .i64 n]]
  refine⟨_,(v',h1),⟨a1,a2,a3,a4,?_⟩,pC s2⟩
  rw[bo c1.1 rfl (by rw[a3];simp[a2]) (by rw[a3];rfl) (by simp)]
  rw[a3]
  rfl
 exact⟨v',h1,h2,e1,e2,e3,e4,e5,s'⟩
theorem B5 (s0:St h0 F0 J0 h L) (i:Nat) (hi:L[i]? =some (dx b hb gs ls cd at_ n)) (hl:ls.length≤1000) (g:Int×Int) {gv lv:AV} (wv:Kp h b hb gs ls cd at_ n gv lv):
  ∃ v' h1 h2,aE false tLi lv (.isl (some h.ids) tLi [gn g]) (h.fresh 1)=some (v',h1)∧v'.one=true∧v'.cells=[v']∧h1.cell=h.cell∧aH 1 h1 (.ptr b 0 2) v'=some h2∧St h0 F0 J0 h2 (L.set i (dx b hb gs (ls++[g]) cd at_ n)):=by
 obtain⟨h2,⟨v',h1⟩,⟨e1,e2,e3,e4,e5⟩,s'⟩:=s0.callE (R:=fun h2 (q:AV×AH)=>aE false tLi lv (.isl (some h.ids) tLi [gn g]) (h.fresh 1)=some (q.1,q.2)∧q.1.one=true∧q.1.cells=[q.1]∧q.2.cell=h.cell∧aH 1 q.2 (.ptr b 0 2) q.1=some h2) i hi (Y:=fun _=>dx b hb gs (ls++[g]) cd at_ n) fun F J x=>by
  obtain⟨gv',lv',s⟩:=kI x
  have c0:=s.cell 0 rfl
  have e:=wv.c
  rw[c0.1]at e
  simp at e
  obtain⟨rfl,rfl⟩:=e
  obtain⟨h1,v',⟨a1,a2,a3,a4⟩,s1⟩:=s.callE (R:=fun h1 (v':AV)=>aE false tLi lv' (.isl (some h.ids) tLi [gn g]) (h.fresh 1)=some (v',h1)∧v'.one=true∧v'.cells=[v']∧h1.cell=h.cell) 2 rfl (Y:=fun v'=>db tLi v' ((ls++[g]).map gn)) fun F J x=>by
   obtain⟨v',h1,a1,a2,a3,a4,_,a5⟩:=jL x (row:=gn g) rfl (by simp;omega)
   exact⟨h1,v',⟨a1,a2,a3,a5⟩,by simpa using a4⟩
  have c1:=s1.cell 0 rfl
  have s2:=s1.set 0 rfl [[.ptr hb 0 0,gv',v',.int .i64 cd,.int .i64 at_,.int .i64 n]]
  refine⟨_,(v',h1),⟨a1,a2,a3,a4,?_⟩,pC s2⟩
  rw[bo c1.1 rfl (by rw[a3];simp[a2]) (by rw[a3];rfl) (by simp)]
  rw[a3]
  rfl
 exact⟨v',h1,h2,e1,e2,e3,e4,e5,s'⟩
theorem qO (s0:St h0 F0 J0 h L) (i:Nat) (hi:L[i]? =some (dx b hb gs ls cd at_ n)) (cd' at' n':Int) {row:List AV} {gv lv:AV} (wv:Kp h b hb gs ls cd at_ n gv lv):St h0 F0 J0 (h.set b (some [[.ptr hb 0 0,gv,lv,.int .i64 cd',.int .i64 at',.int .i64 n']])) (L.set i (dx b hb gs ls cd' at' n')):=by
 obtain⟨h',rfl,s'⟩:=s0.call (R:=fun h'=>h'=h.set b (some [[.ptr hb 0 0,gv,lv,.int .i64 cd',.int .i64 at',.int .i64 n']])) i hi (Y:=dx b hb gs ls cd' at' n') fun F J x=>by
  obtain⟨gv',lv',s⟩:=kI x
  have c0:=s.cell 0 rfl
  have e:=wv.c
  rw[c0.1]at e
  simp at e
  obtain⟨rfl,rfl⟩:=e
  exact⟨_,rfl,pC (s.set 0 rfl [[.ptr hb 0 0,gv',lv',.int .i64 cd',.int .i64 at',.int .i64 n']])⟩
 exact s'
theorem IE (s:St h0 F0 J0 h L) (i:Nat) (hi:L[i]? =some (dx b hb gs ls cd at_ n)) (hg:gs.length≤1000) (hl:ls.length≤1000) (x:ci) {m:AV} (hm:m.one=true):
  ∃ h',aj Tryz.prog po 70 [.ptr b 0 0,.agg (aU x m)] h=some (.inl (.tup []),h')∧St h0 F0 J0 h' (L.set i (dx b hb (if x.kind=2 then gs++[⟨x.p,x.k,x.r⟩]else gs) (if x.kind=2 then ls else if x.kind=3 then ls++[(x.p,x.q)]else ls) cd at_ n)):=by
 have s1:=s.push [aU x m]
 have c1:∀ z,(h.push z).cell h.n=some z:=fun z=>aC
 have f1:aI 1 (.ptr b 0 0)=some (.ptr b 0 1):=rfl
 have f2:aI 2 (.ptr b 0 0)=some (.ptr b 0 2):=rfl
 obtain⟨gv,lv,wv⟩:=gH s1 (i+1) hi
 have lg:aD false 1 (h.push [aU x m]) (.ptr b 0 1)=some gv:=by rw[bC,wv.c];rfl
 have ll:aD false 1 (h.push [aU x m]) (.ptr b 0 2)=some lv:=by rw[bC,wv.c];rfl
 by_cases k2:x.kind=2
 ·have d2:decide (x.kind=2)=true:=decide_eq_true k2
  rw[if_pos k2,if_pos k2]
  obtain⟨v',h1,h2,a1,a2,a3,a4,a5,s2⟩:=BJ s1 (i+1) hi hg ⟨x.p,x.k,x.r⟩ wv
  have lg2:aD false 1 ((h.push [aU x m]).fresh 1) (.ptr b 0 1)=some gv:=lg
  have a1:aE false tGi gv (.isl (some h.ids) tGi [[.int .i64 x.p,.int .i64 x.k,.int .i64 x.r]]) ((h.push [aU x m]).fresh 1)=some (v',h1):=a1
  refine⟨h2,?_,s2.drop⟩
  simp only[aU]at lg lg2 a1
  refine ah qX rfl ?_;unfold oq
  simp only[sim,ag,reduceAdd,reduceSub,replicate,reduceCtorEq,reduceLeDiff,reduceLT,aa,aU,hm,c1,f1,d2,lg,lg2,a1,a2,a3,a5]
 ·have d2:decide (x.kind=2)=false:=decide_eq_false k2
  rw[if_neg k2,if_neg k2]
  by_cases k3:x.kind=3
  ·have d3:decide (x.kind=3)=true:=decide_eq_true k3
   rw[if_pos k3]
   obtain⟨v',h1,h2,a1,a2,a3,a4,a5,s2⟩:=B5 s1 (i+1) hi hl (x.p,x.q) wv
   have ll2:aD false 1 ((h.push [aU x m]).fresh 1) (.ptr b 0 2)=some lv:=ll
   have a1:aE false tLi lv (.isl (some h.ids) tLi [[.int .i64 x.p,.int .i64 x.q]]) ((h.push [aU x m]).fresh 1)=some (v',h1):=a1
   refine⟨h2,?_,s2.drop⟩
   simp only[aU]at ll ll2 a1
   refine ah qX rfl ?_;unfold oq
   simp only[sim,ag,reduceAdd,reduceSub,replicate,reduceCtorEq,reduceLeDiff,reduceLT,aa,aU,hm,c1,f2,d2,d3,ll,ll2,a1,a2,a3,a5]
  ·have d3:decide (x.kind=3)=false:=decide_eq_false k3
   rw[if_neg k3]
   refine⟨h.push [aU x m],?_,?_⟩
   ·refine ah qX rfl ?_;unfold oq
    simp only[sim,ag,reduceAdd,reduceSub,replicate,reduceCtorEq,reduceLeDiff,reduceLT,aa,aU,hm,c1,d2,d3]
   ·rw[D9 hi]
    exact s1.drop
end
section
variable {α β:Type} {d:Nat}
def je (z:β) (q:StD×α×Int) (k:StD→α→StD×β×Int):StD×β×Int:=match q with
 | (S,v,c)=>if c≠0 then(S,z,c)else k S v
end
theorem yp (f:XD→StD→StD×VD×Int) (x:XD) (l:List XD) (S:StD) (acc:List VD):evL f (x::l) S acc=je [] (f x S) fun S' v=>evL f l S' (acc++[v]):=rfl
theorem ym (ms:aM) (N:Nat) (p:Int) (x:XD) (arg:VD) (names:List VD) (fr:Nat) (S:StD):ofD ms (N+1) p x arg names fr S=
  if S.left=0 then S.no 12
  else match dV p x arg names S.tick with
  | some v=>S.tick.ok v
  | none=>
    if x.op=5 then je au (ofD ms N p (x.l.getD 0 cz) arg names fr S.tick) fun S' v=>ofD ms N p (x.l.getD 1 cz) arg (names++[v]) fr S'
    else if x.op=7 then je au (ofD ms N p (x.l.getD 0 cz) arg names fr S.tick) fun S' v=>if v.kind≠1 then S'.no 2 else if v.n≠0 then ofD ms N p (x.l.getD 1 cz) arg names fr S' else ofD ms N p (x.l.getD 2 cz) arg names fr S'
    else je au (evL (fun y S=>ofD ms N p y arg names fr S) x.l S.tick []) fun S' l=>
     if x.op=18 then(if fr=20 then S'.no 4 else ofD ms N p (cS ms p x.k) (l.getD 0 au) [] (fr+1) S')
     else if x.op=19 then je au (eX ms (l.getD 0 au) (l.getD 1 au) fr S') fun S2 q=>je au (ofD ms N q.plugin (cS ms q.plugin q.func) q.arg [] (fr+1) S2) fun S3 v=>eC q.gates v S3
     else bH p x.op x.k x.n l S':=by
 rw[ofD]
 rfl
def iG {α:Type} (S:StD) (q:StD×α×Int):Prop:=S.log<+:q.1.log
section
variable {α β:Type}
theorem iG.same {S:StD} {q:StD×α×Int} (h:q.1.log=S.log):iG S q:=by unfold iG;rw[h];exact List.prefix_refl _
theorem iG.bind {S:StD} {q:StD×α×Int} {z:β} {k:StD→α→StD×β×Int} (h:iG S q) (hk:∀ T v,iG T (k T v)):iG S (je z q k):=by
 obtain⟨T,v,c⟩:=q
 unfold je
 simp only
 split
 ·exact h
 ·exact List.IsPrefix.trans h (hk T v)
theorem iG.ite {S:StD} {p:Prop} [Decidable p] {a b:StD×α×Int} (h1:iG S a) (h2:iG S b):iG S (if p then a else b):=by split<;>assumption
end
theorem IV (S:StD) (q:ae×Int×Int):iG S (xJ S q):=by
 unfold xJ
 exact .ite (.same rfl) (.same rfl)
theorem Ej (p op k n:Int) (l:List VD) (S:StD):iG S (bH p op k n l S):=by
 unfold bH
 repeat' (first | exact iG.same rfl | exact IV _ _ | exact List.prefix_append _ _ | refine iG.ite ?_ ?_)
theorem Ht (ms:aM) (v x:VD) (fr:Nat) (S:StD):iG S (eX ms v x fr S):=by
 unfold eX
 repeat' (first | exact iG.same rfl | refine iG.ite ?_ ?_)
theorem EV (gates:List Int) (v:VD) (S:StD):iG S (eC gates v S):=by
 unfold eC
 exact .ite (.same rfl) (.same rfl)
theorem Ct {f:XD→StD→StD×VD×Int} (hf:∀ x S,iG S (f x S)):∀ (l:List XD) (S:StD) (acc:List VD),iG S (evL f l S acc)
 | [],S,acc=> .same rfl
 | x::l,S,acc=>by
   rw[yp]
   exact(hf x S).bind fun T v=>Ct hf l T _
theorem Di (ms:aM):∀ (N:Nat) (p:Int) (x:XD) (arg:VD) (names:List VD) (fr:Nat) (S:StD),iG S (ofD ms N p x arg names fr S)
 | 0,p,x,arg,names,fr,S=> .same rfl
 | N+1,p,x,arg,names,fr,S=>by
   have ih:=Di ms N
   have tk:∀ {q:StD×VD×Int},iG S.tick q→iG S q:=fun h=>h
   rw[ym]
   refine .ite (.same rfl) (tk ?_)
   cases dV p x arg names S.tick with
   | some v=>exact .same rfl
   | none=>
     refine .ite ((ih _ _ _ _ _ _).bind fun T v=>ih _ _ _ _ _ _) (.ite ((ih _ _ _ _ _ _).bind fun T v=> .ite (.same rfl) (.ite (ih _ _ _ _ _ _) (ih _ _ _ _ _ _))) ?_)
     refine(Ct (fun y S=>ih _ _ _ _ _ _) _ _ _).bind fun T l=> .ite (.ite (.same rfl) (ih _ _ _ _ _ _)) (.ite ?_ (Ej _ _ _ _ _ _))
     exact(Ht _ _ _ _ _).bind fun T q=>(ih _ _ _ _ _ _).bind fun T v=>EV _ _ _
theorem IC {ms:aM} {S:StD} {p f fuel:Int} {v:VD}:S.log<+:(cO ms p f v fuel S).1.log:=by
 unfold cO
 split
 ·exact List.prefix_refl _
 ·split
  ·exact List.prefix_refl _
  ·split
   ·exact List.prefix_refl _
   ·have h:=Di ms fuel.toNat p (cS ms p f) v [] 1 {S with left:=fuel.toNat}
    generalize ofD ms fuel.toNat p (cS ms p f) v [] 1 {S with left:=fuel.toNat}=q at h
    obtain⟨S',w,c⟩:=q
    exact h
theorem Aj {H:HoD} {p n c:Int}:(H.give p n c).1.S.log=H.S.log:=by
 unfold HoD.give
 split<;>rfl
theorem Et (H:HoD) (x:ci):H.S.log<+:(H.step x).1.S.log:=by
 have same:∀ {l:List cE},l=H.S.log→H.S.log<+:l:=fun h=>by rw[h];exact List.prefix_refl _
 unfold HoD.step
 split
 ·unfold HoD.load
  split
  ·exact same rfl
  ·split<;>exact same rfl
 ·split
  ·split
   ·exact same rfl
   ·split
    ·exact same Aj
    ·exact same Aj
  ·split
   ·unfold HoD.call
    split
    ·exact same rfl
    ·have:=IC (ms:=H.ms) (S:=H.S) (p:=x.p) (f:=x.k) (fuel:=2000) (v:=if 0≤x.h then(H.hand x.p).getD x.h.toNat au else iH x.n)
     generalize cO H.ms x.p x.k (if 0≤x.h then(H.hand x.p).getD x.h.toNat au else iH x.n) 2000 H.S=q at this
     obtain⟨S',v,n,c⟩:=q
     exact this
   ·split
    ·exact same rfl
    ·split<;>exact same rfl
abbrev waA (b hb:Nat) (W:WaD):Asn:=dx b hb W.gifts W.links W.code W.at_ W.n
theorem yV (W:WaD) (y:cE):(W.see y).gifts=W.gifts∧(W.see y).links=W.links∧(W.see y).n=W.n∧(W.see y).H=W.H:=by
 unfold WaD.see
 split<;>exact⟨rfl,rfl,rfl,rfl⟩
theorem l8:∀ (l:List cE) (W:WaD),(l.foldl WaD.see W).gifts=W.gifts∧(l.foldl WaD.see W).links=W.links∧(l.foldl WaD.see W).n=W.n∧(l.foldl WaD.see W).H=W.H
 | [],W=>⟨rfl,rfl,rfl,rfl⟩
 | y::l,W=>by
   obtain⟨a1,a2,a3,a4⟩:=yV W y
   obtain⟨b1,b2,b3,b4⟩:=l8 l (W.see y)
   exact⟨b1.trans a1,b2.trans a2,b3.trans a3,b4.trans a4⟩
section
variable {h h' h0:AH} {F J F0 J0:Nat→Prop} {L:List Asn} {b hb:Nat}
theorem Gk {i:Nat} (hil:i<L.length) {v9:AV} {es:List cE} (hv:IsL tEn v9 (es.map eE)) (hel:es.length≤1000000):∀ (r pre:List cE) (h':AH) (W:WaD) (v1 v2 v3 v4 v5 v6 v7 v8 v12 v13:AV),es=pre++r→W.gifts.length≤200→W.links.length≤200→St h0 F0 J0 h' (L.set i (waA b hb W))→
  ∃ h'' w7 w11 w13,(∀ K,aq (aj Tryz.prog po) 14 (.lp gF:: .ss []:: .blk 0::K) [.ptr b 0 0,v1,v2,v3,v4,v5,v6,v7,v8,v9,.int .i64 (es.length:Int),.int .i64 (pre.length:Int),v12,v13] [] h'=aq (aj Tryz.prog po) 14 K [.ptr b 0 0,v1,v2,v3,v4,v5,v6,w7,v8,v9,.int .i64 (es.length:Int),w11,.bool false,w13] [] h'')∧St h0 F0 J0 h'' (L.set i (waA b hb (r.foldl WaD.see W))):=by
 intro r
 induction r with
 | nil=>
   intro pre h' W v1 v2 v3 v4 v5 v6 v7 v8 v12 v13 e hg hl s
   have d1:decide ((pre.length:Int)<(es.length:Int))=false:=decide_eq_false (by rw[e];simp)
   refine⟨h',v7,.int .i64 (pre.length:Int),v13,fun K=> ?_,s⟩
   rw[aF gF.eq_1]
   simp only[sim,ag,reduceAdd,reduceSub,replicate,reduceCtorEq,reduceLeDiff,reduceLT,aa,d1]
 | cons y r ih=>
   intro pre h' W v1 v2 v3 v4 v5 v6 v7 v8 v12 v13 e hg hl s
   have hpl:pre.length<es.length:=by rw[e];simp
   have d1:decide ((pre.length:Int)<(es.length:Int))=true:=decide_eq_true (by omega)
   have ix:=hv.ix .i64 pre.length (eE y) (by rw[e];simp)
   have w1:=w64 (n:=(pre.length:Int)+1) (by omega) (by omega)
   have ek:((pre++[y]).length:Int)=(pre.length:Int)+1:=by simp
   have la:ldA true 4 (eE y) 0=some (.agg (eE y)):=bq rfl
   have s1:=s.push [eE y]
   have hi:(ai h'.n [eE y]::L.set i (waA b hb W))[i+1]? =some (waA b hb W):=by
    rw[List.getElem?_cons_succ,List.getElem?_set_self hil]
   have my:=nD s1 (i+1) hi hg hl y.plugin y.cell y.right
   obtain⟨gv,lv,wv⟩:=gH s1 (i+1) hi
   have pg:∀ z,(h'.push z).cell h'.n=some z:=fun z=>aC
   have ps:∀ y z,(h'.push y).set h'.n (some z)=h'.push z:=fun y z=>bm
   have f3:aI 3 (.ptr b 0 0)=some (.ptr b 0 3):=rfl
   have f3':aI 0 (.ptr b 0 3)=some (.ptr b 0 3):=rfl
   have f5:aI 5 (.ptr b 0 0)=some (.ptr b 0 5):=rfl
   have wc:=wv.c
   obtain⟨z1,z2,z3,_⟩:=yV W y
   -- what comes of it
   have go:∀ (hh:AH) (w13:AV),St h0 F0 J0 hh (L.set i (waA b hb (W.see y)))→∃ h'' w7 w11 w13',(∀ K,aq (aj Tryz.prog po) 14 (.lp gF:: .ss []:: .blk 0::K) [.ptr b 0 0,v1,v2,v3,v4,v5,v6,.ptr h'.n 0 0,v8,v9,.int .i64 (es.length:Int),.int .i64 ((pre.length:Int)+1),.bool true,w13] [] hh=aq (aj Tryz.prog po) 14 K [.ptr b 0 0,v1,v2,v3,v4,v5,v6,w7,v8,v9,.int .i64 (es.length:Int),w11,.bool false,w13'] [] h'')∧St h0 F0 J0 h'' (L.set i (waA b hb ((y::r).foldl WaD.see W))):=fun hh w13 sh=>by
    obtain⟨h'',w7,w11,w13',r1,s2⟩:=ih (pre++[y]) hh (W.see y) v1 v2 v3 v4 v5 v6 (.ptr h'.n 0 0) v8 (.bool true) w13 (by simp[e]) (by rw[z1];exact hg) (by rw[z2];exact hl) sh
    exact⟨h'',w7,w11,w13',fun K=>by rw[←r1 K,ek],s2⟩
   simp only[eE]at ix la my wc
   by_cases hc:W.code=0
   ·have dc:decide (W.code=0)=true:=decide_eq_true hc
    cases hm:oM W.gifts W.links y.plugin y.cell y.right with
    | true=>
      rw[hm]at my
      have hs:W.see y=W:=by unfold WaD.see;rw[if_neg (by simp[hm])]
      obtain⟨h'',w7,w11,w13',r1,s2⟩:=go (h'.push [eE y]) (.bool false) (by rw[hs];exact s1.drop)
      refine⟨h'',w7,w11,w13',fun K=> ?_,s2⟩
      rw[←r1 K]
      simp only[eE]
      conv=>lhs;rw[aF gF.eq_1]
      simp only[sim,ag,reduceAdd,reduceSub,replicate,reduceCtorEq,reduceLeDiff,reduceLT,aa,d1,ix,la,pg,ps,f3,f3',wc,dc,my,w1]
    | false=>
      rw[hm]at my
      have hs:W.see y={W with code:=14,at_:=W.n}:=by unfold WaD.see;rw[if_pos ⟨hc,hm⟩]
      have s3:=qO s1 (i+1) hi 14 W.n W.n (row:=[]) wv
      have s3:St h0 F0 J0 _ (ai h'.n [eE y]::(L.set i (waA b hb W)).set i (dx b hb W.gifts W.links 14 W.n W.n)):=s3
      rw[List.set_set]at s3
      obtain⟨h'',w7,w11,w13',r1,s2⟩:=go _ (.bool true) (by rw[hs];exact s3.drop)
      refine⟨h'',w7,w11,w13',fun K=> ?_,s2⟩
      rw[←r1 K]
      simp only[eE]
      conv=>lhs;rw[aF gF.eq_1]
      simp only[sim,ag,reduceAdd,reduceSub,replicate,reduceCtorEq,reduceLeDiff,reduceLT,aa,d1,ix,la,pg,ps,f3,f3',f5,wc,dc,my,w1]
   ·have dc:decide (W.code=0)=false:=decide_eq_false hc
    have hs:W.see y=W:=by unfold WaD.see;rw[if_neg (fun h=>hc h.1)]
    obtain⟨h'',w7,w11,w13',r1,s2⟩:=go (h'.push [eE y]) (.bool false) (by rw[hs];exact s1.drop)
    refine⟨h'',w7,w11,w13',fun K=> ?_,s2⟩
    rw[←r1 K]
    simp only[eE]
    conv=>lhs;rw[aF gF.eq_1]
    simp only[sim,ag,reduceAdd,reduceSub,replicate,reduceCtorEq,reduceLeDiff,reduceLT,aa,d1,ix,la,pg,ps,f3,f3',wc,dc,w1]
end
section
variable {h h' h0:AH} {F J F0 J0:Nat→Prop} {A B:List Asn} {c:WaC} {W:WaD}
abbrev wdL (n0:Nat) (y:ci) (m:AV) (c:WaC) (W:WaD):List Asn:=[ai (n0+1+1) [[.int .i64 0,.int .i64 0]],ai (n0+1) [evR 0 0 zR3],ai n0 [aU y m]]++cV c W
structure Py (h:AH) (c:WaC):Prop where
 w:aD false 1 h (.ptr c.wt 0 0)=some (.ptr c.hb 0 0)
 b:aD false 1 h (.ptr c.hb 0 0)=some (.ptr c.bb 0 0)
 d:aD false 1 h (.ptr c.bb 0 1)=some (.ptr c.wb 0 0)
 g:aD false 1 h (.ptr c.bb 0 0)=some (.ptr c.gb 0 0)
theorem JL (s:St h0 F0 J0 h B) (i:Nat) (o:OkH W.H) (h1:B[i]? =some (waA c.wt c.hb W)) (h2:B[i+1]? =some (cU c.hb c.bb W.H.hands)) (h3:B[i+1+1]? =some (dA c.bb c.gb c.wb W.H.ms W.H.S.kept)):Py h c:=by
 obtain⟨gv,lv,wv⟩:=gH s i h1
 obtain⟨vs,hv⟩:=d7 s (i+1) h2
 have bg:=jX s h3 o.len
 exact⟨by rw[bC,wv.c];rfl,hv.box 1,bg.2 1,bg.1 1⟩
theorem OkW.step {k:Nat} (o:OkW k W) (x:ci):OkW (k+1) (W.step x).1:=by
 have hn:∀ W1:WaD,(W1.note x).gifts.length≤W1.gifts.length+1∧(W1.note x).links.length≤W1.links.length+1∧(W1.note x).n=W1.n∧(W1.note x).H=W1.H:=fun W1=>by
  unfold WaD.note
  split
  ·exact⟨by simp,by simp,rfl,rfl⟩
  ·split
   ·exact⟨by simp,by simp,rfl,rfl⟩
   ·exact⟨by omega,by omega,rfl,rfl⟩
 have h2:∀ W2:WaD,W2.gifts.length≤k+1→W2.links.length≤k+1→W2.n=(k:Int)→yC (k+1) W2.H→∀ l:List cE,OkW (k+1) {(l.foldl WaD.see W2)with n:=(l.foldl WaD.see W2).n+1}:=fun W2 a1 a2 a3 a4 l=>by
  obtain⟨b1,b2,b3,b4⟩:=l8 l W2
  exact⟨by rw[b4];exact a4,by rw[b1];exact a1,by rw[b2];exact a2,by show(l.foldl WaD.see W2).n+1=_;rw[b3,a3];omega⟩
 unfold WaD.step
 simp only
 have o1:=o.h.step x
 have og:=o.g
 have ol:=o.l
 obtain⟨c1,c2,c3,c4⟩:=hn {W with H:=(W.H.step x).1}
 refine h2 _ ?_ ?_ ?_ ?_ _
 ·split
  ·exact Nat.le_trans c1 (Nat.succ_le_succ og)
  ·exact Nat.le_trans og (Nat.le_succ _)
 ·split
  ·exact Nat.le_trans c2 (Nat.succ_le_succ ol)
  ·exact Nat.le_trans ol (Nat.le_succ _)
 ·split
  ·rw[c3];exact o.n
  ·exact o.n
 ·split
  ·rw[c4];exact o1
  ·exact o1
set_option maxHeartbeats 4000000 in
theorem JS {k:Nat} (x:(aX (cV c W)).A h F J) (o:OkW k W) (hk:k≤190) (y:ci) {m:AV} {es:List (List AV)} (q3:SlA tE m es) (q4:ExL y.m es) (hL:y.m.length≤100000) (hs:∀ x∈y.m,x.size≤100000):
  ∃ h',(∃ r,aj Tryz.prog po 36 [.ptr c.wt 0 0,.agg (aU y m)] h=some (.inl (.tup [.agg r,.agg [.int .i64 (W.step y).2.2.1,.int .i64 (W.step y).2.2.2]]),h')∧EvR (W.step y).2.1 r)∧Did h F J h' (aX (cV c (W.step y).1)):=by
 have s0:St h F J h (cV c W):=St.start x
 have s1:=s0.push [aU y m]
 have s2:=s1.push [evR 0 0 zR3]
 have s3:St h F J _ (wdL h.n y m c W):=s2.push [[.int .i64 0,.int .i64 0]]
 have hm:m.one=true:=(gk.of (h:=h) q3 q4).one
 have oh:=o.h.ok (by omega)
 have c3:=(s3.cell 2 rfl).1
 have p3:=JL s3 3 oh rfl rfl rfl
 have t3:=(Oq (c:=c.toHoC) s3 4 oh rfl rfl rfl rfl).lo
 have fw:∀ b,aI 0 (.ptr b 0 0)=some (.ptr b 0 0):=fun _=>rfl
 have fb:aI 1 (.ptr c.bb 0 0)=some (.ptr c.bb 0 1):=rfl
 have f5:aI 5 (.ptr c.wt 0 0)=some (.ptr c.wt 0 5):=rfl
 have f3:aI 3 (.ptr c.wt 0 0)=some (.ptr c.wt 0 3):=rfl
 have nl3:=kq tEn (W.H.S.log.map eE)
 obtain⟨h4,r4,e4,v4,s4⟩:=Nz (A:=[ai (h.n+1+1) [[.int .i64 0,.int .i64 0]],ai (h.n+1) [evR 0 0 zR3],ai h.n [aU y m],waA c.wt c.hb W]) (B:=[]) (c:=c.toHoC) s3 oh y q3 q4 hL hs
 have s4:St h F J h4 (wdL h.n y m c {W with H:=(W.H.step y).1}):=s4
 have o4:=(o.h.step y).ok (by omega)
 have s5:=s4.push [evR 0 0 zR3]
 have s6:=s4.push [r4]
 have p5:=JL s5 4 o4 rfl rfl rfl
 have c5:=(s5.cell 3 rfl).1
 have c6:=(s6.cell 3 rfl).1
 have c60:=(s6.cell 0 rfl).1
 obtain⟨z1,z2⟩:=v4.all
 have pg:∀ z,(h4.push z).cell h4.n=some z:=fun z=>aC
 have ps:∀ y z,(h4.push y).set h4.n (some z)=h4.push z:=fun y z=>bm
 have la:ldA true 9 (aU y m) 0=some (.agg (aU y m)):=bq rfl
 obtain⟨ext,hext⟩:=Et W.H y
 -- what was given is noted
 obtain⟨h7,e7,s7⟩:∃ h7,((W.H.step y).2.code=0→aj Tryz.prog po 70 [.ptr c.wt 0 0,.agg (aU y m)] (h4.push [r4])=some (.inl (.tup []),h7))∧((W.H.step y).2.code≠0→h7=h4.push [r4])∧St h F J h7 (ai h4.n [r4]::wdL h.n y m c (if(W.H.step y).2.code=0 then({W with H:=(W.H.step y).1}:WaD).note y else{W with H:=(W.H.step y).1})):=by
  by_cases hz:(W.H.step y).2.code=0
  ·have og:=o.g
   have ol:=o.l
   obtain⟨h7,e7,s7⟩:=IE s6 4 rfl (by show W.gifts.length≤1000;omega) (by show W.links.length≤1000;omega) y hm
   refine⟨h7,fun _=>e7,fun h=>absurd hz h,?_⟩
   rw[if_pos hz]
   have en:({W with H:=(W.H.step y).1}:WaD).note y={W with H:=(W.H.step y).1,gifts:=if y.kind=2 then W.gifts++[⟨y.p,y.k,y.r⟩]else W.gifts,links:=if y.kind=2 then W.links else if y.kind=3 then W.links++[(y.p,y.q)]else W.links}:=by
    unfold WaD.note
    by_cases k2:y.kind=2
    ·simp only[if_pos k2]
    ·simp only[if_neg k2]
     by_cases k3:y.kind=3
     ·simp only[if_pos k3]
     ·simp only[if_neg k3]
   rw[en]
   exact s7
  ·refine⟨h4.push [r4],fun h=>absurd h hz,fun _=>rfl,?_⟩
   rw[if_neg hz]
   exact s6
 obtain⟨e7n,s7⟩:=s7
 have eW:W.step y=({(((W.H.step y).1.S.log.drop W.H.S.log.length).foldl WaD.see (if(W.H.step y).2.code=0 then({W with H:=(W.H.step y).1}:WaD).note y else{W with H:=(W.H.step y).1}))with n:=(((W.H.step y).1.S.log.drop W.H.S.log.length).foldl WaD.see (if(W.H.step y).2.code=0 then({W with H:=(W.H.step y).1}:WaD).note y else{W with H:=(W.H.step y).1})).n+1},(W.H.step y).2,(((W.H.step y).1.S.log.drop W.H.S.log.length).foldl WaD.see (if(W.H.step y).2.code=0 then({W with H:=(W.H.step y).1}:WaD).note y else{W with H:=(W.H.step y).1})).code,(((W.H.step y).1.S.log.drop W.H.S.log.length).foldl WaD.see (if(W.H.step y).2.code=0 then({W with H:=(W.H.step y).1}:WaD).note y else{W with H:=(W.H.step y).1})).at_):=rfl
 have hW2:(if(W.H.step y).2.code=0 then({W with H:=(W.H.step y).1}:WaD).note y else{W with H:=(W.H.step y).1}).H=(W.H.step y).1∧(if(W.H.step y).2.code=0 then({W with H:=(W.H.step y).1}:WaD).note y else{W with H:=(W.H.step y).1}).gifts.length≤200∧(if(W.H.step y).2.code=0 then({W with H:=(W.H.step y).1}:WaD).note y else{W with H:=(W.H.step y).1}).links.length≤200:=by
  have og:=o.g
  have ol:=o.l
  split
  ·unfold WaD.note
   split
   ·exact⟨rfl,by simp;omega,by show W.links.length≤200;omega⟩
   ·split
    ·exact⟨rfl,by show W.gifts.length≤200;omega,by simp;omega⟩
    ·exact⟨rfl,by show W.gifts.length≤200;omega,by show W.links.length≤200;omega⟩
  ·exact⟨rfl,by show W.gifts.length≤200;omega,by show W.links.length≤200;omega⟩
 have hWn:(if(W.H.step y).2.code=0 then({W with H:=(W.H.step y).1}:WaD).note y else{W with H:=(W.H.step y).1}).n=W.n:=by
  split
  ·unfold WaD.note
   split
   ·rfl
   ·split<;>rfl
  ·rfl
 generalize (if(W.H.step y).2.code=0 then({W with H:=(W.H.step y).1}:WaD).note y else{W with H:=(W.H.step y).1})=W2 at s7 eW hW2 hWn
 obtain⟨hH,hg2,hl2⟩:=hW2
 have s7':St h F J h7 ([ai h4.n [r4],ai (h.n+1+1) [[.int .i64 0,.int .i64 0]],ai (h.n+1) [evR 0 0 zR3],ai h.n [aU y m]]++cV c W2):=s7
 have o7:OkH W2.H:=by rw[hH];exact o4
 have p7:=JL s7' 4 o7 rfl rfl rfl
 have t7:=(Oq (c:=c.toHoC) s7' 5 o7 rfl rfl rfl rfl).lo
 rw[hH]at t7
 have nl7:=kq tEn ((W.H.step y).1.S.log.map eE)
 obtain⟨v9,u1,u2⟩:=PJ (e:=tEn) (rows:=(W.H.step y).1.S.log.map eE) (k:=W.H.S.log.length) (by rw[←hext];simp)
 rw[←List.map_drop]at u2
 have hdl:((W.H.step y).1.S.log.drop W.H.S.log.length).length≤1000000:=by have:=o4.log;rw[List.length_drop];omega
 obtain⟨h8,w7,w11,w13,r8,s8⟩:=Gk (L:=[ai h4.n [r4],ai (h.n+1+1) [[.int .i64 0,.int .i64 0]],ai (h.n+1) [evR 0 0 zR3],ai h.n [aU y m]]++cV c W2) (i:=4) (b:=c.wt) (hb:=c.hb) (show 4<9 by decide) u2 hdl ((W.H.step y).1.S.log.drop W.H.S.log.length) [] h7 W2 (.agg (aU y m)) (.ptr h.n 0 0) (.ptr (h.n+1) 0 0) (.ptr (h.n+1+1) 0 0) (.int .i64 (W.H.S.log.length:Int)) (.ptr h4.n 0 0) .junk (.bool (decide ((W.H.step y).2.code=0))) .junk .junk rfl hg2 hl2 s7'
 have s8:St h F J h8 ([ai h4.n [r4],ai (h.n+1+1) [[.int .i64 0,.int .i64 0]],ai (h.n+1) [evR 0 0 zR3],ai h.n [aU y m],waA c.wt c.hb (((W.H.step y).1.S.log.drop W.H.S.log.length).foldl WaD.see W2)]++df c.toHoC W2.H):=s8
 obtain⟨b1,b2,b3,b4⟩:=l8 ((W.H.step y).1.S.log.drop W.H.S.log.length) W2
 rw[eW]
 generalize ((W.H.step y).1.S.log.drop W.H.S.log.length).foldl WaD.see W2=W8 at s8 b1 b2 b3 b4 ⊢
 obtain⟨gv,lv,wv⟩:=gH s8 4 rfl
 have hn8:W8.n=(k:Int):=by rw[b3,hWn,o.n]
 have w1:=w64 (n:=W8.n+1) (by omega) (by omega)
 have s9:=qO s8 4 rfl W8.code W8.at_ (W8.n+1) (row:=[]) wv
 have s9:St h F J _ ([ai h4.n [r4],ai (h.n+1+1) [[.int .i64 0,.int .i64 0]],ai (h.n+1) [evR 0 0 zR3],ai h.n [aU y m],dx c.wt c.hb W8.gifts W8.links W8.code W8.at_ (W8.n+1)]++df c.toHoC W2.H):=s9
 have c90:=(s9.cell 0 rfl).1
 have c92:=(s9.cell 2 rfl).1
 have s10:=s9.set 2 rfl [r4]
 have c10:=(s10.cell 1 rfl).1
 obtain⟨gv2,lv2,wv10⟩:=gH s10 4 rfl
 have c10w:=wv10.c
 have s11:=s10.set 1 rfl [[.int .i64 W8.code,.int .i64 W8.at_]]
 have c112:=(s11.cell 2 rfl).1
 have lf:∀ gv lv n,ldA true 2 [.ptr c.hb 0 0,gv,lv,.int .i64 W8.code,.int .i64 W8.at_,.int .i64 n] 3=some (.agg [.int .i64 W8.code,.int .i64 W8.at_]):=fun _ _ _=>rfl
 have lr:ldA true 5 r4 0=some (.agg r4):=bq z1
 obtain⟨q4',rq,vq⟩:=v4
 have s12:=s11.drop.drop.drop.drop
 rw[←b4]at s12
 refine⟨_,⟨r4,?_,⟨q4',rq,vq⟩⟩,s12⟩
 have lc:r4[0]? =some (.int .i64 (W.H.step y).2.code):=by rw[rq];rfl
 have wvc:=wv.c
 simp only[List.length_nil,Int.natCast_zero]at r8
 obtain⟨p3w,p3b,p3d,_⟩:=p3
 obtain⟨p5w,p5b,p5d,_⟩:=p5
 obtain⟨p7w,p7b,p7d,_⟩:=p7
 simp only[aU]at c3 p3w p3b p3d t3 e4 c5 c6 la e7 r8
 cases dz:decide ((W.H.step y).2.code=0)with
 | true=>
   have e7:=e7 (of_decide_eq_true dz)
   rw[dz]at r8
   refine ah H7 rfl ?_;unfold Bo
   simp only[sim,ag,reduceAdd,reduceSub,replicate,reduceCtorEq,reduceLeDiff,reduceLT,aa,ay,aU,hm,fw,fb,p3w,p3b,p3d,t3,nl3.len,nl3.fits,List.length_map,c3,la,e4,pg,ps,p5w,c5,z1,z2,c60,c6,lc,dz,e7,p7w,p7b,p7d,t7,nl7.fits,u1,u2.len,u2.fits]
   rw[r8]
   simp only[sim,ag,reduceAdd,reduceSub,replicate,reduceCtorEq,reduceLeDiff,reduceLT,aa,f3,f5,wvc,w1,aP,c90,c92,lr,lf,z1,z2,c10,c10w,c112]
 | false=>
   have e7:=e7n (of_decide_eq_false dz)
   rw[dz]at r8
   subst e7
   refine ah H7 rfl ?_;unfold Bo
   simp only[sim,ag,reduceAdd,reduceSub,replicate,reduceCtorEq,reduceLeDiff,reduceLT,aa,ay,aU,hm,fw,fb,p3w,p3b,p3d,t3,nl3.len,nl3.fits,List.length_map,c3,la,e4,pg,ps,p5w,c5,z1,z2,c60,c6,lc,dz,p7w,p7b,p7d,t7,nl7.fits,u1,u2.len,u2.fits]
   rw[r8]
   simp only[sim,ag,reduceAdd,reduceSub,replicate,reduceCtorEq,reduceLeDiff,reduceLT,aa,f3,f5,wvc,w1,aP,c90,c92,lr,lf,z1,z2,c10,c10w,c112]
end
theorem wQ:OkW 0 wa0:=⟨N1,by simp[wa0],by simp[wa0],rfl⟩
theorem JB (W:WaD) (x:ci):(W.step x).1.H=(W.H.step x).1∧(W.step x).2.1=(W.H.step x).2:=by
 unfold WaD.step
 refine⟨?_,rfl⟩
 simp only
 rw[(l8 _ _).2.2.2]
 split
 ·unfold WaD.note
  split
  ·rfl
  ·split<;>rfl
 ·rfl
def wb1:ci:=⟨2,1,0,3,0,1, -1,0,[]⟩
def WB1:WaD:=(wa0.step wb1).1
theorem OB:WB1.gifts=[⟨1,3,1⟩]∧WB1.links=[]:=by constructor<;>rfl
theorem O8:oM [⟨1,3,1⟩] [] 1 3 1=true:=by decide
theorem OT:oM [⟨1,3,1⟩] [] 1 3 2=false:=by decide
theorem OE:oM [⟨1,3,1⟩] [] 0 3 1=false:=by decide
theorem Pq:WB1.H.handO 1=[fh 0]:=by rfl
section
variable {h h' h0:AH} {F J F0 J0:Nat→Prop} {L A B:List Asn} {c:WaC} {W:WaD}
theorem tT {e:TypeId}:(db e .nils []).A h (fun _=>False) (fun _=>False):= .inl ⟨⟨rfl,rfl⟩,fun _ h=>h,fun _ h=>h⟩
theorem Es {b hb:Nat} (he:b=h.n):(dx b hb [] [] 0 0 0).A (h.push [[.ptr hb 0 0,.nils,.nils,.int .i64 0,.int .i64 0,.int .i64 0]]) (fun k=>k=b) (fun _=>False):=by
 subst he
 refine⟨(.nils,.nils),fun k=>k=h.n,fun _=>False,fun _=>False,fun _=>False,⟨fun _=>Iff.rfl,fun _ h=>h,Nat.lt_succ_self _,aC⟩,⟨fun _=>False,fun _=>False,fun _=>False,fun _=>False,tT,tT,fun k=>by simp,fun j=>by simp,fun _ h=>h.elim,fun _ h=>h.elim⟩,fun k=>by simp,fun j=>by simp,fun _ _ h=>h,fun _ h=>h.elim⟩
theorem tq (s:St h0 F0 J0 h L):∃ h' c,aj Tryz.prog po 35 [] h=some (.inl (.ptr (c:WaC).wt 0 0),h')∧St h0 F0 J0 h' (cV c wa0++L):=by
 obtain⟨h1,c,e1,s1⟩:=Jo s
 have s2:=s1.add (X:=dx h1.n c.hb [] [] 0 0 0) (h':=h1.push [[.ptr c.hb 0 0,.nils,.nils,.int .i64 0,.int .i64 0,.int .i64 0]]) (F1:=fun k=>k=h1.n) (J1:=fun _=>False) (af.push _ _) (Es rfl) (fun k hk=>Nat.le_of_eq hk.symm) (fun _ h=>h.elim)
 refine⟨_,⟨c,h1.n⟩,?_,s2⟩
 refine ah IZ rfl ?_;unfold Au
 simp only[sim,ag,reduceAdd,reduceSub,replicate,reduceCtorEq,reduceLeDiff,reduceLT,aa,e1]
theorem B7 {k:Nat} (s:St h0 F0 J0 h (A++cV c W++B)) (o:OkW k W) (hk:k≤190) (y:ci) {m:AV} {es:List (List AV)} (q3:SlA tE m es) (q4:ExL y.m es) (hL:y.m.length≤100000) (hs:∀ x∈y.m,x.size≤100000):
  ∃ h' r,aj Tryz.prog po 36 [.ptr c.wt 0 0,.agg (aU y m)] h=some (.inl (.tup [.agg r,.agg [.int .i64 (W.step y).2.2.1,.int .i64 (W.step y).2.2.2]]),h')∧EvR (W.step y).2.1 r∧St h0 F0 J0 h' (A++cV c (W.step y).1++B):=by
 obtain⟨h',⟨r,e,v⟩,s'⟩:=s.callL (M':=cV c (W.step y).1) fun F J x=>JS x o hk y q3 q4 hL hs
 exact⟨h',r,e,v,s'⟩
theorem pL {j:Nat} {y:List (List AV)} {z:Option (List (List AV))} (hj:j<h.n):(h.push y).set j z=(h.set j z).push y:=by
 unfold AH.push AH.set
 congr 1
 funext k
 by_cases h1:k=j
 ·subst h1
  have h2:k≠h.n:=by omega
  simp[h2]
 ·simp[h1]
theorem lq:aj Tryz.prog po 31 [] h=some (.inl (.bool true),h):=by
 have s0:St h (fun _=>False) (fun _=>False) h []:=St.start (aX.nil _ _ _ (fun _ h=>h) (fun _ h=>h))
 obtain⟨h1,c,e1,s1⟩:=tq s0
 obtain⟨h3,r3,e3,v3,s3⟩:=B7 (A:=[]) (B:=[]) (c:=c) s1 wQ (by decide) wb1 (m:= .nils) (.inl ⟨rfl,rfl⟩) rfl (by decide) (fun x hx=>by cases hx)
 obtain⟨q3,rfl,w3⟩:=v3
 have w3':VaA (fh 0) q3:=w3
 obtain⟨u3,rfl,u3o⟩:=w3'.cells3
 have e3:aj Tryz.prog po 36 [.ptr c.wt 0 0,.agg [.int .i64 2,.int .i64 1,.int .i64 0,.int .i64 3,.int .i64 0,.int .i64 1,.int .i64 (-1),.int .i64 0,.nils]] h1=some (.inl (.tup [.agg [.int .i64 0,.int .i64 0,.int .i64 4,.int .i64 0,u3],.agg [.int .i64 0,.int .i64 0]]),h3):=e3
 have s4:St h (fun _=>False) (fun _=>False) h3 (cV c WB1):=s3
 have s5:=(s4.push [[.int .i64 0,.int .i64 0,.int .i64 4,.int .i64 0,u3]]).push [[.int .i64 0,.int .i64 0]]
 have o1:OkW 1 WB1:=wQ.step wb1
 have m1:=nD s5 2 rfl (by decide) (by decide) 1 3 1
 have m2:=nD s5 2 rfl (by decide) (by decide) 1 3 2
 have m3:=nD s5 2 rfl (by decide) (by decide) 0 3 1
 rw[OB.1,OB.2]at m1 m2 m3
 rw[O8]at m1
 rw[OT]at m2
 rw[OE]at m3
 have c0:=(s5.cell 0 rfl).1
 have c1:=(s5.cell 1 rfl).1
 obtain⟨hv,hes,e9,sl,vl⟩:=Gs s5 3 rfl o1.h.good.hands (fun l hl=>by have:=o1.h.hands l hl;omega) 1
 rw[Pq]at vl
 have hlen:hes.length=1:=vl.len
 have ll:=sl.isL.len
 have lf:=sl.isL.fits
 rw[hlen]at ll
 have pw:=JL s5 2 (o1.h.ok (by decide)) rfl rfl rfl
 have pww:=pw.w
 have fw:∀ b,aI 0 (.ptr b 0 0)=some (.ptr b 0 0):=fun _=>rfl
 have p0:∀ x y,(h3.push x).push y=(h3.push x).push y:=fun _ _=>rfl
 have q1:∀ x y z,(((h3.push x).push y).set h3.n (some z))=(h3.push z).push y:=fun x y z=>by rw[pL (Nat.lt_succ_self _),bm]
 have q2:∀ x y z,(((h3.push x).push y).set (h3.n+1) (some z))=(h3.push x).push z:=fun x y z=>bm (h:=h3.push x)
 have q3':∀ x y,((h3.push x).push y).cell h3.n=some x:=fun x y=>gD
 have q4:∀ x y,((h3.push x).push y).cell (h3.n+1)=some y:=fun x y=>ct
 have g5:=s5.grewA
 clear s1 s3 s4 s5
 refine ah uf rfl ?_;unfold mF
 simp only[sim,ag,reduceAdd,reduceSub,replicate,reduceCtorEq,reduceLeDiff,reduceLT,aa,ay,e1,e3,q1,q2,q3',q4,u3o,c0,c1,m1,m2,m3,fw,pww,e9,ll,lf,Int.natCast_one,eq_self,decide_true]
 exact aA g5 rfl
end
theorem PA:(Tryz.prog).underlying 72=some (.slice 82):=by kernel_rfl
theorem KK:nT Tryz.prog 82=some [3,3,3,3,3,3,3,2,80]:=by kernel_rfl
theorem Nu:(Tryz.prog).underlying 2=some (.int .i64):=by kernel_rfl
theorem Oe {α:Type} {l:List α} (h:l.length=9):∃ a b c d e f g i j,l=[a,b,c,d,e,f,g,i,j]:=by
 match l,h with
 | [a,b,c,d,e,f,g,i,j],_=>exact⟨a,b,c,d,e,f,g,i,j,rfl⟩
theorem MS {n:Nat} {r:List AV} (h:TyA Tryz.prog n 82 r):∃ (x:ci) (m:AV) (ms:List (List AV)),r=aU x m∧SlA tE m ms∧ExL x.m ms:=by
 obtain⟨m2,rfl,parts,rfl,hl,hf⟩:=pd KK h
 obtain⟨p0,a0,_,b0⟩:=hf 0 _ rfl
 obtain⟨p1,a1,_,b1⟩:=hf 1 _ rfl
 obtain⟨p2,a2,_,b2⟩:=hf 2 _ rfl
 obtain⟨p3,a3,_,b3⟩:=hf 3 _ rfl
 obtain⟨p4,a4,_,b4⟩:=hf 4 _ rfl
 obtain⟨p5,a5,_,b5⟩:=hf 5 _ rfl
 obtain⟨p6,a6,_,b6⟩:=hf 6 _ rfl
 obtain⟨p7,a7,_,b7⟩:=hf 7 _ rfl
 obtain⟨p8,a8,_,b8⟩:=hf 8 _ rfl
 obtain⟨z0,rfl,_⟩:=iS rL b0
 obtain⟨z1,rfl,_⟩:=iS rL b1
 obtain⟨z2,rfl,_⟩:=iS rL b2
 obtain⟨z3,rfl,_⟩:=iS rL b3
 obtain⟨z4,rfl,_⟩:=iS rL b4
 obtain⟨z5,rfl,_⟩:=iS rL b5
 obtain⟨z6,rfl,_⟩:=iS rL b6
 obtain⟨z7,rfl,_⟩:=iS Nu b7
 obtain⟨M,v,es,rfl,hv,hM⟩:=N5 b8
 obtain⟨c0,c1,c2,c3,c4,c5,c6,c7,c8,rfl⟩:=Oe hl
 obtain rfl:=Option.some.inj a0
 obtain rfl:=Option.some.inj a1
 obtain rfl:=Option.some.inj a2
 obtain rfl:=Option.some.inj a3
 obtain rfl:=Option.some.inj a4
 obtain rfl:=Option.some.inj a5
 obtain rfl:=Option.some.inj a6
 obtain rfl:=Option.some.inj a7
 obtain rfl:=Option.some.inj a8
 exact⟨⟨z0,z1,z2,z3,z4,z5,z6,z7,M⟩,v,es,by simp only[List.flatten_cons,List.flatten_nil,List.append_nil,List.cons_append,List.nil_append];rfl,hv,hM⟩
theorem Aa:∀ {es:List (List AV)},(∀ r∈es,∃ (x:ci) (m:AV) (ms:List (List AV)),r=aU x m∧SlA tE m ms∧ExL x.m ms)→∃ xs,fK xs es
 | [],_=>⟨[],rfl⟩
 | r::es,h=>by
   obtain⟨x,m,ms,rfl,h1,h2⟩:=h r (by simp)
   obtain⟨xs,hx⟩:=Aa fun q hq=>h q (List.mem_cons_of_mem _ hq)
   exact⟨x::xs,m,ms,es,rfl,h1,h2,hx⟩
theorem K5 {n:Nat} {av:AV} (h:TyA Tryz.prog n 72 [av]):∃ (es:List (List AV)) (xs:List ci),SlA tSt av es∧fK xs es∧xs.length≤9223372036854775807:=by
 obtain⟨m,v,es,rfl,e,hv,hlen,hr⟩:=BU PA h
 obtain rfl:av=v:=by simpa using e
 obtain⟨xs,hx⟩:=Aa (es:=es) fun r hr'=>MS (hr r hr').2
 refine⟨es,xs,hv.sla,hx,?_⟩
 rw[←hx.len]
 unfold maxLen at hlen
 omega
def MH:List TypeId:=[3,2,109,78,80,82,72]
theorem H5:wK Tryz.prog MH=true:=by kernel_rfl
structure mC (D:Int→Prop) (A:ae→Int→Int→Prop) (I:ae→Prop):Prop where
 pos:∀ p,D p→0≤p
 wf:∀ G,I G→G.Wf
 has:∀ G p n,I G→A G p n→G.has n=true
 mono:∀ G G' p n,I G→I G'→G.Later G'→A G p n→A G' p n
 gate:∀ G,I G→I G.gate.1
 cut:∀ G k,I G→I (G.cut k).1
 inv:∀ G n r g,I G→I (G.derive n r g).1
 der:∀ G p n r g,D p→I G→A G p n→(G.derive n r g).2.2=0→A (G.derive n r g).1 p (G.derive n r g).2.1
 ask:∀ G p n,D p→I G→A G p n→d9 (G.rights n) 3=true→¬ (G.target n).1.plugin<0→D (G.target n).1.plugin
 give:∀ G p n m,D p→D (G.target n).1.plugin→I G→A G p n→¬ (G.target n).1.plugin<0→A G p m→(dm (G.gatesC n) G m).2.2=0→A (dm (G.gatesC n) G m).1 (G.target n).1.plugin (dm (G.gatesC n) G m).2.1
 take:∀ G p n m,D p→D (G.target n).1.plugin→I G→A G p n→¬ (G.target n).1.plugin<0→A G (G.target n).1.plugin m→(dm (G.gatesC n) G m).2.2=0→A (dm (G.gatesC n) G m).1 p (dm (G.gatesC n) G m).2.1
def Hv (A:ae→Int→Int→Prop) (G:ae) (p:Int) (v:VD):Prop:=∀ n∈v.caps,A G p n
def C4 (A:ae→Int→Int→Prop) (G:ae) (e:cE):Prop:=A G e.plugin e.node∧(G.target e.node).1.plugin<0∧e.cell=(G.target e.node).1.cell∧(e.right=1∧d9 (G.rights e.node) 0=true∨e.right=2∧d9 (G.rights e.node) 1=true)
def dP (D:Int→Prop) (A:ae→Int→Int→Prop) (S:StD):Prop:=∀ p,D p→Hv A S.G p (S.kept.getD p.toNat au)
structure bB {α:Type} (D:Int→Prop) (A:ae→Int→Int→Prop) (I:ae→Prop) (S:StD) (P:ae→α→Prop) (q:StD×α×Int):Prop where
 inv:I q.1.G
 later:S.G.Later q.1.G
 kept:dP D A q.1
 val:q.2.2=0→P q.1.G q.2.1
 log:∃ ext,q.1.log=S.log++ext∧∀ e∈ext,D e.plugin∧∃ G0,I G0∧G0.Later q.1.G∧C4 A G0 e
section
variable {D:Int→Prop} {A:ae→Int→Int→Prop} {I:ae→Prop}
theorem kJ (G:ae):G.Later G.gate.1:=by
 have:=G.step_later ⟨0,0,0,0,0⟩
 exact this
theorem vR (G:ae) (k:Int):G.Later (G.cut k).1:=by
 have:=G.step_later ⟨1,k,0,0,0⟩
 exact this
theorem fW (G:ae) (n r g:Int):G.Later (G.derive n r g).1:=by
 have:=G.step_later ⟨4,n,r,g,0⟩
 exact this
theorem vN:au.caps=[]:=by rfl
theorem F8 (n:Int):(iH n).caps=[]:=by rfl
theorem Hv.zero {G:ae} {p:Int}:Hv A G p au:=fun n hn=>by rw[vN]at hn;cases hn
theorem Hv.int {G:ae} {p n:Int}:Hv A G p (iH n):=fun m hm=>by rw[F8]at hm;cases hm
theorem Hv.cap {G:ae} {p n:Int} (h:A G p n):Hv A G p (fh n):=fun m hm=>by
 have:m=n:=by simpa[fh,VD.caps,cr]using hm
 rw[this];exact h
theorem ji:∀ {l:List VD} {n:Int},n∈cr l↔∃ v∈l,n∈v.caps
 | [],n=>by simp[cr]
 | x::l,n=>by
   have ih:=ji (l:=l) (n:=n)
   simp only[cr,List.mem_append,List.mem_cons,exists_eq_or_imp,ih]
theorem Hv.part {G:ae} {p:Int} {v:VD} (h:Hv A G p v) (i:Nat):Hv A G p (v.l.getD i au):=by
 by_cases hi:i<v.l.length
 ·intro n hn
  rw[List.getD,List.getElem?_eq_getElem hi,Option.getD_some]at hn
  refine h n ?_
  rw[VD.caps_eq]
  exact List.mem_append_right _ (ji.2 ⟨_,List.getElem_mem hi,hn⟩)
 ·rw[List.getD,List.getElem?_eq_none (by omega),Option.getD_none]
  exact Hv.zero
theorem Hv.getD {G:ae} {p:Int} {l:List VD} (h:∀ v∈l,Hv A G p v) (i:Nat):Hv A G p (l.getD i au):=by
 by_cases hi:i<l.length
 ·rw[List.getD,List.getElem?_eq_getElem hi,Option.getD_some]
  exact h _ (List.getElem_mem hi)
 ·rw[List.getD,List.getElem?_eq_none (by omega),Option.getD_none]
  exact Hv.zero
theorem Hv.mk {G:ae} {p k n:Int} {l:List VD} (hk:k≠4) (h:∀ v∈l,Hv A G p v):Hv A G p (.mk k n l):=by
 intro m hm
 rw[VD.caps_eq]at hm
 have e:(VD.mk k n l).kind=k:=rfl
 rw[e,if_neg hk,List.nil_append]at hm
 obtain⟨v,hv,hm⟩:=ji.1 hm
 exact h v hv m hm
theorem Hv.mono (H:mC D A I) {G G':ae} {p:Int} {v:VD} (hI:I G) (hI':I G') (l:G.Later G') (h:Hv A G p v):Hv A G' p v:=fun n hn=>H.mono G G' p n hI hI' l (h n hn)
theorem dP.mono (H:mC D A I) {S:StD} {G':ae} (hI:I S.G) (hI':I G') (l:S.G.Later G') (h:dP D A S):dP D A {S with G:=G'}:=fun p hp=>(h p hp).mono H hI hI' l
theorem bB.same {α:Type} {P:ae→α→Prop} (H:mC D A I) {S:StD} (hI:I S.G) (k:dP D A S) {G':ae} (hI':I G') (l:S.G.Later G') {v:α} {c:Int} (hv:c=0→P G' v):bB D A I S P ({S with G:=G'},v,c):=
 ⟨hI',l,k.mono H hI hI' l,hv,[],by simp,fun e he=>by cases he⟩
theorem bB.trans {α β:Type} {P:ae→α→Prop} {Q:ae→β→Prop} {S:StD} {q:StD×α×Int} {q':StD×β×Int} (h:bB D A I S P q) (h':bB D A I q.1 Q q'):bB D A I S Q q':=by
 obtain⟨e1,l1,m1⟩:=h.log
 obtain⟨e2,l2,m2⟩:=h'.log
 refine⟨h'.inv,h.later.trans h'.later,h'.kept,h'.val,e1++e2,by rw[l2,l1,List.append_assoc],fun e he=> ?_⟩
 rcases List.mem_append.1 he with he | he
 ·obtain⟨d,G0,a,b,c⟩:=m1 e he
  exact⟨d,G0,a,b.trans h'.later,c⟩
 ·exact m2 e he
theorem bB.fail {α β:Type} {P:ae→α→Prop} {Q:ae→β→Prop} {S:StD} {q:StD×α×Int} (h:bB D A I S P q) {z:β} {c:Int} (hc:c≠0):bB D A I S Q (q.1,z,c):=⟨h.inv,h.later,h.kept,fun e=>absurd e hc,h.log⟩
theorem bB.bind {α β:Type} {P:ae→α→Prop} {Q:ae→β→Prop} {S:StD} {q:StD×α×Int} {z:β} {k:StD→α→StD×β×Int} (h:bB D A I S P q) (hk:P q.1.G q.2.1→I q.1.G→dP D A q.1→S.G.Later q.1.G→bB D A I q.1 Q (k q.1 q.2.1)):bB D A I S Q (je z q k):=by
 obtain⟨S',v,c⟩:=q
 unfold je
 simp only
 by_cases hc:c≠0
 ·rw[if_pos hc]
  exact h.fail hc
 ·rw[if_neg hc]
  exact h.trans (hk (h.val (Classical.not_not.1 hc)) h.inv h.kept h.later)
theorem bB.ite {α:Type} {P:ae→α→Prop} {S:StD} {p:Prop} [Decidable p] {a b:StD×α×Int} (h1:p→bB D A I S P a) (h2:¬ p→bB D A I S P b):bB D A I S P (if p then a else b):=by
 split
 ·rename_i h;exact h1 h
 ·rename_i h;exact h2 h
theorem Later.target (H:mC D A I) {G G':ae} {p n:Int} (hI:I G) (hI':I G') (l:G.Later G') (a:A G p n):G'.target n=G.target n∧G'.gatesC n=G.gatesC n:=by
 have e:=l.path (H.wf _ hI) (H.wf _ hI') (n.toNat+1) n (by omega) (H.has _ _ _ hI a)
 unfold ae.target ae.gatesC
 rw[e]
 exact⟨rfl,rfl⟩
theorem BC (H:mC D A I) {p op k n:Int} {l:List VD} {S:StD} (hp:D p) (hI:I S.G) (hk:dP D A S) (hl:∀ v∈l,Hv A S.G p v):bB D A I S (fun G v=>Hv A G p v) (bH p op k n l S):=by
 have ha:=Hv.getD hl 0
 have hb:=Hv.getD hl 1
 have lr:=ae.Later.refl S.G
 have no:∀ {c:Int},bB D A I S (fun G v=>Hv A G p v) (S.no c):=bB.same H hI hk hI lr fun _=>Hv.zero
 have ok:∀ {v:VD},Hv A S.G p v→bB D A I S (fun G v=>Hv A G p v) (S.ok v):=fun hv=>bB.same H hI hk hI lr fun _=>hv
 have capA:(l.getD 0 au).kind=4→A S.G p (l.getD 0 au).n:=fun e=>ha _ (by rw[VD.caps_eq,if_pos e];simp)
 unfold bH
 refine .ite (fun _=> .ite (fun _=>no) fun _=>ok Hv.int) fun h6=> ?_
 refine .ite (fun _=> .ite (fun _=>no) fun h=>ok (Hv.mk (by decide) (by simpa using⟨ha,hb⟩))) fun h8=> ?_
 refine .ite (fun _=> .ite (fun _=>no) fun h=>ok (ha.part 0)) fun h9=> ?_
 refine .ite (fun _=> .ite (fun _=>no) fun h=>ok (ha.part 1)) fun h10=> ?_
 refine .ite (fun _=> .ite (fun _=>no) fun h=>ok (Hv.mk (by decide) (by simpa using ha))) fun h11=> ?_
 refine .ite (fun _=> .ite (fun _=>no) fun _=> .ite (fun _=>no) fun _=>ok (ha.part 0)) fun h12=> ?_
 refine .ite (fun _=> .ite (fun _=>no) fun hc=> .ite (fun _=>no) fun hr=> .ite (fun _=>no) fun ht=> ?_) fun h13=> ?_
 ·exact⟨hI,lr,hk,fun _=>Hv.int,_,rfl,fun e he=>by
   obtain rfl:e=_:=by simpa using he
   exact⟨hp,S.G,hI,lr,capA (Classical.not_not.1 hc),by simpa using ht,rfl,.inl ⟨rfl,by simpa using hr⟩⟩⟩
 refine .ite (fun _=> .ite (fun _=>no) fun hc=> .ite (fun _=>no) fun hr=> .ite (fun _=>no) fun ht=> ?_) fun h14=> ?_
 ·exact⟨hI,lr,hk,fun _=>hb,_,rfl,fun e he=>by
   obtain rfl:e=_:=by simpa using he
   exact⟨hp,S.G,hI,lr,capA (Classical.not_not.1 fun h=>hc (.inl h)),by simpa using ht,rfl,.inr ⟨rfl,by simpa using hr⟩⟩⟩
 refine .ite (fun _=> .ite (fun _=>no) fun hc=> ?_) fun h15=> ?_
 ·unfold xJ
  have hA:=capA (Classical.not_not.1 hc)
  exact .ite (fun _=>bB.same H hI hk (H.inv _ _ _ _ hI) (fW _ _ _ _) fun _=>Hv.zero) fun hz=>bB.same H hI hk (H.inv _ _ _ _ hI) (fW _ _ _ _) fun _=>Hv.cap (H.der _ _ _ _ _ hp hI hA (Classical.not_not.1 hz))
 refine .ite (fun _=> .ite (fun _=>no) fun hc=> .ite (fun _=>bB.same H hI hk (H.gate _ hI) (kJ _) fun _=>Hv.zero) fun hg=> ?_) fun h16=> ?_
 ·have hA:=capA (Classical.not_not.1 hc)
  have hA':=H.mono _ _ _ _ hI (H.gate _ hI) (kJ _) hA
  have hd:=H.der S.G.gate.1 p (l.getD 0 au).n 15 S.G.gate.2.1 hp (H.gate _ hI) hA'
  have hi:=H.inv S.G.gate.1 (l.getD 0 au).n 15 S.G.gate.2.1 (H.gate _ hI)
  have hL:=(kJ S.G).trans (fW S.G.gate.1 (l.getD 0 au).n 15 S.G.gate.2.1)
  generalize S.G.gate.1.derive (l.getD 0 au).n 15 S.G.gate.2.1=q at hd hi hL ⊢
  obtain⟨G',m,c⟩:=q
  refine .ite (fun _=>bB.same H hI hk hi hL fun _=>Hv.zero) fun hz=>bB.same H hI hk hi hL fun _=>Hv.mk (by decide) ?_
  intro v hv
  rcases List.mem_cons.1 hv with rfl | hv
  ·exact Hv.cap (hd (Classical.not_not.1 hz))
  ·obtain rfl:v=_:=by simpa using hv
   intro m hm
   simp[VD.caps,cr]at hm
 refine .ite (fun _=> .ite (fun _=>no) fun _=> ?_) fun h17=> ?_
 ·exact bB.same H hI hk (H.cut _ _ hI) (vR _ _) fun _=>Hv.zero
 refine .ite (fun _=> ?_) fun h20=>no
 refine⟨hI,lr,fun q hq=> ?_,fun _=>hk p hp,[],by simp[StD.ok],fun e he=>by cases he⟩
 show Hv A S.G q ((S.kept.set p.toNat (l.getD 0 au)).getD q.toNat au)
 by_cases e:p.toNat=q.toNat
 ·have h1:=H.pos _ hp
  have h2:=H.pos _ hq
  have e2:p=q:=by omega
  subst e2
  rw[List.getD,List.getElem?_set]
  simp only[if_true]
  split
  ·exact ha
  ·exact Hv.zero
 ·rw[List.getD,List.getElem?_set_ne e]
  exact hk q hq
theorem Ao (H:mC D A I):∀ (ks:List Int) (G:ae) (n:Int),I G→I (dm ks G n).1∧G.Later (dm ks G n).1
 | [],G,n,hI=>⟨hI,ae.Later.refl G⟩
 | k::ks,G,n,hI=>by
   have h1:=H.inv G n 15 k hI
   have h2:=fW G n 15 k
   unfold dm
   split
   ·exact⟨h1,h2⟩
   ·obtain⟨a,b⟩:=Ao H ks (G.derive n 15 k).1 (G.derive n 15 k).2.1 h1
    exact⟨a,h2.trans b⟩
mutual
theorem um (H:mC D A I) {ks:List Int} {p q:Int} {G0:ae} (hc:∀ G m,G0.Later G→I G→A G p m→(dm ks G m).2.2=0→A (dm ks G m).1 q (dm ks G m).2.1):∀ (x:VD) (G:ae),G0.Later G→I G→Hv A G p x→I (da ks x G).1∧G.Later (da ks x G).1∧((da ks x G).2.2=0→Hv A (da ks x G).1 q (da ks x G).2.1)
 | .mk kind n l,G,h0,hI,hv=>by
   have hh:I (bY ks G kind n).1∧G.Later (bY ks G kind n).1∧((bY ks G kind n).2.2=0→kind=4→A (bY ks G kind n).1 q (bY ks G kind n).2.1):=by
    unfold bY
    split
    ·rename_i hk
     obtain⟨a,b⟩:=Ao H ks G n hI
     exact⟨a,b,fun hz _=>hc G n h0 hI (hv n (by rw[VD.caps_eq];exact List.mem_append_left _ (by show n∈(if kind=4 then[n]else[]);rw[if_pos hk];simp))) hz⟩
    ·rename_i hk
     exact⟨hI,ae.Later.refl G,fun _ h=>absurd h hk⟩
   obtain⟨a1,a2,a3⟩:=hh
   simp only[da]
   split
   ·rename_i hz
    exact⟨a1,a2,fun h=>absurd h hz⟩
   ·rename_i hz
    have hl:∀ v∈l,Hv A (bY ks G kind n).1 p v:=fun v hv' m hm=>H.mono _ _ _ _ hI a1 a2 (hv m (by rw[VD.caps_eq];exact List.mem_append_right _ (ji.2 ⟨v,hv',hm⟩)))
    obtain⟨b1,b2,b3⟩:=sU H hc l (bY ks G kind n).1 (h0.trans a2) a1 hl
    split
    ·rename_i hz2
     exact⟨b1,a2.trans b2,fun h=>absurd h hz2⟩
    ·rename_i hz2
     refine⟨b1,a2.trans b2,fun _ m hm=> ?_⟩
     rw[VD.caps_eq]at hm
     rcases List.mem_append.1 hm with hm | hm
     ·split at hm
      ·rename_i hk
       obtain rfl:m=_:=by simpa using hm
       exact H.mono _ _ _ _ a1 b1 b2 (a3 (Classical.not_not.1 hz) hk)
      ·cases hm
     ·obtain⟨v,hv',hm⟩:=ji.1 hm
      exact b3 (Classical.not_not.1 hz2) v hv' m hm
theorem sU (H:mC D A I) {ks:List Int} {p q:Int} {G0:ae} (hc:∀ G m,G0.Later G→I G→A G p m→(dm ks G m).2.2=0→A (dm ks G m).1 q (dm ks G m).2.1):∀ (l:List VD) (G:ae),G0.Later G→I G→(∀ v∈l,Hv A G p v)→I (bu ks l G).1∧G.Later (bu ks l G).1∧((bu ks l G).2.2=0→∀ v∈(bu ks l G).2.1,Hv A (bu ks l G).1 q v)
 | [],G,_,hI,_=>⟨hI,ae.Later.refl G,fun _ v hv=>by cases hv⟩
 | x::l,G,h0,hI,hl=>by
   obtain⟨a1,a2,a3⟩:=um H hc x G h0 hI (hl x (by simp))
   simp only[bu]
   split
   ·rename_i hz
    exact⟨a1,a2,fun h=>absurd h hz⟩
   ·rename_i hz
    obtain⟨b1,b2,b3⟩:=sU H hc l (da ks x G).1 (h0.trans a2) a1 (fun v hv=>(hl v (by simp[hv])).mono H hI a1 a2)
    refine⟨b1,a2.trans b2,fun h v hv=> ?_⟩
    rcases List.mem_cons.1 hv with rfl | hv
    ·exact(a3 (Classical.not_not.1 hz)).mono H a1 b1 b2
    ·exact b3 h v hv
end
theorem oj (H:mC D A I) {ks:List Int} {p q:Int} {G0:ae} (hc:∀ G m,G0.Later G→I G→A G p m→(dm ks G m).2.2=0→A (dm ks G m).1 q (dm ks G m).2.1) (x:VD) (G:ae) (h0:G0.Later G) (hI:I G) (hv:Hv A G p x):I (aV ks G x).1∧G.Later (aV ks G x).1∧((aV ks G x).2.2=0→Hv A (aV ks G x).1 q (aV ks G x).2.1):=by
 unfold aV
 split
 ·rename_i hz
  exact⟨hI,ae.Later.refl G,fun h=>absurd h hz⟩
 ·exact um H hc x G h0 hI hv
def MW (D:Int→Prop) (A:ae→Int→Int→Prop) (p:Int) (G:ae) (a:rc):Prop:=D a.plugin∧Hv A G a.plugin a.arg∧∃ n,A G p n∧a.gates=G.gatesC n∧(G.target n).1.plugin=a.plugin∧¬ a.plugin<0
theorem FA (H:mC D A I) {ms:aM} {p:Int} {v x:VD} {fr:Nat} {S:StD} (hp:D p) (hI:I S.G) (hk:dP D A S) (hv:Hv A S.G p v) (hx:Hv A S.G p x):bB D A I S (MW D A p) (eX ms v x fr S):=by
 have lr:=ae.Later.refl S.G
 have no:∀ {c:Int} (hc:c≠0) (z:rc),bB D A I S (MW D A p) (S,z,c):=fun hc z=>bB.same H hI hk hI lr fun h=>absurd h hc
 unfold eX
 refine .ite (fun _=>no (by decide) _) fun h1=> .ite (fun _=>no (by decide) _) fun h2=> .ite (fun _=>no (by decide) _) fun h3=> .ite (fun _=>no (by decide) _) fun h4=> .ite (fun _=>no (by decide) _) fun h5=> ?_
 have hA:A S.G p v.n:=hv _ (by rw[VD.caps_eq,if_pos (Classical.not_not.1 h1)];simp)
 have hD:=H.ask _ _ _ hp hI hA (by simpa using h2) h3
 have ac:=oj H (ks:=S.G.gatesC v.n) (p:=p) (q:=(S.G.target v.n).1.plugin) (G0:=S.G) (fun G m l hG hm hz=>by
  have hA':=H.mono _ _ _ _ hI hG l hA
  obtain⟨e1,e2⟩:=Later.target H hI hG l hA
  have:=H.give G p v.n m hp (by rw[e1];exact hD) hG hA' (by rw[e1];exact h3) hm (by rw[e2];exact hz)
  rw[e1,e2]at this
  exact this) x S.G lr hI hx
 generalize aV (S.G.gatesC v.n) S.G x=q at ac
 obtain⟨G',y,c⟩:=q
 obtain⟨a1,a2,a3⟩:=ac
 obtain⟨e1,e2⟩:=Later.target H hI a1 a2 hA
 refine bB.same H hI hk a1 a2 fun hz=>⟨hD,a3 hz,v.n,H.mono _ _ _ _ hI a1 a2 hA,by rw[e2],by rw[e1],h3⟩
theorem A8 (H:mC D A I) {p:Int} {a:rc} {v:VD} {G0:ae} {S:StD} (hp:D p) (hI0:I G0) (l0:G0.Later S.G) (hI:I S.G) (hk:dP D A S) (ha:MW D A p G0 a) (hv:Hv A S.G a.plugin v):bB D A I S (fun G v=>Hv A G p v) (eC a.gates v S):=by
 obtain⟨hD,_,n,hA,hg,ht,hn⟩:=ha
 have ac:=oj H (ks:=a.gates) (p:=a.plugin) (q:=p) (G0:=G0) (fun G m l hG hm hz=>by
  have hA':=H.mono _ _ _ _ hI0 hG l hA
  obtain⟨e1,e2⟩:=Later.target H hI0 hG l hA
  have:=H.take G p n m hp (by rw[e1,ht];exact hD) hG hA' (by rw[e1,ht];exact hn) (by rw[e1,ht];exact hm) (by rw[e2,←hg];exact hz)
  rw[e2,←hg]at this
  exact this) v S.G l0 hI hv
 unfold eC
 generalize aV a.gates S.G v=q at ac
 obtain⟨G',y,c⟩:=q
 obtain⟨a1,a2,a3⟩:=ac
 exact .ite (fun hz=>bB.same H hI hk a1 a2 fun h=>absurd h hz) fun hz=>bB.same H hI hk a1 a2 fun _=>a3 (Classical.not_not.1 hz)
theorem yv (H:mC D A I) {p:Int} {f:XD→StD→StD×VD×Int} {G0:ae} (hf:∀ x S,G0.Later S.G→I S.G→dP D A S→bB D A I S (fun G v=>Hv A G p v) (f x S)):∀ (l:List XD) (S:StD) (acc:List VD),G0.Later S.G→I S.G→dP D A S→(∀ v∈acc,Hv A S.G p v)→bB D A I S (fun G l=>∀ v∈l,Hv A G p v) (evL f l S acc)
 | [],S,acc,_,hI,hk,ha=>bB.same H hI hk hI (ae.Later.refl _) fun _=>ha
 | x::l,S,acc,h0,hI,hk,ha=>by
   rw[yp]
   have h1:=hf x S h0 hI hk
   refine h1.bind fun hv hI' hk' _=>yv H hf l _ _ (h0.trans h1.later) hI' hk' ?_
   intro v hv'
   rcases List.mem_append.1 hv' with h | h
   ·exact(ha v h).mono H hI hI' h1.later
   ·obtain rfl:v=_:=by simpa using h
    exact hv
theorem AZ {p:Int} {x:XD} {arg:VD} {names:List VD} {S:StD} {v:VD} (hp:D p) (hk:dP D A S) (ha:Hv A S.G p arg) (hn:∀ v∈names,Hv A S.G p v) (h:dV p x arg names S=some v):Hv A S.G p v:=by
 unfold dV at h
 split at h
 ·injection h with h;subst h;exact Hv.zero
 split at h
 ·injection h with h;subst h;exact Hv.int
 split at h
 ·injection h with h;subst h;exact ha
 split at h
 ·injection h with h;subst h;exact Hv.getD hn _
 split at h
 ·injection h with h;subst h;exact hk p hp
 ·cases h
theorem Hv.all (H:mC D A I) {G G':ae} {p:Int} {l:List VD} (hI:I G) (hI':I G') (hl:G.Later G') (h:∀ v∈l,Hv A G p v):∀ v∈l,Hv A G' p v:=fun v hv=>(h v hv).mono H hI hI' hl
theorem zb (H:mC D A I) (ms:aM):∀ (N:Nat) (p:Int) (x:XD) (arg:VD) (names:List VD) (fr:Nat) (S:StD),D p→I S.G→dP D A S→Hv A S.G p arg→(∀ v∈names,Hv A S.G p v)→bB D A I S (fun G v=>Hv A G p v) (ofD ms N p x arg names fr S)
 | 0,p,x,arg,names,fr,S,hp,hI,hk,ha,hn=>bB.same H hI hk hI (ae.Later.refl _) fun h=>absurd h (by decide)
 | N+1,p,x,arg,names,fr,S,hp,hI,hk,ha,hn=>by
   have ih:=zb H ms N
   have no:∀ {T:StD} {c:Int},I T.G→dP D A T→bB D A I T (fun G v=>Hv A G p v) (T.no c):=fun hI hk=>bB.same H hI hk hI (ae.Later.refl _) fun _=>Hv.zero
   rw[ym]
   refine .ite (fun _=>no hI hk) fun _=> ?_
   have hI:I S.tick.G:=hI
   have hk:dP D A S.tick:=hk
   have ha:Hv A S.tick.G p arg:=ha
   have hn:∀ v∈names,Hv A S.tick.G p v:=hn
   suffices h:bB D A I S.tick (fun G v=>Hv A G p v) (match dV p x arg names S.tick with
    | some v=>S.tick.ok v
    | none=>
      if x.op=5 then je au (ofD ms N p (x.l.getD 0 cz) arg names fr S.tick) fun S' v=>ofD ms N p (x.l.getD 1 cz) arg (names++[v]) fr S'
      else if x.op=7 then je au (ofD ms N p (x.l.getD 0 cz) arg names fr S.tick) fun S' v=>if v.kind≠1 then S'.no 2 else if v.n≠0 then ofD ms N p (x.l.getD 1 cz) arg names fr S' else ofD ms N p (x.l.getD 2 cz) arg names fr S'
      else je au (evL (fun y S=>ofD ms N p y arg names fr S) x.l S.tick []) fun S' l=>
       if x.op=18 then(if fr=20 then S'.no 4 else ofD ms N p (cS ms p x.k) (l.getD 0 au) [] (fr+1) S')
       else if x.op=19 then je au (eX ms (l.getD 0 au) (l.getD 1 au) fr S') fun S2 q=>je au (ofD ms N q.plugin (cS ms q.plugin q.func) q.arg [] (fr+1) S2) fun S3 v=>eC q.gates v S3
       else bH p x.op x.k x.n l S') from⟨h.inv,h.later,h.kept,h.val,h.log⟩
   generalize S.tick=T at hI hk ha hn
   cases hlf:dV p x arg names T with
   | some v=>exact bB.same H hI hk hI (ae.Later.refl _) fun _=>AZ hp hk ha hn hlf
   | none=>
     refine .ite (fun _=> ?_) fun _=> .ite (fun _=> ?_) fun _=> ?_
     ·have h1:=ih p (x.l.getD 0 cz) arg names fr T hp hI hk ha hn
      refine h1.bind fun hv hI' hk' _=>ih _ _ _ _ _ _ hp hI' hk' (ha.mono H hI hI' h1.later) ?_
      intro v hv'
      rcases List.mem_append.1 hv' with h | h
      ·exact(hn v h).mono H hI hI' h1.later
      ·obtain rfl:v=_:=by simpa using h
       exact hv
     ·have h1:=ih p (x.l.getD 0 cz) arg names fr T hp hI hk ha hn
      refine h1.bind fun hv hI' hk' _=> .ite (fun _=>no hI' hk') fun _=> .ite (fun _=> ?_) fun _=> ?_
      ·exact ih _ _ _ _ _ _ hp hI' hk' (ha.mono H hI hI' h1.later) (Hv.all H hI hI' h1.later hn)
      ·exact ih _ _ _ _ _ _ hp hI' hk' (ha.mono H hI hI' h1.later) (Hv.all H hI hI' h1.later hn)
     ·have h1:=yv H (p:=p) (f:=fun y S=>ofD ms N p y arg names fr S) (G0:=T.G) (fun y S l hI' hk'=>ih p y arg names fr S hp hI' hk' (ha.mono H hI hI' l) (Hv.all H hI hI' l hn)) x.l T [] (ae.Later.refl _) hI hk (fun v hv=>by cases hv)
      refine h1.bind fun hl hI' hk' _=> .ite (fun _=> .ite (fun _=>no hI' hk') fun _=> ?_) fun _=> .ite (fun _=> ?_) fun _=> ?_
      ·exact ih _ _ _ _ _ _ hp hI' hk' (Hv.getD hl 0) (fun v hv=>by cases hv)
      ·have h2:=FA H (ms:=ms) (fr:=fr) hp hI' hk' (Hv.getD hl 0) (Hv.getD hl 1)
       refine h2.bind fun hq hI2 hk2 _=>bB.bind (ih _ _ _ _ _ _ hq.1 hI2 hk2 hq.2.1 (fun v hv=>by cases hv)) fun hv hI3 hk3 l3=>A8 H hp hI2 l3 hI3 hk3 hq hv
      ·exact BC H hp hI' hk' hl
theorem Fk (H:mC D A I) {ms:aM} {S:StD} {p f fuel:Int} {v:VD} (hp:D p) (hI:I S.G) (hk:dP D A S) (hv:Hv A S.G p v):I (cO ms p f v fuel S).1.G∧S.G.Later (cO ms p f v fuel S).1.G∧dP D A (cO ms p f v fuel S).1∧Hv A (cO ms p f v fuel S).1.G p (cO ms p f v fuel S).2.1∧∃ ext,(cO ms p f v fuel S).1.log=S.log++ext∧∀ e∈ext,D e.plugin∧∃ G0,I G0∧G0.Later (cO ms p f v fuel S).1.G∧C4 A G0 e:=by
 have same:I S.G∧S.G.Later S.G∧dP D A S∧Hv A S.G p au∧∃ ext,S.log=S.log++ext∧∀ e∈ext,D e.plugin∧∃ G0,I G0∧G0.Later S.G∧C4 A G0 e:=⟨hI,ae.Later.refl _,hk,Hv.zero,[],by simp,fun e he=>by cases he⟩
 unfold cO
 split
 ·exact same
 ·split
  ·exact same
  ·split
   ·exact same
   ·have h:=zb H ms fuel.toNat p (cS ms p f) v [] 1 {S with left:=fuel.toNat} hp hI hk hv (fun v hv=>by cases hv)
    generalize ofD ms fuel.toNat p (cS ms p f) v [] 1 {S with left:=fuel.toNat}=q at h
    obtain⟨S',w,c⟩:=q
    obtain⟨h1,h2,h3,h4,h5⟩:=h
    refine⟨h1,h2,h3,?_,h5⟩
    show Hv A S'.G p (if c=0 then w else au)
    split
    ·rename_i hc;exact h4 hc
    ·exact Hv.zero
end
theorem wh {G:ae} {nd:aY} (hz:(G.add nd).2.2=0):G.add nd=(⟨G.nodes++[nd],G.shut⟩,(G.nodes.length:Int),0)∧fx nd.rights=true∧(nd.gate= -1∨G.hasGate nd.gate=true):=by
 unfold ae.add at hz ⊢
 split
 ·rename_i h;rw[if_pos h]at hz;exact absurd hz (by simp)
 ·rename_i h1
  rw[if_neg h1]at hz
  split
  ·rename_i h;rw[if_pos h]at hz;exact absurd hz (by simp)
  ·rename_i h2
   rw[if_neg h2]at hz
   split
   ·rename_i h;rw[if_pos h]at hz;exact absurd hz (by simp)
   ·refine⟨rfl,by simpa using h1,?_⟩
    by_cases e:nd.gate= -1
    ·exact .inl e
    ·refine .inr ?_
     cases hh:G.hasGate nd.gate with
     | true=>rfl
     | false=>exact absurd ⟨e,hh⟩ h2
theorem mU {G:ae} {n r g:Int} (hz:(G.derive n r g).2.2=0):G.has n=true∧G.derive n r g=(⟨G.nodes++[⟨n,g,r,0, -1,0⟩],G.shut⟩,(G.nodes.length:Int),0):=by
 unfold ae.derive at hz ⊢
 split
 ·rename_i h
  rw[if_pos h]at hz
  exact⟨h,(wh hz).1⟩
 ·rename_i h
  rw[if_neg h]at hz
  exact absurd hz (by simp)
theorem xi {G:ae} {nd:aY}:(⟨G.nodes++[nd],G.shut⟩:ae).has (G.nodes.length:Int)=true∧(⟨G.nodes++[nd],G.shut⟩:ae).nodes.getD ((G.nodes.length:Int)).toNat bQ=nd:=by
 refine⟨by simp[ae.has];omega,?_⟩
 rw[Int.toNat_natCast]
 simp[List.getD]
theorem Later.way {G G':ae} (l:G.Later G') (hW:G.Wf) (hW':G'.Wf):∀ (f:Nat) (i:Int),i.toNat<f→G.has i=true→G'.way i=G.way i:=by
 intro f
 induction f with
 | zero=>intro i hi;omega
 | succ f ih=>
   intro i hi hh
   obtain⟨hh',hn⟩:=l.has hh
   have ok:=hW.get hh
   rw[ae.way_yes hW hh,ae.way_yes hW' hh',hn]
   congr 1
   by_cases hp:G.has (G.nodes.getD i.toNat bQ).parent=true
   ·have hp0:0≤(G.nodes.getD i.toNat bQ).parent:=by simp only[ae.has,decide_eq_true_eq]at hp;exact hp.1
    have hp1:=ok.p1
    exact ih _ (by omega) hp
   ·have h0:=ok.p0
    have h1:=ok.p1
    have hi2:i.toNat<G.nodes.length:=by simp[ae.has]at hh;omega
    have hneg:(G.nodes.getD i.toNat bQ).parent<0:=by
     simp only[ae.has,decide_eq_true_eq,not_and]at hp
     rcases Int.lt_or_le (G.nodes.getD i.toNat bQ).parent 0 with h | h
     ·exact h
     ·have:=hp h;omega
    rw[ae.way_no (G:=G) (by simpa using hp),ae.way_no (G:=G') (by simp only[ae.has,decide_eq_false_iff_not,not_and];intro h;omega)]
theorem mP {G:ae} (hW:G.Wf) {n r g:Int} (hz:(G.derive n r g).2.2=0):(G.derive n r g).1.has (G.derive n r g).2.1=true∧(G.derive n r g).1.path (G.derive n r g).2.1=⟨n,g,r,0, -1,0⟩::G.path n∧(G.derive n r g).1.way (G.derive n r g).2.1=(G.derive n r g).2.1::G.way n:=by
 have hW':=hW.derive n r g
 have hl:=fW G n r g
 obtain⟨hn,e⟩:=mU hz
 have h1:=xi (G:=G) (nd:=⟨n,g,r,0, -1,0⟩)
 rw[e]at hW' hl ⊢
 refine⟨h1.1,?_,?_⟩
 ·rw[ae.path_yes hW' h1.1,h1.2]
  congr 1
  exact hl.path hW hW' (n.toNat+1) n (by omega) hn
 ·rw[ae.way_yes hW' h1.1,h1.2]
  congr 1
  exact Later.way hl hW hW' (n.toNat+1) n (by omega) hn
def ae.root (G:ae) (n:Int):Int:=(G.way n).getLastD (-1)
theorem BE {G:ae} (hW:G.Wf) {n:Int} (h:G.has n=true):G.way n≠[]:=by
 rw[ae.way_yes hW h]
 simp
theorem tW {α:Type} {a d:α} {l:List α} (h:l≠[]):(a::l).getLastD d=l.getLastD d:=by
 cases l with
 | nil=>exact absurd rfl h
 | cons b l=>simp[List.getLastD]
theorem pN {G:ae} (hW:G.Wf) {n r g:Int} (hz:(G.derive n r g).2.2=0):(G.derive n r g).1.root (G.derive n r g).2.1=G.root n:=by
 unfold ae.root
 rw[(mP hW hz).2.2]
 exact tW (BE hW (mU hz).1)
theorem Later.root {G G':ae} (l:G.Later G') (hW:G.Wf) (hW':G'.Wf) {n:Int} (h:G.has n=true):G'.root n=G.root n:=by
 unfold ae.root
 rw[Later.way l hW hW' (n.toNat+1) n (by omega) h]
theorem pJ:∀ (ks:List Int) (G:ae) (n:Int),G.Wf→G.has n=true→(dm ks G n).2.2=0→(dm ks G n).1.has (dm ks G n).2.1=true∧(dm ks G n).1.root (dm ks G n).2.1=G.root n
 | [],G,n,hW,hn,_=>⟨hn,rfl⟩
 | k::ks,G,n,hW,hn,hz=>by
   unfold dm at hz ⊢
   split
   ·rename_i h;rw[if_pos h]at hz;exact absurd hz h
   ·rename_i h
    rw[if_neg h]at hz
    have h0:=Classical.not_not.1 h
    obtain⟨a,b⟩:=pJ ks (G.derive n 15 k).1 (G.derive n 15 k).2.1 (hW.derive _ _ _) (mP hW h0).1 hz
    exact⟨a,b.trans (pN hW h0)⟩
theorem lN {G:ae} (hW:G.Wf) {n:Int} (h:G.has n=true):(G.target n).1=G.at_ (G.root n)∧G.has (G.root n)=true∧(G.at_ (G.root n)).parent= -1:=by
 have hne:=BE hW h
 have ht:(G.target n).1=G.at_ (G.root n):=by
  unfold ae.target ae.root
  rw[←ae.way_path]
  show((G.way n).map G.at_).getLastD bQ=G.at_ ((G.way n).getLastD (-1))
  rw[List.getLastD_eq_getLast?,List.getLastD_eq_getLast?,List.getLast?_map]
  cases hl:(G.way n).getLast? with
  | none=>rw[List.getLast?_eq_none_iff]at hl;exact absurd hl hne
  | some a=>rfl
 have hm:G.root n∈G.way n:=by
  unfold ae.root
  rw[List.getLastD_eq_getLast?]
  cases hl:(G.way n).getLast? with
  | none=>rw[List.getLast?_eq_none_iff]at hl;exact absurd hl hne
  | some a=>exact List.mem_of_getLast? hl
 refine⟨ht,ae.way_has n _ hm,?_⟩
 rw[←ht]
 exact(ae.target_ok hW h).2.1
theorem Fm {G:ae} {n r g:Int} (h:(G.derive n r g).2.2≠0):(G.derive n r g).1=G:=by
 unfold ae.derive at h ⊢
 split
 ·rename_i h1
  rw[if_pos h1]at h
  exact lB h
 ·rfl
section
variable {p0:Int} {z:Bool}
theorem GM (k:Nat):d9 0 k=false:=by simp[d9];decide
theorem IF {H:HoD} {p q:Int} (hp:inP p=true) (hq:0≤q) {l:List VD} {v:VD} (h:v∈(H.hands.set p.toNat l).getD q.toNat []):v∈H.hand q∨p=q∧v∈l:=by
 obtain⟨p1,p2⟩:=lZ.1 hp
 by_cases e:p.toNat=q.toNat
 ·have e2:p=q:=by omega
  rw[List.getD,List.getElem?_set,if_pos e]at h
  split at h
  ·exact .inr ⟨e2,h⟩
  ·cases h
 ·rw[List.getD,List.getElem?_set_ne e]at h
  exact .inl h
theorem Jf {G:ae} {nd:aY} (hW:G.Wf) (hz:(G.add nd).2.2=0) (hW':(G.add nd).1.Wf) (hp:nd.parent= -1):(G.add nd).1.has (G.add nd).2.1=true∧(G.add nd).1.path (G.add nd).2.1=[nd]∧G.Later (G.add nd).1∧(G.add nd).1.nodes=G.nodes++[nd]:=by
 obtain⟨e,_⟩:=wh hz
 have hl:G.Later (G.add nd).1:=by
  obtain⟨⟨ext,h1,_⟩,h2⟩:=vU G nd
  exact⟨⟨ext,h1⟩,by rw[h2];exact⟨Nat.le_refl _,fun _=>id⟩⟩
 have h1:=xi (G:=G) (nd:=nd)
 rw[e]at hl hW' ⊢
 refine⟨h1.1,?_,hl,rfl⟩
 rw[ae.path_yes hW' h1.1,h1.2,hp,ae.path_no (by simp[ae.has])]
theorem EN {G:ae} {k r g:Int} (hz:(G.cellC k r g).2.2=0):ge k=true∧G.cellC k r g=G.add ⟨-1,g,r,k, -1,0⟩:=by
 unfold ae.cellC at hz ⊢
 split
 ·rename_i h;exact⟨h,rfl⟩
 ·rename_i h;rw[if_neg h]at hz;exact absurd hz (by simp)
theorem vP {G:ae} {q k r g:Int} (hz:(G.funcC q k r g).2.2=0):mV q k=true∧G.funcC q k r g=G.add ⟨-1,g,r,0,q,k⟩:=by
 unfold ae.funcC at hz ⊢
 split
 ·rename_i h;exact⟨h,rfl⟩
 ·rename_i h;rw[if_neg h]at hz;exact absurd hz (by simp)
end
inductive Lk (links:List (Int×Int)) (p:Int):Int→Prop where
 | refl:Lk links p p
 | fwd {a b:Int}:Lk links p a→(a,b)∈links→Lk links p b
 | bwd {a b:Int}:Lk links p b→(a,b)∈links→Lk links p a
theorem Lk.trans {links:List (Int×Int)} {p q r:Int} (h:Lk links p q) (g:Lk links q r):Lk links p r:=by
 induction g with
 | refl=>exact h
 | fwd _ hm ih=>exact ih.fwd hm
 | bwd _ hm ih=>exact ih.bwd hm
theorem Lk.symm {links:List (Int×Int)} {p q:Int} (h:Lk links p q):Lk links q p:=by
 induction h with
 | refl=>exact .refl
 | fwd _ hm ih=>exact(Lk.bwd .refl hm).trans ih
 | bwd _ hm ih=>exact(Lk.fwd .refl hm).trans ih
theorem Lk.mono {l m:List (Int×Int)} (hs:∀ x∈l,x∈m) {p q:Int} (h:Lk l p q):Lk m p q:=by
 induction h with
 | refl=>exact .refl
 | fwd _ hm ih=>exact ih.fwd (hs _ hm)
 | bwd _ hm ih=>exact ih.bwd (hs _ hm)
abbrev eP:=List (ci×EvD)
def cD (d:eP):List (Int×Int):=(d.filter fun z=>decide (z.1.kind=3) && decide (z.2.code=0)).map fun z=>(z.1.p,z.1.q)
theorem gN (d e:eP):cD (d++e)=cD d++cD e:=by simp[cD]
def Oi (d:eP) (own:Int→Int) (i:Int) (nd:aY):Prop:=∃ z∈d,z.1.kind=2∧z.2.code=0∧z.1.p=own i∧z.1.k=nd.cell∧z.1.r=nd.rights
def RtG (d:eP) (own:Int→Int) (G:ae):Prop:=G.Wf∧∀ (i:Nat) (nd:aY),G.nodes[i]? =some nd→nd.parent= -1→(0≤nd.plugin→Lk (cD d) (own i) nd.plugin)∧(nd.plugin<0→Oi d own i nd)
def RtA (d:eP) (own:Int→Int) (G:ae) (p n:Int):Prop:=G.has n=true∧Lk (cD d) p (own (G.root n))
section
variable {d:eP} {own:Int→Int}
theorem CP {G:ae} {i:Int} (h:G.has i=true):G.nodes[i.toNat]? =some (G.at_ i):=by
 simp only[ae.has,decide_eq_true_eq]at h
 unfold ae.at_
 have:i.toNat<G.nodes.length:=by omega
 simp[List.getD,this]
theorem RtG.target {G:ae} (g:RtG d own G) {n:Int} (h:G.has n=true) (ht:¬ (G.target n).1.plugin<0):Lk (cD d) (own (G.root n)) (G.target n).1.plugin:=by
 obtain⟨h1,h2,h3⟩:=lN g.1 h
 have hg:=CP h2
 have:=(g.2 _ _ hg h3).1 (by rw[←h1];omega)
 have e:(((G.root n).toNat:Nat):Int)=G.root n:=by
  simp only[ae.has,decide_eq_true_eq]at h2;omega
 rw[e,←h1]at this
 exact this
theorem RtG.same {G G':ae} (g:RtG d own G) (hW:G'.Wf) (hn:G'.nodes=G.nodes):RtG d own G':=⟨hW,by rw[hn];exact g.2⟩
theorem RtG.derive {G:ae} (g:RtG d own G) (n r k:Int):RtG d own (G.derive n r k).1:=by
 by_cases hz:(G.derive n r k).2.2=0
 ·obtain⟨h1,h2⟩:=mU hz
  refine⟨g.1.derive _ _ _,fun i nd hi hp=> ?_⟩
  rw[h2]at hi
  have hi:(G.nodes++[(⟨n,k,r,0, -1,0⟩:aY)])[i]? =some nd:=hi
  by_cases hlt:i<G.nodes.length
  ·rw[List.getElem?_append_left hlt]at hi
   exact g.2 i nd hi hp
  ·rw[List.getElem?_append_right (by omega)]at hi
   have hi0:i - G.nodes.length=0:=by
    have:=(List.getElem?_eq_some_iff.1 hi).1
    simpa using this
   rw[hi0]at hi
   obtain rfl:(⟨n,k,r,0, -1,0⟩:aY)=nd:=by simpa using hi
   simp only[ae.has,decide_eq_true_eq]at h1
   simp only at hp
   omega
 ·rw[Fm hz];exact g
theorem qH (d:eP) (own:Int→Int):mC (fun p=>0≤p) (RtA d own) (RtG d own) where
 pos:=fun p h=>h
 wf:=fun G h=>h.1
 has:=fun G p n _ h=>h.1
 mono:=fun G G' p n hG hG' l h=>⟨(l.has h.1).1,by rw[Later.root l hG.1 hG'.1 h.1];exact h.2⟩
 gate:=fun G h=>h.same h.1.gate (mN G).1
 cut:=fun G k h=>h.same (h.1.cut k) (pu G k).1
 inv:=fun G n r g h=>h.derive n r g
 der:=fun G p n r g _ hG h hz=>⟨(mP hG.1 hz).1,by rw[pN hG.1 hz];exact h.2⟩
 ask:=fun G p n _ _ _ _ h=>by omega
 give:=fun G p n m _ _ hG hn ht hm hz=>by
  obtain⟨a,b⟩:=pJ (G.gatesC n) G m hG.1 hm.1 hz
  exact⟨a,by rw[b];exact((hG.target hn.1 ht).symm.trans (hn.2.symm)).trans hm.2⟩
 take:=fun G p n m _ _ hG hn ht hm hz=>by
  obtain⟨a,b⟩:=pJ (G.gatesC n) G m hG.1 hm.1 hz
  exact⟨a,by rw[b];exact(hn.2.trans (hG.target hn.1 ht)).trans hm.2⟩
end
theorem vv {G:ae} (hW:G.Wf) {n:Int} {k:Nat} (hk:k<4) {r:Int} (hr:r=(BitVec.twoPow 64 k).toInt) (h:d9 (G.rights n) k=true):∀ nd∈G.path n,fJ nd.rights r=r:=by
 intro nd hnd
 have hok:=ae.path_ok hW (n.toNat+1) n
 have hP:∀ m∈G.path n,fx m.rights=true:=fun m hm=>(hok m hm).1
 unfold ae.rights at h
 split at h
 ·rw[GM]at h;cases h
 ·have e15:(15:Int)=(15#64).toInt:=by decide
  rw[e15,tC _ hP,qt _ (k:=k) (by omega),Ia]at h
  simp only[Bool.and_eq_true]at h
  have hb:=List.all_eq_true.1 h.2 nd hnd
  have hs:=Ji (hP nd hnd)
  have hh:=DW (x:=BitVec.ofInt 64 nd.rights) (k:=k) (by omega) hr
  rw[qt _ (k:=k) (by omega),hb,←hs]at hh
  unfold BN at hh
  simpa using hh
def Gp (d:eP) (G:ae) (e:cE):Prop:=
 (∃ z∈d,z.1.kind=2∧z.2.code=0∧z.1.k=e.cell∧fJ z.1.r e.right=e.right∧Lk (cD d) e.plugin z.1.p)∧G.has e.node=true∧(G.target e.node).1.plugin<0∧(G.target e.node).1.cell=e.cell∧(∀ nd∈G.path e.node,fJ nd.rights e.right=e.right)∧0≤e.plugin
structure jT (d:eP) (own:Int→Int) (H:HoD):Prop where
 good:H.Good
 g:RtG d own H.S.G
 kept:dP (fun p=>0≤p) (RtA d own) H.S
 hand:∀ p:Int,0≤p→∀ v∈H.hand p,Hv (RtA d own) H.S.G p v
section
variable {d:eP} {own:Int→Int} {H:HoD}
theorem jT.more (c:jT d own H) (e:eP):jT (d++e) own H:=by
 have hm:∀ x∈cD d,x∈cD (d++e):=fun x hx=>by rw[gN];exact List.mem_append_left _ hx
 have ha:∀ G p n,RtA d own G p n→RtA (d++e) own G p n:=fun G p n h=>⟨h.1,h.2.mono hm⟩
 exact⟨c.good,⟨c.g.1,fun i nd h1 h2=>⟨fun h3=>((c.g.2 i nd h1 h2).1 h3).mono hm,fun h3=>by
  obtain⟨z,hz,r⟩:=(c.g.2 i nd h1 h2).2 h3
  exact⟨z,List.mem_append_left _ hz,r⟩⟩⟩,fun p hp n hn=>ha _ _ _ (c.kept p hp n hn),fun p hp v hv n hn=>ha _ _ _ (c.hand p hp v hv n hn)⟩
theorem jT.graph (c:jT d own H) {G':ae} (hG:RtG d own G') (l:H.S.G.Later G'):jT d own (H.graph G'):=
 ⟨c.good.graph hG.1,hG,fun p hp n hn'=>by
  have:=c.kept p hp n hn'
  exact(qH _ _).mono _ _ _ _ c.g hG l this,fun p hp v hv n hn'=>(qH _ _).mono _ _ _ _ c.g hG l (c.hand p hp v hv n hn')⟩
theorem jT.newRoot (c:jT d own H) {x:ci} (hp:inP x.p=true) {q:ae×Int×Int} {nd:aY} (hq:q.2.2=0→q=H.S.G.add nd) (hno:q.2.2≠0→q.1=H.S.G) (hW:q.1.Wf) (h1:nd.parent= -1) (hk:x.kind=2∧nd.plugin<0∧nd.cell=x.k∧nd.rights=x.r∨x.kind=3∧nd.plugin=x.q∧(q.2.2=0→0≤x.q)) (e:EvD) (he:q.2.2=0→e.code=0):∃ own',jT (d++[(x,e)]) own' ((H.graph q.1).give x.p q.2.1 q.2.2).1:=by
 by_cases hz:q.2.2=0
 ·have eq:=hq hz
  rw[eq]at hz hW
  have hze:e.code=0:=he (by rw[eq];exact hz)
  obtain⟨a1,a2,a3,a4⟩:=Jf c.g.1 hz hW h1
  have e3:(H.S.G.add nd).2.1=(H.S.G.nodes.length:Int):=by rw[(wh hz).1]
  have hm:∀ y∈cD d,y∈cD (d++[(x,e)]):=fun y hy=>by rw[gN];exact List.mem_append_left _ hy
  let own':Int→Int:=fun i=>if i=(H.S.G.nodes.length:Int)then x.p else own i
  have hold:∀ n,H.S.G.has n=true→own' (H.S.G.root n)=own (H.S.G.root n):=fun n hn=>by
   have:=(lN c.g.1 hn).2.1
   simp only[ae.has,decide_eq_true_eq]at this
   show(if H.S.G.root n=(H.S.G.nodes.length:Int)then x.p else own (H.S.G.root n))=_
   rw[if_neg (by omega)]
  have hA:∀ p n,RtA d own H.S.G p n→RtA (d++[(x,e)]) own' (H.S.G.add nd).1 p n:=fun p n h=>by
   refine⟨(a3.has h.1).1,?_⟩
   rw[Later.root a3 c.g.1 hW h.1,hold n h.1]
   exact h.2.mono hm
  have hroot:(H.S.G.add nd).1.root (H.S.G.add nd).2.1=(H.S.G.nodes.length:Int):=by
   unfold ae.root
   have hn:=xi (G:=H.S.G) (nd:=nd)
   rw[e3]at a1 ⊢
   have e4:(H.S.G.add nd).1.nodes.getD ((H.S.G.nodes.length:Int)).toNat bQ=nd:=by rw[a4];exact hn.2
   rw[ae.way_yes hW a1,e4,h1,ae.way_no (by simp[ae.has])]
   rfl
  have hnew:RtA (d++[(x,e)]) own' (H.S.G.add nd).1 x.p (H.S.G.add nd).2.1:=⟨a1,by
   rw[hroot]
   show Lk _ x.p (if(H.S.G.nodes.length:Int)=(H.S.G.nodes.length:Int)then x.p else own (H.S.G.nodes.length:Int))
   rw[if_pos rfl]
   exact .refl⟩
  have hcases:∀ (i:Nat) (m:aY),(H.S.G.add nd).1.nodes[i]? =some m→(H.S.G.nodes[i]? =some m∧own' i=own i)∨(i=H.S.G.nodes.length∧m=nd):=fun i m hi=>by
   rw[a4]at hi
   by_cases hlt:i<H.S.G.nodes.length
   ·rw[List.getElem?_append_left hlt]at hi
    exact .inl ⟨hi,by show(if(i:Int)=(H.S.G.nodes.length:Int)then x.p else own i)=_;rw[if_neg (by omega)]⟩
   ·rw[List.getElem?_append_right (by omega)]at hi
    have hi0:i - H.S.G.nodes.length=0:=by
     have:=(List.getElem?_eq_some_iff.1 hi).1
     simpa using this
    rw[hi0]at hi
    obtain rfl:nd=m:=by simpa using hi
    exact .inr ⟨by omega,rfl⟩
  refine⟨own',?_⟩
  rw[eq]
  have hgood:=(c.good.graph hW).give (p:=x.p) (n:=(H.S.G.add nd).2.1) (c:=(H.S.G.add nd).2.2) we
  have eg:((H.graph (H.S.G.add nd).1).give x.p (H.S.G.add nd).2.1 (H.S.G.add nd).2.2).1={(H.graph (H.S.G.add nd).1)with hands:=H.hands.set x.p.toNat (H.hand x.p++[fh (H.S.G.add nd).2.1])}:=by
   unfold HoD.give
   rw[if_neg (fun h=>h hz)]
   rfl
  rw[eg]at hgood ⊢
  refine⟨hgood,⟨hW,fun i m hi hpar=>⟨fun hpl=> ?_,fun hpl=> ?_⟩⟩,fun p hp n hn=>hA p n (c.kept p hp n hn),fun p hp' v hv n hn=> ?_⟩
  ·rcases hcases i m hi with⟨b1,b2⟩ | ⟨b1,b2⟩
   ·rw[b2];exact((c.g.2 i m b1 hpar).1 hpl).mono hm
   ·subst b2
    rcases hk with⟨_,k2,_⟩ | ⟨k1,k2,_⟩
    ·omega
    ·rw[b1]
     show Lk _ (if((H.S.G.nodes.length:Nat):Int)=(H.S.G.nodes.length:Int)then x.p else own (H.S.G.nodes.length:Int)) m.plugin
     rw[if_pos rfl,k2]
     refine .fwd .refl ?_
     rw[gN]
     refine List.mem_append_right _ ?_
     simp[cD,k1,hze]
  ·rcases hcases i m hi with⟨b1,b2⟩ | ⟨b1,b2⟩
   ·obtain⟨z,hz',r⟩:=(c.g.2 i m b1 hpar).2 hpl
    refine⟨z,List.mem_append_left _ hz',?_⟩
    rw[b2]
    exact r
   ·subst b2
    rcases hk with⟨k1,k2,k3,k4⟩ | ⟨k1,k2,k3⟩
    ·refine⟨(x,e),by simp,k1,hze,?_,k3.symm,k4.symm⟩
     rw[b1]
     show x.p=(if((H.S.G.nodes.length:Nat):Int)=(H.S.G.nodes.length:Int)then x.p else own (H.S.G.nodes.length:Int))
     rw[if_pos rfl]
    ·exfalso
     have:=k3 (by rw[eq];exact hz)
     omega
  ·rcases IF hp hp' hv with h | ⟨ep,h⟩
   ·exact hA p n (c.hand p hp' v h n hn)
   ·rcases List.mem_append.1 h with h | h
    ·exact hA p n (c.hand p hp' v (by rw[←ep];exact h) n hn)
    ·obtain rfl:v=_:=by simpa using h
     rw[←ep]
     have:n=(H.S.G.add nd).2.1:=by simpa[fh,VD.caps,cr]using hn
     rw[this]
     exact hnew
 ·refine⟨own,?_⟩
  rw[hno hz]
  have eg:((H.graph H.S.G).give x.p q.2.1 q.2.2).1=H:=by
   unfold HoD.give
   rw[if_pos hz]
   rfl
  rw[eg]
  exact c.more _
theorem Ni (c:jT d own H) {G:ae} (hG:RtG d own G) {e:cE} {G0:ae} (h0:RtG d own G0) (l:G0.Later G) (hp:0≤e.plugin) (h:C4 (RtA d own) G0 e):Gp d G e:=by
 obtain⟨⟨h1,h2⟩,h3,h4,h5⟩:=h
 have hpath:G.path e.node=G0.path e.node:=l.path h0.1 hG.1 (e.node.toNat+1) e.node (by omega) h1
 have htg:G.target e.node=G0.target e.node:=by unfold ae.target;rw[hpath]
 obtain⟨r1,r2,r3⟩:=lN h0.1 h1
 have hb:∀ nd∈G0.path e.node,fJ nd.rights e.right=e.right:=by
  rcases h5 with⟨e5,b5⟩ | ⟨e5,b5⟩
  ·rw[e5];exact vv h0.1 (k:=0) (by decide) (by decide) b5
  ·rw[e5];exact vv h0.1 (k:=1) (by decide) (by decide) b5
 obtain⟨z,hz,z1,z2,z3,z4,z5⟩:=(h0.2 _ _ (CP r2) r3).2 (by rw[←r1];exact h3)
 have er:(((G0.root e.node).toNat:Nat):Int)=G0.root e.node:=by
  simp only[ae.has,decide_eq_true_eq]at r2;omega
 rw[er]at z3
 have hin:G0.at_ (G0.root e.node)∈G0.path e.node:=by
  rw[←ae.way_path]
  refine List.mem_map.2 ⟨_,?_,rfl⟩
  unfold ae.root
  rw[List.getLastD_eq_getLast?]
  cases hl:(G0.way e.node).getLast? with
  | none=>rw[List.getLast?_eq_none_iff]at hl;exact absurd hl (BE h0.1 h1)
  | some a=>exact List.mem_of_getLast? hl
 refine⟨⟨z,hz,z1,z2,by rw[z4,h4,r1],?_,by rw[z3];exact h2⟩,(l.has h1).1,by rw[htg];exact h3,by rw[htg];exact h4.symm,by rw[hpath];exact hb,hp⟩
 rw[z5]
 exact hb _ hin
theorem jT.step (c:jT d own H) (x:ci):∃ own',jT (d++[(x,(H.step x).2)]) own' (H.step x).1∧∃ ext,(H.step x).1.S.log=H.S.log++ext∧∀ e∈ext,Gp d (H.step x).1.S.G e:=by
 have nolog:∀ {H':HoD},H'.S.log=H.S.log→∃ ext,H'.S.log=H.S.log++ext∧∀ e∈ext,Gp d H'.S.G e:=fun h=>⟨[],by simp[h],fun e he=>by cases he⟩
 unfold HoD.step
 by_cases k1:x.kind=1
 ·rw[if_pos k1]
  unfold HoD.load
  split
  ·exact⟨own,c.more _,nolog rfl⟩
  ·split
   ·exact⟨own,c.more _,nolog rfl⟩
   ·rename_i h1 h2
    have hg:=(c.good.step {x with kind:=1}).good
    rw[D6 rfl]at hg
    unfold HoD.load at hg
    rw[if_neg h1,if_neg h2]at hg
    refine⟨own,jT.more ⟨hg,c.g,fun p hp=> ?_,c.hand⟩ _,nolog rfl⟩
    show Hv (RtA d own) H.S.G p ((H.S.kept.set x.p.toNat au).getD p.toNat au)
    by_cases e:x.p.toNat=p.toNat
    ·rw[List.getD,List.getElem?_set,if_pos e]
     split<;>exact Hv.zero
    ·rw[List.getD,List.getElem?_set_ne e]
     exact c.kept p hp
 rw[if_neg k1]
 by_cases k2:x.kind=2∨x.kind=3
 ·rw[if_pos k2]
  by_cases hp:inP x.p=false
  ·rw[if_pos hp]
   exact⟨own,c.more _,nolog rfl⟩
  ·rw[if_neg hp]
   have hp:inP x.p=true:=by simpa using hp
   have hec:∀ {H':HoD} {p n k:Int},k=0→(H'.give p n k).2.code=0:=fun h=>by
    unfold HoD.give
    rw[if_neg (fun h'=>h' h)]
    rfl
   split
   ·rename_i h2
    obtain⟨own',h⟩:=c.newRoot hp (nd:=⟨-1,x.g,x.r,x.k, -1,0⟩) (fun h=>(EN h).2) uj (c.g.1.cellC _ _ _) rfl (.inl ⟨h2,by show(-1:Int)<0;decide,rfl,rfl⟩) ((H.graph (H.S.G.cellC x.k x.r x.g).1).give x.p (H.S.G.cellC x.k x.r x.g).2.1 (H.S.G.cellC x.k x.r x.g).2.2).2 hec
    refine⟨own',h,nolog ?_⟩
    unfold HoD.give
    split<;>rfl
   ·rename_i h2
    obtain⟨own',h⟩:=c.newRoot hp (nd:=⟨-1,x.g,x.r,0,x.q,x.k⟩) (fun h=>(vP h).2) uk (c.g.1.funcC _ _ _ _) rfl (.inr ⟨k2.resolve_left h2,rfl,fun hz=>by
     have:=(vP hz).1
     simp only[mV,decide_eq_true_eq]at this
     exact this.1⟩) ((H.graph (H.S.G.funcC x.q x.k x.r x.g).1).give x.p (H.S.G.funcC x.q x.k x.r x.g).2.1 (H.S.G.funcC x.q x.k x.r x.g).2.2).2 hec
    refine⟨own',h,nolog ?_⟩
    unfold HoD.give
    split<;>rfl
 rw[if_neg k2]
 by_cases k4:x.kind=4
 ·rw[if_pos k4]
  have hg:=(c.good.step x).good
  unfold HoD.step at hg
  rw[if_neg k1,if_neg k2,if_pos k4]at hg
  unfold HoD.call at hg ⊢
  split
  ·exact⟨own,c.more _,nolog rfl⟩
  ·rename_i h1
   rw[if_neg h1]at hg
   by_cases hp:0≤x.p
   ·have ha:Hv (RtA d own) H.S.G x.p (if 0≤x.h then(H.hand x.p).getD x.h.toNat au else iH x.n):=by
     split
     ·exact Hv.getD (c.hand x.p hp) _
     ·exact Hv.int
    generalize (if 0≤x.h then(H.hand x.p).getD x.h.toNat au else iH x.n)=arg at ha hg
    have r:=Fk (qH d own) (ms:=H.ms) (p:=x.p) (f:=x.k) (fuel:=2000) (v:=arg) hp c.g c.kept ha
    generalize cO H.ms x.p x.k arg 2000 H.S=q at hg r
    obtain⟨S',v,n,k⟩:=q
    obtain⟨i1,i2,i3,_,ext,i5,i6⟩:=r
    refine⟨own,jT.more ⟨hg,i1,i3,fun p hp v hv n hn=>(qH _ _).mono _ _ _ _ c.g i1 i2 (c.hand p hp v hv n hn)⟩ _,ext,i5,fun e he=> ?_⟩
    obtain⟨j0,G0,j1,j2,j3⟩:=i6 e he
    exact Ni c i1 j1 j2 j0 j3
   ·have hq:cO H.ms x.p x.k (if 0≤x.h then(H.hand x.p).getD x.h.toNat au else iH x.n) 2000 H.S=(H.S,au,0,1):=by
     unfold cO
     rw[if_pos (by omega)]
    rw[hq]
    exact⟨own,c.more _,nolog rfl⟩
 rw[if_neg k4]
 by_cases k5:x.kind=5
 ·rw[if_pos k5]
  exact⟨own,(c.graph (c.g.same (c.g.1.cut _) (pu _ _).1) (vR _ _)).more _,nolog rfl⟩
 rw[if_neg k5]
 by_cases k6:x.kind=6
 ·rw[if_pos k6]
  exact⟨own,(c.graph (c.g.same c.g.1.gate (mN _).1) (kJ _)).more _,nolog rfl⟩
 ·rw[if_neg k6]
  exact⟨own,c.more _,nolog rfl⟩
theorem O5:jT [] (fun _=>0) ho0:=by
 refine⟨rX,⟨GW,fun i nd h=>by
  have h:([]:List aY)[i]? =some nd:=h
  simp at h⟩,fun p _ n hn=> ?_,fun p _ v hv=> ?_⟩
 ·exfalso
  have hz:qU.getD p.toNat au=au:=by
   have:p.toNat=0∨p.toNat=1∨p.toNat=2∨p.toNat=3∨4≤p.toNat:=by omega
   rcases this with e | e | e | e | e
   ·rw[e];rfl
   ·rw[e];rfl
   ·rw[e];rfl
   ·rw[e];rfl
   ·rw[List.getD,List.getElem?_eq_none (by simpa using e)];rfl
  have hn:n∈(qU.getD p.toNat au).caps:=hn
  rw[hz,vN]at hn
  cases hn
 ·exfalso
  have hv:v∈([[],[],[],[]]:List (List VD)).getD p.toNat []:=hv
  have hz:([[],[],[],[]]:List (List VD)).getD p.toNat []=[]:=by
   have:p.toNat=0∨p.toNat=1∨p.toNat=2∨p.toNat=3∨4≤p.toNat:=by omega
   rcases this with e | e | e | e | e
   ·rw[e];rfl
   ·rw[e];rfl
   ·rw[e];rfl
   ·rw[e];rfl
   ·rw[List.getD,List.getElem?_eq_none (by simpa using e)];rfl
  rw[hz]at hv
  cases hv
end
theorem Ax {a x y z:Int} {out:List Int}:z∈oN a x y out↔z∈out∨(x=a∧z=y):=by
 unfold oN
 by_cases h:x=a∧out.contains y=false
 ·rw[if_pos h,List.mem_append]
  simp[h.1]
 ·rw[if_neg h]
  constructor
  ·exact .inl
  ·rintro(h1 | ⟨h1,rfl⟩)
   ·exact h1
   ·by_cases hc:out.contains z=true
    ·simpa using hc
    ·exact absurd ⟨h1,by simpa using hc⟩ h
theorem HU {a z:Int} {out:List Int} {l:Int×Int}:z∈lV a out l↔z∈out∨(l.1=a∧z=l.2)∨(l.2=a∧z=l.1):=by
 unfold lV
 rw[Ax,Ax,or_assoc]
theorem lM {a z:Int}:∀ {ls:List (Int×Int)} {out:List Int},z∈ls.foldl (lV a) out↔z∈out∨∃ l∈ls,(l.1=a∧z=l.2)∨(l.2=a∧z=l.1)
 | [],out=>by simp
 | l::ls,out=>by
   rw[List.foldl_cons,lM,HU,or_assoc]
   simp
theorem J7 {links:List (Int×Int)} {p:Int}:∀ (f i:Nat) (out:List Int),i≤out.length→2*links.length+2≤f+i→j6 links p out→p∈out→(∀ z∈out,Lk links p z)→(∀ (j:Nat) (a:Int),j<i→out[j]? =some a→∀ l∈links,(l.1=a→l.2∈out)∧(l.2=a→l.1∈out))→∀ q,q∈ii links f i out↔Lk links p q:=by
 intro f
 induction f with
 | zero=>
   intro i out h1 h2 g
   have:=g.len
   omega
 | succ f ih=>
   intro i out h1 h2 g hp hs hc q
   unfold ii
   by_cases hlt:i<out.length
   ·rw[if_pos hlt]
    obtain⟨e',he⟩:=sT (a:=out.getD i 0) links out
    have hgi:out[i]? =some (out.getD i 0):=by simp[List.getD,hlt]
    have hsub:∀ z∈out,z∈links.foldl (lV (out.getD i 0)) out:=fun z hz=>lM.2 (.inl hz)
    have hai:Lk links p (out.getD i 0):=hs _ (List.mem_of_getElem? hgi)
    refine ih (i+1) _ (by rw[he];simp;omega) (by omega) (j6.fold links out (fun l hl=>hl) g) (hsub p hp) (fun z hz=> ?_) (fun j a hj ha l hl=> ?_) q
    ·rcases lM.1 hz with h | ⟨l,hl,⟨h,rfl⟩ | ⟨h,rfl⟩⟩
     ·exact hs z h
     ·rw[←h]at hai
      exact hai.fwd (b:=l.2) hl
     ·rw[←h]at hai
      exact hai.bwd (a:=l.1) hl
    ·have hjo:out[j]? =some a:=by rw[he,List.getElem?_append_left (by omega)]at ha;exact ha
     by_cases hji:j=i
     ·subst hji
      rw[hgi]at hjo
      injection hjo with hjo
      exact⟨fun h=>lM.2 (.inr ⟨l,hl,.inl ⟨h.trans hjo.symm,rfl⟩⟩),fun h=>lM.2 (.inr ⟨l,hl,.inr ⟨h.trans hjo.symm,rfl⟩⟩)⟩
     ·obtain⟨c1,c2⟩:=hc j a (by omega) hjo l hl
      exact⟨fun h=>hsub _ (c1 h),fun h=>hsub _ (c2 h)⟩
   ·rw[if_neg hlt]
    refine⟨hs q,fun h=> ?_⟩
    have cl:∀ a∈out,∀ l∈links,(l.1=a→l.2∈out)∧(l.2=a→l.1∈out):=fun a ha l hl=>by
     obtain⟨j,hj⟩:=List.mem_iff_getElem?.1 ha
     exact hc j a (by have:=(List.getElem?_eq_some_iff.1 hj).1;omega) hj l hl
    induction h with
    | refl=>exact hp
    | fwd _ hm ih=>exact(cl _ ih _ hm).1 rfl
    | bwd _ hm ih=>exact(cl _ ih _ hm).2 rfl
theorem vZ (links:List (Int×Int)) (p q:Int):(gy links p).contains q=true↔Lk links p q:=by
 rw[List.contains_iff_mem]
 exact J7 _ 0 [p] (Nat.zero_le _) (by omega) (ph links p) (by simp) (fun z hz=>by
  obtain rfl:z=p:=by simpa using hz
  exact .refl) (fun j a hj=>absurd hj (Nat.not_lt_zero _)) q
def xk (d:eP) (p cell right:Int):Prop:=∃ z∈d,z.1.kind=2∧z.2.code=0∧z.1.k=cell∧fJ z.1.r right=right∧Lk (cD d) p z.1.p
theorem xk.mono {d:eP} {p cell right:Int} (h:xk d p cell right) (e:eP):xk (d++e) p cell right:=by
 obtain⟨z,hz,h1,h2,h3,h4,h5⟩:=h
 exact⟨z,List.mem_append_left _ hz,h1,h2,h3,h4,h5.mono fun x hx=>by rw[gN];exact List.mem_append_left _ hx⟩
def fj (d:eP):List iX:=(d.filter fun z=>decide (z.1.kind=2) && decide (z.2.code=0)).map fun z=>⟨z.1.p,z.1.k,z.1.r⟩
theorem Ar (d e:eP):fj (d++e)=fj d++fj e:=by simp[fj]
theorem yu (d:eP) (p cell right:Int):oM (fj d) (cD d) p cell right=true↔xk d p cell right:=by
 unfold oM fj xk
 rw[List.any_eq_true]
 constructor
 ·rintro⟨g,hg,h⟩
  obtain⟨z,hz,rfl⟩:=List.mem_map.1 hg
  rw[List.mem_filter,Bool.and_eq_true,decide_eq_true_eq,decide_eq_true_eq]at hz
  rw[Bool.and_eq_true,Bool.and_eq_true,decide_eq_true_eq,decide_eq_true_eq]at h
  exact⟨z,hz.1,hz.2.1,hz.2.2,h.1,h.2.1,(vZ _ _ _).1 h.2.2⟩
 ·rintro⟨z,hz,h1,h2,h3,h4,h5⟩
  refine⟨⟨z.1.p,z.1.k,z.1.r⟩,List.mem_map.2 ⟨z,?_,rfl⟩,?_⟩
  ·rw[List.mem_filter,Bool.and_eq_true,decide_eq_true_eq,decide_eq_true_eq]
   exact⟨hz,h1,h2⟩
  ·rw[Bool.and_eq_true,Bool.and_eq_true,decide_eq_true_eq,decide_eq_true_eq]
   exact⟨h3,h4,(vZ _ _ _).2 h5⟩
structure zS (d:eP) (W:WaD):Prop where
 gifts:W.gifts=fj d
 links:W.links=cD d
 code:W.code=0
 at_:W.at_=0
theorem zS.may {d:eP} {W:WaD} (w:zS d W) (p cell right:Int):oM W.gifts W.links p cell right=true↔xk d p cell right:=by
 rw[w.gifts,w.links];exact yu d p cell right
theorem Mu:zS [] wa0:=⟨rfl,rfl,rfl,rfl⟩
theorem D1 {W:WaD}:∀ {ext:List cE},(∀ e∈ext,oM W.gifts W.links e.plugin e.cell e.right=true)→ext.foldl WaD.see W=W
 | [],_=>rfl
 | e::l,h=>by
   rw[List.foldl_cons]
   have:W.see e=W:=by
    unfold WaD.see
    rw[if_neg (fun hh=>by rw[h e (by simp)]at hh;exact absurd hh.2 (by decide))]
   rw[this]
   exact D1 fun z hz=>h z (by simp[hz])
theorem zS.step {d:eP} {own:Int→Int} {W:WaD} (w:zS d W) (g:jT d own W.H) (x:ci):zS (d++[(x,(W.H.step x).2)]) (W.step x).1∧(W.step x).2.2=(0,0)∧∃ own',jT (d++[(x,(W.H.step x).2)]) own' (W.step x).1.H:=by
 obtain⟨own',g',ext,hlog,hext⟩:=g.step x
 have hn:∀ (V:WaD),V=(if(W.H.step x).2.code=0 then({W with H:=(W.H.step x).1}:WaD).note x else{W with H:=(W.H.step x).1})→V.gifts=fj (d++[(x,(W.H.step x).2)])∧V.links=cD (d++[(x,(W.H.step x).2)])∧V.code=0∧V.at_=0∧V.H=(W.H.step x).1:=by
  rintro V rfl
  rw[Ar,gN,←w.gifts,←w.links]
  by_cases hc:(W.H.step x).2.code=0
  ·rw[if_pos hc]
   unfold WaD.note
   by_cases k2:x.kind=2
   ·rw[if_pos k2]
    refine⟨by simp[fj,k2,hc],?_,w.code,w.at_,rfl⟩
    simp[cD,k2]
   ·rw[if_neg k2]
    by_cases k3:x.kind=3
    ·rw[if_pos k3]
     refine⟨by simp[fj,k3],by simp[cD,k3,hc],w.code,w.at_,rfl⟩
    ·rw[if_neg k3]
     exact⟨by simp[fj,k2],by simp[cD,k3],w.code,w.at_,rfl⟩
  ·rw[if_neg hc]
   exact⟨by simp[fj,hc],by simp[cD,hc],w.code,w.at_,rfl⟩
 obtain⟨h1,h2,h3,h4,h5⟩:=hn _ rfl
 have hd:(W.H.step x).1.S.log.drop W.H.S.log.length=ext:=by rw[hlog];simp
 have hs:ext.foldl WaD.see (if(W.H.step x).2.code=0 then({W with H:=(W.H.step x).1}:WaD).note x else{W with H:=(W.H.step x).1})=(if(W.H.step x).2.code=0 then({W with H:=(W.H.step x).1}:WaD).note x else{W with H:=(W.H.step x).1}):=D1 fun e he=>by
  rw[h1,h2,yu]
  obtain⟨⟨z,hz,z1,z2,z3,z4,z5⟩,_⟩:=hext e he
  exact xk.mono ⟨z,hz,z1,z2,z3,z4,z5⟩ _
 unfold WaD.step
 simp only
 rw[hd,hs]
 exact⟨⟨h1,h2,h3,h4⟩,by rw[h3,h4],own',by rw[h5];exact g'⟩
def iI:List RS:=[(.ops [(.i (.v 2) (.box 5 (.v 0))),(.i (.v 3) (.box 5 (.v 1))),(.i (.v 4) (.mv (.c (.bool false))))]),(.ops [(.i .l (.fad 0 (.v 2))),(.i .l (.load false 1 (.l 0))),(.i .l (.fad 0 (.v 3))),(.i .l (.load false 1 (.l 0))),(.i .l (.bin (.int .i64) .eql (.l 2) (.l 0))),(.i .l (.mv (.l 0))),(.g (.l 0) true .l (.fad 1 (.v 2))),(.g (.l 1) true .l (.load false 1 (.l 0))),(.g (.l 2) true .l (.fad 1 (.v 3))),(.g (.l 3) true .l (.load false 1 (.l 0))),(.g (.l 4) true .l (.bin (.int .i64) .eql (.l 2) (.l 0))),(.i .l (.pick (.l 5) (.l 0) (.c (.bool false)))),(.i .l (.mv (.l 0))),(.g (.l 0) true .l (.fad 2 (.v 2))),(.g (.l 1) true .l (.load true 3 (.l 0))),(.g (.l 2) true .l (.fad 2 (.v 3))),(.g (.l 3) true .l (.load true 3 (.l 0))),(.g (.l 4) true .l (.call (.c (.fn 19 [] [])) [(.l 2),(.l 0)])),(.i .l (.pick (.l 5) (.l 0) (.c (.bool false)))),(.i (.v 4) (.mv (.l 0)))]),.ret]
theorem km:FnR Tryz.prog po 13 2 5 [0,1,2,3,4] iI [(.v 4)] true:=⟨_,_,Tryz.func13,rfl,rfl,by kernel_rfl,by kernel_rfl,by kernel_rfl,by kernel_rfl,by kernel_rfl⟩
def eI:List RS:=[(.ops [(.i .l (.mv (.v 3))),(.i .l (.mv (.v 0))),(.i .l (.len false (some 41) (.l 0))),(.i (.v 5) (.bin (.int .i64) .lss (.l 2) (.l 0)))]),(.cond (.v 5) [] [(.exit 0)]),(.block 1 [(.ops [(.i .l (.mv (.v 0))),(.i .l (.mv (.v 3))),(.i .l (.ixa (some 41) none (.l 1) (.l 0))),(.i .l (.load true 5 (.l 0))),(.i .l (.mv (.v 1))),(.i .l (.mv (.v 3))),(.i .l (.ixa (some 41) none (.l 1) (.l 0))),(.i .l (.load true 5 (.l 0))),(.i .l (.call (.c (.fn 13 [] [])) [(.l 4),(.l 0)])),(.i (.v 6) (.un .not (.l 0)))]),(.cond (.v 6) [(.ops [(.i (.v 2) (.mv (.c (.bool false))))]),.ret] [])]),(.ops [(.i .l (.mv (.v 3))),(.i .l (.bin (.int .i64) .add (.l 0) (.c (.int .i64 1)))),(.i (.v 3) (.mv (.l 0)))])]
def mJ:List RS:=[(.ops [(.i (.v 2) (.mv (.c (.bool false))))]),(.ops [(.i .l (.mv (.v 0))),(.i .l (.len false (some 41) (.l 0))),(.i .l (.mv (.v 1))),(.i .l (.len false (some 41) (.l 0))),(.i (.v 4) (.bin (.int .i64) .neq (.l 2) (.l 0)))]),(.cond (.v 4) [(.ops [(.i (.v 2) (.mv (.c (.bool false))))]),.ret] []),(.ops [(.i (.v 3) (.mv (.c (.int .i64 0))))]),(.block 0 [(.loop eI)]),(.ops [(.i (.v 2) (.mv (.c (.bool true))))]),.ret]
theorem ue:FnR Tryz.prog po 34 2 7 [0,1,4,5,10,14,26] mJ [(.v 2)] true:=⟨_,_,Tryz.func34,rfl,rfl,by kernel_rfl,by kernel_rfl,by kernel_rfl,by kernel_rfl,by kernel_rfl⟩
def jq:List RS:=[(.ops [(.i (.v 12) (.bin (.int .i64) .lss (.v 11) (.v 10)))]),(.cond (.v 12) [] [(.exit 0)]),(.block 1 [(.ops [(.i .l (.ixa (some 82) none (.v 9) (.v 11))),(.i .l (.load true 9 (.l 0))),(.i (.v 5) (.alloc [(.int .i64 0),(.int .i64 0),(.int .i64 0),(.int .i64 0),(.int .i64 0),(.int .i64 0),(.int .i64 0),(.int .i64 0),.nils])),(.i .n (.store 9 (.v 5) (.l 0)))]),(.ops [(.i .l (.mv (.v 3))),(.i .l (.load true 9 (.v 5))),(.i .l (.call (.c (.fn 36 [] [])) [(.l 1),(.l 0)])),(.i .l (.mv (.l 0))),(.i .l (.ext (.l 0) 0)),(.i .l (.ext (.l 1) 1)),(.i (.v 6) (.alloc [(.int .i64 0),(.int .i64 0),(.int .i64 0),(.int .i64 0),.nils])),(.i (.v 7) (.alloc [(.int .i64 0),(.int .i64 0)])),(.i .n (.store 5 (.v 6) (.l 1))),(.i .n (.store 2 (.v 7) (.l 0)))]),(.ops [(.i .l (.fad 0 (.v 7))),(.i .l (.load false 1 (.l 0))),(.i (.v 13) (.bin (.int .i64) .neq (.l 0) (.c (.int .i64 0))))]),(.cond (.v 13) [(.ops [(.i .l (.load true 2 (.v 7))),(.i (.v 1) (.mv (.c .nils))),(.i .n (.store 2 (.v 2) (.l 0)))]),.ret] []),(.ops [(.i .l (.mv (.v 4))),(.i .l (.load true 5 (.v 6))),(.i .l (.bsl false 41 [(.int .i64 0),(.int .i64 0),(.int .i64 0),(.int .i64 0),.nils] 5 1 [(0,(.l 0))])),(.i .l (.app false 41 (.l 2) (.l 0))),(.i (.v 4) (.mv (.l 0)))])]),(.ops [(.i .l (.bin (.int .i64) .add (.v 11) (.c (.int .i64 1)))),(.i (.v 11) (.mv (.l 0)))])]
def yE:List RS:=[(.ops [(.i (.v 1) (.mv (.c .nils))),(.i (.v 2) (.alloc [(.int .i64 0),(.int .i64 0)]))]),(.ops [(.i .l (.mv (.v 0))),(.i .l (.len false (some 82) (.l 0))),(.i (.v 8) (.bin (.int .i64) .gtr (.l 0) (.c (.int .i64 200))))]),(.cond (.v 8) [(.ops [(.i .l (.build [(.int .i64 0),(.int .i64 0)] [(0,1),(1,1)] [(0,(.c (.int .i64 3))),(1,(.c (.int .i64 (-1))))])),(.i (.v 1) (.mv (.c .nils))),(.i .n (.store 2 (.v 2) (.l 0)))]),.ret] []),(.ops [(.i .l (.call (.c (.fn 35 [] [])) [])),(.i (.v 3) (.mv (.l 0)))]),(.ops [(.i (.v 4) (.mv (.c .nils)))]),(.ops [(.i (.v 9) (.mv (.v 0))),(.i (.v 10) (.len false (some 82) (.v 9))),(.i (.v 11) (.mv (.c (.int .i64 0))))]),(.block 0 [(.loop jq)]),(.ops [(.i .l (.mv (.v 4))),(.i .l (.build [(.int .i64 0),(.int .i64 0)] [(0,1),(1,1)] [])),(.i (.v 1) (.mv (.l 1))),(.i .n (.store 2 (.v 2) (.l 0)))]),.ret]
theorem H4:FnR Tryz.prog po 32 1 14 [0,2,3,4,5,7,8,9,12,15,16,17,18,29] yE [(.v 1),(.cell true 2 2)] false:=⟨_,_,Tryz.func32,rfl,rfl,by kernel_rfl,by kernel_rfl,by kernel_rfl,by kernel_rfl,by kernel_rfl⟩
def dI:List RS:=[(.ops [(.i .l (.mv (.v 8))),(.i .l (.mv (.v 0))),(.i .l (.len false (some 82) (.l 0))),(.i (.v 17) (.bin (.int .i64) .lss (.l 2) (.l 0)))]),(.cond (.v 17) [] [(.exit 0)]),(.block 1 [(.ops [(.i .l (.mv (.v 6))),(.i .l (.mv (.v 0))),(.i .l (.mv (.v 8))),(.i .l (.ixa (some 82) none (.l 1) (.l 0))),(.i .l (.load true 9 (.l 0))),(.i .l (.call (.c (.fn 36 [] [])) [(.l 4),(.l 0)]))]),(.ops [(.i .l (.mv (.v 6))),(.i .l (.mv (.v 1))),(.i .l (.mv (.v 2))),(.i .l (.mv (.v 3))),(.i .l (.call (.c (.fn 37 [] [])) [(.l 3),(.l 2),(.l 1),(.l 0)])),(.i (.v 9) (.mv (.l 0)))]),(.ops [(.i .l (.mv (.v 7))),(.i .l (.mv (.l 0))),(.g (.l 0) true .l (.mv (.v 9))),(.g (.l 1) true .l (.un .not (.l 0))),(.i (.v 18) (.pick (.l 2) (.l 0) (.c (.bool false))))]),(.cond (.v 18) [(.ops [(.i (.v 5) (.mv (.c (.bool false))))]),.ret] []),(.ops [(.i .l (.mv (.v 9))),(.i (.v 7) (.mv (.l 0)))])]),(.ops [(.i .l (.mv (.v 8))),(.i .l (.bin (.int .i64) .add (.l 0) (.c (.int .i64 1)))),(.i (.v 8) (.mv (.l 0)))])]
def jy:List RS:=[(.ops [(.i (.v 5) (.mv (.c (.bool false))))]),(.ops [(.i .l (.call (.c (.fn 31 [] [])) [])),(.i (.v 15) (.un .not (.l 0)))]),(.cond (.v 15) [(.ops [(.i (.v 5) (.mv (.c (.bool false))))]),.ret] []),(.ops [(.i .l (.mv (.v 0))),(.i (.v 16) (.call (.c (.fn 23 [] [])) [(.l 0),(.c (.int .i64 100))]))]),(.cond (.v 16) [(.ops [(.i (.v 5) (.mv (.c (.bool true))))]),.ret] []),(.ops [(.i .l (.call (.c (.fn 35 [] [])) [])),(.i (.v 6) (.mv (.l 0)))]),(.ops [(.i (.v 7) (.mv (.c (.bool false))))]),(.ops [(.i (.v 8) (.mv (.c (.int .i64 0))))]),(.block 0 [(.loop dI)]),(.ops [(.i .l (.mv (.v 4))),(.i .l (.conv (.int .u64) (.l 0))),(.i .l (.mv (.v 0))),(.i .l (.len false (some 82) (.l 0))),(.i .l (.bin (.int .i64) .add (.l 0) (.c (.int .i64 1)))),(.i .l (.conv (.int .u64) (.l 0))),(.i .l (.bin (.int .u64) .rem (.l 4) (.l 0))),(.i .l (.conv (.int .i64) (.l 0))),(.i (.v 10) (.mv (.l 0)))]),(.ops [(.i .l (.mv (.v 0))),(.i .l (.call (.c (.fn 32 [] [])) [(.l 0)])),(.i .l (.mv (.l 0))),(.i .l (.ext (.l 0) 0)),(.i .l (.ext (.l 1) 1)),(.i (.v 12) (.alloc [(.int .i64 0),(.int .i64 0)])),(.i (.v 11) (.mv (.l 1))),(.i .n (.store 2 (.v 12) (.l 0)))]),(.ops [(.i .l (.mv (.v 0))),(.i .l (.mv (.v 10))),(.i .l (.slc false (some 82) (.l 1) none (some (.l 0)))),(.i .l (.call (.c (.fn 32 [] [])) [(.l 0)])),(.i .l (.mv (.l 0))),(.i .l (.ext (.l 0) 0)),(.i .l (.ext (.l 1) 1)),(.i (.v 14) (.alloc [(.int .i64 0),(.int .i64 0)])),(.i (.v 13) (.mv (.l 1))),(.i .n (.store 2 (.v 14) (.l 0)))]),(.ops [(.i .l (.fad 0 (.v 12))),(.i .l (.load false 1 (.l 0))),(.i .l (.bin (.int .i64) .eql (.l 0) (.c (.int .i64 0)))),(.i .l (.mv (.l 0))),(.g (.l 0) true .l (.fad 0 (.v 14))),(.g (.l 1) true .l (.load false 1 (.l 0))),(.g (.l 2) true .l (.bin (.int .i64) .eql (.l 0) (.c (.int .i64 0)))),(.i .l (.pick (.l 3) (.l 0) (.c (.bool false)))),(.i .l (.mv (.l 0))),(.g (.l 0) true .l (.mv (.v 11))),(.g (.l 1) true .l (.len false (some 41) (.l 0))),(.g (.l 2) true .l (.mv (.v 0))),(.g (.l 3) true .l (.len false (some 82) (.l 0))),(.g (.l 4) true .l (.bin (.int .i64) .eql (.l 2) (.l 0))),(.i .l (.pick (.l 5) (.l 0) (.c (.bool false)))),(.i .l (.mv (.l 0))),(.g (.l 0) true .l (.mv (.v 13))),(.g (.l 1) true .l (.len false (some 41) (.l 0))),(.g (.l 2) true .l (.mv (.v 10))),(.g (.l 3) true .l (.bin (.int .i64) .eql (.l 1) (.l 0))),(.i .l (.pick (.l 4) (.l 0) (.c (.bool false)))),(.i .l (.mv (.l 0))),(.g (.l 0) true .l (.mv (.v 13))),(.g (.l 1) true .l (.mv (.v 11))),(.g (.l 2) true .l (.mv (.v 10))),(.g (.l 3) true .l (.slc false (some 41) (.l 1) none (some (.l 0)))),(.g (.l 4) true .l (.call (.c (.fn 34 [] [])) [(.l 3),(.l 0)])),(.i .l (.pick (.l 5) (.l 0) (.c (.bool false)))),(.i (.v 5) (.mv (.l 0)))]),.ret]
theorem mD:FnR Tryz.prog po 7 5 19 [0,1,2,3,4,10,11,12,13,14,15,16,17,18,19,21,23,28,46] jy [(.v 5)] true:=⟨_,_,Tryz.func7,rfl,rfl,by kernel_rfl,by kernel_rfl,by kernel_rfl,by kernel_rfl,by kernel_rfl⟩
abbrev tEv:TypeId:=41
def sN (es:List EvD) (rows:List (List AV)):Prop:=rows.length=es.length∧∀ (i:Nat) (e:EvD),es[i]? =some e→∃ r,rows[i]? =some r∧EvR e r
theorem sN.snoc {es:List EvD} {rows:List (List AV)} (h:sN es rows) {e:EvD} {r:List AV} (hr:EvR e r):sN (es++[e]) (rows++[r]):=by
 refine⟨by simp[h.1],fun i x hi=> ?_⟩
 by_cases hlt:i<es.length
 ·rw[List.getElem?_append_left hlt]at hi
  obtain⟨q,h1,h2⟩:=h.2 i x hi
  exact⟨q,by rw[List.getElem?_append_left (by rw[h.1];exact hlt)];exact h1,h2⟩
 ·rw[List.getElem?_append_right (by omega)]at hi
  have h0:i - es.length=0:=by
   have:=(List.getElem?_eq_some_iff.1 hi).1
   simpa using this
  rw[h0]at hi
  obtain rfl:e=x:=by simpa using hi
  exact⟨r,by rw[List.getElem?_append_right (by rw[h.1];omega),h.1,h0];rfl,hr⟩
theorem sN.take {es:List EvD} {rows:List (List AV)} (h:sN es rows) (k:Nat):sN (es.take k) (rows.take k):=by
 refine⟨by rw[List.length_take,List.length_take,h.1],fun i e hi=> ?_⟩
 rw[List.getElem?_take]at hi ⊢
 split at hi
 ·rename_i hk
  rw[if_pos hk]
  exact h.2 i e hi
 ·cases hi
theorem fK.take:∀ {xs:List ci} {es:List (List AV)} (k:Nat),fK xs es→fK (xs.take k) (es.take k)
 | [],es,k,h=>by simp only[fK]at h;subst h;simp[fK]
 | x::xs,es,0,h=>by simp[fK]
 | x::xs,es,k+1,h=>by
   obtain⟨m,ms,rs,rfl,h1,h2,h3⟩:=h
   exact⟨m,ms,rs.take k,rfl,h1,h2,h3.take k⟩
theorem zf {e:TypeId} {v:AV} {rows:List (List AV)} (hv:SlA e v rows) {k:Nat} (hk:k≤rows.length):∃ v',fz v none (some (.int .i64 (k:Int)))=some v'∧IsL e v' (rows.take k):=by
 rcases hv with⟨rfl,rfl⟩ | ⟨id,rfl⟩
 ·have:k=0:=by simpa using hk
  subst this
  exact⟨.nils,by simp[fz,loA,hiA,dH,pj],iP e⟩
 ·refine⟨.isl none e (rows.take k),?_,kA _ _ _⟩
  have:((k:Int)≤(rows.length:Int)):=by omega
  simp[fz,loA,hiA,dH,pj,hk]
theorem Gr {h:AH} {F J:Nat→Prop} {e:TypeId} {v:AV} {rows:List (List AV)} (x:(db e v rows).A h F J):SlA e v rows:=by
 rcases x with⟨⟨h1,h2⟩,_⟩ | ⟨id,⟨_,h2⟩,_⟩
 ·exact .inl ⟨h1,h2⟩
 ·exact .inr ⟨some id,h2⟩
def pe:WaD→List ci→List EvD
 | _,[]=>[]
 | W,x::l=>(W.step x).2.1::pe (W.step x).1 l
theorem nt:∀ (l:List ci) (W:WaD),(pe W l).length=l.length
 | [],W=>rfl
 | x::l,W=>by simp[pe,nt l]
theorem uw:∀ (k:Nat) (l:List ci) (W:WaD),pe W (l.take k)=(pe W l).take k
 | 0,l,W=>by simp[pe]
 | k+1,[],W=>rfl
 | k+1,x::l,W=>by simp[pe,uw k l]
theorem vJ:∀ (l:List ci) (W:WaD),W.H.Good→∀ e∈pe W l,e.v.size≤100000
 | [],W,_,e,he=>by cases he
 | x::l,W,g,e,he=>by
   obtain⟨h1,h2⟩:=JB W x
   have s:=g.step x
   rcases List.mem_cons.1 he with rfl | he
   ·rw[h2];exact s.size
   ·exact vJ l _ (by rw[h1];exact s.good) e he
section
variable {h h' h0:AH} {F J F0 J0:Nat→Prop} {L:List Asn} {c:WaC} {W:WaD}
theorem ua {a b:EvD} {r s:List AV} (hr:EvR a r) (hs:EvR b s) (hz:a.v.size≤100000):aj Tryz.prog po 13 [.agg r,.agg s] h=some (.inl (.bool (decide (a.code=b.code) && (decide (a.fuel=b.fuel) && k9 a.v b.v))),h):=by
 obtain⟨q1,rfl,w1⟩:=hr
 obtain⟨q2,rfl,w2⟩:=hs
 have sv:=fun h=>Ab _ a.v (Nat.le_refl _) hz b.v q1 q2 h w1 w2
 obtain⟨u1,rfl,o1⟩:=w1.cells3
 obtain⟨u2,rfl,o2⟩:=w2.cells3
 have l1:ldA true 3 (evR a.code a.fuel [.int .i64 a.v.kind,.int .i64 a.v.n,u1]) 2=some (.agg [.int .i64 a.v.kind,.int .i64 a.v.n,u1]):=rfl
 have l2:ldA true 3 (evR b.code b.fuel [.int .i64 b.v.kind,.int .i64 b.v.n,u2]) 2=some (.agg [.int .i64 b.v.kind,.int .i64 b.v.n,u2]):=rfl
 have g2:∀ x y,af h ((h.push x).push y):=fun x y=>(af.push _ _).trans (af.push _ _)
 simp only[evR]at l1 l2 ⊢
 cases d1:decide (a.code=b.code)with
 | false=>
   refine ah km rfl ?_;unfold iI
   simp only[sim,ag,reduceAdd,reduceSub,replicate,reduceCtorEq,reduceLeDiff,reduceLT,aa,o1,o2,d1]
   exact aA (g2 _ _) rfl
 | true=>
   cases d2:decide (a.fuel=b.fuel)with
   | false=>
     refine ah km rfl ?_;unfold iI
     simp only[sim,ag,reduceAdd,reduceSub,replicate,reduceCtorEq,reduceLeDiff,reduceLT,aa,o1,o2,d1,d2]
     exact aA (g2 _ _) rfl
   | true=>
     refine ah km rfl ?_;unfold iI
     simp only[sim,ag,reduceAdd,reduceSub,replicate,reduceCtorEq,reduceLeDiff,reduceLT,aa,ay,o1,o2,d1,d2,l1,l2,sv,Bool.true_and]
     exact aA (g2 _ _) rfl
theorem sR {es:List EvD} {v w:AV} {rows rows':List (List AV)} (hv:IsL tEv v rows) (hr:sN es rows) (hw:IsL tEv w rows') (hr':sN es rows') (hl:es.length≤1000000) (hz:∀ e∈es,e.v.size≤100000):aj Tryz.prog po 34 [v,w] h=some (.inl (.bool true),h):=by
 have lp:∀ (l pre:List EvD) (v4 v5 v6:AV),es=pre++l→∃ w3 w5 w6,∀ K,aq (aj Tryz.prog po) 7 (.lp eI:: .ss []:: .blk 0::K) [v,w,.bool false,.int .i64 (pre.length:Int),v4,v5,v6] [] h=aq (aj Tryz.prog po) 7 K [v,w,.bool false,w3,v4,w5,w6] [] h:=by
  intro l
  induction l with
  | nil=>
    intro pre v4 v5 v6 e
    have d1:decide ((pre.length:Int)<(es.length:Int))=false:=decide_eq_false (by rw[e];simp)
    refine⟨.int .i64 (pre.length:Int),.bool false,v6,fun K=> ?_⟩
    rw[aF eI.eq_1]
    simp only[sim,ag,reduceAdd,reduceSub,replicate,reduceCtorEq,reduceLeDiff,reduceLT,aa,hv.len,hv.fits,hr.1,d1]
  | cons x l ih=>
    intro pre v4 v5 v6 e
    have hpl:pre.length<es.length:=by rw[e];simp
    have d1:decide ((pre.length:Int)<(es.length:Int))=true:=decide_eq_true (by omega)
    have hi:es[pre.length]? =some x:=by rw[e];simp
    obtain⟨r1,a1,a2⟩:=hr.2 _ x hi
    obtain⟨r2,b1,b2⟩:=hr'.2 _ x hi
    have ix:=hv.ix .i64 pre.length _ a1
    have iy:=hw.ix .i64 pre.length _ b1
    have se:=ua (h:=h) a2 b2 (hz x (List.mem_of_getElem? hi))
    rw[decide_eq_true rfl,decide_eq_true rfl,ru]at se
    have w1:=w64 (n:=(pre.length:Int)+1) (by omega) (by omega)
    have ek:((pre++[x]).length:Int)=(pre.length:Int)+1:=by simp
    obtain⟨q1,rfl,z1⟩:=a2
    obtain⟨u1,rfl,o1⟩:=z1.cells3
    obtain⟨q2,rfl,z2⟩:=b2
    obtain⟨u2,rfl,o2⟩:=z2.cells3
    have l1:∀ u,ldA true 5 (evR x.code x.fuel [.int .i64 x.v.kind,.int .i64 x.v.n,u]) 0=some (.agg (evR x.code x.fuel [.int .i64 x.v.kind,.int .i64 x.v.n,u])):=fun u=>bq rfl
    obtain⟨w3,w5,w6,r⟩:=ih (pre++[x]) v4 (.bool true) (.bool false) (by simp[e])
    refine⟨w3,w5,w6,fun K=> ?_⟩
    rw[←r K,ek]
    simp only[evR]at ix iy se l1
    conv=>lhs;rw[aF eI.eq_1]
    simp only[sim,ag,reduceAdd,reduceSub,replicate,reduceCtorEq,reduceLeDiff,reduceLT,aa,ay,hv.len,hv.fits,hw.fits,hr.1,d1,ix,iy,l1,se,w1,Bool.not_true,Bool.and_true]
 obtain⟨w3,w5,w6,r⟩:=lp es [] (.bool false) .junk .junk rfl
 have hq:decide ((es.length:Int)=(es.length:Int))=true:=decide_eq_true rfl
 simp only[List.length_nil,Int.natCast_zero]at r
 refine ah ue rfl ?_;unfold mJ
 simp only[sim,ag,reduceAdd,reduceSub,replicate,reduceCtorEq,reduceLeDiff,reduceLT,aa,hv.len,hv.fits,hw.len,hw.fits,hr.1,hr'.1,hq,Bool.not_true]
 rw[r]
 simp only[sim,ag,reduceAdd,reduceSub,replicate,reduceCtorEq,reduceLeDiff,reduceLT,aa]
theorem Nw (s:St h0 F0 J0 h L) (i:Nat) {v:AV} {erows:List (List AV)} (hi:L[i]? =some (db tEv v erows)) {r:List AV} (hr:r.all AV.one=true) (hl:erows.length≤1000000):
  ∃ h' v',aE false tEv v (.isl (some h.ids) tEv [r]) (h.fresh 1)=some (v',h')∧St h0 F0 J0 h' (L.set i (db tEv v' (erows++[r]))):=by
 obtain⟨h',v',e,s'⟩:=s.callE (R:=fun h1 (v':AV)=>aE false tEv v (.isl (some h.ids) tEv [r]) (h.fresh 1)=some (v',h1)) i hi (Y:=fun v'=>db tEv v' (erows++[r])) fun F J x=>by
  obtain⟨v',h1,a1,a2,a3,a4,_,a5⟩:=jL x hr hl
  exact⟨h1,v',a1,a4⟩
 exact⟨h',v',e,s'⟩
set_option maxRecDepth 100000 in
set_option maxHeartbeats 8000000 in
theorem NG {lv:AV} {rows:List (List AV)} {xs:List ci} (hs:IsL tSt lv rows) (hl:fK xs rows) (hxl:xs.length≤150) (hgr:∀ x∈xs,x.m.length≤100000∧∀ e∈x.m,e.size≤100000) {bF:Nat} (v1 v8:AV):∀ (l pre:List ci) (dn:eP) (own:Int→Int) (h':AH) (W:WaD) (ev:AV) (es:List EvD) (erows:List (List AV)) (v5 v6 v7 v12 v13:AV),xs=pre++l→es.length=pre.length→sN es erows→jT dn own W.H→zS dn W→OkW pre.length W→St h0 F0 J0 h' (cV c W++[db tEv ev erows,ai bF [[.int .i64 0,.int .i64 0]]])→
  ∃ h'' ev' erows' w5 w6 w7 w11 w12 w13,(∀ K,aq (aj Tryz.prog po) 14 (.lp jq:: .ss []:: .blk 0::K) [lv,v1,.ptr bF 0 0,.ptr c.wt 0 0,ev,v5,v6,v7,v8,lv,.int .i64 (xs.length:Int),.int .i64 (pre.length:Int),v12,v13] [] h'=aq (aj Tryz.prog po) 14 K [lv,v1,.ptr bF 0 0,.ptr c.wt 0 0,ev',w5,w6,w7,v8,lv,.int .i64 (xs.length:Int),w11,w12,w13] [] h'')∧sN (es++pe W l) erows'∧∃ W',St h0 F0 J0 h'' (cV c W'++[db tEv ev' erows',ai bF [[.int .i64 0,.int .i64 0]]]):=by
 have hll:=hl.len
 intro l
 induction l with
 | nil=>
   intro pre dn own h' W ev es erows v5 v6 v7 v12 v13 e hel he hg hw o s
   have d1:decide ((pre.length:Int)<(xs.length:Int))=false:=decide_eq_false (by rw[e];simp)
   refine⟨h',ev,erows,v5,v6,v7,.int .i64 (pre.length:Int),.bool false,v13,fun K=> ?_,by simpa[pe]using he,W,s⟩
   rw[aF jq.eq_1]
   simp only[sim,ag,reduceAdd,reduceSub,replicate,reduceCtorEq,reduceLeDiff,reduceLT,aa,d1]
 | cons x l ih=>
   intro pre dn own h' W ev es erows v5 v6 v7 v12 v13 e hel he hg hw o s
   have hpl:pre.length<xs.length:=by rw[e];simp
   have d1:decide ((pre.length:Int)<(xs.length:Int))=true:=decide_eq_true (by omega)
   have hi:xs[pre.length]? =some x:=by rw[e];simp
   obtain⟨m,ms,q1,q3,q4⟩:=hl.get hi
   have ix:=hs.ix .i64 pre.length _ q1
   obtain⟨g1,g2⟩:=hgr x (List.mem_of_getElem? hi)
   have w1:=w64 (n:=(pre.length:Int)+1) (by omega) (by omega)
   have ek:((pre++[x]).length:Int)=(pre.length:Int)+1:=by simp
   have ekn:(pre++[x]).length=pre.length+1:=by simp
   have la:ldA true 9 (aU x m) 0=some (.agg (aU x m)):=bq rfl
   have hm:m.one=true:=(gk.of (h:=h') q3 q4).one
   have s1:=s.push [aU x m]
   obtain⟨h2,r2,e2,v2,s2⟩:=B7 (A:=[ai h'.n [aU x m]]) (B:=[db tEv ev erows,ai bF [[.int .i64 0,.int .i64 0]]]) (c:=c) s1 o (by omega) x q3 q4 g1 g2
   obtain⟨q2,rfl,w2⟩:=v2
   obtain⟨u2,rfl,u2o⟩:=w2.cells3
   have o2:=o.step x
   obtain⟨hw2,hf2,own',hg2⟩:=hw.step hg x
   have hvr:EvR (W.step x).2.1 (evR (W.step x).2.1.code (W.step x).2.1.fuel [.int .i64 (W.step x).2.1.v.kind,.int .i64 (W.step x).2.1.v.n,u2]):=⟨_,rfl,w2⟩
   have hro:(evR (W.step x).2.1.code (W.step x).2.1.fuel [.int .i64 (W.step x).2.1.v.kind,.int .i64 (W.step x).2.1.v.n,u2]).all AV.one=true:=by
    simp only[evR,List.all_cons,List.all_nil,u2o]
    rfl
   rw[hf2]at e2
   have s2:St h0 F0 J0 h2 (ai h'.n [aU x m]::(cV c (W.step x).1++[db tEv ev erows,ai bF [[.int .i64 0,.int .i64 0]]])):=s2
   have ew:pe W (x::l)=(W.step x).2.1::pe (W.step x).1 l:=rfl
   rw[ew]
   generalize (W.step x).1=W2 at*
   generalize (W.step x).2.1=E2 at*
   have s3:=(s2.drop.push [evR E2.code E2.fuel [.int .i64 E2.v.kind,.int .i64 E2.v.n,u2]]).push [[.int .i64 0,.int .i64 0]]
   have hel2:erows.length=pre.length:=by rw[he.1,hel]
   obtain⟨h4,ev',ea,s4⟩:=Nw s3 7 rfl hro (by omega)
   have s4:St h0 F0 J0 h4 ([ai (h2.push [evR E2.code E2.fuel [.int .i64 E2.v.kind,.int .i64 E2.v.n,u2]]).n [[.int .i64 0,.int .i64 0]],ai h2.n [evR E2.code E2.fuel [.int .i64 E2.v.kind,.int .i64 E2.v.n,u2]]]++(cV c W2++[db tEv ev' (erows++[evR E2.code E2.fuel [.int .i64 E2.v.kind,.int .i64 E2.v.n,u2]]),ai bF [[.int .i64 0,.int .i64 0]]])):=s4
   obtain⟨h7,ev7,er7,u5,u6,u7,u11,u12,u13,r7,he7,W7,s7⟩:=ih (pre++[x]) _ own' h4 W2 ev' (es++[E2]) (erows++[evR E2.code E2.fuel [.int .i64 E2.v.kind,.int .i64 E2.v.n,u2]]) (.ptr h'.n 0 0) (.ptr h2.n 0 0) (.ptr (h2.n+1) 0 0) (.bool true) (.bool false) (by simp[e]) (by simp[hel]) (he.snoc hvr) hg2 hw2 (by rw[ekn];exact o2) s4.drop.drop
   refine⟨h7,ev7,er7,u5,u6,u7,u11,u12,u13,fun K=> ?_,by simpa using he7,W7,s7⟩
   rw[←r7 K,ek]
   have pg:∀ z,(h'.push z).cell h'.n=some z:=fun z=>aC
   have ps:∀ y z,(h'.push y).set h'.n (some z)=h'.push z:=fun y z=>bm
   have p1:∀ x y z,(((h2.push x).push y).set h2.n (some z))=(h2.push z).push y:=fun x y z=>by rw[pL (Nat.lt_succ_self _),bm]
   have p2:∀ x y z,(((h2.push x).push y).set (h2.n+1) (some z))=(h2.push x).push z:=fun x y z=>bm (h:=h2.push x)
   have p3:∀ x y,((h2.push x).push y).cell h2.n=some x:=fun x y=>gD
   have p4:∀ x y,((h2.push x).push y).cell (h2.n+1)=some y:=fun x y=>ct
   have dz:decide ((0:Int)=0)=true:=rfl
   simp only[aU]at ix la e2
   conv=>lhs;rw[aF jq.eq_1]
   simp only[sim,ag,reduceAdd,reduceSub,replicate,reduceCtorEq,reduceLeDiff,reduceLT,aa,ay,hs.fits,d1,ix,la,hm,pg,ps,e2,p1,p2,p3,p4,u2o,dz,Bool.not_true]
   simp only[gS]at ea
   rw[ea]
   simp only[sim,ag,reduceAdd,reduceSub,replicate,reduceCtorEq,reduceLeDiff,reduceLT,aa,w1]
theorem vz {lv:AV} {rows:List (List AV)} {xs:List ci} (hs:IsL tSt lv rows) (hl:fK xs rows) (hxl:xs.length≤150) (hgr:∀ x∈xs,x.m.length≤100000∧∀ e∈x.m,e.size≤100000):∃ h' ev erows,aj Tryz.prog po 32 [lv] h=some (.inl (.tup [ev,.agg [.int .i64 0,.int .i64 0]]),h')∧SlA tEv ev erows∧sN (pe wa0 xs) erows∧af h h':=by
 have s0:St h (fun _=>False) (fun _=>False) h []:=St.start (aX.nil _ _ _ (fun _ h=>h) (fun _ h=>h))
 have s1:=s0.push [[.int .i64 0,.int .i64 0]]
 obtain⟨h2,c,e2,s2⟩:=tq s1
 have s3:St h (fun _=>False) (fun _=>False) h2 (db tEv .nils []::(cV c wa0++[ai h.n [[.int .i64 0,.int .i64 0]]])):=s2.add (af.refl _) tT (fun _ h=>h.elim) (fun _ h=>h.elim)
 have s4:St h (fun _=>False) (fun _=>False) h2 (cV c wa0++[db tEv .nils [],ai h.n [[.int .i64 0,.int .i64 0]]]):=s3.imp fun _ _ _ x=>St.perm (by
  have:List.Perm ([db tEv .nils []]++cV c wa0) (cV c wa0++[db tEv .nils []]):=List.perm_append_comm
  have:=this.append_right [ai h.n [[.int .i64 0,.int .i64 0]]]
  simpa using this) x
 obtain⟨h3,ev,erows,w5,w6,w7,w11,w12,w13,r3,he,W',s5⟩:=NG hs hl hxl hgr (bF:=h.n) .nils (.bool false) xs [] [] (fun _=>0) h2 wa0 .nils [] [] .junk .junk .junk .junk .junk rfl rfl ⟨rfl,fun i e h=>by simp at h⟩ O5 Mu wQ s4
 obtain⟨F5,J5,gx⟩:=s5.get 5 rfl
 have hev:=Gr gx
 have cF:=(s5.cell 6 rfl).1
 have g5:=s5.grewA
 have d1:decide ((200:Int)<(xs.length:Int))=false:=decide_eq_false (by omega)
 have hll:=hl.len
 refine⟨h3.set h.n (some [[.int .i64 0,.int .i64 0]]),ev,erows,?_,hev,he,g5.set (Nat.le_refl _)⟩
 simp only[List.length_nil,Int.natCast_zero]at r3
 refine ah H4 rfl ?_;unfold yE
 simp only[sim,ag,reduceAdd,reduceSub,replicate,reduceCtorEq,reduceLeDiff,reduceLT,aa,ay,hs.len,hs.fits,hll,d1,e2]
 rw[r3]
 simp only[sim,ag,reduceAdd,reduceSub,replicate,reduceCtorEq,reduceLeDiff,reduceLT,aa,cF]
end
section
variable {h h' h0:AH} {F J F0 J0:Nat→Prop} {L:List Asn} {c:WaC}
set_option maxHeartbeats 4000000 in
theorem JC {lv:AV} {rows:List (List AV)} {xs:List ci} (hs:IsL tSt lv rows) (hl:fK xs rows) (hxl:xs.length≤150) (hgr:∀ x∈xs,x.m.length≤100000∧∀ e∈x.m,e.size≤100000) (p cell right:Int) (v4 v10 v11 v12 v13 v14 v15 v16:AV):∀ (l pre:List ci) (dn:eP) (own:Int→Int) (h':AH) (W:WaD) (mm:Bool) (v9 v17 v18:AV),xs=pre++l→jT dn own W.H→zS dn W→OkW pre.length W→(mm=true→xk dn p cell right)→St h0 F0 J0 h' (cV c W)→
  ∃ h'' w7 w8 w9 w17 w18,(∀ K,aq (aj Tryz.prog po) 19 (.lp dI:: .ss []:: .blk 0::K) [lv,.int .i64 p,.int .i64 cell,.int .i64 right,v4,.bool false,.ptr c.wt 0 0,.bool mm,.int .i64 (pre.length:Int),v9,v10,v11,v12,v13,v14,v15,v16,v17,v18] [] h'=aq (aj Tryz.prog po) 19 K [lv,.int .i64 p,.int .i64 cell,.int .i64 right,v4,.bool false,.ptr c.wt 0 0,w7,w8,w9,v10,v11,v12,v13,v14,v15,v16,w17,w18] [] h'')∧∃ L',St h0 F0 J0 h'' L':=by
 have hll:=hl.len
 intro l
 induction l with
 | nil=>
   intro pre dn own h' W mm v9 v17 v18 e hg hw o hm s
   have d1:decide ((pre.length:Int)<(xs.length:Int))=false:=decide_eq_false (by rw[e];simp)
   refine⟨h',.bool mm,.int .i64 (pre.length:Int),v9,.bool false,v18,fun K=> ?_,_,s⟩
   rw[aF dI.eq_1]
   simp only[sim,ag,reduceAdd,reduceSub,replicate,reduceCtorEq,reduceLeDiff,reduceLT,aa,hs.len,hs.fits,hll,d1]
 | cons x l ih=>
   intro pre dn own h' W mm v9 v17 v18 e hg hw o hm s
   have hpl:pre.length<xs.length:=by rw[e];simp
   have d1:decide ((pre.length:Int)<(xs.length:Int))=true:=decide_eq_true (by omega)
   have hi:xs[pre.length]? =some x:=by rw[e];simp
   obtain⟨m,ms,q1,q3,q4⟩:=hl.get hi
   have ix:=hs.ix .i64 pre.length _ q1
   obtain⟨g1,g2⟩:=hgr x (List.mem_of_getElem? hi)
   have w1:=w64 (n:=(pre.length:Int)+1) (by omega) (by omega)
   have ek:((pre++[x]).length:Int)=(pre.length:Int)+1:=by simp
   have ekn:(pre++[x]).length=pre.length+1:=by simp
   have la:ldA true 9 (aU x m) 0=some (.agg (aU x m)):=bq rfl
   have s0:St h0 F0 J0 h' ([]++cV c W++[]):=by simpa using s
   obtain⟨h2,r2,e2,v2,s2⟩:=B7 (A:=[]) (B:=[]) (c:=c) s0 o (by omega) x q3 q4 g1 g2
   have s2:St h0 F0 J0 h2 (cV c (W.step x).1):=by simpa using s2
   have o2:=o.step x
   obtain⟨hw2,hf2,own',hg2⟩:=hw.step hg x
   have my:=nD s2 0 rfl (by have:=o2.g;omega) (by have:=o2.l;omega) p cell right
   have hm2:mm=true→oM (W.step x).1.gifts (W.step x).1.links p cell right=true:=fun h=>(hw2.may p cell right).2 ((hm h).mono _)
   have hm3:oM (W.step x).1.gifts (W.step x).1.links p cell right=true→xk (dn++[(x,(W.H.step x).2)]) p cell right:=(hw2.may p cell right).1
   generalize oM (W.step x).1.gifts (W.step x).1.links p cell right=now at*
   obtain⟨h7,w7,w8,w9,w17,w18,r7,L7,s7⟩:=ih (pre++[x]) _ own' h2 (W.step x).1 now (.bool now) (.bool true) (.bool false) (by simp[e]) hg2 hw2 (by rw[ekn];exact o2) hm3 s2
   refine⟨h7,w7,w8,w9,w17,w18,fun K=> ?_,L7,s7⟩
   rw[←r7 K,ek]
   simp only[aU]at ix la e2
   cases mm with
   | false=>
     conv=>lhs;rw[aF dI.eq_1]
     simp only[sim,ag,reduceAdd,reduceSub,replicate,reduceCtorEq,reduceLeDiff,reduceLT,aa,ay,hs.len,hs.fits,hll,d1,ix,la,e2,my,w1]
   | true=>
     have hn:=hm2 rfl
     subst hn
     conv=>lhs;rw[aF dI.eq_1]
     simp only[sim,ag,reduceAdd,reduceSub,replicate,reduceCtorEq,reduceLeDiff,reduceLT,aa,ay,hs.len,hs.fits,hll,d1,ix,la,e2,my,w1,Bool.not_true]
set_option maxRecDepth 100000 in
set_option maxHeartbeats 4000000 in
theorem rD {lv:AV} {rl:List (List AV)} {xl:List ci} (hs:SlA tSt lv rl) (hl:fK xl rl) (hml:xl.length≤9223372036854775807) (p cell right cut:Int):aj Tryz.prog po 7 [lv,.int .i64 p,.int .i64 cell,.int .i64 right,.int .i64 cut] h=some (.inl (.bool true),h):=by
 have s0:St h (fun _=>False) (fun _=>False) h []:=St.start (aX.nil _ _ _ (fun _ h=>h) (fun _ h=>h))
 have gh1:=fun(h:AH)=>sA (h:=h) hs hl hml 100 (by decide)
 have e100:((100:Nat):Int)=100:=rfl
 simp only[e100]at gh1
 cases hg1:tR xl 100 with
 | true=>
   rw[hg1]at gh1
   refine ah mD rfl ?_;unfold jy
   simp only[sim,ag,reduceAdd,reduceSub,replicate,reduceCtorEq,reduceLeDiff,reduceLT,aa,ay,lq,gh1]
 | false=>
   rw[hg1]at gh1
   obtain⟨hx1,hgr1⟩:=EB hg1
   have hll:=hl.len
   have hsl:=hs.isL
   obtain⟨h2,c,e2,s2⟩:=tq s0
   have s2:St h (fun _=>False) (fun _=>False) h2 (cV c wa0):=s2
   obtain⟨h3,w7,w8,w9,w17,w18,r3,L3,s3⟩:=JC hsl hl (by omega) hgr1 p cell right (.int .i64 cut) .junk .junk .junk .junk .junk (.bool false) (.bool false) xl [] [] (fun _=>0) h2 wa0 false .junk .junk .junk rfl O5 Mu wQ (fun h=>by cases h) s2
   -- where it is cut
   obtain⟨k,hk,ek⟩:∃ k:Nat,k≤xl.length∧IntKind.wrap .i64 ((IntKind.wrap .u64 cut).tmod ((xl.length:Int)+1))=(k:Int):=by
    have h1:0≤IntKind.wrap .u64 cut:=by rw[IntKind.wrap_u64];omega
    have h2:0≤(IntKind.wrap .u64 cut).tmod ((xl.length:Int)+1):=Int.tmod_nonneg _ h1
    have h3:(IntKind.wrap .u64 cut).tmod ((xl.length:Int)+1)<(xl.length:Int)+1:=Int.tmod_lt_of_pos _ (by omega)
    refine⟨((IntKind.wrap .u64 cut).tmod ((xl.length:Int)+1)).toNat,by omega,?_⟩
    rw[w64 (by omega) (by omega)]
    omega
   have w1:IntKind.wrap .i64 ((xl.length:Int)+1)=(xl.length:Int)+1:=w64 (by omega) (by omega)
   have w2:IntKind.wrap .u64 ((xl.length:Int)+1)=(xl.length:Int)+1:=by rw[IntKind.wrap_u64];omega
   have rz:(((xl.length:Int)+1)=0)=False:=by
    simp only[eq_iff_iff,iff_false];omega
   obtain⟨h4,ev,er,e4,hev,hee,g4⟩:=vz (h:=h3) hsl hl (by omega) hgr1
   obtain⟨lv',sl',il'⟩:=zf hs (k:=k) (by omega)
   obtain⟨h5,ev2,er2,e5,hev2,hee2,g5⟩:=vz (h:=h4.push [[.int .i64 0,.int .i64 0]]) il' (hl.take k) (by rw[List.length_take];omega) (fun x hx=>hgr1 x (List.mem_of_mem_take hx))
   have hlen1:er.length=xl.length:=by rw[hee.1,nt]
   have hlen2:er2.length=k:=by rw[hee2.1,nt,List.length_take];omega
   obtain⟨ev',sl3,il3⟩:=zf hev (k:=k) (by omega)
   have se:=fun(h:AH)=>sR (h:=h) hev2.isL hee2 il3 (by rw[uw];exact hee.take k) (by rw[nt,List.length_take];omega) (vJ _ _ rX)
   have c12:∀ z,(h5.push z).cell h4.n=some [[.int .i64 0,.int .i64 0]]:=fun z=>by
    rw[aN (by have:=g5.n;simp only[aJ]at this;omega),g5.cell _ (by show h4.n<h4.n+1;omega)]
    exact aC
   have c14:∀ z,(h5.push z).cell h5.n=some z:=fun z=>aC
   have ps4:∀ y z,(h4.push y).set h4.n (some z)=h4.push z:=fun y z=>bm
   have ps5:∀ y z,(h5.push y).set h5.n (some z)=h5.push z:=fun y z=>bm
   have dk:decide ((k:Int)=(k:Int))=true:=decide_eq_true rfl
   have dl:decide ((xl.length:Int)=(xl.length:Int))=true:=decide_eq_true rfl
   have dz:decide ((0:Int)=0)=true:=rfl
   have gg:af h (h5.push [[.int .i64 0,.int .i64 0]]):=((s3.grewA.trans g4).trans (af.push _ _)).trans (g5.trans (af.push _ _))
   simp only[List.length_nil,Int.natCast_zero]at r3
   refine ah mD rfl ?_;unfold jy
   simp only[sim,ag,reduceAdd,reduceSub,replicate,reduceCtorEq,reduceLeDiff,reduceLT,aa,ay,lq,gh1,e2]
   rw[r3]
   simp only[sim,ag,reduceAdd,reduceSub,replicate,reduceCtorEq,reduceLeDiff,reduceLT,aa,ay,hsl.len,hsl.fits,hll,w1,w2,rz,if_false,ek,e4,ps4,sl',e5,ps5,c12,c14,dz,hev.isL.len,hev.isL.fits,hev2.isL.len,hev2.isL.fits,hlen1,hlen2,dk,dl,sl3,se]
   exact aA gg rfl
end
theorem qp {n0:Nat} {lv:AV} {x0:Value} (p cell right cut:Int) (W:World) (t0:TyA Tryz.prog n0 72 [lv]) (u0:VR Tryz.prog (m0A W) h0A lv x0) (_:kQ p) (_:kQ cell) (_:kQ right) (_:kQ cut):
  Law Tryz.prog 7 #[x0,.int .i64 p,.int .i64 cell,.int .i64 right,.int .i64 cut] W:=by
 obtain⟨es,xs,hs,hl,hml⟩:=K5 t0
 exact N6 (vs:=[x0,.int .i64 p,.int .i64 cell,.int .i64 right,.int .i64 cut]) (rD hs hl hml p cell right cut) (VRs.cons u0 (VRs.cons (wJ p) (VRs.cons (wJ cell) (VRs.cons (wJ right) (VRs.cons (wJ cut) VRs.nil)))))
end Go.Proofs.YtkdbjfncchmmpaaGreat
