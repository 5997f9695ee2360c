/- Who is in a group; what may be done. May a plugin do that? What a step gave; a watched step. A watched step: what it gave is noted; the log is looked at. More steps change nothing: the plain law. The log is never made shorter: plain Lean. A watched step, whole. A watch is begun. What plugins may hold: a predicate of capabilities that every evaluation keeps. Plain Lean, no program. Where a capability's way begins: its root, in plain Lean. Behind a gate that was cut nothing is done: plain Lean. Behind a gate that was cut nothing is done: the law's walk. What the laws of houses are handed: steps. Behind a gate that was cut nothing is done: the law. -/
import Derived.Test.YtkdbjfncchmmpaaMg7
namespace Go.Proofs.Ytkdbjfncchmmpaa
set_option linter.unusedSimpArgs false
set_option linter.unusedVariables false
open Go
section
variable {h h' h0:AH} {F J F0 J0:Nat→Prop} {L:List Asn}
theorem N3 {b:Nat} {x y a:Int} {out:List Int} {v:AV} {w p:AV} (hb:h'.cell b=some [[.int .i64 x,.int .i64 y]]) (hlt:b<h'.n) (ha:Acc h h' tIn v (bm out)) (g:af h h') (hl:out.length+2≤1000) {j:Nat} (hj:out[j]? =some a) (v2 v6 v7 v8 v9 v10 v11 v13 v14:AV):
  ∃ h'' v' w6 w12 w14,(∀ K,aq (aj Try.prog po) 15 (.lp dw:: .ss []:: .blk 4::K) [w,p,v2,v,.int .i64 (j:Int),.ptr b 0 0,v6,v7,v8,v9,v10,v11,.int .i64 0,v13,v14] [] h'=aq (aj Try.prog po) 15 K [w,p,v2,v',.int .i64 (j:Int),.ptr b 0 0,w6,v7,v8,v9,v10,v11,w12,.bool false,w14] [] h'')∧
    Acc h h'' tIn v' (bm (oW a out (x,y)))∧af h h''∧h''.cell=h'.cell∧h''.n=h'.n:=by
 obtain⟨h1,v1,u1,r1,a1,g1,c1,n1⟩:=L9 (w:=w) (p:=p) hb hlt ha g (by omega) hj rfl 0 (by decide) v2 v6 v7 v8 v9 v10 v11 v13 v14
 rw[if_pos rfl,if_pos rfl]at a1
 have hj1:(qa a x y out)[j]? =some a:=by
  obtain⟨_,e,he⟩:=ry (a:=a) (x:=x) (y:=y) (out:=out)
  rw[he,List.getElem?_append_left (List.getElem?_eq_some_iff.1 hj).1]
  exact hj
 have hl1:(qa a x y out).length≤1000:=by
  unfold qa
  split
  ·simp;omega
  ·omega
 obtain⟨h2,v2',u2,r2,a2,g2,c2,n2⟩:=L9 (w:=w) (p:=p) (h':=h1) (b:=b) (x:=x) (y:=y) (by rw[c1];exact hb) (by omega) a1 g1 hl1 hj1 rfl 1 (by decide) v2 (.int .i64 0) v7 v8 v9 v10 v11 (.bool true) u1
 rw[if_neg (by decide),if_neg (by decide)]at a2
 refine⟨h2,v2',.int .i64 1,.int .i64 2,u2,fun K=> ?_,a2,g2,c2.trans c1,n2.trans n1⟩
 have z0:((0:Nat):Int)=0:=rfl
 have z1:((1:Nat):Int)=1:=rfl
 have z2:(0:Int)+1=1:=rfl
 have z3:(1:Int)+1=2:=rfl
 simp only[z0,z1,z2,z3]at r1 r2
 rw[r1,r2]
 rw[aG dw.eq_1]
 simp only[sim,ag,Nat.reduceAdd,Nat.reduceSub,List.replicate,reduceCtorEq,Nat.reduceLeDiff,Nat.reduceLT,aa,Int.lt_irrefl,decide_false]
theorem Nw {links:List (Int×Int)} {lv:AV} (hv:IsL tLi lv (links.map ge)) (hll:links.length≤200) {a:Int} {w p:AV} {q:Int} {j:Nat}:∀ (r pre:List (Int×Int)) (h':AH) (out:List Int) (v:AV) (v2 v5 v6 v7 v11 v12 v13 v14:AV),links=pre++r→kP links q out→out[j]? =some a→Acc h h' tIn v (bm out)→af h h'→
  ∃ h'' v' w5 w6 w10 w12 w13 w14,(∀ K,aq (aj Try.prog po) 15 (.lp iF:: .ss []:: .blk 2::K) [w,p,v2,v,.int .i64 (j:Int),v5,v6,v7,lv,.int .i64 (links.length:Int),.int .i64 (pre.length:Int),v11,v12,v13,v14] [] h'=aq (aj Try.prog po) 15 K [w,p,v2,v',.int .i64 (j:Int),w5,w6,v7,lv,.int .i64 (links.length:Int),w10,.bool false,w12,w13,w14] [] h'')∧
    Acc h h'' tIn v' (bm (r.foldl (oW a) out))∧af h h'':=by
 intro r
 induction r with
 | nil=>
   intro pre h' out v v2 v5 v6 v7 v11 v12 v13 v14 e gi hj ha g
   have d1:decide ((pre.length:Int)<(links.length:Int))=false:=decide_eq_false (by rw[e];simp)
   refine⟨h',v,v5,v6,.int .i64 (pre.length:Int),v12,v13,v14,fun K=> ?_,ha,g⟩
   rw[aG iF.eq_1]
   simp only[sim,ag,Nat.reduceAdd,Nat.reduceSub,List.replicate,reduceCtorEq,Nat.reduceLeDiff,Nat.reduceLT,aa,d1]
 | cons l r ih=>
   intro pre h' out v v2 v5 v6 v7 v11 v12 v13 v14 e gi hj ha g
   have hpl:pre.length<links.length:=by rw[e];simp
   have d1:decide ((pre.length:Int)<(links.length:Int))=true:=decide_eq_true (by omega)
   have ix:=hv.ix .i64 pre.length (ge l) (by rw[e];simp)
   have w1:=w64 (n:=(pre.length:Int)+1) (by omega) (by omega)
   have ek:((pre++[l]).length:Int)=(pre.length:Int)+1:=by simp
   have la:ldA true 2 (ge l) 0=some (.agg (ge l)):=bv rfl
   have hlen:=gi.len
   have ha1:Acc h (h'.push [ge l]) tIn v (bm out):=by
    rcases ha with ha | ⟨id,q1,q2,q3,q4,q5⟩
    ·exact .inl ha
    ·exact .inr ⟨id,q1,q2,q3,q4,q5⟩
   have pg:∀ z,(h'.push z).cell h'.n=some z:=fun z=>aE
   have ps:∀ y z,(h'.push y).set h'.n (some z)=h'.push z:=fun y z=>bp
   obtain⟨h2,v2',u6,u12,u14,r2,a2,g2,c2,n2⟩:=N3 (w:=w) (p:=p) (h':=h'.push [ge l]) (b:=h'.n) (x:=l.1) (y:=l.2) aE (Nat.lt_succ_self _) ha1 (g.trans (af.push _ _)) (by omega) hj v2 v6 v7 lv (.int .i64 (links.length:Int)) (.int .i64 (pre.length:Int)) (.bool true) v13 v14
   have hl:l∈links:=by rw[e];simp
   have gi2:kP links q (oW a out l):=(gi.addK (List.mem_flatMap.2 ⟨l,hl,by simp⟩)).addK (List.mem_flatMap.2 ⟨l,hl,by simp⟩)
   have hj2:(oW a out l)[j]? =some a:=by
    obtain⟨e',he⟩:=zc (a:=a) (out:=out) (l:=l)
    rw[he,List.getElem?_append_left (List.getElem?_eq_some_iff.1 hj).1]
    exact hj
   obtain⟨h3,v3,u5,w6,u10,u12',u13,w14,r3,a3,g3⟩:=ih (pre++[l]) h2 (oW a out l) v2' v2 (.ptr h'.n 0 0) u6 v7 (.bool true) u12 (.bool false) u14 (by simp[e]) gi2 hj2 a2 g2
   refine⟨h3,v3,u5,w6,u10,u12',u13,w14,fun K=> ?_,a3,g3⟩
   rw[←r3 K,ek]
   simp only[ge]at ix la r2 pg
   conv=>lhs;rw[aG iF.eq_1]
   simp only[sim,ag,Nat.reduceAdd,Nat.reduceSub,List.replicate,reduceCtorEq,Nat.reduceLeDiff,Nat.reduceLT,aa,d1,ix,la,pg,ps]
   rw[r2]
   simp only[sim,ag,Nat.reduceAdd,Nat.reduceSub,List.replicate,reduceCtorEq,Nat.reduceLeDiff,Nat.reduceLT,aa,w1]
theorem Nc {links:List (Int×Int)} {lv:AV} (hv:IsL tLi lv (links.map ge)) (hll:links.length≤200) {b:Nat} {p:AV} {q:Int} (hlk:∀ h',af h h'→aC false 1 h' (.ptr b 0 2)=some lv):∀ (f i:Nat) (h':AH) (out:List Int) (v:AV) (v2 v5 v6 v7 v8 v9 v10 v11 v12 v13 v14:AV),i≤out.length→2*links.length+2≤f+i→kP links q out→Acc h h' tIn v (bm out)→af h h'→
  ∃ h'' v' V,(∀ K,aq (aj Try.prog po) 15 (.lp iw:: .ss []:: .blk 0::K) [.ptr b 0 0,p,v2,v,.int .i64 (i:Int),v5,v6,v7,v8,v9,v10,v11,v12,v13,v14] [] h'=aq (aj Try.prog po) 15 K (.ptr b 0 0::p::v2::v'::V) [] h'')∧V.length=11∧
    Acc h h'' tIn v' (bm (kF links f i out))∧af h h'':=by
 intro f
 induction f with
 | zero=>
   intro i h' out v v2 v5 v6 v7 v8 v9 v10 v11 v12 v13 v14 hi hf gi ha g
   have:=gi.len
   omega
 | succ f ih=>
   intro i h' out v v2 v5 v6 v7 v8 v9 v10 v11 v12 v13 v14 hi hf gi ha g
   have hvo:=B6 ha
   unfold kF
   by_cases hlt:i<out.length
   ·rw[if_pos hlt]
    have d1:decide ((i:Int)<(out.length:Int))=true:=decide_eq_true (by omega)
    have hj:out[i]? =some (out.getD i 0):=by simp[List.getD,hlt]
    have f2:aH 2 (.ptr b 0 0)=some (.ptr b 0 2):=rfl
    have ld:=hlk h' g
    have hlen:=gi.len
    have w1:=w64 (n:=(i:Int)+1) (by omega) (by omega)
    have ek:((i+1:Nat):Int)=(i:Int)+1:=by omega
    obtain⟨h2,v2',u5,u6,u10,u12,u13,u14,r2,a2,g2⟩:=Nw (w:= .ptr b 0 0) (p:=p) hv hll (a:=out.getD i 0) (j:=i) (q:=q) links [] h' out v v2 v5 v6 (.bool true) v11 v12 v13 v14 rfl gi hj ha g
    have gi2:kP links q (links.foldl (oW (out.getD i 0)) out):=kP.fold links out (fun l hl=>hl) gi
    obtain⟨e',he⟩:=yL (a:=out.getD i 0) links out
    obtain⟨h3,v3,V,r3,hV,a3,g3⟩:=ih (i+1) h2 (links.foldl (oW (out.getD i 0)) out) v2' v2 u5 u6 (.bool true) lv (.int .i64 (links.length:Int)) u10 (.bool false) u12 u13 u14 (by rw[he];simp;omega) (by omega) gi2 a2 g2
    refine⟨h3,v3,V,fun K=> ?_,hV,a3,g3⟩
    rw[←r3 K,ek]
    simp only[List.length_nil,Int.natCast_zero]at r2
    conv=>lhs;rw[aG iw.eq_1]
    simp only[sim,ag,Nat.reduceAdd,Nat.reduceSub,List.replicate,reduceCtorEq,Nat.reduceLeDiff,Nat.reduceLT,aa,hvo.len,hvo.fits,List.length_map,d1,f2,ld,hv.len,hv.fits]
    rw[r2]
    simp only[sim,ag,Nat.reduceAdd,Nat.reduceSub,List.replicate,reduceCtorEq,Nat.reduceLeDiff,Nat.reduceLT,aa,w1]
   ·rw[if_neg hlt]
    have d1:decide ((i:Int)<(out.length:Int))=false:=decide_eq_false (by omega)
    refine⟨h',v,[.int .i64 (i:Int),v5,v6,.bool false,v8,v9,v10,v11,v12,v13,v14],fun K=> ?_,rfl,ha,g⟩
    rw[aG iw.eq_1]
    simp only[sim,ag,Nat.reduceAdd,Nat.reduceSub,List.replicate,reduceCtorEq,Nat.reduceLeDiff,Nat.reduceLT,aa,hvo.len,hvo.fits,List.length_map,d1]
theorem BT {links:List (Int×Int)} {lv:AV} (hv:IsL tLi lv (links.map ge)) (hll:links.length≤200) {b:Nat} (hlk:∀ h',af h h'→aC false 1 h' (.ptr b 0 2)=some lv) (p:Int):aj Try.prog po 90 [.ptr b 0 0,.int .i64 p] h=some (.inl (cT tIn (bm (gR links p))),h):=by
 have ha:Acc h (h.fresh 1) tIn (.isl (some h.ids) tIn [[.int .i64 p]]) (bm [p]):= .inr ⟨h.ids,by simp,Nat.le_refl _,Nat.lt_succ_self _,iW,rfl⟩
 obtain⟨h2,v',V,r2,hV,a2,g2⟩:=Nc (p:= .int .i64 p) (q:=p) hv hll hlk (2*links.length+2) 0 (h.fresh 1) [p] _ .nils .junk .junk .junk .junk .junk .junk .junk .junk .junk .junk (Nat.zero_le _) (by omega) (uP links p) ha (af.fresh h 1)
 have hw:=xk a2 (fun r hr=>by obtain⟨x,_,rfl⟩:=List.mem_map.1 hr;rfl)
 have e:kF links (2*links.length+2) 0 [p]=gR links p:=rfl
 rw[e]at hw
 simp only[Int.natCast_zero]at r2
 match V,hV with
 | [x4,x5,x6,x7,x8,x9,x10,x11,x12,x13,x14],_=>
   refine ah DX rfl ?_;unfold uU
   simp only[sim,ag,Nat.reduceAdd,Nat.reduceSub,List.replicate,reduceCtorEq,Nat.reduceLeDiff,Nat.reduceLT,aa]
   rw[r2]
   simp only[sim,ag,Nat.reduceAdd,Nat.reduceSub,List.replicate,reduceCtorEq,Nat.reduceLeDiff,Nat.reduceLT,aa]
   exact aD g2 hw
theorem HM {g:jB} {c r:Int} {b4 b5 b7:Nat} {all:List Int} (h4:h.cell b4=some [[.int .i64 c]]) (h5:h.cell b5=some [[.int .i64 r]]) (h7:h.cell b7=some [[cT tIn (bm all)]]) (l4:b4<h.n) (l5:b5<h.n) (l7:b7<h.n) (hl:all.length≤1000000):
  aj Try.prog po 92 [.agg (gh g),.ptr b4 0 0,.ptr b5 0 0,.ptr b7 0 0] h=some (.inl (.bool (decide (g.cell=c) && (decide (iT g.rights r=r) && all.contains g.plugin))),h):=by
 have pg:∀ z,(h.push z).cell h.n=some z:=fun z=>aE
 have p4:∀ z,(h.push z).cell b4=some [[.int .i64 c]]:=fun z=>by rw[aN l4];exact h4
 have p5:∀ z,(h.push z).cell b5=some [[.int .i64 r]]:=fun z=>by rw[aN l5];exact h5
 have p7:∀ z,(h.push z).cell b7=some [[cT tIn (bm all)]]:=fun z=>by rw[aN l7];exact h7
 have cn:=fun(h:AH)=>mH (h:=h) (ii tIn (bm all)) (by omega) g.plugin
 have hm:∀ x y:Int,IntKind.wrap .i64 ((BitVec.ofInt IntKind.i64.bits x &&& BitVec.ofInt IntKind.i64.bits y).toNat:Int)=iT x y:=fun x y=>rfl
 simp only[gh]at*
 refine ah H4 rfl ?_;unfold zQ
 cases d1:decide (g.cell=c)with
 | false=>
   simp only[sim,ag,Nat.reduceAdd,Nat.reduceSub,List.replicate,reduceCtorEq,Nat.reduceLeDiff,Nat.reduceLT,aa,pg,p4,p5,p7,d1]
   exact aD (af.push h _) rfl
 | true=>
   cases d2:decide (iT g.rights r=r)with
   | false=>
     simp only[sim,ag,Nat.reduceAdd,Nat.reduceSub,List.replicate,reduceCtorEq,Nat.reduceLeDiff,Nat.reduceLT,aa,pg,p4,p5,p7,d1,hm,d2]
     exact aD (af.push h _) rfl
   | true=>
     simp only[sim,ag,Nat.reduceAdd,Nat.reduceSub,List.replicate,reduceCtorEq,Nat.reduceLeDiff,Nat.reduceLT,aa,pg,p4,p5,p7,d1,hm,d2,cn]
     exact aD (af.push h _) rfl
theorem Ag {v:AV} {gs:List jB} (hv:IsL tGi v (gs.map gh)) (hl:gs.length≤1000000) {f:FuncId} {caps:List AV} {P:jB→Bool} (hf:∀ g∈gs,aj Try.prog po f (.agg (gh g)::caps) h=some (.inl (.bool (P g)),h)):∀ (r pre:List jB) (v3 v6 v7:AV),gs=pre++r→pre.any P=false→
  ∃ V,(∀ K,aq (aj Try.prog po) 8 (.lp fQ:: .ss []:: .blk 0::(.ss [.ops [(.i (.v 2) (.mv (.c (.int .i64 (-1)))))],.ret])::K) [v,.fn f [] caps,.int .i64 0,v3,.int .i64 (gs.length:Int),.int .i64 (pre.length:Int),v6,v7] [] h=some (.ret,V,h))∧∃ n:Int,V.getD 2 .junk= .int .i64 n∧decide (0≤n)=gs.any P:=by
 intro r
 induction r with
 | nil=>
   intro pre v3 v6 v7 e hc
   have d1:decide ((pre.length:Int)<(gs.length:Int))=false:=decide_eq_false (by rw[e];simp)
   refine⟨[v,.fn f [] caps,.int .i64 (-1),v3,.int .i64 (gs.length:Int),.int .i64 (pre.length:Int),.bool false,v7],fun K=> ?_, -1,rfl,?_⟩
   ·rw[aG fQ.eq_1]
    simp only[sim,ag,Nat.reduceAdd,Nat.reduceSub,List.replicate,reduceCtorEq,Nat.reduceLeDiff,Nat.reduceLT,aa,d1]
   ·rw[e,List.append_nil,hc];rfl
 | cons g r ih=>
   intro pre v3 v6 v7 e hc
   have d1:decide ((pre.length:Int)<(gs.length:Int))=true:=decide_eq_true (by rw[e];simp;omega)
   have ix:=hv.ix .i64 pre.length (gh g) (by rw[e];simp)
   have la:ldA true 3 (gh g) 0=some (.agg (gh g)):=bv rfl
   have hpl:pre.length<gs.length:=by rw[e];simp
   have w:=w64 (n:=(pre.length:Int)+1) (by omega) (by omega)
   have hg:=hf g (by rw[e];simp)
   cases hy:P g with
   | true=>
     rw[hy]at hg
     refine⟨[v,.fn f [] caps,.int .i64 (pre.length:Int),.int .i64 (pre.length:Int),.int .i64 (gs.length:Int),.int .i64 (pre.length:Int),.bool true,.bool true],fun K=> ?_,(pre.length:Int),rfl,?_⟩
     ·rw[aG fQ.eq_1]
      simp only[sim,ag,Nat.reduceAdd,Nat.reduceSub,List.replicate,reduceCtorEq,Nat.reduceLeDiff,Nat.reduceLT,aa,az,d1,ix,la,hg]
     ·rw[e];simp[hy]
   | false=>
     rw[hy]at hg
     have ek:((pre++[g]).length:Int)=(pre.length:Int)+1:=by simp
     obtain⟨V,r1,r2⟩:=ih (pre++[g]) (.int .i64 (pre.length:Int)) (.bool true) (.bool false) (by simp[e]) (by simp[hc,hy])
     refine⟨V,fun K=> ?_,r2⟩
     rw[←r1 K,ek]
     conv=>lhs;rw[aG fQ.eq_1]
     simp only[sim,ag,Nat.reduceAdd,Nat.reduceSub,List.replicate,reduceCtorEq,Nat.reduceLeDiff,Nat.reduceLT,aa,az,d1,ix,la,hg,w]
end
theorem Pp {e:TypeId} {rows:List (List AV)} {k:Nat} (hk:k≤rows.length):∃ v,gT (cT e rows) (some (.int .i64 (k:Int))) none=some v∧IsL e v (rows.drop k):=by
 unfold cT
 by_cases hz:rows=[]
 ·subst hz
  have:k=0:=by simpa using hk
  subst this
  exact⟨.nils,by simp[gT,loA,hiA,dS,th],jJ e⟩
 ·rw[if_neg hz]
  refine⟨.isl none e (rows.drop k),?_,kj _ _ _⟩
  have h2:(rows.drop k).take (rows.length - k)=rows.drop k:=List.take_of_length_le (by simp)
  simp[gT,loA,hiA,dS,th,hk,h2]
section
variable {h h' h0:AH} {F J F0 J0:Nat→Prop} {L:List Asn} {b hb:Nat} {gs:List jB} {ls:List (Int×Int)} {cd at_ n:Int}
theorem ko (x:(dB b hb gs ls cd at_ n).A h F J):∃ gv lv,St h F J h [ai b [[.ptr hb 0 0,gv,lv,.int .i64 cd,.int .i64 at_,.int .i64 n]],gP tGi gv (gs.map gh),gP tLi lv (ls.map ge)]:=by
 obtain⟨⟨gv,lv⟩,F1,J1,F2,J2,x1,x2,r⟩:=x
 exact⟨gv,lv,St.start ⟨F1,J1,F2,J2,x1,aY.two x2,r⟩⟩
theorem aY.three {X Y Z:Asn} (x:(aY [X,Y,Z]).A h F J):(dA X (dA Y Z)).A h F J:=by
 obtain⟨F1,J1,F2,J2,x1,x2,r⟩:=x
 refine⟨F1,J1,F2,J2,x1,?_,r⟩
 obtain⟨F3,J3,F4,J4,y,z,r2⟩:=x2
 exact⟨F3,J3,F4,J4,y,aY.one' z,r2⟩
theorem oR {gv lv:AV} (s:St h0 F0 J0 h [ai b [[.ptr hb 0 0,gv,lv,.int .i64 cd,.int .i64 at_,.int .i64 n]],gP tGi gv (gs.map gh),gP tLi lv (ls.map ge)]):Did h0 F0 J0 h (dB b hb gs ls cd at_ n):=
 Did.imp (fun _ _ _ x=>⟨(gv,lv),aY.three x⟩) s
theorem yW {e:TypeId} {v:AV} {rows:List (List AV)} (x:(gP e v rows).A h F J):IsL e v rows∧v.one=true∧v.cells=[v]:=by
 rcases x with⟨⟨rfl,rfl⟩,_⟩ | ⟨id,⟨_,rfl⟩,_⟩
 ·exact⟨jJ e,rfl,rfl⟩
 ·exact⟨kj _ _ _,rfl,rfl⟩
structure KL (h:AH) (b hb:Nat) (gs:List jB) (ls:List (Int×Int)) (cd at_ n:Int) (gv lv:AV):Prop where
 c:h.cell b=some [[.ptr hb 0 0,gv,lv,.int .i64 cd,.int .i64 at_,.int .i64 n]]
 lt:b<h.n
 g:IsL tGi gv (gs.map gh)
 l:IsL tLi lv (ls.map ge)
theorem gz (s:St h0 F0 J0 h L) (i:Nat) (hi:L[i]? =some (dB b hb gs ls cd at_ n)):∃ gv lv,KL h b hb gs ls cd at_ n gv lv:=by
 obtain⟨F,J,x⟩:=s.get i hi
 obtain⟨gv,lv,s1⟩:=ko x
 have c:=s1.cell 0 rfl
 obtain⟨F1,J1,x1⟩:=s1.get 1 rfl
 obtain⟨F2,J2,x2⟩:=s1.get 2 rfl
 exact⟨gv,lv,c.1,c.2,(yW x1).1,(yW x2).1⟩
theorem tw {v:AV} {gs:List jB} (hv:IsL tGi v (gs.map gh)) (hl:gs.length≤1000000) {f:FuncId} {caps:List AV} {P:jB→Bool} (hf:∀ g∈gs,aj Try.prog po f (.agg (gh g)::caps) h=some (.inl (.bool (P g)),h)):
  aj Try.prog po 91 [v,.fn f [] caps] h=some (.inl (.bool (gs.any P)),h):=by
 obtain⟨V,r1,n,r2,r3⟩:=Ag (h:=h) hv hl hf gs [] .junk .junk .junk rfl rfl
 simp only[List.length_nil,Int.natCast_zero]at r1
 have e1:aj Try.prog po 113 [v,.fn f [] caps] h=some (.inl (.int .i64 n),h):=by
  refine ah Fj rfl ?_;unfold vb
  simp only[sim,ag,Nat.reduceAdd,Nat.reduceSub,List.replicate,reduceCtorEq,Nat.reduceLeDiff,Nat.reduceLT,aa,hv.len,hv.fits,List.length_map]
  rw[r1]
  simp only[sim,ag,Nat.reduceAdd,Nat.reduceSub,List.replicate,reduceCtorEq,Nat.reduceLeDiff,Nat.reduceLT,aa,r2]
 refine ah wz rfl ?_;unfold nu
 simp only[sim,ag,Nat.reduceAdd,Nat.reduceSub,List.replicate,reduceCtorEq,Nat.reduceLeDiff,Nat.reduceLT,aa,e1,r3]
theorem AJ (ls:List (Int×Int)) (p:Int):(gR ls p).length≤2*ls.length+1:=by
 have key:∀ (f i:Nat) (out:List Int),kP ls p out→kP ls p (kF ls f i out):=by
  intro f
  induction f with
  | zero=>exact fun i out g=>g
  | succ f ih=>
    intro i out g
    unfold kF
    split
    ·exact ih _ _ (kP.fold ls out (fun l hl=>hl) g)
    ·exact g
 exact(key _ _ _ (uP ls p)).len
theorem ql (s:St h0 F0 J0 h L) (i:Nat) (hi:L[i]? =some (dB b hb gs ls cd at_ n)) (hg:gs.length≤200) (hl:ls.length≤200) (p c r:Int):aj Try.prog po 64 [.ptr b 0 0,.int .i64 p,.int .i64 c,.int .i64 r] h=some (.inl (.bool (AR gs ls p c r)),h):=by
 obtain⟨gv,lv,wv⟩:=gz s i hi
 have s1:=s.push [[.int .i64 c]]
 have s2:=s1.push [[.int .i64 r]]
 have hlk:∀ h',af ((h.push [[.int .i64 c]]).push [[.int .i64 r]]) h'→aC false 1 h' (.ptr b 0 2)=some lv:=fun h' g=>by
  have e:h'.cell b=h.cell b:=by
   rw[g.cell b (by have:=wv.lt;simp only[aL];omega),aN (by have:=wv.lt;simp only[aL];omega),aN wv.lt]
  rw[bB,e,wv.c]
  rfl
 have gr:=BT (h:=(h.push [[.int .i64 c]]).push [[.int .i64 r]]) wv.l hl hlk p
 have s3:=s2.push [[cT tIn (bm (gR ls p))]]
 have c7:=s3.cell 0 rfl
 have c5:=s3.cell 1 rfl
 have c4:=s3.cell 2 rfl
 obtain⟨gv3,lv3,wv3⟩:=gz s3 (i+1+1+1) hi
 have eg:gv3=gv:=by
  have:=wv3.c
  rw[aN (by have:=wv.lt;simp only[aL];omega),aN (by have:=wv.lt;simp only[aL];omega),aN wv.lt,wv.c]at this
  simp at this
  exact this.1.symm
 subst eg
 have f1:aH 1 (.ptr b 0 0)=some (.ptr b 0 1):=rfl
 have l1:aC false 1 (((h.push [[.int .i64 c]]).push [[.int .i64 r]]).push [[cT tIn (bm (gR ls p))]]) (.ptr b 0 1)=some gv3:=by rw[bB,wv3.c];rfl
 have cg:=tw (h:=((h.push [[.int .i64 c]]).push [[.int .i64 r]]).push [[cT tIn (bm (gR ls p))]]) wv.g (by omega) (f:=92) (caps:=[.ptr h.n 0 0,.ptr (h.n+1) 0 0,.ptr (h.n+1+1) 0 0]) (P:=fun g=>decide (g.cell=c) && (decide (iT g.rights r=r) && (gR ls p).contains g.plugin)) (fun g _=>HM c4.1 c5.1 c7.1 c4.2 c5.2 c7.2 (by have:=AJ ls p;omega))
 have hlo:(cT tIn (bm (gR ls p))).one=true∧(cT tIn (bm (gR ls p))).cells=[cT tIn (bm (gR ls p))]:=by
  unfold cT
  split<;>exact⟨rfl,rfl⟩
 have m3:∀ y z,((((h.push [[.int .i64 c]]).push [[.int .i64 r]]).push y).set (h.n+1+1) (some z))=((h.push [[.int .i64 c]]).push [[.int .i64 r]]).push z:=fun y z=>bp
 have m4:∀ y,((((h.push [[.int .i64 c]]).push [[.int .i64 r]]).push y).cell (h.n+1+1))=some y:=fun y=>aE
 unfold AR
 generalize cT tIn (bm (gR ls p))=gl at*
 refine ah Jf rfl ?_;unfold Cj
 simp only[sim,ag,Nat.reduceAdd,Nat.reduceSub,List.replicate,reduceCtorEq,Nat.reduceLeDiff,Nat.reduceLT,aa,az,gr,hlo,m3,m4,f1,l1,cg]
 exact aD (((af.push h _).trans (af.push _ _)).trans (af.push _ _)) rfl
end
structure WaC extends HoC where
 wt:Nat
abbrev dN (c:WaC) (W:WaD):List Asn:=dB c.wt c.hb W.gifts W.links W.code W.at_ W.n::di c.toHoC W.H
structure OkW (k:Nat) (W:WaD):Prop where
 h:yI k W.H
 g:W.gifts.length≤k
 l:W.links.length≤k
 n:W.n=(k:Int)
section
variable {h h' h0:AH} {F J F0 J0:Nat→Prop} {L:List Asn} {b hb:Nat} {gs:List jB} {ls:List (Int×Int)} {cd at_ n:Int}
theorem Bx (s0:St h0 F0 J0 h L) (i:Nat) (hi:L[i]? =some (dB b hb gs ls cd at_ n)) (hl:gs.length≤1000) (g:jB) {gv lv:AV} (wv:KL h b hb gs ls cd at_ n gv lv):
  ∃ v' h1 h2,aA false tGi gv (.isl (some h.ids) tGi [gh g]) (h.fresh 1)=some (v',h1)∧v'.one=true∧v'.cells=[v']∧h1.cell=h.cell∧aI 1 h1 (.ptr b 0 1) v'=some h2∧St h0 F0 J0 h2 (L.set i (dB b hb (gs++[g]) ls cd at_ n)):=by
 obtain⟨h2,⟨v',h1⟩,⟨e1,e2,e3,e4,e5⟩,s'⟩:=s0.callE (R:=fun h2 (q:AV×AH)=>aA false tGi gv (.isl (some h.ids) tGi [gh g]) (h.fresh 1)=some (q.1,q.2)∧q.1.one=true∧q.1.cells=[q.1]∧q.2.cell=h.cell∧aI 1 q.2 (.ptr b 0 1) q.1=some h2) i hi (Y:=fun _=>dB b hb (gs++[g]) ls cd at_ n) fun F J x=>by
  obtain⟨gv',lv',s⟩:=ko x
  have c0:=s.cell 0 rfl
  have e:=wv.c
  rw[c0.1]at e
  simp at e
  obtain⟨rfl,rfl⟩:=e
  obtain⟨F1,J1,x1⟩:=s.get 1 rfl
  obtain⟨h1,v',⟨a1,a2,a3,a4⟩,s1⟩:=s.callE (R:=fun h1 (v':AV)=>aA false tGi gv' (.isl (some h.ids) tGi [gh g]) (h.fresh 1)=some (v',h1)∧v'.one=true∧v'.cells=[v']∧h1.cell=h.cell) 1 rfl (Y:=fun v'=>gP tGi v' ((gs++[g]).map gh)) fun F J x=>by
   obtain⟨v',h1,a1,a2,a3,a4,_,a5⟩:=l8 x (row:=gh g) rfl (by simp;omega)
   exact⟨h1,v',⟨a1,a2,a3,a5⟩,by simpa using a4⟩
  have c1:=s1.cell 0 rfl
  have s2:=s1.set 0 rfl [[.ptr hb 0 0,v',lv',.int .i64 cd,.int .i64 at_,.int .i64 n]]
  refine⟨_,(v',h1),⟨a1,a2,a3,a4,?_⟩,oR s2⟩
  rw[bk c1.1 rfl (by rw[a3];simp[a2]) (by rw[a3];rfl) (by simp)]
  rw[a3]
  rfl
 exact⟨v',h1,h2,e1,e2,e3,e4,e5,s'⟩
theorem AY (s0:St h0 F0 J0 h L) (i:Nat) (hi:L[i]? =some (dB b hb gs ls cd at_ n)) (hl:ls.length≤1000) (g:Int×Int) {gv lv:AV} (wv:KL h b hb gs ls cd at_ n gv lv):
  ∃ v' h1 h2,aA false tLi lv (.isl (some h.ids) tLi [ge g]) (h.fresh 1)=some (v',h1)∧v'.one=true∧v'.cells=[v']∧h1.cell=h.cell∧aI 1 h1 (.ptr b 0 2) v'=some h2∧St h0 F0 J0 h2 (L.set i (dB b hb gs (ls++[g]) cd at_ n)):=by
 obtain⟨h2,⟨v',h1⟩,⟨e1,e2,e3,e4,e5⟩,s'⟩:=s0.callE (R:=fun h2 (q:AV×AH)=>aA false tLi lv (.isl (some h.ids) tLi [ge g]) (h.fresh 1)=some (q.1,q.2)∧q.1.one=true∧q.1.cells=[q.1]∧q.2.cell=h.cell∧aI 1 q.2 (.ptr b 0 2) q.1=some h2) i hi (Y:=fun _=>dB b hb gs (ls++[g]) cd at_ n) fun F J x=>by
  obtain⟨gv',lv',s⟩:=ko x
  have c0:=s.cell 0 rfl
  have e:=wv.c
  rw[c0.1]at e
  simp at e
  obtain⟨rfl,rfl⟩:=e
  obtain⟨h1,v',⟨a1,a2,a3,a4⟩,s1⟩:=s.callE (R:=fun h1 (v':AV)=>aA false tLi lv' (.isl (some h.ids) tLi [ge g]) (h.fresh 1)=some (v',h1)∧v'.one=true∧v'.cells=[v']∧h1.cell=h.cell) 2 rfl (Y:=fun v'=>gP tLi v' ((ls++[g]).map ge)) fun F J x=>by
   obtain⟨v',h1,a1,a2,a3,a4,_,a5⟩:=l8 x (row:=ge g) rfl (by simp;omega)
   exact⟨h1,v',⟨a1,a2,a3,a5⟩,by simpa using a4⟩
  have c1:=s1.cell 0 rfl
  have s2:=s1.set 0 rfl [[.ptr hb 0 0,gv',v',.int .i64 cd,.int .i64 at_,.int .i64 n]]
  refine⟨_,(v',h1),⟨a1,a2,a3,a4,?_⟩,oR s2⟩
  rw[bk c1.1 rfl (by rw[a3];simp[a2]) (by rw[a3];rfl) (by simp)]
  rw[a3]
  rfl
 exact⟨v',h1,h2,e1,e2,e3,e4,e5,s'⟩
theorem sb (s0:St h0 F0 J0 h L) (i:Nat) (hi:L[i]? =some (dB b hb gs ls cd at_ n)) (cd' at' n':Int) {row:List AV} {gv lv:AV} (wv:KL h b hb gs ls cd at_ n gv lv):St h0 F0 J0 (h.set b (some [[.ptr hb 0 0,gv,lv,.int .i64 cd',.int .i64 at',.int .i64 n']])) (L.set i (dB b hb gs ls cd' at' n')):=by
 obtain⟨h',rfl,s'⟩:=s0.call (R:=fun h'=>h'=h.set b (some [[.ptr hb 0 0,gv,lv,.int .i64 cd',.int .i64 at',.int .i64 n']])) i hi (Y:=dB b hb gs ls cd' at' n') fun F J x=>by
  obtain⟨gv',lv',s⟩:=ko x
  have c0:=s.cell 0 rfl
  have e:=wv.c
  rw[c0.1]at e
  simp at e
  obtain⟨rfl,rfl⟩:=e
  exact⟨_,rfl,oR (s.set 0 rfl [[.ptr hb 0 0,gv',lv',.int .i64 cd',.int .i64 at',.int .i64 n']])⟩
 exact s'
theorem Fv (s:St h0 F0 J0 h L) (i:Nat) (hi:L[i]? =some (dB b hb gs ls cd at_ n)) (hg:gs.length≤1000) (hl:ls.length≤1000) (x:cr) {m:AV} (hm:m.one=true):
  ∃ h',aj Try.prog po 65 [.ptr b 0 0,.agg (aO x m)] h=some (.inl (.tup []),h')∧St h0 F0 J0 h' (L.set i (dB b hb (if x.kind=2 then gs++[⟨x.p,x.k,x.r⟩]else gs) (if x.kind=2 then ls else if x.kind=3 then ls++[(x.p,x.q)]else ls) cd at_ n)):=by
 have s1:=s.push [aO x m]
 have c1:∀ z,(h.push z).cell h.n=some z:=fun z=>aE
 have f1:aH 1 (.ptr b 0 0)=some (.ptr b 0 1):=rfl
 have f2:aH 2 (.ptr b 0 0)=some (.ptr b 0 2):=rfl
 obtain⟨gv,lv,wv⟩:=gz s1 (i+1) hi
 have lg:aC false 1 (h.push [aO x m]) (.ptr b 0 1)=some gv:=by rw[bB,wv.c];rfl
 have ll:aC false 1 (h.push [aO x m]) (.ptr b 0 2)=some lv:=by rw[bB,wv.c];rfl
 by_cases k2:x.kind=2
 ·have d2:decide (x.kind=2)=true:=decide_eq_true k2
  rw[if_pos k2,if_pos k2]
  obtain⟨v',h1,h2,a1,a2,a3,a4,a5,s2⟩:=Bx s1 (i+1) hi hg ⟨x.p,x.k,x.r⟩ wv
  have lg2:aC false 1 ((h.push [aO x m]).fresh 1) (.ptr b 0 1)=some gv:=lg
  have a1:aA false tGi gv (.isl (some h.ids) tGi [[.int .i64 x.p,.int .i64 x.k,.int .i64 x.r]]) ((h.push [aO x m]).fresh 1)=some (v',h1):=a1
  refine⟨h2,?_,s2.drop⟩
  simp only[aO]at lg lg2 a1
  refine ah sq rfl ?_;unfold n7
  simp only[sim,ag,Nat.reduceAdd,Nat.reduceSub,List.replicate,reduceCtorEq,Nat.reduceLeDiff,Nat.reduceLT,aa,aO,hm,c1,f1,d2,lg,lg2,a1,a2,a3,a5]
 ·have d2:decide (x.kind=2)=false:=decide_eq_false k2
  rw[if_neg k2,if_neg k2]
  by_cases k3:x.kind=3
  ·have d3:decide (x.kind=3)=true:=decide_eq_true k3
   rw[if_pos k3]
   obtain⟨v',h1,h2,a1,a2,a3,a4,a5,s2⟩:=AY s1 (i+1) hi hl (x.p,x.q) wv
   have ll2:aC false 1 ((h.push [aO x m]).fresh 1) (.ptr b 0 2)=some lv:=ll
   have a1:aA false tLi lv (.isl (some h.ids) tLi [[.int .i64 x.p,.int .i64 x.q]]) ((h.push [aO x m]).fresh 1)=some (v',h1):=a1
   refine⟨h2,?_,s2.drop⟩
   simp only[aO]at ll ll2 a1
   refine ah sq rfl ?_;unfold n7
   simp only[sim,ag,Nat.reduceAdd,Nat.reduceSub,List.replicate,reduceCtorEq,Nat.reduceLeDiff,Nat.reduceLT,aa,aO,hm,c1,f2,d2,d3,ll,ll2,a1,a2,a3,a5]
  ·have d3:decide (x.kind=3)=false:=decide_eq_false k3
   rw[if_neg k3]
   refine⟨h.push [aO x m],?_,?_⟩
   ·refine ah sq rfl ?_;unfold n7
    simp only[sim,ag,Nat.reduceAdd,Nat.reduceSub,List.replicate,reduceCtorEq,Nat.reduceLeDiff,Nat.reduceLT,aa,aO,hm,c1,d2,d3]
   ·rw[Ew hi]
    exact s1.drop
end
section
variable {α β:Type} {d:Nat}
def iN (z:β) (q:StD×α×Int) (k:StD→α→StD×β×Int):StD×β×Int:=match q with
 | (S,v,c)=>if c≠0 then(S,z,c)else k S v
end
theorem yN (f:XD→StD→StD×VD×Int) (x:XD) (l:List XD) (S:StD) (acc:List VD):evL f (x::l) S acc=iN [] (f x S) fun S' v=>evL f l S' (acc++[v]):=rfl
theorem xz (ms:aM) (N:Nat) (p:Int) (x:XD) (arg:VD) (names:List VD) (fr:Nat) (S:StD):ofD ms (N+1) p x arg names fr S=
  if S.left=0 then S.no 12
  else match dZ p x arg names S.tick with
  | some v=>S.tick.ok v
  | none=>
    if x.op=5 then iN au (ofD ms N p (x.l.getD 0 ct) arg names fr S.tick) fun S' v=>ofD ms N p (x.l.getD 1 ct) arg (names++[v]) fr S'
    else if x.op=7 then iN au (ofD ms N p (x.l.getD 0 ct) arg names fr S.tick) fun S' v=>if v.kind≠1 then S'.no 2 else if v.n≠0 then ofD ms N p (x.l.getD 1 ct) arg names fr S' else ofD ms N p (x.l.getD 2 ct) arg names fr S'
    else iN au (evL (fun y S=>ofD ms N p y arg names fr S) x.l S.tick []) fun S' l=>
     if x.op=18 then(if fr=20 then S'.no 4 else ofD ms N p (cU ms p x.k) (l.getD 0 au) [] (fr+1) S')
     else if x.op=19 then iN au (eY ms (l.getD 0 au) (l.getD 1 au) fr S') fun S2 q=>iN au (ofD ms N q.plugin (cU ms q.plugin q.func) q.arg [] (fr+1) S2) fun S3 v=>eG q.gates v S3
     else bH p x.op x.k x.n l S':=by
 rw[ofD]
 rfl
def iz {α:Type} (S:StD) (q:StD×α×Int):Prop:=S.log<+:q.1.log
section
variable {α β:Type}
theorem iz.same {S:StD} {q:StD×α×Int} (h:q.1.log=S.log):iz S q:=by unfold iz;rw[h];exact List.prefix_refl _
theorem iz.bind {S:StD} {q:StD×α×Int} {z:β} {k:StD→α→StD×β×Int} (h:iz S q) (hk:∀ T v,iz T (k T v)):iz S (iN z q k):=by
 obtain⟨T,v,c⟩:=q
 unfold iN
 simp only
 split
 ·exact h
 ·exact List.IsPrefix.trans h (hk T v)
theorem iz.ite {S:StD} {p:Prop} [Decidable p] {a b:StD×α×Int} (h1:iz S a) (h2:iz S b):iz S (if p then a else b):=by split<;>assumption
end
theorem FN (S:StD) (q:ae×Int×Int):iz S (vP S q):=by
 unfold vP
 exact .ite (.same rfl) (.same rfl)
theorem Fc (p op k n:Int) (l:List VD) (S:StD):iz S (bH p op k n l S):=by
 unfold bH
 repeat' (first | exact iz.same rfl | exact FN _ _ | exact List.prefix_append _ _ | refine iz.ite ?_ ?_)
theorem IL (ms:aM) (v x:VD) (fr:Nat) (S:StD):iz S (eY ms v x fr S):=by
 unfold eY
 repeat' (first | exact iz.same rfl | refine iz.ite ?_ ?_)
theorem E8 (gates:List Int) (v:VD) (S:StD):iz S (eG gates v S):=by
 unfold eG
 exact .ite (.same rfl) (.same rfl)
theorem Du {f:XD→StD→StD×VD×Int} (hf:∀ x S,iz S (f x S)):∀ (l:List XD) (S:StD) (acc:List VD),iz S (evL f l S acc)
 | [],S,acc=> .same rfl
 | x::l,S,acc=>by
   rw[yN]
   exact(hf x S).bind fun T v=>Du hf l T _
theorem B7 (ms:aM):∀ (N:Nat) (p:Int) (x:XD) (arg:VD) (names:List VD) (fr:Nat) (S:StD),iz S (ofD ms N p x arg names fr S)
 | 0,p,x,arg,names,fr,S=> .same rfl
 | N+1,p,x,arg,names,fr,S=>by
   have ih:=B7 ms N
   have tk:∀ {q:StD×VD×Int},iz S.tick q→iz S q:=fun h=>h
   rw[xz]
   refine .ite (.same rfl) (tk ?_)
   cases dZ p x arg names S.tick with
   | some v=>exact .same rfl
   | none=>
     refine .ite ((ih _ _ _ _ _ _).bind fun T v=>ih _ _ _ _ _ _) (.ite ((ih _ _ _ _ _ _).bind fun T v=> .ite (.same rfl) (.ite (ih _ _ _ _ _ _) (ih _ _ _ _ _ _))) ?_)
     refine(Du (fun y S=>ih _ _ _ _ _ _) _ _ _).bind fun T l=> .ite (.ite (.same rfl) (ih _ _ _ _ _ _)) (.ite ?_ (Fc _ _ _ _ _ _))
     exact(IL _ _ _ _ _).bind fun T q=>(ih _ _ _ _ _ _).bind fun T v=>E8 _ _ _
theorem GA {ms:aM} {S:StD} {p f fuel:Int} {v:VD}:S.log<+:(cM ms p f v fuel S).1.log:=by
 unfold cM
 split
 ·exact List.prefix_refl _
 ·split
  ·exact List.prefix_refl _
  ·split
   ·exact List.prefix_refl _
   ·have h:=B7 ms fuel.toNat p (cU ms p f) v [] 1 {S with left:=fuel.toNat}
    generalize ofD ms fuel.toNat p (cU ms p f) v [] 1 {S with left:=fuel.toNat}=q at h
    obtain⟨S',w,c⟩:=q
    exact h
theorem zG {H:HoD} {p n c:Int}:(H.give p n c).1.S.log=H.S.log:=by
 unfold HoD.give
 split<;>rfl
theorem Ex (H:HoD) (x:cr):H.S.log<+:(H.step x).1.S.log:=by
 have same:∀ {l:List cD},l=H.S.log→H.S.log<+:l:=fun h=>by rw[h];exact List.prefix_refl _
 unfold HoD.step
 split
 ·unfold HoD.load
  split
  ·exact same rfl
  ·split<;>exact same rfl
 ·split
  ·split
   ·exact same rfl
   ·split
    ·exact same zG
    ·exact same zG
  ·split
   ·unfold HoD.call
    split
    ·exact same rfl
    ·have:=GA (ms:=H.ms) (S:=H.S) (p:=x.p) (f:=x.k) (fuel:=2000) (v:=if 0≤x.h then(H.hand x.p).getD x.h.toNat au else gJ x.n)
     generalize cM H.ms x.p x.k (if 0≤x.h then(H.hand x.p).getD x.h.toNat au else gJ x.n) 2000 H.S=q at this
     obtain⟨S',v,n,c⟩:=q
     exact this
   ·split
    ·exact same rfl
    ·split<;>exact same rfl
abbrev waA (b hb:Nat) (W:WaD):Asn:=dB b hb W.gifts W.links W.code W.at_ W.n
theorem zw (W:WaD) (y:cD):(W.see y).gifts=W.gifts∧(W.see y).links=W.links∧(W.see y).n=W.n∧(W.see y).H=W.H:=by
 unfold WaD.see
 split<;>exact⟨rfl,rfl,rfl,rfl⟩
theorem mf:∀ (l:List cD) (W:WaD),(l.foldl WaD.see W).gifts=W.gifts∧(l.foldl WaD.see W).links=W.links∧(l.foldl WaD.see W).n=W.n∧(l.foldl WaD.see W).H=W.H
 | [],W=>⟨rfl,rfl,rfl,rfl⟩
 | y::l,W=>by
   obtain⟨a1,a2,a3,a4⟩:=zw W y
   obtain⟨b1,b2,b3,b4⟩:=mf l (W.see y)
   exact⟨b1.trans a1,b2.trans a2,b3.trans a3,b4.trans a4⟩
section
variable {h h' h0:AH} {F J F0 J0:Nat→Prop} {L:List Asn} {b hb:Nat}
theorem I4 {i:Nat} (hil:i<L.length) {v9:AV} {es:List cD} (hv:IsL tEn v9 (es.map cV)) (hel:es.length≤1000000):∀ (r pre:List cD) (h':AH) (W:WaD) (v1 v2 v3 v4 v5 v6 v7 v8 v12 v13:AV),es=pre++r→W.gifts.length≤200→W.links.length≤200→St h0 F0 J0 h' (L.set i (waA b hb W))→
  ∃ h'' w7 w11 w13,(∀ K,aq (aj Try.prog po) 14 (.lp gk:: .ss []:: .blk 0::K) [.ptr b 0 0,v1,v2,v3,v4,v5,v6,v7,v8,v9,.int .i64 (es.length:Int),.int .i64 (pre.length:Int),v12,v13] [] h'=aq (aj Try.prog po) 14 K [.ptr b 0 0,v1,v2,v3,v4,v5,v6,w7,v8,v9,.int .i64 (es.length:Int),w11,.bool false,w13] [] h'')∧St h0 F0 J0 h'' (L.set i (waA b hb (r.foldl WaD.see W))):=by
 intro r
 induction r with
 | nil=>
   intro pre h' W v1 v2 v3 v4 v5 v6 v7 v8 v12 v13 e hg hl s
   have d1:decide ((pre.length:Int)<(es.length:Int))=false:=decide_eq_false (by rw[e];simp)
   refine⟨h',v7,.int .i64 (pre.length:Int),v13,fun K=> ?_,s⟩
   rw[aG gk.eq_1]
   simp only[sim,ag,Nat.reduceAdd,Nat.reduceSub,List.replicate,reduceCtorEq,Nat.reduceLeDiff,Nat.reduceLT,aa,d1]
 | cons y r ih=>
   intro pre h' W v1 v2 v3 v4 v5 v6 v7 v8 v12 v13 e hg hl s
   have hpl:pre.length<es.length:=by rw[e];simp
   have d1:decide ((pre.length:Int)<(es.length:Int))=true:=decide_eq_true (by omega)
   have ix:=hv.ix .i64 pre.length (cV y) (by rw[e];simp)
   have w1:=w64 (n:=(pre.length:Int)+1) (by omega) (by omega)
   have ek:((pre++[y]).length:Int)=(pre.length:Int)+1:=by simp
   have la:ldA true 4 (cV y) 0=some (.agg (cV y)):=bv rfl
   have s1:=s.push [cV y]
   have hi:(ai h'.n [cV y]::L.set i (waA b hb W))[i+1]? =some (waA b hb W):=by
    rw[List.getElem?_cons_succ,List.getElem?_set_self hil]
   have my:=ql s1 (i+1) hi hg hl y.plugin y.cell y.right
   obtain⟨gv,lv,wv⟩:=gz s1 (i+1) hi
   have pg:∀ z,(h'.push z).cell h'.n=some z:=fun z=>aE
   have ps:∀ y z,(h'.push y).set h'.n (some z)=h'.push z:=fun y z=>bp
   have f3:aH 3 (.ptr b 0 0)=some (.ptr b 0 3):=rfl
   have f3':aH 0 (.ptr b 0 3)=some (.ptr b 0 3):=rfl
   have f5:aH 5 (.ptr b 0 0)=some (.ptr b 0 5):=rfl
   have wc:=wv.c
   obtain⟨z1,z2,z3,_⟩:=zw W y
   -- what comes of it
   have go:∀ (hh:AH) (w13:AV),St h0 F0 J0 hh (L.set i (waA b hb (W.see y)))→∃ h'' w7 w11 w13',(∀ K,aq (aj Try.prog po) 14 (.lp gk:: .ss []:: .blk 0::K) [.ptr b 0 0,v1,v2,v3,v4,v5,v6,.ptr h'.n 0 0,v8,v9,.int .i64 (es.length:Int),.int .i64 ((pre.length:Int)+1),.bool true,w13] [] hh=aq (aj Try.prog po) 14 K [.ptr b 0 0,v1,v2,v3,v4,v5,v6,w7,v8,v9,.int .i64 (es.length:Int),w11,.bool false,w13'] [] h'')∧St h0 F0 J0 h'' (L.set i (waA b hb ((y::r).foldl WaD.see W))):=fun hh w13 sh=>by
    obtain⟨h'',w7,w11,w13',r1,s2⟩:=ih (pre++[y]) hh (W.see y) v1 v2 v3 v4 v5 v6 (.ptr h'.n 0 0) v8 (.bool true) w13 (by simp[e]) (by rw[z1];exact hg) (by rw[z2];exact hl) sh
    exact⟨h'',w7,w11,w13',fun K=>by rw[←r1 K,ek],s2⟩
   simp only[cV]at ix la my wc
   by_cases hc:W.code=0
   ·have dc:decide (W.code=0)=true:=decide_eq_true hc
    cases hm:AR W.gifts W.links y.plugin y.cell y.right with
    | true=>
      rw[hm]at my
      have hs:W.see y=W:=by unfold WaD.see;rw[if_neg (by simp[hm])]
      obtain⟨h'',w7,w11,w13',r1,s2⟩:=go (h'.push [cV y]) (.bool false) (by rw[hs];exact s1.drop)
      refine⟨h'',w7,w11,w13',fun K=> ?_,s2⟩
      rw[←r1 K]
      simp only[cV]
      conv=>lhs;rw[aG gk.eq_1]
      simp only[sim,ag,Nat.reduceAdd,Nat.reduceSub,List.replicate,reduceCtorEq,Nat.reduceLeDiff,Nat.reduceLT,aa,d1,ix,la,pg,ps,f3,f3',wc,dc,my,w1]
    | false=>
      rw[hm]at my
      have hs:W.see y={W with code:=14,at_:=W.n}:=by unfold WaD.see;rw[if_pos ⟨hc,hm⟩]
      have s3:=sb s1 (i+1) hi 14 W.n W.n (row:=[]) wv
      have s3:St h0 F0 J0 _ (ai h'.n [cV y]::(L.set i (waA b hb W)).set i (dB b hb W.gifts W.links 14 W.n W.n)):=s3
      rw[List.set_set]at s3
      obtain⟨h'',w7,w11,w13',r1,s2⟩:=go _ (.bool true) (by rw[hs];exact s3.drop)
      refine⟨h'',w7,w11,w13',fun K=> ?_,s2⟩
      rw[←r1 K]
      simp only[cV]
      conv=>lhs;rw[aG gk.eq_1]
      simp only[sim,ag,Nat.reduceAdd,Nat.reduceSub,List.replicate,reduceCtorEq,Nat.reduceLeDiff,Nat.reduceLT,aa,d1,ix,la,pg,ps,f3,f3',f5,wc,dc,my,w1]
   ·have dc:decide (W.code=0)=false:=decide_eq_false hc
    have hs:W.see y=W:=by unfold WaD.see;rw[if_neg (fun h=>hc h.1)]
    obtain⟨h'',w7,w11,w13',r1,s2⟩:=go (h'.push [cV y]) (.bool false) (by rw[hs];exact s1.drop)
    refine⟨h'',w7,w11,w13',fun K=> ?_,s2⟩
    rw[←r1 K]
    simp only[cV]
    conv=>lhs;rw[aG gk.eq_1]
    simp only[sim,ag,Nat.reduceAdd,Nat.reduceSub,List.replicate,reduceCtorEq,Nat.reduceLeDiff,Nat.reduceLT,aa,d1,ix,la,pg,ps,f3,f3',wc,dc,w1]
end
section
variable {h h' h0:AH} {F J F0 J0:Nat→Prop} {A B:List Asn} {c:WaC} {W:WaD}
abbrev wdL (n0:Nat) (y:cr) (m:AV) (c:WaC) (W:WaD):List Asn:=[ai (n0+1+1) [[.int .i64 0,.int .i64 0]],ai (n0+1) [evR 0 0 zR3],ai n0 [aO y m]]++dN c W
structure Pa (h:AH) (c:WaC):Prop where
 w:aC false 1 h (.ptr c.wt 0 0)=some (.ptr c.hb 0 0)
 b:aC false 1 h (.ptr c.hb 0 0)=some (.ptr c.bb 0 0)
 d:aC false 1 h (.ptr c.bb 0 1)=some (.ptr c.wb 0 0)
 g:aC false 1 h (.ptr c.bb 0 0)=some (.ptr c.gb 0 0)
theorem D7 (s:St h0 F0 J0 h B) (i:Nat) (o:OkH W.H) (h1:B[i]? =some (waA c.wt c.hb W)) (h2:B[i+1]? =some (db c.hb c.bb W.H.hands)) (h3:B[i+1+1]? =some (dx c.bb c.gb c.wb W.H.ms W.H.S.kept)):Pa h c:=by
 obtain⟨gv,lv,wv⟩:=gz s i h1
 obtain⟨vs,hv⟩:=ej s (i+1) h2
 have bg:=jV s h3 o.len
 exact⟨by rw[bB,wv.c];rfl,hv.box 1,bg.2 1,bg.1 1⟩
theorem OkW.step {k:Nat} (o:OkW k W) (x:cr):OkW (k+1) (W.step x).1:=by
 have hn:∀ W1:WaD,(W1.note x).gifts.length≤W1.gifts.length+1∧(W1.note x).links.length≤W1.links.length+1∧(W1.note x).n=W1.n∧(W1.note x).H=W1.H:=fun W1=>by
  unfold WaD.note
  split
  ·exact⟨by simp,by simp,rfl,rfl⟩
  ·split
   ·exact⟨by simp,by simp,rfl,rfl⟩
   ·exact⟨by omega,by omega,rfl,rfl⟩
 have h2:∀ W2:WaD,W2.gifts.length≤k+1→W2.links.length≤k+1→W2.n=(k:Int)→yI (k+1) W2.H→∀ l:List cD,OkW (k+1) {(l.foldl WaD.see W2)with n:=(l.foldl WaD.see W2).n+1}:=fun W2 a1 a2 a3 a4 l=>by
  obtain⟨b1,b2,b3,b4⟩:=mf l W2
  exact⟨by rw[b4];exact a4,by rw[b1];exact a1,by rw[b2];exact a2,by show(l.foldl WaD.see W2).n+1=_;rw[b3,a3];omega⟩
 unfold WaD.step
 simp only
 have o1:=o.h.step x
 have og:=o.g
 have ol:=o.l
 obtain⟨c1,c2,c3,c4⟩:=hn {W with H:=(W.H.step x).1}
 refine h2 _ ?_ ?_ ?_ ?_ _
 ·split
  ·exact Nat.le_trans c1 (Nat.succ_le_succ og)
  ·exact Nat.le_trans og (Nat.le_succ _)
 ·split
  ·exact Nat.le_trans c2 (Nat.succ_le_succ ol)
  ·exact Nat.le_trans ol (Nat.le_succ _)
 ·split
  ·rw[c3];exact o.n
  ·exact o.n
 ·split
  ·rw[c4];exact o1
  ·exact o1
set_option maxHeartbeats 4000000 in
theorem JL {k:Nat} (x:(aY (dN c W)).A h F J) (o:OkW k W) (hk:k≤190) (y:cr) {m:AV} {es:List (List AV)} (q3:SlA tE m es) (q4:ExL y.m es) (hL:y.m.length≤100000) (hs:∀ x∈y.m,x.size≤100000):
  ∃ h',(∃ r,aj Try.prog po 36 [.ptr c.wt 0 0,.agg (aO y m)] h=some (.inl (.tup [.agg r,.agg [.int .i64 (W.step y).2.2.1,.int .i64 (W.step y).2.2.2]]),h')∧EvR (W.step y).2.1 r)∧Did h F J h' (aY (dN c (W.step y).1)):=by
 have s0:St h F J h (dN c W):=St.start x
 have s1:=s0.push [aO y m]
 have s2:=s1.push [evR 0 0 zR3]
 have s3:St h F J _ (wdL h.n y m c W):=s2.push [[.int .i64 0,.int .i64 0]]
 have hm:m.one=true:=(fR.of (h:=h) q3 q4).one
 have oh:=o.h.ok (by omega)
 have c3:=(s3.cell 2 rfl).1
 have p3:=D7 s3 3 oh rfl rfl rfl
 have t3:=(Jb (c:=c.toHoC) s3 4 oh rfl rfl rfl rfl).lo
 have fw:∀ b,aH 0 (.ptr b 0 0)=some (.ptr b 0 0):=fun _=>rfl
 have fb:aH 1 (.ptr c.bb 0 0)=some (.ptr c.bb 0 1):=rfl
 have f5:aH 5 (.ptr c.wt 0 0)=some (.ptr c.wt 0 5):=rfl
 have f3:aH 3 (.ptr c.wt 0 0)=some (.ptr c.wt 0 3):=rfl
 have nl3:=ii tEn (W.H.S.log.map cV)
 obtain⟨h4,r4,e4,v4,s4⟩:=MN (A:=[ai (h.n+1+1) [[.int .i64 0,.int .i64 0]],ai (h.n+1) [evR 0 0 zR3],ai h.n [aO y m],waA c.wt c.hb W]) (B:=[]) (c:=c.toHoC) s3 oh y q3 q4 hL hs
 have s4:St h F J h4 (wdL h.n y m c {W with H:=(W.H.step y).1}):=s4
 have o4:=(o.h.step y).ok (by omega)
 have s5:=s4.push [evR 0 0 zR3]
 have s6:=s4.push [r4]
 have p5:=D7 s5 4 o4 rfl rfl rfl
 have c5:=(s5.cell 3 rfl).1
 have c6:=(s6.cell 3 rfl).1
 have c60:=(s6.cell 0 rfl).1
 obtain⟨z1,z2⟩:=v4.all
 have pg:∀ z,(h4.push z).cell h4.n=some z:=fun z=>aE
 have ps:∀ y z,(h4.push y).set h4.n (some z)=h4.push z:=fun y z=>bp
 have la:ldA true 9 (aO y m) 0=some (.agg (aO y m)):=bv rfl
 obtain⟨ext,hext⟩:=Ex W.H y
 -- what was given is noted
 obtain⟨h7,e7,s7⟩:∃ h7,((W.H.step y).2.code=0→aj Try.prog po 65 [.ptr c.wt 0 0,.agg (aO y m)] (h4.push [r4])=some (.inl (.tup []),h7))∧((W.H.step y).2.code≠0→h7=h4.push [r4])∧St h F J h7 (ai h4.n [r4]::wdL h.n y m c (if(W.H.step y).2.code=0 then({W with H:=(W.H.step y).1}:WaD).note y else{W with H:=(W.H.step y).1})):=by
  by_cases hz:(W.H.step y).2.code=0
  ·have og:=o.g
   have ol:=o.l
   obtain⟨h7,e7,s7⟩:=Fv s6 4 rfl (by show W.gifts.length≤1000;omega) (by show W.links.length≤1000;omega) y hm
   refine⟨h7,fun _=>e7,fun h=>absurd hz h,?_⟩
   rw[if_pos hz]
   have en:({W with H:=(W.H.step y).1}:WaD).note y={W with H:=(W.H.step y).1,gifts:=if y.kind=2 then W.gifts++[⟨y.p,y.k,y.r⟩]else W.gifts,links:=if y.kind=2 then W.links else if y.kind=3 then W.links++[(y.p,y.q)]else W.links}:=by
    unfold WaD.note
    by_cases k2:y.kind=2
    ·simp only[if_pos k2]
    ·simp only[if_neg k2]
     by_cases k3:y.kind=3
     ·simp only[if_pos k3]
     ·simp only[if_neg k3]
   rw[en]
   exact s7
  ·refine⟨h4.push [r4],fun h=>absurd h hz,fun _=>rfl,?_⟩
   rw[if_neg hz]
   exact s6
 obtain⟨e7n,s7⟩:=s7
 have eW:W.step y=({(((W.H.step y).1.S.log.drop W.H.S.log.length).foldl WaD.see (if(W.H.step y).2.code=0 then({W with H:=(W.H.step y).1}:WaD).note y else{W with H:=(W.H.step y).1}))with n:=(((W.H.step y).1.S.log.drop W.H.S.log.length).foldl WaD.see (if(W.H.step y).2.code=0 then({W with H:=(W.H.step y).1}:WaD).note y else{W with H:=(W.H.step y).1})).n+1},(W.H.step y).2,(((W.H.step y).1.S.log.drop W.H.S.log.length).foldl WaD.see (if(W.H.step y).2.code=0 then({W with H:=(W.H.step y).1}:WaD).note y else{W with H:=(W.H.step y).1})).code,(((W.H.step y).1.S.log.drop W.H.S.log.length).foldl WaD.see (if(W.H.step y).2.code=0 then({W with H:=(W.H.step y).1}:WaD).note y else{W with H:=(W.H.step y).1})).at_):=rfl
 have hW2:(if(W.H.step y).2.code=0 then({W with H:=(W.H.step y).1}:WaD).note y else{W with H:=(W.H.step y).1}).H=(W.H.step y).1∧(if(W.H.step y).2.code=0 then({W with H:=(W.H.step y).1}:WaD).note y else{W with H:=(W.H.step y).1}).gifts.length≤200∧(if(W.H.step y).2.code=0 then({W with H:=(W.H.step y).1}:WaD).note y else{W with H:=(W.H.step y).1}).links.length≤200:=by
  have og:=o.g
  have ol:=o.l
  split
  ·unfold WaD.note
   split
   ·exact⟨rfl,by simp;omega,by show W.links.length≤200;omega⟩
   ·split
    ·exact⟨rfl,by show W.gifts.length≤200;omega,by simp;omega⟩
    ·exact⟨rfl,by show W.gifts.length≤200;omega,by show W.links.length≤200;omega⟩
  ·exact⟨rfl,by show W.gifts.length≤200;omega,by show W.links.length≤200;omega⟩
 have hWn:(if(W.H.step y).2.code=0 then({W with H:=(W.H.step y).1}:WaD).note y else{W with H:=(W.H.step y).1}).n=W.n:=by
  split
  ·unfold WaD.note
   split
   ·rfl
   ·split<;>rfl
  ·rfl
 generalize (if(W.H.step y).2.code=0 then({W with H:=(W.H.step y).1}:WaD).note y else{W with H:=(W.H.step y).1})=W2 at s7 eW hW2 hWn
 obtain⟨hH,hg2,hl2⟩:=hW2
 have s7':St h F J h7 ([ai h4.n [r4],ai (h.n+1+1) [[.int .i64 0,.int .i64 0]],ai (h.n+1) [evR 0 0 zR3],ai h.n [aO y m]]++dN c W2):=s7
 have o7:OkH W2.H:=by rw[hH];exact o4
 have p7:=D7 s7' 4 o7 rfl rfl rfl
 have t7:=(Jb (c:=c.toHoC) s7' 5 o7 rfl rfl rfl rfl).lo
 rw[hH]at t7
 have nl7:=ii tEn ((W.H.step y).1.S.log.map cV)
 obtain⟨v9,u1,u2⟩:=Pp (e:=tEn) (rows:=(W.H.step y).1.S.log.map cV) (k:=W.H.S.log.length) (by rw[←hext];simp)
 rw[←List.map_drop]at u2
 have hdl:((W.H.step y).1.S.log.drop W.H.S.log.length).length≤1000000:=by have:=o4.log;rw[List.length_drop];omega
 obtain⟨h8,w7,w11,w13,r8,s8⟩:=I4 (L:=[ai h4.n [r4],ai (h.n+1+1) [[.int .i64 0,.int .i64 0]],ai (h.n+1) [evR 0 0 zR3],ai h.n [aO y m]]++dN c W2) (i:=4) (b:=c.wt) (hb:=c.hb) (show 4<9 by decide) u2 hdl ((W.H.step y).1.S.log.drop W.H.S.log.length) [] h7 W2 (.agg (aO y m)) (.ptr h.n 0 0) (.ptr (h.n+1) 0 0) (.ptr (h.n+1+1) 0 0) (.int .i64 (W.H.S.log.length:Int)) (.ptr h4.n 0 0) .junk (.bool (decide ((W.H.step y).2.code=0))) .junk .junk rfl hg2 hl2 s7'
 have s8:St h F J h8 ([ai h4.n [r4],ai (h.n+1+1) [[.int .i64 0,.int .i64 0]],ai (h.n+1) [evR 0 0 zR3],ai h.n [aO y m],waA c.wt c.hb (((W.H.step y).1.S.log.drop W.H.S.log.length).foldl WaD.see W2)]++di c.toHoC W2.H):=s8
 obtain⟨b1,b2,b3,b4⟩:=mf ((W.H.step y).1.S.log.drop W.H.S.log.length) W2
 rw[eW]
 generalize ((W.H.step y).1.S.log.drop W.H.S.log.length).foldl WaD.see W2=W8 at s8 b1 b2 b3 b4 ⊢
 obtain⟨gv,lv,wv⟩:=gz s8 4 rfl
 have hn8:W8.n=(k:Int):=by rw[b3,hWn,o.n]
 have w1:=w64 (n:=W8.n+1) (by omega) (by omega)
 have s9:=sb s8 4 rfl W8.code W8.at_ (W8.n+1) (row:=[]) wv
 have s9:St h F J _ ([ai h4.n [r4],ai (h.n+1+1) [[.int .i64 0,.int .i64 0]],ai (h.n+1) [evR 0 0 zR3],ai h.n [aO y m],dB c.wt c.hb W8.gifts W8.links W8.code W8.at_ (W8.n+1)]++di c.toHoC W2.H):=s9
 have c90:=(s9.cell 0 rfl).1
 have c92:=(s9.cell 2 rfl).1
 have s10:=s9.set 2 rfl [r4]
 have c10:=(s10.cell 1 rfl).1
 obtain⟨gv2,lv2,wv10⟩:=gz s10 4 rfl
 have c10w:=wv10.c
 have s11:=s10.set 1 rfl [[.int .i64 W8.code,.int .i64 W8.at_]]
 have c112:=(s11.cell 2 rfl).1
 have lf:∀ gv lv n,ldA true 2 [.ptr c.hb 0 0,gv,lv,.int .i64 W8.code,.int .i64 W8.at_,.int .i64 n] 3=some (.agg [.int .i64 W8.code,.int .i64 W8.at_]):=fun _ _ _=>rfl
 have lr:ldA true 5 r4 0=some (.agg r4):=bv z1
 obtain⟨q4',rq,vq⟩:=v4
 have s12:=s11.drop.drop.drop.drop
 rw[←b4]at s12
 refine⟨_,⟨r4,?_,⟨q4',rq,vq⟩⟩,s12⟩
 have lc:r4[0]? =some (.int .i64 (W.H.step y).2.code):=by rw[rq];rfl
 have wvc:=wv.c
 simp only[List.length_nil,Int.natCast_zero]at r8
 obtain⟨p3w,p3b,p3d,_⟩:=p3
 obtain⟨p5w,p5b,p5d,_⟩:=p5
 obtain⟨p7w,p7b,p7d,_⟩:=p7
 simp only[aO]at c3 p3w p3b p3d t3 e4 c5 c6 la e7 r8
 cases dz:decide ((W.H.step y).2.code=0)with
 | true=>
   have e7:=e7 (of_decide_eq_true dz)
   rw[dz]at r8
   refine ah G4 rfl ?_;unfold Bs
   simp only[sim,ag,Nat.reduceAdd,Nat.reduceSub,List.replicate,reduceCtorEq,Nat.reduceLeDiff,Nat.reduceLT,aa,az,aO,hm,fw,fb,p3w,p3b,p3d,t3,nl3.len,nl3.fits,List.length_map,c3,la,e4,pg,ps,p5w,c5,z1,z2,c60,c6,lc,dz,e7,p7w,p7b,p7d,t7,nl7.fits,u1,u2.len,u2.fits]
   rw[r8]
   simp only[sim,ag,Nat.reduceAdd,Nat.reduceSub,List.replicate,reduceCtorEq,Nat.reduceLeDiff,Nat.reduceLT,aa,f3,f5,wvc,w1,aQ,c90,c92,lr,lf,z1,z2,c10,c10w,c112]
 | false=>
   have e7:=e7n (of_decide_eq_false dz)
   rw[dz]at r8
   subst e7
   refine ah G4 rfl ?_;unfold Bs
   simp only[sim,ag,Nat.reduceAdd,Nat.reduceSub,List.replicate,reduceCtorEq,Nat.reduceLeDiff,Nat.reduceLT,aa,az,aO,hm,fw,fb,p3w,p3b,p3d,t3,nl3.len,nl3.fits,List.length_map,c3,la,e4,pg,ps,p5w,c5,z1,z2,c60,c6,lc,dz,p7w,p7b,p7d,t7,nl7.fits,u1,u2.len,u2.fits]
   rw[r8]
   simp only[sim,ag,Nat.reduceAdd,Nat.reduceSub,List.replicate,reduceCtorEq,Nat.reduceLeDiff,Nat.reduceLT,aa,f3,f5,wvc,w1,aQ,c90,c92,lr,lf,z1,z2,c10,c10w,c112]
end
theorem wC:OkW 0 wa0:=⟨My,by simp[wa0],by simp[wa0],rfl⟩
theorem KQ (W:WaD) (x:cr):(W.step x).1.H=(W.H.step x).1∧(W.step x).2.1=(W.H.step x).2:=by
 unfold WaD.step
 refine⟨?_,rfl⟩
 simp only
 rw[(mf _ _).2.2.2]
 split
 ·unfold WaD.note
  split
  ·rfl
  ·split<;>rfl
 ·rfl
def wb1:cr:=⟨2,1,0,3,0,1, -1,0,[]⟩
def WB1:WaD:=(wa0.step wb1).1
theorem NW:WB1.gifts=[⟨1,3,1⟩]∧WB1.links=[]:=by constructor<;>rfl
theorem N8:AR [⟨1,3,1⟩] [] 1 3 1=true:=by decide
theorem NR:AR [⟨1,3,1⟩] [] 1 3 2=false:=by decide
theorem NP:AR [⟨1,3,1⟩] [] 0 3 1=false:=by decide
theorem Ph:WB1.H.handO 1=[fS 0]:=by rfl
section
variable {h h' h0:AH} {F J F0 J0:Nat→Prop} {L A B:List Asn} {c:WaC} {W:WaD}
theorem zU {e:TypeId}:(gP e .nils []).A h (fun _=>False) (fun _=>False):= .inl ⟨⟨rfl,rfl⟩,fun _ h=>h,fun _ h=>h⟩
theorem Eb {b hb:Nat} (he:b=h.n):(dB b hb [] [] 0 0 0).A (h.push [[.ptr hb 0 0,.nils,.nils,.int .i64 0,.int .i64 0,.int .i64 0]]) (fun k=>k=b) (fun _=>False):=by
 subst he
 refine⟨(.nils,.nils),fun k=>k=h.n,fun _=>False,fun _=>False,fun _=>False,⟨fun _=>Iff.rfl,fun _ h=>h,Nat.lt_succ_self _,aE⟩,⟨fun _=>False,fun _=>False,fun _=>False,fun _=>False,zU,zU,fun k=>by simp,fun j=>by simp,fun _ h=>h.elim,fun _ h=>h.elim⟩,fun k=>by simp,fun j=>by simp,fun _ _ h=>h,fun _ h=>h.elim⟩
theorem zF (s:St h0 F0 J0 h L):∃ h' c,aj Try.prog po 35 [] h=some (.inl (.ptr (c:WaC).wt 0 0),h')∧St h0 F0 J0 h' (dN c wa0++L):=by
 obtain⟨h1,c,e1,s1⟩:=K5 s
 have s2:=s1.add (X:=dB h1.n c.hb [] [] 0 0 0) (h':=h1.push [[.ptr c.hb 0 0,.nils,.nils,.int .i64 0,.int .i64 0,.int .i64 0]]) (F1:=fun k=>k=h1.n) (J1:=fun _=>False) (af.push _ _) (Eb rfl) (fun k hk=>Nat.le_of_eq hk.symm) (fun _ h=>h.elim)
 refine⟨_,⟨c,h1.n⟩,?_,s2⟩
 refine ah Ia rfl ?_;unfold z8
 simp only[sim,ag,Nat.reduceAdd,Nat.reduceSub,List.replicate,reduceCtorEq,Nat.reduceLeDiff,Nat.reduceLT,aa,e1]
theorem AK {k:Nat} (s:St h0 F0 J0 h (A++dN c W++B)) (o:OkW k W) (hk:k≤190) (y:cr) {m:AV} {es:List (List AV)} (q3:SlA tE m es) (q4:ExL y.m es) (hL:y.m.length≤100000) (hs:∀ x∈y.m,x.size≤100000):
  ∃ h' r,aj Try.prog po 36 [.ptr c.wt 0 0,.agg (aO y m)] h=some (.inl (.tup [.agg r,.agg [.int .i64 (W.step y).2.2.1,.int .i64 (W.step y).2.2.2]]),h')∧EvR (W.step y).2.1 r∧St h0 F0 J0 h' (A++dN c (W.step y).1++B):=by
 obtain⟨h',⟨r,e,v⟩,s'⟩:=s.callL (M':=dN c (W.step y).1) fun F J x=>JL x o hk y q3 q4 hL hs
 exact⟨h',r,e,v,s'⟩
theorem pZ {j:Nat} {y:List (List AV)} {z:Option (List (List AV))} (hj:j<h.n):(h.push y).set j z=(h.set j z).push y:=by
 unfold AH.push AH.set
 congr 1
 funext k
 by_cases h1:k=j
 ·subst h1
  have h2:k≠h.n:=by omega
  simp[h2]
 ·simp[h1]
theorem i8:aj Try.prog po 34 [] h=some (.inl (.bool true),h):=by
 have s0:St h (fun _=>False) (fun _=>False) h []:=St.start (aY.nil _ _ _ (fun _ h=>h) (fun _ h=>h))
 obtain⟨h1,c,e1,s1⟩:=zF s0
 obtain⟨h3,r3,e3,v3,s3⟩:=AK (A:=[]) (B:=[]) (c:=c) s1 wC (by decide) wb1 (m:= .nils) (.inl ⟨rfl,rfl⟩) rfl (by decide) (fun x hx=>by cases hx)
 obtain⟨q3,rfl,w3⟩:=v3
 have w3':VaA (fS 0) q3:=w3
 obtain⟨u3,rfl,u3o⟩:=w3'.cells3
 have e3:aj Try.prog po 36 [.ptr c.wt 0 0,.agg [.int .i64 2,.int .i64 1,.int .i64 0,.int .i64 3,.int .i64 0,.int .i64 1,.int .i64 (-1),.int .i64 0,.nils]] h1=some (.inl (.tup [.agg [.int .i64 0,.int .i64 0,.int .i64 4,.int .i64 0,u3],.agg [.int .i64 0,.int .i64 0]]),h3):=e3
 have s4:St h (fun _=>False) (fun _=>False) h3 (dN c WB1):=s3
 have s5:=(s4.push [[.int .i64 0,.int .i64 0,.int .i64 4,.int .i64 0,u3]]).push [[.int .i64 0,.int .i64 0]]
 have o1:OkW 1 WB1:=wC.step wb1
 have m1:=ql s5 2 rfl (by decide) (by decide) 1 3 1
 have m2:=ql s5 2 rfl (by decide) (by decide) 1 3 2
 have m3:=ql s5 2 rfl (by decide) (by decide) 0 3 1
 rw[NW.1,NW.2]at m1 m2 m3
 rw[N8]at m1
 rw[NR]at m2
 rw[NP]at m3
 have c0:=(s5.cell 0 rfl).1
 have c1:=(s5.cell 1 rfl).1
 obtain⟨hv,hes,e9,sl,vl⟩:=Hz s5 3 rfl o1.h.good.hands (fun l hl=>by have:=o1.h.hands l hl;omega) 1
 rw[Ph]at vl
 have hlen:hes.length=1:=vl.len
 have ll:=sl.isL.len
 have lf:=sl.isL.fits
 rw[hlen]at ll
 have pw:=D7 s5 2 (o1.h.ok (by decide)) rfl rfl rfl
 have pww:=pw.w
 have fw:∀ b,aH 0 (.ptr b 0 0)=some (.ptr b 0 0):=fun _=>rfl
 have p0:∀ x y,(h3.push x).push y=(h3.push x).push y:=fun _ _=>rfl
 have q1:∀ x y z,(((h3.push x).push y).set h3.n (some z))=(h3.push z).push y:=fun x y z=>by rw[pZ (Nat.lt_succ_self _),bp]
 have q2:∀ x y z,(((h3.push x).push y).set (h3.n+1) (some z))=(h3.push x).push z:=fun x y z=>bp (h:=h3.push x)
 have q3':∀ x y,((h3.push x).push y).cell h3.n=some x:=fun x y=>gA
 have q4:∀ x y,((h3.push x).push y).cell (h3.n+1)=some y:=fun x y=>cj
 have g5:=s5.grewA
 clear s1 s3 s4 s5
 refine ah tC rfl ?_;unfold mG
 simp only[sim,ag,Nat.reduceAdd,Nat.reduceSub,List.replicate,reduceCtorEq,Nat.reduceLeDiff,Nat.reduceLT,aa,az,e1,e3,q1,q2,q3',q4,u3o,c0,c1,m1,m2,m3,fw,pww,e9,ll,lf,Int.natCast_one,eq_self,decide_true]
 exact aD g5 rfl
end
structure lJ (D:Int→Prop) (A:ae→Int→Int→Prop) (I:ae→Prop):Prop where
 pos:∀ p,D p→0≤p
 wf:∀ G,I G→G.Wf
 has:∀ G p n,I G→A G p n→G.has n=true
 mono:∀ G G' p n,I G→I G'→G.Later G'→A G p n→A G' p n
 gate:∀ G,I G→I G.gate.1
 cut:∀ G k,I G→I (G.cut k).1
 inv:∀ G n r g,I G→I (G.derive n r g).1
 der:∀ G p n r g,D p→I G→A G p n→(G.derive n r g).2.2=0→A (G.derive n r g).1 p (G.derive n r g).2.1
 ask:∀ G p n,D p→I G→A G p n→eB (G.rights n) 3=true→¬ (G.target n).1.plugin<0→D (G.target n).1.plugin
 give:∀ G p n m,D p→D (G.target n).1.plugin→I G→A G p n→¬ (G.target n).1.plugin<0→A G p m→(cz (G.gatesC n) G m).2.2=0→A (cz (G.gatesC n) G m).1 (G.target n).1.plugin (cz (G.gatesC n) G m).2.1
 take:∀ G p n m,D p→D (G.target n).1.plugin→I G→A G p n→¬ (G.target n).1.plugin<0→A G (G.target n).1.plugin m→(cz (G.gatesC n) G m).2.2=0→A (cz (G.gatesC n) G m).1 p (cz (G.gatesC n) G m).2.1
def Hv (A:ae→Int→Int→Prop) (G:ae) (p:Int) (v:VD):Prop:=∀ n∈v.caps,A G p n
def Cg (A:ae→Int→Int→Prop) (G:ae) (e:cD):Prop:=A G e.plugin e.node∧(G.target e.node).1.plugin<0∧e.cell=(G.target e.node).1.cell∧(e.right=1∧eB (G.rights e.node) 0=true∨e.right=2∧eB (G.rights e.node) 1=true)
def dU (D:Int→Prop) (A:ae→Int→Int→Prop) (S:StD):Prop:=∀ p,D p→Hv A S.G p (S.kept.getD p.toNat au)
structure bC {α:Type} (D:Int→Prop) (A:ae→Int→Int→Prop) (I:ae→Prop) (S:StD) (P:ae→α→Prop) (q:StD×α×Int):Prop where
 inv:I q.1.G
 later:S.G.Later q.1.G
 kept:dU D A q.1
 val:q.2.2=0→P q.1.G q.2.1
 log:∃ ext,q.1.log=S.log++ext∧∀ e∈ext,D e.plugin∧∃ G0,I G0∧G0.Later q.1.G∧Cg A G0 e
section
variable {D:Int→Prop} {A:ae→Int→Int→Prop} {I:ae→Prop}
theorem iL (G:ae):G.Later G.gate.1:=by
 have:=G.step_later ⟨0,0,0,0,0⟩
 exact this
theorem l6 (G:ae) (k:Int):G.Later (G.cut k).1:=by
 have:=G.step_later ⟨1,k,0,0,0⟩
 exact this
theorem eN (G:ae) (n r g:Int):G.Later (G.derive n r g).1:=by
 have:=G.step_later ⟨4,n,r,g,0⟩
 exact this
theorem vk:au.caps=[]:=by rfl
theorem GX (n:Int):(gJ n).caps=[]:=by rfl
theorem Hv.zero {G:ae} {p:Int}:Hv A G p au:=fun n hn=>by rw[vk]at hn;cases hn
theorem Hv.int {G:ae} {p n:Int}:Hv A G p (gJ n):=fun m hm=>by rw[GX]at hm;cases hm
theorem Hv.cap {G:ae} {p n:Int} (h:A G p n):Hv A G p (fS n):=fun m hm=>by
 have:m=n:=by simpa[fS,VD.caps,dC]using hm
 rw[this];exact h
theorem iV:∀ {l:List VD} {n:Int},n∈dC l↔∃ v∈l,n∈v.caps
 | [],n=>by simp[dC]
 | x::l,n=>by
   have ih:=iV (l:=l) (n:=n)
   simp only[dC,List.mem_append,List.mem_cons,exists_eq_or_imp,ih]
theorem Hv.part {G:ae} {p:Int} {v:VD} (h:Hv A G p v) (i:Nat):Hv A G p (v.l.getD i au):=by
 by_cases hi:i<v.l.length
 ·intro n hn
  rw[List.getD,List.getElem?_eq_getElem hi,Option.getD_some]at hn
  refine h n ?_
  rw[VD.caps_eq]
  exact List.mem_append_right _ (iV.2 ⟨_,List.getElem_mem hi,hn⟩)
 ·rw[List.getD,List.getElem?_eq_none (by omega),Option.getD_none]
  exact Hv.zero
theorem Hv.getD {G:ae} {p:Int} {l:List VD} (h:∀ v∈l,Hv A G p v) (i:Nat):Hv A G p (l.getD i au):=by
 by_cases hi:i<l.length
 ·rw[List.getD,List.getElem?_eq_getElem hi,Option.getD_some]
  exact h _ (List.getElem_mem hi)
 ·rw[List.getD,List.getElem?_eq_none (by omega),Option.getD_none]
  exact Hv.zero
theorem Hv.mk {G:ae} {p k n:Int} {l:List VD} (hk:k≠4) (h:∀ v∈l,Hv A G p v):Hv A G p (.mk k n l):=by
 intro m hm
 rw[VD.caps_eq]at hm
 have e:(VD.mk k n l).kind=k:=rfl
 rw[e,if_neg hk,List.nil_append]at hm
 obtain⟨v,hv,hm⟩:=iV.1 hm
 exact h v hv m hm
theorem Hv.mono (H:lJ D A I) {G G':ae} {p:Int} {v:VD} (hI:I G) (hI':I G') (l:G.Later G') (h:Hv A G p v):Hv A G' p v:=fun n hn=>H.mono G G' p n hI hI' l (h n hn)
theorem dU.mono (H:lJ D A I) {S:StD} {G':ae} (hI:I S.G) (hI':I G') (l:S.G.Later G') (h:dU D A S):dU D A {S with G:=G'}:=fun p hp=>(h p hp).mono H hI hI' l
theorem bC.same {α:Type} {P:ae→α→Prop} (H:lJ D A I) {S:StD} (hI:I S.G) (k:dU D A S) {G':ae} (hI':I G') (l:S.G.Later G') {v:α} {c:Int} (hv:c=0→P G' v):bC D A I S P ({S with G:=G'},v,c):=
 ⟨hI',l,k.mono H hI hI' l,hv,[],by simp,fun e he=>by cases he⟩
theorem bC.trans {α β:Type} {P:ae→α→Prop} {Q:ae→β→Prop} {S:StD} {q:StD×α×Int} {q':StD×β×Int} (h:bC D A I S P q) (h':bC D A I q.1 Q q'):bC D A I S Q q':=by
 obtain⟨e1,l1,m1⟩:=h.log
 obtain⟨e2,l2,m2⟩:=h'.log
 refine⟨h'.inv,h.later.trans h'.later,h'.kept,h'.val,e1++e2,by rw[l2,l1,List.append_assoc],fun e he=> ?_⟩
 rcases List.mem_append.1 he with he | he
 ·obtain⟨d,G0,a,b,c⟩:=m1 e he
  exact⟨d,G0,a,b.trans h'.later,c⟩
 ·exact m2 e he
theorem bC.fail {α β:Type} {P:ae→α→Prop} {Q:ae→β→Prop} {S:StD} {q:StD×α×Int} (h:bC D A I S P q) {z:β} {c:Int} (hc:c≠0):bC D A I S Q (q.1,z,c):=⟨h.inv,h.later,h.kept,fun e=>absurd e hc,h.log⟩
theorem bC.bind {α β:Type} {P:ae→α→Prop} {Q:ae→β→Prop} {S:StD} {q:StD×α×Int} {z:β} {k:StD→α→StD×β×Int} (h:bC D A I S P q) (hk:P q.1.G q.2.1→I q.1.G→dU D A q.1→S.G.Later q.1.G→bC D A I q.1 Q (k q.1 q.2.1)):bC D A I S Q (iN z q k):=by
 obtain⟨S',v,c⟩:=q
 unfold iN
 simp only
 by_cases hc:c≠0
 ·rw[if_pos hc]
  exact h.fail hc
 ·rw[if_neg hc]
  exact h.trans (hk (h.val (Classical.not_not.1 hc)) h.inv h.kept h.later)
theorem bC.ite {α:Type} {P:ae→α→Prop} {S:StD} {p:Prop} [Decidable p] {a b:StD×α×Int} (h1:p→bC D A I S P a) (h2:¬ p→bC D A I S P b):bC D A I S P (if p then a else b):=by
 split
 ·rename_i h;exact h1 h
 ·rename_i h;exact h2 h
theorem Later.target (H:lJ D A I) {G G':ae} {p n:Int} (hI:I G) (hI':I G') (l:G.Later G') (a:A G p n):G'.target n=G.target n∧G'.gatesC n=G.gatesC n:=by
 have e:=l.path (H.wf _ hI) (H.wf _ hI') (n.toNat+1) n (by omega) (H.has _ _ _ hI a)
 unfold ae.target ae.gatesC
 rw[e]
 exact⟨rfl,rfl⟩
theorem Al (H:lJ D A I) {p op k n:Int} {l:List VD} {S:StD} (hp:D p) (hI:I S.G) (hk:dU D A S) (hl:∀ v∈l,Hv A S.G p v):bC D A I S (fun G v=>Hv A G p v) (bH p op k n l S):=by
 have ha:=Hv.getD hl 0
 have hb:=Hv.getD hl 1
 have lr:=ae.Later.refl S.G
 have no:∀ {c:Int},bC D A I S (fun G v=>Hv A G p v) (S.no c):=bC.same H hI hk hI lr fun _=>Hv.zero
 have ok:∀ {v:VD},Hv A S.G p v→bC D A I S (fun G v=>Hv A G p v) (S.ok v):=fun hv=>bC.same H hI hk hI lr fun _=>hv
 have capA:(l.getD 0 au).kind=4→A S.G p (l.getD 0 au).n:=fun e=>ha _ (by rw[VD.caps_eq,if_pos e];simp)
 unfold bH
 refine .ite (fun _=> .ite (fun _=>no) fun _=>ok Hv.int) fun h6=> ?_
 refine .ite (fun _=> .ite (fun _=>no) fun h=>ok (Hv.mk (by decide) (by simpa using⟨ha,hb⟩))) fun h8=> ?_
 refine .ite (fun _=> .ite (fun _=>no) fun h=>ok (ha.part 0)) fun h9=> ?_
 refine .ite (fun _=> .ite (fun _=>no) fun h=>ok (ha.part 1)) fun h10=> ?_
 refine .ite (fun _=> .ite (fun _=>no) fun h=>ok (Hv.mk (by decide) (by simpa using ha))) fun h11=> ?_
 refine .ite (fun _=> .ite (fun _=>no) fun _=> .ite (fun _=>no) fun _=>ok (ha.part 0)) fun h12=> ?_
 refine .ite (fun _=> .ite (fun _=>no) fun hc=> .ite (fun _=>no) fun hr=> .ite (fun _=>no) fun ht=> ?_) fun h13=> ?_
 ·exact⟨hI,lr,hk,fun _=>Hv.int,_,rfl,fun e he=>by
   obtain rfl:e=_:=by simpa using he
   exact⟨hp,S.G,hI,lr,capA (Classical.not_not.1 hc),by simpa using ht,rfl,.inl ⟨rfl,by simpa using hr⟩⟩⟩
 refine .ite (fun _=> .ite (fun _=>no) fun hc=> .ite (fun _=>no) fun hr=> .ite (fun _=>no) fun ht=> ?_) fun h14=> ?_
 ·exact⟨hI,lr,hk,fun _=>hb,_,rfl,fun e he=>by
   obtain rfl:e=_:=by simpa using he
   exact⟨hp,S.G,hI,lr,capA (Classical.not_not.1 fun h=>hc (.inl h)),by simpa using ht,rfl,.inr ⟨rfl,by simpa using hr⟩⟩⟩
 refine .ite (fun _=> .ite (fun _=>no) fun hc=> ?_) fun h15=> ?_
 ·unfold vP
  have hA:=capA (Classical.not_not.1 hc)
  exact .ite (fun _=>bC.same H hI hk (H.inv _ _ _ _ hI) (eN _ _ _ _) fun _=>Hv.zero) fun hz=>bC.same H hI hk (H.inv _ _ _ _ hI) (eN _ _ _ _) fun _=>Hv.cap (H.der _ _ _ _ _ hp hI hA (Classical.not_not.1 hz))
 refine .ite (fun _=> .ite (fun _=>no) fun hc=> .ite (fun _=>bC.same H hI hk (H.gate _ hI) (iL _) fun _=>Hv.zero) fun hg=> ?_) fun h16=> ?_
 ·have hA:=capA (Classical.not_not.1 hc)
  have hA':=H.mono _ _ _ _ hI (H.gate _ hI) (iL _) hA
  have hd:=H.der S.G.gate.1 p (l.getD 0 au).n 15 S.G.gate.2.1 hp (H.gate _ hI) hA'
  have hi:=H.inv S.G.gate.1 (l.getD 0 au).n 15 S.G.gate.2.1 (H.gate _ hI)
  have hL:=(iL S.G).trans (eN S.G.gate.1 (l.getD 0 au).n 15 S.G.gate.2.1)
  generalize S.G.gate.1.derive (l.getD 0 au).n 15 S.G.gate.2.1=q at hd hi hL ⊢
  obtain⟨G',m,c⟩:=q
  refine .ite (fun _=>bC.same H hI hk hi hL fun _=>Hv.zero) fun hz=>bC.same H hI hk hi hL fun _=>Hv.mk (by decide) ?_
  intro v hv
  rcases List.mem_cons.1 hv with rfl | hv
  ·exact Hv.cap (hd (Classical.not_not.1 hz))
  ·obtain rfl:v=_:=by simpa using hv
   intro m hm
   simp[VD.caps,dC]at hm
 refine .ite (fun _=> .ite (fun _=>no) fun _=> ?_) fun h17=> ?_
 ·exact bC.same H hI hk (H.cut _ _ hI) (l6 _ _) fun _=>Hv.zero
 refine .ite (fun _=> ?_) fun h20=>no
 refine⟨hI,lr,fun q hq=> ?_,fun _=>hk p hp,[],by simp[StD.ok],fun e he=>by cases he⟩
 show Hv A S.G q ((S.kept.set p.toNat (l.getD 0 au)).getD q.toNat au)
 by_cases e:p.toNat=q.toNat
 ·have h1:=H.pos _ hp
  have h2:=H.pos _ hq
  have e2:p=q:=by omega
  subst e2
  rw[List.getD,List.getElem?_set]
  simp only[if_true]
  split
  ·exact ha
  ·exact Hv.zero
 ·rw[List.getD,List.getElem?_set_ne e]
  exact hk q hq
theorem zH (H:lJ D A I):∀ (ks:List Int) (G:ae) (n:Int),I G→I (cz ks G n).1∧G.Later (cz ks G n).1
 | [],G,n,hI=>⟨hI,ae.Later.refl G⟩
 | k::ks,G,n,hI=>by
   have h1:=H.inv G n 15 k hI
   have h2:=eN G n 15 k
   unfold cz
   split
   ·exact⟨h1,h2⟩
   ·obtain⟨a,b⟩:=zH H ks (G.derive n 15 k).1 (G.derive n 15 k).2.1 h1
    exact⟨a,h2.trans b⟩
mutual
theorem vp (H:lJ D A I) {ks:List Int} {p q:Int} {G0:ae} (hc:∀ G m,G0.Later G→I G→A G p m→(cz ks G m).2.2=0→A (cz ks G m).1 q (cz ks G m).2.1):∀ (x:VD) (G:ae),G0.Later G→I G→Hv A G p x→I (df ks x G).1∧G.Later (df ks x G).1∧((df ks x G).2.2=0→Hv A (df ks x G).1 q (df ks x G).2.1)
 | .mk kind n l,G,h0,hI,hv=>by
   have hh:I (bZ ks G kind n).1∧G.Later (bZ ks G kind n).1∧((bZ ks G kind n).2.2=0→kind=4→A (bZ ks G kind n).1 q (bZ ks G kind n).2.1):=by
    unfold bZ
    split
    ·rename_i hk
     obtain⟨a,b⟩:=zH H ks G n hI
     exact⟨a,b,fun hz _=>hc G n h0 hI (hv n (by rw[VD.caps_eq];exact List.mem_append_left _ (by show n∈(if kind=4 then[n]else[]);rw[if_pos hk];simp))) hz⟩
    ·rename_i hk
     exact⟨hI,ae.Later.refl G,fun _ h=>absurd h hk⟩
   obtain⟨a1,a2,a3⟩:=hh
   simp only[df]
   split
   ·rename_i hz
    exact⟨a1,a2,fun h=>absurd h hz⟩
   ·rename_i hz
    have hl:∀ v∈l,Hv A (bZ ks G kind n).1 p v:=fun v hv' m hm=>H.mono _ _ _ _ hI a1 a2 (hv m (by rw[VD.caps_eq];exact List.mem_append_right _ (iV.2 ⟨v,hv',hm⟩)))
    obtain⟨b1,b2,b3⟩:=qF H hc l (bZ ks G kind n).1 (h0.trans a2) a1 hl
    split
    ·rename_i hz2
     exact⟨b1,a2.trans b2,fun h=>absurd h hz2⟩
    ·rename_i hz2
     refine⟨b1,a2.trans b2,fun _ m hm=> ?_⟩
     rw[VD.caps_eq]at hm
     rcases List.mem_append.1 hm with hm | hm
     ·split at hm
      ·rename_i hk
       obtain rfl:m=_:=by simpa using hm
       exact H.mono _ _ _ _ a1 b1 b2 (a3 (Classical.not_not.1 hz) hk)
      ·cases hm
     ·obtain⟨v,hv',hm⟩:=iV.1 hm
      exact b3 (Classical.not_not.1 hz2) v hv' m hm
theorem qF (H:lJ D A I) {ks:List Int} {p q:Int} {G0:ae} (hc:∀ G m,G0.Later G→I G→A G p m→(cz ks G m).2.2=0→A (cz ks G m).1 q (cz ks G m).2.1):∀ (l:List VD) (G:ae),G0.Later G→I G→(∀ v∈l,Hv A G p v)→I (br ks l G).1∧G.Later (br ks l G).1∧((br ks l G).2.2=0→∀ v∈(br ks l G).2.1,Hv A (br ks l G).1 q v)
 | [],G,_,hI,_=>⟨hI,ae.Later.refl G,fun _ v hv=>by cases hv⟩
 | x::l,G,h0,hI,hl=>by
   obtain⟨a1,a2,a3⟩:=vp H hc x G h0 hI (hl x (by simp))
   simp only[br]
   split
   ·rename_i hz
    exact⟨a1,a2,fun h=>absurd h hz⟩
   ·rename_i hz
    obtain⟨b1,b2,b3⟩:=qF H hc l (df ks x G).1 (h0.trans a2) a1 (fun v hv=>(hl v (by simp[hv])).mono H hI a1 a2)
    refine⟨b1,a2.trans b2,fun h v hv=> ?_⟩
    rcases List.mem_cons.1 hv with rfl | hv
    ·exact(a3 (Classical.not_not.1 hz)).mono H a1 b1 b2
    ·exact b3 h v hv
end
theorem nj (H:lJ D A I) {ks:List Int} {p q:Int} {G0:ae} (hc:∀ G m,G0.Later G→I G→A G p m→(cz ks G m).2.2=0→A (cz ks G m).1 q (cz ks G m).2.1) (x:VD) (G:ae) (h0:G0.Later G) (hI:I G) (hv:Hv A G p x):I (aW ks G x).1∧G.Later (aW ks G x).1∧((aW ks G x).2.2=0→Hv A (aW ks G x).1 q (aW ks G x).2.1):=by
 unfold aW
 split
 ·rename_i hz
  exact⟨hI,ae.Later.refl G,fun h=>absurd h hz⟩
 ·exact vp H hc x G h0 hI hv
def Ni (D:Int→Prop) (A:ae→Int→Int→Prop) (p:Int) (G:ae) (a:qM):Prop:=D a.plugin∧Hv A G a.plugin a.arg∧∃ n,A G p n∧a.gates=G.gatesC n∧(G.target n).1.plugin=a.plugin∧¬ a.plugin<0
theorem EQ (H:lJ D A I) {ms:aM} {p:Int} {v x:VD} {fr:Nat} {S:StD} (hp:D p) (hI:I S.G) (hk:dU D A S) (hv:Hv A S.G p v) (hx:Hv A S.G p x):bC D A I S (Ni D A p) (eY ms v x fr S):=by
 have lr:=ae.Later.refl S.G
 have no:∀ {c:Int} (hc:c≠0) (z:qM),bC D A I S (Ni D A p) (S,z,c):=fun hc z=>bC.same H hI hk hI lr fun h=>absurd h hc
 unfold eY
 refine .ite (fun _=>no (by decide) _) fun h1=> .ite (fun _=>no (by decide) _) fun h2=> .ite (fun _=>no (by decide) _) fun h3=> .ite (fun _=>no (by decide) _) fun h4=> .ite (fun _=>no (by decide) _) fun h5=> ?_
 have hA:A S.G p v.n:=hv _ (by rw[VD.caps_eq,if_pos (Classical.not_not.1 h1)];simp)
 have hD:=H.ask _ _ _ hp hI hA (by simpa using h2) h3
 have ac:=nj H (ks:=S.G.gatesC v.n) (p:=p) (q:=(S.G.target v.n).1.plugin) (G0:=S.G) (fun G m l hG hm hz=>by
  have hA':=H.mono _ _ _ _ hI hG l hA
  obtain⟨e1,e2⟩:=Later.target H hI hG l hA
  have:=H.give G p v.n m hp (by rw[e1];exact hD) hG hA' (by rw[e1];exact h3) hm (by rw[e2];exact hz)
  rw[e1,e2]at this
  exact this) x S.G lr hI hx
 generalize aW (S.G.gatesC v.n) S.G x=q at ac
 obtain⟨G',y,c⟩:=q
 obtain⟨a1,a2,a3⟩:=ac
 obtain⟨e1,e2⟩:=Later.target H hI a1 a2 hA
 refine bC.same H hI hk a1 a2 fun hz=>⟨hD,a3 hz,v.n,H.mono _ _ _ _ hI a1 a2 hA,by rw[e2],by rw[e1],h3⟩
theorem A7 (H:lJ D A I) {p:Int} {a:qM} {v:VD} {G0:ae} {S:StD} (hp:D p) (hI0:I G0) (l0:G0.Later S.G) (hI:I S.G) (hk:dU D A S) (ha:Ni D A p G0 a) (hv:Hv A S.G a.plugin v):bC D A I S (fun G v=>Hv A G p v) (eG a.gates v S):=by
 obtain⟨hD,_,n,hA,hg,ht,hn⟩:=ha
 have ac:=nj H (ks:=a.gates) (p:=a.plugin) (q:=p) (G0:=G0) (fun G m l hG hm hz=>by
  have hA':=H.mono _ _ _ _ hI0 hG l hA
  obtain⟨e1,e2⟩:=Later.target H hI0 hG l hA
  have:=H.take G p n m hp (by rw[e1,ht];exact hD) hG hA' (by rw[e1,ht];exact hn) (by rw[e1,ht];exact hm) (by rw[e2,←hg];exact hz)
  rw[e2,←hg]at this
  exact this) v S.G l0 hI hv
 unfold eG
 generalize aW a.gates S.G v=q at ac
 obtain⟨G',y,c⟩:=q
 obtain⟨a1,a2,a3⟩:=ac
 exact .ite (fun hz=>bC.same H hI hk a1 a2 fun h=>absurd h hz) fun hz=>bC.same H hI hk a1 a2 fun _=>a3 (Classical.not_not.1 hz)
theorem yK (H:lJ D A I) {p:Int} {f:XD→StD→StD×VD×Int} {G0:ae} (hf:∀ x S,G0.Later S.G→I S.G→dU D A S→bC D A I S (fun G v=>Hv A G p v) (f x S)):∀ (l:List XD) (S:StD) (acc:List VD),G0.Later S.G→I S.G→dU D A S→(∀ v∈acc,Hv A S.G p v)→bC D A I S (fun G l=>∀ v∈l,Hv A G p v) (evL f l S acc)
 | [],S,acc,_,hI,hk,ha=>bC.same H hI hk hI (ae.Later.refl _) fun _=>ha
 | x::l,S,acc,h0,hI,hk,ha=>by
   rw[yN]
   have h1:=hf x S h0 hI hk
   refine h1.bind fun hv hI' hk' _=>yK H hf l _ _ (h0.trans h1.later) hI' hk' ?_
   intro v hv'
   rcases List.mem_append.1 hv' with h | h
   ·exact(ha v h).mono H hI hI' h1.later
   ·obtain rfl:v=_:=by simpa using h
    exact hv
theorem BE {p:Int} {x:XD} {arg:VD} {names:List VD} {S:StD} {v:VD} (hp:D p) (hk:dU D A S) (ha:Hv A S.G p arg) (hn:∀ v∈names,Hv A S.G p v) (h:dZ p x arg names S=some v):Hv A S.G p v:=by
 unfold dZ at h
 split at h
 ·injection h with h;subst h;exact Hv.zero
 split at h
 ·injection h with h;subst h;exact Hv.int
 split at h
 ·injection h with h;subst h;exact ha
 split at h
 ·injection h with h;subst h;exact Hv.getD hn _
 split at h
 ·injection h with h;subst h;exact hk p hp
 ·cases h
theorem Hv.all (H:lJ D A I) {G G':ae} {p:Int} {l:List VD} (hI:I G) (hI':I G') (hl:G.Later G') (h:∀ v∈l,Hv A G p v):∀ v∈l,Hv A G' p v:=fun v hv=>(h v hv).mono H hI hI' hl
theorem xA (H:lJ D A I) (ms:aM):∀ (N:Nat) (p:Int) (x:XD) (arg:VD) (names:List VD) (fr:Nat) (S:StD),D p→I S.G→dU D A S→Hv A S.G p arg→(∀ v∈names,Hv A S.G p v)→bC D A I S (fun G v=>Hv A G p v) (ofD ms N p x arg names fr S)
 | 0,p,x,arg,names,fr,S,hp,hI,hk,ha,hn=>bC.same H hI hk hI (ae.Later.refl _) fun h=>absurd h (by decide)
 | N+1,p,x,arg,names,fr,S,hp,hI,hk,ha,hn=>by
   have ih:=xA H ms N
   have no:∀ {T:StD} {c:Int},I T.G→dU D A T→bC D A I T (fun G v=>Hv A G p v) (T.no c):=fun hI hk=>bC.same H hI hk hI (ae.Later.refl _) fun _=>Hv.zero
   rw[xz]
   refine .ite (fun _=>no hI hk) fun _=> ?_
   have hI:I S.tick.G:=hI
   have hk:dU D A S.tick:=hk
   have ha:Hv A S.tick.G p arg:=ha
   have hn:∀ v∈names,Hv A S.tick.G p v:=hn
   suffices h:bC D A I S.tick (fun G v=>Hv A G p v) (match dZ p x arg names S.tick with
    | some v=>S.tick.ok v
    | none=>
      if x.op=5 then iN au (ofD ms N p (x.l.getD 0 ct) arg names fr S.tick) fun S' v=>ofD ms N p (x.l.getD 1 ct) arg (names++[v]) fr S'
      else if x.op=7 then iN au (ofD ms N p (x.l.getD 0 ct) arg names fr S.tick) fun S' v=>if v.kind≠1 then S'.no 2 else if v.n≠0 then ofD ms N p (x.l.getD 1 ct) arg names fr S' else ofD ms N p (x.l.getD 2 ct) arg names fr S'
      else iN au (evL (fun y S=>ofD ms N p y arg names fr S) x.l S.tick []) fun S' l=>
       if x.op=18 then(if fr=20 then S'.no 4 else ofD ms N p (cU ms p x.k) (l.getD 0 au) [] (fr+1) S')
       else if x.op=19 then iN au (eY ms (l.getD 0 au) (l.getD 1 au) fr S') fun S2 q=>iN au (ofD ms N q.plugin (cU ms q.plugin q.func) q.arg [] (fr+1) S2) fun S3 v=>eG q.gates v S3
       else bH p x.op x.k x.n l S') from⟨h.inv,h.later,h.kept,h.val,h.log⟩
   generalize S.tick=T at hI hk ha hn
   cases hlf:dZ p x arg names T with
   | some v=>exact bC.same H hI hk hI (ae.Later.refl _) fun _=>BE hp hk ha hn hlf
   | none=>
     refine .ite (fun _=> ?_) fun _=> .ite (fun _=> ?_) fun _=> ?_
     ·have h1:=ih p (x.l.getD 0 ct) arg names fr T hp hI hk ha hn
      refine h1.bind fun hv hI' hk' _=>ih _ _ _ _ _ _ hp hI' hk' (ha.mono H hI hI' h1.later) ?_
      intro v hv'
      rcases List.mem_append.1 hv' with h | h
      ·exact(hn v h).mono H hI hI' h1.later
      ·obtain rfl:v=_:=by simpa using h
       exact hv
     ·have h1:=ih p (x.l.getD 0 ct) arg names fr T hp hI hk ha hn
      refine h1.bind fun hv hI' hk' _=> .ite (fun _=>no hI' hk') fun _=> .ite (fun _=> ?_) fun _=> ?_
      ·exact ih _ _ _ _ _ _ hp hI' hk' (ha.mono H hI hI' h1.later) (Hv.all H hI hI' h1.later hn)
      ·exact ih _ _ _ _ _ _ hp hI' hk' (ha.mono H hI hI' h1.later) (Hv.all H hI hI' h1.later hn)
     ·have h1:=yK H (p:=p) (f:=fun y S=>ofD ms N p y arg names fr S) (G0:=T.G) (fun y S l hI' hk'=>ih p y arg names fr S hp hI' hk' (ha.mono H hI hI' l) (Hv.all H hI hI' l hn)) x.l T [] (ae.Later.refl _) hI hk (fun v hv=>by cases hv)
      refine h1.bind fun hl hI' hk' _=> .ite (fun _=> .ite (fun _=>no hI' hk') fun _=> ?_) fun _=> .ite (fun _=> ?_) fun _=> ?_
      ·exact ih _ _ _ _ _ _ hp hI' hk' (Hv.getD hl 0) (fun v hv=>by cases hv)
      ·have h2:=EQ H (ms:=ms) (fr:=fr) hp hI' hk' (Hv.getD hl 0) (Hv.getD hl 1)
       refine h2.bind fun hq hI2 hk2 _=>bC.bind (ih _ _ _ _ _ _ hq.1 hI2 hk2 hq.2.1 (fun v hv=>by cases hv)) fun hv hI3 hk3 l3=>A7 H hp hI2 l3 hI3 hk3 hq hv
      ·exact Al H hp hI' hk' hl
theorem tX (H:lJ D A I) {ms:aM} {S:StD} {p f fuel:Int} {v:VD} (hp:D p) (hI:I S.G) (hk:dU D A S) (hv:Hv A S.G p v):I (cM ms p f v fuel S).1.G∧S.G.Later (cM ms p f v fuel S).1.G∧dU D A (cM ms p f v fuel S).1∧Hv A (cM ms p f v fuel S).1.G p (cM ms p f v fuel S).2.1∧∃ ext,(cM ms p f v fuel S).1.log=S.log++ext∧∀ e∈ext,D e.plugin∧∃ G0,I G0∧G0.Later (cM ms p f v fuel S).1.G∧Cg A G0 e:=by
 have same:I S.G∧S.G.Later S.G∧dU D A S∧Hv A S.G p au∧∃ ext,S.log=S.log++ext∧∀ e∈ext,D e.plugin∧∃ G0,I G0∧G0.Later S.G∧Cg A G0 e:=⟨hI,ae.Later.refl _,hk,Hv.zero,[],by simp,fun e he=>by cases he⟩
 unfold cM
 split
 ·exact same
 ·split
  ·exact same
  ·split
   ·exact same
   ·have h:=xA H ms fuel.toNat p (cU ms p f) v [] 1 {S with left:=fuel.toNat} hp hI hk hv (fun v hv=>by cases hv)
    generalize ofD ms fuel.toNat p (cU ms p f) v [] 1 {S with left:=fuel.toNat}=q at h
    obtain⟨S',w,c⟩:=q
    obtain⟨h1,h2,h3,h4,h5⟩:=h
    refine⟨h1,h2,h3,?_,h5⟩
    show Hv A S'.G p (if c=0 then w else au)
    split
    ·rename_i hc;exact h4 hc
    ·exact Hv.zero
end
theorem CL {G:ae} {nd:aV} (hz:(G.add nd).2.2=0):G.add nd=(⟨G.nodes++[nd],G.shut⟩,(G.nodes.length:Int),0)∧gU nd.rights=true∧(nd.gate= -1∨G.hasGate nd.gate=true):=by
 unfold ae.add at hz ⊢
 split
 ·rename_i h;rw[if_pos h]at hz;exact absurd hz (by simp)
 ·rename_i h1
  rw[if_neg h1]at hz
  split
  ·rename_i h;rw[if_pos h]at hz;exact absurd hz (by simp)
  ·rename_i h2
   rw[if_neg h2]at hz
   split
   ·rename_i h;rw[if_pos h]at hz;exact absurd hz (by simp)
   ·refine⟨rfl,by simpa using h1,?_⟩
    by_cases e:nd.gate= -1
    ·exact .inl e
    ·refine .inr ?_
     cases hh:G.hasGate nd.gate with
     | true=>rfl
     | false=>exact absurd ⟨e,hh⟩ h2
theorem na {G:ae} {n r g:Int} (hz:(G.derive n r g).2.2=0):G.has n=true∧G.derive n r g=(⟨G.nodes++[⟨n,g,r,0, -1,0⟩],G.shut⟩,(G.nodes.length:Int),0):=by
 unfold ae.derive at hz ⊢
 split
 ·rename_i h
  rw[if_pos h]at hz
  exact⟨h,(CL hz).1⟩
 ·rename_i h
  rw[if_neg h]at hz
  exact absurd hz (by simp)
theorem Cy {G:ae} {nd:aV}:(⟨G.nodes++[nd],G.shut⟩:ae).has (G.nodes.length:Int)=true∧(⟨G.nodes++[nd],G.shut⟩:ae).nodes.getD ((G.nodes.length:Int)).toNat bK=nd:=by
 refine⟨by simp[ae.has];omega,?_⟩
 rw[Int.toNat_natCast]
 simp[List.getD]
theorem Later.way {G G':ae} (l:G.Later G') (hW:G.Wf) (hW':G'.Wf):∀ (f:Nat) (i:Int),i.toNat<f→G.has i=true→G'.way i=G.way i:=by
 intro f
 induction f with
 | zero=>intro i hi;omega
 | succ f ih=>
   intro i hi hh
   obtain⟨hh',hn⟩:=l.has hh
   have ok:=hW.get hh
   rw[ae.way_yes hW hh,ae.way_yes hW' hh',hn]
   congr 1
   by_cases hp:G.has (G.nodes.getD i.toNat bK).parent=true
   ·have hp0:0≤(G.nodes.getD i.toNat bK).parent:=by simp only[ae.has,decide_eq_true_eq]at hp;exact hp.1
    have hp1:=ok.p1
    exact ih _ (by omega) hp
   ·have h0:=ok.p0
    have h1:=ok.p1
    have hi2:i.toNat<G.nodes.length:=by simp[ae.has]at hh;omega
    have hneg:(G.nodes.getD i.toNat bK).parent<0:=by
     simp only[ae.has,decide_eq_true_eq,not_and]at hp
     rcases Int.lt_or_le (G.nodes.getD i.toNat bK).parent 0 with h | h
     ·exact h
     ·have:=hp h;omega
    rw[ae.way_no (G:=G) (by simpa using hp),ae.way_no (G:=G') (by simp only[ae.has,decide_eq_false_iff_not,not_and];intro h;omega)]
theorem iO {G:ae} (hW:G.Wf) {n r g:Int} (hz:(G.derive n r g).2.2=0):(G.derive n r g).1.has (G.derive n r g).2.1=true∧(G.derive n r g).1.path (G.derive n r g).2.1=⟨n,g,r,0, -1,0⟩::G.path n∧(G.derive n r g).1.way (G.derive n r g).2.1=(G.derive n r g).2.1::G.way n:=by
 have hW':=hW.derive n r g
 have hl:=eN G n r g
 obtain⟨hn,e⟩:=na hz
 have h1:=Cy (G:=G) (nd:=⟨n,g,r,0, -1,0⟩)
 rw[e]at hW' hl ⊢
 refine⟨h1.1,?_,?_⟩
 ·rw[ae.path_yes hW' h1.1,h1.2]
  congr 1
  exact hl.path hW hW' (n.toNat+1) n (by omega) hn
 ·rw[ae.way_yes hW' h1.1,h1.2]
  congr 1
  exact Later.way hl hW hW' (n.toNat+1) n (by omega) hn
def ae.root (G:ae) (n:Int):Int:=(G.way n).getLastD (-1)
theorem Hg {G:ae} (hW:G.Wf) {n:Int} (h:G.has n=true):G.way n≠[]:=by
 rw[ae.way_yes hW h]
 simp
theorem tQ {α:Type} {a d:α} {l:List α} (h:l≠[]):(a::l).getLastD d=l.getLastD d:=by
 cases l with
 | nil=>exact absurd rfl h
 | cons b l=>simp[List.getLastD]
theorem yG {G:ae} (hW:G.Wf) {n r g:Int} (hz:(G.derive n r g).2.2=0):(G.derive n r g).1.root (G.derive n r g).2.1=G.root n:=by
 unfold ae.root
 rw[(iO hW hz).2.2]
 exact tQ (Hg hW (na hz).1)
theorem uM:∀ (ks:List Int) (G:ae) (n:Int),G.Wf→G.has n=true→(cz ks G n).2.2=0→(cz ks G n).1.has (cz ks G n).2.1=true∧(cz ks G n).1.root (cz ks G n).2.1=G.root n
 | [],G,n,hW,hn,_=>⟨hn,rfl⟩
 | k::ks,G,n,hW,hn,hz=>by
   unfold cz at hz ⊢
   split
   ·rename_i h;rw[if_pos h]at hz;exact absurd hz h
   ·rename_i h
    rw[if_neg h]at hz
    have h0:=Classical.not_not.1 h
    obtain⟨a,b⟩:=uM ks (G.derive n 15 k).1 (G.derive n 15 k).2.1 (hW.derive _ _ _) (iO hW h0).1 hz
    exact⟨a,b.trans (yG hW h0)⟩
theorem sc (ks:List Int) (G:ae) (n:Int) (hW:G.Wf) (hn:G.has n=true) (hz:(cz ks G n).2.2=0):(cz ks G n).1.has (cz ks G n).2.1=true∧∀ k∈ks,0≤k→k∈(cz ks G n).1.gatesC (cz ks G n).2.1:=by
 refine⟨(uM ks G n hW hn hz).1,fun k hk h0=> ?_⟩
 rw[(yn ks G n hW hn hz).2.gates]
 refine List.mem_append_left _ (List.mem_filter.2 ⟨List.mem_reverse.2 hk,by simpa using h0⟩)
theorem xF {G:ae} (hW:G.Wf) {n:Int} (h:G.has n=true):(G.target n).1=G.at_ (G.root n)∧G.has (G.root n)=true∧(G.at_ (G.root n)).parent= -1:=by
 have hne:=Hg hW h
 have ht:(G.target n).1=G.at_ (G.root n):=by
  unfold ae.target ae.root
  rw[←ae.way_path]
  show((G.way n).map G.at_).getLastD bK=G.at_ ((G.way n).getLastD (-1))
  rw[List.getLastD_eq_getLast?,List.getLastD_eq_getLast?,List.getLast?_map]
  cases hl:(G.way n).getLast? with
  | none=>rw[List.getLast?_eq_none_iff]at hl;exact absurd hl hne
  | some a=>rfl
 have hm:G.root n∈G.way n:=by
  unfold ae.root
  rw[List.getLastD_eq_getLast?]
  cases hl:(G.way n).getLast? with
  | none=>rw[List.getLast?_eq_none_iff]at hl;exact absurd hl hne
  | some a=>exact List.mem_of_getLast? hl
 refine⟨ht,ae.way_has n _ hm,?_⟩
 rw[←ht]
 exact(ae.target_ok hW h).2.1
theorem ER {G:ae} {n r g:Int} (h:(G.derive n r g).2.2≠0):(G.derive n r g).1=G:=by
 unfold ae.derive at h ⊢
 split
 ·rename_i h1
  rw[if_pos h1]at h
  exact kX h
 ·rfl
structure jo (p0:Int) (z:Bool) (G:ae):Prop where
 wf:G.Wf
 g0:G.hasGate 0=true
 root:∀ (i:Nat) (nd:aV),G.nodes[i]? =some nd→nd.parent= -1→nd.plugin≠p0
 sh:z=true→G.shut.getD 0 false=true
def zN (p0:Int) (G:ae) (p n:Int):Prop:=G.has n=true∧(p=p0→(0:Int)∈G.gatesC n)
section
variable {p0:Int} {z:Bool}
theorem jo.later {G G':ae} (c:jo p0 z G) (l:G.Later G') (hW:G'.Wf) (hr:∀ (i:Nat) (nd:aV),G'.nodes[i]? =some nd→nd.parent= -1→nd.plugin≠p0):jo p0 z G':=by
 refine⟨hW,?_,hr,fun h=>l.shut.2 0 (c.sh h)⟩
 have:=c.g0
 have h2:=l.shut.1
 simp only[ae.hasGate,decide_eq_true_eq]at this ⊢
 omega
theorem jo.push {G:ae} (c:jo p0 z G) {nd:aV} {G':ae} (he:G'.nodes=G.nodes++[nd]) (hn:nd.parent= -1→nd.plugin≠p0):∀ (i:Nat) (m:aV),G'.nodes[i]? =some m→m.parent= -1→m.plugin≠p0:=by
 intro i m hm hp
 rw[he]at hm
 by_cases hi:i<G.nodes.length
 ·rw[List.getElem?_append_left hi]at hm
  exact c.root i m hm hp
 ·rw[List.getElem?_append_right (by omega)]at hm
  have hi0:i - G.nodes.length=0:=by
   have:=(List.getElem?_eq_some_iff.1 hm).1
   simpa using this
  rw[hi0]at hm
  obtain rfl:nd=m:=by simpa using hm
  exact hn hp
theorem jo.derive {G:ae} (c:jo p0 z G) (n r g:Int):jo p0 z (G.derive n r g).1:=by
 by_cases hz:(G.derive n r g).2.2=0
 ·obtain⟨h1,h2⟩:=na hz
  refine c.later (eN G n r g) (c.wf.derive _ _ _) (c.push (nd:=⟨n,g,r,0, -1,0⟩) (by rw[h2]) ?_)
  intro h
  simp only[ae.has,decide_eq_true_eq]at h1
  simp only at h
  omega
 ·rw[ER hz];exact c
theorem jo.gate {G:ae} (c:jo p0 z G):jo p0 z G.gate.1:=c.later (iL G) c.wf.gate (by rw[(qW G).1];exact c.root)
theorem jo.cut {G:ae} (c:jo p0 z G) (k:Int):jo p0 z (G.cut k).1:=c.later (l6 G k) (c.wf.cut k) (by rw[(uB G k).1];exact c.root)
theorem jo.target {G:ae} (c:jo p0 z G) {n:Int} (h:G.has n=true):(G.target n).1.plugin≠p0:=by
 obtain⟨h1,h2,h3⟩:=xF c.wf h
 rw[h1]
 unfold ae.at_ at h3 ⊢
 have hl:(G.root n).toNat<G.nodes.length:=by
  simp only[ae.has,decide_eq_true_eq]at h2;omega
 have hg:G.nodes[(G.root n).toNat]? =some (G.nodes.getD (G.root n).toNat bK):=by simp[List.getD,hl]
 exact c.root _ _ hg h3
theorem Later.gates {G G':ae} (l:G.Later G') (hW:G.Wf) (hW':G'.Wf) {n:Int} (h:G.has n=true):G'.gatesC n=G.gatesC n:=by
 unfold ae.gatesC
 rw[l.path hW hW' (n.toNat+1) n (by omega) h]
theorem ot {G:ae} (hW:G.Wf) {n r g k:Int} (hz:(G.derive n r g).2.2=0) (hk:k∈G.gatesC n):k∈(G.derive n r g).1.gatesC (G.derive n r g).2.1:=by
 have h:=(iO hW hz).2.1
 unfold ae.gatesC at hk ⊢
 rw[h]
 unfold cQ at hk ⊢
 rw[List.filter_cons]
 split
 ·rw[List.map_cons]
  exact List.mem_cons_of_mem _ hk
 ·exact hk
theorem yT (p0:Int) (z:Bool):lJ (fun p=>0≤p) (zN p0) (jo p0 z) where
 pos:=fun p h=>h
 wf:=fun G h=>h.wf
 has:=fun G p n _ h=>h.1
 mono:=fun G G' p n hG hG' l h=>⟨(l.has h.1).1,fun e=>by rw[Later.gates l hG.wf hG'.wf h.1];exact h.2 e⟩
 gate:=fun G h=>h.gate
 cut:=fun G k h=>h.cut k
 inv:=fun G n r g h=>h.derive n r g
 der:=fun G p n r g _ hG h hz=>⟨(iO hG.wf hz).1,fun e=>ot hG.wf hz (h.2 e)⟩
 ask:=fun G p n _ _ _ _ h=>by omega
 give:=fun G p n m _ _ hG hn _ hm hz=>by
  have h:=sc (G.gatesC n) G m hG.wf hm.1 hz
  exact⟨h.1,fun e=>absurd e (hG.target hn.1)⟩
 take:=fun G p n m _ _ hG hn _ hm hz=>by
  have h:=sc (G.gatesC n) G m hG.wf hm.1 hz
  exact⟨h.1,fun e=>h.2 0 (hn.2 e) (Int.le_refl _)⟩
theorem pB {G:ae} (h:G.shut.getD 0 false=true) {n:Int} (hn:(0:Int)∈G.gatesC n):G.rights n=0:=
 xh (g:=0) (Int.le_refl _) h (List.contains_iff_mem.2 hn)
theorem sZ (k:Nat):eB 0 k=false:=by simp[eB];decide
theorem Ei (p0:Int) (hp0:0≤p0):lJ (fun p=>p=p0) (zN p0) (jo p0 true) where
 pos:=fun p h=>by rw[h];exact hp0
 wf:=fun G h=>h.wf
 has:=fun G p n _ h=>h.1
 mono:=(yT p0 true).mono
 gate:=fun G h=>h.gate
 cut:=fun G k h=>h.cut k
 inv:=fun G n r g h=>h.derive n r g
 der:=fun G p n r g _ hG h hz=>⟨(iO hG.wf hz).1,fun e=>ot hG.wf hz (h.2 e)⟩
 ask:=fun G p n hp hG h hb _=>by
  rw[pB (hG.sh rfl) (h.2 hp),sZ]at hb
  cases hb
 give:=fun G p n m _ ht hG hn _ _ _=>absurd ht (hG.target hn.1)
 take:=fun G p n m _ ht hG hn _ _ _=>absurd ht (hG.target hn.1)
theorem CB {G:ae} (hG:jo p0 true G) {e:cD} (h:Cg (zN p0) G e):e.plugin≠p0:=by
 intro hp
 obtain⟨h1,_,_,h2⟩:=h
 rw[pB (hG.sh rfl) (h1.2 hp),sZ,sZ]at h2
 rcases h2 with⟨_,h⟩ | ⟨_,h⟩<;>cases h
structure kK (p0:Int) (z:Bool) (H:HoD):Prop where
 good:H.Good
 g:jo p0 z H.S.G
 kept:dU (fun p=>0≤p) (zN p0) H.S
 hand:∀ p:Int,0≤p→∀ v∈H.hand p,Hv (zN p0) H.S.G p v
def NX (p0:Int) (x:cr):Prop:=(x.p=p0→x.kind=2∨x.kind=3→x.g=0)∧¬ (x.kind=3∧x.q=p0)
theorem kK.graph {H:HoD} (c:kK p0 z H) {z':Bool} {G':ae} (hG:jo p0 z' G') (l:H.S.G.Later G'):kK p0 z' (H.graph G'):=
 ⟨c.good.graph hG.wf,hG,fun p hp n hn=>by
  have:=c.kept p hp n hn
  exact⟨(l.has this.1).1,fun e=>by show(0:Int)∈G'.gatesC n;rw[Later.gates l c.g.wf hG.wf this.1];exact this.2 e⟩,fun p hp v hv n hn=>by
  have:=c.hand p hp v hv n hn
  exact⟨(l.has this.1).1,fun e=>by show(0:Int)∈G'.gatesC n;rw[Later.gates l c.g.wf hG.wf this.1];exact this.2 e⟩⟩
theorem Hi {H:HoD} {p q:Int} (hp:inP p=true) (hq:0≤q) {l:List VD} {v:VD} (h:v∈(H.hands.set p.toNat l).getD q.toNat []):v∈H.hand q∨p=q∧v∈l:=by
 obtain⟨p1,p2⟩:=lS.1 hp
 by_cases e:p.toNat=q.toNat
 ·have e2:p=q:=by omega
  rw[List.getD,List.getElem?_set,if_pos e]at h
  split at h
  ·exact .inr ⟨e2,h⟩
  ·cases h
 ·rw[List.getD,List.getElem?_set_ne e]at h
  exact .inl h
theorem kK.give {H:HoD} (c:kK p0 z H) {p n k:Int} (hp:inP p=true) (hn:k=0→0≤n∧zN p0 H.S.G p n):kK p0 z (H.give p n k).1:=by
 unfold HoD.give
 split
 ·exact c
 ·rename_i hk
  have hk:=Classical.not_not.1 hk
  refine⟨?_,c.g,c.kept,fun q hq v hv=> ?_⟩
  ·have:=c.good.give (p:=p) (n:=n) (c:=k) (hn hk).1
   unfold HoD.give at this
   rw[if_neg (fun h=>h hk)]at this
   exact this
  ·rcases Hi hp hq hv with h | ⟨e,h⟩
   ·exact c.hand q hq v h
   ·rcases List.mem_append.1 h with h | h
    ·exact c.hand q hq v (by rw[←e];exact h)
    ·obtain rfl:v=_:=by simpa using h
     rw[←e]
     exact Hv.cap (hn hk).2
theorem Gx {G:ae} {nd:aV} (hW:G.Wf) (hz:(G.add nd).2.2=0) (hW':(G.add nd).1.Wf) (hp:nd.parent= -1):(G.add nd).1.has (G.add nd).2.1=true∧(G.add nd).1.path (G.add nd).2.1=[nd]∧G.Later (G.add nd).1∧(G.add nd).1.nodes=G.nodes++[nd]:=by
 obtain⟨e,_⟩:=CL hz
 have hl:G.Later (G.add nd).1:=by
  obtain⟨⟨ext,h1,_⟩,h2⟩:=uV G nd
  exact⟨⟨ext,h1⟩,by rw[h2];exact⟨Nat.le_refl _,fun _=>id⟩⟩
 have h1:=Cy (G:=G) (nd:=nd)
 rw[e]at hl hW' ⊢
 refine⟨h1.1,?_,hl,rfl⟩
 rw[ae.path_yes hW' h1.1,h1.2,hp,ae.path_no (by simp[ae.has])]
theorem E1 {G:ae} {k r g:Int} (hz:(G.cellC k r g).2.2=0):fZ k=true∧G.cellC k r g=G.add ⟨-1,g,r,k, -1,0⟩:=by
 unfold ae.cellC at hz ⊢
 split
 ·rename_i h;exact⟨h,rfl⟩
 ·rename_i h;rw[if_neg h]at hz;exact absurd hz (by simp)
theorem DT {G:ae} {q k r g:Int} (hz:(G.funcC q k r g).2.2=0):pf q k=true∧G.funcC q k r g=G.add ⟨-1,g,r,0,q,k⟩:=by
 unfold ae.funcC at hz ⊢
 split
 ·rename_i h;exact⟨h,rfl⟩
 ·rename_i h;rw[if_neg h]at hz;exact absurd hz (by simp)
theorem kK.newRoot {H:HoD} (c:kK p0 z H) {p:Int} (hp:inP p=true) {q:ae×Int×Int} {nd:aV} (hq:q.2.2=0→q=H.S.G.add nd) (hno:q.2.2≠0→q.1=H.S.G) (hW:q.1.Wf) (h1:nd.parent= -1) (h2:nd.plugin≠p0) (h3:p=p0→nd.gate=0):kK p0 z ((H.graph q.1).give p q.2.1 q.2.2).1:=by
 by_cases hz:q.2.2=0
 ·have e:=hq hz
  rw[e]at hz hW
  obtain⟨a1,a2,a3,a4⟩:=Gx c.g.wf hz hW h1
  have hG:jo p0 z (H.S.G.add nd).1:=c.g.later a3 hW (c.g.push a4 fun _=>h2)
  rw[e]
  refine(c.graph hG a3).give hp fun _=>⟨wj,a1,fun ep=> ?_⟩
  show(0:Int)∈(H.S.G.add nd).1.gatesC (H.S.G.add nd).2.1
  unfold ae.gatesC cQ
  rw[a2]
  simp[h3 ep]
 ·rw[hno hz]
  have hc:kK p0 z (H.graph H.S.G):=c
  exact hc.give hp fun h=>absurd h hz
theorem kK.step {H:HoD} (c:kK p0 z H) (hp0:0≤p0) {x:cr} (hx:NX p0 x):kK p0 z (H.step x).1∧(z=true→∃ ext,(H.step x).1.S.log=H.S.log++ext∧∀ e∈ext,e.plugin≠p0∧¬ (x.kind=4∧x.p=p0)):=by
 have nolog:∀ {H':HoD},H'.S.log=H.S.log→(z=true→∃ ext,H'.S.log=H.S.log++ext∧∀ e∈ext,e.plugin≠p0∧¬ (x.kind=4∧x.p=p0)):=fun h _=>⟨[],by simp[h],fun e he=>by cases he⟩
 unfold HoD.step
 by_cases k1:x.kind=1
 ·rw[if_pos k1]
  unfold HoD.load
  split
  ·exact⟨c,nolog rfl⟩
  ·split
   ·exact⟨c,nolog rfl⟩
   ·rename_i h1 h2
    have:=(c.good.step {x with kind:=1}).good
    rw[D8 rfl]at this
    unfold HoD.load at this
    rw[if_neg h1,if_neg h2]at this
    refine⟨⟨this,c.g,fun p hp=> ?_,c.hand⟩,nolog rfl⟩
    show Hv (zN p0) H.S.G p ((H.S.kept.set x.p.toNat au).getD p.toNat au)
    by_cases e:x.p.toNat=p.toNat
    ·rw[List.getD,List.getElem?_set,if_pos e]
     split<;>exact Hv.zero
    ·rw[List.getD,List.getElem?_set_ne e]
     exact c.kept p hp
 rw[if_neg k1]
 by_cases k2:x.kind=2∨x.kind=3
 ·rw[if_pos k2]
  by_cases hp:inP x.p=false
  ·rw[if_pos hp]
   exact⟨c,nolog rfl⟩
  ·rw[if_neg hp]
   have hp:inP x.p=true:=by simpa using hp
   split
   ·rename_i h2
    refine⟨c.newRoot hp (nd:=⟨-1,x.g,x.r,x.k, -1,0⟩) (fun h=>(E1 h).2) tA (c.g.wf.cellC _ _ _) rfl (by show(-1:Int)≠p0;omega) fun e=>hx.1 e k2,nolog ?_⟩
    unfold HoD.give
    split<;>rfl
   ·rename_i h2
    refine⟨c.newRoot hp (nd:=⟨-1,x.g,x.r,0,x.q,x.k⟩) (fun h=>(DT h).2) tM (c.g.wf.funcC _ _ _ _) rfl (fun e=>hx.2 ⟨k2.resolve_left h2,e⟩) fun e=>hx.1 e k2,nolog ?_⟩
    unfold HoD.give
    split<;>rfl
 rw[if_neg k2]
 by_cases k4:x.kind=4
 ·rw[if_pos k4]
  have hg:=(c.good.step x).good
  unfold HoD.step at hg
  rw[if_neg k1,if_neg k2,if_pos k4]at hg
  unfold HoD.call at hg ⊢
  split
  ·exact⟨c,nolog rfl⟩
  ·rename_i h1
   rw[if_neg h1]at hg
   by_cases hp:0≤x.p
   ·have ha:Hv (zN p0) H.S.G x.p (if 0≤x.h then(H.hand x.p).getD x.h.toNat au else gJ x.n):=by
     split
     ·exact Hv.getD (c.hand x.p hp) _
     ·exact Hv.int
    generalize (if 0≤x.h then(H.hand x.p).getD x.h.toNat au else gJ x.n)=arg at ha hg
    have r:=tX (yT p0 z) (ms:=H.ms) (p:=x.p) (f:=x.k) (fuel:=2000) (v:=arg) hp c.g c.kept ha
    have r2:=fun hz:z=true=>tX (Ei p0 hp0) (ms:=H.ms) (p:=x.p) (f:=x.k) (fuel:=2000) (v:=arg) (S:=H.S)
    generalize cM H.ms x.p x.k arg 2000 H.S=q at hg r r2
    obtain⟨S',v,n,k⟩:=q
    obtain⟨i1,i2,i3,_,ext,i5,i6⟩:=r
    refine⟨⟨hg,i1,i3,fun p hp v hv n hn=> ?_⟩,fun hz=> ?_⟩
    ·have:=c.hand p hp v hv n hn
     exact⟨(i2.has this.1).1,fun e=>by rw[Later.gates i2 c.g.wf i1.wf this.1];exact this.2 e⟩
    ·subst hz
     refine⟨ext,i5,fun e he=> ?_⟩
     obtain⟨_,G0,j1,j2,j3⟩:=i6 e he
     refine⟨CB j1 j3,fun hxp=> ?_⟩
     obtain⟨_,_,_,_,ext2,m5,m6⟩:=r2 rfl hxp.2 c.g (fun p hp=>c.kept p (by rw[hp];exact hp0)) ha
     have hext:ext=ext2:=List.append_cancel_left (i5.symm.trans m5)
     subst hext
     obtain⟨d,G1,_,_,j4⟩:=m6 e he
     exact CB j1 j3 d
   ·have hq:cM H.ms x.p x.k (if 0≤x.h then(H.hand x.p).getD x.h.toNat au else gJ x.n) 2000 H.S=(H.S,au,0,1):=by
     unfold cM
     rw[if_pos (by omega)]
    rw[hq]
    exact⟨c,nolog rfl⟩
 rw[if_neg k4]
 by_cases k5:x.kind=5
 ·rw[if_pos k5]
  exact⟨c.graph (c.g.cut _) (l6 _ _),nolog rfl⟩
 rw[if_neg k5]
 by_cases k6:x.kind=6
 ·rw[if_pos k6]
  exact⟨c.graph c.g.gate (iL _),nolog rfl⟩
 ·rw[if_neg k6]
  exact⟨c,nolog rfl⟩
theorem kK.shut {H:HoD} (c:kK p0 z H):kK p0 true (H.graph (H.S.G.cut 0).1):=by
 have hc:=G8 (G:=H.S.G) (g:=0) c.g.g0
 have g:=c.g.cut 0
 exact c.graph ⟨g.wf,g.g0,g.root,fun _=>hc.1⟩ (l6 _ _)
end
def tx (P:Int) (x:cr):cr:=if x.p=P∧(x.kind=2∨x.kind=3)then{x with g:=0}else x
def nM:cr:=⟨5,0,0,0,0,0,0,0,[]⟩
theorem Cc (P:Int) (x:cr):(tx P x).kind=x.kind∧(tx P x).p=x.p∧(tx P x).q=x.q∧(tx P x).m=x.m:=by
 unfold tx
 split<;>exact⟨rfl,rfl,rfl,rfl⟩
theorem Cq {P:Int} {x:cr} (h:¬ (x.kind=3∧x.q=P)):NX P (tx P x):=by
 obtain⟨a,b,c,_⟩:=Cc P x
 refine⟨fun hp hk=> ?_,by rw[a,c];exact h⟩
 rw[b]at hp
 rw[a]at hk
 unfold tx
 rw[if_pos ⟨hp,hk⟩]
section
variable {h h' h0:AH} {F J F0 J0:Nat→Prop} {L:List Asn} {c:WaC}
theorem M7 {es:List cD} {v11:AV} (hv:IsL tEn v11 (es.map cV)) (hel:es.length≤1000000) {bx:Nat} {x:cr} {m:AV} (hx:h'.cell bx=some [aO x m]) {P:Int} (hno:x.kind=4∧x.p=P→False):∀ (r pre:List cD) (v0 v1 v4 v5 v6 v7 v8 v10 v13 v14 v15 v16 v17 v18 v19 v20 v21:AV),es=pre++r→(∀ e∈r,e.plugin≠P)→
  ∃ w12 w21,(∀ K,aq (aj Try.prog po) 22 (.lp da:: .ss []:: .blk 2::K) [v0,v1,.int .i64 P,.bool false,v4,v5,v6,v7,v8,.ptr bx 0 0,v10,v11,.int .i64 (pre.length:Int),v13,v14,v15,v16,v17,v18,v19,v20,v21] [] h'=aq (aj Try.prog po) 22 K [v0,v1,.int .i64 P,.bool false,v4,v5,v6,v7,v8,.ptr bx 0 0,v10,v11,w12,v13,v14,v15,v16,v17,v18,v19,.bool false,w21] [] h'):=by
 intro r
 induction r with
 | nil=>
   intro pre v0 v1 v4 v5 v6 v7 v8 v10 v13 v14 v15 v16 v17 v18 v19 v20 v21 e he
   have d1:decide ((pre.length:Int)<(es.length:Int))=false:=decide_eq_false (by rw[e];simp)
   refine⟨.int .i64 (pre.length:Int),v21,fun K=> ?_⟩
   rw[aG da.eq_1]
   simp only[sim,ag,Nat.reduceAdd,Nat.reduceSub,List.replicate,reduceCtorEq,Nat.reduceLeDiff,Nat.reduceLT,aa,hv.len,hv.fits,List.length_map,d1]
 | cons y r ih=>
   intro pre v0 v1 v4 v5 v6 v7 v8 v10 v13 v14 v15 v16 v17 v18 v19 v20 v21 e he
   have hpl:pre.length<es.length:=by rw[e];simp
   have d1:decide ((pre.length:Int)<(es.length:Int))=true:=decide_eq_true (by omega)
   have ix:=hv.ix .i64 pre.length (cV y) (by rw[e];simp)
   have w1:=w64 (n:=(pre.length:Int)+1) (by omega) (by omega)
   have ek:((pre++[y]).length:Int)=(pre.length:Int)+1:=by simp
   have dp:decide (y.plugin=P)=false:=decide_eq_false (he y (by simp))
   obtain⟨w12,w21,r1⟩:=ih (pre++[y]) v0 v1 v4 v5 v6 v7 v8 v10 v13 v14 v15 v16 v17 v18 v19 (.bool true) (.bool false) (by simp[e]) (fun z hz=>he z (by simp[hz]))
   refine⟨w12,w21,fun K=> ?_⟩
   rw[←r1 K,ek]
   simp only[cV]at ix
   simp only[aO]at hx
   cases d4:decide (x.kind=4)with
   | false=>
     conv=>lhs;rw[aG da.eq_1]
     simp only[sim,ag,Nat.reduceAdd,Nat.reduceSub,List.replicate,reduceCtorEq,Nat.reduceLeDiff,Nat.reduceLT,aa,hv.len,hv.fits,List.length_map,d1,ix,dp,hx,d4,w1]
   | true=>
     have dq:decide (x.p=P)=false:=decide_eq_false fun h=>hno ⟨of_decide_eq_true d4,h⟩
     conv=>lhs;rw[aG da.eq_1]
     simp only[sim,ag,Nat.reduceAdd,Nat.reduceSub,List.replicate,reduceCtorEq,Nat.reduceLeDiff,Nat.reduceLT,aa,hv.len,hv.fits,List.length_map,d1,ix,dp,hx,d4,dq,w1]
set_option maxRecDepth 100000 in
set_option maxHeartbeats 8000000 in
theorem MU {v6 lv mv:AV} {rows:List (List AV)} {xs:List cr} (hs:IsL tSt v6 rows) (hl:eZ xs rows) (hxl:xs.length≤170) (hgr:∀ x∈xs,x.m.length≤100000∧∀ e∈x.m,e.size≤100000) {P:Int} (hP:0≤P∧P<4) {cut:Nat} (hcut:∀ x,xs[cut]? =some x→x=nM):∀ (l pre:List cr) (k:Nat) (h':AH) (W:WaD) (v5 v9 v10 v11 v12 v13 v14 v15 v16 v17 v18 v19 v20 v21:AV),xs=pre++l→k≤pre.length+1→OkW k W→kK P (decide (cut<pre.length)) W.H→St h0 F0 J0 h' (dN c W++L)→
  ∃ h'' V,(∀ K,aq (aj Try.prog po) 22 (.lp bS:: .ss []:: .blk 0::K) [lv,mv,.int .i64 P,.bool false,.ptr c.wt 0 0,v5,v6,.int .i64 (cut:Int),.int .i64 (pre.length:Int),v9,v10,v11,v12,v13,v14,v15,v16,v17,v18,v19,v20,v21] [] h'=aq (aj Try.prog po) 22 K (lv::mv:: .int .i64 P:: .bool false::V) [] h'')∧∃ W',St h0 F0 J0 h'' (dN c W'++L):=by
 have hll:=hl.len
 intro l
 induction l with
 | nil=>
   intro pre k h' W v5 v9 v10 v11 v12 v13 v14 v15 v16 v17 v18 v19 v20 v21 e hk o cc s
   have d1:decide ((pre.length:Int)<(xs.length:Int))=false:=decide_eq_false (by rw[e];simp)
   refine⟨h',[.ptr c.wt 0 0,v5,v6,.int .i64 (cut:Int),.int .i64 (pre.length:Int),v9,v10,v11,v12,v13,v14,v15,.bool false,v17,v18,v19,v20,v21],fun K=> ?_,W,s⟩
   rw[aG bS.eq_1]
   simp only[sim,ag,Nat.reduceAdd,Nat.reduceSub,List.replicate,reduceCtorEq,Nat.reduceLeDiff,Nat.reduceLT,aa,hs.len,hs.fits,hll,d1]
 | cons x l ih=>
   intro pre k h' W v5 v9 v10 v11 v12 v13 v14 v15 v16 v17 v18 v19 v20 v21 e hk o cc s
   have hpl:pre.length<xs.length:=by rw[e];simp
   have d1:decide ((pre.length:Int)<(xs.length:Int))=true:=decide_eq_true (by omega)
   have hi:xs[pre.length]? =some x:=by rw[e];simp
   obtain⟨m,ms,q1,q3,q4⟩:=hl.get hi
   have ix:=hs.ix .i64 pre.length _ q1
   obtain⟨g1,g2⟩:=hgr x (List.mem_of_getElem? hi)
   have w1:=w64 (n:=(pre.length:Int)+1) (by omega) (by omega)
   have ek:((pre++[x]).length:Int)=(pre.length:Int)+1:=by simp
   have la:ldA true 9 (aO x m) 0=some (.agg (aO x m)):=bv rfl
   have hm:m.one=true:=(fR.of (h:=h') q3 q4).one
   have hek:(pre++[x]).length=pre.length+1:=by simp
   -- the step aS it is handed on
   obtain⟨x1,ex1⟩:∃ x1,tx P x=x1:=⟨_,rfl⟩
   obtain⟨y1,y2,y3,y4⟩:=Cc P x
   have s1:=s.push [aO x1 m]
   have la1:ldA true 9 (aO x1 m) 0=some (.agg (aO x1 m)):=bv rfl
   have pg:∀ z,(h'.push z).cell h'.n=some z:=fun z=>aE
   have ps:∀ y z,(h'.push y).set h'.n (some z)=h'.push z:=fun y z=>bp
   have oh:=o.h.ok (by omega)
   have pw:=D7 s1 1 oh rfl rfl rfl
   have t1:=(Jb (c:=c.toHoC) s1 2 oh rfl rfl rfl rfl).lo
   have fw:∀ b,aH 0 (.ptr b 0 0)=some (.ptr b 0 0):=fun _=>rfl
   have fb:aH 1 (.ptr c.bb 0 0)=some (.ptr c.bb 0 1):=rfl
   rw[ex1]at y1 y2 y3 y4
   obtain⟨h2,r2,e2,v2,s2⟩:=AK (A:=[ai h'.n [aO x1 m]]) (B:=L) s1 o (by omega) x1 q3 (by rw[y4];exact q4) (by rw[y4];exact g1) (by rw[y4];exact g2)
   have o2:=o.step x1
   have oh2:=o2.h.ok (by omega)
   obtain⟨wH,_⟩:=KQ W x1
   have s2:St h0 F0 J0 h2 (ai h'.n [aO x1 m]::(dN c (W.step x1).1++L)):=s2
   have cx2:=(s2.cell 0 rfl).1
   have pw2:=D7 s2 1 oh2 rfl rfl rfl
   have t2:=(Jb (c:=c.toHoC) s2 2 oh2 rfl rfl rfl rfl).lo
   have nl:=ii tEn (W.H.S.log.map cV)
   obtain⟨pwa,pwb,pwc,_⟩:=pw
   obtain⟨pwa2,pwb2,pwc2,_⟩:=pw2
   -- skipped
   have goS:∀ w10 w11 w12 w16 w17 w18 w19 w20 w21,x.kind=3∧x.q=P→∃ h'' V,(∀ K,aq (aj Try.prog po) 22 (.lp bS:: .ss []:: .blk 0::K) [lv,mv,.int .i64 P,.bool false,.ptr c.wt 0 0,v5,v6,.int .i64 (cut:Int),.int .i64 ((pre.length:Int)+1),.ptr h'.n 0 0,w10,w11,w12,v13,v14,v15,w16,w17,w18,w19,w20,w21] [] (h'.push [aO x1 m])=aq (aj Try.prog po) 22 K (lv::mv:: .int .i64 P:: .bool false::V) [] h'')∧∃ W',St h0 F0 J0 h'' (dN c W'++L):=fun w10 w11 w12 w16 w17 w18 w19 w20 w21 hsk=>by
    have hne:pre.length≠cut:=fun hc=>by
     have:=hcut x (by rw[←hc];exact hi)
     rw[this]at hsk
     exact absurd hsk.1 (by decide)
    have hz:decide (cut<(pre++[x]).length)=decide (cut<pre.length):=by rw[decide_eq_decide,hek];omega
    obtain⟨h'',V,r,W',s'⟩:=ih (pre++[x]) k (h'.push [aO x1 m]) W v5 (.ptr h'.n 0 0) w10 w11 w12 v13 v14 v15 w16 w17 w18 w19 w20 w21 (by simp[e]) (by omega) o (by rw[hz];exact cc) s1.drop
    exact⟨h'',V,fun K=>by rw[←r K,ek],W',s'⟩
   -- done
   have goD:∀ w10 w11 w12 w16 w17 w18 w19 w20 w21,¬ (x.kind=3∧x.q=P)→∃ h'' V,(∀ K,aq (aj Try.prog po) 22 (.lp bS:: .ss []:: .blk 0::K) [lv,mv,.int .i64 P,.bool false,.ptr c.wt 0 0,v5,v6,.int .i64 (cut:Int),.int .i64 ((pre.length:Int)+1),.ptr h'.n 0 0,w10,w11,w12,v13,v14,v15,w16,w17,w18,w19,w20,w21] [] h2=aq (aj Try.prog po) 22 K (lv::mv:: .int .i64 P:: .bool false::V) [] h'')∧∃ W',St h0 F0 J0 h'' (dN c W'++L):=fun w10 w11 w12 w16 w17 w18 w19 w20 w21 hsk=>by
    have hx:=Cq hsk
    rw[ex1]at hx
    have hst:=(cc.step hP.1 hx).1
    have hc':kK P (decide (cut<(pre++[x]).length)) (W.step x1).1.H:=by
     rw[wH,hek]
     by_cases hc:pre.length=cut
     ·have hxS:=hcut x (by rw[←hc];exact hi)
      have e1:x1=nM:=by
       rw[←ex1,hxS]
       unfold tx
       rw[if_neg (by simp[nM])]
      have e3:(W.H.step nM).1=W.H.graph (W.H.S.G.cut 0).1:=rfl
      rw[e1,e3,decide_eq_true (show cut<pre.length+1 by omega)]
      exact cc.shut
     ·have hz:decide (cut<pre.length+1)=decide (cut<pre.length):=by rw[decide_eq_decide];omega
      rw[hz]
      exact hst
    obtain⟨h'',V,r,W',s'⟩:=ih (pre++[x]) (k+1) h2 (W.step x1).1 v5 (.ptr h'.n 0 0) w10 w11 w12 v13 v14 v15 w16 w17 w18 w19 w20 w21 (by simp[e]) (by omega) o2 hc' s2.drop
    exact⟨h'',V,fun K=>by rw[←r K,ek],W',s'⟩
   have hdc:decide ((pre.length:Int)≤(cut:Int))=decide (pre.length≤cut):=by rw[decide_eq_decide];omega
   -- the entries that came
   have hb1:∀ w16 w17 w18 w19 w20 w21,¬ (x.kind=3∧x.q=P)→¬ pre.length≤cut→∃ w12 w21',(∀ K,aq (aj Try.prog po) 22 (.lp da:: .ss []:: .blk 2::K) [lv,mv,.int .i64 P,.bool false,.ptr c.wt 0 0,v5,v6,.int .i64 (cut:Int),.int .i64 (pre.length:Int),.ptr h'.n 0 0,cT tEn (W.H.S.log.map cV),cT tEn ((W.step x1).1.H.S.log.map cV),.int .i64 (W.H.S.log.length:Int),v13,v14,v15,w16,w17,w18,w19,w20,w21] [] h2=aq (aj Try.prog po) 22 K [lv,mv,.int .i64 P,.bool false,.ptr c.wt 0 0,v5,v6,.int .i64 (cut:Int),.int .i64 (pre.length:Int),.ptr h'.n 0 0,cT tEn (W.H.S.log.map cV),cT tEn ((W.step x1).1.H.S.log.map cV),w12,v13,v14,v15,w16,w17,w18,w19,.bool false,w21'] [] h2):=fun w16 w17 w18 w19 w20 w21 hsk hle=>by
    have hx:=Cq hsk
    rw[ex1]at hx
    obtain⟨ext,h5,h6⟩:=(cc.step hP.1 hx).2 (decide_eq_true (by omega))
    have hlog:=oh2.log
    rw[wH]at hlog
    have nl2:=ii tEn ((W.H.step x1).1.S.log.map cV)
    rw[wH]
    by_cases hext:ext=[]
    ·subst hext
     rw[List.append_nil]at h5
     have d2:decide ((W.H.S.log.length:Int)<((W.H.step x1).1.S.log.length:Int))=false:=decide_eq_false (by rw[h5];omega)
     refine⟨.int .i64 (W.H.S.log.length:Int),w21,fun K=> ?_⟩
     rw[aG da.eq_1]
     simp only[sim,ag,Nat.reduceAdd,Nat.reduceSub,List.replicate,reduceCtorEq,Nat.reduceLeDiff,Nat.reduceLT,aa,nl2.len,nl2.fits,List.length_map,d2]
    ·obtain⟨e0,he0⟩:=List.exists_mem_of_ne_nil ext hext
     exact M7 nl2 (by omega) cx2 (fun hh=>(h6 e0 he0).2 hh) ext W.H.S.log lv mv (.ptr c.wt 0 0) v5 v6 (.int .i64 (cut:Int)) (.int .i64 (pre.length:Int)) (cT tEn (W.H.S.log.map cV)) v13 v14 v15 w16 w17 w18 w19 w20 w21 h5 fun e he=>(h6 e he).1
   have fin:∀ (dP d2 d3 dQ:Bool),decide (x.p=P)=dP→decide (x.kind=2)=d2→decide (x.kind=3)=d3→decide (x.q=P)=dQ→∃ h'' V,(∀ K,aq (aj Try.prog po) 22 (.lp bS:: .ss []:: .blk 0::K) [lv,mv,.int .i64 P,.bool false,.ptr c.wt 0 0,v5,v6,.int .i64 (cut:Int),.int .i64 (pre.length:Int),v9,v10,v11,v12,v13,v14,v15,v16,v17,v18,v19,v20,v21] [] h'=aq (aj Try.prog po) 22 K (lv::mv:: .int .i64 P:: .bool false::V) [] h'')∧∃ W',St h0 F0 J0 h'' (dN c W'++L):=by
    intro dP d2 d3 dQ eP e2' e3 eQ
    have hcx:aO x1 m=[.int .i64 x.kind,.int .i64 x.p,.int .i64 x.q,.int .i64 x.k,.int .i64 x.h,.int .i64 x.r,.int .i64 (if(dP && (d2 || d3))=true then 0 else x.g),.int .i64 x.n,m]:=by
     rw[←ex1,←eP,←e2',←e3]
     unfold tx
     by_cases hh:x.p=P∧(x.kind=2∨x.kind=3)
     ·rw[if_pos hh,if_pos (by simpa using hh)];rfl
     ·rw[if_neg hh,if_neg (by simpa using hh)];rfl
    have hsk:(x.kind=3∧x.q=P)↔(d3 && dQ)=true:=by rw[←e3,←eQ];simp
    rw[hcx]at e2 t1 pwa pwb pwc la1 goS cx2 s2
    simp only[aO]at ix la
    by_cases hskip:x.kind=3∧x.q=P
    ·obtain⟨h'',V,r,W',s'⟩:=goS v10 v11 v12 (.bool true) (.bool (dP && (d2 || d3))) (.bool true) v19 v20 v21 hskip
     refine⟨h'',V,fun K=> ?_,W',s'⟩
     rw[←r K]
     rw[hsk]at hskip
     cases dP<;>cases d2<;>cases d3<;>cases dQ<;>first
      | (exact absurd hskip (by decide))
      | (conv=>lhs;rw[aG bS.eq_1]
         simp only[sim,ag,Nat.reduceAdd,Nat.reduceSub,List.replicate,reduceCtorEq,Nat.reduceLeDiff,Nat.reduceLT,aa,hs.len,hs.fits,hll,d1,ix,la,hm,pg,ps,eP,e2',e3,eQ,w1,Bool.and_true,Bool.true_and,Bool.false_and,Bool.and_false,Bool.or_true,Bool.or_false,Bool.true_or,Bool.false_or]
         done)
    ·by_cases hle:pre.length≤cut
     ·obtain⟨h'',V,r,W',s'⟩:=goD (cT tEn (W.H.S.log.map cV)) v11 v12 (.bool true) (.bool (dP && (d2 || d3))) (.bool false) (.bool true) v20 v21 hskip
      refine⟨h'',V,fun K=> ?_,W',s'⟩
      rw[←r K]
      have dle:decide ((pre.length:Int)≤(cut:Int))=true:=by rw[hdc];exact decide_eq_true hle
      rw[hsk]at hskip
      cases dP<;>cases d2<;>cases d3<;>cases dQ<;>first
       | (exact absurd rfl hskip)
       | (simp only[Bool.false_and,Bool.true_and,Bool.or_true,Bool.or_false,Bool.true_or,Bool.false_or,Bool.false_eq_true,if_true,if_false]at e2 t1 pwa pwb pwc la1
          conv=>lhs;rw[aG bS.eq_1]
          simp only[sim,ag,Nat.reduceAdd,Nat.reduceSub,List.replicate,reduceCtorEq,Nat.reduceLeDiff,Nat.reduceLT,aa,az,hs.len,hs.fits,hll,d1,ix,la,la1,hm,pg,ps,eP,e2',e3,eQ,fw,fb,pwa,pwb,pwc,t1,e2,dle,w1,Bool.and_true,Bool.true_and,Bool.false_and,Bool.and_false,Bool.or_true,Bool.or_false,Bool.true_or,Bool.false_or]
          done)
     ·obtain⟨w12,w21',r1⟩:=hb1 (.bool true) (.bool (dP && (d2 || d3))) (.bool false) (.bool false) v20 v21 hskip hle
      obtain⟨h'',V,r,W',s'⟩:=goD (cT tEn (W.H.S.log.map cV)) (cT tEn ((W.step x1).1.H.S.log.map cV)) w12 (.bool true) (.bool (dP && (d2 || d3))) (.bool false) (.bool false) (.bool false) w21' hskip
      refine⟨h'',V,fun K=> ?_,W',s'⟩
      rw[←r K]
      have dle:decide ((pre.length:Int)≤(cut:Int))=false:=by rw[hdc];exact decide_eq_false hle
      rw[hsk]at hskip
      cases dP<;>cases d2<;>cases d3<;>cases dQ<;>first
       | (exact absurd rfl hskip)
       | (simp only[Bool.false_and,Bool.true_and,Bool.or_true,Bool.or_false,Bool.true_or,Bool.false_or,Bool.false_eq_true,if_true,if_false]at e2 t1 pwa pwb pwc la1 r1
          conv=>lhs;rw[aG bS.eq_1]
          simp only[sim,ag,Nat.reduceAdd,Nat.reduceSub,List.replicate,reduceCtorEq,Nat.reduceLeDiff,Nat.reduceLT,aa,az,hs.len,hs.fits,hll,d1,ix,la,la1,hm,pg,ps,eP,e2',e3,eQ,fw,fb,pwa,pwb,pwc,t1,e2,dle,pwa2,pwb2,pwc2,t2,nl.len,nl.fits,List.length_map,Bool.and_true,Bool.true_and,Bool.false_and,Bool.and_false,Bool.or_true,Bool.or_false,Bool.true_or,Bool.false_or]
          rw[r1]
          simp only[sim,ag,Nat.reduceAdd,Nat.reduceSub,List.replicate,reduceCtorEq,Nat.reduceLeDiff,Nat.reduceLT,aa,w1]
          done)
   exact fin _ _ _ _ rfl rfl rfl rfl
end
theorem O9:(Try.prog).underlying 50=some (.slice 56):=by kernel_rfl
theorem JI:nK Try.prog 56=some [3,3,3,3,3,3,3,2,48]:=by kernel_rfl
theorem NN:(Try.prog).underlying 2=some (.int .i64):=by kernel_rfl
theorem Og {α:Type} {l:List α} (h:l.length=9):∃ a b c d e f g i j,l=[a,b,c,d,e,f,g,i,j]:=by
 match l,h with
 | [a,b,c,d,e,f,g,i,j],_=>exact⟨a,b,c,d,e,f,g,i,j,rfl⟩
theorem MB {n:Nat} {r:List AV} (h:TyA Try.prog n 56 r):∃ (x:cr) (m:AV) (ms:List (List AV)),r=aO x m∧SlA tE m ms∧ExL x.m ms:=by
 obtain⟨m2,rfl,parts,rfl,hl,hf⟩:=pk JI h
 obtain⟨p0,a0,_,b0⟩:=hf 0 _ rfl
 obtain⟨p1,a1,_,b1⟩:=hf 1 _ rfl
 obtain⟨p2,a2,_,b2⟩:=hf 2 _ rfl
 obtain⟨p3,a3,_,b3⟩:=hf 3 _ rfl
 obtain⟨p4,a4,_,b4⟩:=hf 4 _ rfl
 obtain⟨p5,a5,_,b5⟩:=hf 5 _ rfl
 obtain⟨p6,a6,_,b6⟩:=hf 6 _ rfl
 obtain⟨p7,a7,_,b7⟩:=hf 7 _ rfl
 obtain⟨p8,a8,_,b8⟩:=hf 8 _ rfl
 obtain⟨z0,rfl,_⟩:=iZ sj b0
 obtain⟨z1,rfl,_⟩:=iZ sj b1
 obtain⟨z2,rfl,_⟩:=iZ sj b2
 obtain⟨z3,rfl,_⟩:=iZ sj b3
 obtain⟨z4,rfl,_⟩:=iZ sj b4
 obtain⟨z5,rfl,_⟩:=iZ sj b5
 obtain⟨z6,rfl,_⟩:=iZ sj b6
 obtain⟨z7,rfl,_⟩:=iZ NN b7
 obtain⟨M,v,es,rfl,hv,hM⟩:=Mz b8
 obtain⟨c0,c1,c2,c3,c4,c5,c6,c7,c8,rfl⟩:=Og hl
 obtain rfl:=Option.some.inj a0
 obtain rfl:=Option.some.inj a1
 obtain rfl:=Option.some.inj a2
 obtain rfl:=Option.some.inj a3
 obtain rfl:=Option.some.inj a4
 obtain rfl:=Option.some.inj a5
 obtain rfl:=Option.some.inj a6
 obtain rfl:=Option.some.inj a7
 obtain rfl:=Option.some.inj a8
 exact⟨⟨z0,z1,z2,z3,z4,z5,z6,z7,M⟩,v,es,by simp only[List.flatten_cons,List.flatten_nil,List.append_nil,List.cons_append,List.nil_append];rfl,hv,hM⟩
theorem yU:∀ {es:List (List AV)},(∀ r∈es,∃ (x:cr) (m:AV) (ms:List (List AV)),r=aO x m∧SlA tE m ms∧ExL x.m ms)→∃ xs,eZ xs es
 | [],_=>⟨[],rfl⟩
 | r::es,h=>by
   obtain⟨x,m,ms,rfl,h1,h2⟩:=h r (by simp)
   obtain⟨xs,hx⟩:=yU fun q hq=>h q (List.mem_cons_of_mem _ hq)
   exact⟨x::xs,m,ms,es,rfl,h1,h2,hx⟩
theorem Dq {n:Nat} {av:AV} (h:TyA Try.prog n 50 [av]):∃ (es:List (List AV)) (xs:List cr),SlA tSt av es∧eZ xs es∧xs.length≤9223372036854775807:=by
 obtain⟨m,v,es,rfl,e,hv,hlen,hr⟩:=Aw O9 h
 obtain rfl:av=v:=by simpa using e
 obtain⟨xs,hx⟩:=yU (es:=es) fun r hr'=>MB (hr r hr').2
 refine⟨es,xs,hv.sla,hx,?_⟩
 rw[←hx.len]
 unfold maxLen at hlen
 omega
def Gk:List TypeId:=[3,2,46,44,48,56,50]
theorem yX:vU Try.prog Gk=true:=by kernel_rfl
theorem N6 (m:Int):(IntKind.wrap .u64 m).tmod 4=0∨(IntKind.wrap .u64 m).tmod 4=1∨(IntKind.wrap .u64 m).tmod 4=2∨(IntKind.wrap .u64 m).tmod 4=3:=by
 have h1:0≤IntKind.wrap .u64 m:=by rw[IntKind.wrap_u64];omega
 rw[Int.tmod_eq_emod_of_nonneg h1]
 omega
theorem eZ.append:∀ {xs ys:List cr} {es fs:List (List AV)},eZ xs es→eZ ys fs→eZ (xs++ys) (es++fs)
 | [],ys,es,fs,h,g=>by simp only[eZ]at h;subst h;exact g
 | x::xs,ys,es,fs,h,g=>by
   obtain⟨m,ms,rs,rfl,h1,h2,h3⟩:=h
   exact⟨m,ms,rs++fs,rfl,h1,h2,h3.append g⟩
theorem eZ.one {xs:List cr} {es:List (List AV)} (h:eZ xs es):∀ r∈es,r.all AV.one=true:=by
 intro r hr
 obtain⟨i,hi⟩:=List.mem_iff_getElem?.1 hr
 have hl:=h.len
 have hx:i<xs.length:=by rw[←hl];exact(List.getElem?_eq_some_iff.1 hi).1
 obtain⟨m,ms,q1,q3,q4⟩:=h.get (List.getElem?_eq_getElem hx)
 rw[hi]at q1
 injection q1 with q1
 have:=(fR.of (h:=h0A) q3 q4).one
 rw[q1]
 simp only[aO,List.all_cons,List.all_nil,this]
 rfl
section
variable {h h' h0:AH} {F J F0 J0:Nat→Prop} {L:List Asn}
theorem qJ {e:TypeId} {id:Nat} {es rows:List (List AV)} {v:AV} (hv:SlA e v rows) (hw:h'.hw id=es.length) (hid:h.ids≤id∧id<h'.ids) (g:af h h') (h1:∀ r∈rows,r.all AV.one=true) (hl1:es.length≤1000000) (hl2:rows.length≤1000000):
  ∃ h'',aA false e (.isl (some id) e es) v h'=some (.isl (some id) e (es++rows),h'')∧h''.hw id=(es++rows).length∧id<h''.ids∧af h h''∧h''.cell=h'.cell∧h''.n=h'.n∧h''.ids=h'.ids:=by
 by_cases hz:rows=[]
 ·subst hz
  refine⟨h',?_,by simpa using hw,hid.2,g,rfl,rfl,rfl⟩
  rcases hv with⟨_,rfl⟩ | ⟨id2,rfl⟩
  ·simp[aA,jq]
  ·simp[aA,bD,jq]
 ·have hpos:0<rows.length:=List.length_pos_iff.2 hz
  obtain⟨id2,rfl⟩:∃ id2,v= .isl id2 e rows:=by
   rcases hv with⟨h,_⟩ | h
   ·exact absurd h hz
   ·exact h
  refine⟨h'.grow id (es.length+rows.length),?_,by simp[AH.grow],hid.2,g.grow hid.1,rfl,rfl,rfl⟩
  have ho:(rows.all fun x=>x.all AV.one)=true:=List.all_eq_true.2 h1
  simp only[aA,bD,if_true,Option.bind_some]
  rw[if_neg (by omega)]
  unfold d9
  rw[if_pos ⟨hpos,hl2,ho⟩]
  simp only[hw]
  rw[if_pos ⟨trivial,trivial,hl1⟩]
set_option maxRecDepth 100000 in
set_option maxHeartbeats 2000000 in
theorem wd {lv mv:AV} {rl rm:List (List AV)} {xl xm:List cr} (hs:SlA tSt lv rl) (hl:eZ xl rl) (hml:xl.length≤9223372036854775807) (hs2:SlA tSt mv rm) (hl2:eZ xm rm) (hml2:xm.length≤9223372036854775807) (p:Int):aj Try.prog po 9 [lv,mv,.int .i64 p] h=some (.inl (.bool true),h):=by
 have s0:St h (fun _=>False) (fun _=>False) h []:=St.start (aY.nil _ _ _ (fun _ h=>h) (fun _ h=>h))
 have gh1:=fun(h:AH)=>lu (h:=h) hs hl hml 100 (by decide)
 have gh2:=fun(h:AH)=>lu (h:=h) hs2 hl2 hml2 60 (by decide)
 have e100:((100:Nat):Int)=100:=rfl
 have e60:((60:Nat):Int)=60:=rfl
 simp only[e100]at gh1
 simp only[e60]at gh2
 cases hg1:oZ xl 100 with
 | true=>
   rw[hg1]at gh1
   refine ah lG rfl ?_;unfold jx
   simp only[sim,ag,Nat.reduceAdd,Nat.reduceSub,List.replicate,reduceCtorEq,Nat.reduceLeDiff,Nat.reduceLT,aa,i8,gh1]
 | false=>
   rw[hg1]at gh1
   cases hg2:oZ xm 60 with
   | true=>
     rw[hg2]at gh2
     refine ah lG rfl ?_;unfold jx
     simp only[sim,ag,Nat.reduceAdd,Nat.reduceSub,List.replicate,reduceCtorEq,Nat.reduceLeDiff,Nat.reduceLT,aa,i8,gh1,gh2]
   | false=>
     rw[hg2]at gh2
     obtain⟨hx1,hgr1⟩:=vB hg1
     obtain⟨hx2,hgr2⟩:=vB hg2
     have r4:((4:Int)=0)=False:=by simp
     have hP:=N6 p
     have w1:IntKind.wrap .i64 ((IntKind.wrap .u64 p).tmod 4)=(IntKind.wrap .u64 p).tmod 4:=w64 (by omega) (by omega)
     obtain⟨P,eP⟩:∃ P,(IntKind.wrap .u64 p).tmod 4=P:=⟨_,rfl⟩
     rw[eP]at hP w1
     obtain⟨h2,c,e2,s2⟩:=zF s0
     let gS:cr:=⟨6,0,0,0,0,0,0,0,[]⟩
     obtain⟨h3,r3,e3,v3,s3⟩:=AK (A:=[]) (B:=[]) (c:=c) s2 wC (by decide) gS (m:= .nils) (.inl ⟨rfl,rfl⟩) rfl (by decide) (fun x hx=>by cases hx)
     have ev3:(wa0.step gS).2.1=⟨0,0,gJ 0⟩∧(wa0.step gS).2.2=(0,0):=by constructor<;>rfl
     rw[ev3.1]at v3
     obtain⟨q3,rfl,w3⟩:=v3
     have w3':VaA (gJ 0) q3:=w3
     obtain⟨u3,rfl,u3o⟩:=w3'.cells3
     have e3:aj Try.prog po 36 [.ptr c.wt 0 0,.agg [.int .i64 6,.int .i64 0,.int .i64 0,.int .i64 0,.int .i64 0,.int .i64 0,.int .i64 0,.int .i64 0,.nils]] h2=some (.inl (.tup [.agg [.int .i64 0,.int .i64 0,.int .i64 1,.int .i64 0,u3],.agg [.int .i64 0,.int .i64 0]]),h3):=by
      have:=e3
      rw[ev3.2]at this
      exact this
     have o1:OkW 1 (wa0.step gS).1:=wC.step gS
     have hc0:kK P false (wa0.step gS).1.H:=by
      have hH:(wa0.step gS).1.H=ho0.graph G0.gate.1:=rfl
      have hg0:G0.gate.1=⟨[],[false]⟩:=rfl
      rw[hH,hg0]
      refine⟨?_,⟨FT.gate,by rfl,fun i nd h=>by have h:([]:List aV)[i]? =some nd:=h;simp at h,fun h=>by cases h⟩,fun q _ n hn=> ?_,fun q _ v hv=> ?_⟩
      ·have:=o1.h.good
       rw[hH,hg0]at this
       exact this
      ·exfalso
       have hk:(ho0.graph ⟨[],[false]⟩).S.kept=qS:=rfl
       rw[hk]at hn
       have hz:qS.getD q.toNat au=au:=by
        have:q.toNat=0∨q.toNat=1∨q.toNat=2∨q.toNat=3∨4≤q.toNat:=by omega
        rcases this with e | e | e | e | e
        ·rw[e];rfl
        ·rw[e];rfl
        ·rw[e];rfl
        ·rw[e];rfl
        ·rw[List.getD,List.getElem?_eq_none (by simpa using e)];rfl
       rw[hz,vk]at hn
       cases hn
      ·exfalso
       unfold HoD.hand at hv
       have hk:(ho0.graph ⟨[],[false]⟩).hands=[[],[],[],[]]:=rfl
       rw[hk]at hv
       have hz:([[],[],[],[]]:List (List VD)).getD q.toNat []=[]:=by
        have:q.toNat=0∨q.toNat=1∨q.toNat=2∨q.toNat=3∨4≤q.toNat:=by omega
        rcases this with e | e | e | e | e
        ·rw[e];rfl
        ·rw[e];rfl
        ·rw[e];rfl
        ·rw[e];rfl
        ·rw[List.getD,List.getElem?_eq_none (by simpa using e)];rfl
       rw[hz]at hv
       cases hv
     have s4:=(s3.push [[.int .i64 0,.int .i64 0,.int .i64 1,.int .i64 0,u3]]).push [[.int .i64 0,.int .i64 0]]
     have c1:=(s4.cell 1 rfl).1
     have q1:∀ x y z,(((h3.push x).push y).set h3.n (some z))=(h3.push z).push y:=fun x y z=>by rw[pZ (Nat.lt_succ_self _),bp]
     have q2:∀ x y z,(((h3.push x).push y).set (h3.n+1) (some z))=(h3.push x).push z:=fun x y z=>bp (h:=h3.push x)
     have q3':∀ x y,((h3.push x).push y).cell h3.n=some x:=fun x y=>gA
     have q4:∀ x y,((h3.push x).push y).cell (h3.n+1)=some y:=fun x y=>cj
     -- all steps,one behind the other
     obtain⟨hh,ehh⟩:∃ hh,(h3.push [[.int .i64 0,.int .i64 0,.int .i64 1,.int .i64 0,u3]]).push [[.int .i64 0,.int .i64 0]]=hh:=⟨_,rfl⟩
     have qs:hh.set (h3.n+1) (some [[.int .i64 0,.int .i64 0]])=hh:=by rw[←ehh];exact q2 _ _ _
     rw[ehh]at s4 c1
     have c0:hh.cell (h3.n+1)=some [[.int .i64 0,.int .i64 0]]:=(s4.cell 0 rfl).1
     obtain⟨h5,a5,b5,d5,g5,_,_,i5⟩:=qJ (h:=hh) (h':=hh.fresh 0) (es:=[]) (id:=hh.ids) hs iW ⟨Nat.le_refl _,Nat.lt_succ_self _⟩ (af.fresh hh 0) hl.one (by simp) (by have:=hl.len;omega)
     rw[List.nil_append]at a5 b5
     have hn5:hh.ids≠h5.ids:=by omega
     obtain⟨h6,a6,b6,d6,g6,_,_,i6⟩:=qJ (h:=hh) (h':=h5.fresh 1) (es:=rl) (id:=hh.ids) (v:= .isl (some h5.ids) tSt [aO nM .nils]) (.inr ⟨_,rfl⟩) (by rw[fG hn5];exact b5) ⟨Nat.le_refl _,by simp only[lW];omega⟩ (g5.trans (af.fresh _ _)) (fun r hr=>by rcases List.mem_singleton.1 hr with rfl;rfl) (by have:=hl.len;omega) (by simp)
     obtain⟨h7,a7,b7,d7,g7,_,_,i7⟩:=qJ (h:=hh) (h':=h6) (es:=rl++[aO nM .nils]) (id:=hh.ids) hs2 b6 ⟨Nat.le_refl _,d6⟩ g6 hl2.one (by have:=hl.len;simp;omega) (by have:=hl2.len;omega)
     have s7:=s4.grew g7
     have hc:eZ [nM] [aO nM .nils]:=⟨.nils,[],[],rfl,.inl ⟨rfl,rfl⟩,rfl,rfl⟩
     have hall:=(hl.append hc).append hl2
     have hcut:∀ x,(xl++[nM]++xm)[xl.length]? =some x→x=nM:=fun x hx=>by
      rw[List.append_assoc,List.getElem?_append_right (Nat.le_refl _)]at hx
      simp at hx
      exact hx.symm
     obtain⟨h8,V,r8,W',s8⟩:=MU (L:=[ai (h3.n+1) [[.int .i64 0,.int .i64 0]],ai h3.n [[.int .i64 0,.int .i64 0,.int .i64 1,.int .i64 0,u3]]]) (c:=c) (lv:=lv) (mv:=mv) (kj (some hh.ids) tSt (rl++[aO nM .nils]++rm)) hall (by simp;omega) (fun x hx=>by
      rcases List.mem_append.1 hx with hx | hx
      ·rcases List.mem_append.1 hx with hx | hx
       ·exact hgr1 x hx
       ·obtain rfl:x=nM:=by simpa using hx
        exact⟨by decide,fun e he=>by cases he⟩
      ·exact hgr2 x hx) (P:=P) (by omega) (cut:=xl.length) hcut (xl++[nM]++xm) [] 1 h7 (wa0.step gS).1 (.ptr h3.n 0 0) .junk .junk .junk .junk (.bool false) (.bool false) (.bool false) .junk .junk .junk .junk .junk .junk rfl (by decide) o1 (by simpa using hc0) (s7.imp fun _ _ _ x=>St.perm (by
       have:List.Perm ([ai (h3.n+1) [[.int .i64 0,.int .i64 0]],ai h3.n [[.int .i64 0,.int .i64 0,.int .i64 1,.int .i64 0,u3]]]++dN c (wa0.step gS).1) (dN c (wa0.step gS).1++[ai (h3.n+1) [[.int .i64 0,.int .i64 0]],ai h3.n [[.int .i64 0,.int .i64 0,.int .i64 1,.int .i64 0,u3]]]):=List.perm_append_comm
       exact this) x)
     simp only[List.length_nil,Int.natCast_zero]at r8
     have g8:=s8.grewA
     have hll:=hl.len
     simp only[aO,nM]at a6 a7 r8
     refine ah lG rfl ?_;unfold jx
     simp only[sim,ag,Nat.reduceAdd,Nat.reduceSub,List.replicate,reduceCtorEq,Nat.reduceLeDiff,Nat.reduceLT,aa,i8,gh1,gh2,r4,if_false,eP,w1,e2,e3,u3o,q1,q2,q3',q4,ehh,c0,qs,c1,eq_self,decide_true,a5,hs.isL.len,hs.isL.fits,hll,a6,a7]
     rw[r8]
     simp only[sim,ag,Nat.reduceAdd,Nat.reduceSub,List.replicate,reduceCtorEq,Nat.reduceLeDiff,Nat.reduceLT,aa]
     exact aD g8 rfl
end
theorem tG {n0 n1:Nat} {lv mv:AV} {x0 x1:Value} (a2:Int) (W:World) (t0:TyA Try.prog n0 50 [lv]) (u0:VR Try.prog (m0A W) h0A lv x0) (t1:TyA Try.prog n1 50 [mv]) (u1:VR Try.prog (m0A W) h0A mv x1) (_:IP a2):
  Law Try.prog 9 #[x0,x1,.int .i64 a2] W:=by
 obtain⟨es,xs,hs,hl,hml⟩:=Dq t0
 obtain⟨es2,xs2,hs2,hl2,hml2⟩:=Dq t1
 exact MA (vs:=[x0,x1,.int .i64 a2]) (wd hs hl hml hs2 hl2 hml2 a2) (VRs.cons u0 (VRs.cons u1 (VRs.cons (NG a2) VRs.nil)))
end Go.Proofs.Ytkdbjfncchmmpaa
