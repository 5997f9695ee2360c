/- Asked again it is the same: the law's loops. -/
import Derived.Test.YtkdbjfncchmmpaaGreatMg7
namespace Go.Proofs.YtkdbjfncchmmpaaGreat
open Nat (reduceAdd reduceSub reduceLeDiff reduceLT)
open List (replicate)
set_option linter.unusedSimpArgs false
set_option linter.unusedVariables false
open Go
abbrev tCl:TypeId:=37
structure kb where
 (p f fuel:Int)
 v:VD
def MB (c:kb) (r:List AV):Prop:=∃ q0 q1 q2,r=[.int .i64 c.p,.int .i64 c.f,.int .i64 c.fuel,q0,q1,q2]∧VaA c.v [q0,q1,q2]
def B0 (cs:List kb) (rows:List (List AV)):Prop:=rows.length=cs.length∧∀ (i:Nat) (c:kb),cs[i]? =some c→∃ r,rows[i]? =some r∧MB c r
theorem Bl:∀ {es:List (List AV)},(∀ r∈es,∃ c,MB c r)→∃ cs,B0 cs es
 | [],_=>⟨[],rfl,fun i c h=>by simp at h⟩
 | r::es,h=>by
   obtain⟨c,hc⟩:=h r (by simp)
   obtain⟨cs,h1,h2⟩:=Bl fun q hq=>h q (List.mem_cons_of_mem _ hq)
   refine⟨c::cs,by simp[h1],fun i d hi=> ?_⟩
   cases i with
   | zero=>
     obtain rfl:c=d:=by simpa using hi
     exact⟨r,rfl,hc⟩
   | succ i=>exact h2 i d (by simpa using hi)
def evD (q:StD×VD×Int×Int):EvD:=⟨q.2.2.2,q.2.2.1,q.2.1⟩
def oB (ms:aI):List kb→StD→List EvD
 | [],_=>[]
 | c::l,S=>evD (cG ms c.p c.f c.v c.fuel S)::oB ms l (cG ms c.p c.f c.v c.fuel S).1
def rL (ms:aI):List kb→StD→StD
 | [],S=>S
 | c::l,S=>rL ms l (cG ms c.p c.f c.v c.fuel S).1
theorem B5 (ms:aI):∀ (l:List kb) (S:StD) (n:Nat),S.Good→S.log.length≤2000*n→(rL ms l S).Good∧(rL ms l S).log.length≤2000*(n+l.length)
 | [],S,n,g,h=>⟨g,h⟩
 | c::l,S,n,g,h=>by
   obtain⟨h1,h2,_⟩:=oX (ms:=ms) g (p:=c.p) (f:=c.f) (fuel:=c.fuel) (v:=c.v)
   have:=B5 ms l _ (n+1) h1 (by omega)
   refine⟨this.1,?_⟩
   have:=this.2
   simp only[List.length_cons]
   have e:n+1+l.length=n+(l.length+1):=by omega
   rw[e]at this
   exact this
abbrev pu (hb' nb':Nat) (GN':ae) (cb:BxC) (Sb:StD) (hb nb:Nat) (GN:ae) (ca:BxC) (Sa:StD) (L:List Asn):List Asn:=mf hb' nb'::aM nb' GN'::cJ cb.bb cb.gb cb.wb cb.ms Sb.kept::aM cb.gb Sb.G::aY cb.wb Sb.cells Sb.log::mf hb nb::aM nb GN::cJ ca.bb ca.gb ca.wb ca.ms Sa.kept::aM ca.gb Sa.G::aY ca.wb Sa.cells Sa.log::L
structure Ll (ms:aI):Prop where
 len:ms.length=4
 g:lh ms
 z:ie ms
section
variable {h h' h0:AH} {F J F0 J0:Nat→Prop} {L:List Asn}
theorem xM {v:VD} (h:v.great=false):v.size≤100000:=by
 unfold VD.great at h
 simp only[decide_eq_false_iff_not]at h
 omega
set_option maxRecDepth 100000 in
set_option maxHeartbeats 8000000 in
theorem HA {mv lv kv:AV} {rows:List (List AV)} {cs:List kb} (hk:IsL tCl kv rows) (hl:B0 cs rows) (hcl:cs.length≤30) {hb' nb':Nat} {GN':ae} {cb:BxC} {Sb:StD} {hb nb:Nat} {GN:ae} {ca:BxC} (mo:Ll ca.ms) (v5 v11 v12 v13 v14 v15 v16 v19 v20:AV):∀ (l pre:List kb) (h':AH) (S:StD) (es:List EvD) (ev:AV) (erows:List (List AV)) (v8 v9 v10 v17 v18:AV),cs=pre++l→es.length=pre.length→CB es erows→S.Good→S.log.length≤2000*pre.length→St h0 F0 J0 h' (pu hb' nb' GN' cb Sb hb nb GN ca S [eU tEv ev erows])→
  (∃ V h'',(∀ K,ap (ai Tryz.prog po) 21 (.lp dn:: .ss []:: .blk 0::K) [mv,lv,kv,.bool false,.ptr ca.bb 0 0,v5,ev,.int .i64 (pre.length:Int),v8,v9,v10,v11,v12,v13,v14,v15,v16,v17,v18,v19,v20] [] h'=some (.ret,V,h''))∧V.getD 3 .junk= .bool true∧∃ L',St h0 F0 J0 h'' L')∨
  (∃ h'' ev' erows' w7 w8 w9 w10 w17 w18,(∀ K,ap (ai Tryz.prog po) 21 (.lp dn:: .ss []:: .blk 0::K) [mv,lv,kv,.bool false,.ptr ca.bb 0 0,v5,ev,.int .i64 (pre.length:Int),v8,v9,v10,v11,v12,v13,v14,v15,v16,v17,v18,v19,v20] [] h'=ap (ai Tryz.prog po) 21 K [mv,lv,kv,.bool false,.ptr ca.bb 0 0,v5,ev',w7,w8,w9,w10,v11,v12,v13,v14,v15,v16,w17,w18,v19,v20] [] h'')∧(∀ c∈l,c.v.great=false)∧CB (es++oB ca.ms l S) erows'∧St h0 F0 J0 h'' (pu hb' nb' GN' cb Sb hb nb GN ca (rL ca.ms l S) [eU tEv ev' erows'])):=by
 intro l
 induction l with
 | nil=>
   intro pre h' S es ev erows v8 v9 v10 v17 v18 e hel he hS hn s
   have d1:decide ((pre.length:Int)<(cs.length:Int))=false:=decide_eq_false (by rw[e];simp)
   refine .inr ⟨h',ev,erows,.int .i64 (pre.length:Int),v8,v9,v10,.bool false,v18,fun K=> ?_,(fun c hc=>by cases hc),by simpa[oB]using he,s⟩
   rw[aC dn.eq_1]
   simp only[sim,af,reduceAdd,reduceSub,replicate,reduceCtorEq,reduceLeDiff,reduceLT,aa,hk.len,hk.fits,hl.1,d1]
 | cons x l ih=>
   intro pre h' S es ev erows v8 v9 v10 v17 v18 e hel he hS hn s
   have hpl:pre.length<cs.length:=by rw[e];simp
   have d1:decide ((pre.length:Int)<(cs.length:Int))=true:=decide_eq_true (by omega)
   have hi:cs[pre.length]? =some x:=by rw[e];simp
   obtain⟨r,a1,q0,q1,q2,rfl,hv⟩:=hl.2 _ x hi
   have ix:=hk.ix .i64 pre.length _ a1
   have w1:=w64 (n:=(pre.length:Int)+1) (by omega) (by omega)
   have ek:((pre++[x]).length:Int)=(pre.length:Int)+1:=by simp
   have ekn:(pre++[x]).length=pre.length+1:=by simp
   have l3:ldA true 3 [.int .i64 x.p,.int .i64 x.f,.int .i64 x.fuel,q0,q1,q2] 3=some (.agg [q0,q1,q2]):=rfl
   have gv:=fun(h:AH)=>vk (h:=h) hv
   cases hg:x.v.great with
   | true=>
     rw[hg]at gv
     refine .inl ⟨[mv,lv,kv,.bool true,.ptr ca.bb 0 0,v5,ev,.int .i64 (pre.length:Int),v8,v9,v10,v11,v12,v13,v14,v15,v16,.bool true,.bool true,v19,v20],h',fun K=> ?_,rfl,_,s⟩
     rw[aC dn.eq_1]
     simp only[sim,af,reduceAdd,reduceSub,replicate,reduceCtorEq,reduceLeDiff,reduceLT,aa,au,hk.len,hk.fits,hl.1,d1,ix,l3,gv]
   | false=>
     rw[hg]at gv
     have a7:AtB ca (pu hb' nb' GN' cb Sb hb nb GN ca S [eU tEv ev erows]) 7 S:=⟨rfl,rfl,rfl⟩
     obtain⟨h2,r2,e2,v2,s2⟩:=tZ s a7 ⟨mo.len,mo.g,mo.z,hS,by omega⟩ hv (xM hg) x.p x.f x.fuel
     obtain⟨k1,k2,_⟩:=oX (ms:=ca.ms) hS (p:=x.p) (f:=x.f) (fuel:=x.fuel) (v:=x.v)
     have er:oB ca.ms (x::l) S=evD (cG ca.ms x.p x.f x.v x.fuel S)::oB ca.ms l (cG ca.ms x.p x.f x.v x.fuel S).1:=rfl
     have ee:rL ca.ms (x::l) S=rL ca.ms l (cG ca.ms x.p x.f x.v x.fuel S).1:=rfl
     have s2:St h0 F0 J0 h2 (pu hb' nb' GN' cb Sb hb nb GN ca (cG ca.ms x.p x.f x.v x.fuel S).1 [eU tEv ev erows]):=s2
     have e2:ai Tryz.prog po 12 [.ptr ca.bb 0 0,.int .i64 x.p,.int .i64 x.f,.agg [q0,q1,q2],.int .i64 x.fuel] h'=_:=e2
     rw[er,ee]
     generalize cG ca.ms x.p x.f x.v x.fuel S=q at*
     obtain⟨S2,vv,n2,c2⟩:=q
     simp only at e2 v2 s2 k1 k2
     obtain⟨u2,rfl,u2o⟩:=v2.cells3
     have s3:=s2.push [[.int .i64 vv.kind,.int .i64 vv.n,u2]]
     have hvr:EvR (evD (S2,vv,n2,c2)) (evR c2 n2 [.int .i64 vv.kind,.int .i64 vv.n,u2]):=⟨_,rfl,v2⟩
     have hro:(evR c2 n2 [.int .i64 vv.kind,.int .i64 vv.n,u2]).all AV.one=true:=by
      simp only[evR,List.all_cons,List.all_nil,u2o]
      rfl
     have hel2:erows.length=pre.length:=by rw[he.1,hel]
     obtain⟨h4,ev',ea,s4⟩:=KO s3 11 rfl hro (by omega)
     have s4:St h0 F0 J0 h4 (ah h2.n [[.int .i64 vv.kind,.int .i64 vv.n,u2]]::pu hb' nb' GN' cb Sb hb nb GN ca S2 [eU tEv ev' (erows++[evR c2 n2 [.int .i64 vv.kind,.int .i64 vv.n,u2]])]):=s4
     have pg:∀ z,(h2.push z).cell h2.n=some z:=fun z=>aT
     have ps:∀ y z,(h2.push y).set h2.n (some z)=h2.push z:=fun y z=>fz
     simp only[f8]at ea
     have ih2:=ih (pre++[x]) h4 S2 (es++[evD (S2,vv,n2,c2)]) ev' (erows++[evR c2 n2 [.int .i64 vv.kind,.int .i64 vv.n,u2]]) (.ptr h2.n 0 0) (.int .i64 n2) (.int .i64 c2) (.bool true) (.bool false) (by simp[e]) (by simp[hel]) (he.snoc hvr) k1 (by rw[ekn];omega) s4.drop
     rcases ih2 with⟨V,h7,r7,hV,L7,s7⟩ | ⟨h7,ev7,er7,w7,w8,w9,w10,w17,w18,r7,hng,he7,s7⟩
     ·refine .inl ⟨V,h7,fun K=> ?_,hV,L7,s7⟩
      rw[←r7 K,ek]
      conv=>lhs;rw[aC dn.eq_1]
      simp only[sim,af,reduceAdd,reduceSub,replicate,reduceCtorEq,reduceLeDiff,reduceLT,aa,au,hk.len,hk.fits,hl.1,d1,ix,l3,gv,e2,pg,ps,u2o]
      rw[ea]
      simp only[sim,af,reduceAdd,reduceSub,replicate,reduceCtorEq,reduceLeDiff,reduceLT,aa,w1]
     ·refine .inr ⟨h7,ev7,er7,w7,w8,w9,w10,w17,w18,fun K=> ?_,fun c hc=> ?_,by simpa using he7,s7⟩
      ·rw[←r7 K,ek]
       conv=>lhs;rw[aC dn.eq_1]
       simp only[sim,af,reduceAdd,reduceSub,replicate,reduceCtorEq,reduceLeDiff,reduceLT,aa,au,hk.len,hk.fits,hl.1,d1,ix,l3,gv,e2,pg,ps,u2o]
       rw[ea]
       simp only[sim,af,reduceAdd,reduceSub,replicate,reduceCtorEq,reduceLeDiff,reduceLT,aa,w1]
      ·rcases List.mem_cons.1 hc with rfl | hc
       ·exact hg
       ·exact hng c hc
set_option maxRecDepth 100000 in
set_option maxHeartbeats 8000000 in
theorem Hb {mv lv kv:AV} {rows:List (List AV)} {cs:List kb} (hk:IsL tCl kv rows) (hl:B0 cs rows) (hcl:cs.length≤30) (hng:∀ c∈cs,c.v.great=false) {hb' nb':Nat} {GN':ae} {cb:BxC} {hb nb:Nat} {GN:ae} {ca:BxC} {Sa:StD} (mo:Ll cb.ms) {ev:AV} {es:List EvD} {erows:List (List AV)} (hev:IsL tEv ev erows) (he:CB es erows) (v4 v7 v8 v9 v10 v15 v16 v17 v18:AV):∀ (l pre:List kb) (pe:List EvD) (h':AH) (S:StD) (v12 v13 v14 v19 v20:AV),cs=pre++l→es=pe++oB cb.ms l S→pe.length=pre.length→S.Good→S.log.length≤2000*pre.length→St h0 F0 J0 h' (pu hb' nb' GN' cb S hb nb GN ca Sa L)→
  ∃ h'' w11 w12 w13 w14 w19 w20,(∀ K,ap (ai Tryz.prog po) 21 (.lp gP:: .ss []:: .blk 2::K) [mv,lv,kv,.bool false,v4,.ptr cb.bb 0 0,ev,v7,v8,v9,v10,.int .i64 (pre.length:Int),v12,v13,v14,v15,v16,v17,v18,v19,v20] [] h'=ap (ai Tryz.prog po) 21 K [mv,lv,kv,.bool false,v4,.ptr cb.bb 0 0,ev,v7,v8,v9,v10,w11,w12,w13,w14,v15,v16,v17,v18,w19,w20] [] h'')∧St h0 F0 J0 h'' (pu hb' nb' GN' cb (rL cb.ms l S) hb nb GN ca Sa L):=by
 intro l
 induction l with
 | nil=>
   intro pre pe h' S v12 v13 v14 v19 v20 e hes hpe hS hn s
   have d1:decide ((pre.length:Int)<(cs.length:Int))=false:=decide_eq_false (by rw[e];simp)
   refine⟨h',.int .i64 (pre.length:Int),v12,v13,v14,.bool false,v20,fun K=> ?_,s⟩
   rw[aC gP.eq_1]
   simp only[sim,af,reduceAdd,reduceSub,replicate,reduceCtorEq,reduceLeDiff,reduceLT,aa,hk.len,hk.fits,hl.1,d1]
 | cons x l ih=>
   intro pre pe h' S v12 v13 v14 v19 v20 e hes hpe hS hn s
   have hpl:pre.length<cs.length:=by rw[e];simp
   have d1:decide ((pre.length:Int)<(cs.length:Int))=true:=decide_eq_true (by omega)
   have hi:cs[pre.length]? =some x:=by rw[e];simp
   obtain⟨r,a1,q0,q1,q2,rfl,hv⟩:=hl.2 _ x hi
   have ix:=hk.ix .i64 pre.length _ a1
   have w1:=w64 (n:=(pre.length:Int)+1) (by omega) (by omega)
   have ek:((pre++[x]).length:Int)=(pre.length:Int)+1:=by simp
   have ekn:(pre++[x]).length=pre.length+1:=by simp
   have l3:ldA true 3 [.int .i64 x.p,.int .i64 x.f,.int .i64 x.fuel,q0,q1,q2] 3=some (.agg [q0,q1,q2]):=rfl
   have hg:=hng x (List.mem_of_getElem? hi)
   have a2:AtB cb (pu hb' nb' GN' cb S hb nb GN ca Sa L) 2 S:=⟨rfl,rfl,rfl⟩
   obtain⟨h2,r2,e2,v2,s2⟩:=tZ s a2 ⟨mo.len,mo.g,mo.z,hS,by omega⟩ hv (xM hg) x.p x.f x.fuel
   obtain⟨k1,k2,k3⟩:=oX (ms:=cb.ms) hS (p:=x.p) (f:=x.f) (fuel:=x.fuel) (v:=x.v)
   have er:oB cb.ms (x::l) S=evD (cG cb.ms x.p x.f x.v x.fuel S)::oB cb.ms l (cG cb.ms x.p x.f x.v x.fuel S).1:=rfl
   have ee:rL cb.ms (x::l) S=rL cb.ms l (cG cb.ms x.p x.f x.v x.fuel S).1:=rfl
   have s2:St h0 F0 J0 h2 (pu hb' nb' GN' cb (cG cb.ms x.p x.f x.v x.fuel S).1 hb nb GN ca Sa L):=s2
   have e2:ai Tryz.prog po 12 [.ptr cb.bb 0 0,.int .i64 x.p,.int .i64 x.f,.agg [q0,q1,q2],.int .i64 x.fuel] h'=_:=e2
   rw[er]at hes
   rw[ee]
   generalize cG cb.ms x.p x.f x.v x.fuel S=q at*
   obtain⟨S2,vv,n2,c2⟩:=q
   simp only at e2 v2 s2 k1 k2 k3 hes
   have hie:es[pre.length]? =some (evD (S2,vv,n2,c2)):=by rw[hes,←hpe];simp
   obtain⟨rr,b1,b2⟩:=he.2 _ _ hie
   have iy:=hev.ix .i64 pre.length _ b1
   have hvr:EvR (evD (S2,vv,n2,c2)) (evR c2 n2 r2):=⟨_,rfl,v2⟩
   have se:=fun(h:AH)=>rO (h:=h) b2 hvr k3.2
   simp only[decide_true,pB,Bool.true_and]at se
   obtain⟨u2,rfl,u2o⟩:=v2.cells3
   obtain⟨q5,rfl,z5⟩:=b2
   obtain⟨u5,rfl,u5o⟩:=z5.cells3
   have l5:ldA true 5 (evR (evD (S2,vv,n2,c2)).code (evD (S2,vv,n2,c2)).fuel [.int .i64 (evD (S2,vv,n2,c2)).v.kind,.int .i64 (evD (S2,vv,n2,c2)).v.n,u5]) 0=some (.agg (evR (evD (S2,vv,n2,c2)).code (evD (S2,vv,n2,c2)).fuel [.int .i64 (evD (S2,vv,n2,c2)).v.kind,.int .i64 (evD (S2,vv,n2,c2)).v.n,u5])):=br rfl
   have s3:=s2.push [[.int .i64 vv.kind,.int .i64 vv.n,u2]]
   have pg:∀ z,(h2.push z).cell h2.n=some z:=fun z=>aT
   have ps:∀ y z,(h2.push y).set h2.n (some z)=h2.push z:=fun y z=>fz
   obtain⟨h7,w11,w12,w13,w14,w19,w20,r7,s7⟩:=ih (pre++[x]) (pe++[evD (S2,vv,n2,c2)]) (h2.push [[.int .i64 vv.kind,.int .i64 vv.n,u2]]) S2 (.ptr h2.n 0 0) (.int .i64 n2) (.int .i64 c2) (.bool true) (.bool false) (by simp[e]) (by rw[hes];simp) (by simp[hpe]) k1 (by rw[ekn];omega) s3.drop
   refine⟨h7,w11,w12,w13,w14,w19,w20,fun K=> ?_,s7⟩
   rw[←r7 K,ek]
   simp only[evR]at iy se l5
   conv=>lhs;rw[aC gP.eq_1]
   simp only[sim,af,reduceAdd,reduceSub,replicate,reduceCtorEq,reduceLeDiff,reduceLT,aa,au,hk.len,hk.fits,hl.1,d1,ix,iy,l3,l5,e2,pg,ps,u2o,hev.fits,se,Bool.not_true,w1]
theorem Ke (n:dE):cX [.int .i64,.int .i64,.int .i64,.int .i64] (eL n) (eL n)=some true:=by
 unfold eL
 simp only[cX,if_true,Option.map_some,Bool.and_true,beq_self_eq_true]
theorem Hl (n:dE) (kd:Kd) (cy:Bool):je kd (some [.int .i64,.int .i64,.int .i64,.int .i64]) cy .neq (.agg (eL n)) (.agg (eL n))=some (.bool false):=by
 simp only[je,Option.bind_some,Ke,Option.map_some,Bool.not_true]
theorem oH {es:List dE} {v w:AV} (hv:IsL tEn v (es.map eL)) (hw:IsL tEn w (es.map eL)) (hl:es.length≤1000000):ai Tryz.prog po 16 [v,w] h=some (.inl (.bool true),h):=by
 have lp:∀ (l pre:List dE) (v4 v5 v6:AV),es=pre++l→∃ w3 w5 w6,∀ K,ap (ai Tryz.prog po) 7 (.lp dL:: .ss []:: .blk 0::K) [v,w,.bool false,.int .i64 (pre.length:Int),v4,v5,v6] [] h=ap (ai Tryz.prog po) 7 K [v,w,.bool false,w3,v4,w5,w6] [] h:=by
  intro l
  induction l with
  | nil=>
    intro pre v4 v5 v6 e
    have d1:decide ((pre.length:Int)<(es.length:Int))=false:=decide_eq_false (by rw[e];simp)
    refine⟨.int .i64 (pre.length:Int),.bool false,v6,fun K=> ?_⟩
    rw[aC dL.eq_1]
    simp only[sim,af,reduceAdd,reduceSub,replicate,reduceCtorEq,reduceLeDiff,reduceLT,aa,hv.len,hv.fits,List.length_map,d1]
  | cons x l ih=>
    intro pre v4 v5 v6 e
    have hpl:pre.length<es.length:=by rw[e];simp
    have d1:decide ((pre.length:Int)<(es.length:Int))=true:=decide_eq_true (by omega)
    have ix:=hv.ix .i64 pre.length (eL x) (by rw[e];simp)
    have iy:=hw.ix .i64 pre.length (eL x) (by rw[e];simp)
    have la:ldA true 4 (eL x) 0=some (.agg (eL x)):=br rfl
    have w1:=w64 (n:=(pre.length:Int)+1) (by omega) (by omega)
    have ek:((pre++[x]).length:Int)=(pre.length:Int)+1:=by simp
    obtain⟨w3,w5,w6,r⟩:=ih (pre++[x]) v4 (.bool true) (.bool false) (by simp[e])
    refine⟨w3,w5,w6,fun K=> ?_⟩
    rw[←r K,ek]
    conv=>lhs;rw[aC dL.eq_1]
    simp only[sim,af,reduceAdd,reduceSub,replicate,reduceCtorEq,reduceLeDiff,reduceLT,aa,hv.len,hv.fits,hw.fits,List.length_map,d1,ix,iy,la,Hl,w1]
 obtain⟨w3,w5,w6,r⟩:=lp es [] (.bool false) .junk .junk rfl
 have hq:decide ((es.length:Int)=(es.length:Int))=true:=decide_eq_true rfl
 simp only[List.length_nil,Int.natCast_zero]at r
 refine ag qK rfl ?_;unfold kD
 simp only[sim,af,reduceAdd,reduceSub,replicate,reduceCtorEq,reduceLeDiff,reduceLT,aa,hv.len,hv.fits,hw.len,hw.fits,List.length_map,hq,Bool.not_true]
 rw[r]
 simp only[sim,af,reduceAdd,reduceSub,replicate,reduceCtorEq,reduceLeDiff,reduceLT,aa]
end
section
variable {h:AH}
set_option maxRecDepth 100000 in
set_option maxHeartbeats 4000000 in
theorem yE {mv lv kv:AV} {rows krows:List (List AV)} {Ms:List (List XD)} (hm:SlA tMo mv rows) (hl:nC Ms rows) (hml:Ms.length≤9223372036854775807) {xs:List fx} (hs:IsL tGs lv (xs.map dT)) {cs:List kb} (hk:IsL tCl kv krows) (hkl:B0 cs krows):
  ai Tryz.prog po 3 [mv,lv,kv] h=some (.inl (.bool true),h):=by
 have s0:St h (fun _=>False) (fun _=>False) h []:=St.start (bh.nil _ _ _ (fun _ h=>h) (fun _ h=>h))
 have s1:St h (fun _=>False) (fun _=>False) h [eU tEv .nils []]:=s0.add (ab.refl _) Fb (fun _ h=>h.elim) (fun _ h=>h.elim)
 have gm:=fun(h:AH)=>nM (h:=h) hm hl hml
 cases hgm:pT Ms with
 | true=>
   rw[hgm]at gm
   refine ag ja rfl ?_;unfold gX
   simp only[sim,af,reduceAdd,reduceSub,replicate,reduceCtorEq,reduceLeDiff,reduceLT,aa,au,gn,gm]
 | false=>
   rw[hgm]at gm
   by_cases hx:100<xs.length
   ·have d1:decide ((100:Int)<(xs.length:Int))=true:=decide_eq_true (by omega)
    refine ag ja rfl ?_;unfold gX
    simp only[sim,af,reduceAdd,reduceSub,replicate,reduceCtorEq,reduceLeDiff,reduceLT,aa,au,gn,gm,hs.len,hs.fits,List.length_map,d1]
   ·have d1:decide ((100:Int)<(xs.length:Int))=false:=decide_eq_false (by omega)
    by_cases hc:30<cs.length
    ·have d2:decide ((30:Int)<(cs.length:Int))=true:=decide_eq_true (by omega)
     refine ag ja rfl ?_;unfold gX
     simp only[sim,af,reduceAdd,reduceSub,replicate,reduceCtorEq,reduceLeDiff,reduceLT,aa,au,gn,gm,hs.len,hs.fits,List.length_map,d1,hk.len,hk.fits,hkl.1,d2]
    ·have d2:decide ((30:Int)<(cs.length:Int))=false:=decide_eq_false (by omega)
     obtain⟨hml2,hgr⟩:=vB hgm
     obtain⟨h2,bb,gb,wb,hb,nb,GN,e2,s2⟩:=vK s1 hm hl hml2 hgr hs (by omega)
     obtain⟨h3,bb',gb',wb',hb',nb',GN',e3,s3⟩:=vK s2 hm hl hml2 hgr hs (by omega)
     have mo:Ll (cB Ms 4):=⟨cE Ms 4,(wM Ms 4).good,(wM Ms 4).sized⟩
     have s3:St h (fun _=>False) (fun _=>False) h3 (pu hb' nb' GN' ⟨bb',gb',wb',cB Ms 4⟩ (vJ xs) hb nb GN ⟨bb,gb,wb,cB Ms 4⟩ (vJ xs) [eU tEv .nils []]):=s3
     have lp:=HA (mv:=mv) (lv:=lv) hk hkl (by omega) (cb:=⟨bb',gb',wb',cB Ms 4⟩) (ca:=⟨bb,gb,wb,cB Ms 4⟩) mo (.ptr bb' 0 0) .junk .junk .junk .junk (.bool false) (.bool false) .junk .junk cs [] h3 (vJ xs) [] .nils [] .junk .junk .junk .junk .junk rfl rfl ⟨rfl,fun i e h=>by simp at h⟩ (nD xs) (Nat.zero_le _) s3
     simp only[List.length_nil,Int.natCast_zero]at lp
     rcases lp with⟨V,h4,r4,hV,L4,s4⟩ | ⟨h4,ev,erows,w7,w8,w9,w10,w17,w18,r4,hng,he,s4⟩
     ·have g4:=s4.grewA
      refine ag ja rfl ?_;unfold gX
      simp only[sim,af,reduceAdd,reduceSub,replicate,reduceCtorEq,reduceLeDiff,reduceLT,aa,au,gn,gm,hs.len,hs.fits,List.length_map,d1,hk.len,hk.fits,hkl.1,d2,e2,e3]
      rw[r4]
      simp only[sim,af,reduceAdd,reduceSub,replicate,reduceCtorEq,reduceLeDiff,reduceLT,aa,hV]
      exact az g4 rfl
     ·obtain⟨F4,J4,gx⟩:=s4.get 10 rfl
      have hev:=(E8 gx).isL
      rw[List.nil_append]at he
      obtain⟨h5,u11,u12,u13,u14,u19,u20,r5,s5⟩:=Hb (mv:=mv) (lv:=lv) hk hkl (by omega) hng (cb:=⟨bb',gb',wb',cB Ms 4⟩) (ca:=⟨bb,gb,wb,cB Ms 4⟩) mo hev he (.ptr bb 0 0) w7 w8 w9 w10 (.bool false) (.bool false) w17 w18 cs [] [] h4 (vJ xs) .junk .junk .junk .junk .junk rfl (by simp) rfl (nD xs) (Nat.zero_le _) s4
      simp only[List.length_nil,Int.natCast_zero]at r5
      obtain⟨k1,k2⟩:=B5 (cB Ms 4) cs (vJ xs) 0 (nD xs) (Nat.zero_le _)
      generalize hE:rL (cB Ms 4) cs (vJ xs)=S at*
      have s5:St h (fun _=>False) (fun _=>False) h5 (pu hb' nb' GN' ⟨bb',gb',wb',cB Ms 4⟩ S hb nb GN ⟨bb,gb,wb,cB Ms 4⟩ S [eU tEv ev erows]):=s5
      have hkl2:(cB Ms 4).length=S.kept.length:=by rw[cE,k1.kept]
      have ba:=jo s5 (ib:=7) rfl hkl2
      have bB:=jo s5 (ib:=2) rfl hkl2
      obtain⟨F5,J5,ga⟩:=s5.get 8 rfl
      obtain⟨F6,J6,gB⟩:=s5.get 3 rfl
      have na:=Bj ga k1.wf
      have nB:=Bj gB k1.wf
      have la:=Bk s5 9 rfl k1.cells (by omega)
      have lB:=Bk s5 4 rfl k1.cells (by omega)
      have sn:=xc (h:=h5) S.G.nodes S.G.nodes _ _ (iJ _ _) (iJ _ _) (by have:=k1.wf.few;omega)
      have sE:=oH (h:=h5) (iJ tEn (S.log.map eL)) (iJ tEn (S.log.map eL)) (by omega)
      simp only[decide_true]at sn
      have g5:=s5.grewA
      have f0:∀ b,aH 0 (.ptr b 0 0)=some (.ptr b 0 0):=fun _=>rfl
      have f1:∀ b,aH 1 (.ptr b 0 0)=some (.ptr b 0 1):=fun _=>rfl
      have la0:=ba.1 1
      have la1:=ba.2 1
      have lb0:=bB.1 1
      have lb1:=bB.2 1
      simp only at la0 la1 lb0 lb1 na nB la lB
      refine ag ja rfl ?_;unfold gX
      simp only[sim,af,reduceAdd,reduceSub,replicate,reduceCtorEq,reduceLeDiff,reduceLT,aa,au,gn,gm,hs.len,hs.fits,List.length_map,d1,hk.len,hk.fits,hkl.1,d2,e2,e3]
      rw[r4]
      simp only[sim,af,reduceAdd,reduceSub,replicate,reduceCtorEq,reduceLeDiff,reduceLT,aa]
      rw[r5]
      simp only[sim,af,reduceAdd,reduceSub,replicate,reduceCtorEq,reduceLeDiff,reduceLT,aa,au,f0,f1,la0,la1,lb0,lb1,na,nB,sn,la,lB,sE]
      exact az g5 rfl
end
theorem Kc:(Tryz.prog).underlying 24=some (.slice 37):=by kernel_rfl
def Ap:List TypeId:=[3,2,35,33,37,24]
theorem zP:mB Tryz.prog Ap=true:=by kernel_rfl
theorem wU {n0 n1 n2:Nat} {mv lv kv:AV} {x0 x1 x2:Value} (W:World) (t0:TyA Tryz.prog n0 22 [mv]) (u0:VR Tryz.prog (m0A W) h0A mv x0) (t1:TyA Tryz.prog n1 23 [lv]) (u1:VR Tryz.prog (m0A W) h0A lv x1) (t2:TyA Tryz.prog n2 24 [kv]) (u2:VR Tryz.prog (m0A W) h0A kv x2):
  Law Tryz.prog 3 #[x0,x1,x2] W:=by
 obtain⟨es,Ms,hm,hl,hml⟩:=Hx t0
 obtain⟨xs,hs⟩:=DN t1
 obtain⟨m,v,ks,rfl,e,hv,hlen,hr⟩:=ni Kc t2
 obtain rfl:kv=v:=by simpa using e
 obtain⟨cs,hc⟩:=Bl (es:=ks) fun r hr'=>by
  obtain⟨p,f,fuel,x,q,rfl,hx⟩:=G4 (hr r hr').2
  obtain⟨q0,q1,q2,rfl⟩:∃ a b c,q=[a,b,c]:=by match q,hx.len3.1 with | [a,b,c],_=>exact⟨a,b,c,rfl⟩
  exact⟨⟨p,f,fuel,x⟩,q0,q1,q2,rfl,hx⟩
 exact Kq (vs:=[x0,x1,x2]) (yE hm hl hml hs hv.sla.isL hc) (VRs.cons u0 (VRs.cons u1 (VRs.cons u2 VRs.nil)))
end Go.Proofs.YtkdbjfncchmmpaaGreat
