/- What is loaded anew keeps nothing: the law. Nodes, cells, log of a house, as they are told; what is refused changes nothing. What is refused changes nothing: the law. What the laws of houses are handed: steps. The laws of houses, from what is handed in. -/
import Derived.Test.YtkdbjfncchmmpaaMg7
namespace Go.Proofs.Ytkdbjfncchmmpaa
set_option linter.unusedSimpArgs false
set_option linter.unusedVariables false
open Go
section
variable {h:AH}
set_option maxRecDepth 100000 in
set_option maxHeartbeats 2000000 in
theorem qr {lv:AV} {rows:List (List AV)} {xs:List de} (hs:SlA tSt lv rows) (hl:iJ xs rows) (hml:xs.length≤9223372036854775807) {x:de} {m:AV} {ms:List (List AV)} (q3:SlA tE m ms) (q4:ExL x.m ms):
  aj Try.prog po 7 [lv,.agg (aW x m)] h=some (.inl (.bool true),h):=by
 have s0:St h (fun _=>False) (fun _=>False) h []:=St.start (aX.nil _ _ _ (fun _ h=>h) (fun _ h=>h))
 have s1:=s0.push [aW x m]
 have c1:=(s1.cell 0 rfl).1
 have g1:=s1.grewA
 have mm:∀ h,fI h m x.m:=fun h=>fI.of q3 q4
 have om:=(mm h).one
 have gh:=fun(h:AH)=>kh (h:=h) hs hl hml 100 (by decide)
 have gx:=fun(h:AH)=>sT (h:=h) m x.m (mm h)
 have lm:ldA true 1 (aW x m) 8=some (.agg [m]):=rfl
 have e100:((100:Nat):Int)=100:=rfl
 simp only[e100]at gh
 cases hg:nO xs 100 with
 | true=>
   rw[hg]at gh
   simp only[aW]at c1
   refine ah iW rfl ?_;unfold fV
   simp only[sim,ag,Nat.reduceAdd,Nat.reduceSub,List.replicate,reduceCtorEq,Nat.reduceLeDiff,Nat.reduceLT,aa,aW,om,d8,gh]
   exact aB g1 rfl
 | false=>
   rw[hg]at gh
   obtain⟨hxl,hgr⟩:=uv hg
   cases hgx:fe x.m with
   | true=>
     rw[hgx]at gx
     simp only[aW]at c1 lm
     refine ah iW rfl ?_;unfold fV
     simp only[sim,ag,Nat.reduceAdd,Nat.reduceSub,List.replicate,reduceCtorEq,Nat.reduceLeDiff,Nat.reduceLT,aa,az,aW,om,d8,gh,c1,lm,gx]
     exact aB g1 rfl
   | false=>
     rw[hgx]at gx
     obtain⟨gm1,gm2⟩:=yj hgx
     obtain⟨h2,c,e2,s2⟩:=u9 s1
     obtain⟨h3,w5,w14,r3,s3⟩:=Fh (lv:=lv) (xa:= .agg (aW x m)) (hx:=h.n) hs hl hxl hgr xs [] h2 ho0 .junk .junk .junk .junk .junk .junk (.bool false) (.bool false) .junk .junk .junk .junk .junk rfl rQ s2
     have oH:mo xs.length (ho0.steps xs):=by have:=yr xs rQ;rwa [Nat.zero_add]at this
     generalize ho0.steps xs=H at s3 oH
     have s4:=s3.push [lQ]
     have s5:St h _ _ _ (snL h3.n (h3.n+1) lQ lU c H [ai h.n [aW x m]]):=s4.push [lU]
     obtain⟨h6,hsv,ksv,w8,w15,r6,sn,s6⟩:=GM (lv:=lv) (xa:= .agg (aW x m)) (hx:=h.n) (oH.ok (by omega)) 4 0 _ lQ lU .junk .junk .junk (.bool false) (.bool false) w14 .junk .junk .junk .junk w5 rfl (uk H) s5
     have cx6:=(s6.cell 6 rfl).1
     have x1e:stA (aW x m) 0 [.int .i64 1]=aW {x with kind:=1} m:=rfl
     have s7:St h _ _ _ (snL h3.n (h3.n+1) hsv ksv c H [ai h.n [aW {x with kind:=1} m]]):=s6.set 6 rfl [aW {x with kind:=1} m]
     have cx7:=(s7.cell 6 rfl).1
     obtain⟨h8,r8,e8,v8,s8⟩:=nU (A:=[ai (h3.n+1) [ksv],ai h3.n [hsv]]) (B:=[ai h.n [aW {x with kind:=1} m]]) s7 (oH.ok (by omega)) {x with kind:=1} q3 q4 (by show x.m.length≤100000;omega) (fun e he=>by have:=gm2 e he;omega)
     obtain⟨z1,z2⟩:=v8.all
     obtain⟨q8,rfl,w8v⟩:=v8
     have s9:St h _ _ _ (frL h.n h3.n (h3.n+1) h8.n {x with kind:=1} m hsv ksv (evR (H.step {x with kind:=1}).2.code (H.step {x with kind:=1}).2.fuel q8) c (H.step {x with kind:=1}).1 []):=s8.push [_]
     have o8:OkH (H.step {x with kind:=1}).1:=(oH.step {x with kind:=1}).ok (by omega)
     have hst:H.step {x with kind:=1}=((H.load x.p x.m).1,.no (H.load x.p x.m).2):=CV rfl
     obtain⟨f1,_,f3⟩:=zz (H:=H) (p:=x.p) (m:=x.m)
     have hk:∀ j:Nat,j<4→(H.step {x with kind:=1}).1.keptO j=if(j:Int)=x.p∧(H.step {x with kind:=1}).2.code=0 then ay else H.keptO j:=fun j hj=>by
      rw[hst]
      have hin:inP (j:Int)=true:=by rw[iM];omega
      unfold HoD.keptO
      rw[if_pos hin,if_pos hin]
      exact f3 j
     obtain⟨h10,w10,w11,w16,w17,w18,r10,s10⟩:=EP (lv:=lv) (xa:= .agg (aW x m)) (x:={x with kind:=1}) (oH.ok (by omega)) o8 (by rw[hst];exact f1) hk sn 4 0 _ w5 w8 .junk (.bool false) (.bool false) w14 w15 .junk .junk .junk rfl s9
     simp only[List.length_nil,Int.natCast_zero]at r3 r6 r10
     have g10:=s10.grewA
     have la:ldA true 9 (aW {x with kind:=1} m) 0=some (.agg (aW {x with kind:=1} m)):=bI rfl
     simp only[aW,evR]at c1 lm cx6 x1e cx7 e8 la z1 z2 e2
     refine ah iW rfl ?_;unfold fV
     simp only[sim,ag,Nat.reduceAdd,Nat.reduceSub,List.replicate,reduceCtorEq,Nat.reduceLeDiff,Nat.reduceLT,aa,az,aW,om,d8,gh,c1,lm,gx,e2]
     simp only[aW]at r3 r6 r10
     rw[r3]
     simp only[sim,ag,Nat.reduceAdd,Nat.reduceSub,List.replicate,reduceCtorEq,Nat.reduceLeDiff,Nat.reduceLT,aa]
     rw[r6]
     simp only[sim,ag,Nat.reduceAdd,Nat.reduceSub,List.replicate,reduceCtorEq,Nat.reduceLeDiff,Nat.reduceLT,aa,cx6,x1e,cx7,la,e8,z1,z2]
     rw[r10]
     simp only[sim,ag,Nat.reduceAdd,Nat.reduceSub,List.replicate,reduceCtorEq,Nat.reduceLeDiff,Nat.reduceLT,aa]
     exact aB g10 rfl
end
section
variable {h h' h0:AH} {F J F0 J0:Nat→Prop} {L:List Asn} {c:HoC} {H:HoD}
theorem wN {log:List ff}:∀ r∈log.map jp,r.all AV.one=true∧r.all kv=true:=fun r hr=>by
 obtain⟨e,_,rfl⟩:=List.mem_map.1 hr
 exact⟨rfl,rfl⟩
theorem Ak (id:Option Nat) (rows:List (List AV)) (hf:∀ r∈rows,r.all AV.one=true∧r.all kv=true) (hl:rows.length≤1000000):
  aj Try.prog po 63 [.isl id tEn rows] h=some (.inl (.isl none tEn rows),h):=by
 refine ah tJ rfl ?_;unfold nX
 have e1:aH false tEn (.isl (some h.ids) tEn []) (.isl id tEn rows) (h.fresh 0)=some (.isl (some h.ids) tEn rows,if rows.length=0 then h.fresh 0 else(h.fresh 0).grow h.ids rows.length):=by
  simp only[aH,bH,if_true,Option.bind_some]
  by_cases hz:rows.length=0
  ·simp[hz,j0,List.length_eq_zero_iff.1 hz]
  ·rw[if_neg hz,if_neg hz]
   unfold dX
   rw[if_pos ⟨by omega,by omega,by rw[List.all_eq_true];exact fun r hr=>(hf r hr).1⟩]
   simp[kc]
 have hg:ae h (if rows.length=0 then h.fresh 0 else(h.fresh 0).grow h.ids rows.length):=by
  split
  ·exact ae.fresh h 0
  ·exact(ae.fresh h 0).grow (Nat.le_refl _)
 have hw:wkA (.isl (some h.ids) tEn rows)=some (.isl none tEn rows):=by
  simp only[wkA,ie fun r hr=>(hf r hr).2,Option.map_some]
 simp only[sim,ag,Nat.reduceAdd,Nat.reduceSub,List.replicate,reduceCtorEq,Nat.reduceLeDiff,Nat.reduceLT,aa,e1,aB hg hw]
theorem zJ:aj Try.prog po 63 [.nils] h=some (.inl .nils,h):=by
 refine ah tJ rfl ?_;unfold nX
 simp only[sim,ag,Nat.reduceAdd,Nat.reduceSub,List.replicate,reduceCtorEq,Nat.reduceLeDiff,Nat.reduceLT,aa]
 exact aB (ae.refl h) rfl
theorem G8 (s:St h0 F0 J0 h L) (i:Nat) {wb:Nat} {cells:List Int} {log:List ff} (hi:L[i]? =some (bd wb cells log)) (hc:cells.length=12) (hn:log.length≤1000000):aj Try.prog po 31 [.ptr wb 0 0] h=some (.inl (eH tEn (log.map jp)),h):=by
 obtain⟨F,J,x⟩:=s.get i hi
 obtain⟨v,s1⟩:=jG x
 have cw:=(s1.cell 0 rfl).1
 have c12:=(jx (v:=v) hc (j:=0) (by decide)).2.1
 have ld:∀ n,aD false n h (.ptr wb 0 12)=some v:=fun n=>by rw[bC,cw];exact c12
 have f12:aK 12 (.ptr wb 0 0)=some (.ptr wb 0 12):=rfl
 obtain⟨F1,J1,x1⟩:=s1.get 1 rfl
 rcases x1 with⟨⟨e1,rfl⟩,_⟩ | ⟨id,⟨e1,rfl⟩,_⟩
 ·rw[e1]
  refine ah AL rfl ?_;unfold uY
  simp only[sim,ag,Nat.reduceAdd,Nat.reduceSub,List.replicate,reduceCtorEq,Nat.reduceLeDiff,Nat.reduceLT,aa,f12,ld,zJ]
  exact aB (ae.refl h) rfl
 ·have hcl:=Ak (h:=h) (some id) (log.map jp) wN (by simpa using hn)
  have hw:wkA (.isl none tEn (log.map jp))=some (eH tEn (log.map jp)):=by
   simp only[wkA,ie fun r hr=>(wN r hr).2,Option.map_some,eH,if_neg e1]
  refine ah AL rfl ?_;unfold uY
  simp only[sim,ag,Nat.reduceAdd,Nat.reduceSub,List.replicate,reduceCtorEq,Nat.reduceLeDiff,Nat.reduceLT,aa,f12,ld,hcl,aB (ae.refl h) hw]
theorem Dg (s:St h0 F0 J0 h L) (i:Nat) {wb:Nat} {cells:List Int} {log:List ff} (hi:L[i]? =some (bd wb cells log)) (hc:cells.length=12):aj Try.prog po 25 [.ptr wb 0 0] h=some (.inl (.isl none tL (cells.map fun x=>[.int .i64 x])),h):=by
 obtain⟨F,J,x⟩:=s.get i hi
 obtain⟨v,s1⟩:=jG x
 exact za (s1.cell 0 rfl).1 hc
theorem sc {v w:AV} {cs:List Int} (hv:IsL tL v (cs.map fun x=>[.int .i64 x])) (hw:IsL tL w (cs.map fun x=>[.int .i64 x])) (hl:cs.length≤1000000) (K:List RK):∀ (l pre:List Int) (v4 v5 v6:AV),cs=pre++l→∃ w3 w5 w6,aq (aj Try.prog po) 7 (.lp eS:: .ss []:: .blk 0::K) [v,w,.bool false,.int .i64 (pre.length:Int),v4,v5,v6] [] h=aq (aj Try.prog po) 7 K [v,w,.bool false,w3,v4,w5,w6] [] h:=by
 intro l
 induction l with
 | nil=>
   intro pre v4 v5 v6 e
   have d1:decide ((pre.length:Int)<(cs.length:Int))=false:=decide_eq_false (by rw[e];simp)
   refine⟨.int .i64 (pre.length:Int),.bool false,v6,?_⟩
   rw[aG eS.eq_1]
   simp only[sim,ag,Nat.reduceAdd,Nat.reduceSub,List.replicate,reduceCtorEq,Nat.reduceLeDiff,Nat.reduceLT,aa,hv.len,hv.fits,List.length_map,d1]
 | cons x l ih=>
   intro pre v4 v5 v6 e
   have d1:decide ((pre.length:Int)<(cs.length:Int))=true:=decide_eq_true (by rw[e];simp;omega)
   have hx:(cs.map fun x=>[AV.int .i64 x])[pre.length]? =some [.int .i64 x]:=by rw[e];simp
   have i1:=hv.ix .i64 pre.length _ hx
   have i2:=hw.ix .i64 pre.length _ hx
   have hpl:pre.length<cs.length:=by rw[e];simp
   have w1:=w64 (n:=(pre.length:Int)+1) (by omega) (by omega)
   have ek:((pre++[x]).length:Int)=(pre.length:Int)+1:=by simp
   obtain⟨w3,w5,w6,r1⟩:=ih (pre++[x]) v4 (.bool true) (.bool false) (by simp[e])
   refine⟨w3,w5,w6,?_⟩
   rw[←r1,ek]
   conv=>lhs;rw[aG eS.eq_1]
   simp only[sim,ag,Nat.reduceAdd,Nat.reduceSub,List.replicate,reduceCtorEq,Nat.reduceLeDiff,Nat.reduceLT,aa,hv.len,hv.fits,List.length_map,d1,i1,i2,eq_self,decide_true,w1]
theorem sH {v w:AV} {cs:List Int} (hv:IsL tL v (cs.map fun x=>[.int .i64 x])) (hw:IsL tL w (cs.map fun x=>[.int .i64 x])) (hl:cs.length≤1000000):aj Try.prog po 33 [v,w] h=some (.inl (.bool true),h):=by
 obtain⟨w3,w5,w6,r1⟩:=sc (h:=h) hv hw hl [.ss [.ops [(.i (.v 2) (.mv (.c (.bool true))))],.ret]] cs [] (.bool false) .junk .junk rfl
 simp only[List.length_nil,Int.natCast_zero]at r1
 refine ah vk rfl ?_;unfold mU
 simp only[sim,ag,Nat.reduceAdd,Nat.reduceSub,List.replicate,reduceCtorEq,Nat.reduceLeDiff,Nat.reduceLT,aa,hv.len,hv.fits,hw.len,hw.fits,List.length_map,eq_self,decide_true]
 rw[r1]
 simp only[sim,ag,Nat.reduceAdd,Nat.reduceSub,List.replicate,reduceCtorEq,Nat.reduceLeDiff,Nat.reduceLT,aa]
structure LH (h:AH) (c:HoC) (H:HoD):Prop where
 lb:aD false 1 h (.ptr c.hb 0 0)=some (.ptr c.bb 0 0)
 lg:aD false 1 h (.ptr c.bb 0 0)=some (.ptr c.gb 0 0)
 lw:aD false 1 h (.ptr c.bb 0 1)=some (.ptr c.wb 0 0)
 no:aj Try.prog po 30 [.ptr c.gb 0 0] h=some (.inl (eH tN (H.S.G.nodes.map aC)),h)
 ce:aj Try.prog po 25 [.ptr c.wb 0 0] h=some (.inl (.isl none tL (H.S.cells.map fun x=>[.int .i64 x])),h)
 lo:aj Try.prog po 31 [.ptr c.wb 0 0] h=some (.inl (eH tEn (H.S.log.map jp)),h)
theorem MB (s:St h0 F0 J0 h L) (i:Nat) (o:OkH H) (h1:L[i]? =some (cJ c.hb c.bb H.hands)) (h2:L[i+1]? =some (dc c.bb c.gb c.wb H.ms H.S.kept)) (h3:L[i+1+1]? =some (bo c.gb H.S.G)) (h4:L[i+1+1+1]? =some (bd c.wb H.S.cells H.S.log)):LH h c H:=by
 obtain⟨vs,hv⟩:=dP s i h1
 have bg:=kX s h2 o.len
 obtain⟨F,J,g⟩:=s.get _ h3
 exact⟨hv.box 1,bg.1 1,bg.2 1,Hx g o.good.st.wf,Dg s _ h4 o.good.st.cells,G8 s _ h4 o.good.st.cells (by have:=o.log;omega)⟩
theorem Al (hW:H.S.G.Wf):aj Try.prog po 32 [eH tN (H.S.G.nodes.map aC),eH tN (H.S.G.nodes.map aC)] h=some (.inl (.bool true),h):=by
 have:=yo (h:=h) H.S.G.nodes H.S.G.nodes _ _ (jJ _ _) (jJ _ _) (by have:=hW.few;omega)
 simpa using this
theorem zA (g:H.Good):aj Try.prog po 33 [.isl none tL (H.S.cells.map fun x=>[.int .i64 x]),.isl none tL (H.S.cells.map fun x=>[.int .i64 x])] h=some (.inl (.bool true),h):=
 sH (mZ _ _ _) (mZ _ _ _) (by rw[g.st.cells];decide)
variable {lv:AV} {b4 b5 b10:Nat} {hs ks:List AV}
theorem Lo (o:OkH H):∀ (d k:Nat) (h':AH) (hs ks:List AV) (v3 v7 v8 v9 v10 v11 v12 v13 v14 v15 v16 v17 v18 v19:AV),k+d=4→pa H k hs ks→St h0 F0 J0 h' (snL b4 b5 hs ks c H L)→
  ∃ h'' hs' ks' w6 w15,(∀ K,aq (aj Try.prog po) 20 (.lp dG:: .ss []:: .blk 2::K) [lv,.bool false,.ptr c.hb 0 0,v3,.ptr b4 0 0,.ptr b5 0 0,.int .i64 (k:Int),v7,v8,v9,v10,v11,v12,v13,v14,v15,v16,v17,v18,v19] [] h'=aq (aj Try.prog po) 20 K [lv,.bool false,.ptr c.hb 0 0,v3,.ptr b4 0 0,.ptr b5 0 0,w6,v7,v8,v9,v10,v11,v12,v13,v14,w15,v16,v17,v18,v19] [] h'')∧
    pa H 4 hs' ks'∧St h0 F0 J0 h'' (snL b4 b5 hs' ks' c H L):=by
 intro d
 induction d with
 | zero=>
   intro k h' hs ks v3 v7 v8 v9 v10 v11 v12 v13 v14 v15 v16 v17 v18 v19 hk sn s
   obtain rfl:k=4:=by omega
   refine⟨h',hs,ks,.int .i64 4,.bool false,fun K=> ?_,sn,s⟩
   have h4:((4:Nat):Int)=4:=rfl
   rw[aG dG.eq_1]
   simp only[sim,ag,Nat.reduceAdd,Nat.reduceSub,List.replicate,reduceCtorEq,Nat.reduceLeDiff,Nat.reduceLT,aa,h4,Int.lt_irrefl,decide_false]
 | succ d ih=>
   intro k h' hs ks v3 v7 v8 v9 v10 v11 v12 v13 v14 v15 v16 v17 v18 v19 hk sn s
   have d1:decide ((k:Int)<4)=true:=decide_eq_true (by omega)
   obtain⟨v,r,h1,h2,hs',ks',e1,e2,z1,z2,z3,z4,e3,e4,sn',s'⟩:=uC s sn (by omega) o
   have i1:=fun q=>Ig (b:=b4) (k:=k) q (by omega)
   have i3:=fun q=>HQ (b:=b5) (k:=k) q (by omega)
   have w:=w64 (n:=(k:Int)+1) (by omega) (by omega)
   have ek:((k+1:Nat):Int)=(k:Int)+1:=by omega
   obtain⟨h'',hs2,ks2,w6,w15,r1,sn2,s2⟩:=ih (k+1) h2 hs' ks' v3 v7 v8 v9 v10 v11 v12 v13 v14 (.bool true) v16 v17 v18 v19 (by omega) sn' s'
   refine⟨h'',hs2,ks2,w6,w15,fun K=> ?_,sn2,s2⟩
   rw[←r1 K,ek]
   conv=>lhs;rw[aG dG.eq_1]
   simp only[sim,ag,Nat.reduceAdd,Nat.reduceSub,List.replicate,reduceCtorEq,Nat.reduceLeDiff,Nat.reduceLT,aa,d1,e1,e2,i1,i3,z1,z2,z3,z4,e3,e4,w]
abbrev rfL (b4 b5 b10:Nat) (hs ks ev:List AV) (c:HoC) (H:HoD) (L:List Asn):List Asn:=ai b10 [ev]::snL b4 b5 hs ks c H L
theorem KD {ev:List AV} (o:OkH H) (sn:pa H 4 hs ks) (s:St h0 F0 J0 h' (rfL b4 b5 b10 hs ks ev c H L)):∀ (d k:Nat) (v3 v6 v7 v8 v9 v12 v13 v14 v15 v16 v17 v18 v19:AV),k+d=4→
  ∃ w11 w17 w18,(∀ K,aq (aj Try.prog po) 20 (.lp dE:: .ss []:: .blk 4::K) [lv,.bool false,.ptr c.hb 0 0,v3,.ptr b4 0 0,.ptr b5 0 0,v6,v7,v8,v9,.ptr b10 0 0,.int .i64 (k:Int),v12,v13,v14,v15,v16,v17,v18,v19] [] h'=aq (aj Try.prog po) 20 K [lv,.bool false,.ptr c.hb 0 0,v3,.ptr b4 0 0,.ptr b5 0 0,v6,v7,v8,v9,.ptr b10 0 0,w11,v12,v13,v14,v15,v16,w17,w18,v19] [] h'):=by
 intro d
 induction d with
 | zero=>
   intro k v3 v6 v7 v8 v9 v12 v13 v14 v15 v16 v17 v18 v19 hk
   obtain rfl:k=4:=by omega
   refine⟨.int .i64 4,.bool false,v18,fun K=> ?_⟩
   have h4:((4:Nat):Int)=4:=rfl
   rw[aG dE.eq_1]
   simp only[sim,ag,Nat.reduceAdd,Nat.reduceSub,List.replicate,reduceCtorEq,Nat.reduceLeDiff,Nat.reduceLT,aa,h4,Int.lt_irrefl,decide_false]
 | succ d ih=>
   intro k v3 v6 v7 v8 v9 v12 v13 v14 v15 v16 v17 v18 v19 hkd
   have d1:decide ((k:Int)<4)=true:=decide_eq_true (by omega)
   have i1:=fun q=>Ig (b:=b4) (k:=k) q (by omega)
   have i3:=fun q=>HQ (b:=b5) (k:=k) q (by omega)
   have w:=w64 (n:=(k:Int)+1) (by omega) (by omega)
   have ek:((k+1:Nat):Int)=(k:Int)+1:=by omega
   obtain⟨hv,hes,a1,a2,a3⟩:=sn.hd k (by omega)
   obtain⟨kr,a4,a5⟩:=sn.kp k (by omega)
   have c7:=(s.cell 1 rfl).1
   have c6:=(s.cell 2 rfl).1
   have lk:aD true 3 h' (.ptr b5 0 (k*3))=some (.agg kr):=by rw[bC,c7];exact a4
   have lh:aD false 1 h' (.ptr b4 0 k)=some hv:=by rw[bC,c6];exact a1
   obtain⟨v2,es2,e1,b2,b3⟩:=mI s 3 rfl o.good.hands o.hands k
   obtain⟨r2,e2,b5'⟩:=qe s 3 4 rfl rfl o.good k
   have sv:=fun h=>jB (h:=h) (H.handO k) (H.handO k) hv v2 (fun _=>l6.of a2 a3) (fun _=>l6.of b2 b3) (by have:=tW o (k:Int);omega) (tP (rD o.good k))
   rw[iO]at sv
   have hcode:=pO o.good (k:Int)
   have sk:=fun h=>iN _ (H.keptO k) (Nat.le_refl _) (by have:=(db hcode).1;omega) (H.keptO k) kr r2 h a5 b5'
   rw[jX]at sk
   obtain⟨w11,w17,w18,r1⟩:=ih (k+1) v3 v6 v7 v8 v9 v12 v13 v14 v15 v16 (.bool true) (.bool false) v19 (by omega)
   refine⟨w11,w17,w18,fun K=> ?_⟩
   rw[←r1 K,ek]
   conv=>lhs;rw[aG dE.eq_1]
   simp only[sim,ag,Nat.reduceAdd,Nat.reduceSub,List.replicate,reduceCtorEq,Nat.reduceLeDiff,Nat.reduceLT,aa,d1,i1,i3,lk,lh,e1,e2,sv,sk,w]
end
section
variable {h h' h0:AH} {F J F0 J0:Nat→Prop} {L:List Asn} {c:HoC} {H:HoD} {lv:AV}
set_option maxRecDepth 100000 in
set_option maxHeartbeats 4000000 in
theorem Lj {rows:List (List AV)} {xs:List de} (hs:SlA tSt lv rows) (hl:iJ xs rows) (hxl:xs.length≤100) (hgr:∀ x∈xs,x.m.length≤100000∧∀ e∈x.m,e.size≤100000):∀ (l pre:List de) (h':AH) (H:HoD) (v4 v5 v6 v7 v8 v9 v10 v11 v12 v13 v14 v15 v16 v17 v18 v19:AV),xs=pre++l→mo pre.length H→St h0 F0 J0 h' (cb c H++L)→
  ∃ h'' V,(∀ K,aq (aj Try.prog po) 20 (.lp br:: .ss []:: .blk 0::K) [lv,.bool false,.ptr c.hb 0 0,.int .i64 (pre.length:Int),v4,v5,v6,v7,v8,v9,v10,v11,v12,v13,v14,v15,v16,v17,v18,v19] [] h'=aq (aj Try.prog po) 20 K (lv:: .bool false::V) [] h'')∧
    St h0 F0 J0 h'' (cb c (H.steps l)++L):=by
 have hll:=hl.len
 intro l
 induction l with
 | nil=>
   intro pre h' H v4 v5 v6 v7 v8 v9 v10 v11 v12 v13 v14 v15 v16 v17 v18 v19 e o s
   have d1:decide ((pre.length:Int)<(xs.length:Int))=false:=decide_eq_false (by rw[e];simp)
   refine⟨h',[.ptr c.hb 0 0,.int .i64 (pre.length:Int),v4,v5,v6,v7,v8,v9,v10,v11,v12,v13,.bool false,v15,v16,v17,v18,v19],fun K=> ?_,s⟩
   rw[aG br.eq_1]
   simp only[sim,ag,Nat.reduceAdd,Nat.reduceSub,List.replicate,reduceCtorEq,Nat.reduceLeDiff,Nat.reduceLT,aa,hs.isL.len,hs.isL.fits,hll,d1]
 | cons x l ih=>
   intro pre h' H v4 v5 v6 v7 v8 v9 v10 v11 v12 v13 v14 v15 v16 v17 v18 v19 e o s
   have hpl:pre.length<xs.length:=by rw[e];simp
   have d1:decide ((pre.length:Int)<(xs.length:Int))=true:=decide_eq_true (by omega)
   have hi:xs[pre.length]? =some x:=by rw[e];simp
   obtain⟨m,ms,q1,q3,q4⟩:=hl.get hi
   have ix:=hs.isL.ix .i64 pre.length _ q1
   obtain⟨g1,g2⟩:=hgr x (List.mem_of_getElem? hi)
   have w:=w64 (n:=(pre.length:Int)+1) (by omega) (by omega)
   have ek:((pre++[x]).length:Int)=(pre.length:Int)+1:=by simp
   have oH:=o.ok (by omega)
   have la:ldA true 9 (aW x m) 0=some (.agg (aW x m)):=bI rfl
   have f0:aK 0 (.ip (aW x m) 0)=some (.ip (aW x m) 0):=rfl
   have lk0:ldA false 1 (aW x m) 0=some (.int .i64 x.kind):=rfl
   have fb:aK 1 (.ptr c.bb 0 0)=some (.ptr c.bb 0 1):=rfl
   have fz:∀ b,aK 0 (.ptr b 0 0)=some (.ptr b 0 0):=fun _=>rfl
   have s1:St h0 F0 J0 _ (snL h'.n (h'.n+1) lQ lU c H L):=(s.push [lQ]).push [lU]
   obtain⟨h2,hsv,ksv,w6,w15,r2,sn,s2⟩:=Lo (lv:=lv) oH 4 0 _ lQ lU (.int .i64 (pre.length:Int)) v7 v8 v9 v10 v11 v12 v13 (.bool true) v15 v16 v17 v18 v19 rfl (uk H) s1
   have t2:=MB s2 2 oH rfl rfl rfl rfl
   obtain⟨t2b,t2g,t2w,t2n,t2c,t2l⟩:=t2
   obtain⟨h3,r3,e3,v3,s3⟩:=nU (A:=[ai (h'.n+1) [ksv],ai h'.n [hsv]]) (B:=L) s2 oH x q3 q4 g1 g2
   have o3:=o.step x
   have o3H:=o3.ok (by omega)
   have ref:=vt (H:=H) (x:=x)
   obtain⟨q,rfl,vq⟩:=v3
   obtain⟨qa,rfl,qo⟩:=vq.cells3
   have nl:=jJ tEn (H.S.log.map jp)
   have s4:=s3.push [evR (H.step x).2.code (H.step x).2.fuel [.int .i64 (H.step x).2.v.kind,.int .i64 (H.step x).2.v.n,qa]]
   have c4:=(s4.cell 0 rfl).1
   have hsteps:H.steps (x::l)=(H.step x).1.steps l:=rfl
   have go:∀ v11 v16 v17 v18 v19,∃ h'' V,(∀ K,aq (aj Try.prog po) 20 (.lp br:: .ss []:: .blk 0::K) [lv,.bool false,.ptr c.hb 0 0,.int .i64 ((pre.length:Int)+1),.ptr h'.n 0 0,.ptr (h'.n+1) 0 0,w6,eH tN (H.S.G.nodes.map aC),.isl none tL (H.S.cells.map fun x=>[.int .i64 x]),.int .i64 (H.S.log.length:Int),.ptr h3.n 0 0,v11,v12,v13,.bool true,w15,v16,v17,v18,v19] [] (h3.push [evR (H.step x).2.code (H.step x).2.fuel [.int .i64 (H.step x).2.v.kind,.int .i64 (H.step x).2.v.n,qa]])=aq (aj Try.prog po) 20 K (lv:: .bool false::V) [] h'')∧St h0 F0 J0 h'' (cb c (H.steps (x::l))++L):=fun v11 v16 v17 v18 v19=>by
    obtain⟨h'',V,r,s5⟩:=ih (pre++[x]) _ (H.step x).1 (.ptr h'.n 0 0) (.ptr (h'.n+1) 0 0) w6 (eH tN (H.S.G.nodes.map aC)) (.isl none tL (H.S.cells.map fun x=>[.int .i64 x])) (.int .i64 (H.S.log.length:Int)) (.ptr h3.n 0 0) v11 v12 v13 (.bool true) w15 v16 v17 v18 v19 (by simp[e]) (by rw[List.length_append];exact o3) s4.drop.drop.drop
    exact⟨h'',V,fun K=>by rw[←r K,ek],s5⟩
   rw[hsteps]at go ⊢
   simp only[Int.natCast_zero]at r2
   simp only[evR]at e3 c4 go
   by_cases hz:(H.step x).2.code=0
   ·have dz:decide ((H.step x).2.code=0)=true:=decide_eq_true hz
    obtain⟨h'',V,r5,s5⟩:=go v11 (.bool true) v17 v18 v19
    refine⟨h'',V,fun K=> ?_,s5⟩
    rw[←r5 K]
    conv=>lhs;rw[aG br.eq_1]
    simp only[sim,ag,Nat.reduceAdd,Nat.reduceSub,List.replicate,reduceCtorEq,Nat.reduceLeDiff,Nat.reduceLT,aa,hs.isL.len,hs.isL.fits,hll,d1,ix]
    rw[r2]
    simp only[sim,ag,Nat.reduceAdd,Nat.reduceSub,List.replicate,reduceCtorEq,Nat.reduceLeDiff,Nat.reduceLT,aa,hs.isL.len,hs.isL.fits,hll,ix,la,f0,lk0,fb,fz,t2b,t2g,t2w,t2n,t2c,t2l,nl.len,nl.fits,List.length_map,e3,qo,aE,bw,c4,dz,w]
   ·have dz:decide ((H.step x).2.code=0)=false:=decide_eq_false hz
    by_cases hk:x.kind=4∧0<(H.step x).2.fuel
    ·have dk:decide (x.kind=4)=true:=decide_eq_true hk.1
     have df:decide (0<(H.step x).2.fuel)=true:=decide_eq_true hk.2
     obtain⟨h'',V,r5,s5⟩:=go v11 (.bool true) v17 v18 v19
     refine⟨h'',V,fun K=> ?_,s5⟩
     rw[←r5 K]
     conv=>lhs;rw[aG br.eq_1]
     simp only[sim,ag,Nat.reduceAdd,Nat.reduceSub,List.replicate,reduceCtorEq,Nat.reduceLeDiff,Nat.reduceLT,aa,hs.isL.len,hs.isL.fits,hll,d1,ix]
     rw[r2]
     simp only[sim,ag,Nat.reduceAdd,Nat.reduceSub,List.replicate,reduceCtorEq,Nat.reduceLeDiff,Nat.reduceLT,aa,hs.isL.len,hs.isL.fits,hll,ix,la,f0,lk0,fb,fz,t2b,t2g,t2w,t2n,t2c,t2l,nl.len,nl.fits,List.length_map,e3,qo,aE,bw,c4,dz,dk,df,w]
    ·obtain⟨rH,rv⟩:=ref hz hk
     have s4':St h0 F0 J0 _ (rfL h'.n (h'.n+1) h3.n hsv ksv _ c (H.step x).1 L):=s4
     rw[rH]at s4'
     obtain⟨w11,w17,w18,r6⟩:=KD (lv:=lv) oH sn s4' 4 0 (.int .i64 (pre.length:Int)) w6 (eH tN (H.S.G.nodes.map aC)) (.isl none tL (H.S.cells.map fun x=>[.int .i64 x])) (.int .i64 (H.S.log.length:Int)) v12 v13 (.bool true) w15 (.bool false) v17 v18 v19 rfl
     have t4:=MB s4' 3 oH rfl rfl rfl rfl
     obtain⟨t4b,t4g,t4w,t4n,t4c,t4l⟩:=t4
     have ns:=fun h=>Al (h:=h) oH.good.st.wf
     have lo:=fun h=>zA (h:=h) oH.good
     have sk:=fun h=>iN _ ay (Nat.le_refl _) (by decide) ay _ zR3 h (by rw[rv]at vq;exact vq) cQ
     rw[jX]at sk
     have lq:ldA true 3 (evR (H.step x).2.code (H.step x).2.fuel [.int .i64 (H.step x).2.v.kind,.int .i64 (H.step x).2.v.n,qa]) 2=some (.agg [.int .i64 (H.step x).2.v.kind,.int .i64 (H.step x).2.v.n,qa]):=rfl
     obtain⟨h'',V,r5,s5⟩:=go w11 (.bool false) w17 w18 (.bool false)
     refine⟨h'',V,fun K=> ?_,s5⟩
     rw[←r5 K]
     simp only[evR,Int.natCast_zero]at r6 t4b t4g t4w t4n t4c t4l lq
     simp only[rv]at sk lq c4 e3 r6 t4b t4g t4w t4n t4c t4l r5 ⊢
     cases dk:decide (x.kind=4)with
     | true=>
       have df:decide (0<(H.step x).2.fuel)=false:=decide_eq_false fun h=>hk ⟨of_decide_eq_true dk,h⟩
       conv=>lhs;rw[aG br.eq_1]
       simp only[sim,ag,Nat.reduceAdd,Nat.reduceSub,List.replicate,reduceCtorEq,Nat.reduceLeDiff,Nat.reduceLT,aa,hs.isL.len,hs.isL.fits,hll,d1,ix]
       rw[r2]
       simp only[sim,ag,Nat.reduceAdd,Nat.reduceSub,List.replicate,reduceCtorEq,Nat.reduceLeDiff,Nat.reduceLT,aa,hs.isL.len,hs.isL.fits,hll,ix,la,f0,lk0,fb,fz,t2b,t2g,t2w,t2n,t2c,t2l,nl.len,nl.fits,List.length_map,e3,qo,aE,bw,c4,dz,dk,df,w]
       rw[r6]
       simp only[sim,ag,Nat.reduceAdd,Nat.reduceSub,List.replicate,reduceCtorEq,Nat.reduceLeDiff,Nat.reduceLT,aa,fb,fz,t4b,t4g,t4w,t4n,t4c,t4l,ns,lo,nl.len,nl.fits,List.length_map,eq_self,decide_true,c4,lq,sk,w]
     | false=>
       conv=>lhs;rw[aG br.eq_1]
       simp only[sim,ag,Nat.reduceAdd,Nat.reduceSub,List.replicate,reduceCtorEq,Nat.reduceLeDiff,Nat.reduceLT,aa,hs.isL.len,hs.isL.fits,hll,d1,ix]
       rw[r2]
       simp only[sim,ag,Nat.reduceAdd,Nat.reduceSub,List.replicate,reduceCtorEq,Nat.reduceLeDiff,Nat.reduceLT,aa,hs.isL.len,hs.isL.fits,hll,ix,la,f0,lk0,fb,fz,t2b,t2g,t2w,t2n,t2c,t2l,nl.len,nl.fits,List.length_map,e3,qo,aE,bw,c4,dz,dk,w]
       rw[r6]
       simp only[sim,ag,Nat.reduceAdd,Nat.reduceSub,List.replicate,reduceCtorEq,Nat.reduceLeDiff,Nat.reduceLT,aa,fb,fz,t4b,t4g,t4w,t4n,t4c,t4l,ns,lo,nl.len,nl.fits,List.length_map,eq_self,decide_true,c4,lq,sk,w]
theorem nL {rows:List (List AV)} {xs:List de} (hs:SlA tSt lv rows) (hl:iJ xs rows) (hml:xs.length≤9223372036854775807):aj Try.prog po 8 [lv] h=some (.inl (.bool true),h):=by
 have s0:St h (fun _=>False) (fun _=>False) h []:=St.start (aX.nil _ _ _ (fun _ h=>h) (fun _ h=>h))
 have gh:=fun(h:AH)=>kh (h:=h) hs hl hml 100 (by decide)
 have e100:((100:Nat):Int)=100:=rfl
 simp only[e100]at gh
 cases hg:nO xs 100 with
 | true=>
   rw[hg]at gh
   refine ah jZ rfl ?_;unfold gu
   simp only[sim,ag,Nat.reduceAdd,Nat.reduceSub,List.replicate,reduceCtorEq,Nat.reduceLeDiff,Nat.reduceLT,aa,d8,gh]
 | false=>
   rw[hg]at gh
   obtain⟨hxl,hgr⟩:=uv hg
   obtain⟨h2,c,e2,s2⟩:=u9 s0
   obtain⟨h3,V,r3,s3⟩:=Lj (lv:=lv) hs hl hxl hgr xs [] h2 ho0 .junk .junk .junk .junk .junk .junk .junk .junk (.bool false) (.bool false) .junk .junk .junk .junk .junk .junk rfl rQ s2
   simp only[List.length_nil,Int.natCast_zero]at r3
   have g3:=s3.grewA
   refine ah jZ rfl ?_;unfold gu
   simp only[sim,ag,Nat.reduceAdd,Nat.reduceSub,List.replicate,reduceCtorEq,Nat.reduceLeDiff,Nat.reduceLT,aa,d8,gh,e2]
   rw[r3]
   simp only[sim,ag,Nat.reduceAdd,Nat.reduceSub,List.replicate,reduceCtorEq,Nat.reduceLeDiff,Nat.reduceLT,aa]
   exact aB g3 rfl
end
theorem MS:(Try.prog).underlying 50=some (.slice 56):=by kernel_rfl
theorem Ho:mM Try.prog 56=some [3,3,3,3,3,3,3,2,48]:=by kernel_rfl
theorem Lb:(Try.prog).underlying 2=some (.int .i64):=by kernel_rfl
theorem MA {α:Type} {l:List α} (h:l.length=9):∃ a b c d e f g i j,l=[a,b,c,d,e,f,g,i,j]:=by
 match l,h with
 | [a,b,c,d,e,f,g,i,j],_=>exact⟨a,b,c,d,e,f,g,i,j,rfl⟩
theorem Er {n:Nat} {r:List AV} (h:TyA Try.prog n 56 r):∃ (x:de) (m:AV) (ms:List (List AV)),r=aW x m∧SlA tE m ms∧ExL x.m ms:=by
 obtain⟨m2,rfl,parts,rfl,hl,hf⟩:=nS Ho h
 obtain⟨p0,a0,_,b0⟩:=hf 0 _ rfl
 obtain⟨p1,a1,_,b1⟩:=hf 1 _ rfl
 obtain⟨p2,a2,_,b2⟩:=hf 2 _ rfl
 obtain⟨p3,a3,_,b3⟩:=hf 3 _ rfl
 obtain⟨p4,a4,_,b4⟩:=hf 4 _ rfl
 obtain⟨p5,a5,_,b5⟩:=hf 5 _ rfl
 obtain⟨p6,a6,_,b6⟩:=hf 6 _ rfl
 obtain⟨p7,a7,_,b7⟩:=hf 7 _ rfl
 obtain⟨p8,a8,_,b8⟩:=hf 8 _ rfl
 obtain⟨z0,rfl,_⟩:=gW ru b0
 obtain⟨z1,rfl,_⟩:=gW ru b1
 obtain⟨z2,rfl,_⟩:=gW ru b2
 obtain⟨z3,rfl,_⟩:=gW ru b3
 obtain⟨z4,rfl,_⟩:=gW ru b4
 obtain⟨z5,rfl,_⟩:=gW ru b5
 obtain⟨z6,rfl,_⟩:=gW ru b6
 obtain⟨z7,rfl,_⟩:=gW Lb b7
 obtain⟨M,v,es,rfl,hv,hM⟩:=Ko b8
 obtain⟨c0,c1,c2,c3,c4,c5,c6,c7,c8,rfl⟩:=MA hl
 obtain rfl:=Option.some.inj a0
 obtain rfl:=Option.some.inj a1
 obtain rfl:=Option.some.inj a2
 obtain rfl:=Option.some.inj a3
 obtain rfl:=Option.some.inj a4
 obtain rfl:=Option.some.inj a5
 obtain rfl:=Option.some.inj a6
 obtain rfl:=Option.some.inj a7
 obtain rfl:=Option.some.inj a8
 exact⟨⟨z0,z1,z2,z3,z4,z5,z6,z7,M⟩,v,es,by simp only[List.flatten_cons,List.flatten_nil,List.append_nil,List.cons_append,List.nil_append];rfl,hv,hM⟩
theorem xZ:∀ {es:List (List AV)},(∀ r∈es,∃ (x:de) (m:AV) (ms:List (List AV)),r=aW x m∧SlA tE m ms∧ExL x.m ms)→∃ xs,iJ xs es
 | [],_=>⟨[],rfl⟩
 | r::es,h=>by
   obtain⟨x,m,ms,rfl,h1,h2⟩:=h r (by simp)
   obtain⟨xs,hx⟩:=xZ fun q hq=>h q (List.mem_cons_of_mem _ hq)
   exact⟨x::xs,m,ms,es,rfl,h1,h2,hx⟩
theorem BQ {n:Nat} {av:AV} (h:TyA Try.prog n 50 [av]):∃ (es:List (List AV)) (xs:List de),SlA tSt av es∧iJ xs es∧xs.length≤9223372036854775807:=by
 obtain⟨m,v,es,rfl,e,hv,hlen,hr⟩:=zO MS h
 obtain rfl:av=v:=by simpa using e
 obtain⟨xs,hx⟩:=xZ (es:=es) fun r hr'=>Er (hr r hr').2
 refine⟨es,xs,hv.sla,hx,?_⟩
 rw[←hx.len]
 unfold maxLen at hlen
 omega
def BF:List TypeId:=[3,2,46,44,48,56,50]
theorem rg:pE Try.prog BF=true:=by kernel_rfl
theorem oZ {n0 n1:Nat} {lv:AV} {r:List AV} {x0 x1:Value} (W:World) (t0:TyA Try.prog n0 50 [lv]) (u0:VR Try.prog (m0A W) h0A lv x0) (t1:TyA Try.prog n1 56 r) (u1:VR Try.prog (m0A W) h0A (.agg r) x1):
  Law Try.prog 7 #[x0,x1] W:=by
 obtain⟨es,xs,hs,hl,hml⟩:=BQ t0
 obtain⟨x,m,ms,rfl,q3,q4⟩:=Er t1
 exact Ec (vs:=[x0,x1]) (qr hs hl hml q3 q4) (VRs.cons u0 (VRs.cons u1 VRs.nil))
theorem mj {n0:Nat} {lv:AV} {x0:Value} (W:World) (t0:TyA Try.prog n0 50 [lv]) (u0:VR Try.prog (m0A W) h0A lv x0):
  Law Try.prog 8 #[x0] W:=by
 obtain⟨es,xs,hs,hl,hml⟩:=BQ t0
 exact Ec (vs:=[x0]) (nL hs hl hml) (VRs.cons u0 VRs.nil)
end Go.Proofs.Ytkdbjfncchmmpaa
