/- The box and the world in memory; what reads and writes them. A call that turns a graph that is there, and has memory of its own. pass in the plain model: may it be handed on; the mover. pass in the plain model: the mover of values; what the document says is handed on. The machine in memory: what its topmost frame reads as, and what becomes of it by a store. The machine's methods: kinds and sizes; of capabilities: reading, writing, deriving, wrapping. The pieces of Across, and of what it defers, as lists of steps. What Across defers: it takes back a panic of the mover's own. Across: what it does is what its pieces say; a panic of the mover's own is taken back. Across in the plain model: what becomes of the graph, and of the value. The machine's methods, where a run stands: values taken and laid, capabilities read, written, derived, wrapped. The machine's methods, where a run stands, further: derived, wrap, call, part. Instructions that only compute. Instructions that only compute, further: pairs, parts, seals, names. The machine asks: a function that a capability is of. Instructions that have to do with capabilities, and with calls. -/
import Derived.Test.YtkdbjfncchmmpaaMg5
namespace Go.Proofs.Ytkdbjfncchmmpaa
set_option linter.unusedSimpArgs false
set_option linter.unusedVariables false
open Go
section
variable {h h' h0:AH} {F J F0 J0:Nat→Prop} {L:List Asn}
theorem ij:∀ {ms:aG} {kept:List VD} {ks:List (List AV)},VaL kept ks→ms.length=kept.length→(da ms ks).length=5*ms.length
 | [],[],ks,h,_=>by simp only[VaL]at h;subst h;rfl
 | m::ms,k::kept,ks,h,hl=>by
   obtain⟨r,rs,rfl,h1,h2⟩:=h
   have ih:=ij (ms:=ms) h2 (by simpa using hl)
   simp only[da,List.cons_append,List.length_cons,List.length_append,ih,h1.len3.1]
   omega
 | [],_::_,_,_,hl=>by simp at hl
 | _::_,[],_,_,hl=>by simp at hl
theorem qs:∀ {ms:aG} {kept:List VD} {ks:List (List AV)} {p:Nat},VaL kept ks→ms.length=kept.length→p<ms.length→
  (da ms ks)[p*5]? =some (.bool (ms.getD p none).isSome)∧(da ms ks)[p*5+1]? =some (g8 (ms.getD p none))∧∃ r,((da ms ks).drop (p*5+2)).take 3=r∧VaA (kept.getD p aA) r∧((da ms ks).drop (p*5)).take 5= .bool (ms.getD p none).isSome::g8 (ms.getD p none)::r
 | [],kept,ks,p,_,_,hp=>by simp at hp
 | m::ms,[],ks,p,_,hl,_=>by simp at hl
 | m::ms,k::kept,ks,p,h,hl,hp=>by
   obtain⟨r,rs,rfl,h1,h2⟩:=h
   have h3:=h1.len3.1
   match r,h3 with
   | [a,b,c],_=>
     cases p with
     | zero=>exact⟨rfl,rfl,[a,b,c],rfl,h1,rfl⟩
     | succ p=>
       obtain⟨q1,q2,r',q3,q4,q5⟩:=qs (ms:=ms) (p:=p) h2 (by simpa using hl) (by simpa using hp)
       have e1:∀ j,(da (m::ms) ([a,b,c]::rs))[(p+1)*5+j]? =(da ms rs)[p*5+j]? :=fun j=>by
        have:(p+1)*5+j=p*5+j+5:=by omega
        rw[this]
        rfl
       have e2:∀ j,(da (m::ms) ([a,b,c]::rs)).drop ((p+1)*5+j)=(da ms rs).drop (p*5+j):=fun j=>by
        have:(p+1)*5+j=p*5+j+5:=by omega
        rw[this]
        rfl
       have f1:=e1 0
       have f2:=e2 0
       rw[Nat.add_zero,Nat.add_zero]at f1 f2
       exact⟨f1.trans q1,(e1 1).trans q2,r',by rw[e2 2];exact q3,q4,by rw[f2];exact q5⟩
theorem pf:∀ {ms:aG} {kept:List VD} {ks:List (List AV)} {p:Nat} {v:VD} {r:List AV},VaL kept ks→ms.length=kept.length→p<ms.length→VaA v r→
  ∃ ks',VaL (kept.set p v) ks'∧stA (da ms ks) (p*5+2) r=da ms ks'
 | [],kept,ks,p,_,_,_,_,hp,_=>by simp at hp
 | m::ms,[],ks,p,_,_,_,hl,_,_=>by simp at hl
 | m::ms,k::kept,ks,p,v,r,h,hl,hp,hv=>by
   obtain⟨r0,rs,rfl,h1,h2⟩:=h
   have h3:=h1.len3.1
   have h4:=hv.len3.1
   match r0,h3,r,h4 with
   | [a,b,c],_,[x,y,z],_=>
     cases p with
     | zero=>exact⟨[x,y,z]::rs,⟨_,_,rfl,hv,h2⟩,rfl⟩
     | succ p=>
       obtain⟨ks',q1,q2⟩:=pf (ms:=ms) (p:=p) h2 (by simpa using hl) (by simpa using hp) hv
       refine⟨[a,b,c]::ks',⟨_,_,rfl,h1,q1⟩,?_⟩
       have:(p+1)*5+2=p*5+2+5:=by omega
       rw[this]
       unfold stA at q2 ⊢
       simp only[da,List.cons_append,List.nil_append,List.take_succ_cons,List.length_cons,List.length_nil]
       rw[show p*5+2+5+(0+1+1+1)=p*5+2+3+5 by omega]
       simp only[List.drop_succ_cons]
       rw[←q2]
       simp
theorem uZ {b gb wb:Nat} {ms:aG} {kept:List VD} (x:(cP b gb wb ms kept).A h F J) (hl:ms.length=kept.length):∃ row,h.cell b=some [row]∧b<h.n∧row[0]? =some (.ptr gb 0 0)∧row[1]? =some (.ptr wb 0 0)∧row.length=2+5*ms.length∧
  ∀ p:Nat,p<ms.length→row[2+p*5]? =some (.bool (ms.getD p none).isSome)∧row[2+p*5+1]? =some (g8 (ms.getD p none))∧∃ r,ldA true 3 row (2+p*5+2)=some (.agg r)∧VaA (kept.getD p aA) r∧ldA true 5 row (2+p*5)=some (.agg (.bool (ms.getD p none).isSome::g8 (ms.getD p none)::r)):=by
 obtain⟨ks,hk,_,_,h1,h2⟩:=x
 refine⟨_,h2,h1,rfl,rfl,by simp only[jl,List.length_cons,ij hk hl];omega,fun p hp=> ?_⟩
 obtain⟨q1,q2,r,q3,q4,q5⟩:=qs hk hl hp
 have e:∀ j,(jl gb wb ms ks)[2+p*5+j]? =(da ms ks)[p*5+j]? :=fun j=>by
  rw[show 2+p*5+j=p*5+j+1+1 by omega]
  rfl
 have e2:∀ j,(jl gb wb ms ks).drop (2+p*5+j)=(da ms ks).drop (p*5+j):=fun j=>by
  rw[show 2+p*5+j=p*5+j+1+1 by omega]
  rfl
 have hlen:=ij hk hl
 have f0:=e 0
 have f2:=e2 0
 rw[Nat.add_zero,Nat.add_zero]at f0 f2
 refine⟨f0.trans q1,(e 1).trans q2,r,?_,q4,?_⟩
 ·unfold ldA
  rw[if_pos rfl,if_pos (by simp only[jl,List.length_cons,hlen];omega),e2 2,q3]
 ·unfold ldA
  rw[if_pos rfl,if_pos (by simp only[jl,List.length_cons,hlen];omega),f2,q5]
theorem Ez {b gb wb:Nat} {ms:aG} {kept:List VD} (s:St h0 F0 J0 h L) (i:Nat) (hi:L[i]? =some (cP b gb wb ms kept)) (hl:ms.length=kept.length) {p:Nat} (hp:p<ms.length) {v:VD} {r:List AV} (hv:VaA v r):
  ∃ h',aD 3 h (.ptr b 0 (2+p*5+2)) (.agg r)=some h'∧St h0 F0 J0 h' (L.set i (cP b gb wb ms (kept.set p v))):=by
 refine s.call (R:=fun h'=>aD 3 h (.ptr b 0 (2+p*5+2)) (.agg r)=some h') i hi fun F J x=> ?_
 obtain⟨ks,hk,a1,a2,a3,a4⟩:=x
 obtain⟨ks',q1,q2⟩:=pf hk hl hp hv
 have hlen:=ij hk hl
 refine⟨_,bq (es:=[jl gb wb ms ks]) (e:=jl gb wb ms ks) a4 rfl hv.len3.2 hv.len3.1 (by simp only[jl,List.length_cons,hlen];omega),F,J,⟨ks',q1,a1,a2,a3,?_⟩,⟨Nat.le_refl _,Nat.le_refl _,fun k _ hk'=>aV fun e=>hk' ((a1 k).2 e),fun _ _ _=>rfl⟩,fun _=> .inl,fun _=> .inl⟩
 rw[bh,List.set_cons_zero]
 have:stA (jl gb wb ms ks) (2+p*5+2) r=jl gb wb ms ks':=by
  unfold jl
  rw[←q2]
  unfold stA
  rw[show 2+p*5+2=p*5+2+1+1 by omega]
  simp only[List.take_succ_cons,List.cons_append]
  rw[show p*5+2+1+1+r.length=p*5+2+r.length+1+1 by omega]
  simp only[List.drop_succ_cons]
 simp only[AV.cells,this]
theorem sL {e:TypeId} {v:AV} {rows:List (List AV)} (x:(qk e v rows).A h F J) {row:List AV} (h1:row.all AV.one=true) (hl:rows.length≤1000000):
  ∃ v' h',aO false e v (.isl (some h.ids) e [row]) (h.fresh 1)=some (v',h')∧v'.one=true∧v'.cells=[v']∧Did h F J h' (qk e v' (rows++[row]))∧h'.n=h.n∧h'.cell=h.cell:=by
 have h1':([row].all fun x=>x.all AV.one)=true:=by simpa using h1
 rcases x with⟨⟨rfl,rfl⟩,e1,e2⟩ | ⟨id,⟨hne,rfl⟩,a1,a2,a3,a4⟩
 ·refine⟨.isl (some (h.ids+1)) e [row],(h.fresh 1).fresh 1,?_,rfl,rfl,⟨fun _=>False,fun j=>j=h.ids+1,.inr ⟨h.ids+1,⟨by simp,rfl⟩,fun _ h=>h,fun _=>Iff.rfl,by simp[AH.fresh],by simp[AH.fresh]⟩,((ab.fresh h 1).trans (ab.fresh _ 1)).chg _ _,fun _ h=>h.elim,fun j hj=> .inr (by omega)⟩,rfl,rfl⟩
  simp only[aO,cg,if_true,Option.bind_some,List.length_singleton,Nat.one_ne_zero,if_false,ev]
  rw[if_pos ⟨by omega,by omega,h1'⟩]
  rfl
 ·have hne':id≠h.ids:=by omega
  refine⟨.isl (some id) e (rows++[row]),(h.fresh 1).grow id (rows.length+1),?_,rfl,rfl,⟨fun _=>False,fun j=>j=id,.inr ⟨id,⟨by simp,rfl⟩,fun _ h=>h,fun _=>Iff.rfl,by simp[AH.grow,AH.fresh];omega,by simp[AH.grow]⟩,⟨Nat.le_refl _,by simp[AH.grow,AH.fresh],fun _ _ _=>rfl,fun j hj hJ=> ?_⟩,fun _ h=>h.elim,fun j hj=> .inl ((a2 j).2 hj)⟩,rfl,rfl⟩
  ·simp only[aO,cg,if_true,Option.bind_some,List.length_singleton,Nat.one_ne_zero,if_false,ev]
   rw[if_pos ⟨by omega,by omega,h1'⟩,gi hne',a4]
   simp only[true_and,hl,if_true]
  ·rw[oY fun e=>hJ ((a2 j).2 e),gi (by omega)]
theorem pO {b:Nat} {cells:List Int} {log:List gq} (x:(be b cells log).A h F J):∃ v,St h F J h [ah b [cells.map (.int .i64)++[v]],qk tEn v (log.map nn)]:=by
 obtain⟨v,x⟩:=x
 exact⟨v,St.start (bg.two x)⟩
theorem sw {b:Nat} {cells:List Int} {log:List gq} {v:AV} (s:St h0 F0 J0 h [ah b [cells.map (.int .i64)++[v]],qk tEn v (log.map nn)]):Did h0 F0 J0 h (be b cells log):=
 Did.imp (fun _ _ _ x=>by
  obtain⟨F1,J1,F2,J2,x1,x2,r⟩:=x
  exact⟨v,F1,J1,F2,J2,x1,bg.one' x2,r⟩) s
theorem kG {cells:List Int} {v:AV} (hl:cells.length=12) {j:Nat} (hj:j<12):(cells.map (AV.int .i64)++[v])[j]? =some (.int .i64 (cells.getD j 0))∧(cells.map (AV.int .i64)++[v])[12]? =some v∧(cells.map (AV.int .i64)++[v]).length=13:=by
 refine⟨?_,?_,by simp[hl]⟩
 ·rw[List.getElem?_append_left (by simp;omega)]
  simp[List.getD,show j<cells.length by omega]
 ·rw[List.getElem?_append_right (by simp;omega)]
  simp[hl]
theorem G5 {b:Nat} {cells:List Int} {log:List gq} (s0:St h0 F0 J0 h L) (i:Nat) (hi:L[i]? =some (be b cells log)) (hl:cells.length=12) (hn:log.length≤1000000) {c:Int} (hc:0≤c∧c<12) (p n:Int):
  ∃ h',ai Try.prog po 136 [.ptr b 0 0,.int .i64 p,.int .i64 c,.int .i64 n] h=some (.inl (.tup [.int .i64 (cells.getD c.toNat 0),.bool true]),h')∧St h0 F0 J0 h' (L.set i (be b cells (log++[⟨p,c,1,n⟩]))):=by
 refine s0.call (R:=fun h'=>ai Try.prog po 136 [.ptr b 0 0,.int .i64 p,.int .i64 c,.int .i64 n] h=some (.inl (.tup [.int .i64 (cells.getD c.toNat 0),.bool true]),h')) i hi fun F J x=> ?_
 obtain⟨v,s⟩:=pO x
 obtain⟨c1,c2⟩:=s.cell 0 rfl
 obtain⟨j,rfl⟩:=Int.eq_ofNat_of_zero_le hc.1
 have hj:j<12:=by omega
 obtain⟨g1,g2,g3⟩:=kG (v:=v) hl hj
 obtain⟨h1,v',⟨e1,o1,o2,n1,k1⟩,s1⟩:=s.callE (R:=fun h' v'=>aO false tEn v (.isl (some h.ids) tEn [nn ⟨p,j,1,n⟩]) (h.fresh 1)=some (v',h')∧v'.one=true∧v'.cells=[v']∧h'.n=h.n∧h'.cell=h.cell) 1 rfl (Y:=fun v'=>qk tEn v' (log.map nn++[nn ⟨p,j,1,n⟩])) fun F J y=>by
  obtain⟨v',h',a1,a2,a3,a4,a5,a6⟩:=sL y (row:=nn ⟨p,j,1,n⟩) rfl (by simpa using hn)
  exact⟨h',v',⟨a1,a2,a3,a5,a6⟩,a4⟩
 have ix:∀ q:IntKind,ci none (some (12,1)) (.ptr b 0 0) (.int q (j:Int))=some (.ptr b 0 j):=fun q=>by simp[ci,hj]
 have hcell:fG (j:Int)=true:=by simp[fG];omega
 have c3:=(s1.cell 0 rfl).1
 have hst:stA (cells.map (AV.int .i64)++[v]) 12 [v']=cells.map (AV.int .i64)++[v']:=by
  unfold stA
  rw[List.take_left' (by simp[hl]),List.drop_of_length_le (by simp[hl])]
  simp
 have st:=bq (n:=1) (x:=v') (off:=12) (i:=0) c3 rfl (by rw[o2];simpa using o1) (by rw[o2];rfl) (by omega)
 rw[o2,hst,List.set_cons_zero]at st
 have s2:=s1.set 0 rfl [cells.map (AV.int .i64)++[v']]
 have g4:=(kG (v:=v') hl hj).1
 refine⟨_,?_,sw (v:=v') (log:=log++[⟨p,j,1,n⟩]) (by rw[List.map_append];exact s2)⟩
 have ld:∀ (x:AH) (k:Nat) (u:AV),(cells.map (AV.int .i64)++[u])[j]? =some (.int .i64 (cells.getD j 0))→x.cell b=some [cells.map (AV.int .i64)++[u]]→aH false k x (.ptr b 0 j)=some (.int .i64 (cells.getD j 0)):=fun x k u hu hx=>by
  rw[bW,hx,Option.bind_some,List.getElem?_cons_zero,Option.bind_some,eR,hu]
 have l12:∀ k:Nat,aH false k h (.ptr b 0 12)=some v:=fun k=>by
  rw[bW,c1,Option.bind_some,List.getElem?_cons_zero,Option.bind_some,eR,g2]
 have f12:aF 12 (.ptr b 0 0)=some (.ptr b 0 12):=rfl
 have lf:=ld _ 1 v' g4 (s2.cell 0 rfl).1
 simp only[nn]at e1
 refine ag Eo rfl ?_;unfold vN
 simp only[sim,af,Nat.reduceAdd,Nat.reduceSub,List.replicate,reduceCtorEq,Nat.reduceLeDiff,Nat.reduceLT,aa,au,Aq,hcell,f12,l12,e1,o1,o2,st,ix,lf]
theorem Dp {b:Nat} {cells:List Int} {log:List gq} (s0:St h0 F0 J0 h L) (i:Nat) (hi:L[i]? =some (be b cells log)) (hl:cells.length=12) (hn:log.length≤1000000) {c:Int} (hc:0≤c∧c<12) (p n z:Int):
  ∃ h',ai Try.prog po 137 [.ptr b 0 0,.int .i64 p,.int .i64 c,.int .i64 n,.int .i64 z] h=some (.inl (.bool true),h')∧St h0 F0 J0 h' (L.set i (be b (cells.set c.toNat z) (log++[⟨p,c,2,n⟩]))):=by
 refine s0.call (R:=fun h'=>ai Try.prog po 137 [.ptr b 0 0,.int .i64 p,.int .i64 c,.int .i64 n,.int .i64 z] h=some (.inl (.bool true),h')) i hi fun F J x=> ?_
 obtain⟨v,s⟩:=pO x
 obtain⟨c1,c2⟩:=s.cell 0 rfl
 obtain⟨j,rfl⟩:=Int.eq_ofNat_of_zero_le hc.1
 have hj:j<12:=by omega
 obtain⟨g1,g2,g3⟩:=kG (v:=v) hl hj
 obtain⟨h1,v',⟨e1,o1,o2,n1,k1⟩,s1⟩:=s.callE (R:=fun h' v'=>aO false tEn v (.isl (some h.ids) tEn [nn ⟨p,j,2,n⟩]) (h.fresh 1)=some (v',h')∧v'.one=true∧v'.cells=[v']∧h'.n=h.n∧h'.cell=h.cell) 1 rfl (Y:=fun v'=>qk tEn v' (log.map nn++[nn ⟨p,j,2,n⟩])) fun F J y=>by
  obtain⟨v',h',a1,a2,a3,a4,a5,a6⟩:=sL y (row:=nn ⟨p,j,2,n⟩) rfl (by simpa using hn)
  exact⟨h',v',⟨a1,a2,a3,a5,a6⟩,a4⟩
 have ix:∀ q:IntKind,ci none (some (12,1)) (.ptr b 0 0) (.int q (j:Int))=some (.ptr b 0 j):=fun q=>by simp[ci,hj]
 have hcell:fG (j:Int)=true:=by simp[fG];omega
 have c3:=(s1.cell 0 rfl).1
 have hst:stA (cells.map (AV.int .i64)++[v]) 12 [v']=cells.map (AV.int .i64)++[v']:=by
  unfold stA
  rw[List.take_left' (by simp[hl]),List.drop_of_length_le (by simp[hl])]
  simp
 have st:=bq (n:=1) (x:=v') (off:=12) (i:=0) c3 rfl (by rw[o2];simpa using o1) (by rw[o2];rfl) (by omega)
 rw[o2,hst,List.set_cons_zero]at st
 have s2:=s1.set 0 rfl [cells.map (AV.int .i64)++[v']]
 have g4:=kG (v:=v') hl hj
 have hst2:stA (cells.map (AV.int .i64)++[v']) j [.int .i64 z]=(cells.set j z).map (AV.int .i64)++[v']:=by
  have:stA (cells.map (AV.int .i64)++[v']) j [.int .i64 z]=(cells.map (AV.int .i64)++[v']).set j (.int .i64 z):=by
   refine List.ext_getElem? fun i=> ?_
   rw[gT _ _ _ _ (by simp only[List.length_singleton,g4.2.2];omega)]
   by_cases e:i=j
   ·subst e
    rw[if_pos (by simp only[List.length_singleton];omega),List.getElem?_set_self (by rw[g4.2.2];omega)]
    simp
   ·rw[if_neg (by simp only[List.length_singleton];omega),List.getElem?_set_ne (by omega)]
  rw[this,List.set_append_left _ _ (by simp;omega),List.map_set]
 have st2:=bq (n:=1) (x:= .int .i64 z) (off:=j) (i:=0) (s2.cell 0 rfl).1 rfl rfl rfl (by rw[g4.2.2];omega)
 rw[show(AV.int .i64 z).cells=[.int .i64 z] from rfl,hst2,List.set_cons_zero]at st2
 have s3:=s2.set 0 rfl [(cells.set j z).map (AV.int .i64)++[v']]
 refine⟨_,?_,sw (v:=v') (log:=log++[⟨p,j,2,n⟩]) (by rw[List.map_append];exact s3)⟩
 have l12:∀ k:Nat,aH false k h (.ptr b 0 12)=some v:=fun k=>by
  rw[bW,c1,Option.bind_some,List.getElem?_cons_zero,Option.bind_some,eR,g2]
 have f12:aF 12 (.ptr b 0 0)=some (.ptr b 0 12):=rfl
 simp only[nn]at e1
 refine ag C2 rfl ?_;unfold sI
 simp only[sim,af,Nat.reduceAdd,Nat.reduceSub,List.replicate,reduceCtorEq,Nat.reduceLeDiff,Nat.reduceLT,aa,au,Aq,hcell,f12,l12,e1,o1,o2,st,ix,st2]
end
def Mv (h0:AH) (F J:Nat→Prop) (b:Nat) (h:AH) (G:ae) (C I:List Nat):Prop:=
 ∃ F' J',IsG h F' J' b G∧Chg F J h0 h∧(∀ k,F' k→F k∨h0.n≤k)∧(∀ j,J' j→J j∨h0.ids≤j)∧(∀ k∈C,h0.n≤k∧k<h.n∧¬ F' k)∧(∀ j∈I,h0.ids≤j∧j<h.ids∧¬ J' j)
section
variable {h0 h:AH} {F J:Nat→Prop} {b:Nat} {G G':ae} {C I:List Nat}
theorem Mv.start (g:IsG h F J b G):Mv h F J b h G [] []:=⟨F,J,g,Chg.refl _ _ _,fun _=> .inl,fun _=> .inl,by simp,by simp⟩
theorem Mv.did (m:Mv h0 F J b h G C I):bT h0 F J b h G:=by
 obtain⟨F',J',g,c,f,j,_⟩:=m
 exact⟨F',J',g,c,f,j⟩
theorem Mv.isG (m:Mv h0 F J b h G C I):∃ F' J',IsG h F' J' b G:=by
 obtain⟨F',J',g,_⟩:=m
 exact⟨F',J',g⟩
theorem Mv.n (m:Mv h0 F J b h G C I):h0.n≤h.n:=by
 obtain⟨_,_,_,c,_⟩:=m
 exact c.n
theorem Mv.lt (m:Mv h0 F J b h G C I) {k:Nat} (hk:k∈C):k<h.n:=by
 obtain⟨_,_,_,_,_,_,c,_⟩:=m
 exact(c k hk).2.1
theorem Mv.old (m:Mv h0 F J b h G C I) {k:Nat} (hk:k<h0.n) (hF:¬ F k):h.cell k=h0.cell k:=by
 obtain⟨_,_,_,c,_⟩:=m
 exact c.cell k hk hF
theorem Mv.grew {h':AH} (m:Mv h0 F J b h G C I) (x:ab h h'):Mv h0 F J b h' G C I:=by
 obtain⟨F',J',g,c,f,j,hc,hi⟩:=m
 refine⟨F',J',g.grew x,c.trans (x.chg _ _),f,j,fun k hk=> ?_,fun i hk=> ?_⟩
 ·obtain⟨a1,a2,a3⟩:=hc k hk
  exact⟨a1,Nat.lt_of_lt_of_le a2 x.n,a3⟩
 ·obtain⟨a1,a2,a3⟩:=hi i hk
  exact⟨a1,Nat.lt_of_lt_of_le a2 x.ids,a3⟩
theorem Mv.push (m:Mv h0 F J b h G C I) (r:List (List AV)):Mv h0 F J b (h.push r) G (h.n::C) I:=by
 have hn:=m.n
 obtain⟨F',J',g,c,f,j,hc,hi⟩:=m.grew (ab.push h r)
 obtain⟨F2,J2,g2,c2,f2,j2,hc2,hi2⟩:=m
 refine⟨F2,J2,g2.grew (ab.push h r),c,f2,j2,fun k hk=> ?_,fun i hk=> ?_⟩
 ·rcases List.mem_cons.1 hk with rfl | hk
  ·exact⟨hn,by simp[AH.push],fun hF=>by have:=g2.lt.1 _ hF;omega⟩
  ·obtain⟨a1,a2,a3⟩:=hc2 k hk
   exact⟨a1,by simp only[aL];omega,a3⟩
 ·exact hi2 i hk
theorem Mv.fresh (m:Mv h0 F J b h G C I) (r:Nat):Mv h0 F J b (h.fresh r) G C (h.ids::I):=by
 obtain⟨F2,J2,g2,c2,f2,j2,hc2,hi2⟩:=m
 refine⟨F2,J2,g2.grew (ab.fresh h r),c2.trans ((ab.fresh h r).chg _ _),f2,j2,hc2,fun i hk=> ?_⟩
 rcases List.mem_cons.1 hk with rfl | hk
 ·exact⟨c2.ids,by simp[AH.fresh],fun hF=>by have:=g2.lt.2 _ hF;omega⟩
 ·obtain⟨a1,a2,a3⟩:=hi2 i hk
  exact⟨a1,by simp only[nC];omega,a3⟩
theorem Mv.set (m:Mv h0 F J b h G C I) {c:Nat} (hk:c∈C) (es:Option (List (List AV))):Mv h0 F J b (h.set c es) G C I:=by
 obtain⟨F2,J2,g2,c2,f2,j2,hc2,hi2⟩:=m
 obtain⟨a1,a2,a3⟩:=hc2 c hk
 have x:Chg (fun k=>k=c) (fun _=>False) h (h.set c es):=⟨Nat.le_refl _,Nat.le_refl _,fun k _ hk=>aV hk,fun _ _ _=>rfl⟩
 refine⟨F2,J2,g2.keep x (fun k hk e=>a3 (e ▸ hk)) (fun _ _ h=>h),c2.then x (fun k e=> .inr (by rw[e];exact a1)) (fun _ h=>h.elim),f2,j2,hc2,hi2⟩
theorem Mv.grow (m:Mv h0 F J b h G C I) {i:Nat} (hk:i∈I) (r:Nat):Mv h0 F J b (h.grow i r) G C I:=by
 obtain⟨F2,J2,g2,c2,f2,j2,hc2,hi2⟩:=m
 obtain⟨a1,a2,a3⟩:=hi2 i hk
 have x:Chg (fun _=>False) (fun j=>j=i) h (h.grow i r):=⟨Nat.le_refl _,Nat.le_refl _,fun _ _ _=>rfl,fun j _ hj=>oY hj⟩
 exact⟨F2,J2,g2.keep x (fun _ _ h=>h) (fun j hj e=>a3 (e ▸ hj)),c2.then x (fun _ h=>h.elim) (fun j e=> .inr (by rw[e];exact a1)),f2,j2,hc2,hi2⟩
theorem Mv.callF {R:AH→Prop} (m:Mv h0 F J b h G C I) (c:∀ F2 J2,IsG h F2 J2 b G→(∀ k,k<h0.n→¬ F k→¬ F2 k)→(∀ k∈C,¬ F2 k)→∃ h',R h'∧bT h F2 J2 b h' G'):
  ∃ h',R h'∧Mv h0 F J b h' G' C I∧(∀ k∈C,h'.cell k=h.cell k)∧(∀ k,k<h0.n→¬ F k→h'.cell k=h.cell k)∧(∀ j∈I,h'.hw j=h.hw j):=by
 obtain⟨F2,J2,g2,c2,f2,j2,hc2,hi2⟩:=m
 obtain⟨h',r,F3,J3,g3,c3,f3,j3⟩:=c F2 J2 g2 (fun k hk hF h2=>by
  rcases f2 k h2 with h | h
  ·exact hF h
  ·omega) (fun k hk=>(hc2 k hk).2.2)
 have cc:=c2.then c3 f2 j2
 refine⟨h',r,⟨F3,J3,g3,cc,fun k hk=> ?_,fun j hj=> ?_,fun k hk=> ?_,fun i hk=> ?_⟩,fun k hk=>c3.cell k (hc2 k hk).2.1 (hc2 k hk).2.2,fun k hk hF=> ?_,fun j hj=>c3.hw j (hi2 j hj).2.1 (hi2 j hj).2.2⟩
 ·rcases f3 k hk with h | h
  ·exact f2 k h
  ·exact .inr (Nat.le_trans c2.n h)
 ·rcases j3 j hj with h | h
  ·exact j2 j h
  ·exact .inr (Nat.le_trans c2.ids h)
 ·obtain⟨a1,a2,a3⟩:=hc2 k hk
  refine⟨a1,Nat.lt_of_lt_of_le a2 c3.n,fun hF=> ?_⟩
  rcases f3 k hF with h | h
  ·exact a3 h
  ·omega
 ·obtain⟨a1,a2,a3⟩:=hi2 i hk
  refine⟨a1,Nat.lt_of_lt_of_le a2 c3.ids,fun hF=> ?_⟩
  rcases j3 i hF with h | h
  ·exact a3 h
  ·omega
 ·refine c3.cell k (Nat.lt_of_lt_of_le hk c2.n) fun hF2=> ?_
  rcases f2 k hF2 with h | h
  ·exact hF h
  ·omega
theorem Mv.call {R:AH→Prop} (m:Mv h0 F J b h G C I) (c:∀ F J,IsG h F J b G→∃ h',R h'∧bT h F J b h' G'):
  ∃ h',R h'∧Mv h0 F J b h' G' C I∧(∀ k∈C,h'.cell k=h.cell k)∧(∀ k,k<h0.n→¬ F k→h'.cell k=h.cell k)∧(∀ j∈I,h'.hw j=h.hw j):=m.callF fun F2 J2 g _ _=>c F2 J2 g
def pA (e:TypeId) (I:List Nat) (h:AH) (v:AV) (acc:List (List AV)):Prop:=(acc=[]∧v= .nils)∨∃ id,id∈I∧acc≠[]∧h.hw id=acc.length∧v= .isl (some id) e acc
theorem pA.sla {e:TypeId} {v:AV} {acc:List (List AV)} (a:pA e I h v acc):SlA e v acc:=by
 rcases a with a | ⟨id,_,_,_,rfl⟩
 ·exact .inl a
 ·exact .inr ⟨_,rfl⟩
theorem pA.cell {e:TypeId} {v:AV} {acc:List (List AV)} (a:pA e I h v acc):v.one=true∧v.cells=[v]:=by
 rcases a with⟨_,rfl⟩ | ⟨id,_,_,_,rfl⟩<;>exact⟨rfl,rfl⟩
theorem pA.keep {h':AH} {e:TypeId} {v:AV} {acc:List (List AV)} (a:pA e I h v acc) (hk:∀ j∈I,h'.hw j=h.hw j):pA e I h' v acc:=by
 rcases a with a | ⟨id,a1,a2,a3,a4⟩
 ·exact .inl a
 ·exact .inr ⟨id,a1,a2,(hk id a1).trans a3,a4⟩
theorem KF {e:TypeId} {v:AV} {acc:List (List AV)} (m:Mv h0 F J b h G C I) (ha:pA e I h v acc) {row:List AV} (h1:row.all AV.one=true) (hl:acc.length≤1000000):
  ∃ v' h' I',aO false e v (.isl (some h.ids) e [row]) (h.fresh 1)=some (v',h')∧pA e I' h' v' (acc++[row])∧Mv h0 F J b h' G C I'∧h'.cell=h.cell∧h'.n=h.n:=by
 have h1':∀ x,x∈row→x.one=true:=by simpa using h1
 rcases ha with⟨rfl,rfl⟩ | ⟨id,a1,a2,a3,rfl⟩
 ·refine⟨.isl (some (h.ids+1)) e [row],(h.fresh 1).fresh 1,(h.ids+1)::h.ids::I,?_,.inr ⟨h.ids+1,by simp,by simp,by simp[AH.fresh],by simp⟩,(m.fresh 1).fresh 1,rfl,rfl⟩
  simp only[aO,cg,if_true,Option.bind_some,List.length_singleton,Nat.one_ne_zero,if_false,ev]
  rw[if_pos ⟨by omega,by omega,by simpa using h1'⟩]
  rfl
 ·have hlt:id<h.ids:=by
   obtain⟨_,_,_,_,_,_,_,hi⟩:=m
   exact(hi id a1).2.1
  have hne:id≠h.ids:=by omega
  refine⟨.isl (some id) e (acc++[row]),(h.fresh 1).grow id (acc.length+1),h.ids::I,?_,.inr ⟨id,by simp[a1],by simp,by simp[AH.grow],rfl⟩,(m.fresh 1).grow (by simp[a1]) _,rfl,rfl⟩
  simp only[aO,cg,if_true,Option.bind_some,List.length_singleton,Nat.one_ne_zero,if_false,ev]
  rw[if_pos ⟨by omega,by omega,by simpa using h1'⟩,gi hne,a3]
  simp only[true_and,hl,if_true]
end
theorem DU {x:BitVec 64}:BR x.toInt 4=eS x.toInt 2:=by
 have h4:(4:Int)=(4#64).toInt:=by decide
 rw[h4,vG,Ap x (by omega)]
 have e:(4#64)=BitVec.twoPow 64 2:=by decide
 cases hb:x.getLsbD 2
 ·refine decide_eq_false fun h=> ?_
  have:=congrArg (fun v:BitVec 64=>v.getLsbD 2) h
  simp only[BitVec.getLsbD_and,hb,Bool.false_and]at this
  exact absurd this (by decide)
 ·refine decide_eq_true (BitVec.eq_of_getLsbD_eq fun i hi=> ?_)
  rw[BitVec.getLsbD_and,e,BitVec.getLsbD_twoPow]
  by_cases h2:2=i
  ·subst h2
   simp[hb]
  ·simp[h2]
section
variable {h:AH} {F J:Nat→Prop} {b:Nat} {G:ae}
abbrev mH:TypeId:=200
theorem Gg {C:ti} {nv:Nat} {d:RD} {is:List RI} {k:List RK} {V L:List AV} {q:TypeId} {v:AV}:aq C nv (.ops (.i d (.pan (.l 0))::is)::k) V (.iface q v::L) h=some (.panic (.iface q v),V,h):=FW rfl
theorem CU (c:Int):ai Try.prog po 142 [.bool true,.int .i64 c] h=some (.inr (.iface mH (.int .i64 c)),h):=by
 refine ag xn rfl ?_;unfold qI
 simp only[sim,af,Nat.reduceAdd,Nat.reduceSub,List.replicate,reduceCtorEq,Nat.reduceLeDiff,Nat.reduceLT,aa,Ih,Gg,mp (ab.refl h) (rfl:wkA (.iface mH (.int .i64 c))=_)]
theorem Ge (c:Int):ai Try.prog po 142 [.bool false,.int .i64 c] h=some (.inl (.tup []),h):=by
 refine ag xn rfl ?_;unfold qI
 simp only[sim,af,Nat.reduceAdd,Nat.reduceSub,List.replicate,reduceCtorEq,Nat.reduceLeDiff,Nat.reduceLT,aa,az (ab.refl h) (rfl:wkA (.tup [])=_)]
theorem KU (g:ae) (hW:g.Wf) (i:Int):ai Try.prog po 132 [.int .i64 (g.rights i),.int .i64 4] h=some (.inl (.bool (eS (g.rights i) 2)),h):=by
 obtain⟨x,hx⟩:=pW hW i
 have e:BR (g.rights i) 4=eS (g.rights i) 2:=by rw[hx];exact DU
 rw[←e]
 refine ag Bj rfl ?_;unfold uI
 simp only[sim,af,Nat.reduceAdd,Nat.reduceSub,List.replicate,reduceCtorEq,Nat.reduceLeDiff,Nat.reduceLT,aa]
 rfl
def JP (ks:List Int) (G:ae) (n:Int) (q:AV ⊕ AV):Prop:=
 ((i8 ks G n).2.2=0∧q= .inl (.int .i64 (i8 ks G n).2.1))∨((i8 ks G n).2.2≠0∧q= .inr (.iface mH (.int .i64 (i8 ks G n).2.2)))
theorem Ce (k:Int) (l:List Int) (G:ae) (n:Int):i8 (k::l) G n=if(G.derive n 15 k).2.2≠0 then((G.derive n 15 k).1,0,(G.derive n 15 k).2.2)else i8 l (G.derive n 15 k).1 (G.derive n 15 k).2.1:=rfl
theorem EO {m:Nat} {gv:AV} {ks:List Int} (g:IsG h F J b G) (hW:G.Wf) (hm:m<h.n) (hF:¬ F m) (hc:h.cell m=some [[.ptr b 0 0,gv]]) (hg:IsL 3 gv (db ks)) (hk:ks.length≤1000000) (n:Int):
  ∃ q h',ai Try.prog po 134 [.ptr m 0 0,.int .i64 n] h=some (q,h')∧(JP ks G n q∧bT h F J b h' (i8 ks G n).1):=by
 have hl:=hg.len
 have hf:=hg.fits
 rw[List.length_map]at hl
 refine FC (Post:=fun q h'=>JP ks G n q∧bT h F J b h' (i8 ks G n).1) GV rfl fun Q hR hP=> ?_;unfold BJ
 simp only[sim,af,Nat.reduceAdd,Nat.reduceSub,List.replicate,reduceCtorEq,Nat.reduceLeDiff,Nat.reduceLT,aa,hc,hl,hf]
 refine gt (fun i V h'=>∃ v3 v4 v5 v9 G' n',V=[.ptr m 0 0,.int .i64 n',.int .i64 0,v3,v4,v5,gv,.int .i64 ks.length,.int .i64 (i:Nat),v9]∧G'.Wf∧Mv h F J b h' G' [] []∧i8 (ks.drop i) G' n'=i8 ks G n) ks.length ⟨_,_,_,_,G,n,rfl,hW,Mv.start g,rfl⟩ ?_ ?_
 ·rintro i V h' hi ⟨v3,v4,v5,v9,G',n',rfl,hW',mv,he⟩ next
  have hlt:(i:Int)<(ks.length:Int):=by omega
  have hw:=w64 (n:=(i:Int)+1) (by omega) (by omega)
  obtain⟨k,hk'⟩:∃ k,ks[i]? =some k:=⟨_,List.getElem?_eq_getElem hi⟩
  have i1:=hg.ix .i64 i [.int .i64 k] (by simp[hk'])
  have hd:ks.drop i=k::ks.drop (i+1):=by
   obtain⟨hi',rfl⟩:=List.getElem?_eq_some_iff.1 hk'
   exact List.drop_eq_getElem_cons hi'
  have hc':h'.cell m=some [[.ptr b 0 0,gv]]:=(mv.old hm hF).trans hc
  obtain⟨h2,e2,mv2, -, -, -⟩:=mv.call fun F J g=>pS g hW' n' 15 k
  rw[hd,Ce]at he
  by_cases hz:(G'.derive n' 15 k).2.2=0
  ·rw[if_neg (by simp[hz])]at he
   have ef:=fun h=>Ge (h:=h) 0
   rw[hz]at e2
   rw[aJ jB.eq_1]
   simp only[sim,af,Nat.reduceAdd,Nat.reduceSub,List.replicate,reduceCtorEq,Nat.reduceLeDiff,Nat.reduceLT,aa,hlt,i1,hc',e2,ef,hw]
   exact next _ _ ⟨_,_,_,_,_,_,rfl,hW'.derive _ _ _,mv2,he⟩
  ·rw[if_pos hz]at he
   have ef:=fun h=>CU (h:=h) (G'.derive n' 15 k).2.2
   rw[aJ jB.eq_1]
   simp only[sim,af,Nat.reduceAdd,Nat.reduceSub,List.replicate,reduceCtorEq,Nat.reduceLeDiff,Nat.reduceLT,aa,hlt,i1,hc',e2,hz,ef]
   refine hP _ _ _ ⟨.inr ?_,?_⟩
   ·rw[←he]
    exact⟨hz,rfl⟩
   ·rw[←he]
    exact mv2.did
 ·rintro V h' ⟨v3,v4,v5,v9,G',n',rfl,hW',mv,he⟩
  have hlt:¬ (ks.length:Int)<(ks.length:Int):=by omega
  rw[List.drop_length]at he
  rw[aJ jB.eq_1]
  simp only[sim,af,Nat.reduceAdd,Nat.reduceSub,List.replicate,reduceCtorEq,Nat.reduceLeDiff,Nat.reduceLT,aa,hlt]
  refine hR _ _ _ rfl ⟨.inl ?_,?_⟩
  ·rw[←he]
   exact⟨rfl,rfl⟩
  ·rw[←he]
   exact mv.did
theorem De {G:ae} (hW:G.Wf) (l:List Int):∀ (i:Nat) (n:Int),l[i]? =some n→(l.drop i).any (fun n=> !eS (G.rights n) 2)=(!eS (G.rights n) 2 || (l.drop (i+1)).any fun n=> !eS (G.rights n) 2):=by
 intro i n hn
 obtain⟨hi,rfl⟩:=List.getElem?_eq_some_iff.1 hn
 rw[List.drop_eq_getElem_cons hi,List.any_cons]
theorem xU {x:VD} (h:x.code=0):x.size≤40:=by
 unfold VD.code at h
 split at h
 ·cases h
 ·omega
theorem DL (g:IsG h F J b G) (hW:G.Wf) {x:VD} {r:List AV} (hx:VaA x r):ai Try.prog po 120 [.ptr b 0 0,.agg r] h=some (.inl (.int .i64 (qF G x)),h):=by
 obtain⟨o1,o2⟩:=hx.one
 have e1:=fun h=>eU (h:=h) hx
 unfold qF
 by_cases hc:x.code=0
 ·have hs:=xU hc
  have e2:=fun h=>yj _ x (Nat.le_refl _) (by omega) r h hx
  rw[if_neg (by simp[hc])]
  cases hgt:x.gate
  ·have e3:=fun h=>Ch _ x (Nat.le_refl _) (by omega) r h hx
   have il:=oH 3 (db x.caps)
   have hl:=il.len
   have hf:=il.fits
   rw[List.length_map]at hl
   have cf:=x.caps_few
   simp only[hgt]at e2
   simp only[Bool.false_eq_true,if_false]
   refine eO uY rfl fun Q hQ=> ?_;unfold oW
   simp only[sim,af,Nat.reduceAdd,Nat.reduceSub,List.replicate,reduceCtorEq,Nat.reduceLeDiff,Nat.reduceLT,aa,o1,o2,bI o2,e1,hc,e2,e3,hl,hf]
   refine gt (fun i V h'=>∃ v5 v11 v12,V=[.ptr b 0 0,.agg r,.ptr h.n 0 0,.int .i64 0,.int .i64 0,v5,.bool false,.bool false,jM 3 (db x.caps),.int .i64 x.caps.length,.int .i64 (i:Nat),v11,v12]∧ab h h'∧(x.caps.drop i).any (fun n=> !eS (G.rights n) 2)=x.caps.any fun n=> !eS (G.rights n) 2) x.caps.length ⟨_,_,_,rfl,(by repeat (first | exact ab.refl _ | refine ab.trans ?_ (ab.push _ _) | refine ab.trans ?_ (ab.fresh _ _))),rfl⟩ ?_ ?_
   ·rintro i V h' hi ⟨v5,v11,v12,rfl,gr,he⟩ next
    have hlt:(i:Int)<(x.caps.length:Int):=by omega
    have hw:=w64 (n:=(i:Int)+1) (by omega) (by omega)
    obtain⟨n,hn⟩:∃ n,x.caps[i]? =some n:=⟨_,List.getElem?_eq_getElem hi⟩
    have i1:=il.ix .i64 i [.int .i64 n] (by simp[hn])
    have e4:=vE (g.grew gr) hW n
    have e5:=fun h=>KU (h:=h) G hW n
    rw[De hW _ _ _ hn]at he
    cases hb:eS (G.rights n) 2
    ·rw[hb]at he
     simp only[hb]at e5
     rw[aJ jx.eq_1]
     simp only[sim,af,Nat.reduceAdd,Nat.reduceSub,List.replicate,reduceCtorEq,Nat.reduceLeDiff,Nat.reduceLT,aa,hlt,i1,e4,e5]
     refine hQ _ _ _ rfl gr ?_
     rw[←he]
     rfl
    ·rw[hb]at he
     simp only[hb]at e5
     rw[aJ jx.eq_1]
     simp only[sim,af,Nat.reduceAdd,Nat.reduceSub,List.replicate,reduceCtorEq,Nat.reduceLeDiff,Nat.reduceLT,aa,hlt,i1,e4,e5,hw]
     exact next _ _ ⟨_,_,_,rfl,gr,he⟩
   ·rintro V h' ⟨v5,v11,v12,rfl,gr,he⟩
    have hlt:¬ (x.caps.length:Int)<(x.caps.length:Int):=by omega
    rw[List.drop_length]at he
    rw[aJ jx.eq_1]
    simp only[sim,af,Nat.reduceAdd,Nat.reduceSub,List.replicate,reduceCtorEq,Nat.reduceLeDiff,Nat.reduceLT,aa,hlt]
    refine hQ _ _ _ rfl gr ?_
    rw[←he]
    rfl
  ·simp only[hgt]at e2
   simp only[if_true]
   refine eO uY rfl fun Q hQ=> ?_;unfold oW
   simp only[sim,af,Nat.reduceAdd,Nat.reduceSub,List.replicate,reduceCtorEq,Nat.reduceLeDiff,Nat.reduceLT,aa,o1,o2,bI o2,e1,hc,e2]
   exact hQ _ _ _ rfl (by repeat (first | exact ab.refl _ | refine ab.trans ?_ (ab.push _ _) | refine ab.trans ?_ (ab.fresh _ _))) rfl
 ·rw[if_pos hc]
  refine eO uY rfl fun Q hQ=> ?_;unfold oW
  simp only[sim,af,Nat.reduceAdd,Nat.reduceSub,List.replicate,reduceCtorEq,Nat.reduceLeDiff,Nat.reduceLT,aa,o1,o2,bI o2,e1,hc]
  exact hQ _ _ _ rfl (by repeat (first | exact ab.refl _ | refine ab.trans ?_ (ab.push _ _) | refine ab.trans ?_ (ab.fresh _ _))) rfl
end
section
variable {h:AH} {F J:Nat→Prop} {b:Nat} {G:ae}
def Ek (ks:List Int) (G:ae) (x:VD) (q:AV ⊕ AV):Prop:=
 ((dn ks x G).2.2=0∧∃ r',q= .inl (.agg r')∧VaA (dn ks x G).2.1 r')∨((dn ks x G).2.2≠0∧q= .inr (.iface mH (.int .i64 (dn ks x G).2.2)))
theorem yl (ks:List Int) (x:VD) (l:List VD) (G:ae):bA ks (x::l) G=
  if(dn ks x G).2.2≠0 then((dn ks x G).1,[],(dn ks x G).2.2)
  else((bA ks l (dn ks x G).1).1,(dn ks x G).2.1::(bA ks l (dn ks x G).1).2.1,(bA ks l (dn ks x G).1).2.2):=rfl
theorem HC {l:List VD} {i:Nat} {y:VD} (h:l[i]? =some y):l.drop i=y::l.drop (i+1):=by
 obtain⟨hi,rfl⟩:=List.getElem?_eq_some_iff.1 h
 exact List.drop_eq_getElem_cons hi
set_option maxHeartbeats 2000000 in
theorem FH {m:Nat} {gv:AV} {ks:List Int} (hg:IsL 3 gv (db ks)) (hk:ks.length≤1000000):∀ (N:Nat) (x:VD),SizeOf.sizeOf x≤N→x.size≤100000→∀ (r:List AV) (h:AH) (F J:Nat→Prop) (G:ae),IsG h F J b G→G.Wf→m<h.n→¬ F m→h.cell m=some [[.ptr b 0 0,gv]]→VaA x r→
  ∃ q h',ai Try.prog po 122 [.ptr m 0 0,.agg r] h=some (q,h')∧(Ek ks G x q∧bT h F J b h' (dn ks x G).1):=by
 intro N
 induction N with
 | zero=>intro x hx;have:=x.so_pos;omega
 | succ N ih=>
   intro x hx hsz r h F J G g hW hm hF hc he
   obtain⟨v,es,rfl,hsl,hv,hn,hix⟩:=he.facts
   have hlen:=x.len_size
   have hve:=zV ks x G
   -- the loop over the parts
   have rest:∀ (Q:iS→Prop) (h1:AH) (G1:ae) (n1:Int) (I:List Nat) (v6:AV),G1.Wf→Mv h F J b h1 G1 [h.n+1+1,h.n+1,h.n] I→h1.cell h.n=some [[.int .i64 x.kind,.int .i64 x.n,v]]→h1.cell (h.n+1)=some [[.int .i64 0,.int .i64 0,.nils]]→h1.cell (h.n+1+1)=some [[.int .i64 x.kind,.int .i64 n1,.nils]]→
     (∀ V h' v,(eC V h' [.cell true 3 3]).map fj=some v→(bA ks x.l G1).2.2=0→(∃ r',v= .agg r'∧VaA (.mk x.kind n1 (bA ks x.l G1).2.1) r')→bT h F J b h' (bA ks x.l G1).1→Q (some (.ret,V,h')))→
     (∀ V h',(bA ks x.l G1).2.2≠0→bT h F J b h' (bA ks x.l G1).1→Q (some (.panic (.iface mH (.int .i64 (bA ks x.l G1).2.2)),V,h')))→
     Q (aq (ai Try.prog po) 11 (.lp iz:: .ss []:: .blk 0::[.ss [.ops [(.i .l (.load true 3 (.v 4))),(.i .n (.store 3 (.v 3) (.l 0)))],.ret]])
       [.ptr m 0 0,.agg [.int .i64 x.kind,.int .i64 x.n,v],.ptr h.n 0 0,.ptr (h.n+1) 0 0,.ptr (h.n+1+1) 0 0,.junk,v6,v,.int .i64 es.length,.int .i64 0,.junk] [] h1):=by
    intro Q h1 G1 n1 I v6 hW1 mv1 d1 d2 d3 hR hP
    refine gt (fun i V h'=>∃ v5 v10 acc rows C I G' ys,V=[.ptr m 0 0,.agg [.int .i64 x.kind,.int .i64 x.n,v],.ptr h.n 0 0,.ptr (h.n+1) 0 0,.ptr (h.n+1+1) 0 0,v5,v6,v,.int .i64 es.length,.int .i64 (i:Nat),v10]∧
     G'.Wf∧(Mv h F J b h' G' C I∧h.n+1+1∈C∧h.n+1∈C∧h.n∈C)∧h'.cell (h.n+1)=some [[.int .i64 0,.int .i64 0,.nils]]∧h'.cell (h.n+1+1)=some [[.int .i64 x.kind,.int .i64 n1,acc]]∧
     pA tV I h' acc rows∧VaL ys rows∧rows.length=i∧bA ks x.l G1=((bA ks (x.l.drop i) G').1,ys++(bA ks (x.l.drop i) G').2.1,(bA ks (x.l.drop i) G').2.2)) x.l.length
     ⟨_,_,_,[],_,I,G1,[],rfl,hW1,⟨mv1,by simp,by simp,by simp⟩,d2,d3,.inl ⟨rfl,rfl⟩,rfl,rfl,rfl⟩ ?_ ?_
    ·rintro i V h' hi ⟨v5,v10,acc,rows,C,I,G',ys,rfl,hW',⟨mv,m1,m2,m3⟩,c2,c3,ha,hr,hri,hq⟩ next
     have hlt:(i:Int)<(es.length:Int):=by rw[hn];omega
     obtain⟨y,hy⟩:=jH hi
     obtain⟨q,i1,j1,x1⟩:=hix i y hy
     obtain⟨o1,o2⟩:=x1.one
     have hw:=w64 (n:=(i:Int)+1) (by omega) (by omega)
     have mvp:=mv.push [q]
     have hc':(h'.push [q]).cell m=some [[.ptr b 0 0,gv]]:=(mvp.old hm hF).trans hc
     have p2:(h'.push [q]).cell (h.n+1)=some [[.int .i64 0,.int .i64 0,.nils]]:=(aX (mv.lt m2)).trans c2
     have p3:(h'.push [q]).cell (h.n+1+1)=some [[.int .i64 x.kind,.int .i64 n1,acc]]:=(aX (mv.lt m1)).trans c3
     have hap:pA tV I (h'.push [q]) acc rows:=ha
     obtain⟨h2,⟨q2,e2,r2⟩,mv2,k1,k2,k3⟩:=mvp.callF (R:=fun h2=>∃ q2,ai Try.prog po 122 [.ptr m 0 0,.agg q] (h'.push [q])=some (q2,h2)∧Ek ks G' y q2) (G':=(dn ks y G').1) fun F2 J2 g2 hF2 _=>by
      obtain⟨q2,h2,e2,r2,d2⟩:=ih y (by have:=VD.lt_mem (gz hy);omega) (by have:=VD.size_mem (gz hy);omega) q (h'.push [q]) F2 J2 G' g2 hW' (by have:=mv.n;simp only[aL];omega) (hF2 m hm hF) hc' x1
      exact⟨h2,⟨q2,e2,r2⟩,d2⟩
     rw[HC hy,yl]at hq
     have f2:h2.cell (h.n+1)=some [[.int .i64 0,.int .i64 0,.nils]]:=(k1 _ (by simp[m2])).trans p2
     have f3:h2.cell (h.n+1+1)=some [[.int .i64 x.kind,.int .i64 n1,acc]]:=(k1 _ (by simp[m1])).trans p3
     rcases r2 with⟨hz,r',rfl,x2⟩ | ⟨hz,rfl⟩
     ·rw[if_neg (by simp[hz])]at hq
      obtain⟨o3,o4⟩:=x2.one
      obtain⟨acc2,h3,I3,e3,a1,mv3,a3,a4⟩:=KF (e:=tV) mv2 (hap.keep k3) (row:=r') o3 (by rw[hri];omega)
      obtain⟨oA,cA⟩:=a1.cell
      rw[aJ iz.eq_1]
      simp only[sim,af,Nat.reduceAdd,Nat.reduceSub,List.replicate,reduceCtorEq,Nat.reduceLeDiff,Nat.reduceLT,aa,hlt,i1,j1,o1,o2,bI o2,p3,e2,f3,o3,o4,e3,a3,oA,cA,hw]
      refine next _ _ ⟨_,_,_,_,_,I3,_,ys++[(dn ks y G').2.1],rfl,oG ks y G' hW',⟨mv3.set (by simp[m1]) _,by simp[m1],by simp[m2],by simp[m3]⟩,?_,bh,a1.keep fun _ _=>rfl,hr.append x2,by simp[hri],?_⟩
      ·rw[aV (by omega),a3]
       exact f2
      ·rw[hq]
       simp
     ·rw[if_pos hz]at hq
      rw[aJ iz.eq_1]
      simp only[sim,af,Nat.reduceAdd,Nat.reduceSub,List.replicate,reduceCtorEq,Nat.reduceLeDiff,Nat.reduceLT,aa,hlt,i1,j1,o1,o2,bI o2,p3,e2]
      have q1:(bA ks x.l G1).2.2=(dn ks y G').2.2:=by rw[hq]
      have q2:(bA ks x.l G1).1=(dn ks y G').1:=by rw[hq]
      rw[←q1]at hz ⊢
      exact hP _ _ hz (by rw[q2];exact mv2.did)
    ·rintro V h' ⟨v5,v10,acc,rows,C,I,G',ys,rfl,hW',⟨mv,m1,m2,m3⟩,c2,c3,ha,hr,hri,hq⟩
     have hlt:¬ ((x.l.length:Int)<(es.length:Int)):=by rw[hn];omega
     rw[List.drop_length]at hq
     simp only[bA,List.append_nil]at hq
     obtain⟨oA,cA⟩:=ha.cell
     rw[aJ iz.eq_1]
     simp only[sim,af,Nat.reduceAdd,Nat.reduceSub,List.replicate,reduceCtorEq,Nat.reduceLeDiff,Nat.reduceLT,aa,hlt,c3,c2,oA,cA]
     refine hR _ _ (.agg [.int .i64 x.kind,.int .i64 n1,acc]) (by simp only[sim,oA,List.all_cons,List.all_nil,List.length_cons,List.length_nil,Option.map_some,Option.bind_some,List.getD_cons_zero,List.getD_cons_succ,List.take_succ_cons,List.take_zero,List.drop_zero]) ?_ ⟨_,rfl,?_⟩ ?_
     ·rw[hq]
     ·rw[hq]
      exact VaA.mk (x:= .mk x.kind n1 ys) ha.sla hr
     ·rw[hq]
      exact(mv.set m2 _).did
   have m0:=((Mv.start g).push [[.int .i64 x.kind,.int .i64 x.n,v]]).push [[.int .i64 0,.int .i64 0,.nils]]
   have m1:=m0.push [[.int .i64 x.kind,.int .i64 x.n,.nils]]
   have q0:(((h.push [[.int .i64 x.kind,.int .i64 x.n,v]]).push [[.int .i64 0,.int .i64 0,.nils]]).push [[.int .i64 x.kind,.int .i64 x.n,.nils]]).cell m=some [[.ptr b 0 0,gv]]:=(m1.old hm hF).trans hc
   refine FC (Post:=fun q h'=>Ek ks G x q∧bT h F J b h' (dn ks x G).1) Ii rfl fun Q hR hP=> ?_;unfold zX
   by_cases h4:x.kind=4
   ·have hh:cN ks G x.kind x.n=i8 ks G x.n:=by rw[cN,if_pos h4]
    rw[hh]at hve
    rw[h4]at m1 q0 rest
    obtain⟨h2,⟨q2,e2,r2⟩,mv2,k1,k2,k3⟩:=m1.callF (R:=fun h2=>∃ q2,ai Try.prog po 134 [.ptr m 0 0,.int .i64 x.n] _=some (q2,h2)∧JP ks G x.n q2) (G':=(i8 ks G x.n).1) fun F2 J2 g2 hF2 _=>by
     obtain⟨q2,h2,e2,r2,d2⟩:=EO g2 hW (by simp only[aL];omega) (hF2 m hm hF) q0 hg hk x.n
     exact⟨h2,⟨q2,e2,r2⟩,d2⟩
    have f1:h2.cell h.n=some [[.int .i64 4,.int .i64 x.n,v]]:=(k1 _ (by simp[aL])).trans fv
    have f2:h2.cell (h.n+1)=some [[.int .i64 0,.int .i64 0,.nils]]:=(k1 _ (by simp[aL])).trans gS
    have f3:h2.cell (h.n+1+1)=some [[.int .i64 4,.int .i64 x.n,.nils]]:=(k1 _ (by simp[aL])).trans dj
    rw[h4]at hve
    rcases r2 with⟨hz,rfl⟩ | ⟨hz,rfl⟩
    ·rw[if_neg (by simp[hz])]at hve
     simp only[sim,af,Nat.reduceAdd,Nat.reduceSub,List.replicate,reduceCtorEq,Nat.reduceLeDiff,Nat.reduceLT,aa,hv,h4,e2,f1,f3,aV (show h.n≠h.n+1+1 by omega),hsl.len,hsl.fits]
     refine rest Q _ (i8 ks G x.n).1 (i8 ks G x.n).2.1 _ _ (Bk ks G x.n hW) (mv2.set (by simp[aL]) _) ?_ ?_ bh (fun V h' v' e hz2 hr hd=> ?_) (fun V h' hz2 hd=> ?_)
     ·rw[aV (by omega)];exact f1
     ·rw[aV (by omega)];exact f2
     ·obtain⟨r',rfl,hr⟩:=hr
      rw[if_neg (by simp[hz2])]at hve
      refine hR _ _ _ e ⟨.inl ⟨by rw[hve],r',rfl,by rw[hve];exact hr⟩,by rw[hve];exact hd⟩
     ·rw[if_pos hz2]at hve
      refine hP _ _ _ ⟨.inr ⟨by rw[hve];exact hz2,by rw[hve]⟩,by rw[hve];exact hd⟩
    ·rw[if_pos hz]at hve
     simp only[sim,af,Nat.reduceAdd,Nat.reduceSub,List.replicate,reduceCtorEq,Nat.reduceLeDiff,Nat.reduceLT,aa,hv,h4,e2]
     refine hP _ _ _ ⟨.inr ⟨by rw[hve];exact hz,by rw[hve]⟩,by rw[hve];exact mv2.did⟩
   ·have hh:cN ks G x.kind x.n=(G,x.n,0):=by rw[cN,if_neg h4]
    rw[hh]at hve
    rw[if_neg (by simp)]at hve
    simp only[sim,af,Nat.reduceAdd,Nat.reduceSub,List.replicate,reduceCtorEq,Nat.reduceLeDiff,Nat.reduceLT,aa,hv,h4,hsl.len,hsl.fits]
    refine rest Q _ G x.n _ _ hW m1 fv gS dj (fun V h' v' e hz2 hr hd=> ?_) (fun V h' hz2 hd=> ?_)
    ·obtain⟨r',rfl,hr⟩:=hr
     rw[if_neg (by simp[hz2])]at hve
     refine hR _ _ _ e ⟨.inl ⟨by rw[hve],r',rfl,by rw[hve];exact hr⟩,by rw[hve];exact hd⟩
    ·rw[if_pos hz2]at hve
     refine hP _ _ _ ⟨.inr ⟨by rw[hve];exact hz2,by rw[hve]⟩,by rw[hve];exact hd⟩
theorem dk:VaA aA [.int .i64 0,.int .i64 0,.nils]:=by
 simp only[aA,VaA]
 exact⟨_,[],rfl,.inl ⟨rfl,rfl⟩,rfl⟩
end
def yB (mb bb fb:Nat) (left:Int):Asn:=ah mb [[.ptr bb 0 0,.msl fb 0 0 tFr,.int .i64 left]]
section
variable {h h' h0:AH} {F J F0 J0:Nat→Prop} {L:List Asn} {mb bb fb:Nat} {left:Int} {below:List FrD} {top:FrD}
theorem jA:∀ {rs:List (List AV)} {fs:List FrD} {r:List AV} {f:FrD} {h:AH} {F J:Nat→Prop},rs.length=fs.length→((d8 (rs++[r]) (fs++[f])).A h F J↔(dG (ls r f) (d8 rs fs)).A h F J)
 | [],[],r,f,h,F,J,_=>Iff.rfl
 | q::rs,g::fs,r,f,h,F,J,hl=>by
   have ih:∀ {h:AH} {F J:Nat→Prop},(d8 (rs++[r]) (fs++[f])).A h F J↔(dG (ls r f) (d8 rs fs)).A h F J:=jA (by simpa using hl)
   constructor
   ·intro x
    exact iU (eD (fun _ _ _ y=>y) (fun _ _ _ y=>ih.1 y) x)
   ·intro x
    exact eD (fun _ _ _ y=>y) (fun _ _ _ y=>ih.2 y) (iU x)
 | [],_::_,_,_,_,_,_,hl=>by simp at hl
 | _::_,[],_,_,_,_,_,hl=>by simp at hl
structure JO (h:AH) (mb bb fb:Nat) (left:Int) (below:List FrD) (top:FrD) (a:List AV) (sv nv g:AV):Prop where
 m:h.cell mb=some [[.ptr bb 0 0,.msl fb 0 (below.length+1) tFr,.int .i64 left]]
 mn:mb<h.n
 rd:∀ (n j:Nat) (v:AV),(cr top a sv nv g)[j]? =some v→aH false n h (.ptr fb below.length j)=some v
 arg:aH true 3 h (.ptr fb below.length 3)=some (.agg a)
 all:aH true 10 h (.ptr fb below.length 0)=some (.agg (cr top a sv nv g))
 ha:VaA top.arg a
 hg:SlA 3 g (db top.gates)
 sv:sv.one=true∧sv.cells=[sv]∧dN sv=some top.stack.length∧∀ s,cT s (some tV) sv=true
 nv:nv.one=true∧nv.cells=[nv]∧dN nv=some top.names.length∧(∀ s,cT s (some tV) nv=true)∧∀ (q:IntKind) (i:Nat) (y:VD),top.names[i]? =some y→∃ p r,ci (some tV) none nv (.int q (i:Int))=some p∧aH true 3 h p=some (.agg r)∧VaA y r
 fbn:fb<h.n
theorem cM (s0:St h0 F0 J0 h L) (i:Nat) (hi:L[i]? =some (dO mb bb fb left below top)):∃ a sv nv g,JO h mb bb fb left below top a sv nv g:=by
 obtain⟨F,J,x⟩:=s0.get i hi
 obtain⟨rs,ex,a,sv,nv,g,hrl,ha,hg,s⟩:=ii x
 have q1:=(s.cell 1 rfl).1
 have g6:=bR top a sv nv g ha.len3.1
 obtain⟨F1,J1,x1⟩:=s.get 2 rfl
 obtain⟨F2,J2,x2⟩:=s.get 3 rfl
 have r1:=gX x1
 have r2:=gX x2
 refine⟨a,sv,nv,g,(s.cell 0 rfl).1,(s.cell 0 rfl).2,fun n j v hv=>ko q1 hrl hv,?_,?_,ha,hg,⟨r1.1,r1.2.1,r1.2.2.1,r1.2.2.2.1⟩,r2,(s.cell 1 rfl).2⟩
 ·rw[bW,q1,Option.bind_some,mQ hrl,Option.bind_some]
  unfold ldA
  rw[if_pos rfl,if_pos (by rw[g6.2.1];decide)]
  match a,ha.len3.1 with
  | [x,y,z],_=>rfl
 ·rw[bW,q1,Option.bind_some,mQ hrl,Option.bind_some]
  exact bI g6.2.1
theorem yQ (s0:St h0 F0 J0 h L) (i:Nat) (hi:L[i]? =some (dO mb bb fb left below top)) (pc:Nat):∃ h',aD 1 h (.ptr fb below.length 2) (.int .i64 (pc:Int))=some h'∧St h0 F0 J0 h' (L.set i (dO mb bb fb left below {top with pc:=pc})):=by
 refine s0.call (R:=fun h'=>aD 1 h (.ptr fb below.length 2) (.int .i64 (pc:Int))=some h') i hi fun F J x=> ?_
 obtain⟨rs,ex,a,sv,nv,g,hrl,ha,hg,s⟩:=ii x
 have g6:=bR top a sv nv g ha.len3.1
 have hr:(cr top a sv nv g).set 2 (.int .i64 (pc:Int))=cr {top with pc:=pc} a sv nv g:=rfl
 have s1:=s.set 1 rfl (rs++cr {top with pc:=pc} a sv nv g::ex)
 exact⟨_,kH (s.cell 1 rfl).1 hrl rfl rfl (by rw[g6.2.1];decide) hr,kP (top:={top with pc:=pc}) ha hg s1⟩
theorem Fz (s0:St h0 F0 J0 h L) (i:Nat) (hi:L[i]? =some (dO mb bb fb left below top)) (l:Int):∃ h',aD 1 h (.ptr mb 0 2) (.int .i64 l)=some h'∧St h0 F0 J0 h' (L.set i (dO mb bb fb l below top)):=by
 refine s0.call (R:=fun h'=>aD 1 h (.ptr mb 0 2) (.int .i64 l)=some h') i hi fun F J x=> ?_
 obtain⟨rs,ex,a,sv,nv,g,hrl,ha,hg,s⟩:=ii x
 have s1:=s.set 0 rfl [[.ptr bb 0 0,.msl fb 0 (below.length+1) tFr,.int .i64 l]]
 exact⟨_,bq (s.cell 0 rfl).1 rfl rfl rfl (by simp),kP ha hg s1⟩
theorem vY (f:FrD) (a:List AV) (s n g n':AV) (nm:List VD) (ha:a.length=3):(cr f a s n g).set 7 n'=cr {f with names:=nm} a s n' g:=by
 match a,ha with
 | [x,y,z],_=>rfl
theorem Fx (s0:St h0 F0 J0 h L) (i:Nat) (hi:L[i]? =some (dO mb bb fb left below top)) {nm:List VD} {v:VD} (hn:top.names=nm++[v]) {a:List AV} {sv nv g:AV} (hv:JO h mb bb fb left below top a sv nv g):
  ∃ nv' h',jC nv none (some (.int .i64 (nm.length:Int)))=some nv'∧nv'.one=true∧nv'.cells=[nv']∧aD 1 h (.ptr fb below.length 7) nv'=some h'∧St h0 F0 J0 h' (L.set i (dO mb bb fb left below {top with names:=nm})):=by
 obtain⟨h',nv',⟨e1,e2,e3,e4⟩,s'⟩:=s0.callE (R:=fun h' nv'=>jC nv none (some (.int .i64 (nm.length:Int)))=some nv'∧nv'.one=true∧nv'.cells=[nv']∧aD 1 h (.ptr fb below.length 7) nv'=some h') i hi (Y:=fun _=>dO mb bb fb left below {top with names:=nm}) fun F J x=>by
  obtain⟨rs,ex,a',sv',nv',g',hrl,ha,hg,s⟩:=ii x
  have g6:=bR top a' sv' nv' g' ha.len3.1
  have l7:=ko (n:=1) (s.cell 1 rfl).1 hrl g6.2.2.1
  have l7':=hv.rd 1 7 nv (bR top a sv nv g hv.ha.len3.1).2.2.1
  rw[l7]at l7'
  injection l7' with l7'
  subst l7'
  obtain⟨F1,J1,x1⟩:=s.get 3 rfl
  rw[hn]at x1
  obtain⟨b,hb⟩:=wH x1 (by simp)
  rw[List.length_append,List.length_singleton]at hb
  subst hb
  have s1:=s.set 1 rfl (rs++cr {top with names:=nm} a' sv' (.msl b 0 nm.length tV) g'::ex)
  have s2:St h F J _ (FX mb bb fb left below {top with names:=nm} rs ex a' sv' (.msl b 0 nm.length tV) g'):=s1.upd 3 rfl fun _ _ _ x=>by rw[hn]at x;exact vv x
  exact⟨_,.msl b 0 nm.length tV,⟨tX (by omega),rfl,rfl,kH (s.cell 1 rfl).1 hrl rfl rfl (by rw[g6.2.1];decide) (vY _ _ _ _ _ _ nm ha.len3.1)⟩,kP (top:={top with names:=nm}) ha hg s2⟩
 exact⟨nv',h',e1,e2,e3,e4,s'⟩
theorem Gs {b n:Nat} {l:List VD} (x:(gd (.msl b 0 n tV) l).A h F J) {i:Nat} (hi:i<l.length) {v:VD} {r:List AV} (hv:VaA v r):∃ h',aD 3 h (.ptr b i 0) (.agg r)=some h'∧Did h F J h' (gd (.msl b 0 n tV) (l.set i v)):=by
 obtain⟨rows,hl,x⟩:=x
 have hlen:=hl.len
 rcases x with⟨⟨_,e⟩,_⟩ | ⟨⟨b',es⟩,⟨e,h1,h2⟩,a1,a2,a3,a4⟩
 ·cases e
 ·injection e with e1 _ e2 _
  simp only at e1 h1 h2 a1 a3 a4
  subst e1
  have hir:i<rows.length:=by omega
  have hie:i<es.length:=by omega
  obtain⟨q,hq⟩:∃ q,es[i]? =some q:=⟨_,List.getElem?_eq_getElem hie⟩
  have hq3:q.length=3:=by
   have h5:rows[i]? =some q:=by
    conv=>lhs;rw[h2]
    rw[List.getElem?_take_of_lt hir]
    exact hq
   obtain⟨y,hy⟩:∃ y,l[i]? =some y:=⟨_,List.getElem?_eq_getElem hi⟩
   obtain⟨r',h6,h7⟩:=hl.get hy
   rw[h5]at h6
   injection h6 with h6
   rw[h6]
   exact h7.len3.1
  have hst:stA q 0 r=r:=by
   unfold stA
   rw[List.take_zero,List.nil_append,List.drop_of_length_le (by have:=hv.len3.1;omega),List.append_nil]
  have hset:∀ {l:List VD} {rows:List (List AV)} {i:Nat},VaL l rows→i<l.length→VaL (l.set i v) (rows.set i r):=by
   intro l
   induction l with
   | nil=>intro rows i _ hi;simp at hi
   | cons y l ih=>
     intro rows i hl hi
     obtain⟨r0,rs,rfl,q1,q2⟩:=hl
     cases i with
     | zero=>exact⟨r,rs,rfl,hv,q2⟩
     | succ i=>exact⟨r0,rs.set i r,rfl,q1,ih q2 (by simpa using hi)⟩
  refine⟨_,bq (es:=es) (e:=q) a4 hq hv.len3.2 hv.len3.1 (by omega),F,J,⟨rows.set i r,hset hl hi,.inr ⟨⟨b,es.set i r⟩,⟨by simp only[List.length_set,e2],by simpa using h1,?_⟩,a1,a2,a3,?_⟩⟩,⟨Nat.le_refl _,Nat.le_refl _,fun k _ hk=>aV fun e=>hk ((a1 k).2 e),fun _ _ _=>rfl⟩,fun _=> .inl,fun _=> .inl⟩
  ·simp only[List.length_set]
   rw[List.take_set]
   conv=>lhs;rw[h2]
  ·simp only[AV.cells,hst]
   exact bh
theorem yi {n b i off:Nat} {h h':AH} {r:List AV} (hs:aD n h (.ptr b i off) (.agg r)=some h'):aH true n h' (.ptr b i off)=some (.agg r):=by
 unfold aD at hs
 simp only[Option.bind_eq_some_iff]at hs
 obtain⟨es,h2,e,h3,h4⟩:=hs
 split at h4
 ·rename_i hc
  injection h4 with h4
  subst h4
  have hi:=(List.getElem?_eq_some_iff.1 h3).1
  have c2:=hc.2.1
  simp only[AV.cells]at c2
  rw[bW,bh,Option.bind_some,List.getElem?_set_self hi,Option.bind_some]
  have hl:=jD e r off (by omega)
  simp only[AV.cells,ldA,if_true]
  have:((stA e off r).drop off).take n=r:=by
   unfold stA
   rw[List.append_assoc,List.drop_left' (by simp;omega),List.take_left' c2]
  rw[this]
  exact if_pos (by omega)
 ·cases h4
theorem Fg (s0:St h0 F0 J0 h L) (i:Nat) (hi:L[i]? =some (dO mb bb fb left below top)) {v:VD} {r:List AV} (hv:VaA v r) (hl:top.names.length≤1000000) {bz:Nat} (hz:h.cell bz=some [zR3]) {a:List AV} {sv nv g:AV} (mv:JO h mb bb fb left below top a sv nv g):
  ∃ q h1 h2 h3,aO true tV nv (.msl bz 0 1 tV) h=some (.msl q 0 (top.names.length+1) tV,h1)∧aD 3 h1 (.ptr q top.names.length 0) (.agg r)=some h2∧aD 1 h2 (.ptr fb below.length 7) (.msl q 0 (top.names.length+1) tV)=some h3∧aH true 3 h3 (.ptr q top.names.length 0)=some (.agg r)∧
    St h0 F0 J0 h3 (L.set i (dO mb bb fb left below {top with names:=top.names++[v]})):=by
 have zv:VaA aA zR3:=dk
 obtain⟨h3,⟨q,h1,h2⟩,⟨e1,e2,e3,e4⟩,s'⟩:=s0.callE (R:=fun h3 (q:Nat×AH×AH)=>aO true tV nv (.msl bz 0 1 tV) h=some (.msl q.1 0 (top.names.length+1) tV,q.2.1)∧aD 3 q.2.1 (.ptr q.1 top.names.length 0) (.agg r)=some q.2.2∧aD 1 q.2.2 (.ptr fb below.length 7) (.msl q.1 0 (top.names.length+1) tV)=some h3∧aH true 3 h3 (.ptr q.1 top.names.length 0)=some (.agg r)) i hi (Y:=fun _=>dO mb bb fb left below {top with names:=top.names++[v]}) fun F J x=>by
  obtain⟨rs,ex,a',sv',nv',g',hrl,ha,hg,s⟩:=ii x
  have g6:=bR top a' sv' nv' g' ha.len3.1
  have l7:=ko (n:=1) (s.cell 1 rfl).1 hrl g6.2.2.1
  have l7':=mv.rd 1 7 nv (bR top a sv nv g mv.ha.len3.1).2.2.1
  rw[l7]at l7'
  injection l7' with l7'
  subst l7'
  obtain⟨h1,e1,s1⟩:=s.app 3 rfl hz zv hl
  obtain⟨h2,e2,s2⟩:=s1.call (R:=fun h2=>aD 3 h1 (.ptr h.n top.names.length 0) (.agg r)=some h2) 3 rfl fun F J x=>Gs x (i:=top.names.length) (by simp) hv
  rw[show(top.names++[aA]).set top.names.length v=top.names++[v] from AM top.names [] aA v rfl]at s2
  have st:=kH (v:= .msl h.n 0 (top.names.length+1) tV) (s2.cell 1 rfl).1 hrl rfl rfl (by rw[g6.2.1];decide) (vY _ _ _ _ _ _ (top.names++[v]) ha.len3.1)
  have s3:=s2.set 1 rfl (rs++cr {top with names:=top.names++[v]} a' sv' (.msl h.n 0 (top.names.length+1) tV) g'::ex)
  obtain⟨F4,J4,x4⟩:=s3.get 3 rfl
  obtain⟨p,r',p1,p2,p3⟩:=(gX x4).2.2.2.2 .i64 top.names.length v (AP top.names [] v rfl)
  refine⟨_,(h.n,h1,h2),⟨e1,e2,st,?_⟩,kP (top:={top with names:=top.names++[v]}) ha hg s3⟩
  -- what was put there is there still
  obtain⟨F5,J5,x5⟩:=s2.get 3 rfl
  have hne:fb≠h.n:=by have:=(s.cell 1 rfl).2;omega
  rw[bW,aV (Ne.symm hne),←bW (agg:=true) (n:=3)]
  exact yi e2
 exact⟨q,h1,h2,h3,e1,e2,e3,e4,s'⟩
theorem nI (x:(dO mb bb fb left below top).A h F J):∃ rs ex row,rs.length=below.length∧row.length=10∧row.all AV.one=true∧St h F J h [ah mb [[.ptr bb 0 0,.msl fb 0 (below.length+1) tFr,.int .i64 left]],ah fb (rs++row::ex),ls row top,d8 rs below]:=by
 obtain⟨⟨rs,row,ex⟩,x⟩:=x
 obtain⟨F1,J1,F2,J2,x1,⟨F3,J3,F4,J4,x3,⟨F5,J5,F6,J6,x5,x6,r6⟩,r4⟩,r2⟩:=x
 have x5':=x5
 obtain⟨⟨a,s,n,g⟩,⟨e,ha,hg⟩,y⟩:=x5'
 simp only at e
 have g6:=bR top a s n g ha.len3.1
 obtain⟨_,_,_,_,y1,y2,_⟩:=y
 have hgo:g.one=true:=by
  have hg:SlA _ g _:=hg
  rcases hg with⟨_,rfl⟩ | ⟨id,rfl⟩<;>rfl
 refine⟨rs,ex,row,kt x6,by rw[e];exact g6.2.1,by rw[e];exact lN ha.len3 (gX y1).1 (gX y2).1 hgo,St.start ?_⟩
 exact⟨F1,J1,F2,J2,x1,⟨F3,J3,F4,J4,x3,⟨F5,J5,F6,J6,x5,bg.one x6,r6⟩,r4⟩,r2⟩
theorem rg {rs ex:List (List AV)} {row:List AV} (s:St h0 F0 J0 h [ah mb [[.ptr bb 0 0,.msl fb 0 (below.length+1) tFr,.int .i64 left]],ah fb (rs++row::ex),ls row top,d8 rs below]):Did h0 F0 J0 h (dO mb bb fb left below top):=
 Did.imp (fun _ _ _ x=>by
  obtain⟨F1,J1,F2,J2,x1,⟨F3,J3,F4,J4,x3,⟨F5,J5,F6,J6,x5,x6,r6⟩,r4⟩,r2⟩:=x
  exact⟨⟨rs,row,ex⟩,F1,J1,F2,J2,x1,⟨F3,J3,F4,J4,x3,⟨F5,J5,F6,J6,x5,bg.one' x6,r6⟩,r4⟩,r2⟩) s
theorem sc {f:FrD} {a:List AV} {g:AV} (ha:VaA f.arg a) (hg:SlA 3 g (db f.gates)) (hs:f.stack=[]) (hn:f.names=[]):(ls (cr f a .nils .nils g) f).A h (fun _=>False) (fun _=>False):=by
 have e:∀ (l:List VD),l=[]→(gd .nils l).A h (fun _=>False) (fun _=>False):=fun l hl=>by
  subst hl
  exact⟨[],rfl,.inl ⟨⟨rfl,rfl⟩,fun _ h=>h,fun _ h=>h⟩⟩
 exact⟨⟨a,.nils,.nils,g⟩,⟨rfl,ha,hg⟩,fun _=>False,fun _=>False,fun _=>False,fun _=>False,e _ hs,e _ hn,fun k=>by simp,fun j=>by simp,fun _ h=>h.elim,fun _ h=>h.elim⟩
theorem St.front {X:Asn} (s:St h0 F0 J0 h L) (i:Nat) (hi:L[i]? =some X):St h0 F0 J0 h (X::L.eraseIdx i):=s.imp fun _ _ _ x=>(bg.front hi).1 x
theorem FZ (s0:St h0 F0 J0 h L) (i:Nat) (hi:L[i]? =some (dO mb bb fb left below top)) {f:FrD} {a:List AV} {g:AV} (ha:VaA f.arg a) (hg:SlA 3 g (db f.gates)) (hs:f.stack=[]) (hn:f.names=[]) (hb:below.length≤1000) {bz:Nat} (hz:h.cell bz=some [cr f a .nils .nils g]):
  ∃ h1 h2,aO true tFr (.msl fb 0 (below.length+1) tFr) (.msl bz 0 1 tFr) h=some (.msl h.n 0 (below.length+2) tFr,h1)∧aD 1 h1 (.ptr mb 0 1) (.msl h.n 0 (below.length+2) tFr)=some h2∧St h0 F0 J0 h2 (L.set i (dO mb bb h.n left (below++[top]) f)):=by
 obtain⟨h2,h1,⟨e1,e2⟩,s'⟩:=s0.callE (R:=fun h2 h1=>aO true tFr (.msl fb 0 (below.length+1) tFr) (.msl bz 0 1 tFr) h=some (.msl h.n 0 (below.length+2) tFr,h1)∧aD 1 h1 (.ptr mb 0 1) (.msl h.n 0 (below.length+2) tFr)=some h2) i hi (Y:=fun _=>dO mb bb h.n left (below++[top]) f) fun F J x=>by
  obtain⟨rs,ex,row,hrl,hl10,ho,s⟩:=nI x
  have c1:=(s.cell 1 rfl).1
  have g6:=bR f a .nils .nils g ha.len3.1
  have hgo:g.one=true:=by rcases hg with⟨_,rfl⟩ | ⟨id,rfl⟩<;>rfl
  have ho2:([cr f a .nils .nils g].all fun x=>x.all AV.one)=true:=by simp only[List.all_cons,List.all_nil,Bool.and_true];exact lN ha.len3 rfl rfl hgo
  have htk:(rs++row::ex).take (below.length+1)=rs++[row]:=by
   rw[←hrl,List.take_append]
   simp[List.take_of_length_le (Nat.le_succ rs.length)]
  have hap:aO true tFr (.msl fb 0 (below.length+1) tFr) (.msl bz 0 1 tFr) h=some (.msl h.n 0 (below.length+2) tFr,(h.set fb none).push (rs++[row]++[cr f a .nils .nils g])):=by
   have he:cg h tFr (.msl bz 0 1 tFr)=some [cr f a .nils .nils g]:=by simp[cg,hz]
   simp only[aO,he,Option.bind_some,List.length_singleton]
   rw[if_neg (by decide)]
   simp only[ev,c1,Option.bind_some]
   rw[if_pos ⟨by simp,by simp,ho2⟩,if_pos ⟨trivial,trivial,by omega⟩,if_pos (by simp;omega),htk]
   rfl
  have s1:=s.del 1 rfl
  have s2:=s1.push (rs++[row]++[cr f a .nils .nils g])
  have hnn:(h.set fb none).n=h.n:=rfl
  have st:aD 1 ((h.set fb none).push (rs++[row]++[cr f a .nils .nils g])) (.ptr mb 0 1) (.msl h.n 0 (below.length+2) tFr)=some (((h.set fb none).push (rs++[row]++[cr f a .nils .nils g])).set mb (some [[.ptr bb 0 0,.msl h.n 0 (below.length+2) tFr,.int .i64 left]])):=bq (n:=1) (i:=0) (x:= .msl h.n 0 (below.length+2) tFr) (off:=1) (e:=[.ptr bb 0 0,.msl fb 0 (below.length+1) tFr,.int .i64 left]) (s2.cell 1 rfl).1 rfl rfl rfl (by simp)
  have s3:=s2.set 1 rfl [[.ptr bb 0 0,.msl h.n 0 (below.length+2) tFr,.int .i64 left]]
  refine⟨_,_,⟨hap,st⟩,rg (rs:=rs++[row]) (ex:=[]) (row:=cr f a .nils .nils g) ?_⟩
  rw[List.length_append,List.length_singleton]
  have s4:=(s3.front 2 rfl).drop
  have s5:St _ _ _ _ [d8 (rs++[row]) (below++[top]),ah h.n (rs++[row]++[cr f a .nils .nils g]),ah mb [[.ptr bb 0 0,.msl h.n 0 (below.length+2) tFr,.int .i64 left]]]:=
   (((s4.front 2 rfl).front 3 rfl).front 1 rfl).imp fun _ _ _ x=>by
     have y:=bg.star_out x
     exact eD (fun _ _ _ z=>(jA hrl).2 z) (fun _ _ _ z=>z) y
  have s6:=s5.add (ab.refl _) (sc ha hg hs hn) (fun _ h=>h.elim) (fun _ h=>h.elim)
  have s7:=(((s6.front 1 rfl).front 1 rfl).front 2 rfl).front 3 rfl
  exact s7
 exact⟨h1,h2,e1,e2,s'⟩
theorem Fd (s0:St h0 F0 J0 h L) (i:Nat) {t:FrD} (hi:L[i]? =some (dO mb bb fb left (below++[t]) top)):
  ∃ h',aD 1 h (.ptr mb 0 1) (.msl fb 0 (below.length+1) tFr)=some h'∧St h0 F0 J0 h' (L.set i (dO mb bb fb left below t)):=by
 refine s0.call (R:=fun h'=>aD 1 h (.ptr mb 0 1) (.msl fb 0 (below.length+1) tFr)=some h') i hi fun F J x=> ?_
 obtain⟨rs,ex,row,hrl,hl10,ho,s⟩:=nI x
 rw[List.length_append,List.length_singleton]at hrl
 obtain⟨rs',q,rfl⟩:∃ rs' q,rs=rs'++[q]:=by
  refine⟨rs.dropLast,rs.getLast (fun e=>by rw[e]at hrl;simp at hrl),(List.dropLast_concat_getLast _).symm⟩
 have hrl':rs'.length=below.length:=by simpa using hrl
 have st:aD 1 h (.ptr mb 0 1) (.msl fb 0 (below.length+1) tFr)=some (h.set mb (some [[.ptr bb 0 0,.msl fb 0 (below.length+1) tFr,.int .i64 left]])):=bq (n:=1) (i:=0) (x:= .msl fb 0 (below.length+1) tFr) (off:=1) (e:=[.ptr bb 0 0,.msl fb 0 ((below++[t]).length+1) tFr,.int .i64 left]) (s.cell 0 rfl).1 rfl rfl rfl (by simp)
 have s1:=s.set 0 rfl [[.ptr bb 0 0,.msl fb 0 (below.length+1) tFr,.int .i64 left]]
 have s2:=(s1.front 2 rfl).drop
 have s3:=(s2.front 2 rfl).imp fun _ _ _ x=>bg.star_in (eD (fun _ _ _ z=>(jA hrl').1 z) (fun _ _ _ z=>z) x)
 have s4:=(((s3.front 1 rfl).front 1 rfl).front 3 rfl).front 3 rfl
 exact⟨_,st,rg (rs:=rs') (ex:=row::ex) (row:=q) (by simpa using s4)⟩
theorem HH (s0:St h0 F0 J0 h L) (i:Nat) (hi:L[i]? =some (dO mb bb fb left [] top)):
  ∃ h',aD 1 h (.ptr mb 0 1) (.msl fb 0 0 tFr)=some h'∧St h0 F0 J0 h' (L.set i (yB mb bb fb left)):=by
 refine s0.call (R:=fun h'=>aD 1 h (.ptr mb 0 1) (.msl fb 0 0 tFr)=some h') i hi fun F J x=> ?_
 obtain⟨rs,ex,row,hrl,hl10,ho,s⟩:=nI x
 have st:aD 1 h (.ptr mb 0 1) (.msl fb 0 0 tFr)=some (h.set mb (some [[.ptr bb 0 0,.msl fb 0 0 tFr,.int .i64 left]])):=bq (n:=1) (i:=0) (x:= .msl fb 0 0 tFr) (off:=1) (e:=[.ptr bb 0 0,.msl fb 0 1 tFr,.int .i64 left]) (s.cell 0 rfl).1 rfl rfl rfl (by simp)
 have s1:=s.set 0 rfl [[.ptr bb 0 0,.msl fb 0 0 tFr,.int .i64 left]]
 have s2:=((s1.front 3 rfl).drop.front 2 rfl).drop
 have s3:=(s2.front 1 rfl).drop
 exact⟨_,st,Did.imp (fun _ _ _ x=>bg.one' x) s3⟩
end
theorem HN {x:BitVec 64} {k:Nat} (hk:k<64) {r:Int} (hr:r=(BitVec.twoPow 64 k).toInt):BR x.toInt r=eS x.toInt k:=by
 rw[hr,vG,Ap x hk]
 cases hb:x.getLsbD k
 ·refine decide_eq_false fun h=> ?_
  have:=congrArg (fun v:BitVec 64=>v.getLsbD k) h
  simp only[BitVec.getLsbD_and,hb,Bool.false_and,BitVec.getLsbD_twoPow]at this
  simp[hk]at this
 ·refine decide_eq_true (BitVec.eq_of_getLsbD_eq fun i hi=> ?_)
  rw[BitVec.getLsbD_and,BitVec.getLsbD_twoPow]
  by_cases h2:k=i
  ·subst h2
   simp[hb]
  ·simp[h2]
section
variable {h h' h0:AH} {F J F0 J0:Nat→Prop} {L:List Asn} {mb bb fb gb wb:Nat} {left:Int} {below:List FrD} {top:FrD} {ms:aG} {kept:List VD} {G:ae}
theorem bG (c:Int):ai Try.prog po 82 [.bool true,.int .i64 c] h=some (.inr (.iface tGo (.int .i64 c)),h):=by
 refine ag xH rfl ?_;unfold qy
 simp only[sim,af,Nat.reduceAdd,Nat.reduceSub,List.replicate,reduceCtorEq,Nat.reduceLeDiff,Nat.reduceLT,aa,Ih,Gg,mp (ab.refl h) (rfl:wkA (.iface tGo (.int .i64 c))=_)]
theorem bP (c:Int):ai Try.prog po 82 [.bool false,.int .i64 c] h=some (.inl (.tup []),h):=by
 refine ag xH rfl ?_;unfold qy
 simp only[sim,af,Nat.reduceAdd,Nat.reduceSub,List.replicate,reduceCtorEq,Nat.reduceLeDiff,Nat.reduceLT,aa,az (ab.refl h) (rfl:wkA (.tup [])=_)]
theorem kz (n:Int):ai Try.prog po 108 [.int .i64 n] h=some (.inl (.agg [.int .i64 1,.int .i64 n,.nils]),h):=by
 refine ag yw rfl ?_;unfold qz
 simp only[sim,af,Nat.reduceAdd,Nat.reduceSub,List.replicate,reduceCtorEq,Nat.reduceLeDiff,Nat.reduceLT,aa]
 exact az (ab.push _ _) rfl
theorem tM (n:Int):VaA (mX n) [.int .i64 1,.int .i64 n,.nils]:=⟨.nils,[],rfl,.inl ⟨rfl,rfl⟩,rfl⟩
theorem ED (n:Int):VaA (pN n) [.int .i64 4,.int .i64 n,.nils]:=⟨.nils,[],rfl,.inl ⟨rfl,rfl⟩,rfl⟩
theorem Hh (n:Int):VaA (.mk 5 n []) [.int .i64 5,.int .i64 n,.nils]:=⟨.nils,[],rfl,.inl ⟨rfl,rfl⟩,rfl⟩
theorem tU {k n:Int} {l:List VD} {es:List (List AV)} {id:Option Nat} (hl:VaL l es):VaA (.mk k n l) [.int .i64 k,.int .i64 n,.isl id tV es]:=⟨_,es,rfl,.inr ⟨id,rfl⟩,hl⟩
theorem VaA.cells3 {v:VD} {r:List AV} (hv:VaA v r):∃ w,r=[.int .i64 v.kind,.int .i64 v.n,w]∧w.one=true:=by
 cases v with
 | mk k n l=>
   obtain⟨w,es,rfl,h1,_⟩:=hv
   exact⟨w,rfl,by rcases h1 with⟨_,rfl⟩ | ⟨id,rfl⟩<;>rfl⟩
theorem dx {v:VD} {r:List AV} (hv:VaA v r) {k:Int} (hk:v.kind=k):∃ r',ai Try.prog po 84 [.agg r,.int .i64 k] h=some (.inl (.agg r'),h)∧VaA v r':=by
 obtain⟨r',hw,hr'⟩:=A9 hv
 obtain⟨w,rfl,ho⟩:=hv.cells3
 have hwA:wkA (.agg [.int .i64 v.kind,.int .i64 v.n,w])=some (.agg r'):=by simp only[wkA,hw,Option.map_some]
 refine⟨r',?_,hr'⟩
 have d:decide (v.kind=k)=true:=decide_eq_true hk
 refine ag wW rfl ?_;unfold pM
 simp only[sim,af,Nat.reduceAdd,Nat.reduceSub,List.replicate,reduceCtorEq,Nat.reduceLeDiff,Nat.reduceLT,aa,au,d,bP,ho]
 exact az (by repeat (first | exact ab.refl _ | refine ab.trans ?_ (ab.push _ _) | refine ab.trans ?_ (ab.fresh _ _))) hwA
theorem eG {v:VD} {r:List AV} (hv:VaA v r) {k:Int} (hk:v.kind≠k):ai Try.prog po 84 [.agg r,.int .i64 k] h=some (.inr (.iface tGo (.int .i64 2)),h):=by
 obtain⟨w,rfl,ho⟩:=hv.cells3
 have d:decide (v.kind=k)=false:=decide_eq_false hk
 refine ag wW rfl ?_;unfold pM
 simp only[sim,af,Nat.reduceAdd,Nat.reduceSub,List.replicate,reduceCtorEq,Nat.reduceLeDiff,Nat.reduceLT,aa,au,d,bG,ho]
 exact mp (by repeat (first | exact ab.refl _ | refine ab.trans ?_ (ab.push _ _) | refine ab.trans ?_ (ab.fresh _ _))) rfl
theorem sY {v:VD} {r:List AV} (hv:VaA v r) (hk:v.code=0):∃ r',ai Try.prog po 109 [.agg r] h=some (.inl (.agg r'),h)∧VaA v r':=by
 obtain⟨r',hw,hr'⟩:=A9 hv
 have hwA:wkA (.agg r)=some (.agg r'):=by simp only[wkA,hw,Option.map_some]
 refine⟨r',?_,hr'⟩
 have d:decide (v.code=0)=true:=decide_eq_true hk
 have ck:=fun h=>eU (h:=h) hv
 obtain⟨o1,o2⟩:=hv.len3
 refine ag sJ rfl ?_;unfold nx
 simp only[sim,af,Nat.reduceAdd,Nat.reduceSub,List.replicate,reduceCtorEq,Nat.reduceLeDiff,Nat.reduceLT,aa,au,d,bP,ck,o1,o2]
 exact az (by repeat (first | exact ab.refl _ | refine ab.trans ?_ (ab.push _ _) | refine ab.trans ?_ (ab.fresh _ _))) hwA
theorem wR {v:VD} {r:List AV} (hv:VaA v r) (hk:v.code≠0):ai Try.prog po 109 [.agg r] h=some (.inr (.iface tGo (.int .i64 3)),h):=by
 have d:decide (v.code=0)=false:=decide_eq_false hk
 have ck:=fun h=>eU (h:=h) hv
 obtain⟨o1,o2⟩:=hv.len3
 refine ag sJ rfl ?_;unfold nx
 simp only[sim,af,Nat.reduceAdd,Nat.reduceSub,List.replicate,reduceCtorEq,Nat.reduceLeDiff,Nat.reduceLT,aa,au,d,bG,ck,o1,o2]
 exact mp (by repeat (first | exact ab.refl _ | refine ab.trans ?_ (ab.push _ _) | refine ab.trans ?_ (ab.fresh _ _))) rfl
theorem ng (s:St h0 F0 J0 h L) {ib:Nat} (hi:L[ib]? =some (cP bb gb wb ms kept)) (hl:ms.length=kept.length):(∀ n:Nat,aH false n h (.ptr bb 0 0)=some (.ptr gb 0 0))∧∀ n:Nat,aH false n h (.ptr bb 0 1)=some (.ptr wb 0 0):=by
 obtain⟨F,J,x⟩:=s.get ib hi
 obtain⟨row,c1,_,c2,c3,_⟩:=uZ x hl
 refine⟨fun n=> ?_,fun n=> ?_⟩
 ·rw[bW,c1,Option.bind_some,List.getElem?_cons_zero,Option.bind_some,eR,c2]
 ·rw[bW,c1,Option.bind_some,List.getElem?_cons_zero,Option.bind_some,eR,c3]
theorem GQ (hW:G.Wf) (i:Int) {k:Nat} {r:Int} (hk:k<64) (hr:r=(BitVec.twoPow 64 k).toInt):ai Try.prog po 132 [.int .i64 (G.rights i),.int .i64 r] h=some (.inl (.bool (eS (G.rights i) k)),h):=by
 obtain⟨x,hx⟩:=pW hW i
 have e:BR (G.rights i) r=eS (G.rights i) k:=by rw[hx];exact HN hk hr
 rw[←e]
 refine ag Bj rfl ?_;unfold uI
 simp only[sim,af,Nat.reduceAdd,Nat.reduceSub,List.replicate,reduceCtorEq,Nat.reduceLeDiff,Nat.reduceLT,aa]
 rfl
abbrev Mk:FuncId:=135
abbrev zR6:List AV:=[.int .i64 0,.int .i64 0,.int .i64 0,.int .i64 0,.int .i64 0,.int .i64 0]
theorem pH (s:St h0 F0 J0 h L) {im ib ig:Nat} (hm:L[im]? =some (dO mb bb fb left below top)) (hb:L[ib]? =some (cP bb gb wb ms kept)) (hg:L[ig]? =some (aQ gb G)) (hl:ms.length=kept.length) (hW:G.Wf) {v:VD} {r:List AV} (hv:VaA v r) {k:Nat} {q:Int} (hk:k<64) (hq:q=(BitVec.twoPow 64 k).toInt):
  ai Try.prog po Mk [.ptr mb 0 0,.agg r,.int .i64 q] h=some (if eS (G.rights v.n) k=true then .inl (.tup [.int .i64 v.n,.agg (aK (G.target v.n).1)])else .inr (.iface tGo (.int .i64 9)),h):=by
 obtain⟨w,rfl,ho⟩:=hv.cells3
 have s1:=(s.push [[.int .i64 v.kind,.int .i64 v.n,w]]).push [zR6]
 obtain⟨a,sv,nv,g,mv⟩:=cM s1 (im+2) hm
 have l0:∀ n:Nat,aH false n _ (.ptr mb 0 0)=some (.ptr bb 0 0):=fun n=>by
  rw[bW,mv.m,Option.bind_some,List.getElem?_cons_zero,Option.bind_some,eR];rfl
 have l1:=(ng s1 (ib:=ib+2) hb hl).1
 obtain⟨F,J,gx⟩:=s1.get (ig+2) hg
 have rr:=vE (gx:IsG _ F J gb G) hW v.n
 have tt:=Dk (gx:IsG _ F J gb G) hW v.n
 have hh:=GQ (h:=(h.push [[.int .i64 v.kind,.int .i64 v.n,w]]).push [zR6]) hW v.n hk hq
 have f0:aF 0 (.ptr mb 0 0)=some (.ptr mb 0 0):=rfl
 have f1:aF 0 (.ptr bb 0 0)=some (.ptr bb 0 0):=rfl
 cases hbit:eS (G.rights v.n) k with
 | false=>
   rw[hbit]at hh
   rw[if_neg (by decide)]
   refine ag Ad rfl ?_;unfold vd
   simp only[sim,af,Nat.reduceAdd,Nat.reduceSub,List.replicate,reduceCtorEq,Nat.reduceLeDiff,Nat.reduceLT,aa,au,ho,f0,f1,l0,l1,rr,hh,bG]
   exact mp (by repeat (first | exact ab.refl _ | refine ab.trans ?_ (ab.push _ _) | refine ab.trans ?_ (ab.fresh _ _))) rfl
 | true=>
   rw[hbit]at hh
   rw[if_pos rfl]
   refine ag Ad rfl ?_;unfold vd
   simp only[sim,af,Nat.reduceAdd,Nat.reduceSub,List.replicate,reduceCtorEq,Nat.reduceLeDiff,Nat.reduceLT,aa,au,ho,f0,f1,l0,l1,rr,hh,bP,tt,aK,aX,J8,uw,aV,eqF,Mg,ne_eq,not_false_eq_true]
   exact az (ab.set (by repeat (first | exact ab.refl _ | refine ab.trans ?_ (ab.push _ _) | refine ab.trans ?_ (ab.fresh _ _))) (by omega)) rfl
end
structure Cfg where
 (mb bb gb wb:Nat)
 ms:aG
structure Now where
 fb:Nat
 S:StD
 below:List FrD
 top:FrD
structure At (c:Cfg) (L:List Asn) (i:Nat) (n:Now):Prop where
 m:L[i]? =some (dO c.mb c.bb n.fb (n.S.left:Int) n.below n.top)
 b:L[i+1]? =some (cP c.bb c.gb c.wb c.ms n.S.kept)
 g:L[i+2]? =some (aQ c.gb n.S.G)
 w:L[i+3]? =some (be c.wb n.S.cells n.S.log)
def put (c:Cfg) (L:List Asn) (i:Nat) (n:Now):List Asn:=(((L.set i (dO c.mb c.bb n.fb (n.S.left:Int) n.below n.top)).set (i+1) (cP c.bb c.gb c.wb c.ms n.S.kept)).set (i+2) (aQ c.gb n.S.G)).set (i+3) (be c.wb n.S.cells n.S.log)
theorem eL {c:Cfg} {L:List Asn} {i j:Nat} {n:Now}:(put c L i n)[j]? =if j<L.length then(if j=i+3 then some (be c.wb n.S.cells n.S.log)else if j=i+2 then some (aQ c.gb n.S.G)else if j=i+1 then some (cP c.bb c.gb c.wb c.ms n.S.kept)else if j=i then some (dO c.mb c.bb n.fb (n.S.left:Int) n.below n.top)else L[j]?)else none:=by
 unfold put
 by_cases hj:j<L.length
 ·rw[if_pos hj]
  simp only[List.getElem?_set,List.length_set]
  by_cases h3:j=i+3
  ·subst h3;simp[hj]
  ·by_cases h2:j=i+2
   ·subst h2;simp[hj]
   ·by_cases h1:j=i+1
    ·subst h1;simp[hj]
    ·by_cases h0:j=i
     ·subst h0;simp[hj]
     ·simp[h0,h1,h2,h3,Ne.symm h0,Ne.symm h1,Ne.symm h2,Ne.symm h3]
 ·rw[if_neg hj,List.getElem?_eq_none (by simpa using hj)]
theorem At.len {c:Cfg} {L:List Asn} {i:Nat} {n:Now} (a:At c L i n):i+3<L.length:=(List.getElem?_eq_some_iff.1 a.w).1
theorem At.put {c:Cfg} {L:List Asn} {i:Nat} {n:Now} (a:At c L i n) (n':Now):At c (put c L i n') i n':=by
 have:=a.len
 refine⟨?_,?_,?_,?_⟩<;>rw[eL]
 ·rw[if_pos (by omega),if_neg (by omega),if_neg (by omega),if_neg (by omega),if_pos rfl]
 ·rw[if_pos (by omega),if_neg (by omega),if_neg (by omega),if_pos rfl]
 ·rw[if_pos (by omega),if_neg (by omega),if_pos rfl]
 ·rw[if_pos (by omega),if_pos rfl]
theorem oE {c:Cfg} {L:List Asn} {i:Nat} {n:Now}:(Go.Proofs.Ytkdbjfncchmmpaa.put c L i n).length=L.length:=by simp[Go.Proofs.Ytkdbjfncchmmpaa.put]
theorem iC {L L':List Asn} (h:∀ j:Nat,L[j]? =L'[j]?):L=L':=List.ext_getElem? h
theorem aN {c:Cfg} {L:List Asn} {i:Nat} {n n':Now}:put c (put c L i n) i n'=put c L i n':=by
 refine iC fun j=> ?_
 rw[eL,eL,oE,eL]
 by_cases hj:j<L.length
 ·simp only[if_pos hj]
  repeat' (first | rfl | split)
  all_goals first | rfl | omega
 ·simp only[if_neg hj]
theorem At.same {c:Cfg} {L:List Asn} {i:Nat} {n:Now} (a:At c L i n):Go.Proofs.Ytkdbjfncchmmpaa.put c L i n=L:=by
 have:=a.len
 refine iC fun j=> ?_
 rw[eL]
 split
 ·split
  ·rename_i e;rw[e,a.w]
  ·split
   ·rename_i e;rw[e,a.g]
   ·split
    ·rename_i e;rw[e,a.b]
    ·split
     ·rename_i e;rw[e,a.m]
     ·rfl
 ·rename_i hj
  exact(List.getElem?_eq_none (Nat.le_of_not_lt hj)).symm
theorem At.setM {c:Cfg} {L:List Asn} {i:Nat} {n:Now} (a:At c L i n) (fb':Nat) (l:Nat) (below':List FrD) (top':FrD):L.set i (dO c.mb c.bb fb' (l:Int) below' top')=Go.Proofs.Ytkdbjfncchmmpaa.put c L i ⟨fb',{n.S with left:=l},below',top'⟩:=by
 have:=a.len
 refine iC fun j=> ?_
 rw[eL,List.getElem?_set]
 by_cases hj:j<L.length
 ·rw[if_pos hj]
  by_cases h0:i=j
  ·subst h0
   simp[hj]
  ·rw[if_neg h0,if_neg (Ne.symm h0:¬ j=i)]
   split
   ·rename_i e;rw[e,a.w]
   ·split
    ·rename_i e;rw[e,a.g]
    ·split
     ·rename_i e;rw[e,a.b]
     ·rfl
 ·rw[if_neg hj,if_neg (by omega)]
  exact List.getElem?_eq_none (Nat.le_of_not_lt hj)
theorem At.setB {c:Cfg} {L:List Asn} {i:Nat} {n:Now} (a:At c L i n) (k:List VD):L.set (i+1) (cP c.bb c.gb c.wb c.ms k)=Go.Proofs.Ytkdbjfncchmmpaa.put c L i {n with S:={n.S with kept:=k}}:=by
 have:=a.len
 refine iC fun j=> ?_
 rw[eL,List.getElem?_set]
 by_cases hj:j<L.length
 ·rw[if_pos hj]
  by_cases h0:i+1=j
  ·subst h0
   simp[hj]
  ·rw[if_neg h0,if_neg (Ne.symm h0:¬ j=i+1)]
   split
   ·rename_i e;rw[e,a.w]
   ·split
    ·rename_i e;rw[e,a.g]
    ·split
     ·rename_i e;rw[e,a.m]
     ·rfl
 ·rw[if_neg hj,if_neg (by omega)]
  exact List.getElem?_eq_none (Nat.le_of_not_lt hj)
theorem At.setG {c:Cfg} {L:List Asn} {i:Nat} {n:Now} (a:At c L i n) (G:ae):L.set (i+2) (aQ c.gb G)=Go.Proofs.Ytkdbjfncchmmpaa.put c L i {n with S:={n.S with G:=G}}:=by
 have:=a.len
 refine iC fun j=> ?_
 rw[eL,List.getElem?_set]
 by_cases hj:j<L.length
 ·rw[if_pos hj]
  by_cases h0:i+2=j
  ·subst h0
   simp[hj]
  ·rw[if_neg h0,if_neg (Ne.symm h0:¬ j=i+2)]
   split
   ·rename_i e;rw[e,a.w]
   ·split
    ·rename_i e;rw[e,a.b]
    ·split
     ·rename_i e;rw[e,a.m]
     ·rfl
 ·rw[if_neg hj,if_neg (by omega)]
  exact List.getElem?_eq_none (Nat.le_of_not_lt hj)
theorem At.setW {c:Cfg} {L:List Asn} {i:Nat} {n:Now} (a:At c L i n) (cells:List Int) (log:List gq):L.set (i+3) (be c.wb cells log)=Go.Proofs.Ytkdbjfncchmmpaa.put c L i {n with S:={n.S with cells:=cells,log:=log}}:=by
 have:=a.len
 refine iC fun j=> ?_
 rw[eL,List.getElem?_set]
 by_cases hj:j<L.length
 ·rw[if_pos hj]
  by_cases h0:i+3=j
  ·subst h0
   simp[hj]
  ·rw[if_neg h0,if_neg (Ne.symm h0:¬ j=i+3)]
   split
   ·rename_i e;rw[e,a.g]
   ·split
    ·rename_i e;rw[e,a.b]
    ·split
     ·rename_i e;rw[e,a.m]
     ·rfl
 ·rw[if_neg hj,if_neg (by omega)]
  exact List.getElem?_eq_none (Nat.le_of_not_lt hj)
theorem At.cons {c:Cfg} {L:List Asn} {i:Nat} {n:Now} (a:At c L i n) (X:Asn):At c (X::L) (i+1) n:=⟨a.m,a.b,a.g,a.w⟩
theorem aj {c:Cfg} {L:List Asn} {i:Nat} {n:Now} {X:Asn}:Go.Proofs.Ytkdbjfncchmmpaa.put c (X::L) (i+1) n=X::Go.Proofs.Ytkdbjfncchmmpaa.put c L i n:=rfl
def ui:List RS:=[(.ops [(.i (.v 3) (.box 3 (.v 1))),(.i (.v 4) (.alloc [(.int .i64 0),(.int .i64 0),.nils])),(.i (.v 5) (.alloc [(.int .i64 0)]))])]
def kE:List RS:=[(.ops [(.i .l (.mv (.v 0))),(.i .l (.load true 3 (.v 3))),(.i .l (.call (.c (.fn 120 [] [])) [(.l 1),(.l 0)])),(.i (.v 6) (.mv (.l 0)))]),(.ops [(.i .l (.mv (.v 6))),(.i (.v 8) (.bin (.int .i64) .neq (.l 0) (.c (.int .i64 0))))]),(.cond (.v 8) [(.ops [(.i .l (.build [(.int .i64 0),(.int .i64 0),.nils] [(0,1),(1,1),(2,1)] [])),(.i .l (.mv (.v 6))),(.i .n (.store 3 (.v 4) (.l 1))),(.i .n (.store 1 (.v 5) (.l 0)))]),.ret] [])]
def tW:List RS:=[(.ops [(.i .l (.mv (.v 0))),(.i .l (.mv (.v 2))),(.i .l (.build [.nilp,.nils] [(0,1),(1,1)] [(0,(.l 1)),(1,(.l 0))])),(.i .l (.box 2 (.l 0))),(.i (.v 7) (.mv (.l 0)))]),(.ops [(.i .l (.mv (.v 7))),(.i .l (.load true 3 (.v 3))),(.i .l (.call (.c (.fn 122 [] [])) [(.l 1),(.l 0)])),(.i .n (.store 3 (.v 4) (.l 0))),(.i .n (.store 1 (.v 5) (.c (.int .i64 0))))]),.ret]
def vn:List RS:=[(.ops [(.i .l (.mv (.v 0))),(.i .l (.mv (.v 2))),(.i .l (.build [.nilp,.nils] [(0,1),(1,1)] [(0,(.l 1)),(1,(.l 0))])),(.i .l (.box 2 (.l 0))),(.i (.v 7) (.mv (.l 0)))])]
def oU:List RS:=[(.ops [(.i .l (.mv (.v 2))),(.i (.v 5) (.binG .iface none true .neq (.l 0) (.c .nili)))]),(.cond (.v 5) [(.ops [(.i .l (.mv (.v 2))),(.i .l (.tas 200 true (.l 0))),(.i .l (.mv (.l 0))),(.i .l (.ext (.l 0) 0)),(.i .l (.ext (.l 1) 1)),(.i (.v 3) (.mv (.l 1))),(.i (.v 4) (.mv (.l 0)))]),(.ops [(.i .l (.mv (.v 4))),(.i (.v 6) (.un .not (.l 0)))]),(.cond (.v 6) [(.ops [(.i .l (.mv (.v 2))),(.i .n (.pan (.l 0)))])] []),(.ops [(.i .l (.build [(.int .i64 0),(.int .i64 0),.nils] [(0,1),(1,1),(2,1)] [])),(.i .l (.mv (.v 3))),(.i .n (.store 3 (.v 0) (.l 1))),(.i .n (.store 1 (.v 1) (.l 0)))])] [])]
open Go Go.RowKit
abbrev fAc:FuncId:=106
abbrev fCl:FuncId:=121
noncomputable def cAc:Code:=Try.f106.body.getD .skip
noncomputable def cCl:Code:=Try.f121.body.getD .skip
theorem IF:(Try.prog).funcs[fCl]? =some Try.f121:=Try.func121
theorem GU:Try.f121.body=some cCl:=rfl
theorem JJ:cCl= .seq (cL cCl) (cR cCl):=rfl
theorem Ma:Try.f121.ntmps=18:=rfl
noncomputable def clA:Oper:={dst:=some 5,op:= .call {callee:= .builtin .recover,args:= #[],argTypes:= #[]},type:=((ei (cL cCl)).getD 0 default).type,pos:=((ei (cL cCl)).getD 0 default).pos,after:= #[],guard:=none}
noncomputable def clB:Oper:={dst:=some 2,op:= .assign (.tmp 5),type:=((ei (cL cCl)).getD 1 default).type,pos:=((ei (cL cCl)).getD 1 default).pos,after:=((ei (cL cCl)).getD 1 default).after,guard:=none}
theorem Db:cL cCl= .region 0 #[clA,clB] false:=rfl
theorem Lb:bc Try.prog (po.mu fCl) (po.plan fCl) 18 [0,1,2,3,4,7,14] (cR cCl) []=some oU:=by kernel_rfl
theorem Kk:ct (po.plan fCl) (po.kp fCl) (cR cCl)=true:=by kernel_rfl
theorem LL:qL 2 18 (po.nv fCl) 7 [0,1,2,3,4,7,14]=true:=by kernel_rfl
theorem AG {h h':AH} {e:AV} {c6 c7:Nat} {V':List AV} (hr:aq (ai Try.prog po) 7 [.ss oU,.halt []] [.ptr c6 0 0,.ptr c7 0 0,e,.junk,.junk,.junk,.junk] [] h=some (.halt [],V',h'))
  {m:Mm} {w:World} {p6 p7 v:Value} (hw:WR Try.prog m h w) (v6:VR Try.prog m h (.ptr c6 0 0) p6) (v7:VR Try.prog m h (.ptr c7 0 0) p7) (ve:VR Try.prog m h e v) {u:FrameMode} (u':FrameMode)
  (hrec:∀ c:Frame,c.mode=u→∀ cs,(recoverD (c::cs)=some (v,{c with mode:=u'}::cs))∨(recoverD (c::cs)=none∧v= .nilIface∧u'=u)):
  CallsD Try.prog fCl #[p6,p7] u w fun e u'' w'=>(∃ v,e= .returned v)∧u''=u'∧∃ m',Ext m h m' h'∧WR Try.prog m' h' w'∧Below m.base w w':=by
 intro c cs hu
 have hvs:VRs Try.prog m h [.ptr c6 0 0,.ptr c7 0 0] [p6,p7]:=⟨rfl,fun j hj hj'=>by
  match j,hj with
  | 0,_=>exact v6
  | 1,_=>exact v7⟩
 have he:=mM IF GU [p6,p7] .deferred
 have ht:=mT (P:=Try.prog) (h:=h) (k:=18) hvs
 generalize hb:Frame.enter Try.prog fCl #[p6,p7] .deferred=b at he
 have hbk:b.kind= .deferred:=by rw[←hb];simp[Frame.enter]
 have hbf:b.fn=fCl:=by rw[←hb];simp[Frame.enter]
 have hbr:b.roundOf=none:=by rw[←hb];simp[Frame.enter]
 rw[Ma]at he
 generalize ha:([p6,p7]++List.replicate (18 - [p6,p7].length) undef).toArray=ts at he ht
 have h1:Steps Try.prog (lone b (c::cs) w) (lone (b.at {tmps:=ts,defers:=[]} [.code (cL cCl),.code (cR cCl)]) (c::cs) w):=by
  rw[←he]
  conv=>lhs;rw[JJ]
  exact .one step_seq
 have hsz:ts.size=18:=by rw[ht.1];rfl
 have hreg:(cL cCl).wpS Try.prog (fun e a' cs' w'=>e= .normal∧cs'={c with mode:=u'}::cs∧w'=w∧a'=(({tmps:=ts,defers:=[]}:Act).put (some 5) v).put (some 2) v) {tmps:=ts,defers:=[]} (c::cs) w:=by
  rw[Db]
  apply wpS_region
  rcases hrec c hu cs with h1 | ⟨h1,h2,h3⟩
  ·simp[wpOpsS,go_sem,clA,clB,h1,Act.put,Act.eval,hsz]
  ·have h4:({c with mode:=u'}:Frame)=c:=by rw[h3,←hu]
   simp[wpOpsS,go_sem,clA,clB,h1,Act.put,Act.eval,hsz,h2,h4]
 obtain⟨e1,a1,cs1,w1,⟨rfl,rfl,rfl,rfl⟩,harr⟩:=hreg b [.code (cR cCl)] hbk hbr
 have ht1:=(ht.put (a:={tmps:=ts,defers:=[]}) ve (some 5)).put ve (some 2)
 have rv:RV 18 [0,1,2,3,4,7,14] [] (bv (bv ([AV.ptr c6 0 0,.ptr c7 0 0]++List.replicate (18 - [AV.ptr c6 0 0,.ptr c7 0 0].length) .junk) (some 5) e) (some 2) e) [.ptr c6 0 0,.ptr c7 0 0,e,.junk,.junk,.junk,.junk] []:=by
  refine⟨by simp[bv],rfl,rfl,fun j s hj=> ?_,fun j s hj=>by simp at hj⟩
  match j,hj with
  | 0,hj | 1,hj | 2,hj | 3,hj | 4,hj | 5,hj | 6,hj=>obtain rfl:=Option.some.inj hj;exact⟨by decide,rfl⟩
  | j+7,hj=>simp at hj
 obtain⟨t',hp,hrv⟩:=nT pok (bF LL) Lb Kk hr rv
 obtain⟨m',w',x1,x2,x3,a',x4,x5,x6⟩:=hp m w1 _ {b with defers:=[]} ({c with mode:=u'}::cs) hw ht1 rfl
 have hfin:Steps Try.prog (lone b (c::cs) w1) (lone {b.at a' []with mode:= .returning} ({c with mode:=u'}::cs) w'):=h1.trans (harr.trans (x6.trans (.one step_end)))
 refine⟨.returned (.tuple #[]),u',w',_,⟨⟨_,rfl⟩,rfl,m',x1,x2,x3⟩,hfin,hbk,rfl,x5,Try.f121,?_,?_⟩
 ·show(Try.prog).funcs[b.fn]? =_
  rw[hbf]
  exact IF
 ·simp[results,Try.results121]
theorem yP (c:Frame) (h:c.mode= .returning) (cs:List Frame):recoverD (c::cs)=none:=by simp[recoverD,h]
theorem wF {v:Value} (c:Frame) (h:c.mode= .panicking [{v:=v,recovered:=false}]) (cs:List Frame):recoverD (c::cs)=some (v,{c with mode:= .panicking [{v:=v,recovered:=true}]}::cs):=by simp[recoverD,h]
theorem Ld:kT .iface none true .neq .nili .nili=some (.bool false):=rfl
theorem Kr {q:TypeId} {v:AV}:kT .iface none true .neq (.iface q v) .nili=some (.bool true):=rfl
theorem HQ {q:TypeId} {v:AV}:Cy q true (.iface q v)=some (.tup [v,.bool true]):=by simp[Cy]
theorem zO {h:AH} {c6 c7:Nat} {m:Mm} {w:World} {p6 p7:Value} (hw:WR Try.prog m h w) (v6:VR Try.prog m h (.ptr c6 0 0) p6) (v7:VR Try.prog m h (.ptr c7 0 0) p7):
  CallsD Try.prog fCl #[p6,p7] .returning w fun e u'' w'=>(∃ v,e= .returned v)∧u''= .returning∧∃ m',Ext m h m' h∧WR Try.prog m' h w'∧Below m.base w w':=by
 refine AG (V':=[.ptr c6 0 0,.ptr c7 0 0,.nili,.junk,.junk,.bool false,.junk]) (e:= .nili) ?_ hw v6 v7 .nili .returning fun c hc cs=> .inr ⟨yP c hc cs,rfl,rfl⟩
 unfold oU
 simp only[sim,af,Nat.reduceAdd,Nat.reduceSub,List.replicate,reduceCtorEq,Nat.reduceLeDiff,Nat.reduceLT,aa,Ld]
theorem BO {h:AH} {c6 c7:Nat} {m:Mm} {w:World} {p6 p7 u:Value} {code x y:Int} {l z:AV} (hw:WR Try.prog m h w) (v6:VR Try.prog m h (.ptr c6 0 0) p6) (v7:VR Try.prog m h (.ptr c7 0 0) p7) (vu:VR Try.prog m h (.iface mH (.int .i64 code)) u)
  (h6:h.cell c6=some [[.int .i64 x,.int .i64 y,l]]) (h7:h.cell c7=some [[z]]) (hne:c7≠c6) (hl:l.one=true):
  CallsD Try.prog fCl #[p6,p7] (.panicking [{v:=u,recovered:=false}]) w fun e u'' w'=>(∃ v,e= .returned v)∧u''= .panicking [{v:=u,recovered:=true}]∧
   ∃ m',Ext m h m' ((h.set c6 (some [[.int .i64 0,.int .i64 0,.nils]])).set c7 (some [[.int .i64 code]]))∧WR Try.prog m' ((h.set c6 (some [[.int .i64 0,.int .i64 0,.nils]])).set c7 (some [[.int .i64 code]])) w'∧Below m.base w w':=by
 refine AG (V':=[.ptr c6 0 0,.ptr c7 0 0,.iface mH (.int .i64 code),.int .i64 code,.bool true,.bool true,.bool false]) (e:= .iface mH (.int .i64 code)) ?_ hw v6 v7 vu (.panicking [{v:=u,recovered:=true}]) fun c hc cs=> .inl (wF c hc cs)
 have h7':(h.set c6 (some [[.int .i64 0,.int .i64 0,.nils]])).cell c7=some [[z]]:=(aV hne).trans h7
 unfold oU
 simp only[sim,af,Nat.reduceAdd,Nat.reduceSub,List.replicate,reduceCtorEq,Nat.reduceLeDiff,Nat.reduceLT,aa,Kr,HQ,h6,h7']
open Go Go.RowKit
theorem LG:(Try.prog).funcs[fAc]? =some Try.f106:=Try.func106
theorem GJ:Try.f106.body=some cAc:=rfl
theorem Mt:Try.f106.ntmps=25:=rfl
noncomputable abbrev cY:Code:=cL (cR cAc)
noncomputable abbrev cZ:Code:=cR (cR cAc)
noncomputable abbrev cW:Code:=cR cZ
theorem Kt:cAc= .seq (cL cAc) (cR cAc):=rfl
theorem Hr:cR cAc= .seq cY cZ:=rfl
theorem Hi:cZ= .seq (cL cZ) cW:=rfl
theorem Ik:cW= .seq (cL cW) (cR cW):=rfl
theorem H7:cR cW= .seq (cL (cR cW)) .ret:=rfl
abbrev vA:List Nat:=[0,1,2,4,6,7,8,9,14]
theorem Au:qL 3 25 (po.nv fAc) 9 vA=true:=by kernel_rfl
theorem KX:bc Try.prog (po.mu fAc) (po.plan fAc) 25 vA (cL cAc) []=some ui:=by kernel_rfl
theorem Kv:bc Try.prog (po.mu fAc) (po.plan fAc) 25 vA cY []=some kE:=by kernel_rfl
theorem JU:bc Try.prog (po.mu fAc) (po.plan fAc) 25 vA cW []=some tW:=by kernel_rfl
theorem K0:bc Try.prog (po.mu fAc) (po.plan fAc) 25 vA (cL cW) []=some vn:=by kernel_rfl
theorem Hb:ct (po.plan fAc) (po.kp fAc) (cL cAc)=true:=by kernel_rfl
theorem Hz:ct (po.plan fAc) (po.kp fAc) cY=true:=by kernel_rfl
theorem GR:ct (po.plan fAc) (po.kp fAc) cW=true:=by kernel_rfl
theorem HB:ct (po.plan fAc) (po.kp fAc) (cL cW)=true:=by kernel_rfl
theorem KJ:iF Try.prog vA Try.f106.results.toList=some [.cell true 3 4,.cell false 1 5]:=by kernel_rfl
noncomputable def acA:Oper:={dst:=some 17,op:= .makeFunc (.func fCl) #[] #[.tmp 6,.tmp 7],type:=((ei (cL cZ)).getD 0 default).type,pos:=((ei (cL cZ)).getD 0 default).pos,after:= #[],guard:=none}
noncomputable def acB:Oper:={dst:=none,op:= .defer {callee:= .value (.tmp 17),args:= #[],argTypes:= #[]},type:=((ei (cL cZ)).getD 1 default).type,pos:=((ei (cL cZ)).getD 1 default).pos,after:=((ei (cL cZ)).getD 1 default).after,guard:=none}
theorem HI:cL cZ= .region 4 #[acA,acB] false:=rfl
section
variable {h:AH} {m:Mm} {w:World}
abbrev zR:List AV:=[.int .i64 0,.int .i64 0,.nils]
def acH (h:AH) (r:List AV):AH:=((h.push [r]).push [zR]).push [[.int .i64 0]]
theorem GD {b:Nat} {r:List AV} {gv:AV} {K:List Item} (o1:r.all AV.one=true) (o2:r.length=3):aq (ai Try.prog po) 9 [.ss ui,.halt K] [.ptr b 0 0,.agg r,gv,.junk,.junk,.junk,.junk,.junk,.junk] [] h=
  some (.halt K,[.ptr b 0 0,.agg r,gv,.ptr h.n 0 0,.ptr (h.n+1) 0 0,.ptr (h.n+1+1) 0 0,.junk,.junk,.junk],acH h r):=by
 unfold ui
 simp only[sim,af,Nat.reduceAdd,Nat.reduceSub,List.replicate,reduceCtorEq,Nat.reduceLeDiff,Nat.reduceLT,aa,o1,o2,acH]
theorem H2 (x y z:AV):RV 25 vA [] ([x,y,z]++List.replicate (25 - [x,y,z].length) .junk) [x,y,z,.junk,.junk,.junk,.junk,.junk,.junk] []:=by
 refine⟨by simp,rfl,rfl,fun j s hj=> ?_,fun j s hj=>by simp at hj⟩
 match j,hj with
 | 0,hj | 1,hj | 2,hj | 3,hj | 4,hj | 5,hj | 6,hj | 7,hj | 8,hj=>obtain rfl:=Option.some.inj hj;exact⟨by decide,rfl⟩
 | j+9,hj=>simp at hj
theorem zL {b:Nat} {r:List AV} {gv:AV} {x:AEx} {V2:List AV} {h2:AH} (o1:r.all AV.one=true) (o2:r.length=3)
  (hr:aq (ai Try.prog po) 9 [.ss kE,.halt [.code cZ]] [.ptr b 0 0,.agg r,gv,.ptr h.n 0 0,.ptr (h.n+1) 0 0,.ptr (h.n+1+1) 0 0,.junk,.junk,.junk] [] (acH h r)=some (x,V2,h2)) (hx:∀ v,x≠.panic v)
  {vs:List Value} (hw:WR Try.prog m h w) (hvs:VRs Try.prog m h [.ptr b 0 0,.agg r,gv] vs) (cs:List Frame):
  ∃ (bf:Frame) (t2:List AV),bf.fn=fAc∧bf.kind= .normal∧bf.defers=[]∧RV 25 vA [] t2 V2 []∧bL Try.prog (po.kp fAc) m h w bf cs (lone (Frame.enter Try.prog fAc vs.toArray .normal) cs w) (x,t2,h2):=by
 have he:=mM LG GJ vs .normal
 have ht:=mT (P:=Try.prog) (h:=h) (k:=25) hvs
 rw[Mt]at he
 obtain⟨t1,hp1,rv1⟩:=nT pok (bF Au) KX Hb (GD (K:=[.code (cR cAc)]) (h:=h) (gv:=gv) (b:=b) o1 o2) (H2 _ _ _)
 obtain⟨t2,hp2,rv2⟩:=nT pok (bF Au) Kv Hz hr rv1
 refine⟨Frame.enter Try.prog fAc vs.toArray .normal,t2,by simp[Frame.enter],by simp[Frame.enter],by simp[Frame.enter],rv2,?_⟩
 generalize Frame.enter Try.prog fAc vs.toArray .normal=bf at he ⊢
 obtain⟨m1,w1,x1,x2,x3,a1,x4,x5,x6⟩:=hp1 m w {tmps:=_,defers:=[]} {bf with defers:=[]} cs hw ht rfl
 have x5:a1.defers=[]:=x5
 have s0:Steps Try.prog (lone bf cs w) (lone (bf.at a1 [.code cY,.code cZ]) cs w1):=by
  conv=>lhs;rw[←he,Kt]
  refine .head step_seq (x6.trans ?_)
  conv=>lhs;rw[Hr]
  exact .one step_seq
 obtain⟨m2,w2,y1,y2,y3,y4⟩:=hp2 m1 w1 a1 {bf with defers:=[]} cs x2 x4 x5
 have y5:bL Try.prog (po.kp fAc) m1 (acH h r) w1 {bf with defers:=[]} cs (lone (bf.at a1 [.code cY,.code cZ]) cs w1) (x,t2,h2):=⟨m2,w2,y1,y2,y3,y4⟩
 have y6:=bL.steps s0 (bL.after x1 x3 y5)
 have hd:bf.defers=[]:=by rw[←he];rfl
 have hbf:({bf with defers:=[]}:Frame)=bf:=by rw[←hd]
 rwa [hbf]at y6
theorem uv {t V:List AV} {h:AH} {v:AV} (rv:RV 25 vA [] t V []) (hv:(eC V h [.cell true 3 4,.cell false 1 5]).map fj=some v):lL Try.f106 t h Try.prog=some v:=by
 unfold lL
 rw[fI (h:=h) rv KJ]
 exact hv
theorem Kw {h:AH} {b:Nat} {es:Option (List (List AV))} (hc:h.cell b=es):h.set b es=h:=by
 cases h with
 | mk=>
   simp only[AH.set,AH.mk.injEq,and_true,true_and]
   funext k
   by_cases hk:k=b
   ·subst hk
    simpa using hc.symm
   ·simp[hk]
theorem yM {b:Nat} {r:List AV} {gv:AV} {c:Int} (o1:r.all AV.one=true) (o2:r.length=3) (hc:c≠0)
  (eM:ai Try.prog po 120 [.ptr b 0 0,.agg r] (acH h r)=some (.inl (.int .i64 c),acH h r)):
  AC Try.prog fAc [.ptr b 0 0,.agg r,gv] h (.inl (.tup [.agg zR,.int .i64 c]),(acH h r).set (h.n+1+1) (some [[.int .i64 c]])):=by
 intro m w vs hw hvs cs
 have c4:(acH h r).cell h.n=some [r]:=fv
 have c6:(acH h r).cell (h.n+1)=some [zR]:=gS
 have c7:(acH h r).cell (h.n+1+1)=some [[.int .i64 0]]:=dj
 have hs6:(acH h r).set (h.n+1) (some [zR])=acH h r:=Kw c6
 have hr:aq (ai Try.prog po) 9 [.ss kE,.halt [.code cZ]] [.ptr b 0 0,.agg r,gv,.ptr h.n 0 0,.ptr (h.n+1) 0 0,.ptr (h.n+1+1) 0 0,.junk,.junk,.junk] [] (acH h r)=
   some (.ret,[.ptr b 0 0,.agg r,gv,.ptr h.n 0 0,.ptr (h.n+1) 0 0,.ptr (h.n+1+1) 0 0,.int .i64 c,.junk,.bool true],(acH h r).set (h.n+1+1) (some [[.int .i64 c]])):=by
  unfold kE
  simp only[sim,af,Nat.reduceAdd,Nat.reduceSub,List.replicate,reduceCtorEq,Nat.reduceLeDiff,Nat.reduceLT,aa,c4,bI o2,eM,hc,c6,hs6,c7]
 obtain⟨bf,t2,b1,b2,b3,rv,m',w',x1,x2,x3,a',todo,x4,x5,x6⟩:=zL o1 o2 hr (fun v=>by simp) hw hvs cs
 rw[b3]at x5
 have hres:=uv (h:=(acH h r).set (h.n+1+1) (some [[.int .i64 c]])) (v:= .tup [.agg zR,.int .i64 c]) rv (by
  have q6:((acH h r).set (h.n+1+1) (some [[.int .i64 c]])).cell (h.n+1)=some [zR]:=(aV (by omega)).trans c6
  simp only[sim,af,Nat.reduceAdd,Nat.reduceSub,List.replicate,reduceCtorEq,Nat.reduceLeDiff,Nat.reduceLT,aa,q6])
 obtain⟨u,h7,h8⟩:=fJ x2 x4 hres
 exact⟨.returned u,w',_,⟨m',x1,x2,x3,u,rfl,h8⟩,x6,b1,rfl,x5,b2,_,by simp[Frame.at,b1],h7⟩
theorem ul {n:Nat} {vm:List Nat} {t V:List AV} {i:Nat} {v:AV} (rv:RV n vm [] t V []) (hi:i ∉ vm):RV n vm [] (bv t (some i) v) V []:=by
 refine⟨by simpa[bv]using rv.len,rv.lv,rv.ll,fun j s hj=> ?_,fun j s hj=>by simp at hj⟩
 obtain⟨h1,h2⟩:=rv.v j s hj
 refine⟨h1,?_⟩
 rw[←h2]
 have hne:i≠s:=fun e=>hi (by rw[e];exact List.mem_of_getElem? hj)
 simp[bv,List.getD,List.getElem?_set,hne]
theorem AB {n:Nat} {vm:List Nat} {t V:List AV} (rv:RV n vm [] t V []) {j s:Nat} (hj:vm[j]? =some s):s<t.length∧t.getD s .junk=V.getD j .junk:=by
 obtain⟨h1,h2⟩:=rv.v j s hj
 exact⟨by rw[rv.len];exact h1,h2⟩
theorem DO {bf:Frame} {a2:Act} {cs:List Frame} {p6 p7:Value} (hsz:a2.tmps.size=25) (h6:a2.tmps.getD 6 undef=p6) (h7:a2.tmps.getD 7 undef=p7):
  Steps Try.prog (lone (bf.at a2 [.code cZ]) cs w) (lone (bf.at {a2.put (some 17) (.func (.func fCl) #[] #[p6,p7])with defers:={target:= .fn (.func fCl) #[p6,p7],args:= #[]}::a2.defers} [.code cW]) cs w):=by
 have hw:(cL cZ).wp Try.prog (fun e a' w'=>e= .normal∧w'=w∧a'={a2.put (some 17) (.func (.func fCl) #[] #[p6,p7])with defers:={target:= .fn (.func fCl) #[p6,p7],args:= #[]}::a2.defers}) a2 w:=by
  have hmf:∀ (fn:Fn) (first cap:Array Value) (w:World),(Instr.makeFunc fn first cap).run Try.prog w= .ok (.func fn first cap) w:=fun _ _ _ _=>rfl
  subst h6 h7
  rw[HI]
  apply wp_region
  simp[wpOps,go_sem,acA,acB,hmf,Act.put,Act.eval,hsz]
 obtain⟨e,a',w',⟨rfl,rfl,rfl⟩,harr⟩:=hw bf [.code cW] cs
 conv=>lhs;rw[Hi]
 exact .head step_seq harr
theorem Bc {b:Nat} {r:List AV} {gv:AV} (o2:r.length=3) (eM:ai Try.prog po 120 [.ptr b 0 0,.agg r] (acH h r)=some (.inl (.int .i64 0),acH h r)):
  aq (ai Try.prog po) 9 [.ss kE,.halt [.code cZ]] [.ptr b 0 0,.agg r,gv,.ptr h.n 0 0,.ptr (h.n+1) 0 0,.ptr (h.n+1+1) 0 0,.junk,.junk,.junk] [] (acH h r)=
   some (.halt [.code cZ],[.ptr b 0 0,.agg r,gv,.ptr h.n 0 0,.ptr (h.n+1) 0 0,.ptr (h.n+1+1) 0 0,.int .i64 0,.junk,.bool false],acH h r):=by
 have c4:(acH h r).cell h.n=some [r]:=fv
 unfold kE
 simp only[sim,af,Nat.reduceAdd,Nat.reduceSub,List.replicate,reduceCtorEq,Nat.reduceLeDiff,Nat.reduceLT,aa,c4,bI o2,eM]
theorem ue {h2:AH} {m2:Mm} {t2 V2:List AV} {a2:Act} (rv:RV 25 vA [] t2 V2 []) (ht:TR Try.prog m2 h2 t2 a2.tmps) {j s:Nat} (hj:vA[j]? =some s):VR Try.prog m2 h2 (V2.getD j .junk) (a2.tmps.getD s undef):=by
 obtain⟨h1,e1⟩:=AB rv hj
 rw[←e1]
 exact I2 ht h1
theorem Lj {b:Nat} {r r':List AV} {gv:AV} {h4:AH} (o1:r.all AV.one=true) (o2:r.length=3) (o3:r'.all AV.one=true) (o4:r'.length=3) (og:gv= .nils∨∃ id e rows,gv= .isl id e rows)
  (eM:ai Try.prog po 120 [.ptr b 0 0,.agg r] (acH h r)=some (.inl (.int .i64 0),acH h r))
  (eV:ai Try.prog po 122 [.ptr (acH h r).n 0 0,.agg r] ((acH h r).push [[.ptr b 0 0,gv]])=some (.inl (.agg r'),h4)) (k6:h4.cell (h.n+1)=some [zR]) (k7:h4.cell (h.n+1+1)=some [[.int .i64 0]]):
  AC Try.prog fAc [.ptr b 0 0,.agg r,gv] h (.inl (.tup [.agg r',.int .i64 0]),(h4.set (h.n+1) (some [r'])).set (h.n+1+1) (some [[.int .i64 0]])):=by
 intro m w vs hw hvs cs
 have c4:((acH h r).push [[.ptr b 0 0,gv]]).cell h.n=some [r]:=(aX (by simp only[acH,aL];omega)).trans fv
 have k7':(h4.set (h.n+1) (some [r'])).cell (h.n+1+1)=some [[.int .i64 0]]:=(aV (by omega)).trans k7
 have hr2:aq (ai Try.prog po) 9 [.ss tW,.halt []] [.ptr b 0 0,.agg r,gv,.ptr h.n 0 0,.ptr (h.n+1) 0 0,.ptr (h.n+1+1) 0 0,.int .i64 0,.junk,.bool false] [] (acH h r)=
   some (.ret,[.ptr b 0 0,.agg r,gv,.ptr h.n 0 0,.ptr (h.n+1) 0 0,.ptr (h.n+1+1) 0 0,.int .i64 0,.ptr (acH h r).n 0 0,.bool false],(h4.set (h.n+1) (some [r'])).set (h.n+1+1) (some [[.int .i64 0]])):=by
  unfold tW
  rcases og with rfl | ⟨id,e,rows,rfl⟩
  ·simp only[sim,af,Nat.reduceAdd,Nat.reduceSub,List.replicate,reduceCtorEq,Nat.reduceLeDiff,Nat.reduceLT,aa,c4,bI o2,eV,k6,o3,o4,k7']
  ·simp only[sim,af,Nat.reduceAdd,Nat.reduceSub,List.replicate,reduceCtorEq,Nat.reduceLeDiff,Nat.reduceLT,aa,c4,bI o2,eV,k6,o3,o4,k7']
 obtain⟨bf,t2,b1,b2,b3,rv,m2,w2,x1,x2,x3,a2,x4,x5,x6⟩:=zL o1 o2 (Bc (gv:=gv) o2 eM) (fun v=>by simp) hw hvs cs
 rw[b3]at x5
 have v6:=ue rv x4 (j:=4) (s:=6) rfl
 have v7:=ue rv x4 (j:=5) (s:=7) rfl
 have hsz:a2.tmps.size=25:=by rw[x4.1,rv.len]
 have lay:=DO (w:=w2) (bf:=bf) (a2:=a2) (cs:=cs) hsz rfl rfl
 generalize hp6:a2.tmps.getD 6 undef=p6 at v6 lay
 generalize hp7:a2.tmps.getD 7 undef=p7 at v7 lay
 rw[x5]at lay
 have ht3:=x4.put (VR.junk (.func (.func fCl) #[] #[p6,p7])) (some 17)
 have rv3:=ul (i:=17) (v:= .junk) rv (by decide)
 obtain⟨t5,hp,rv5⟩:=nT pok (bF Au) JU GR hr2 rv3
 obtain⟨m3,w3,y1,y2,y3,a5,todo,y4,y5,y6⟩:=hp m2 w2 {a2.put (some 17) (.func (.func fCl) #[] #[p6,p7])with defers:=[{target:= .fn (.func fCl) #[p6,p7],args:= #[]}]} {bf with defers:=[{target:= .fn (.func fCl) #[p6,p7],args:= #[]}]} cs x2 ht3 rfl
 have hlv:Leaves Try.prog Try.f106 a5.tmps (fun e w'=>∃ m',Ext m h m' ((h4.set (h.n+1) (some [r'])).set (h.n+1+1) (some [[.int .i64 0]]))∧WR Try.prog m' ((h4.set (h.n+1) (some [r'])).set (h.n+1+1) (some [[.int .i64 0]])) w'∧Below m.base w w'∧∃ u,e= .returned u∧VR Try.prog m' ((h4.set (h.n+1) (some [r'])).set (h.n+1+1) (some [[.int .i64 0]])) (.tup [.agg r',.int .i64 0]) u) [{target:= .fn (.func fCl) #[p6,p7],args:= #[]}] .returning w3:=by
  refine leaves_cons (f:=fCl) (args:= #[p6,p7]) (by simp) (by simp[go_sem]) ?_
  refine(zO y2 (v6.ext y1) (v7.ext y1)).mono ?_
  rintro e u'' w' ⟨⟨v,rfl⟩,rfl,m4,z1,z2,z3⟩
  have hres:=uv (h:=(h4.set (h.n+1) (some [r'])).set (h.n+1+1) (some [[.int .i64 0]])) (v:= .tup [.agg r',.int .i64 0]) rv5 (by
   have q6:((h4.set (h.n+1) (some [r'])).set (h.n+1+1) (some [[.int .i64 0]])).cell (h.n+1)=some [r']:=(aV (by omega)).trans bh
   simp only[sim,af,Nat.reduceAdd,Nat.reduceSub,List.replicate,reduceCtorEq,Nat.reduceLeDiff,Nat.reduceLT,aa,q6,bI o4])
  obtain⟨u,h7,h8⟩:=fJ z2 (y4.ext z1) hres
  refine⟨u,h7,m4,(x1.trans y1).trans z1,z2,?_,u,rfl,h8⟩
  have q1:m2.base=m.base:=x1.base
  have q2:m3.base=m2.base:=y1.base
  rw[q2,q1]at z3
  rw[q1]at y3
  exact(x3.trans y3).trans z3
 obtain⟨e,w4,fr',hR,hs,hfn,hl⟩:=leaves_steps [{target:= .fn (.func fCl) #[p6,p7],args:= #[]}] .returning w3 {(({bf with defers:=[{target:= .fn (.func fCl) #[p6,p7],args:= #[]}]}:Frame).at a5 todo)with mode:= .returning} cs rfl y5 rfl (by simp[Frame.at,b1]) (by simpa[Frame.at]using b2) hlv
 exact⟨e,w4,fr',hR,Comes.of_steps (x6.trans (lay.trans y6)) hs,hfn.trans b1,hl⟩
noncomputable abbrev rO:Array Oper:=ei (cL (cR cW))
noncomputable abbrev o6 (i:Nat):Oper:=rO.getD i default
theorem KG:cL (cR cW)= .region 6 rO false:=rfl
theorem Mu:((Try.prog).underlying tV).isNone=false:=by kernel_rfl
theorem Mi:fx Try.prog tV=true:=by kernel_rfl
theorem Ml:szA Try.prog tV=3:=by kernel_rfl
theorem Mw (t:List AV) (h:AH):OpF Try.prog po fAc t h (o6 0) (t.getD 9 .junk) h:= .inl ⟨rfl,rfl⟩
theorem My {t:List AV} {h:AH} {v:AV} (hl:aH true 3 h (t.getD 4 .junk)=some v):OpF Try.prog po fAc t h (o6 1) v h:=by
 refine .inl ⟨rfl,?_⟩
 show(if((Try.prog).underlying tV).isNone then none else(aH (fx Try.prog tV) (szA Try.prog tV) h (t.getD 4 .junk)).map fun v=>(v,h))=_
 rw[Mu,Mi,Ml,hl]
 rfl
theorem Mj (t:List AV):aC t (o6 2)=some (122,[t.getD 22 .junk,t.getD 23 .junk]):=rfl
theorem Ko:∃ fn,(Try.prog).funcs[(122:Nat)]? =some fn∧(fn.body.isNone=false∧(fn.name== "runtime.NumGoroutine")=false):=⟨_,Try.func122,by kernel_rfl,by kernel_rfl⟩
theorem Ig {b:Nat} {r:List AV} {gv:AV} {h4:AH} {c:Int} (o1:r.all AV.one=true) (o2:r.length=3) (og:gv= .nils∨∃ id e rows,gv= .isl id e rows)
  (eM:ai Try.prog po 120 [.ptr b 0 0,.agg r] (acH h r)=some (.inl (.int .i64 0),acH h r))
  (eV:ai Try.prog po 122 [.ptr (acH h r).n 0 0,.agg r] ((acH h r).push [[.ptr b 0 0,gv]])=some (.inr (.iface mH (.int .i64 c)),h4)) (k6:h4.cell (h.n+1)=some [zR]) (k7:h4.cell (h.n+1+1)=some [[.int .i64 0]]):
  AC Try.prog fAc [.ptr b 0 0,.agg r,gv] h (.inl (.tup [.agg zR,.int .i64 c]),(h4.set (h.n+1) (some [zR])).set (h.n+1+1) (some [[.int .i64 c]])):=by
 intro m w vs hw hvs cs
 have c4:((acH h r).push [[.ptr b 0 0,gv]]).cell h.n=some [r]:=(aX (by simp only[acH,aL];omega)).trans fv
 have hr3:aq (ai Try.prog po) 9 [.ss vn,.halt [.code (cR cW)]] [.ptr b 0 0,.agg r,gv,.ptr h.n 0 0,.ptr (h.n+1) 0 0,.ptr (h.n+1+1) 0 0,.int .i64 0,.junk,.bool false] [] (acH h r)=
   some (.halt [.code (cR cW)],[.ptr b 0 0,.agg r,gv,.ptr h.n 0 0,.ptr (h.n+1) 0 0,.ptr (h.n+1+1) 0 0,.int .i64 0,.ptr (acH h r).n 0 0,.bool false],(acH h r).push [[.ptr b 0 0,gv]]):=by
  unfold vn
  rcases og with rfl | ⟨id,e,rows,rfl⟩
  ·simp only[sim,af,Nat.reduceAdd,Nat.reduceSub,List.replicate,reduceCtorEq,Nat.reduceLeDiff,Nat.reduceLT,aa]
  ·simp only[sim,af,Nat.reduceAdd,Nat.reduceSub,List.replicate,reduceCtorEq,Nat.reduceLeDiff,Nat.reduceLT,aa]
 obtain⟨bf,t2,b1,b2,b3,rv,m2,w2,x1,x2,x3,a2,x4,x5,x6⟩:=zL o1 o2 (Bc (gv:=gv) o2 eM) (fun v=>by simp) hw hvs cs
 rw[b3]at x5
 have v6:=ue rv x4 (j:=4) (s:=6) rfl
 have v7:=ue rv x4 (j:=5) (s:=7) rfl
 have hsz:a2.tmps.size=25:=by rw[x4.1,rv.len]
 have lay:=DO (w:=w2) (bf:=bf) (a2:=a2) (cs:=cs) hsz rfl rfl
 generalize hp6:a2.tmps.getD 6 undef=p6 at v6 lay
 generalize hp7:a2.tmps.getD 7 undef=p7 at v7 lay
 rw[x5]at lay
 have ht3:=x4.put (VR.junk (.func (.func fCl) #[] #[p6,p7])) (some 17)
 have rv3:=ul (i:=17) (v:= .junk) rv (by decide)
 obtain⟨t5,hp,rv5⟩:=nT pok (bF Au) K0 HB hr3 rv3
 obtain⟨m3,w3,y1,y2,y3,a5,y4,y5,y6⟩:=hp m2 w2 {a2.put (some 17) (.func (.func fCl) #[] #[p6,p7])with defers:=[{target:= .fn (.func fCl) #[p6,p7],args:= #[]}]} {bf with defers:=[{target:= .fn (.func fCl) #[p6,p7],args:= #[]}]} cs x2 ht3 rfl
 have s1:Steps Try.prog (lone (bf.at {a2.put (some 17) (.func (.func fCl) #[] #[p6,p7])with defers:=[{target:= .fn (.func fCl) #[p6,p7],args:= #[]}]} [.code cW]) cs w2) (lone (bf.at a5 [.inRegion rO [0,1,2,3,4],.code .ret]) cs w3):=by
  conv=>lhs;rw[Ik]
  refine .head step_seq (y6.trans ?_)
  conv=>lhs;rw[H7]
  refine .head step_seq ?_
  conv=>lhs;rw[KG]
  exact .one step_region
 -- the first two operations of the last statement
 obtain⟨q9,e9⟩:=AB rv5 (j:=7) (s:=9) rfl
 obtain⟨q4,e4⟩:=AB rv5 (j:=3) (s:=4) rfl
 obtain⟨m6,w6,u6,d1,d2,d3,d4,d5⟩:=mV (b:=bf) (cs:=cs) (K:=[.code .ret]) (all:=rO) (i:=0) (rest:=[1,2,3,4]) pok rfl (rfl:aU rO t5 (o6 0)=some true) y2 y4 (Mw t5 _)
 have ht6:=(y4.ext d1).put d3 (some 22)
 have rv6:=ul (i:=22) (v:=t5.getD 9 .junk) rv5 (by decide)
 obtain⟨q4',e4'⟩:=AB rv6 (j:=3) (s:=4) rfl
 obtain⟨m7,w7,u7,f1,f2,f3,f4,f5⟩:=mV (b:=bf) (cs:=cs) (K:=[.code .ret]) (all:=rO) (i:=1) (rest:=[2,3,4]) (o:=o6 1) (a:=a5.put (some 22) u6) (v:= .agg r) pok rfl (rfl:aU rO _ (o6 1)=some true) d2 ht6 (My (by
  rw[e4']
  simp[aH,AH.row,c4,bI o2]))
 have ht7:=(ht6.ext f1).put f3 (some 23)
 have rv7:=ul (i:=23) (v:= .agg r) rv6 (by decide)
 -- the call that gives up
 obtain⟨fn,g1,g2,g3⟩:=Ko
 have hl7:(bv (bv t5 (some 22) (t5.getD 9 .junk)) (some 23) (.agg r)).length=25:=rv7.len
 have hl5:t5.length=25:=rv5.len
 have ecl:=Mj (bv (bv t5 (some 22) (t5.getD 9 .junk)) (some 23) (.agg r))
 have ea:(bv (bv t5 (some 22) (t5.getD 9 .junk)) (some 23) (.agg r)).getD 22 .junk= .ptr (acH h r).n 0 0:=by
  have:(bv (bv t5 (some 22) (t5.getD 9 .junk)) (some 23) (.agg r)).getD 22 .junk=t5.getD 9 .junk:=by simp[bv,List.getD,List.getElem?_set,hl5]
  rw[this,e9]
  rfl
 have eb:(bv (bv t5 (some 22) (t5.getD 9 .junk)) (some 23) (.agg r)).getD 23 .junk= .agg r:=by simp[bv,List.getD,List.getElem?_set,hl5]
 rw[ea,eb]at ecl
 have hac:=rJ pok eV
 obtain⟨vs7,v1,v2⟩:=gH (w:=w7) ht7 ecl g1 g3 g2
 obtain⟨e,w8,hR,hst⟩:=iW (b:=bf) (cs:=cs) (k:=[.code .ret]) (rest:=[3,4]) (all:=rO) (i:=2) rfl (dh ht7 rO (o6 2) (rfl:aU rO _ (o6 2)=some true)) v2 (hac m7 w7 vs7 f2 v1) (by rintro w' ⟨m',_,_,_,u',h,_⟩;cases h)
 obtain⟨m8,z1,z2,z3,u8,rfl,z5⟩:=hR
 rcases hst with⟨v',h3,_⟩ | ⟨ch,h3,todo,z6⟩
 ·cases h3
 injection h3 with h3
 subst h3
 have hlv:Leaves Try.prog Try.f106 ((a5.put (some 22) u6).put (some 23) u7).tmps (fun e w'=>∃ m',Ext m h m' ((h4.set (h.n+1) (some [zR])).set (h.n+1+1) (some [[.int .i64 c]]))∧WR Try.prog m' ((h4.set (h.n+1) (some [zR])).set (h.n+1+1) (some [[.int .i64 c]])) w'∧Below m.base w w'∧∃ u,e= .returned u∧VR Try.prog m' ((h4.set (h.n+1) (some [zR])).set (h.n+1+1) (some [[.int .i64 c]])) (.tup [.agg zR,.int .i64 c]) u) [{target:= .fn (.func fCl) #[p6,p7],args:= #[]}] (.panicking [{v:=u8,recovered:=false}]) w8:=by
  refine leaves_cons (f:=fCl) (args:= #[p6,p7]) (by simp) (by simp[go_sem]) ?_
  refine(BO (code:=c) z2 (((((v6.ext y1).ext d1).ext f1).ext z1)) (((((v7.ext y1).ext d1).ext f1).ext z1)) z5 k6 k7 (by omega) rfl).mono ?_
  rintro e u'' w' ⟨⟨v,rfl⟩,rfl,m9,n1,n2,n3⟩
  have hres:=uv (h:=(h4.set (h.n+1) (some [zR])).set (h.n+1+1) (some [[.int .i64 c]])) (v:= .tup [.agg zR,.int .i64 c]) rv7 (by
   have q6:((h4.set (h.n+1) (some [zR])).set (h.n+1+1) (some [[.int .i64 c]])).cell (h.n+1)=some [zR]:=(aV (by omega)).trans bh
   simp only[sim,af,Nat.reduceAdd,Nat.reduceSub,List.replicate,reduceCtorEq,Nat.reduceLeDiff,Nat.reduceLT,aa,q6])
  obtain⟨u,h7,h8⟩:=fJ n2 ((ht7.ext z1).ext n1) hres
  refine⟨u,h7,m9,((((x1.trans y1).trans d1).trans f1).trans z1).trans n1,n2,?_,u,rfl,h8⟩
  have q1:m2.base=m.base:=x1.base
  have q2:m3.base=m2.base:=y1.base
  have q3:m6.base=m3.base:=d1.base
  have q5:m7.base=m6.base:=f1.base
  have q6:m8.base=m7.base:=z1.base
  rw[q6,q5,q3,q2,q1]at n3
  rw[q5,q3,q2,q1]at z3
  rw[q3,q2,q1]at f4
  rw[q2,q1]at d4
  rw[q1]at y3
  exact((((x3.trans y3).trans d4).trans f4).trans z3).trans n3
 have hdf:((a5.put (some 22) u6).put (some 23) u7).defers=[{target:= .fn (.func fCl) #[p6,p7],args:= #[]}]:=y5
 obtain⟨e,w9,fr',hR,hs,hfn,hl⟩:=leaves_steps [{target:= .fn (.func fCl) #[p6,p7],args:= #[]}] (.panicking [{v:=u8,recovered:=false}]) w8 {(bf.at ((a5.put (some 22) u6).put (some 23) u7) todo)with mode:= .panicking [{v:=u8,recovered:=false}]} cs rfl hdf rfl (by simp[Frame.at,b1]) (by simpa[Frame.at]using b2) hlv
 exact⟨e,w9,fr',hR,Comes.of_steps (x6.trans (lay.trans (s1.trans (d5.trans (f5.trans z6))))) hs,hfn.trans b1,hl⟩
end
section
variable {h:AH} {F J:Nat→Prop} {b:Nat} {G:ae}
theorem ya (g:IsG h F J b G) (r:List AV):Mv h F J b (acH h r) G [h.n+1+1,h.n+1,h.n] []:=(((Mv.start g).push [r]).push [zR]).push [[.int .i64 0]]
theorem mJ (g:IsG h F J b G) (hW:G.Wf) {x:VD} {r:List AV} (hx:VaA x r):ai Try.prog po 120 [.ptr b 0 0,.agg r] (acH h r)=some (.inl (.int .i64 (qF G x)),acH h r):=by
 obtain⟨F2,J2,g2⟩:=(ya g r).isG
 exact DL g2 hW hx
theorem E5 {x:VD} (hz:qF G x=0):x.size≤100000:=by
 have:x.code=0:=by
  unfold qF at hz
  split at hz
  ·exact hz
  ·rename_i hc
   simpa using hc
 have:=xU this
 omega
theorem px (g:IsG h F J b G) (hW:G.Wf) {x:VD} {r:List AV} {gv:AV} {ks:List Int} (hx:VaA x r) (hg:SlA 3 gv (db ks)) (hk:ks.length≤1000000) (hz:qF G x=0):
  ∃ h4,(∃ q,ai Try.prog po 122 [.ptr (acH h r).n 0 0,.agg r] ((acH h r).push [[.ptr b 0 0,gv]])=some (q,h4)∧Ek ks G x q)∧Mv h F J b h4 (dn ks x G).1 [(acH h r).n,h.n+1+1,h.n+1,h.n] []∧h4.cell (h.n+1)=some [zR]∧h4.cell (h.n+1+1)=some [[.int .i64 0]]:=by
 have m1:=(ya g r).push [[.ptr b 0 0,gv]]
 obtain⟨h4,e,m2,k, -, -⟩:=m1.callF (R:=fun h4=>∃ q,ai Try.prog po 122 [.ptr (acH h r).n 0 0,.agg r] ((acH h r).push [[.ptr b 0 0,gv]])=some (q,h4)∧Ek ks G x q) (G':=(dn ks x G).1) fun F2 J2 g2 _ hC=>by
  obtain⟨q,h4,e,r2,d⟩:=FH hg.isL hk _ x (Nat.le_refl _) (E5 hz) r ((acH h r).push [[.ptr b 0 0,gv]]) F2 J2 G g2 hW (by simp only[aL];omega) (hC _ (by simp)) aZ hx
  exact⟨h4,⟨q,e,r2⟩,d⟩
 refine⟨h4,e,m2,(k _ (by simp)).trans ?_,(k _ (by simp)).trans ?_⟩
 ·exact(aX (by simp only[acH,aL];omega)).trans gS
 ·exact(aX (by simp only[acH,aL];omega)).trans dj
theorem Dh {gv:AV} {e:TypeId} {rows:List (List AV)} (hg:SlA e gv rows):gv= .nils∨∃ id e rows,gv= .isl id e rows:=by
 rcases hg with⟨_,h⟩ | ⟨id,h⟩
 ·exact .inl h
 ·exact .inr ⟨_,_,_,h⟩
theorem CD (g:IsG h F J b G) (hW:G.Wf) {x:VD} {r:List AV} {gv:AV} {ks:List Int} (hx:VaA x r) (hg:SlA 3 gv (db ks)) (hk:ks.length≤1000000):
  ∃ q,AC Try.prog fAc [.ptr b 0 0,.agg r,gv] h q∧pG [.ptr b 0 0,.agg r,gv] h q:=by
 obtain⟨o1,o2⟩:=hx.one
 have eM:=mJ g hW hx
 by_cases hz:qF G x=0
 ·rw[hz]at eM
  obtain⟨h4,⟨q,eV,rV⟩,mv,k6,k7⟩:=px g hW hx hg hk hz
  rcases rV with⟨hz2,r',rfl,x2⟩ | ⟨hz2,rfl⟩
  ·obtain⟨o3,o4⟩:=x2.one
   refine⟨_,Lj o1 o2 o3 o4 (Dh hg) eM eV k6 k7,?_⟩
   rintro F2 J2 b2 G2 x3 r3 gv3 ks3 e g3 hW3 hx3 hg3 hk3
   simp only[List.cons.injEq,AV.ptr.injEq,AV.agg.injEq,and_true]at e
   obtain⟨rfl,rfl,rfl⟩:=e
   have eM3:=mJ g3 hW3 hx3
   rw[eM]at eM3
   simp only[Option.some.injEq,Prod.mk.injEq,Sum.inl.injEq,AV.int.injEq,true_and,and_true]at eM3
   obtain⟨h5,⟨q,eV3,rV3⟩,mv3, -, -⟩:=px g3 hW3 hx3 hg3 hk3 eM3.symm
   rw[eV]at eV3
   simp only[Option.some.injEq,Prod.mk.injEq]at eV3
   obtain⟨rfl,rfl⟩:=eV3
   have ha:aW ks3 G2 x3=dn ks3 x3 G2:=by rw[aW,if_neg (by simp[←eM3])]
   rcases rV3 with⟨hz3,r4,e4,x4⟩ | ⟨_,e4⟩
   ·simp only[Sum.inl.injEq,AV.agg.injEq]at e4
    subst e4
    rw[ha]
    exact⟨r',_,by rw[hz3],x4,((mv3.set (by simp) _).set (by simp) _).did⟩
   ·cases e4
  ·refine⟨_,Ig o1 o2 (Dh hg) eM eV k6 k7,?_⟩
   rintro F2 J2 b2 G2 x3 r3 gv3 ks3 e g3 hW3 hx3 hg3 hk3
   simp only[List.cons.injEq,AV.ptr.injEq,AV.agg.injEq,and_true]at e
   obtain⟨rfl,rfl,rfl⟩:=e
   have eM3:=mJ g3 hW3 hx3
   rw[eM]at eM3
   simp only[Option.some.injEq,Prod.mk.injEq,Sum.inl.injEq,AV.int.injEq,true_and,and_true]at eM3
   obtain⟨h5,⟨q,eV3,rV3⟩,mv3, -, -⟩:=px g3 hW3 hx3 hg3 hk3 eM3.symm
   rw[eV]at eV3
   simp only[Option.some.injEq,Prod.mk.injEq]at eV3
   obtain⟨rfl,rfl⟩:=eV3
   have ha:aW ks3 G2 x3=dn ks3 x3 G2:=by rw[aW,if_neg (by simp[←eM3])]
   rcases rV3 with⟨_,r4,e4,_⟩ | ⟨hz3,e4⟩
   ·cases e4
   ·simp only[Sum.inr.injEq,AV.iface.injEq,AV.int.injEq,true_and]at e4
    have hv:(dn ks3 x3 G2).2.1=aA:=by
     rw[zV]at hz3 ⊢
     split
     ·rfl
     ·rename_i h1
      rw[if_neg h1]at hz3
      split
      ·rfl
      ·rename_i h2
       rw[if_neg h2]at hz3
       exact absurd rfl hz3
    rw[ha,hv]
    exact⟨zR,_,by rw[e4],dk,((mv3.set (by simp) _).set (by simp) _).did⟩
 ·refine⟨_,yM o1 o2 hz eM,?_⟩
  rintro F2 J2 b2 G2 x3 r3 gv3 ks3 e g3 hW3 hx3 hg3 hk3
  simp only[List.cons.injEq,AV.ptr.injEq,AV.agg.injEq,and_true]at e
  obtain⟨rfl,rfl,rfl⟩:=e
  have eM3:=mJ g3 hW3 hx3
  rw[eM]at eM3
  simp only[Option.some.injEq,Prod.mk.injEq,Sum.inl.injEq,AV.int.injEq,true_and,and_true]at eM3
  have ha:aW ks3 G2 x3=(G2,aA,qF G2 x3):=by rw[aW,if_pos (by rw[←eM3];exact hz)]
  rw[ha]
  exact⟨zR,_,by rw[eM3],dk,((ya g3 r).set (by simp) _).did⟩
theorem zA:po.ext fAc=some l6:=by
 show rR fAc=_
 unfold rR
 exact if_pos rfl
theorem pq (g:IsG h F J b G) (hW:G.Wf) {x:VD} {r:List AV} {gv:AV} {ks:List Int} (hx:VaA x r) (hg:SlA 3 gv (db ks)) (hk:ks.length≤1000000):
  ∃ h',(∃ r',ai Try.prog po 106 [.ptr b 0 0,.agg r,gv] h=some (.inl (.tup [.agg r',.int .i64 (aW ks G x).2.2]),h')∧VaA (aW ks G x).2.1 r')∧bT h F J b h' (aW ks G x).1:=by
 have H:=CD g hW hx hg hk
 have e:ai Try.prog po fAc [.ptr b 0 0,.agg r,gv] h=some (Classical.choose H):=by
  unfold ai
  rw[zA]
  show l6 _ _=_
  unfold l6
  rw[dif_pos H]
 obtain⟨r',h',h1,h2,h3⟩:=(Classical.choose_spec H).2 F J b G x r gv ks rfl g hW hx hg hk
 rw[h1]at e
 exact⟨h',⟨r',e,h2⟩,h3⟩
end
structure OkR (c:Cfg) (n:Now):Prop where
 ms:c.ms.length=4
 S:n.S.Good
 below:n.below.length≤100
 stk:n.top.stack.length≤100000
 nms:n.top.names.length≤100000
 log:n.S.log.length≤1000000
theorem OkR.len {c:Cfg} {n:Now} (o:OkR c n):c.ms.length=n.S.kept.length:=o.ms.trans o.S.kept.symm
def bp (h0:AH) (F0 J0:Nat→Prop) (c:Cfg) (L:List Asn) (i:Nat) (n:Now) (q:StD×VD×Int) (fr:AV ⊕ AV) (h':AH):Prop:=
 (q.2.2=0∧fr= .inl (.tup [])∧St h0 F0 J0 h' (put c L i {n with S:=q.1,top:={n.top with stack:=n.top.stack++[q.2.1]}}))∨
 (q.2.2≠0∧fr= .inr (.iface tGo (.int .i64 q.2.2))∧∃ n':Now,n'.S=q.1∧St h0 F0 J0 h' (put c L i n'))
section
variable {h h' h0:AH} {F J F0 J0:Nat→Prop} {L:List Asn} {c:Cfg} {i:Nat} {n:Now}
theorem bp.no {S:StD} {k:Int} (hk:k≠0) (n':Now) (hS:n'.S=S) (s:St h0 F0 J0 h' (put c L i n')):bp h0 F0 J0 c L i n (S.no k) (.inr (.iface tGo (.int .i64 k))) h':= .inr ⟨hk,rfl,n',hS,s⟩
theorem bp.ok {S:StD} {v:VD} (s:St h0 F0 J0 h' (put c L i {n with S:=S,top:={n.top with stack:=n.top.stack++[v]}})):bp h0 F0 J0 c L i n (S.ok v) (.inl (.tup [])) h':= .inl ⟨rfl,rfl,s⟩
theorem bp.fail (a:At c L i n) {k:Int} (hk:k≠0) (s:St h0 F0 J0 h' L):bp h0 F0 J0 c L i n (n.S.no k) (.inr (.iface tGo (.int .i64 k))) h':=bp.no hk n rfl (by rw[a.same];exact s)
theorem bp.drop {X:Asn} {q:StD×VD×Int} {fr:AV ⊕ AV} (r:bp h0 F0 J0 c (X::L) (i+1) n q fr h'):bp h0 F0 J0 c L i n q fr h':=by
 rcases r with⟨a,b,s⟩ | ⟨a,b,n',e,s⟩
 ·exact .inl ⟨a,b,s.drop⟩
 ·exact .inr ⟨a,b,n',e,s.drop⟩
theorem cI (s:St h0 F0 J0 h L) (a:At c L i n) (hb:n.below.length≤100) (hs:n.top.stack.length≤100000) {v:VD} {r:List AV} (hv:VaA v r):
  ∃ h',ai Try.prog po fPu [.ptr c.mb 0 0,.agg r] h=some (.inl (.tup []),h')∧St h0 F0 J0 h' (put c L i {n with top:={n.top with stack:=n.top.stack++[v]}}):=by
 obtain⟨h',e,s'⟩:=Ho s i a.m hv (by omega) (by omega)
 rw[a.setM]at s'
 exact⟨h',e,s'⟩
theorem yU (s:St h0 F0 J0 h L) (a:At c L i n) {st:List VD} {v:VD} (hst:n.top.stack=st++[v]) (hb:n.below.length≤100) (hl:st.length≤100000):
  ∃ h' r,ai Try.prog po 83 [.ptr c.mb 0 0] h=some (.inl (.agg r),h')∧VaA v r∧St h0 F0 J0 h' (put c L i {n with top:={n.top with stack:=st}}):=by
 obtain⟨h',⟨r,e,hv⟩,s'⟩:=JV s i a.m hst (by omega) (by omega)
 rw[a.setM]at s'
 exact⟨h',r,e,hv,s'⟩
theorem kv (s:St h0 F0 J0 h L) (a:At c L i n) {R:AH→Prop} {G':ae} (cc:∀ F J,IsG h F J c.gb n.S.G→∃ h',R h'∧bT h F J c.gb h' G'):∃ h',R h'∧St h0 F0 J0 h' (put c L i {n with S:={n.S with G:=G'}}):=by
 obtain⟨h',r,s'⟩:=s.call (R:=R) (Y:=aQ c.gb G') (i+2) a.g cc
 rw[a.setG]at s'
 exact⟨h',r,s'⟩
theorem cD (s:St h0 F0 J0 h L) (a:At c L i n) (hl:c.ms.length=n.S.kept.length):(∀ k:Nat,aH false k h (.ptr c.mb 0 0)=some (.ptr c.bb 0 0))∧(∀ k:Nat,aH false k h (.ptr c.bb 0 0)=some (.ptr c.gb 0 0))∧∀ k:Nat,aH false k h (.ptr c.bb 0 1)=some (.ptr c.wb 0 0):=by
 obtain⟨a',sv,nv,g,mv⟩:=cM s i a.m
 obtain⟨b1,b2⟩:=ng s a.b hl
 refine⟨fun k=> ?_,b1,b2⟩
 rw[bW,mv.m,Option.bind_some,List.getElem?_cons_zero,Option.bind_some,eR];rfl
theorem cb (s:St h0 F0 J0 h L) (a:At c L i n) (hb:n.below.length≤100):ai Try.prog po FE [.ptr c.mb 0 0] h=some (.inl (.ptr n.fb n.below.length 0),h)∧∀ k:Nat,aH false k h (.ptr n.fb n.below.length 0)=some (.int .i64 n.top.plugin):=by
 obtain⟨a',sv,nv,g,mv⟩:=cM s i a.m
 exact⟨oV mv.m (by omega),fun k=>mv.rd k 0 _ (bR n.top a' sv nv g mv.ha.len3.1).2.2.2.2.2.1⟩
theorem fN (t:bm):aK t=[.int .i64 t.parent,.int .i64 t.gate,.int .i64 t.rights,.int .i64 t.cell,.int .i64 t.plugin,.int .i64 t.func]:=rfl
theorem Kb {p k n:Int} {v:VD} {S:StD}:bo p 13 k n [v] S=if v.kind≠4 then S.no 2 else if eS (S.G.rights v.n) 0=false then S.no 9 else if 0≤(S.G.target v.n).1.plugin then S.no 2
  else({S with log:=S.log++[gq.mk p (S.G.target v.n).1.cell 1 v.n]}:StD).ok (mX (S.cells.getD (S.G.target v.n).1.cell.toNat 0)):=rfl
theorem n8 {G:ae} (hW:G.Wf) {i:Int} {k:Nat} (hb:eS (G.rights i) k=true) (hp:¬ 0≤(G.target i).1.plugin):0≤(G.target i).1.cell∧(G.target i).1.cell<12:=by
 have hh:G.has i=true:=by
  cases h:G.has i with
  | true=>rfl
  | false=>
    have:G.rights i=0:=by unfold ae.rights;rw[if_pos (.inl (ae.path_no h))]
    rw[this]at hb
    have h2:eS 0 k=false:=by unfold eS;rw[Int.zero_ediv];decide
    rw[h2]at hb
    cases hb
 obtain⟨_,_,h1 | h1⟩:=ae.target_ok hW hh
 ·exact⟨h1.2.1,h1.2.2.1⟩
 ·omega
set_option maxHeartbeats 1000000 in
theorem EH (s:St h0 F0 J0 h L) (a:At c L i n) (o:OkR c n) {v:VD} {r:List AV} (hv:VaA v r) (k m:Int):∃ fr h',ai Try.prog po 123 [.ptr c.mb 0 0,.agg r] h=some (fr,h')∧bp h0 F0 J0 c L i n (bo n.top.plugin 13 k m [v] n.S) fr h':=by
 rw[Kb]
 have s1:=s.push [r]
 have a1:=a.cons (ah h.n [r])
 obtain⟨o1,o2⟩:=hv.len3
 by_cases hk:v.kind=4
 ·rw[if_neg (by simpa using hk)]
  obtain⟨r',ek,hv'⟩:=dx (h:=h.push [r]) hv hk
  have ec:=pH s1 a1.m a1.b a1.g o.len o.S.wf hv' (k:=0) (q:=1) (by decide) (by decide)
  by_cases hb:eS (n.S.G.rights v.n) 0=true
  ·rw[if_pos hb]at ec
   rw[if_neg (by simp[hb])]
   have s2:=s1.push [aK (n.S.G.target v.n).1]
   have a2:=a1.cons (ah (h.push [r]).n [aK (n.S.G.target v.n).1])
   by_cases hp:0≤(n.S.G.target v.n).1.plugin
   ·rw[if_pos hp]
    have d:decide (0≤(n.S.G.target v.n).1.plugin)=true:=decide_eq_true hp
    refine⟨_,_,?_,bp.fail a (by decide) s2.drop.drop⟩
    refine ag lW rfl ?_;unfold kx
    simp only[sim,af,Nat.reduceAdd,Nat.reduceSub,List.replicate,reduceCtorEq,Nat.reduceLeDiff,Nat.reduceLT,aa,au,o1,o2,ek,ec,fN,d,bG]
   ·rw[if_neg hp]
    have d:decide (0≤(n.S.G.target v.n).1.plugin)=false:=decide_eq_false hp
    obtain⟨l0,l1,l2⟩:=cD s2 a2 o.len
    obtain⟨tp,tl⟩:=cb s2 a2 o.below
    obtain⟨h3,e3,s3⟩:=G5 s2 (i+1+1+3) a2.w o.S.cells o.log (n8 o.S.wf hb hp) n.top.plugin v.n
    rw[a2.setW]at s3
    have a3:=a2.put {n with S:={n.S with cells:=n.S.cells,log:=n.S.log++[⟨n.top.plugin,(n.S.G.target v.n).1.cell,1,v.n⟩]}}
    obtain⟨h4,e4,s4⟩:=cI s3 a3 o.below o.stk (tM (n.S.cells.getD (n.S.G.target v.n).1.cell.toNat 0))
    rw[aN,aj,aj]at s4
    refine⟨_,h4,?_,bp.ok s4.drop.drop⟩
    have f0:aF 0 (.ptr c.mb 0 0)=some (.ptr c.mb 0 0):=rfl
    have f1:aF 1 (.ptr c.bb 0 0)=some (.ptr c.bb 0 1):=rfl
    have f2:aF 0 (.ptr n.fb n.below.length 0)=some (.ptr n.fb n.below.length 0):=rfl
    rw[fN]at l0 l1 l2 tp tl e3
    refine ag lW rfl ?_;unfold kx
    simp only[sim,af,Nat.reduceAdd,Nat.reduceSub,List.replicate,reduceCtorEq,Nat.reduceLeDiff,Nat.reduceLT,aa,au,o1,o2,ek,ec,fN,d,bP,f0,f1,f2,l0,l1,l2,tp,tl,e3,kz,e4]
  ·rw[if_neg hb]at ec
   rw[if_pos (by simpa using hb)]
   refine⟨_,_,?_,bp.fail a (by decide) s1.drop⟩
   refine ag lW rfl ?_;unfold kx
   simp only[sim,af,Nat.reduceAdd,Nat.reduceSub,List.replicate,reduceCtorEq,Nat.reduceLeDiff,Nat.reduceLT,aa,au,o1,o2,ek,ec]
 ·rw[if_pos hk]
  have ek:=eG (h:=h.push [r]) hv hk
  refine⟨_,_,?_,bp.fail a (by decide) s1.drop⟩
  refine ag lW rfl ?_;unfold kx
  simp only[sim,af,Nat.reduceAdd,Nat.reduceSub,List.replicate,reduceCtorEq,Nat.reduceLeDiff,Nat.reduceLT,aa,au,o1,o2,ek]
theorem Kf {p k n:Int} {v x:VD} {S:StD}:bo p 14 k n [v,x] S=if v.kind≠4∨x.kind≠1 then S.no 2 else if eS (S.G.rights v.n) 1=false then S.no 9 else if 0≤(S.G.target v.n).1.plugin then S.no 2
  else({S with log:=S.log++[gq.mk p (S.G.target v.n).1.cell 2 v.n],cells:=S.cells.set (S.G.target v.n).1.cell.toNat x.n}:StD).ok x:=rfl
set_option maxHeartbeats 1000000 in
theorem Cv (s:St h0 F0 J0 h L) (a:At c L i n) (o:OkR c n) {v x:VD} {r t:List AV} (hv:VaA v r) (hx:VaA x t) (k m:Int):∃ fr h',ai Try.prog po 124 [.ptr c.mb 0 0,.agg r,.agg t] h=some (fr,h')∧bp h0 F0 J0 c L i n (bo n.top.plugin 14 k m [v,x] n.S) fr h':=by
 rw[Kf]
 have s1:=(s.push [r]).push [t]
 have a1:=(a.cons (ah h.n [r])).cons (ah (h.push [r]).n [t])
 obtain⟨o1,o2⟩:=hv.len3
 obtain⟨o3,o4⟩:=hx.len3
 have c1:((h.push [r]).push [t]).cell h.n=some [r]:=(s1.cell 1 rfl).1
 have c2:((h.push [r]).push [t]).cell (h.n+1)=some [t]:=(s1.cell 0 rfl).1
 by_cases hk:v.kind=4
 ·obtain⟨r',ek,hv'⟩:=dx (h:=(h.push [r]).push [t]) hv hk
  by_cases hk2:x.kind=1
  ·rw[if_neg (by simp[hk,hk2])]
   obtain⟨t',ek2,hx'⟩:=dx (h:=(h.push [r]).push [t]) hx hk2
   have ec:=pH s1 a1.m a1.b a1.g o.len o.S.wf hv (k:=1) (q:=2) (by decide) (by decide)
   by_cases hb:eS (n.S.G.rights v.n) 1=true
   ·rw[if_pos hb]at ec
    rw[if_neg (by simp[hb])]
    have s2:=s1.push [aK (n.S.G.target v.n).1]
    have a2:=a1.cons (ah ((h.push [r]).push [t]).n [aK (n.S.G.target v.n).1])
    by_cases hp:0≤(n.S.G.target v.n).1.plugin
    ·rw[if_pos hp]
     have d:decide (0≤(n.S.G.target v.n).1.plugin)=true:=decide_eq_true hp
     refine⟨_,_,?_,bp.fail a (by decide) s2.drop.drop.drop⟩
     refine ag jd rfl ?_;unfold gV
     simp only[sim,af,Nat.reduceAdd,Nat.reduceSub,List.replicate,reduceCtorEq,Nat.reduceLeDiff,Nat.reduceLT,aa,au,o1,o2,o3,o4,c1,c2,ek,ek2,ec,fN,d,bG]
    ·rw[if_neg hp]
     have d:decide (0≤(n.S.G.target v.n).1.plugin)=false:=decide_eq_false hp
     obtain⟨l0,l1,l2⟩:=cD s2 a2 o.len
     obtain⟨tp,tl⟩:=cb s2 a2 o.below
     obtain⟨w,hw,_⟩:=hx.cells3
     have c3:(((h.push [r]).push [t]).push [aK (n.S.G.target v.n).1]).cell (h.n+1)=some [t]:=(s2.cell 1 rfl).1
     have hxn:t[1]? =some (.int .i64 x.n):=by rw[hw];rfl
     obtain⟨h3,e3,s3⟩:=Dp s2 (i+1+1+1+3) a2.w o.S.cells o.log (n8 o.S.wf hb hp) n.top.plugin v.n x.n
     rw[a2.setW]at s3
     have a3:=a2.put {n with S:={n.S with cells:=n.S.cells.set (n.S.G.target v.n).1.cell.toNat x.n,log:=n.S.log++[⟨n.top.plugin,(n.S.G.target v.n).1.cell,2,v.n⟩]}}
     have c4:=(s3.cell 1 rfl).1
     simp only[aL]at c4
     obtain⟨h4,e4,s4⟩:=cI s3 a3 o.below o.stk hx
     rw[aN,aj,aj,aj]at s4
     refine⟨_,h4,?_,bp.ok s4.drop.drop.drop⟩
     have f0:aF 0 (.ptr c.mb 0 0)=some (.ptr c.mb 0 0):=rfl
     have f1:aF 1 (.ptr c.bb 0 0)=some (.ptr c.bb 0 1):=rfl
     have f2:aF 0 (.ptr n.fb n.below.length 0)=some (.ptr n.fb n.below.length 0):=rfl
     rw[fN]at l0 l1 l2 tp tl e3 c3
     refine ag jd rfl ?_;unfold gV
     simp only[sim,af,Nat.reduceAdd,Nat.reduceSub,List.replicate,reduceCtorEq,Nat.reduceLeDiff,Nat.reduceLT,aa,au,o1,o2,o3,o4,c1,c2,ek,ek2,ec,fN,d,bP,f0,f1,f2,l0,l1,l2,tp,tl,c3,hxn,e3,c4,e4]
   ·rw[if_neg hb]at ec
    rw[if_pos (by simpa using hb)]
    refine⟨_,_,?_,bp.fail a (by decide) s1.drop.drop⟩
    refine ag jd rfl ?_;unfold gV
    simp only[sim,af,Nat.reduceAdd,Nat.reduceSub,List.replicate,reduceCtorEq,Nat.reduceLeDiff,Nat.reduceLT,aa,au,o1,o2,o3,o4,c1,c2,ek,ek2,ec]
  ·rw[if_pos (.inr hk2)]
   have ek2:=eG (h:=(h.push [r]).push [t]) hx hk2
   refine⟨_,_,?_,bp.fail a (by decide) s1.drop.drop⟩
   refine ag jd rfl ?_;unfold gV
   simp only[sim,af,Nat.reduceAdd,Nat.reduceSub,List.replicate,reduceCtorEq,Nat.reduceLeDiff,Nat.reduceLT,aa,au,o1,o2,o3,o4,c1,c2,ek,ek2]
 ·rw[if_pos (.inl hk)]
  have ek:=eG (h:=(h.push [r]).push [t]) hv hk
  refine⟨_,_,?_,bp.fail a (by decide) s1.drop.drop⟩
  refine ag jd rfl ?_;unfold gV
  simp only[sim,af,Nat.reduceAdd,Nat.reduceSub,List.replicate,reduceCtorEq,Nat.reduceLeDiff,Nat.reduceLT,aa,au,o1,o2,o3,o4,c1,c2,ek]
end
section
variable {h h' h0:AH} {F J F0 J0:Nat→Prop} {L:List Asn} {c:Cfg} {i:Nat} {n:Now}
theorem nX (s:St h0 F0 J0 h L) (a:At c L i n) (hl:c.ms.length=n.S.kept.length) (hW:n.S.G.Wf) {v:VD} {r:List AV} (hv:VaA v r) (rr g:Int):
  ∃ h',ai Try.prog po 125 [.ptr c.mb 0 0,.agg r,.int .i64 rr,.int .i64 g] h=some (if(n.S.G.derive v.n rr g).2.2=0 then .inl (.agg [.int .i64 4,.int .i64 (n.S.G.derive v.n rr g).2.1,.nils])else .inr (.iface tGo (.int .i64 (n.S.G.derive v.n rr g).2.2)),h')∧
    St h0 F0 J0 h' (put c L i {n with S:={n.S with G:=(n.S.G.derive v.n rr g).1}}):=by
 have s1:=(s.push [r]).push [zR3]
 have a1:=(a.cons (ah h.n [r])).cons (ah (h.push [r]).n [zR3])
 obtain⟨w,hw,ho⟩:=hv.cells3
 obtain⟨o1,o2⟩:=hv.len3
 have c1:((h.push [r]).push [zR3]).cell h.n=some [r]:=(s1.cell 1 rfl).1
 obtain⟨l0,l1,l2⟩:=cD s1 a1 hl
 have hn:r[1]? =some (.int .i64 v.n):=by rw[hw];rfl
 obtain⟨h2,e2,s2⟩:=kv s1 a1 (R:=fun h'=>ai Try.prog po 79 [.ptr c.gb 0 0,.int .i64 v.n,.int .i64 rr,.int .i64 g] ((h.push [r]).push [zR3])=some (.inl (.tup [.int .i64 (n.S.G.derive v.n rr g).2.1,.int .i64 (n.S.G.derive v.n rr g).2.2]),h')) fun F J x=>pS x hW v.n rr g
 rw[aj,aj]at s2
 have c2:=(s2.cell 0 rfl).1
 simp only[aL]at c2
 have f0:aF 0 (.ptr c.mb 0 0)=some (.ptr c.mb 0 0):=rfl
 have f1:aF 0 (.ptr c.bb 0 0)=some (.ptr c.bb 0 0):=rfl
 by_cases hc:(n.S.G.derive v.n rr g).2.2=0
 ·have d:decide ((n.S.G.derive v.n rr g).2.2=0)=true:=decide_eq_true hc
  rw[if_pos hc]
  have s3:=s2.set 0 rfl [[.int .i64 4,.int .i64 (n.S.G.derive v.n rr g).2.1,.nils]]
  refine⟨_,?_,s3.drop.drop⟩
  generalize n.S.G.derive v.n rr g=q at*
  refine ag nK rfl ?_;unfold ke
  simp only[sim,af,Nat.reduceAdd,Nat.reduceSub,List.replicate,reduceCtorEq,Nat.reduceLeDiff,Nat.reduceLT,aa,au,o1,o2,c1,l0,l1,f0,f1,hn,e2,d,bP,c2]
 ·have d:decide ((n.S.G.derive v.n rr g).2.2=0)=false:=decide_eq_false hc
  rw[if_neg hc]
  refine⟨_,?_,s2.drop.drop⟩
  generalize n.S.G.derive v.n rr g=q at*
  refine ag nK rfl ?_;unfold ke
  simp only[sim,af,Nat.reduceAdd,Nat.reduceSub,List.replicate,reduceCtorEq,Nat.reduceLeDiff,Nat.reduceLT,aa,au,o1,o2,c1,l0,l1,f0,f1,hn,e2,d,bG,c2]
theorem Kx {p k n:Int} {v:VD} {S:StD}:bo p 16 k n [v] S=if v.kind≠4 then S.no 2 else if S.G.gate.2.2≠0 then({S with G:=S.G.gate.1}:StD).no S.G.gate.2.2
  else match S.G.gate.1.derive v.n 15 S.G.gate.2.1 with
   | (G',m,c)=>if c≠0 then({S with G:=G'}:StD).no c else({S with G:=G'}:StD).ok (.mk 2 0 [pN m,.mk 5 S.G.gate.2.1 []]):=rfl
set_option maxHeartbeats 1000000 in
theorem Fw (s:St h0 F0 J0 h L) (a:At c L i n) (o:OkR c n) {v:VD} {r:List AV} (hv:VaA v r) (k m:Int):∃ fr h',ai Try.prog po 126 [.ptr c.mb 0 0,.agg r] h=some (fr,h')∧bp h0 F0 J0 c L i n (bo n.top.plugin 16 k m [v] n.S) fr h':=by
 rw[Kx]
 have s1:=s.push [r]
 have a1:=a.cons (ah h.n [r])
 obtain⟨o1,o2⟩:=hv.len3
 by_cases hk:v.kind=4
 ·rw[if_neg (by simpa using hk)]
  obtain⟨r',ek,hv'⟩:=dx (h:=h.push [r]) hv hk
  obtain⟨l0,l1,l2⟩:=cD s1 a1 o.len
  have f0:aF 0 (.ptr c.mb 0 0)=some (.ptr c.mb 0 0):=rfl
  have f1:aF 0 (.ptr c.bb 0 0)=some (.ptr c.bb 0 0):=rfl
  obtain⟨h2,e2,s2⟩:=kv s1 a1 (R:=fun h'=>ai Try.prog po 58 [.ptr c.gb 0 0] (h.push [r])=some (.inl (.tup [.int .i64 n.S.G.gate.2.1,.int .i64 n.S.G.gate.2.2]),h')) fun F J x=>Gb x o.S.wf
  have a2:=a1.put {n with S:={n.S with G:=n.S.G.gate.1}}
  have s2':=s2
  rw[aj]at s2'
  have c2:=(s2'.cell 0 rfl).1
  by_cases hg:n.S.G.gate.2.2=0
  ·rw[if_neg (by simpa using hg)]
   have dg:decide (n.S.G.gate.2.2=0)=true:=decide_eq_true hg
   obtain⟨h3,e3,s3⟩:=nX s2 a2 o.len (o.S.wf.gate) hv 15 n.S.G.gate.2.1
   rw[aN]at s3
   have a3:=a1.put {n with S:={n.S with G:=(n.S.G.gate.1.derive v.n 15 n.S.G.gate.2.1).1}}
   generalize n.S.G.gate.1.derive v.n 15 n.S.G.gate.2.1=q at*
   obtain⟨G',m',cc⟩:=q
   simp only at e3 s3 a3 ⊢
   by_cases hc:cc=0
   ·subst hc
    rw[if_pos rfl]at e3
    rw[if_neg (by simp)]
    have s4:=(s3.push [[.int .i64 4,.int .i64 m',.nils]]).fresh 2
    have a4:=(a3.cons (ah h3.n [[.int .i64 4,.int .i64 m',.nils]])).cons (idA (h3.push [[.int .i64 4,.int .i64 m',.nils]]).ids 2)
    have pv:VaA (.mk 2 0 [pN m',.mk 5 n.S.G.gate.2.1 []]) [.int .i64 2,.int .i64 0,.isl (some h3.ids) tV [[.int .i64 4,.int .i64 m',.nils],[.int .i64 5,.int .i64 n.S.G.gate.2.1,.nils]]]:=tU ⟨_,_,rfl,ED m',_,_,rfl,Hh _,rfl⟩
    obtain⟨h5,e5,s5⟩:=cI s4 a4 o.below o.stk pv
    rw[aj,aj,aN,aj]at s5
    refine⟨_,h5,?_,bp.ok s5.drop.drop.drop⟩
    refine ag mg rfl ?_;unfold ka
    simp only[sim,af,Nat.reduceAdd,Nat.reduceSub,List.replicate,reduceCtorEq,Nat.reduceLeDiff,Nat.reduceLT,aa,au,o1,o2,ek,l0,l1,f0,f1,e2,dg,bP,c2,e3,e5]
   ·rw[if_neg hc]at e3
    rw[if_pos hc]
    rw[aj]at s3
    refine⟨_,_,?_,bp.no hc {n with S:={n.S with G:=G'}} rfl s3.drop⟩
    refine ag mg rfl ?_;unfold ka
    simp only[sim,af,Nat.reduceAdd,Nat.reduceSub,List.replicate,reduceCtorEq,Nat.reduceLeDiff,Nat.reduceLT,aa,au,o1,o2,ek,l0,l1,f0,f1,e2,dg,bP,c2,e3]
  ·rw[if_pos hg]
   have dg:decide (n.S.G.gate.2.2=0)=false:=decide_eq_false hg
   refine⟨_,_,?_,bp.no hg {n with S:={n.S with G:=n.S.G.gate.1}} rfl s2'.drop⟩
   refine ag mg rfl ?_;unfold ka
   simp only[sim,af,Nat.reduceAdd,Nat.reduceSub,List.replicate,reduceCtorEq,Nat.reduceLeDiff,Nat.reduceLT,aa,au,o1,o2,ek,l0,l1,f0,f1,e2,dg,bG]
 ·rw[if_pos hk]
  have ek:=eG (h:=h.push [r]) hv hk
  refine⟨_,_,?_,bp.fail a (by decide) s1.drop⟩
  refine ag mg rfl ?_;unfold ka
  simp only[sim,af,Nat.reduceAdd,Nat.reduceSub,List.replicate,reduceCtorEq,Nat.reduceLeDiff,Nat.reduceLT,aa,au,o1,o2,ek]
theorem xK (s:St h0 F0 J0 h L) (a:At c L i n) (hb:n.below.length≤100) {f:FrD} {ar:List AV} {g:AV} (ha:VaA f.arg ar) (hg:SlA 3 g (db f.gates)) (hs:f.stack=[]) (hn:f.names=[]):
  (n.below.length+1=20→∃ h',ai Try.prog po 127 [.ptr c.mb 0 0,.agg (cr f ar .nils .nils g)] h=some (.inr (.iface tGo (.int .i64 4)),h')∧St h0 F0 J0 h' L)∧
  (n.below.length+1≠20→∃ h' fb',ai Try.prog po 127 [.ptr c.mb 0 0,.agg (cr f ar .nils .nils g)] h=some (.inl (.tup []),h')∧St h0 F0 J0 h' (put c L i ⟨fb',n.S,n.below++[n.top],f⟩)):=by
 have hgo:g.one=true:=by rcases hg with⟨_,rfl⟩ | ⟨id,rfl⟩<;>rfl
 have o2:=(bR f ar .nils .nils g ha.len3.1).2.1
 have o1:=lN (f:=f) (s:= .nils) (n:= .nils) ha.len3 rfl rfl hgo
 generalize hrow:cr f ar .nils .nils g=row at*
 have s1:=s.push [row]
 have a1:=a.cons (ah h.n [row])
 obtain⟨_,_,_,_,mv⟩:=cM s1 (i+1) a1.m
 have ld:∀ (k:Nat) (x:AH),x.cell c.mb=some [[.ptr c.bb 0 0,.msl n.fb 0 (n.below.length+1) tFr,.int .i64 (n.S.left:Int)]]→aH false k x (.ptr c.mb 0 1)=some (.msl n.fb 0 (n.below.length+1) tFr):=fun k x hx=>by
  rw[bW,hx];rfl
 have l1:=fun k=>ld k _ mv.m
 have f1:aF 1 (.ptr c.mb 0 0)=some (.ptr c.mb 0 1):=rfl
 refine⟨fun h20=> ?_,fun h20=> ?_⟩
 ·have d:decide (((n.below.length+1:Nat):Int)=20)=true:=decide_eq_true (by omega)
  refine⟨_,?_,s1.drop⟩
  refine ag xN rfl ?_;unfold qv
  simp only[sim,af,Nat.reduceAdd,Nat.reduceSub,List.replicate,reduceCtorEq,Nat.reduceLeDiff,Nat.reduceLT,aa,au,o1,o2,f1,l1,d,bG]
 ·have d:decide (((n.below.length+1:Nat):Int)=20)=false:=decide_eq_false (by omega)
  have s2:=s1.push [row]
  have a2:=a1.cons (ah (h.push [row]).n [row])
  obtain⟨_,_,_,_,mv2⟩:=cM s2 (i+2) a2.m
  have l2:=fun k=>ld k _ mv2.m
  obtain⟨h3,h4,e3,e4,s4⟩:=FZ s2 (i+1+1) a2.m (f:=f) (a:=ar) (g:=g) ha hg hs hn (by omega) (bz:=h.n+1) (by rw[hrow];exact(s2.cell 0 rfl).1)
  rw[a2.setM,aj,aj]at s4
  have c1:(h.push [row]).cell h.n=some [row]:=(s1.cell 0 rfl).1
  simp only[aL]at e3 e4
  refine⟨_,_,?_,s4.drop.drop⟩
  refine ag xN rfl ?_;unfold qv
  simp only[sim,af,Nat.reduceAdd,Nat.reduceSub,List.replicate,reduceCtorEq,Nat.reduceLeDiff,Nat.reduceLT,aa,au,o1,o2,f1,l1,l2,d,bP,c1,e3,e4]
theorem Lx {p k n:Int} {v:VD} {S:StD}:bo p 9 k n [v] S=if v.kind≠2 then S.no 2 else S.ok (v.l.getD 0 aA):=rfl
theorem K4 {p k n:Int} {v:VD} {S:StD}:bo p 10 k n [v] S=if v.kind≠2 then S.no 2 else S.ok (v.l.getD 1 aA):=rfl
end
abbrev iO:FuncId:=86
section
variable {h h' h0:AH} {F J F0 J0:Nat→Prop} {L:List Asn} {c:Cfg} {i:Nat} {n:Now}
theorem lB (k x y:Int):ai Try.prog po 12 [.int .i64 k,.int .i64 x,.int .i64 y] h=some (.inl (.int .i64 (lC k x y)),h):=by
 unfold lC
 by_cases h1:k=1
 ·subst h1
  refine ag eZ rfl ?_;unfold dY
  simp only[sim,af,Nat.reduceAdd,Nat.reduceSub,List.replicate,reduceCtorEq,Nat.reduceLeDiff,Nat.reduceLT,aa,decide_true]
 have d1:decide (k=1)=false:=decide_eq_false h1
 rw[if_neg h1]
 by_cases h2:k=2
 ·subst h2
  rw[if_pos rfl]
  refine ag eZ rfl ?_;unfold dY
  simp only[sim,af,Nat.reduceAdd,Nat.reduceSub,List.replicate,reduceCtorEq,Nat.reduceLeDiff,Nat.reduceLT,aa,d1,decide_true]
 have d2:decide (k=2)=false:=decide_eq_false h2
 rw[if_neg h2]
 by_cases h3:k=3
 ·subst h3
  rw[if_pos rfl]
  refine ag eZ rfl ?_;unfold dY
  simp only[sim,af,Nat.reduceAdd,Nat.reduceSub,List.replicate,reduceCtorEq,Nat.reduceLeDiff,Nat.reduceLT,aa,d1,d2,decide_true]
 have d3:decide (k=3)=false:=decide_eq_false h3
 rw[if_neg h3]
 by_cases h4:k=4
 ·subst h4
  rw[if_pos rfl]
  by_cases hl:x<y
  ·have dl:decide (x<y)=true:=decide_eq_true hl
   rw[if_pos hl]
   refine ag eZ rfl ?_;unfold dY
   simp only[sim,af,Nat.reduceAdd,Nat.reduceSub,List.replicate,reduceCtorEq,Nat.reduceLeDiff,Nat.reduceLT,aa,d1,d2,d3,dl,decide_true]
  ·have dl:decide (x<y)=false:=decide_eq_false hl
   rw[if_neg hl]
   refine ag eZ rfl ?_;unfold dY
   simp only[sim,af,Nat.reduceAdd,Nat.reduceSub,List.replicate,reduceCtorEq,Nat.reduceLeDiff,Nat.reduceLT,aa,d1,d2,d3,dl,decide_true]
 have d4:decide (k=4)=false:=decide_eq_false h4
 rw[if_neg h4]
 by_cases h5:k=5
 ·subst h5
  rw[if_pos rfl]
  by_cases hl:x=y
  ·have dl:decide (x=y)=true:=decide_eq_true hl
   rw[if_pos hl]
   refine ag eZ rfl ?_;unfold dY
   simp only[sim,af,Nat.reduceAdd,Nat.reduceSub,List.replicate,reduceCtorEq,Nat.reduceLeDiff,Nat.reduceLT,aa,d1,d2,d3,d4,dl,decide_true]
  ·have dl:decide (x=y)=false:=decide_eq_false hl
   rw[if_neg hl]
   refine ag eZ rfl ?_;unfold dY
   simp only[sim,af,Nat.reduceAdd,Nat.reduceSub,List.replicate,reduceCtorEq,Nat.reduceLeDiff,Nat.reduceLT,aa,d1,d2,d3,d4,dl,decide_true]
 have d5:decide (k=5)=false:=decide_eq_false h5
 rw[if_neg h5]
 refine ag eZ rfl ?_;unfold dY
 simp only[sim,af,Nat.reduceAdd,Nat.reduceSub,List.replicate,reduceCtorEq,Nat.reduceLeDiff,Nat.reduceLT,aa,d1,d2,d3,d4,d5]
abbrev iR (op k m:Int):List AV:=[.int .i64 op,.int .i64 k,.int .i64 m]
abbrev Now.stk (n:Now) (l:List VD):Now:={n with top:={n.top with stack:=l}}
theorem eH (s:St h0 F0 J0 h L) (a:At c L i n) (o:OkR c n) {st:List VD} {v:VD} (hst:n.top.stack=st++[v]):
  ∃ h' r,ai Try.prog po 83 [.ptr c.mb 0 0] h=some (.inl (.agg r),h')∧VaA v r∧St h0 F0 J0 h' (put c L i (n.stk st))∧At c (put c L i (n.stk st)) i (n.stk st):=by
 have hsl:=o.stk
 rw[hst]at hsl
 simp only[List.length_append,List.length_singleton]at hsl
 obtain⟨h',r,e,hv,s'⟩:=yU s a hst o.below (by omega)
 exact⟨h',r,e,hv,s',a.put _⟩
theorem oN (s:St h0 F0 J0 h L) (a:At c L i n) (o:OkR c n) {st:List VD} {v w:VD} (hst:n.top.stack=st++[v]++[w]):
  ∃ h2 h3 rw_ rv,ai Try.prog po 83 [.ptr c.mb 0 0] h=some (.inl (.agg rw_),h2)∧ai Try.prog po 83 [.ptr c.mb 0 0] h2=some (.inl (.agg rv),h3)∧VaA w rw_∧VaA v rv∧St h0 F0 J0 h3 (put c L i (n.stk st))∧At c (put c L i (n.stk st)) i (n.stk st):=by
 have hsl:=o.stk
 rw[hst]at hsl
 simp only[List.length_append,List.length_singleton]at hsl
 obtain⟨h2,r2,e2,hw,s2⟩:=yU s a hst o.below (by simp;omega)
 obtain⟨h3,r3,e3,hv,s3⟩:=yU s2 (a.put (n.stk (st++[v]))) rfl o.below (by omega)
 rw[aN]at s3
 exact⟨h2,h3,r2,r3,e2,e3,hw,hv,s3,a.put _⟩
theorem OkR.stk' {n:Now} {st:List VD} {l:List VD} (o:OkR c n) (hst:n.top.stack=st++l):OkR c (n.stk st):=by
 have hsl:=o.stk
 rw[hst]at hsl
 simp only[List.length_append]at hsl
 exact⟨o.ms,o.S,o.below,by simp only;omega,o.nms,o.log⟩
theorem LH {p k n:Int} {v x:VD} {S:StD}:bo p 6 k n [v,x] S=if v.kind≠1∨x.kind≠1 then S.no 2 else S.ok (mX (lC k v.n x.n)):=rfl
set_option maxHeartbeats 1000000 in
theorem Ib (s:St h0 F0 J0 h L) (a:At c L i n) (o:OkR c n) {st:List VD} {v w:VD} (hst:n.top.stack=st++[v]++[w]) (k m:Int):∃ fr h',ai Try.prog po iO [.ptr c.mb 0 0,.agg (iR 6 k m)] h=some (fr,h')∧bp h0 F0 J0 c L i (n.stk st) (bo n.top.plugin 6 k m [v,w] n.S) fr h':=by
 rw[LH]
 have s1:=s.push [iR 6 k m]
 have a1:=a.cons (ah h.n [iR 6 k m])
 obtain⟨tp,tl⟩:=cb s1 a1 o.below
 have c1:=(s1.cell 0 rfl).1
 obtain⟨h2,h3,rw_,rv,e2,e3,hw,hv,s3,a3⟩:=oN s1 a1 o hst
 rw[aj]at s3 a3
 have o3:=(o.stk' (st:=st) (l:=[v]++[w]) (by rw[hst,List.append_assoc]))
 have s4:=(s3.push [zR3]).push [zR3]
 have s5:St h0 F0 J0 _ (ah (h3.n+1) [zR3]::ah h3.n [rw_]::ah h.n [iR 6 k m]::put c L i (n.stk st)):=s4.set 1 rfl [rw_]
 have s6:St h0 F0 J0 _ (ah (h3.n+1) [rv]::ah h3.n [rw_]::ah h.n [iR 6 k m]::put c L i (n.stk st)):=s5.set 0 rfl [rv]
 have a6:=(a3.cons (ah h3.n [rw_])).cons (ah (h3.n+1) [rv])
 obtain⟨o1,o2⟩:=hw.len3
 obtain⟨o5,o4⟩:=hv.len3
 have q0:=(s5.cell 0 rfl).1
 have q1:=(s6.cell 0 rfl).1
 have q2:=(s6.cell 1 rfl).1
 have q3:=(s6.cell 2 rfl).1
 generalize hh6:(((h3.push [zR3]).push [zR3]).set h3.n (some [rw_])).set (h3.n+1) (some [rv])=h6 at*
 by_cases hk:v.kind=1
 ·obtain⟨r1,ek1,hv'⟩:=dx (h:=h6) hv hk
  by_cases hk2:w.kind=1
  ·rw[if_neg (by simp[hk,hk2])]
   obtain⟨r2,ek2,hw'⟩:=dx (h:=h6) hw hk2
   obtain⟨y1,hy1,_⟩:=hv.cells3
   obtain⟨y2,hy2,_⟩:=hw.cells3
   have n1:rv[1]? =some (.int .i64 v.n):=by rw[hy1];rfl
   have n2:rw_[1]? =some (.int .i64 w.n):=by rw[hy2];rfl
   obtain⟨h7,e7,s7⟩:=cI s6 a6 o.below o3.stk (tM (lC k v.n w.n))
   rw[aj,aj,aj,aN]at s7
   refine⟨_,h7,?_,bp.ok s7.drop.drop.drop⟩
   refine ag bX rfl ?_;unfold bU
   simp only[sim,af,Nat.reduceAdd,Nat.reduceSub,List.replicate,reduceCtorEq,Nat.reduceLeDiff,Nat.reduceLT,aa,au,tp,c1,Int.reduceEq,decide_false,decide_true,e2,e3,o1,o2,o5,o4,q0,hh6,q1,q2,q3,ek1,ek2,n1,n2,lB,kz,e7]
  ·rw[if_pos (.inr hk2)]
   have ek2:=eG (h:=h6) hw hk2
   refine⟨_,_,?_,bp.no (by decide) (n.stk st) rfl s6.drop.drop.drop⟩
   refine ag bX rfl ?_;unfold bU
   simp only[sim,af,Nat.reduceAdd,Nat.reduceSub,List.replicate,reduceCtorEq,Nat.reduceLeDiff,Nat.reduceLT,aa,au,tp,c1,Int.reduceEq,decide_false,decide_true,e2,e3,o1,o2,o5,o4,q0,hh6,q1,q2,q3,ek1,ek2]
 ·rw[if_pos (.inl hk)]
  have ek1:=eG (h:=h6) hv hk
  refine⟨_,_,?_,bp.no (by decide) (n.stk st) rfl s6.drop.drop.drop⟩
  refine ag bX rfl ?_;unfold bU
  simp only[sim,af,Nat.reduceAdd,Nat.reduceSub,List.replicate,reduceCtorEq,Nat.reduceLeDiff,Nat.reduceLT,aa,au,tp,c1,Int.reduceEq,decide_false,decide_true,e2,e3,o1,o2,o5,o4,q0,hh6,q1,q2,q3,ek1]
end
section
variable {h h' h0:AH} {F J F0 J0:Nat→Prop} {L:List Asn} {c:Cfg} {i:Nat} {n:Now}
theorem LT {p k n:Int} {v x:VD} {S:StD}:bo p 8 k n [v,x] S=if(VD.mk 2 0 [v,x]).code≠0 then S.no 3 else S.ok (.mk 2 0 [v,x]):=rfl
theorem Ku {p k n:Int} {v:VD} {S:StD}:bo p 11 k n [v] S=if(VD.mk 3 p [v]).code≠0 then S.no 3 else S.ok (.mk 3 p [v]):=rfl
theorem JN {p k n:Int} {v:VD} {S:StD}:bo p 12 k n [v] S=if v.kind≠3 then S.no 2 else if v.n≠p then S.no 10 else S.ok (v.l.getD 0 aA):=rfl
set_option maxHeartbeats 1000000 in
theorem Ic (s:St h0 F0 J0 h L) (a:At c L i n) (o:OkR c n) {st:List VD} {v w:VD} (hst:n.top.stack=st++[v]++[w]) (k m:Int):∃ fr h',ai Try.prog po iO [.ptr c.mb 0 0,.agg (iR 8 k m)] h=some (fr,h')∧bp h0 F0 J0 c L i (n.stk st) (bo n.top.plugin 8 k m [v,w] n.S) fr h':=by
 rw[LT]
 have s1:=s.push [iR 8 k m]
 have a1:=a.cons (ah h.n [iR 8 k m])
 obtain⟨tp,tl⟩:=cb s1 a1 o.below
 have c1:=(s1.cell 0 rfl).1
 obtain⟨h2,h3,rw_,rv,e2,e3,hw,hv,s3,a3⟩:=oN s1 a1 o hst
 rw[aj]at s3 a3
 have o3:=(o.stk' (st:=st) (l:=[v]++[w]) (by rw[hst,List.append_assoc]))
 have s4:=(s3.push [zR3]).push [zR3]
 have s5:St h0 F0 J0 _ (ah (h3.n+1) [zR3]::ah h3.n [rw_]::ah h.n [iR 8 k m]::put c L i (n.stk st)):=s4.set 1 rfl [rw_]
 have s6:St h0 F0 J0 _ (ah (h3.n+1) [rv]::ah h3.n [rw_]::ah h.n [iR 8 k m]::put c L i (n.stk st)):=s5.set 0 rfl [rv]
 have a6:=(a3.cons (ah h3.n [rw_])).cons (ah (h3.n+1) [rv])
 obtain⟨o1,o2⟩:=hw.len3
 obtain⟨o5,o4⟩:=hv.len3
 have q0:=(s5.cell 0 rfl).1
 have q1:=(s6.cell 0 rfl).1
 have q2:=(s6.cell 1 rfl).1
 generalize hh6:(((h3.push [zR3]).push [zR3]).set h3.n (some [rw_])).set (h3.n+1) (some [rv])=h6 at*
 have s7:=s6.fresh 2
 have a7:=a6.cons (idA h6.ids 2)
 have pv:VaA (.mk 2 0 [v,w]) [.int .i64 2,.int .i64 0,.isl (some h6.ids) tV [rv,rw_]]:=tU ⟨_,_,rfl,hv,_,_,rfl,hw,rfl⟩
 by_cases hk:(VD.mk 2 0 [v,w]).code=0
 ·rw[if_neg (by simpa using hk)]
  obtain⟨r',es,hr'⟩:=sY (h:=h6.fresh 2) pv hk
  obtain⟨h8,e8,s8⟩:=cI s7 a7 o.below o3.stk hr'
  rw[aj,aj,aj,aj,aN]at s8
  refine⟨_,h8,?_,bp.ok s8.drop.drop.drop.drop⟩
  refine ag bX rfl ?_;unfold bU
  simp only[sim,af,Nat.reduceAdd,Nat.reduceSub,List.replicate,reduceCtorEq,Nat.reduceLeDiff,Nat.reduceLT,aa,au,tp,c1,Int.reduceEq,decide_false,decide_true,e2,e3,o1,o2,o5,o4,q0,hh6,q1,q2,es,e8]
 ·rw[if_pos hk]
  have es:=wR (h:=h6.fresh 2) pv hk
  refine⟨_,_,?_,bp.no (by decide) (n.stk st) rfl s7.drop.drop.drop.drop⟩
  refine ag bX rfl ?_;unfold bU
  simp only[sim,af,Nat.reduceAdd,Nat.reduceSub,List.replicate,reduceCtorEq,Nat.reduceLeDiff,Nat.reduceLT,aa,au,tp,c1,Int.reduceEq,decide_false,decide_true,e2,e3,o1,o2,o5,o4,q0,hh6,q1,q2,es]
theorem VaA.part {v:VD} {r:List AV} (hv:VaA v r) {j:Nat} {x:VD} (hx:v.l[j]? =some x):∃ lv rx,r[2]? =some lv∧(∀ q:IntKind,ci (some tV) none lv (.int q (j:Int))=some (.ip rx 0))∧ldA true 3 rx 0=some (.agg rx)∧VaA x rx:=by
 cases v with
 | mk k n l=>
   obtain⟨w,es,rfl,h1,h2⟩:=hv
   obtain⟨rx,e1,e2⟩:=h2.get hx
   rcases h1 with⟨rfl,_⟩ | ⟨id,rfl⟩
   ·simp at e1
   ·exact⟨_,rx,rfl,fun q=>uf rfl e1,bI e2.len3.1,e2⟩
set_option maxHeartbeats 1000000 in
theorem Be (s:St h0 F0 J0 h L) (a:At c L i n) (o:OkR c n) {st:List VD} {v:VD} (hst:n.top.stack=st++[v]) (hc:v.code=0) {j:Nat} (hj:j<2):∃ fr h',ai Try.prog po 110 [.ptr c.mb 0 0,.int .i64 (j:Int)] h=some (fr,h')∧bp h0 F0 J0 c L i (n.stk st) (if v.kind≠2 then n.S.no 2 else n.S.ok (v.l.getD j aA)) fr h':=by
 obtain⟨h2,r,e2,hv,s2,a2⟩:=eH s a o hst
 have o3:=o.stk' hst
 by_cases hk:v.kind=2
 ·rw[if_neg (by simpa using hk)]
  obtain⟨x,y,hxy⟩:=(xw hc).1 hk
  obtain⟨z,hz⟩:∃ z,v.l[j]? =some z:=by rw[hxy];match j,hj with | 0,_=>exact⟨x,rfl⟩ | 1,_=>exact⟨y,rfl⟩
  have hzd:v.l.getD j aA=z:=by simp[List.getD,hz]
  rw[hzd]
  obtain⟨r',ek,hr'⟩:=dx (h:=h2) hv hk
  obtain⟨o1,o2⟩:=hr'.len3
  obtain⟨lv,rz,p1,p2,p3,p4⟩:=hr'.part hz
  have s3:=s2.push [r']
  have a3:=a2.cons (ah h2.n [r'])
  have c3:=(s3.cell 0 rfl).1
  obtain⟨h4,e4,s4⟩:=cI s3 a3 o.below o3.stk p4
  rw[aj,aN]at s4
  refine⟨_,h4,?_,bp.ok s4.drop⟩
  refine ag xv rfl ?_;unfold qn
  simp only[sim,af,Nat.reduceAdd,Nat.reduceSub,List.replicate,reduceCtorEq,Nat.reduceLeDiff,Nat.reduceLT,aa,au,e2,ek,o1,o2,c3,p1,p2,p3,e4]
 ·rw[if_pos hk]
  have ek:=eG (h:=h2) hv hk
  refine⟨_,_,?_,bp.no (by decide) (n.stk st) rfl s2⟩
  refine ag xv rfl ?_;unfold qn
  simp only[sim,af,Nat.reduceAdd,Nat.reduceSub,List.replicate,reduceCtorEq,Nat.reduceLeDiff,Nat.reduceLT,aa,au,e2,ek]
theorem Hx (s:St h0 F0 J0 h L) (a:At c L i n) (o:OkR c n) {st:List VD} {v:VD} (hst:n.top.stack=st++[v]) (hc:v.code=0) (k m:Int):∃ fr h',ai Try.prog po iO [.ptr c.mb 0 0,.agg (iR 9 k m)] h=some (fr,h')∧bp h0 F0 J0 c L i (n.stk st) (bo n.top.plugin 9 k m [v] n.S) fr h':=by
 rw[Lx]
 have s1:=s.push [iR 9 k m]
 have a1:=a.cons (ah h.n [iR 9 k m])
 obtain⟨tp,tl⟩:=cb s1 a1 o.below
 have c1:=(s1.cell 0 rfl).1
 obtain⟨fr,h2,e2,r2⟩:=Be s1 a1 o hst hc (j:=0) (by decide)
 have e2:ai Try.prog po 110 [.ptr c.mb 0 0,.int .i64 0] (h.push [iR 9 k m])=some (fr,h2):=e2
 refine⟨fr,h2,?_,r2.drop⟩
 rcases r2 with⟨_,rfl,_⟩ | ⟨_,rfl,_⟩
 ·refine ag bX rfl ?_;unfold bU
  simp only[sim,af,Nat.reduceAdd,Nat.reduceSub,List.replicate,reduceCtorEq,Nat.reduceLeDiff,Nat.reduceLT,aa,au,tp,c1,Int.reduceEq,decide_false,decide_true,e2]
 ·refine ag bX rfl ?_;unfold bU
  simp only[sim,af,Nat.reduceAdd,Nat.reduceSub,List.replicate,reduceCtorEq,Nat.reduceLeDiff,Nat.reduceLT,aa,au,tp,c1,Int.reduceEq,decide_false,decide_true,e2]
theorem Em (s:St h0 F0 J0 h L) (a:At c L i n) (o:OkR c n) {st:List VD} {v:VD} (hst:n.top.stack=st++[v]) (hc:v.code=0) (k m:Int):∃ fr h',ai Try.prog po iO [.ptr c.mb 0 0,.agg (iR 10 k m)] h=some (fr,h')∧bp h0 F0 J0 c L i (n.stk st) (bo n.top.plugin 10 k m [v] n.S) fr h':=by
 rw[K4]
 have s1:=s.push [iR 10 k m]
 have a1:=a.cons (ah h.n [iR 10 k m])
 obtain⟨tp,tl⟩:=cb s1 a1 o.below
 have c1:=(s1.cell 0 rfl).1
 obtain⟨fr,h2,e2,r2⟩:=Be s1 a1 o hst hc (j:=1) (by decide)
 have e2:ai Try.prog po 110 [.ptr c.mb 0 0,.int .i64 1] (h.push [iR 10 k m])=some (fr,h2):=e2
 refine⟨fr,h2,?_,r2.drop⟩
 rcases r2 with⟨_,rfl,_⟩ | ⟨_,rfl,_⟩
 ·refine ag bX rfl ?_;unfold bU
  simp only[sim,af,Nat.reduceAdd,Nat.reduceSub,List.replicate,reduceCtorEq,Nat.reduceLeDiff,Nat.reduceLT,aa,au,tp,c1,Int.reduceEq,decide_false,decide_true,e2]
 ·refine ag bX rfl ?_;unfold bU
  simp only[sim,af,Nat.reduceAdd,Nat.reduceSub,List.replicate,reduceCtorEq,Nat.reduceLeDiff,Nat.reduceLT,aa,au,tp,c1,Int.reduceEq,decide_false,decide_true,e2]
set_option maxHeartbeats 1000000 in
theorem DY (s:St h0 F0 J0 h L) (a:At c L i n) (o:OkR c n) {st:List VD} {v:VD} (hst:n.top.stack=st++[v]) (k m:Int):∃ fr h',ai Try.prog po iO [.ptr c.mb 0 0,.agg (iR 11 k m)] h=some (fr,h')∧bp h0 F0 J0 c L i (n.stk st) (bo n.top.plugin 11 k m [v] n.S) fr h':=by
 rw[Ku]
 have s1:=s.push [iR 11 k m]
 have a1:=a.cons (ah h.n [iR 11 k m])
 obtain⟨tp,_⟩:=cb s1 a1 o.below
 have c1:=(s1.cell 0 rfl).1
 obtain⟨h2,r,e2,hv,s2,a2⟩:=eH s1 a1 o hst
 rw[aj]at s2 a2
 have o3:=o.stk' hst
 obtain⟨o1,o2⟩:=hv.len3
 have s3:=s2.push [r]
 have a3:=a2.cons (ah h2.n [r])
 have c3:=(s3.cell 0 rfl).1
 obtain⟨_,tl3⟩:=cb s3 a3 o.below
 have s4:=s3.fresh 1
 have a4:=a3.cons (idA (h2.push [r]).ids 1)
 obtain⟨_,tl4⟩:=cb s4 a4 o.below
 have f0:aF 0 (.ptr n.fb n.below.length 0)=some (.ptr n.fb n.below.length 0):=rfl
 have pv:VaA (.mk 3 n.top.plugin [v]) [.int .i64 3,.int .i64 n.top.plugin,.isl (some h2.ids) tV [r]]:=tU ⟨_,_,rfl,hv,rfl⟩
 by_cases hk:(VD.mk 3 n.top.plugin [v]).code=0
 ·rw[if_neg (by simpa using hk)]
  obtain⟨r',es,hr'⟩:=sY (h:=(h2.push [r]).fresh 1) pv hk
  obtain⟨h5,e5,s5⟩:=cI s4 a4 o.below o3.stk hr'
  rw[aj,aj,aj,aN]at s5
  refine⟨_,h5,?_,bp.ok s5.drop.drop.drop⟩
  refine ag bX rfl ?_;unfold bU
  simp only[sim,af,Nat.reduceAdd,Nat.reduceSub,List.replicate,reduceCtorEq,Nat.reduceLeDiff,Nat.reduceLT,aa,au,tp,c1,Int.reduceEq,decide_false,decide_true,e2,o1,o2,c3,f0,tl3,tl4,es,e5]
 ·rw[if_pos hk]
  have es:=wR (h:=(h2.push [r]).fresh 1) pv hk
  refine⟨_,_,?_,bp.no (by decide) (n.stk st) rfl s4.drop.drop.drop⟩
  refine ag bX rfl ?_;unfold bU
  simp only[sim,af,Nat.reduceAdd,Nat.reduceSub,List.replicate,reduceCtorEq,Nat.reduceLeDiff,Nat.reduceLT,aa,au,tp,c1,Int.reduceEq,decide_false,decide_true,e2,o1,o2,c3,f0,tl3,tl4,es]
set_option maxHeartbeats 1000000 in
theorem Ej (s:St h0 F0 J0 h L) (a:At c L i n) (o:OkR c n) {st:List VD} {v:VD} (hst:n.top.stack=st++[v]) (hc:v.code=0) (k m:Int):∃ fr h',ai Try.prog po iO [.ptr c.mb 0 0,.agg (iR 12 k m)] h=some (fr,h')∧bp h0 F0 J0 c L i (n.stk st) (bo n.top.plugin 12 k m [v] n.S) fr h':=by
 rw[JN]
 have s1:=s.push [iR 12 k m]
 have a1:=a.cons (ah h.n [iR 12 k m])
 obtain⟨tp,_⟩:=cb s1 a1 o.below
 have c1:=(s1.cell 0 rfl).1
 obtain⟨h2,r,e2,hv,s2,a2⟩:=eH s1 a1 o hst
 rw[aj]at s2 a2
 have o3:=o.stk' hst
 have f0:aF 0 (.ptr n.fb n.below.length 0)=some (.ptr n.fb n.below.length 0):=rfl
 by_cases hk:v.kind=3
 ·rw[if_neg (by simpa using hk)]
  obtain⟨x,hx⟩:=(xw hc).2 hk
  have hz:v.l[0]? =some x:=by rw[hx];rfl
  have hzd:v.l.getD 0 aA=x:=by rw[hx];rfl
  rw[hzd]
  obtain⟨r',ek,hr'⟩:=dx (h:=h2) hv hk
  obtain⟨o1,o2⟩:=hr'.len3
  obtain⟨lv,rz,p1,p2,p3,p4⟩:=hr'.part hz
  have p2:∀ q:IntKind,ci (some tV) none lv (.int q 0)=some (.ip rz 0):=p2
  obtain⟨w,hw,_⟩:=hr'.cells3
  have hn:r'[1]? =some (.int .i64 v.n):=by rw[hw];rfl
  have s3:=s2.push [r']
  have a3:=a2.cons (ah h2.n [r'])
  have c3:=(s3.cell 0 rfl).1
  obtain⟨_,tl3⟩:=cb s3 a3 o.below
  by_cases hp:v.n=n.top.plugin
  ·rw[if_neg (by simpa using hp)]
   have d:decide (v.n=n.top.plugin)=true:=decide_eq_true hp
   obtain⟨h4,e4,s4⟩:=cI s3 a3 o.below o3.stk p4
   rw[aj,aj,aN]at s4
   refine⟨_,h4,?_,bp.ok s4.drop.drop⟩
   refine ag bX rfl ?_;unfold bU
   simp only[sim,af,Nat.reduceAdd,Nat.reduceSub,List.replicate,reduceCtorEq,Nat.reduceLeDiff,Nat.reduceLT,aa,au,tp,c1,Int.reduceEq,decide_false,decide_true,e2,ek,o1,o2,c3,hn,f0,tl3,d,bP,p1,p2,p3,e4]
  ·rw[if_pos hp]
   have d:decide (v.n=n.top.plugin)=false:=decide_eq_false hp
   refine⟨_,_,?_,bp.no (by decide) (n.stk st) rfl s3.drop.drop⟩
   refine ag bX rfl ?_;unfold bU
   simp only[sim,af,Nat.reduceAdd,Nat.reduceSub,List.replicate,reduceCtorEq,Nat.reduceLeDiff,Nat.reduceLT,aa,au,tp,c1,Int.reduceEq,decide_false,decide_true,e2,ek,o1,o2,c3,hn,f0,tl3,d,bG]
 ·rw[if_pos hk]
  have ek:=eG (h:=h2) hv hk
  refine⟨_,_,?_,bp.no (by decide) (n.stk st) rfl s2.drop⟩
  refine ag bX rfl ?_;unfold bU
  simp only[sim,af,Nat.reduceAdd,Nat.reduceSub,List.replicate,reduceCtorEq,Nat.reduceLeDiff,Nat.reduceLT,aa,au,tp,c1,Int.reduceEq,decide_false,decide_true,e2,ek]
theorem Ip (s:St h0 F0 J0 h L) (a:At c L i n) (o:OkR c n) (k m:Int):∃ h',ai Try.prog po iO [.ptr c.mb 0 0,.agg (iR 1 k m)] h=some (.inl (.tup []),h')∧St h0 F0 J0 h' (put c L i (n.stk (n.top.stack++[aA]))):=by
 have s1:=s.push [iR 1 k m]
 have a1:=a.cons (ah h.n [iR 1 k m])
 obtain⟨tp,_⟩:=cb s1 a1 o.below
 have c1:=(s1.cell 0 rfl).1
 obtain⟨h2,e2,s2⟩:=cI s1 a1 o.below o.stk dk
 rw[aj]at s2
 refine⟨h2,?_,s2.drop⟩
 refine ag bX rfl ?_;unfold bU
 simp only[sim,af,Nat.reduceAdd,Nat.reduceSub,List.replicate,reduceCtorEq,Nat.reduceLeDiff,Nat.reduceLT,aa,au,tp,c1,Int.reduceEq,decide_false,decide_true,e2]
theorem Ir (s:St h0 F0 J0 h L) (a:At c L i n) (o:OkR c n) (k m:Int):∃ h',ai Try.prog po iO [.ptr c.mb 0 0,.agg (iR 2 k m)] h=some (.inl (.tup []),h')∧St h0 F0 J0 h' (put c L i (n.stk (n.top.stack++[mX m]))):=by
 have s1:=s.push [iR 2 k m]
 have a1:=a.cons (ah h.n [iR 2 k m])
 obtain⟨tp,_⟩:=cb s1 a1 o.below
 have c1:=(s1.cell 0 rfl).1
 obtain⟨h2,e2,s2⟩:=cI s1 a1 o.below o.stk (tM m)
 rw[aj]at s2
 refine⟨h2,?_,s2.drop⟩
 refine ag bX rfl ?_;unfold bU
 simp only[sim,af,Nat.reduceAdd,Nat.reduceSub,List.replicate,reduceCtorEq,Nat.reduceLeDiff,Nat.reduceLT,aa,au,tp,c1,Int.reduceEq,decide_false,decide_true,kz,e2]
theorem HE (s:St h0 F0 J0 h L) (a:At c L i n) (o:OkR c n) (k m:Int):∃ h',ai Try.prog po iO [.ptr c.mb 0 0,.agg (iR 3 k m)] h=some (.inl (.tup []),h')∧St h0 F0 J0 h' (put c L i (n.stk (n.top.stack++[n.top.arg]))):=by
 have s1:=s.push [iR 3 k m]
 have a1:=a.cons (ah h.n [iR 3 k m])
 obtain⟨tp,_⟩:=cb s1 a1 o.below
 have c1:=(s1.cell 0 rfl).1
 obtain⟨ar,sv,nv,g,mv⟩:=cM s1 (i+1) a1.m
 have f3:aF 3 (.ptr n.fb n.below.length 0)=some (.ptr n.fb n.below.length 3):=rfl
 have la:=mv.arg
 obtain⟨h2,e2,s2⟩:=cI s1 a1 o.below o.stk mv.ha
 rw[aj]at s2
 refine⟨h2,?_,s2.drop⟩
 refine ag bX rfl ?_;unfold bU
 simp only[sim,af,Nat.reduceAdd,Nat.reduceSub,List.replicate,reduceCtorEq,Nat.reduceLeDiff,Nat.reduceLT,aa,au,tp,c1,Int.reduceEq,decide_false,decide_true,f3,la,e2]
theorem HV (s:St h0 F0 J0 h L) (a:At c L i n) (o:OkR c n) {k:Int} (hk:0≤k∧k<n.top.names.length) (m:Int):∃ h',ai Try.prog po iO [.ptr c.mb 0 0,.agg (iR 4 k m)] h=some (.inl (.tup []),h')∧St h0 F0 J0 h' (put c L i (n.stk (n.top.stack++[n.top.names.getD (n.top.names.length - 1 - k.toNat) aA]))):=by
 have s1:=s.push [iR 4 k m]
 have a1:=a.cons (ah h.n [iR 4 k m])
 obtain⟨tp,_⟩:=cb s1 a1 o.below
 have c1:=(s1.cell 0 rfl).1
 obtain⟨ar,sv,nv,g,mv⟩:=cM s1 (i+1) a1.m
 have f7:aF 7 (.ptr n.fb n.below.length 0)=some (.ptr n.fb n.below.length 7):=rfl
 have ln:=fun q=>mv.rd q 7 nv (bR n.top ar sv nv g mv.ha.len3.1).2.2.1
 obtain⟨p,rx,p1,p2,p3⟩:=mv.nv.2.2.2.2 .i64 (n.top.names.length - 1 - k.toNat) (n.top.names.getD (n.top.names.length - 1 - k.toNat) aA) (by
  simp only[List.getD]
  rw[List.getElem?_eq_getElem (by omega)]
  rfl)
 have hn:=o.nms
 have w1:IntKind.wrap .i64 ((n.top.names.length:Int) - 1)=(n.top.names.length:Int) - 1:=w64 (by omega) (by omega)
 have w2:IntKind.wrap .i64 ((n.top.names.length:Int) - 1 - k)=((n.top.names.length - 1 - k.toNat:Nat):Int):=yZ (by omega) (by omega) (by omega)
 have lnn:=mv.nv.2.2.1
 have fn:=mv.nv.2.2.2.1
 obtain⟨h2,e2,s2⟩:=cI s1 a1 o.below o.stk p3
 rw[aj]at s2
 refine⟨h2,?_,s2.drop⟩
 refine ag bX rfl ?_;unfold bU
 simp only[sim,af,Nat.reduceAdd,Nat.reduceSub,List.replicate,reduceCtorEq,Nat.reduceLeDiff,Nat.reduceLT,aa,au,tp,c1,Int.reduceEq,decide_false,decide_true,f7,ln,lnn,fn,w1,w2,p1,p2,e2]
end
def Dz (h0:AH) (F0 J0:Nat→Prop) (c:Cfg) (L:List Asn) (i:Nat) (q:iw) (fr:AV ⊕ AV) (h':AH):Prop:=match q with
 | .go m=>fr= .inl (.tup [])∧∃ fb',St h0 F0 J0 h' (put c L i ⟨fb',m.S,m.below,m.top⟩)
 | .fail S k=>fr= .inr (.iface tGo (.int .i64 k))∧∃ n':Now,n'.S=S∧St h0 F0 J0 h' (put c L i n')
 | .over _ _=>False
section
variable {h h' h0:AH} {F J F0 J0:Nat→Prop} {L:List Asn} {c:Cfg} {i:Nat} {n:Now}
theorem dc (M:List XD):dN (cE M)=some M.length∧(∀ s,cT s (some 158) (cE M)=true)∧(cE M).one=true:=by
 unfold cE
 exact⟨by simp[dN],fun s=>jn,rfl⟩
theorem H0 (e:TypeId) (rows:List (List AV)):SlA e (jM e rows) rows:=by
 unfold jM
 by_cases hz:rows=[]
 ·exact .inl ⟨hz,by rw[if_pos hz]⟩
 ·exact .inr ⟨none,by rw[if_neg hz]⟩
theorem lV (s:St h0 F0 J0 h L) (a:At c L i n) (o:OkR c n) {p:Nat} (hp:p<4):(∀ q:IntKind,ci none (some (4,5)) (.ptr c.bb 0 2) (.int q (p:Int))=some (.ptr c.bb 0 (2+p*5)))∧(∀ k:Nat,aH false k h (.ptr c.bb 0 (2+p*5+1))=some (g8 (c.ms.getD p none)))∧
  ∃ r,aH true 3 h (.ptr c.bb 0 (2+p*5+2))=some (.agg r)∧VaA (n.S.kept.getD p aA) r∧aH true 5 h (.ptr c.bb 0 (2+p*5))=some (.agg (.bool (c.ms.getD p none).isSome::g8 (c.ms.getD p none)::r))∧c.bb<h.n:=by
 obtain⟨F,J,x⟩:=s.get (i+1) a.b
 obtain⟨row,c1,cn,_,_,_,hpl⟩:=uZ x o.len
 obtain⟨q1,q2,r,q3,q4,q5⟩:=hpl p (by rw[o.ms];exact hp)
 refine⟨fun q=>by simp[ci,hp],fun k=> ?_,r,?_,q4,?_,cn⟩
 ·rw[bW,c1,Option.bind_some,List.getElem?_cons_zero,Option.bind_some,eR,q2]
 ·rw[bW,c1,Option.bind_some,List.getElem?_cons_zero,Option.bind_some,q3]
 ·rw[bW,c1,Option.bind_some,List.getElem?_cons_zero,Option.bind_some,q5]
theorem td {b i off k:Nat} {g:Bool} {es:List (List AV)} (hb:b<h.n):aH g k (h.push es) (.ptr b i off)=aH g k h (.ptr b i off):=by rw[bW,bW,aX hb]
abbrev zR5:List AV:=[.bool false,.nils,.int .i64 0,.int .i64 0,.nils]
theorem Dd {G:ae} {i:Int} {k:Nat} (hb:eS (G.rights i) k=true):G.has i=true:=by
 cases h:G.has i with
 | true=>rfl
 | false=>
   have:G.rights i=0:=by unfold ae.rights;rw[if_pos (.inl (ae.path_no h))]
   rw[this]at hb
   have h2:eS 0 k=false:=by unfold eS;rw[Int.zero_ediv];decide
   rw[h2]at hb
   cases hb
def jV (h0:AH) (F0 J0:Nat→Prop) (c:Cfg) (L:List Asn) (i:Nat) (n:Now) (q:StD×vz×Int) (fr:AV ⊕ AV) (h':AH):Prop:=
 (q.2.2=0∧fr= .inl (.tup [])∧∃ fb',St h0 F0 J0 h' (put c L i ⟨fb',q.1,n.below++[n.top],⟨q.2.1.plugin,q.2.1.func,0,q.2.1.arg,[],[],true,q.2.1.gates⟩⟩))∨
 (q.2.2≠0∧fr= .inr (.iface tGo (.int .i64 q.2.2))∧∃ n':Now,n'.S=q.1∧St h0 F0 J0 h' (put c L i n'))
theorem jV.no (a:At c L i n) {q:vz} {k:Int} (hk:k≠0) (s:St h0 F0 J0 h' L):jV h0 F0 J0 c L i n (n.S,q,k) (.inr (.iface tGo (.int .i64 k))) h':= .inr ⟨hk,rfl,n,rfl,by rw[a.same];exact s⟩
set_option maxRecDepth 100000 in
set_option maxHeartbeats 2000000 in
theorem GF (s:St h0 F0 J0 h L) (a:At c L i n) (o:OkR c n) {v x:VD} {r t:List AV} (hv:VaA v r) (hx:VaA x t):∃ fr h',ai Try.prog po 128 [.ptr c.mb 0 0,.agg r,.agg t] h=some (fr,h')∧jV h0 F0 J0 c L i n (eF c.ms v x (n.below.length+1) n.S) fr h':=by
 unfold eF
 simp only
 have s1:=(s.push [r]).push [t]
 have a1:=(a.cons (ah h.n [r])).cons (ah (h.push [r]).n [t])
 obtain⟨o1,o2⟩:=hv.len3
 obtain⟨o3,o4⟩:=hx.len3
 have c1:((h.push [r]).push [t]).cell h.n=some [r]:=(s1.cell 1 rfl).1
 have c2:((h.push [r]).push [t]).cell (h.n+1)=some [t]:=(s1.cell 0 rfl).1
 by_cases hk:v.kind=4
 case neg=>
  rw[if_pos hk]
  have ek:=eG (h:=(h.push [r]).push [t]) hv hk
  refine⟨_,_,?_,jV.no a (by decide) s1.drop.drop⟩
  refine ag iJ rfl ?_;unfold gN
  simp only[sim,af,Nat.reduceAdd,Nat.reduceSub,List.replicate,reduceCtorEq,Nat.reduceLeDiff,Nat.reduceLT,aa,au,o1,o2,o3,o4,c1,c2,ek]
 rw[if_neg (by simpa using hk)]
 obtain⟨r',ek,hv'⟩:=dx (h:=(h.push [r]).push [t]) hv hk
 have ec:=pH s1 a1.m a1.b a1.g o.len o.S.wf hv' (k:=3) (q:=8) (by decide) (by decide)
 by_cases hb:eS (n.S.G.rights v.n) 3=true
 case neg=>
  rw[if_neg hb]at ec
  rw[if_pos (by simpa using hb)]
  refine⟨_,_,?_,jV.no a (by decide) s1.drop.drop⟩
  refine ag iJ rfl ?_;unfold gN
  simp only[sim,af,Nat.reduceAdd,Nat.reduceSub,List.replicate,reduceCtorEq,Nat.reduceLeDiff,Nat.reduceLT,aa,au,o1,o2,o3,o4,c1,c2,ek,ec]
 rw[if_pos hb]at ec
 rw[if_neg (by simp[hb])]
 obtain⟨_,_,ht⟩:=ae.target_ok o.S.wf (Dd hb)
 generalize (n.S.G.target v.n).1=T at*
 obtain⟨t1,t2,t3,t4,t5,t6⟩:=T
 simp only[aK]at ht ec ⊢
 generalize hN:([.int .i64 t1,.int .i64 t2,.int .i64 t3,.int .i64 t4,.int .i64 t5,.int .i64 t6]:List AV)=N at*
 have n4:N[4]? =some (.int .i64 t5):=by rw[←hN];rfl
 have n5:N[5]? =some (.int .i64 t6):=by rw[←hN];rfl
 have nl:N.length=6:=by rw[←hN];rfl
 have no:N.all AV.one=true:=by rw[←hN];rfl
 have s2:=s1.push [N]
 have a2:=a1.cons (ah ((h.push [r]).push [t]).n [N])
 have c3:=(s2.cell 0 rfl).1
 simp only[aL]at c3
 by_cases hp:t5<0
 ·rw[if_pos hp]
  have d:decide (t5<0)=true:=decide_eq_true hp
  refine⟨_,_,?_,jV.no a (by decide) s2.drop.drop.drop⟩
  refine ag iJ rfl ?_;unfold gN
  simp only[sim,af,Nat.reduceAdd,Nat.reduceSub,List.replicate,reduceCtorEq,Nat.reduceLeDiff,Nat.reduceLT,aa,au,o1,o2,o3,o4,c1,c2,ek,ec,nl,no,n4,d,bG]
 rw[if_neg hp]
 obtain⟨P,rfl⟩:=Int.eq_ofNat_of_zero_le (show 0≤t5 by omega)
 have d:decide ((P:Int)<0)=false:=decide_eq_false (by omega)
 have hP4:P<4:=by omega
 rw[Int.toNat_natCast]
 -- the plugin is looked at
 have s3':=s2.push [zR5]
 have a3':=a2.cons (ah (((h.push [r]).push [t]).push [N]).n [zR5])
 obtain⟨l0,_,_⟩:=cD s2 a2 o.len
 obtain⟨l0',_,_⟩:=cD s3' a3' o.len
 obtain⟨ix,_,kr,_,hkr,l5,bn⟩:=lV s2 a2 o hP4
 have l5':aH true 5 ((((h.push [r]).push [t]).push [N]).push [zR5]) (.ptr c.bb 0 (2+P*5))=_:=(td bn).trans l5
 have fa0:aF 0 (.ptr c.mb 0 0)=some (.ptr c.mb 0 0):=rfl
 have fa1:aF 2 (.ptr c.bb 0 0)=some (.ptr c.bb 0 2):=rfl
 have fa2:aF 1 (.ptr c.mb 0 0)=some (.ptr c.mb 0 1):=rfl
 have fa3:aF 0 (.ptr c.bb 0 0)=some (.ptr c.bb 0 0):=rfl
 have c3':=(s3'.cell 1 rfl).1
 have c7:=(s3'.cell 0 rfl).1
 have m4:∀ x,((((h.push [r]).push [t]).push [N]).push [zR5]).set (h.n+1+1+1) (some x)=(((h.push [r]).push [t]).push [N]).push x:=fun x=>eB (h:=((h.push [r]).push [t]).push [N])
 simp only[aL]at c3' c7
 generalize hM:c.ms.getD P none=M at*
 have oc:(g8 M).one=true:=by cases M<;>first | rfl | exact(dc _).2.2
 obtain⟨k1,k2⟩:=hkr.len3
 generalize hq:AV.bool M.isSome::g8 M::kr=pl at*
 have p0:pl[0]? =some (.bool M.isSome):=by rw[←hq];rfl
 have p1:pl[1]? =some (g8 M):=by rw[←hq];rfl
 have pl5:pl.length=5:=by rw[←hq];simp[k1]
 have po':pl.all AV.one=true:=by rw[←hq];simp only[List.all_cons,oc,k2,Bool.and_true];rfl
 have s3:St h0 F0 J0 _ (ah (h.n+1+1+1) [pl]::ah (h.n+1+1) [N]::ah (h.n+1) [t]::ah h.n [r]::L):=s2.push [pl]
 have a3:=a2.cons (ah (h.n+1+1+1) [pl])
 have c4:=(s3.cell 0 rfl).1
 have c5:=(s3.cell 1 rfl).1
 have c6:=(s3.cell 2 rfl).1
 have hfM:bV c.ms (P:Int)=M.getD []:=by unfold bV;rw[Int.toNat_natCast,hM]
 by_cases hcode:M.isNone∨((bV c.ms (P:Int)).length:Int)≤t6∨t6<0
 ·rw[if_pos hcode]
  refine⟨_,_,?_,jV.no a (by decide) s3.drop.drop.drop.drop⟩
  cases M with
  | none=>
    simp only[Option.isSome_none]at p0
    refine ag iJ rfl ?_;unfold gN
    simp only[sim,af,Nat.reduceAdd,Nat.reduceSub,List.replicate,reduceCtorEq,Nat.reduceLeDiff,Nat.reduceLT,aa,au,o1,o2,o3,o4,c1,c2,ek,ec,nl,no,n4,n5,d,bP,bG,fa0,fa1,l0,l0',ix,l5,l5',c3,c3',pl5,po',c7,m4,c4,c5,p0]
  | some M=>
    simp only[Option.isSome_some]at p0
    have d2:decide ((M.length:Int)≤t6)=true:=by
     refine decide_eq_true ?_
     rw[hfM]at hcode
     simp only[Option.getD_some]at hcode
     rcases hcode with h | h | h
     ·cases h
     ·exact h
     ·omega
    obtain⟨m1,m2,_⟩:=dc M
    simp only[g8]at p1
    refine ag iJ rfl ?_;unfold gN
    simp only[sim,af,Nat.reduceAdd,Nat.reduceSub,List.replicate,reduceCtorEq,Nat.reduceLeDiff,Nat.reduceLT,aa,au,o1,o2,o3,o4,c1,c2,ek,ec,nl,no,n4,n5,d,bP,bG,fa0,fa1,l0,l0',ix,l5,l5',c3,c3',pl5,po',c7,m4,c4,c5,p0,p1,m1,m2,d2]
 rw[if_neg hcode]
 obtain⟨M,rfl⟩:∃ M',M=some M':=by
  cases M with
  | none=>exact absurd (.inl rfl) hcode
  | some M=>exact⟨M,rfl⟩
 simp only[Option.isSome_some]at p0
 have d2:decide ((M.length:Int)≤t6)=false:=by
  refine decide_eq_false fun h=>hcode (.inr (.inl ?_))
  rw[hfM]
  exact h
 obtain⟨m1,m2,_⟩:=dc M
 simp only[g8]at p1
 obtain⟨l0'',l1'',_⟩:=cD s3 a3 o.len
 obtain⟨_,_,_,_,mv⟩:=cM s3 (i+4) a3.m
 have lm:∀ k:Nat,aH false k ((((h.push [r]).push [t]).push [N]).push [pl]) (.ptr c.mb 0 1)=some (.msl n.fb 0 (n.below.length+1) tFr):=fun k=>by
  rw[bW,mv.m];rfl
 by_cases h20:n.below.length+1=20
 ·rw[if_pos h20]
  have d3:decide (((n.below.length+1:Nat):Int)=20)=true:=decide_eq_true (by omega)
  refine⟨_,_,?_,jV.no a (by decide) s3.drop.drop.drop.drop⟩
  refine ag iJ rfl ?_;unfold gN
  simp only[sim,af,Nat.reduceAdd,Nat.reduceSub,List.replicate,reduceCtorEq,Nat.reduceLeDiff,Nat.reduceLT,aa,au,o1,o2,o3,o4,c1,c2,ek,ec,nl,no,n4,n5,d,bP,bG,fa0,fa1,fa2,l0,l0',l0'',ix,l5,l5',c3,c3',pl5,po',c7,m4,c4,c5,p0,p1,m1,m2,d2,lm,d3]
 rw[if_neg h20]
 have d3:decide (((n.below.length+1:Nat):Int)=20)=false:=decide_eq_false (by omega)
 -- the argument goes across
 obtain⟨F1,J1,gx⟩:=s3.get (i+1+1+1+1+2) a3.g
 have gg:=H4 (gx:IsG _ F1 J1 c.gb n.S.G) o.S.wf v.n
 have gs:SlA 3 (jM 3 ((n.S.G.gatesC v.n).map fun x=>[.int .i64 x])) (db (n.S.G.gatesC v.n)):=H0 _ _
 have gfew:=sV (i:=v.n) o.S.wf
 generalize jM 3 ((n.S.G.gatesC v.n).map fun x=>[.int .i64 x])=gv at*
 generalize n.S.G.gatesC v.n=ks at*
 obtain⟨h4,⟨y,e4,hy⟩,s4⟩:=kv s3 a3 (R:=fun h'=>∃ r',ai Try.prog po 106 [.ptr c.gb 0 0,.agg t,gv] ((((h.push [r]).push [t]).push [N]).push [pl])=some (.inl (.tup [.agg r',.int .i64 (aW ks n.S.G x).2.2]),h')∧VaA (aW ks n.S.G x).2.1 r') fun F J gx=>pq gx o.S.wf hx gs (by omega)
 generalize aW ks n.S.G x=q at*
 obtain⟨G',y',cc⟩:=q
 simp only at e4 hy s4 ⊢
 have a4:=a3.put {n with S:={n.S with G:=G'}}
 rw[aj,aj,aj,aj]at s4 a4
 obtain⟨z1,z2⟩:=hy.len3
 have s5':=s4.push [zR3]
 have a5':=a4.cons (ah h4.n [zR3])
 obtain⟨n0,n1,_⟩:=cD s5' a5' o.len
 have d0:=(s5'.cell 3 rfl).1
 have s5:=s4.push [y]
 have a5:=a4.cons (ah h4.n [y])
 have d1:=(s5.cell 0 rfl).1
 have d2':=(s5.cell 2 rfl).1
 have hfo:(gv).one=true:=by rcases gs with⟨_,rfl⟩ | ⟨id,rfl⟩<;>rfl
 have hgc:gv.cells=[gv]:=by rcases gs with⟨_,rfl⟩ | ⟨id,rfl⟩<;>rfl
 by_cases hcc:cc=0
 ·subst hcc
  have d5:decide ((0:Int)=0)=true:=rfl
  obtain⟨_,ec6⟩:=xK s5 a5 o.below (f:=⟨P,t6,0,y',[],[],true,ks⟩) (ar:=y) (g:=gv) hy gs rfl rfl
  obtain⟨h6,fb',e6,s6⟩:=ec6 h20
  rw[aj,aj,aj,aj,aj,aN]at s6
  refine⟨_,h6,?_,.inl ⟨rfl,rfl,fb',s6.drop.drop.drop.drop.drop⟩⟩
  obtain⟨y0,y1,y2,rfl⟩:∃ a b c,y=[a,b,c]:=by match y,z1 with | [a,b,c],_=>exact⟨a,b,c,rfl⟩
  simp only[List.all_cons,List.all_nil,Bool.and_true,Bool.and_eq_true]at z2
  obtain⟨z3,z4,z5⟩:=z2
  simp only[cr,Int.natCast_zero,List.cons_append,List.nil_append]at e6
  refine ag iJ rfl ?_;unfold gN
  simp only[sim,af,Nat.reduceAdd,Nat.reduceSub,List.replicate,reduceCtorEq,Nat.reduceLeDiff,Nat.reduceLT,aa,au,o1,o2,o3,o4,c1,c2,ek,ec,nl,no,n4,n5,d,bP,bG,fa0,fa1,fa2,fa3,l0,l0',l0'',l1'',ix,l5,l5',c3,c3',pl5,po',c7,m4,c4,c5,c6,p0,p1,m1,m2,d2,lm,d3,gg,e4,n0,n1,d0,d1,d2',d5,z3,z4,z5,hfo,hgc,e6]
 ·have d5:decide (cc=0)=false:=decide_eq_false hcc
  refine⟨_,_,?_,.inr ⟨hcc,rfl,{n with S:={n.S with G:=G'}},rfl,s5.drop.drop.drop.drop.drop⟩⟩
  refine ag iJ rfl ?_;unfold gN
  simp only[sim,af,Nat.reduceAdd,Nat.reduceSub,List.replicate,reduceCtorEq,Nat.reduceLeDiff,Nat.reduceLT,aa,au,o1,o2,o3,o4,c1,c2,ek,ec,nl,no,n4,n5,d,bP,bG,fa0,fa1,fa2,fa3,l0,l0',l0'',l1'',ix,l5,l5',c3,c3',pl5,po',c7,m4,c4,c5,c6,p0,p1,m1,m2,d2,lm,d3,gg,e4,n0,n1,d0,d1,d2',d5,z1,z2]
end
abbrev Mc:FuncId:=111
section
variable {h h' h0:AH} {F J F0 J0:Nat→Prop} {L:List Asn} {c:Cfg} {i:Nat} {n:Now}
theorem cw (s:St h0 F0 J0 h L) (a:At c L i n) (o:OkR c n) {op k m:Int} (hop:13≤op) {fr:AV ⊕ AV} (e:ai Try.prog po Mc [.ptr c.mb 0 0,.agg (iR op k m)] (h.push [iR op k m])=some (fr,h')) (hfr:fr= .inl (.tup [])∨∃ v,fr= .inr v):
  ai Try.prog po iO [.ptr c.mb 0 0,.agg (iR op k m)] h=some (fr,h'):=by
 have s1:=s.push [iR op k m]
 have a1:=a.cons (ah h.n [iR op k m])
 obtain⟨tp,_⟩:=cb s1 a1 o.below
 have c1:=(s1.cell 0 rfl).1
 have d:∀ j:Int,j<13→decide (op=j)=false:=fun j hj=>decide_eq_false (by omega)
 have e1:=d 1 (by decide);have e2:=d 2 (by decide);have e3:=d 3 (by decide);have e4:=d 4 (by decide);have e6:=d 6 (by decide);have e8:=d 8 (by decide);have e9:=d 9 (by decide);have e10:=d 10 (by decide);have e11:=d 11 (by decide);have e12:=d 12 (by decide)
 rcases hfr with rfl | ⟨v,rfl⟩
 ·refine ag bX rfl ?_;unfold bU
  simp only[sim,af,Nat.reduceAdd,Nat.reduceSub,List.replicate,reduceCtorEq,Nat.reduceLeDiff,Nat.reduceLT,aa,au,tp,c1,e1,e2,e3,e4,e6,e8,e9,e10,e11,e12,e]
 ·refine ag bX rfl ?_;unfold bU
  simp only[sim,af,Nat.reduceAdd,Nat.reduceSub,List.replicate,reduceCtorEq,Nat.reduceLeDiff,Nat.reduceLT,aa,au,tp,c1,e1,e2,e3,e4,e6,e8,e9,e10,e11,e12,e]
theorem bp.fr {q:StD×VD×Int} {fr:AV ⊕ AV} (r:bp h0 F0 J0 c L i n q fr h'):fr= .inl (.tup [])∨∃ v,fr= .inr v:=by
 rcases r with⟨_,b,_⟩ | ⟨_,b,_⟩
 ·exact .inl b
 ·exact .inr ⟨_,b⟩
theorem bp.put {q:StD×VD×Int} {n1:Now} {fr:AV ⊕ AV} (r:bp h0 F0 J0 c (put c L i n1) i n q fr h'):bp h0 F0 J0 c L i n q fr h':=by
 rcases r with⟨x,y,z⟩ | ⟨x,y,n',z,w⟩
 ·exact .inl ⟨x,y,by rw[aN]at z;exact z⟩
 ·exact .inr ⟨x,y,n',z,by rw[aN]at w;exact w⟩
theorem jV.put {q:StD×vz×Int} {n1:Now} {fr:AV ⊕ AV} (r:jV h0 F0 J0 c (put c L i n1) i n q fr h'):jV h0 F0 J0 c L i n q fr h':=by
 rcases r with⟨x,y,fb,z⟩ | ⟨x,y,n',z,w⟩
 ·exact .inl ⟨x,y,fb,by rw[aN]at z;exact z⟩
 ·exact .inr ⟨x,y,n',z,by rw[aN]at w;exact w⟩
theorem jV.drop {X:Asn} {q:StD×vz×Int} {fr:AV ⊕ AV} (r:jV h0 F0 J0 c (X::L) (i+1) n q fr h'):jV h0 F0 J0 c L i n q fr h':=by
 rcases r with⟨x,y,fb,z⟩ | ⟨x,y,n',z,w⟩
 ·exact .inl ⟨x,y,fb,z.drop⟩
 ·exact .inr ⟨x,y,n',z,w.drop⟩
theorem gL (s:St h0 F0 J0 h L) (a:At c L i n) (o:OkR c n) (op k m:Int):St h0 F0 J0 ((h.push [iR op k m]).push [iR op k m]) (ah (h.n+1) [iR op k m]::ah h.n [iR op k m]::L)∧At c (ah (h.n+1) [iR op k m]::ah h.n [iR op k m]::L) (i+1+1) n∧
  ai Try.prog po FE [.ptr c.mb 0 0] ((h.push [iR op k m]).push [iR op k m])=some (.inl (.ptr n.fb n.below.length 0),(h.push [iR op k m]).push [iR op k m])∧(∀ k':Nat,aH false k' ((h.push [iR op k m]).push [iR op k m]) (.ptr n.fb n.below.length 0)=some (.int .i64 n.top.plugin))∧((h.push [iR op k m]).push [iR op k m]).cell (h.n+1)=some [iR op k m]:=by
 have s1:=(s.push [iR op k m]).push [iR op k m]
 have a1:=(a.cons (ah h.n [iR op k m])).cons (ah (h.n+1) [iR op k m])
 obtain⟨tp,tl⟩:=cb s1 a1 o.below
 exact⟨s1,a1,tp,tl,(s1.cell 0 rfl).1⟩
theorem Es (s:St h0 F0 J0 h L) (a:At c L i n) (o:OkR c n) {st:List VD} {v:VD} (hst:n.top.stack=st++[v]) (k m:Int):∃ fr h',ai Try.prog po iO [.ptr c.mb 0 0,.agg (iR 13 k m)] h=some (fr,h')∧bp h0 F0 J0 c L i (n.stk st) (bo n.top.plugin 13 k m [v] n.S) fr h':=by
 obtain⟨s1,a1,tp,_,c1⟩:=gL s a o 13 k m
 obtain⟨h2,r,e2,hv,s2,a2⟩:=eH s1 a1 o hst
 obtain⟨fr,h3,e3,r3⟩:=EH s2 a2 (o.stk' hst) hv k m
 have r4:=r3.put.drop.drop
 refine⟨fr,h3,cw s a o (by decide) ?_ r4.fr,r4⟩
 rcases r4.fr with rfl | ⟨u,rfl⟩
 ·refine ag bE rfl ?_;unfold bu
  simp only[sim,af,Nat.reduceAdd,Nat.reduceSub,List.replicate,reduceCtorEq,Nat.reduceLeDiff,Nat.reduceLT,aa,au,tp,c1,Int.reduceEq,decide_false,decide_true,e2,e3]
 ·refine ag bE rfl ?_;unfold bu
  simp only[sim,af,Nat.reduceAdd,Nat.reduceSub,List.replicate,reduceCtorEq,Nat.reduceLeDiff,Nat.reduceLT,aa,au,tp,c1,Int.reduceEq,decide_false,decide_true,e2,e3]
theorem Ev (s:St h0 F0 J0 h L) (a:At c L i n) (o:OkR c n) {st:List VD} {v:VD} (hst:n.top.stack=st++[v]) (k m:Int):∃ fr h',ai Try.prog po iO [.ptr c.mb 0 0,.agg (iR 16 k m)] h=some (fr,h')∧bp h0 F0 J0 c L i (n.stk st) (bo n.top.plugin 16 k m [v] n.S) fr h':=by
 obtain⟨s1,a1,tp,_,c1⟩:=gL s a o 16 k m
 obtain⟨h2,r,e2,hv,s2,a2⟩:=eH s1 a1 o hst
 obtain⟨fr,h3,e3,r3⟩:=Fw s2 a2 (o.stk' hst) hv k m
 have r4:=r3.put.drop.drop
 refine⟨fr,h3,cw s a o (by decide) ?_ r4.fr,r4⟩
 rcases r4.fr with rfl | ⟨u,rfl⟩
 ·refine ag bE rfl ?_;unfold bu
  simp only[sim,af,Nat.reduceAdd,Nat.reduceSub,List.replicate,reduceCtorEq,Nat.reduceLeDiff,Nat.reduceLT,aa,au,tp,c1,Int.reduceEq,decide_false,decide_true,e2,e3]
 ·refine ag bE rfl ?_;unfold bu
  simp only[sim,af,Nat.reduceAdd,Nat.reduceSub,List.replicate,reduceCtorEq,Nat.reduceLeDiff,Nat.reduceLT,aa,au,tp,c1,Int.reduceEq,decide_false,decide_true,e2,e3]
theorem vU {h3:AH} {L3:List Asn} (s3:St h0 F0 J0 h3 L3) (x y:List AV):St h0 F0 J0 ((((h3.push [zR3]).push [zR3]).set h3.n (some [x])).set (h3.n+1) (some [y])) (ah (h3.n+1) [y]::ah h3.n [x]::L3)∧(((h3.push [zR3]).push [zR3]).set h3.n (some [x])).cell (h3.n+1)=some [zR3]:=by
 have s4:=(s3.push [zR3]).push [zR3]
 have s5:St h0 F0 J0 _ (ah (h3.n+1) [zR3]::ah h3.n [x]::L3):=s4.set 1 rfl [x]
 exact⟨s5.set 0 rfl [y],(s5.cell 0 rfl).1⟩
set_option maxHeartbeats 1000000 in
theorem Gd (s:St h0 F0 J0 h L) (a:At c L i n) (o:OkR c n) {st:List VD} {v w:VD} (hst:n.top.stack=st++[v]++[w]) (k m:Int):∃ fr h',ai Try.prog po iO [.ptr c.mb 0 0,.agg (iR 14 k m)] h=some (fr,h')∧bp h0 F0 J0 c L i (n.stk st) (bo n.top.plugin 14 k m [v,w] n.S) fr h':=by
 obtain⟨s1,a1,tp,_,c1⟩:=gL s a o 14 k m
 obtain⟨h2,h3,rw_,rv,e2,e3,hw,hv,s3,a3⟩:=oN s1 a1 o hst
 have o3:=(o.stk' (st:=st) (l:=[v]++[w]) (by rw[hst,List.append_assoc]))
 obtain⟨o1,o2⟩:=hw.len3
 obtain⟨o5,o4⟩:=hv.len3
 obtain⟨s6,q0⟩:=vU s3 rw_ rv
 have a6:=(a3.cons (ah h3.n [rw_])).cons (ah (h3.n+1) [rv])
 have q1:=(s6.cell 0 rfl).1
 have q2:=(s6.cell 1 rfl).1
 generalize hh6:(((h3.push [zR3]).push [zR3]).set h3.n (some [rw_])).set (h3.n+1) (some [rv])=h6 at*
 obtain⟨fr,h7,e7,r7⟩:=Cv s6 a6 o3 hv hw k m
 have r8:=r7.drop.drop.put.drop.drop
 refine⟨fr,h7,cw s a o (by decide) ?_ r8.fr,r8⟩
 rcases r8.fr with rfl | ⟨u,rfl⟩
 ·refine ag bE rfl ?_;unfold bu
  simp only[sim,af,Nat.reduceAdd,Nat.reduceSub,List.replicate,reduceCtorEq,Nat.reduceLeDiff,Nat.reduceLT,aa,au,tp,c1,Int.reduceEq,decide_false,decide_true,e2,e3,o1,o2,o4,o5,q0,hh6,q1,q2,e7]
 ·refine ag bE rfl ?_;unfold bu
  simp only[sim,af,Nat.reduceAdd,Nat.reduceSub,List.replicate,reduceCtorEq,Nat.reduceLeDiff,Nat.reduceLT,aa,au,tp,c1,Int.reduceEq,decide_false,decide_true,e2,e3,o1,o2,o4,o5,q0,hh6,q1,q2,e7]
set_option maxHeartbeats 1000000 in
theorem DR (s:St h0 F0 J0 h L) (a:At c L i n) (o:OkR c n) {st:List VD} {v w:VD} (hst:n.top.stack=st++[v]++[w]) (k m:Int):∃ fr h',ai Try.prog po iO [.ptr c.mb 0 0,.agg (iR 19 k m)] h=some (fr,h')∧jV h0 F0 J0 c L i (n.stk st) (eF c.ms v w (n.below.length+1) n.S) fr h':=by
 obtain⟨s1,a1,tp,_,c1⟩:=gL s a o 19 k m
 obtain⟨h2,h3,rw_,rv,e2,e3,hw,hv,s3,a3⟩:=oN s1 a1 o hst
 have o3:=(o.stk' (st:=st) (l:=[v]++[w]) (by rw[hst,List.append_assoc]))
 obtain⟨o1,o2⟩:=hw.len3
 obtain⟨o5,o4⟩:=hv.len3
 obtain⟨s6,q0⟩:=vU s3 rw_ rv
 have a6:=(a3.cons (ah h3.n [rw_])).cons (ah (h3.n+1) [rv])
 have q1:=(s6.cell 0 rfl).1
 have q2:=(s6.cell 1 rfl).1
 generalize hh6:(((h3.push [zR3]).push [zR3]).set h3.n (some [rw_])).set (h3.n+1) (some [rv])=h6 at*
 obtain⟨fr,h7,e7,r7⟩:=GF s6 a6 o3 hv hw
 have r8:=r7.drop.drop.put.drop.drop
 have hfr:fr= .inl (.tup [])∨∃ v,fr= .inr v:=by
  rcases r8 with⟨_,b,_⟩ | ⟨_,b,_⟩
  ·exact .inl b
  ·exact .inr ⟨_,b⟩
 refine⟨fr,h7,cw s a o (by decide) ?_ hfr,r8⟩
 rcases hfr with rfl | ⟨u,rfl⟩
 ·refine ag bE rfl ?_;unfold bu
  simp only[sim,af,Nat.reduceAdd,Nat.reduceSub,List.replicate,reduceCtorEq,Nat.reduceLeDiff,Nat.reduceLT,aa,au,tp,c1,Int.reduceEq,decide_false,decide_true,e2,e3,o1,o2,o4,o5,q0,hh6,q1,q2,e7]
 ·refine ag bE rfl ?_;unfold bu
  simp only[sim,af,Nat.reduceAdd,Nat.reduceSub,List.replicate,reduceCtorEq,Nat.reduceLeDiff,Nat.reduceLT,aa,au,tp,c1,Int.reduceEq,decide_false,decide_true,e2,e3,o1,o2,o4,o5,q0,hh6,q1,q2,e7]
theorem JQ {p k n:Int} {v:VD} {S:StD}:bo p 15 k n [v] S=if v.kind≠4 then S.no 2 else rM S (S.G.derive v.n k (-1)):=rfl
theorem K2 {p k n:Int} {v:VD} {S:StD}:bo p 17 k n [v] S=if v.kind≠5 then S.no 2 else({S with G:=(S.G.cut v.n).1}:StD).ok aA:=rfl
theorem JT {p k n:Int} {v:VD} {S:StD}:bo p 20 k n [v] S=({S with kept:=S.kept.set p.toNat v}:StD).ok (S.kept.getD p.toNat aA):=rfl
set_option maxHeartbeats 1000000 in
theorem Gr (s:St h0 F0 J0 h L) (a:At c L i n) (o:OkR c n) {st:List VD} {v:VD} (hst:n.top.stack=st++[v]) (k m:Int):∃ fr h',ai Try.prog po iO [.ptr c.mb 0 0,.agg (iR 15 k m)] h=some (fr,h')∧bp h0 F0 J0 c L i (n.stk st) (bo n.top.plugin 15 k m [v] n.S) fr h':=by
 rw[JQ]
 obtain⟨s1,a1,tp,_,c1⟩:=gL s a o 15 k m
 obtain⟨h2,r,e2,hv,s2,a2⟩:=eH s1 a1 o hst
 have o3:=o.stk' hst
 rw[aj,aj]at s2 a2
 have c2:=(s2.cell 0 rfl).1
 by_cases hk:v.kind=4
 ·rw[if_neg (by simpa using hk)]
  obtain⟨r',ek,hv'⟩:=dx (h:=h2) hv hk
  obtain⟨h3,e3,s3⟩:=nX s2 a2 o.len o.S.wf hv' k (-1)
  have a3:=a2.put {(n.stk st)with S:={n.S with G:=(n.S.G.derive v.n k (-1)).1}}
  unfold rM
  by_cases hc:(n.S.G.derive v.n k (-1)).2.2=0
  ·rw[if_pos hc]at e3
   rw[if_neg (by simpa using hc)]
   obtain⟨h4,e4,s4⟩:=cI s3 a3 o.below o3.stk (ED (n.S.G.derive v.n k (-1)).2.1)
   rw[aN,aj,aj,aN]at s4
   have r8:bp h0 F0 J0 c L i (n.stk st) _ _ h4:=bp.ok s4.drop.drop
   refine⟨_,h4,cw s a o (by decide) ?_ r8.fr,r8⟩
   refine ag bE rfl ?_;unfold bu
   simp only[sim,af,Nat.reduceAdd,Nat.reduceSub,List.replicate,reduceCtorEq,Nat.reduceLeDiff,Nat.reduceLT,aa,au,tp,c1,Int.reduceEq,decide_false,decide_true,e2,c2,ek,e3,e4]
  ·rw[if_neg hc]at e3
   rw[if_pos hc]
   rw[aj,aj,aN]at s3
   have r8:bp h0 F0 J0 c L i (n.stk st) _ _ h3:=bp.no (S:={n.S with G:=(n.S.G.derive v.n k (-1)).1}) hc {(n.stk st)with S:={n.S with G:=(n.S.G.derive v.n k (-1)).1}} rfl s3.drop.drop
   refine⟨_,h3,cw s a o (by decide) ?_ r8.fr,r8⟩
   refine ag bE rfl ?_;unfold bu
   simp only[sim,af,Nat.reduceAdd,Nat.reduceSub,List.replicate,reduceCtorEq,Nat.reduceLeDiff,Nat.reduceLT,aa,au,tp,c1,Int.reduceEq,decide_false,decide_true,e2,c2,ek,e3]
 ·rw[if_pos hk]
  have ek:=eG (h:=h2) hv hk
  have r8:bp h0 F0 J0 c L i (n.stk st) _ _ h2:=bp.no (S:=n.S) (k:=2) (by decide) (n.stk st) rfl s2.drop.drop
  refine⟨_,h2,cw s a o (by decide) ?_ r8.fr,r8⟩
  refine ag bE rfl ?_;unfold bu
  simp only[sim,af,Nat.reduceAdd,Nat.reduceSub,List.replicate,reduceCtorEq,Nat.reduceLeDiff,Nat.reduceLT,aa,au,tp,c1,Int.reduceEq,decide_false,decide_true,e2,c2,ek]
set_option maxHeartbeats 1000000 in
theorem Gi (s:St h0 F0 J0 h L) (a:At c L i n) (o:OkR c n) {st:List VD} {v:VD} (hst:n.top.stack=st++[v]) (k m:Int):∃ fr h',ai Try.prog po iO [.ptr c.mb 0 0,.agg (iR 17 k m)] h=some (fr,h')∧bp h0 F0 J0 c L i (n.stk st) (bo n.top.plugin 17 k m [v] n.S) fr h':=by
 rw[K2]
 obtain⟨s1,a1,tp,_,c1⟩:=gL s a o 17 k m
 obtain⟨l0,l1,_⟩:=cD s1 a1 o.len
 obtain⟨h2,r,e2,hv,s2,a2⟩:=eH s1 a1 o hst
 have o3:=o.stk' hst
 obtain⟨l2,l3,_⟩:=cD s2 a2 o.len
 rw[aj,aj]at s2 a2
 have f0:aF 0 (.ptr c.mb 0 0)=some (.ptr c.mb 0 0):=rfl
 have f1:aF 0 (.ptr c.bb 0 0)=some (.ptr c.bb 0 0):=rfl
 by_cases hk:v.kind=5
 ·rw[if_neg (by simpa using hk)]
  obtain⟨r',ek,hv'⟩:=dx (h:=h2) hv hk
  obtain⟨w,hw,_⟩:=hv'.cells3
  have fl:If false 1 1 (.agg r')=some (.int .i64 v.n):=by rw[hw];rfl
  obtain⟨h3,e3,s3⟩:=kv s2 a2 (R:=fun h'=>ai Try.prog po 57 [.ptr c.gb 0 0,.int .i64 v.n] h2=some (.inl (.int .i64 (n.S.G.cut v.n).2),h')) fun F J x=>Je x v.n
  have a3:=a2.put {(n.stk st)with S:={n.S with G:=(n.S.G.cut v.n).1}}
  obtain⟨h4,e4,s4⟩:=cI s3 a3 o.below o3.stk dk
  rw[aN,aj,aj,aN]at s4
  have r8:bp h0 F0 J0 c L i (n.stk st) _ _ h4:=bp.ok (S:={n.S with G:=(n.S.G.cut v.n).1}) (v:=aA) s4.drop.drop
  refine⟨_,h4,cw s a o (by decide) ?_ r8.fr,r8⟩
  refine ag bE rfl ?_;unfold bu
  simp only[sim,af,Nat.reduceAdd,Nat.reduceSub,List.replicate,reduceCtorEq,Nat.reduceLeDiff,Nat.reduceLT,aa,au,tp,c1,Int.reduceEq,decide_false,decide_true,f0,f1,l0,l1,l2,l3,e2,ek,fl,e3,e4]
 ·rw[if_pos hk]
  have ek:=eG (h:=h2) hv hk
  have r8:bp h0 F0 J0 c L i (n.stk st) _ _ h2:=bp.no (S:=n.S) (k:=2) (by decide) (n.stk st) rfl s2.drop.drop
  refine⟨_,h2,cw s a o (by decide) ?_ r8.fr,r8⟩
  refine ag bE rfl ?_;unfold bu
  simp only[sim,af,Nat.reduceAdd,Nat.reduceSub,List.replicate,reduceCtorEq,Nat.reduceLeDiff,Nat.reduceLT,aa,au,tp,c1,Int.reduceEq,decide_false,decide_true,f0,f1,l0,l1,l2,l3,e2,ek]
def JW (h0:AH) (F0 J0:Nat→Prop) (c:Cfg) (L:List Asn) (i:Nat) (n:Now) (k:Int) (v:VD) (fr:AV ⊕ AV) (h':AH):Prop:=
 (n.below.length+1≠20∧fr= .inl (.tup [])∧∃ fb',St h0 F0 J0 h' (put c L i ⟨fb',n.S,n.below++[n.top],⟨n.top.plugin,k,0,v,[],[],false,[]⟩⟩))∨
 (n.below.length+1=20∧fr= .inr (.iface tGo (.int .i64 4))∧St h0 F0 J0 h' (put c L i n))
set_option maxRecDepth 100000 in
set_option maxHeartbeats 1000000 in
theorem FR (s:St h0 F0 J0 h L) (a:At c L i n) (o:OkR c n) {st:List VD} {v:VD} (hst:n.top.stack=st++[v]) (k m:Int):∃ fr h',ai Try.prog po iO [.ptr c.mb 0 0,.agg (iR 18 k m)] h=some (fr,h')∧JW h0 F0 J0 c L i (n.stk st) k v fr h':=by
 obtain⟨s1,a1,tp,_,c1⟩:=gL s a o 18 k m
 obtain⟨h2,r,e2,hv,s2,a2⟩:=eH s1 a1 o hst
 have o3:=o.stk' hst
 rw[aj,aj]at s2 a2
 obtain⟨o1,o2⟩:=hv.len3
 have s3:=s2.push [r]
 have a3:=a2.cons (ah h2.n [r])
 have c3:=(s3.cell 0 rfl).1
 have c4:=(s3.cell 1 rfl).1
 obtain⟨_,tl⟩:=cb s3 a3 o.below
 have f0:aF 0 (.ptr n.fb n.below.length 0)=some (.ptr n.fb n.below.length 0):=rfl
 obtain⟨e20,e21⟩:=xK s3 a3 o.below (f:=⟨n.top.plugin,k,0,v,[],[],false,[]⟩) (ar:=r) (g:= .nils) hv (.inl ⟨rfl,rfl⟩) rfl rfl
 obtain⟨y0,y1,y2,rfl⟩:∃ a b c,r=[a,b,c]:=by match r,o1 with | [a,b,c],_=>exact⟨a,b,c,rfl⟩
 simp only[List.all_cons,List.all_nil,Bool.and_true,Bool.and_eq_true]at o2
 obtain⟨z3,z4,z5⟩:=o2
 by_cases h20:n.below.length+1=20
 ·obtain⟨h4,e4,s4⟩:=e20 h20
  simp only[cr,Int.natCast_zero,List.cons_append,List.nil_append]at e4
  refine⟨_,h4,cw s a o (by decide) ?_ (.inr ⟨_,rfl⟩),.inr ⟨h20,rfl,s4.drop.drop.drop⟩⟩
  refine ag bE rfl ?_;unfold bu
  simp only[sim,af,Nat.reduceAdd,Nat.reduceSub,List.replicate,reduceCtorEq,Nat.reduceLeDiff,Nat.reduceLT,aa,au,tp,c1,Int.reduceEq,decide_false,decide_true,e2,f0,tl,c3,c4,z3,z4,z5,e4]
 ·obtain⟨h4,fb',e4,s4⟩:=e21 h20
  simp only[cr,Int.natCast_zero,List.cons_append,List.nil_append]at e4
  rw[aj,aj,aj,aN]at s4
  refine⟨_,h4,cw s a o (by decide) ?_ (.inl rfl),.inl ⟨h20,rfl,fb',s4.drop.drop.drop⟩⟩
  refine ag bE rfl ?_;unfold bu
  simp only[sim,af,Nat.reduceAdd,Nat.reduceSub,List.replicate,reduceCtorEq,Nat.reduceLeDiff,Nat.reduceLT,aa,au,tp,c1,Int.reduceEq,decide_false,decide_true,e2,f0,tl,c3,c4,z3,z4,z5,e4]
set_option maxHeartbeats 1000000 in
theorem Gu (s:St h0 F0 J0 h L) (a:At c L i n) (o:OkR c n) {st:List VD} {v:VD} (hst:n.top.stack=st++[v]) {P:Nat} (hP:n.top.plugin=(P:Int)) (hP4:P<4) (k m:Int):∃ fr h',ai Try.prog po iO [.ptr c.mb 0 0,.agg (iR 20 k m)] h=some (fr,h')∧bp h0 F0 J0 c L i (n.stk st) (bo n.top.plugin 20 k m [v] n.S) fr h':=by
 rw[JT]
 obtain⟨s1,a1,tp,tl,c1⟩:=gL s a o 20 k m
 obtain⟨l0,l1,_⟩:=cD s1 a1 o.len
 obtain⟨ix,_,kr,lk,hkr,_,bn⟩:=lV s1 a1 o hP4
 rw[hP]at tl ⊢
 rw[Int.toNat_natCast]
 obtain⟨k1,k2⟩:=hkr.len3
 have f0:aF 0 (.ptr c.mb 0 0)=some (.ptr c.mb 0 0):=rfl
 have f1:aF 2 (.ptr c.bb 0 0)=some (.ptr c.bb 0 2):=rfl
 have f2:aF 0 (.ptr n.fb n.below.length 0)=some (.ptr n.fb n.below.length 0):=rfl
 have f3:aF 2 (.ptr c.bb 0 (2+P*5))=some (.ptr c.bb 0 (2+P*5+2)):=rfl
 have s2:St h0 F0 J0 _ (ah (h.n+1+1) [kr]::ah (h.n+1) [iR 20 k m]::ah h.n [iR 20 k m]::L):=s1.push [kr]
 have a2:=a1.cons (ah (h.n+1+1) [kr])
 obtain⟨h3,r,e3,hv,s3,a3⟩:=eH s2 a2 o hst
 have o3:=o.stk' hst
 rw[aj,aj,aj]at s3
 have a3':At c (ah (h.n+1+1) [kr]::ah (h.n+1) [iR 20 k m]::ah h.n [iR 20 k m]::put c L i (n.stk st)) (i+1+1+1) (n.stk st):=a3
 obtain⟨h4,e4,s4⟩:=Ez s3 (i+1+1+1+1) a3'.b o.len (p:=P) (by rw[o.ms];exact hP4) hv
 have s4':St h0 F0 J0 h4 (ah (h.n+1+1) [kr]::ah (h.n+1) [iR 20 k m]::ah h.n [iR 20 k m]::put c L i {(n.stk st)with S:={n.S with kept:=n.S.kept.set P v}}):=by
  rw[a3'.setB,aj,aj,aj,aN]at s4
  exact s4
 have a4:=((((a.put {(n.stk st)with S:={n.S with kept:=n.S.kept.set P v}}).cons (ah h.n [iR 20 k m])).cons (ah (h.n+1) [iR 20 k m])).cons (ah (h.n+1+1) [kr]))
 have c4:=(s4'.cell 0 rfl).1
 obtain⟨h5,e5,s5⟩:=cI s4' a4 o.below o3.stk hkr
 rw[aj,aj,aj,aN]at s5
 have r8:bp h0 F0 J0 c L i (n.stk st) _ _ h5:=bp.ok (S:={n.S with kept:=n.S.kept.set P v}) (v:=n.S.kept.getD P aA) s5.drop.drop.drop
 refine⟨_,h5,cw s a o (by decide) ?_ r8.fr,r8⟩
 refine ag bE rfl ?_;unfold bu
 simp only[sim,af,Nat.reduceAdd,Nat.reduceSub,List.replicate,reduceCtorEq,Nat.reduceLeDiff,Nat.reduceLT,aa,au,tp,c1,Int.reduceEq,decide_false,decide_true,f0,f1,f2,f3,l0,tl,ix,lk,k1,k2,e3,e4,c4,e5]
set_option maxHeartbeats 1000000 in
theorem Dm (s:St h0 F0 J0 h L) (a:At c L i n) (o:OkR c n) {P:Nat} (hP:n.top.plugin=(P:Int)) (hP4:P<4) (k m:Int):∃ h',ai Try.prog po iO [.ptr c.mb 0 0,.agg (iR 21 k m)] h=some (.inl (.tup []),h')∧St h0 F0 J0 h' (put c L i (n.stk (n.top.stack++[n.S.kept.getD P aA]))):=by
 obtain⟨s1,a1,tp,tl,c1⟩:=gL s a o 21 k m
 obtain⟨l0,l1,_⟩:=cD s1 a1 o.len
 obtain⟨ix,_,kr,lk,hkr,_,bn⟩:=lV s1 a1 o hP4
 rw[hP]at tl
 have f0:aF 0 (.ptr c.mb 0 0)=some (.ptr c.mb 0 0):=rfl
 have f1:aF 2 (.ptr c.bb 0 0)=some (.ptr c.bb 0 2):=rfl
 have f2:aF 0 (.ptr n.fb n.below.length 0)=some (.ptr n.fb n.below.length 0):=rfl
 have f3:aF 2 (.ptr c.bb 0 (2+P*5))=some (.ptr c.bb 0 (2+P*5+2)):=rfl
 obtain⟨h2,e2,s2⟩:=cI s1 a1 o.below o.stk hkr
 rw[aj,aj]at s2
 refine⟨h2,cw s a o (by decide) ?_ (.inl rfl),s2.drop.drop⟩
 refine ag bE rfl ?_;unfold bu
 simp only[sim,af,Nat.reduceAdd,Nat.reduceSub,List.replicate,reduceCtorEq,Nat.reduceLeDiff,Nat.reduceLT,aa,au,tp,c1,Int.reduceEq,decide_false,decide_true,f0,f1,f2,f3,l0,tl,ix,lk,e2]
end
end Go.Proofs.Ytkdbjfncchmmpaa
