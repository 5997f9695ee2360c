/- The box and the world in memory; what reads and writes them. -/
import Derived.Test.YtkdbjfncchmmpaaGreatMg5
namespace Go.Proofs.YtkdbjfncchmmpaaGreat
open Nat (reduceAdd reduceSub reduceLeDiff reduceLT)
open List (replicate)
set_option linter.unusedSimpArgs false
set_option linter.unusedVariables false
open Go
section
variable {h h' h0:AH} {F J F0 J0:Nat→Prop} {L:List Asn}
theorem ii:∀ {ms:aI} {kept:List VD} {ks:List (List AV)},VaL kept ks→ms.length=kept.length→(dc ms ks).length=5*ms.length
 | [],[],ks,h,_=>by simp only[VaL]at h;subst h;rfl
 | m::ms,k::kept,ks,h,hl=>by
   obtain⟨r,rs,rfl,h1,h2⟩:=h
   have ih:=ii (ms:=ms) h2 (by simpa using hl)
   simp only[dc,List.cons_append,List.length_cons,List.length_append,ih,h1.len3.1]
   omega
 | [],_::_,_,_,hl=>by simp at hl
 | _::_,[],_,_,hl=>by simp at hl
theorem pd:∀ {ms:aI} {kept:List VD} {ks:List (List AV)} {p:Nat},VaL kept ks→ms.length=kept.length→p<ms.length→
  (dc ms ks)[p*5]? =some (.bool (ms.getD p none).isSome)∧(dc ms ks)[p*5+1]? =some (ic (ms.getD p none))∧∃ r,((dc ms ks).drop (p*5+2)).take 3=r∧VaA (kept.getD p aD) r∧((dc ms ks).drop (p*5)).take 5= .bool (ms.getD p none).isSome::ic (ms.getD p none)::r
 | [],kept,ks,p,_,_,hp=>by simp at hp
 | m::ms,[],ks,p,_,hl,_=>by simp at hl
 | m::ms,k::kept,ks,p,h,hl,hp=>by
   obtain⟨r,rs,rfl,h1,h2⟩:=h
   have h3:=h1.len3.1
   match r,h3 with
   | [a,b,c],_=>
     cases p with
     | zero=>exact⟨rfl,rfl,[a,b,c],rfl,h1,rfl⟩
     | succ p=>
       obtain⟨q1,q2,r',q3,q4,q5⟩:=pd (ms:=ms) (p:=p) h2 (by simpa using hl) (by simpa using hp)
       have e1:∀ j,(dc (m::ms) ([a,b,c]::rs))[(p+1)*5+j]? =(dc ms rs)[p*5+j]? :=fun j=>by
        have:(p+1)*5+j=p*5+j+5:=by omega
        rw[this]
        rfl
       have e2:∀ j,(dc (m::ms) ([a,b,c]::rs)).drop ((p+1)*5+j)=(dc ms rs).drop (p*5+j):=fun j=>by
        have:(p+1)*5+j=p*5+j+5:=by omega
        rw[this]
        rfl
       have f1:=e1 0
       have f2:=e2 0
       rw[Nat.add_zero,Nat.add_zero]at f1 f2
       exact⟨f1.trans q1,(e1 1).trans q2,r',by rw[e2 2];exact q3,q4,by rw[f2];exact q5⟩
theorem qa:∀ {ms:aI} {kept:List VD} {ks:List (List AV)} {p:Nat} {v:VD} {r:List AV},VaL kept ks→ms.length=kept.length→p<ms.length→VaA v r→
  ∃ ks',VaL (kept.set p v) ks'∧stA (dc ms ks) (p*5+2) r=dc ms ks'
 | [],kept,ks,p,_,_,_,_,hp,_=>by simp at hp
 | m::ms,[],ks,p,_,_,_,hl,_,_=>by simp at hl
 | m::ms,k::kept,ks,p,v,r,h,hl,hp,hv=>by
   obtain⟨r0,rs,rfl,h1,h2⟩:=h
   have h3:=h1.len3.1
   have h4:=hv.len3.1
   match r0,h3,r,h4 with
   | [a,b,c],_,[x,y,z],_=>
     cases p with
     | zero=>exact⟨[x,y,z]::rs,⟨_,_,rfl,hv,h2⟩,rfl⟩
     | succ p=>
       obtain⟨ks',q1,q2⟩:=qa (ms:=ms) (p:=p) h2 (by simpa using hl) (by simpa using hp) hv
       refine⟨[a,b,c]::ks',⟨_,_,rfl,h1,q1⟩,?_⟩
       have:(p+1)*5+2=p*5+2+5:=by omega
       rw[this]
       unfold stA at q2 ⊢
       simp only[dc,List.cons_append,List.nil_append,List.take_succ_cons,List.length_cons,List.length_nil]
       rw[show p*5+2+5+(0+1+1+1)=p*5+2+3+5 by omega]
       simp only[List.drop_succ_cons]
       rw[←q2]
       simp
theorem ub {b gb wb:Nat} {ms:aI} {kept:List VD} (x:(cJ b gb wb ms kept).A h F J) (hl:ms.length=kept.length):∃ row,h.cell b=some [row]∧b<h.n∧row[0]? =some (.ptr gb 0 0)∧row[1]? =some (.ptr wb 0 0)∧row.length=2+5*ms.length∧
  ∀ p:Nat,p<ms.length→row[2+p*5]? =some (.bool (ms.getD p none).isSome)∧row[2+p*5+1]? =some (ic (ms.getD p none))∧∃ r,ldA true 3 row (2+p*5+2)=some (.agg r)∧VaA (kept.getD p aD) r∧ldA true 5 row (2+p*5)=some (.agg (.bool (ms.getD p none).isSome::ic (ms.getD p none)::r)):=by
 obtain⟨ks,hk,_,_,h1,h2⟩:=x
 refine⟨_,h2,h1,rfl,rfl,by simp only[i6,List.length_cons,ii hk hl];omega,fun p hp=> ?_⟩
 obtain⟨q1,q2,r,q3,q4,q5⟩:=pd hk hl hp
 have e:∀ j,(i6 gb wb ms ks)[2+p*5+j]? =(dc ms ks)[p*5+j]? :=fun j=>by
  rw[show 2+p*5+j=p*5+j+1+1 by omega]
  rfl
 have e2:∀ j,(i6 gb wb ms ks).drop (2+p*5+j)=(dc ms ks).drop (p*5+j):=fun j=>by
  rw[show 2+p*5+j=p*5+j+1+1 by omega]
  rfl
 have hlen:=ii hk hl
 have f0:=e 0
 have f2:=e2 0
 rw[Nat.add_zero,Nat.add_zero]at f0 f2
 refine⟨f0.trans q1,(e 1).trans q2,r,?_,q4,?_⟩
 ·unfold ldA
  rw[if_pos rfl,if_pos (by simp only[i6,List.length_cons,hlen];omega),e2 2,q3]
 ·unfold ldA
  rw[if_pos rfl,if_pos (by simp only[i6,List.length_cons,hlen];omega),f2,q5]
theorem Dv {b gb wb:Nat} {ms:aI} {kept:List VD} (s:St h0 F0 J0 h L) (i:Nat) (hi:L[i]? =some (cJ b gb wb ms kept)) (hl:ms.length=kept.length) {p:Nat} (hp:p<ms.length) {v:VD} {r:List AV} (hv:VaA v r):
  ∃ h',aE 3 h (.ptr b 0 (2+p*5+2)) (.agg r)=some h'∧St h0 F0 J0 h' (L.set i (cJ b gb wb ms (kept.set p v))):=by
 refine s.call (R:=fun h'=>aE 3 h (.ptr b 0 (2+p*5+2)) (.agg r)=some h') i hi fun F J x=> ?_
 obtain⟨ks,hk,a1,a2,a3,a4⟩:=x
 obtain⟨ks',q1,q2⟩:=qa hk hl hp hv
 have hlen:=ii hk hl
 refine⟨_,bo (es:=[i6 gb wb ms ks]) (e:=i6 gb wb ms ks) a4 rfl hv.len3.2 hv.len3.1 (by simp only[i6,List.length_cons,hlen];omega),F,J,⟨ks',q1,a1,a2,a3,?_⟩,⟨Nat.le_refl _,Nat.le_refl _,fun k _ hk'=>aV fun e=>hk' ((a1 k).2 e),fun _ _ _=>rfl⟩,fun _=> .inl,fun _=> .inl⟩
 rw[bi,List.set_cons_zero]
 have:stA (i6 gb wb ms ks) (2+p*5+2) r=i6 gb wb ms ks':=by
  unfold i6
  rw[←q2]
  unfold stA
  rw[show 2+p*5+2=p*5+2+1+1 by omega]
  simp only[List.take_succ_cons,List.cons_append]
  rw[show p*5+2+1+1+r.length=p*5+2+r.length+1+1 by omega]
  simp only[List.drop_succ_cons]
 simp only[AV.cells,this]
theorem nG {e:TypeId} {v:AV} {rows:List (List AV)} (x:(eU e v rows).A h F J) {row:List AV} (h1:row.all AV.one=true) (hl:rows.length≤1000000):
  ∃ v' h',aG false e v (.isl (some h.ids) e [row]) (h.fresh 1)=some (v',h')∧v'.one=true∧v'.cells=[v']∧Did h F J h' (eU e v' (rows++[row]))∧h'.n=h.n∧h'.cell=h.cell:=by
 have h1':([row].all fun x=>x.all AV.one)=true:=by simpa using h1
 rcases x with⟨⟨rfl,rfl⟩,e1,e2⟩ | ⟨id,⟨hne,rfl⟩,a1,a2,a3,a4⟩
 ·refine⟨.isl (some (h.ids+1)) e [row],(h.fresh 1).fresh 1,?_,rfl,rfl,⟨fun _=>False,fun j=>j=h.ids+1,.inr ⟨h.ids+1,⟨by simp,rfl⟩,fun _ h=>h,fun _=>Iff.rfl,by simp[AH.fresh],by simp[AH.fresh]⟩,((ab.fresh h 1).trans (ab.fresh _ 1)).chg _ _,fun _ h=>h.elim,fun j hj=> .inr (by omega)⟩,rfl,rfl⟩
  simp only[aG,bS,if_true,Option.bind_some,List.length_singleton,Nat.one_ne_zero,if_false,dU]
  rw[if_pos ⟨by omega,by omega,h1'⟩]
  rfl
 ·have hne':id≠h.ids:=by omega
  refine⟨.isl (some id) e (rows++[row]),(h.fresh 1).grow id (rows.length+1),?_,rfl,rfl,⟨fun _=>False,fun j=>j=id,.inr ⟨id,⟨by simp,rfl⟩,fun _ h=>h,fun _=>Iff.rfl,by simp[AH.grow,AH.fresh];omega,by simp[AH.grow]⟩,⟨Nat.le_refl _,by simp[AH.grow,AH.fresh],fun _ _ _=>rfl,fun j hj hJ=> ?_⟩,fun _ h=>h.elim,fun j hj=> .inl ((a2 j).2 hj)⟩,rfl,rfl⟩
  ·simp only[aG,bS,if_true,Option.bind_some,List.length_singleton,Nat.one_ne_zero,if_false,dU]
   rw[if_pos ⟨by omega,by omega,h1'⟩,gd hne',a4]
   simp only[true_and,hl,if_true]
  ·rw[qR fun e=>hJ ((a2 j).2 e),gd (by omega)]
theorem lr {b:Nat} {cells:List Int} {log:List dE} (x:(aY b cells log).A h F J):∃ v,St h F J h [ah b [cells.map (.int .i64)++[v]],eU tEn v (log.map eL)]:=by
 obtain⟨v,x⟩:=x
 exact⟨v,St.start (bh.two x)⟩
theorem sC {b:Nat} {cells:List Int} {log:List dE} {v:AV} (s:St h0 F0 J0 h [ah b [cells.map (.int .i64)++[v]],eU tEn v (log.map eL)]):Did h0 F0 J0 h (aY b cells log):=
 Did.imp (fun _ _ _ x=>by
  obtain⟨F1,J1,F2,J2,x1,x2,r⟩:=x
  exact⟨v,F1,J1,F2,J2,x1,bh.one' x2,r⟩) s
theorem i4 {cells:List Int} {v:AV} (hl:cells.length=12) {j:Nat} (hj:j<12):(cells.map (AV.int .i64)++[v])[j]? =some (.int .i64 (cells.getD j 0))∧(cells.map (AV.int .i64)++[v])[12]? =some v∧(cells.map (AV.int .i64)++[v]).length=13:=by
 refine⟨?_,?_,by simp[hl]⟩
 ·rw[List.getElem?_append_left (by simp;omega)]
  simp[List.getD,show j<cells.length by omega]
 ·rw[List.getElem?_append_right (by simp;omega)]
  simp[hl]
theorem Hh {b:Nat} {cells:List Int} {log:List dE} (s0:St h0 F0 J0 h L) (i:Nat) (hi:L[i]? =some (aY b cells log)) (hl:cells.length=12) (hn:log.length≤1000000) {c:Int} (hc:0≤c∧c<12) (p n:Int):
  ∃ h',ai Tryz.prog po 148 [.ptr b 0 0,.int .i64 p,.int .i64 c,.int .i64 n] h=some (.inl (.tup [.int .i64 (cells.getD c.toNat 0),.bool true]),h')∧St h0 F0 J0 h' (L.set i (aY b cells (log++[⟨p,c,1,n⟩]))):=by
 refine s0.call (R:=fun h'=>ai Tryz.prog po 148 [.ptr b 0 0,.int .i64 p,.int .i64 c,.int .i64 n] h=some (.inl (.tup [.int .i64 (cells.getD c.toNat 0),.bool true]),h')) i hi fun F J x=> ?_
 obtain⟨v,s⟩:=lr x
 obtain⟨c1,c2⟩:=s.cell 0 rfl
 obtain⟨j,rfl⟩:=Int.eq_ofNat_of_zero_le hc.1
 have hj:j<12:=by omega
 obtain⟨g1,g2,g3⟩:=i4 (v:=v) hl hj
 obtain⟨h1,v',⟨e1,o1,o2,n1,k1⟩,s1⟩:=s.callE (R:=fun h' v'=>aG false tEn v (.isl (some h.ids) tEn [eL ⟨p,j,1,n⟩]) (h.fresh 1)=some (v',h')∧v'.one=true∧v'.cells=[v']∧h'.n=h.n∧h'.cell=h.cell) 1 rfl (Y:=fun v'=>eU tEn v' (log.map eL++[eL ⟨p,j,1,n⟩])) fun F J y=>by
  obtain⟨v',h',a1,a2,a3,a4,a5,a6⟩:=nG y (row:=eL ⟨p,j,1,n⟩) rfl (by simpa using hn)
  exact⟨h',v',⟨a1,a2,a3,a5,a6⟩,a4⟩
 have ix:∀ q:IntKind,cj none (some (12,1)) (.ptr b 0 0) (.int q (j:Int))=some (.ptr b 0 j):=fun q=>by simp[cj,hj]
 have hcell:fL (j:Int)=true:=by simp[fL];omega
 have c3:=(s1.cell 0 rfl).1
 have hst:stA (cells.map (AV.int .i64)++[v]) 12 [v']=cells.map (AV.int .i64)++[v']:=by
  unfold stA
  rw[List.take_left' (by simp[hl]),List.drop_of_length_le (by simp[hl])]
  simp
 have st:=bo (n:=1) (x:=v') (off:=12) (i:=0) c3 rfl (by rw[o2];simpa using o1) (by rw[o2];rfl) (by omega)
 rw[o2,hst,List.set_cons_zero]at st
 have s2:=s1.set 0 rfl [cells.map (AV.int .i64)++[v']]
 have g4:=(i4 (v:=v') hl hj).1
 refine⟨_,?_,sC (v:=v') (log:=log++[⟨p,j,1,n⟩]) (by rw[List.map_append];exact s2)⟩
 have ld:∀ (x:AH) (k:Nat) (u:AV),(cells.map (AV.int .i64)++[u])[j]? =some (.int .i64 (cells.getD j 0))→x.cell b=some [cells.map (AV.int .i64)++[u]]→aK false k x (.ptr b 0 j)=some (.int .i64 (cells.getD j 0)):=fun x k u hu hx=>by
  rw[bV,hx,Option.bind_some,List.getElem?_cons_zero,Option.bind_some,eN,hu]
 have l12:∀ k:Nat,aK false k h (.ptr b 0 12)=some v:=fun k=>by
  rw[bV,c1,Option.bind_some,List.getElem?_cons_zero,Option.bind_some,eN,g2]
 have f12:aH 12 (.ptr b 0 0)=some (.ptr b 0 12):=rfl
 have lf:=ld _ 1 v' g4 (s2.cell 0 rfl).1
 simp only[eL]at e1
 refine ag Ev rfl ?_;unfold xd
 simp only[sim,af,reduceAdd,reduceSub,replicate,reduceCtorEq,reduceLeDiff,reduceLT,aa,au,Av,hcell,f12,l12,e1,o1,o2,st,ix,lf]
theorem D8 {b:Nat} {cells:List Int} {log:List dE} (s0:St h0 F0 J0 h L) (i:Nat) (hi:L[i]? =some (aY b cells log)) (hl:cells.length=12) (hn:log.length≤1000000) {c:Int} (hc:0≤c∧c<12) (p n z:Int):
  ∃ h',ai Tryz.prog po 149 [.ptr b 0 0,.int .i64 p,.int .i64 c,.int .i64 n,.int .i64 z] h=some (.inl (.bool true),h')∧St h0 F0 J0 h' (L.set i (aY b (cells.set c.toNat z) (log++[⟨p,c,2,n⟩]))):=by
 refine s0.call (R:=fun h'=>ai Tryz.prog po 149 [.ptr b 0 0,.int .i64 p,.int .i64 c,.int .i64 n,.int .i64 z] h=some (.inl (.bool true),h')) i hi fun F J x=> ?_
 obtain⟨v,s⟩:=lr x
 obtain⟨c1,c2⟩:=s.cell 0 rfl
 obtain⟨j,rfl⟩:=Int.eq_ofNat_of_zero_le hc.1
 have hj:j<12:=by omega
 obtain⟨g1,g2,g3⟩:=i4 (v:=v) hl hj
 obtain⟨h1,v',⟨e1,o1,o2,n1,k1⟩,s1⟩:=s.callE (R:=fun h' v'=>aG false tEn v (.isl (some h.ids) tEn [eL ⟨p,j,2,n⟩]) (h.fresh 1)=some (v',h')∧v'.one=true∧v'.cells=[v']∧h'.n=h.n∧h'.cell=h.cell) 1 rfl (Y:=fun v'=>eU tEn v' (log.map eL++[eL ⟨p,j,2,n⟩])) fun F J y=>by
  obtain⟨v',h',a1,a2,a3,a4,a5,a6⟩:=nG y (row:=eL ⟨p,j,2,n⟩) rfl (by simpa using hn)
  exact⟨h',v',⟨a1,a2,a3,a5,a6⟩,a4⟩
 have ix:∀ q:IntKind,cj none (some (12,1)) (.ptr b 0 0) (.int q (j:Int))=some (.ptr b 0 j):=fun q=>by simp[cj,hj]
 have hcell:fL (j:Int)=true:=by simp[fL];omega
 have c3:=(s1.cell 0 rfl).1
 have hst:stA (cells.map (AV.int .i64)++[v]) 12 [v']=cells.map (AV.int .i64)++[v']:=by
  unfold stA
  rw[List.take_left' (by simp[hl]),List.drop_of_length_le (by simp[hl])]
  simp
 have st:=bo (n:=1) (x:=v') (off:=12) (i:=0) c3 rfl (by rw[o2];simpa using o1) (by rw[o2];rfl) (by omega)
 rw[o2,hst,List.set_cons_zero]at st
 have s2:=s1.set 0 rfl [cells.map (AV.int .i64)++[v']]
 have g4:=i4 (v:=v') hl hj
 have hst2:stA (cells.map (AV.int .i64)++[v']) j [.int .i64 z]=(cells.set j z).map (AV.int .i64)++[v']:=by
  have:stA (cells.map (AV.int .i64)++[v']) j [.int .i64 z]=(cells.map (AV.int .i64)++[v']).set j (.int .i64 z):=by
   refine List.ext_getElem? fun i=> ?_
   rw[gE _ _ _ _ (by simp only[List.length_singleton,g4.2.2];omega)]
   by_cases e:i=j
   ·subst e
    rw[if_pos (by simp only[List.length_singleton];omega),List.getElem?_set_self (by rw[g4.2.2];omega)]
    simp
   ·rw[if_neg (by simp only[List.length_singleton];omega),List.getElem?_set_ne (by omega)]
  rw[this,List.set_append_left _ _ (by simp;omega),List.map_set]
 have st2:=bo (n:=1) (x:= .int .i64 z) (off:=j) (i:=0) (s2.cell 0 rfl).1 rfl rfl rfl (by rw[g4.2.2];omega)
 rw[show(AV.int .i64 z).cells=[.int .i64 z] from rfl,hst2,List.set_cons_zero]at st2
 have s3:=s2.set 0 rfl [(cells.set j z).map (AV.int .i64)++[v']]
 refine⟨_,?_,sC (v:=v') (log:=log++[⟨p,j,2,n⟩]) (by rw[List.map_append];exact s3)⟩
 have l12:∀ k:Nat,aK false k h (.ptr b 0 12)=some v:=fun k=>by
  rw[bV,c1,Option.bind_some,List.getElem?_cons_zero,Option.bind_some,eN,g2]
 have f12:aH 12 (.ptr b 0 0)=some (.ptr b 0 12):=rfl
 simp only[eL]at e1
 refine ag Cz rfl ?_;unfold tO
 simp only[sim,af,reduceAdd,reduceSub,replicate,reduceCtorEq,reduceLeDiff,reduceLT,aa,au,Av,hcell,f12,l12,e1,o1,o2,st,ix,st2]
end
def Mv (h0:AH) (F J:Nat→Prop) (b:Nat) (h:AH) (G:ae) (C I:List Nat):Prop:=
 ∃ F' J',IsG h F' J' b G∧Chg F J h0 h∧(∀ k,F' k→F k∨h0.n≤k)∧(∀ j,J' j→J j∨h0.ids≤j)∧(∀ k∈C,h0.n≤k∧k<h.n∧¬ F' k)∧(∀ j∈I,h0.ids≤j∧j<h.ids∧¬ J' j)
section
variable {h0 h:AH} {F J:Nat→Prop} {b:Nat} {G G':ae} {C I:List Nat}
theorem Mv.start (g:IsG h F J b G):Mv h F J b h G [] []:=⟨F,J,g,Chg.refl _ _ _,fun _=> .inl,fun _=> .inl,by simp,by simp⟩
theorem Mv.did (m:Mv h0 F J b h G C I):bU h0 F J b h G:=by
 obtain⟨F',J',g,c,f,j,_⟩:=m
 exact⟨F',J',g,c,f,j⟩
theorem Mv.isG (m:Mv h0 F J b h G C I):∃ F' J',IsG h F' J' b G:=by
 obtain⟨F',J',g,_⟩:=m
 exact⟨F',J',g⟩
theorem Mv.n (m:Mv h0 F J b h G C I):h0.n≤h.n:=by
 obtain⟨_,_,_,c,_⟩:=m
 exact c.n
theorem Mv.lt (m:Mv h0 F J b h G C I) {k:Nat} (hk:k∈C):k<h.n:=by
 obtain⟨_,_,_,_,_,_,c,_⟩:=m
 exact(c k hk).2.1
theorem Mv.old (m:Mv h0 F J b h G C I) {k:Nat} (hk:k<h0.n) (hF:¬ F k):h.cell k=h0.cell k:=by
 obtain⟨_,_,_,c,_⟩:=m
 exact c.cell k hk hF
theorem Mv.grew {h':AH} (m:Mv h0 F J b h G C I) (x:ab h h'):Mv h0 F J b h' G C I:=by
 obtain⟨F',J',g,c,f,j,hc,hi⟩:=m
 refine⟨F',J',g.grew x,c.trans (x.chg _ _),f,j,fun k hk=> ?_,fun i hk=> ?_⟩
 ·obtain⟨a1,a2,a3⟩:=hc k hk
  exact⟨a1,Nat.lt_of_lt_of_le a2 x.n,a3⟩
 ·obtain⟨a1,a2,a3⟩:=hi i hk
  exact⟨a1,Nat.lt_of_lt_of_le a2 x.ids,a3⟩
theorem Mv.push (m:Mv h0 F J b h G C I) (r:List (List AV)):Mv h0 F J b (h.push r) G (h.n::C) I:=by
 have hn:=m.n
 obtain⟨F',J',g,c,f,j,hc,hi⟩:=m.grew (ab.push h r)
 obtain⟨F2,J2,g2,c2,f2,j2,hc2,hi2⟩:=m
 refine⟨F2,J2,g2.grew (ab.push h r),c,f2,j2,fun k hk=> ?_,fun i hk=> ?_⟩
 ·rcases List.mem_cons.1 hk with rfl | hk
  ·exact⟨hn,by simp[AH.push],fun hF=>by have:=g2.lt.1 _ hF;omega⟩
  ·obtain⟨a1,a2,a3⟩:=hc2 k hk
   exact⟨a1,by simp only[aJ];omega,a3⟩
 ·exact hi2 i hk
theorem Mv.fresh (m:Mv h0 F J b h G C I) (r:Nat):Mv h0 F J b (h.fresh r) G C (h.ids::I):=by
 obtain⟨F2,J2,g2,c2,f2,j2,hc2,hi2⟩:=m
 refine⟨F2,J2,g2.grew (ab.fresh h r),c2.trans ((ab.fresh h r).chg _ _),f2,j2,hc2,fun i hk=> ?_⟩
 rcases List.mem_cons.1 hk with rfl | hk
 ·exact⟨c2.ids,by simp[AH.fresh],fun hF=>by have:=g2.lt.2 _ hF;omega⟩
 ·obtain⟨a1,a2,a3⟩:=hi2 i hk
  exact⟨a1,by simp only[nQ];omega,a3⟩
theorem Mv.set (m:Mv h0 F J b h G C I) {c:Nat} (hk:c∈C) (es:Option (List (List AV))):Mv h0 F J b (h.set c es) G C I:=by
 obtain⟨F2,J2,g2,c2,f2,j2,hc2,hi2⟩:=m
 obtain⟨a1,a2,a3⟩:=hc2 c hk
 have x:Chg (fun k=>k=c) (fun _=>False) h (h.set c es):=⟨Nat.le_refl _,Nat.le_refl _,fun k _ hk=>aV hk,fun _ _ _=>rfl⟩
 refine⟨F2,J2,g2.keep x (fun k hk e=>a3 (e ▸ hk)) (fun _ _ h=>h),c2.then x (fun k e=> .inr (by rw[e];exact a1)) (fun _ h=>h.elim),f2,j2,hc2,hi2⟩
theorem Mv.grow (m:Mv h0 F J b h G C I) {i:Nat} (hk:i∈I) (r:Nat):Mv h0 F J b (h.grow i r) G C I:=by
 obtain⟨F2,J2,g2,c2,f2,j2,hc2,hi2⟩:=m
 obtain⟨a1,a2,a3⟩:=hi2 i hk
 have x:Chg (fun _=>False) (fun j=>j=i) h (h.grow i r):=⟨Nat.le_refl _,Nat.le_refl _,fun _ _ _=>rfl,fun j _ hj=>qR hj⟩
 exact⟨F2,J2,g2.keep x (fun _ _ h=>h) (fun j hj e=>a3 (e ▸ hj)),c2.then x (fun _ h=>h.elim) (fun j e=> .inr (by rw[e];exact a1)),f2,j2,hc2,hi2⟩
theorem Mv.callF {R:AH→Prop} (m:Mv h0 F J b h G C I) (c:∀ F2 J2,IsG h F2 J2 b G→(∀ k,k<h0.n→¬ F k→¬ F2 k)→(∀ k∈C,¬ F2 k)→∃ h',R h'∧bU h F2 J2 b h' G'):
  ∃ h',R h'∧Mv h0 F J b h' G' C I∧(∀ k∈C,h'.cell k=h.cell k)∧(∀ k,k<h0.n→¬ F k→h'.cell k=h.cell k)∧(∀ j∈I,h'.hw j=h.hw j):=by
 obtain⟨F2,J2,g2,c2,f2,j2,hc2,hi2⟩:=m
 obtain⟨h',r,F3,J3,g3,c3,f3,j3⟩:=c F2 J2 g2 (fun k hk hF h2=>by
  rcases f2 k h2 with h | h
  ·exact hF h
  ·omega) (fun k hk=>(hc2 k hk).2.2)
 have cc:=c2.then c3 f2 j2
 refine⟨h',r,⟨F3,J3,g3,cc,fun k hk=> ?_,fun j hj=> ?_,fun k hk=> ?_,fun i hk=> ?_⟩,fun k hk=>c3.cell k (hc2 k hk).2.1 (hc2 k hk).2.2,fun k hk hF=> ?_,fun j hj=>c3.hw j (hi2 j hj).2.1 (hi2 j hj).2.2⟩
 ·rcases f3 k hk with h | h
  ·exact f2 k h
  ·exact .inr (Nat.le_trans c2.n h)
 ·rcases j3 j hj with h | h
  ·exact j2 j h
  ·exact .inr (Nat.le_trans c2.ids h)
 ·obtain⟨a1,a2,a3⟩:=hc2 k hk
  refine⟨a1,Nat.lt_of_lt_of_le a2 c3.n,fun hF=> ?_⟩
  rcases f3 k hF with h | h
  ·exact a3 h
  ·omega
 ·obtain⟨a1,a2,a3⟩:=hi2 i hk
  refine⟨a1,Nat.lt_of_lt_of_le a2 c3.ids,fun hF=> ?_⟩
  rcases j3 i hF with h | h
  ·exact a3 h
  ·omega
 ·refine c3.cell k (Nat.lt_of_lt_of_le hk c2.n) fun hF2=> ?_
  rcases f2 k hF2 with h | h
  ·exact hF h
  ·omega
theorem Mv.call {R:AH→Prop} (m:Mv h0 F J b h G C I) (c:∀ F J,IsG h F J b G→∃ h',R h'∧bU h F J b h' G'):
  ∃ h',R h'∧Mv h0 F J b h' G' C I∧(∀ k∈C,h'.cell k=h.cell k)∧(∀ k,k<h0.n→¬ F k→h'.cell k=h.cell k)∧(∀ j∈I,h'.hw j=h.hw j):=m.callF fun F2 J2 g _ _=>c F2 J2 g
def qF (e:TypeId) (I:List Nat) (h:AH) (v:AV) (acc:List (List AV)):Prop:=(acc=[]∧v= .nils)∨∃ id,id∈I∧acc≠[]∧h.hw id=acc.length∧v= .isl (some id) e acc
theorem qF.sla {e:TypeId} {v:AV} {acc:List (List AV)} (a:qF e I h v acc):SlA e v acc:=by
 rcases a with a | ⟨id,_,_,_,rfl⟩
 ·exact .inl a
 ·exact .inr ⟨_,rfl⟩
theorem qF.cell {e:TypeId} {v:AV} {acc:List (List AV)} (a:qF e I h v acc):v.one=true∧v.cells=[v]:=by
 rcases a with⟨_,rfl⟩ | ⟨id,_,_,_,rfl⟩<;>exact⟨rfl,rfl⟩
theorem qF.keep {h':AH} {e:TypeId} {v:AV} {acc:List (List AV)} (a:qF e I h v acc) (hk:∀ j∈I,h'.hw j=h.hw j):qF e I h' v acc:=by
 rcases a with a | ⟨id,a1,a2,a3,a4⟩
 ·exact .inl a
 ·exact .inr ⟨id,a1,a2,(hk id a1).trans a3,a4⟩
theorem Km {e:TypeId} {v:AV} {acc:List (List AV)} (m:Mv h0 F J b h G C I) (ha:qF e I h v acc) {row:List AV} (h1:row.all AV.one=true) (hl:acc.length≤1000000):
  ∃ v' h' I',aG false e v (.isl (some h.ids) e [row]) (h.fresh 1)=some (v',h')∧qF e I' h' v' (acc++[row])∧Mv h0 F J b h' G C I'∧h'.cell=h.cell∧h'.n=h.n:=by
 have h1':∀ x,x∈row→x.one=true:=by simpa using h1
 rcases ha with⟨rfl,rfl⟩ | ⟨id,a1,a2,a3,rfl⟩
 ·refine⟨.isl (some (h.ids+1)) e [row],(h.fresh 1).fresh 1,(h.ids+1)::h.ids::I,?_,.inr ⟨h.ids+1,by simp,by simp,by simp[AH.fresh],by simp⟩,(m.fresh 1).fresh 1,rfl,rfl⟩
  simp only[aG,bS,if_true,Option.bind_some,List.length_singleton,Nat.one_ne_zero,if_false,dU]
  rw[if_pos ⟨by omega,by omega,by simpa using h1'⟩]
  rfl
 ·have hlt:id<h.ids:=by
   obtain⟨_,_,_,_,_,_,_,hi⟩:=m
   exact(hi id a1).2.1
  have hne:id≠h.ids:=by omega
  refine⟨.isl (some id) e (acc++[row]),(h.fresh 1).grow id (acc.length+1),h.ids::I,?_,.inr ⟨id,by simp[a1],by simp,by simp[AH.grow],rfl⟩,(m.fresh 1).grow (by simp[a1]) _,rfl,rfl⟩
  simp only[aG,bS,if_true,Option.bind_some,List.length_singleton,Nat.one_ne_zero,if_false,dU]
  rw[if_pos ⟨by omega,by omega,by simpa using h1'⟩,gd hne,a3]
  simp only[true_and,hl,if_true]
end
theorem DL {x:BitVec 64}:CH x.toInt 4=eP x.toInt 2:=by
 have h4:(4:Int)=(4#64).toInt:=by decide
 rw[h4,xr,AP x (by omega)]
 have e:(4#64)=BitVec.twoPow 64 2:=by decide
 cases hb:x.getLsbD 2
 ·refine decide_eq_false fun h=> ?_
  have:=congrArg (fun v:BitVec 64=>v.getLsbD 2) h
  simp only[BitVec.getLsbD_and,hb,Bool.false_and]at this
  exact absurd this (by decide)
 ·refine decide_eq_true (BitVec.eq_of_getLsbD_eq fun i hi=> ?_)
  rw[BitVec.getLsbD_and,e,BitVec.getLsbD_twoPow]
  by_cases h2:2=i
  ·subst h2
   simp[hb]
  ·simp[h2]
section
variable {h:AH} {F J:Nat→Prop} {b:Nat} {G:ae}
abbrev lS:TypeId:=210
theorem Dz {C:sV} {nv:Nat} {d:RD} {is:List RI} {k:List RK} {V L:List AV} {q:TypeId} {v:AV}:ap C nv (.ops (.i d (.pan (.l 0))::is)::k) V (.iface q v::L) h=some (.panic (.iface q v),V,h):=FU rfl
theorem B8 (c:Int):ai Tryz.prog po 161 [.bool true,.int .i64 c] h=some (.inr (.iface lS (.int .i64 c)),h):=by
 refine ag wa rfl ?_;unfold pW
 simp only[sim,af,reduceAdd,reduceSub,replicate,reduceCtorEq,reduceLeDiff,reduceLT,aa,Hw,Dz,mW (ab.refl h) (rfl:wkA (.iface lS (.int .i64 c))=_)]
theorem Fg (c:Int):ai Tryz.prog po 161 [.bool false,.int .i64 c] h=some (.inl (.tup []),h):=by
 refine ag wa rfl ?_;unfold pW
 simp only[sim,af,reduceAdd,reduceSub,replicate,reduceCtorEq,reduceLeDiff,reduceLT,aa,az (ab.refl h) (rfl:wkA (.tup [])=_)]
theorem Lg (g:ae) (hW:g.Wf) (i:Int):ai Tryz.prog po 144 [.int .i64 (g.rights i),.int .i64 4] h=some (.inl (.bool (eP (g.rights i) 2)),h):=by
 obtain⟨x,hx⟩:=qQ hW i
 have e:CH (g.rights i) 4=eP (g.rights i) 2:=by rw[hx];exact DL
 rw[←e]
 refine ag BG rfl ?_;unfold uF
 simp only[sim,af,reduceAdd,reduceSub,replicate,reduceCtorEq,reduceLeDiff,reduceLT,aa]
 rfl
def KS (ks:List Int) (G:ae) (n:Int) (q:AV ⊕ AV):Prop:=
 ((jr ks G n).2.2=0∧q= .inl (.int .i64 (jr ks G n).2.1))∨((jr ks G n).2.2≠0∧q= .inr (.iface lS (.int .i64 (jr ks G n).2.2)))
theorem CI (k:Int) (l:List Int) (G:ae) (n:Int):jr (k::l) G n=if(G.derive n 15 k).2.2≠0 then((G.derive n 15 k).1,0,(G.derive n 15 k).2.2)else jr l (G.derive n 15 k).1 (G.derive n 15 k).2.1:=rfl
theorem FE {m:Nat} {gv:AV} {ks:List Int} (g:IsG h F J b G) (hW:G.Wf) (hm:m<h.n) (hF:¬ F m) (hc:h.cell m=some [[.ptr b 0 0,gv]]) (hg:IsL 3 gv (cr ks)) (hk:ks.length≤1000000) (n:Int):
  ∃ q h',ai Tryz.prog po 146 [.ptr m 0 0,.int .i64 n] h=some (q,h')∧(KS ks G n q∧bU h F J b h' (jr ks G n).1):=by
 have hl:=hg.len
 have hf:=hg.fits
 rw[List.length_map]at hl
 refine Eq (Post:=fun q h'=>KS ks G n q∧bU h F J b h' (jr ks G n).1) Is rfl fun Q hR hP=> ?_;unfold AG
 simp only[sim,af,reduceAdd,reduceSub,replicate,reduceCtorEq,reduceLeDiff,reduceLT,aa,hc,hl,hf]
 refine fJ (fun i V h'=>∃ v3 v4 v5 v9 G' n',V=[.ptr m 0 0,.int .i64 n',.int .i64 0,v3,v4,v5,gv,.int .i64 ks.length,.int .i64 (i:Nat),v9]∧G'.Wf∧Mv h F J b h' G' [] []∧jr (ks.drop i) G' n'=jr ks G n) ks.length ⟨_,_,_,_,G,n,rfl,hW,Mv.start g,rfl⟩ ?_ ?_
 ·rintro i V h' hi ⟨v3,v4,v5,v9,G',n',rfl,hW',mv,he⟩ next
  have hlt:(i:Int)<(ks.length:Int):=by omega
  have hw:=w64 (n:=(i:Int)+1) (by omega) (by omega)
  obtain⟨k,hk'⟩:∃ k,ks[i]? =some k:=⟨_,List.getElem?_eq_getElem hi⟩
  have i1:=hg.ix .i64 i [.int .i64 k] (by simp[hk'])
  have hd:ks.drop i=k::ks.drop (i+1):=by
   obtain⟨hi',rfl⟩:=List.getElem?_eq_some_iff.1 hk'
   exact List.drop_eq_getElem_cons hi'
  have hc':h'.cell m=some [[.ptr b 0 0,gv]]:=(mv.old hm hF).trans hc
  obtain⟨h2,e2,mv2, -, -, -⟩:=mv.call fun F J g=>qk g hW' n' 15 k
  rw[hd,CI]at he
  by_cases hz:(G'.derive n' 15 k).2.2=0
  ·rw[if_neg (by simp[hz])]at he
   have ef:=fun h=>Fg (h:=h) 0
   rw[hz]at e2
   rw[aC jE.eq_1]
   simp only[sim,af,reduceAdd,reduceSub,replicate,reduceCtorEq,reduceLeDiff,reduceLT,aa,hlt,i1,hc',e2,ef,hw]
   exact next _ _ ⟨_,_,_,_,_,_,rfl,hW'.derive _ _ _,mv2,he⟩
  ·rw[if_pos hz]at he
   have ef:=fun h=>B8 (h:=h) (G'.derive n' 15 k).2.2
   rw[aC jE.eq_1]
   simp only[sim,af,reduceAdd,reduceSub,replicate,reduceCtorEq,reduceLeDiff,reduceLT,aa,hlt,i1,hc',e2,hz,ef]
   refine hP _ _ _ ⟨.inr ?_,?_⟩
   ·rw[←he]
    exact⟨hz,rfl⟩
   ·rw[←he]
    exact mv2.did
 ·rintro V h' ⟨v3,v4,v5,v9,G',n',rfl,hW',mv,he⟩
  have hlt:¬ (ks.length:Int)<(ks.length:Int):=by omega
  rw[List.drop_length]at he
  rw[aC jE.eq_1]
  simp only[sim,af,reduceAdd,reduceSub,replicate,reduceCtorEq,reduceLeDiff,reduceLT,aa,hlt]
  refine hR _ _ _ rfl ⟨.inl ?_,?_⟩
  ·rw[←he]
   exact⟨rfl,rfl⟩
  ·rw[←he]
   exact mv.did
theorem Gu {G:ae} (hW:G.Wf) (l:List Int):∀ (i:Nat) (n:Int),l[i]? =some n→(l.drop i).any (fun n=> !eP (G.rights n) 2)=(!eP (G.rights n) 2 || (l.drop (i+1)).any fun n=> !eP (G.rights n) 2):=by
 intro i n hn
 obtain⟨hi,rfl⟩:=List.getElem?_eq_some_iff.1 hn
 rw[List.drop_eq_getElem_cons hi,List.any_cons]
theorem ye {x:VD} (h:x.code=0):x.size≤40:=by
 unfold VD.code at h
 split at h
 ·cases h
 ·omega
theorem DT (g:IsG h F J b G) (hW:G.Wf) {x:VD} {r:List AV} (hx:VaA x r):ai Tryz.prog po 126 [.ptr b 0 0,.agg r] h=some (.inl (.int .i64 (qj G x)),h):=by
 obtain⟨o1,o2⟩:=hx.one
 have e1:=fun h=>jx (h:=h) hx
 unfold qj
 by_cases hc:x.code=0
 ·have hs:=ye hc
  have e2:=fun h=>zK _ x (Nat.le_refl _) (by omega) r h hx
  rw[if_neg (by simp[hc])]
  cases hgt:x.gate
  ·have e3:=fun h=>Cj _ x (Nat.le_refl _) (by omega) r h hx
   have il:=iJ 3 (cr x.caps)
   have hl:=il.len
   have hf:=il.fits
   rw[List.length_map]at hl
   have cf:=x.caps_few
   simp only[hgt]at e2
   simp only[Bool.false_eq_true,if_false]
   refine ep uE rfl fun Q hQ=> ?_;unfold oL
   simp only[sim,af,reduceAdd,reduceSub,replicate,reduceCtorEq,reduceLeDiff,reduceLT,aa,o1,o2,br o2,e1,hc,e2,e3,hl,hf]
   refine fJ (fun i V h'=>∃ v5 v11 v12,V=[.ptr b 0 0,.agg r,.ptr h.n 0 0,.int .i64 0,.int .i64 0,v5,.bool false,.bool false,fI 3 (cr x.caps),.int .i64 x.caps.length,.int .i64 (i:Nat),v11,v12]∧ab h h'∧(x.caps.drop i).any (fun n=> !eP (G.rights n) 2)=x.caps.any fun n=> !eP (G.rights n) 2) x.caps.length ⟨_,_,_,rfl,(by repeat (first | exact ab.refl _ | refine ab.trans ?_ (ab.push _ _) | refine ab.trans ?_ (ab.fresh _ _))),rfl⟩ ?_ ?_
   ·rintro i V h' hi ⟨v5,v11,v12,rfl,gr,he⟩ next
    have hlt:(i:Int)<(x.caps.length:Int):=by omega
    have hw:=w64 (n:=(i:Int)+1) (by omega) (by omega)
    obtain⟨n,hn⟩:∃ n,x.caps[i]? =some n:=⟨_,List.getElem?_eq_getElem hi⟩
    have i1:=il.ix .i64 i [.int .i64 n] (by simp[hn])
    have e4:=vW (g.grew gr) hW n
    have e5:=fun h=>Lg (h:=h) G hW n
    rw[Gu hW _ _ _ hn]at he
    cases hb:eP (G.rights n) 2
    ·rw[hb]at he
     simp only[hb]at e5
     rw[aC jJ.eq_1]
     simp only[sim,af,reduceAdd,reduceSub,replicate,reduceCtorEq,reduceLeDiff,reduceLT,aa,hlt,i1,e4,e5]
     refine hQ _ _ _ rfl gr ?_
     rw[←he]
     rfl
    ·rw[hb]at he
     simp only[hb]at e5
     rw[aC jJ.eq_1]
     simp only[sim,af,reduceAdd,reduceSub,replicate,reduceCtorEq,reduceLeDiff,reduceLT,aa,hlt,i1,e4,e5,hw]
     exact next _ _ ⟨_,_,_,rfl,gr,he⟩
   ·rintro V h' ⟨v5,v11,v12,rfl,gr,he⟩
    have hlt:¬ (x.caps.length:Int)<(x.caps.length:Int):=by omega
    rw[List.drop_length]at he
    rw[aC jJ.eq_1]
    simp only[sim,af,reduceAdd,reduceSub,replicate,reduceCtorEq,reduceLeDiff,reduceLT,aa,hlt]
    refine hQ _ _ _ rfl gr ?_
    rw[←he]
    rfl
  ·simp only[hgt]at e2
   simp only[if_true]
   refine ep uE rfl fun Q hQ=> ?_;unfold oL
   simp only[sim,af,reduceAdd,reduceSub,replicate,reduceCtorEq,reduceLeDiff,reduceLT,aa,o1,o2,br o2,e1,hc,e2]
   exact hQ _ _ _ rfl (by repeat (first | exact ab.refl _ | refine ab.trans ?_ (ab.push _ _) | refine ab.trans ?_ (ab.fresh _ _))) rfl
 ·rw[if_pos hc]
  refine ep uE rfl fun Q hQ=> ?_;unfold oL
  simp only[sim,af,reduceAdd,reduceSub,replicate,reduceCtorEq,reduceLeDiff,reduceLT,aa,o1,o2,br o2,e1,hc]
  exact hQ _ _ _ rfl (by repeat (first | exact ab.refl _ | refine ab.trans ?_ (ab.push _ _) | refine ab.trans ?_ (ab.fresh _ _))) rfl
end
section
variable {h:AH} {F J:Nat→Prop} {b:Nat} {G:ae}
def GM (ks:List Int) (G:ae) (x:VD) (q:AV ⊕ AV):Prop:=
 ((dm ks x G).2.2=0∧∃ r',q= .inl (.agg r')∧VaA (dm ks x G).2.1 r')∨((dm ks x G).2.2≠0∧q= .inr (.iface lS (.int .i64 (dm ks x G).2.2)))
theorem yI (ks:List Int) (x:VD) (l:List VD) (G:ae):bw ks (x::l) G=
  if(dm ks x G).2.2≠0 then((dm ks x G).1,[],(dm ks x G).2.2)
  else((bw ks l (dm ks x G).1).1,(dm ks x G).2.1::(bw ks l (dm ks x G).1).2.1,(bw ks l (dm ks x G).1).2.2):=rfl
theorem HE {l:List VD} {i:Nat} {y:VD} (h:l[i]? =some y):l.drop i=y::l.drop (i+1):=by
 obtain⟨hi,rfl⟩:=List.getElem?_eq_some_iff.1 h
 exact List.drop_eq_getElem_cons hi
set_option maxHeartbeats 2000000 in
theorem Et {m:Nat} {gv:AV} {ks:List Int} (hg:IsL 3 gv (cr ks)) (hk:ks.length≤1000000):∀ (N:Nat) (x:VD),SizeOf.sizeOf x≤N→x.size≤100000→∀ (r:List AV) (h:AH) (F J:Nat→Prop) (G:ae),IsG h F J b G→G.Wf→m<h.n→¬ F m→h.cell m=some [[.ptr b 0 0,gv]]→VaA x r→
  ∃ q h',ai Tryz.prog po 128 [.ptr m 0 0,.agg r] h=some (q,h')∧(GM ks G x q∧bU h F J b h' (dm ks x G).1):=by
 intro N
 induction N with
 | zero=>intro x hx;have:=x.so_pos;omega
 | succ N ih=>
   intro x hx hsz r h F J G g hW hm hF hc he
   obtain⟨v,es,rfl,hsl,hv,hn,hix⟩:=he.facts
   have hlen:=x.len_size
   have hve:=Bc ks x G
   -- the loop over the parts
   have rest:∀ (Q:iC→Prop) (h1:AH) (G1:ae) (n1:Int) (I:List Nat) (v6:AV),G1.Wf→Mv h F J b h1 G1 [h.n+1+1,h.n+1,h.n] I→h1.cell h.n=some [[.int .i64 x.kind,.int .i64 x.n,v]]→h1.cell (h.n+1)=some [[.int .i64 0,.int .i64 0,.nils]]→h1.cell (h.n+1+1)=some [[.int .i64 x.kind,.int .i64 n1,.nils]]→
     (∀ V h' v,(ei V h' [.cell true 3 3]).map eO=some v→(bw ks x.l G1).2.2=0→(∃ r',v= .agg r'∧VaA (.mk x.kind n1 (bw ks x.l G1).2.1) r')→bU h F J b h' (bw ks x.l G1).1→Q (some (.ret,V,h')))→
     (∀ V h',(bw ks x.l G1).2.2≠0→bU h F J b h' (bw ks x.l G1).1→Q (some (.panic (.iface lS (.int .i64 (bw ks x.l G1).2.2)),V,h')))→
     Q (ap (ai Tryz.prog po) 11 (.lp ia:: .ss []:: .blk 0::[.ss [.ops [(.i .l (.load true 3 (.v 4))),(.i .n (.store 3 (.v 3) (.l 0)))],.ret]])
       [.ptr m 0 0,.agg [.int .i64 x.kind,.int .i64 x.n,v],.ptr h.n 0 0,.ptr (h.n+1) 0 0,.ptr (h.n+1+1) 0 0,.junk,v6,v,.int .i64 es.length,.int .i64 0,.junk] [] h1):=by
    intro Q h1 G1 n1 I v6 hW1 mv1 d1 d2 d3 hR hP
    refine fJ (fun i V h'=>∃ v5 v10 acc rows C I G' ys,V=[.ptr m 0 0,.agg [.int .i64 x.kind,.int .i64 x.n,v],.ptr h.n 0 0,.ptr (h.n+1) 0 0,.ptr (h.n+1+1) 0 0,v5,v6,v,.int .i64 es.length,.int .i64 (i:Nat),v10]∧
     G'.Wf∧(Mv h F J b h' G' C I∧h.n+1+1∈C∧h.n+1∈C∧h.n∈C)∧h'.cell (h.n+1)=some [[.int .i64 0,.int .i64 0,.nils]]∧h'.cell (h.n+1+1)=some [[.int .i64 x.kind,.int .i64 n1,acc]]∧
     qF tV I h' acc rows∧VaL ys rows∧rows.length=i∧bw ks x.l G1=((bw ks (x.l.drop i) G').1,ys++(bw ks (x.l.drop i) G').2.1,(bw ks (x.l.drop i) G').2.2)) x.l.length
     ⟨_,_,_,[],_,I,G1,[],rfl,hW1,⟨mv1,by simp,by simp,by simp⟩,d2,d3,.inl ⟨rfl,rfl⟩,rfl,rfl,rfl⟩ ?_ ?_
    ·rintro i V h' hi ⟨v5,v10,acc,rows,C,I,G',ys,rfl,hW',⟨mv,m1,m2,m3⟩,c2,c3,ha,hr,hri,hq⟩ next
     have hlt:(i:Int)<(es.length:Int):=by rw[hn];omega
     obtain⟨y,hy⟩:=iP hi
     obtain⟨q,i1,j1,x1⟩:=hix i y hy
     obtain⟨o1,o2⟩:=x1.one
     have hw:=w64 (n:=(i:Int)+1) (by omega) (by omega)
     have mvp:=mv.push [q]
     have hc':(h'.push [q]).cell m=some [[.ptr b 0 0,gv]]:=(mvp.old hm hF).trans hc
     have p2:(h'.push [q]).cell (h.n+1)=some [[.int .i64 0,.int .i64 0,.nils]]:=(aW (mv.lt m2)).trans c2
     have p3:(h'.push [q]).cell (h.n+1+1)=some [[.int .i64 x.kind,.int .i64 n1,acc]]:=(aW (mv.lt m1)).trans c3
     have hap:qF tV I (h'.push [q]) acc rows:=ha
     obtain⟨h2,⟨q2,e2,r2⟩,mv2,k1,k2,k3⟩:=mvp.callF (R:=fun h2=>∃ q2,ai Tryz.prog po 128 [.ptr m 0 0,.agg q] (h'.push [q])=some (q2,h2)∧GM ks G' y q2) (G':=(dm ks y G').1) fun F2 J2 g2 hF2 _=>by
      obtain⟨q2,h2,e2,r2,d2⟩:=ih y (by have:=VD.lt_mem (eR hy);omega) (by have:=VD.size_mem (eR hy);omega) q (h'.push [q]) F2 J2 G' g2 hW' (by have:=mv.n;simp only[aJ];omega) (hF2 m hm hF) hc' x1
      exact⟨h2,⟨q2,e2,r2⟩,d2⟩
     rw[HE hy,yI]at hq
     have f2:h2.cell (h.n+1)=some [[.int .i64 0,.int .i64 0,.nils]]:=(k1 _ (by simp[m2])).trans p2
     have f3:h2.cell (h.n+1+1)=some [[.int .i64 x.kind,.int .i64 n1,acc]]:=(k1 _ (by simp[m1])).trans p3
     rcases r2 with⟨hz,r',rfl,x2⟩ | ⟨hz,rfl⟩
     ·rw[if_neg (by simp[hz])]at hq
      obtain⟨o3,o4⟩:=x2.one
      obtain⟨acc2,h3,I3,e3,a1,mv3,a3,a4⟩:=Km (e:=tV) mv2 (hap.keep k3) (row:=r') o3 (by rw[hri];omega)
      obtain⟨oA,cA⟩:=a1.cell
      rw[aC ia.eq_1]
      simp only[sim,af,reduceAdd,reduceSub,replicate,reduceCtorEq,reduceLeDiff,reduceLT,aa,hlt,i1,j1,o1,o2,br o2,p3,e2,f3,o3,o4,e3,a3,oA,cA,hw]
      refine next _ _ ⟨_,_,_,_,_,I3,_,ys++[(dm ks y G').2.1],rfl,oK ks y G' hW',⟨mv3.set (by simp[m1]) _,by simp[m1],by simp[m2],by simp[m3]⟩,?_,bi,a1.keep fun _ _=>rfl,hr.append x2,by simp[hri],?_⟩
      ·rw[aV (by omega),a3]
       exact f2
      ·rw[hq]
       simp
     ·rw[if_pos hz]at hq
      rw[aC ia.eq_1]
      simp only[sim,af,reduceAdd,reduceSub,replicate,reduceCtorEq,reduceLeDiff,reduceLT,aa,hlt,i1,j1,o1,o2,br o2,p3,e2]
      have q1:(bw ks x.l G1).2.2=(dm ks y G').2.2:=by rw[hq]
      have q2:(bw ks x.l G1).1=(dm ks y G').1:=by rw[hq]
      rw[←q1]at hz ⊢
      exact hP _ _ hz (by rw[q2];exact mv2.did)
    ·rintro V h' ⟨v5,v10,acc,rows,C,I,G',ys,rfl,hW',⟨mv,m1,m2,m3⟩,c2,c3,ha,hr,hri,hq⟩
     have hlt:¬ ((x.l.length:Int)<(es.length:Int)):=by rw[hn];omega
     rw[List.drop_length]at hq
     simp only[bw,List.append_nil]at hq
     obtain⟨oA,cA⟩:=ha.cell
     rw[aC ia.eq_1]
     simp only[sim,af,reduceAdd,reduceSub,replicate,reduceCtorEq,reduceLeDiff,reduceLT,aa,hlt,c3,c2,oA,cA]
     refine hR _ _ (.agg [.int .i64 x.kind,.int .i64 n1,acc]) (by simp only[sim,oA,List.all_cons,List.all_nil,List.length_cons,List.length_nil,Option.map_some,Option.bind_some,List.getD_cons_zero,List.getD_cons_succ,List.take_succ_cons,List.take_zero,List.drop_zero]) ?_ ⟨_,rfl,?_⟩ ?_
     ·rw[hq]
     ·rw[hq]
      exact VaA.mk (x:= .mk x.kind n1 ys) ha.sla hr
     ·rw[hq]
      exact(mv.set m2 _).did
   have m0:=((Mv.start g).push [[.int .i64 x.kind,.int .i64 x.n,v]]).push [[.int .i64 0,.int .i64 0,.nils]]
   have m1:=m0.push [[.int .i64 x.kind,.int .i64 x.n,.nils]]
   have q0:(((h.push [[.int .i64 x.kind,.int .i64 x.n,v]]).push [[.int .i64 0,.int .i64 0,.nils]]).push [[.int .i64 x.kind,.int .i64 x.n,.nils]]).cell m=some [[.ptr b 0 0,gv]]:=(m1.old hm hF).trans hc
   refine Eq (Post:=fun q h'=>GM ks G x q∧bU h F J b h' (dm ks x G).1) H7 rfl fun Q hR hP=> ?_;unfold AA
   by_cases h4:x.kind=4
   ·have hh:cN ks G x.kind x.n=jr ks G x.n:=by rw[cN,if_pos h4]
    rw[hh]at hve
    rw[h4]at m1 q0 rest
    obtain⟨h2,⟨q2,e2,r2⟩,mv2,k1,k2,k3⟩:=m1.callF (R:=fun h2=>∃ q2,ai Tryz.prog po 146 [.ptr m 0 0,.int .i64 x.n] _=some (q2,h2)∧KS ks G x.n q2) (G':=(jr ks G x.n).1) fun F2 J2 g2 hF2 _=>by
     obtain⟨q2,h2,e2,r2,d2⟩:=FE g2 hW (by simp only[aJ];omega) (hF2 m hm hF) q0 hg hk x.n
     exact⟨h2,⟨q2,e2,r2⟩,d2⟩
    have f1:h2.cell h.n=some [[.int .i64 4,.int .i64 x.n,v]]:=(k1 _ (by simp[aJ])).trans fA
    have f2:h2.cell (h.n+1)=some [[.int .i64 0,.int .i64 0,.nils]]:=(k1 _ (by simp[aJ])).trans gK
    have f3:h2.cell (h.n+1+1)=some [[.int .i64 4,.int .i64 x.n,.nils]]:=(k1 _ (by simp[aJ])).trans dk
    rw[h4]at hve
    rcases r2 with⟨hz,rfl⟩ | ⟨hz,rfl⟩
    ·rw[if_neg (by simp[hz])]at hve
     simp only[sim,af,reduceAdd,reduceSub,replicate,reduceCtorEq,reduceLeDiff,reduceLT,aa,hv,h4,e2,f1,f3,aV (show h.n≠h.n+1+1 by omega),hsl.len,hsl.fits]
     refine rest Q _ (jr ks G x.n).1 (jr ks G x.n).2.1 _ _ (Bh ks G x.n hW) (mv2.set (by simp[aJ]) _) ?_ ?_ bi (fun V h' v' e hz2 hr hd=> ?_) (fun V h' hz2 hd=> ?_)
     ·rw[aV (by omega)];exact f1
     ·rw[aV (by omega)];exact f2
     ·obtain⟨r',rfl,hr⟩:=hr
      rw[if_neg (by simp[hz2])]at hve
      refine hR _ _ _ e ⟨.inl ⟨by rw[hve],r',rfl,by rw[hve];exact hr⟩,by rw[hve];exact hd⟩
     ·rw[if_pos hz2]at hve
      refine hP _ _ _ ⟨.inr ⟨by rw[hve];exact hz2,by rw[hve]⟩,by rw[hve];exact hd⟩
    ·rw[if_pos hz]at hve
     simp only[sim,af,reduceAdd,reduceSub,replicate,reduceCtorEq,reduceLeDiff,reduceLT,aa,hv,h4,e2]
     refine hP _ _ _ ⟨.inr ⟨by rw[hve];exact hz,by rw[hve]⟩,by rw[hve];exact mv2.did⟩
   ·have hh:cN ks G x.kind x.n=(G,x.n,0):=by rw[cN,if_neg h4]
    rw[hh]at hve
    rw[if_neg (by simp)]at hve
    simp only[sim,af,reduceAdd,reduceSub,replicate,reduceCtorEq,reduceLeDiff,reduceLT,aa,hv,h4,hsl.len,hsl.fits]
    refine rest Q _ G x.n _ _ hW m1 fA gK dk (fun V h' v' e hz2 hr hd=> ?_) (fun V h' hz2 hd=> ?_)
    ·obtain⟨r',rfl,hr⟩:=hr
     rw[if_neg (by simp[hz2])]at hve
     refine hR _ _ _ e ⟨.inl ⟨by rw[hve],r',rfl,by rw[hve];exact hr⟩,by rw[hve];exact hd⟩
    ·rw[if_pos hz2]at hve
     refine hP _ _ _ ⟨.inr ⟨by rw[hve];exact hz2,by rw[hve]⟩,by rw[hve];exact hd⟩
theorem dM:VaA aD [.int .i64 0,.int .i64 0,.nils]:=by
 simp only[aD,VaA]
 exact⟨_,[],rfl,.inl ⟨rfl,rfl⟩,rfl⟩
end
def zE (mb bb fb:Nat) (left:Int):Asn:=ah mb [[.ptr bb 0 0,.msl fb 0 0 tFr,.int .i64 left]]
section
variable {h h' h0:AH} {F J F0 J0:Nat→Prop} {L:List Asn} {mb bb fb:Nat} {left:Int} {below:List FrD} {top:FrD}
theorem jv:∀ {rs:List (List AV)} {fs:List FrD} {r:List AV} {f:FrD} {h:AH} {F J:Nat→Prop},rs.length=fs.length→((dX (rs++[r]) (fs++[f])).A h F J↔(dx (lN r f) (dX rs fs)).A h F J)
 | [],[],r,f,h,F,J,_=>Iff.rfl
 | q::rs,g::fs,r,f,h,F,J,hl=>by
   have ih:∀ {h:AH} {F J:Nat→Prop},(dX (rs++[r]) (fs++[f])).A h F J↔(dx (lN r f) (dX rs fs)).A h F J:=jv (by simpa using hl)
   constructor
   ·intro x
    exact jg (eC (fun _ _ _ y=>y) (fun _ _ _ y=>ih.1 y) x)
   ·intro x
    exact eC (fun _ _ _ y=>y) (fun _ _ _ y=>ih.2 y) (jg x)
 | [],_::_,_,_,_,_,_,hl=>by simp at hl
 | _::_,[],_,_,_,_,_,hl=>by simp at hl
structure K3 (h:AH) (mb bb fb:Nat) (left:Int) (below:List FrD) (top:FrD) (a:List AV) (sv nv g:AV):Prop where
 m:h.cell mb=some [[.ptr bb 0 0,.msl fb 0 (below.length+1) tFr,.int .i64 left]]
 mn:mb<h.n
 rd:∀ (n j:Nat) (v:AV),(ct top a sv nv g)[j]? =some v→aK false n h (.ptr fb below.length j)=some v
 arg:aK true 3 h (.ptr fb below.length 3)=some (.agg a)
 all:aK true 10 h (.ptr fb below.length 0)=some (.agg (ct top a sv nv g))
 ha:VaA top.arg a
 hg:SlA 3 g (cr top.gates)
 sv:sv.one=true∧sv.cells=[sv]∧dO sv=some top.stack.length∧∀ s,cU s (some tV) sv=true
 nv:nv.one=true∧nv.cells=[nv]∧dO nv=some top.names.length∧(∀ s,cU s (some tV) nv=true)∧∀ (q:IntKind) (i:Nat) (y:VD),top.names[i]? =some y→∃ p r,cj (some tV) none nv (.int q (i:Int))=some p∧aK true 3 h p=some (.agg r)∧VaA y r
 fbn:fb<h.n
theorem cQ (s0:St h0 F0 J0 h L) (i:Nat) (hi:L[i]? =some (dN mb bb fb left below top)):∃ a sv nv g,K3 h mb bb fb left below top a sv nv g:=by
 obtain⟨F,J,x⟩:=s0.get i hi
 obtain⟨rs,ex,a,sv,nv,g,hrl,ha,hg,s⟩:=ik x
 have q1:=(s.cell 1 rfl).1
 have g6:=bQ top a sv nv g ha.len3.1
 obtain⟨F1,J1,x1⟩:=s.get 2 rfl
 obtain⟨F2,J2,x2⟩:=s.get 3 rfl
 have r1:=gW x1
 have r2:=gW x2
 refine⟨a,sv,nv,g,(s.cell 0 rfl).1,(s.cell 0 rfl).2,fun n j v hv=>km q1 hrl hv,?_,?_,ha,hg,⟨r1.1,r1.2.1,r1.2.2.1,r1.2.2.2.1⟩,r2,(s.cell 1 rfl).2⟩
 ·rw[bV,q1,Option.bind_some,mM hrl,Option.bind_some]
  unfold ldA
  rw[if_pos rfl,if_pos (by rw[g6.2.1];decide)]
  match a,ha.len3.1 with
  | [x,y,z],_=>rfl
 ·rw[bV,q1,Option.bind_some,mM hrl,Option.bind_some]
  exact br g6.2.1
theorem zf (s0:St h0 F0 J0 h L) (i:Nat) (hi:L[i]? =some (dN mb bb fb left below top)) (pc:Nat):∃ h',aE 1 h (.ptr fb below.length 2) (.int .i64 (pc:Int))=some h'∧St h0 F0 J0 h' (L.set i (dN mb bb fb left below {top with pc:=pc})):=by
 refine s0.call (R:=fun h'=>aE 1 h (.ptr fb below.length 2) (.int .i64 (pc:Int))=some h') i hi fun F J x=> ?_
 obtain⟨rs,ex,a,sv,nv,g,hrl,ha,hg,s⟩:=ik x
 have g6:=bQ top a sv nv g ha.len3.1
 have hr:(ct top a sv nv g).set 2 (.int .i64 (pc:Int))=ct {top with pc:=pc} a sv nv g:=rfl
 have s1:=s.set 1 rfl (rs++ct {top with pc:=pc} a sv nv g::ex)
 exact⟨_,kI (s.cell 1 rfl).1 hrl rfl rfl (by rw[g6.2.1];decide) hr,kR (top:={top with pc:=pc}) ha hg s1⟩
theorem DX (s0:St h0 F0 J0 h L) (i:Nat) (hi:L[i]? =some (dN mb bb fb left below top)) (l:Int):∃ h',aE 1 h (.ptr mb 0 2) (.int .i64 l)=some h'∧St h0 F0 J0 h' (L.set i (dN mb bb fb l below top)):=by
 refine s0.call (R:=fun h'=>aE 1 h (.ptr mb 0 2) (.int .i64 l)=some h') i hi fun F J x=> ?_
 obtain⟨rs,ex,a,sv,nv,g,hrl,ha,hg,s⟩:=ik x
 have s1:=s.set 0 rfl [[.ptr bb 0 0,.msl fb 0 (below.length+1) tFr,.int .i64 l]]
 exact⟨_,bo (s.cell 0 rfl).1 rfl rfl rfl (by simp),kR ha hg s1⟩
theorem vI (f:FrD) (a:List AV) (s n g n':AV) (nm:List VD) (ha:a.length=3):(ct f a s n g).set 7 n'=ct {f with names:=nm} a s n' g:=by
 match a,ha with
 | [x,y,z],_=>rfl
theorem Gz (s0:St h0 F0 J0 h L) (i:Nat) (hi:L[i]? =some (dN mb bb fb left below top)) {nm:List VD} {v:VD} (hn:top.names=nm++[v]) {a:List AV} {sv nv g:AV} (hv:K3 h mb bb fb left below top a sv nv g):
  ∃ nv' h',ju nv none (some (.int .i64 (nm.length:Int)))=some nv'∧nv'.one=true∧nv'.cells=[nv']∧aE 1 h (.ptr fb below.length 7) nv'=some h'∧St h0 F0 J0 h' (L.set i (dN mb bb fb left below {top with names:=nm})):=by
 obtain⟨h',nv',⟨e1,e2,e3,e4⟩,s'⟩:=s0.callE (R:=fun h' nv'=>ju nv none (some (.int .i64 (nm.length:Int)))=some nv'∧nv'.one=true∧nv'.cells=[nv']∧aE 1 h (.ptr fb below.length 7) nv'=some h') i hi (Y:=fun _=>dN mb bb fb left below {top with names:=nm}) fun F J x=>by
  obtain⟨rs,ex,a',sv',nv',g',hrl,ha,hg,s⟩:=ik x
  have g6:=bQ top a' sv' nv' g' ha.len3.1
  have l7:=km (n:=1) (s.cell 1 rfl).1 hrl g6.2.2.1
  have l7':=hv.rd 1 7 nv (bQ top a sv nv g hv.ha.len3.1).2.2.1
  rw[l7]at l7'
  injection l7' with l7'
  subst l7'
  obtain⟨F1,J1,x1⟩:=s.get 3 rfl
  rw[hn]at x1
  obtain⟨b,hb⟩:=vP x1 (by simp)
  rw[List.length_append,List.length_singleton]at hb
  subst hb
  have s1:=s.set 1 rfl (rs++ct {top with names:=nm} a' sv' (.msl b 0 nm.length tV) g'::ex)
  have s2:St h F J _ (ER mb bb fb left below {top with names:=nm} rs ex a' sv' (.msl b 0 nm.length tV) g'):=s1.upd 3 rfl fun _ _ _ x=>by rw[hn]at x;exact wj x
  exact⟨_,.msl b 0 nm.length tV,⟨uc (by omega),rfl,rfl,kI (s.cell 1 rfl).1 hrl rfl rfl (by rw[g6.2.1];decide) (vI _ _ _ _ _ _ nm ha.len3.1)⟩,kR (top:={top with names:=nm}) ha hg s2⟩
 exact⟨nv',h',e1,e2,e3,e4,s'⟩
theorem Dy {b n:Nat} {l:List VD} (x:(gq (.msl b 0 n tV) l).A h F J) {i:Nat} (hi:i<l.length) {v:VD} {r:List AV} (hv:VaA v r):∃ h',aE 3 h (.ptr b i 0) (.agg r)=some h'∧Did h F J h' (gq (.msl b 0 n tV) (l.set i v)):=by
 obtain⟨rows,hl,x⟩:=x
 have hlen:=hl.len
 rcases x with⟨⟨_,e⟩,_⟩ | ⟨⟨b',es⟩,⟨e,h1,h2⟩,a1,a2,a3,a4⟩
 ·cases e
 ·injection e with e1 _ e2 _
  simp only at e1 h1 h2 a1 a3 a4
  subst e1
  have hir:i<rows.length:=by omega
  have hie:i<es.length:=by omega
  obtain⟨q,hq⟩:∃ q,es[i]? =some q:=⟨_,List.getElem?_eq_getElem hie⟩
  have hq3:q.length=3:=by
   have h5:rows[i]? =some q:=by
    conv=>lhs;rw[h2]
    rw[List.getElem?_take_of_lt hir]
    exact hq
   obtain⟨y,hy⟩:∃ y,l[i]? =some y:=⟨_,List.getElem?_eq_getElem hi⟩
   obtain⟨r',h6,h7⟩:=hl.get hy
   rw[h5]at h6
   injection h6 with h6
   rw[h6]
   exact h7.len3.1
  have hst:stA q 0 r=r:=by
   unfold stA
   rw[List.take_zero,List.nil_append,List.drop_of_length_le (by have:=hv.len3.1;omega),List.append_nil]
  have hset:∀ {l:List VD} {rows:List (List AV)} {i:Nat},VaL l rows→i<l.length→VaL (l.set i v) (rows.set i r):=by
   intro l
   induction l with
   | nil=>intro rows i _ hi;simp at hi
   | cons y l ih=>
     intro rows i hl hi
     obtain⟨r0,rs,rfl,q1,q2⟩:=hl
     cases i with
     | zero=>exact⟨r,rs,rfl,hv,q2⟩
     | succ i=>exact⟨r0,rs.set i r,rfl,q1,ih q2 (by simpa using hi)⟩
  refine⟨_,bo (es:=es) (e:=q) a4 hq hv.len3.2 hv.len3.1 (by omega),F,J,⟨rows.set i r,hset hl hi,.inr ⟨⟨b,es.set i r⟩,⟨by simp only[List.length_set,e2],by simpa using h1,?_⟩,a1,a2,a3,?_⟩⟩,⟨Nat.le_refl _,Nat.le_refl _,fun k _ hk=>aV fun e=>hk ((a1 k).2 e),fun _ _ _=>rfl⟩,fun _=> .inl,fun _=> .inl⟩
  ·simp only[List.length_set]
   rw[List.take_set]
   conv=>lhs;rw[h2]
  ·simp only[AV.cells,hst]
   exact bi
theorem zN {n b i off:Nat} {h h':AH} {r:List AV} (hs:aE n h (.ptr b i off) (.agg r)=some h'):aK true n h' (.ptr b i off)=some (.agg r):=by
 unfold aE at hs
 simp only[Option.bind_eq_some_iff]at hs
 obtain⟨es,h2,e,h3,h4⟩:=hs
 split at h4
 ·rename_i hc
  injection h4 with h4
  subst h4
  have hi:=(List.getElem?_eq_some_iff.1 h3).1
  have c2:=hc.2.1
  simp only[AV.cells]at c2
  rw[bV,bi,Option.bind_some,List.getElem?_set_self hi,Option.bind_some]
  have hl:=jI e r off (by omega)
  simp only[AV.cells,ldA,if_true]
  have:((stA e off r).drop off).take n=r:=by
   unfold stA
   rw[List.append_assoc,List.drop_left' (by simp;omega),List.take_left' c2]
  rw[this]
  exact if_pos (by omega)
 ·cases h4
theorem FI (s0:St h0 F0 J0 h L) (i:Nat) (hi:L[i]? =some (dN mb bb fb left below top)) {v:VD} {r:List AV} (hv:VaA v r) (hl:top.names.length≤1000000) {bz:Nat} (hz:h.cell bz=some [zR3]) {a:List AV} {sv nv g:AV} (mv:K3 h mb bb fb left below top a sv nv g):
  ∃ q h1 h2 h3,aG true tV nv (.msl bz 0 1 tV) h=some (.msl q 0 (top.names.length+1) tV,h1)∧aE 3 h1 (.ptr q top.names.length 0) (.agg r)=some h2∧aE 1 h2 (.ptr fb below.length 7) (.msl q 0 (top.names.length+1) tV)=some h3∧aK true 3 h3 (.ptr q top.names.length 0)=some (.agg r)∧
    St h0 F0 J0 h3 (L.set i (dN mb bb fb left below {top with names:=top.names++[v]})):=by
 have zv:VaA aD zR3:=dM
 obtain⟨h3,⟨q,h1,h2⟩,⟨e1,e2,e3,e4⟩,s'⟩:=s0.callE (R:=fun h3 (q:Nat×AH×AH)=>aG true tV nv (.msl bz 0 1 tV) h=some (.msl q.1 0 (top.names.length+1) tV,q.2.1)∧aE 3 q.2.1 (.ptr q.1 top.names.length 0) (.agg r)=some q.2.2∧aE 1 q.2.2 (.ptr fb below.length 7) (.msl q.1 0 (top.names.length+1) tV)=some h3∧aK true 3 h3 (.ptr q.1 top.names.length 0)=some (.agg r)) i hi (Y:=fun _=>dN mb bb fb left below {top with names:=top.names++[v]}) fun F J x=>by
  obtain⟨rs,ex,a',sv',nv',g',hrl,ha,hg,s⟩:=ik x
  have g6:=bQ top a' sv' nv' g' ha.len3.1
  have l7:=km (n:=1) (s.cell 1 rfl).1 hrl g6.2.2.1
  have l7':=mv.rd 1 7 nv (bQ top a sv nv g mv.ha.len3.1).2.2.1
  rw[l7]at l7'
  injection l7' with l7'
  subst l7'
  obtain⟨h1,e1,s1⟩:=s.app 3 rfl hz zv hl
  obtain⟨h2,e2,s2⟩:=s1.call (R:=fun h2=>aE 3 h1 (.ptr h.n top.names.length 0) (.agg r)=some h2) 3 rfl fun F J x=>Dy x (i:=top.names.length) (by simp) hv
  rw[show(top.names++[aD]).set top.names.length v=top.names++[v] from Bu top.names [] aD v rfl]at s2
  have st:=kI (v:= .msl h.n 0 (top.names.length+1) tV) (s2.cell 1 rfl).1 hrl rfl rfl (by rw[g6.2.1];decide) (vI _ _ _ _ _ _ (top.names++[v]) ha.len3.1)
  have s3:=s2.set 1 rfl (rs++ct {top with names:=top.names++[v]} a' sv' (.msl h.n 0 (top.names.length+1) tV) g'::ex)
  obtain⟨F4,J4,x4⟩:=s3.get 3 rfl
  obtain⟨p,r',p1,p2,p3⟩:=(gW x4).2.2.2.2 .i64 top.names.length v (AZ top.names [] v rfl)
  refine⟨_,(h.n,h1,h2),⟨e1,e2,st,?_⟩,kR (top:={top with names:=top.names++[v]}) ha hg s3⟩
  -- what was put there is there still
  obtain⟨F5,J5,x5⟩:=s2.get 3 rfl
  have hne:fb≠h.n:=by have:=(s.cell 1 rfl).2;omega
  rw[bV,aV (Ne.symm hne),←bV (agg:=true) (n:=3)]
  exact zN e2
 exact⟨q,h1,h2,h3,e1,e2,e3,e4,s'⟩
theorem ng (x:(dN mb bb fb left below top).A h F J):∃ rs ex row,rs.length=below.length∧row.length=10∧row.all AV.one=true∧St h F J h [ah mb [[.ptr bb 0 0,.msl fb 0 (below.length+1) tFr,.int .i64 left]],ah fb (rs++row::ex),lN row top,dX rs below]:=by
 obtain⟨⟨rs,row,ex⟩,x⟩:=x
 obtain⟨F1,J1,F2,J2,x1,⟨F3,J3,F4,J4,x3,⟨F5,J5,F6,J6,x5,x6,r6⟩,r4⟩,r2⟩:=x
 have x5':=x5
 obtain⟨⟨a,s,n,g⟩,⟨e,ha,hg⟩,y⟩:=x5'
 simp only at e
 have g6:=bQ top a s n g ha.len3.1
 obtain⟨_,_,_,_,y1,y2,_⟩:=y
 have hgo:g.one=true:=by
  have hg:SlA _ g _:=hg
  rcases hg with⟨_,rfl⟩ | ⟨id,rfl⟩<;>rfl
 refine⟨rs,ex,row,j6 x6,by rw[e];exact g6.2.1,by rw[e];exact mN ha.len3 (gW y1).1 (gW y2).1 hgo,St.start ?_⟩
 exact⟨F1,J1,F2,J2,x1,⟨F3,J3,F4,J4,x3,⟨F5,J5,F6,J6,x5,bh.one x6,r6⟩,r4⟩,r2⟩
theorem pK {rs ex:List (List AV)} {row:List AV} (s:St h0 F0 J0 h [ah mb [[.ptr bb 0 0,.msl fb 0 (below.length+1) tFr,.int .i64 left]],ah fb (rs++row::ex),lN row top,dX rs below]):Did h0 F0 J0 h (dN mb bb fb left below top):=
 Did.imp (fun _ _ _ x=>by
  obtain⟨F1,J1,F2,J2,x1,⟨F3,J3,F4,J4,x3,⟨F5,J5,F6,J6,x5,x6,r6⟩,r4⟩,r2⟩:=x
  exact⟨⟨rs,row,ex⟩,F1,J1,F2,J2,x1,⟨F3,J3,F4,J4,x3,⟨F5,J5,F6,J6,x5,bh.one' x6,r6⟩,r4⟩,r2⟩) s
theorem tK {f:FrD} {a:List AV} {g:AV} (ha:VaA f.arg a) (hg:SlA 3 g (cr f.gates)) (hs:f.stack=[]) (hn:f.names=[]):(lN (ct f a .nils .nils g) f).A h (fun _=>False) (fun _=>False):=by
 have e:∀ (l:List VD),l=[]→(gq .nils l).A h (fun _=>False) (fun _=>False):=fun l hl=>by
  subst hl
  exact⟨[],rfl,.inl ⟨⟨rfl,rfl⟩,fun _ h=>h,fun _ h=>h⟩⟩
 exact⟨⟨a,.nils,.nils,g⟩,⟨rfl,ha,hg⟩,fun _=>False,fun _=>False,fun _=>False,fun _=>False,e _ hs,e _ hn,fun k=>by simp,fun j=>by simp,fun _ h=>h.elim,fun _ h=>h.elim⟩
theorem St.front {X:Asn} (s:St h0 F0 J0 h L) (i:Nat) (hi:L[i]? =some X):St h0 F0 J0 h (X::L.eraseIdx i):=s.imp fun _ _ _ x=>(bh.front hi).1 x
theorem Ey (s0:St h0 F0 J0 h L) (i:Nat) (hi:L[i]? =some (dN mb bb fb left below top)) {f:FrD} {a:List AV} {g:AV} (ha:VaA f.arg a) (hg:SlA 3 g (cr f.gates)) (hs:f.stack=[]) (hn:f.names=[]) (hb:below.length≤1000) {bz:Nat} (hz:h.cell bz=some [ct f a .nils .nils g]):
  ∃ h1 h2,aG true tFr (.msl fb 0 (below.length+1) tFr) (.msl bz 0 1 tFr) h=some (.msl h.n 0 (below.length+2) tFr,h1)∧aE 1 h1 (.ptr mb 0 1) (.msl h.n 0 (below.length+2) tFr)=some h2∧St h0 F0 J0 h2 (L.set i (dN mb bb h.n left (below++[top]) f)):=by
 obtain⟨h2,h1,⟨e1,e2⟩,s'⟩:=s0.callE (R:=fun h2 h1=>aG true tFr (.msl fb 0 (below.length+1) tFr) (.msl bz 0 1 tFr) h=some (.msl h.n 0 (below.length+2) tFr,h1)∧aE 1 h1 (.ptr mb 0 1) (.msl h.n 0 (below.length+2) tFr)=some h2) i hi (Y:=fun _=>dN mb bb h.n left (below++[top]) f) fun F J x=>by
  obtain⟨rs,ex,row,hrl,hl10,ho,s⟩:=ng x
  have c1:=(s.cell 1 rfl).1
  have g6:=bQ f a .nils .nils g ha.len3.1
  have hgo:g.one=true:=by rcases hg with⟨_,rfl⟩ | ⟨id,rfl⟩<;>rfl
  have ho2:([ct f a .nils .nils g].all fun x=>x.all AV.one)=true:=by simp only[List.all_cons,List.all_nil,Bool.and_true];exact mN ha.len3 rfl rfl hgo
  have htk:(rs++row::ex).take (below.length+1)=rs++[row]:=by
   rw[←hrl,List.take_append]
   simp[List.take_of_length_le (Nat.le_succ rs.length)]
  have hap:aG true tFr (.msl fb 0 (below.length+1) tFr) (.msl bz 0 1 tFr) h=some (.msl h.n 0 (below.length+2) tFr,(h.set fb none).push (rs++[row]++[ct f a .nils .nils g])):=by
   have he:bS h tFr (.msl bz 0 1 tFr)=some [ct f a .nils .nils g]:=by simp[bS,hz]
   simp only[aG,he,Option.bind_some,List.length_singleton]
   rw[if_neg (by decide)]
   simp only[dU,c1,Option.bind_some]
   rw[if_pos ⟨by simp,by simp,ho2⟩,if_pos ⟨trivial,trivial,by omega⟩,if_pos (by simp;omega),htk]
   rfl
  have s1:=s.del 1 rfl
  have s2:=s1.push (rs++[row]++[ct f a .nils .nils g])
  have hnn:(h.set fb none).n=h.n:=rfl
  have st:aE 1 ((h.set fb none).push (rs++[row]++[ct f a .nils .nils g])) (.ptr mb 0 1) (.msl h.n 0 (below.length+2) tFr)=some (((h.set fb none).push (rs++[row]++[ct f a .nils .nils g])).set mb (some [[.ptr bb 0 0,.msl h.n 0 (below.length+2) tFr,.int .i64 left]])):=bo (n:=1) (i:=0) (x:= .msl h.n 0 (below.length+2) tFr) (off:=1) (e:=[.ptr bb 0 0,.msl fb 0 (below.length+1) tFr,.int .i64 left]) (s2.cell 1 rfl).1 rfl rfl rfl (by simp)
  have s3:=s2.set 1 rfl [[.ptr bb 0 0,.msl h.n 0 (below.length+2) tFr,.int .i64 left]]
  refine⟨_,_,⟨hap,st⟩,pK (rs:=rs++[row]) (ex:=[]) (row:=ct f a .nils .nils g) ?_⟩
  rw[List.length_append,List.length_singleton]
  have s4:=(s3.front 2 rfl).drop
  have s5:St _ _ _ _ [dX (rs++[row]) (below++[top]),ah h.n (rs++[row]++[ct f a .nils .nils g]),ah mb [[.ptr bb 0 0,.msl h.n 0 (below.length+2) tFr,.int .i64 left]]]:=
   (((s4.front 2 rfl).front 3 rfl).front 1 rfl).imp fun _ _ _ x=>by
     have y:=bh.star_out x
     exact eC (fun _ _ _ z=>(jv hrl).2 z) (fun _ _ _ z=>z) y
  have s6:=s5.add (ab.refl _) (tK ha hg hs hn) (fun _ h=>h.elim) (fun _ h=>h.elim)
  have s7:=(((s6.front 1 rfl).front 1 rfl).front 2 rfl).front 3 rfl
  exact s7
 exact⟨h1,h2,e1,e2,s'⟩
theorem Eo (s0:St h0 F0 J0 h L) (i:Nat) {t:FrD} (hi:L[i]? =some (dN mb bb fb left (below++[t]) top)):
  ∃ h',aE 1 h (.ptr mb 0 1) (.msl fb 0 (below.length+1) tFr)=some h'∧St h0 F0 J0 h' (L.set i (dN mb bb fb left below t)):=by
 refine s0.call (R:=fun h'=>aE 1 h (.ptr mb 0 1) (.msl fb 0 (below.length+1) tFr)=some h') i hi fun F J x=> ?_
 obtain⟨rs,ex,row,hrl,hl10,ho,s⟩:=ng x
 rw[List.length_append,List.length_singleton]at hrl
 obtain⟨rs',q,rfl⟩:∃ rs' q,rs=rs'++[q]:=by
  refine⟨rs.dropLast,rs.getLast (fun e=>by rw[e]at hrl;simp at hrl),(List.dropLast_concat_getLast _).symm⟩
 have hrl':rs'.length=below.length:=by simpa using hrl
 have st:aE 1 h (.ptr mb 0 1) (.msl fb 0 (below.length+1) tFr)=some (h.set mb (some [[.ptr bb 0 0,.msl fb 0 (below.length+1) tFr,.int .i64 left]])):=bo (n:=1) (i:=0) (x:= .msl fb 0 (below.length+1) tFr) (off:=1) (e:=[.ptr bb 0 0,.msl fb 0 ((below++[t]).length+1) tFr,.int .i64 left]) (s.cell 0 rfl).1 rfl rfl rfl (by simp)
 have s1:=s.set 0 rfl [[.ptr bb 0 0,.msl fb 0 (below.length+1) tFr,.int .i64 left]]
 have s2:=(s1.front 2 rfl).drop
 have s3:=(s2.front 2 rfl).imp fun _ _ _ x=>bh.star_in (eC (fun _ _ _ z=>(jv hrl').1 z) (fun _ _ _ z=>z) x)
 have s4:=(((s3.front 1 rfl).front 1 rfl).front 3 rfl).front 3 rfl
 exact⟨_,st,pK (rs:=rs') (ex:=row::ex) (row:=q) (by simpa using s4)⟩
theorem Ik (s0:St h0 F0 J0 h L) (i:Nat) (hi:L[i]? =some (dN mb bb fb left [] top)):
  ∃ h',aE 1 h (.ptr mb 0 1) (.msl fb 0 0 tFr)=some h'∧St h0 F0 J0 h' (L.set i (zE mb bb fb left)):=by
 refine s0.call (R:=fun h'=>aE 1 h (.ptr mb 0 1) (.msl fb 0 0 tFr)=some h') i hi fun F J x=> ?_
 obtain⟨rs,ex,row,hrl,hl10,ho,s⟩:=ng x
 have st:aE 1 h (.ptr mb 0 1) (.msl fb 0 0 tFr)=some (h.set mb (some [[.ptr bb 0 0,.msl fb 0 0 tFr,.int .i64 left]])):=bo (n:=1) (i:=0) (x:= .msl fb 0 0 tFr) (off:=1) (e:=[.ptr bb 0 0,.msl fb 0 1 tFr,.int .i64 left]) (s.cell 0 rfl).1 rfl rfl rfl (by simp)
 have s1:=s.set 0 rfl [[.ptr bb 0 0,.msl fb 0 0 tFr,.int .i64 left]]
 have s2:=((s1.front 3 rfl).drop.front 2 rfl).drop
 have s3:=(s2.front 1 rfl).drop
 exact⟨_,st,Did.imp (fun _ _ _ x=>bh.one' x) s3⟩
end
theorem HG {x:BitVec 64} {k:Nat} (hk:k<64) {r:Int} (hr:r=(BitVec.twoPow 64 k).toInt):CH x.toInt r=eP x.toInt k:=by
 rw[hr,xr,AP x hk]
 cases hb:x.getLsbD k
 ·refine decide_eq_false fun h=> ?_
  have:=congrArg (fun v:BitVec 64=>v.getLsbD k) h
  simp only[BitVec.getLsbD_and,hb,Bool.false_and,BitVec.getLsbD_twoPow]at this
  simp[hk]at this
 ·refine decide_eq_true (BitVec.eq_of_getLsbD_eq fun i hi=> ?_)
  rw[BitVec.getLsbD_and,BitVec.getLsbD_twoPow]
  by_cases h2:k=i
  ·subst h2
   simp[hb]
  ·simp[h2]
section
variable {h h' h0:AH} {F J F0 J0:Nat→Prop} {L:List Asn} {mb bb fb gb wb:Nat} {left:Int} {below:List FrD} {top:FrD} {ms:aI} {kept:List VD} {G:ae}
theorem bE (c:Int):ai Tryz.prog po 89 [.bool true,.int .i64 c] h=some (.inr (.iface tGo (.int .i64 c)),h):=by
 refine ag xu rfl ?_;unfold pC
 simp only[sim,af,reduceAdd,reduceSub,replicate,reduceCtorEq,reduceLeDiff,reduceLT,aa,Hw,Dz,mW (ab.refl h) (rfl:wkA (.iface tGo (.int .i64 c))=_)]
theorem bO (c:Int):ai Tryz.prog po 89 [.bool false,.int .i64 c] h=some (.inl (.tup []),h):=by
 refine ag xu rfl ?_;unfold pC
 simp only[sim,af,reduceAdd,reduceSub,replicate,reduceCtorEq,reduceLeDiff,reduceLT,aa,az (ab.refl h) (rfl:wkA (.tup [])=_)]
theorem kq (n:Int):ai Tryz.prog po 115 [.int .i64 n] h=some (.inl (.agg [.int .i64 1,.int .i64 n,.nils]),h):=by
 refine ag y7 rfl ?_;unfold rf
 simp only[sim,af,reduceAdd,reduceSub,replicate,reduceCtorEq,reduceLeDiff,reduceLT,aa]
 exact az (ab.push _ _) rfl
theorem uU (n:Int):VaA (np n) [.int .i64 1,.int .i64 n,.nils]:=⟨.nils,[],rfl,.inl ⟨rfl,rfl⟩,rfl⟩
theorem Fx (n:Int):VaA (pH n) [.int .i64 4,.int .i64 n,.nils]:=⟨.nils,[],rfl,.inl ⟨rfl,rfl⟩,rfl⟩
theorem Ir (n:Int):VaA (.mk 5 n []) [.int .i64 5,.int .i64 n,.nils]:=⟨.nils,[],rfl,.inl ⟨rfl,rfl⟩,rfl⟩
theorem uq {k n:Int} {l:List VD} {es:List (List AV)} {id:Option Nat} (hl:VaL l es):VaA (.mk k n l) [.int .i64 k,.int .i64 n,.isl id tV es]:=⟨_,es,rfl,.inr ⟨id,rfl⟩,hl⟩
theorem VaA.cells3 {v:VD} {r:List AV} (hv:VaA v r):∃ w,r=[.int .i64 v.kind,.int .i64 v.n,w]∧w.one=true:=by
 cases v with
 | mk k n l=>
   obtain⟨w,es,rfl,h1,_⟩:=hv
   exact⟨w,rfl,by rcases h1 with⟨_,rfl⟩ | ⟨id,rfl⟩<;>rfl⟩
theorem dB {v:VD} {r:List AV} (hv:VaA v r) {k:Int} (hk:v.kind=k):∃ r',ai Tryz.prog po 91 [.agg r,.int .i64 k] h=some (.inl (.agg r'),h)∧VaA v r':=by
 obtain⟨r',hw,hr'⟩:=Ay hv
 obtain⟨w,rfl,ho⟩:=hv.cells3
 have hwA:wkA (.agg [.int .i64 v.kind,.int .i64 v.n,w])=some (.agg r'):=by simp only[wkA,hw,Option.map_some]
 refine⟨r',?_,hr'⟩
 have d:decide (v.kind=k)=true:=decide_eq_true hk
 refine ag vN rfl ?_;unfold qB
 simp only[sim,af,reduceAdd,reduceSub,replicate,reduceCtorEq,reduceLeDiff,reduceLT,aa,au,d,bO,ho]
 exact az (by repeat (first | exact ab.refl _ | refine ab.trans ?_ (ab.push _ _) | refine ab.trans ?_ (ab.fresh _ _))) hwA
theorem eG {v:VD} {r:List AV} (hv:VaA v r) {k:Int} (hk:v.kind≠k):ai Tryz.prog po 91 [.agg r,.int .i64 k] h=some (.inr (.iface tGo (.int .i64 2)),h):=by
 obtain⟨w,rfl,ho⟩:=hv.cells3
 have d:decide (v.kind=k)=false:=decide_eq_false hk
 refine ag vN rfl ?_;unfold qB
 simp only[sim,af,reduceAdd,reduceSub,replicate,reduceCtorEq,reduceLeDiff,reduceLT,aa,au,d,bE,ho]
 exact mW (by repeat (first | exact ab.refl _ | refine ab.trans ?_ (ab.push _ _) | refine ab.trans ?_ (ab.fresh _ _))) rfl
theorem sY {v:VD} {r:List AV} (hv:VaA v r) (hk:v.code=0):∃ r',ai Tryz.prog po 116 [.agg r] h=some (.inl (.agg r'),h)∧VaA v r':=by
 obtain⟨r',hw,hr'⟩:=Ay hv
 have hwA:wkA (.agg r)=some (.agg r'):=by simp only[wkA,hw,Option.map_some]
 refine⟨r',?_,hr'⟩
 have d:decide (v.code=0)=true:=decide_eq_true hk
 have ck:=fun h=>jx (h:=h) hv
 obtain⟨o1,o2⟩:=hv.len3
 refine ag tJ rfl ?_;unfold nd
 simp only[sim,af,reduceAdd,reduceSub,replicate,reduceCtorEq,reduceLeDiff,reduceLT,aa,au,d,bO,ck,o1,o2]
 exact az (by repeat (first | exact ab.refl _ | refine ab.trans ?_ (ab.push _ _) | refine ab.trans ?_ (ab.fresh _ _))) hwA
theorem wY {v:VD} {r:List AV} (hv:VaA v r) (hk:v.code≠0):ai Tryz.prog po 116 [.agg r] h=some (.inr (.iface tGo (.int .i64 3)),h):=by
 have d:decide (v.code=0)=false:=decide_eq_false hk
 have ck:=fun h=>jx (h:=h) hv
 obtain⟨o1,o2⟩:=hv.len3
 refine ag tJ rfl ?_;unfold nd
 simp only[sim,af,reduceAdd,reduceSub,replicate,reduceCtorEq,reduceLeDiff,reduceLT,aa,au,d,bE,ck,o1,o2]
 exact mW (by repeat (first | exact ab.refl _ | refine ab.trans ?_ (ab.push _ _) | refine ab.trans ?_ (ab.fresh _ _))) rfl
theorem jo (s:St h0 F0 J0 h L) {ib:Nat} (hi:L[ib]? =some (cJ bb gb wb ms kept)) (hl:ms.length=kept.length):(∀ n:Nat,aK false n h (.ptr bb 0 0)=some (.ptr gb 0 0))∧∀ n:Nat,aK false n h (.ptr bb 0 1)=some (.ptr wb 0 0):=by
 obtain⟨F,J,x⟩:=s.get ib hi
 obtain⟨row,c1,_,c2,c3,_⟩:=ub x hl
 refine⟨fun n=> ?_,fun n=> ?_⟩
 ·rw[bV,c1,Option.bind_some,List.getElem?_cons_zero,Option.bind_some,eN,c2]
 ·rw[bV,c1,Option.bind_some,List.getElem?_cons_zero,Option.bind_some,eN,c3]
theorem H6 (hW:G.Wf) (i:Int) {k:Nat} {r:Int} (hk:k<64) (hr:r=(BitVec.twoPow 64 k).toInt):ai Tryz.prog po 144 [.int .i64 (G.rights i),.int .i64 r] h=some (.inl (.bool (eP (G.rights i) k)),h):=by
 obtain⟨x,hx⟩:=qQ hW i
 have e:CH (G.rights i) r=eP (G.rights i) k:=by rw[hx];exact HG hk hr
 rw[←e]
 refine ag BG rfl ?_;unfold uF
 simp only[sim,af,reduceAdd,reduceSub,replicate,reduceCtorEq,reduceLeDiff,reduceLT,aa]
 rfl
abbrev MV:FuncId:=147
abbrev zR6:List AV:=[.int .i64 0,.int .i64 0,.int .i64 0,.int .i64 0,.int .i64 0,.int .i64 0]
theorem pD (s:St h0 F0 J0 h L) {im ib ig:Nat} (hm:L[im]? =some (dN mb bb fb left below top)) (hb:L[ib]? =some (cJ bb gb wb ms kept)) (hg:L[ig]? =some (aM gb G)) (hl:ms.length=kept.length) (hW:G.Wf) {v:VD} {r:List AV} (hv:VaA v r) {k:Nat} {q:Int} (hk:k<64) (hq:q=(BitVec.twoPow 64 k).toInt):
  ai Tryz.prog po MV [.ptr mb 0 0,.agg r,.int .i64 q] h=some (if eP (G.rights v.n) k=true then .inl (.tup [.int .i64 v.n,.agg (aB (G.target v.n).1)])else .inr (.iface tGo (.int .i64 9)),h):=by
 obtain⟨w,rfl,ho⟩:=hv.cells3
 have s1:=(s.push [[.int .i64 v.kind,.int .i64 v.n,w]]).push [zR6]
 obtain⟨a,sv,nv,g,mv⟩:=cQ s1 (im+2) hm
 have l0:∀ n:Nat,aK false n _ (.ptr mb 0 0)=some (.ptr bb 0 0):=fun n=>by
  rw[bV,mv.m,Option.bind_some,List.getElem?_cons_zero,Option.bind_some,eN];rfl
 have l1:=(jo s1 (ib:=ib+2) hb hl).1
 obtain⟨F,J,gx⟩:=s1.get (ig+2) hg
 have rr:=vW (gx:IsG _ F J gb G) hW v.n
 have tt:=GF (gx:IsG _ F J gb G) hW v.n
 have hh:=H6 (h:=(h.push [[.int .i64 v.kind,.int .i64 v.n,w]]).push [zR6]) hW v.n hk hq
 have f0:aH 0 (.ptr mb 0 0)=some (.ptr mb 0 0):=rfl
 have f1:aH 0 (.ptr bb 0 0)=some (.ptr bb 0 0):=rfl
 cases hbit:eP (G.rights v.n) k with
 | false=>
   rw[hbit]at hh
   rw[if_neg (by decide)]
   refine ag BA rfl ?_;unfold vt
   simp only[sim,af,reduceAdd,reduceSub,replicate,reduceCtorEq,reduceLeDiff,reduceLT,aa,au,ho,f0,f1,l0,l1,rr,hh,bE]
   exact mW (by repeat (first | exact ab.refl _ | refine ab.trans ?_ (ab.push _ _) | refine ab.trans ?_ (ab.fresh _ _))) rfl
 | true=>
   rw[hbit]at hh
   rw[if_pos rfl]
   refine ag BA rfl ?_;unfold vt
   simp only[sim,af,reduceAdd,reduceSub,replicate,reduceCtorEq,reduceLeDiff,reduceLT,aa,au,ho,f0,f1,l0,l1,rr,hh,bO,tt,aB,aW,Kb,uk,aV,eqF,ME,ne_eq,not_false_eq_true]
   exact az (ab.set (by repeat (first | exact ab.refl _ | refine ab.trans ?_ (ab.push _ _) | refine ab.trans ?_ (ab.fresh _ _))) (by omega)) rfl
end
structure Cfg where
 (mb bb gb wb:Nat)
 ms:aI
structure Now where
 fb:Nat
 S:StD
 below:List FrD
 top:FrD
structure At (c:Cfg) (L:List Asn) (i:Nat) (n:Now):Prop where
 m:L[i]? =some (dN c.mb c.bb n.fb (n.S.left:Int) n.below n.top)
 b:L[i+1]? =some (cJ c.bb c.gb c.wb c.ms n.S.kept)
 g:L[i+2]? =some (aM c.gb n.S.G)
 w:L[i+3]? =some (aY c.wb n.S.cells n.S.log)
def put (c:Cfg) (L:List Asn) (i:Nat) (n:Now):List Asn:=(((L.set i (dN c.mb c.bb n.fb (n.S.left:Int) n.below n.top)).set (i+1) (cJ c.bb c.gb c.wb c.ms n.S.kept)).set (i+2) (aM c.gb n.S.G)).set (i+3) (aY c.wb n.S.cells n.S.log)
theorem eJ {c:Cfg} {L:List Asn} {i j:Nat} {n:Now}:(put c L i n)[j]? =if j<L.length then(if j=i+3 then some (aY c.wb n.S.cells n.S.log)else if j=i+2 then some (aM c.gb n.S.G)else if j=i+1 then some (cJ c.bb c.gb c.wb c.ms n.S.kept)else if j=i then some (dN c.mb c.bb n.fb (n.S.left:Int) n.below n.top)else L[j]?)else none:=by
 unfold put
 by_cases hj:j<L.length
 ·rw[if_pos hj]
  simp only[List.getElem?_set,List.length_set]
  by_cases h3:j=i+3
  ·subst h3;simp[hj]
  ·by_cases h2:j=i+2
   ·subst h2;simp[hj]
   ·by_cases h1:j=i+1
    ·subst h1;simp[hj]
    ·by_cases h0:j=i
     ·subst h0;simp[hj]
     ·simp[h0,h1,h2,h3,Ne.symm h0,Ne.symm h1,Ne.symm h2,Ne.symm h3]
 ·rw[if_neg hj,List.getElem?_eq_none (by simpa using hj)]
theorem At.len {c:Cfg} {L:List Asn} {i:Nat} {n:Now} (a:At c L i n):i+3<L.length:=(List.getElem?_eq_some_iff.1 a.w).1
theorem At.put {c:Cfg} {L:List Asn} {i:Nat} {n:Now} (a:At c L i n) (n':Now):At c (put c L i n') i n':=by
 have:=a.len
 refine⟨?_,?_,?_,?_⟩<;>rw[eJ]
 ·rw[if_pos (by omega),if_neg (by omega),if_neg (by omega),if_neg (by omega),if_pos rfl]
 ·rw[if_pos (by omega),if_neg (by omega),if_neg (by omega),if_pos rfl]
 ·rw[if_pos (by omega),if_neg (by omega),if_pos rfl]
 ·rw[if_pos (by omega),if_pos rfl]
theorem oN {c:Cfg} {L:List Asn} {i:Nat} {n:Now}:(Go.Proofs.YtkdbjfncchmmpaaGreat.put c L i n).length=L.length:=by simp[Go.Proofs.YtkdbjfncchmmpaaGreat.put]
theorem jz {L L':List Asn} (h:∀ j:Nat,L[j]? =L'[j]?):L=L':=List.ext_getElem? h
theorem aO {c:Cfg} {L:List Asn} {i:Nat} {n n':Now}:put c (put c L i n) i n'=put c L i n':=by
 refine jz fun j=> ?_
 rw[eJ,eJ,oN,eJ]
 by_cases hj:j<L.length
 ·simp only[if_pos hj]
  repeat' (first | rfl | split)
  all_goals first | rfl | omega
 ·simp only[if_neg hj]
theorem At.same {c:Cfg} {L:List Asn} {i:Nat} {n:Now} (a:At c L i n):Go.Proofs.YtkdbjfncchmmpaaGreat.put c L i n=L:=by
 have:=a.len
 refine jz fun j=> ?_
 rw[eJ]
 split
 ·split
  ·rename_i e;rw[e,a.w]
  ·split
   ·rename_i e;rw[e,a.g]
   ·split
    ·rename_i e;rw[e,a.b]
    ·split
     ·rename_i e;rw[e,a.m]
     ·rfl
 ·rename_i hj
  exact(List.getElem?_eq_none (Nat.le_of_not_lt hj)).symm
theorem At.setM {c:Cfg} {L:List Asn} {i:Nat} {n:Now} (a:At c L i n) (fb':Nat) (l:Nat) (below':List FrD) (top':FrD):L.set i (dN c.mb c.bb fb' (l:Int) below' top')=Go.Proofs.YtkdbjfncchmmpaaGreat.put c L i ⟨fb',{n.S with left:=l},below',top'⟩:=by
 have:=a.len
 refine jz fun j=> ?_
 rw[eJ,List.getElem?_set]
 by_cases hj:j<L.length
 ·rw[if_pos hj]
  by_cases h0:i=j
  ·subst h0
   simp[hj]
  ·rw[if_neg h0,if_neg (Ne.symm h0:¬ j=i)]
   split
   ·rename_i e;rw[e,a.w]
   ·split
    ·rename_i e;rw[e,a.g]
    ·split
     ·rename_i e;rw[e,a.b]
     ·rfl
 ·rw[if_neg hj,if_neg (by omega)]
  exact List.getElem?_eq_none (Nat.le_of_not_lt hj)
theorem At.setB {c:Cfg} {L:List Asn} {i:Nat} {n:Now} (a:At c L i n) (k:List VD):L.set (i+1) (cJ c.bb c.gb c.wb c.ms k)=Go.Proofs.YtkdbjfncchmmpaaGreat.put c L i {n with S:={n.S with kept:=k}}:=by
 have:=a.len
 refine jz fun j=> ?_
 rw[eJ,List.getElem?_set]
 by_cases hj:j<L.length
 ·rw[if_pos hj]
  by_cases h0:i+1=j
  ·subst h0
   simp[hj]
  ·rw[if_neg h0,if_neg (Ne.symm h0:¬ j=i+1)]
   split
   ·rename_i e;rw[e,a.w]
   ·split
    ·rename_i e;rw[e,a.g]
    ·split
     ·rename_i e;rw[e,a.m]
     ·rfl
 ·rw[if_neg hj,if_neg (by omega)]
  exact List.getElem?_eq_none (Nat.le_of_not_lt hj)
theorem At.setG {c:Cfg} {L:List Asn} {i:Nat} {n:Now} (a:At c L i n) (G:ae):L.set (i+2) (aM c.gb G)=Go.Proofs.YtkdbjfncchmmpaaGreat.put c L i {n with S:={n.S with G:=G}}:=by
 have:=a.len
 refine jz fun j=> ?_
 rw[eJ,List.getElem?_set]
 by_cases hj:j<L.length
 ·rw[if_pos hj]
  by_cases h0:i+2=j
  ·subst h0
   simp[hj]
  ·rw[if_neg h0,if_neg (Ne.symm h0:¬ j=i+2)]
   split
   ·rename_i e;rw[e,a.w]
   ·split
    ·rename_i e;rw[e,a.b]
    ·split
     ·rename_i e;rw[e,a.m]
     ·rfl
 ·rw[if_neg hj,if_neg (by omega)]
  exact List.getElem?_eq_none (Nat.le_of_not_lt hj)
theorem At.setW {c:Cfg} {L:List Asn} {i:Nat} {n:Now} (a:At c L i n) (cells:List Int) (log:List dE):L.set (i+3) (aY c.wb cells log)=Go.Proofs.YtkdbjfncchmmpaaGreat.put c L i {n with S:={n.S with cells:=cells,log:=log}}:=by
 have:=a.len
 refine jz fun j=> ?_
 rw[eJ,List.getElem?_set]
 by_cases hj:j<L.length
 ·rw[if_pos hj]
  by_cases h0:i+3=j
  ·subst h0
   simp[hj]
  ·rw[if_neg h0,if_neg (Ne.symm h0:¬ j=i+3)]
   split
   ·rename_i e;rw[e,a.g]
   ·split
    ·rename_i e;rw[e,a.b]
    ·split
     ·rename_i e;rw[e,a.m]
     ·rfl
 ·rw[if_neg hj,if_neg (by omega)]
  exact List.getElem?_eq_none (Nat.le_of_not_lt hj)
theorem At.cons {c:Cfg} {L:List Asn} {i:Nat} {n:Now} (a:At c L i n) (X:Asn):At c (X::L) (i+1) n:=⟨a.m,a.b,a.g,a.w⟩
theorem aj {c:Cfg} {L:List Asn} {i:Nat} {n:Now} {X:Asn}:Go.Proofs.YtkdbjfncchmmpaaGreat.put c (X::L) (i+1) n=X::Go.Proofs.YtkdbjfncchmmpaaGreat.put c L i n:=rfl
def uJ:List RS:=[(.ops [(.i (.v 3) (.box 3 (.v 1))),(.i (.v 4) (.alloc [(.int .i64 0),(.int .i64 0),.nils])),(.i (.v 5) (.alloc [(.int .i64 0)]))])]
def kK:List RS:=[(.ops [(.i .l (.mv (.v 0))),(.i .l (.load true 3 (.v 3))),(.i .l (.call (.c (.fn 126 [] [])) [(.l 1),(.l 0)])),(.i (.v 6) (.mv (.l 0)))]),(.ops [(.i .l (.mv (.v 6))),(.i (.v 8) (.bin (.int .i64) .neq (.l 0) (.c (.int .i64 0))))]),(.cond (.v 8) [(.ops [(.i .l (.build [(.int .i64 0),(.int .i64 0),.nils] [(0,1),(1,1),(2,1)] [])),(.i .l (.mv (.v 6))),(.i .n (.store 3 (.v 4) (.l 1))),(.i .n (.store 1 (.v 5) (.l 0)))]),.ret] [])]
def uX:List RS:=[(.ops [(.i .l (.mv (.v 0))),(.i .l (.mv (.v 2))),(.i .l (.build [.nilp,.nils] [(0,1),(1,1)] [(0,(.l 1)),(1,(.l 0))])),(.i .l (.box 2 (.l 0))),(.i (.v 7) (.mv (.l 0)))]),(.ops [(.i .l (.mv (.v 7))),(.i .l (.load true 3 (.v 3))),(.i .l (.call (.c (.fn 128 [] [])) [(.l 1),(.l 0)])),(.i .n (.store 3 (.v 4) (.l 0))),(.i .n (.store 1 (.v 5) (.c (.int .i64 0))))]),.ret]
def tW:List RS:=[(.ops [(.i .l (.mv (.v 0))),(.i .l (.mv (.v 2))),(.i .l (.build [.nilp,.nils] [(0,1),(1,1)] [(0,(.l 1)),(1,(.l 0))])),(.i .l (.box 2 (.l 0))),(.i (.v 7) (.mv (.l 0)))])]
def oS:List RS:=[(.ops [(.i .l (.mv (.v 2))),(.i (.v 5) (.binG .iface none true .neq (.l 0) (.c .nili)))]),(.cond (.v 5) [(.ops [(.i .l (.mv (.v 2))),(.i .l (.tas 210 true (.l 0))),(.i .l (.mv (.l 0))),(.i .l (.ext (.l 0) 0)),(.i .l (.ext (.l 1) 1)),(.i (.v 3) (.mv (.l 1))),(.i (.v 4) (.mv (.l 0)))]),(.ops [(.i .l (.mv (.v 4))),(.i (.v 6) (.un .not (.l 0)))]),(.cond (.v 6) [(.ops [(.i .l (.mv (.v 2))),(.i .n (.pan (.l 0)))])] []),(.ops [(.i .l (.build [(.int .i64 0),(.int .i64 0),.nils] [(0,1),(1,1),(2,1)] [])),(.i .l (.mv (.v 3))),(.i .n (.store 3 (.v 0) (.l 1))),(.i .n (.store 1 (.v 1) (.l 0)))])] [])]
open Go Go.RowKit
abbrev fAc:FuncId:=113
abbrev fCl:FuncId:=127
noncomputable def cAc:Code:=Tryz.f113.body.getD .skip
noncomputable def cCl:Code:=Tryz.f127.body.getD .skip
theorem JX:(Tryz.prog).funcs[fCl]? =some Tryz.f127:=Tryz.func127
theorem Hk:Tryz.f127.body=some cCl:=rfl
theorem Ld:cCl= .seq (cL cCl) (cR cCl):=rfl
theorem MM:Tryz.f127.ntmps=18:=rfl
noncomputable def clA:Oper:={dst:=some 5,op:= .call {callee:= .builtin .recover,args:= #[],argTypes:= #[]},type:=((eg (cL cCl)).getD 0 default).type,pos:=((eg (cL cCl)).getD 0 default).pos,after:= #[],guard:=none}
noncomputable def clB:Oper:={dst:=some 2,op:= .assign (.tmp 5),type:=((eg (cL cCl)).getD 1 default).type,pos:=((eg (cL cCl)).getD 1 default).pos,after:=((eg (cL cCl)).getD 1 default).after,guard:=none}
theorem EC:cL cCl= .region 0 #[clA,clB] false:=rfl
theorem Mx:bc Tryz.prog (po.mu fCl) (po.plan fCl) 18 [0,1,2,3,4,7,14] (cR cCl) []=some oS:=by kernel_rfl
theorem Lj:cz (po.plan fCl) (po.kp fCl) (cR cCl)=true:=by kernel_rfl
theorem LO:rA 2 18 (po.nv fCl) 7 [0,1,2,3,4,7,14]=true:=by kernel_rfl
theorem AK {h h':AH} {e:AV} {c6 c7:Nat} {V':List AV} (hr:ap (ai Tryz.prog po) 7 [.ss oS,.halt []] [.ptr c6 0 0,.ptr c7 0 0,e,.junk,.junk,.junk,.junk] [] h=some (.halt [],V',h'))
  {m:Mm} {w:World} {p6 p7 v:Value} (hw:WR Tryz.prog m h w) (v6:VR Tryz.prog m h (.ptr c6 0 0) p6) (v7:VR Tryz.prog m h (.ptr c7 0 0) p7) (ve:VR Tryz.prog m h e v) {u:FrameMode} (u':FrameMode)
  (hrec:∀ c:Frame,c.mode=u→∀ cs,(recoverD (c::cs)=some (v,{c with mode:=u'}::cs))∨(recoverD (c::cs)=none∧v= .nilIface∧u'=u)):
  CallsD Tryz.prog fCl #[p6,p7] u w fun e u'' w'=>(∃ v,e= .returned v)∧u''=u'∧∃ m',Ext m h m' h'∧WR Tryz.prog m' h' w'∧Below m.base w w':=by
 intro c cs hu
 have hvs:VRs Tryz.prog m h [.ptr c6 0 0,.ptr c7 0 0] [p6,p7]:=⟨rfl,fun j hj hj'=>by
  match j,hj with
  | 0,_=>exact v6
  | 1,_=>exact v7⟩
 have he:=mQ JX Hk [p6,p7] .deferred
 have ht:=mr (P:=Tryz.prog) (h:=h) (k:=18) hvs
 generalize hb:Frame.enter Tryz.prog fCl #[p6,p7] .deferred=b at he
 have hbk:b.kind= .deferred:=by rw[←hb];simp[Frame.enter]
 have hbf:b.fn=fCl:=by rw[←hb];simp[Frame.enter]
 have hbr:b.roundOf=none:=by rw[←hb];simp[Frame.enter]
 rw[MM]at he
 generalize ha:([p6,p7]++replicate (18 - [p6,p7].length) undef).toArray=ts at he ht
 have h1:Steps Tryz.prog (lone b (c::cs) w) (lone (b.at {tmps:=ts,defers:=[]} [.code (cL cCl),.code (cR cCl)]) (c::cs) w):=by
  rw[←he]
  conv=>lhs;rw[Ld]
  exact .one step_seq
 have hsz:ts.size=18:=by rw[ht.1];rfl
 have hreg:(cL cCl).wpS Tryz.prog (fun e a' cs' w'=>e= .normal∧cs'={c with mode:=u'}::cs∧w'=w∧a'=(({tmps:=ts,defers:=[]}:Act).put (some 5) v).put (some 2) v) {tmps:=ts,defers:=[]} (c::cs) w:=by
  rw[EC]
  apply wpS_region
  rcases hrec c hu cs with h1 | ⟨h1,h2,h3⟩
  ·simp[wpOpsS,go_sem,clA,clB,h1,Act.put,Act.eval,hsz]
  ·have h4:({c with mode:=u'}:Frame)=c:=by rw[h3,←hu]
   simp[wpOpsS,go_sem,clA,clB,h1,Act.put,Act.eval,hsz,h2,h4]
 obtain⟨e1,a1,cs1,w1,⟨rfl,rfl,rfl,rfl⟩,harr⟩:=hreg b [.code (cR cCl)] hbk hbr
 have ht1:=(ht.put (a:={tmps:=ts,defers:=[]}) ve (some 5)).put ve (some 2)
 have rv:RV 18 [0,1,2,3,4,7,14] [] (bu (bu ([AV.ptr c6 0 0,.ptr c7 0 0]++replicate (18 - [AV.ptr c6 0 0,.ptr c7 0 0].length) .junk) (some 5) e) (some 2) e) [.ptr c6 0 0,.ptr c7 0 0,e,.junk,.junk,.junk,.junk] []:=by
  refine⟨by simp[bu],rfl,rfl,fun j s hj=> ?_,fun j s hj=>by simp at hj⟩
  match j,hj with
  | 0,hj | 1,hj | 2,hj | 3,hj | 4,hj | 5,hj | 6,hj=>obtain rfl:=Option.some.inj hj;exact⟨by decide,rfl⟩
  | j+7,hj=>simp at hj
 obtain⟨t',hp,hrv⟩:=ot pok (bG LO) Mx Lj hr rv
 obtain⟨m',w',x1,x2,x3,a',x4,x5,x6⟩:=hp m w1 _ {b with defers:=[]} ({c with mode:=u'}::cs) hw ht1 rfl
 have hfin:Steps Tryz.prog (lone b (c::cs) w1) (lone {b.at a' []with mode:= .returning} ({c with mode:=u'}::cs) w'):=h1.trans (harr.trans (x6.trans (.one step_end)))
 refine⟨.returned (.tuple #[]),u',w',_,⟨⟨_,rfl⟩,rfl,m',x1,x2,x3⟩,hfin,hbk,rfl,x5,Tryz.f127,?_,?_⟩
 ·show(Tryz.prog).funcs[b.fn]? =_
  rw[hbf]
  exact JX
 ·simp[results,Tryz.results127]
theorem zs (c:Frame) (h:c.mode= .returning) (cs:List Frame):recoverD (c::cs)=none:=by simp[recoverD,h]
theorem yh {v:Value} (c:Frame) (h:c.mode= .panicking [{v:=v,recovered:=false}]) (cs:List Frame):recoverD (c::cs)=some (v,{c with mode:= .panicking [{v:=v,recovered:=true}]}::cs):=by simp[recoverD,h]
theorem LU:je .iface none true .neq .nili .nili=some (.bool false):=rfl
theorem KD {q:TypeId} {v:AV}:je .iface none true .neq (.iface q v) .nili=some (.bool true):=rfl
theorem H1 {q:TypeId} {v:AV}:Cc q true (.iface q v)=some (.tup [v,.bool true]):=by simp[Cc]
theorem yQ {h:AH} {c6 c7:Nat} {m:Mm} {w:World} {p6 p7:Value} (hw:WR Tryz.prog m h w) (v6:VR Tryz.prog m h (.ptr c6 0 0) p6) (v7:VR Tryz.prog m h (.ptr c7 0 0) p7):
  CallsD Tryz.prog fCl #[p6,p7] .returning w fun e u'' w'=>(∃ v,e= .returned v)∧u''= .returning∧∃ m',Ext m h m' h∧WR Tryz.prog m' h w'∧Below m.base w w':=by
 refine AK (V':=[.ptr c6 0 0,.ptr c7 0 0,.nili,.junk,.junk,.bool false,.junk]) (e:= .nili) ?_ hw v6 v7 .nili .returning fun c hc cs=> .inr ⟨zs c hc cs,rfl,rfl⟩
 unfold oS
 simp only[sim,af,reduceAdd,reduceSub,replicate,reduceCtorEq,reduceLeDiff,reduceLT,aa,LU]
theorem B6 {h:AH} {c6 c7:Nat} {m:Mm} {w:World} {p6 p7 u:Value} {code x y:Int} {l z:AV} (hw:WR Tryz.prog m h w) (v6:VR Tryz.prog m h (.ptr c6 0 0) p6) (v7:VR Tryz.prog m h (.ptr c7 0 0) p7) (vu:VR Tryz.prog m h (.iface lS (.int .i64 code)) u)
  (h6:h.cell c6=some [[.int .i64 x,.int .i64 y,l]]) (h7:h.cell c7=some [[z]]) (hne:c7≠c6) (hl:l.one=true):
  CallsD Tryz.prog fCl #[p6,p7] (.panicking [{v:=u,recovered:=false}]) w fun e u'' w'=>(∃ v,e= .returned v)∧u''= .panicking [{v:=u,recovered:=true}]∧
   ∃ m',Ext m h m' ((h.set c6 (some [[.int .i64 0,.int .i64 0,.nils]])).set c7 (some [[.int .i64 code]]))∧WR Tryz.prog m' ((h.set c6 (some [[.int .i64 0,.int .i64 0,.nils]])).set c7 (some [[.int .i64 code]])) w'∧Below m.base w w':=by
 refine AK (V':=[.ptr c6 0 0,.ptr c7 0 0,.iface lS (.int .i64 code),.int .i64 code,.bool true,.bool true,.bool false]) (e:= .iface lS (.int .i64 code)) ?_ hw v6 v7 vu (.panicking [{v:=u,recovered:=true}]) fun c hc cs=> .inl (yh c hc cs)
 have h7':(h.set c6 (some [[.int .i64 0,.int .i64 0,.nils]])).cell c7=some [[z]]:=(aV hne).trans h7
 unfold oS
 simp only[sim,af,reduceAdd,reduceSub,replicate,reduceCtorEq,reduceLeDiff,reduceLT,aa,KD,H1,h6,h7']
open Go Go.RowKit
theorem LB:(Tryz.prog).funcs[fAc]? =some Tryz.f113:=Tryz.func113
theorem G7:Tryz.f113.body=some cAc:=rfl
theorem MW:Tryz.f113.ntmps=25:=rfl
noncomputable abbrev cY:Code:=cL (cR cAc)
noncomputable abbrev cZ:Code:=cR (cR cAc)
noncomputable abbrev cW:Code:=cR cZ
theorem Kx:cAc= .seq (cL cAc) (cR cAc):=rfl
theorem Ho:cR cAc= .seq cY cZ:=rfl
theorem Ic:cZ= .seq (cL cZ) cW:=rfl
theorem GU:cW= .seq (cL cW) (cR cW):=rfl
theorem Iw:cR cW= .seq (cL (cR cW)) .ret:=rfl
abbrev vA:List Nat:=[0,1,2,4,6,7,8,9,14]
theorem BT:rA 3 25 (po.nv fAc) 9 vA=true:=by kernel_rfl
theorem Lr:bc Tryz.prog (po.mu fAc) (po.plan fAc) 25 vA (cL cAc) []=some uJ:=by kernel_rfl
theorem J8:bc Tryz.prog (po.mu fAc) (po.plan fAc) 25 vA cY []=some kK:=by kernel_rfl
theorem KG:bc Tryz.prog (po.mu fAc) (po.plan fAc) 25 vA cW []=some uX:=by kernel_rfl
theorem KJ:bc Tryz.prog (po.mu fAc) (po.plan fAc) 25 vA (cL cW) []=some tW:=by kernel_rfl
theorem IJ:cz (po.plan fAc) (po.kp fAc) (cL cAc)=true:=by kernel_rfl
theorem Ie:cz (po.plan fAc) (po.kp fAc) cY=true:=by kernel_rfl
theorem GW:cz (po.plan fAc) (po.kp fAc) cW=true:=by kernel_rfl
theorem Ig:cz (po.plan fAc) (po.kp fAc) (cL cW)=true:=by kernel_rfl
theorem KL:iL Tryz.prog vA Tryz.f113.results.toList=some [.cell true 3 4,.cell false 1 5]:=by kernel_rfl
noncomputable def acA:Oper:={dst:=some 17,op:= .makeFunc (.func fCl) #[] #[.tmp 6,.tmp 7],type:=((eg (cL cZ)).getD 0 default).type,pos:=((eg (cL cZ)).getD 0 default).pos,after:= #[],guard:=none}
noncomputable def acB:Oper:={dst:=none,op:= .defer {callee:= .value (.tmp 17),args:= #[],argTypes:= #[]},type:=((eg (cL cZ)).getD 1 default).type,pos:=((eg (cL cZ)).getD 1 default).pos,after:=((eg (cL cZ)).getD 1 default).after,guard:=none}
theorem IH:cL cZ= .region 4 #[acA,acB] false:=rfl
section
variable {h:AH} {m:Mm} {w:World}
abbrev zR:List AV:=[.int .i64 0,.int .i64 0,.nils]
def acH (h:AH) (r:List AV):AH:=((h.push [r]).push [zR]).push [[.int .i64 0]]
theorem It {b:Nat} {r:List AV} {gv:AV} {K:List Item} (o1:r.all AV.one=true) (o2:r.length=3):ap (ai Tryz.prog po) 9 [.ss uJ,.halt K] [.ptr b 0 0,.agg r,gv,.junk,.junk,.junk,.junk,.junk,.junk] [] h=
  some (.halt K,[.ptr b 0 0,.agg r,gv,.ptr h.n 0 0,.ptr (h.n+1) 0 0,.ptr (h.n+1+1) 0 0,.junk,.junk,.junk],acH h r):=by
 unfold uJ
 simp only[sim,af,reduceAdd,reduceSub,replicate,reduceCtorEq,reduceLeDiff,reduceLT,aa,o1,o2,acH]
theorem Hq (x y z:AV):RV 25 vA [] ([x,y,z]++replicate (25 - [x,y,z].length) .junk) [x,y,z,.junk,.junk,.junk,.junk,.junk,.junk] []:=by
 refine⟨by simp,rfl,rfl,fun j s hj=> ?_,fun j s hj=>by simp at hj⟩
 match j,hj with
 | 0,hj | 1,hj | 2,hj | 3,hj | 4,hj | 5,hj | 6,hj | 7,hj | 8,hj=>obtain rfl:=Option.some.inj hj;exact⟨by decide,rfl⟩
 | j+9,hj=>simp at hj
theorem yF {b:Nat} {r:List AV} {gv:AV} {x:AEx} {V2:List AV} {h2:AH} (o1:r.all AV.one=true) (o2:r.length=3)
  (hr:ap (ai Tryz.prog po) 9 [.ss kK,.halt [.code cZ]] [.ptr b 0 0,.agg r,gv,.ptr h.n 0 0,.ptr (h.n+1) 0 0,.ptr (h.n+1+1) 0 0,.junk,.junk,.junk] [] (acH h r)=some (x,V2,h2)) (hx:∀ v,x≠.panic v)
  {vs:List Value} (hw:WR Tryz.prog m h w) (hvs:VRs Tryz.prog m h [.ptr b 0 0,.agg r,gv] vs) (cs:List Frame):
  ∃ (bf:Frame) (t2:List AV),bf.fn=fAc∧bf.kind= .normal∧bf.defers=[]∧RV 25 vA [] t2 V2 []∧bK Tryz.prog (po.kp fAc) m h w bf cs (lone (Frame.enter Tryz.prog fAc vs.toArray .normal) cs w) (x,t2,h2):=by
 have he:=mQ LB G7 vs .normal
 have ht:=mr (P:=Tryz.prog) (h:=h) (k:=25) hvs
 rw[MW]at he
 obtain⟨t1,hp1,rv1⟩:=ot pok (bG BT) Lr IJ (It (K:=[.code (cR cAc)]) (h:=h) (gv:=gv) (b:=b) o1 o2) (Hq _ _ _)
 obtain⟨t2,hp2,rv2⟩:=ot pok (bG BT) J8 Ie hr rv1
 refine⟨Frame.enter Tryz.prog fAc vs.toArray .normal,t2,by simp[Frame.enter],by simp[Frame.enter],by simp[Frame.enter],rv2,?_⟩
 generalize Frame.enter Tryz.prog fAc vs.toArray .normal=bf at he ⊢
 obtain⟨m1,w1,x1,x2,x3,a1,x4,x5,x6⟩:=hp1 m w {tmps:=_,defers:=[]} {bf with defers:=[]} cs hw ht rfl
 have x5:a1.defers=[]:=x5
 have s0:Steps Tryz.prog (lone bf cs w) (lone (bf.at a1 [.code cY,.code cZ]) cs w1):=by
  conv=>lhs;rw[←he,Kx]
  refine .head step_seq (x6.trans ?_)
  conv=>lhs;rw[Ho]
  exact .one step_seq
 obtain⟨m2,w2,y1,y2,y3,y4⟩:=hp2 m1 w1 a1 {bf with defers:=[]} cs x2 x4 x5
 have y5:bK Tryz.prog (po.kp fAc) m1 (acH h r) w1 {bf with defers:=[]} cs (lone (bf.at a1 [.code cY,.code cZ]) cs w1) (x,t2,h2):=⟨m2,w2,y1,y2,y3,y4⟩
 have y6:=bK.steps s0 (bK.after x1 x3 y5)
 have hd:bf.defers=[]:=by rw[←he];rfl
 have hbf:({bf with defers:=[]}:Frame)=bf:=by rw[←hd]
 rwa [hbf]at y6
theorem uZ {t V:List AV} {h:AH} {v:AV} (rv:RV 25 vA [] t V []) (hv:(ei V h [.cell true 3 4,.cell false 1 5]).map eO=some v):lu Tryz.f113 t h Tryz.prog=some v:=by
 unfold lu
 rw[fH (h:=h) rv KL]
 exact hv
theorem Lt {h:AH} {b:Nat} {es:Option (List (List AV))} (hc:h.cell b=es):h.set b es=h:=by
 cases h with
 | mk=>
   simp only[AH.set,AH.mk.injEq,and_true,true_and]
   funext k
   by_cases hk:k=b
   ·subst hk
    simpa using hc.symm
   ·simp[hk]
theorem zb {b:Nat} {r:List AV} {gv:AV} {c:Int} (o1:r.all AV.one=true) (o2:r.length=3) (hc:c≠0)
  (eM:ai Tryz.prog po 126 [.ptr b 0 0,.agg r] (acH h r)=some (.inl (.int .i64 c),acH h r)):
  AC Tryz.prog fAc [.ptr b 0 0,.agg r,gv] h (.inl (.tup [.agg zR,.int .i64 c]),(acH h r).set (h.n+1+1) (some [[.int .i64 c]])):=by
 intro m w vs hw hvs cs
 have c4:(acH h r).cell h.n=some [r]:=fA
 have c6:(acH h r).cell (h.n+1)=some [zR]:=gK
 have c7:(acH h r).cell (h.n+1+1)=some [[.int .i64 0]]:=dk
 have hs6:(acH h r).set (h.n+1) (some [zR])=acH h r:=Lt c6
 have hr:ap (ai Tryz.prog po) 9 [.ss kK,.halt [.code cZ]] [.ptr b 0 0,.agg r,gv,.ptr h.n 0 0,.ptr (h.n+1) 0 0,.ptr (h.n+1+1) 0 0,.junk,.junk,.junk] [] (acH h r)=
   some (.ret,[.ptr b 0 0,.agg r,gv,.ptr h.n 0 0,.ptr (h.n+1) 0 0,.ptr (h.n+1+1) 0 0,.int .i64 c,.junk,.bool true],(acH h r).set (h.n+1+1) (some [[.int .i64 c]])):=by
  unfold kK
  simp only[sim,af,reduceAdd,reduceSub,replicate,reduceCtorEq,reduceLeDiff,reduceLT,aa,c4,br o2,eM,hc,c6,hs6,c7]
 obtain⟨bf,t2,b1,b2,b3,rv,m',w',x1,x2,x3,a',todo,x4,x5,x6⟩:=yF o1 o2 hr (fun v=>by simp) hw hvs cs
 rw[b3]at x5
 have hres:=uZ (h:=(acH h r).set (h.n+1+1) (some [[.int .i64 c]])) (v:= .tup [.agg zR,.int .i64 c]) rv (by
  have q6:((acH h r).set (h.n+1+1) (some [[.int .i64 c]])).cell (h.n+1)=some [zR]:=(aV (by omega)).trans c6
  simp only[sim,af,reduceAdd,reduceSub,replicate,reduceCtorEq,reduceLeDiff,reduceLT,aa,q6])
 obtain⟨u,h7,h8⟩:=fM x2 x4 hres
 exact⟨.returned u,w',_,⟨m',x1,x2,x3,u,rfl,h8⟩,x6,b1,rfl,x5,b2,_,by simp[Frame.at,b1],h7⟩
theorem uL {n:Nat} {vm:List Nat} {t V:List AV} {i:Nat} {v:AV} (rv:RV n vm [] t V []) (hi:i ∉ vm):RV n vm [] (bu t (some i) v) V []:=by
 refine⟨by simpa[bu]using rv.len,rv.lv,rv.ll,fun j s hj=> ?_,fun j s hj=>by simp at hj⟩
 obtain⟨h1,h2⟩:=rv.v j s hj
 refine⟨h1,?_⟩
 rw[←h2]
 have hne:i≠s:=fun e=>hi (by rw[e];exact List.mem_of_getElem? hj)
 simp[bu,List.getD,List.getElem?_set,hne]
theorem B1 {n:Nat} {vm:List Nat} {t V:List AV} (rv:RV n vm [] t V []) {j s:Nat} (hj:vm[j]? =some s):s<t.length∧t.getD s .junk=V.getD j .junk:=by
 obtain⟨h1,h2⟩:=rv.v j s hj
 exact⟨by rw[rv.len];exact h1,h2⟩
theorem Eb {bf:Frame} {a2:Act} {cs:List Frame} {p6 p7:Value} (hsz:a2.tmps.size=25) (h6:a2.tmps.getD 6 undef=p6) (h7:a2.tmps.getD 7 undef=p7):
  Steps Tryz.prog (lone (bf.at a2 [.code cZ]) cs w) (lone (bf.at {a2.put (some 17) (.func (.func fCl) #[] #[p6,p7])with defers:={target:= .fn (.func fCl) #[p6,p7],args:= #[]}::a2.defers} [.code cW]) cs w):=by
 have hw:(cL cZ).wp Tryz.prog (fun e a' w'=>e= .normal∧w'=w∧a'={a2.put (some 17) (.func (.func fCl) #[] #[p6,p7])with defers:={target:= .fn (.func fCl) #[p6,p7],args:= #[]}::a2.defers}) a2 w:=by
  have hmf:∀ (fn:Fn) (first cap:Array Value) (w:World),(Instr.makeFunc fn first cap).run Tryz.prog w= .ok (.func fn first cap) w:=fun _ _ _ _=>rfl
  subst h6 h7
  rw[IH]
  apply wp_region
  simp[wpOps,go_sem,acA,acB,hmf,Act.put,Act.eval,hsz]
 obtain⟨e,a',w',⟨rfl,rfl,rfl⟩,harr⟩:=hw bf [.code cW] cs
 conv=>lhs;rw[Ic]
 exact .head step_seq harr
theorem BX {b:Nat} {r:List AV} {gv:AV} (o2:r.length=3) (eM:ai Tryz.prog po 126 [.ptr b 0 0,.agg r] (acH h r)=some (.inl (.int .i64 0),acH h r)):
  ap (ai Tryz.prog po) 9 [.ss kK,.halt [.code cZ]] [.ptr b 0 0,.agg r,gv,.ptr h.n 0 0,.ptr (h.n+1) 0 0,.ptr (h.n+1+1) 0 0,.junk,.junk,.junk] [] (acH h r)=
   some (.halt [.code cZ],[.ptr b 0 0,.agg r,gv,.ptr h.n 0 0,.ptr (h.n+1) 0 0,.ptr (h.n+1+1) 0 0,.int .i64 0,.junk,.bool false],acH h r):=by
 have c4:(acH h r).cell h.n=some [r]:=fA
 unfold kK
 simp only[sim,af,reduceAdd,reduceSub,replicate,reduceCtorEq,reduceLeDiff,reduceLT,aa,c4,br o2,eM]
theorem uo {h2:AH} {m2:Mm} {t2 V2:List AV} {a2:Act} (rv:RV 25 vA [] t2 V2 []) (ht:TR Tryz.prog m2 h2 t2 a2.tmps) {j s:Nat} (hj:vA[j]? =some s):VR Tryz.prog m2 h2 (V2.getD j .junk) (a2.tmps.getD s undef):=by
 obtain⟨h1,e1⟩:=B1 rv hj
 rw[←e1]
 exact JR ht h1
theorem LT {b:Nat} {r r':List AV} {gv:AV} {h4:AH} (o1:r.all AV.one=true) (o2:r.length=3) (o3:r'.all AV.one=true) (o4:r'.length=3) (og:gv= .nils∨∃ id e rows,gv= .isl id e rows)
  (eM:ai Tryz.prog po 126 [.ptr b 0 0,.agg r] (acH h r)=some (.inl (.int .i64 0),acH h r))
  (eV:ai Tryz.prog po 128 [.ptr (acH h r).n 0 0,.agg r] ((acH h r).push [[.ptr b 0 0,gv]])=some (.inl (.agg r'),h4)) (k6:h4.cell (h.n+1)=some [zR]) (k7:h4.cell (h.n+1+1)=some [[.int .i64 0]]):
  AC Tryz.prog fAc [.ptr b 0 0,.agg r,gv] h (.inl (.tup [.agg r',.int .i64 0]),(h4.set (h.n+1) (some [r'])).set (h.n+1+1) (some [[.int .i64 0]])):=by
 intro m w vs hw hvs cs
 have c4:((acH h r).push [[.ptr b 0 0,gv]]).cell h.n=some [r]:=(aW (by simp only[acH,aJ];omega)).trans fA
 have k7':(h4.set (h.n+1) (some [r'])).cell (h.n+1+1)=some [[.int .i64 0]]:=(aV (by omega)).trans k7
 have hr2:ap (ai Tryz.prog po) 9 [.ss uX,.halt []] [.ptr b 0 0,.agg r,gv,.ptr h.n 0 0,.ptr (h.n+1) 0 0,.ptr (h.n+1+1) 0 0,.int .i64 0,.junk,.bool false] [] (acH h r)=
   some (.ret,[.ptr b 0 0,.agg r,gv,.ptr h.n 0 0,.ptr (h.n+1) 0 0,.ptr (h.n+1+1) 0 0,.int .i64 0,.ptr (acH h r).n 0 0,.bool false],(h4.set (h.n+1) (some [r'])).set (h.n+1+1) (some [[.int .i64 0]])):=by
  unfold uX
  rcases og with rfl | ⟨id,e,rows,rfl⟩
  ·simp only[sim,af,reduceAdd,reduceSub,replicate,reduceCtorEq,reduceLeDiff,reduceLT,aa,c4,br o2,eV,k6,o3,o4,k7']
  ·simp only[sim,af,reduceAdd,reduceSub,replicate,reduceCtorEq,reduceLeDiff,reduceLT,aa,c4,br o2,eV,k6,o3,o4,k7']
 obtain⟨bf,t2,b1,b2,b3,rv,m2,w2,x1,x2,x3,a2,x4,x5,x6⟩:=yF o1 o2 (BX (gv:=gv) o2 eM) (fun v=>by simp) hw hvs cs
 rw[b3]at x5
 have v6:=uo rv x4 (j:=4) (s:=6) rfl
 have v7:=uo rv x4 (j:=5) (s:=7) rfl
 have hsz:a2.tmps.size=25:=by rw[x4.1,rv.len]
 have lay:=Eb (w:=w2) (bf:=bf) (a2:=a2) (cs:=cs) hsz rfl rfl
 generalize hp6:a2.tmps.getD 6 undef=p6 at v6 lay
 generalize hp7:a2.tmps.getD 7 undef=p7 at v7 lay
 rw[x5]at lay
 have ht3:=x4.put (VR.junk (.func (.func fCl) #[] #[p6,p7])) (some 17)
 have rv3:=uL (i:=17) (v:= .junk) rv (by decide)
 obtain⟨t5,hp,rv5⟩:=ot pok (bG BT) KG GW hr2 rv3
 obtain⟨m3,w3,y1,y2,y3,a5,todo,y4,y5,y6⟩:=hp m2 w2 {a2.put (some 17) (.func (.func fCl) #[] #[p6,p7])with defers:=[{target:= .fn (.func fCl) #[p6,p7],args:= #[]}]} {bf with defers:=[{target:= .fn (.func fCl) #[p6,p7],args:= #[]}]} cs x2 ht3 rfl
 have hlv:Leaves Tryz.prog Tryz.f113 a5.tmps (fun e w'=>∃ m',Ext m h m' ((h4.set (h.n+1) (some [r'])).set (h.n+1+1) (some [[.int .i64 0]]))∧WR Tryz.prog m' ((h4.set (h.n+1) (some [r'])).set (h.n+1+1) (some [[.int .i64 0]])) w'∧Below m.base w w'∧∃ u,e= .returned u∧VR Tryz.prog m' ((h4.set (h.n+1) (some [r'])).set (h.n+1+1) (some [[.int .i64 0]])) (.tup [.agg r',.int .i64 0]) u) [{target:= .fn (.func fCl) #[p6,p7],args:= #[]}] .returning w3:=by
  refine leaves_cons (f:=fCl) (args:= #[p6,p7]) (by simp) (by simp[go_sem]) ?_
  refine(yQ y2 (v6.ext y1) (v7.ext y1)).mono ?_
  rintro e u'' w' ⟨⟨v,rfl⟩,rfl,m4,z1,z2,z3⟩
  have hres:=uZ (h:=(h4.set (h.n+1) (some [r'])).set (h.n+1+1) (some [[.int .i64 0]])) (v:= .tup [.agg r',.int .i64 0]) rv5 (by
   have q6:((h4.set (h.n+1) (some [r'])).set (h.n+1+1) (some [[.int .i64 0]])).cell (h.n+1)=some [r']:=(aV (by omega)).trans bi
   simp only[sim,af,reduceAdd,reduceSub,replicate,reduceCtorEq,reduceLeDiff,reduceLT,aa,q6,br o4])
  obtain⟨u,h7,h8⟩:=fM z2 (y4.ext z1) hres
  refine⟨u,h7,m4,(x1.trans y1).trans z1,z2,?_,u,rfl,h8⟩
  have q1:m2.base=m.base:=x1.base
  have q2:m3.base=m2.base:=y1.base
  rw[q2,q1]at z3
  rw[q1]at y3
  exact(x3.trans y3).trans z3
 obtain⟨e,w4,fr',hR,hs,hfn,hl⟩:=leaves_steps [{target:= .fn (.func fCl) #[p6,p7],args:= #[]}] .returning w3 {(({bf with defers:=[{target:= .fn (.func fCl) #[p6,p7],args:= #[]}]}:Frame).at a5 todo)with mode:= .returning} cs rfl y5 rfl (by simp[Frame.at,b1]) (by simpa[Frame.at]using b2) hlv
 exact⟨e,w4,fr',hR,Comes.of_steps (x6.trans (lay.trans y6)) hs,hfn.trans b1,hl⟩
noncomputable abbrev rJ:Array Oper:=eg (cL (cR cW))
noncomputable abbrev o6 (i:Nat):Oper:=rJ.getD i default
theorem K9:cL (cR cW)= .region 6 rJ false:=rfl
theorem MF:((Tryz.prog).underlying tV).isNone=false:=by kernel_rfl
theorem MX:fp Tryz.prog tV=true:=by kernel_rfl
theorem MQ:szA Tryz.prog tV=3:=by kernel_rfl
theorem MP (t:List AV) (h:AH):OpF Tryz.prog po fAc t h (o6 0) (t.getD 9 .junk) h:= .inl ⟨rfl,rfl⟩
theorem MI {t:List AV} {h:AH} {v:AV} (hl:aK true 3 h (t.getD 4 .junk)=some v):OpF Tryz.prog po fAc t h (o6 1) v h:=by
 refine .inl ⟨rfl,?_⟩
 show(if((Tryz.prog).underlying tV).isNone then none else(aK (fp Tryz.prog tV) (szA Tryz.prog tV) h (t.getD 4 .junk)).map fun v=>(v,h))=_
 rw[MF,MX,MQ,hl]
 rfl
theorem MH (t:List AV):aA t (o6 2)=some (128,[t.getD 22 .junk,t.getD 23 .junk]):=rfl
theorem KK:∃ fn,(Tryz.prog).funcs[(128:Nat)]? =some fn∧(fn.body.isNone=false∧(fn.name== "runtime.NumGoroutine")=false):=⟨_,Tryz.func128,by kernel_rfl,by kernel_rfl⟩
theorem GX {b:Nat} {r:List AV} {gv:AV} {h4:AH} {c:Int} (o1:r.all AV.one=true) (o2:r.length=3) (og:gv= .nils∨∃ id e rows,gv= .isl id e rows)
  (eM:ai Tryz.prog po 126 [.ptr b 0 0,.agg r] (acH h r)=some (.inl (.int .i64 0),acH h r))
  (eV:ai Tryz.prog po 128 [.ptr (acH h r).n 0 0,.agg r] ((acH h r).push [[.ptr b 0 0,gv]])=some (.inr (.iface lS (.int .i64 c)),h4)) (k6:h4.cell (h.n+1)=some [zR]) (k7:h4.cell (h.n+1+1)=some [[.int .i64 0]]):
  AC Tryz.prog fAc [.ptr b 0 0,.agg r,gv] h (.inl (.tup [.agg zR,.int .i64 c]),(h4.set (h.n+1) (some [zR])).set (h.n+1+1) (some [[.int .i64 c]])):=by
 intro m w vs hw hvs cs
 have c4:((acH h r).push [[.ptr b 0 0,gv]]).cell h.n=some [r]:=(aW (by simp only[acH,aJ];omega)).trans fA
 have hr3:ap (ai Tryz.prog po) 9 [.ss tW,.halt [.code (cR cW)]] [.ptr b 0 0,.agg r,gv,.ptr h.n 0 0,.ptr (h.n+1) 0 0,.ptr (h.n+1+1) 0 0,.int .i64 0,.junk,.bool false] [] (acH h r)=
   some (.halt [.code (cR cW)],[.ptr b 0 0,.agg r,gv,.ptr h.n 0 0,.ptr (h.n+1) 0 0,.ptr (h.n+1+1) 0 0,.int .i64 0,.ptr (acH h r).n 0 0,.bool false],(acH h r).push [[.ptr b 0 0,gv]]):=by
  unfold tW
  rcases og with rfl | ⟨id,e,rows,rfl⟩
  ·simp only[sim,af,reduceAdd,reduceSub,replicate,reduceCtorEq,reduceLeDiff,reduceLT,aa]
  ·simp only[sim,af,reduceAdd,reduceSub,replicate,reduceCtorEq,reduceLeDiff,reduceLT,aa]
 obtain⟨bf,t2,b1,b2,b3,rv,m2,w2,x1,x2,x3,a2,x4,x5,x6⟩:=yF o1 o2 (BX (gv:=gv) o2 eM) (fun v=>by simp) hw hvs cs
 rw[b3]at x5
 have v6:=uo rv x4 (j:=4) (s:=6) rfl
 have v7:=uo rv x4 (j:=5) (s:=7) rfl
 have hsz:a2.tmps.size=25:=by rw[x4.1,rv.len]
 have lay:=Eb (w:=w2) (bf:=bf) (a2:=a2) (cs:=cs) hsz rfl rfl
 generalize hp6:a2.tmps.getD 6 undef=p6 at v6 lay
 generalize hp7:a2.tmps.getD 7 undef=p7 at v7 lay
 rw[x5]at lay
 have ht3:=x4.put (VR.junk (.func (.func fCl) #[] #[p6,p7])) (some 17)
 have rv3:=uL (i:=17) (v:= .junk) rv (by decide)
 obtain⟨t5,hp,rv5⟩:=ot pok (bG BT) KJ Ig hr3 rv3
 obtain⟨m3,w3,y1,y2,y3,a5,y4,y5,y6⟩:=hp m2 w2 {a2.put (some 17) (.func (.func fCl) #[] #[p6,p7])with defers:=[{target:= .fn (.func fCl) #[p6,p7],args:= #[]}]} {bf with defers:=[{target:= .fn (.func fCl) #[p6,p7],args:= #[]}]} cs x2 ht3 rfl
 have s1:Steps Tryz.prog (lone (bf.at {a2.put (some 17) (.func (.func fCl) #[] #[p6,p7])with defers:=[{target:= .fn (.func fCl) #[p6,p7],args:= #[]}]} [.code cW]) cs w2) (lone (bf.at a5 [.inRegion rJ [0,1,2,3,4],.code .ret]) cs w3):=by
  conv=>lhs;rw[GU]
  refine .head step_seq (y6.trans ?_)
  conv=>lhs;rw[Iw]
  refine .head step_seq ?_
  conv=>lhs;rw[K9]
  exact .one step_region
 -- the first two operations of the last statement
 obtain⟨q9,e9⟩:=B1 rv5 (j:=7) (s:=9) rfl
 obtain⟨q4,e4⟩:=B1 rv5 (j:=3) (s:=4) rfl
 obtain⟨m6,w6,u6,d1,d2,d3,d4,d5⟩:=nq (b:=bf) (cs:=cs) (K:=[.code .ret]) (all:=rJ) (i:=0) (rest:=[1,2,3,4]) pok rfl (rfl:aU rJ t5 (o6 0)=some true) y2 y4 (MP t5 _)
 have ht6:=(y4.ext d1).put d3 (some 22)
 have rv6:=uL (i:=22) (v:=t5.getD 9 .junk) rv5 (by decide)
 obtain⟨q4',e4'⟩:=B1 rv6 (j:=3) (s:=4) rfl
 obtain⟨m7,w7,u7,f1,f2,f3,f4,f5⟩:=nq (b:=bf) (cs:=cs) (K:=[.code .ret]) (all:=rJ) (i:=1) (rest:=[2,3,4]) (o:=o6 1) (a:=a5.put (some 22) u6) (v:= .agg r) pok rfl (rfl:aU rJ _ (o6 1)=some true) d2 ht6 (MI (by
  rw[e4']
  simp[aK,AH.row,c4,br o2]))
 have ht7:=(ht6.ext f1).put f3 (some 23)
 have rv7:=uL (i:=23) (v:= .agg r) rv6 (by decide)
 -- the call that gives up
 obtain⟨fn,g1,g2,g3⟩:=KK
 have hl7:(bu (bu t5 (some 22) (t5.getD 9 .junk)) (some 23) (.agg r)).length=25:=rv7.len
 have hl5:t5.length=25:=rv5.len
 have ecl:=MH (bu (bu t5 (some 22) (t5.getD 9 .junk)) (some 23) (.agg r))
 have ea:(bu (bu t5 (some 22) (t5.getD 9 .junk)) (some 23) (.agg r)).getD 22 .junk= .ptr (acH h r).n 0 0:=by
  have:(bu (bu t5 (some 22) (t5.getD 9 .junk)) (some 23) (.agg r)).getD 22 .junk=t5.getD 9 .junk:=by simp[bu,List.getD,List.getElem?_set,hl5]
  rw[this,e9]
  rfl
 have eb:(bu (bu t5 (some 22) (t5.getD 9 .junk)) (some 23) (.agg r)).getD 23 .junk= .agg r:=by simp[bu,List.getD,List.getElem?_set,hl5]
 rw[ea,eb]at ecl
 have hac:=qd pok eV
 obtain⟨vs7,v1,v2⟩:=gR (w:=w7) ht7 ecl g1 g3 g2
 obtain⟨e,w8,hR,hst⟩:=iW (b:=bf) (cs:=cs) (k:=[.code .ret]) (rest:=[3,4]) (all:=rJ) (i:=2) rfl (dq ht7 rJ (o6 2) (rfl:aU rJ _ (o6 2)=some true)) v2 (hac m7 w7 vs7 f2 v1) (by rintro w' ⟨m',_,_,_,u',h,_⟩;cases h)
 obtain⟨m8,z1,z2,z3,u8,rfl,z5⟩:=hR
 rcases hst with⟨v',h3,_⟩ | ⟨ch,h3,todo,z6⟩
 ·cases h3
 injection h3 with h3
 subst h3
 have hlv:Leaves Tryz.prog Tryz.f113 ((a5.put (some 22) u6).put (some 23) u7).tmps (fun e w'=>∃ m',Ext m h m' ((h4.set (h.n+1) (some [zR])).set (h.n+1+1) (some [[.int .i64 c]]))∧WR Tryz.prog m' ((h4.set (h.n+1) (some [zR])).set (h.n+1+1) (some [[.int .i64 c]])) w'∧Below m.base w w'∧∃ u,e= .returned u∧VR Tryz.prog m' ((h4.set (h.n+1) (some [zR])).set (h.n+1+1) (some [[.int .i64 c]])) (.tup [.agg zR,.int .i64 c]) u) [{target:= .fn (.func fCl) #[p6,p7],args:= #[]}] (.panicking [{v:=u8,recovered:=false}]) w8:=by
  refine leaves_cons (f:=fCl) (args:= #[p6,p7]) (by simp) (by simp[go_sem]) ?_
  refine(B6 (code:=c) z2 (((((v6.ext y1).ext d1).ext f1).ext z1)) (((((v7.ext y1).ext d1).ext f1).ext z1)) z5 k6 k7 (by omega) rfl).mono ?_
  rintro e u'' w' ⟨⟨v,rfl⟩,rfl,m9,n1,n2,n3⟩
  have hres:=uZ (h:=(h4.set (h.n+1) (some [zR])).set (h.n+1+1) (some [[.int .i64 c]])) (v:= .tup [.agg zR,.int .i64 c]) rv7 (by
   have q6:((h4.set (h.n+1) (some [zR])).set (h.n+1+1) (some [[.int .i64 c]])).cell (h.n+1)=some [zR]:=(aV (by omega)).trans bi
   simp only[sim,af,reduceAdd,reduceSub,replicate,reduceCtorEq,reduceLeDiff,reduceLT,aa,q6])
  obtain⟨u,h7,h8⟩:=fM n2 ((ht7.ext z1).ext n1) hres
  refine⟨u,h7,m9,((((x1.trans y1).trans d1).trans f1).trans z1).trans n1,n2,?_,u,rfl,h8⟩
  have q1:m2.base=m.base:=x1.base
  have q2:m3.base=m2.base:=y1.base
  have q3:m6.base=m3.base:=d1.base
  have q5:m7.base=m6.base:=f1.base
  have q6:m8.base=m7.base:=z1.base
  rw[q6,q5,q3,q2,q1]at n3
  rw[q5,q3,q2,q1]at z3
  rw[q3,q2,q1]at f4
  rw[q2,q1]at d4
  rw[q1]at y3
  exact((((x3.trans y3).trans d4).trans f4).trans z3).trans n3
 have hdf:((a5.put (some 22) u6).put (some 23) u7).defers=[{target:= .fn (.func fCl) #[p6,p7],args:= #[]}]:=y5
 obtain⟨e,w9,fr',hR,hs,hfn,hl⟩:=leaves_steps [{target:= .fn (.func fCl) #[p6,p7],args:= #[]}] (.panicking [{v:=u8,recovered:=false}]) w8 {(bf.at ((a5.put (some 22) u6).put (some 23) u7) todo)with mode:= .panicking [{v:=u8,recovered:=false}]} cs rfl hdf rfl (by simp[Frame.at,b1]) (by simpa[Frame.at]using b2) hlv
 exact⟨e,w9,fr',hR,Comes.of_steps (x6.trans (lay.trans (s1.trans (d5.trans (f5.trans z6))))) hs,hfn.trans b1,hl⟩
end
section
variable {h:AH} {F J:Nat→Prop} {b:Nat} {G:ae}
theorem yq (g:IsG h F J b G) (r:List AV):Mv h F J b (acH h r) G [h.n+1+1,h.n+1,h.n] []:=(((Mv.start g).push [r]).push [zR]).push [[.int .i64 0]]
theorem mD (g:IsG h F J b G) (hW:G.Wf) {x:VD} {r:List AV} (hx:VaA x r):ai Tryz.prog po 126 [.ptr b 0 0,.agg r] (acH h r)=some (.inl (.int .i64 (qj G x)),acH h r):=by
 obtain⟨F2,J2,g2⟩:=(yq g r).isG
 exact DT g2 hW hx
theorem Fo {x:VD} (hz:qj G x=0):x.size≤100000:=by
 have:x.code=0:=by
  unfold qj at hz
  split at hz
  ·exact hz
  ·rename_i hc
   simpa using hc
 have:=ye this
 omega
theorem qP (g:IsG h F J b G) (hW:G.Wf) {x:VD} {r:List AV} {gv:AV} {ks:List Int} (hx:VaA x r) (hg:SlA 3 gv (cr ks)) (hk:ks.length≤1000000) (hz:qj G x=0):
  ∃ h4,(∃ q,ai Tryz.prog po 128 [.ptr (acH h r).n 0 0,.agg r] ((acH h r).push [[.ptr b 0 0,gv]])=some (q,h4)∧GM ks G x q)∧Mv h F J b h4 (dm ks x G).1 [(acH h r).n,h.n+1+1,h.n+1,h.n] []∧h4.cell (h.n+1)=some [zR]∧h4.cell (h.n+1+1)=some [[.int .i64 0]]:=by
 have m1:=(yq g r).push [[.ptr b 0 0,gv]]
 obtain⟨h4,e,m2,k, -, -⟩:=m1.callF (R:=fun h4=>∃ q,ai Tryz.prog po 128 [.ptr (acH h r).n 0 0,.agg r] ((acH h r).push [[.ptr b 0 0,gv]])=some (q,h4)∧GM ks G x q) (G':=(dm ks x G).1) fun F2 J2 g2 _ hC=>by
  obtain⟨q,h4,e,r2,d⟩:=Et hg.isL hk _ x (Nat.le_refl _) (Fo hz) r ((acH h r).push [[.ptr b 0 0,gv]]) F2 J2 G g2 hW (by simp only[aJ];omega) (hC _ (by simp)) aT hx
  exact⟨h4,⟨q,e,r2⟩,d⟩
 refine⟨h4,e,m2,(k _ (by simp)).trans ?_,(k _ (by simp)).trans ?_⟩
 ·exact(aW (by simp only[acH,aJ];omega)).trans gK
 ·exact(aW (by simp only[acH,aJ];omega)).trans dk
theorem E6 {gv:AV} {e:TypeId} {rows:List (List AV)} (hg:SlA e gv rows):gv= .nils∨∃ id e rows,gv= .isl id e rows:=by
 rcases hg with⟨_,h⟩ | ⟨id,h⟩
 ·exact .inl h
 ·exact .inr ⟨_,_,_,h⟩
theorem Cb (g:IsG h F J b G) (hW:G.Wf) {x:VD} {r:List AV} {gv:AV} {ks:List Int} (hx:VaA x r) (hg:SlA 3 gv (cr ks)) (hk:ks.length≤1000000):
  ∃ q,AC Tryz.prog fAc [.ptr b 0 0,.agg r,gv] h q∧pj [.ptr b 0 0,.agg r,gv] h q:=by
 obtain⟨o1,o2⟩:=hx.one
 have eM:=mD g hW hx
 by_cases hz:qj G x=0
 ·rw[hz]at eM
  obtain⟨h4,⟨q,eV,rV⟩,mv,k6,k7⟩:=qP g hW hx hg hk hz
  rcases rV with⟨hz2,r',rfl,x2⟩ | ⟨hz2,rfl⟩
  ·obtain⟨o3,o4⟩:=x2.one
   refine⟨_,LT o1 o2 o3 o4 (E6 hg) eM eV k6 k7,?_⟩
   rintro F2 J2 b2 G2 x3 r3 gv3 ks3 e g3 hW3 hx3 hg3 hk3
   simp only[List.cons.injEq,AV.ptr.injEq,AV.agg.injEq,and_true]at e
   obtain⟨rfl,rfl,rfl⟩:=e
   have eM3:=mD g3 hW3 hx3
   rw[eM]at eM3
   simp only[Option.some.injEq,Prod.mk.injEq,Sum.inl.injEq,AV.int.injEq,true_and,and_true]at eM3
   obtain⟨h5,⟨q,eV3,rV3⟩,mv3, -, -⟩:=qP g3 hW3 hx3 hg3 hk3 eM3.symm
   rw[eV]at eV3
   simp only[Option.some.injEq,Prod.mk.injEq]at eV3
   obtain⟨rfl,rfl⟩:=eV3
   have ha:be ks3 G2 x3=dm ks3 x3 G2:=by rw[be,if_neg (by simp[←eM3])]
   rcases rV3 with⟨hz3,r4,e4,x4⟩ | ⟨_,e4⟩
   ·simp only[Sum.inl.injEq,AV.agg.injEq]at e4
    subst e4
    rw[ha]
    exact⟨r',_,by rw[hz3],x4,((mv3.set (by simp) _).set (by simp) _).did⟩
   ·cases e4
  ·refine⟨_,GX o1 o2 (E6 hg) eM eV k6 k7,?_⟩
   rintro F2 J2 b2 G2 x3 r3 gv3 ks3 e g3 hW3 hx3 hg3 hk3
   simp only[List.cons.injEq,AV.ptr.injEq,AV.agg.injEq,and_true]at e
   obtain⟨rfl,rfl,rfl⟩:=e
   have eM3:=mD g3 hW3 hx3
   rw[eM]at eM3
   simp only[Option.some.injEq,Prod.mk.injEq,Sum.inl.injEq,AV.int.injEq,true_and,and_true]at eM3
   obtain⟨h5,⟨q,eV3,rV3⟩,mv3, -, -⟩:=qP g3 hW3 hx3 hg3 hk3 eM3.symm
   rw[eV]at eV3
   simp only[Option.some.injEq,Prod.mk.injEq]at eV3
   obtain⟨rfl,rfl⟩:=eV3
   have ha:be ks3 G2 x3=dm ks3 x3 G2:=by rw[be,if_neg (by simp[←eM3])]
   rcases rV3 with⟨_,r4,e4,_⟩ | ⟨hz3,e4⟩
   ·cases e4
   ·simp only[Sum.inr.injEq,AV.iface.injEq,AV.int.injEq,true_and]at e4
    have hv:(dm ks3 x3 G2).2.1=aD:=by
     rw[Bc]at hz3 ⊢
     split
     ·rfl
     ·rename_i h1
      rw[if_neg h1]at hz3
      split
      ·rfl
      ·rename_i h2
       rw[if_neg h2]at hz3
       exact absurd rfl hz3
    rw[ha,hv]
    exact⟨zR,_,by rw[e4],dM,((mv3.set (by simp) _).set (by simp) _).did⟩
 ·refine⟨_,zb o1 o2 hz eM,?_⟩
  rintro F2 J2 b2 G2 x3 r3 gv3 ks3 e g3 hW3 hx3 hg3 hk3
  simp only[List.cons.injEq,AV.ptr.injEq,AV.agg.injEq,and_true]at e
  obtain⟨rfl,rfl,rfl⟩:=e
  have eM3:=mD g3 hW3 hx3
  rw[eM]at eM3
  simp only[Option.some.injEq,Prod.mk.injEq,Sum.inl.injEq,AV.int.injEq,true_and,and_true]at eM3
  have ha:be ks3 G2 x3=(G2,aD,qj G2 x3):=by rw[be,if_pos (by rw[←eM3];exact hz)]
  rw[ha]
  exact⟨zR,_,by rw[eM3],dM,((yq g3 r).set (by simp) _).did⟩
theorem yL:po.ext fAc=some mt:=by
 show rN fAc=_
 unfold rN
 exact if_pos rfl
theorem pY (g:IsG h F J b G) (hW:G.Wf) {x:VD} {r:List AV} {gv:AV} {ks:List Int} (hx:VaA x r) (hg:SlA 3 gv (cr ks)) (hk:ks.length≤1000000):
  ∃ h',(∃ r',ai Tryz.prog po 113 [.ptr b 0 0,.agg r,gv] h=some (.inl (.tup [.agg r',.int .i64 (be ks G x).2.2]),h')∧VaA (be ks G x).2.1 r')∧bU h F J b h' (be ks G x).1:=by
 have H:=Cb g hW hx hg hk
 have e:ai Tryz.prog po fAc [.ptr b 0 0,.agg r,gv] h=some (Classical.choose H):=by
  unfold ai
  rw[yL]
  show mt _ _=_
  unfold mt
  rw[dif_pos H]
 obtain⟨r',h',h1,h2,h3⟩:=(Classical.choose_spec H).2 F J b G x r gv ks rfl g hW hx hg hk
 rw[h1]at e
 exact⟨h',⟨r',e,h2⟩,h3⟩
end
structure OkR (c:Cfg) (n:Now):Prop where
 ms:c.ms.length=4
 S:n.S.Good
 below:n.below.length≤100
 stk:n.top.stack.length≤100000
 nms:n.top.names.length≤100000
 log:n.S.log.length≤1000000
theorem OkR.len {c:Cfg} {n:Now} (o:OkR c n):c.ms.length=n.S.kept.length:=o.ms.trans o.S.kept.symm
def bm (h0:AH) (F0 J0:Nat→Prop) (c:Cfg) (L:List Asn) (i:Nat) (n:Now) (q:StD×VD×Int) (fr:AV ⊕ AV) (h':AH):Prop:=
 (q.2.2=0∧fr= .inl (.tup [])∧St h0 F0 J0 h' (put c L i {n with S:=q.1,top:={n.top with stack:=n.top.stack++[q.2.1]}}))∨
 (q.2.2≠0∧fr= .inr (.iface tGo (.int .i64 q.2.2))∧∃ n':Now,n'.S=q.1∧St h0 F0 J0 h' (put c L i n'))
section
variable {h h' h0:AH} {F J F0 J0:Nat→Prop} {L:List Asn} {c:Cfg} {i:Nat} {n:Now}
theorem bm.no {S:StD} {k:Int} (hk:k≠0) (n':Now) (hS:n'.S=S) (s:St h0 F0 J0 h' (put c L i n')):bm h0 F0 J0 c L i n (S.no k) (.inr (.iface tGo (.int .i64 k))) h':= .inr ⟨hk,rfl,n',hS,s⟩
theorem bm.ok {S:StD} {v:VD} (s:St h0 F0 J0 h' (put c L i {n with S:=S,top:={n.top with stack:=n.top.stack++[v]}})):bm h0 F0 J0 c L i n (S.ok v) (.inl (.tup [])) h':= .inl ⟨rfl,rfl,s⟩
theorem bm.fail (a:At c L i n) {k:Int} (hk:k≠0) (s:St h0 F0 J0 h' L):bm h0 F0 J0 c L i n (n.S.no k) (.inr (.iface tGo (.int .i64 k))) h':=bm.no hk n rfl (by rw[a.same];exact s)
theorem bm.drop {X:Asn} {q:StD×VD×Int} {fr:AV ⊕ AV} (r:bm h0 F0 J0 c (X::L) (i+1) n q fr h'):bm h0 F0 J0 c L i n q fr h':=by
 rcases r with⟨a,b,s⟩ | ⟨a,b,n',e,s⟩
 ·exact .inl ⟨a,b,s.drop⟩
 ·exact .inr ⟨a,b,n',e,s.drop⟩
theorem cM (s:St h0 F0 J0 h L) (a:At c L i n) (hb:n.below.length≤100) (hs:n.top.stack.length≤100000) {v:VD} {r:List AV} (hv:VaA v r):
  ∃ h',ai Tryz.prog po fPu [.ptr c.mb 0 0,.agg r] h=some (.inl (.tup []),h')∧St h0 F0 J0 h' (put c L i {n with top:={n.top with stack:=n.top.stack++[v]}}):=by
 obtain⟨h',e,s'⟩:=HW s i a.m hv (by omega) (by omega)
 rw[a.setM]at s'
 exact⟨h',e,s'⟩
theorem zr (s:St h0 F0 J0 h L) (a:At c L i n) {st:List VD} {v:VD} (hst:n.top.stack=st++[v]) (hb:n.below.length≤100) (hl:st.length≤100000):
  ∃ h' r,ai Tryz.prog po 90 [.ptr c.mb 0 0] h=some (.inl (.agg r),h')∧VaA v r∧St h0 F0 J0 h' (put c L i {n with top:={n.top with stack:=st}}):=by
 obtain⟨h',⟨r,e,hv⟩,s'⟩:=K4 s i a.m hst (by omega) (by omega)
 rw[a.setM]at s'
 exact⟨h',r,e,hv,s'⟩
theorem kw (s:St h0 F0 J0 h L) (a:At c L i n) {R:AH→Prop} {G':ae} (cc:∀ F J,IsG h F J c.gb n.S.G→∃ h',R h'∧bU h F J c.gb h' G'):∃ h',R h'∧St h0 F0 J0 h' (put c L i {n with S:={n.S with G:=G'}}):=by
 obtain⟨h',r,s'⟩:=s.call (R:=R) (Y:=aM c.gb G') (i+2) a.g cc
 rw[a.setG]at s'
 exact⟨h',r,s'⟩
theorem cH (s:St h0 F0 J0 h L) (a:At c L i n) (hl:c.ms.length=n.S.kept.length):(∀ k:Nat,aK false k h (.ptr c.mb 0 0)=some (.ptr c.bb 0 0))∧(∀ k:Nat,aK false k h (.ptr c.bb 0 0)=some (.ptr c.gb 0 0))∧∀ k:Nat,aK false k h (.ptr c.bb 0 1)=some (.ptr c.wb 0 0):=by
 obtain⟨a',sv,nv,g,mv⟩:=cQ s i a.m
 obtain⟨b1,b2⟩:=jo s a.b hl
 refine⟨fun k=> ?_,b1,b2⟩
 rw[bV,mv.m,Option.bind_some,List.getElem?_cons_zero,Option.bind_some,eN];rfl
theorem cg (s:St h0 F0 J0 h L) (a:At c L i n) (hb:n.below.length≤100):ai Tryz.prog po ED [.ptr c.mb 0 0] h=some (.inl (.ptr n.fb n.below.length 0),h)∧∀ k:Nat,aK false k h (.ptr n.fb n.below.length 0)=some (.int .i64 n.top.plugin):=by
 obtain⟨a',sv,nv,g,mv⟩:=cQ s i a.m
 exact⟨oZ mv.m (by omega),fun k=>mv.rd k 0 _ (bQ n.top a' sv nv g mv.ha.len3.1).2.2.2.2.2.1⟩
theorem fG (t:bg):aB t=[.int .i64 t.parent,.int .i64 t.gate,.int .i64 t.rights,.int .i64 t.cell,.int .i64 t.plugin,.int .i64 t.func]:=rfl
theorem Kk {p k n:Int} {v:VD} {S:StD}:bR p 13 k n [v] S=if v.kind≠4 then S.no 2 else if eP (S.G.rights v.n) 0=false then S.no 9 else if 0≤(S.G.target v.n).1.plugin then S.no 2
  else({S with log:=S.log++[dE.mk p (S.G.target v.n).1.cell 1 v.n]}:StD).ok (np (S.cells.getD (S.G.target v.n).1.cell.toNat 0)):=rfl
theorem oC {G:ae} (hW:G.Wf) {i:Int} {k:Nat} (hb:eP (G.rights i) k=true) (hp:¬ 0≤(G.target i).1.plugin):0≤(G.target i).1.cell∧(G.target i).1.cell<12:=by
 have hh:G.has i=true:=by
  cases h:G.has i with
  | true=>rfl
  | false=>
    have:G.rights i=0:=by unfold ae.rights;rw[if_pos (.inl (ae.path_no h))]
    rw[this]at hb
    have h2:eP 0 k=false:=by unfold eP;rw[Int.zero_ediv];decide
    rw[h2]at hb
    cases hb
 obtain⟨_,_,h1 | h1⟩:=ae.target_ok hW hh
 ·exact⟨h1.2.1,h1.2.2.1⟩
 ·omega
set_option maxHeartbeats 1000000 in
theorem Gr (s:St h0 F0 J0 h L) (a:At c L i n) (o:OkR c n) {v:VD} {r:List AV} (hv:VaA v r) (k m:Int):∃ fr h',ai Tryz.prog po 129 [.ptr c.mb 0 0,.agg r] h=some (fr,h')∧bm h0 F0 J0 c L i n (bR n.top.plugin 13 k m [v] n.S) fr h':=by
 rw[Kk]
 have s1:=s.push [r]
 have a1:=a.cons (ah h.n [r])
 obtain⟨o1,o2⟩:=hv.len3
 by_cases hk:v.kind=4
 ·rw[if_neg (by simpa using hk)]
  obtain⟨r',ek,hv'⟩:=dB (h:=h.push [r]) hv hk
  have ec:=pD s1 a1.m a1.b a1.g o.len o.S.wf hv' (k:=0) (q:=1) (by decide) (by decide)
  by_cases hb:eP (n.S.G.rights v.n) 0=true
  ·rw[if_pos hb]at ec
   rw[if_neg (by simp[hb])]
   have s2:=s1.push [aB (n.S.G.target v.n).1]
   have a2:=a1.cons (ah (h.push [r]).n [aB (n.S.G.target v.n).1])
   by_cases hp:0≤(n.S.G.target v.n).1.plugin
   ·rw[if_pos hp]
    have d:decide (0≤(n.S.G.target v.n).1.plugin)=true:=decide_eq_true hp
    refine⟨_,_,?_,bm.fail a (by decide) s2.drop.drop⟩
    refine ag mR rfl ?_;unfold kA
    simp only[sim,af,reduceAdd,reduceSub,replicate,reduceCtorEq,reduceLeDiff,reduceLT,aa,au,o1,o2,ek,ec,fG,d,bE]
   ·rw[if_neg hp]
    have d:decide (0≤(n.S.G.target v.n).1.plugin)=false:=decide_eq_false hp
    obtain⟨l0,l1,l2⟩:=cH s2 a2 o.len
    obtain⟨tp,tl⟩:=cg s2 a2 o.below
    obtain⟨h3,e3,s3⟩:=Hh s2 (i+1+1+3) a2.w o.S.cells o.log (oC o.S.wf hb hp) n.top.plugin v.n
    rw[a2.setW]at s3
    have a3:=a2.put {n with S:={n.S with cells:=n.S.cells,log:=n.S.log++[⟨n.top.plugin,(n.S.G.target v.n).1.cell,1,v.n⟩]}}
    obtain⟨h4,e4,s4⟩:=cM s3 a3 o.below o.stk (uU (n.S.cells.getD (n.S.G.target v.n).1.cell.toNat 0))
    rw[aO,aj,aj]at s4
    refine⟨_,h4,?_,bm.ok s4.drop.drop⟩
    have f0:aH 0 (.ptr c.mb 0 0)=some (.ptr c.mb 0 0):=rfl
    have f1:aH 1 (.ptr c.bb 0 0)=some (.ptr c.bb 0 1):=rfl
    have f2:aH 0 (.ptr n.fb n.below.length 0)=some (.ptr n.fb n.below.length 0):=rfl
    rw[fG]at l0 l1 l2 tp tl e3
    refine ag mR rfl ?_;unfold kA
    simp only[sim,af,reduceAdd,reduceSub,replicate,reduceCtorEq,reduceLeDiff,reduceLT,aa,au,o1,o2,ek,ec,fG,d,bO,f0,f1,f2,l0,l1,l2,tp,tl,e3,kq,e4]
  ·rw[if_neg hb]at ec
   rw[if_pos (by simpa using hb)]
   refine⟨_,_,?_,bm.fail a (by decide) s1.drop⟩
   refine ag mR rfl ?_;unfold kA
   simp only[sim,af,reduceAdd,reduceSub,replicate,reduceCtorEq,reduceLeDiff,reduceLT,aa,au,o1,o2,ek,ec]
 ·rw[if_pos hk]
  have ek:=eG (h:=h.push [r]) hv hk
  refine⟨_,_,?_,bm.fail a (by decide) s1.drop⟩
  refine ag mR rfl ?_;unfold kA
  simp only[sim,af,reduceAdd,reduceSub,replicate,reduceCtorEq,reduceLeDiff,reduceLT,aa,au,o1,o2,ek]
theorem Lb {p k n:Int} {v x:VD} {S:StD}:bR p 14 k n [v,x] S=if v.kind≠4∨x.kind≠1 then S.no 2 else if eP (S.G.rights v.n) 1=false then S.no 9 else if 0≤(S.G.target v.n).1.plugin then S.no 2
  else({S with log:=S.log++[dE.mk p (S.G.target v.n).1.cell 2 v.n],cells:=S.cells.set (S.G.target v.n).1.cell.toNat x.n}:StD).ok x:=rfl
set_option maxHeartbeats 1000000 in
theorem Db (s:St h0 F0 J0 h L) (a:At c L i n) (o:OkR c n) {v x:VD} {r t:List AV} (hv:VaA v r) (hx:VaA x t) (k m:Int):∃ fr h',ai Tryz.prog po 130 [.ptr c.mb 0 0,.agg r,.agg t] h=some (fr,h')∧bm h0 F0 J0 c L i n (bR n.top.plugin 14 k m [v,x] n.S) fr h':=by
 rw[Lb]
 have s1:=(s.push [r]).push [t]
 have a1:=(a.cons (ah h.n [r])).cons (ah (h.push [r]).n [t])
 obtain⟨o1,o2⟩:=hv.len3
 obtain⟨o3,o4⟩:=hx.len3
 have c1:((h.push [r]).push [t]).cell h.n=some [r]:=(s1.cell 1 rfl).1
 have c2:((h.push [r]).push [t]).cell (h.n+1)=some [t]:=(s1.cell 0 rfl).1
 by_cases hk:v.kind=4
 ·obtain⟨r',ek,hv'⟩:=dB (h:=(h.push [r]).push [t]) hv hk
  by_cases hk2:x.kind=1
  ·rw[if_neg (by simp[hk,hk2])]
   obtain⟨t',ek2,hx'⟩:=dB (h:=(h.push [r]).push [t]) hx hk2
   have ec:=pD s1 a1.m a1.b a1.g o.len o.S.wf hv (k:=1) (q:=2) (by decide) (by decide)
   by_cases hb:eP (n.S.G.rights v.n) 1=true
   ·rw[if_pos hb]at ec
    rw[if_neg (by simp[hb])]
    have s2:=s1.push [aB (n.S.G.target v.n).1]
    have a2:=a1.cons (ah ((h.push [r]).push [t]).n [aB (n.S.G.target v.n).1])
    by_cases hp:0≤(n.S.G.target v.n).1.plugin
    ·rw[if_pos hp]
     have d:decide (0≤(n.S.G.target v.n).1.plugin)=true:=decide_eq_true hp
     refine⟨_,_,?_,bm.fail a (by decide) s2.drop.drop.drop⟩
     refine ag i9 rfl ?_;unfold gV
     simp only[sim,af,reduceAdd,reduceSub,replicate,reduceCtorEq,reduceLeDiff,reduceLT,aa,au,o1,o2,o3,o4,c1,c2,ek,ek2,ec,fG,d,bE]
    ·rw[if_neg hp]
     have d:decide (0≤(n.S.G.target v.n).1.plugin)=false:=decide_eq_false hp
     obtain⟨l0,l1,l2⟩:=cH s2 a2 o.len
     obtain⟨tp,tl⟩:=cg s2 a2 o.below
     obtain⟨w,hw,_⟩:=hx.cells3
     have c3:(((h.push [r]).push [t]).push [aB (n.S.G.target v.n).1]).cell (h.n+1)=some [t]:=(s2.cell 1 rfl).1
     have hxn:t[1]? =some (.int .i64 x.n):=by rw[hw];rfl
     obtain⟨h3,e3,s3⟩:=D8 s2 (i+1+1+1+3) a2.w o.S.cells o.log (oC o.S.wf hb hp) n.top.plugin v.n x.n
     rw[a2.setW]at s3
     have a3:=a2.put {n with S:={n.S with cells:=n.S.cells.set (n.S.G.target v.n).1.cell.toNat x.n,log:=n.S.log++[⟨n.top.plugin,(n.S.G.target v.n).1.cell,2,v.n⟩]}}
     have c4:=(s3.cell 1 rfl).1
     simp only[aJ]at c4
     obtain⟨h4,e4,s4⟩:=cM s3 a3 o.below o.stk hx
     rw[aO,aj,aj,aj]at s4
     refine⟨_,h4,?_,bm.ok s4.drop.drop.drop⟩
     have f0:aH 0 (.ptr c.mb 0 0)=some (.ptr c.mb 0 0):=rfl
     have f1:aH 1 (.ptr c.bb 0 0)=some (.ptr c.bb 0 1):=rfl
     have f2:aH 0 (.ptr n.fb n.below.length 0)=some (.ptr n.fb n.below.length 0):=rfl
     rw[fG]at l0 l1 l2 tp tl e3 c3
     refine ag i9 rfl ?_;unfold gV
     simp only[sim,af,reduceAdd,reduceSub,replicate,reduceCtorEq,reduceLeDiff,reduceLT,aa,au,o1,o2,o3,o4,c1,c2,ek,ek2,ec,fG,d,bO,f0,f1,f2,l0,l1,l2,tp,tl,c3,hxn,e3,c4,e4]
   ·rw[if_neg hb]at ec
    rw[if_pos (by simpa using hb)]
    refine⟨_,_,?_,bm.fail a (by decide) s1.drop.drop⟩
    refine ag i9 rfl ?_;unfold gV
    simp only[sim,af,reduceAdd,reduceSub,replicate,reduceCtorEq,reduceLeDiff,reduceLT,aa,au,o1,o2,o3,o4,c1,c2,ek,ek2,ec]
  ·rw[if_pos (.inr hk2)]
   have ek2:=eG (h:=(h.push [r]).push [t]) hx hk2
   refine⟨_,_,?_,bm.fail a (by decide) s1.drop.drop⟩
   refine ag i9 rfl ?_;unfold gV
   simp only[sim,af,reduceAdd,reduceSub,replicate,reduceCtorEq,reduceLeDiff,reduceLT,aa,au,o1,o2,o3,o4,c1,c2,ek,ek2]
 ·rw[if_pos (.inl hk)]
  have ek:=eG (h:=(h.push [r]).push [t]) hv hk
  refine⟨_,_,?_,bm.fail a (by decide) s1.drop.drop⟩
  refine ag i9 rfl ?_;unfold gV
  simp only[sim,af,reduceAdd,reduceSub,replicate,reduceCtorEq,reduceLeDiff,reduceLT,aa,au,o1,o2,o3,o4,c1,c2,ek]
end
section
variable {h h' h0:AH} {F J F0 J0:Nat→Prop} {L:List Asn} {c:Cfg} {i:Nat} {n:Now}
theorem oj (s:St h0 F0 J0 h L) (a:At c L i n) (hl:c.ms.length=n.S.kept.length) (hW:n.S.G.Wf) {v:VD} {r:List AV} (hv:VaA v r) (rr g:Int):
  ∃ h',ai Tryz.prog po 131 [.ptr c.mb 0 0,.agg r,.int .i64 rr,.int .i64 g] h=some (if(n.S.G.derive v.n rr g).2.2=0 then .inl (.agg [.int .i64 4,.int .i64 (n.S.G.derive v.n rr g).2.1,.nils])else .inr (.iface tGo (.int .i64 (n.S.G.derive v.n rr g).2.2)),h')∧
    St h0 F0 J0 h' (put c L i {n with S:={n.S with G:=(n.S.G.derive v.n rr g).1}}):=by
 have s1:=(s.push [r]).push [zR3]
 have a1:=(a.cons (ah h.n [r])).cons (ah (h.push [r]).n [zR3])
 obtain⟨w,hw,ho⟩:=hv.cells3
 obtain⟨o1,o2⟩:=hv.len3
 have c1:((h.push [r]).push [zR3]).cell h.n=some [r]:=(s1.cell 1 rfl).1
 obtain⟨l0,l1,l2⟩:=cH s1 a1 hl
 have hn:r[1]? =some (.int .i64 v.n):=by rw[hw];rfl
 obtain⟨h2,e2,s2⟩:=kw s1 a1 (R:=fun h'=>ai Tryz.prog po 84 [.ptr c.gb 0 0,.int .i64 v.n,.int .i64 rr,.int .i64 g] ((h.push [r]).push [zR3])=some (.inl (.tup [.int .i64 (n.S.G.derive v.n rr g).2.1,.int .i64 (n.S.G.derive v.n rr g).2.2]),h')) fun F J x=>qk x hW v.n rr g
 rw[aj,aj]at s2
 have c2:=(s2.cell 0 rfl).1
 simp only[aJ]at c2
 have f0:aH 0 (.ptr c.mb 0 0)=some (.ptr c.mb 0 0):=rfl
 have f1:aH 0 (.ptr c.bb 0 0)=some (.ptr c.bb 0 0):=rfl
 by_cases hc:(n.S.G.derive v.n rr g).2.2=0
 ·have d:decide ((n.S.G.derive v.n rr g).2.2=0)=true:=decide_eq_true hc
  rw[if_pos hc]
  have s3:=s2.set 0 rfl [[.int .i64 4,.int .i64 (n.S.G.derive v.n rr g).2.1,.nils]]
  refine⟨_,?_,s3.drop.drop⟩
  generalize n.S.G.derive v.n rr g=q at*
  refine ag ow rfl ?_;unfold kz
  simp only[sim,af,reduceAdd,reduceSub,replicate,reduceCtorEq,reduceLeDiff,reduceLT,aa,au,o1,o2,c1,l0,l1,f0,f1,hn,e2,d,bO,c2]
 ·have d:decide ((n.S.G.derive v.n rr g).2.2=0)=false:=decide_eq_false hc
  rw[if_neg hc]
  refine⟨_,?_,s2.drop.drop⟩
  generalize n.S.G.derive v.n rr g=q at*
  refine ag ow rfl ?_;unfold kz
  simp only[sim,af,reduceAdd,reduceSub,replicate,reduceCtorEq,reduceLeDiff,reduceLT,aa,au,o1,o2,c1,l0,l1,f0,f1,hn,e2,d,bE,c2]
theorem KN {p k n:Int} {v:VD} {S:StD}:bR p 16 k n [v] S=if v.kind≠4 then S.no 2 else if S.G.gate.2.2≠0 then({S with G:=S.G.gate.1}:StD).no S.G.gate.2.2
  else match S.G.gate.1.derive v.n 15 S.G.gate.2.1 with
   | (G',m,c)=>if c≠0 then({S with G:=G'}:StD).no c else({S with G:=G'}:StD).ok (.mk 2 0 [pH m,.mk 5 S.G.gate.2.1 []]):=rfl
set_option maxHeartbeats 1000000 in
theorem FN (s:St h0 F0 J0 h L) (a:At c L i n) (o:OkR c n) {v:VD} {r:List AV} (hv:VaA v r) (k m:Int):∃ fr h',ai Tryz.prog po 132 [.ptr c.mb 0 0,.agg r] h=some (fr,h')∧bm h0 F0 J0 c L i n (bR n.top.plugin 16 k m [v] n.S) fr h':=by
 rw[KN]
 have s1:=s.push [r]
 have a1:=a.cons (ah h.n [r])
 obtain⟨o1,o2⟩:=hv.len3
 by_cases hk:v.kind=4
 ·rw[if_neg (by simpa using hk)]
  obtain⟨r',ek,hv'⟩:=dB (h:=h.push [r]) hv hk
  obtain⟨l0,l1,l2⟩:=cH s1 a1 o.len
  have f0:aH 0 (.ptr c.mb 0 0)=some (.ptr c.mb 0 0):=rfl
  have f1:aH 0 (.ptr c.bb 0 0)=some (.ptr c.bb 0 0):=rfl
  obtain⟨h2,e2,s2⟩:=kw s1 a1 (R:=fun h'=>ai Tryz.prog po 63 [.ptr c.gb 0 0] (h.push [r])=some (.inl (.tup [.int .i64 n.S.G.gate.2.1,.int .i64 n.S.G.gate.2.2]),h')) fun F J x=>GA x o.S.wf
  have a2:=a1.put {n with S:={n.S with G:=n.S.G.gate.1}}
  have s2':=s2
  rw[aj]at s2'
  have c2:=(s2'.cell 0 rfl).1
  by_cases hg:n.S.G.gate.2.2=0
  ·rw[if_neg (by simpa using hg)]
   have dg:decide (n.S.G.gate.2.2=0)=true:=decide_eq_true hg
   obtain⟨h3,e3,s3⟩:=oj s2 a2 o.len (o.S.wf.gate) hv 15 n.S.G.gate.2.1
   rw[aO]at s3
   have a3:=a1.put {n with S:={n.S with G:=(n.S.G.gate.1.derive v.n 15 n.S.G.gate.2.1).1}}
   generalize n.S.G.gate.1.derive v.n 15 n.S.G.gate.2.1=q at*
   obtain⟨G',m',cc⟩:=q
   simp only at e3 s3 a3 ⊢
   by_cases hc:cc=0
   ·subst hc
    rw[if_pos rfl]at e3
    rw[if_neg (by simp)]
    have s4:=(s3.push [[.int .i64 4,.int .i64 m',.nils]]).fresh 2
    have a4:=(a3.cons (ah h3.n [[.int .i64 4,.int .i64 m',.nils]])).cons (idA (h3.push [[.int .i64 4,.int .i64 m',.nils]]).ids 2)
    have pv:VaA (.mk 2 0 [pH m',.mk 5 n.S.G.gate.2.1 []]) [.int .i64 2,.int .i64 0,.isl (some h3.ids) tV [[.int .i64 4,.int .i64 m',.nils],[.int .i64 5,.int .i64 n.S.G.gate.2.1,.nils]]]:=uq ⟨_,_,rfl,Fx m',_,_,rfl,Ir _,rfl⟩
    obtain⟨h5,e5,s5⟩:=cM s4 a4 o.below o.stk pv
    rw[aj,aj,aO,aj]at s5
    refine⟨_,h5,?_,bm.ok s5.drop.drop.drop⟩
    refine ag mT rfl ?_;unfold kE
    simp only[sim,af,reduceAdd,reduceSub,replicate,reduceCtorEq,reduceLeDiff,reduceLT,aa,au,o1,o2,ek,l0,l1,f0,f1,e2,dg,bO,c2,e3,e5]
   ·rw[if_neg hc]at e3
    rw[if_pos hc]
    rw[aj]at s3
    refine⟨_,_,?_,bm.no hc {n with S:={n.S with G:=G'}} rfl s3.drop⟩
    refine ag mT rfl ?_;unfold kE
    simp only[sim,af,reduceAdd,reduceSub,replicate,reduceCtorEq,reduceLeDiff,reduceLT,aa,au,o1,o2,ek,l0,l1,f0,f1,e2,dg,bO,c2,e3]
  ·rw[if_pos hg]
   have dg:decide (n.S.G.gate.2.2=0)=false:=decide_eq_false hg
   refine⟨_,_,?_,bm.no hg {n with S:={n.S with G:=n.S.G.gate.1}} rfl s2'.drop⟩
   refine ag mT rfl ?_;unfold kE
   simp only[sim,af,reduceAdd,reduceSub,replicate,reduceCtorEq,reduceLeDiff,reduceLT,aa,au,o1,o2,ek,l0,l1,f0,f1,e2,dg,bE]
 ·rw[if_pos hk]
  have ek:=eG (h:=h.push [r]) hv hk
  refine⟨_,_,?_,bm.fail a (by decide) s1.drop⟩
  refine ag mT rfl ?_;unfold kE
  simp only[sim,af,reduceAdd,reduceSub,replicate,reduceCtorEq,reduceLeDiff,reduceLT,aa,au,o1,o2,ek]
theorem wD (s:St h0 F0 J0 h L) (a:At c L i n) (hb:n.below.length≤100) {f:FrD} {ar:List AV} {g:AV} (ha:VaA f.arg ar) (hg:SlA 3 g (cr f.gates)) (hs:f.stack=[]) (hn:f.names=[]):
  (n.below.length+1=20→∃ h',ai Tryz.prog po 133 [.ptr c.mb 0 0,.agg (ct f ar .nils .nils g)] h=some (.inr (.iface tGo (.int .i64 4)),h')∧St h0 F0 J0 h' L)∧
  (n.below.length+1≠20→∃ h' fb',ai Tryz.prog po 133 [.ptr c.mb 0 0,.agg (ct f ar .nils .nils g)] h=some (.inl (.tup []),h')∧St h0 F0 J0 h' (put c L i ⟨fb',n.S,n.below++[n.top],f⟩)):=by
 have hgo:g.one=true:=by rcases hg with⟨_,rfl⟩ | ⟨id,rfl⟩<;>rfl
 have o2:=(bQ f ar .nils .nils g ha.len3.1).2.1
 have o1:=mN (f:=f) (s:= .nils) (n:= .nils) ha.len3 rfl rfl hgo
 generalize hrow:ct f ar .nils .nils g=row at*
 have s1:=s.push [row]
 have a1:=a.cons (ah h.n [row])
 obtain⟨_,_,_,_,mv⟩:=cQ s1 (i+1) a1.m
 have ld:∀ (k:Nat) (x:AH),x.cell c.mb=some [[.ptr c.bb 0 0,.msl n.fb 0 (n.below.length+1) tFr,.int .i64 (n.S.left:Int)]]→aK false k x (.ptr c.mb 0 1)=some (.msl n.fb 0 (n.below.length+1) tFr):=fun k x hx=>by
  rw[bV,hx];rfl
 have l1:=fun k=>ld k _ mv.m
 have f1:aH 1 (.ptr c.mb 0 0)=some (.ptr c.mb 0 1):=rfl
 refine⟨fun h20=> ?_,fun h20=> ?_⟩
 ·have d:decide (((n.below.length+1:Nat):Int)=20)=true:=decide_eq_true (by omega)
  refine⟨_,?_,s1.drop⟩
  refine ag xX rfl ?_;unfold qr
  simp only[sim,af,reduceAdd,reduceSub,replicate,reduceCtorEq,reduceLeDiff,reduceLT,aa,au,o1,o2,f1,l1,d,bE]
 ·have d:decide (((n.below.length+1:Nat):Int)=20)=false:=decide_eq_false (by omega)
  have s2:=s1.push [row]
  have a2:=a1.cons (ah (h.push [row]).n [row])
  obtain⟨_,_,_,_,mv2⟩:=cQ s2 (i+2) a2.m
  have l2:=fun k=>ld k _ mv2.m
  obtain⟨h3,h4,e3,e4,s4⟩:=Ey s2 (i+1+1) a2.m (f:=f) (a:=ar) (g:=g) ha hg hs hn (by omega) (bz:=h.n+1) (by rw[hrow];exact(s2.cell 0 rfl).1)
  rw[a2.setM,aj,aj]at s4
  have c1:(h.push [row]).cell h.n=some [row]:=(s1.cell 0 rfl).1
  simp only[aJ]at e3 e4
  refine⟨_,_,?_,s4.drop.drop⟩
  refine ag xX rfl ?_;unfold qr
  simp only[sim,af,reduceAdd,reduceSub,replicate,reduceCtorEq,reduceLeDiff,reduceLT,aa,au,o1,o2,f1,l1,l2,d,bO,c1,e3,e4]
theorem Mh {p k n:Int} {v:VD} {S:StD}:bR p 9 k n [v] S=if v.kind≠2 then S.no 2 else S.ok (v.l.getD 0 aD):=rfl
theorem Kn {p k n:Int} {v:VD} {S:StD}:bR p 10 k n [v] S=if v.kind≠2 then S.no 2 else S.ok (v.l.getD 1 aD):=rfl
end
abbrev iO:FuncId:=93
section
variable {h h' h0:AH} {F J F0 J0:Nat→Prop} {L:List Asn} {c:Cfg} {i:Nat} {n:Now}
theorem qe (k x y:Int):ai Tryz.prog po 42 [.int .i64 k,.int .i64 x,.int .i64 y] h=some (.inl (.int .i64 (qu k x y)),h):=by
 unfold qu
 by_cases h1:k=1
 ·subst h1
  refine ag eW rfl ?_;unfold d8
  simp only[sim,af,reduceAdd,reduceSub,replicate,reduceCtorEq,reduceLeDiff,reduceLT,aa,decide_true]
 have d1:decide (k=1)=false:=decide_eq_false h1
 rw[if_neg h1]
 by_cases h2:k=2
 ·subst h2
  rw[if_pos rfl]
  refine ag eW rfl ?_;unfold d8
  simp only[sim,af,reduceAdd,reduceSub,replicate,reduceCtorEq,reduceLeDiff,reduceLT,aa,d1,decide_true]
 have d2:decide (k=2)=false:=decide_eq_false h2
 rw[if_neg h2]
 by_cases h3:k=3
 ·subst h3
  rw[if_pos rfl]
  refine ag eW rfl ?_;unfold d8
  simp only[sim,af,reduceAdd,reduceSub,replicate,reduceCtorEq,reduceLeDiff,reduceLT,aa,d1,d2,decide_true]
 have d3:decide (k=3)=false:=decide_eq_false h3
 rw[if_neg h3]
 by_cases h4:k=4
 ·subst h4
  rw[if_pos rfl]
  by_cases hl:x<y
  ·have dl:decide (x<y)=true:=decide_eq_true hl
   rw[if_pos hl]
   refine ag eW rfl ?_;unfold d8
   simp only[sim,af,reduceAdd,reduceSub,replicate,reduceCtorEq,reduceLeDiff,reduceLT,aa,d1,d2,d3,dl,decide_true]
  ·have dl:decide (x<y)=false:=decide_eq_false hl
   rw[if_neg hl]
   refine ag eW rfl ?_;unfold d8
   simp only[sim,af,reduceAdd,reduceSub,replicate,reduceCtorEq,reduceLeDiff,reduceLT,aa,d1,d2,d3,dl,decide_true]
 have d4:decide (k=4)=false:=decide_eq_false h4
 rw[if_neg h4]
 by_cases h5:k=5
 ·subst h5
  rw[if_pos rfl]
  by_cases hl:x=y
  ·have dl:decide (x=y)=true:=decide_eq_true hl
   rw[if_pos hl]
   refine ag eW rfl ?_;unfold d8
   simp only[sim,af,reduceAdd,reduceSub,replicate,reduceCtorEq,reduceLeDiff,reduceLT,aa,d1,d2,d3,d4,dl,decide_true]
  ·have dl:decide (x=y)=false:=decide_eq_false hl
   rw[if_neg hl]
   refine ag eW rfl ?_;unfold d8
   simp only[sim,af,reduceAdd,reduceSub,replicate,reduceCtorEq,reduceLeDiff,reduceLT,aa,d1,d2,d3,d4,dl,decide_true]
 have d5:decide (k=5)=false:=decide_eq_false h5
 rw[if_neg h5]
 refine ag eW rfl ?_;unfold d8
 simp only[sim,af,reduceAdd,reduceSub,replicate,reduceCtorEq,reduceLeDiff,reduceLT,aa,d1,d2,d3,d4,d5]
abbrev iR (op k m:Int):List AV:=[.int .i64 op,.int .i64 k,.int .i64 m]
abbrev Now.stk (n:Now) (l:List VD):Now:={n with top:={n.top with stack:=l}}
theorem eI (s:St h0 F0 J0 h L) (a:At c L i n) (o:OkR c n) {st:List VD} {v:VD} (hst:n.top.stack=st++[v]):
  ∃ h' r,ai Tryz.prog po 90 [.ptr c.mb 0 0] h=some (.inl (.agg r),h')∧VaA v r∧St h0 F0 J0 h' (put c L i (n.stk st))∧At c (put c L i (n.stk st)) i (n.stk st):=by
 have hsl:=o.stk
 rw[hst]at hsl
 simp only[List.length_append,List.length_singleton]at hsl
 obtain⟨h',r,e,hv,s'⟩:=zr s a hst o.below (by omega)
 exact⟨h',r,e,hv,s',a.put _⟩
theorem oT (s:St h0 F0 J0 h L) (a:At c L i n) (o:OkR c n) {st:List VD} {v w:VD} (hst:n.top.stack=st++[v]++[w]):
  ∃ h2 h3 rw_ rv,ai Tryz.prog po 90 [.ptr c.mb 0 0] h=some (.inl (.agg rw_),h2)∧ai Tryz.prog po 90 [.ptr c.mb 0 0] h2=some (.inl (.agg rv),h3)∧VaA w rw_∧VaA v rv∧St h0 F0 J0 h3 (put c L i (n.stk st))∧At c (put c L i (n.stk st)) i (n.stk st):=by
 have hsl:=o.stk
 rw[hst]at hsl
 simp only[List.length_append,List.length_singleton]at hsl
 obtain⟨h2,r2,e2,hw,s2⟩:=zr s a hst o.below (by simp;omega)
 obtain⟨h3,r3,e3,hv,s3⟩:=zr s2 (a.put (n.stk (st++[v]))) rfl o.below (by omega)
 rw[aO]at s3
 exact⟨h2,h3,r2,r3,e2,e3,hw,hv,s3,a.put _⟩
theorem OkR.stk' {n:Now} {st:List VD} {l:List VD} (o:OkR c n) (hst:n.top.stack=st++l):OkR c (n.stk st):=by
 have hsl:=o.stk
 rw[hst]at hsl
 simp only[List.length_append]at hsl
 exact⟨o.ms,o.S,o.below,by simp only;omega,o.nms,o.log⟩
theorem L2 {p k n:Int} {v x:VD} {S:StD}:bR p 6 k n [v,x] S=if v.kind≠1∨x.kind≠1 then S.no 2 else S.ok (np (qu k v.n x.n)):=rfl
set_option maxHeartbeats 1000000 in
theorem Ii (s:St h0 F0 J0 h L) (a:At c L i n) (o:OkR c n) {st:List VD} {v w:VD} (hst:n.top.stack=st++[v]++[w]) (k m:Int):∃ fr h',ai Tryz.prog po iO [.ptr c.mb 0 0,.agg (iR 6 k m)] h=some (fr,h')∧bm h0 F0 J0 c L i (n.stk st) (bR n.top.plugin 6 k m [v,w] n.S) fr h':=by
 rw[L2]
 have s1:=s.push [iR 6 k m]
 have a1:=a.cons (ah h.n [iR 6 k m])
 obtain⟨tp,tl⟩:=cg s1 a1 o.below
 have c1:=(s1.cell 0 rfl).1
 obtain⟨h2,h3,rw_,rv,e2,e3,hw,hv,s3,a3⟩:=oT s1 a1 o hst
 rw[aj]at s3 a3
 have o3:=(o.stk' (st:=st) (l:=[v]++[w]) (by rw[hst,List.append_assoc]))
 have s4:=(s3.push [zR3]).push [zR3]
 have s5:St h0 F0 J0 _ (ah (h3.n+1) [zR3]::ah h3.n [rw_]::ah h.n [iR 6 k m]::put c L i (n.stk st)):=s4.set 1 rfl [rw_]
 have s6:St h0 F0 J0 _ (ah (h3.n+1) [rv]::ah h3.n [rw_]::ah h.n [iR 6 k m]::put c L i (n.stk st)):=s5.set 0 rfl [rv]
 have a6:=(a3.cons (ah h3.n [rw_])).cons (ah (h3.n+1) [rv])
 obtain⟨o1,o2⟩:=hw.len3
 obtain⟨o5,o4⟩:=hv.len3
 have q0:=(s5.cell 0 rfl).1
 have q1:=(s6.cell 0 rfl).1
 have q2:=(s6.cell 1 rfl).1
 have q3:=(s6.cell 2 rfl).1
 generalize hh6:(((h3.push [zR3]).push [zR3]).set h3.n (some [rw_])).set (h3.n+1) (some [rv])=h6 at*
 by_cases hk:v.kind=1
 ·obtain⟨r1,ek1,hv'⟩:=dB (h:=h6) hv hk
  by_cases hk2:w.kind=1
  ·rw[if_neg (by simp[hk,hk2])]
   obtain⟨r2,ek2,hw'⟩:=dB (h:=h6) hw hk2
   obtain⟨y1,hy1,_⟩:=hv.cells3
   obtain⟨y2,hy2,_⟩:=hw.cells3
   have n1:rv[1]? =some (.int .i64 v.n):=by rw[hy1];rfl
   have n2:rw_[1]? =some (.int .i64 w.n):=by rw[hy2];rfl
   obtain⟨h7,e7,s7⟩:=cM s6 a6 o.below o3.stk (uU (qu k v.n w.n))
   rw[aj,aj,aj,aO]at s7
   refine⟨_,h7,?_,bm.ok s7.drop.drop.drop⟩
   refine ag bY rfl ?_;unfold bT
   simp only[sim,af,reduceAdd,reduceSub,replicate,reduceCtorEq,reduceLeDiff,reduceLT,aa,au,tp,c1,Int.reduceEq,decide_false,decide_true,e2,e3,o1,o2,o5,o4,q0,hh6,q1,q2,q3,ek1,ek2,n1,n2,qe,kq,e7]
  ·rw[if_pos (.inr hk2)]
   have ek2:=eG (h:=h6) hw hk2
   refine⟨_,_,?_,bm.no (by decide) (n.stk st) rfl s6.drop.drop.drop⟩
   refine ag bY rfl ?_;unfold bT
   simp only[sim,af,reduceAdd,reduceSub,replicate,reduceCtorEq,reduceLeDiff,reduceLT,aa,au,tp,c1,Int.reduceEq,decide_false,decide_true,e2,e3,o1,o2,o5,o4,q0,hh6,q1,q2,q3,ek1,ek2]
 ·rw[if_pos (.inl hk)]
  have ek1:=eG (h:=h6) hv hk
  refine⟨_,_,?_,bm.no (by decide) (n.stk st) rfl s6.drop.drop.drop⟩
  refine ag bY rfl ?_;unfold bT
  simp only[sim,af,reduceAdd,reduceSub,replicate,reduceCtorEq,reduceLeDiff,reduceLT,aa,au,tp,c1,Int.reduceEq,decide_false,decide_true,e2,e3,o1,o2,o5,o4,q0,hh6,q1,q2,q3,ek1]
end
section
variable {h h' h0:AH} {F J F0 J0:Nat→Prop} {L:List Asn} {c:Cfg} {i:Nat} {n:Now}
theorem Ly {p k n:Int} {v x:VD} {S:StD}:bR p 8 k n [v,x] S=if(VD.mk 2 0 [v,x]).code≠0 then S.no 3 else S.ok (.mk 2 0 [v,x]):=rfl
theorem Lh {p k n:Int} {v:VD} {S:StD}:bR p 11 k n [v] S=if(VD.mk 3 p [v]).code≠0 then S.no 3 else S.ok (.mk 3 p [v]):=rfl
theorem Li {p k n:Int} {v:VD} {S:StD}:bR p 12 k n [v] S=if v.kind≠3 then S.no 2 else if v.n≠p then S.no 10 else S.ok (v.l.getD 0 aD):=rfl
set_option maxHeartbeats 1000000 in
theorem HJ (s:St h0 F0 J0 h L) (a:At c L i n) (o:OkR c n) {st:List VD} {v w:VD} (hst:n.top.stack=st++[v]++[w]) (k m:Int):∃ fr h',ai Tryz.prog po iO [.ptr c.mb 0 0,.agg (iR 8 k m)] h=some (fr,h')∧bm h0 F0 J0 c L i (n.stk st) (bR n.top.plugin 8 k m [v,w] n.S) fr h':=by
 rw[Ly]
 have s1:=s.push [iR 8 k m]
 have a1:=a.cons (ah h.n [iR 8 k m])
 obtain⟨tp,tl⟩:=cg s1 a1 o.below
 have c1:=(s1.cell 0 rfl).1
 obtain⟨h2,h3,rw_,rv,e2,e3,hw,hv,s3,a3⟩:=oT s1 a1 o hst
 rw[aj]at s3 a3
 have o3:=(o.stk' (st:=st) (l:=[v]++[w]) (by rw[hst,List.append_assoc]))
 have s4:=(s3.push [zR3]).push [zR3]
 have s5:St h0 F0 J0 _ (ah (h3.n+1) [zR3]::ah h3.n [rw_]::ah h.n [iR 8 k m]::put c L i (n.stk st)):=s4.set 1 rfl [rw_]
 have s6:St h0 F0 J0 _ (ah (h3.n+1) [rv]::ah h3.n [rw_]::ah h.n [iR 8 k m]::put c L i (n.stk st)):=s5.set 0 rfl [rv]
 have a6:=(a3.cons (ah h3.n [rw_])).cons (ah (h3.n+1) [rv])
 obtain⟨o1,o2⟩:=hw.len3
 obtain⟨o5,o4⟩:=hv.len3
 have q0:=(s5.cell 0 rfl).1
 have q1:=(s6.cell 0 rfl).1
 have q2:=(s6.cell 1 rfl).1
 generalize hh6:(((h3.push [zR3]).push [zR3]).set h3.n (some [rw_])).set (h3.n+1) (some [rv])=h6 at*
 have s7:=s6.fresh 2
 have a7:=a6.cons (idA h6.ids 2)
 have pv:VaA (.mk 2 0 [v,w]) [.int .i64 2,.int .i64 0,.isl (some h6.ids) tV [rv,rw_]]:=uq ⟨_,_,rfl,hv,_,_,rfl,hw,rfl⟩
 by_cases hk:(VD.mk 2 0 [v,w]).code=0
 ·rw[if_neg (by simpa using hk)]
  obtain⟨r',es,hr'⟩:=sY (h:=h6.fresh 2) pv hk
  obtain⟨h8,e8,s8⟩:=cM s7 a7 o.below o3.stk hr'
  rw[aj,aj,aj,aj,aO]at s8
  refine⟨_,h8,?_,bm.ok s8.drop.drop.drop.drop⟩
  refine ag bY rfl ?_;unfold bT
  simp only[sim,af,reduceAdd,reduceSub,replicate,reduceCtorEq,reduceLeDiff,reduceLT,aa,au,tp,c1,Int.reduceEq,decide_false,decide_true,e2,e3,o1,o2,o5,o4,q0,hh6,q1,q2,es,e8]
 ·rw[if_pos hk]
  have es:=wY (h:=h6.fresh 2) pv hk
  refine⟨_,_,?_,bm.no (by decide) (n.stk st) rfl s7.drop.drop.drop.drop⟩
  refine ag bY rfl ?_;unfold bT
  simp only[sim,af,reduceAdd,reduceSub,replicate,reduceCtorEq,reduceLeDiff,reduceLT,aa,au,tp,c1,Int.reduceEq,decide_false,decide_true,e2,e3,o1,o2,o5,o4,q0,hh6,q1,q2,es]
theorem VaA.part {v:VD} {r:List AV} (hv:VaA v r) {j:Nat} {x:VD} (hx:v.l[j]? =some x):∃ lv rx,r[2]? =some lv∧(∀ q:IntKind,cj (some tV) none lv (.int q (j:Int))=some (.ip rx 0))∧ldA true 3 rx 0=some (.agg rx)∧VaA x rx:=by
 cases v with
 | mk k n l=>
   obtain⟨w,es,rfl,h1,h2⟩:=hv
   obtain⟨rx,e1,e2⟩:=h2.get hx
   rcases h1 with⟨rfl,_⟩ | ⟨id,rfl⟩
   ·simp at e1
   ·exact⟨_,rx,rfl,fun q=>uW rfl e1,br e2.len3.1,e2⟩
set_option maxHeartbeats 1000000 in
theorem AE (s:St h0 F0 J0 h L) (a:At c L i n) (o:OkR c n) {st:List VD} {v:VD} (hst:n.top.stack=st++[v]) (hc:v.code=0) {j:Nat} (hj:j<2):∃ fr h',ai Tryz.prog po 117 [.ptr c.mb 0 0,.int .i64 (j:Int)] h=some (fr,h')∧bm h0 F0 J0 c L i (n.stk st) (if v.kind≠2 then n.S.no 2 else n.S.ok (v.l.getD j aD)) fr h':=by
 obtain⟨h2,r,e2,hv,s2,a2⟩:=eI s a o hst
 have o3:=o.stk' hst
 by_cases hk:v.kind=2
 ·rw[if_neg (by simpa using hk)]
  obtain⟨x,y,hxy⟩:=(vH hc).1 hk
  obtain⟨z,hz⟩:∃ z,v.l[j]? =some z:=by rw[hxy];match j,hj with | 0,_=>exact⟨x,rfl⟩ | 1,_=>exact⟨y,rfl⟩
  have hzd:v.l.getD j aD=z:=by simp[List.getD,hz]
  rw[hzd]
  obtain⟨r',ek,hr'⟩:=dB (h:=h2) hv hk
  obtain⟨o1,o2⟩:=hr'.len3
  obtain⟨lv,rz,p1,p2,p3,p4⟩:=hr'.part hz
  have s3:=s2.push [r']
  have a3:=a2.cons (ah h2.n [r'])
  have c3:=(s3.cell 0 rfl).1
  obtain⟨h4,e4,s4⟩:=cM s3 a3 o.below o3.stk p4
  rw[aj,aO]at s4
  refine⟨_,h4,?_,bm.ok s4.drop⟩
  refine ag xb rfl ?_;unfold qC
  simp only[sim,af,reduceAdd,reduceSub,replicate,reduceCtorEq,reduceLeDiff,reduceLT,aa,au,e2,ek,o1,o2,c3,p1,p2,p3,e4]
 ·rw[if_pos hk]
  have ek:=eG (h:=h2) hv hk
  refine⟨_,_,?_,bm.no (by decide) (n.stk st) rfl s2⟩
  refine ag xb rfl ?_;unfold qC
  simp only[sim,af,reduceAdd,reduceSub,replicate,reduceCtorEq,reduceLeDiff,reduceLT,aa,au,e2,ek]
theorem GZ (s:St h0 F0 J0 h L) (a:At c L i n) (o:OkR c n) {st:List VD} {v:VD} (hst:n.top.stack=st++[v]) (hc:v.code=0) (k m:Int):∃ fr h',ai Tryz.prog po iO [.ptr c.mb 0 0,.agg (iR 9 k m)] h=some (fr,h')∧bm h0 F0 J0 c L i (n.stk st) (bR n.top.plugin 9 k m [v] n.S) fr h':=by
 rw[Mh]
 have s1:=s.push [iR 9 k m]
 have a1:=a.cons (ah h.n [iR 9 k m])
 obtain⟨tp,tl⟩:=cg s1 a1 o.below
 have c1:=(s1.cell 0 rfl).1
 obtain⟨fr,h2,e2,r2⟩:=AE s1 a1 o hst hc (j:=0) (by decide)
 have e2:ai Tryz.prog po 117 [.ptr c.mb 0 0,.int .i64 0] (h.push [iR 9 k m])=some (fr,h2):=e2
 refine⟨fr,h2,?_,r2.drop⟩
 rcases r2 with⟨_,rfl,_⟩ | ⟨_,rfl,_⟩
 ·refine ag bY rfl ?_;unfold bT
  simp only[sim,af,reduceAdd,reduceSub,replicate,reduceCtorEq,reduceLeDiff,reduceLT,aa,au,tp,c1,Int.reduceEq,decide_false,decide_true,e2]
 ·refine ag bY rfl ?_;unfold bT
  simp only[sim,af,reduceAdd,reduceSub,replicate,reduceCtorEq,reduceLeDiff,reduceLT,aa,au,tp,c1,Int.reduceEq,decide_false,decide_true,e2]
theorem Fs (s:St h0 F0 J0 h L) (a:At c L i n) (o:OkR c n) {st:List VD} {v:VD} (hst:n.top.stack=st++[v]) (hc:v.code=0) (k m:Int):∃ fr h',ai Tryz.prog po iO [.ptr c.mb 0 0,.agg (iR 10 k m)] h=some (fr,h')∧bm h0 F0 J0 c L i (n.stk st) (bR n.top.plugin 10 k m [v] n.S) fr h':=by
 rw[Kn]
 have s1:=s.push [iR 10 k m]
 have a1:=a.cons (ah h.n [iR 10 k m])
 obtain⟨tp,tl⟩:=cg s1 a1 o.below
 have c1:=(s1.cell 0 rfl).1
 obtain⟨fr,h2,e2,r2⟩:=AE s1 a1 o hst hc (j:=1) (by decide)
 have e2:ai Tryz.prog po 117 [.ptr c.mb 0 0,.int .i64 1] (h.push [iR 10 k m])=some (fr,h2):=e2
 refine⟨fr,h2,?_,r2.drop⟩
 rcases r2 with⟨_,rfl,_⟩ | ⟨_,rfl,_⟩
 ·refine ag bY rfl ?_;unfold bT
  simp only[sim,af,reduceAdd,reduceSub,replicate,reduceCtorEq,reduceLeDiff,reduceLT,aa,au,tp,c1,Int.reduceEq,decide_false,decide_true,e2]
 ·refine ag bY rfl ?_;unfold bT
  simp only[sim,af,reduceAdd,reduceSub,replicate,reduceCtorEq,reduceLeDiff,reduceLT,aa,au,tp,c1,Int.reduceEq,decide_false,decide_true,e2]
set_option maxHeartbeats 1000000 in
theorem DI (s:St h0 F0 J0 h L) (a:At c L i n) (o:OkR c n) {st:List VD} {v:VD} (hst:n.top.stack=st++[v]) (k m:Int):∃ fr h',ai Tryz.prog po iO [.ptr c.mb 0 0,.agg (iR 11 k m)] h=some (fr,h')∧bm h0 F0 J0 c L i (n.stk st) (bR n.top.plugin 11 k m [v] n.S) fr h':=by
 rw[Lh]
 have s1:=s.push [iR 11 k m]
 have a1:=a.cons (ah h.n [iR 11 k m])
 obtain⟨tp,_⟩:=cg s1 a1 o.below
 have c1:=(s1.cell 0 rfl).1
 obtain⟨h2,r,e2,hv,s2,a2⟩:=eI s1 a1 o hst
 rw[aj]at s2 a2
 have o3:=o.stk' hst
 obtain⟨o1,o2⟩:=hv.len3
 have s3:=s2.push [r]
 have a3:=a2.cons (ah h2.n [r])
 have c3:=(s3.cell 0 rfl).1
 obtain⟨_,tl3⟩:=cg s3 a3 o.below
 have s4:=s3.fresh 1
 have a4:=a3.cons (idA (h2.push [r]).ids 1)
 obtain⟨_,tl4⟩:=cg s4 a4 o.below
 have f0:aH 0 (.ptr n.fb n.below.length 0)=some (.ptr n.fb n.below.length 0):=rfl
 have pv:VaA (.mk 3 n.top.plugin [v]) [.int .i64 3,.int .i64 n.top.plugin,.isl (some h2.ids) tV [r]]:=uq ⟨_,_,rfl,hv,rfl⟩
 by_cases hk:(VD.mk 3 n.top.plugin [v]).code=0
 ·rw[if_neg (by simpa using hk)]
  obtain⟨r',es,hr'⟩:=sY (h:=(h2.push [r]).fresh 1) pv hk
  obtain⟨h5,e5,s5⟩:=cM s4 a4 o.below o3.stk hr'
  rw[aj,aj,aj,aO]at s5
  refine⟨_,h5,?_,bm.ok s5.drop.drop.drop⟩
  refine ag bY rfl ?_;unfold bT
  simp only[sim,af,reduceAdd,reduceSub,replicate,reduceCtorEq,reduceLeDiff,reduceLT,aa,au,tp,c1,Int.reduceEq,decide_false,decide_true,e2,o1,o2,c3,f0,tl3,tl4,es,e5]
 ·rw[if_pos hk]
  have es:=wY (h:=(h2.push [r]).fresh 1) pv hk
  refine⟨_,_,?_,bm.no (by decide) (n.stk st) rfl s4.drop.drop.drop⟩
  refine ag bY rfl ?_;unfold bT
  simp only[sim,af,reduceAdd,reduceSub,replicate,reduceCtorEq,reduceLeDiff,reduceLT,aa,au,tp,c1,Int.reduceEq,decide_false,decide_true,e2,o1,o2,c3,f0,tl3,tl4,es]
set_option maxHeartbeats 1000000 in
theorem EP (s:St h0 F0 J0 h L) (a:At c L i n) (o:OkR c n) {st:List VD} {v:VD} (hst:n.top.stack=st++[v]) (hc:v.code=0) (k m:Int):∃ fr h',ai Tryz.prog po iO [.ptr c.mb 0 0,.agg (iR 12 k m)] h=some (fr,h')∧bm h0 F0 J0 c L i (n.stk st) (bR n.top.plugin 12 k m [v] n.S) fr h':=by
 rw[Li]
 have s1:=s.push [iR 12 k m]
 have a1:=a.cons (ah h.n [iR 12 k m])
 obtain⟨tp,_⟩:=cg s1 a1 o.below
 have c1:=(s1.cell 0 rfl).1
 obtain⟨h2,r,e2,hv,s2,a2⟩:=eI s1 a1 o hst
 rw[aj]at s2 a2
 have o3:=o.stk' hst
 have f0:aH 0 (.ptr n.fb n.below.length 0)=some (.ptr n.fb n.below.length 0):=rfl
 by_cases hk:v.kind=3
 ·rw[if_neg (by simpa using hk)]
  obtain⟨x,hx⟩:=(vH hc).2 hk
  have hz:v.l[0]? =some x:=by rw[hx];rfl
  have hzd:v.l.getD 0 aD=x:=by rw[hx];rfl
  rw[hzd]
  obtain⟨r',ek,hr'⟩:=dB (h:=h2) hv hk
  obtain⟨o1,o2⟩:=hr'.len3
  obtain⟨lv,rz,p1,p2,p3,p4⟩:=hr'.part hz
  have p2:∀ q:IntKind,cj (some tV) none lv (.int q 0)=some (.ip rz 0):=p2
  obtain⟨w,hw,_⟩:=hr'.cells3
  have hn:r'[1]? =some (.int .i64 v.n):=by rw[hw];rfl
  have s3:=s2.push [r']
  have a3:=a2.cons (ah h2.n [r'])
  have c3:=(s3.cell 0 rfl).1
  obtain⟨_,tl3⟩:=cg s3 a3 o.below
  by_cases hp:v.n=n.top.plugin
  ·rw[if_neg (by simpa using hp)]
   have d:decide (v.n=n.top.plugin)=true:=decide_eq_true hp
   obtain⟨h4,e4,s4⟩:=cM s3 a3 o.below o3.stk p4
   rw[aj,aj,aO]at s4
   refine⟨_,h4,?_,bm.ok s4.drop.drop⟩
   refine ag bY rfl ?_;unfold bT
   simp only[sim,af,reduceAdd,reduceSub,replicate,reduceCtorEq,reduceLeDiff,reduceLT,aa,au,tp,c1,Int.reduceEq,decide_false,decide_true,e2,ek,o1,o2,c3,hn,f0,tl3,d,bO,p1,p2,p3,e4]
  ·rw[if_pos hp]
   have d:decide (v.n=n.top.plugin)=false:=decide_eq_false hp
   refine⟨_,_,?_,bm.no (by decide) (n.stk st) rfl s3.drop.drop⟩
   refine ag bY rfl ?_;unfold bT
   simp only[sim,af,reduceAdd,reduceSub,replicate,reduceCtorEq,reduceLeDiff,reduceLT,aa,au,tp,c1,Int.reduceEq,decide_false,decide_true,e2,ek,o1,o2,c3,hn,f0,tl3,d,bE]
 ·rw[if_pos hk]
  have ek:=eG (h:=h2) hv hk
  refine⟨_,_,?_,bm.no (by decide) (n.stk st) rfl s2.drop⟩
  refine ag bY rfl ?_;unfold bT
  simp only[sim,af,reduceAdd,reduceSub,replicate,reduceCtorEq,reduceLeDiff,reduceLT,aa,au,tp,c1,Int.reduceEq,decide_false,decide_true,e2,ek]
theorem HY (s:St h0 F0 J0 h L) (a:At c L i n) (o:OkR c n) (k m:Int):∃ h',ai Tryz.prog po iO [.ptr c.mb 0 0,.agg (iR 1 k m)] h=some (.inl (.tup []),h')∧St h0 F0 J0 h' (put c L i (n.stk (n.top.stack++[aD]))):=by
 have s1:=s.push [iR 1 k m]
 have a1:=a.cons (ah h.n [iR 1 k m])
 obtain⟨tp,_⟩:=cg s1 a1 o.below
 have c1:=(s1.cell 0 rfl).1
 obtain⟨h2,e2,s2⟩:=cM s1 a1 o.below o.stk dM
 rw[aj]at s2
 refine⟨h2,?_,s2.drop⟩
 refine ag bY rfl ?_;unfold bT
 simp only[sim,af,reduceAdd,reduceSub,replicate,reduceCtorEq,reduceLeDiff,reduceLT,aa,au,tp,c1,Int.reduceEq,decide_false,decide_true,e2]
theorem Hr (s:St h0 F0 J0 h L) (a:At c L i n) (o:OkR c n) (k m:Int):∃ h',ai Tryz.prog po iO [.ptr c.mb 0 0,.agg (iR 2 k m)] h=some (.inl (.tup []),h')∧St h0 F0 J0 h' (put c L i (n.stk (n.top.stack++[np m]))):=by
 have s1:=s.push [iR 2 k m]
 have a1:=a.cons (ah h.n [iR 2 k m])
 obtain⟨tp,_⟩:=cg s1 a1 o.below
 have c1:=(s1.cell 0 rfl).1
 obtain⟨h2,e2,s2⟩:=cM s1 a1 o.below o.stk (uU m)
 rw[aj]at s2
 refine⟨h2,?_,s2.drop⟩
 refine ag bY rfl ?_;unfold bT
 simp only[sim,af,reduceAdd,reduceSub,replicate,reduceCtorEq,reduceLeDiff,reduceLT,aa,au,tp,c1,Int.reduceEq,decide_false,decide_true,kq,e2]
theorem IE (s:St h0 F0 J0 h L) (a:At c L i n) (o:OkR c n) (k m:Int):∃ h',ai Tryz.prog po iO [.ptr c.mb 0 0,.agg (iR 3 k m)] h=some (.inl (.tup []),h')∧St h0 F0 J0 h' (put c L i (n.stk (n.top.stack++[n.top.arg]))):=by
 have s1:=s.push [iR 3 k m]
 have a1:=a.cons (ah h.n [iR 3 k m])
 obtain⟨tp,_⟩:=cg s1 a1 o.below
 have c1:=(s1.cell 0 rfl).1
 obtain⟨ar,sv,nv,g,mv⟩:=cQ s1 (i+1) a1.m
 have f3:aH 3 (.ptr n.fb n.below.length 0)=some (.ptr n.fb n.below.length 3):=rfl
 have la:=mv.arg
 obtain⟨h2,e2,s2⟩:=cM s1 a1 o.below o.stk mv.ha
 rw[aj]at s2
 refine⟨h2,?_,s2.drop⟩
 refine ag bY rfl ?_;unfold bT
 simp only[sim,af,reduceAdd,reduceSub,replicate,reduceCtorEq,reduceLeDiff,reduceLT,aa,au,tp,c1,Int.reduceEq,decide_false,decide_true,f3,la,e2]
theorem If (s:St h0 F0 J0 h L) (a:At c L i n) (o:OkR c n) {k:Int} (hk:0≤k∧k<n.top.names.length) (m:Int):∃ h',ai Tryz.prog po iO [.ptr c.mb 0 0,.agg (iR 4 k m)] h=some (.inl (.tup []),h')∧St h0 F0 J0 h' (put c L i (n.stk (n.top.stack++[n.top.names.getD (n.top.names.length - 1 - k.toNat) aD]))):=by
 have s1:=s.push [iR 4 k m]
 have a1:=a.cons (ah h.n [iR 4 k m])
 obtain⟨tp,_⟩:=cg s1 a1 o.below
 have c1:=(s1.cell 0 rfl).1
 obtain⟨ar,sv,nv,g,mv⟩:=cQ s1 (i+1) a1.m
 have f7:aH 7 (.ptr n.fb n.below.length 0)=some (.ptr n.fb n.below.length 7):=rfl
 have ln:=fun q=>mv.rd q 7 nv (bQ n.top ar sv nv g mv.ha.len3.1).2.2.1
 obtain⟨p,rx,p1,p2,p3⟩:=mv.nv.2.2.2.2 .i64 (n.top.names.length - 1 - k.toNat) (n.top.names.getD (n.top.names.length - 1 - k.toNat) aD) (by
  simp only[List.getD]
  rw[List.getElem?_eq_getElem (by omega)]
  rfl)
 have hn:=o.nms
 have w1:IntKind.wrap .i64 ((n.top.names.length:Int) - 1)=(n.top.names.length:Int) - 1:=w64 (by omega) (by omega)
 have w2:IntKind.wrap .i64 ((n.top.names.length:Int) - 1 - k)=((n.top.names.length - 1 - k.toNat:Nat):Int):=yR (by omega) (by omega) (by omega)
 have lnn:=mv.nv.2.2.1
 have fn:=mv.nv.2.2.2.1
 obtain⟨h2,e2,s2⟩:=cM s1 a1 o.below o.stk p3
 rw[aj]at s2
 refine⟨h2,?_,s2.drop⟩
 refine ag bY rfl ?_;unfold bT
 simp only[sim,af,reduceAdd,reduceSub,replicate,reduceCtorEq,reduceLeDiff,reduceLT,aa,au,tp,c1,Int.reduceEq,decide_false,decide_true,f7,ln,lnn,fn,w1,w2,p1,p2,e2]
end
def Ef (h0:AH) (F0 J0:Nat→Prop) (c:Cfg) (L:List Asn) (i:Nat) (q:iz) (fr:AV ⊕ AV) (h':AH):Prop:=match q with
 | .go m=>fr= .inl (.tup [])∧∃ fb',St h0 F0 J0 h' (put c L i ⟨fb',m.S,m.below,m.top⟩)
 | .fail S k=>fr= .inr (.iface tGo (.int .i64 k))∧∃ n':Now,n'.S=S∧St h0 F0 J0 h' (put c L i n')
 | .over _ _=>False
section
variable {h h' h0:AH} {F J F0 J0:Nat→Prop} {L:List Asn} {c:Cfg} {i:Nat} {n:Now}
theorem dh (M:List XD):dO (cI M)=some M.length∧(∀ s,cU s (some 174) (cI M)=true)∧(cI M).one=true:=by
 unfold cI
 exact⟨by simp[dO],fun s=>jh,rfl⟩
theorem II (e:TypeId) (rows:List (List AV)):SlA e (fI e rows) rows:=by
 unfold fI
 by_cases hz:rows=[]
 ·exact .inl ⟨hz,by rw[if_pos hz]⟩
 ·exact .inr ⟨none,by rw[if_neg hz]⟩
theorem mP (s:St h0 F0 J0 h L) (a:At c L i n) (o:OkR c n) {p:Nat} (hp:p<4):(∀ q:IntKind,cj none (some (4,5)) (.ptr c.bb 0 2) (.int q (p:Int))=some (.ptr c.bb 0 (2+p*5)))∧(∀ k:Nat,aK false k h (.ptr c.bb 0 (2+p*5+1))=some (ic (c.ms.getD p none)))∧
  ∃ r,aK true 3 h (.ptr c.bb 0 (2+p*5+2))=some (.agg r)∧VaA (n.S.kept.getD p aD) r∧aK true 5 h (.ptr c.bb 0 (2+p*5))=some (.agg (.bool (c.ms.getD p none).isSome::ic (c.ms.getD p none)::r))∧c.bb<h.n:=by
 obtain⟨F,J,x⟩:=s.get (i+1) a.b
 obtain⟨row,c1,cn,_,_,_,hpl⟩:=ub x o.len
 obtain⟨q1,q2,r,q3,q4,q5⟩:=hpl p (by rw[o.ms];exact hp)
 refine⟨fun q=>by simp[cj,hp],fun k=> ?_,r,?_,q4,?_,cn⟩
 ·rw[bV,c1,Option.bind_some,List.getElem?_cons_zero,Option.bind_some,eN,q2]
 ·rw[bV,c1,Option.bind_some,List.getElem?_cons_zero,Option.bind_some,q3]
 ·rw[bV,c1,Option.bind_some,List.getElem?_cons_zero,Option.bind_some,q5]
theorem tC {b i off k:Nat} {g:Bool} {es:List (List AV)} (hb:b<h.n):aK g k (h.push es) (.ptr b i off)=aK g k h (.ptr b i off):=by rw[bV,bV,aW hb]
abbrev zR5:List AV:=[.bool false,.nils,.int .i64 0,.int .i64 0,.nils]
theorem En {G:ae} {i:Int} {k:Nat} (hb:eP (G.rights i) k=true):G.has i=true:=by
 cases h:G.has i with
 | true=>rfl
 | false=>
   have:G.rights i=0:=by unfold ae.rights;rw[if_pos (.inl (ae.path_no h))]
   rw[this]at hb
   have h2:eP 0 k=false:=by unfold eP;rw[Int.zero_ediv];decide
   rw[h2]at hb
   cases hb
def jW (h0:AH) (F0 J0:Nat→Prop) (c:Cfg) (L:List Asn) (i:Nat) (n:Now) (q:StD×ww×Int) (fr:AV ⊕ AV) (h':AH):Prop:=
 (q.2.2=0∧fr= .inl (.tup [])∧∃ fb',St h0 F0 J0 h' (put c L i ⟨fb',q.1,n.below++[n.top],⟨q.2.1.plugin,q.2.1.func,0,q.2.1.arg,[],[],true,q.2.1.gates⟩⟩))∨
 (q.2.2≠0∧fr= .inr (.iface tGo (.int .i64 q.2.2))∧∃ n':Now,n'.S=q.1∧St h0 F0 J0 h' (put c L i n'))
theorem jW.no (a:At c L i n) {q:ww} {k:Int} (hk:k≠0) (s:St h0 F0 J0 h' L):jW h0 F0 J0 c L i n (n.S,q,k) (.inr (.iface tGo (.int .i64 k))) h':= .inr ⟨hk,rfl,n,rfl,by rw[a.same];exact s⟩
set_option maxRecDepth 100000 in
set_option maxHeartbeats 2000000 in
theorem Hs (s:St h0 F0 J0 h L) (a:At c L i n) (o:OkR c n) {v x:VD} {r t:List AV} (hv:VaA v r) (hx:VaA x t):∃ fr h',ai Tryz.prog po 134 [.ptr c.mb 0 0,.agg r,.agg t] h=some (fr,h')∧jW h0 F0 J0 c L i n (fP c.ms v x (n.below.length+1) n.S) fr h':=by
 unfold fP
 simp only
 have s1:=(s.push [r]).push [t]
 have a1:=(a.cons (ah h.n [r])).cons (ah (h.push [r]).n [t])
 obtain⟨o1,o2⟩:=hv.len3
 obtain⟨o3,o4⟩:=hx.len3
 have c1:((h.push [r]).push [t]).cell h.n=some [r]:=(s1.cell 1 rfl).1
 have c2:((h.push [r]).push [t]).cell (h.n+1)=some [t]:=(s1.cell 0 rfl).1
 by_cases hk:v.kind=4
 case neg=>
  rw[if_pos hk]
  have ek:=eG (h:=(h.push [r]).push [t]) hv hk
  refine⟨_,_,?_,jW.no a (by decide) s1.drop.drop⟩
  refine ag iM rfl ?_;unfold gF
  simp only[sim,af,reduceAdd,reduceSub,replicate,reduceCtorEq,reduceLeDiff,reduceLT,aa,au,o1,o2,o3,o4,c1,c2,ek]
 rw[if_neg (by simpa using hk)]
 obtain⟨r',ek,hv'⟩:=dB (h:=(h.push [r]).push [t]) hv hk
 have ec:=pD s1 a1.m a1.b a1.g o.len o.S.wf hv' (k:=3) (q:=8) (by decide) (by decide)
 by_cases hb:eP (n.S.G.rights v.n) 3=true
 case neg=>
  rw[if_neg hb]at ec
  rw[if_pos (by simpa using hb)]
  refine⟨_,_,?_,jW.no a (by decide) s1.drop.drop⟩
  refine ag iM rfl ?_;unfold gF
  simp only[sim,af,reduceAdd,reduceSub,replicate,reduceCtorEq,reduceLeDiff,reduceLT,aa,au,o1,o2,o3,o4,c1,c2,ek,ec]
 rw[if_pos hb]at ec
 rw[if_neg (by simp[hb])]
 obtain⟨_,_,ht⟩:=ae.target_ok o.S.wf (En hb)
 generalize (n.S.G.target v.n).1=T at*
 obtain⟨t1,t2,t3,t4,t5,t6⟩:=T
 simp only[aB]at ht ec ⊢
 generalize hN:([.int .i64 t1,.int .i64 t2,.int .i64 t3,.int .i64 t4,.int .i64 t5,.int .i64 t6]:List AV)=N at*
 have n4:N[4]? =some (.int .i64 t5):=by rw[←hN];rfl
 have n5:N[5]? =some (.int .i64 t6):=by rw[←hN];rfl
 have nl:N.length=6:=by rw[←hN];rfl
 have no:N.all AV.one=true:=by rw[←hN];rfl
 have s2:=s1.push [N]
 have a2:=a1.cons (ah ((h.push [r]).push [t]).n [N])
 have c3:=(s2.cell 0 rfl).1
 simp only[aJ]at c3
 by_cases hp:t5<0
 ·rw[if_pos hp]
  have d:decide (t5<0)=true:=decide_eq_true hp
  refine⟨_,_,?_,jW.no a (by decide) s2.drop.drop.drop⟩
  refine ag iM rfl ?_;unfold gF
  simp only[sim,af,reduceAdd,reduceSub,replicate,reduceCtorEq,reduceLeDiff,reduceLT,aa,au,o1,o2,o3,o4,c1,c2,ek,ec,nl,no,n4,d,bE]
 rw[if_neg hp]
 obtain⟨P,rfl⟩:=Int.eq_ofNat_of_zero_le (show 0≤t5 by omega)
 have d:decide ((P:Int)<0)=false:=decide_eq_false (by omega)
 have hP4:P<4:=by omega
 rw[Int.toNat_natCast]
 -- the plugin is looked at
 have s3':=s2.push [zR5]
 have a3':=a2.cons (ah (((h.push [r]).push [t]).push [N]).n [zR5])
 obtain⟨l0,_,_⟩:=cH s2 a2 o.len
 obtain⟨l0',_,_⟩:=cH s3' a3' o.len
 obtain⟨ix,_,kr,_,hkr,l5,bn⟩:=mP s2 a2 o hP4
 have l5':aK true 5 ((((h.push [r]).push [t]).push [N]).push [zR5]) (.ptr c.bb 0 (2+P*5))=_:=(tC bn).trans l5
 have fa0:aH 0 (.ptr c.mb 0 0)=some (.ptr c.mb 0 0):=rfl
 have fa1:aH 2 (.ptr c.bb 0 0)=some (.ptr c.bb 0 2):=rfl
 have fa2:aH 1 (.ptr c.mb 0 0)=some (.ptr c.mb 0 1):=rfl
 have fa3:aH 0 (.ptr c.bb 0 0)=some (.ptr c.bb 0 0):=rfl
 have c3':=(s3'.cell 1 rfl).1
 have c7:=(s3'.cell 0 rfl).1
 have m4:∀ x,((((h.push [r]).push [t]).push [N]).push [zR5]).set (h.n+1+1+1) (some x)=(((h.push [r]).push [t]).push [N]).push x:=fun x=>fz (h:=((h.push [r]).push [t]).push [N])
 simp only[aJ]at c3' c7
 generalize hM:c.ms.getD P none=M at*
 have oc:(ic M).one=true:=by cases M<;>first | rfl | exact(dh _).2.2
 obtain⟨k1,k2⟩:=hkr.len3
 generalize hq:AV.bool M.isSome::ic M::kr=pl at*
 have p0:pl[0]? =some (.bool M.isSome):=by rw[←hq];rfl
 have p1:pl[1]? =some (ic M):=by rw[←hq];rfl
 have pl5:pl.length=5:=by rw[←hq];simp[k1]
 have po':pl.all AV.one=true:=by rw[←hq];simp only[List.all_cons,oc,k2,Bool.and_true];rfl
 have s3:St h0 F0 J0 _ (ah (h.n+1+1+1) [pl]::ah (h.n+1+1) [N]::ah (h.n+1) [t]::ah h.n [r]::L):=s2.push [pl]
 have a3:=a2.cons (ah (h.n+1+1+1) [pl])
 have c4:=(s3.cell 0 rfl).1
 have c5:=(s3.cell 1 rfl).1
 have c6:=(s3.cell 2 rfl).1
 have hfM:bW c.ms (P:Int)=M.getD []:=by unfold bW;rw[Int.toNat_natCast,hM]
 by_cases hcode:M.isNone∨((bW c.ms (P:Int)).length:Int)≤t6∨t6<0
 ·rw[if_pos hcode]
  refine⟨_,_,?_,jW.no a (by decide) s3.drop.drop.drop.drop⟩
  cases M with
  | none=>
    simp only[Option.isSome_none]at p0
    refine ag iM rfl ?_;unfold gF
    simp only[sim,af,reduceAdd,reduceSub,replicate,reduceCtorEq,reduceLeDiff,reduceLT,aa,au,o1,o2,o3,o4,c1,c2,ek,ec,nl,no,n4,n5,d,bO,bE,fa0,fa1,l0,l0',ix,l5,l5',c3,c3',pl5,po',c7,m4,c4,c5,p0]
  | some M=>
    simp only[Option.isSome_some]at p0
    have d2:decide ((M.length:Int)≤t6)=true:=by
     refine decide_eq_true ?_
     rw[hfM]at hcode
     simp only[Option.getD_some]at hcode
     rcases hcode with h | h | h
     ·cases h
     ·exact h
     ·omega
    obtain⟨m1,m2,_⟩:=dh M
    simp only[ic]at p1
    refine ag iM rfl ?_;unfold gF
    simp only[sim,af,reduceAdd,reduceSub,replicate,reduceCtorEq,reduceLeDiff,reduceLT,aa,au,o1,o2,o3,o4,c1,c2,ek,ec,nl,no,n4,n5,d,bO,bE,fa0,fa1,l0,l0',ix,l5,l5',c3,c3',pl5,po',c7,m4,c4,c5,p0,p1,m1,m2,d2]
 rw[if_neg hcode]
 obtain⟨M,rfl⟩:∃ M',M=some M':=by
  cases M with
  | none=>exact absurd (.inl rfl) hcode
  | some M=>exact⟨M,rfl⟩
 simp only[Option.isSome_some]at p0
 have d2:decide ((M.length:Int)≤t6)=false:=by
  refine decide_eq_false fun h=>hcode (.inr (.inl ?_))
  rw[hfM]
  exact h
 obtain⟨m1,m2,_⟩:=dh M
 simp only[ic]at p1
 obtain⟨l0'',l1'',_⟩:=cH s3 a3 o.len
 obtain⟨_,_,_,_,mv⟩:=cQ s3 (i+4) a3.m
 have lm:∀ k:Nat,aK false k ((((h.push [r]).push [t]).push [N]).push [pl]) (.ptr c.mb 0 1)=some (.msl n.fb 0 (n.below.length+1) tFr):=fun k=>by
  rw[bV,mv.m];rfl
 by_cases h20:n.below.length+1=20
 ·rw[if_pos h20]
  have d3:decide (((n.below.length+1:Nat):Int)=20)=true:=decide_eq_true (by omega)
  refine⟨_,_,?_,jW.no a (by decide) s3.drop.drop.drop.drop⟩
  refine ag iM rfl ?_;unfold gF
  simp only[sim,af,reduceAdd,reduceSub,replicate,reduceCtorEq,reduceLeDiff,reduceLT,aa,au,o1,o2,o3,o4,c1,c2,ek,ec,nl,no,n4,n5,d,bO,bE,fa0,fa1,fa2,l0,l0',l0'',ix,l5,l5',c3,c3',pl5,po',c7,m4,c4,c5,p0,p1,m1,m2,d2,lm,d3]
 rw[if_neg h20]
 have d3:decide (((n.below.length+1:Nat):Int)=20)=false:=decide_eq_false (by omega)
 -- the argument goes across
 obtain⟨F1,J1,gx⟩:=s3.get (i+1+1+1+1+2) a3.g
 have gg:=Hv (gx:IsG _ F1 J1 c.gb n.S.G) o.S.wf v.n
 have gs:SlA 3 (fI 3 ((n.S.G.gatesC v.n).map fun x=>[.int .i64 x])) (cr (n.S.G.gatesC v.n)):=II _ _
 have gfew:=sF (i:=v.n) o.S.wf
 generalize fI 3 ((n.S.G.gatesC v.n).map fun x=>[.int .i64 x])=gv at*
 generalize n.S.G.gatesC v.n=ks at*
 obtain⟨h4,⟨y,e4,hy⟩,s4⟩:=kw s3 a3 (R:=fun h'=>∃ r',ai Tryz.prog po 113 [.ptr c.gb 0 0,.agg t,gv] ((((h.push [r]).push [t]).push [N]).push [pl])=some (.inl (.tup [.agg r',.int .i64 (be ks n.S.G x).2.2]),h')∧VaA (be ks n.S.G x).2.1 r') fun F J gx=>pY gx o.S.wf hx gs (by omega)
 generalize be ks n.S.G x=q at*
 obtain⟨G',y',cc⟩:=q
 simp only at e4 hy s4 ⊢
 have a4:=a3.put {n with S:={n.S with G:=G'}}
 rw[aj,aj,aj,aj]at s4 a4
 obtain⟨z1,z2⟩:=hy.len3
 have s5':=s4.push [zR3]
 have a5':=a4.cons (ah h4.n [zR3])
 obtain⟨n0,n1,_⟩:=cH s5' a5' o.len
 have d0:=(s5'.cell 3 rfl).1
 have s5:=s4.push [y]
 have a5:=a4.cons (ah h4.n [y])
 have d1:=(s5.cell 0 rfl).1
 have d2':=(s5.cell 2 rfl).1
 have hfo:(gv).one=true:=by rcases gs with⟨_,rfl⟩ | ⟨id,rfl⟩<;>rfl
 have hgc:gv.cells=[gv]:=by rcases gs with⟨_,rfl⟩ | ⟨id,rfl⟩<;>rfl
 by_cases hcc:cc=0
 ·subst hcc
  have d5:decide ((0:Int)=0)=true:=rfl
  obtain⟨_,ec6⟩:=wD s5 a5 o.below (f:=⟨P,t6,0,y',[],[],true,ks⟩) (ar:=y) (g:=gv) hy gs rfl rfl
  obtain⟨h6,fb',e6,s6⟩:=ec6 h20
  rw[aj,aj,aj,aj,aj,aO]at s6
  refine⟨_,h6,?_,.inl ⟨rfl,rfl,fb',s6.drop.drop.drop.drop.drop⟩⟩
  obtain⟨y0,y1,y2,rfl⟩:∃ a b c,y=[a,b,c]:=by match y,z1 with | [a,b,c],_=>exact⟨a,b,c,rfl⟩
  simp only[List.all_cons,List.all_nil,Bool.and_true,Bool.and_eq_true]at z2
  obtain⟨z3,z4,z5⟩:=z2
  simp only[ct,Int.natCast_zero,List.cons_append,List.nil_append]at e6
  refine ag iM rfl ?_;unfold gF
  simp only[sim,af,reduceAdd,reduceSub,replicate,reduceCtorEq,reduceLeDiff,reduceLT,aa,au,o1,o2,o3,o4,c1,c2,ek,ec,nl,no,n4,n5,d,bO,bE,fa0,fa1,fa2,fa3,l0,l0',l0'',l1'',ix,l5,l5',c3,c3',pl5,po',c7,m4,c4,c5,c6,p0,p1,m1,m2,d2,lm,d3,gg,e4,n0,n1,d0,d1,d2',d5,z3,z4,z5,hfo,hgc,e6]
 ·have d5:decide (cc=0)=false:=decide_eq_false hcc
  refine⟨_,_,?_,.inr ⟨hcc,rfl,{n with S:={n.S with G:=G'}},rfl,s5.drop.drop.drop.drop.drop⟩⟩
  refine ag iM rfl ?_;unfold gF
  simp only[sim,af,reduceAdd,reduceSub,replicate,reduceCtorEq,reduceLeDiff,reduceLT,aa,au,o1,o2,o3,o4,c1,c2,ek,ec,nl,no,n4,n5,d,bO,bE,fa0,fa1,fa2,fa3,l0,l0',l0'',l1'',ix,l5,l5',c3,c3',pl5,po',c7,m4,c4,c5,c6,p0,p1,m1,m2,d2,lm,d3,gg,e4,n0,n1,d0,d1,d2',d5,z1,z2]
end
abbrev MJ:FuncId:=118
section
variable {h h' h0:AH} {F J F0 J0:Nat→Prop} {L:List Asn} {c:Cfg} {i:Nat} {n:Now}
theorem cD (s:St h0 F0 J0 h L) (a:At c L i n) (o:OkR c n) {op k m:Int} (hop:13≤op) {fr:AV ⊕ AV} (e:ai Tryz.prog po MJ [.ptr c.mb 0 0,.agg (iR op k m)] (h.push [iR op k m])=some (fr,h')) (hfr:fr= .inl (.tup [])∨∃ v,fr= .inr v):
  ai Tryz.prog po iO [.ptr c.mb 0 0,.agg (iR op k m)] h=some (fr,h'):=by
 have s1:=s.push [iR op k m]
 have a1:=a.cons (ah h.n [iR op k m])
 obtain⟨tp,_⟩:=cg s1 a1 o.below
 have c1:=(s1.cell 0 rfl).1
 have d:∀ j:Int,j<13→decide (op=j)=false:=fun j hj=>decide_eq_false (by omega)
 have e1:=d 1 (by decide);have e2:=d 2 (by decide);have e3:=d 3 (by decide);have e4:=d 4 (by decide);have e6:=d 6 (by decide);have e8:=d 8 (by decide);have e9:=d 9 (by decide);have e10:=d 10 (by decide);have e11:=d 11 (by decide);have e12:=d 12 (by decide)
 rcases hfr with rfl | ⟨v,rfl⟩
 ·refine ag bY rfl ?_;unfold bT
  simp only[sim,af,reduceAdd,reduceSub,replicate,reduceCtorEq,reduceLeDiff,reduceLT,aa,au,tp,c1,e1,e2,e3,e4,e6,e8,e9,e10,e11,e12,e]
 ·refine ag bY rfl ?_;unfold bT
  simp only[sim,af,reduceAdd,reduceSub,replicate,reduceCtorEq,reduceLeDiff,reduceLT,aa,au,tp,c1,e1,e2,e3,e4,e6,e8,e9,e10,e11,e12,e]
theorem bm.fr {q:StD×VD×Int} {fr:AV ⊕ AV} (r:bm h0 F0 J0 c L i n q fr h'):fr= .inl (.tup [])∨∃ v,fr= .inr v:=by
 rcases r with⟨_,b,_⟩ | ⟨_,b,_⟩
 ·exact .inl b
 ·exact .inr ⟨_,b⟩
theorem bm.put {q:StD×VD×Int} {n1:Now} {fr:AV ⊕ AV} (r:bm h0 F0 J0 c (put c L i n1) i n q fr h'):bm h0 F0 J0 c L i n q fr h':=by
 rcases r with⟨x,y,z⟩ | ⟨x,y,n',z,w⟩
 ·exact .inl ⟨x,y,by rw[aO]at z;exact z⟩
 ·exact .inr ⟨x,y,n',z,by rw[aO]at w;exact w⟩
theorem jW.put {q:StD×ww×Int} {n1:Now} {fr:AV ⊕ AV} (r:jW h0 F0 J0 c (put c L i n1) i n q fr h'):jW h0 F0 J0 c L i n q fr h':=by
 rcases r with⟨x,y,fb,z⟩ | ⟨x,y,n',z,w⟩
 ·exact .inl ⟨x,y,fb,by rw[aO]at z;exact z⟩
 ·exact .inr ⟨x,y,n',z,by rw[aO]at w;exact w⟩
theorem jW.drop {X:Asn} {q:StD×ww×Int} {fr:AV ⊕ AV} (r:jW h0 F0 J0 c (X::L) (i+1) n q fr h'):jW h0 F0 J0 c L i n q fr h':=by
 rcases r with⟨x,y,fb,z⟩ | ⟨x,y,n',z,w⟩
 ·exact .inl ⟨x,y,fb,z.drop⟩
 ·exact .inr ⟨x,y,n',z,w.drop⟩
theorem gT (s:St h0 F0 J0 h L) (a:At c L i n) (o:OkR c n) (op k m:Int):St h0 F0 J0 ((h.push [iR op k m]).push [iR op k m]) (ah (h.n+1) [iR op k m]::ah h.n [iR op k m]::L)∧At c (ah (h.n+1) [iR op k m]::ah h.n [iR op k m]::L) (i+1+1) n∧
  ai Tryz.prog po ED [.ptr c.mb 0 0] ((h.push [iR op k m]).push [iR op k m])=some (.inl (.ptr n.fb n.below.length 0),(h.push [iR op k m]).push [iR op k m])∧(∀ k':Nat,aK false k' ((h.push [iR op k m]).push [iR op k m]) (.ptr n.fb n.below.length 0)=some (.int .i64 n.top.plugin))∧((h.push [iR op k m]).push [iR op k m]).cell (h.n+1)=some [iR op k m]:=by
 have s1:=(s.push [iR op k m]).push [iR op k m]
 have a1:=(a.cons (ah h.n [iR op k m])).cons (ah (h.n+1) [iR op k m])
 obtain⟨tp,tl⟩:=cg s1 a1 o.below
 exact⟨s1,a1,tp,tl,(s1.cell 0 rfl).1⟩
theorem Eh (s:St h0 F0 J0 h L) (a:At c L i n) (o:OkR c n) {st:List VD} {v:VD} (hst:n.top.stack=st++[v]) (k m:Int):∃ fr h',ai Tryz.prog po iO [.ptr c.mb 0 0,.agg (iR 13 k m)] h=some (fr,h')∧bm h0 F0 J0 c L i (n.stk st) (bR n.top.plugin 13 k m [v] n.S) fr h':=by
 obtain⟨s1,a1,tp,_,c1⟩:=gT s a o 13 k m
 obtain⟨h2,r,e2,hv,s2,a2⟩:=eI s1 a1 o hst
 obtain⟨fr,h3,e3,r3⟩:=Gr s2 a2 (o.stk' hst) hv k m
 have r4:=r3.put.drop.drop
 refine⟨fr,h3,cD s a o (by decide) ?_ r4.fr,r4⟩
 rcases r4.fr with rfl | ⟨u,rfl⟩
 ·refine ag bF rfl ?_;unfold bq
  simp only[sim,af,reduceAdd,reduceSub,replicate,reduceCtorEq,reduceLeDiff,reduceLT,aa,au,tp,c1,Int.reduceEq,decide_false,decide_true,e2,e3]
 ·refine ag bF rfl ?_;unfold bq
  simp only[sim,af,reduceAdd,reduceSub,replicate,reduceCtorEq,reduceLeDiff,reduceLT,aa,au,tp,c1,Int.reduceEq,decide_false,decide_true,e2,e3]
theorem FL (s:St h0 F0 J0 h L) (a:At c L i n) (o:OkR c n) {st:List VD} {v:VD} (hst:n.top.stack=st++[v]) (k m:Int):∃ fr h',ai Tryz.prog po iO [.ptr c.mb 0 0,.agg (iR 16 k m)] h=some (fr,h')∧bm h0 F0 J0 c L i (n.stk st) (bR n.top.plugin 16 k m [v] n.S) fr h':=by
 obtain⟨s1,a1,tp,_,c1⟩:=gT s a o 16 k m
 obtain⟨h2,r,e2,hv,s2,a2⟩:=eI s1 a1 o hst
 obtain⟨fr,h3,e3,r3⟩:=FN s2 a2 (o.stk' hst) hv k m
 have r4:=r3.put.drop.drop
 refine⟨fr,h3,cD s a o (by decide) ?_ r4.fr,r4⟩
 rcases r4.fr with rfl | ⟨u,rfl⟩
 ·refine ag bF rfl ?_;unfold bq
  simp only[sim,af,reduceAdd,reduceSub,replicate,reduceCtorEq,reduceLeDiff,reduceLT,aa,au,tp,c1,Int.reduceEq,decide_false,decide_true,e2,e3]
 ·refine ag bF rfl ?_;unfold bq
  simp only[sim,af,reduceAdd,reduceSub,replicate,reduceCtorEq,reduceLeDiff,reduceLT,aa,au,tp,c1,Int.reduceEq,decide_false,decide_true,e2,e3]
theorem we {h3:AH} {L3:List Asn} (s3:St h0 F0 J0 h3 L3) (x y:List AV):St h0 F0 J0 ((((h3.push [zR3]).push [zR3]).set h3.n (some [x])).set (h3.n+1) (some [y])) (ah (h3.n+1) [y]::ah h3.n [x]::L3)∧(((h3.push [zR3]).push [zR3]).set h3.n (some [x])).cell (h3.n+1)=some [zR3]:=by
 have s4:=(s3.push [zR3]).push [zR3]
 have s5:St h0 F0 J0 _ (ah (h3.n+1) [zR3]::ah h3.n [x]::L3):=s4.set 1 rfl [x]
 exact⟨s5.set 0 rfl [y],(s5.cell 0 rfl).1⟩
set_option maxHeartbeats 1000000 in
theorem EA (s:St h0 F0 J0 h L) (a:At c L i n) (o:OkR c n) {st:List VD} {v w:VD} (hst:n.top.stack=st++[v]++[w]) (k m:Int):∃ fr h',ai Tryz.prog po iO [.ptr c.mb 0 0,.agg (iR 14 k m)] h=some (fr,h')∧bm h0 F0 J0 c L i (n.stk st) (bR n.top.plugin 14 k m [v,w] n.S) fr h':=by
 obtain⟨s1,a1,tp,_,c1⟩:=gT s a o 14 k m
 obtain⟨h2,h3,rw_,rv,e2,e3,hw,hv,s3,a3⟩:=oT s1 a1 o hst
 have o3:=(o.stk' (st:=st) (l:=[v]++[w]) (by rw[hst,List.append_assoc]))
 obtain⟨o1,o2⟩:=hw.len3
 obtain⟨o5,o4⟩:=hv.len3
 obtain⟨s6,q0⟩:=we s3 rw_ rv
 have a6:=(a3.cons (ah h3.n [rw_])).cons (ah (h3.n+1) [rv])
 have q1:=(s6.cell 0 rfl).1
 have q2:=(s6.cell 1 rfl).1
 generalize hh6:(((h3.push [zR3]).push [zR3]).set h3.n (some [rw_])).set (h3.n+1) (some [rv])=h6 at*
 obtain⟨fr,h7,e7,r7⟩:=Db s6 a6 o3 hv hw k m
 have r8:=r7.drop.drop.put.drop.drop
 refine⟨fr,h7,cD s a o (by decide) ?_ r8.fr,r8⟩
 rcases r8.fr with rfl | ⟨u,rfl⟩
 ·refine ag bF rfl ?_;unfold bq
  simp only[sim,af,reduceAdd,reduceSub,replicate,reduceCtorEq,reduceLeDiff,reduceLT,aa,au,tp,c1,Int.reduceEq,decide_false,decide_true,e2,e3,o1,o2,o4,o5,q0,hh6,q1,q2,e7]
 ·refine ag bF rfl ?_;unfold bq
  simp only[sim,af,reduceAdd,reduceSub,replicate,reduceCtorEq,reduceLeDiff,reduceLT,aa,au,tp,c1,Int.reduceEq,decide_false,decide_true,e2,e3,o1,o2,o4,o5,q0,hh6,q1,q2,e7]
set_option maxHeartbeats 1000000 in
theorem ET (s:St h0 F0 J0 h L) (a:At c L i n) (o:OkR c n) {st:List VD} {v w:VD} (hst:n.top.stack=st++[v]++[w]) (k m:Int):∃ fr h',ai Tryz.prog po iO [.ptr c.mb 0 0,.agg (iR 19 k m)] h=some (fr,h')∧jW h0 F0 J0 c L i (n.stk st) (fP c.ms v w (n.below.length+1) n.S) fr h':=by
 obtain⟨s1,a1,tp,_,c1⟩:=gT s a o 19 k m
 obtain⟨h2,h3,rw_,rv,e2,e3,hw,hv,s3,a3⟩:=oT s1 a1 o hst
 have o3:=(o.stk' (st:=st) (l:=[v]++[w]) (by rw[hst,List.append_assoc]))
 obtain⟨o1,o2⟩:=hw.len3
 obtain⟨o5,o4⟩:=hv.len3
 obtain⟨s6,q0⟩:=we s3 rw_ rv
 have a6:=(a3.cons (ah h3.n [rw_])).cons (ah (h3.n+1) [rv])
 have q1:=(s6.cell 0 rfl).1
 have q2:=(s6.cell 1 rfl).1
 generalize hh6:(((h3.push [zR3]).push [zR3]).set h3.n (some [rw_])).set (h3.n+1) (some [rv])=h6 at*
 obtain⟨fr,h7,e7,r7⟩:=Hs s6 a6 o3 hv hw
 have r8:=r7.drop.drop.put.drop.drop
 have hfr:fr= .inl (.tup [])∨∃ v,fr= .inr v:=by
  rcases r8 with⟨_,b,_⟩ | ⟨_,b,_⟩
  ·exact .inl b
  ·exact .inr ⟨_,b⟩
 refine⟨fr,h7,cD s a o (by decide) ?_ hfr,r8⟩
 rcases hfr with rfl | ⟨u,rfl⟩
 ·refine ag bF rfl ?_;unfold bq
  simp only[sim,af,reduceAdd,reduceSub,replicate,reduceCtorEq,reduceLeDiff,reduceLT,aa,au,tp,c1,Int.reduceEq,decide_false,decide_true,e2,e3,o1,o2,o4,o5,q0,hh6,q1,q2,e7]
 ·refine ag bF rfl ?_;unfold bq
  simp only[sim,af,reduceAdd,reduceSub,replicate,reduceCtorEq,reduceLeDiff,reduceLT,aa,au,tp,c1,Int.reduceEq,decide_false,decide_true,e2,e3,o1,o2,o4,o5,q0,hh6,q1,q2,e7]
theorem Lv {p k n:Int} {v:VD} {S:StD}:bR p 15 k n [v] S=if v.kind≠4 then S.no 2 else CW S (S.G.derive v.n k (-1)):=rfl
theorem Ku {p k n:Int} {v:VD} {S:StD}:bR p 17 k n [v] S=if v.kind≠5 then S.no 2 else({S with G:=(S.G.cut v.n).1}:StD).ok aD:=rfl
theorem Kv {p k n:Int} {v:VD} {S:StD}:bR p 20 k n [v] S=({S with kept:=S.kept.set p.toNat v}:StD).ok (S.kept.getD p.toNat aD):=rfl
set_option maxHeartbeats 1000000 in
theorem DE (s:St h0 F0 J0 h L) (a:At c L i n) (o:OkR c n) {st:List VD} {v:VD} (hst:n.top.stack=st++[v]) (k m:Int):∃ fr h',ai Tryz.prog po iO [.ptr c.mb 0 0,.agg (iR 15 k m)] h=some (fr,h')∧bm h0 F0 J0 c L i (n.stk st) (bR n.top.plugin 15 k m [v] n.S) fr h':=by
 rw[Lv]
 obtain⟨s1,a1,tp,_,c1⟩:=gT s a o 15 k m
 obtain⟨h2,r,e2,hv,s2,a2⟩:=eI s1 a1 o hst
 have o3:=o.stk' hst
 rw[aj,aj]at s2 a2
 have c2:=(s2.cell 0 rfl).1
 by_cases hk:v.kind=4
 ·rw[if_neg (by simpa using hk)]
  obtain⟨r',ek,hv'⟩:=dB (h:=h2) hv hk
  obtain⟨h3,e3,s3⟩:=oj s2 a2 o.len o.S.wf hv' k (-1)
  have a3:=a2.put {(n.stk st)with S:={n.S with G:=(n.S.G.derive v.n k (-1)).1}}
  unfold CW
  by_cases hc:(n.S.G.derive v.n k (-1)).2.2=0
  ·rw[if_pos hc]at e3
   rw[if_neg (by simpa using hc)]
   obtain⟨h4,e4,s4⟩:=cM s3 a3 o.below o3.stk (Fx (n.S.G.derive v.n k (-1)).2.1)
   rw[aO,aj,aj,aO]at s4
   have r8:bm h0 F0 J0 c L i (n.stk st) _ _ h4:=bm.ok s4.drop.drop
   refine⟨_,h4,cD s a o (by decide) ?_ r8.fr,r8⟩
   refine ag bF rfl ?_;unfold bq
   simp only[sim,af,reduceAdd,reduceSub,replicate,reduceCtorEq,reduceLeDiff,reduceLT,aa,au,tp,c1,Int.reduceEq,decide_false,decide_true,e2,c2,ek,e3,e4]
  ·rw[if_neg hc]at e3
   rw[if_pos hc]
   rw[aj,aj,aO]at s3
   have r8:bm h0 F0 J0 c L i (n.stk st) _ _ h3:=bm.no (S:={n.S with G:=(n.S.G.derive v.n k (-1)).1}) hc {(n.stk st)with S:={n.S with G:=(n.S.G.derive v.n k (-1)).1}} rfl s3.drop.drop
   refine⟨_,h3,cD s a o (by decide) ?_ r8.fr,r8⟩
   refine ag bF rfl ?_;unfold bq
   simp only[sim,af,reduceAdd,reduceSub,replicate,reduceCtorEq,reduceLeDiff,reduceLT,aa,au,tp,c1,Int.reduceEq,decide_false,decide_true,e2,c2,ek,e3]
 ·rw[if_pos hk]
  have ek:=eG (h:=h2) hv hk
  have r8:bm h0 F0 J0 c L i (n.stk st) _ _ h2:=bm.no (S:=n.S) (k:=2) (by decide) (n.stk st) rfl s2.drop.drop
  refine⟨_,h2,cD s a o (by decide) ?_ r8.fr,r8⟩
  refine ag bF rfl ?_;unfold bq
  simp only[sim,af,reduceAdd,reduceSub,replicate,reduceCtorEq,reduceLeDiff,reduceLT,aa,au,tp,c1,Int.reduceEq,decide_false,decide_true,e2,c2,ek]
set_option maxHeartbeats 1000000 in
theorem DA (s:St h0 F0 J0 h L) (a:At c L i n) (o:OkR c n) {st:List VD} {v:VD} (hst:n.top.stack=st++[v]) (k m:Int):∃ fr h',ai Tryz.prog po iO [.ptr c.mb 0 0,.agg (iR 17 k m)] h=some (fr,h')∧bm h0 F0 J0 c L i (n.stk st) (bR n.top.plugin 17 k m [v] n.S) fr h':=by
 rw[Ku]
 obtain⟨s1,a1,tp,_,c1⟩:=gT s a o 17 k m
 obtain⟨l0,l1,_⟩:=cH s1 a1 o.len
 obtain⟨h2,r,e2,hv,s2,a2⟩:=eI s1 a1 o hst
 have o3:=o.stk' hst
 obtain⟨l2,l3,_⟩:=cH s2 a2 o.len
 rw[aj,aj]at s2 a2
 have f0:aH 0 (.ptr c.mb 0 0)=some (.ptr c.mb 0 0):=rfl
 have f1:aH 0 (.ptr c.bb 0 0)=some (.ptr c.bb 0 0):=rfl
 by_cases hk:v.kind=5
 ·rw[if_neg (by simpa using hk)]
  obtain⟨r',ek,hv'⟩:=dB (h:=h2) hv hk
  obtain⟨w,hw,_⟩:=hv'.cells3
  have fl:G8 false 1 1 (.agg r')=some (.int .i64 v.n):=by rw[hw];rfl
  obtain⟨h3,e3,s3⟩:=kw s2 a2 (R:=fun h'=>ai Tryz.prog po 62 [.ptr c.gb 0 0,.int .i64 v.n] h2=some (.inl (.int .i64 (n.S.G.cut v.n).2),h')) fun F J x=>I5 x v.n
  have a3:=a2.put {(n.stk st)with S:={n.S with G:=(n.S.G.cut v.n).1}}
  obtain⟨h4,e4,s4⟩:=cM s3 a3 o.below o3.stk dM
  rw[aO,aj,aj,aO]at s4
  have r8:bm h0 F0 J0 c L i (n.stk st) _ _ h4:=bm.ok (S:={n.S with G:=(n.S.G.cut v.n).1}) (v:=aD) s4.drop.drop
  refine⟨_,h4,cD s a o (by decide) ?_ r8.fr,r8⟩
  refine ag bF rfl ?_;unfold bq
  simp only[sim,af,reduceAdd,reduceSub,replicate,reduceCtorEq,reduceLeDiff,reduceLT,aa,au,tp,c1,Int.reduceEq,decide_false,decide_true,f0,f1,l0,l1,l2,l3,e2,ek,fl,e3,e4]
 ·rw[if_pos hk]
  have ek:=eG (h:=h2) hv hk
  have r8:bm h0 F0 J0 c L i (n.stk st) _ _ h2:=bm.no (S:=n.S) (k:=2) (by decide) (n.stk st) rfl s2.drop.drop
  refine⟨_,h2,cD s a o (by decide) ?_ r8.fr,r8⟩
  refine ag bF rfl ?_;unfold bq
  simp only[sim,af,reduceAdd,reduceSub,replicate,reduceCtorEq,reduceLeDiff,reduceLT,aa,au,tp,c1,Int.reduceEq,decide_false,decide_true,f0,f1,l0,l1,l2,l3,e2,ek]
def La (h0:AH) (F0 J0:Nat→Prop) (c:Cfg) (L:List Asn) (i:Nat) (n:Now) (k:Int) (v:VD) (fr:AV ⊕ AV) (h':AH):Prop:=
 (n.below.length+1≠20∧fr= .inl (.tup [])∧∃ fb',St h0 F0 J0 h' (put c L i ⟨fb',n.S,n.below++[n.top],⟨n.top.plugin,k,0,v,[],[],false,[]⟩⟩))∨
 (n.below.length+1=20∧fr= .inr (.iface tGo (.int .i64 4))∧St h0 F0 J0 h' (put c L i n))
set_option maxRecDepth 100000 in
set_option maxHeartbeats 1000000 in
theorem D7 (s:St h0 F0 J0 h L) (a:At c L i n) (o:OkR c n) {st:List VD} {v:VD} (hst:n.top.stack=st++[v]) (k m:Int):∃ fr h',ai Tryz.prog po iO [.ptr c.mb 0 0,.agg (iR 18 k m)] h=some (fr,h')∧La h0 F0 J0 c L i (n.stk st) k v fr h':=by
 obtain⟨s1,a1,tp,_,c1⟩:=gT s a o 18 k m
 obtain⟨h2,r,e2,hv,s2,a2⟩:=eI s1 a1 o hst
 have o3:=o.stk' hst
 rw[aj,aj]at s2 a2
 obtain⟨o1,o2⟩:=hv.len3
 have s3:=s2.push [r]
 have a3:=a2.cons (ah h2.n [r])
 have c3:=(s3.cell 0 rfl).1
 have c4:=(s3.cell 1 rfl).1
 obtain⟨_,tl⟩:=cg s3 a3 o.below
 have f0:aH 0 (.ptr n.fb n.below.length 0)=some (.ptr n.fb n.below.length 0):=rfl
 obtain⟨e20,e21⟩:=wD s3 a3 o.below (f:=⟨n.top.plugin,k,0,v,[],[],false,[]⟩) (ar:=r) (g:= .nils) hv (.inl ⟨rfl,rfl⟩) rfl rfl
 obtain⟨y0,y1,y2,rfl⟩:∃ a b c,r=[a,b,c]:=by match r,o1 with | [a,b,c],_=>exact⟨a,b,c,rfl⟩
 simp only[List.all_cons,List.all_nil,Bool.and_true,Bool.and_eq_true]at o2
 obtain⟨z3,z4,z5⟩:=o2
 by_cases h20:n.below.length+1=20
 ·obtain⟨h4,e4,s4⟩:=e20 h20
  simp only[ct,Int.natCast_zero,List.cons_append,List.nil_append]at e4
  refine⟨_,h4,cD s a o (by decide) ?_ (.inr ⟨_,rfl⟩),.inr ⟨h20,rfl,s4.drop.drop.drop⟩⟩
  refine ag bF rfl ?_;unfold bq
  simp only[sim,af,reduceAdd,reduceSub,replicate,reduceCtorEq,reduceLeDiff,reduceLT,aa,au,tp,c1,Int.reduceEq,decide_false,decide_true,e2,f0,tl,c3,c4,z3,z4,z5,e4]
 ·obtain⟨h4,fb',e4,s4⟩:=e21 h20
  simp only[ct,Int.natCast_zero,List.cons_append,List.nil_append]at e4
  rw[aj,aj,aj,aO]at s4
  refine⟨_,h4,cD s a o (by decide) ?_ (.inl rfl),.inl ⟨h20,rfl,fb',s4.drop.drop.drop⟩⟩
  refine ag bF rfl ?_;unfold bq
  simp only[sim,af,reduceAdd,reduceSub,replicate,reduceCtorEq,reduceLeDiff,reduceLT,aa,au,tp,c1,Int.reduceEq,decide_false,decide_true,e2,f0,tl,c3,c4,z3,z4,z5,e4]
set_option maxHeartbeats 1000000 in
theorem Ft (s:St h0 F0 J0 h L) (a:At c L i n) (o:OkR c n) {st:List VD} {v:VD} (hst:n.top.stack=st++[v]) {P:Nat} (hP:n.top.plugin=(P:Int)) (hP4:P<4) (k m:Int):∃ fr h',ai Tryz.prog po iO [.ptr c.mb 0 0,.agg (iR 20 k m)] h=some (fr,h')∧bm h0 F0 J0 c L i (n.stk st) (bR n.top.plugin 20 k m [v] n.S) fr h':=by
 rw[Kv]
 obtain⟨s1,a1,tp,tl,c1⟩:=gT s a o 20 k m
 obtain⟨l0,l1,_⟩:=cH s1 a1 o.len
 obtain⟨ix,_,kr,lk,hkr,_,bn⟩:=mP s1 a1 o hP4
 rw[hP]at tl ⊢
 rw[Int.toNat_natCast]
 obtain⟨k1,k2⟩:=hkr.len3
 have f0:aH 0 (.ptr c.mb 0 0)=some (.ptr c.mb 0 0):=rfl
 have f1:aH 2 (.ptr c.bb 0 0)=some (.ptr c.bb 0 2):=rfl
 have f2:aH 0 (.ptr n.fb n.below.length 0)=some (.ptr n.fb n.below.length 0):=rfl
 have f3:aH 2 (.ptr c.bb 0 (2+P*5))=some (.ptr c.bb 0 (2+P*5+2)):=rfl
 have s2:St h0 F0 J0 _ (ah (h.n+1+1) [kr]::ah (h.n+1) [iR 20 k m]::ah h.n [iR 20 k m]::L):=s1.push [kr]
 have a2:=a1.cons (ah (h.n+1+1) [kr])
 obtain⟨h3,r,e3,hv,s3,a3⟩:=eI s2 a2 o hst
 have o3:=o.stk' hst
 rw[aj,aj,aj]at s3
 have a3':At c (ah (h.n+1+1) [kr]::ah (h.n+1) [iR 20 k m]::ah h.n [iR 20 k m]::put c L i (n.stk st)) (i+1+1+1) (n.stk st):=a3
 obtain⟨h4,e4,s4⟩:=Dv s3 (i+1+1+1+1) a3'.b o.len (p:=P) (by rw[o.ms];exact hP4) hv
 have s4':St h0 F0 J0 h4 (ah (h.n+1+1) [kr]::ah (h.n+1) [iR 20 k m]::ah h.n [iR 20 k m]::put c L i {(n.stk st)with S:={n.S with kept:=n.S.kept.set P v}}):=by
  rw[a3'.setB,aj,aj,aj,aO]at s4
  exact s4
 have a4:=((((a.put {(n.stk st)with S:={n.S with kept:=n.S.kept.set P v}}).cons (ah h.n [iR 20 k m])).cons (ah (h.n+1) [iR 20 k m])).cons (ah (h.n+1+1) [kr]))
 have c4:=(s4'.cell 0 rfl).1
 obtain⟨h5,e5,s5⟩:=cM s4' a4 o.below o3.stk hkr
 rw[aj,aj,aj,aO]at s5
 have r8:bm h0 F0 J0 c L i (n.stk st) _ _ h5:=bm.ok (S:={n.S with kept:=n.S.kept.set P v}) (v:=n.S.kept.getD P aD) s5.drop.drop.drop
 refine⟨_,h5,cD s a o (by decide) ?_ r8.fr,r8⟩
 refine ag bF rfl ?_;unfold bq
 simp only[sim,af,reduceAdd,reduceSub,replicate,reduceCtorEq,reduceLeDiff,reduceLT,aa,au,tp,c1,Int.reduceEq,decide_false,decide_true,f0,f1,f2,f3,l0,tl,ix,lk,k1,k2,e3,e4,c4,e5]
set_option maxHeartbeats 1000000 in
theorem FO (s:St h0 F0 J0 h L) (a:At c L i n) (o:OkR c n) {P:Nat} (hP:n.top.plugin=(P:Int)) (hP4:P<4) (k m:Int):∃ h',ai Tryz.prog po iO [.ptr c.mb 0 0,.agg (iR 21 k m)] h=some (.inl (.tup []),h')∧St h0 F0 J0 h' (put c L i (n.stk (n.top.stack++[n.S.kept.getD P aD]))):=by
 obtain⟨s1,a1,tp,tl,c1⟩:=gT s a o 21 k m
 obtain⟨l0,l1,_⟩:=cH s1 a1 o.len
 obtain⟨ix,_,kr,lk,hkr,_,bn⟩:=mP s1 a1 o hP4
 rw[hP]at tl
 have f0:aH 0 (.ptr c.mb 0 0)=some (.ptr c.mb 0 0):=rfl
 have f1:aH 2 (.ptr c.bb 0 0)=some (.ptr c.bb 0 2):=rfl
 have f2:aH 0 (.ptr n.fb n.below.length 0)=some (.ptr n.fb n.below.length 0):=rfl
 have f3:aH 2 (.ptr c.bb 0 (2+P*5))=some (.ptr c.bb 0 (2+P*5+2)):=rfl
 obtain⟨h2,e2,s2⟩:=cM s1 a1 o.below o.stk hkr
 rw[aj,aj]at s2
 refine⟨h2,cD s a o (by decide) ?_ (.inl rfl),s2.drop.drop⟩
 refine ag bF rfl ?_;unfold bq
 simp only[sim,af,reduceAdd,reduceSub,replicate,reduceCtorEq,reduceLeDiff,reduceLT,aa,au,tp,c1,Int.reduceEq,decide_false,decide_true,f0,f1,f2,f3,l0,tl,ix,lk,e2]
end
end Go.Proofs.YtkdbjfncchmmpaaGreat
