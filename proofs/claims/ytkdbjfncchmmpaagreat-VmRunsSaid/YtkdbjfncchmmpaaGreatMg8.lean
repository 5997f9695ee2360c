/- What is read from the document's house, and laid into it. -/
import Derived.Test.YtkdbjfncchmmpaaGreatMg7
namespace Go.Proofs.YtkdbjfncchmmpaaGreat
open Nat renaming reduceAdd→θ,reduceSub→ξ,reduceLeDiff→ψ,reduceLT→ω
open List renaming replicate→η
set_option linter.unusedSimpArgs false
set_option linter.unusedVariables false
set_option linter.unusedSimpArgs false
set_option linter.unusedVariables false
open Go
theorem H1 {α:Type} {l:List α} (h:l.length=4):∃ a b c d,l=[a,b,c,d]:=by
 match l,h with
 | [a,b,c,d],_=>exact⟨a,b,c,d,rfl⟩
theorem Eh {α:Type} {l:List α} (h:l.length=3):∃ a b c,l=[a,b,c]:=by
 match l,h with
 | [a,b,c],_=>exact⟨a,b,c,rfl⟩
theorem E0 {kr:List (List AV)} (h:kr.length=4) (h3:∀ r∈kr,r.length=3):∃ a b c d e f g i j k l m,kr=[[a,b,c],[d,e,f],[g,i,j],[k,l,m]]:=by
 obtain⟨x,y,z,w,rfl⟩:=H1 h
 obtain⟨a,b,c,rfl⟩:=Eh (h3 x (by simp))
 obtain⟨d,e,f,rfl⟩:=Eh (h3 y (by simp))
 obtain⟨g,i,j,rfl⟩:=Eh (h3 z (by simp))
 obtain⟨k,l,m,rfl⟩:=Eh (h3 w (by simp))
 exact⟨a,b,c,d,e,f,g,i,j,k,l,m,rfl⟩
theorem VaL.len3:∀ {l:List VD} {es:List (List AV)},VaL l es→∀ r∈es,r.length=3
 | [],es,h,r,hr=>by simp only[VaL]at h;subst h;simp at hr
 | x::l,es,h,r,hr=>by
   simp only[VaL]at h
   obtain⟨q,rs,rfl,h1,h2⟩:=h
   rcases List.mem_cons.1 hr with rfl | hr
   ·exact h1.len3.1
   ·exact VaL.len3 h2 r hr
theorem VaL.set:∀ {l:List VD} {es:List (List AV)} {v:VD} {r:List AV},VaL l es→VaA v r→∀ n,VaL (l.set n v) (es.set n r)
 | [],es,v,r,h,hv,n=>by simp only[VaL]at h;subst h;simp[VaL]
 | x::l,es,v,r,h,hv,n=>by
   simp only[VaL]at h
   obtain⟨q,rs,rfl,h1,h2⟩:=h
   cases n with
   | zero=>exact⟨r,rs,rfl,hv,h2⟩
   | succ n=>exact⟨q,rs.set n r,rfl,h1,VaL.set h2 hv n⟩
section
variable {h h' h0:AH} {F J F0 J0:Nat→Prop} {L:List Asn} {c:HmC} {ms:aO} {S:StD} {hands:List (List VD)}
structure fH (h:AH) (c:HmC) (lv:AV) (kr:List (List AV)) (hv:List AV) (ms:aO):Prop where
 cell:h.cell c.hb=some [dI c lv kr hv]
 lt:c.hb<h.n
 m4:c.mods.length=4
 k4:kr.length=4
 k3:∀ r∈kr,r.length=3
 non:∀ p:Nat,ms[p]? =some none→∃ v,c.mods[p]? =some (.nilp,v)
 mod:∀ (p:Nat) (M:List XD),ms[p]? =some (some M)→∃ q v es,c.mods[p]? =some (.ptr q 0 0,v)∧h.cell q=some [[v]]∧q<h.n∧SlA tE v es∧ExL M es
theorem fH.push {lv:AV} {kr:List (List AV)} {hv:List AV} (f:fH h c lv kr hv ms) (g:ab h h'):fH h' c lv kr hv ms:=
 ⟨(g.cell _ f.lt).trans f.cell,Nat.lt_of_lt_of_le f.lt g.n,f.m4,f.k4,f.k3,f.non,fun p M hp=>by
   obtain⟨q,v,es,a,b,d,e⟩:=f.mod p M hp
   exact⟨q,v,es,a,(g.cell _ d).trans b,Nat.lt_of_lt_of_le d g.n,e⟩⟩
theorem QT {α β γ:Type} {f:α→β→γ} {l:List α} {m:List β} {p:Nat} {b:β} (hl:l.length=m.length) (hp:m[p]? =some b) {R:List γ}:∃ a,l[p]? =some a∧(List.zipWith f l m++R)[p]? =some (f a b):=by
 have hp':=(List.getElem?_eq_some_iff.1 hp).1
 refine⟨l[p]'(by omega),List.getElem?_eq_getElem _,?_⟩
 rw[List.getElem?_append_left (by simp;omega),List.getElem?_zipWith,hp,List.getElem?_eq_getElem (by omega)]
theorem ny {S:StD} (x:(eF c ms S hands).A h F J) (h4:ms.length=4) (k4:S.kept.length=4):∃ lv kr hv,fH h c lv kr hv ms∧VaL S.kept kr∧c.mods.length=ms.length∧hv.length=hands.length∧St h F J h (ah c.hb [dI c lv kr hv]::ah c.cb (S.cells.map fun x=>[.int .i64 x])::dC tEn lv (S.log.map dR)::(List.zipWith oY c.mods ms++List.zipWith mK hv hands))∧(bj (ah c.hb [dI c lv kr hv]::ah c.cb (S.cells.map fun x=>[.int .i64 x])::dC tEn lv (S.log.map dR)::(List.zipWith oY c.mods ms++List.zipWith mK hv hands))).A h F J:=by
 obtain⟨⟨lv,kr,hv⟩,⟨h1,h2,h3⟩,y⟩:=x
 have s:=St.start y
 have c0:=s.cell 0 rfl
 refine⟨lv,kr,hv,⟨c0.1,c0.2,h1.trans h4,h2.len.trans k4,h2.len3,fun p hp=> ?_,fun p M hp=> ?_⟩,h2,h1,h3,s,y⟩
 ·obtain⟨a,ha,hz⟩:=QT (f:=oY) (R:=List.zipWith mK hv hands) h1 hp
  obtain⟨F1,J1,e,_⟩:=s.get (3+p) (X:=oY a none) (by rw[show 3+p=p+1+1+1 by omega];exact hz)
  exact⟨a.2,by rw[ha,←e]⟩
 ·obtain⟨a,ha,hz⟩:=QT (f:=oY) (R:=List.zipWith mK hv hands) h1 hp
  obtain⟨F1,J1,⟨q,es⟩,⟨e1,e2,e3⟩,y⟩:=s.get (3+p) (X:=oY a (some M)) (by rw[show 3+p=p+1+1+1 by omega];exact hz)
  simp only at e1 e2 e3
  obtain⟨_,_,y1,y2⟩:=y
  exact⟨q,a.2,es,by rw[ha,←e1],y2,y1,e2,e3⟩
theorem ct (s:St h0 F0 J0 h L) (i:Nat) (hi:L[i]? =some (eF c ms S hands)) (h4:ms.length=4) (k4:S.kept.length=4):∃ lv kr hv,fH h c lv kr hv ms∧VaL S.kept kr:=by
 obtain⟨F,J,x⟩:=s.get i hi
 obtain⟨lv,kr,hv,a,b,_⟩:=ny x h4 k4
 exact⟨lv,kr,hv,a,b⟩
variable {lv:AV} {kr:List (List AV)} {hv:List AV}
theorem fH.net (f:fH h c lv kr hv ms) {n:Nat}:aR false n h (.ptr c.hb 0 0)=some (.ptr c.nb 0 0):=by rw[bP,f.cell];rfl
theorem fH.cells (f:fH h c lv kr hv ms) {n:Nat}:aR false n h (.ptr c.hb 0 1)=some (.msl c.cb 0 12 tL):=by rw[bP,f.cell];rfl
theorem fH.logv (f:fH h c lv kr hv ms) {n:Nat}:aR false n h (.ptr c.hb 0 2)=some lv:=by rw[bP,f.cell];rfl
theorem fH.ldm (f:fH h c lv kr hv ms) {n p:Nat} {v:AV×AV} (hp:c.mods[p]? =some v):aR false n h (.ptr c.hb 0 (3+p))=some v.1:=by
 rw[bP,f.cell]
 obtain⟨hb,nb,cb,mods⟩:=c
 obtain⟨a,b,d,e,rfl⟩:=H1 f.m4
 simp only at hp
 have:p<4:=(List.getElem?_eq_some_iff.1 hp).1
 match p,this with
 | 0,_=>obtain rfl:=Option.some.inj hp;rfl
 | 1,_=>obtain rfl:=Option.some.inj hp;rfl
 | 2,_=>obtain rfl:=Option.some.inj hp;rfl
 | 3,_=>obtain rfl:=Option.some.inj hp;rfl
theorem fH.ldk (f:fH h c lv kr hv ms) {p:Nat} {r:List AV} (hp:kr[p]? =some r):aR true 3 h (.ptr c.hb 0 (7+p*3))=some (.agg r):=by
 rw[bP,f.cell]
 obtain⟨hb,nb,cb,mods⟩:=c
 obtain⟨a,b,d,e,rfl⟩:=H1 f.m4
 have hl:=f.k4
 obtain⟨_,_,_,_,_,_,_,_,_,_,_,_,rfl⟩:=E0 f.k4 f.k3
 have:p<4:=(List.getElem?_eq_some_iff.1 hp).1
 match p,this with
 | 0,_=>obtain rfl:=Option.some.inj hp;simp[ldA]
 | 1,_=>obtain rfl:=Option.some.inj hp;simp[ldA]
 | 2,_=>obtain rfl:=Option.some.inj hp;simp[ldA]
 | 3,_=>obtain rfl:=Option.some.inj hp;simp[ldA]
theorem fH.stk (f:fH h c lv kr hv ms) {p:Nat} (hp:p<4) {r:List AV} (hr:r.length=3):stA (dI c lv kr hv) (7+p*3) r=dI c lv (kr.set p r) hv:=by
 obtain⟨hb,nb,cb,mods⟩:=c
 obtain⟨a,b,d,e,rfl⟩:=H1 f.m4
 obtain⟨_,_,_,_,_,_,_,_,_,_,_,_,rfl⟩:=E0 f.k4 f.k3
 obtain⟨_,_,_,rfl⟩:=Eh hr
 match p,hp with
 | 0,_=>simp[stA]
 | 1,_=>simp[stA]
 | 2,_=>simp[stA]
 | 3,_=>simp[stA]
theorem fH.len (f:fH h c lv kr hv ms):19≤(dI c lv kr hv).length:=by
 obtain⟨hb,nb,cb,mods⟩:=c
 obtain⟨a,b,d,e,rfl⟩:=H1 f.m4
 obtain⟨_,_,_,_,_,_,_,_,_,_,_,_,rfl⟩:=E0 f.k4 f.k3
 simp
theorem MK (s:St h0 F0 J0 h L) (i:Nat) (hi:L[i]? =some (eF c ms S hands)) (h4:ms.length=4) (k4:S.kept.length=4) {p:Nat} (hp:p<4) {v:VD} {r:List AV} (hr:VaA v r):
  ∃ h',aZ 3 h (.ptr c.hb 0 (7+p*3)) (.agg r)=some h'∧St h0 F0 J0 h' (L.set i (eF c ms {S with kept:=S.kept.set p v} hands)):=by
 refine s.call (R:=fun h'=>aZ 3 h (.ptr c.hb 0 (7+p*3)) (.agg r)=some h') i hi fun F J x=> ?_
 obtain⟨lv,kr,hv,f,hk,h1,h3,s,_⟩:=ny x h4 k4
 have st:=bJ (n:=3) (x:= .agg r) (off:=7+p*3) (i:=0) f.cell rfl (by exact hr.len3.2) (by exact hr.len3.1) (by have:=f.len;omega)
 rw[show(AV.agg r).cells=r from rfl,f.stk hp hr.len3.1,List.set_cons_zero]at st
 exact⟨_,st,wF (S:={S with kept:=S.kept.set p v}) h1 (hk.set hr p) h3 (s.set 0 rfl _)⟩
theorem K7 (s:St h0 F0 J0 h L) (i:Nat) (hi:L[i]? =some (eF c ms S hands)) (hn:S.log.length≤1000000) (e:eO):
  ∃ lv h1 h2 v',(aR false 1 h (.ptr c.hb 0 2)=some lv∧aR false 1 (h.fresh 1) (.ptr c.hb 0 2)=some lv)∧aQ false tEn lv (.isl (some h.ids) tEn [dR e]) (h.fresh 1)=some (v',h1)∧v'.one=true∧h1.n=h.n∧h1.cell=h.cell∧aZ 1 h1 (.ptr c.hb 0 2) v'=some h2∧(∀ k,k≠c.hb→h2.cell k=h.cell k)∧St h0 F0 J0 h2 (L.set i (eF c ms {S with log:=S.log++[e]} hands)):=by
 obtain⟨h2,⟨lv,h1,v',a⟩,b⟩:=s.call (R:=fun h2=>∃ lv h1 v',(aR false 1 h (.ptr c.hb 0 2)=some lv∧aR false 1 (h.fresh 1) (.ptr c.hb 0 2)=some lv)∧aQ false tEn lv (.isl (some h.ids) tEn [dR e]) (h.fresh 1)=some (v',h1)∧v'.one=true∧h1.n=h.n∧h1.cell=h.cell∧aZ 1 h1 (.ptr c.hb 0 2) v'=some h2∧(∀ k,k≠c.hb→h2.cell k=h.cell k)) i hi fun F J x=>by
  obtain⟨lv,kr,hv,h1,h2,h3,s⟩:=sO x
  have c0:=s.cell 0 rfl
  obtain⟨h5,v',⟨e1,o1,o2,n1,k1⟩,s1⟩:=s.callE (R:=fun h' v'=>aQ false tEn lv (.isl (some h.ids) tEn [dR e]) (h.fresh 1)=some (v',h')∧v'.one=true∧v'.cells=[v']∧h'.n=h.n∧h'.cell=h.cell) 2 rfl (Y:=fun v'=>dC tEn v' (S.log.map dR++[dR e])) fun F J y=>by
   obtain⟨v',h',a1,a2,a3,a4,a5,a6⟩:=tU y (row:=dR e) rfl (by simpa using hn)
   exact⟨h',v',⟨a1,a2,a3,a5,a6⟩,a4⟩
  have c1:=(s1.cell 0 rfl).1
  have st:=bJ (n:=1) (x:=v') (off:=2) (i:=0) c1 rfl (by rw[o2];simpa using o1) (by rw[o2];rfl) (by simp)
  rw[o2,show stA (dI c lv kr hv) 2 [v']=dI c v' kr hv from rfl,List.set_cons_zero]at st
  have s2:=s1.set 0 rfl [dI c v' kr hv]
  refine⟨_,⟨lv,h5,v',⟨by rw[bP,c0.1];rfl,by rw[bP,iZ,c0.1];rfl⟩,e1,o1,n1,k1,st,fun k hk=>by rw[bu hk,k1]⟩,wF (S:={S with log:=S.log++[e]}) (lv:=v') h1 h2 h3 (by rw[List.map_append];exact s2)⟩
 exact⟨lv,h1,h2,v',a.1,a.2.1,a.2.2.1,a.2.2.2.1,a.2.2.2.2.1,a.2.2.2.2.2.1,a.2.2.2.2.2.2,b⟩
theorem UN (s:St h0 F0 J0 h L) (i:Nat) (hi:L[i]? =some (eF c ms S hands)) {n:Nat} (j:Nat) (hj:j<S.cells.length):aR false n h (.ptr c.cb j 0)=some (.int .i64 (S.cells.getD j 0)):=by
 obtain⟨F,J,x⟩:=s.get i hi
 obtain⟨lv,kr,hv,h1,h2,h3,s⟩:=sO x
 rw[bP,(s.cell 1 rfl).1]
 simp[List.getD,hj,ldA]
theorem U0 (s:St h0 F0 J0 h L) (i:Nat) (hi:L[i]? =some (eF c ms S hands)) (j:Nat) (hj:j<S.cells.length) (z:Int):
  ∃ h',aZ 1 h (.ptr c.cb j 0) (.int .i64 z)=some h'∧St h0 F0 J0 h' (L.set i (eF c ms {S with cells:=S.cells.set j z} hands)):=by
 refine s.call (R:=fun h'=>aZ 1 h (.ptr c.cb j 0) (.int .i64 z)=some h') i hi fun F J x=> ?_
 obtain⟨lv,kr,hv,h1,h2,h3,s⟩:=sO x
 have st:=bJ (n:=1) (x:= .int .i64 z) (off:=0) (i:=j) (e:=[.int .i64 (S.cells[j])]) (s.cell 1 rfl).1 (by simp[hj]) rfl rfl (by simp)
 rw[show stA [AV.int .i64 S.cells[j]] 0 (AV.int .i64 z).cells=[.int .i64 z] from rfl]at st
 refine⟨_,st,wF (S:={S with cells:=S.cells.set j z}) (lv:=lv) (hv:=hv) h1 h2 h3 ?_⟩
 rw[List.map_set]
 exact s.set 1 rfl _
end
section
variable {h h' h0:AH} {F J F0 J0:Nat→Prop} {L R:List Asn} {X Y Z X':Asn} {c:HmC} {ms:aO} {S:StD} {hands:List (List VD)}
theorem St.cut {α:Type} {M:α→List Asn} {Q:α→Prop} (s:St h0 F0 J0 h L) (i:Nat) (hi:L[i]? =some X) (c:∀ F J,X.A h F J→∃ a,Q a∧(bj (M a)).A h F J):∃ a,Q a∧St h0 F0 J0 h (M a++L.eraseIdx i):=by
 obtain⟨F,J,x,ch,a,b⟩:=s
 obtain⟨F1,J1,F2,J2,x1,z,r⟩:=(bj.front hi).1 x
 obtain⟨w,q,y⟩:=c F1 J1 x1
 exact⟨w,q,F,J,bj.app.2 ⟨F1,J1,F2,J2,y,z,r⟩,ch,a,b⟩
theorem St.shut {M:List Asn} {i:Nat} (s:St h0 F0 J0 h (M++L.eraseIdx i)) (hi:i<L.length) (c:∀ h F J,(bj M).A h F J→X.A h F J):St h0 F0 J0 h (L.set i X):=by
 obtain⟨F,J,x,ch,a,b⟩:=s
 obtain⟨F1,J1,F2,J2,x1,z,r⟩:=bj.app.1 x
 exact⟨F,J,bj.back hi ⟨F1,J1,F2,J2,c _ _ _ x1,z,r⟩,ch,a,b⟩
theorem St.into {k j:Nat} (s:St h0 F0 J0 h L) (hk:L[k]? =some X) (hj:j<(L.eraseIdx k).length) (c:∀ h F J,X.A h F J→X'.A h F J):St h0 F0 J0 h ((L.eraseIdx k).set j X'):=by
 have hj':(L.eraseIdx k)[j]? =some (L.eraseIdx k)[j]:=List.getElem?_eq_getElem hj
 generalize (L.eraseIdx k)[j]=Y at hj'
 have s1:St h0 F0 J0 h (Y::X'::(L.eraseIdx k).eraseIdx j):=by
  obtain⟨F,J,x,r⟩:=s
  exact⟨F,J,ii (eB (fun _ _ _ y=>c _ _ _ y) (fun _ _ _ y=>(bj.front hj').1 y) ((bj.front hk).1 x)),r⟩
 obtain⟨F,J,x,r⟩:=s1.drop
 exact⟨F,J,bj.back hj x,r⟩
abbrev QV:List (AV×AV):=[(.nilp,.nilp),(.nilp,.nilp),(.nilp,.nilp),(.nilp,.nilp)]
abbrev Dp:List (List VD):=[[],[],[],[]]
theorem aae {X1 X2:Asn} (h1:X1.A h (fun _=>False) (fun _=>False)) (h2:X2.A h (fun _=>False) (fun _=>False)):(fw X1 X2).A h (fun _=>False) (fun _=>False):=
 ⟨_,_,_,_,h1,h2,fun _=>by simp,fun _=>by simp,fun _ h=>h.elim,fun _ h=>h.elim⟩
theorem As:∀ {L:List Asn},(∀ X∈L,X.A h (fun _=>False) (fun _=>False))→(bj L).A h (fun _=>False) (fun _=>False)
 | [],_=>⟨trivial,fun _ h=>h,fun _ h=>h⟩
 | X::L,hx=>aae (hx X (by simp)) (As fun Y hY=>hx Y (by simp[hY]))
theorem Y4 {e:TypeId}:(dC e .nils []).A h (fun _=>False) (fun _=>False):= .inl ⟨⟨rfl,rfl⟩,fun _ h=>h,fun _ h=>h⟩
theorem Lj:(mK .nils []).A h (fun _=>False) (fun _=>False):=⟨[],rfl,.inl ⟨⟨rfl,rfl⟩,fun _ h=>h,fun _ h=>h⟩⟩
theorem VE {v:AV}:(oY (.nilp,v) none).A h (fun _=>False) (fun _=>False):=⟨rfl,fun _ h=>h,fun _ h=>h⟩
theorem Mp (s:St h0 F0 J0 h L) (l:Nat):∃ h' c,aj Tryz.prog po 25 [] h=some (.inl (.ptr c.hb 0 0),h')∧St h0 F0 J0 h' (eF c ms0 (i4 l) Dp::aW c.nb G0::L):=by
 have s1:St h0 F0 J0 _ (aW h.n G0::L):=s.add (ab.push h _) A7 (fun k hk=>Nat.le_of_eq hk.symm) (fun _ h=>h.elim)
 have s2:=s1.push (η 12 [.int .i64 0])
 have s3:=s2.push [.ptr h.n 0 0::W1 (h.n+1)]
 have s4:=s3.add (ab.refl _) (X:=bj (dC tEn .nils []::(List.zipWith oY QV ms0++List.zipWith mK [.nils,.nils,.nils,.nils] Dp))) (As fun X hX=>by
  simp only[List.zipWith_cons_cons,List.zipWith_nil_left,List.cons_append,List.nil_append,List.mem_cons,List.not_mem_nil,or_false]at hX
  rcases hX with rfl | rfl | rfl | rfl | rfl | rfl | rfl | rfl | rfl
  ·exact Y4
  ·exact VE
  ·exact VE
  ·exact VE
  ·exact VE
  ·exact Lj
  ·exact Lj
  ·exact Lj
  ·exact Lj) (fun _ h=>h.elim) (fun _ h=>h.elim)
 have s5:St h0 F0 J0 (((h.push [[AV.nils,AV.nils]]).push (η 12 [AV.int IntKind.i64 0])).push [.ptr h.n 0 0::W1 (h.n+1)]) (eF ⟨h.n+1+1,h.n,h.n+1,QV⟩ ms0 (i4 l) Dp::aW h.n G0::L):=by
  obtain⟨F,J,x,r⟩:=s4
  refine⟨F,J,?_,r⟩
  have x1:=eB (fun _ _ _ y=>y) (fun _ _ _ y=>ii y) (ii x)
  have x2:=mM (eB (fun _ _ _ y=>y) (fun _ _ _ y=>mM y) x1)
  exact eB (fun _ _ _ y=>⟨(.nils,[zR3,zR3,zR3,zR3],[.nils,.nils,.nils,.nils]),⟨rfl,⟨_,_,rfl,aL,_,_,rfl,aL,_,_,rfl,aL,_,_,rfl,aL,rfl⟩,rfl⟩,y⟩) (fun _ _ _ y=>y) x2
 refine⟨_,⟨h.n+1+1,h.n,h.n+1,QV⟩,?_,s5⟩
 have mk:∀ h1:AH,Yv tL [.int .i64 0] (.int .i64 12) (.int .i64 12) h1=some (.msl h1.n 0 12 tL,h1.push (η 12 [.int .i64 0])):=fun h1=>rfl
 refine ag Gb rfl ?_;unfold wI
 simp only[sim,af,θ,ξ,η,reduceCtorEq,ψ,ω,aa,mk]
abbrev Tw (c:HmC) (ms:aO) (S:StD) (hands:List (List VD)) (a:AV×List (List AV)×List AV):List Asn:=ah c.hb [dI c a.1 a.2.1 a.2.2]::ah c.cb (S.cells.map fun x=>[.int .i64 x])::dC tEn a.1 (S.log.map dR)::(List.zipWith oY c.mods ms++List.zipWith mK a.2.2 hands)
theorem Nh (s:St h0 F0 J0 h L) (i:Nat) (hi:L[i]? =some (eF c ms S hands)) (h4:ms.length=4) (k4:S.kept.length=4):∃ a:AV×List (List AV)×List AV,(fH h c a.1 a.2.1 a.2.2 ms∧VaL S.kept a.2.1∧c.mods.length=ms.length∧a.2.2.length=hands.length)∧St h0 F0 J0 h (Tw c ms S hands a++L.eraseIdx i):=
 s.cut i hi fun F J x=>by
  obtain⟨lv,kr,hv,f,hk,h1,h3,_,y⟩:=ny x h4 k4
  exact⟨(lv,kr,hv),⟨f,hk,h1,h3⟩,y⟩
theorem Lx {a:AV×List (List AV)×List AV} {i:Nat} (s:St h0 F0 J0 h (Tw c ms S hands a++L.eraseIdx i)) (hi:i<L.length) (h1:c.mods.length=ms.length) (h2:VaL S.kept a.2.1) (h3:a.2.2.length=hands.length):St h0 F0 J0 h (L.set i (eF c ms S hands)):=
 s.shut hi fun _ _ _ y=>⟨a,⟨h1,h2,h3⟩,y⟩
def HmC.put (c:HmC) (p:Nat) (q:AV×AV):HmC:={c with mods:=c.mods.set p q}
theorem fH.stm {lv:AV} {kr:List (List AV)} {hv:List AV} (f:fH h c lv kr hv ms) {p:Nat} (hp:p<4) (q:AV×AV):stA (dI c lv kr hv) (3+p) [q.1]=dI (c.put p q) lv kr hv:=by
 obtain⟨hb,nb,cb,mods⟩:=c
 obtain⟨a,b,d,e,rfl⟩:=H1 f.m4
 match p,hp with
 | 0,_=>simp[stA,HmC.put]
 | 1,_=>simp[stA,HmC.put]
 | 2,_=>simp[stA,HmC.put]
 | 3,_=>simp[stA,HmC.put]
theorem FE {α β γ:Type} {f:α→β→γ}:∀ {l:List α} {m:List β} {p:Nat} {a:α} {b:β},(List.zipWith f l m).set p (f a b)=List.zipWith f (l.set p a) (m.set p b)
 | [],m,p,a,b=>by simp
 | x::l,[],p,a,b=>by cases p<;>simp
 | x::l,y::m,0,a,b=>rfl
 | x::l,y::m,p+1,a,b=>by simp[FE]
set_option maxHeartbeats 1000000 in
theorem yu (s:St h0 F0 J0 h L) (i:Nat) (hi:L[i]? =some (eF c ms S hands)) (h4:ms.length=4) (k4:S.kept.length=4) {v:AV} {M:List XD} {p:Nat} (hp:p<4) (m:∀ h,gk h v M) (hL:M.length≤100000) (hs:∀ x∈M,x.size≤100000):
  ∃ h' c',aj Tryz.prog po 44 [.ptr c.hb 0 0,.int .i64 (p:Int),.agg [v]] h=some (.inl (.int .i64 (aU M).1),h')∧c'.hb=c.hb∧c'.nb=c.nb∧c'.cb=c.cb∧St h0 F0 J0 h' (L.set i (if(aU M).1=0 then eF c' (ms.set p (some M)) {S with kept:=S.kept.set p aK} hands else eF c' ms S hands)):=by
 have s1:=s.push [[v]]
 have o1:=(m h).one
 have c1:=(s1.cell 0 rfl).1
 have cf:=zr (h:=h.push [[v]]) v M m hL hs
 have s2:St h0 F0 J0 _ (ah (h.n+1) [[.int .i64 (aU M).1,.int .i64 (aU M).2]]::ah h.n [[v]]::L):=s1.push [[.int .i64 (aU M).1,.int .i64 (aU M).2]]
 have c2:=(s2.cell 0 rfl).1
 have c3:=(s2.cell 1 rfl).1
 have d1:decide ((p:Int)<0)=false:=decide_eq_false (by omega)
 have d2:decide (4≤(p:Int))=false:=decide_eq_false (by omega)
 have hil:i<L.length:=(List.getElem?_eq_some_iff.1 hi).1
 by_cases hz:(aU M).1=0
 ·have d3:decide ((aU M).1=0)=true:=decide_eq_true hz
  obtain⟨r',eo,⟨v2,es2,rfl,hv2,hl2⟩⟩:=zo (h:=(h.push [[v]]).push [[.int .i64 (aU M).1,.int .i64 (aU M).2]]) v M m hL hs
  have ov:=(gk.of (h:=h) hv2 hl2).one
  have s3:St h0 F0 J0 _ (ah (h.n+1+1) [[v2]]::ah (h.n+1) [[.int .i64 (aU M).1,.int .i64 (aU M).2]]::ah h.n [[v]]::L):=s2.push [[v2]]
  obtain⟨a,⟨f,hk,h1,h3⟩,s4⟩:=Nh s3 (i+1+1+1) hi h4 k4
  have hlen:=f.len
  have e4:=bJ (n:=1) (x:= .ptr (h.n+1+1) 0 0) (off:=3+p) (i:=0) f.cell rfl rfl rfl (by omega)
  rw[show(AV.ptr (h.n+1+1) 0 0).cells=[(AV.ptr (h.n+1+1) 0 0,v2).1] from rfl,f.stm hp (.ptr (h.n+1+1) 0 0,v2),List.set_cons_zero]at e4
  have s5:=s4.set 0 rfl [dI (c.put p (.ptr (h.n+1+1) 0 0,v2)) a.1 a.2.1 a.2.2]
  have f5:fH (((h.push [[v]]).push [[.int .i64 (aU M).1,.int .i64 (aU M).2]]).push [[v2]]) c a.1 a.2.1 a.2.2 ms:=f
  have e5:=bJ (n:=3) (x:= .agg zR3) (off:=7+p*3) (i:=0) (s5.cell 0 rfl).1 rfl rfl rfl (by
   simp only[List.length_cons,List.length_append,List.length_map,HmC.put,List.length_set,f.m4]
   obtain⟨_,_,_,_,_,_,_,_,_,_,_,_,hkr⟩:=E0 f.k4 f.k3
   rw[hkr]
   simp
   omega)
  have hst:stA (dI (c.put p (.ptr (h.n+1+1) 0 0,v2)) a.1 a.2.1 a.2.2) (7+p*3) (AV.agg zR3).cells=dI (c.put p (.ptr (h.n+1+1) 0 0,v2)) a.1 (a.2.1.set p zR3) a.2.2:=by
   obtain⟨hb,nb,cb,mods⟩:=c
   obtain⟨m0,m1,m2,m3,rfl⟩:=H1 f.m4
   obtain⟨_,_,_,_,_,_,_,_,_,_,_,_,hkr⟩:=E0 f.k4 f.k3
   rw[hkr]
   match p,hp with
   | 0,_=>simp[stA,HmC.put,AV.cells]
   | 1,_=>simp[stA,HmC.put,AV.cells]
   | 2,_=>simp[stA,HmC.put,AV.cells]
   | 3,_=>simp[stA,HmC.put,AV.cells]
  rw[hst,List.set_cons_zero]at e5
  have s6:=s5.set 0 rfl [dI (c.put p (.ptr (h.n+1+1) 0 0,v2)) a.1 (a.2.1.set p zR3) a.2.2]
  have hA:(Tw c ms S hands a).length=3+(4+hands.length):=by
   simp only[List.length_cons,List.length_append,List.length_zipWith,h1,h4,h3,Nat.min_self]
   omega
  generalize hH6:((((h.push [[v]]).push [[.int .i64 (aU M).1,.int .i64 (aU M).2]]).push [[v2]]).set c.hb (some [dI (c.put p (.ptr (h.n+1+1) 0 0,v2)) a.1 a.2.1 a.2.2])).set c.hb (some [dI (c.put p (.ptr (h.n+1+1) 0 0,v2)) a.1 (a.2.1.set p zR3) a.2.2])=H6 at*
  have s6:St h0 F0 J0 H6 ((ah c.hb [dI (c.put p (.ptr (h.n+1+1) 0 0,v2)) a.1 (a.2.1.set p zR3) a.2.2]::ah c.cb (S.cells.map fun x=>[.int .i64 x])::dC tEn a.1 (S.log.map dR)::(List.zipWith oY c.mods ms++List.zipWith mK a.2.2 hands))++(ah (h.n+1+1) [[v2]]::(ah (h.n+1) [[.int .i64 (aU M).1,.int .i64 (aU M).2]]::ah h.n [[v]]::L.eraseIdx i))):=s6
  generalize hB:(ah (h.n+1) [[.int .i64 (aU M).1,.int .i64 (aU M).2]]::ah h.n [[v]]::L.eraseIdx i)=B at s6
  have hzl:(List.zipWith oY c.mods ms).length=4:=by simp[h1,h4]
  have s7:St h0 F0 J0 H6 ((ah c.hb [dI (c.put p (.ptr (h.n+1+1) 0 0,v2)) a.1 (a.2.1.set p zR3) a.2.2]::ah c.cb (S.cells.map fun x=>[.int .i64 x])::dC tEn a.1 (S.log.map dR)::(List.zipWith oY (c.mods.set p (.ptr (h.n+1+1) 0 0,v2)) (ms.set p (some M))++List.zipWith mK a.2.2 hands))++B):=by
   generalize hA':(ah c.hb [dI (c.put p (.ptr (h.n+1+1) 0 0,v2)) a.1 (a.2.1.set p zR3) a.2.2]::ah c.cb (S.cells.map fun x=>[.int .i64 x])::dC tEn a.1 (S.log.map dR)::(List.zipWith oY c.mods ms++List.zipWith mK a.2.2 hands))=A at s6
   have hAl:A.length=3+(4+hands.length):=by rw[←hA',←hA];simp
   have t:=s6.into (k:=A.length) (j:=3+p) (X':=oY (.ptr (h.n+1+1) 0 0,v2) (some M)) (by rw[List.getElem?_append_right (Nat.le_refl _),Nat.sub_self];rfl) (by rw[List.length_eraseIdx];split<;>simp<;>omega) fun _ _ _ y=>⟨(h.n+1+1,es2),⟨rfl,hv2,hl2⟩,y⟩
   rw[List.eraseIdx_append_of_length_le (Nat.le_refl _),Nat.sub_self,List.eraseIdx_cons_zero,List.set_append_left _ _ (by omega),←hA']at t
   rw[show 3+p=p+1+1+1 by omega,List.set_cons_succ,List.set_cons_succ,List.set_cons_succ,List.set_append_left _ _ (by omega),FE]at t
   exact t
  rw[←hB]at s7
  have s8:=Lx (L:=ah (h.n+1) [[.int .i64 (aU M).1,.int .i64 (aU M).2]]::ah h.n [[v]]::L) (i:=i+1+1) (c:=c.put p (.ptr (h.n+1+1) 0 0,v2)) (ms:=ms.set p (some M)) (S:={S with kept:=S.kept.set p aK}) (a:=(a.1,a.2.1.set p zR3,a.2.2)) s7 (by simp only[List.length_cons];omega) (by simp[HmC.put,h1]) (hk.set aL p) h3
  have ix1:∀ q:IntKind,bL none (some (4,1)) (.ptr c.hb 0 3) (.int q (p:Int))=some (.ptr c.hb 0 (3+p)):=fun q=>by simp[bL,hp]
  have ix2:∀ q:IntKind,bL none (some (4,3)) (.ptr c.hb 0 7) (.int q (p:Int))=some (.ptr c.hb 0 (7+p*3)):=fun q=>by simp[bL,hp]
  have f1:aP 3 (.ptr c.hb 0 0)=some (.ptr c.hb 0 3):=rfl
  have f2:aP 7 (.ptr c.hb 0 0)=some (.ptr c.hb 0 7):=rfl
  refine⟨H6,c.put p (.ptr (h.n+1+1) 0 0,v2),?_,rfl,rfl,rfl,?_⟩
  rotate_left
  ·rw[if_pos hz]
   exact s8.drop.drop
  rw[hz]at cf c2 c3 eo e4 e5 ⊢
  refine ag Fp rfl ?_;unfold yg
  simp only[sim,af,θ,ξ,η,reduceCtorEq,ψ,ω,aa,au,o1,c1,cf,c2,c3,d1,d2,eo,ov,ix1,ix2,f1,f2,e4,e5]
 ·have d3:decide ((aU M).1=0)=false:=decide_eq_false hz
  refine⟨_,c,?_,rfl,rfl,rfl,by rw[if_neg hz,tD hi];exact s2.drop.drop⟩
  refine ag Fp rfl ?_;unfold yg
  simp only[sim,af,θ,ξ,η,reduceCtorEq,ψ,ω,aa,au,o1,c1,cf,c2,d1,d2,d3]
end
abbrev goL (c:HmC) (e:Nat) (ms:aO) (S:StD) (hands:List (List VD)) (fr:Nat):List Asn:=[ah e [[.ptr c.hb 0 0,.int .i64 (S.left:Int),.int .i64 (fr:Int)]],eF c ms S hands,aW c.nb S.G]
structure OkG (ms:aO) (S:StD):Prop where
 m4:ms.length=4
 g:nO ms
 st:S.Good
 mu:S.mu≤1000000
section
variable {h h' h0:AH} {F J F0 J0:Nat→Prop} {L:List Asn} {c:HmC} {ms:aO} {S:StD} {hands:List (List VD)} {e fr:Nat}
theorem Aa (n k:Int):aj Tryz.prog po 138 [.int .i64 n,.int .i64 k] h=some (.inl (.tup [.agg (if k=0 then[.int .i64 4,.int .i64 n,.nils]else zR3),.int .i64 k]),h):=by
 by_cases hk:k=0
 ·have d:decide (k=0)=true:=decide_eq_true hk
  subst hk
  refine ag Et rfl ?_;unfold wA
  simp only[sim,af,θ,ξ,η,reduceCtorEq,ψ,ω,aa,d,if_true]
  exact aI (ab.push _ _) rfl
 ·have d:decide (k=0)=false:=decide_eq_false hk
  rw[if_neg hk]
  refine ag Et rfl ?_;unfold wA
  simp only[sim,af,θ,ξ,η,reduceCtorEq,ψ,ω,aa,d]
  exact aI (ab.push _ _) rfl
theorem aJ (k:Int):aj Tryz.prog po 135 [.int .i64 k] h=some (.inl (.tup [.agg zR3,.int .i64 k]),h):=by
 refine ag Lz rfl ?_;unfold AT
 simp only[sim,af,θ,ξ,η,reduceCtorEq,ψ,ω,aa]
 exact aI (ab.push _ _) rfl
abbrev zN6:List AV:=[.int .i64 0,.int .i64 0,.int .i64 0,.int .i64 0,.int .i64 0,.int .i64 0]
theorem tw {i j k:Nat} (s:St h0 F0 J0 h L) {row:List AV} (hi:L[i]? =some (ah e [.ptr c.hb 0 0::row])) (hj:L[j]? =some (eF c ms S hands)) (hk:L[k]? =some (aW c.nb S.G)) (o:OkG ms S) {v:VD} {r:List AV} (hv:VaA v r) (q:Nat) (hq:q<64):
  ∃ h',aj Tryz.prog po 137 [.ptr e 0 0,.agg r,.int .i64 (q:Int)] h=some (.inl (.tup [.agg (if cP (S.G.rights v.n) q then aH (S.G.target v.n).1 else zN6),.int .i64 (if cP (S.G.rights v.n) q then 0 else 9)]),h')∧ab h h':=by
 obtain⟨w,rfl,ho⟩:=hv.cells3
 have s1:=s.push [[.int .i64 v.kind,.int .i64 v.n,w]]
 have s2:=s1.push [zN6]
 obtain⟨lv,kr,hv,f,_⟩:=ct s2 (j+1+1) hj o.m4 o.st.kept
 have c0:=(s2.cell (i+1+1) hi).1
 have l0:aR false 1 ((h.push [[.int .i64 v.kind,.int .i64 v.n,w]]).push [zN6]) (.ptr e 0 0)=some (.ptr c.hb 0 0):=by rw[bP,c0];rfl
 have c1:=(s2.cell 1 rfl).1
 obtain⟨F1,J1,g⟩:=s2.get (k+1+1) hk
 have n1:=Eu g o.st.wf v.n
 have n2:=Ns g o.st.wf v.n
 have n3:=Ra (h:=(h.push [[.int .i64 v.kind,.int .i64 v.n,w]]).push [zN6]) (S.G.rights v.n) q hq
 have ln:=f.net (n:=1)
 have s3:=s2.push [zN6]
 have c0':=(s3.cell (i+1+1+1) hi).1
 have l0':aR false 1 (((h.push [[.int .i64 v.kind,.int .i64 v.n,w]]).push [zN6]).push [zN6]) (.ptr e 0 0)=some (.ptr c.hb 0 0):=by rw[bP,c0'];rfl
 have c1':=(s3.cell 2 rfl).1
 have ln':=(f.push (ab.push _ [zN6])).net (n:=1)
 have fe:aP 0 (.ptr e 0 0)=some (.ptr e 0 0):=rfl
 have fh:aP 0 (.ptr c.hb 0 0)=some (.ptr c.hb 0 0):=rfl
 cases hb:cP (S.G.rights v.n) q with
 | true=>
   rw[hb]at n3
   refine⟨_,?_,((ab.push h [[.int .i64 v.kind,.int .i64 v.n,w]]).trans (ab.push _ [zN6])).trans (ab.push _ [aH (S.G.target v.n).1]) |>.set (b:=h.n+1) (es:=some [aH (S.G.target v.n).1]) (Nat.le_succ _)⟩
   refine ag DW rfl ?_;unfold yj
   simp only[sim,af,θ,ξ,η,reduceCtorEq,ψ,ω,aa,au,ho,l0,c1,n1,n2,n3,ln,fe,fh,l0',c1',ln',ap,aA,aq,az,aH,if_true]
 | false=>
   rw[hb]at n3
   refine⟨_,?_,(ab.push h [[.int .i64 v.kind,.int .i64 v.n,w]]).trans (ab.push _ [zN6])⟩
   refine ag DW rfl ?_;unfold yj
   simp only[sim,af,θ,ξ,η,reduceCtorEq,ψ,ω,aa,au,ho,l0,c1,n1,n2,n3,ln,fe,fh,l0',c1',ln',ap,aA,aq,az,aH,if_true]
abbrev Az:FuncId:=119
def uZ (h:AH) (F J:Nat→Prop) (c:HmC) (e:Nat) (ms:aO) (hands:List (List VD)) (fr:Nat) (a:List AV) (q:StD×VD×Int):Prop:=
 ∃ h' r',aj Tryz.prog po Az a h=some (.inl (.tup [.agg r',.int .i64 q.2.2]),h')∧VaA q.2.1 r'∧Did h F J h' (bj (goL c e ms q.1 hands fr))
variable {p k n:Int} {xv lv:AV} {rows:List (List AV)} {a b:VD}
abbrev xR (op k n:Int) (xv:AV):List AV:=[.int .i64 op,.int .i64 k,.int .i64 n,xv]
structure aag (lv:AV) (a b:VD) (ra rb:List AV):Prop where
 i0:∀ q:IntKind,bL (some tV) none lv (.int q 0)=some (.ip ra 0)
 i1:∀ q:IntKind,bL (some tV) none lv (.int q 1)=some (.ip rb 0)
 a:VaA a ra
 b:VaA b rb
theorem C9 (hl:IsL tV lv rows) (hv:VaL [a,b] rows):∃ ra rb,rows=[ra,rb]∧aag lv a b ra rb:=by
 obtain⟨ra,_,rfl,h1,rb,_,rfl,h2,rfl⟩:=hv
 exact⟨ra,rb,rfl,fun q=>hl.ix q 0 ra rfl,fun q=>hl.ix q 1 rb rfl,h1,h2⟩
theorem lZ (hl:IsL tV lv rows) (hv:VaL [a] rows):∃ ra,rows=[ra]∧(∀ q:IntKind,bL (some tV) none lv (.int q 0)=some (.ip ra 0))∧VaA a ra:=by
 obtain⟨ra,_,rfl,h1,rfl⟩:=hv
 exact⟨ra,rfl,fun q=>hl.ix q 0 ra rfl,h1⟩
theorem dX (x:(bj (goL c e ms S hands fr)).A h F J) (xr:List AV):St h F J ((h.push [xr]).push [zR3]) (ah (h.n+1) [zR3]::ah h.n [xr]::goL c e ms S hands fr):=((St.start x).push [xr]).push [zR3]
set_option maxHeartbeats 1000000 in
theorem Yj (x:(bj (goL c e ms S hands fr)).A h F J) (o:OkG ms S) (ox:xv.one=true) (hl:IsL tV lv rows) (hv:VaL [a,b] rows):uZ h F J c e ms hands fr [.ptr e 0 0,.int .i64 p,.agg (xR 6 k n xv),lv] (bS p 6 k n [a,b] S):=by
 rw[Xb]
 obtain⟨ra,rb,rfl,t⟩:=C9 hl hv
 obtain⟨wa,rfl,oa⟩:=t.a.cells3
 obtain⟨wb,rfl,ob⟩:=t.b.cells3
 have i0:=t.i0
 have i1:=t.i1
 have s2:=dX x (xR 6 k n xv)
 obtain⟨_,_,_,f,_⟩:=ct s2 3 rfl o.m4 o.st.kept
 have ln:=f.net (n:=1)
 have c0:=(s2.cell 2 rfl).1
 have c1:=(s2.cell 1 rfl).1
 have c2:=(s2.cell 0 rfl).1
 have fh:aP 0 (.ptr c.hb 0 0)=some (.ptr c.hb 0 0):=rfl
 by_cases ha:a.kind=1
 ·have da:decide (a.kind=1)=true:=decide_eq_true ha
  by_cases hb:b.kind=1
  ·have db:decide (b.kind=1)=true:=decide_eq_true hb
   rw[if_neg (by simp[ha,hb])]
   refine⟨_,_,?_,qg _,(s2.set 0 rfl [[.int .i64 1,.int .i64 (oI k a.n b.n),.nils]]).drop.drop⟩
   refine ag aY rfl ?_;unfold aX
   simp only[sim,af,θ,ξ,η,reduceCtorEq,ψ,ω,aa,au,ox,c0,c1,c2,ln,fh,i0,i1,da,db,Int.reduceEq,decide_false,decide_true,D0,ap,aA,aq,az]
   rfl
  ·have db:decide (b.kind=1)=false:=decide_eq_false hb
   rw[if_pos (.inr hb)]
   refine⟨_,_,?_,aL,s2.drop.drop⟩
   refine ag aY rfl ?_;unfold aX
   simp only[sim,af,θ,ξ,η,reduceCtorEq,ψ,ω,aa,au,ox,c0,c1,c2,ln,fh,i0,i1,da,db,Int.reduceEq,decide_false,decide_true,aJ,ap,aA,aq,az]
   rfl
 ·have da:decide (a.kind=1)=false:=decide_eq_false ha
  rw[if_pos (.inl ha)]
  refine⟨_,_,?_,aL,s2.drop.drop⟩
  refine ag aY rfl ?_;unfold aX
  simp only[sim,af,θ,ξ,η,reduceCtorEq,ψ,ω,aa,au,ox,c0,c1,c2,ln,fh,i0,i1,da,Int.reduceEq,decide_false,decide_true,aJ,ap,aA,aq,az]
  rfl
end
section
variable {h h' h0:AH} {F J F0 J0:Nat→Prop} {L:List Asn} {c:HmC} {ms:aO} {S:StD} {hands:List (List VD)} {e fr P:Nat}
variable {p k n:Int} {xv lv:AV} {rows:List (List AV)} {a b:VD}
theorem Wz:IntKind.wrap .i64 0=0:=rfl
theorem V6:IntKind.wrap .i64 1=1:=rfl
set_option maxHeartbeats 1000000 in
theorem XR (x:(bj (goL c e ms S hands fr)).A h F J) (o:OkG ms S) (ox:xv.one=true) (hl:IsL tV lv rows) (hs:SlA tV lv rows) (hv:VaL [a,b] rows):uZ h F J c e ms hands fr [.ptr e 0 0,.int .i64 p,.agg (xR 8 k n xv),lv] (bS p 8 k n [a,b] S):=by
 rw[Wl]
 have hv0:=hv
 obtain⟨ra,rb,rfl,t⟩:=C9 hl hv
 obtain⟨wa,rfl,oa⟩:=t.a.cells3
 obtain⟨wb,rfl,ob⟩:=t.b.cells3
 have i0:=t.i0
 have i1:=t.i1
 have s2:=dX x (xR 8 k n xv)
 obtain⟨lv0,kr,hv0_,f,hk⟩:=ct s2 3 rfl o.m4 o.st.kept
 have ln:=f.net (n:=1)
 have c0:=(s2.cell 2 rfl).1
 have c1:=(s2.cell 1 rfl).1
 have c2:=(s2.cell 0 rfl).1
 have fh:aP 0 (.ptr c.hb 0 0)=some (.ptr c.hb 0 0):=rfl
 have vv:VaA (.mk 2 0 [a,b]) [.int .i64 2,.int .i64 0,lv]:=⟨_,_,rfl,hs,hv⟩
 have ol:lv.one=true:=by rcases hs with⟨_,rfl⟩ | ⟨id,rfl⟩<;>rfl
 have cl:lv.cells=[lv]:=by rcases hs with⟨_,rfl⟩ | ⟨id,rfl⟩<;>rfl
 have s3:=s2.push [[.int .i64 2,.int .i64 0,lv]]
 have c3:=(s3.cell 1 rfl).1
 have c4:=(s3.cell 2 rfl).1
 have c5:=(s3.cell 0 rfl).1
 have vf:=jY (h:=((h.push [xR 8 k n xv]).push [zR3]).push [[.int .i64 2,.int .i64 0,lv]]) vv
 by_cases hz:(VD.mk 2 0 [a,b]).code=0
 ·rw[if_neg (fun h=>h hz)]
  have dz:decide ((VD.mk 2 0 [a,b]).code=0)=true:=decide_eq_true hz
  refine⟨_,_,?_,vv,(s3.set 1 rfl [[.int .i64 2,.int .i64 0,lv]]).drop.drop.drop⟩
  refine ag aY rfl ?_;unfold aX
  simp only[sim,af,θ,ξ,η,reduceCtorEq,ψ,ω,aa,au,ox,c0,c1,c2,ln,fh,i0,Int.reduceEq,decide_false,decide_true,aJ,ap,aA,aq,az,aw,aE,vf,ol,cl,dz,c3,c4,c5]
  rfl
 ·rw[if_pos hz]
  have dz:decide ((VD.mk 2 0 [a,b]).code=0)=false:=decide_eq_false hz
  refine⟨_,_,?_,aL,(s3.set 1 rfl [zR3]).drop.drop.drop⟩
  refine ag aY rfl ?_;unfold aX
  simp only[sim,af,θ,ξ,η,reduceCtorEq,ψ,ω,aa,au,ox,c0,c1,c2,ln,fh,i0,Int.reduceEq,decide_false,decide_true,aJ,ap,aA,aq,az,aw,aE,vf,ol,cl,dz,c3,c4,c5]
  rfl
set_option maxHeartbeats 1000000 in
theorem VJ (x:(bj (goL c e ms S hands fr)).A h F J) (o:OkG ms S) (ox:xv.one=true) (hl:IsL tV lv rows) (hs:SlA tV lv rows) (hv:VaL [a] rows):uZ h F J c e ms hands fr [.ptr e 0 0,.int .i64 p,.agg (xR 11 k n xv),lv] (bS p 11 k n [a] S):=by
 rw[On]
 have hv0:=hv
 obtain⟨ra,rfl,i0,va⟩:=lZ hl hv
 obtain⟨wa,rfl,oa⟩:=va.cells3
 have s2:=dX x (xR 11 k n xv)
 obtain⟨lv0,kr,hv0_,f,hk⟩:=ct s2 3 rfl o.m4 o.st.kept
 have ln:=f.net (n:=1)
 have c0:=(s2.cell 2 rfl).1
 have c1:=(s2.cell 1 rfl).1
 have c2:=(s2.cell 0 rfl).1
 have fh:aP 0 (.ptr c.hb 0 0)=some (.ptr c.hb 0 0):=rfl
 have vv:VaA (.mk 3 p [a]) [.int .i64 3,.int .i64 p,lv]:=⟨_,_,rfl,hs,hv⟩
 have ol:lv.one=true:=by rcases hs with⟨_,rfl⟩ | ⟨id,rfl⟩<;>rfl
 have cl:lv.cells=[lv]:=by rcases hs with⟨_,rfl⟩ | ⟨id,rfl⟩<;>rfl
 have s3:=s2.push [[.int .i64 3,.int .i64 p,lv]]
 have c3:=(s3.cell 1 rfl).1
 have c4:=(s3.cell 2 rfl).1
 have c5:=(s3.cell 0 rfl).1
 have vf:=jY (h:=((h.push [xR 11 k n xv]).push [zR3]).push [[.int .i64 3,.int .i64 p,lv]]) vv
 by_cases hz:(VD.mk 3 p [a]).code=0
 ·rw[if_neg (fun h=>h hz)]
  have dz:decide ((VD.mk 3 p [a]).code=0)=true:=decide_eq_true hz
  refine⟨_,_,?_,vv,(s3.set 1 rfl [[.int .i64 3,.int .i64 p,lv]]).drop.drop.drop⟩
  refine ag aY rfl ?_;unfold aX
  simp only[sim,af,θ,ξ,η,reduceCtorEq,ψ,ω,aa,au,ox,c0,c1,c2,ln,fh,i0,Int.reduceEq,decide_false,decide_true,aJ,ap,aA,aq,az,aw,aE,vf,ol,cl,dz,c3,c4,c5]
  rfl
 ·rw[if_pos hz]
  have dz:decide ((VD.mk 3 p [a]).code=0)=false:=decide_eq_false hz
  refine⟨_,_,?_,aL,(s3.set 1 rfl [zR3]).drop.drop.drop⟩
  refine ag aY rfl ?_;unfold aX
  simp only[sim,af,θ,ξ,η,reduceCtorEq,ψ,ω,aa,au,ox,c0,c1,c2,ln,fh,i0,Int.reduceEq,decide_false,decide_true,aJ,ap,aA,aq,az,aw,aE,vf,ol,cl,dz,c3,c4,c5]
  rfl
set_option maxHeartbeats 1000000 in
theorem Yp (x:(bj (goL c e ms S hands fr)).A h F J) (o:OkG ms S) (ox:xv.one=true) (hl:IsL tV lv rows) (hv:VaL [a] rows) (hc:a.code=0):uZ h F J c e ms hands fr [.ptr e 0 0,.int .i64 p,.agg (xR 9 k n xv),lv] (bS p 9 k n [a] S):=by
 rw[WT]
 obtain⟨ra,rfl,i0,va⟩:=lZ hl hv
 obtain⟨wa,rfl,oa⟩:=va.cells3
 have s2:=dX x (xR 9 k n xv)
 obtain⟨lv0,kr,hv0_,f,hk⟩:=ct s2 3 rfl o.m4 o.st.kept
 have ln:=f.net (n:=1)
 have c0:=(s2.cell 2 rfl).1
 have c1:=(s2.cell 1 rfl).1
 have c2:=(s2.cell 0 rfl).1
 have fh:aP 0 (.ptr c.hb 0 0)=some (.ptr c.hb 0 0):=rfl
 by_cases ha:a.kind=2
 ·rw[if_neg (fun h=>h ha)]
  have da:decide (a.kind=2)=true:=decide_eq_true ha
  obtain⟨x1,y1,hxy⟩:=(ow hc).1 ha
  have hz:a.l[0]? =some (a.l.getD 0 aK):=by rw[hxy];rfl
  obtain⟨lz,rz,p1,p2,p3,p4⟩:=va.part hz
  obtain rfl:wa=lz:=Option.some.inj p1
  have p2:∀ q:IntKind,bL (some tV) none wa (.int q 0)=some (.ip rz 0):=p2
  have o1:=p4.len3
  refine⟨_,_,?_,p4,(s2.set 0 rfl [rz]).drop.drop⟩
  refine ag aY rfl ?_;unfold aX
  simp only[sim,af,θ,ξ,η,reduceCtorEq,ψ,ω,aa,au,ox,c0,c1,c2,ln,fh,i0,Int.reduceEq,decide_false,decide_true,aJ,ap,aA,aq,az,aw,aE,da,p2,p3,o1,Int.reduceSub,Wz,V6]
  rfl
 ·rw[if_pos ha]
  have da:decide (a.kind=2)=false:=decide_eq_false ha
  refine⟨_,_,?_,aL,s2.drop.drop⟩
  refine ag aY rfl ?_;unfold aX
  simp only[sim,af,θ,ξ,η,reduceCtorEq,ψ,ω,aa,au,ox,c0,c1,c2,ln,fh,i0,Int.reduceEq,decide_false,decide_true,aJ,ap,aA,aq,az,aw,aE,da]
  rfl
set_option maxHeartbeats 1000000 in
theorem Ut (x:(bj (goL c e ms S hands fr)).A h F J) (o:OkG ms S) (ox:xv.one=true) (hl:IsL tV lv rows) (hv:VaL [a] rows) (hc:a.code=0):uZ h F J c e ms hands fr [.ptr e 0 0,.int .i64 p,.agg (xR 10 k n xv),lv] (bS p 10 k n [a] S):=by
 rw[Su]
 obtain⟨ra,rfl,i0,va⟩:=lZ hl hv
 obtain⟨wa,rfl,oa⟩:=va.cells3
 have s2:=dX x (xR 10 k n xv)
 obtain⟨lv0,kr,hv0_,f,hk⟩:=ct s2 3 rfl o.m4 o.st.kept
 have ln:=f.net (n:=1)
 have c0:=(s2.cell 2 rfl).1
 have c1:=(s2.cell 1 rfl).1
 have c2:=(s2.cell 0 rfl).1
 have fh:aP 0 (.ptr c.hb 0 0)=some (.ptr c.hb 0 0):=rfl
 by_cases ha:a.kind=2
 ·rw[if_neg (fun h=>h ha)]
  have da:decide (a.kind=2)=true:=decide_eq_true ha
  obtain⟨x1,y1,hxy⟩:=(ow hc).1 ha
  have hz:a.l[1]? =some (a.l.getD 1 aK):=by rw[hxy];rfl
  obtain⟨lz,rz,p1,p2,p3,p4⟩:=va.part hz
  obtain rfl:wa=lz:=Option.some.inj p1
  have p2:∀ q:IntKind,bL (some tV) none wa (.int q 1)=some (.ip rz 0):=p2
  have o1:=p4.len3
  refine⟨_,_,?_,p4,(s2.set 0 rfl [rz]).drop.drop⟩
  refine ag aY rfl ?_;unfold aX
  simp only[sim,af,θ,ξ,η,reduceCtorEq,ψ,ω,aa,au,ox,c0,c1,c2,ln,fh,i0,Int.reduceEq,decide_false,decide_true,aJ,ap,aA,aq,az,aw,aE,da,p2,p3,o1,Int.reduceSub,Wz,V6]
  rfl
 ·rw[if_pos ha]
  have da:decide (a.kind=2)=false:=decide_eq_false ha
  refine⟨_,_,?_,aL,s2.drop.drop⟩
  refine ag aY rfl ?_;unfold aX
  simp only[sim,af,θ,ξ,η,reduceCtorEq,ψ,ω,aa,au,ox,c0,c1,c2,ln,fh,i0,Int.reduceEq,decide_false,decide_true,aJ,ap,aA,aq,az,aw,aE,da]
  rfl
set_option maxHeartbeats 1000000 in
theorem T6 (x:(bj (goL c e ms S hands fr)).A h F J) (o:OkG ms S) (ox:xv.one=true) (hl:IsL tV lv rows) (hv:VaL [a] rows) (hc:a.code=0):uZ h F J c e ms hands fr [.ptr e 0 0,.int .i64 p,.agg (xR 12 k n xv),lv] (bS p 12 k n [a] S):=by
 rw[QF]
 obtain⟨ra,rfl,i0,va⟩:=lZ hl hv
 obtain⟨wa,rfl,oa⟩:=va.cells3
 have s2:=dX x (xR 12 k n xv)
 obtain⟨lv0,kr,hv0_,f,hk⟩:=ct s2 3 rfl o.m4 o.st.kept
 have ln:=f.net (n:=1)
 have c0:=(s2.cell 2 rfl).1
 have c1:=(s2.cell 1 rfl).1
 have c2:=(s2.cell 0 rfl).1
 have fh:aP 0 (.ptr c.hb 0 0)=some (.ptr c.hb 0 0):=rfl
 by_cases ha:a.kind=3
 ·rw[if_neg (fun h=>h ha)]
  have da:decide (a.kind=3)=true:=decide_eq_true ha
  by_cases hn:a.n=p
  ·rw[if_neg (fun h=>h hn)]
   have dn:decide (a.n=p)=true:=decide_eq_true hn
   obtain⟨x1,hxy⟩:=(ow hc).2 ha
   have hz:a.l[0]? =some (a.l.getD 0 aK):=by rw[hxy];rfl
   obtain⟨lz,rz,p1,p2,p3,p4⟩:=va.part hz
   obtain rfl:wa=lz:=Option.some.inj p1
   have p2:∀ q:IntKind,bL (some tV) none wa (.int q 0)=some (.ip rz 0):=p2
   have o1:=p4.len3
   refine⟨_,_,?_,p4,(s2.set 0 rfl [rz]).drop.drop⟩
   refine ag aY rfl ?_;unfold aX
   simp only[sim,af,θ,ξ,η,reduceCtorEq,ψ,ω,aa,au,ox,c0,c1,c2,ln,fh,i0,Int.reduceEq,decide_false,decide_true,aJ,ap,aA,aq,az,aw,aE,da,dn,p2,p3,o1]
   rfl
  ·rw[if_pos hn]
   have dn:decide (a.n=p)=false:=decide_eq_false hn
   refine⟨_,_,?_,aL,s2.drop.drop⟩
   refine ag aY rfl ?_;unfold aX
   simp only[sim,af,θ,ξ,η,reduceCtorEq,ψ,ω,aa,au,ox,c0,c1,c2,ln,fh,i0,Int.reduceEq,decide_false,decide_true,aJ,ap,aA,aq,az,aw,aE,da,dn]
   rfl
 ·rw[if_pos ha]
  have da:decide (a.kind=3)=false:=decide_eq_false ha
  refine⟨_,_,?_,aL,s2.drop.drop⟩
  refine ag aY rfl ?_;unfold aX
  simp only[sim,af,θ,ξ,η,reduceCtorEq,ψ,ω,aa,au,ox,c0,c1,c2,ln,fh,i0,Int.reduceEq,decide_false,decide_true,aJ,ap,aA,aq,az,aw,aE,da]
  rfl
set_option maxHeartbeats 1000000 in
theorem TT (x:(bj (goL c e ms S hands fr)).A h F J) (o:OkG ms S) (ox:xv.one=true) (hl:IsL tV lv rows) (hv:VaL [a] rows):uZ h F J c e ms hands fr [.ptr e 0 0,.int .i64 p,.agg (xR 13 k n xv),lv] (bS p 13 k n [a] S):=by
 rw[Rn]
 obtain⟨ra,rfl,i0,va⟩:=lZ hl hv
 obtain⟨wa,rfl,oa⟩:=va.cells3
 have s2:=dX x (xR 13 k n xv)
 obtain⟨lv0,kr,hv0_,f,hk⟩:=ct s2 3 rfl o.m4 o.st.kept
 have ln:=f.net (n:=1)
 have c0:=(s2.cell 2 rfl).1
 have c1:=(s2.cell 1 rfl).1
 have c2:=(s2.cell 0 rfl).1
 have fh:aP 0 (.ptr c.hb 0 0)=some (.ptr c.hb 0 0):=rfl
 by_cases ha:a.kind=4
 ·have da:decide (a.kind=4)=true:=decide_eq_true ha
  rw[if_neg (fun h=>h ha)]
  obtain⟨h3,e3,g3⟩:=tw (i:=2) (j:=3) (k:=4) s2 rfl rfl rfl o va 0 (by decide)
  have e3:aj Tryz.prog po 137 [.ptr e 0 0,.agg [.int .i64 a.kind,.int .i64 a.n,wa],.int .i64 0] ((h.push [xR 13 k n xv]).push [zR3])=some (.inl (.tup [.agg (if cP (S.G.rights a.n) 0 then aH (S.G.target a.n).1 else zN6),.int .i64 (if cP (S.G.rights a.n) 0 then 0 else 9)]),h3):=e3
  have s3:=s2.grew g3
  by_cases hb:cP (S.G.rights a.n) 0=true
  ·rw[if_neg (by rw[hb];decide)]
   rw[if_pos hb,if_pos hb]at e3
   have s4:=s3.push [aH (S.G.target a.n).1]
   have d1:=(s4.cell 1 rfl).1
   have d2:=(s4.cell 2 rfl).1
   have d3:=(s4.cell 3 rfl).1
   have d0:=(s4.cell 0 rfl).1
   have ld1:=(ct s4 4 rfl o.m4 o.st.kept).choose_spec.choose_spec.choose_spec.1
   by_cases hp:0≤(S.G.target a.n).1.plugin
   ·rw[if_pos hp]
    have dp:decide (0≤(S.G.target a.n).1.plugin)=true:=decide_eq_true hp
    refine⟨_,_,?_,aL,(s4.set 1 rfl [zR3]).drop.drop.drop⟩
    unfold aH at*
    refine ag aY rfl ?_;unfold aX
    simp only[sim,af,θ,ξ,η,reduceCtorEq,ψ,ω,aa,au,ox,c0,c1,c2,ln,fh,i0,Int.reduceEq,decide_false,decide_true,aJ,ap,aA,aq,az,aw,aE,da,e3,d0,d1,d2,d3,dp]
    rfl
   ·rw[if_neg hp]
    have dp:decide (0≤(S.G.target a.n).1.plugin)=false:=decide_eq_false hp
    have hc:=ly o.st.wf hb hp
    obtain⟨lv1,h5,h6,v',⟨l5,l6⟩,a5,ov,n5,k5,st5,k6,s6⟩:=K7 s4 4 rfl (by have:=o.mu;unfold StD.mu at this;omega) ⟨p,(S.G.target a.n).1.cell,1,a.n⟩
    rw[gM]at a5
    have jc:(S.G.target a.n).1.cell.toNat<S.cells.length:=by rw[o.st.cells];omega
    have ix:∀ qq:IntKind,bL (some tL) none (.msl c.cb 0 12 tL) (.int qq (S.G.target a.n).1.cell)=some (.ptr c.cb (S.G.target a.n).1.cell.toNat 0):=fun qq=>by
     obtain⟨j,hj⟩:=Int.eq_ofNat_of_zero_le hc.1
     rw[hj,qO rfl (by omega),Nat.zero_add,Int.toNat_natCast]
    have b0:=(s6.cell 0 rfl).1
    have b1:=(s6.cell 1 rfl).1
    have b2:=(s6.cell 2 rfl).1
    have b3:=(s6.cell 3 rfl).1
    have f6:=(ct s6 4 rfl o.m4 o.st.kept).choose_spec.choose_spec.choose_spec.1
    have lc:=f6.cells (n:=1)
    have lh:=f6.net (n:=1)
    have f1:aP 1 (.ptr c.hb 0 0)=some (.ptr c.hb 0 1):=rfl
    have f2:aP 2 (.ptr c.hb 0 0)=some (.ptr c.hb 0 2):=rfl
    have lz:=UN s6 4 rfl (n:=1) (S.G.target a.n).1.cell.toNat jc
    refine⟨_,_,?_,qg _,(s6.set 1 rfl [[.int .i64 1,.int .i64 (S.cells.getD (S.G.target a.n).1.cell.toNat 0),.nils]]).drop.drop.drop⟩
    unfold aH dR at*
    refine ag aY rfl ?_;unfold aX
    simp only[sim,af,θ,ξ,η,reduceCtorEq,ψ,ω,aa,au,ox,c0,c1,c2,ln,fh,i0,Int.reduceEq,decide_false,decide_true,aJ,ap,aA,aq,az,aw,aE,da,e3,d0,d1,d2,d3,dp,l5,l6,a5,ov,k5,st5,ix,b0,b1,b2,b3,lc,lh,f1,f2,lz,iZ]
    rfl
  ·rw[if_pos (by simpa using hb)]
   rw[if_neg hb,if_neg hb]at e3
   have s4:=s3.push [zN6]
   have d1:=(s4.cell 1 rfl).1
   have d2:=(s4.cell 2 rfl).1
   have d0:=(s4.cell 0 rfl).1
   refine⟨_,_,?_,aL,(s4.set 1 rfl [zR3]).drop.drop.drop⟩
   refine ag aY rfl ?_;unfold aX
   simp only[sim,af,θ,ξ,η,reduceCtorEq,ψ,ω,aa,au,ox,c0,c1,c2,ln,fh,i0,Int.reduceEq,decide_false,decide_true,aJ,ap,aA,aq,az,aw,aE,da,e3,d0,d1,d2]
   rfl
 ·have da:decide (a.kind=4)=false:=decide_eq_false ha
  rw[if_pos ha]
  refine⟨_,_,?_,aL,s2.drop.drop⟩
  refine ag aY rfl ?_;unfold aX
  simp only[sim,af,θ,ξ,η,reduceCtorEq,ψ,ω,aa,au,ox,c0,c1,c2,ln,fh,i0,Int.reduceEq,decide_false,decide_true,aJ,ap,aA,aq,az,aw,aE,da]
  rfl
set_option maxHeartbeats 1000000 in
theorem UW (x:(bj (goL c e ms S hands fr)).A h F J) (o:OkG ms S) (ox:xv.one=true) (hl:IsL tV lv rows) (hv:VaL [a,b] rows):uZ h F J c e ms hands fr [.ptr e 0 0,.int .i64 p,.agg (xR 14 k n xv),lv] (bS p 14 k n [a,b] S):=by
 rw[Oc]
 obtain⟨ra,rb,rfl,t⟩:=C9 hl hv
 obtain⟨wa,rfl,oa⟩:=t.a.cells3
 obtain⟨wb,rfl,ob⟩:=t.b.cells3
 have i0:=t.i0
 have i1:=t.i1
 have s2:=dX x (xR 14 k n xv)
 obtain⟨lv0,kr,hv0_,f,hk⟩:=ct s2 3 rfl o.m4 o.st.kept
 have ln:=f.net (n:=1)
 have c0:=(s2.cell 2 rfl).1
 have c1:=(s2.cell 1 rfl).1
 have c2:=(s2.cell 0 rfl).1
 have fh:aP 0 (.ptr c.hb 0 0)=some (.ptr c.hb 0 0):=rfl
 by_cases ha:a.kind=4
 ·have da:decide (a.kind=4)=true:=decide_eq_true ha
  by_cases hb1:b.kind=1
  ·have db1:decide (b.kind=1)=true:=decide_eq_true hb1
   rw[if_neg (by simp[ha,hb1])]
   obtain⟨h3,e3,g3⟩:=tw (i:=2) (j:=3) (k:=4) s2 rfl rfl rfl o t.a 1 (by decide)
   have e3:aj Tryz.prog po 137 [.ptr e 0 0,.agg [.int .i64 a.kind,.int .i64 a.n,wa],.int .i64 1] ((h.push [xR 14 k n xv]).push [zR3])=some (.inl (.tup [.agg (if cP (S.G.rights a.n) 1 then aH (S.G.target a.n).1 else zN6),.int .i64 (if cP (S.G.rights a.n) 1 then 0 else 9)]),h3):=e3
   have s3:=s2.grew g3
   by_cases hb:cP (S.G.rights a.n) 1=true
   ·rw[if_neg (by rw[hb];decide)]
    rw[if_pos hb,if_pos hb]at e3
    have s4:=s3.push [aH (S.G.target a.n).1]
    have d1:=(s4.cell 1 rfl).1
    have d2:=(s4.cell 2 rfl).1
    have d3:=(s4.cell 3 rfl).1
    have d0:=(s4.cell 0 rfl).1
    have ld1:=(ct s4 4 rfl o.m4 o.st.kept).choose_spec.choose_spec.choose_spec.1
    by_cases hp:0≤(S.G.target a.n).1.plugin
    ·rw[if_pos hp]
     have dp:decide (0≤(S.G.target a.n).1.plugin)=true:=decide_eq_true hp
     refine⟨_,_,?_,aL,(s4.set 1 rfl [zR3]).drop.drop.drop⟩
     unfold aH at*
     refine ag aY rfl ?_;unfold aX
     simp only[sim,af,θ,ξ,η,reduceCtorEq,ψ,ω,aa,au,ox,c0,c1,c2,ln,fh,i0,Int.reduceEq,decide_false,decide_true,aJ,ap,aA,aq,az,aw,aE,da,db1,i1,ob,e3,d0,d1,d2,d3,dp]
     rfl
    ·rw[if_neg hp]
     have dp:decide (0≤(S.G.target a.n).1.plugin)=false:=decide_eq_false hp
     have hc:=ly o.st.wf hb hp
     obtain⟨lv1,h5,h6,v',⟨l5,l6⟩,a5,ov,n5,k5,st5,k6,s6⟩:=K7 s4 4 rfl (by have:=o.mu;unfold StD.mu at this;omega) ⟨p,(S.G.target a.n).1.cell,2,a.n⟩
     rw[gM]at a5
     have jc:(S.G.target a.n).1.cell.toNat<S.cells.length:=by rw[o.st.cells];omega
     have ix:∀ qq:IntKind,bL (some tL) none (.msl c.cb 0 12 tL) (.int qq (S.G.target a.n).1.cell)=some (.ptr c.cb (S.G.target a.n).1.cell.toNat 0):=fun qq=>by
      obtain⟨j,hj⟩:=Int.eq_ofNat_of_zero_le hc.1
      rw[hj,qO rfl (by omega),Nat.zero_add,Int.toNat_natCast]
     have b0:=(s6.cell 0 rfl).1
     have b1:=(s6.cell 1 rfl).1
     have b2:=(s6.cell 2 rfl).1
     have b3:=(s6.cell 3 rfl).1
     have f6:=(ct s6 4 rfl o.m4 o.st.kept).choose_spec.choose_spec.choose_spec.1
     have lc:=f6.cells (n:=1)
     have lh:=f6.net (n:=1)
     have f1:aP 1 (.ptr c.hb 0 0)=some (.ptr c.hb 0 1):=rfl
     have f2:aP 2 (.ptr c.hb 0 0)=some (.ptr c.hb 0 2):=rfl
     obtain⟨h7,st7,s7⟩:=U0 s6 4 rfl (S.G.target a.n).1.cell.toNat jc b.n
     have g0:=(s7.cell 1 rfl).1
     have g1:=(s7.cell 2 rfl).1
     refine⟨_,_,?_,t.b,(s7.set 1 rfl [[.int .i64 b.kind,.int .i64 b.n,wb]]).drop.drop.drop⟩
     unfold aH dR at*
     refine ag aY rfl ?_;unfold aX
     simp only[sim,af,θ,ξ,η,reduceCtorEq,ψ,ω,aa,au,ox,c0,c1,c2,ln,fh,i0,Int.reduceEq,decide_false,decide_true,aJ,ap,aA,aq,az,aw,aE,da,db1,i1,ob,e3,d0,d1,d2,d3,dp,l5,l6,a5,ov,k5,st5,ix,b0,b1,b2,b3,lc,lh,f1,f2,st7,g0,g1,iZ]
     rfl
   ·rw[if_pos (by simpa using hb)]
    rw[if_neg hb,if_neg hb]at e3
    have s4:=s3.push [zN6]
    have d1:=(s4.cell 1 rfl).1
    have d2:=(s4.cell 2 rfl).1
    have d0:=(s4.cell 0 rfl).1
    refine⟨_,_,?_,aL,(s4.set 1 rfl [zR3]).drop.drop.drop⟩
    refine ag aY rfl ?_;unfold aX
    simp only[sim,af,θ,ξ,η,reduceCtorEq,ψ,ω,aa,au,ox,c0,c1,c2,ln,fh,i0,Int.reduceEq,decide_false,decide_true,aJ,ap,aA,aq,az,aw,aE,da,db1,i1,ob,e3,d0,d1,d2]
    rfl
  ·have db1:decide (b.kind=1)=false:=decide_eq_false hb1
   rw[if_pos (.inr hb1)]
   refine⟨_,_,?_,aL,s2.drop.drop⟩
   refine ag aY rfl ?_;unfold aX
   simp only[sim,af,θ,ξ,η,reduceCtorEq,ψ,ω,aa,au,ox,c0,c1,c2,ln,fh,i0,Int.reduceEq,decide_false,decide_true,aJ,ap,aA,aq,az,aw,aE,da,db1,i1]
   rfl
 ·have da:decide (a.kind=4)=false:=decide_eq_false ha
  rw[if_pos (.inl ha)]
  refine⟨_,_,?_,aL,s2.drop.drop⟩
  refine ag aY rfl ?_;unfold aX
  simp only[sim,af,θ,ξ,η,reduceCtorEq,ψ,ω,aa,au,ox,c0,c1,c2,ln,fh,i0,Int.reduceEq,decide_false,decide_true,aJ,ap,aA,aq,az,aw,aE,da]
  rfl
set_option maxHeartbeats 1000000 in
theorem Uh (x:(bj (goL c e ms S hands fr)).A h F J) (o:OkG ms S) (ox:xv.one=true) (hl:IsL tV lv rows) (hv:VaL [a] rows):uZ h F J c e ms hands fr [.ptr e 0 0,.int .i64 p,.agg (xR 15 k n xv),lv] (bS p 15 k n [a] S):=by
 rw[OH]
 obtain⟨ra,rfl,i0,va⟩:=lZ hl hv
 obtain⟨wa,rfl,oa⟩:=va.cells3
 have s2:=dX x (xR 15 k n xv)
 obtain⟨lv0,kr,hv0_,f,hk⟩:=ct s2 3 rfl o.m4 o.st.kept
 have ln:=f.net (n:=1)
 have c0:=(s2.cell 2 rfl).1
 have c1:=(s2.cell 1 rfl).1
 have c2:=(s2.cell 0 rfl).1
 have fh:aP 0 (.ptr c.hb 0 0)=some (.ptr c.hb 0 0):=rfl
 by_cases ha:a.kind=4
 ·have da:decide (a.kind=4)=true:=decide_eq_true ha
  rw[if_neg (fun h=>h ha)]
  obtain⟨h3,e3,s3⟩:=s2.call (R:=fun h3=>aj Tryz.prog po 85 [.ptr c.nb 0 0,.int .i64 a.n,.int .i64 k,.int .i64 (-1)] ((h.push [xR 15 k n xv]).push [zR3])=some (.inl (.tup [.int .i64 (S.G.derive a.n k (-1)).2.1,.int .i64 (S.G.derive a.n k (-1)).2.2]),h3)) 4 rfl (Y:=aW c.nb (S.G.derive a.n k (-1)).1) fun F J g=>rM g o.st.wf a.n k (-1)
  have d1:=(s3.cell 0 rfl).1
  unfold Jf
  generalize S.G.derive a.n k (-1)=q at*
  obtain⟨G',m,cc⟩:=q
  simp only at e3 ⊢
  have ce:=Aa (h:=h3) m cc
  by_cases hz:cc=0
  ·rw[if_pos hz]at ce
   subst hz
   refine⟨_,_,?_,C2 m,(s3.set 0 rfl [[.int .i64 4,.int .i64 m,.nils]]).drop.drop⟩
   refine ag aY rfl ?_;unfold aX
   simp only[sim,af,θ,ξ,η,reduceCtorEq,ψ,ω,aa,au,ox,c0,c1,c2,ln,fh,i0,Int.reduceEq,decide_false,decide_true,aJ,ap,aA,aq,az,aw,aE,da,e3,d1,ce]
   rfl
  ·rw[if_neg hz]at ce
   rw[if_pos hz]
   refine⟨_,_,?_,aL,(s3.set 0 rfl [zR3]).drop.drop⟩
   refine ag aY rfl ?_;unfold aX
   simp only[sim,af,θ,ξ,η,reduceCtorEq,ψ,ω,aa,au,ox,c0,c1,c2,ln,fh,i0,Int.reduceEq,decide_false,decide_true,aJ,ap,aA,aq,az,aw,aE,da,e3,d1,ce]
   rfl
 ·have da:decide (a.kind=4)=false:=decide_eq_false ha
  rw[if_pos ha]
  refine⟨_,_,?_,aL,s2.drop.drop⟩
  refine ag aY rfl ?_;unfold aX
  simp only[sim,af,θ,ξ,η,reduceCtorEq,ψ,ω,aa,au,ox,c0,c1,c2,ln,fh,i0,Int.reduceEq,decide_false,decide_true,aJ,ap,aA,aq,az,aw,aE,da]
  rfl
set_option maxHeartbeats 1000000 in
theorem Uz (x:(bj (goL c e ms S hands fr)).A h F J) (o:OkG ms S) (ox:xv.one=true) (hl:IsL tV lv rows) (hv:VaL [a] rows):uZ h F J c e ms hands fr [.ptr e 0 0,.int .i64 p,.agg (xR 17 k n xv),lv] (bS p 17 k n [a] S):=by
 rw[Pf]
 obtain⟨ra,rfl,i0,va⟩:=lZ hl hv
 obtain⟨wa,rfl,oa⟩:=va.cells3
 have s2:=dX x (xR 17 k n xv)
 obtain⟨lv0,kr,hv0_,f,hk⟩:=ct s2 3 rfl o.m4 o.st.kept
 have ln:=f.net (n:=1)
 have c0:=(s2.cell 2 rfl).1
 have c1:=(s2.cell 1 rfl).1
 have c2:=(s2.cell 0 rfl).1
 have fh:aP 0 (.ptr c.hb 0 0)=some (.ptr c.hb 0 0):=rfl
 by_cases ha:a.kind=5
 ·have da:decide (a.kind=5)=true:=decide_eq_true ha
  rw[if_neg (fun h=>h ha)]
  obtain⟨h3,e3,s3⟩:=s2.call (R:=fun h3=>aj Tryz.prog po 67 [.ptr c.nb 0 0,.int .i64 a.n] ((h.push [xR 17 k n xv]).push [zR3])=some (.inl (.int .i64 (S.G.cut a.n).2),h3)) 4 rfl (Y:=aW c.nb (S.G.cut a.n).1) fun F J g=>Wy g a.n
  have d1:=(s3.cell 0 rfl).1
  refine⟨_,_,?_,aL,(s3.set 0 rfl [zR3]).drop.drop⟩
  refine ag aY rfl ?_;unfold aX
  simp only[sim,af,θ,ξ,η,reduceCtorEq,ψ,ω,aa,au,ox,c0,c1,c2,ln,fh,i0,Int.reduceEq,decide_false,decide_true,aJ,ap,aA,aq,az,aw,aE,da,e3,d1]
  rfl
 ·have da:decide (a.kind=5)=false:=decide_eq_false ha
  rw[if_pos ha]
  refine⟨_,_,?_,aL,s2.drop.drop⟩
  refine ag aY rfl ?_;unfold aX
  simp only[sim,af,θ,ξ,η,reduceCtorEq,ψ,ω,aa,au,ox,c0,c1,c2,ln,fh,i0,Int.reduceEq,decide_false,decide_true,aJ,ap,aA,aq,az,aw,aE,da]
  rfl
set_option maxHeartbeats 1000000 in
theorem U3 (x:(bj (goL c e ms S hands fr)).A h F J) (o:OkG ms S) (ox:xv.one=true) (hl:IsL tV lv rows) (hv:VaL [a] rows) (hp:p=(P:Int)) (hP:P<4):uZ h F J c e ms hands fr [.ptr e 0 0,.int .i64 p,.agg (xR 20 k n xv),lv] (bS p 20 k n [a] S):=by
 rw[Rh]
 obtain⟨ra,rfl,i0,va⟩:=lZ hl hv
 obtain⟨wa,rfl,oa⟩:=va.cells3
 have s2:=dX x (xR 20 k n xv)
 obtain⟨lv0,kr,hv0_,f,hk⟩:=ct s2 3 rfl o.m4 o.st.kept
 have ln:=f.net (n:=1)
 have c0:=(s2.cell 2 rfl).1
 have c1:=(s2.cell 1 rfl).1
 have c2:=(s2.cell 0 rfl).1
 have fh:aP 0 (.ptr c.hb 0 0)=some (.ptr c.hb 0 0):=rfl
 subst hp
 obtain⟨r0,hr0,hrv⟩:=hk.get (i:=P) (x:=S.kept.getD P aK) (by rw[List.getD,List.getElem?_eq_getElem (by rw[o.st.kept];exact hP)];rfl)
 have lk:=f.ldk hr0
 have o0:=hrv.len3
 have f7:aP 7 (.ptr c.hb 0 0)=some (.ptr c.hb 0 7):=rfl
 have ix:∀ q:IntKind,bL none (some (4,3)) (.ptr c.hb 0 7) (.int q (P:Int))=some (.ptr c.hb 0 (7+P*3)):=fun q=>by simp[bL,hP]
 have s3:=s2.push [r0]
 obtain⟨h4,e4,s4⟩:=MK s3 4 rfl o.m4 o.st.kept hP va
 have d0:=(s3.cell 0 rfl).1
 have b0:h4.cell (h.n+1+1)=some [r0]:=(s4.cell 0 rfl).1
 have b1:h4.cell (h.n+1)=some [zR3]:=(s4.cell 1 rfl).1
 have c3:=(s3.cell 3 rfl).1
 have c4:=(s3.cell 2 rfl).1
 have ln':=(f.push (ab.push _ [r0])).net (n:=1)
 rw[Int.toNat_natCast]
 refine⟨_,_,?_,hrv,(s4.set 1 rfl [r0]).drop.drop.drop⟩
 refine ag aY rfl ?_;unfold aX
 simp only[sim,af,θ,ξ,η,reduceCtorEq,ψ,ω,aa,au,ox,c0,c1,c2,ln,fh,i0,Int.reduceEq,decide_false,decide_true,aJ,ap,aA,aq,az,aw,aE,lk,o0,f7,ix,d0,e4,b0,b1,oa,c3,c4,ln']
 rfl
set_option maxHeartbeats 1000000 in
theorem Vd (x:(bj (goL c e ms S hands fr)).A h F J) (o:OkG ms S) (ox:xv.one=true) (hl:IsL tV lv rows) (hv:VaL [a] rows):uZ h F J c e ms hands fr [.ptr e 0 0,.int .i64 p,.agg (xR 16 k n xv),lv] (bS p 16 k n [a] S):=by
 rw[PL]
 obtain⟨ra,rfl,i0,va⟩:=lZ hl hv
 obtain⟨wa,rfl,oa⟩:=va.cells3
 have s2:=dX x (xR 16 k n xv)
 obtain⟨lv0,kr,hv0_,f,hk⟩:=ct s2 3 rfl o.m4 o.st.kept
 have ln:=f.net (n:=1)
 have c0:=(s2.cell 2 rfl).1
 have c1:=(s2.cell 1 rfl).1
 have c2:=(s2.cell 0 rfl).1
 have fh:aP 0 (.ptr c.hb 0 0)=some (.ptr c.hb 0 0):=rfl
 by_cases ha:a.kind=4
 ·have da:decide (a.kind=4)=true:=decide_eq_true ha
  rw[if_neg (fun h=>h ha)]
  obtain⟨h3,e3,s3⟩:=s2.call (R:=fun h3=>aj Tryz.prog po 68 [.ptr c.nb 0 0] ((h.push [xR 16 k n xv]).push [zR3])=some (.inl (.tup [.int .i64 S.G.gate.2.1,.int .i64 S.G.gate.2.2]),h3)) 4 rfl (Y:=aW c.nb S.G.gate.1) fun F J g=>N9 g o.st.wf
  have d1:=(s3.cell 0 rfl).1
  by_cases hg:S.G.gate.2.2=0
  ·rw[if_neg (fun h=>h hg)]
   have dg:decide (S.G.gate.2.2=0)=true:=decide_eq_true hg
   obtain⟨h4,e4,s4⟩:=s3.call (R:=fun h4=>aj Tryz.prog po 85 [.ptr c.nb 0 0,.int .i64 a.n,.int .i64 15,.int .i64 S.G.gate.2.1] h3=some (.inl (.tup [.int .i64 (S.G.gate.1.derive a.n 15 S.G.gate.2.1).2.1,.int .i64 (S.G.gate.1.derive a.n 15 S.G.gate.2.1).2.2]),h4)) 4 rfl (Y:=aW c.nb (S.G.gate.1.derive a.n 15 S.G.gate.2.1).1) fun F J g=>rM g o.st.wf.gate a.n 15 S.G.gate.2.1
   generalize S.G.gate.1.derive a.n 15 S.G.gate.2.1=q at*
   obtain⟨G',m,cc⟩:=q
   simp only at e4 s4 ⊢
   have ce:=Aa (h:=h4) m cc
   by_cases hz:cc=0
   ·rw[if_pos hz]at ce
    subst hz
    rw[if_neg (fun h=>h rfl)]
    have s5:=s4.push [[.int .i64 4,.int .i64 m,.nils]]
    have s6:=s5.grew (ab.fresh _ 2)
    have q0:=(s5.cell 0 rfl).1
    have q1:=(s5.cell 1 rfl).1
    have s7:=s6.set 1 rfl [[.int .i64 2,.int .i64 0,.isl (some h4.ids) tV [[.int .i64 4,.int .i64 m,.nils],[.int .i64 5,.int .i64 S.G.gate.2.1,.nils]]]]
    refine⟨_,_,?_,vw (id:=some h4.ids) (es:=[[.int .i64 4,.int .i64 m,.nils],[.int .i64 5,.int .i64 S.G.gate.2.1,.nils]]) ⟨_,_,rfl,C2 m,_,_,rfl,Jx S.G.gate.2.1,rfl⟩,s7.drop.drop.drop⟩
    refine ag aY rfl ?_;unfold aX
    simp only[sim,af,θ,ξ,η,reduceCtorEq,ψ,ω,aa,au,ox,c0,c1,c2,ln,fh,i0,Int.reduceEq,decide_false,decide_true,aJ,ap,aA,aq,az,aw,aE,da,e3,d1,dg,e4,ce,q0,q1,iZ]
    rfl
   ·rw[if_neg hz]at ce
    have dz:decide (cc=0)=false:=decide_eq_false hz
    rw[if_pos hz]
    have s5:=s4.push [zR3]
    have q0:=(s5.cell 0 rfl).1
    have q1:=(s5.cell 1 rfl).1
    refine⟨_,_,?_,aL,(s5.set 1 rfl [zR3]).drop.drop.drop⟩
    refine ag aY rfl ?_;unfold aX
    simp only[sim,af,θ,ξ,η,reduceCtorEq,ψ,ω,aa,au,ox,c0,c1,c2,ln,fh,i0,Int.reduceEq,decide_false,decide_true,aJ,ap,aA,aq,az,aw,aE,da,e3,d1,dg,e4,ce,q0,q1,dz]
    rfl
  ·rw[if_pos hg]
   have dg:decide (S.G.gate.2.2=0)=false:=decide_eq_false hg
   refine⟨_,_,?_,aL,(s3.set 0 rfl [zR3]).drop.drop⟩
   refine ag aY rfl ?_;unfold aX
   simp only[sim,af,θ,ξ,η,reduceCtorEq,ψ,ω,aa,au,ox,c0,c1,c2,ln,fh,i0,Int.reduceEq,decide_false,decide_true,aJ,ap,aA,aq,az,aw,aE,da,e3,d1,dg]
   rfl
 ·have da:decide (a.kind=4)=false:=decide_eq_false ha
  rw[if_pos ha]
  refine⟨_,_,?_,aL,s2.drop.drop⟩
  refine ag aY rfl ?_;unfold aX
  simp only[sim,af,θ,ξ,η,reduceCtorEq,ψ,ω,aa,au,ox,c0,c1,c2,ln,fh,i0,Int.reduceEq,decide_false,decide_true,aJ,ap,aA,aq,az,aw,aE,da]
  rfl
end
abbrev fOf:FuncId:=95
abbrev Xt:FuncId:=54
def GoR (f:FuncId) (h:AH) (F J:Nat→Prop) (c:HmC) (e:Nat) (ms:aO) (hands:List (List VD)) (fr:Nat) (a:List AV) (q:StD×VD×Int):Prop:=
 ∃ h' r',aj Tryz.prog po f a h=some (.inl (.tup [.agg r',.int .i64 q.2.2]),h')∧VaA q.2.1 r'∧Did h F J h' (bj (goL c e ms q.1 hands fr))
structure Tp (ms:aO) (S:StD) (p:Int) (x:XD) (arg:VD) (names:List VD):Prop where
 xf:x.fault (bQ ms p).length names.length=0
 arg:arg.code=0
 nm:∀ v∈names,v.code=0
 len:names.length+S.left≤100000
 p0:0≤p
 p4:p<4
def OfN (ms:aO) (c:HmC) (e:Nat) (hands:List (List VD)) (N:Nat):Prop:=∀ (S:StD) (p:Int) (x:XD) (arg:VD) (names:List VD) (fr:Nat) (h:AH) (F J:Nat→Prop) (r ra:List AV) (nv:AV) (rows:List (List AV)),
 S.left≤N→OkG ms S→Tp ms S p x arg names→fr≤20→ExA x r→VaA arg ra→SlA tV nv rows→VaL names rows→(bj (goL c e ms S hands fr)).A h F J→GoR fOf h F J c e ms hands fr [.ptr e 0 0,.int .i64 p,.agg r,.agg ra,nv] (ofD ms N p x arg names fr S)
def ji (ms:aO) (N:Nat) (p f:Int) (arg:VD) (fr:Nat) (S:StD):StD×VD×Int:=if fr=20 then S.no 4 else ofD ms N p (dG ms p f) arg [] (fr+1) S
section
variable {h h' h0:AH} {F J F0 J0:Nat→Prop} {L:List Asn} {c:HmC} {ms:aO} {S:StD} {hands:List (List VD)} {e fr P N:Nat}
theorem NP {b p:Nat} (q:IntKind) (hp:p<4):bL none (some (4,1)) (.ptr b 0 3) (.int q (p:Int))=some (.ptr b 0 (3+p)):=by simp[bL,hp]
set_option maxHeartbeats 1000000 in
theorem MM (ih:OfN ms c e hands N) (hN:S.left≤N) (o:OkG ms S) (hP:P<4) {M:List XD} (hM:ms[P]? =some (some M)) {K:Nat} (hK:K<M.length) (hfr:fr≤20) (hl:S.left≤100000) {arg:VD} (hc:arg.code=0) {ra:List AV} (va:VaA arg ra) (x:(bj (goL c e ms S hands fr)).A h F J):
  GoR Xt h F J c e ms hands fr [.ptr e 0 0,.int .i64 (P:Int),.int .i64 (K:Int),.agg ra] (ji ms N P K arg fr S):=by
 obtain⟨wa,rfl,oa⟩:=va.cells3
 have s2:=dX x [.int .i64 arg.kind,.int .i64 arg.n,wa]
 have c0:=(s2.cell 2 rfl).1
 have c1:=(s2.cell 1 rfl).1
 have c2:=(s2.cell 0 rfl).1
 unfold ji
 by_cases h20:fr=20
 ·rw[if_pos h20]
  have d:decide ((fr:Int)=20)=true:=decide_eq_true (by omega)
  refine⟨_,_,?_,aL,s2.drop.drop⟩
  refine ag AG rfl ?_;unfold sQ
  simp only[sim,af,θ,ξ,η,reduceCtorEq,ψ,ω,aa,au,oa,c0,c1,c2,d,ap,aA,aq,az]
  rfl
 ·rw[if_neg h20]
  have d:decide ((fr:Int)=20)=false:=decide_eq_false (by omega)
  have w1:=w64 (n:=(fr:Int)+1) (by omega) (by omega)
  have w2:=w64 (n:=(fr:Int)+1 - 1) (by omega) (by omega)
  have hfun:bQ ms (P:Int)=M:=by simp[bQ,List.getD,hM]
  have hx:dG ms (P:Int) (K:Int)=M[K]:=by simp[dG,hfun,List.getD,hK]
  have s3:=s2.set 2 rfl [[.ptr c.hb 0 0,.int .i64 (S.left:Int),.int .i64 ((fr:Int)+1)]]
  obtain⟨lv0,kr,hv0,f,hk⟩:=ct s3 3 rfl o.m4 o.st.kept
  obtain⟨q,v,es,m1,m2,m3,m4,m5⟩:=f.mod P M hM
  obtain⟨rx,x1,x2⟩:=m5.get (i:=K) (x:=M[K]) (List.getElem?_eq_getElem hK)
  have ldm:=f.ldm (n:=1) m1
  have ixv:∀ q:IntKind,bL (some tE) none v (.int q (K:Int))=some (.ip rx 0):=fun q=>m4.isL.ix q K rx x1
  have lx:=bi x2.one.2
  have lq:aR false 1 (((h.push [[.int .i64 arg.kind,.int .i64 arg.n,wa]]).push [zR3]).set e (some [[.ptr c.hb 0 0,.int .i64 (S.left:Int),.int .i64 ((fr:Int)+1)]])) (.ptr q 0 0)=some v:=by rw[bP,m2];rfl
  have b0:=(s3.cell 2 rfl).1
  have b1:=(s3.cell 1 rfl).1
  have f3:aP 3 (.ptr c.hb 0 0)=some (.ptr c.hb 0 3):=rfl
  have ix:=fun q=>NP (b:=c.hb) q hP
  have fit:Tp ms S P M[K] arg []:=⟨by rw[←hx,hfun];rw[←hfun];exact rT o.g (by rw[hfun];simpa using hK),hc,by simp,by simpa using hl,by omega,by omega⟩
  obtain⟨h4,⟨r',e4,v4⟩,s4⟩:=s3.callL (A:=[ah (h.n+1) [zR3],ah h.n [[.int .i64 arg.kind,.int .i64 arg.n,wa]]]) (M:=goL c e ms S hands (fr+1)) (B:=[])
   (R:=fun h4=>∃ r',aj Tryz.prog po fOf [.ptr e 0 0,.int .i64 (P:Int),.agg rx,.agg [.int .i64 arg.kind,.int .i64 arg.n,wa],.nils] (((h.push [[.int .i64 arg.kind,.int .i64 arg.n,wa]]).push [zR3]).set e (some [[.ptr c.hb 0 0,.int .i64 (S.left:Int),.int .i64 ((fr:Int)+1)]]))=some (.inl (.tup [.agg r',.int .i64 (ofD ms N P M[K] arg [] (fr+1) S).2.2]),h4)∧VaA (ofD ms N P M[K] arg [] (fr+1) S).2.1 r')
   (M':=goL c e ms (ofD ms N P M[K] arg [] (fr+1) S).1 hands (fr+1)) fun F J y=>by
    obtain⟨h4,r',a1,a2,a3⟩:=ih S P M[K] arg [] (fr+1) _ F J rx _ .nils [] hN o fit (by omega) x2 va (.inl ⟨rfl,rfl⟩) rfl y
    exact⟨h4,⟨r',a1,a2⟩,a3⟩
  rw[hx]
  have ok4:=fk ms N P M[K] arg [] (fr+1) S o.st hc (by simp)
  generalize ofD ms N P M[K] arg [] (fr+1) S=Q at*
  obtain⟨S',v',k'⟩:=Q
  simp only at e4 v4 s4 ok4 ⊢
  have s4:St h F J h4 (ah (h.n+1) [zR3]::ah h.n [[.int .i64 arg.kind,.int .i64 arg.n,wa]]::goL c e ms S' hands (fr+1)):=s4
  have s5:=s4.push [r']
  have t5:=s4.push [zR3]
  have z0:=(t5.cell 3 rfl).1
  have z2:=(t5.cell 2 rfl).1
  rw[show(((fr+1:Nat):Int))=(fr:Int)+1 by omega]at z0
  obtain⟨lv5,kr5,hv5,f5,hk5⟩:=ct t5 4 rfl o.m4 ok4.1.good.kept
  obtain⟨q',v'',es',m1',m2',_⟩:=f5.mod P M hM
  obtain⟨rfl,rfl⟩:q=q'∧v=v'':=by
   rw[m1]at m1'
   simp only[Option.some.injEq,Prod.mk.injEq,AV.ptr.injEq,and_true]at m1'
   exact m1'
  have ldm5:=f5.ldm (n:=1) m1'
  have lq5:aR false 1 (h4.push [zR3]) (.ptr q 0 0)=some v:=by rw[bP,m2'];rfl
  have g0:=(s5.cell 3 rfl).1
  have g1:=(s5.cell 2 rfl).1
  have g2:=(s5.cell 1 rfl).1
  have s6:=s5.set 3 rfl [[.ptr c.hb 0 0,.int .i64 (S'.left:Int),.int .i64 (fr:Int)]]
  have s7:=s6.set 1 rfl [r']
  have k0:=(s6.cell 0 rfl).1
  have k1:=(s6.cell 1 rfl).1
  have k2:=(s7.cell 1 rfl).1
  have or':=v4.len3
  refine⟨_,_,?_,v4,s7.drop.drop.drop⟩
  have w3:IntKind.wrap .i64 ((fr:Int)+1 - 1)=(fr:Int):=by rw[w2];omega
  have ec:(((fr+1:Nat):Int))=(fr:Int)+1:=by omega
  rw[ec]at g0
  refine ag AG rfl ?_;unfold sQ
  simp only[sim,af,θ,ξ,η,reduceCtorEq,ψ,ω,aa,au,oa,c0,c1,c2,d,w1,ldm,ixv,lx,lq,b0,b1,f3,ix,e4,ldm5,lq5,g0,g1,g2,w3,k0,k1,k2,or',z0,z2,ap,aA,aq,az]
theorem OkG.withG (o:OkG ms S) {G':ae} (hw:G'.Wf):OkG ms {S with G:=G'}:=⟨o.m4,o.g,o.st.with hw,o.mu⟩
theorem OkG.of (o:OkG ms S) {S':StD} (g:S'.Good) (hm:S'.mu≤S.mu):OkG ms S':=⟨o.m4,o.g,g,Nat.le_trans hm o.mu⟩
variable {k n:Int} {xv lv:AV} {rows:List (List AV)} {a b:VD}
theorem we {A:List Asn} {H:AH} (s:St h0 F0 J0 H (A++goL c e ms S hands fr)) (ih:OfN ms c e hands N) (hN:S.left≤N) (o:OkG ms S) (hP:P<4) {M:List XD} (hM:ms[P]? =some (some M)) {K:Nat} (hK:K<M.length) (hfr:fr≤20) (hl:S.left≤100000) {arg:VD} (hc:arg.code=0) {ra:List AV} (va:VaA arg ra):
  ∃ h' r',aj Tryz.prog po Xt [.ptr e 0 0,.int .i64 (P:Int),.int .i64 (K:Int),.agg ra] H=some (.inl (.tup [.agg r',.int .i64 (ji ms N P K arg fr S).2.2]),h')∧VaA (ji ms N P K arg fr S).2.1 r'∧St h0 F0 J0 h' (A++goL c e ms (ji ms N P K arg fr S).1 hands fr):=by
 have s':St h0 F0 J0 H (A++goL c e ms S hands fr++[]):=by rw[List.append_nil];exact s
 obtain⟨h4,⟨r',e4,v4⟩,s4⟩:=s'.callL (R:=fun h4=>∃ r',aj Tryz.prog po Xt [.ptr e 0 0,.int .i64 (P:Int),.int .i64 (K:Int),.agg ra] H=some (.inl (.tup [.agg r',.int .i64 (ji ms N P K arg fr S).2.2]),h4)∧VaA (ji ms N P K arg fr S).2.1 r')
  (M':=goL c e ms (ji ms N P K arg fr S).1 hands fr) fun F J y=>by
   obtain⟨h4,r',a1,a2,a3⟩:=MM ih hN o hP hM hK hfr hl hc va y
   exact⟨h4,⟨r',a1,a2⟩,a3⟩
 rw[List.append_nil]at s4
 exact⟨h4,r',e4,v4,s4⟩
set_option maxHeartbeats 1000000 in
theorem TZ (x:(bj (goL c e ms S hands fr)).A h F J) (o:OkG ms S) (ox:xv.one=true) (hl:IsL tV lv rows) (hv:VaL [a] rows) (ih:OfN ms c e hands N) (hN:S.left≤N) (hP:P<4) {M:List XD} (hM:ms[P]? =some (some M)) {K:Nat} (hK:K<M.length) (hfr:fr≤20) (hle:S.left≤100000) (hc:a.code=0):
  GoR Az h F J c e ms hands fr [.ptr e 0 0,.int .i64 (P:Int),.agg (xR 18 (K:Int) n xv),lv] (ji ms N P K a fr S):=by
 obtain⟨ra,rfl,i0,va⟩:=lZ hl hv
 obtain⟨wa,rfl,oa⟩:=va.cells3
 have s2:=dX x (xR 18 (K:Int) n xv)
 obtain⟨lv0,kr,hv0_,f,hk⟩:=ct s2 3 rfl o.m4 o.st.kept
 have ln:=f.net (n:=1)
 have c0:=(s2.cell 2 rfl).1
 have c1:=(s2.cell 1 rfl).1
 have c2:=(s2.cell 0 rfl).1
 have fh:aP 0 (.ptr c.hb 0 0)=some (.ptr c.hb 0 0):=rfl
 obtain⟨h3,r3,e3,v3,s3⟩:=we (A:=[ah (h.n+1) [zR3],ah h.n [xR 18 (K:Int) n xv]]) s2 ih hN o hP hM hK hfr hle hc va
 have d1:=(s3.cell 0 rfl).1
 have o3:=v3.len3
 generalize ji ms N P K a fr S=Q at*
 have s4:=s3.set 0 rfl [r3]
 refine⟨_,_,?_,v3,s4.drop.drop⟩
 refine ag aY rfl ?_;unfold aX
 simp only[sim,af,θ,ξ,η,reduceCtorEq,ψ,ω,aa,au,ox,c0,c1,c2,ln,fh,i0,Int.reduceEq,decide_false,decide_true,aJ,ap,aA,aq,az,aw,aE,e3,d1,o3]
def om (ms:aO) (N:Nat) (a b:VD) (fr:Nat) (S:StD):StD×VD×Int:=match eC ms a b fr S with
 | (S2,q,c)=>if c≠0 then S2.no c else match ofD ms N q.plugin (dG ms q.plugin q.func) q.arg [] (fr+1) S2 with
   | (S3,v,c)=>if c≠0 then S3.no c else gK q.gates v S3
theorem LT {ks:List Int} {v:VD}:gK ks v S=({S with G:=(aN ks S.G v).1},(aN ks S.G v).2.1,(aN ks S.G v).2.2):=by
 have hz:=BN (ks:=ks) (x:=v) (G:=S.G)
 unfold gK
 generalize aN ks S.G v=q at hz ⊢
 obtain⟨G',y,k⟩:=q
 simp only at hz ⊢
 by_cases hk:k=0
 ·rw[if_neg (fun h=>h hk),hk];rfl
 ·rw[if_pos hk,hz hk];rfl
theorem Ag {H:AH} {i:Nat} (s:St h0 F0 J0 H L) {G:ae} (hi:L[i]? =some (aW c.nb G)) (hw:G.Wf) {gv:AV} {ks:List Int} (hg:IsL 3 gv (bH ks)) (hk:ks.length≤1000000) {x:VD} {r:List AV} (hx:VaA x r):
  ∃ h' r',aj Tryz.prog po 140 [.ptr c.nb 0 0,.agg r,gv] H=some (.inl (.tup [.agg r',.int .i64 (aN ks G x).2.2]),h')∧VaA (aN ks G x).2.1 r'∧St h0 F0 J0 h' (L.set i (aW c.nb (aN ks G x).1)):=by
 obtain⟨h',⟨r',e1,e2⟩,s'⟩:=s.call (R:=fun h'=>∃ r',aj Tryz.prog po 140 [.ptr c.nb 0 0,.agg r,gv] H=some (.inl (.tup [.agg r',.int .i64 (aN ks G x).2.2]),h')∧VaA (aN ks G x).2.1 r') i hi (Y:=aW c.nb (aN ks G x).1) fun F J g=>Ig hg hk g hw hx
 exact⟨h',r',e1,e2,s'⟩
end
section
variable {h h' h0:AH} {F J F0 J0:Nat→Prop} {L:List Asn} {c:HmC} {ms:aO} {S:StD} {hands:List (List VD)} {e fr P N:Nat}
variable {p k n:Int} {xv lv:AV} {rows:List (List AV)} {a b:VD}
abbrev zA:u5:=⟨0,0,aK,[]⟩
theorem Zc (h:a.kind≠4):eC ms a b fr S=(S,zA,2):=by unfold eC;exact if_pos h
theorem Zh (h:a.kind=4) (hb:cP (S.G.rights a.n) 3=false):eC ms a b fr S=(S,zA,9):=by
 unfold eC
 exact(if_neg (fun e=>e h)).trans (if_pos hb)
theorem Zi (h:a.kind=4) (hb:cP (S.G.rights a.n) 3=true) {t:bw} (ht:(S.G.target a.n).1=t) (hp:t.plugin<0):eC ms a b fr S=(S,zA,2):=by
 subst ht
 unfold eC
 exact(if_neg (fun e=>e h)).trans ((if_neg (by simp[hb])).trans (if_pos hp))
theorem VS (h:a.kind=4) (hb:cP (S.G.rights a.n) 3=true) {t:bw} (ht:(S.G.target a.n).1=t) (hp:¬ t.plugin<0) (hn:(ms.getD t.plugin.toNat none).isNone∨((bQ ms t.plugin).length:Int)≤t.func∨t.func<0):eC ms a b fr S=(S,zA,8):=by
 subst ht
 unfold eC
 exact(if_neg (fun e=>e h)).trans ((if_neg (by simp[hb])).trans ((if_neg hp).trans (if_pos hn)))
theorem Z6 (h:a.kind=4) (hb:cP (S.G.rights a.n) 3=true) {t:bw} (ht:(S.G.target a.n).1=t) (hp:¬ t.plugin<0) (hn:¬ ((ms.getD t.plugin.toNat none).isNone∨((bQ ms t.plugin).length:Int)≤t.func∨t.func<0)) (hf:fr=20):eC ms a b fr S=(S,zA,4):=by
 subst ht
 unfold eC
 exact(if_neg (fun e=>e h)).trans ((if_neg (by simp[hb])).trans ((if_neg hp).trans ((if_neg hn).trans (if_pos hf))))
theorem ZM (h:a.kind=4) (hb:cP (S.G.rights a.n) 3=true) {t:bw} (ht:(S.G.target a.n).1=t) (hp:¬ t.plugin<0) (hn:¬ ((ms.getD t.plugin.toNat none).isNone∨((bQ ms t.plugin).length:Int)≤t.func∨t.func<0)) (hf:¬ fr=20):
  eC ms a b fr S=({S with G:=(aN (S.G.gatesC a.n) S.G b).1},⟨t.plugin,t.func,(aN (S.G.gatesC a.n) S.G b).2.1,S.G.gatesC a.n⟩,(aN (S.G.gatesC a.n) S.G b).2.2):=by
 subst ht
 unfold eC
 exact(if_neg (fun e=>e h)).trans ((if_neg (by simp[hb])).trans ((if_neg hp).trans ((if_neg hn).trans (if_neg hf))))
theorem kR {S':StD} {q:u5} {kc:Int} (h:eC ms a b fr S=(S',q,kc)) (hk:kc≠0):om ms N a b fr S=S'.no kc:=by
 unfold om
 rw[h]
 exact if_pos hk
theorem MJ {S' S3:StD} {q:u5} {v:VD} {kc:Int} (h:eC ms a b fr S=(S',q,0)) (h2:ofD ms N q.plugin (dG ms q.plugin q.func) q.arg [] (fr+1) S'=(S3,v,kc)) (hk:kc≠0):om ms N a b fr S=S3.no kc:=by
 unfold om
 rw[h]
 simp only
 rw[if_neg (fun e=>e rfl),h2]
 exact if_pos hk
theorem P2 {S' S3:StD} {q:u5} {v:VD} (h:eC ms a b fr S=(S',q,0)) (h2:ofD ms N q.plugin (dG ms q.plugin q.func) q.arg [] (fr+1) S'=(S3,v,0)):om ms N a b fr S=gK q.gates v S3:=by
 unfold om
 rw[h]
 simp only
 rw[if_neg (fun e=>e rfl),h2]
 exact if_neg (fun e=>e rfl)
set_option maxRecDepth 100000 in
set_option maxHeartbeats 4000000 in
theorem T7 (x:(bj (goL c e ms S hands fr)).A h F J) (o:OkG ms S) (ox:xv.one=true) (hl:IsL tV lv rows) (hv:VaL [a,b] rows) (ih:OfN ms c e hands N) (hN:S.left≤N) (hfr:fr≤20) (hle:S.left≤100000):
  GoR Az h F J c e ms hands fr [.ptr e 0 0,.int .i64 p,.agg (xR 19 k n xv),lv] (om ms N a b fr S):=by
 obtain⟨ra,rb,rfl,t⟩:=C9 hl hv
 obtain⟨wa,rfl,oa⟩:=t.a.cells3
 obtain⟨wb,rfl,ob⟩:=t.b.cells3
 have i0:=t.i0
 have i1:=t.i1
 have s2:=dX x (xR 19 k n xv)
 obtain⟨lv0,kr,hv0_,f,hk⟩:=ct s2 3 rfl o.m4 o.st.kept
 have ln:=f.net (n:=1)
 have c0:=(s2.cell 2 rfl).1
 have c1:=(s2.cell 1 rfl).1
 have c2:=(s2.cell 0 rfl).1
 have fh:aP 0 (.ptr c.hb 0 0)=some (.ptr c.hb 0 0):=rfl
 by_cases ha:a.kind=4
 rotate_left
 ·have da:decide (a.kind=4)=false:=decide_eq_false ha
  rw[kR (Zc ha) (by decide)]
  refine⟨_,_,?_,aL,s2.drop.drop⟩
  refine ag aY rfl ?_;unfold aX
  simp only[sim,af,θ,ξ,η,reduceCtorEq,ψ,ω,aa,au,ox,c0,c1,c2,ln,fh,i0,Int.reduceEq,decide_false,decide_true,aJ,ap,aA,aq,az,aw,aE,da]
  rfl
 have da:decide (a.kind=4)=true:=decide_eq_true ha
 obtain⟨h3,e3,g3⟩:=tw (i:=2) (j:=3) (k:=4) s2 rfl rfl rfl o t.a 3 (by decide)
 have e3:aj Tryz.prog po 137 [.ptr e 0 0,.agg [.int .i64 a.kind,.int .i64 a.n,wa],.int .i64 3] ((h.push [xR 19 k n xv]).push [zR3])=some (.inl (.tup [.agg (if cP (S.G.rights a.n) 3 then aH (S.G.target a.n).1 else zN6),.int .i64 (if cP (S.G.rights a.n) 3 then 0 else 9)]),h3):=e3
 have s3:=s2.grew g3
 by_cases hb:cP (S.G.rights a.n) 3=true
 rotate_left
 ·rw[kR (Zh ha (by simpa using hb)) (by decide)]
  rw[if_neg hb,if_neg hb]at e3
  have s4:=s3.push [zN6]
  have d1:=(s4.cell 1 rfl).1
  have d2:=(s4.cell 2 rfl).1
  have d0:=(s4.cell 0 rfl).1
  refine⟨_,_,?_,aL,(s4.set 1 rfl [zR3]).drop.drop.drop⟩
  refine ag aY rfl ?_;unfold aX
  simp only[sim,af,θ,ξ,η,reduceCtorEq,ψ,ω,aa,au,ox,c0,c1,c2,ln,fh,i0,Int.reduceEq,decide_false,decide_true,aJ,ap,aA,aq,az,aw,aE,da,e3,d0,d1,d2]
  rfl
 rw[if_pos hb,if_pos hb]at e3
 obtain⟨_,_,ht⟩:=ae.target_ok o.st.wf (EO hb)
 generalize hT:(S.G.target a.n).1=T at*
 obtain⟨t1,t2,t3,t4,t5,t6⟩:=T
 simp only[aH]at ht e3
 have s4:=s3.push [[.int .i64 t1,.int .i64 t2,.int .i64 t3,.int .i64 t4,.int .i64 t5,.int .i64 t6]]
 have d0:=(s4.cell 0 rfl).1
 have d1:=(s4.cell 1 rfl).1
 have d2:=(s4.cell 2 rfl).1
 have d3:=(s4.cell 3 rfl).1
 by_cases hp:t5<0
 ·rw[kR (Zi ha hb hT hp) (by decide)]
  have dp:decide (t5<0)=true:=decide_eq_true hp
  refine⟨_,_,?_,aL,(s4.set 1 rfl [zR3]).drop.drop.drop⟩
  refine ag aY rfl ?_;unfold aX
  simp only[sim,af,θ,ξ,η,reduceCtorEq,ψ,ω,aa,au,ox,c0,c1,c2,ln,fh,i0,Int.reduceEq,decide_false,decide_true,aJ,ap,aA,aq,az,aw,aE,da,e3,d0,d1,d2,dp]
  rfl
 have dp:decide (t5<0)=false:=decide_eq_false hp
 obtain⟨j,rfl⟩:=Int.eq_ofNat_of_zero_le (a:=t5) (by omega)
 obtain⟨K,rfl⟩:=Int.eq_ofNat_of_zero_le (a:=t6) (by omega)
 have hj:j<4:=by omega
 obtain⟨lv4,kr4,hv4,f4,hk4'⟩:=ct s4 4 rfl o.m4 o.st.kept
 obtain⟨M,hM⟩:∃ M,ms[j]? =some M:=⟨ms[j]'(by rw[o.m4];exact hj),List.getElem?_eq_getElem _⟩
 have hget:ms.getD (j:Int).toNat none=M:=by rw[Int.toNat_natCast,List.getD,hM];rfl
 have f3:aP 3 (.ptr c.hb 0 0)=some (.ptr c.hb 0 3):=rfl
 have ix:=fun q=>NP (b:=c.hb) q hj
 cases M with
 | none=>
   obtain⟨v0,m1⟩:=f4.non j hM
   have ldm:=f4.ldm (n:=1) m1
   rw[kR (VS ha hb hT hp (.inl (by simp only;rw[hget];rfl))) (by decide)]
   refine⟨_,_,?_,aL,(s4.set 1 rfl [zR3]).drop.drop.drop⟩
   refine ag aY rfl ?_;unfold aX
   simp only[sim,af,θ,ξ,η,reduceCtorEq,ψ,ω,aa,au,ox,c0,c1,c2,ln,fh,i0,Int.reduceEq,decide_false,decide_true,aJ,ap,aA,aq,az,aw,aE,da,e3,d0,d1,d2,d3,dp,f3,ix,ldm]
   rfl
 | some M=>
 obtain⟨q,v,es,m1,m2,m3,m4,m5⟩:=f4.mod j M hM
 have ldm:=f4.ldm (n:=1) m1
 have lq:aR false 1 (h3.push [[.int .i64 t1,.int .i64 t2,.int .i64 t3,.int .i64 t4,.int .i64 j,.int .i64 K]]) (.ptr q 0 0)=some v:=by rw[bP,m2];rfl
 have hfun:bQ ms (j:Int)=M:=by simp[bQ,List.getD,hM]
 have lM:eW v=some M.length:=by rw[←m5.len];exact m4.isL.len
 have fM:=m4.isL.fits
 by_cases hK:(M.length:Int)≤(K:Int)
 ·rw[kR (VS ha hb hT hp (.inr (.inl (by simp only;rw[hfun];exact hK)))) (by decide)]
  have dK:decide ((M.length:Int)≤(K:Int))=true:=decide_eq_true hK
  refine⟨_,_,?_,aL,(s4.set 1 rfl [zR3]).drop.drop.drop⟩
  refine ag aY rfl ?_;unfold aX
  simp only[sim,af,θ,ξ,η,reduceCtorEq,ψ,ω,aa,au,ox,c0,c1,c2,ln,fh,i0,Int.reduceEq,decide_false,decide_true,aJ,ap,aA,aq,az,aw,aE,da,e3,d0,d1,d2,d3,dp,f3,ix,ldm,lq,lM,fM,dK]
  rfl
 have hn:¬ ((ms.getD (⟨t1,t2,t3,t4,(j:Int),(K:Int)⟩:bw).plugin.toNat none).isNone∨((bQ ms (⟨t1,t2,t3,t4,(j:Int),(K:Int)⟩:bw).plugin).length:Int)≤(⟨t1,t2,t3,t4,(j:Int),(K:Int)⟩:bw).func∨(⟨t1,t2,t3,t4,(j:Int),(K:Int)⟩:bw).func<0):=by
  simp only
  rw[hget,hfun]
  simp only[Option.isNone_some,Bool.false_eq_true,false_or]
  omega
 have dK:decide ((M.length:Int)≤(K:Int))=false:=decide_eq_false hK
 by_cases h20:fr=20
 ·rw[kR (Z6 ha hb hT hp hn h20) (by decide)]
  have d20:decide ((fr:Int)=20)=true:=decide_eq_true (by omega)
  refine⟨_,_,?_,aL,(s4.set 1 rfl [zR3]).drop.drop.drop⟩
  refine ag aY rfl ?_;unfold aX
  simp only[sim,af,θ,ξ,η,reduceCtorEq,ψ,ω,aa,au,ox,c0,c1,c2,ln,fh,i0,Int.reduceEq,decide_false,decide_true,aJ,ap,aA,aq,az,aw,aE,da,e3,d0,d1,d2,d3,dp,f3,ix,ldm,lq,lM,fM,dK,d20]
  rfl
 have hask:=ZM (b:=b) ha hb hT hp hn h20
 have d20:decide ((fr:Int)=20)=false:=decide_eq_false (by omega)
 obtain⟨F4,J4,g4⟩:=s4.get 5 rfl
 have eg:=TI g4 o.st.wf a.n
 have hgl:=iL 3 (bH (S.G.gatesC a.n))
 have hfew:=sP o.st.wf (i:=a.n)
 obtain⟨h5,r5,e5,v5,s5⟩:=Ag s4 (i:=5) rfl o.st.wf hgl (by omega) t.b
 have hw5:=qw (ks:=S.G.gatesC a.n) (x:=b) o.st.wf
 have hc5:=mW (ks:=S.G.gatesC a.n) (G:=S.G) (x:=b)
 generalize S.G.gatesC a.n=ks at*
 generalize aN ks S.G b=Q at*
 obtain⟨G',y,kc⟩:=Q
 simp only at e5 v5 s5 hw5 hc5 hask
 have s6:=s5.push [r5]
 have z5:=(s6.cell 0 rfl).1
 have z6:=(s6.cell 2 rfl).1
 have z7:=(s6.cell 1 rfl).1
 have o5:=v5.len3
 by_cases hkc:kc=0
 rotate_left
 ·rw[kR hask hkc]
  have dkc:decide (kc=0)=false:=decide_eq_false hkc
  refine⟨_,_,?_,aL,(s6.set 2 rfl [zR3]).drop.drop.drop.drop⟩
  refine ag aY rfl ?_;unfold aX
  simp only[sim,af,θ,ξ,η,reduceCtorEq,ψ,ω,aa,au,ox,c0,c1,c2,ln,fh,i0,i1,ob,Int.reduceEq,decide_false,decide_true,aJ,ap,aA,aq,az,aw,aE,da,e3,d0,d1,d2,d3,dp,f3,ix,ldm,lq,lM,fM,dK,d20,eg,e5,o5,z5,z6,z7,dkc]
  rfl
 subst hkc
 have o6:OkG ms {S with G:=G'}:=o.withG hw5
 have hKn:K<M.length:=by omega
 obtain⟨h7,r7,e7,v7,s7⟩:=we (A:=[ah h5.n [r5],ah h3.n [[.int .i64 t1,.int .i64 t2,.int .i64 t3,.int .i64 t4,.int .i64 j,.int .i64 K]],ah (h.n+1) [zR3],ah h.n [xR 19 k n xv]]) (S:={S with G:=G'}) s6 ih hN o6 hj hM hKn hfr hle (hc5 rfl) v5
 have ok7:=fk ms N j (dG ms j K) y [] (fr+1) {S with G:=G'} o6.st (hc5 rfl) (by simp)
 unfold ji at e7 v7 s7
 rw[if_neg h20]at e7 v7 s7
 generalize hQ:ofD ms N j (dG ms j K) y [] (fr+1) {S with G:=G'}=Q at*
 obtain⟨S7,v',k7⟩:=Q
 simp only at e7 v7 s7 ok7
 have s7:St h F J h7 (ah h5.n [r5]::ah h3.n [[.int .i64 t1,.int .i64 t2,.int .i64 t3,.int .i64 t4,.int .i64 j,.int .i64 K]]::ah (h.n+1) [zR3]::ah h.n [xR 19 k n xv]::goL c e ms S7 hands fr):=s7
 have s8:=s7.push [r7]
 have y0:=(s8.cell 0 rfl).1
 have y1:=(s8.cell 3 rfl).1
 have o7:=v7.len3
 by_cases hk7:k7=0
 rotate_left
 ·rw[MJ hask hQ hk7]
  have dk7:decide (k7=0)=false:=decide_eq_false hk7
  refine⟨_,_,?_,aL,(s8.set 3 rfl [zR3]).drop.drop.drop.drop.drop⟩
  refine ag aY rfl ?_;unfold aX
  simp only[sim,af,θ,ξ,η,reduceCtorEq,ψ,ω,aa,au,ox,c0,c1,c2,ln,fh,i0,i1,ob,Int.reduceEq,decide_false,decide_true,aJ,ap,aA,aq,az,aw,aE,da,e3,d0,d1,d2,d3,dp,f3,ix,ldm,lq,lM,fM,dK,d20,eg,e5,o5,z5,z6,z7,e7,o7,y0,y1,dk7]
  rfl
 subst hk7
 rw[P2 hask hQ,LT]
 obtain⟨h9,r9,e9,v9,s9⟩:=Ag s8 (i:=7) rfl ok7.1.good.wf hgl (by omega) v7
 have o9:=v9.len3
 have y9:=(s9.cell 3 rfl).1
 refine⟨_,_,?_,v9,(s9.set 3 rfl [r9]).drop.drop.drop.drop.drop⟩
 refine ag aY rfl ?_;unfold aX
 simp only[sim,af,θ,ξ,η,reduceCtorEq,ψ,ω,aa,au,ox,c0,c1,c2,ln,fh,i0,i1,ob,Int.reduceEq,decide_false,decide_true,aJ,ap,aA,aq,az,aw,aE,da,e3,d0,d1,d2,d3,dp,f3,ix,ldm,lq,lM,fM,dK,d20,eg,e5,o5,z5,z6,z7,e7,o7,y0,y1,e9,o9,y9]
end
section
variable {h h' h0:AH} {F J F0 J0:Nat→Prop} {L:List Asn} {c:HmC} {ms:aO} {S:StD} {hands:List (List VD)} {e fr P N:Nat}
variable {p op k n:Int} {xv lv nv:AV} {rows es:List (List AV)} {a b arg:VD} {ra:List AV} {names:List VD}
theorem H3 {e:TypeId} {v:AV} {rows:List (List AV)} (x:(dC e v rows).A h F J) {row:List AV} (h1:row.all AV.one=true) (hl:rows.length≤1000000):
  ∃ v' h',aQ false e v (.isl none e [row]) h=some (v',h')∧Did h F J h' (dC e v' (rows++[row])):=by
 have h1':([row].all fun x=>x.all AV.one)=true:=by simpa using h1
 rcases x with⟨⟨rfl,rfl⟩,e1,e2⟩ | ⟨id,⟨hne,rfl⟩,a1,a2,a3,a4⟩
 ·refine⟨.isl (some h.ids) e [row],h.fresh 1,?_,⟨fun _=>False,fun j=>j=h.ids,.inr ⟨h.ids,⟨by simp,rfl⟩,fun _ h=>h,fun _=>Iff.rfl,by simp[AH.fresh],by simp[AH.fresh]⟩,(ab.fresh h 1).chg _ _,fun _ h=>h.elim,fun j hj=> .inr (by omega)⟩⟩
  simp only[aQ,cE,if_true,Option.bind_some,List.length_singleton,Nat.one_ne_zero,if_false,eS]
  rw[if_pos ⟨by omega,by omega,h1'⟩]
  rfl
 ·refine⟨.isl (some id) e (rows++[row]),h.grow id (rows.length+1),?_,⟨fun _=>False,fun j=>j=id,.inr ⟨id,⟨by simp,rfl⟩,fun _ h=>h,fun _=>Iff.rfl,by simp[AH.grow];omega,by simp[AH.grow]⟩,⟨Nat.le_refl _,by simp[AH.grow],fun _ _ _=>rfl,fun j hj hJ=> ?_⟩,fun _ h=>h.elim,fun j hj=> .inl ((a2 j).2 hj)⟩⟩
  ·simp only[aQ,cE,if_true,Option.bind_some,List.length_singleton,Nat.one_ne_zero,if_false,eS]
   rw[if_pos ⟨by omega,by omega,h1'⟩,a4]
   simp only[true_and,hl,if_true]
  ·rw[qE fun e=>hJ ((a2 j).2 e)]
theorem Zm (s:St h0 F0 J0 h L) (i:Nat) {e:TypeId} {v:AV} {rows:List (List AV)} (hi:L[i]? =some (dC e v rows)) {row:List AV} (h1:row.all AV.one=true) (hl:rows.length≤1000000):
  ∃ h' v',aQ false e v (.isl none e [row]) h=some (v',h')∧St h0 F0 J0 h' (L.set i (dC e v' (rows++[row]))):=by
 obtain⟨h',v',e1,s'⟩:=s.callE (R:=fun h1 (v':AV)=>aQ false e v (.isl none e [row]) h=some (v',h1)) i hi (Y:=fun v'=>dC e v' (rows++[row])) fun F J x=>by
  obtain⟨v',h1,a1,a2⟩:=H3 x h1 hl
  exact⟨h1,v',a1,a2⟩
 exact⟨h',v',e1,s'⟩
theorem zL {A:List Asn} {H:AH} (s:St h0 F0 J0 H (A++goL c e ms S hands fr)) (ih:OfN ms c e hands N) (hN:S.left≤N) (o:OkG ms S) {x:XD} (fit:Tp ms S p x arg names) (hfr:fr≤20) {r:List AV} (xr:ExA x r) (va:VaA arg ra) (hs:SlA tV nv rows) (hv:VaL names rows):
  ∃ h' r',aj Tryz.prog po fOf [.ptr e 0 0,.int .i64 p,.agg r,.agg ra,nv] H=some (.inl (.tup [.agg r',.int .i64 (ofD ms N p x arg names fr S).2.2]),h')∧VaA (ofD ms N p x arg names fr S).2.1 r'∧St h0 F0 J0 h' (A++goL c e ms (ofD ms N p x arg names fr S).1 hands fr):=by
 have s':St h0 F0 J0 H (A++goL c e ms S hands fr++[]):=by rw[List.append_nil];exact s
 obtain⟨h4,⟨r',e4,v4⟩,s4⟩:=s'.callL (R:=fun h4=>∃ r',aj Tryz.prog po fOf [.ptr e 0 0,.int .i64 p,.agg r,.agg ra,nv] H=some (.inl (.tup [.agg r',.int .i64 (ofD ms N p x arg names fr S).2.2]),h4)∧VaA (ofD ms N p x arg names fr S).2.1 r')
  (M':=goL c e ms (ofD ms N p x arg names fr S).1 hands fr) fun F J y=>by
   obtain⟨h4,r',a1,a2,a3⟩:=ih S p x arg names fr H F J r ra nv rows hN o fit hfr xr va hs hv y
   exact⟨h4,⟨r',a1,a2⟩,a3⟩
 rw[List.append_nil]at s4
 exact⟨h4,r',e4,v4,s4⟩
abbrev ofL (b5 b6 b7:Nat) (xr ra:List AV) (c:HmC) (e:Nat) (ms:aO) (S:StD) (hands:List (List VD)) (fr:Nat):List Asn:=[ah b7 [zR3],ah b6 [ra],ah b5 [xr]]++goL c e ms S hands fr
set_option maxRecDepth 100000 in
set_option maxHeartbeats 4000000 in
theorem UL (ih:OfN ms c e hands N) (hfr:fr≤20) {X:List XD} (hx:SlA tE xv es) (hX:ExL X es) (hXl:X.length≤1000) (hf:∀ y∈X,y.fault (bQ ms p).length names.length=0) (hp0:0≤p) (hp4:p<4) (harg:arg.code=0) (hnm:∀ v∈names,v.code=0) (va:VaA arg ra) (hs:SlA tV nv rows) (hv:VaL names rows) (b5 b6 b7:Nat) (v9 v10 v11 v12 v13 v18 v19 v20 v21 v22 v23 v24 v25 v26 v27 v28 v29 v30:AV):
  ∀ (l pre:List XD) (h':AH) (S:StD) (acc:AV) (ar:List (List AV)) (vs:List VD) (v8 v16 v17 v31 v32:AV),X=pre++l→S.left≤N→OkG ms S→names.length+S.left≤100000→VaL vs ar→vs.length=pre.length→St h0 F0 J0 h' (dC tV acc ar::ofL b5 b6 b7 (xR op k n xv) ra c e ms S hands fr)→
  ((evL (fun y S=>ofD ms N p y arg names fr S) l S vs).2.2=0∧∃ h'' acc' ar' w15 w16 w17 w31 w32,(∀ K,aC (aj Tryz.prog po) 33 (.lp jm:: .ss []:: .blk 1::K) [.ptr e 0 0,.int .i64 p,.agg (xR op k n xv),.agg ra,nv,.ptr b5 0 0,.ptr b6 0 0,.ptr b7 0 0,v8,v9,v10,v11,v12,v13,acc,.int .i64 (pre.length:Int),v16,v17,v18,v19,v20,v21,v22,v23,v24,v25,v26,v27,v28,v29,v30,v31,v32] [] h'=aC (aj Tryz.prog po) 33 K [.ptr e 0 0,.int .i64 p,.agg (xR op k n xv),.agg ra,nv,.ptr b5 0 0,.ptr b6 0 0,.ptr b7 0 0,v8,v9,v10,v11,v12,v13,acc',w15,w16,w17,v18,v19,v20,v21,v22,v23,v24,v25,v26,v27,v28,v29,v30,w31,w32] [] h'')∧VaL (evL (fun y S=>ofD ms N p y arg names fr S) l S vs).2.1 ar'∧St h0 F0 J0 h'' (dC tV acc' ar'::ofL b5 b6 b7 (xR op k n xv) ra c e ms (evL (fun y S=>ofD ms N p y arg names fr S) l S vs).1 hands fr))∨
  ((evL (fun y S=>ofD ms N p y arg names fr S) l S vs).2.2≠0∧∃ h'' acc' ar' w15 w16 w17 w31 w32,(∀ K,aC (aj Tryz.prog po) 33 (.lp jm:: .ss []:: .blk 1::K) [.ptr e 0 0,.int .i64 p,.agg (xR op k n xv),.agg ra,nv,.ptr b5 0 0,.ptr b6 0 0,.ptr b7 0 0,v8,v9,v10,v11,v12,v13,acc,.int .i64 (pre.length:Int),v16,v17,v18,v19,v20,v21,v22,v23,v24,v25,v26,v27,v28,v29,v30,v31,v32] [] h'=some (.ret,[.ptr e 0 0,.int .i64 p,.agg (xR op k n xv),.agg ra,nv,.ptr b5 0 0,.ptr b6 0 0,.ptr b7 0 0,.int .i64 (evL (fun y S=>ofD ms N p y arg names fr S) l S vs).2.2,v9,v10,v11,v12,v13,acc',w15,w16,w17,v18,v19,v20,v21,v22,v23,v24,v25,v26,v27,v28,v29,v30,w31,w32],h''))∧St h0 F0 J0 h'' (dC tV acc' ar'::ofL b5 b6 b7 (xR op k n xv) ra c e ms (evL (fun y S=>ofD ms N p y arg names fr S) l S vs).1 hands fr)):=by
 intro l
 induction l with
 | nil=>
   intro pre h' S acc ar vs v8 v16 v17 v31 v32 eX hN o hlen hvs hvl s
   have lX:eW xv=some X.length:=by rw[←hX.len];exact hx.isL.len
   have fX:=hx.isL.fits
   have d1:decide ((pre.length:Int)<(X.length:Int))=false:=decide_eq_false (by rw[eX];simp)
   have c5:=(s.cell 3 rfl).1
   refine .inl ⟨rfl,h',acc,ar,.int .i64 (pre.length:Int),v16,v17,.bool false,v32,fun K=> ?_,hvs,s⟩
   rw[aG jm.eq_1]
   simp only[sim,af,θ,ξ,η,reduceCtorEq,ψ,ω,aa,lX,fX,d1,c5]
 | cons y l ihl=>
   intro pre h' S acc ar vs v8 v16 v17 v31 v32 eX hN o hlen hvs hvl s
   have lX:eW xv=some X.length:=by rw[←hX.len];exact hx.isL.len
   have fX:=hx.isL.fits
   have hpl:pre.length<X.length:=by rw[eX];simp
   have d1:decide ((pre.length:Int)<(X.length:Int))=true:=decide_eq_true (by omega)
   have c5:=(s.cell 3 rfl).1
   have c6:=(s.cell 2 rfl).1
   have hy:X[pre.length]? =some y:=by rw[eX];simp
   have hym:y∈X:=by rw[eX];simp
   obtain⟨ry,q1,q2⟩:=hX.get hy
   have ix:∀ q:IntKind,bL (some tE) none xv (.int q (pre.length:Int))=some (.ip ry 0):=fun q=>hx.isL.ix q pre.length ry q1
   have lx:=bi q2.one.2
   have w1:=w64 (n:=(pre.length:Int)+1) (by omega) (by omega)
   have ek:((pre++[y]).length:Int)=(pre.length:Int)+1:=by simp
   have la:=bi va.len3.1
   have fit:Tp ms S p y arg names:=⟨hf y hym,harg,hnm,hlen,hp0,hp4⟩
   obtain⟨h2,r2,e2,v2,s2⟩:=zL (A:=[dC tV acc ar,ah b7 [zR3],ah b6 [ra],ah b5 [xR op k n xv]]) s ih hN o fit hfr q2 va hs hv
   have ok2:=fk ms N p y arg names fr S o.st harg hnm
   have evl:evL (fun y S=>ofD ms N p y arg names fr S) (y::l) S vs=(match ofD ms N p y arg names fr S with | (S',v,c)=>if c≠0 then(S',[],c)else evL (fun y S=>ofD ms N p y arg names fr S) l S' (vs++[v])):=rfl
   rw[evl]
   generalize ofD ms N p y arg names fr S=Q at*
   obtain⟨S2,v',c2⟩:=Q
   simp only at e2 v2 s2 ok2 ⊢
   have s3:=s2.push [r2]
   have t3:=s2.push [zR3]
   have z5:=(t3.cell 4 rfl).1
   have z6:=(t3.cell 3 rfl).1
   have y7:=(s3.cell 2 rfl).1
   have o2:=v2.len3
   have oa:=va.len3
   by_cases hc:c2=0
   ·subst hc
    rw[if_neg (fun h=>h rfl)]
    have hle2:=ok2.1.left
    simp only at hle2
    have arl:ar.length=pre.length:=by rw[←hvl];exact hvs.len
    obtain⟨h4,acc2,ea,s4⟩:=Zm s3 1 rfl (row:=r2) o2.2 (by omega)
    have s4:St h0 F0 J0 h4 (ah h2.n [r2]::dC tV acc2 (ar++[r2])::ofL b5 b6 b7 (xR op k n xv) ra c e ms S2 hands fr):=s4
    have ih2:=ihl (pre++[y]) h4 S2 acc2 (ar++[r2]) (vs++[v']) v8 (.ptr h2.n 0 0) (.int .i64 0) (.bool true) (.bool false) (by simp[eX]) (by omega) (o.of ok2.1.good (by have:=ok2.1.mu;simp only at this;omega)) (by omega) (hvs.append v2) (by simp[hvl]) s4.drop
    rcases ih2 with⟨hz,h7,acc7,ar7,w15,w16,w17,w31,w32,r7,hv7,s7⟩ | ⟨hz,h7,acc7,ar7,w15,w16,w17,w31,w32,r7,s7⟩
    ·refine .inl ⟨hz,h7,acc7,ar7,w15,w16,w17,w31,w32,fun K=> ?_,hv7,s7⟩
     rw[←r7 K,ek]
     conv=>lhs;rw[aG jm.eq_1]
     simp only[sim,af,θ,ξ,η,reduceCtorEq,ψ,ω,aa,au,lX,fX,d1,c5,c6,ix,lx,la,e2,z5,z6,o2,oa,ea,w1,decide_true]
    ·refine .inr ⟨hz,h7,acc7,ar7,w15,w16,w17,w31,w32,fun K=> ?_,s7⟩
     rw[←r7 K,ek]
     conv=>lhs;rw[aG jm.eq_1]
     simp only[sim,af,θ,ξ,η,reduceCtorEq,ψ,ω,aa,au,lX,fX,d1,c5,c6,ix,lx,la,e2,z5,z6,o2,oa,ea,w1,decide_true]
   ·rw[if_pos hc]
    have dc:decide (c2=0)=false:=decide_eq_false hc
    have s4:=(s3.set 2 rfl [zR3]).drop
    refine .inr ⟨hc,_,acc,ar,.int .i64 (pre.length:Int),.ptr h2.n 0 0,.int .i64 c2,.bool true,.bool true,fun K=> ?_,s4⟩
    rw[aG jm.eq_1]
    simp only[sim,af,θ,ξ,η,reduceCtorEq,ψ,ω,aa,au,lX,fX,d1,c5,c6,ix,lx,la,e2,z5,z6,o2,oa,dc,y7]
end
section
variable {h h' h0:AH} {F J F0 J0:Nat→Prop} {L:List Asn} {c:HmC} {ms:aO} {S:StD} {hands:List (List VD)} {e fr P N:Nat}
variable {p op k n:Int} {xv lv nv:AV} {rows es:List (List AV)} {a b arg:VD} {ra:List AV} {names:List VD}
theorem AY {h:AH} {F J:Nat→Prop} {e:TypeId} {v:AV} {rows:List (List AV)} (x:(dC e v rows).A h F J):SlA e v rows:=by
 rcases x with⟨⟨rfl,rfl⟩,_⟩ | ⟨id,⟨_,rfl⟩,_⟩
 ·exact .inl ⟨rfl,rfl⟩
 ·exact .inr ⟨_,rfl⟩
theorem Ou {x:XD} {vs:List VD} (hop:¬ (x.op=1∨x.op=2∨x.op=3∨x.op=4∨x.op=21)) (o5:x.op≠5) (o7:x.op≠7) (o18:x.op≠18) (o19:x.op≠19) (hp:0≤bh x.op) (hl:(vs.length:Int)=bh x.op) (hc:∀ v∈vs,v.code=0) (hp0:0≤p) (hp4:p<4)
  (y:(bj (goL c e ms S hands fr)).A h F J) (o:OkG ms S) (ox:xv.one=true) (hs:SlA tV lv rows) (hv:VaL vs rows):GoR Az h F J c e ms hands fr [.ptr e 0 0,.int .i64 p,.agg (xR x.op x.k x.n xv),lv] (bS p x.op x.k x.n vs S):=by
 have h1:=sY hp
 have hi:=hs.isL
 generalize x.op=op at*
 generalize x.k=k at*
 generalize x.n=n at*
 have two:bh op=2→∃ a b,vs=[a,b]:=fun h=>yp (by omega)
 have one:bh op=1→∃ a,vs=[a]:=fun h=>by
  have:vs.length=1:=by omega
  match vs,this with
  | [a],_=>exact⟨a,rfl⟩
 obtain⟨P,rfl⟩:=Int.eq_ofNat_of_zero_le hp0
 rcases(by omega:op=6∨op=8∨op=9∨op=10∨op=11∨op=12∨op=13∨op=14∨op=15∨op=16∨op=17∨op=20)with rfl | rfl | rfl | rfl | rfl | rfl | rfl | rfl | rfl | rfl | rfl | rfl
 ·obtain⟨a,b,rfl⟩:=two (by decide)
  exact Yj y o ox hi hv
 ·obtain⟨a,b,rfl⟩:=two (by decide)
  exact XR y o ox hi hs hv
 ·obtain⟨a,rfl⟩:=one (by decide)
  exact Yp y o ox hi hv (hc a (by simp))
 ·obtain⟨a,rfl⟩:=one (by decide)
  exact Ut y o ox hi hv (hc a (by simp))
 ·obtain⟨a,rfl⟩:=one (by decide)
  exact VJ y o ox hi hs hv
 ·obtain⟨a,rfl⟩:=one (by decide)
  exact T6 y o ox hi hv (hc a (by simp))
 ·obtain⟨a,rfl⟩:=one (by decide)
  exact TT y o ox hi hv
 ·obtain⟨a,b,rfl⟩:=two (by decide)
  exact UW y o ox hi hv
 ·obtain⟨a,rfl⟩:=one (by decide)
  exact Uh y o ox hi hv
 ·obtain⟨a,rfl⟩:=one (by decide)
  exact Vd y o ox hi hv
 ·obtain⟨a,rfl⟩:=one (by decide)
  exact Uz y o ox hi hv
 ·obtain⟨a,rfl⟩:=one (by decide)
  exact U3 y o ox hi hv rfl (by omega)
theorem UA {h:AH} (hs:SlA tV nv rows) (h1:∀ r∈rows,r.all AV.one=true) (hl:rows.length≤1000000) {r:List AV} (hr:r.all AV.one=true):
  ∃ u v' h1 h2,aQ false tV .nils nv h=some (u,h1)∧aQ false tV u (.isl none tV [r]) h1=some (v',h2)∧h1.cell=h.cell∧ab h h2∧SlA tV v' (rows++[r]):=by
 obtain⟨u,h1',e1,a1,g1,k1,n1⟩:=sm (iI h h tV) (ab.refl h) (x:=nv) (rows:=rows) (by
  rcases hs with⟨a,b⟩ | b
  ·exact .inl ⟨b,a⟩
  ·exact .inr b) h1 (by simp) hl
 have hr':([r].all fun x=>x.all AV.one)=true:=by simpa using hr
 rw[List.nil_append]at a1
 rcases a1 with⟨rfl,rfl⟩ | ⟨id,b1,b2,b3,b4,rfl⟩
 ·refine⟨.nils,.isl (some h1'.ids) tV [r],h1',h1'.fresh 1,e1,?_,k1,g1.trans (ab.fresh _ 1),.inr ⟨_,rfl⟩⟩
  simp only[aQ,cE,if_true,Option.bind_some,List.length_singleton,Nat.one_ne_zero,if_false,eS]
  rw[if_pos ⟨by omega,by omega,hr'⟩]
  rfl
 ·refine⟨_,.isl (some id) tV (rows++[r]),h1',h1'.grow id (rows.length+1),e1,?_,k1,g1.grow b2,.inr ⟨_,rfl⟩⟩
  simp only[aQ,cE,if_true,Option.bind_some,List.length_singleton,Nat.one_ne_zero,if_false,eS]
  rw[if_pos ⟨by omega,by omega,hr'⟩,b4]
  simp only[true_and,hl,if_true]
theorem VaL.ones:∀ {l:List VD} {es:List (List AV)},VaL l es→∀ r∈es,r.all AV.one=true
 | [],es,h,r,hr=>by simp only[VaL]at h;subst h;simp at hr
 | x::l,es,h,r,hr=>by
   simp only[VaL]at h
   obtain⟨q,rs,rfl,h1,h2⟩:=h
   rcases List.mem_cons.1 hr with rfl | hr
   ·exact h1.len3.2
   ·exact VaL.ones h2 r hr
theorem Sf (o:OkG ms S):OkG ms S.tick:=⟨o.m4,o.g,o.st.tick,by have:=o.mu;unfold StD.mu StD.tick at*;simp only at*;omega⟩
set_option maxRecDepth 100000 in
set_option maxHeartbeats 8000000 in
theorem Xw:∀ N,OfN ms c e hands N:=by
 intro N
 induction N with
 | zero=>
   intro S p x arg names fr h F J r ra nv rows hN o fit hfr xr va hs hv y
   obtain⟨xv,es,rfl,hx,hX⟩:=xr.row
   have hz:S.left=0:=by omega
   have ox:xv.one=true:=by rcases hx with⟨_,rfl⟩ | ⟨id,rfl⟩<;>rfl
   have oa:=va.len3
   have s2:=(((St.start y).push [xR x.op x.k x.n xv]).push [ra]).push [zR3]
   have c0:=(s2.cell 3 rfl).1
   have c7:=(s2.cell 0 rfl).1
   have dl:decide ((S.left:Int)=0)=true:=decide_eq_true (by omega)
   refine⟨_,_,?_,aL,s2.drop.drop.drop⟩
   refine ag gY rfl ?_;unfold gF
   simp only[sim,af,θ,ξ,η,reduceCtorEq,ψ,ω,aa,au,oa,ox,c0,c7,dl,ap,aA,aq,az,aw,aE]
   rfl
 | succ N ih=>
 intro S p x arg names fr h F J r ra nv rows hN o fit hfr xr va hs hv y
 obtain⟨xv,es,rfl,hx,hX⟩:=xr.row
 have ox:xv.one=true:=by rcases hx with⟨_,rfl⟩ | ⟨id,rfl⟩<;>rfl
 have oX:=xr.one
 have oa:=va.len3
 have s2:=(((St.start y).push [xR x.op x.k x.n xv]).push [ra]).push [zR3]
 have c0:=(s2.cell 3 rfl).1
 have c7:=(s2.cell 0 rfl).1
 have c5:=(s2.cell 2 rfl).1
 have c6:=(s2.cell 1 rfl).1
 rw[ofD]
 by_cases hz:S.left=0
 ·rw[if_pos hz]
  have dl:decide ((S.left:Int)=0)=true:=decide_eq_true (by omega)
  refine⟨_,_,?_,aL,s2.drop.drop.drop⟩
  refine ag gY rfl ?_;unfold gF
  simp only[sim,af,θ,ξ,η,reduceCtorEq,ψ,ω,aa,au,oa,ox,c0,c7,dl,ap,aA,aq,az,aw,aE]
  rfl
 rw[if_neg hz]
 have dl:decide ((S.left:Int)=0)=false:=decide_eq_false (by omega)
 have hll:=fit.len
 have w1:=w64 (n:=(S.left:Int) - 1) (by omega) (by omega)
 have et:(S.tick.left:Int)=(S.left:Int) - 1:=by unfold StD.tick;simp only;omega
 have s3:St h F J ((((h.push [xR x.op x.k x.n xv]).push [ra]).push [zR3]).set e (some [[.ptr c.hb 0 0,.int .i64 ((S.left:Int) - 1),.int .i64 (fr:Int)]])) (ofL h.n (h.n+1) (h.n+1+1) (xR x.op x.k x.n xv) ra c e ms S.tick hands fr):=by
  unfold ofL goL
  rw[et]
  exact s2.set 3 rfl [[.ptr c.hb 0 0,.int .i64 ((S.left:Int) - 1),.int .i64 (fr:Int)]]
 generalize hH:(((h.push [xR x.op x.k x.n xv]).push [ra]).push [zR3]).set e (some [[.ptr c.hb 0 0,.int .i64 ((S.left:Int) - 1),.int .i64 (fr:Int)]])=H at*
 have b7:=(s3.cell 0 rfl).1
 have b6:=(s3.cell 1 rfl).1
 have b5:=(s3.cell 2 rfl).1
 have b0:=(s3.cell 3 rfl).1
 obtain⟨f1,f2,f3,f4,f5⟩:=lu fit.xf
 have hop:=sY f1
 have ot:=Sf o
 have hl1:S.tick.left≤N:=by unfold StD.tick;simp only;omega
 have hln:names.length+S.tick.left≤100000:=by unfold StD.tick;simp only;omega
 by_cases hlf:(x.op=1∨x.op=2∨x.op=3∨x.op=4∨x.op=21)
 ·rcases hlf with h1 | h1 | h1 | h1 | h1
  ·have hv0:dZ p x arg names S.tick=some (aK):=by unfold dZ;rw[if_pos h1]
   rw[hv0]
   have dd1:decide (x.op=1)=true:=decide_eq_true (by omega)
   refine⟨_,_,?_,aL,(s3.set 0 rfl [zR3]).drop.drop.drop⟩
   refine ag gY rfl ?_;unfold gF
   simp only[sim,af,θ,ξ,η,reduceCtorEq,ψ,ω,aa,au,oa,ox,oX,c0,c5,c6,c7,dl,w1,hH,b0,b5,b6,b7,Int.reduceEq,decide_false,decide_true,ap,aA,aq,az,aw,aE,dd1]
   rfl
  ·have hv0:dZ p x arg names S.tick=some (qY x.n):=by unfold dZ;rw[if_neg (by omega),if_pos h1]
   rw[hv0]
   have dd1:decide (x.op=1)=false:=decide_eq_false (by omega)
   have dd2:decide (x.op=2)=true:=decide_eq_true (by omega)
   refine⟨_,_,?_,qg _,(s3.set 0 rfl [[.int .i64 1,.int .i64 x.n,.nils]]).drop.drop.drop⟩
   refine ag gY rfl ?_;unfold gF
   simp only[sim,af,θ,ξ,η,reduceCtorEq,ψ,ω,aa,au,oa,ox,oX,c0,c5,c6,c7,dl,w1,hH,b0,b5,b6,b7,Int.reduceEq,decide_false,decide_true,ap,aA,aq,az,aw,aE,dd1,dd2]
   rfl
  ·have hv0:dZ p x arg names S.tick=some (arg):=by unfold dZ;rw[if_neg (by omega),if_neg (by omega),if_pos h1]
   rw[hv0]
   have dd1:decide (x.op=1)=false:=decide_eq_false (by omega)
   have dd2:decide (x.op=2)=false:=decide_eq_false (by omega)
   have dd3:decide (x.op=3)=true:=decide_eq_true (by omega)
   have la:=bi oa.1
   refine⟨_,_,?_,va,(s3.set 0 rfl [ra]).drop.drop.drop⟩
   refine ag gY rfl ?_;unfold gF
   simp only[sim,af,θ,ξ,η,reduceCtorEq,ψ,ω,aa,au,oa,ox,oX,c0,c5,c6,c7,dl,w1,hH,b0,b5,b6,b7,Int.reduceEq,decide_false,decide_true,ap,aA,aq,az,aw,aE,dd1,dd2,dd3,la]
   rfl
  ·have hv0:dZ p x arg names S.tick=some (names.getD (names.length - 1 - x.k.toNat) aK):=by unfold dZ;rw[if_neg (by omega),if_neg (by omega),if_neg (by omega),if_pos h1]
   rw[hv0]
   have dd1:decide (x.op=1)=false:=decide_eq_false (by omega)
   have dd2:decide (x.op=2)=false:=decide_eq_false (by omega)
   have dd3:decide (x.op=3)=false:=decide_eq_false (by omega)
   have dd4:decide (x.op=4)=true:=decide_eq_true (by omega)
   have hk:=EN (by rw[←h1];exact f3)
   have ln:=hs.isL.len
   rw[hv.len]at ln
   have fn:=hs.isL.fits
   have w2:=w64 (n:=(names.length:Int) - 1) (by omega) (by omega)
   have w3:IntKind.wrap .i64 ((names.length:Int) - 1 - x.k)=((names.length - 1 - x.k.toNat:Nat):Int):=by rw[w64 (by omega) (by omega)];omega
   have hj:names.length - 1 - x.k.toNat<names.length:=by omega
   obtain⟨rj,j1,j2⟩:=hv.get (i:=names.length - 1 - x.k.toNat) (x:=names.getD (names.length - 1 - x.k.toNat) aK) (by rw[List.getD,List.getElem?_eq_getElem hj];rfl)
   have ixn:∀ q:IntKind,bL (some tV) none nv (.int q ((names.length - 1 - x.k.toNat:Nat):Int))=some (.ip rj 0):=fun q=>hs.isL.ix q _ rj j1
   have lj:=bi j2.len3.1
   have oj:=j2.len3
   refine⟨_,_,?_,j2,(s3.set 0 rfl [rj]).drop.drop.drop⟩
   refine ag gY rfl ?_;unfold gF
   simp only[sim,af,θ,ξ,η,reduceCtorEq,ψ,ω,aa,au,oa,ox,oX,c0,c5,c6,c7,dl,w1,hH,b0,b5,b6,b7,Int.reduceEq,decide_false,decide_true,ap,aA,aq,az,aw,aE,dd1,dd2,dd3,dd4,ln,fn,w2,w3,ixn,lj,oj]
   rfl
  ·have hv0:dZ p x arg names S.tick=some (S.tick.kept.getD p.toNat aK):=by unfold dZ;rw[if_neg (by omega),if_neg (by omega),if_neg (by omega),if_neg (by omega),if_pos h1]
   rw[hv0]
   have dd1:decide (x.op=1)=false:=decide_eq_false (by omega)
   have dd2:decide (x.op=2)=false:=decide_eq_false (by omega)
   have dd3:decide (x.op=3)=false:=decide_eq_false (by omega)
   have dd4:decide (x.op=4)=false:=decide_eq_false (by omega)
   have dd21:decide (x.op=21)=true:=decide_eq_true (by omega)
   obtain⟨P,rfl⟩:=Int.eq_ofNat_of_zero_le fit.p0
   have hP:P<4:=by have:=fit.p4;omega
   obtain⟨lv0,kr,hv0_,f,hk⟩:=ct s3 4 rfl ot.m4 ot.st.kept
   obtain⟨r0,hr0,hrv⟩:=hk.get (i:=P) (x:=S.tick.kept.getD P aK) (by rw[List.getD,List.getElem?_eq_getElem (by rw[ot.st.kept];exact hP)];rfl)
   have lk:=f.ldk hr0
   have o0:=hrv.len3
   have f7:aP 7 (.ptr c.hb 0 0)=some (.ptr c.hb 0 7):=rfl
   have ixk:∀ q:IntKind,bL none (some (4,3)) (.ptr c.hb 0 7) (.int q (P:Int))=some (.ptr c.hb 0 (7+P*3)):=fun q=>by simp[bL,hP]
   rw[Int.toNat_natCast]
   refine⟨_,_,?_,hrv,(s3.set 0 rfl [r0]).drop.drop.drop⟩
   refine ag gY rfl ?_;unfold gF
   simp only[sim,af,θ,ξ,η,reduceCtorEq,ψ,ω,aa,au,oa,ox,oX,c0,c5,c6,c7,dl,w1,hH,b0,b5,b6,b7,Int.reduceEq,decide_false,decide_true,ap,aA,aq,az,aw,aE,dd1,dd2,dd3,dd4,dd21,lk,o0,f7,ixk]
   rfl
 have hnone:dZ p x arg names S.tick=none:=jE.2 hlf
 rw[hnone]
 simp only
 have fitS:∀ {y:XD} {S':StD} {nm:List VD},y.fault (bQ ms p).length nm.length=0→(∀ v∈nm,v.code=0)→nm.length+S'.left≤100000→Tp ms S' p y arg nm:=fun h1 h2 h3=>⟨h1,fit.arg,h2,h3,fit.p0,fit.p4⟩
 have fE:∀ s,ew s (some tE) xv=true:=hx.isL.fits
 by_cases o5:x.op=5
 ·rw[if_pos o5]
  have hlen:x.l.length=2:=by rw[o5]at f2;simp[bh]at f2;omega
  obtain⟨a,b,hab⟩:=yp hlen
  rw[o5]at f5
  rw[hab]at f5 hX ⊢
  obtain⟨fa,f6⟩:=f8 f5
  obtain⟨fb,_⟩:=f8 f6
  rw[if_neg (by omega)]at fa
  rw[if_pos (by omega)]at fb
  simp only[List.getD_cons_zero,List.getD_cons_succ]
  obtain⟨qa,qa1,qa2⟩:=hX.get (i:=0) (x:=a) rfl
  obtain⟨qb,qb1,qb2⟩:=hX.get (i:=1) (x:=b) rfl
  have ia:∀ q:IntKind,bL (some tE) none xv (.int q 0)=some (.ip qa 0):=fun q=>hx.isL.ix q 0 qa qa1
  have ib:∀ q:IntKind,bL (some tE) none xv (.int q 1)=some (.ip qb 0):=fun q=>hx.isL.ix q 1 qb qb1
  have la:=bi qa2.one.2
  have lb:=bi qb2.one.2
  have lra:=bi oa.1
  obtain⟨h4,r4,e4,v4,s4⟩:=zL (A:=[ah (h.n+1+1) [zR3],ah (h.n+1) [ra],ah h.n [xR x.op x.k x.n xv]]) s3 ih hl1 ot (fitS fa fit.nm hln) hfr qa2 va hs hv
  have ok4:=fk ms N p a arg names fr S.tick ot.st fit.arg fit.nm
  generalize ofD ms N p a arg names fr S.tick=Q at*
  obtain⟨S4,v,k4⟩:=Q
  simp only at e4 v4 s4 ok4 ⊢
  have s4:St h F J h4 (ofL h.n (h.n+1) (h.n+1+1) (xR x.op x.k x.n xv) ra c e ms S4 hands fr):=s4
  have s5:=s4.push [r4]
  have t5:=s4.push [zR3]
  have z5:=(t5.cell 3 rfl).1
  have z6:=(t5.cell 2 rfl).1
  have y7:=(s5.cell 1 rfl).1
  have y0:=(s5.cell 0 rfl).1
  have y5:=(s5.cell 3 rfl).1
  have y6:=(s5.cell 2 rfl).1
  have o4:=v4.len3
  have lr4:=bi o4.1
  have dd1:decide (x.op=1)=false:=decide_eq_false (by omega)
  have dd2:decide (x.op=2)=false:=decide_eq_false (by omega)
  have dd3:decide (x.op=3)=false:=decide_eq_false (by omega)
  have dd4:decide (x.op=4)=false:=decide_eq_false (by omega)
  have dd21:decide (x.op=21)=false:=decide_eq_false (by omega)
  have dd5:decide (x.op=5)=true:=decide_eq_true (by omega)
  by_cases hk4:k4=0
  rotate_left
  ·rw[if_pos hk4]
   have dk4:decide (k4=0)=false:=decide_eq_false hk4
   refine⟨_,_,?_,aL,(s5.set 1 rfl [zR3]).drop.drop.drop.drop⟩
   refine ag gY rfl ?_;unfold gF
   simp only[sim,af,θ,ξ,η,reduceCtorEq,ψ,ω,aa,au,oa,ox,oX,c0,c5,c6,c7,dl,w1,hH,b0,b5,b6,b7,Int.reduceEq,decide_false,decide_true,ap,aA,aq,az,aw,aE,dd1,dd2,dd3,dd4,dd21,dd5,ia,la,lra,e4,z5,z6,y7,o4,dk4]
   rfl
  subst hk4
  rw[if_neg (fun h=>h rfl)]
  have vcode:=ok4.1.val rfl
  have hle4:=ok4.1.left
  have hmu4:=ok4.1.mu
  simp only at vcode hle4 hmu4
  have rl:=hv.len
  obtain⟨u,nv',h6,h7,e6,e7,k6,g7,sl7⟩:=UA (h:=h4.push [r4]) hs hv.ones (by have:=fit.len;omega) o4.2
  have s7:=s5.grew g7
  obtain⟨h8,r8,e8,v8,s8⟩:=zL (A:=[ah h4.n [r4],ah (h.n+1+1) [zR3],ah (h.n+1) [ra],ah h.n [xR x.op x.k x.n xv]]) s7 ih (by omega) (ot.of ok4.1.good (by omega)) (fitS (nm:=names++[v]) (by rw[List.length_append];exact fb) (fun w hw=>by
   rcases List.mem_append.1 hw with h | h
   ·exact fit.nm w h
   ·simp only[List.mem_singleton]at h;rw[h];exact vcode) (by have:=ok4.2 rfl;simp only at this;rw[List.length_append,List.length_singleton];omega)) hfr qb2 va sl7 (hv.append v4)
  have x7:=(s7.cell 1 rfl).1
  have x5:=(s7.cell 3 rfl).1
  have x6:=(s7.cell 2 rfl).1
  have q8:=(s8.cell 1 rfl).1
  have o8:=v8.len3
  generalize ofD ms N p b arg (names++[v]) fr S4=Q at*
  refine⟨_,_,?_,v8,(s8.set 1 rfl [r8]).drop.drop.drop.drop⟩
  refine ag gY rfl ?_;unfold gF
  simp only[sim,af,θ,ξ,η,reduceCtorEq,ψ,ω,aa,au,oa,ox,oX,c0,c5,c6,c7,dl,w1,hH,b0,b5,b6,b7,Int.reduceEq,decide_false,decide_true,ap,aA,aq,az,aw,aE,dd1,dd2,dd3,dd4,dd21,dd5,ia,ib,la,lb,lra,e4,z5,z6,y0,y5,y6,o4,lr4,e6,e7,k6,e8,x5,x6,q8,o8]
 rw[if_neg o5]
 by_cases o7:x.op=7
 ·rw[if_pos o7]
  have hlen:x.l.length=3:=by rw[o7]at f2;simp[bh]at f2;omega
  obtain⟨a,b,d,hab⟩:=TA hlen
  have fall:=jf o5 f5
  rw[hab]at fall hX ⊢
  have fa:=fall a (by simp)
  have fb:=fall b (by simp)
  have fd:=fall d (by simp)
  simp only[List.getD_cons_zero,List.getD_cons_succ]
  obtain⟨qa,qa1,qa2⟩:=hX.get (i:=0) (x:=a) rfl
  obtain⟨qb,qb1,qb2⟩:=hX.get (i:=1) (x:=b) rfl
  obtain⟨qd,qd1,qd2⟩:=hX.get (i:=2) (x:=d) rfl
  have ia:∀ q:IntKind,bL (some tE) none xv (.int q 0)=some (.ip qa 0):=fun q=>hx.isL.ix q 0 qa qa1
  have ib:∀ q:IntKind,bL (some tE) none xv (.int q 1)=some (.ip qb 0):=fun q=>hx.isL.ix q 1 qb qb1
  have id:∀ q:IntKind,bL (some tE) none xv (.int q 2)=some (.ip qd 0):=fun q=>hx.isL.ix q 2 qd qd1
  have la:=bi qa2.one.2
  have lb:=bi qb2.one.2
  have ld:=bi qd2.one.2
  have lra:=bi oa.1
  obtain⟨h4,r4,e4,v4,s4⟩:=zL (A:=[ah (h.n+1+1) [zR3],ah (h.n+1) [ra],ah h.n [xR x.op x.k x.n xv]]) s3 ih hl1 ot (fitS fa fit.nm hln) hfr qa2 va hs hv
  have ok4:=fk ms N p a arg names fr S.tick ot.st fit.arg fit.nm
  generalize ofD ms N p a arg names fr S.tick=Q at*
  obtain⟨S4,v,k4⟩:=Q
  simp only at e4 v4 s4 ok4 ⊢
  obtain⟨wv,rfl,ov⟩:=v4.cells3
  have s4:St h F J h4 (ofL h.n (h.n+1) (h.n+1+1) (xR x.op x.k x.n xv) ra c e ms S4 hands fr):=s4
  have s5:=s4.push [[.int .i64 v.kind,.int .i64 v.n,wv]]
  have t5:=s4.push [zR3]
  have z5:=(t5.cell 3 rfl).1
  have z6:=(t5.cell 2 rfl).1
  have y7:=(s5.cell 1 rfl).1
  have y0:=(s5.cell 0 rfl).1
  have y5:=(s5.cell 3 rfl).1
  have y6:=(s5.cell 2 rfl).1
  have dd1:decide (x.op=1)=false:=decide_eq_false (by omega)
  have dd2:decide (x.op=2)=false:=decide_eq_false (by omega)
  have dd3:decide (x.op=3)=false:=decide_eq_false (by omega)
  have dd4:decide (x.op=4)=false:=decide_eq_false (by omega)
  have dd21:decide (x.op=21)=false:=decide_eq_false (by omega)
  have dd5:decide (x.op=5)=false:=decide_eq_false (by omega)
  have dd7:decide (x.op=7)=true:=decide_eq_true (by omega)
  by_cases hk4:k4=0
  rotate_left
  ·rw[if_pos hk4]
   have dk4:decide (k4=0)=false:=decide_eq_false hk4
   refine⟨_,_,?_,aL,(s5.set 1 rfl [zR3]).drop.drop.drop.drop⟩
   refine ag gY rfl ?_;unfold gF
   simp only[sim,af,θ,ξ,η,reduceCtorEq,ψ,ω,aa,au,oa,ox,oX,c0,c5,c6,c7,dl,w1,hH,b0,b5,b6,b7,Int.reduceEq,decide_false,decide_true,ap,aA,aq,az,aw,aE,dd1,dd2,dd3,dd4,dd21,dd5,dd7,ia,la,lra,e4,z5,z6,ov,y7,y0,y5,y6,dk4]
   rfl
  subst hk4
  rw[if_neg (fun h=>h rfl)]
  by_cases hv1:v.kind=1
  rotate_left
  ·rw[if_pos hv1]
   have dv1:decide (v.kind=1)=false:=decide_eq_false hv1
   refine⟨_,_,?_,aL,(s5.set 1 rfl [zR3]).drop.drop.drop.drop⟩
   refine ag gY rfl ?_;unfold gF
   simp only[sim,af,θ,ξ,η,reduceCtorEq,ψ,ω,aa,au,oa,ox,oX,c0,c5,c6,c7,dl,w1,hH,b0,b5,b6,b7,Int.reduceEq,decide_false,decide_true,ap,aA,aq,az,aw,aE,dd1,dd2,dd3,dd4,dd21,dd5,dd7,ia,la,lra,e4,z5,z6,ov,y7,y0,y5,y6,dv1]
   rfl
  rw[if_neg (fun h=>h hv1)]
  have dv1:decide (v.kind=1)=true:=decide_eq_true hv1
  have hle4:=ok4.1.left
  have hmu4:=ok4.1.mu
  simp only at hle4 hmu4
  have o4':OkG ms S4:=ot.of ok4.1.good (by omega)
  by_cases hvn:v.n=0
  ·rw[if_neg (fun h=>h hvn)]
   have dvn:decide (v.n=0)=true:=decide_eq_true hvn
   obtain⟨h8,r8,e8,v8,s8⟩:=zL (A:=[ah h4.n [[.int .i64 v.kind,.int .i64 v.n,wv]],ah (h.n+1+1) [zR3],ah (h.n+1) [ra],ah h.n [xR x.op x.k x.n xv]]) s5 ih (by omega) o4' (fitS fd fit.nm (by omega)) hfr qd2 va hs hv
   have q8:=(s8.cell 1 rfl).1
   have o8:=v8.len3
   generalize ofD ms N p d arg names fr S4=Q at*
   refine⟨_,_,?_,v8,(s8.set 1 rfl [r8]).drop.drop.drop.drop⟩
   refine ag gY rfl ?_;unfold gF
   simp only[sim,af,θ,ξ,η,reduceCtorEq,ψ,ω,aa,au,oa,ox,oX,c0,c5,c6,c7,dl,w1,hH,b0,b5,b6,b7,Int.reduceEq,decide_false,decide_true,ap,aA,aq,az,aw,aE,dd1,dd2,dd3,dd4,dd21,dd5,dd7,ia,la,lra,e4,z5,z6,ov,y7,y0,y5,y6,dv1,dvn,id,ld,e8,q8,o8]
  ·rw[if_pos hvn]
   have dvn:decide (v.n=0)=false:=decide_eq_false hvn
   obtain⟨h8,r8,e8,v8,s8⟩:=zL (A:=[ah h4.n [[.int .i64 v.kind,.int .i64 v.n,wv]],ah (h.n+1+1) [zR3],ah (h.n+1) [ra],ah h.n [xR x.op x.k x.n xv]]) s5 ih (by omega) o4' (fitS fb fit.nm (by omega)) hfr qb2 va hs hv
   have q8:=(s8.cell 1 rfl).1
   have o8:=v8.len3
   generalize ofD ms N p b arg names fr S4=Q at*
   refine⟨_,_,?_,v8,(s8.set 1 rfl [r8]).drop.drop.drop.drop⟩
   refine ag gY rfl ?_;unfold gF
   simp only[sim,af,θ,ξ,η,reduceCtorEq,ψ,ω,aa,au,oa,ox,oX,c0,c5,c6,c7,dl,w1,hH,b0,b5,b6,b7,Int.reduceEq,decide_false,decide_true,ap,aA,aq,az,aw,aE,dd1,dd2,dd3,dd4,dd21,dd5,dd7,ia,la,lra,e4,z5,z6,ov,y7,y0,y5,y6,dv1,dvn,ib,lb,e8,q8,o8]
 rw[if_neg o7]
 have fall:=jf o5 f5
 have dd1:decide (x.op=1)=false:=decide_eq_false (by omega)
 have dd2:decide (x.op=2)=false:=decide_eq_false (by omega)
 have dd3:decide (x.op=3)=false:=decide_eq_false (by omega)
 have dd4:decide (x.op=4)=false:=decide_eq_false (by omega)
 have dd21:decide (x.op=21)=false:=decide_eq_false (by omega)
 have dd5:decide (x.op=5)=false:=decide_eq_false (by omega)
 have dd7:decide (x.op=7)=false:=decide_eq_false (by omega)
 have hXl:x.l.length≤1000:=by
  have:bh x.op≤1000:=by unfold bh;repeat' split<;>omega
  omega
 have s3':St h F J H (dC tV .nils []::ofL h.n (h.n+1) (h.n+1+1) (xR x.op x.k x.n xv) ra c e ms S.tick hands fr):=s3.add (ab.refl _) (.inl ⟨⟨rfl,rfl⟩,fun _ h=>h,fun _ h=>h⟩) (fun _ h=>h.elim) (fun _ h=>h.elim)
 have lp:=UL (c:=c) (e:=e) (hands:=hands) (fr:=fr) (op:=x.op) (k:=x.k) (n:=x.n) ih hfr hx hX hXl fall fit.p0 fit.p4 fit.arg fit.nm va hs hv h.n (h.n+1) (h.n+1+1) .junk .junk .junk .junk .junk (.bool false) (.int .i64 x.op) (.bool false) (.bool false) (.bool false) (.bool false) (.bool false) (.bool false) .junk (.bool false) .junk .junk .junk x.l [] H S.tick .nils [] [] (.int .i64 0) .junk .junk .junk .junk rfl hl1 ot hln rfl rfl s3'
 have okL:=BZ (f:=fun y S=>ofD ms N p y arg names fr S) (fun y S h=>fk ms N p y arg names fr S h fit.arg fit.nm) x.l S.tick [] ot.st (by simp)
 have hlen:=Cj (f:=fun y S=>ofD ms N p y arg names fr S) x.l S.tick []
 simp only[List.length_nil,Int.natCast_zero]at lp
 generalize evL (fun y S=>ofD ms N p y arg names fr S) x.l S.tick []=Q at*
 obtain⟨S4,vs,k4⟩:=Q
 simp only at lp okL hlen ⊢
 obtain⟨g1,g2,g3,g4⟩:=okL
 rcases lp with⟨rfl,h4,acc,ar,w15,w16,w17,w31,w32,r4,v4,s4⟩ | ⟨hk4,h4,acc,ar,w15,w16,w17,w31,w32,r4,s4⟩
 rotate_left
 ·rw[if_pos hk4]
  have q7:=(s4.cell 1 rfl).1
  refine⟨_,_,?_,aL,s4.drop.drop.drop.drop⟩
  refine ag gY rfl ?_;unfold gF
  simp only[sim,af,θ,ξ,η,reduceCtorEq,ψ,ω,aa,au,oa,ox,oX,c0,c5,c6,c7,dl,w1,hH,b0,b5,b6,b7,Int.reduceEq,decide_false,decide_true,ap,aA,aq,az,aw,aE,dd1,dd2,dd3,dd4,dd21,dd5,dd7]
  rw[r4]
  simp only[sim,af,θ,ξ,η,reduceCtorEq,ψ,ω,aa,q7]
  rfl
 rw[if_neg (fun h=>h rfl)]
 have hlen:=hlen rfl
 simp only[List.length_nil,Nat.zero_add]at hlen g4
 have vc:=(g4 trivial).1
 have o4:OkG ms S4:=ot.of g1 g2
 have fg:SlA tV acc ar:=by
  obtain⟨F1,J1,z⟩:=s4.get 0 rfl
  exact AY z
 have q7:=(s4.cell 1 rfl).1
 have q5:=(s4.cell 3 rfl).1
 suffices key:∀ Q:StD×VD×Int,(∀ F J,(bj (goL c e ms S4 hands fr)).A h4 F J→GoR Az h4 F J c e ms hands fr [.ptr e 0 0,.int .i64 p,.agg (xR x.op x.k x.n xv),acc] Q)→
   GoR fOf h F J c e ms hands fr [.ptr e 0 0,.int .i64 p,.agg [.int .i64 x.op,.int .i64 x.k,.int .i64 x.n,xv],.agg ra,nv] Q by
  by_cases o18:x.op=18
  ·rw[if_pos o18]
   have hp1:bh x.op=1:=by rw[o18];rfl
   have vs1:vs.length=1:=by omega
   obtain⟨a,rfl⟩:∃ a,vs=[a]:=by
    match vs,vs1 with
    | [a],_=>exact⟨a,rfl⟩
   have hk:=EI (by rw[←o18];exact f3)
   obtain⟨P,rfl⟩:=Int.eq_ofNat_of_zero_le fit.p0
   have hP:P<4:=by have:=fit.p4;omega
   obtain⟨K,hK⟩:=Int.eq_ofNat_of_zero_le hk.1
   obtain⟨M,hM⟩:∃ M,ms[P]? =some M:=⟨ms[P]'(by rw[o.m4];exact hP),List.getElem?_eq_getElem _⟩
   have hget:ms.getD (P:Int).toNat none=M:=by rw[Int.toNat_natCast,List.getD,hM];rfl
   cases M with
   | none=>
     have:(bQ ms (P:Int)).length=0:=by unfold bQ;rw[hget];rfl
     omega
   | some M=>
     have hfun:bQ ms (P:Int)=M:=by unfold bQ;rw[hget];rfl
     have:=key (ji ms N P K a fr S4) fun F J z=>by
      rw[o18,hK]
      exact TZ z o4 ox fg.isL v4 ih (by omega) hP hM (by rw[hfun]at hk;omega) hfr (by omega) (vc a (by simp))
     rw[←hK]at this
     exact this
  rw[if_neg o18]
  by_cases o19:x.op=19
  ·rw[if_pos o19]
   have hp1:bh x.op=2:=by rw[o19];rfl
   obtain⟨a,b,rfl⟩:=yp (show vs.length=2 by omega)
   exact key (om ms N a b fr S4) fun F J z=>by
    rw[o19]
    exact T7 z o4 ox fg.isL v4 ih (by omega) hfr (by omega)
  rw[if_neg o19]
  exact key _ fun F J z=>Ou hlf o5 o7 o18 o19 f1 (by omega) vc fit.p0 fit.p4 z o4 ox fg v4
 intro Q hd
 obtain⟨h8,⟨r8,e8,v8⟩,s8⟩:=s4.callL (A:=[dC tV acc ar,ah (h.n+1+1) [zR3],ah (h.n+1) [ra],ah h.n [xR x.op x.k x.n xv]]) (M:=goL c e ms S4 hands fr) (B:=[]) (M':=goL c e ms Q.1 hands fr)
  (R:=fun h8=>∃ r8,aj Tryz.prog po Az [.ptr e 0 0,.int .i64 p,.agg (xR x.op x.k x.n xv),acc] h4=some (.inl (.tup [.agg r8,.int .i64 Q.2.2]),h8)∧VaA Q.2.1 r8) fun F J z=>by
   obtain⟨h8,r8,a1,a2,a3⟩:=hd F J z
   exact⟨h8,⟨r8,a1,a2⟩,a3⟩
 have s8:St h F J h8 (dC tV acc ar::ofL h.n (h.n+1) (h.n+1+1) (xR x.op x.k x.n xv) ra c e ms Q.1 hands fr):=s8
 have z7:=(s8.cell 1 rfl).1
 have o8:=v8.len3
 refine⟨_,_,?_,v8,(s8.set 1 rfl [r8]).drop.drop.drop.drop⟩
 refine ag gY rfl ?_;unfold gF
 simp only[sim,af,θ,ξ,η,reduceCtorEq,ψ,ω,aa,au,oa,ox,oX,c0,c5,c6,c7,dl,w1,hH,b0,b5,b6,b7,Int.reduceEq,decide_false,decide_true,ap,aA,aq,az,aw,aE,dd1,dd2,dd3,dd4,dd21,dd5,dd7]
 rw[r4]
 simp only[sim,af,θ,ξ,η,reduceCtorEq,ψ,ω,aa,au,q5,ox,e8,z7,o8]
end
abbrev PR:FuncId:=18
structure OkM (ms:aO) (S:StD):Prop where
 m4:ms.length=4
 g:nO ms
 st:S.Good
 log:S.log.length≤900000
section
variable {h h' h0:AH} {F J F0 J0:Nat→Prop} {L R:List Asn} {c:HmC} {ms:aO} {S:StD} {hands:List (List VD)} {fuel:Nat} {p f:Int} {arg:VD} {ra:List AV}
abbrev hmL (c:HmC) (ms:aO) (S:StD) (hands:List (List VD)):List Asn:=[eF c ms S hands,aW c.nb S.G]
def Wh (h:AH) (F J:Nat→Prop) (c:HmC) (ms:aO) (hands:List (List VD)) (a:List AV) (q:StD×VD×Int×Int):Prop:=
 ∃ h' r',aj Tryz.prog po PR a h=some (.inl (.tup [.agg r',.int .i64 q.2.2.1,.int .i64 q.2.2.2]),h')∧VaA q.2.1 r'∧Did h F J h' (bj (hmL c ms q.1 hands))
theorem Qr (x:(bj (hmL c ms S hands)).A h F J) (va:VaA arg ra) {fu:Int} (hb:fu<0∨2000<fu∨p<0∨4≤p):Wh h F J c ms hands [.ptr c.hb 0 0,.int .i64 p,.int .i64 f,.agg ra,.int .i64 fu] (S,aK,0,1):=by
 have oa:=va.len3
 have s2:St h F J _ (ah (h.n+1) [zR3]::ah h.n [ra]::hmL c ms S hands):=((St.start x).push [ra]).push [zR3]
 have c0:=(s2.cell 0 rfl).1
 refine⟨_,_,?_,aL,s2.drop.drop⟩
 by_cases h1:fu<0
 ·have d1:decide (fu<0)=true:=decide_eq_true h1
  refine ag jq rfl ?_;unfold iF
  simp only[sim,af,θ,ξ,η,reduceCtorEq,ψ,ω,aa,au,oa,c0,d1,ap,aA,aq,az]
 have d1:decide (fu<0)=false:=decide_eq_false h1
 by_cases h2:2000<fu
 ·have d2:decide (2000<fu)=true:=decide_eq_true h2
  refine ag jq rfl ?_;unfold iF
  simp only[sim,af,θ,ξ,η,reduceCtorEq,ψ,ω,aa,au,oa,c0,d1,d2,ap,aA,aq,az]
 have d2:decide (2000<fu)=false:=decide_eq_false h2
 by_cases h3:p<0
 ·have d3:decide (p<0)=true:=decide_eq_true h3
  refine ag jq rfl ?_;unfold iF
  simp only[sim,af,θ,ξ,η,reduceCtorEq,ψ,ω,aa,au,oa,c0,d1,d2,d3,ap,aA,aq,az]
 have d3:decide (p<0)=false:=decide_eq_false h3
 have d4:decide (4≤p)=true:=decide_eq_true (by omega)
 refine ag jq rfl ?_;unfold iF
 simp only[sim,af,θ,ξ,η,reduceCtorEq,ψ,ω,aa,au,oa,c0,d1,d2,d3,d4,ap,aA,aq,az]
set_option maxRecDepth 100000 in
set_option maxHeartbeats 4000000 in
theorem QL (x:(bj (hmL c ms S hands)).A h F J) (o:OkM ms S) (va:VaA arg ra) (fu:Int):Wh h F J c ms hands [.ptr c.hb 0 0,.int .i64 p,.int .i64 f,.agg ra,.int .i64 fu] (dh ms p f arg fu S):=by
 unfold dh
 by_cases hb:fu<0∨2000<fu∨p<0∨4≤p
 ·rw[if_pos hb]
  exact Qr x va hb
 rw[if_neg hb]
 have d1:decide (fu<0)=false:=decide_eq_false (by omega)
 have d2:decide (2000<fu)=false:=decide_eq_false (by omega)
 have d3:decide (p<0)=false:=decide_eq_false (by omega)
 have d4:decide (4≤p)=false:=decide_eq_false (by omega)
 have oa:=va.len3
 have la:=bi oa.1
 have s2:St h F J _ (ah (h.n+1) [zR3]::ah h.n [ra]::hmL c ms S hands):=((St.start x).push [ra]).push [zR3]
 have c0:=(s2.cell 0 rfl).1
 have c1:=(s2.cell 1 rfl).1
 obtain⟨P,rfl⟩:=Int.eq_ofNat_of_zero_le (a:=p) (by omega)
 obtain⟨N,rfl⟩:=Int.eq_ofNat_of_zero_le (a:=fu) (by omega)
 have hP:P<4:=by omega
 obtain⟨lv0,kr,hv0,f0,hk⟩:=ct s2 2 rfl o.m4 o.st.kept
 obtain⟨M,hM⟩:∃ M,ms[P]? =some M:=⟨ms[P]'(by rw[o.m4];exact hP),List.getElem?_eq_getElem _⟩
 have hget:ms.getD (P:Int).toNat none=M:=by rw[Int.toNat_natCast,List.getD,hM];rfl
 have f3:aP 3 (.ptr c.hb 0 0)=some (.ptr c.hb 0 3):=rfl
 have ix:=fun q=>NP (b:=c.hb) q hP
 rw[hget]
 cases M with
 | none=>
   obtain⟨v0,m1⟩:=f0.non P hM
   have ldm:=f0.ldm (n:=1) m1
   rw[if_pos (.inl rfl)]
   refine⟨_,_,?_,aL,s2.drop.drop⟩
   refine ag jq rfl ?_;unfold iF
   simp only[sim,af,θ,ξ,η,reduceCtorEq,ψ,ω,aa,au,oa,c0,c1,d1,d2,d3,d4,f3,ix,ldm,ap,aA,aq,az]
 | some M=>
 obtain⟨q,v,es,m1,m2,m3,m4,m5⟩:=f0.mod P M hM
 have ldm:=f0.ldm (n:=1) m1
 have lq:aR false 1 ((h.push [ra]).push [zR3]) (.ptr q 0 0)=some v:=by rw[bP,m2];rfl
 have hfun:bQ ms (P:Int)=M:=by simp[bQ,List.getD,hM]
 have lM:eW v=some M.length:=by rw[←m5.len];exact m4.isL.len
 have fM:=m4.isL.fits
 rw[hfun]
 by_cases h6:f<0
 ·have d6:decide (f<0)=true:=decide_eq_true h6
  rw[if_pos (.inr (.inl h6))]
  refine⟨_,_,?_,aL,s2.drop.drop⟩
  refine ag jq rfl ?_;unfold iF
  simp only[sim,af,θ,ξ,η,reduceCtorEq,ψ,ω,aa,au,oa,c0,c1,d1,d2,d3,d4,d6,f3,ix,ldm,ap,aA,aq,az]
 have d6:decide (f<0)=false:=decide_eq_false h6
 by_cases h7:(M.length:Int)≤f
 ·have d7:decide ((M.length:Int)≤f)=true:=decide_eq_true h7
  rw[if_pos (.inr (.inr h7))]
  refine⟨_,_,?_,aL,s2.drop.drop⟩
  refine ag jq rfl ?_;unfold iF
  simp only[sim,af,θ,ξ,η,reduceCtorEq,ψ,ω,aa,au,oa,c0,c1,d1,d2,d3,d4,d6,d7,f3,ix,ldm,lq,lM,fM,ap,aA,aq,az]
 have d7:decide ((M.length:Int)≤f)=false:=decide_eq_false h7
 rw[if_neg (by simp only[Option.isNone_some,Bool.false_eq_true,false_or];omega)]
 have vf:=jY (h:=(h.push [ra]).push [zR3]) va
 by_cases hc:arg.code=0
 rotate_left
 ·rw[if_pos hc]
  have dc:decide (arg.code=0)=false:=decide_eq_false hc
  refine⟨_,_,?_,aL,s2.drop.drop⟩
  refine ag jq rfl ?_;unfold iF
  simp only[sim,af,θ,ξ,η,reduceCtorEq,ψ,ω,aa,au,oa,la,c0,c1,d1,d2,d3,d4,d6,d7,f3,ix,ldm,lq,lM,fM,vf,dc,ap,aA,aq,az]
 rw[if_neg (fun h=>h hc)]
 have dc:decide (arg.code=0)=true:=decide_eq_true hc
 obtain⟨K,rfl⟩:=Int.eq_ofNat_of_zero_le (a:=f) (by omega)
 have o2:OkG ms {S with left:=N}:=⟨o.m4,o.g,⟨o.st.wf,o.st.cells,o.st.kept,o.st.keptV⟩,by have:=o.log;unfold StD.mu;simp only;omega⟩
 have s3:St h F J _ (ah (h.n+1+1) [[.ptr c.hb 0 0,.int .i64 (N:Int),.int .i64 0]]::ah (h.n+1) [zR3]::ah h.n [ra]::hmL c ms S hands):=s2.push [[.ptr c.hb 0 0,.int .i64 (N:Int),.int .i64 0]]
 have s4:St h F J (((h.push [ra]).push [zR3]).push [[.ptr c.hb 0 0,.int .i64 (N:Int),.int .i64 0]]) ([ah (h.n+1) [zR3],ah h.n [ra]]++goL c (h.n+1+1) ms {S with left:=N} hands 0):=
  s3.imp fun _ _ _ y=>St.perm (List.Perm.symm (List.perm_middle (l₁:=[ah (h.n+1) [zR3],ah h.n [ra]]))) y
 obtain⟨h5,r5,e5,v5,s5⟩:=we (N:=N) s4 (Xw N) (Nat.le_refl _) o2 hP hM (K:=K) (by omega) (by omega) (by simp only;omega) hc va
 have ok5:=fk ms N P (dG ms P K) arg [] (0+1) {S with left:=N} o2.st hc (by simp)
 unfold ji at e5 v5 s5
 rw[if_neg (by omega)]at e5 v5 s5
 rw[Int.toNat_natCast]
 change ∃ h' r',_∧_∧_
 generalize ofD ms N P (dG ms P K) arg [] (0+1) {S with left:=N}=Q at*
 obtain⟨S5,w,k5⟩:=Q
 simp only at e5 v5 s5 ok5 ⊢
 have hle:=ok5.1.left
 simp only at hle
 have s6:St h F J h5 (ah (h.n+1) [zR3]::ah h.n [ra]::ah (h.n+1+1) [[.ptr c.hb 0 0,.int .i64 (S5.left:Int),.int .i64 ((0:Nat):Int)]]::hmL c ms S5 hands):=s5
 have s7:=s6.push [r5]
 have y0:=(s7.cell 0 rfl).1
 have y1:=(s7.cell 1 rfl).1
 have y3:=(s7.cell 3 rfl).1
 have o5:=v5.len3
 have w5:=w64 (n:=(N:Int) - (S5.left:Int)) (by omega) (by omega)
 have fin:∀ rr,Did h F J ((h5.push [r5]).set (h.n+1) (some [rr])) (bj (hmL c ms {S5 with left:=S.left} hands)):=fun rr=>(s7.set 1 rfl [rr]).drop.drop.drop.drop
 by_cases h5k:k5=0
 ·have dk:decide (k5=0)=true:=decide_eq_true h5k
  have y8:((h5.push [r5]).set (h.n+1) (some [r5])).cell (h.n+1+1)=some [[.ptr c.hb 0 0,.int .i64 (S5.left:Int),.int .i64 ((0:Nat):Int)]]:=((s7.set 1 rfl [r5]).cell 3 rfl).1
  have lr:=bi o5.1
  refine⟨_,r5,?_,by rw[if_pos h5k];exact v5,fin r5⟩
  rw[h5k]at e5 dk ⊢
  refine ag jq rfl ?_;unfold iF
  simp only[sim,af,θ,ξ,η,reduceCtorEq,ψ,ω,aa,au,oa,la,c0,c1,d1,d2,d3,d4,d6,d7,f3,ix,ldm,lq,lM,fM,vf,dc,e5,o5,y0,y1,y3,y8,lr,w5,dk,ap,aA,aq,az,aw,aE]
 ·have dk:decide (k5=0)=false:=decide_eq_false h5k
  have y8:((h5.push [r5]).set (h.n+1) (some [zR3])).cell (h.n+1+1)=some [[.ptr c.hb 0 0,.int .i64 (S5.left:Int),.int .i64 ((0:Nat):Int)]]:=((s7.set 1 rfl [zR3]).cell 3 rfl).1
  refine⟨_,zR3,?_,by rw[if_neg h5k];exact aL,fin zR3⟩
  refine ag jq rfl ?_;unfold iF
  simp only[sim,af,θ,ξ,η,reduceCtorEq,ψ,ω,aa,au,oa,la,c0,c1,d1,d2,d3,d4,d6,d7,f3,ix,ldm,lq,lM,fM,vf,dc,e5,o5,y0,y1,y3,y8,w5,dk,ap,aA,aq,az,aw,aE]
theorem Uq {i:Nat} (s:St h0 F0 J0 h L) (hi:L[i]? =some (eF c ms S hands)) (hj:L[i+1]? =some (aW c.nb S.G)) (o:OkM ms S) (va:VaA arg ra) (fu:Int):
  ∃ h' r',aj Tryz.prog po PR [.ptr c.hb 0 0,.int .i64 p,.int .i64 f,.agg ra,.int .i64 fu] h=some (.inl (.tup [.agg r',.int .i64 (dh ms p f arg fu S).2.2.1,.int .i64 (dh ms p f arg fu S).2.2.2]),h')∧VaA (dh ms p f arg fu S).2.1 r'∧St h0 F0 J0 h' ((L.set i (eF c ms (dh ms p f arg fu S).1 hands)).set (i+1) (aW c.nb (dh ms p f arg fu S).1.G)):=by
 have hl:i+1<L.length:=(List.getElem?_eq_some_iff.1 hj).1
 have e1:L=L.take i++hmL c ms S hands++L.drop (i+2):=by
  have a1:L[i]'(by omega)=eF c ms S hands:=(List.getElem?_eq_some_iff.1 hi).2
  have a2:L[i+1]=aW c.nb S.G:=(List.getElem?_eq_some_iff.1 hj).2
  have:=List.take_append_drop i L
  rw[List.drop_eq_getElem_cons (by omega),a1,List.drop_eq_getElem_cons hl,a2]at this
  rw[List.append_assoc]
  exact this.symm
 have s':St h0 F0 J0 h (L.take i++hmL c ms S hands++L.drop (i+2)):=by rw[←e1];exact s
 obtain⟨h',⟨r',a1,a2⟩,s2⟩:=s'.callL (R:=fun h'=>∃ r',aj Tryz.prog po PR [.ptr c.hb 0 0,.int .i64 p,.int .i64 f,.agg ra,.int .i64 fu] h=some (.inl (.tup [.agg r',.int .i64 (dh ms p f arg fu S).2.2.1,.int .i64 (dh ms p f arg fu S).2.2.2]),h')∧VaA (dh ms p f arg fu S).2.1 r') (M':=hmL c ms (dh ms p f arg fu S).1 hands) fun F J x=>by
  obtain⟨h',r',b1,b2,b3⟩:=QL (p:=p) (f:=f) x o va fu
  exact⟨h',⟨r',b1,b2⟩,b3⟩
 refine⟨h',r',a1,a2,?_⟩
 have e2:(L.set i (eF c ms (dh ms p f arg fu S).1 hands)).set (i+1) (aW c.nb (dh ms p f arg fu S).1.G)=L.take i++hmL c ms (dh ms p f arg fu S).1 hands++L.drop (i+2):=by
  unfold hmL
  generalize eF c ms (dh ms p f arg fu S).1 hands=X
  generalize aW c.nb (dh ms p f arg fu S).1.G=Y
  rw[List.append_assoc]
  refine List.ext_getElem? fun j=> ?_
  rw[List.getElem?_set,List.getElem?_set,List.length_set]
  by_cases h1:i+1=j
  ·subst h1
   rw[if_pos rfl,if_pos hl,List.getElem?_append_right (by rw[List.length_take];omega),List.length_take,Nat.min_eq_left (by omega),show i+1 - i=1 by omega]
   rfl
  ·rw[if_neg h1]
   by_cases h2:i=j
   ·subst h2
    rw[if_pos rfl,if_pos (by omega),List.getElem?_append_right (by rw[List.length_take];omega),List.length_take,Nat.min_eq_left (by omega),Nat.sub_self]
    rfl
   ·rw[if_neg h2]
    by_cases h3:j<i
    ·rw[List.getElem?_append_left (by rw[List.length_take];omega),List.getElem?_take,if_pos h3]
    ·rw[List.getElem?_append_right (by rw[List.length_take];omega),List.length_take,Nat.min_eq_left (by omega),List.getElem?_append_right (by simp only[List.length_cons,List.length_nil];omega),List.getElem?_drop]
     have:i+2+(j - i - [X,Y].length)=j:=by simp only[List.length_cons,List.length_nil];omega
     rw[this]
 rw[e2]
 exact s2
end
def Pj (xs:List iO):StD:=⟨Ch G0 xs,iM,[],nN,0⟩
theorem Lu (xs:List iO):(Pj xs).Good:=⟨LN HS,rfl,rfl,fun v hv=>by
 have:v=aK:=by simpa[Pj]using hv
 rw[this];exact jh⟩
theorem De {Ms:List (List XD)} (h:yO Ms=false):Ms.length≤100000∧∀ M∈Ms,M.length≤100000∧∀ x∈M,x.size≤100000:=by
 unfold yO at h
 simp only[Bool.or_eq_false_iff,decide_eq_false_iff_not]at h
 obtain⟨h1,h2⟩:=h
 refine⟨by omega,fun M hM=> ?_⟩
 have:jg M=false:=by
  cases hg:jg M with
  | false=>rfl
  | true=>
    have:Ms.any jg=true:=List.any_eq_true.2 ⟨M,hM,hg⟩
    rw[this]at h1;cases h1
 obtain⟨q1,q2⟩:=Tv this
 exact⟨by omega,fun x hx=>by have:=q2 x hx;omega⟩
section
variable {h:AH}
end
theorem aah:(Tryz.prog).underlying 22=some (.slice 80):=by kernel_rfl
theorem Yq:ns Tryz.prog 37=some [3,3,3,35]:=by kernel_rfl
theorem Js:∀ {es:List (List AV)},(∀ r∈es,∃ L,NV L r)→∃ Ms,tR Ms es
 | [],_=>⟨[],rfl⟩
 | r::es,h=>by
   obtain⟨L,hL⟩:=h r (by simp)
   obtain⟨Ms,hm⟩:=Js fun q hq=>h q (List.mem_cons_of_mem _ hq)
   exact⟨L::Ms,r,es,rfl,hL,hm⟩
theorem Ua {n:Nat} {av:AV} (h:TyA Tryz.prog n 22 [av]):∃ (es:List (List AV)) (Ms:List (List XD)),SlA tMo av es∧tR Ms es∧Ms.length≤9223372036854775807:=by
 obtain⟨m,v,es,rfl,e,hv,hlen,hr⟩:=ub aah h
 obtain rfl:av=v:=by simpa using e
 obtain⟨Ms,hm⟩:=Js (es:=es) fun r hr'=>XW (hr r hr').2
 refine⟨es,Ms,hv.sla,hm,?_⟩
 rw[←hm.len]
 unfold maxLen at hlen
 omega
theorem Vw {n:Nat} {r:List AV} (h:TyA Tryz.prog n 37 r):∃ (p f fuel:Int) (v:VD) (q:List AV),r=[.int .i64 p,.int .i64 f,.int .i64 fuel]++q∧VaA v q:=by
 obtain⟨m2,rfl,parts,rfl,hl,hf⟩:=mc Yq h
 obtain⟨p0,a0,_,b0⟩:=hf 0 _ rfl
 obtain⟨p1,a1,_,b1⟩:=hf 1 _ rfl
 obtain⟨p2,a2,_,b2⟩:=hf 2 _ rfl
 obtain⟨p3,a3,_,b3⟩:=hf 3 _ rfl
 obtain⟨z0,rfl,_⟩:=iV uh b0
 obtain⟨z1,rfl,_⟩:=iV uh b1
 obtain⟨z2,rfl,_⟩:=iV uh b2
 obtain⟨x,hx,_⟩:=Zn _ _ b3
 obtain⟨c0,c1,c2,c3,rfl⟩:=VP hl
 obtain rfl:=Option.some.inj a0
 obtain rfl:=Option.some.inj a1
 obtain rfl:=Option.some.inj a2
 obtain rfl:=Option.some.inj a3
 exact⟨z0,z1,z2,x,c3,by simp only[List.flatten_cons,List.flatten_nil,List.append_nil,List.cons_append,List.nil_append],hx⟩
def Th:List TypeId:=[3,2,109,78,80,22]
theorem Me:sf Tryz.prog Th=true:=by kernel_rfl
def Pq:List TypeId:=[3,116,23]
theorem LK:sf Tryz.prog Pq=true:=by kernel_rfl
def ZF:List XD:=[.mk 13 0 0 [.mk 3 0 0 []]]
def hb1:Vh:=⟨1,1,0,0,0,0,0,0,ZF⟩
def hb2:Vh:=⟨2,1,0,3,0,1, -1,0,[]⟩
def hb3:Vh:=⟨4,1,0,0,0,0,0,0,[]⟩
section
variable {h h' h0:AH} {F J F0 J0:Nat→Prop} {L A B:List Asn} {c:HoC} {H:HoD}
end
structure W8 where
 (plugin cell rights:Int)
structure WaD where
 H:HoD
 gifts:List W8
 links:List (Int×Int)
 (code at_ n:Int)
section
variable {h h' h0:AH} {F J F0 J0:Nat→Prop} {L:List Asn} {c:HoC} {H:HoD}
theorem Fe {log:List eO}:∀ r∈log.map dR,r.all AV.one=true∧r.all oo=true:=fun r hr=>by
 obtain⟨e,_,rfl⟩:=List.mem_map.1 hr
 exact⟨rfl,rfl⟩
theorem Gp (id:Option Nat) (rows:List (List AV)) (hf:∀ r∈rows,r.all AV.one=true∧r.all oo=true) (hl:rows.length≤1000000):
  aj Tryz.prog po 52 [.isl id tEn rows] h=some (.inl (.isl none tEn rows),h):=by
 refine ag Ar rfl ?_;unfold tj
 have e1:aQ false tEn (.isl (some h.ids) tEn []) (.isl id tEn rows) (h.fresh 0)=some (.isl (some h.ids) tEn rows,if rows.length=0 then h.fresh 0 else(h.fresh 0).grow h.ids rows.length):=by
  simp only[aQ,cE,if_true,Option.bind_some]
  by_cases hz:rows.length=0
  ·simp[hz,pb,List.length_eq_zero_iff.1 hz]
  ·rw[if_neg hz,if_neg hz]
   unfold eS
   rw[if_pos ⟨by omega,by omega,by rw[List.all_eq_true];exact fun r hr=>(hf r hr).1⟩]
   simp[sc]
 have hg:ab h (if rows.length=0 then h.fresh 0 else(h.fresh 0).grow h.ids rows.length):=by
  split
  ·exact ab.fresh h 0
  ·exact(ab.fresh h 0).grow (Nat.le_refl _)
 have hw:wkA (.isl (some h.ids) tEn rows)=some (.isl none tEn rows):=by
  simp only[wkA,kE fun r hr=>(hf r hr).2,Option.map_some]
 simp only[sim,af,θ,ξ,η,reduceCtorEq,ψ,ω,aa,e1,aI hg hw]
theorem GO:aj Tryz.prog po 52 [.nils] h=some (.inl .nils,h):=by
 refine ag Ar rfl ?_;unfold tj
 simp only[sim,af,θ,ξ,η,reduceCtorEq,ψ,ω,aa]
 exact aI (ab.refl h) rfl
theorem TE (s:St h0 F0 J0 h L) (i:Nat) {wb:Nat} {cells:List Int} {log:List eO} (hi:L[i]? =some (bE wb cells log)) (hc:cells.length=12) (hn:log.length≤1000000):aj Tryz.prog po 17 [.ptr wb 0 0] h=some (.inl (ge tEn (log.map dR)),h):=by
 obtain⟨F,J,x⟩:=s.get i hi
 obtain⟨v,s1⟩:=nd x
 have cw:=(s1.cell 0 rfl).1
 have c12:=(mH (v:=v) hc (j:=0) (by decide)).2.1
 have ld:∀ n,aR false n h (.ptr wb 0 12)=some v:=fun n=>by rw[bP,cw];exact c12
 have f12:aP 12 (.ptr wb 0 0)=some (.ptr wb 0 12):=rfl
 obtain⟨F1,J1,x1⟩:=s1.get 1 rfl
 rcases x1 with⟨⟨e1,rfl⟩,_⟩ | ⟨id,⟨e1,rfl⟩,_⟩
 ·rw[e1]
  refine ag Jy rfl ?_;unfold CJ
  simp only[sim,af,θ,ξ,η,reduceCtorEq,ψ,ω,aa,f12,ld,GO]
  exact aI (ab.refl h) rfl
 ·have hcl:=Gp (h:=h) (some id) (log.map dR) Fe (by simpa using hn)
  have hw:wkA (.isl none tEn (log.map dR))=some (ge tEn (log.map dR)):=by
   simp only[wkA,kE fun r hr=>(Fe r hr).2,Option.map_some,ge,if_neg e1]
  refine ag Jy rfl ?_;unfold CJ
  simp only[sim,af,θ,ξ,η,reduceCtorEq,ψ,ω,aa,f12,ld,hcl,aI (ab.refl h) hw]
theorem LJ (s:St h0 F0 J0 h L) (i:Nat) {wb:Nat} {cells:List Int} {log:List eO} (hi:L[i]? =some (bE wb cells log)) (hc:cells.length=12):aj Tryz.prog po 21 [.ptr wb 0 0] h=some (.inl (.isl none tL (cells.map fun x=>[.int .i64 x])),h):=by
 obtain⟨F,J,x⟩:=s.get i hi
 obtain⟨v,s1⟩:=nd x
 exact G9 (s1.cell 0 rfl).1 hc
variable {lv:AV} {b4 b5 b10:Nat} {hs ks:List AV}
end
structure WaC extends HoC where
 wt:Nat
section
variable {h h' h0:AH} {F J F0 J0:Nat→Prop} {L:List Asn} {b hb:Nat} {gs:List W8} {ls:List (Int×Int)} {cd at_ n:Int}
end
abbrev WA:=List (Vh×EvD)
section
variable {d:WA} {own:Int→Int}
end
section
variable {d:WA} {own:Int→Int} {H:HoD}
end
def fQ:List RS:=[(.ops [bm,ay,Ih,Bh]),(.cond (.v 5) [] [(.exit 0)]),(.block 1 [(.ops [ay,bm,R4,fC,bk,bm,R4,fC,(.i (.v 6) (.binG .agg (some [(.int .i64),(.int .i64),(.int .i64),(.int .i64)]) false .neq (.l 4) (.l 0)))]),(.cond (.v 6) [d9,.ret] [])]),qG]
def pi:List RS:=[d9,(.ops [ay,Ih,bk,Ih,BA]),(.cond (.v 4) [d9,.ret] []),g8,(.block 0 [(.loop fQ)]),qD,.ret]
theorem yY:FnR Tryz.prog po 16 2 7 [0,1,4,5,10,14,25] pi [(.v 2)] true:=by refine⟨_,_,Tryz.func16,rfl,rfl,?_,?_,?_,?_,?_⟩<;>kernel_rfl
abbrev tCl:TypeId:=37
structure AU where
 (p f fuel:Int)
 v:VD
def Zk (c:AU) (r:List AV):Prop:=∃ q0 q1 q2,r=[.int .i64 c.p,.int .i64 c.f,.int .i64 c.fuel,q0,q1,q2]∧VaA c.v [q0,q1,q2]
def Qq (cs:List AU) (rows:List (List AV)):Prop:=rows.length=cs.length∧∀ (i:Nat) (c:AU),cs[i]? =some c→∃ r,rows[i]? =some r∧Zk c r
theorem KW:∀ {es:List (List AV)},(∀ r∈es,∃ c,Zk c r)→∃ cs,Qq cs es
 | [],_=>⟨[],rfl,fun i c h=>by simp at h⟩
 | r::es,h=>by
   obtain⟨c,hc⟩:=h r (by simp)
   obtain⟨cs,h1,h2⟩:=KW fun q hq=>h q (List.mem_cons_of_mem _ hq)
   refine⟨c::cs,by simp[h1],fun i d hi=> ?_⟩
   cases i with
   | zero=>
     obtain rfl:c=d:=by simpa using hi
     exact⟨r,rfl,hc⟩
   | succ i=>exact h2 i d (by simpa using hi)
structure Z4 (ms:aO):Prop where
 len:ms.length=4
 g:nO ms
 z:kM ms
section
variable {h h' h0:AH} {F J F0 J0:Nat→Prop} {L:List Asn}
theorem PB {v:VD} (h:v.great=false):v.size≤100000:=by
 unfold VD.great at h
 simp only[decide_eq_false_iff_not]at h
 omega
theorem Yz (n:eO):eJ [.int .i64,.int .i64,.int .i64,.int .i64] (dR n) (dR n)=some true:=by
 unfold dR
 simp only[eJ,if_true,Option.map_some,Bool.and_true,beq_self_eq_true]
theorem T4 (n:eO) (kd:Kd) (cy:Bool):ma kd (some [.int .i64,.int .i64,.int .i64,.int .i64]) cy .neq (.agg (dR n)) (.agg (dR n))=some (.bool false):=by
 simp only[ma,Option.bind_some,Yz,Option.map_some,Bool.not_true]
theorem u9 {es:List eO} {v w:AV} (hv:IsL tEn v (es.map dR)) (hw:IsL tEn w (es.map dR)) (hl:es.length≤1000000):aj Tryz.prog po 16 [v,w] h=some (.inl (.bool true),h):=by
 have lp:∀ (l pre:List eO) (v4 v5 v6:AV),es=pre++l→∃ w3 w5 w6,∀ K,aC (aj Tryz.prog po) 7 (.lp fQ:: .ss []:: .blk 0::K) [v,w,.bool false,.int .i64 (pre.length:Int),v4,v5,v6] [] h=aC (aj Tryz.prog po) 7 K [v,w,.bool false,w3,v4,w5,w6] [] h:=by
  intro l
  induction l with
  | nil=>
    intro pre v4 v5 v6 e
    have d1:decide ((pre.length:Int)<(es.length:Int))=false:=decide_eq_false (by rw[e];simp)
    refine⟨.int .i64 (pre.length:Int),.bool false,v6,fun K=> ?_⟩
    rw[aG fQ.eq_1]
    simp only[sim,af,θ,ξ,η,reduceCtorEq,ψ,ω,aa,hv.len,hv.fits,List.length_map,d1]
  | cons x l ih=>
    intro pre v4 v5 v6 e
    have hpl:pre.length<es.length:=by rw[e];simp
    have d1:decide ((pre.length:Int)<(es.length:Int))=true:=decide_eq_true (by omega)
    have ix:=hv.ix .i64 pre.length (dR x) (by rw[e];simp)
    have iy:=hw.ix .i64 pre.length (dR x) (by rw[e];simp)
    have la:ldA true 4 (dR x) 0=some (.agg (dR x)):=bi rfl
    have w1:=w64 (n:=(pre.length:Int)+1) (by omega) (by omega)
    have ek:((pre++[x]).length:Int)=(pre.length:Int)+1:=by simp
    obtain⟨w3,w5,w6,r⟩:=ih (pre++[x]) v4 (.bool true) (.bool false) (by simp[e])
    refine⟨w3,w5,w6,fun K=> ?_⟩
    rw[←r K,ek]
    conv=>lhs;rw[aG fQ.eq_1]
    simp only[sim,af,θ,ξ,η,reduceCtorEq,ψ,ω,aa,hv.len,hv.fits,hw.fits,List.length_map,d1,ix,iy,la,T4,w1]
 obtain⟨w3,w5,w6,r⟩:=lp es [] (.bool false) .junk .junk rfl
 have hq:decide ((es.length:Int)=(es.length:Int))=true:=decide_eq_true rfl
 simp only[List.length_nil,Int.natCast_zero]at r
 refine ag yY rfl ?_;unfold pi
 simp only[sim,af,θ,ξ,η,reduceCtorEq,ψ,ω,aa,hv.len,hv.fits,hw.len,hw.fits,List.length_map,hq,Bool.not_true]
 rw[r]
 simp only[sim,af,θ,ξ,η,reduceCtorEq,ψ,ω,aa]
end
abbrev bxN (c:HmC) (msh:aO) (Sh:StD) (cb:BxC) (Sb:StD) (L:List Asn):List Asn:=eF c msh Sh Dp::aW c.nb Sh.G::ei cb.bb cb.gb cb.wb cb.ms Sb.kept::aW cb.gb Sb.G::bE cb.wb Sb.cells Sb.log::L
section
variable {h h' h0:AH} {F J F0 J0:Nat→Prop} {L:List Asn}
set_option maxHeartbeats 1000000 in
theorem GI {mv lv:AV} {rows:List (List AV)} {Ms:List (List XD)} (hm:SlA tMo mv rows) (hl:tR Ms rows) (hml:Ms.length≤100000) (hgr:∀ M∈Ms,M.length≤100000∧∀ x∈M,x.size≤100000) {hb nb bb gb wb:Nat} (K:List RK):∀ (d p:Nat) (h':AH) (c:HmC) (w2 w3 v7 v8 v9 v10 v11 v12:AV),p+d=4→c.hb=hb→c.nb=nb→St h0 F0 J0 h' (bxN c (dN Ms p) (i4 0) ⟨bb,gb,wb,dN Ms p⟩ (i4 0) L)→
  ∃ h'' c' w6 w7 w8 w10 w11,aC (aj Tryz.prog po) 13 (.lp ic:: .ss []:: .blk 0::K) [mv,lv,w2,w3,.ptr bb 0 0,.ptr hb 0 0,.int .i64 (p:Int),v7,v8,v9,v10,v11,v12] [] h'=aC (aj Tryz.prog po) 13 K [mv,lv,w2,w3,.ptr bb 0 0,.ptr hb 0 0,w6,w7,w8,v9,w10,w11,v12] [] h''∧
    c'.hb=hb∧c'.nb=nb∧St h0 F0 J0 h'' (bxN c' (dN Ms 4) (i4 0) ⟨bb,gb,wb,dN Ms 4⟩ (i4 0) L):=by
 have hll:=hl.len
 intro d
 induction d with
 | zero=>
   intro p h' c w2 w3 v7 v8 v9 v10 v11 v12 hp q1 q2 s
   obtain rfl:p=4:=by omega
   refine⟨h',c,.int .i64 4,v7,v8,.bool false,v11,?_,q1,q2,s⟩
   have h4:((4:Nat):Int)=4:=rfl
   rw[aG ic.eq_1]
   by_cases hlt:(4:Int)<(Ms.length:Int)
   ·simp only[sim,af,θ,ξ,η,reduceCtorEq,ψ,ω,aa,h4,hm.isL.len,hm.isL.fits,hll,hlt,Int.lt_irrefl]
   ·simp only[sim,af,θ,ξ,η,reduceCtorEq,ψ,ω,aa,h4,hm.isL.len,hm.isL.fits,hll,hlt,Int.lt_irrefl]
 | succ d ih=>
   intro p h' c w2 w3 v7 v8 v9 v10 v11 v12 hp z1 z2 s
   have hp4:(p:Int)<4:=by omega
   by_cases hlt:p<Ms.length
   ·have hlt':(p:Int)<(Ms.length:Int):=by omega
    have hM:Ms[p]? =some Ms[p]:=List.getElem?_eq_getElem hlt
    have hMm:=List.getElem_mem hlt
    generalize Ms[p]=M at hM hMm
    obtain⟨r,q1,v,es,rfl,q3,q4⟩:=hl.get hM
    have ix:=hm.isL.ix .i64 p _ q1
    have mm:∀ h,gk h v M:=fun h=>gk.of q3 q4
    have ov:=(mm h').one
    have w:=w64 (n:=(p:Int)+1) (by omega) (by omega)
    have e2:((p+1:Nat):Int)=(p:Int)+1:=by omega
    obtain⟨g1,g2⟩:=hgr M hMm
    have mk:=A0 (h:=h') q3 q4 mm g1 g2
    unfold ul at mk
    have s1:=s.push [[.int .i64 (aU M).1,.int .i64 (aU M).2]]
    have c1:=(s1.cell 0 rfl).1
    have e:nN.set p aK=nN:=by
     have:p=0∨p=1∨p=2∨p=3:=by omega
     rcases this with rfl | rfl | rfl | rfl<;>rfl
    by_cases hz:(aU M).1=0
    ·have dz:decide ((aU M).1=0)=true:=decide_eq_true hz
     rw[if_pos hz]at mk
     obtain⟨f1,f2,f3⟩:=fj M
     have f4:(dY M).cells=[dY M]:=by unfold dY;rfl
     obtain⟨h2,e5,s2⟩:=E6 s1 (i:=3) rfl (by rw[df];rfl) (p:=p) (by rw[df];omega) (M:=M) aL
     have s2:St h0 F0 J0 h2 (ah h'.n [[.int .i64 (aU M).1,.int .i64 (aU M).2]]::bxN c (dN Ms p) (i4 0) ⟨bb,gb,wb,(dN Ms p).set p (some M)⟩ (i4 0) L):=by
      have s2:=s2
      rw[show(i4 0).kept.set p aK=nN from e]at s2
      exact s2
     obtain⟨h3,c',e6,y1,y2,y3,s3⟩:=yu s2 1 rfl (df Ms p) rfl (v:=v) (M:=M) (p:=p) (by omega) mm g1 g2
     rw[if_pos hz,←Mu (by omega) hM hz]at s3
     have s3:St h0 F0 J0 h3 (ah h'.n [[.int .i64 (aU M).1,.int .i64 (aU M).2]]::bxN c' (dN Ms (p+1)) (i4 0) ⟨bb,gb,wb,dN Ms (p+1)⟩ (i4 0) L):=by
      have s3:=s3
      rw[show(i4 0).kept.set p aK=nN from e]at s3
      unfold bxN
      rw[y2]
      exact s3
     obtain⟨h'',c'',w6,w7,w8,w10,w11,r1,r2,r3,r4⟩:=ih (p+1) h3 c' w2 w3 (dY M) (.ptr h'.n 0 0) v9 (.bool true) (.bool true) v12 (by omega) (y1.trans z1) (y2.trans z2) s3.drop
     refine⟨h'',c'',w6,w7,w8,w10,w11,?_,r2,r3,r4⟩
     rw[←r1,e2]
     rw[z1]at e6
     have ixb:∀ q:IntKind,bL none (some (4,5)) (.ptr bb 0 2) (.int q (p:Int))=some (.ptr bb 0 (2+p*5)):=fun q=>by simp[bL];omega
     have fb:aP 2 (.ptr bb 0 0)=some (.ptr bb 0 2):=rfl
     conv=>lhs;rw[aG ic.eq_1]
     simp only[sim,af,θ,ξ,η,reduceCtorEq,ψ,ω,aa,au,hm.isL.len,hm.isL.fits,hll,hlt',hp4,ix,ov,mk,c1,dz,f3,f4,ixb,fb,e5,e6,w]
    ·have dz:decide ((aU M).1=0)=false:=decide_eq_false hz
     rw[if_neg hz]at mk
     obtain⟨h3,c',e6,y1,y2,y3,s3⟩:=yu s1 1 rfl (df Ms p) rfl (v:=v) (M:=M) (p:=p) (by omega) mm g1 g2
     rw[if_neg hz]at s3
     have e7:dN Ms p=dN Ms (p+1):=(NL fun M' h'=>by rw[hM]at h';cases h';exact hz).symm
     have s3:St h0 F0 J0 h3 (ah h'.n [[.int .i64 (aU M).1,.int .i64 (aU M).2]]::bxN c' (dN Ms (p+1)) (i4 0) ⟨bb,gb,wb,dN Ms (p+1)⟩ (i4 0) L):=by
      unfold bxN
      rw[y2,←e7]
      exact s3
     obtain⟨h'',c'',w6,w7,w8,w10,w11,r1,r2,r3,r4⟩:=ih (p+1) h3 c' w2 w3 .nils (.ptr h'.n 0 0) v9 (.bool true) (.bool false) v12 (by omega) (y1.trans z1) (y2.trans z2) s3.drop
     refine⟨h'',c'',w6,w7,w8,w10,w11,?_,r2,r3,r4⟩
     rw[←r1,e2]
     rw[z1]at e6
     conv=>lhs;rw[aG ic.eq_1]
     simp only[sim,af,θ,ξ,η,reduceCtorEq,ψ,ω,aa,au,hm.isL.len,hm.isL.fits,hll,hlt',hp4,ix,ov,mk,c1,dz,e6,w]
   ·have hlt':¬ (p:Int)<(Ms.length:Int):=by omega
    refine⟨h',c,.int .i64 (p:Int),v7,v8,.bool false,v11,?_,z1,z2,by rw[Mo (k:=p) (.inr (by omega))]at s;exact s⟩
    rw[aG ic.eq_1]
    simp only[sim,af,θ,ξ,η,reduceCtorEq,ψ,ω,aa,hm.isL.len,hm.isL.fits,hll,hlt']
theorem Fx {mv lv:AV} {xs:List iO} (hs:IsL tGs lv (xs.map fW)) (hml:xs.length≤100000) {c:HmC} {cb:BxC} {msh:aO} (h4:msh.length=4) (h5:cb.ms.length=4) (K:List RK):∀ (l pre:List iO) (G:ae) (h':AH) (w2 w3 v6 v7 v8 v10 v11 v12:AV),xs=pre++l→G.Wf→St h0 F0 J0 h' (bxN c msh {i4 0 with G:=G} cb {i4 0 with G:=G} L)→
  ∃ h'' w9 w12,aC (aj Tryz.prog po) 13 (.lp jI:: .ss []:: .blk 2::K) [mv,lv,w2,w3,.ptr cb.bb 0 0,.ptr c.hb 0 0,v6,v7,v8,.int .i64 (pre.length:Int),v10,v11,v12] [] h'=aC (aj Tryz.prog po) 13 K [mv,lv,w2,w3,.ptr cb.bb 0 0,.ptr c.hb 0 0,v6,v7,v8,w9,v10,v11,w12] [] h''∧
    St h0 F0 J0 h'' (bxN c msh {i4 0 with G:=Ch G l} cb {i4 0 with G:=Ch G l} L):=by
 intro l
 induction l with
 | nil=>
   intro pre G h' w2 w3 v6 v7 v8 v10 v11 v12 e hg s
   have hlt:¬ ((pre.length:Int)<(xs.length:Int)):=by rw[e];simp
   refine⟨h',.int .i64 (pre.length:Int),.bool false,?_,s⟩
   rw[aG jI.eq_1]
   simp only[sim,af,θ,ξ,η,reduceCtorEq,ψ,ω,aa,hs.len,hs.fits,List.length_map,hlt]
 | cons x l ih=>
   intro pre G h' w2 w3 v6 v7 v8 v10 v11 v12 e hg s
   have hlt:(pre.length:Int)<(xs.length:Int):=by rw[e];simp;omega
   have ix:=hs.ix .i64 pre.length (fW x) (by rw[e];simp)
   have w:=w64 (n:=(pre.length:Int)+1) (by omega) (by omega)
   have e2:((pre++[x]).length:Int)=(pre.length:Int)+1:=by simp
   have l0:=(px s (ib:=2) rfl h5).1
   obtain⟨lv0,kr,hv0,f,_⟩:=ct s 0 rfl h4 rfl
   have l1:∀ k:Nat,aR false k h' (.ptr c.hb 0 0)=some (.ptr c.nb 0 0):=fun k=>f.net
   have f0:aP 0 (.ptr cb.bb 0 0)=some (.ptr cb.bb 0 0):=rfl
   have f1:aP 0 (.ptr c.hb 0 0)=some (.ptr c.hb 0 0):=rfl
   obtain⟨h2,v,e3,s2⟩:=P8 s (i:=3) (j:=1) rfl rfl (by decide) hg hg x
   obtain⟨h'',w9,w12,r1,r2⟩:=ih (pre++[x]) (G.step x).1 h2 w2 w3 v6 v7 v8 v10 v11 (.bool true) (by simp[e]) (hg.step x) s2
   refine⟨h'',w9,w12,?_,r2⟩
   rw[←r1,e2]
   conv=>lhs;rw[aG jI.eq_1]
   simp only[sim,af,θ,ξ,η,reduceCtorEq,ψ,ω,aa,au,hs.len,hs.fits,List.length_map,hlt,ix,zi,l0,l1,f0,f1,e3,w]
theorem MN (s:St h0 F0 J0 h L) {mv lv:AV} {rows:List (List AV)} {Ms:List (List XD)} (hm:SlA tMo mv rows) (hl:tR Ms rows) (hml:Ms.length≤100000) (hgr:∀ M∈Ms,M.length≤100000∧∀ x∈M,x.size≤100000) {xs:List iO} (hs:IsL tGs lv (xs.map fW)) (hxl:xs.length≤100000):
  ∃ h' bb gb wb c,aj Tryz.prog po 10 [mv,lv] h=some (.inl (.tup [.ptr bb 0 0,.ptr c.hb 0 0]),h')∧St h0 F0 J0 h' (bxN c (dN Ms 4) (Pj xs) ⟨bb,gb,wb,dN Ms 4⟩ (Pj xs) L):=by
 obtain⟨h1,bb,gb,wb,e1,s1⟩:=EQ s
 obtain⟨h2,c,e2,s2⟩:=Mp s1 0
 have s2:St h0 F0 J0 h2 (bxN c (dN Ms 0) (i4 0) ⟨bb,gb,wb,dN Ms 0⟩ (i4 0) L):=by rw[HC];exact s2
 obtain⟨h3,c',w6,w7,w8,w10,w11,r1,y1,y2,s3⟩:=GI hm hl hml hgr (lv:=lv) (hb:=c.hb) (nb:=c.nb) K0b 4 0 h2 c .nilp .nilp .junk .junk .junk .junk .junk .junk rfl rfl rfl s2
 obtain⟨h4,w9,w12,r2,s4⟩:=Fx hs hxl (mv:=mv) (c:=c') (cb:=⟨bb,gb,wb,dN Ms 4⟩) (df Ms 4) (df Ms 4) [.ss [.ops [bA,bT,(.i (.v 2) lT),cV],.ret]] xs [] G0 h3 .nilp .nilp w6 w7 w8 w10 w11 .junk rfl HS s3
 simp only[List.length_nil,Int.natCast_zero]at r1 r2
 refine⟨h4,bb,gb,wb,c',?_,s4⟩
 rw[y1]at r2 ⊢
 refine ag Pt rfl ?_;unfold Fb
 simp only[sim,af,θ,ξ,η,reduceCtorEq,ψ,ω,aa,au,e1,e2]
 rw[r1]
 simp only[sim,af,θ,ξ,η,reduceCtorEq,ψ,ω,aa]
 rw[r2]
 simp only[sim,af,θ,ξ,η,reduceCtorEq,ψ,ω,aa]
theorem uX {v:AV} {b:Nat} {cs:List Int} (hv:IsL tL v (cs.map fun x=>[.int .i64 x])) (hb:h.cell b=some (cs.map fun x=>[.int .i64 x])) (hl:cs.length≤1000000) (K:List RK):∀ (l pre:List Int) (v4 v5 v6:AV),cs=pre++l→∃ w3 w5 w6,aC (aj Tryz.prog po) 7 (.lp gT:: .ss []:: .blk 0::K) [v,.msl b 0 cs.length tL,.bool false,.int .i64 (pre.length:Int),v4,v5,v6] [] h=aC (aj Tryz.prog po) 7 K [v,.msl b 0 cs.length tL,.bool false,w3,v4,w5,w6] [] h:=by
 intro l
 induction l with
 | nil=>
   intro pre v4 v5 v6 e
   have d1:decide ((pre.length:Int)<(cs.length:Int))=false:=decide_eq_false (by rw[e];simp)
   refine⟨.int .i64 (pre.length:Int),.bool false,v6,?_⟩
   rw[aG gT.eq_1]
   simp only[sim,af,θ,ξ,η,reduceCtorEq,ψ,ω,aa,hv.len,hv.fits,List.length_map,d1]
 | cons x l ih=>
   intro pre v4 v5 v6 e
   have d1:decide ((pre.length:Int)<(cs.length:Int))=true:=decide_eq_true (by rw[e];simp;omega)
   have hx:(cs.map fun x=>[AV.int .i64 x])[pre.length]? =some [.int .i64 x]:=by rw[e];simp
   have i1:=hv.ix .i64 pre.length _ hx
   have hpl:pre.length<cs.length:=by rw[e];simp
   have i2:bL (some tL) none (.msl b 0 cs.length tL) (.int .i64 (pre.length:Int))=some (.ptr b pre.length 0):=by rw[qO rfl hpl,Nat.zero_add]
   have l2:aR false 1 h (.ptr b pre.length 0)=some (.int .i64 x):=by rw[bP,hb,Option.bind_some,hx];rfl
   have w1:=w64 (n:=(pre.length:Int)+1) (by omega) (by omega)
   have ek:((pre++[x]).length:Int)=(pre.length:Int)+1:=by simp
   obtain⟨w3,w5,w6,r1⟩:=ih (pre++[x]) v4 (.bool true) (.bool false) (by simp[e])
   refine⟨w3,w5,w6,?_⟩
   rw[←r1,ek]
   conv=>lhs;rw[aG gT.eq_1]
   simp only[sim,af,θ,ξ,η,reduceCtorEq,ψ,ω,aa,hv.len,hv.fits,List.length_map,d1,i1,i2,l2,eq_self,decide_true,w1]
theorem yn {v:AV} {b:Nat} {cs:List Int} (hv:IsL tL v (cs.map fun x=>[.int .i64 x])) (hb:h.cell b=some (cs.map fun x=>[.int .i64 x])) (hl:cs.length≤1000000):aj Tryz.prog po 20 [v,.msl b 0 cs.length tL] h=some (.inl (.bool true),h):=by
 obtain⟨w3,w5,w6,r1⟩:=uX (h:=h) hv hb hl [.ss [.ops [Lg],.ret]] cs [] (.bool false) .junk .junk rfl
 simp only[List.length_nil,Int.natCast_zero]at r1
 have d1:decide ((cs.length:Int)=(cs.length:Int))=true:=decide_eq_true rfl
 refine ag Be rfl ?_;unfold rf
 simp only[sim,af,θ,ξ,η,reduceCtorEq,ψ,ω,aa,hv.len,hv.fits,List.length_map,d1]
 rw[r1]
 simp only[sim,af,θ,ξ,η,reduceCtorEq,ψ,ω,aa]
end
section
variable {h:AH}
end
theorem Xp:(Tryz.prog).underlying 24=some (.slice 37):=by kernel_rfl
def KM:List TypeId:=[3,2,35,33,37,24]
theorem H5:sf Tryz.prog KM=true:=by kernel_rfl
section
variable {h h' h0:AH} {F J F0 J0:Nat→Prop} {L:List Asn} {c:HmC} {ms:aO} {S:StD} {hands:List (List VD)} {cb:BxC}
theorem LQ (s:St h0 F0 J0 h L) (i:Nat) (hi:L[i]? =some (eF c ms S hands)) (h4:ms.length=4) (k4:S.kept.length=4):∃ lv kr hv,fH h c lv kr hv ms∧VaL S.kept kr∧IsL tEn lv (S.log.map dR)∧h.cell c.cb=some (S.cells.map fun x=>[.int .i64 x]):=by
 obtain⟨F,J,x⟩:=s.get i hi
 obtain⟨lv,kr,hv,f,hk,_,_,s1,_⟩:=ny x h4 k4
 obtain⟨F1,J1,g⟩:=s1.get 2 rfl
 exact⟨lv,kr,hv,f,hk,(AY g).isL,(s1.cell 1 rfl).1⟩
theorem Mq {G:ae} {b:Nat} (g:IsG h F J b G):∃ nv,(∀ n,aR false n h (.ptr b 0 0)=some nv)∧IsL tN nv (G.nodes.map aH):=by
 obtain⟨nv,sv,hc,hg,_⟩:=g.ex
 refine⟨nv,fun n=>by rw[bP,hc];rfl,?_⟩
 rcases hg with⟨e,rfl⟩ | ⟨id,_,_,_,_,rfl⟩
 ·rw[e];exact n7 _
 ·exact pF _ _ _
structure WS (h:AH) (bb hb:Nat) (kept:List VD):Prop where
 b:∀ p,p<4→∃ r,aR true 3 h (.ptr bb 0 (2+p*5+2))=some (.agg r)∧VaA (kept.getD p aK) r
 h:∀ p,p<4→∃ r,aR true 3 h (.ptr hb 0 (7+p*3))=some (.agg r)∧VaA (kept.getD p aK) r
theorem Vn {kept:List VD} {gb wb bb:Nat} {lv:AV} {kr:List (List AV)} {hv:List AV} (s:St h0 F0 J0 h L) (i:Nat) (hi:L[i]? =some (ei bb gb wb ms kept)) (f:fH h c lv kr hv ms) (hk:VaL kept kr) (h4:ms.length=4) (k4:kept.length=4):WS h bb c.hb kept:=by
 refine⟨fun p hp=> ?_,fun p hp=> ?_⟩
 ·obtain⟨F1,J1,x1⟩:=s.get i hi
  obtain⟨row,b1,b2,b3,b4,b5,b6⟩:=vC x1 (h4.trans k4.symm)
  obtain⟨c1,c2,r,c3,c4,c5⟩:=b6 p (by omega)
  exact⟨r,by rw[bP,b1];exact c3,c4⟩
 ·obtain⟨r0,hr0,hrv⟩:=hk.get (i:=p) (x:=kept.getD p aK) (by rw[List.getD,List.getElem?_eq_getElem (by rw[k4];exact hp)];rfl)
  exact⟨r0,f.ldk hr0,hrv⟩
theorem Mn {mv lv kv:AV} {kept:List VD} (kf:WS h cb.bb c.hb kept) (hc:∀ v∈kept,v.code=0) (v6 v7 v8 v9 v10 v11 v12 v13 v15 v16 v17 v18 v19:AV):∀ (d p:Nat) (v20 v21:AV),p+d=4→∃ w20 w21,∀ K:List RK,aC (aj Tryz.prog po) 22 (.lp kq:: .ss []:: .blk 2::K) [mv,lv,kv,.bool false,.ptr cb.bb 0 0,.ptr c.hb 0 0,v6,v7,v8,v9,v10,v11,v12,v13,.int .i64 (p:Int),v15,v16,v17,v18,v19,v20,v21] [] h=aC (aj Tryz.prog po) 22 K [mv,lv,kv,.bool false,.ptr cb.bb 0 0,.ptr c.hb 0 0,v6,v7,v8,v9,v10,v11,v12,v13,.int .i64 4,v15,v16,v17,v18,v19,w20,w21] [] h:=by
 intro d
 induction d with
 | zero=>
   intro p v20 v21 hp
   obtain rfl:p=4:=by omega
   refine⟨.bool false,v21,fun K=> ?_⟩
   have h4:((4:Nat):Int)=4:=rfl
   rw[aG kq.eq_1]
   simp only[sim,af,θ,ξ,η,reduceCtorEq,ψ,ω,aa,h4,Int.lt_irrefl,decide_false]
 | succ d ih=>
   intro p v20 v21 hp
   have hp4:p<4:=by omega
   have d1:decide ((p:Int)<4)=true:=decide_eq_true (by omega)
   obtain⟨r1,l1,va1⟩:=kf.b p hp4
   obtain⟨r2,l2,va2⟩:=kf.h p hp4
   have hcode:=fL hc p
   have hsz:(kept.getD p aK).size≤100000:=by have:=(fY hcode).1;omega
   have sv:=uz _ (kept.getD p aK) (Nat.le_refl _) hsz (kept.getD p aK) r1 r2 h va1 va2
   rw[qL]at sv
   have ix1:∀ q:IntKind,bL none (some (4,5)) (.ptr cb.bb 0 2) (.int q (p:Int))=some (.ptr cb.bb 0 (2+p*5)):=fun q=>YL q hp4
   have ix2:∀ q:IntKind,bL none (some (4,3)) (.ptr c.hb 0 7) (.int q (p:Int))=some (.ptr c.hb 0 (7+p*3)):=fun q=>by simp[bL,hp4]
   have f2:aP 2 (.ptr cb.bb 0 0)=some (.ptr cb.bb 0 2):=rfl
   have f2':∀ k,aP 2 (.ptr cb.bb 0 k)=some (.ptr cb.bb 0 (k+2)):=fun _=>rfl
   have f7:aP 7 (.ptr c.hb 0 0)=some (.ptr c.hb 0 7):=rfl
   have w1:=w64 (n:=(p:Int)+1) (by omega) (by omega)
   have e2:((p+1:Nat):Int)=(p:Int)+1:=by omega
   obtain⟨w20,w21,r⟩:=ih (p+1) (.bool true) (.bool false) (by omega)
   refine⟨w20,w21,fun K=> ?_⟩
   rw[←r K,e2]
   conv=>lhs;rw[aG kq.eq_1]
   simp only[sim,af,θ,ξ,η,reduceCtorEq,ψ,ω,aa,au,d1,f2,f2',f7,ix1,ix2,l1,l2,sv,w1]
set_option maxRecDepth 100000 in
set_option maxHeartbeats 8000000 in
theorem VB {mv lv kv:AV} {rows:List (List AV)} {cs:List AU} (hk:IsL tCl kv rows) (hl:Qq cs rows) (hcl:cs.length≤30) (mo:Z4 cb.ms) (v15 v16:AV):∀ (l pre:List AU) (h':AH) (S:StD) (v7 v8 v9 v10 v11 v12 v13 v14 v18 v19 v20 v21 v17:AV),cs=pre++l→S.Good→S.log.length≤2000*pre.length→St h0 F0 J0 h' (bxN c cb.ms S cb S L)→
  (∃ V h'',(∀ K,aC (aj Tryz.prog po) 22 (.lp ft:: .ss []:: .blk 0::K) [mv,lv,kv,.bool false,.ptr cb.bb 0 0,.ptr c.hb 0 0,.int .i64 (pre.length:Int),v7,v8,v9,v10,v11,v12,v13,v14,v15,v16,v17,v18,v19,v20,v21] [] h'=some (.ret,V,h''))∧V.getD 3 .junk= .bool true∧∃ L',St h0 F0 J0 h'' L')∨
  (∃ h'' w6 w7 w8 w9 w10 w11 w12 w13 w14 w18 w19 w20 w21 w17,(∀ K,aC (aj Tryz.prog po) 22 (.lp ft:: .ss []:: .blk 0::K) [mv,lv,kv,.bool false,.ptr cb.bb 0 0,.ptr c.hb 0 0,.int .i64 (pre.length:Int),v7,v8,v9,v10,v11,v12,v13,v14,v15,v16,v17,v18,v19,v20,v21] [] h'=aC (aj Tryz.prog po) 22 K [mv,lv,kv,.bool false,.ptr cb.bb 0 0,.ptr c.hb 0 0,w6,w7,w8,w9,w10,w11,w12,w13,w14,v15,v16,w17,w18,w19,w20,w21] [] h'')∧∃ L',St h0 F0 J0 h'' L'):=by
 intro l
 induction l with
 | nil=>
   intro pre h' S v7 v8 v9 v10 v11 v12 v13 v14 v18 v19 v20 v21 v17 e hS hn s
   have d1:decide ((pre.length:Int)<(cs.length:Int))=false:=decide_eq_false (by rw[e];simp)
   refine .inr ⟨h',.int .i64 (pre.length:Int),v7,v8,v9,v10,v11,v12,v13,v14,v18,v19,v20,v21,.bool false,fun K=> ?_,_,s⟩
   rw[aG ft.eq_1]
   simp only[sim,af,θ,ξ,η,reduceCtorEq,ψ,ω,aa,hk.len,hk.fits,hl.1,d1]
 | cons x l ih=>
   intro pre h' S v7 v8 v9 v10 v11 v12 v13 v14 v18 v19 v20 v21 v17 e hS hn s
   have hpl:pre.length<cs.length:=by rw[e];simp
   have d1:decide ((pre.length:Int)<(cs.length:Int))=true:=decide_eq_true (by omega)
   have hi:cs[pre.length]? =some x:=by rw[e];simp
   obtain⟨r,a1,q0,q1,q2,rfl,hv⟩:=hl.2 _ x hi
   have ix:=hk.ix .i64 pre.length _ a1
   have w1:=w64 (n:=(pre.length:Int)+1) (by omega) (by omega)
   have ek:((pre++[x]).length:Int)=(pre.length:Int)+1:=by simp
   have ekn:(pre++[x]).length=pre.length+1:=by simp
   have l3:ldA true 3 [.int .i64 x.p,.int .i64 x.f,.int .i64 x.fuel,q0,q1,q2] 3=some (.agg [q0,q1,q2]):=rfl
   have lA:ldA true 6 [.int .i64 x.p,.int .i64 x.f,.int .i64 x.fuel,q0,q1,q2] 0=some (.agg [.int .i64 x.p,.int .i64 x.f,.int .i64 x.fuel,q0,q1,q2]):=rfl
   have oq:(q0.one=true∧q1.one=true)∧q2.one=true:=by
    have:=hv.len3.2
    simp only[List.all_cons,List.all_nil,Bool.and_true,Bool.and_eq_true]at this
    exact⟨⟨this.1,this.2.1⟩,this.2.2⟩
   have gv:=fun(h:AH)=>Cp (h:=h) hv
   have s1:=s.push [[.int .i64 x.p,.int .i64 x.f,.int .i64 x.fuel,q0,q1,q2]]
   cases hg:x.v.great with
   | true=>
     rw[hg]at gv
     refine .inl ⟨[mv,lv,kv,.bool true,.ptr cb.bb 0 0,.ptr c.hb 0 0,.int .i64 (pre.length:Int),.ptr h'.n 0 0,v8,v9,v10,v11,v12,v13,v14,v15,v16,.bool true,.bool true,v19,v20,v21],_,fun K=> ?_,rfl,_,s1⟩
     rw[aG ft.eq_1]
     simp only[sim,af,θ,ξ,η,reduceCtorEq,ψ,ω,aa,au,hk.len,hk.fits,hl.1,d1,ix,lA,l3,gv,oq.1.1,oq.1.2,oq.2]
   | false=>
     rw[hg]at gv
     have a7:AtB cb (ah h'.n [[.int .i64 x.p,.int .i64 x.f,.int .i64 x.fuel,q0,q1,q2]]::bxN c cb.ms S cb S L) 3 S:=⟨rfl,rfl,rfl⟩
     obtain⟨h2,r2,e2,v2,s2⟩:=GX s1 a7 ⟨mo.len,mo.g,mo.z,hS,by omega⟩ hv (PB hg) x.p x.f x.fuel
     obtain⟨k1,k2,_,k4⟩:=JP (ms:=cb.ms) hS (p:=x.p) (f:=x.f) (fuel:=x.fuel) (v:=x.v)
     have s2:St h0 F0 J0 h2 (ah h'.n [[.int .i64 x.p,.int .i64 x.f,.int .i64 x.fuel,q0,q1,q2]]::bxN c cb.ms S cb (dh cb.ms x.p x.f x.v x.fuel S).1 L):=s2
     have e2:aj Tryz.prog po 12 [.ptr cb.bb 0 0,.int .i64 x.p,.int .i64 x.f,.agg [q0,q1,q2],.int .i64 x.fuel] (h'.push [[.int .i64 x.p,.int .i64 x.f,.int .i64 x.fuel,q0,q1,q2]])=_:=e2
     have s3:=s2.push [r2]
     have oH:OkM cb.ms S:=⟨mo.len,mo.g,hS,by omega⟩
     obtain⟨h4,r4,e4,v4,s4⟩:=Uq (i:=2) (p:=x.p) (f:=x.f) s3 rfl rfl oH hv x.fuel
     have s4:St h0 F0 J0 h4 (ah h2.n [r2]::ah h'.n [[.int .i64 x.p,.int .i64 x.f,.int .i64 x.fuel,q0,q1,q2]]::bxN c cb.ms (dh cb.ms x.p x.f x.v x.fuel S).1 cb (dh cb.ms x.p x.f x.v x.fuel S).1 L):=s4
     have b1:=(s2.cell 0 rfl).1
     have b2:=(s3.cell 1 rfl).1
     generalize dh cb.ms x.p x.f x.v x.fuel S=q at*
     obtain⟨S2,vv,n2,c2⟩:=q
     simp only at e2 v2 s2 k1 k2 k4 e4 v4 s4
     have s5:=s4.push [r4]
     have g0:=(s5.cell 0 rfl).1
     have g1:=(s5.cell 1 rfl).1
     have o2:=v2.len3
     have o4:=v4.len3
     have lr2:=bi o2.1
     have lr4:=bi o4.1
     obtain⟨lv5,kr5,hv5,f5,hk5,hlog,hcb⟩:=LQ s5 3 rfl mo.len k1.kept
     have kf:=Vn s5 5 rfl f5 hk5 mo.len k1.kept
     have sv:=uz _ vv (Nat.le_refl _) k4 vv r2 r4 (h4.push [r4]) v2 v4
     rw[qL]at sv
     have ba:=px s5 (ib:=5) rfl (by rw[mo.len,k1.kept])
     obtain⟨F5,J5,ga⟩:=s5.get 6 rfl
     obtain⟨F6,J6,gn⟩:=s5.get 4 rfl
     have na:=Us ga k1.wf
     obtain⟨nv,ln,hnv⟩:=Mq gn
     have la:=TE s5 7 rfl k1.cells (by omega)
     have ca:=LJ s5 7 rfl k1.cells
     have sn:=EP (h:=h4.push [r4]) S2.G.nodes S2.G.nodes _ _ (iL _ _) hnv (by have:=k1.wf.few;omega)
     have sE:=u9 (h:=h4.push [r4]) (iL tEn (S2.log.map dR)) hlog (by omega)
     have sL:=yn (h:=h4.push [r4]) (pF none tL (S2.cells.map fun x=>[.int .i64 x])) hcb (by rw[k1.cells];omega)
     rw[k1.cells]at sL
     simp only[decide_true]at sn
     have f0:∀ b,aP 0 (.ptr b 0 0)=some (.ptr b 0 0):=fun _=>rfl
     have f1:∀ b,aP 1 (.ptr b 0 0)=some (.ptr b 0 1):=fun _=>rfl
     have f2:∀ b,aP 2 (.ptr b 0 0)=some (.ptr b 0 2):=fun _=>rfl
     have la0:=ba.1 1
     have la1:=ba.2 1
     have lh0:=f5.net (n:=1)
     have lh1:=f5.cells (n:=1)
     have lh2:=f5.logv (n:=1)
     have ln1:=ln 1
     have pg:∀ (H:AH) z,(H.push z).cell H.n=some z:=fun H z=>ap
     have ps:∀ (H:AH) y z,(H.push y).set H.n (some z)=H.push z:=fun H y z=>aA
     have deq:∀ z:Int,decide (z=z)=true:=fun z=>decide_eq_true rfl
     obtain⟨w20,w21,kl⟩:=Mn (c:=c) (mv:=mv) (lv:=lv) (kv:=kv) kf k1.keptV (.int .i64 (pre.length:Int)) (.ptr h'.n 0 0) (.ptr h2.n 0 0) (.int .i64 n2) (.int .i64 c2) (.ptr h4.n 0 0) (.int .i64 n2) (.int .i64 c2) v15 v16 (.bool true) (.bool false) (.bool false) 4 0 v20 v21 rfl
     simp only[Int.natCast_zero]at kl
     have ih2:=ih (pre++[x]) (h4.push [r4]) S2 (.ptr h'.n 0 0) (.ptr h2.n 0 0) (.int .i64 n2) (.int .i64 c2) (.ptr h4.n 0 0) (.int .i64 n2) (.int .i64 c2) (.int .i64 4) (.bool false) (.bool false) w20 w21 (.bool true) (by simp[e]) k1 (by rw[ekn];omega) s5.drop.drop.drop
     rcases ih2 with⟨V,h7,r7,hV,L7,s7⟩ | ⟨h7,w6,w7,w8,w9,w10,w11,w12,w13,w14,w18,w19,w20',w21',w17,r7,L7,s7⟩
     ·refine .inl ⟨V,h7,fun K=> ?_,hV,L7,s7⟩
      rw[←r7 K,ek]
      conv=>lhs;rw[aG ft.eq_1]
      simp only[sim,af,θ,ξ,η,reduceCtorEq,ψ,ω,aa,au,hk.len,hk.fits,hl.1,d1,ix,lA,l3,gv,oq.1.1,oq.1.2,oq.2,e2,b1,b2,e4,g0,g1,o2,o4,lr2,lr4,sv,deq,la0,la1,na,la,ca,lh0,lh1,lh2,ln1,sn,sE,sL,f0,f1,f2,pg,ps]
      rw[kl]
      simp only[sim,af,θ,ξ,η,reduceCtorEq,ψ,ω,aa,w1]
     ·refine .inr ⟨h7,w6,w7,w8,w9,w10,w11,w12,w13,w14,w18,w19,w20',w21',w17,fun K=> ?_,L7,s7⟩
      rw[←r7 K,ek]
      conv=>lhs;rw[aG ft.eq_1]
      simp only[sim,af,θ,ξ,η,reduceCtorEq,ψ,ω,aa,au,hk.len,hk.fits,hl.1,d1,ix,lA,l3,gv,oq.1.1,oq.1.2,oq.2,e2,b1,b2,e4,g0,g1,o2,o4,lr2,lr4,sv,deq,la0,la1,na,la,ca,lh0,lh1,lh2,ln1,sn,sE,sL,f0,f1,f2,pg,ps]
      rw[kl]
      simp only[sim,af,θ,ξ,η,reduceCtorEq,ψ,ω,aa,w1]
set_option maxRecDepth 100000 in
set_option maxHeartbeats 4000000 in
theorem HI {mv lv kv:AV} {rows krows:List (List AV)} {Ms:List (List XD)} (hm:SlA tMo mv rows) (hl:tR Ms rows) (hml:Ms.length≤9223372036854775807) {xs:List iO} (hs:IsL tGs lv (xs.map fW)) {cs:List AU} (hk:IsL tCl kv krows) (hkl:Qq cs krows):
  aj Tryz.prog po 4 [mv,lv,kv] h=some (.inl (.bool true),h):=by
 have s0:St h (fun _=>False) (fun _=>False) h []:=St.start (bj.nil _ _ _ (fun _ h=>h) (fun _ h=>h))
 have gm:=fun(h:AH)=>tf (h:=h) hm hl hml
 cases hgm:yO Ms with
 | true=>
   rw[hgm]at gm
   refine ag mJ rfl ?_;unfold kz
   simp only[sim,af,θ,ξ,η,reduceCtorEq,ψ,ω,aa,au,jC,gm]
 | false=>
   rw[hgm]at gm
   by_cases hx:100<xs.length
   ·have d1:decide ((100:Int)<(xs.length:Int))=true:=decide_eq_true (by omega)
    refine ag mJ rfl ?_;unfold kz
    simp only[sim,af,θ,ξ,η,reduceCtorEq,ψ,ω,aa,au,jC,gm,hs.len,hs.fits,List.length_map,d1]
   ·have d1:decide ((100:Int)<(xs.length:Int))=false:=decide_eq_false (by omega)
    by_cases hc:30<cs.length
    ·have d2:decide ((30:Int)<(cs.length:Int))=true:=decide_eq_true (by omega)
     refine ag mJ rfl ?_;unfold kz
     simp only[sim,af,θ,ξ,η,reduceCtorEq,ψ,ω,aa,au,jC,gm,hs.len,hs.fits,List.length_map,d1,hk.len,hk.fits,hkl.1,d2]
    ·have d2:decide ((30:Int)<(cs.length:Int))=false:=decide_eq_false (by omega)
     obtain⟨hml2,hgr⟩:=De hgm
     obtain⟨h2,bb,gb,wb,c,e2,s2⟩:=MN s0 hm hl hml2 hgr hs (by omega)
     have mo:Z4 (dN Ms 4):=⟨df Ms 4,(Ej Ms 4).good,(Ej Ms 4).sized⟩
     have lp:=VB (mv:=mv) (lv:=lv) (L:=[]) (c:=c) (cb:=⟨bb,gb,wb,dN Ms 4⟩) hk hkl (by omega) mo (.bool false) (.bool false) cs [] h2 (Pj xs) .junk .junk .junk .junk .junk .junk .junk .junk .junk .junk .junk .junk .junk rfl (Lu xs) (Nat.zero_le _) s2
     simp only[List.length_nil,Int.natCast_zero]at lp
     rcases lp with⟨V,h4,r4,hV,L4,s4⟩ | ⟨h4,w6,w7,w8,w9,w10,w11,w12,w13,w14,w18,w19,w20',w21',w17,r4,L4,s4⟩
     ·have g4:=s4.grewA
      refine ag mJ rfl ?_;unfold kz
      simp only[sim,af,θ,ξ,η,reduceCtorEq,ψ,ω,aa,au,jC,gm,hs.len,hs.fits,List.length_map,d1,hk.len,hk.fits,hkl.1,d2,e2]
      rw[r4]
      simp only[sim,af,θ,ξ,η,reduceCtorEq,ψ,ω,aa,hV]
      exact aI g4 rfl
     ·have g4:=s4.grewA
      refine ag mJ rfl ?_;unfold kz
      simp only[sim,af,θ,ξ,η,reduceCtorEq,ψ,ω,aa,au,jC,gm,hs.len,hs.fits,List.length_map,d1,hk.len,hk.fits,hkl.1,d2,e2]
      rw[r4]
      simp only[sim,af,θ,ξ,η,reduceCtorEq,ψ,ω,aa]
      exact aI g4 rfl
end
theorem Fk {n0 n1 n2:Nat} {mv lv kv:AV} {x0 x1 x2:Value} (W:World) (t0:TyA Tryz.prog n0 22 [mv]) (u0:VR Tryz.prog (m0A W) h0A mv x0) (t1:TyA Tryz.prog n1 23 [lv]) (u1:VR Tryz.prog (m0A W) h0A lv x1) (t2:TyA Tryz.prog n2 24 [kv]) (u2:VR Tryz.prog (m0A W) h0A kv x2):
  Law Tryz.prog 4 #[x0,x1,x2] W:=by
 obtain⟨es,Ms,hm,hl,hml⟩:=Ua t0
 obtain⟨xs,hs⟩:=Ob t1
 obtain⟨m,v,ks,rfl,e,hv,hlen,hr⟩:=ub Xp t2
 obtain rfl:kv=v:=by simpa using e
 obtain⟨cs,hc⟩:=KW (es:=ks) fun r hr'=>by
  obtain⟨p,f,fuel,x,q,rfl,hx⟩:=Vw (hr r hr').2
  obtain⟨q0,q1,q2,rfl⟩:∃ a b c,q=[a,b,c]:=by match q,hx.len3.1 with | [a,b,c],_=>exact⟨a,b,c,rfl⟩
  exact⟨⟨p,f,fuel,x⟩,q0,q1,q2,rfl,hx⟩
 exact XO (vs:=[x0,x1,x2]) (HI hm hl hml hs hv.sla.isL hc) (VRs.cons u0 (VRs.cons u1 (VRs.cons u2 VRs.nil)))
end Go.Proofs.YtkdbjfncchmmpaaGreat
