/- The machine in memory: what its topmost frame reads as, and what becomes of it by a store. The machine's methods: kinds and sizes; of capabilities: reading, writing, deriving, wrapping. The pieces of Across, and of what it defers, as lists of steps. What Across defers: it takes back a panic of the mover's own. Across: what it does is what its pieces say; a panic of the mover's own is taken back. Across in the plain model: what becomes of the graph, and of the value. The machine's methods, where a run stands: values taken and laid, capabilities read, written, derived, wrapped. The machine's methods, where a run stands, further: derived, wrap, call, part. Instructions that only compute. Instructions that only compute, further: pairs, parts, seals, names. The machine asks: a function that a capability is of. Instructions that have to do with capabilities, and with calls. What the instructions do is what the expressions say. No program here. Each instruction that stands for an expression does what is said. A function comes back. -/
import Derived.Test.YtkdbjfncchmmpaaMg5
namespace Go.Proofs.Ytkdbjfncchmmpaa
set_option linter.unusedSimpArgs false
set_option linter.unusedVariables false
open Go
def yW (mb bb fb:Nat) (left:Int):Asn:=ai mb [[.ptr bb 0 0,.msl fb 0 0 tFr,.int .i64 left]]
section
variable {h h' h0:AH} {F J F0 J0:Nat→Prop} {L:List Asn} {mb bb fb:Nat} {left:Int} {below:List FrD} {top:FrD}
theorem jE:∀ {rs:List (List AV)} {fs:List FrD} {r:List AV} {f:FrD} {h:AH} {F J:Nat→Prop},rs.length=fs.length→((et (rs++[r]) (fs++[f])).A h F J↔(dB (lY r f) (et rs fs)).A h F J)
 | [],[],r,f,h,F,J,_=>Iff.rfl
 | q::rs,g::fs,r,f,h,F,J,hl=>by
   have ih:∀ {h:AH} {F J:Nat→Prop},(et (rs++[r]) (fs++[f])).A h F J↔(dB (lY r f) (et rs fs)).A h F J:=jE (by simpa using hl)
   constructor
   ·intro x
    exact ja (eK (fun _ _ _ y=>y) (fun _ _ _ y=>ih.1 y) x)
   ·intro x
    exact eK (fun _ _ _ y=>y) (fun _ _ _ y=>ih.2 y) (ja x)
 | [],_::_,_,_,_,_,_,hl=>by simp at hl
 | _::_,[],_,_,_,_,_,hl=>by simp at hl
structure KI (h:AH) (mb bb fb:Nat) (left:Int) (below:List FrD) (top:FrD) (a:List AV) (sv nv g:AV):Prop where
 m:h.cell mb=some [[.ptr bb 0 0,.msl fb 0 (below.length+1) tFr,.int .i64 left]]
 mn:mb<h.n
 rd:∀ (n j:Nat) (v:AV),(cD top a sv nv g)[j]? =some v→aD false n h (.ptr fb below.length j)=some v
 arg:aD true 3 h (.ptr fb below.length 3)=some (.agg a)
 all:aD true 10 h (.ptr fb below.length 0)=some (.agg (cD top a sv nv g))
 ha:VaA top.arg a
 hg:SlA 3 g (dw top.gates)
 sv:sv.one=true∧sv.cells=[sv]∧dR sv=some top.stack.length∧∀ s,cN s (some tV) sv=true
 nv:nv.one=true∧nv.cells=[nv]∧dR nv=some top.names.length∧(∀ s,cN s (some tV) nv=true)∧∀ (q:IntKind) (i:Nat) (y:VD),top.names[i]? =some y→∃ p r,bQ (some tV) none nv (.int q (i:Int))=some p∧aD true 3 h p=some (.agg r)∧VaA y r
 fbn:fb<h.n
theorem cV (s0:St h0 F0 J0 h L) (i:Nat) (hi:L[i]? =some (dY mb bb fb left below top)):∃ a sv nv g,KI h mb bb fb left below top a sv nv g:=by
 obtain⟨F,J,x⟩:=s0.get i hi
 obtain⟨rs,ex,a,sv,nv,g,hrl,ha,hg,s⟩:=hU x
 have q1:=(s.cell 1 rfl).1
 have g6:=bY top a sv nv g ha.len3.1
 obtain⟨F1,J1,x1⟩:=s.get 2 rfl
 obtain⟨F2,J2,x2⟩:=s.get 3 rfl
 have r1:=fQ x1
 have r2:=fQ x2
 refine⟨a,sv,nv,g,(s.cell 0 rfl).1,(s.cell 0 rfl).2,fun n j v hv=>kg q1 hrl hv,?_,?_,ha,hg,⟨r1.1,r1.2.1,r1.2.2.1,r1.2.2.2.1⟩,r2,(s.cell 1 rfl).2⟩
 ·rw[bC,q1,Option.bind_some,nK hrl,Option.bind_some]
  unfold ldA
  rw[if_pos rfl,if_pos (by rw[g6.2.1];decide)]
  match a,ha.len3.1 with
  | [x,y,z],_=>rfl
 ·rw[bC,q1,Option.bind_some,nK hrl,Option.bind_some]
  exact bI g6.2.1
theorem zi (s0:St h0 F0 J0 h L) (i:Nat) (hi:L[i]? =some (dY mb bb fb left below top)) (pc:Nat):∃ h',aI 1 h (.ptr fb below.length 2) (.int .i64 (pc:Int))=some h'∧St h0 F0 J0 h' (L.set i (dY mb bb fb left below {top with pc:=pc})):=by
 refine s0.call (R:=fun h'=>aI 1 h (.ptr fb below.length 2) (.int .i64 (pc:Int))=some h') i hi fun F J x=> ?_
 obtain⟨rs,ex,a,sv,nv,g,hrl,ha,hg,s⟩:=hU x
 have g6:=bY top a sv nv g ha.len3.1
 have hr:(cD top a sv nv g).set 2 (.int .i64 (pc:Int))=cD {top with pc:=pc} a sv nv g:=rfl
 have s1:=s.set 1 rfl (rs++cD {top with pc:=pc} a sv nv g::ex)
 exact⟨_,kN (s.cell 1 rfl).1 hrl rfl rfl (by rw[g6.2.1];decide) hr,kV (top:={top with pc:=pc}) ha hg s1⟩
theorem Ff (s0:St h0 F0 J0 h L) (i:Nat) (hi:L[i]? =some (dY mb bb fb left below top)) (l:Int):∃ h',aI 1 h (.ptr mb 0 2) (.int .i64 l)=some h'∧St h0 F0 J0 h' (L.set i (dY mb bb fb l below top)):=by
 refine s0.call (R:=fun h'=>aI 1 h (.ptr mb 0 2) (.int .i64 l)=some h') i hi fun F J x=> ?_
 obtain⟨rs,ex,a,sv,nv,g,hrl,ha,hg,s⟩:=hU x
 have s1:=s.set 0 rfl [[.ptr bb 0 0,.msl fb 0 (below.length+1) tFr,.int .i64 l]]
 exact⟨_,bk (s.cell 0 rfl).1 rfl rfl rfl (by simp),kV ha hg s1⟩
theorem xw (f:FrD) (a:List AV) (s n g n':AV) (nm:List VD) (ha:a.length=3):(cD f a s n g).set 7 n'=cD {f with names:=nm} a s n' g:=by
 match a,ha with
 | [x,y,z],_=>rfl
theorem E0 (s0:St h0 F0 J0 h L) (i:Nat) (hi:L[i]? =some (dY mb bb fb left below top)) {nm:List VD} {v:VD} (hn:top.names=nm++[v]) {a:List AV} {sv nv g:AV} (hv:KI h mb bb fb left below top a sv nv g):
  ∃ nv' h',jV nv none (some (.int .i64 (nm.length:Int)))=some nv'∧nv'.one=true∧nv'.cells=[nv']∧aI 1 h (.ptr fb below.length 7) nv'=some h'∧St h0 F0 J0 h' (L.set i (dY mb bb fb left below {top with names:=nm})):=by
 obtain⟨h',nv',⟨e1,e2,e3,e4⟩,s'⟩:=s0.callE (R:=fun h' nv'=>jV nv none (some (.int .i64 (nm.length:Int)))=some nv'∧nv'.one=true∧nv'.cells=[nv']∧aI 1 h (.ptr fb below.length 7) nv'=some h') i hi (Y:=fun _=>dY mb bb fb left below {top with names:=nm}) fun F J x=>by
  obtain⟨rs,ex,a',sv',nv',g',hrl,ha,hg,s⟩:=hU x
  have g6:=bY top a' sv' nv' g' ha.len3.1
  have l7:=kg (n:=1) (s.cell 1 rfl).1 hrl g6.2.2.1
  have l7':=hv.rd 1 7 nv (bY top a sv nv g hv.ha.len3.1).2.2.1
  rw[l7]at l7'
  injection l7' with l7'
  subst l7'
  obtain⟨F1,J1,x1⟩:=s.get 3 rfl
  rw[hn]at x1
  obtain⟨b,hb⟩:=xG x1 (by simp)
  rw[List.length_append,List.length_singleton]at hb
  subst hb
  have s1:=s.set 1 rfl (rs++cD {top with names:=nm} a' sv' (.msl b 0 nm.length tV) g'::ex)
  have s2:St h F J _ (Fu mb bb fb left below {top with names:=nm} rs ex a' sv' (.msl b 0 nm.length tV) g'):=s1.upd 3 rfl fun _ _ _ x=>by rw[hn]at x;exact wH x
  exact⟨_,.msl b 0 nm.length tV,⟨uW (by omega),rfl,rfl,kN (s.cell 1 rfl).1 hrl rfl rfl (by rw[g6.2.1];decide) (xw _ _ _ _ _ _ nm ha.len3.1)⟩,kV (top:={top with names:=nm}) ha hg s2⟩
 exact⟨nv',h',e1,e2,e3,e4,s'⟩
theorem wP {b n:Nat} {l:List VD} (x:(cr (.msl b 0 n tV) l).A h F J) {i:Nat} (hi:i<l.length) {v:VD} {r:List AV} (hv:VaA v r):∃ h',aI 3 h (.ptr b i 0) (.agg r)=some h'∧Did h F J h' (cr (.msl b 0 n tV) (l.set i v)):=by
 obtain⟨rows,hl,x⟩:=x
 have hlen:=hl.len
 rcases x with⟨⟨_,e⟩,_⟩ | ⟨⟨b',es⟩,⟨e,h1,h2⟩,a1,a2,a3,a4⟩
 ·cases e
 ·injection e with e1 _ e2 _
  simp only at e1 h1 h2 a1 a3 a4
  subst e1
  have hir:i<rows.length:=by omega
  have hie:i<es.length:=by omega
  obtain⟨q,hq⟩:∃ q,es[i]? =some q:=⟨_,List.getElem?_eq_getElem hie⟩
  have hq3:q.length=3:=by
   have h5:rows[i]? =some q:=by
    conv=>lhs;rw[h2]
    rw[List.getElem?_take_of_lt hir]
    exact hq
   obtain⟨y,hy⟩:∃ y,l[i]? =some y:=⟨_,List.getElem?_eq_getElem hi⟩
   obtain⟨r',h6,h7⟩:=hl.get hy
   rw[h5]at h6
   injection h6 with h6
   rw[h6]
   exact h7.len3.1
  have hst:stA q 0 r=r:=by
   unfold stA
   rw[List.take_zero,List.nil_append,List.drop_of_length_le (by have:=hv.len3.1;omega),List.append_nil]
  have hset:∀ {l:List VD} {rows:List (List AV)} {i:Nat},VaL l rows→i<l.length→VaL (l.set i v) (rows.set i r):=by
   intro l
   induction l with
   | nil=>intro rows i _ hi;simp at hi
   | cons y l ih=>
     intro rows i hl hi
     obtain⟨r0,rs,rfl,q1,q2⟩:=hl
     cases i with
     | zero=>exact⟨r,rs,rfl,hv,q2⟩
     | succ i=>exact⟨r0,rs.set i r,rfl,q1,ih q2 (by simpa using hi)⟩
  refine⟨_,bk (es:=es) (e:=q) a4 hq hv.len3.2 hv.len3.1 (by omega),F,J,⟨rows.set i r,hset hl hi,.inr ⟨⟨b,es.set i r⟩,⟨by simp only[List.length_set,e2],by simpa using h1,?_⟩,a1,a2,a3,?_⟩⟩,⟨Nat.le_refl _,Nat.le_refl _,fun k _ hk=>bc fun e=>hk ((a1 k).2 e),fun _ _ _=>rfl⟩,fun _=> .inl,fun _=> .inl⟩
  ·simp only[List.length_set]
   rw[List.take_set]
   conv=>lhs;rw[h2]
  ·simp only[AV.cells,hst]
   exact aP
theorem pI {n b i off:Nat} {h h':AH} {r:List AV} (hs:aI n h (.ptr b i off) (.agg r)=some h'):aD true n h' (.ptr b i off)=some (.agg r):=by
 unfold aI at hs
 simp only[Option.bind_eq_some_iff]at hs
 obtain⟨es,h2,e,h3,h4⟩:=hs
 split at h4
 ·rename_i hc
  injection h4 with h4
  subst h4
  have hi:=(List.getElem?_eq_some_iff.1 h3).1
  have c2:=hc.2.1
  simp only[AV.cells]at c2
  rw[bC,aP,Option.bind_some,List.getElem?_set_self hi,Option.bind_some]
  have hl:=gc e r off (by omega)
  simp only[AV.cells,ldA,if_true]
  have:((stA e off r).drop off).take n=r:=by
   unfold stA
   rw[List.append_assoc,List.drop_left' (by simp;omega),List.take_left' c2]
  rw[this]
  exact if_pos (by omega)
 ·cases h4
theorem DX (s0:St h0 F0 J0 h L) (i:Nat) (hi:L[i]? =some (dY mb bb fb left below top)) {v:VD} {r:List AV} (hv:VaA v r) (hl:top.names.length≤1000000) {bz:Nat} (hz:h.cell bz=some [zR3]) {a:List AV} {sv nv g:AV} (mv:KI h mb bb fb left below top a sv nv g):
  ∃ q h1 h2 h3,aH true tV nv (.msl bz 0 1 tV) h=some (.msl q 0 (top.names.length+1) tV,h1)∧aI 3 h1 (.ptr q top.names.length 0) (.agg r)=some h2∧aI 1 h2 (.ptr fb below.length 7) (.msl q 0 (top.names.length+1) tV)=some h3∧aD true 3 h3 (.ptr q top.names.length 0)=some (.agg r)∧
    St h0 F0 J0 h3 (L.set i (dY mb bb fb left below {top with names:=top.names++[v]})):=by
 have zv:VaA ay zR3:=cQ
 obtain⟨h3,⟨q,h1,h2⟩,⟨e1,e2,e3,e4⟩,s'⟩:=s0.callE (R:=fun h3 (q:Nat×AH×AH)=>aH true tV nv (.msl bz 0 1 tV) h=some (.msl q.1 0 (top.names.length+1) tV,q.2.1)∧aI 3 q.2.1 (.ptr q.1 top.names.length 0) (.agg r)=some q.2.2∧aI 1 q.2.2 (.ptr fb below.length 7) (.msl q.1 0 (top.names.length+1) tV)=some h3∧aD true 3 h3 (.ptr q.1 top.names.length 0)=some (.agg r)) i hi (Y:=fun _=>dY mb bb fb left below {top with names:=top.names++[v]}) fun F J x=>by
  obtain⟨rs,ex,a',sv',nv',g',hrl,ha,hg,s⟩:=hU x
  have g6:=bY top a' sv' nv' g' ha.len3.1
  have l7:=kg (n:=1) (s.cell 1 rfl).1 hrl g6.2.2.1
  have l7':=mv.rd 1 7 nv (bY top a sv nv g mv.ha.len3.1).2.2.1
  rw[l7]at l7'
  injection l7' with l7'
  subst l7'
  obtain⟨h1,e1,s1⟩:=s.app 3 rfl hz zv hl
  obtain⟨h2,e2,s2⟩:=s1.call (R:=fun h2=>aI 3 h1 (.ptr h.n top.names.length 0) (.agg r)=some h2) 3 rfl fun F J x=>wP x (i:=top.names.length) (by simp) hv
  rw[show(top.names++[ay]).set top.names.length v=top.names++[v] from uS top.names [] ay v rfl]at s2
  have st:=kN (v:= .msl h.n 0 (top.names.length+1) tV) (s2.cell 1 rfl).1 hrl rfl rfl (by rw[g6.2.1];decide) (xw _ _ _ _ _ _ (top.names++[v]) ha.len3.1)
  have s3:=s2.set 1 rfl (rs++cD {top with names:=top.names++[v]} a' sv' (.msl h.n 0 (top.names.length+1) tV) g'::ex)
  obtain⟨F4,J4,x4⟩:=s3.get 3 rfl
  obtain⟨p,r',p1,p2,p3⟩:=(fQ x4).2.2.2.2 .i64 top.names.length v (BW top.names [] v rfl)
  refine⟨_,(h.n,h1,h2),⟨e1,e2,st,?_⟩,kV (top:={top with names:=top.names++[v]}) ha hg s3⟩
  -- what was put there is there still
  obtain⟨F5,J5,x5⟩:=s2.get 3 rfl
  have hne:fb≠h.n:=by have:=(s.cell 1 rfl).2;omega
  rw[bC,bc (Ne.symm hne),←bC (agg:=true) (n:=3)]
  exact pI e2
 exact⟨q,h1,h2,h3,e1,e2,e3,e4,s'⟩
theorem nW (x:(dY mb bb fb left below top).A h F J):∃ rs ex row,rs.length=below.length∧row.length=10∧row.all AV.one=true∧St h F J h [ai mb [[.ptr bb 0 0,.msl fb 0 (below.length+1) tFr,.int .i64 left]],ai fb (rs++row::ex),lY row top,et rs below]:=by
 obtain⟨⟨rs,row,ex⟩,x⟩:=x
 obtain⟨F1,J1,F2,J2,x1,⟨F3,J3,F4,J4,x3,⟨F5,J5,F6,J6,x5,x6,r6⟩,r4⟩,r2⟩:=x
 have x5':=x5
 obtain⟨⟨a,s,n,g⟩,⟨e,ha,hg⟩,y⟩:=x5'
 simp only at e
 have g6:=bY top a s n g ha.len3.1
 obtain⟨_,_,_,_,y1,y2,_⟩:=y
 have hgo:g.one=true:=by
  have hg:SlA _ g _:=hg
  rcases hg with⟨_,rfl⟩ | ⟨id,rfl⟩<;>rfl
 refine⟨rs,ex,row,kF x6,by rw[e];exact g6.2.1,by rw[e];exact mq ha.len3 (fQ y1).1 (fQ y2).1 hgo,St.start ?_⟩
 exact⟨F1,J1,F2,J2,x1,⟨F3,J3,F4,J4,x3,⟨F5,J5,F6,J6,x5,aX.one x6,r6⟩,r4⟩,r2⟩
theorem pG {rs ex:List (List AV)} {row:List AV} (s:St h0 F0 J0 h [ai mb [[.ptr bb 0 0,.msl fb 0 (below.length+1) tFr,.int .i64 left]],ai fb (rs++row::ex),lY row top,et rs below]):Did h0 F0 J0 h (dY mb bb fb left below top):=
 Did.imp (fun _ _ _ x=>by
  obtain⟨F1,J1,F2,J2,x1,⟨F3,J3,F4,J4,x3,⟨F5,J5,F6,J6,x5,x6,r6⟩,r4⟩,r2⟩:=x
  exact⟨⟨rs,row,ex⟩,F1,J1,F2,J2,x1,⟨F3,J3,F4,J4,x3,⟨F5,J5,F6,J6,x5,aX.one' x6,r6⟩,r4⟩,r2⟩) s
theorem th {f:FrD} {a:List AV} {g:AV} (ha:VaA f.arg a) (hg:SlA 3 g (dw f.gates)) (hs:f.stack=[]) (hn:f.names=[]):(lY (cD f a .nils .nils g) f).A h (fun _=>False) (fun _=>False):=by
 have e:∀ (l:List VD),l=[]→(cr .nils l).A h (fun _=>False) (fun _=>False):=fun l hl=>by
  subst hl
  exact⟨[],rfl,.inl ⟨⟨rfl,rfl⟩,fun _ h=>h,fun _ h=>h⟩⟩
 exact⟨⟨a,.nils,.nils,g⟩,⟨rfl,ha,hg⟩,fun _=>False,fun _=>False,fun _=>False,fun _=>False,e _ hs,e _ hn,fun k=>by simp,fun j=>by simp,fun _ h=>h.elim,fun _ h=>h.elim⟩
theorem St.front {X:Asn} (s:St h0 F0 J0 h L) (i:Nat) (hi:L[i]? =some X):St h0 F0 J0 h (X::L.eraseIdx i):=s.imp fun _ _ _ x=>(aX.front hi).1 x
theorem FP (s0:St h0 F0 J0 h L) (i:Nat) (hi:L[i]? =some (dY mb bb fb left below top)) {f:FrD} {a:List AV} {g:AV} (ha:VaA f.arg a) (hg:SlA 3 g (dw f.gates)) (hs:f.stack=[]) (hn:f.names=[]) (hb:below.length≤1000) {bz:Nat} (hz:h.cell bz=some [cD f a .nils .nils g]):
  ∃ h1 h2,aH true tFr (.msl fb 0 (below.length+1) tFr) (.msl bz 0 1 tFr) h=some (.msl h.n 0 (below.length+2) tFr,h1)∧aI 1 h1 (.ptr mb 0 1) (.msl h.n 0 (below.length+2) tFr)=some h2∧St h0 F0 J0 h2 (L.set i (dY mb bb h.n left (below++[top]) f)):=by
 obtain⟨h2,h1,⟨e1,e2⟩,s'⟩:=s0.callE (R:=fun h2 h1=>aH true tFr (.msl fb 0 (below.length+1) tFr) (.msl bz 0 1 tFr) h=some (.msl h.n 0 (below.length+2) tFr,h1)∧aI 1 h1 (.ptr mb 0 1) (.msl h.n 0 (below.length+2) tFr)=some h2) i hi (Y:=fun _=>dY mb bb h.n left (below++[top]) f) fun F J x=>by
  obtain⟨rs,ex,row,hrl,hl10,ho,s⟩:=nW x
  have c1:=(s.cell 1 rfl).1
  have g6:=bY f a .nils .nils g ha.len3.1
  have hgo:g.one=true:=by rcases hg with⟨_,rfl⟩ | ⟨id,rfl⟩<;>rfl
  have ho2:([cD f a .nils .nils g].all fun x=>x.all AV.one)=true:=by simp only[List.all_cons,List.all_nil,Bool.and_true];exact mq ha.len3 rfl rfl hgo
  have htk:(rs++row::ex).take (below.length+1)=rs++[row]:=by
   rw[←hrl,List.take_append]
   simp[List.take_of_length_le (Nat.le_succ rs.length)]
  have hap:aH true tFr (.msl fb 0 (below.length+1) tFr) (.msl bz 0 1 tFr) h=some (.msl h.n 0 (below.length+2) tFr,(h.set fb none).push (rs++[row]++[cD f a .nils .nils g])):=by
   have he:bH h tFr (.msl bz 0 1 tFr)=some [cD f a .nils .nils g]:=by simp[bH,hz]
   simp only[aH,he,Option.bind_some,List.length_singleton]
   rw[if_neg (by decide)]
   simp only[dX,c1,Option.bind_some]
   rw[if_pos ⟨by simp,by simp,ho2⟩,if_pos ⟨trivial,trivial,by omega⟩,if_pos (by simp;omega),htk]
   rfl
  have s1:=s.del 1 rfl
  have s2:=s1.push (rs++[row]++[cD f a .nils .nils g])
  have hnn:(h.set fb none).n=h.n:=rfl
  have st:aI 1 ((h.set fb none).push (rs++[row]++[cD f a .nils .nils g])) (.ptr mb 0 1) (.msl h.n 0 (below.length+2) tFr)=some (((h.set fb none).push (rs++[row]++[cD f a .nils .nils g])).set mb (some [[.ptr bb 0 0,.msl h.n 0 (below.length+2) tFr,.int .i64 left]])):=bk (n:=1) (i:=0) (x:= .msl h.n 0 (below.length+2) tFr) (off:=1) (e:=[.ptr bb 0 0,.msl fb 0 (below.length+1) tFr,.int .i64 left]) (s2.cell 1 rfl).1 rfl rfl rfl (by simp)
  have s3:=s2.set 1 rfl [[.ptr bb 0 0,.msl h.n 0 (below.length+2) tFr,.int .i64 left]]
  refine⟨_,_,⟨hap,st⟩,pG (rs:=rs++[row]) (ex:=[]) (row:=cD f a .nils .nils g) ?_⟩
  rw[List.length_append,List.length_singleton]
  have s4:=(s3.front 2 rfl).drop
  have s5:St _ _ _ _ [et (rs++[row]) (below++[top]),ai h.n (rs++[row]++[cD f a .nils .nils g]),ai mb [[.ptr bb 0 0,.msl h.n 0 (below.length+2) tFr,.int .i64 left]]]:=
   (((s4.front 2 rfl).front 3 rfl).front 1 rfl).imp fun _ _ _ x=>by
     have y:=aX.star_out x
     exact eK (fun _ _ _ z=>(jE hrl).2 z) (fun _ _ _ z=>z) y
  have s6:=s5.add (ae.refl _) (th ha hg hs hn) (fun _ h=>h.elim) (fun _ h=>h.elim)
  have s7:=(((s6.front 1 rfl).front 1 rfl).front 2 rfl).front 3 rfl
  exact s7
 exact⟨h1,h2,e1,e2,s'⟩
theorem Fr (s0:St h0 F0 J0 h L) (i:Nat) {t:FrD} (hi:L[i]? =some (dY mb bb fb left (below++[t]) top)):
  ∃ h',aI 1 h (.ptr mb 0 1) (.msl fb 0 (below.length+1) tFr)=some h'∧St h0 F0 J0 h' (L.set i (dY mb bb fb left below t)):=by
 refine s0.call (R:=fun h'=>aI 1 h (.ptr mb 0 1) (.msl fb 0 (below.length+1) tFr)=some h') i hi fun F J x=> ?_
 obtain⟨rs,ex,row,hrl,hl10,ho,s⟩:=nW x
 rw[List.length_append,List.length_singleton]at hrl
 obtain⟨rs',q,rfl⟩:∃ rs' q,rs=rs'++[q]:=by
  refine⟨rs.dropLast,rs.getLast (fun e=>by rw[e]at hrl;simp at hrl),(List.dropLast_concat_getLast _).symm⟩
 have hrl':rs'.length=below.length:=by simpa using hrl
 have st:aI 1 h (.ptr mb 0 1) (.msl fb 0 (below.length+1) tFr)=some (h.set mb (some [[.ptr bb 0 0,.msl fb 0 (below.length+1) tFr,.int .i64 left]])):=bk (n:=1) (i:=0) (x:= .msl fb 0 (below.length+1) tFr) (off:=1) (e:=[.ptr bb 0 0,.msl fb 0 ((below++[t]).length+1) tFr,.int .i64 left]) (s.cell 0 rfl).1 rfl rfl rfl (by simp)
 have s1:=s.set 0 rfl [[.ptr bb 0 0,.msl fb 0 (below.length+1) tFr,.int .i64 left]]
 have s2:=(s1.front 2 rfl).drop
 have s3:=(s2.front 2 rfl).imp fun _ _ _ x=>aX.star_in (eK (fun _ _ _ z=>(jE hrl').1 z) (fun _ _ _ z=>z) x)
 have s4:=(((s3.front 1 rfl).front 1 rfl).front 3 rfl).front 3 rfl
 exact⟨_,st,pG (rs:=rs') (ex:=row::ex) (row:=q) (by simpa using s4)⟩
theorem If (s0:St h0 F0 J0 h L) (i:Nat) (hi:L[i]? =some (dY mb bb fb left [] top)):
  ∃ h',aI 1 h (.ptr mb 0 1) (.msl fb 0 0 tFr)=some h'∧St h0 F0 J0 h' (L.set i (yW mb bb fb left)):=by
 refine s0.call (R:=fun h'=>aI 1 h (.ptr mb 0 1) (.msl fb 0 0 tFr)=some h') i hi fun F J x=> ?_
 obtain⟨rs,ex,row,hrl,hl10,ho,s⟩:=nW x
 have st:aI 1 h (.ptr mb 0 1) (.msl fb 0 0 tFr)=some (h.set mb (some [[.ptr bb 0 0,.msl fb 0 0 tFr,.int .i64 left]])):=bk (n:=1) (i:=0) (x:= .msl fb 0 0 tFr) (off:=1) (e:=[.ptr bb 0 0,.msl fb 0 1 tFr,.int .i64 left]) (s.cell 0 rfl).1 rfl rfl rfl (by simp)
 have s1:=s.set 0 rfl [[.ptr bb 0 0,.msl fb 0 0 tFr,.int .i64 left]]
 have s2:=((s1.front 3 rfl).drop.front 2 rfl).drop
 have s3:=(s2.front 1 rfl).drop
 exact⟨_,st,Did.imp (fun _ _ _ x=>aX.one' x) s3⟩
end
theorem IW {x:BitVec 64} {k:Nat} (hk:k<64) {r:Int} (hr:r=(BitVec.twoPow 64 k).toInt):C5 x.toInt r=eX x.toInt k:=by
 rw[hr,yd,Cb x hk]
 cases hb:x.getLsbD k
 ·refine decide_eq_false fun h=> ?_
  have:=congrArg (fun v:BitVec 64=>v.getLsbD k) h
  simp only[BitVec.getLsbD_and,hb,Bool.false_and,BitVec.getLsbD_twoPow]at this
  simp[hk]at this
 ·refine decide_eq_true (BitVec.eq_of_getLsbD_eq fun i hi=> ?_)
  rw[BitVec.getLsbD_and,BitVec.getLsbD_twoPow]
  by_cases h2:k=i
  ·subst h2
   simp[hb]
  ·simp[h2]
section
variable {h h' h0:AH} {F J F0 J0:Nat→Prop} {L:List Asn} {mb bb fb gb wb:Nat} {left:Int} {below:List FrD} {top:FrD} {ms:aL} {kept:List VD} {G:af}
theorem bL (c:Int):aj Try.prog po 82 [.bool true,.int .i64 c] h=some (.inr (.iface tGo (.int .i64 c)),h):=by
 refine ah x7 rfl ?_;unfold qD
 simp only[sim,ag,Nat.reduceAdd,Nat.reduceSub,List.replicate,reduceCtorEq,Nat.reduceLeDiff,Nat.reduceLT,aa,HA,Ek,nn (ae.refl h) (rfl:wkA (.iface tGo (.int .i64 c))=_)]
theorem bX (c:Int):aj Try.prog po 82 [.bool false,.int .i64 c] h=some (.inl (.tup []),h):=by
 refine ah x7 rfl ?_;unfold qD
 simp only[sim,ag,Nat.reduceAdd,Nat.reduceSub,List.replicate,reduceCtorEq,Nat.reduceLeDiff,Nat.reduceLT,aa,aB (ae.refl h) (rfl:wkA (.tup [])=_)]
theorem kw (n:Int):aj Try.prog po 108 [.int .i64 n] h=some (.inl (.agg [.int .i64 1,.int .i64 n,.nils]),h):=by
 refine ah zd rfl ?_;unfold pU
 simp only[sim,ag,Nat.reduceAdd,Nat.reduceSub,List.replicate,reduceCtorEq,Nat.reduceLeDiff,Nat.reduceLT,aa]
 exact aB (ae.push _ _) rfl
theorem pZ (n:Int):VaA (ju n) [.int .i64 1,.int .i64 n,.nils]:=⟨.nils,[],rfl,.inl ⟨rfl,rfl⟩,rfl⟩
theorem uP (n:Int):VaA (fg n) [.int .i64 4,.int .i64 n,.nils]:=⟨.nils,[],rfl,.inl ⟨rfl,rfl⟩,rfl⟩
theorem II (n:Int):VaA (.mk 5 n []) [.int .i64 5,.int .i64 n,.nils]:=⟨.nils,[],rfl,.inl ⟨rfl,rfl⟩,rfl⟩
theorem uK {k n:Int} {l:List VD} {es:List (List AV)} {id:Option Nat} (hl:VaL l es):VaA (.mk k n l) [.int .i64 k,.int .i64 n,.isl id tV es]:=⟨_,es,rfl,.inr ⟨id,rfl⟩,hl⟩
theorem VaA.cells3 {v:VD} {r:List AV} (hv:VaA v r):∃ w,r=[.int .i64 v.kind,.int .i64 v.n,w]∧w.one=true:=by
 cases v with
 | mk k n l=>
   obtain⟨w,es,rfl,h1,_⟩:=hv
   exact⟨w,rfl,by rcases h1 with⟨_,rfl⟩ | ⟨id,rfl⟩<;>rfl⟩
theorem dK {v:VD} {r:List AV} (hv:VaA v r) {k:Int} (hk:v.kind=k):∃ r',aj Try.prog po 84 [.agg r,.int .i64 k] h=some (.inl (.agg r'),h)∧VaA v r':=by
 obtain⟨r',hw,hr'⟩:=xy hv
 obtain⟨w,rfl,ho⟩:=hv.cells3
 have hwA:wkA (.agg [.int .i64 v.kind,.int .i64 v.n,w])=some (.agg r'):=by simp only[wkA,hw,Option.map_some]
 refine⟨r',?_,hr'⟩
 have d:decide (v.kind=k)=true:=decide_eq_true hk
 refine ah xM rfl ?_;unfold ri
 simp only[sim,ag,Nat.reduceAdd,Nat.reduceSub,List.replicate,reduceCtorEq,Nat.reduceLeDiff,Nat.reduceLT,aa,az,d,bX,ho]
 exact aB (by repeat (first | exact ae.refl _ | refine ae.trans ?_ (ae.push _ _) | refine ae.trans ?_ (ae.fresh _ _))) hwA
theorem eU {v:VD} {r:List AV} (hv:VaA v r) {k:Int} (hk:v.kind≠k):aj Try.prog po 84 [.agg r,.int .i64 k] h=some (.inr (.iface tGo (.int .i64 2)),h):=by
 obtain⟨w,rfl,ho⟩:=hv.cells3
 have d:decide (v.kind=k)=false:=decide_eq_false hk
 refine ah xM rfl ?_;unfold ri
 simp only[sim,ag,Nat.reduceAdd,Nat.reduceSub,List.replicate,reduceCtorEq,Nat.reduceLeDiff,Nat.reduceLT,aa,az,d,bL,ho]
 exact nn (by repeat (first | exact ae.refl _ | refine ae.trans ?_ (ae.push _ _) | refine ae.trans ?_ (ae.fresh _ _))) rfl
theorem tq {v:VD} {r:List AV} (hv:VaA v r) (hk:v.code=0):∃ r',aj Try.prog po 109 [.agg r] h=some (.inl (.agg r'),h)∧VaA v r':=by
 obtain⟨r',hw,hr'⟩:=xy hv
 have hwA:wkA (.agg r)=some (.agg r'):=by simp only[wkA,hw,Option.map_some]
 refine⟨r',?_,hr'⟩
 have d:decide (v.code=0)=true:=decide_eq_true hk
 have ck:=fun h=>jM (h:=h) hv
 obtain⟨o1,o2⟩:=hv.len3
 refine ah sN rfl ?_;unfold nP
 simp only[sim,ag,Nat.reduceAdd,Nat.reduceSub,List.replicate,reduceCtorEq,Nat.reduceLeDiff,Nat.reduceLT,aa,az,d,bX,ck,o1,o2]
 exact aB (by repeat (first | exact ae.refl _ | refine ae.trans ?_ (ae.push _ _) | refine ae.trans ?_ (ae.fresh _ _))) hwA
theorem yi {v:VD} {r:List AV} (hv:VaA v r) (hk:v.code≠0):aj Try.prog po 109 [.agg r] h=some (.inr (.iface tGo (.int .i64 3)),h):=by
 have d:decide (v.code=0)=false:=decide_eq_false hk
 have ck:=fun h=>jM (h:=h) hv
 obtain⟨o1,o2⟩:=hv.len3
 refine ah sN rfl ?_;unfold nP
 simp only[sim,ag,Nat.reduceAdd,Nat.reduceSub,List.replicate,reduceCtorEq,Nat.reduceLeDiff,Nat.reduceLT,aa,az,d,bL,ck,o1,o2]
 exact nn (by repeat (first | exact ae.refl _ | refine ae.trans ?_ (ae.push _ _) | refine ae.trans ?_ (ae.fresh _ _))) rfl
theorem kX (s:St h0 F0 J0 h L) {ib:Nat} (hi:L[ib]? =some (dc bb gb wb ms kept)) (hl:ms.length=kept.length):(∀ n:Nat,aD false n h (.ptr bb 0 0)=some (.ptr gb 0 0))∧∀ n:Nat,aD false n h (.ptr bb 0 1)=some (.ptr wb 0 0):=by
 obtain⟨F,J,x⟩:=s.get ib hi
 obtain⟨row,c1,_,c2,c3,_⟩:=pz x hl
 refine⟨fun n=> ?_,fun n=> ?_⟩
 ·rw[bC,c1,Option.bind_some,List.getElem?_cons_zero,Option.bind_some,eY,c2]
 ·rw[bC,c1,Option.bind_some,List.getElem?_cons_zero,Option.bind_some,eY,c3]
theorem IZ (hW:G.Wf) (i:Int) {k:Nat} {r:Int} (hk:k<64) (hr:r=(BitVec.twoPow 64 k).toInt):aj Try.prog po 132 [.int .i64 (G.rights i),.int .i64 r] h=some (.inl (.bool (eX (G.rights i) k)),h):=by
 obtain⟨x,hx⟩:=rR hW i
 have e:C5 (G.rights i) r=eX (G.rights i) k:=by rw[hx];exact IW hk hr
 rw[←e]
 refine ah B6 rfl ?_;unfold vG
 simp only[sim,ag,Nat.reduceAdd,Nat.reduceSub,List.replicate,reduceCtorEq,Nat.reduceLeDiff,Nat.reduceLT,aa]
 rfl
abbrev M1:FuncId:=135
abbrev zR6:List AV:=[.int .i64 0,.int .i64 0,.int .i64 0,.int .i64 0,.int .i64 0,.int .i64 0]
theorem pM (s:St h0 F0 J0 h L) {im ib ig:Nat} (hm:L[im]? =some (dY mb bb fb left below top)) (hb:L[ib]? =some (dc bb gb wb ms kept)) (hg:L[ig]? =some (bo gb G)) (hl:ms.length=kept.length) (hW:G.Wf) {v:VD} {r:List AV} (hv:VaA v r) {k:Nat} {q:Int} (hk:k<64) (hq:q=(BitVec.twoPow 64 k).toInt):
  aj Try.prog po M1 [.ptr mb 0 0,.agg r,.int .i64 q] h=some (if eX (G.rights v.n) k=true then .inl (.tup [.int .i64 v.n,.agg (aC (G.target v.n).1)])else .inr (.iface tGo (.int .i64 9)),h):=by
 obtain⟨w,rfl,ho⟩:=hv.cells3
 have s1:=(s.push [[.int .i64 v.kind,.int .i64 v.n,w]]).push [zR6]
 obtain⟨a,sv,nv,g,mv⟩:=cV s1 (im+2) hm
 have l0:∀ n:Nat,aD false n _ (.ptr mb 0 0)=some (.ptr bb 0 0):=fun n=>by
  rw[bC,mv.m,Option.bind_some,List.getElem?_cons_zero,Option.bind_some,eY];rfl
 have l1:=(kX s1 (ib:=ib+2) hb hl).1
 obtain⟨F,J,gx⟩:=s1.get (ig+2) hg
 have rr:=wD (gx:IsG _ F J gb G) hW v.n
 have tt:=D9 (gx:IsG _ F J gb G) hW v.n
 have hh:=IZ (h:=(h.push [[.int .i64 v.kind,.int .i64 v.n,w]]).push [zR6]) hW v.n hk hq
 have f0:aK 0 (.ptr mb 0 0)=some (.ptr mb 0 0):=rfl
 have f1:aK 0 (.ptr bb 0 0)=some (.ptr bb 0 0):=rfl
 cases hbit:eX (G.rights v.n) k with
 | false=>
   rw[hbit]at hh
   rw[if_neg (by decide)]
   refine ah BJ rfl ?_;unfold vz
   simp only[sim,ag,Nat.reduceAdd,Nat.reduceSub,List.replicate,reduceCtorEq,Nat.reduceLeDiff,Nat.reduceLT,aa,az,ho,f0,f1,l0,l1,rr,hh,bL]
   exact nn (by repeat (first | exact ae.refl _ | refine ae.trans ?_ (ae.push _ _) | refine ae.trans ?_ (ae.fresh _ _))) rfl
 | true=>
   rw[hbit]at hh
   rw[if_pos rfl]
   refine ah BJ rfl ?_;unfold vz
   simp only[sim,ag,Nat.reduceAdd,Nat.reduceSub,List.replicate,reduceCtorEq,Nat.reduceLeDiff,Nat.reduceLT,aa,az,ho,f0,f1,l0,l1,rr,hh,bX,tt,aC,aR,Lh,vE,bc,eqF,MY,ne_eq,not_false_eq_true]
   exact aB (ae.set (by repeat (first | exact ae.refl _ | refine ae.trans ?_ (ae.push _ _) | refine ae.trans ?_ (ae.fresh _ _))) (by omega)) rfl
end
structure Cfg where
 (mb bb gb wb:Nat)
 ms:aL
structure Now where
 fb:Nat
 S:StD
 below:List FrD
 top:FrD
structure At (c:Cfg) (L:List Asn) (i:Nat) (n:Now):Prop where
 m:L[i]? =some (dY c.mb c.bb n.fb (n.S.left:Int) n.below n.top)
 b:L[i+1]? =some (dc c.bb c.gb c.wb c.ms n.S.kept)
 g:L[i+2]? =some (bo c.gb n.S.G)
 w:L[i+3]? =some (bd c.wb n.S.cells n.S.log)
def put (c:Cfg) (L:List Asn) (i:Nat) (n:Now):List Asn:=(((L.set i (dY c.mb c.bb n.fb (n.S.left:Int) n.below n.top)).set (i+1) (dc c.bb c.gb c.wb c.ms n.S.kept)).set (i+2) (bo c.gb n.S.G)).set (i+3) (bd c.wb n.S.cells n.S.log)
theorem eW {c:Cfg} {L:List Asn} {i j:Nat} {n:Now}:(put c L i n)[j]? =if j<L.length then(if j=i+3 then some (bd c.wb n.S.cells n.S.log)else if j=i+2 then some (bo c.gb n.S.G)else if j=i+1 then some (dc c.bb c.gb c.wb c.ms n.S.kept)else if j=i then some (dY c.mb c.bb n.fb (n.S.left:Int) n.below n.top)else L[j]?)else none:=by
 unfold put
 by_cases hj:j<L.length
 ·rw[if_pos hj]
  simp only[List.getElem?_set,List.length_set]
  by_cases h3:j=i+3
  ·subst h3;simp[hj]
  ·by_cases h2:j=i+2
   ·subst h2;simp[hj]
   ·by_cases h1:j=i+1
    ·subst h1;simp[hj]
    ·by_cases h0:j=i
     ·subst h0;simp[hj]
     ·simp[h0,h1,h2,h3,Ne.symm h0,Ne.symm h1,Ne.symm h2,Ne.symm h3]
 ·rw[if_neg hj,List.getElem?_eq_none (by simpa using hj)]
theorem At.len {c:Cfg} {L:List Asn} {i:Nat} {n:Now} (a:At c L i n):i+3<L.length:=(List.getElem?_eq_some_iff.1 a.w).1
theorem At.put {c:Cfg} {L:List Asn} {i:Nat} {n:Now} (a:At c L i n) (n':Now):At c (put c L i n') i n':=by
 have:=a.len
 refine⟨?_,?_,?_,?_⟩<;>rw[eW]
 ·rw[if_pos (by omega),if_neg (by omega),if_neg (by omega),if_neg (by omega),if_pos rfl]
 ·rw[if_pos (by omega),if_neg (by omega),if_neg (by omega),if_pos rfl]
 ·rw[if_pos (by omega),if_neg (by omega),if_pos rfl]
 ·rw[if_pos (by omega),if_pos rfl]
theorem pD {c:Cfg} {L:List Asn} {i:Nat} {n:Now}:(Go.Proofs.Ytkdbjfncchmmpaa.put c L i n).length=L.length:=by simp[Go.Proofs.Ytkdbjfncchmmpaa.put]
theorem jA {L L':List Asn} (h:∀ j:Nat,L[j]? =L'[j]?):L=L':=List.ext_getElem? h
theorem aO {c:Cfg} {L:List Asn} {i:Nat} {n n':Now}:put c (put c L i n) i n'=put c L i n':=by
 refine jA fun j=> ?_
 rw[eW,eW,pD,eW]
 by_cases hj:j<L.length
 ·simp only[if_pos hj]
  repeat' (first | rfl | split)
  all_goals first | rfl | omega
 ·simp only[if_neg hj]
theorem At.same {c:Cfg} {L:List Asn} {i:Nat} {n:Now} (a:At c L i n):Go.Proofs.Ytkdbjfncchmmpaa.put c L i n=L:=by
 have:=a.len
 refine jA fun j=> ?_
 rw[eW]
 split
 ·split
  ·rename_i e;rw[e,a.w]
  ·split
   ·rename_i e;rw[e,a.g]
   ·split
    ·rename_i e;rw[e,a.b]
    ·split
     ·rename_i e;rw[e,a.m]
     ·rfl
 ·rename_i hj
  exact(List.getElem?_eq_none (Nat.le_of_not_lt hj)).symm
theorem At.setM {c:Cfg} {L:List Asn} {i:Nat} {n:Now} (a:At c L i n) (fb':Nat) (l:Nat) (below':List FrD) (top':FrD):L.set i (dY c.mb c.bb fb' (l:Int) below' top')=Go.Proofs.Ytkdbjfncchmmpaa.put c L i ⟨fb',{n.S with left:=l},below',top'⟩:=by
 have:=a.len
 refine jA fun j=> ?_
 rw[eW,List.getElem?_set]
 by_cases hj:j<L.length
 ·rw[if_pos hj]
  by_cases h0:i=j
  ·subst h0
   simp[hj]
  ·rw[if_neg h0,if_neg (Ne.symm h0:¬ j=i)]
   split
   ·rename_i e;rw[e,a.w]
   ·split
    ·rename_i e;rw[e,a.g]
    ·split
     ·rename_i e;rw[e,a.b]
     ·rfl
 ·rw[if_neg hj,if_neg (by omega)]
  exact List.getElem?_eq_none (Nat.le_of_not_lt hj)
theorem At.setB {c:Cfg} {L:List Asn} {i:Nat} {n:Now} (a:At c L i n) (k:List VD):L.set (i+1) (dc c.bb c.gb c.wb c.ms k)=Go.Proofs.Ytkdbjfncchmmpaa.put c L i {n with S:={n.S with kept:=k}}:=by
 have:=a.len
 refine jA fun j=> ?_
 rw[eW,List.getElem?_set]
 by_cases hj:j<L.length
 ·rw[if_pos hj]
  by_cases h0:i+1=j
  ·subst h0
   simp[hj]
  ·rw[if_neg h0,if_neg (Ne.symm h0:¬ j=i+1)]
   split
   ·rename_i e;rw[e,a.w]
   ·split
    ·rename_i e;rw[e,a.g]
    ·split
     ·rename_i e;rw[e,a.m]
     ·rfl
 ·rw[if_neg hj,if_neg (by omega)]
  exact List.getElem?_eq_none (Nat.le_of_not_lt hj)
theorem At.setG {c:Cfg} {L:List Asn} {i:Nat} {n:Now} (a:At c L i n) (G:af):L.set (i+2) (bo c.gb G)=Go.Proofs.Ytkdbjfncchmmpaa.put c L i {n with S:={n.S with G:=G}}:=by
 have:=a.len
 refine jA fun j=> ?_
 rw[eW,List.getElem?_set]
 by_cases hj:j<L.length
 ·rw[if_pos hj]
  by_cases h0:i+2=j
  ·subst h0
   simp[hj]
  ·rw[if_neg h0,if_neg (Ne.symm h0:¬ j=i+2)]
   split
   ·rename_i e;rw[e,a.w]
   ·split
    ·rename_i e;rw[e,a.b]
    ·split
     ·rename_i e;rw[e,a.m]
     ·rfl
 ·rw[if_neg hj,if_neg (by omega)]
  exact List.getElem?_eq_none (Nat.le_of_not_lt hj)
theorem At.setW {c:Cfg} {L:List Asn} {i:Nat} {n:Now} (a:At c L i n) (cells:List Int) (log:List ff):L.set (i+3) (bd c.wb cells log)=Go.Proofs.Ytkdbjfncchmmpaa.put c L i {n with S:={n.S with cells:=cells,log:=log}}:=by
 have:=a.len
 refine jA fun j=> ?_
 rw[eW,List.getElem?_set]
 by_cases hj:j<L.length
 ·rw[if_pos hj]
  by_cases h0:i+3=j
  ·subst h0
   simp[hj]
  ·rw[if_neg h0,if_neg (Ne.symm h0:¬ j=i+3)]
   split
   ·rename_i e;rw[e,a.g]
   ·split
    ·rename_i e;rw[e,a.b]
    ·split
     ·rename_i e;rw[e,a.m]
     ·rfl
 ·rw[if_neg hj,if_neg (by omega)]
  exact List.getElem?_eq_none (Nat.le_of_not_lt hj)
theorem At.cons {c:Cfg} {L:List Asn} {i:Nat} {n:Now} (a:At c L i n) (X:Asn):At c (X::L) (i+1) n:=⟨a.m,a.b,a.g,a.w⟩
theorem ap {c:Cfg} {L:List Asn} {i:Nat} {n:Now} {X:Asn}:Go.Proofs.Ytkdbjfncchmmpaa.put c (X::L) (i+1) n=X::Go.Proofs.Ytkdbjfncchmmpaa.put c L i n:=rfl
def uO:List RS:=[(.ops [(.i (.v 3) (.box 3 (.v 1))),(.i (.v 4) (.alloc [(.int .i64 0),(.int .i64 0),.nils])),(.i (.v 5) (.alloc [(.int .i64 0)]))])]
def kT:List RS:=[(.ops [(.i .l (.mv (.v 0))),(.i .l (.load true 3 (.v 3))),(.i .l (.call (.c (.fn 120 [] [])) [(.l 1),(.l 0)])),(.i (.v 6) (.mv (.l 0)))]),(.ops [(.i .l (.mv (.v 6))),(.i (.v 8) (.bin (.int .i64) .neq (.l 0) (.c (.int .i64 0))))]),(.cond (.v 8) [(.ops [(.i .l (.build [(.int .i64 0),(.int .i64 0),.nils] [(0,1),(1,1),(2,1)] [])),(.i .l (.mv (.v 6))),(.i .n (.store 3 (.v 4) (.l 1))),(.i .n (.store 1 (.v 5) (.l 0)))]),.ret] [])]
def uI:List RS:=[(.ops [(.i .l (.mv (.v 0))),(.i .l (.mv (.v 2))),(.i .l (.build [.nilp,.nils] [(0,1),(1,1)] [(0,(.l 1)),(1,(.l 0))])),(.i .l (.box 2 (.l 0))),(.i (.v 7) (.mv (.l 0)))]),(.ops [(.i .l (.mv (.v 7))),(.i .l (.load true 3 (.v 3))),(.i .l (.call (.c (.fn 122 [] [])) [(.l 1),(.l 0)])),(.i .n (.store 3 (.v 4) (.l 0))),(.i .n (.store 1 (.v 5) (.c (.int .i64 0))))]),.ret]
def vi:List RS:=[(.ops [(.i .l (.mv (.v 0))),(.i .l (.mv (.v 2))),(.i .l (.build [.nilp,.nils] [(0,1),(1,1)] [(0,(.l 1)),(1,(.l 0))])),(.i .l (.box 2 (.l 0))),(.i (.v 7) (.mv (.l 0)))])]
def pC:List RS:=[(.ops [(.i .l (.mv (.v 2))),(.i (.v 5) (.binG .iface none true .neq (.l 0) (.c .nili)))]),(.cond (.v 5) [(.ops [(.i .l (.mv (.v 2))),(.i .l (.tas 200 true (.l 0))),(.i .l (.mv (.l 0))),(.i .l (.ext (.l 0) 0)),(.i .l (.ext (.l 1) 1)),(.i (.v 3) (.mv (.l 1))),(.i (.v 4) (.mv (.l 0)))]),(.ops [(.i .l (.mv (.v 4))),(.i (.v 6) (.un .not (.l 0)))]),(.cond (.v 6) [(.ops [(.i .l (.mv (.v 2))),(.i .n (.pan (.l 0)))])] []),(.ops [(.i .l (.build [(.int .i64 0),(.int .i64 0),.nils] [(0,1),(1,1),(2,1)] [])),(.i .l (.mv (.v 3))),(.i .n (.store 3 (.v 0) (.l 1))),(.i .n (.store 1 (.v 1) (.l 0)))])] [])]
open Go Go.RowKit
abbrev fAc:FuncId:=106
abbrev fCl:FuncId:=121
noncomputable def cAc:Code:=Try.f106.body.getD .skip
noncomputable def cCl:Code:=Try.f121.body.getD .skip
theorem JS:(Try.prog).funcs[fCl]? =some Try.f121:=Try.func121
theorem I2:Try.f121.body=some cCl:=rfl
theorem KU:cCl= .seq (cL cCl) (cR cCl):=rfl
theorem M0:Try.f121.ntmps=18:=rfl
noncomputable def clA:Oper:={dst:=some 5,op:= .call {callee:= .builtin .recover,args:= #[],argTypes:= #[]},type:=((eB (cL cCl)).getD 0 default).type,pos:=((eB (cL cCl)).getD 0 default).pos,after:= #[],guard:=none}
noncomputable def clB:Oper:={dst:=some 2,op:= .assign (.tmp 5),type:=((eB (cL cCl)).getD 1 default).type,pos:=((eB (cL cCl)).getD 1 default).pos,after:=((eB (cL cCl)).getD 1 default).after,guard:=none}
theorem E4:cL cCl= .region 0 #[clA,clB] false:=rfl
theorem Ml:be Try.prog (po.mu fCl) (po.plan fCl) 18 [0,1,2,3,4,7,14] (cR cCl) []=some pC:=by kernel_rfl
theorem Kp:cE (po.plan fCl) (po.kp fCl) (cR cCl)=true:=by kernel_rfl
theorem Mu:sa 2 18 (po.nv fCl) 7 [0,1,2,3,4,7,14]=true:=by kernel_rfl
theorem Bv {h h':AH} {e:AV} {c6 c7:Nat} {V':List AV} (hr:aq (aj Try.prog po) 7 [.ss pC,.halt []] [.ptr c6 0 0,.ptr c7 0 0,e,.junk,.junk,.junk,.junk] [] h=some (.halt [],V',h'))
  {m:Mm} {w:World} {p6 p7 v:Value} (hw:WR Try.prog m h w) (v6:VR Try.prog m h (.ptr c6 0 0) p6) (v7:VR Try.prog m h (.ptr c7 0 0) p7) (ve:VR Try.prog m h e v) {u:FrameMode} (u':FrameMode)
  (hrec:∀ c:Frame,c.mode=u→∀ cs,(recoverD (c::cs)=some (v,{c with mode:=u'}::cs))∨(recoverD (c::cs)=none∧v= .nilIface∧u'=u)):
  CallsD Try.prog fCl #[p6,p7] u w fun e u'' w'=>(∃ v,e= .returned v)∧u''=u'∧∃ m',Ext m h m' h'∧WR Try.prog m' h' w'∧Below m.base w w':=by
 intro c cs hu
 have hvs:VRs Try.prog m h [.ptr c6 0 0,.ptr c7 0 0] [p6,p7]:=⟨rfl,fun j hj hj'=>by
  match j,hj with
  | 0,_=>exact v6
  | 1,_=>exact v7⟩
 have he:=mT JS I2 [p6,p7] .deferred
 have ht:=mg (P:=Try.prog) (h:=h) (k:=18) hvs
 generalize hb:Frame.enter Try.prog fCl #[p6,p7] .deferred=b at he
 have hbk:b.kind= .deferred:=by rw[←hb];simp[Frame.enter]
 have hbf:b.fn=fCl:=by rw[←hb];simp[Frame.enter]
 have hbr:b.roundOf=none:=by rw[←hb];simp[Frame.enter]
 rw[M0]at he
 generalize ha:([p6,p7]++List.replicate (18 - [p6,p7].length) undef).toArray=ts at he ht
 have h1:Steps Try.prog (lone b (c::cs) w) (lone (b.at {tmps:=ts,defers:=[]} [.code (cL cCl),.code (cR cCl)]) (c::cs) w):=by
  rw[←he]
  conv=>lhs;rw[KU]
  exact .one step_seq
 have hsz:ts.size=18:=by rw[ht.1];rfl
 have hreg:(cL cCl).wpS Try.prog (fun e a' cs' w'=>e= .normal∧cs'={c with mode:=u'}::cs∧w'=w∧a'=(({tmps:=ts,defers:=[]}:Act).put (some 5) v).put (some 2) v) {tmps:=ts,defers:=[]} (c::cs) w:=by
  rw[E4]
  apply wpS_region
  rcases hrec c hu cs with h1 | ⟨h1,h2,h3⟩
  ·simp[wpOpsS,go_sem,clA,clB,h1,Act.put,Act.eval,hsz]
  ·have h4:({c with mode:=u'}:Frame)=c:=by rw[h3,←hu]
   simp[wpOpsS,go_sem,clA,clB,h1,Act.put,Act.eval,hsz,h2,h4]
 obtain⟨e1,a1,cs1,w1,⟨rfl,rfl,rfl,rfl⟩,harr⟩:=hreg b [.code (cR cCl)] hbk hbr
 have ht1:=(ht.put (a:={tmps:=ts,defers:=[]}) ve (some 5)).put ve (some 2)
 have rv:RV 18 [0,1,2,3,4,7,14] [] (bD (bD ([AV.ptr c6 0 0,.ptr c7 0 0]++List.replicate (18 - [AV.ptr c6 0 0,.ptr c7 0 0].length) .junk) (some 5) e) (some 2) e) [.ptr c6 0 0,.ptr c7 0 0,e,.junk,.junk,.junk,.junk] []:=by
  refine⟨by simp[bD],rfl,rfl,fun j s hj=> ?_,fun j s hj=>by simp at hj⟩
  match j,hj with
  | 0,hj | 1,hj | 2,hj | 3,hj | 4,hj | 5,hj | 6,hj=>obtain rfl:=Option.some.inj hj;exact⟨by decide,rfl⟩
  | j+7,hj=>simp at hj
 obtain⟨t',hp,hrv⟩:=oK pok (bK Mu) Ml Kp hr rv
 obtain⟨m',w',x1,x2,x3,a',x4,x5,x6⟩:=hp m w1 _ {b with defers:=[]} ({c with mode:=u'}::cs) hw ht1 rfl
 have hfin:Steps Try.prog (lone b (c::cs) w1) (lone {b.at a' []with mode:= .returning} ({c with mode:=u'}::cs) w'):=h1.trans (harr.trans (x6.trans (.one step_end)))
 refine⟨.returned (.tuple #[]),u',w',_,⟨⟨_,rfl⟩,rfl,m',x1,x2,x3⟩,hfin,hbk,rfl,x5,Try.f121,?_,?_⟩
 ·show(Try.prog).funcs[b.fn]? =_
  rw[hbf]
  exact JS
 ·simp[results,Try.results121]
theorem zc (c:Frame) (h:c.mode= .returning) (cs:List Frame):recoverD (c::cs)=none:=by simp[recoverD,h]
theorem yu {v:Value} (c:Frame) (h:c.mode= .panicking [{v:=v,recovered:=false}]) (cs:List Frame):recoverD (c::cs)=some (v,{c with mode:= .panicking [{v:=v,recovered:=true}]}::cs):=by simp[recoverD,h]
theorem LG:ka .iface none true .neq .nili .nili=some (.bool false):=rfl
theorem K1 {q:TypeId} {v:AV}:ka .iface none true .neq (.iface q v) .nili=some (.bool true):=rfl
theorem Hb {q:TypeId} {v:AV}:Ds q true (.iface q v)=some (.tup [v,.bool true]):=by simp[Ds]
theorem zQ {h:AH} {c6 c7:Nat} {m:Mm} {w:World} {p6 p7:Value} (hw:WR Try.prog m h w) (v6:VR Try.prog m h (.ptr c6 0 0) p6) (v7:VR Try.prog m h (.ptr c7 0 0) p7):
  CallsD Try.prog fCl #[p6,p7] .returning w fun e u'' w'=>(∃ v,e= .returned v)∧u''= .returning∧∃ m',Ext m h m' h∧WR Try.prog m' h w'∧Below m.base w w':=by
 refine Bv (V':=[.ptr c6 0 0,.ptr c7 0 0,.nili,.junk,.junk,.bool false,.junk]) (e:= .nili) ?_ hw v6 v7 .nili .returning fun c hc cs=> .inr ⟨zc c hc cs,rfl,rfl⟩
 unfold pC
 simp only[sim,ag,Nat.reduceAdd,Nat.reduceSub,List.replicate,reduceCtorEq,Nat.reduceLeDiff,Nat.reduceLT,aa,LG]
theorem DE {h:AH} {c6 c7:Nat} {m:Mm} {w:World} {p6 p7 u:Value} {code x y:Int} {l z:AV} (hw:WR Try.prog m h w) (v6:VR Try.prog m h (.ptr c6 0 0) p6) (v7:VR Try.prog m h (.ptr c7 0 0) p7) (vu:VR Try.prog m h (.iface mH (.int .i64 code)) u)
  (h6:h.cell c6=some [[.int .i64 x,.int .i64 y,l]]) (h7:h.cell c7=some [[z]]) (hne:c7≠c6) (hl:l.one=true):
  CallsD Try.prog fCl #[p6,p7] (.panicking [{v:=u,recovered:=false}]) w fun e u'' w'=>(∃ v,e= .returned v)∧u''= .panicking [{v:=u,recovered:=true}]∧
   ∃ m',Ext m h m' ((h.set c6 (some [[.int .i64 0,.int .i64 0,.nils]])).set c7 (some [[.int .i64 code]]))∧WR Try.prog m' ((h.set c6 (some [[.int .i64 0,.int .i64 0,.nils]])).set c7 (some [[.int .i64 code]])) w'∧Below m.base w w':=by
 refine Bv (V':=[.ptr c6 0 0,.ptr c7 0 0,.iface mH (.int .i64 code),.int .i64 code,.bool true,.bool true,.bool false]) (e:= .iface mH (.int .i64 code)) ?_ hw v6 v7 vu (.panicking [{v:=u,recovered:=true}]) fun c hc cs=> .inl (yu c hc cs)
 have h7':(h.set c6 (some [[.int .i64 0,.int .i64 0,.nils]])).cell c7=some [[z]]:=(bc hne).trans h7
 unfold pC
 simp only[sim,ag,Nat.reduceAdd,Nat.reduceSub,List.replicate,reduceCtorEq,Nat.reduceLeDiff,Nat.reduceLT,aa,K1,Hb,h6,h7']
open Go Go.RowKit
theorem LY:(Try.prog).funcs[fAc]? =some Try.f106:=Try.func106
theorem I5:Try.f106.body=some cAc:=rfl
theorem MO:Try.f106.ntmps=25:=rfl
noncomputable abbrev cY:Code:=cL (cR cAc)
noncomputable abbrev cZ:Code:=cR (cR cAc)
noncomputable abbrev cW:Code:=cR cZ
theorem KK:cAc= .seq (cL cAc) (cR cAc):=rfl
theorem Hz:cR cAc= .seq cY cZ:=rfl
theorem HP:cZ= .seq (cL cZ) cW:=rfl
theorem IL:cW= .seq (cL cW) (cR cW):=rfl
theorem Ix:cR cW= .seq (cL (cR cW)) .ret:=rfl
abbrev vA:List Nat:=[0,1,2,4,6,7,8,9,14]
theorem BV:sa 3 25 (po.nv fAc) 9 vA=true:=by kernel_rfl
theorem K3:be Try.prog (po.mu fAc) (po.plan fAc) 25 vA (cL cAc) []=some uO:=by kernel_rfl
theorem KA:be Try.prog (po.mu fAc) (po.plan fAc) 25 vA cY []=some kT:=by kernel_rfl
theorem Lr:be Try.prog (po.mu fAc) (po.plan fAc) 25 vA cW []=some uI:=by kernel_rfl
theorem Lu:be Try.prog (po.mu fAc) (po.plan fAc) 25 vA (cL cW) []=some vi:=by kernel_rfl
theorem H6:cE (po.plan fAc) (po.kp fAc) (cL cAc)=true:=by kernel_rfl
theorem IN:cE (po.plan fAc) (po.kp fAc) cY=true:=by kernel_rfl
theorem HS:cE (po.plan fAc) (po.kp fAc) cW=true:=by kernel_rfl
theorem HC:cE (po.plan fAc) (po.kp fAc) (cL cW)=true:=by kernel_rfl
theorem KN:iI Try.prog vA Try.f106.results.toList=some [.cell true 3 4,.cell false 1 5]:=by kernel_rfl
noncomputable def acA:Oper:={dst:=some 17,op:= .makeFunc (.func fCl) #[] #[.tmp 6,.tmp 7],type:=((eB (cL cZ)).getD 0 default).type,pos:=((eB (cL cZ)).getD 0 default).pos,after:= #[],guard:=none}
noncomputable def acB:Oper:={dst:=none,op:= .defer {callee:= .value (.tmp 17),args:= #[],argTypes:= #[]},type:=((eB (cL cZ)).getD 1 default).type,pos:=((eB (cL cZ)).getD 1 default).pos,after:=((eB (cL cZ)).getD 1 default).after,guard:=none}
theorem IK:cL cZ= .region 4 #[acA,acB] false:=rfl
section
variable {h:AH} {m:Mm} {w:World}
abbrev zR:List AV:=[.int .i64 0,.int .i64 0,.nils]
def acH (h:AH) (r:List AV):AH:=((h.push [r]).push [zR]).push [[.int .i64 0]]
theorem Ip {b:Nat} {r:List AV} {gv:AV} {K:List Item} (o1:r.all AV.one=true) (o2:r.length=3):aq (aj Try.prog po) 9 [.ss uO,.halt K] [.ptr b 0 0,.agg r,gv,.junk,.junk,.junk,.junk,.junk,.junk] [] h=
  some (.halt K,[.ptr b 0 0,.agg r,gv,.ptr h.n 0 0,.ptr (h.n+1) 0 0,.ptr (h.n+1+1) 0 0,.junk,.junk,.junk],acH h r):=by
 unfold uO
 simp only[sim,ag,Nat.reduceAdd,Nat.reduceSub,List.replicate,reduceCtorEq,Nat.reduceLeDiff,Nat.reduceLT,aa,o1,o2,acH]
theorem IJ (x y z:AV):RV 25 vA [] ([x,y,z]++List.replicate (25 - [x,y,z].length) .junk) [x,y,z,.junk,.junk,.junk,.junk,.junk,.junk] []:=by
 refine⟨by simp,rfl,rfl,fun j s hj=> ?_,fun j s hj=>by simp at hj⟩
 match j,hj with
 | 0,hj | 1,hj | 2,hj | 3,hj | 4,hj | 5,hj | 6,hj | 7,hj | 8,hj=>obtain rfl:=Option.some.inj hj;exact⟨by decide,rfl⟩
 | j+9,hj=>simp at hj
theorem zr {b:Nat} {r:List AV} {gv:AV} {x:AEx} {V2:List AV} {h2:AH} (o1:r.all AV.one=true) (o2:r.length=3)
  (hr:aq (aj Try.prog po) 9 [.ss kT,.halt [.code cZ]] [.ptr b 0 0,.agg r,gv,.ptr h.n 0 0,.ptr (h.n+1) 0 0,.ptr (h.n+1+1) 0 0,.junk,.junk,.junk] [] (acH h r)=some (x,V2,h2)) (hx:∀ v,x≠.panic v)
  {vs:List Value} (hw:WR Try.prog m h w) (hvs:VRs Try.prog m h [.ptr b 0 0,.agg r,gv] vs) (cs:List Frame):
  ∃ (bf:Frame) (t2:List AV),bf.fn=fAc∧bf.kind= .normal∧bf.defers=[]∧RV 25 vA [] t2 V2 []∧bR Try.prog (po.kp fAc) m h w bf cs (lone (Frame.enter Try.prog fAc vs.toArray .normal) cs w) (x,t2,h2):=by
 have he:=mT LY I5 vs .normal
 have ht:=mg (P:=Try.prog) (h:=h) (k:=25) hvs
 rw[MO]at he
 obtain⟨t1,hp1,rv1⟩:=oK pok (bK BV) K3 H6 (Ip (K:=[.code (cR cAc)]) (h:=h) (gv:=gv) (b:=b) o1 o2) (IJ _ _ _)
 obtain⟨t2,hp2,rv2⟩:=oK pok (bK BV) KA IN hr rv1
 refine⟨Frame.enter Try.prog fAc vs.toArray .normal,t2,by simp[Frame.enter],by simp[Frame.enter],by simp[Frame.enter],rv2,?_⟩
 generalize Frame.enter Try.prog fAc vs.toArray .normal=bf at he ⊢
 obtain⟨m1,w1,x1,x2,x3,a1,x4,x5,x6⟩:=hp1 m w {tmps:=_,defers:=[]} {bf with defers:=[]} cs hw ht rfl
 have x5:a1.defers=[]:=x5
 have s0:Steps Try.prog (lone bf cs w) (lone (bf.at a1 [.code cY,.code cZ]) cs w1):=by
  conv=>lhs;rw[←he,KK]
  refine .head step_seq (x6.trans ?_)
  conv=>lhs;rw[Hz]
  exact .one step_seq
 obtain⟨m2,w2,y1,y2,y3,y4⟩:=hp2 m1 w1 a1 {bf with defers:=[]} cs x2 x4 x5
 have y5:bR Try.prog (po.kp fAc) m1 (acH h r) w1 {bf with defers:=[]} cs (lone (bf.at a1 [.code cY,.code cZ]) cs w1) (x,t2,h2):=⟨m2,w2,y1,y2,y3,y4⟩
 have y6:=bR.steps s0 (bR.after x1 x3 y5)
 have hd:bf.defers=[]:=by rw[←he];rfl
 have hbf:({bf with defers:=[]}:Frame)=bf:=by rw[←hd]
 rwa [hbf]at y6
theorem vU {t V:List AV} {h:AH} {v:AV} (rv:RV 25 vA [] t V []) (hv:(eL V h [.cell true 3 4,.cell false 1 5]).map fq=some v):lO Try.f106 t h Try.prog=some v:=by
 unfold lO
 rw[fR (h:=h) rv KN]
 exact hv
theorem Kr {h:AH} {b:Nat} {es:Option (List (List AV))} (hc:h.cell b=es):h.set b es=h:=by
 cases h with
 | mk=>
   simp only[AH.set,AH.mk.injEq,and_true,true_and]
   funext k
   by_cases hk:k=b
   ·subst hk
    simpa using hc.symm
   ·simp[hk]
theorem zV {b:Nat} {r:List AV} {gv:AV} {c:Int} (o1:r.all AV.one=true) (o2:r.length=3) (hc:c≠0)
  (eM:aj Try.prog po 120 [.ptr b 0 0,.agg r] (acH h r)=some (.inl (.int .i64 c),acH h r)):
  AC Try.prog fAc [.ptr b 0 0,.agg r,gv] h (.inl (.tup [.agg zR,.int .i64 c]),(acH h r).set (h.n+1+1) (some [[.int .i64 c]])):=by
 intro m w vs hw hvs cs
 have c4:(acH h r).cell h.n=some [r]:=gE
 have c6:(acH h r).cell (h.n+1)=some [zR]:=jO
 have c7:(acH h r).cell (h.n+1+1)=some [[.int .i64 0]]:=eZ
 have hs6:(acH h r).set (h.n+1) (some [zR])=acH h r:=Kr c6
 have hr:aq (aj Try.prog po) 9 [.ss kT,.halt [.code cZ]] [.ptr b 0 0,.agg r,gv,.ptr h.n 0 0,.ptr (h.n+1) 0 0,.ptr (h.n+1+1) 0 0,.junk,.junk,.junk] [] (acH h r)=
   some (.ret,[.ptr b 0 0,.agg r,gv,.ptr h.n 0 0,.ptr (h.n+1) 0 0,.ptr (h.n+1+1) 0 0,.int .i64 c,.junk,.bool true],(acH h r).set (h.n+1+1) (some [[.int .i64 c]])):=by
  unfold kT
  simp only[sim,ag,Nat.reduceAdd,Nat.reduceSub,List.replicate,reduceCtorEq,Nat.reduceLeDiff,Nat.reduceLT,aa,c4,bI o2,eM,hc,c6,hs6,c7]
 obtain⟨bf,t2,b1,b2,b3,rv,m',w',x1,x2,x3,a',todo,x4,x5,x6⟩:=zr o1 o2 hr (fun v=>by simp) hw hvs cs
 rw[b3]at x5
 have hres:=vU (h:=(acH h r).set (h.n+1+1) (some [[.int .i64 c]])) (v:= .tup [.agg zR,.int .i64 c]) rv (by
  have q6:((acH h r).set (h.n+1+1) (some [[.int .i64 c]])).cell (h.n+1)=some [zR]:=(bc (by omega)).trans c6
  simp only[sim,ag,Nat.reduceAdd,Nat.reduceSub,List.replicate,reduceCtorEq,Nat.reduceLeDiff,Nat.reduceLT,aa,q6])
 obtain⟨u,h7,h8⟩:=fT x2 x4 hres
 exact⟨.returned u,w',_,⟨m',x1,x2,x3,u,rfl,h8⟩,x6,b1,rfl,x5,b2,_,by simp[Frame.at,b1],h7⟩
theorem vV {n:Nat} {vm:List Nat} {t V:List AV} {i:Nat} {v:AV} (rv:RV n vm [] t V []) (hi:i ∉ vm):RV n vm [] (bD t (some i) v) V []:=by
 refine⟨by simpa[bD]using rv.len,rv.lv,rv.ll,fun j s hj=> ?_,fun j s hj=>by simp at hj⟩
 obtain⟨h1,h2⟩:=rv.v j s hj
 refine⟨h1,?_⟩
 rw[←h2]
 have hne:i≠s:=fun e=>hi (by rw[e];exact List.mem_of_getElem? hj)
 simp[bD,List.getD,List.getElem?_set,hne]
theorem BU {n:Nat} {vm:List Nat} {t V:List AV} (rv:RV n vm [] t V []) {j s:Nat} (hj:vm[j]? =some s):s<t.length∧t.getD s .junk=V.getD j .junk:=by
 obtain⟨h1,h2⟩:=rv.v j s hj
 exact⟨by rw[rv.len];exact h1,h2⟩
theorem Eh {bf:Frame} {a2:Act} {cs:List Frame} {p6 p7:Value} (hsz:a2.tmps.size=25) (h6:a2.tmps.getD 6 undef=p6) (h7:a2.tmps.getD 7 undef=p7):
  Steps Try.prog (lone (bf.at a2 [.code cZ]) cs w) (lone (bf.at {a2.put (some 17) (.func (.func fCl) #[] #[p6,p7])with defers:={target:= .fn (.func fCl) #[p6,p7],args:= #[]}::a2.defers} [.code cW]) cs w):=by
 have hw:(cL cZ).wp Try.prog (fun e a' w'=>e= .normal∧w'=w∧a'={a2.put (some 17) (.func (.func fCl) #[] #[p6,p7])with defers:={target:= .fn (.func fCl) #[p6,p7],args:= #[]}::a2.defers}) a2 w:=by
  have hmf:∀ (fn:Fn) (first cap:Array Value) (w:World),(Instr.makeFunc fn first cap).run Try.prog w= .ok (.func fn first cap) w:=fun _ _ _ _=>rfl
  subst h6 h7
  rw[IK]
  apply wp_region
  simp[wpOps,go_sem,acA,acB,hmf,Act.put,Act.eval,hsz]
 obtain⟨e,a',w',⟨rfl,rfl,rfl⟩,harr⟩:=hw bf [.code cW] cs
 conv=>lhs;rw[HP]
 exact .head step_seq harr
theorem BL {b:Nat} {r:List AV} {gv:AV} (o2:r.length=3) (eM:aj Try.prog po 120 [.ptr b 0 0,.agg r] (acH h r)=some (.inl (.int .i64 0),acH h r)):
  aq (aj Try.prog po) 9 [.ss kT,.halt [.code cZ]] [.ptr b 0 0,.agg r,gv,.ptr h.n 0 0,.ptr (h.n+1) 0 0,.ptr (h.n+1+1) 0 0,.junk,.junk,.junk] [] (acH h r)=
   some (.halt [.code cZ],[.ptr b 0 0,.agg r,gv,.ptr h.n 0 0,.ptr (h.n+1) 0 0,.ptr (h.n+1+1) 0 0,.int .i64 0,.junk,.bool false],acH h r):=by
 have c4:(acH h r).cell h.n=some [r]:=gE
 unfold kT
 simp only[sim,ag,Nat.reduceAdd,Nat.reduceSub,List.replicate,reduceCtorEq,Nat.reduceLeDiff,Nat.reduceLT,aa,c4,bI o2,eM]
theorem uQ {h2:AH} {m2:Mm} {t2 V2:List AV} {a2:Act} (rv:RV 25 vA [] t2 V2 []) (ht:TR Try.prog m2 h2 t2 a2.tmps) {j s:Nat} (hj:vA[j]? =some s):VR Try.prog m2 h2 (V2.getD j .junk) (a2.tmps.getD s undef):=by
 obtain⟨h1,e1⟩:=BU rv hj
 rw[←e1]
 exact Kf ht h1
theorem Mw {b:Nat} {r r':List AV} {gv:AV} {h4:AH} (o1:r.all AV.one=true) (o2:r.length=3) (o3:r'.all AV.one=true) (o4:r'.length=3) (og:gv= .nils∨∃ id e rows,gv= .isl id e rows)
  (eM:aj Try.prog po 120 [.ptr b 0 0,.agg r] (acH h r)=some (.inl (.int .i64 0),acH h r))
  (eV:aj Try.prog po 122 [.ptr (acH h r).n 0 0,.agg r] ((acH h r).push [[.ptr b 0 0,gv]])=some (.inl (.agg r'),h4)) (k6:h4.cell (h.n+1)=some [zR]) (k7:h4.cell (h.n+1+1)=some [[.int .i64 0]]):
  AC Try.prog fAc [.ptr b 0 0,.agg r,gv] h (.inl (.tup [.agg r',.int .i64 0]),(h4.set (h.n+1) (some [r'])).set (h.n+1+1) (some [[.int .i64 0]])):=by
 intro m w vs hw hvs cs
 have c4:((acH h r).push [[.ptr b 0 0,gv]]).cell h.n=some [r]:=(aR (by simp only[acH,aM];omega)).trans gE
 have k7':(h4.set (h.n+1) (some [r'])).cell (h.n+1+1)=some [[.int .i64 0]]:=(bc (by omega)).trans k7
 have hr2:aq (aj Try.prog po) 9 [.ss uI,.halt []] [.ptr b 0 0,.agg r,gv,.ptr h.n 0 0,.ptr (h.n+1) 0 0,.ptr (h.n+1+1) 0 0,.int .i64 0,.junk,.bool false] [] (acH h r)=
   some (.ret,[.ptr b 0 0,.agg r,gv,.ptr h.n 0 0,.ptr (h.n+1) 0 0,.ptr (h.n+1+1) 0 0,.int .i64 0,.ptr (acH h r).n 0 0,.bool false],(h4.set (h.n+1) (some [r'])).set (h.n+1+1) (some [[.int .i64 0]])):=by
  unfold uI
  rcases og with rfl | ⟨id,e,rows,rfl⟩
  ·simp only[sim,ag,Nat.reduceAdd,Nat.reduceSub,List.replicate,reduceCtorEq,Nat.reduceLeDiff,Nat.reduceLT,aa,c4,bI o2,eV,k6,o3,o4,k7']
  ·simp only[sim,ag,Nat.reduceAdd,Nat.reduceSub,List.replicate,reduceCtorEq,Nat.reduceLeDiff,Nat.reduceLT,aa,c4,bI o2,eV,k6,o3,o4,k7']
 obtain⟨bf,t2,b1,b2,b3,rv,m2,w2,x1,x2,x3,a2,x4,x5,x6⟩:=zr o1 o2 (BL (gv:=gv) o2 eM) (fun v=>by simp) hw hvs cs
 rw[b3]at x5
 have v6:=uQ rv x4 (j:=4) (s:=6) rfl
 have v7:=uQ rv x4 (j:=5) (s:=7) rfl
 have hsz:a2.tmps.size=25:=by rw[x4.1,rv.len]
 have lay:=Eh (w:=w2) (bf:=bf) (a2:=a2) (cs:=cs) hsz rfl rfl
 generalize hp6:a2.tmps.getD 6 undef=p6 at v6 lay
 generalize hp7:a2.tmps.getD 7 undef=p7 at v7 lay
 rw[x5]at lay
 have ht3:=x4.put (VR.junk (.func (.func fCl) #[] #[p6,p7])) (some 17)
 have rv3:=vV (i:=17) (v:= .junk) rv (by decide)
 obtain⟨t5,hp,rv5⟩:=oK pok (bK BV) Lr HS hr2 rv3
 obtain⟨m3,w3,y1,y2,y3,a5,todo,y4,y5,y6⟩:=hp m2 w2 {a2.put (some 17) (.func (.func fCl) #[] #[p6,p7])with defers:=[{target:= .fn (.func fCl) #[p6,p7],args:= #[]}]} {bf with defers:=[{target:= .fn (.func fCl) #[p6,p7],args:= #[]}]} cs x2 ht3 rfl
 have hlv:Leaves Try.prog Try.f106 a5.tmps (fun e w'=>∃ m',Ext m h m' ((h4.set (h.n+1) (some [r'])).set (h.n+1+1) (some [[.int .i64 0]]))∧WR Try.prog m' ((h4.set (h.n+1) (some [r'])).set (h.n+1+1) (some [[.int .i64 0]])) w'∧Below m.base w w'∧∃ u,e= .returned u∧VR Try.prog m' ((h4.set (h.n+1) (some [r'])).set (h.n+1+1) (some [[.int .i64 0]])) (.tup [.agg r',.int .i64 0]) u) [{target:= .fn (.func fCl) #[p6,p7],args:= #[]}] .returning w3:=by
  refine leaves_cons (f:=fCl) (args:= #[p6,p7]) (by simp) (by simp[go_sem]) ?_
  refine(zQ y2 (v6.ext y1) (v7.ext y1)).mono ?_
  rintro e u'' w' ⟨⟨v,rfl⟩,rfl,m4,z1,z2,z3⟩
  have hres:=vU (h:=(h4.set (h.n+1) (some [r'])).set (h.n+1+1) (some [[.int .i64 0]])) (v:= .tup [.agg r',.int .i64 0]) rv5 (by
   have q6:((h4.set (h.n+1) (some [r'])).set (h.n+1+1) (some [[.int .i64 0]])).cell (h.n+1)=some [r']:=(bc (by omega)).trans aP
   simp only[sim,ag,Nat.reduceAdd,Nat.reduceSub,List.replicate,reduceCtorEq,Nat.reduceLeDiff,Nat.reduceLT,aa,q6,bI o4])
  obtain⟨u,h7,h8⟩:=fT z2 (y4.ext z1) hres
  refine⟨u,h7,m4,(x1.trans y1).trans z1,z2,?_,u,rfl,h8⟩
  have q1:m2.base=m.base:=x1.base
  have q2:m3.base=m2.base:=y1.base
  rw[q2,q1]at z3
  rw[q1]at y3
  exact(x3.trans y3).trans z3
 obtain⟨e,w4,fr',hR,hs,hfn,hl⟩:=leaves_steps [{target:= .fn (.func fCl) #[p6,p7],args:= #[]}] .returning w3 {(({bf with defers:=[{target:= .fn (.func fCl) #[p6,p7],args:= #[]}]}:Frame).at a5 todo)with mode:= .returning} cs rfl y5 rfl (by simp[Frame.at,b1]) (by simpa[Frame.at]using b2) hlv
 exact⟨e,w4,fr',hR,Comes.of_steps (x6.trans (lay.trans y6)) hs,hfn.trans b1,hl⟩
noncomputable abbrev sr:Array Oper:=eB (cL (cR cW))
noncomputable abbrev o6 (i:Nat):Oper:=sr.getD i default
theorem Lg:cL (cR cW)= .region 6 sr false:=rfl
theorem MG:((Try.prog).underlying tV).isNone=false:=by kernel_rfl
theorem MJ:fw Try.prog tV=true:=by kernel_rfl
theorem MX:szA Try.prog tV=3:=by kernel_rfl
theorem MU (t:List AV) (h:AH):OpF Try.prog po fAc t h (o6 0) (t.getD 9 .junk) h:= .inl ⟨rfl,rfl⟩
theorem MR {t:List AV} {h:AH} {v:AV} (hl:aD true 3 h (t.getD 4 .junk)=some v):OpF Try.prog po fAc t h (o6 1) v h:=by
 refine .inl ⟨rfl,?_⟩
 show(if((Try.prog).underlying tV).isNone then none else(aD (fw Try.prog tV) (szA Try.prog tV) h (t.getD 4 .junk)).map fun v=>(v,h))=_
 rw[MG,MJ,MX,hl]
 rfl
theorem MH (t:List AV):aF t (o6 2)=some (122,[t.getD 22 .junk,t.getD 23 .junk]):=rfl
theorem KY:∃ fn,(Try.prog).funcs[(122:Nat)]? =some fn∧(fn.body.isNone=false∧(fn.name== "runtime.NumGoroutine")=false):=⟨_,Try.func122,by kernel_rfl,by kernel_rfl⟩
theorem IG {b:Nat} {r:List AV} {gv:AV} {h4:AH} {c:Int} (o1:r.all AV.one=true) (o2:r.length=3) (og:gv= .nils∨∃ id e rows,gv= .isl id e rows)
  (eM:aj Try.prog po 120 [.ptr b 0 0,.agg r] (acH h r)=some (.inl (.int .i64 0),acH h r))
  (eV:aj Try.prog po 122 [.ptr (acH h r).n 0 0,.agg r] ((acH h r).push [[.ptr b 0 0,gv]])=some (.inr (.iface mH (.int .i64 c)),h4)) (k6:h4.cell (h.n+1)=some [zR]) (k7:h4.cell (h.n+1+1)=some [[.int .i64 0]]):
  AC Try.prog fAc [.ptr b 0 0,.agg r,gv] h (.inl (.tup [.agg zR,.int .i64 c]),(h4.set (h.n+1) (some [zR])).set (h.n+1+1) (some [[.int .i64 c]])):=by
 intro m w vs hw hvs cs
 have c4:((acH h r).push [[.ptr b 0 0,gv]]).cell h.n=some [r]:=(aR (by simp only[acH,aM];omega)).trans gE
 have hr3:aq (aj Try.prog po) 9 [.ss vi,.halt [.code (cR cW)]] [.ptr b 0 0,.agg r,gv,.ptr h.n 0 0,.ptr (h.n+1) 0 0,.ptr (h.n+1+1) 0 0,.int .i64 0,.junk,.bool false] [] (acH h r)=
   some (.halt [.code (cR cW)],[.ptr b 0 0,.agg r,gv,.ptr h.n 0 0,.ptr (h.n+1) 0 0,.ptr (h.n+1+1) 0 0,.int .i64 0,.ptr (acH h r).n 0 0,.bool false],(acH h r).push [[.ptr b 0 0,gv]]):=by
  unfold vi
  rcases og with rfl | ⟨id,e,rows,rfl⟩
  ·simp only[sim,ag,Nat.reduceAdd,Nat.reduceSub,List.replicate,reduceCtorEq,Nat.reduceLeDiff,Nat.reduceLT,aa]
  ·simp only[sim,ag,Nat.reduceAdd,Nat.reduceSub,List.replicate,reduceCtorEq,Nat.reduceLeDiff,Nat.reduceLT,aa]
 obtain⟨bf,t2,b1,b2,b3,rv,m2,w2,x1,x2,x3,a2,x4,x5,x6⟩:=zr o1 o2 (BL (gv:=gv) o2 eM) (fun v=>by simp) hw hvs cs
 rw[b3]at x5
 have v6:=uQ rv x4 (j:=4) (s:=6) rfl
 have v7:=uQ rv x4 (j:=5) (s:=7) rfl
 have hsz:a2.tmps.size=25:=by rw[x4.1,rv.len]
 have lay:=Eh (w:=w2) (bf:=bf) (a2:=a2) (cs:=cs) hsz rfl rfl
 generalize hp6:a2.tmps.getD 6 undef=p6 at v6 lay
 generalize hp7:a2.tmps.getD 7 undef=p7 at v7 lay
 rw[x5]at lay
 have ht3:=x4.put (VR.junk (.func (.func fCl) #[] #[p6,p7])) (some 17)
 have rv3:=vV (i:=17) (v:= .junk) rv (by decide)
 obtain⟨t5,hp,rv5⟩:=oK pok (bK BV) Lu HC hr3 rv3
 obtain⟨m3,w3,y1,y2,y3,a5,y4,y5,y6⟩:=hp m2 w2 {a2.put (some 17) (.func (.func fCl) #[] #[p6,p7])with defers:=[{target:= .fn (.func fCl) #[p6,p7],args:= #[]}]} {bf with defers:=[{target:= .fn (.func fCl) #[p6,p7],args:= #[]}]} cs x2 ht3 rfl
 have s1:Steps Try.prog (lone (bf.at {a2.put (some 17) (.func (.func fCl) #[] #[p6,p7])with defers:=[{target:= .fn (.func fCl) #[p6,p7],args:= #[]}]} [.code cW]) cs w2) (lone (bf.at a5 [.inRegion sr [0,1,2,3,4],.code .ret]) cs w3):=by
  conv=>lhs;rw[IL]
  refine .head step_seq (y6.trans ?_)
  conv=>lhs;rw[Ix]
  refine .head step_seq ?_
  conv=>lhs;rw[Lg]
  exact .one step_region
 -- the first two operations of the last statement
 obtain⟨q9,e9⟩:=BU rv5 (j:=7) (s:=9) rfl
 obtain⟨q4,e4⟩:=BU rv5 (j:=3) (s:=4) rfl
 obtain⟨m6,w6,u6,d1,d2,d3,d4,d5⟩:=nQ (b:=bf) (cs:=cs) (K:=[.code .ret]) (all:=sr) (i:=0) (rest:=[1,2,3,4]) pok rfl (rfl:aV sr t5 (o6 0)=some true) y2 y4 (MU t5 _)
 have ht6:=(y4.ext d1).put d3 (some 22)
 have rv6:=vV (i:=22) (v:=t5.getD 9 .junk) rv5 (by decide)
 obtain⟨q4',e4'⟩:=BU rv6 (j:=3) (s:=4) rfl
 obtain⟨m7,w7,u7,f1,f2,f3,f4,f5⟩:=nQ (b:=bf) (cs:=cs) (K:=[.code .ret]) (all:=sr) (i:=1) (rest:=[2,3,4]) (o:=o6 1) (a:=a5.put (some 22) u6) (v:= .agg r) pok rfl (rfl:aV sr _ (o6 1)=some true) d2 ht6 (MR (by
  rw[e4']
  simp[aD,AH.row,c4,bI o2]))
 have ht7:=(ht6.ext f1).put f3 (some 23)
 have rv7:=vV (i:=23) (v:= .agg r) rv6 (by decide)
 -- the call that gives up
 obtain⟨fn,g1,g2,g3⟩:=KY
 have hl7:(bD (bD t5 (some 22) (t5.getD 9 .junk)) (some 23) (.agg r)).length=25:=rv7.len
 have hl5:t5.length=25:=rv5.len
 have ecl:=MH (bD (bD t5 (some 22) (t5.getD 9 .junk)) (some 23) (.agg r))
 have ea:(bD (bD t5 (some 22) (t5.getD 9 .junk)) (some 23) (.agg r)).getD 22 .junk= .ptr (acH h r).n 0 0:=by
  have:(bD (bD t5 (some 22) (t5.getD 9 .junk)) (some 23) (.agg r)).getD 22 .junk=t5.getD 9 .junk:=by simp[bD,List.getD,List.getElem?_set,hl5]
  rw[this,e9]
  rfl
 have eb:(bD (bD t5 (some 22) (t5.getD 9 .junk)) (some 23) (.agg r)).getD 23 .junk= .agg r:=by simp[bD,List.getD,List.getElem?_set,hl5]
 rw[ea,eb]at ecl
 have hac:=qY pok eV
 obtain⟨vs7,v1,v2⟩:=gP (w:=w7) ht7 ecl g1 g3 g2
 obtain⟨e,w8,hR,hst⟩:=jv (b:=bf) (cs:=cs) (k:=[.code .ret]) (rest:=[3,4]) (all:=sr) (i:=2) rfl (dC ht7 sr (o6 2) (rfl:aV sr _ (o6 2)=some true)) v2 (hac m7 w7 vs7 f2 v1) (by rintro w' ⟨m',_,_,_,u',h,_⟩;cases h)
 obtain⟨m8,z1,z2,z3,u8,rfl,z5⟩:=hR
 rcases hst with⟨v',h3,_⟩ | ⟨ch,h3,todo,z6⟩
 ·cases h3
 injection h3 with h3
 subst h3
 have hlv:Leaves Try.prog Try.f106 ((a5.put (some 22) u6).put (some 23) u7).tmps (fun e w'=>∃ m',Ext m h m' ((h4.set (h.n+1) (some [zR])).set (h.n+1+1) (some [[.int .i64 c]]))∧WR Try.prog m' ((h4.set (h.n+1) (some [zR])).set (h.n+1+1) (some [[.int .i64 c]])) w'∧Below m.base w w'∧∃ u,e= .returned u∧VR Try.prog m' ((h4.set (h.n+1) (some [zR])).set (h.n+1+1) (some [[.int .i64 c]])) (.tup [.agg zR,.int .i64 c]) u) [{target:= .fn (.func fCl) #[p6,p7],args:= #[]}] (.panicking [{v:=u8,recovered:=false}]) w8:=by
  refine leaves_cons (f:=fCl) (args:= #[p6,p7]) (by simp) (by simp[go_sem]) ?_
  refine(DE (code:=c) z2 (((((v6.ext y1).ext d1).ext f1).ext z1)) (((((v7.ext y1).ext d1).ext f1).ext z1)) z5 k6 k7 (by omega) rfl).mono ?_
  rintro e u'' w' ⟨⟨v,rfl⟩,rfl,m9,n1,n2,n3⟩
  have hres:=vU (h:=(h4.set (h.n+1) (some [zR])).set (h.n+1+1) (some [[.int .i64 c]])) (v:= .tup [.agg zR,.int .i64 c]) rv7 (by
   have q6:((h4.set (h.n+1) (some [zR])).set (h.n+1+1) (some [[.int .i64 c]])).cell (h.n+1)=some [zR]:=(bc (by omega)).trans aP
   simp only[sim,ag,Nat.reduceAdd,Nat.reduceSub,List.replicate,reduceCtorEq,Nat.reduceLeDiff,Nat.reduceLT,aa,q6])
  obtain⟨u,h7,h8⟩:=fT n2 ((ht7.ext z1).ext n1) hres
  refine⟨u,h7,m9,((((x1.trans y1).trans d1).trans f1).trans z1).trans n1,n2,?_,u,rfl,h8⟩
  have q1:m2.base=m.base:=x1.base
  have q2:m3.base=m2.base:=y1.base
  have q3:m6.base=m3.base:=d1.base
  have q5:m7.base=m6.base:=f1.base
  have q6:m8.base=m7.base:=z1.base
  rw[q6,q5,q3,q2,q1]at n3
  rw[q5,q3,q2,q1]at z3
  rw[q3,q2,q1]at f4
  rw[q2,q1]at d4
  rw[q1]at y3
  exact((((x3.trans y3).trans d4).trans f4).trans z3).trans n3
 have hdf:((a5.put (some 22) u6).put (some 23) u7).defers=[{target:= .fn (.func fCl) #[p6,p7],args:= #[]}]:=y5
 obtain⟨e,w9,fr',hR,hs,hfn,hl⟩:=leaves_steps [{target:= .fn (.func fCl) #[p6,p7],args:= #[]}] (.panicking [{v:=u8,recovered:=false}]) w8 {(bf.at ((a5.put (some 22) u6).put (some 23) u7) todo)with mode:= .panicking [{v:=u8,recovered:=false}]} cs rfl hdf rfl (by simp[Frame.at,b1]) (by simpa[Frame.at]using b2) hlv
 exact⟨e,w9,fr',hR,Comes.of_steps (x6.trans (lay.trans (s1.trans (d5.trans (f5.trans z6))))) hs,hfn.trans b1,hl⟩
end
section
variable {h:AH} {F J:Nat→Prop} {b:Nat} {G:af}
theorem zI (g:IsG h F J b G) (r:List AV):Mv h F J b (acH h r) G [h.n+1+1,h.n+1,h.n] []:=(((Mv.start g).push [r]).push [zR]).push [[.int .i64 0]]
theorem mN (g:IsG h F J b G) (hW:G.Wf) {x:VD} {r:List AV} (hx:VaA x r):aj Try.prog po 120 [.ptr b 0 0,.agg r] (acH h r)=some (.inl (.int .i64 (qp G x)),acH h r):=by
 obtain⟨F2,J2,g2⟩:=(zI g r).isG
 exact Eo g2 hW hx
theorem GG {x:VD} (hz:qp G x=0):x.size≤100000:=by
 have:x.code=0:=by
  unfold qp at hz
  split at hz
  ·exact hz
  ·rename_i hc
   simpa using hc
 have:=yk this
 omega
theorem ql (g:IsG h F J b G) (hW:G.Wf) {x:VD} {r:List AV} {gv:AV} {ks:List Int} (hx:VaA x r) (hg:SlA 3 gv (dw ks)) (hk:ks.length≤1000000) (hz:qp G x=0):
  ∃ h4,(∃ q,aj Try.prog po 122 [.ptr (acH h r).n 0 0,.agg r] ((acH h r).push [[.ptr b 0 0,gv]])=some (q,h4)∧FQ ks G x q)∧Mv h F J b h4 (dA ks x G).1 [(acH h r).n,h.n+1+1,h.n+1,h.n] []∧h4.cell (h.n+1)=some [zR]∧h4.cell (h.n+1+1)=some [[.int .i64 0]]:=by
 have m1:=(zI g r).push [[.ptr b 0 0,gv]]
 obtain⟨h4,e,m2,k, -, -⟩:=m1.callF (R:=fun h4=>∃ q,aj Try.prog po 122 [.ptr (acH h r).n 0 0,.agg r] ((acH h r).push [[.ptr b 0 0,gv]])=some (q,h4)∧FQ ks G x q) (G':=(dA ks x G).1) fun F2 J2 g2 _ hC=>by
  obtain⟨q,h4,e,r2,d⟩:=GZ hg.isL hk _ x (Nat.le_refl _) (GG hz) r ((acH h r).push [[.ptr b 0 0,gv]]) F2 J2 G g2 hW (by simp only[aM];omega) (hC _ (by simp)) aE hx
  exact⟨h4,⟨q,e,r2⟩,d⟩
 refine⟨h4,e,m2,(k _ (by simp)).trans ?_,(k _ (by simp)).trans ?_⟩
 ·exact(aR (by simp only[acH,aM];omega)).trans jO
 ·exact(aR (by simp only[acH,aM];omega)).trans eZ
theorem Fk {gv:AV} {e:TypeId} {rows:List (List AV)} (hg:SlA e gv rows):gv= .nils∨∃ id e rows,gv= .isl id e rows:=by
 rcases hg with⟨_,h⟩ | ⟨id,h⟩
 ·exact .inl h
 ·exact .inr ⟨_,_,_,h⟩
theorem Cr (g:IsG h F J b G) (hW:G.Wf) {x:VD} {r:List AV} {gv:AV} {ks:List Int} (hx:VaA x r) (hg:SlA 3 gv (dw ks)) (hk:ks.length≤1000000):
  ∃ q,AC Try.prog fAc [.ptr b 0 0,.agg r,gv] h q∧qh [.ptr b 0 0,.agg r,gv] h q:=by
 obtain⟨o1,o2⟩:=hx.one
 have eM:=mN g hW hx
 by_cases hz:qp G x=0
 ·rw[hz]at eM
  obtain⟨h4,⟨q,eV,rV⟩,mv,k6,k7⟩:=ql g hW hx hg hk hz
  rcases rV with⟨hz2,r',rfl,x2⟩ | ⟨hz2,rfl⟩
  ·obtain⟨o3,o4⟩:=x2.one
   refine⟨_,Mw o1 o2 o3 o4 (Fk hg) eM eV k6 k7,?_⟩
   rintro F2 J2 b2 G2 x3 r3 gv3 ks3 e g3 hW3 hx3 hg3 hk3
   simp only[List.cons.injEq,AV.ptr.injEq,AV.agg.injEq,and_true]at e
   obtain⟨rfl,rfl,rfl⟩:=e
   have eM3:=mN g3 hW3 hx3
   rw[eM]at eM3
   simp only[Option.some.injEq,Prod.mk.injEq,Sum.inl.injEq,AV.int.injEq,true_and,and_true]at eM3
   obtain⟨h5,⟨q,eV3,rV3⟩,mv3, -, -⟩:=ql g3 hW3 hx3 hg3 hk3 eM3.symm
   rw[eV]at eV3
   simp only[Option.some.injEq,Prod.mk.injEq]at eV3
   obtain⟨rfl,rfl⟩:=eV3
   have ha:bj ks3 G2 x3=dA ks3 x3 G2:=by rw[bj,if_neg (by simp[←eM3])]
   rcases rV3 with⟨hz3,r4,e4,x4⟩ | ⟨_,e4⟩
   ·simp only[Sum.inl.injEq,AV.agg.injEq]at e4
    subst e4
    rw[ha]
    exact⟨r',_,by rw[hz3],x4,((mv3.set (by simp) _).set (by simp) _).did⟩
   ·cases e4
  ·refine⟨_,IG o1 o2 (Fk hg) eM eV k6 k7,?_⟩
   rintro F2 J2 b2 G2 x3 r3 gv3 ks3 e g3 hW3 hx3 hg3 hk3
   simp only[List.cons.injEq,AV.ptr.injEq,AV.agg.injEq,and_true]at e
   obtain⟨rfl,rfl,rfl⟩:=e
   have eM3:=mN g3 hW3 hx3
   rw[eM]at eM3
   simp only[Option.some.injEq,Prod.mk.injEq,Sum.inl.injEq,AV.int.injEq,true_and,and_true]at eM3
   obtain⟨h5,⟨q,eV3,rV3⟩,mv3, -, -⟩:=ql g3 hW3 hx3 hg3 hk3 eM3.symm
   rw[eV]at eV3
   simp only[Option.some.injEq,Prod.mk.injEq]at eV3
   obtain⟨rfl,rfl⟩:=eV3
   have ha:bj ks3 G2 x3=dA ks3 x3 G2:=by rw[bj,if_neg (by simp[←eM3])]
   rcases rV3 with⟨_,r4,e4,_⟩ | ⟨hz3,e4⟩
   ·cases e4
   ·simp only[Sum.inr.injEq,AV.iface.injEq,AV.int.injEq,true_and]at e4
    have hv:(dA ks3 x3 G2).2.1=ay:=by
     rw[BE]at hz3 ⊢
     split
     ·rfl
     ·rename_i h1
      rw[if_neg h1]at hz3
      split
      ·rfl
      ·rename_i h2
       rw[if_neg h2]at hz3
       exact absurd rfl hz3
    rw[ha,hv]
    exact⟨zR,_,by rw[e4],cQ,((mv3.set (by simp) _).set (by simp) _).did⟩
 ·refine⟨_,zV o1 o2 hz eM,?_⟩
  rintro F2 J2 b2 G2 x3 r3 gv3 ks3 e g3 hW3 hx3 hg3 hk3
  simp only[List.cons.injEq,AV.ptr.injEq,AV.agg.injEq,and_true]at e
  obtain⟨rfl,rfl,rfl⟩:=e
  have eM3:=mN g3 hW3 hx3
  rw[eM]at eM3
  simp only[Option.some.injEq,Prod.mk.injEq,Sum.inl.injEq,AV.int.injEq,true_and,and_true]at eM3
  have ha:bj ks3 G2 x3=(G2,ay,qp G2 x3):=by rw[bj,if_pos (by rw[←eM3];exact hz)]
  rw[ha]
  exact⟨zR,_,by rw[eM3],cQ,((zI g3 r).set (by simp) _).did⟩
theorem yR:po.ext fAc=some nu:=by
 show pd fAc=_
 unfold pd
 exact if_pos rfl
theorem qu (g:IsG h F J b G) (hW:G.Wf) {x:VD} {r:List AV} {gv:AV} {ks:List Int} (hx:VaA x r) (hg:SlA 3 gv (dw ks)) (hk:ks.length≤1000000):
  ∃ h',(∃ r',aj Try.prog po 106 [.ptr b 0 0,.agg r,gv] h=some (.inl (.tup [.agg r',.int .i64 (bj ks G x).2.2]),h')∧VaA (bj ks G x).2.1 r')∧cK h F J b h' (bj ks G x).1:=by
 have H:=Cr g hW hx hg hk
 have e:aj Try.prog po fAc [.ptr b 0 0,.agg r,gv] h=some (Classical.choose H):=by
  unfold aj
  rw[yR]
  show nu _ _=_
  unfold nu
  rw[dif_pos H]
 obtain⟨r',h',h1,h2,h3⟩:=(Classical.choose_spec H).2 F J b G x r gv ks rfl g hW hx hg hk
 rw[h1]at e
 exact⟨h',⟨r',e,h2⟩,h3⟩
end
structure OkR (c:Cfg) (n:Now):Prop where
 ms:c.ms.length=4
 S:n.S.Good
 below:n.below.length≤100
 stk:n.top.stack.length≤100000
 nms:n.top.names.length≤100000
 log:n.S.log.length≤1000000
theorem OkR.len {c:Cfg} {n:Now} (o:OkR c n):c.ms.length=n.S.kept.length:=o.ms.trans o.S.kept.symm
def bu (h0:AH) (F0 J0:Nat→Prop) (c:Cfg) (L:List Asn) (i:Nat) (n:Now) (q:StD×VD×Int) (fr:AV ⊕ AV) (h':AH):Prop:=
 (q.2.2=0∧fr= .inl (.tup [])∧St h0 F0 J0 h' (put c L i {n with S:=q.1,top:={n.top with stack:=n.top.stack++[q.2.1]}}))∨
 (q.2.2≠0∧fr= .inr (.iface tGo (.int .i64 q.2.2))∧∃ n':Now,n'.S=q.1∧St h0 F0 J0 h' (put c L i n'))
section
variable {h h' h0:AH} {F J F0 J0:Nat→Prop} {L:List Asn} {c:Cfg} {i:Nat} {n:Now}
theorem bu.no {S:StD} {k:Int} (hk:k≠0) (n':Now) (hS:n'.S=S) (s:St h0 F0 J0 h' (put c L i n')):bu h0 F0 J0 c L i n (S.no k) (.inr (.iface tGo (.int .i64 k))) h':= .inr ⟨hk,rfl,n',hS,s⟩
theorem bu.ok {S:StD} {v:VD} (s:St h0 F0 J0 h' (put c L i {n with S:=S,top:={n.top with stack:=n.top.stack++[v]}})):bu h0 F0 J0 c L i n (S.ok v) (.inl (.tup [])) h':= .inl ⟨rfl,rfl,s⟩
theorem bu.fail (a:At c L i n) {k:Int} (hk:k≠0) (s:St h0 F0 J0 h' L):bu h0 F0 J0 c L i n (n.S.no k) (.inr (.iface tGo (.int .i64 k))) h':=bu.no hk n rfl (by rw[a.same];exact s)
theorem bu.drop {X:Asn} {q:StD×VD×Int} {fr:AV ⊕ AV} (r:bu h0 F0 J0 c (X::L) (i+1) n q fr h'):bu h0 F0 J0 c L i n q fr h':=by
 rcases r with⟨a,b,s⟩ | ⟨a,b,n',e,s⟩
 ·exact .inl ⟨a,b,s.drop⟩
 ·exact .inr ⟨a,b,n',e,s.drop⟩
theorem cS (s:St h0 F0 J0 h L) (a:At c L i n) (hb:n.below.length≤100) (hs:n.top.stack.length≤100000) {v:VD} {r:List AV} (hv:VaA v r):
  ∃ h',aj Try.prog po fPu [.ptr c.mb 0 0,.agg r] h=some (.inl (.tup []),h')∧St h0 F0 J0 h' (put c L i {n with top:={n.top with stack:=n.top.stack++[v]}}):=by
 obtain⟨h',e,s'⟩:=H4 s i a.m hv (by omega) (by omega)
 rw[a.setM]at s'
 exact⟨h',e,s'⟩
theorem zL (s:St h0 F0 J0 h L) (a:At c L i n) {st:List VD} {v:VD} (hst:n.top.stack=st++[v]) (hb:n.below.length≤100) (hl:st.length≤100000):
  ∃ h' r,aj Try.prog po 83 [.ptr c.mb 0 0] h=some (.inl (.agg r),h')∧VaA v r∧St h0 F0 J0 h' (put c L i {n with top:={n.top with stack:=st}}):=by
 obtain⟨h',⟨r,e,hv⟩,s'⟩:=Lx s i a.m hst (by omega) (by omega)
 rw[a.setM]at s'
 exact⟨h',r,e,hv,s'⟩
theorem kG (s:St h0 F0 J0 h L) (a:At c L i n) {R:AH→Prop} {G':af} (cc:∀ F J,IsG h F J c.gb n.S.G→∃ h',R h'∧cK h F J c.gb h' G'):∃ h',R h'∧St h0 F0 J0 h' (put c L i {n with S:={n.S with G:=G'}}):=by
 obtain⟨h',r,s'⟩:=s.call (R:=R) (Y:=bo c.gb G') (i+2) a.g cc
 rw[a.setG]at s'
 exact⟨h',r,s'⟩
theorem cH (s:St h0 F0 J0 h L) (a:At c L i n) (hl:c.ms.length=n.S.kept.length):(∀ k:Nat,aD false k h (.ptr c.mb 0 0)=some (.ptr c.bb 0 0))∧(∀ k:Nat,aD false k h (.ptr c.bb 0 0)=some (.ptr c.gb 0 0))∧∀ k:Nat,aD false k h (.ptr c.bb 0 1)=some (.ptr c.wb 0 0):=by
 obtain⟨a',sv,nv,g,mv⟩:=cV s i a.m
 obtain⟨b1,b2⟩:=kX s a.b hl
 refine⟨fun k=> ?_,b1,b2⟩
 rw[bC,mv.m,Option.bind_some,List.getElem?_cons_zero,Option.bind_some,eY];rfl
theorem ct (s:St h0 F0 J0 h L) (a:At c L i n) (hb:n.below.length≤100):aj Try.prog po FX [.ptr c.mb 0 0] h=some (.inl (.ptr n.fb n.below.length 0),h)∧∀ k:Nat,aD false k h (.ptr n.fb n.below.length 0)=some (.int .i64 n.top.plugin):=by
 obtain⟨a',sv,nv,g,mv⟩:=cV s i a.m
 exact⟨pA mv.m (by omega),fun k=>mv.rd k 0 _ (bY n.top a' sv nv g mv.ha.len3.1).2.2.2.2.2.1⟩
theorem fO (t:bi):aC t=[.int .i64 t.parent,.int .i64 t.gate,.int .i64 t.rights,.int .i64 t.cell,.int .i64 t.plugin,.int .i64 t.func]:=rfl
theorem Lk {p k n:Int} {v:VD} {S:StD}:bV p 13 k n [v] S=if v.kind≠4 then S.no 2 else if eX (S.G.rights v.n) 0=false then S.no 9 else if 0≤(S.G.target v.n).1.plugin then S.no 2
  else({S with log:=S.log++[ff.mk p (S.G.target v.n).1.cell 1 v.n]}:StD).ok (ju (S.cells.getD (S.G.target v.n).1.cell.toNat 0)):=rfl
theorem oI {G:af} (hW:G.Wf) {i:Int} {k:Nat} (hb:eX (G.rights i) k=true) (hp:¬ 0≤(G.target i).1.plugin):0≤(G.target i).1.cell∧(G.target i).1.cell<12:=by
 have hh:G.has i=true:=by
  cases h:G.has i with
  | true=>rfl
  | false=>
    have:G.rights i=0:=by unfold af.rights;rw[if_pos (.inl (af.path_no h))]
    rw[this]at hb
    have h2:eX 0 k=false:=by unfold eX;rw[Int.zero_ediv];decide
    rw[h2]at hb
    cases hb
 obtain⟨_,_,h1 | h1⟩:=af.target_ok hW hh
 ·exact⟨h1.2.1,h1.2.2.1⟩
 ·omega
set_option maxHeartbeats 1000000 in
theorem D7 (s:St h0 F0 J0 h L) (a:At c L i n) (o:OkR c n) {v:VD} {r:List AV} (hv:VaA v r) (k m:Int):∃ fr h',aj Try.prog po 123 [.ptr c.mb 0 0,.agg r] h=some (fr,h')∧bu h0 F0 J0 c L i n (bV n.top.plugin 13 k m [v] n.S) fr h':=by
 rw[Lk]
 have s1:=s.push [r]
 have a1:=a.cons (ai h.n [r])
 obtain⟨o1,o2⟩:=hv.len3
 by_cases hk:v.kind=4
 ·rw[if_neg (by simpa using hk)]
  obtain⟨r',ek,hv'⟩:=dK (h:=h.push [r]) hv hk
  have ec:=pM s1 a1.m a1.b a1.g o.len o.S.wf hv' (k:=0) (q:=1) (by decide) (by decide)
  by_cases hb:eX (n.S.G.rights v.n) 0=true
  ·rw[if_pos hb]at ec
   rw[if_neg (by simp[hb])]
   have s2:=s1.push [aC (n.S.G.target v.n).1]
   have a2:=a1.cons (ai (h.push [r]).n [aC (n.S.G.target v.n).1])
   by_cases hp:0≤(n.S.G.target v.n).1.plugin
   ·rw[if_pos hp]
    have d:decide (0≤(n.S.G.target v.n).1.plugin)=true:=decide_eq_true hp
    refine⟨_,_,?_,bu.fail a (by decide) s2.drop.drop⟩
    refine ah mp rfl ?_;unfold kI
    simp only[sim,ag,Nat.reduceAdd,Nat.reduceSub,List.replicate,reduceCtorEq,Nat.reduceLeDiff,Nat.reduceLT,aa,az,o1,o2,ek,ec,fO,d,bL]
   ·rw[if_neg hp]
    have d:decide (0≤(n.S.G.target v.n).1.plugin)=false:=decide_eq_false hp
    obtain⟨l0,l1,l2⟩:=cH s2 a2 o.len
    obtain⟨tp,tl⟩:=ct s2 a2 o.below
    obtain⟨h3,e3,s3⟩:=IQ s2 (i+1+1+3) a2.w o.S.cells o.log (oI o.S.wf hb hp) n.top.plugin v.n
    rw[a2.setW]at s3
    have a3:=a2.put {n with S:={n.S with cells:=n.S.cells,log:=n.S.log++[⟨n.top.plugin,(n.S.G.target v.n).1.cell,1,v.n⟩]}}
    obtain⟨h4,e4,s4⟩:=cS s3 a3 o.below o.stk (pZ (n.S.cells.getD (n.S.G.target v.n).1.cell.toNat 0))
    rw[aO,ap,ap]at s4
    refine⟨_,h4,?_,bu.ok s4.drop.drop⟩
    have f0:aK 0 (.ptr c.mb 0 0)=some (.ptr c.mb 0 0):=rfl
    have f1:aK 1 (.ptr c.bb 0 0)=some (.ptr c.bb 0 1):=rfl
    have f2:aK 0 (.ptr n.fb n.below.length 0)=some (.ptr n.fb n.below.length 0):=rfl
    rw[fO]at l0 l1 l2 tp tl e3
    refine ah mp rfl ?_;unfold kI
    simp only[sim,ag,Nat.reduceAdd,Nat.reduceSub,List.replicate,reduceCtorEq,Nat.reduceLeDiff,Nat.reduceLT,aa,az,o1,o2,ek,ec,fO,d,bX,f0,f1,f2,l0,l1,l2,tp,tl,e3,kw,e4]
  ·rw[if_neg hb]at ec
   rw[if_pos (by simpa using hb)]
   refine⟨_,_,?_,bu.fail a (by decide) s1.drop⟩
   refine ah mp rfl ?_;unfold kI
   simp only[sim,ag,Nat.reduceAdd,Nat.reduceSub,List.replicate,reduceCtorEq,Nat.reduceLeDiff,Nat.reduceLT,aa,az,o1,o2,ek,ec]
 ·rw[if_pos hk]
  have ek:=eU (h:=h.push [r]) hv hk
  refine⟨_,_,?_,bu.fail a (by decide) s1.drop⟩
  refine ah mp rfl ?_;unfold kI
  simp only[sim,ag,Nat.reduceAdd,Nat.reduceSub,List.replicate,reduceCtorEq,Nat.reduceLeDiff,Nat.reduceLT,aa,az,o1,o2,ek]
theorem Ks {p k n:Int} {v x:VD} {S:StD}:bV p 14 k n [v,x] S=if v.kind≠4∨x.kind≠1 then S.no 2 else if eX (S.G.rights v.n) 1=false then S.no 9 else if 0≤(S.G.target v.n).1.plugin then S.no 2
  else({S with log:=S.log++[ff.mk p (S.G.target v.n).1.cell 2 v.n],cells:=S.cells.set (S.G.target v.n).1.cell.toNat x.n}:StD).ok x:=rfl
set_option maxHeartbeats 1000000 in
theorem CT (s:St h0 F0 J0 h L) (a:At c L i n) (o:OkR c n) {v x:VD} {r t:List AV} (hv:VaA v r) (hx:VaA x t) (k m:Int):∃ fr h',aj Try.prog po 124 [.ptr c.mb 0 0,.agg r,.agg t] h=some (fr,h')∧bu h0 F0 J0 c L i n (bV n.top.plugin 14 k m [v,x] n.S) fr h':=by
 rw[Ks]
 have s1:=(s.push [r]).push [t]
 have a1:=(a.cons (ai h.n [r])).cons (ai (h.push [r]).n [t])
 obtain⟨o1,o2⟩:=hv.len3
 obtain⟨o3,o4⟩:=hx.len3
 have c1:((h.push [r]).push [t]).cell h.n=some [r]:=(s1.cell 1 rfl).1
 have c2:((h.push [r]).push [t]).cell (h.n+1)=some [t]:=(s1.cell 0 rfl).1
 by_cases hk:v.kind=4
 ·obtain⟨r',ek,hv'⟩:=dK (h:=(h.push [r]).push [t]) hv hk
  by_cases hk2:x.kind=1
  ·rw[if_neg (by simp[hk,hk2])]
   obtain⟨t',ek2,hx'⟩:=dK (h:=(h.push [r]).push [t]) hx hk2
   have ec:=pM s1 a1.m a1.b a1.g o.len o.S.wf hv (k:=1) (q:=2) (by decide) (by decide)
   by_cases hb:eX (n.S.G.rights v.n) 1=true
   ·rw[if_pos hb]at ec
    rw[if_neg (by simp[hb])]
    have s2:=s1.push [aC (n.S.G.target v.n).1]
    have a2:=a1.cons (ai ((h.push [r]).push [t]).n [aC (n.S.G.target v.n).1])
    by_cases hp:0≤(n.S.G.target v.n).1.plugin
    ·rw[if_pos hp]
     have d:decide (0≤(n.S.G.target v.n).1.plugin)=true:=decide_eq_true hp
     refine⟨_,_,?_,bu.fail a (by decide) s2.drop.drop.drop⟩
     refine ah jg rfl ?_;unfold gR
     simp only[sim,ag,Nat.reduceAdd,Nat.reduceSub,List.replicate,reduceCtorEq,Nat.reduceLeDiff,Nat.reduceLT,aa,az,o1,o2,o3,o4,c1,c2,ek,ek2,ec,fO,d,bL]
    ·rw[if_neg hp]
     have d:decide (0≤(n.S.G.target v.n).1.plugin)=false:=decide_eq_false hp
     obtain⟨l0,l1,l2⟩:=cH s2 a2 o.len
     obtain⟨tp,tl⟩:=ct s2 a2 o.below
     obtain⟨w,hw,_⟩:=hx.cells3
     have c3:(((h.push [r]).push [t]).push [aC (n.S.G.target v.n).1]).cell (h.n+1)=some [t]:=(s2.cell 1 rfl).1
     have hxn:t[1]? =some (.int .i64 x.n):=by rw[hw];rfl
     obtain⟨h3,e3,s3⟩:=Gs s2 (i+1+1+1+3) a2.w o.S.cells o.log (oI o.S.wf hb hp) n.top.plugin v.n x.n
     rw[a2.setW]at s3
     have a3:=a2.put {n with S:={n.S with cells:=n.S.cells.set (n.S.G.target v.n).1.cell.toNat x.n,log:=n.S.log++[⟨n.top.plugin,(n.S.G.target v.n).1.cell,2,v.n⟩]}}
     have c4:=(s3.cell 1 rfl).1
     simp only[aM]at c4
     obtain⟨h4,e4,s4⟩:=cS s3 a3 o.below o.stk hx
     rw[aO,ap,ap,ap]at s4
     refine⟨_,h4,?_,bu.ok s4.drop.drop.drop⟩
     have f0:aK 0 (.ptr c.mb 0 0)=some (.ptr c.mb 0 0):=rfl
     have f1:aK 1 (.ptr c.bb 0 0)=some (.ptr c.bb 0 1):=rfl
     have f2:aK 0 (.ptr n.fb n.below.length 0)=some (.ptr n.fb n.below.length 0):=rfl
     rw[fO]at l0 l1 l2 tp tl e3 c3
     refine ah jg rfl ?_;unfold gR
     simp only[sim,ag,Nat.reduceAdd,Nat.reduceSub,List.replicate,reduceCtorEq,Nat.reduceLeDiff,Nat.reduceLT,aa,az,o1,o2,o3,o4,c1,c2,ek,ek2,ec,fO,d,bX,f0,f1,f2,l0,l1,l2,tp,tl,c3,hxn,e3,c4,e4]
   ·rw[if_neg hb]at ec
    rw[if_pos (by simpa using hb)]
    refine⟨_,_,?_,bu.fail a (by decide) s1.drop.drop⟩
    refine ah jg rfl ?_;unfold gR
    simp only[sim,ag,Nat.reduceAdd,Nat.reduceSub,List.replicate,reduceCtorEq,Nat.reduceLeDiff,Nat.reduceLT,aa,az,o1,o2,o3,o4,c1,c2,ek,ek2,ec]
  ·rw[if_pos (.inr hk2)]
   have ek2:=eU (h:=(h.push [r]).push [t]) hx hk2
   refine⟨_,_,?_,bu.fail a (by decide) s1.drop.drop⟩
   refine ah jg rfl ?_;unfold gR
   simp only[sim,ag,Nat.reduceAdd,Nat.reduceSub,List.replicate,reduceCtorEq,Nat.reduceLeDiff,Nat.reduceLT,aa,az,o1,o2,o3,o4,c1,c2,ek,ek2]
 ·rw[if_pos (.inl hk)]
  have ek:=eU (h:=(h.push [r]).push [t]) hv hk
  refine⟨_,_,?_,bu.fail a (by decide) s1.drop.drop⟩
  refine ah jg rfl ?_;unfold gR
  simp only[sim,ag,Nat.reduceAdd,Nat.reduceSub,List.replicate,reduceCtorEq,Nat.reduceLeDiff,Nat.reduceLT,aa,az,o1,o2,o3,o4,c1,c2,ek]
end
section
variable {h h' h0:AH} {F J F0 J0:Nat→Prop} {L:List Asn} {c:Cfg} {i:Nat} {n:Now}
theorem oS (s:St h0 F0 J0 h L) (a:At c L i n) (hl:c.ms.length=n.S.kept.length) (hW:n.S.G.Wf) {v:VD} {r:List AV} (hv:VaA v r) (rr g:Int):
  ∃ h',aj Try.prog po 125 [.ptr c.mb 0 0,.agg r,.int .i64 rr,.int .i64 g] h=some (if(n.S.G.derive v.n rr g).2.2=0 then .inl (.agg [.int .i64 4,.int .i64 (n.S.G.derive v.n rr g).2.1,.nils])else .inr (.iface tGo (.int .i64 (n.S.G.derive v.n rr g).2.2)),h')∧
    St h0 F0 J0 h' (put c L i {n with S:={n.S with G:=(n.S.G.derive v.n rr g).1}}):=by
 have s1:=(s.push [r]).push [zR3]
 have a1:=(a.cons (ai h.n [r])).cons (ai (h.push [r]).n [zR3])
 obtain⟨w,hw,ho⟩:=hv.cells3
 obtain⟨o1,o2⟩:=hv.len3
 have c1:((h.push [r]).push [zR3]).cell h.n=some [r]:=(s1.cell 1 rfl).1
 obtain⟨l0,l1,l2⟩:=cH s1 a1 hl
 have hn:r[1]? =some (.int .i64 v.n):=by rw[hw];rfl
 obtain⟨h2,e2,s2⟩:=kG s1 a1 (R:=fun h'=>aj Try.prog po 79 [.ptr c.gb 0 0,.int .i64 v.n,.int .i64 rr,.int .i64 g] ((h.push [r]).push [zR3])=some (.inl (.tup [.int .i64 (n.S.G.derive v.n rr g).2.1,.int .i64 (n.S.G.derive v.n rr g).2.2]),h')) fun F J x=>yE x hW v.n rr g
 rw[ap,ap]at s2
 have c2:=(s2.cell 0 rfl).1
 simp only[aM]at c2
 have f0:aK 0 (.ptr c.mb 0 0)=some (.ptr c.mb 0 0):=rfl
 have f1:aK 0 (.ptr c.bb 0 0)=some (.ptr c.bb 0 0):=rfl
 by_cases hc:(n.S.G.derive v.n rr g).2.2=0
 ·have d:decide ((n.S.G.derive v.n rr g).2.2=0)=true:=decide_eq_true hc
  rw[if_pos hc]
  have s3:=s2.set 0 rfl [[.int .i64 4,.int .i64 (n.S.G.derive v.n rr g).2.1,.nils]]
  refine⟨_,?_,s3.drop.drop⟩
  generalize n.S.G.derive v.n rr g=q at*
  refine ah oC rfl ?_;unfold kD
  simp only[sim,ag,Nat.reduceAdd,Nat.reduceSub,List.replicate,reduceCtorEq,Nat.reduceLeDiff,Nat.reduceLT,aa,az,o1,o2,c1,l0,l1,f0,f1,hn,e2,d,bX,c2]
 ·have d:decide ((n.S.G.derive v.n rr g).2.2=0)=false:=decide_eq_false hc
  rw[if_neg hc]
  refine⟨_,?_,s2.drop.drop⟩
  generalize n.S.G.derive v.n rr g=q at*
  refine ah oC rfl ?_;unfold kD
  simp only[sim,ag,Nat.reduceAdd,Nat.reduceSub,List.replicate,reduceCtorEq,Nat.reduceLeDiff,Nat.reduceLT,aa,az,o1,o2,c1,l0,l1,f0,f1,hn,e2,d,bL,c2]
theorem Ll {p k n:Int} {v:VD} {S:StD}:bV p 16 k n [v] S=if v.kind≠4 then S.no 2 else if S.G.gate.2.2≠0 then({S with G:=S.G.gate.1}:StD).no S.G.gate.2.2
  else match S.G.gate.1.derive v.n 15 S.G.gate.2.1 with
   | (G',m,c)=>if c≠0 then({S with G:=G'}:StD).no c else({S with G:=G'}:StD).ok (.mk 2 0 [fg m,.mk 5 S.G.gate.2.1 []]):=rfl
set_option maxHeartbeats 1000000 in
theorem Fx (s:St h0 F0 J0 h L) (a:At c L i n) (o:OkR c n) {v:VD} {r:List AV} (hv:VaA v r) (k m:Int):∃ fr h',aj Try.prog po 126 [.ptr c.mb 0 0,.agg r] h=some (fr,h')∧bu h0 F0 J0 c L i n (bV n.top.plugin 16 k m [v] n.S) fr h':=by
 rw[Ll]
 have s1:=s.push [r]
 have a1:=a.cons (ai h.n [r])
 obtain⟨o1,o2⟩:=hv.len3
 by_cases hk:v.kind=4
 ·rw[if_neg (by simpa using hk)]
  obtain⟨r',ek,hv'⟩:=dK (h:=h.push [r]) hv hk
  obtain⟨l0,l1,l2⟩:=cH s1 a1 o.len
  have f0:aK 0 (.ptr c.mb 0 0)=some (.ptr c.mb 0 0):=rfl
  have f1:aK 0 (.ptr c.bb 0 0)=some (.ptr c.bb 0 0):=rfl
  obtain⟨h2,e2,s2⟩:=kG s1 a1 (R:=fun h'=>aj Try.prog po 58 [.ptr c.gb 0 0] (h.push [r])=some (.inl (.tup [.int .i64 n.S.G.gate.2.1,.int .i64 n.S.G.gate.2.2]),h')) fun F J x=>GX x o.S.wf
  have a2:=a1.put {n with S:={n.S with G:=n.S.G.gate.1}}
  have s2':=s2
  rw[ap]at s2'
  have c2:=(s2'.cell 0 rfl).1
  by_cases hg:n.S.G.gate.2.2=0
  ·rw[if_neg (by simpa using hg)]
   have dg:decide (n.S.G.gate.2.2=0)=true:=decide_eq_true hg
   obtain⟨h3,e3,s3⟩:=oS s2 a2 o.len (o.S.wf.gate) hv 15 n.S.G.gate.2.1
   rw[aO]at s3
   have a3:=a1.put {n with S:={n.S with G:=(n.S.G.gate.1.derive v.n 15 n.S.G.gate.2.1).1}}
   generalize n.S.G.gate.1.derive v.n 15 n.S.G.gate.2.1=q at*
   obtain⟨G',m',cc⟩:=q
   simp only at e3 s3 a3 ⊢
   by_cases hc:cc=0
   ·subst hc
    rw[if_pos rfl]at e3
    rw[if_neg (by simp)]
    have s4:=(s3.push [[.int .i64 4,.int .i64 m',.nils]]).fresh 2
    have a4:=(a3.cons (ai h3.n [[.int .i64 4,.int .i64 m',.nils]])).cons (idA (h3.push [[.int .i64 4,.int .i64 m',.nils]]).ids 2)
    have pv:VaA (.mk 2 0 [fg m',.mk 5 n.S.G.gate.2.1 []]) [.int .i64 2,.int .i64 0,.isl (some h3.ids) tV [[.int .i64 4,.int .i64 m',.nils],[.int .i64 5,.int .i64 n.S.G.gate.2.1,.nils]]]:=uK ⟨_,_,rfl,uP m',_,_,rfl,II _,rfl⟩
    obtain⟨h5,e5,s5⟩:=cS s4 a4 o.below o.stk pv
    rw[ap,ap,aO,ap]at s5
    refine⟨_,h5,?_,bu.ok s5.drop.drop.drop⟩
    refine ah mX rfl ?_;unfold kC
    simp only[sim,ag,Nat.reduceAdd,Nat.reduceSub,List.replicate,reduceCtorEq,Nat.reduceLeDiff,Nat.reduceLT,aa,az,o1,o2,ek,l0,l1,f0,f1,e2,dg,bX,c2,e3,e5]
   ·rw[if_neg hc]at e3
    rw[if_pos hc]
    rw[ap]at s3
    refine⟨_,_,?_,bu.no hc {n with S:={n.S with G:=G'}} rfl s3.drop⟩
    refine ah mX rfl ?_;unfold kC
    simp only[sim,ag,Nat.reduceAdd,Nat.reduceSub,List.replicate,reduceCtorEq,Nat.reduceLeDiff,Nat.reduceLT,aa,az,o1,o2,ek,l0,l1,f0,f1,e2,dg,bX,c2,e3]
  ·rw[if_pos hg]
   have dg:decide (n.S.G.gate.2.2=0)=false:=decide_eq_false hg
   refine⟨_,_,?_,bu.no hg {n with S:={n.S with G:=n.S.G.gate.1}} rfl s2'.drop⟩
   refine ah mX rfl ?_;unfold kC
   simp only[sim,ag,Nat.reduceAdd,Nat.reduceSub,List.replicate,reduceCtorEq,Nat.reduceLeDiff,Nat.reduceLT,aa,az,o1,o2,ek,l0,l1,f0,f1,e2,dg,bL]
 ·rw[if_pos hk]
  have ek:=eU (h:=h.push [r]) hv hk
  refine⟨_,_,?_,bu.fail a (by decide) s1.drop⟩
  refine ah mX rfl ?_;unfold kC
  simp only[sim,ag,Nat.reduceAdd,Nat.reduceSub,List.replicate,reduceCtorEq,Nat.reduceLeDiff,Nat.reduceLT,aa,az,o1,o2,ek]
theorem ym (s:St h0 F0 J0 h L) (a:At c L i n) (hb:n.below.length≤100) {f:FrD} {ar:List AV} {g:AV} (ha:VaA f.arg ar) (hg:SlA 3 g (dw f.gates)) (hs:f.stack=[]) (hn:f.names=[]):
  (n.below.length+1=20→∃ h',aj Try.prog po 127 [.ptr c.mb 0 0,.agg (cD f ar .nils .nils g)] h=some (.inr (.iface tGo (.int .i64 4)),h')∧St h0 F0 J0 h' L)∧
  (n.below.length+1≠20→∃ h' fb',aj Try.prog po 127 [.ptr c.mb 0 0,.agg (cD f ar .nils .nils g)] h=some (.inl (.tup []),h')∧St h0 F0 J0 h' (put c L i ⟨fb',n.S,n.below++[n.top],f⟩)):=by
 have hgo:g.one=true:=by rcases hg with⟨_,rfl⟩ | ⟨id,rfl⟩<;>rfl
 have o2:=(bY f ar .nils .nils g ha.len3.1).2.1
 have o1:=mq (f:=f) (s:= .nils) (n:= .nils) ha.len3 rfl rfl hgo
 generalize hrow:cD f ar .nils .nils g=row at*
 have s1:=s.push [row]
 have a1:=a.cons (ai h.n [row])
 obtain⟨_,_,_,_,mv⟩:=cV s1 (i+1) a1.m
 have ld:∀ (k:Nat) (x:AH),x.cell c.mb=some [[.ptr c.bb 0 0,.msl n.fb 0 (n.below.length+1) tFr,.int .i64 (n.S.left:Int)]]→aD false k x (.ptr c.mb 0 1)=some (.msl n.fb 0 (n.below.length+1) tFr):=fun k x hx=>by
  rw[bC,hx];rfl
 have l1:=fun k=>ld k _ mv.m
 have f1:aK 1 (.ptr c.mb 0 0)=some (.ptr c.mb 0 1):=rfl
 refine⟨fun h20=> ?_,fun h20=> ?_⟩
 ·have d:decide (((n.below.length+1:Nat):Int)=20)=true:=decide_eq_true (by omega)
  refine⟨_,?_,s1.drop⟩
  refine ah yF rfl ?_;unfold pS
  simp only[sim,ag,Nat.reduceAdd,Nat.reduceSub,List.replicate,reduceCtorEq,Nat.reduceLeDiff,Nat.reduceLT,aa,az,o1,o2,f1,l1,d,bL]
 ·have d:decide (((n.below.length+1:Nat):Int)=20)=false:=decide_eq_false (by omega)
  have s2:=s1.push [row]
  have a2:=a1.cons (ai (h.push [row]).n [row])
  obtain⟨_,_,_,_,mv2⟩:=cV s2 (i+2) a2.m
  have l2:=fun k=>ld k _ mv2.m
  obtain⟨h3,h4,e3,e4,s4⟩:=FP s2 (i+1+1) a2.m (f:=f) (a:=ar) (g:=g) ha hg hs hn (by omega) (bz:=h.n+1) (by rw[hrow];exact(s2.cell 0 rfl).1)
  rw[a2.setM,ap,ap]at s4
  have c1:(h.push [row]).cell h.n=some [row]:=(s1.cell 0 rfl).1
  simp only[aM]at e3 e4
  refine⟨_,_,?_,s4.drop.drop⟩
  refine ah yF rfl ?_;unfold pS
  simp only[sim,ag,Nat.reduceAdd,Nat.reduceSub,List.replicate,reduceCtorEq,Nat.reduceLeDiff,Nat.reduceLT,aa,az,o1,o2,f1,l1,l2,d,bX,c1,e3,e4]
theorem L8 {p k n:Int} {v:VD} {S:StD}:bV p 9 k n [v] S=if v.kind≠2 then S.no 2 else S.ok (v.l.getD 0 ay):=rfl
theorem Kt {p k n:Int} {v:VD} {S:StD}:bV p 10 k n [v] S=if v.kind≠2 then S.no 2 else S.ok (v.l.getD 1 ay):=rfl
end
abbrev iY:FuncId:=86
section
variable {h h' h0:AH} {F J F0 J0:Nat→Prop} {L:List Asn} {c:Cfg} {i:Nat} {n:Now}
theorem zE (k x y:Int):aj Try.prog po 12 [.int .i64 k,.int .i64 x,.int .i64 y] h=some (.inl (.int .i64 (rK k x y)),h):=by
 unfold rK
 by_cases h1:k=1
 ·subst h1
  refine ah fp rfl ?_;unfold eu
  simp only[sim,ag,Nat.reduceAdd,Nat.reduceSub,List.replicate,reduceCtorEq,Nat.reduceLeDiff,Nat.reduceLT,aa,decide_true]
 have d1:decide (k=1)=false:=decide_eq_false h1
 rw[if_neg h1]
 by_cases h2:k=2
 ·subst h2
  rw[if_pos rfl]
  refine ah fp rfl ?_;unfold eu
  simp only[sim,ag,Nat.reduceAdd,Nat.reduceSub,List.replicate,reduceCtorEq,Nat.reduceLeDiff,Nat.reduceLT,aa,d1,decide_true]
 have d2:decide (k=2)=false:=decide_eq_false h2
 rw[if_neg h2]
 by_cases h3:k=3
 ·subst h3
  rw[if_pos rfl]
  refine ah fp rfl ?_;unfold eu
  simp only[sim,ag,Nat.reduceAdd,Nat.reduceSub,List.replicate,reduceCtorEq,Nat.reduceLeDiff,Nat.reduceLT,aa,d1,d2,decide_true]
 have d3:decide (k=3)=false:=decide_eq_false h3
 rw[if_neg h3]
 by_cases h4:k=4
 ·subst h4
  rw[if_pos rfl]
  by_cases hl:x<y
  ·have dl:decide (x<y)=true:=decide_eq_true hl
   rw[if_pos hl]
   refine ah fp rfl ?_;unfold eu
   simp only[sim,ag,Nat.reduceAdd,Nat.reduceSub,List.replicate,reduceCtorEq,Nat.reduceLeDiff,Nat.reduceLT,aa,d1,d2,d3,dl,decide_true]
  ·have dl:decide (x<y)=false:=decide_eq_false hl
   rw[if_neg hl]
   refine ah fp rfl ?_;unfold eu
   simp only[sim,ag,Nat.reduceAdd,Nat.reduceSub,List.replicate,reduceCtorEq,Nat.reduceLeDiff,Nat.reduceLT,aa,d1,d2,d3,dl,decide_true]
 have d4:decide (k=4)=false:=decide_eq_false h4
 rw[if_neg h4]
 by_cases h5:k=5
 ·subst h5
  rw[if_pos rfl]
  by_cases hl:x=y
  ·have dl:decide (x=y)=true:=decide_eq_true hl
   rw[if_pos hl]
   refine ah fp rfl ?_;unfold eu
   simp only[sim,ag,Nat.reduceAdd,Nat.reduceSub,List.replicate,reduceCtorEq,Nat.reduceLeDiff,Nat.reduceLT,aa,d1,d2,d3,d4,dl,decide_true]
  ·have dl:decide (x=y)=false:=decide_eq_false hl
   rw[if_neg hl]
   refine ah fp rfl ?_;unfold eu
   simp only[sim,ag,Nat.reduceAdd,Nat.reduceSub,List.replicate,reduceCtorEq,Nat.reduceLeDiff,Nat.reduceLT,aa,d1,d2,d3,d4,dl,decide_true]
 have d5:decide (k=5)=false:=decide_eq_false h5
 rw[if_neg h5]
 refine ah fp rfl ?_;unfold eu
 simp only[sim,ag,Nat.reduceAdd,Nat.reduceSub,List.replicate,reduceCtorEq,Nat.reduceLeDiff,Nat.reduceLT,aa,d1,d2,d3,d4,d5]
abbrev iR (op k m:Int):List AV:=[.int .i64 op,.int .i64 k,.int .i64 m]
abbrev Now.stk (n:Now) (l:List VD):Now:={n with top:={n.top with stack:=l}}
theorem eQ (s:St h0 F0 J0 h L) (a:At c L i n) (o:OkR c n) {st:List VD} {v:VD} (hst:n.top.stack=st++[v]):
  ∃ h' r,aj Try.prog po 83 [.ptr c.mb 0 0] h=some (.inl (.agg r),h')∧VaA v r∧St h0 F0 J0 h' (put c L i (n.stk st))∧At c (put c L i (n.stk st)) i (n.stk st):=by
 have hsl:=o.stk
 rw[hst]at hsl
 simp only[List.length_append,List.length_singleton]at hsl
 obtain⟨h',r,e,hv,s'⟩:=zL s a hst o.below (by omega)
 exact⟨h',r,e,hv,s',a.put _⟩
theorem pm (s:St h0 F0 J0 h L) (a:At c L i n) (o:OkR c n) {st:List VD} {v w:VD} (hst:n.top.stack=st++[v]++[w]):
  ∃ h2 h3 rw_ rv,aj Try.prog po 83 [.ptr c.mb 0 0] h=some (.inl (.agg rw_),h2)∧aj Try.prog po 83 [.ptr c.mb 0 0] h2=some (.inl (.agg rv),h3)∧VaA w rw_∧VaA v rv∧St h0 F0 J0 h3 (put c L i (n.stk st))∧At c (put c L i (n.stk st)) i (n.stk st):=by
 have hsl:=o.stk
 rw[hst]at hsl
 simp only[List.length_append,List.length_singleton]at hsl
 obtain⟨h2,r2,e2,hw,s2⟩:=zL s a hst o.below (by simp;omega)
 obtain⟨h3,r3,e3,hv,s3⟩:=zL s2 (a.put (n.stk (st++[v]))) rfl o.below (by omega)
 rw[aO]at s3
 exact⟨h2,h3,r2,r3,e2,e3,hw,hv,s3,a.put _⟩
theorem OkR.stk' {n:Now} {st:List VD} {l:List VD} (o:OkR c n) (hst:n.top.stack=st++l):OkR c (n.stk st):=by
 have hsl:=o.stk
 rw[hst]at hsl
 simp only[List.length_append]at hsl
 exact⟨o.ms,o.S,o.below,by simp only;omega,o.nms,o.log⟩
theorem LZ {p k n:Int} {v x:VD} {S:StD}:bV p 6 k n [v,x] S=if v.kind≠1∨x.kind≠1 then S.no 2 else S.ok (ju (rK k v.n x.n)):=rfl
set_option maxHeartbeats 1000000 in
theorem Hg (s:St h0 F0 J0 h L) (a:At c L i n) (o:OkR c n) {st:List VD} {v w:VD} (hst:n.top.stack=st++[v]++[w]) (k m:Int):∃ fr h',aj Try.prog po iY [.ptr c.mb 0 0,.agg (iR 6 k m)] h=some (fr,h')∧bu h0 F0 J0 c L i (n.stk st) (bV n.top.plugin 6 k m [v,w] n.S) fr h':=by
 rw[LZ]
 have s1:=s.push [iR 6 k m]
 have a1:=a.cons (ai h.n [iR 6 k m])
 obtain⟨tp,tl⟩:=ct s1 a1 o.below
 have c1:=(s1.cell 0 rfl).1
 obtain⟨h2,h3,rw_,rv,e2,e3,hw,hv,s3,a3⟩:=pm s1 a1 o hst
 rw[ap]at s3 a3
 have o3:=(o.stk' (st:=st) (l:=[v]++[w]) (by rw[hst,List.append_assoc]))
 have s4:=(s3.push [zR3]).push [zR3]
 have s5:St h0 F0 J0 _ (ai (h3.n+1) [zR3]::ai h3.n [rw_]::ai h.n [iR 6 k m]::put c L i (n.stk st)):=s4.set 1 rfl [rw_]
 have s6:St h0 F0 J0 _ (ai (h3.n+1) [rv]::ai h3.n [rw_]::ai h.n [iR 6 k m]::put c L i (n.stk st)):=s5.set 0 rfl [rv]
 have a6:=(a3.cons (ai h3.n [rw_])).cons (ai (h3.n+1) [rv])
 obtain⟨o1,o2⟩:=hw.len3
 obtain⟨o5,o4⟩:=hv.len3
 have q0:=(s5.cell 0 rfl).1
 have q1:=(s6.cell 0 rfl).1
 have q2:=(s6.cell 1 rfl).1
 have q3:=(s6.cell 2 rfl).1
 generalize hh6:(((h3.push [zR3]).push [zR3]).set h3.n (some [rw_])).set (h3.n+1) (some [rv])=h6 at*
 by_cases hk:v.kind=1
 ·obtain⟨r1,ek1,hv'⟩:=dK (h:=h6) hv hk
  by_cases hk2:w.kind=1
  ·rw[if_neg (by simp[hk,hk2])]
   obtain⟨r2,ek2,hw'⟩:=dK (h:=h6) hw hk2
   obtain⟨y1,hy1,_⟩:=hv.cells3
   obtain⟨y2,hy2,_⟩:=hw.cells3
   have n1:rv[1]? =some (.int .i64 v.n):=by rw[hy1];rfl
   have n2:rw_[1]? =some (.int .i64 w.n):=by rw[hy2];rfl
   obtain⟨h7,e7,s7⟩:=cS s6 a6 o.below o3.stk (pZ (rK k v.n w.n))
   rw[ap,ap,ap,aO]at s7
   refine⟨_,h7,?_,bu.ok s7.drop.drop.drop⟩
   refine ah cj rfl ?_;unfold ca
   simp only[sim,ag,Nat.reduceAdd,Nat.reduceSub,List.replicate,reduceCtorEq,Nat.reduceLeDiff,Nat.reduceLT,aa,az,tp,c1,Int.reduceEq,decide_false,decide_true,e2,e3,o1,o2,o5,o4,q0,hh6,q1,q2,q3,ek1,ek2,n1,n2,zE,kw,e7]
  ·rw[if_pos (.inr hk2)]
   have ek2:=eU (h:=h6) hw hk2
   refine⟨_,_,?_,bu.no (by decide) (n.stk st) rfl s6.drop.drop.drop⟩
   refine ah cj rfl ?_;unfold ca
   simp only[sim,ag,Nat.reduceAdd,Nat.reduceSub,List.replicate,reduceCtorEq,Nat.reduceLeDiff,Nat.reduceLT,aa,az,tp,c1,Int.reduceEq,decide_false,decide_true,e2,e3,o1,o2,o5,o4,q0,hh6,q1,q2,q3,ek1,ek2]
 ·rw[if_pos (.inl hk)]
  have ek1:=eU (h:=h6) hv hk
  refine⟨_,_,?_,bu.no (by decide) (n.stk st) rfl s6.drop.drop.drop⟩
  refine ah cj rfl ?_;unfold ca
  simp only[sim,ag,Nat.reduceAdd,Nat.reduceSub,List.replicate,reduceCtorEq,Nat.reduceLeDiff,Nat.reduceLT,aa,az,tp,c1,Int.reduceEq,decide_false,decide_true,e2,e3,o1,o2,o5,o4,q0,hh6,q1,q2,q3,ek1]
end
section
variable {h h' h0:AH} {F J F0 J0:Nat→Prop} {L:List Asn} {c:Cfg} {i:Nat} {n:Now}
theorem L2 {p k n:Int} {v x:VD} {S:StD}:bV p 8 k n [v,x] S=if(VD.mk 2 0 [v,x]).code≠0 then S.no 3 else S.ok (.mk 2 0 [v,x]):=rfl
theorem Kn {p k n:Int} {v:VD} {S:StD}:bV p 11 k n [v] S=if(VD.mk 3 p [v]).code≠0 then S.no 3 else S.ok (.mk 3 p [v]):=rfl
theorem Lt {p k n:Int} {v:VD} {S:StD}:bV p 12 k n [v] S=if v.kind≠3 then S.no 2 else if v.n≠p then S.no 10 else S.ok (v.l.getD 0 ay):=rfl
set_option maxHeartbeats 1000000 in
theorem ID (s:St h0 F0 J0 h L) (a:At c L i n) (o:OkR c n) {st:List VD} {v w:VD} (hst:n.top.stack=st++[v]++[w]) (k m:Int):∃ fr h',aj Try.prog po iY [.ptr c.mb 0 0,.agg (iR 8 k m)] h=some (fr,h')∧bu h0 F0 J0 c L i (n.stk st) (bV n.top.plugin 8 k m [v,w] n.S) fr h':=by
 rw[L2]
 have s1:=s.push [iR 8 k m]
 have a1:=a.cons (ai h.n [iR 8 k m])
 obtain⟨tp,tl⟩:=ct s1 a1 o.below
 have c1:=(s1.cell 0 rfl).1
 obtain⟨h2,h3,rw_,rv,e2,e3,hw,hv,s3,a3⟩:=pm s1 a1 o hst
 rw[ap]at s3 a3
 have o3:=(o.stk' (st:=st) (l:=[v]++[w]) (by rw[hst,List.append_assoc]))
 have s4:=(s3.push [zR3]).push [zR3]
 have s5:St h0 F0 J0 _ (ai (h3.n+1) [zR3]::ai h3.n [rw_]::ai h.n [iR 8 k m]::put c L i (n.stk st)):=s4.set 1 rfl [rw_]
 have s6:St h0 F0 J0 _ (ai (h3.n+1) [rv]::ai h3.n [rw_]::ai h.n [iR 8 k m]::put c L i (n.stk st)):=s5.set 0 rfl [rv]
 have a6:=(a3.cons (ai h3.n [rw_])).cons (ai (h3.n+1) [rv])
 obtain⟨o1,o2⟩:=hw.len3
 obtain⟨o5,o4⟩:=hv.len3
 have q0:=(s5.cell 0 rfl).1
 have q1:=(s6.cell 0 rfl).1
 have q2:=(s6.cell 1 rfl).1
 generalize hh6:(((h3.push [zR3]).push [zR3]).set h3.n (some [rw_])).set (h3.n+1) (some [rv])=h6 at*
 have s7:=s6.fresh 2
 have a7:=a6.cons (idA h6.ids 2)
 have pv:VaA (.mk 2 0 [v,w]) [.int .i64 2,.int .i64 0,.isl (some h6.ids) tV [rv,rw_]]:=uK ⟨_,_,rfl,hv,_,_,rfl,hw,rfl⟩
 by_cases hk:(VD.mk 2 0 [v,w]).code=0
 ·rw[if_neg (by simpa using hk)]
  obtain⟨r',es,hr'⟩:=tq (h:=h6.fresh 2) pv hk
  obtain⟨h8,e8,s8⟩:=cS s7 a7 o.below o3.stk hr'
  rw[ap,ap,ap,ap,aO]at s8
  refine⟨_,h8,?_,bu.ok s8.drop.drop.drop.drop⟩
  refine ah cj rfl ?_;unfold ca
  simp only[sim,ag,Nat.reduceAdd,Nat.reduceSub,List.replicate,reduceCtorEq,Nat.reduceLeDiff,Nat.reduceLT,aa,az,tp,c1,Int.reduceEq,decide_false,decide_true,e2,e3,o1,o2,o5,o4,q0,hh6,q1,q2,es,e8]
 ·rw[if_pos hk]
  have es:=yi (h:=h6.fresh 2) pv hk
  refine⟨_,_,?_,bu.no (by decide) (n.stk st) rfl s7.drop.drop.drop.drop⟩
  refine ah cj rfl ?_;unfold ca
  simp only[sim,ag,Nat.reduceAdd,Nat.reduceSub,List.replicate,reduceCtorEq,Nat.reduceLeDiff,Nat.reduceLT,aa,az,tp,c1,Int.reduceEq,decide_false,decide_true,e2,e3,o1,o2,o5,o4,q0,hh6,q1,q2,es]
theorem VaA.part {v:VD} {r:List AV} (hv:VaA v r) {j:Nat} {x:VD} (hx:v.l[j]? =some x):∃ lv rx,r[2]? =some lv∧(∀ q:IntKind,bQ (some tV) none lv (.int q (j:Int))=some (.ip rx 0))∧ldA true 3 rx 0=some (.agg rx)∧VaA x rx:=by
 cases v with
 | mk k n l=>
   obtain⟨w,es,rfl,h1,h2⟩:=hv
   obtain⟨rx,e1,e2⟩:=h2.get hx
   rcases h1 with⟨rfl,_⟩ | ⟨id,rfl⟩
   ·simp at e1
   ·exact⟨_,rx,rfl,fun q=>wc rfl e1,bI e2.len3.1,e2⟩
set_option maxHeartbeats 1000000 in
theorem AW (s:St h0 F0 J0 h L) (a:At c L i n) (o:OkR c n) {st:List VD} {v:VD} (hst:n.top.stack=st++[v]) (hc:v.code=0) {j:Nat} (hj:j<2):∃ fr h',aj Try.prog po 110 [.ptr c.mb 0 0,.int .i64 (j:Int)] h=some (fr,h')∧bu h0 F0 J0 c L i (n.stk st) (if v.kind≠2 then n.S.no 2 else n.S.ok (v.l.getD j ay)) fr h':=by
 obtain⟨h2,r,e2,hv,s2,a2⟩:=eQ s a o hst
 have o3:=o.stk' hst
 by_cases hk:v.kind=2
 ·rw[if_neg (by simpa using hk)]
  obtain⟨x,y,hxy⟩:=(yD hc).1 hk
  obtain⟨z,hz⟩:∃ z,v.l[j]? =some z:=by rw[hxy];match j,hj with | 0,_=>exact⟨x,rfl⟩ | 1,_=>exact⟨y,rfl⟩
  have hzd:v.l.getD j ay=z:=by simp[List.getD,hz]
  rw[hzd]
  obtain⟨r',ek,hr'⟩:=dK (h:=h2) hv hk
  obtain⟨o1,o2⟩:=hr'.len3
  obtain⟨lv,rz,p1,p2,p3,p4⟩:=hr'.part hz
  have s3:=s2.push [r']
  have a3:=a2.cons (ai h2.n [r'])
  have c3:=(s3.cell 0 rfl).1
  obtain⟨h4,e4,s4⟩:=cS s3 a3 o.below o3.stk p4
  rw[ap,aO]at s4
  refine⟨_,h4,?_,bu.ok s4.drop⟩
  refine ah xv rfl ?_;unfold qy
  simp only[sim,ag,Nat.reduceAdd,Nat.reduceSub,List.replicate,reduceCtorEq,Nat.reduceLeDiff,Nat.reduceLT,aa,az,e2,ek,o1,o2,c3,p1,p2,p3,e4]
 ·rw[if_pos hk]
  have ek:=eU (h:=h2) hv hk
  refine⟨_,_,?_,bu.no (by decide) (n.stk st) rfl s2⟩
  refine ah xv rfl ?_;unfold qy
  simp only[sim,ag,Nat.reduceAdd,Nat.reduceSub,List.replicate,reduceCtorEq,Nat.reduceLeDiff,Nat.reduceLT,aa,az,e2,ek]
theorem Hj (s:St h0 F0 J0 h L) (a:At c L i n) (o:OkR c n) {st:List VD} {v:VD} (hst:n.top.stack=st++[v]) (hc:v.code=0) (k m:Int):∃ fr h',aj Try.prog po iY [.ptr c.mb 0 0,.agg (iR 9 k m)] h=some (fr,h')∧bu h0 F0 J0 c L i (n.stk st) (bV n.top.plugin 9 k m [v] n.S) fr h':=by
 rw[L8]
 have s1:=s.push [iR 9 k m]
 have a1:=a.cons (ai h.n [iR 9 k m])
 obtain⟨tp,tl⟩:=ct s1 a1 o.below
 have c1:=(s1.cell 0 rfl).1
 obtain⟨fr,h2,e2,r2⟩:=AW s1 a1 o hst hc (j:=0) (by decide)
 have e2:aj Try.prog po 110 [.ptr c.mb 0 0,.int .i64 0] (h.push [iR 9 k m])=some (fr,h2):=e2
 refine⟨fr,h2,?_,r2.drop⟩
 rcases r2 with⟨_,rfl,_⟩ | ⟨_,rfl,_⟩
 ·refine ah cj rfl ?_;unfold ca
  simp only[sim,ag,Nat.reduceAdd,Nat.reduceSub,List.replicate,reduceCtorEq,Nat.reduceLeDiff,Nat.reduceLT,aa,az,tp,c1,Int.reduceEq,decide_false,decide_true,e2]
 ·refine ah cj rfl ?_;unfold ca
  simp only[sim,ag,Nat.reduceAdd,Nat.reduceSub,List.replicate,reduceCtorEq,Nat.reduceLeDiff,Nat.reduceLT,aa,az,tp,c1,Int.reduceEq,decide_false,decide_true,e2]
theorem GR (s:St h0 F0 J0 h L) (a:At c L i n) (o:OkR c n) {st:List VD} {v:VD} (hst:n.top.stack=st++[v]) (hc:v.code=0) (k m:Int):∃ fr h',aj Try.prog po iY [.ptr c.mb 0 0,.agg (iR 10 k m)] h=some (fr,h')∧bu h0 F0 J0 c L i (n.stk st) (bV n.top.plugin 10 k m [v] n.S) fr h':=by
 rw[Kt]
 have s1:=s.push [iR 10 k m]
 have a1:=a.cons (ai h.n [iR 10 k m])
 obtain⟨tp,tl⟩:=ct s1 a1 o.below
 have c1:=(s1.cell 0 rfl).1
 obtain⟨fr,h2,e2,r2⟩:=AW s1 a1 o hst hc (j:=1) (by decide)
 have e2:aj Try.prog po 110 [.ptr c.mb 0 0,.int .i64 1] (h.push [iR 10 k m])=some (fr,h2):=e2
 refine⟨fr,h2,?_,r2.drop⟩
 rcases r2 with⟨_,rfl,_⟩ | ⟨_,rfl,_⟩
 ·refine ah cj rfl ?_;unfold ca
  simp only[sim,ag,Nat.reduceAdd,Nat.reduceSub,List.replicate,reduceCtorEq,Nat.reduceLeDiff,Nat.reduceLT,aa,az,tp,c1,Int.reduceEq,decide_false,decide_true,e2]
 ·refine ah cj rfl ?_;unfold ca
  simp only[sim,ag,Nat.reduceAdd,Nat.reduceSub,List.replicate,reduceCtorEq,Nat.reduceLeDiff,Nat.reduceLT,aa,az,tp,c1,Int.reduceEq,decide_false,decide_true,e2]
set_option maxHeartbeats 1000000 in
theorem FG (s:St h0 F0 J0 h L) (a:At c L i n) (o:OkR c n) {st:List VD} {v:VD} (hst:n.top.stack=st++[v]) (k m:Int):∃ fr h',aj Try.prog po iY [.ptr c.mb 0 0,.agg (iR 11 k m)] h=some (fr,h')∧bu h0 F0 J0 c L i (n.stk st) (bV n.top.plugin 11 k m [v] n.S) fr h':=by
 rw[Kn]
 have s1:=s.push [iR 11 k m]
 have a1:=a.cons (ai h.n [iR 11 k m])
 obtain⟨tp,_⟩:=ct s1 a1 o.below
 have c1:=(s1.cell 0 rfl).1
 obtain⟨h2,r,e2,hv,s2,a2⟩:=eQ s1 a1 o hst
 rw[ap]at s2 a2
 have o3:=o.stk' hst
 obtain⟨o1,o2⟩:=hv.len3
 have s3:=s2.push [r]
 have a3:=a2.cons (ai h2.n [r])
 have c3:=(s3.cell 0 rfl).1
 obtain⟨_,tl3⟩:=ct s3 a3 o.below
 have s4:=s3.fresh 1
 have a4:=a3.cons (idA (h2.push [r]).ids 1)
 obtain⟨_,tl4⟩:=ct s4 a4 o.below
 have f0:aK 0 (.ptr n.fb n.below.length 0)=some (.ptr n.fb n.below.length 0):=rfl
 have pv:VaA (.mk 3 n.top.plugin [v]) [.int .i64 3,.int .i64 n.top.plugin,.isl (some h2.ids) tV [r]]:=uK ⟨_,_,rfl,hv,rfl⟩
 by_cases hk:(VD.mk 3 n.top.plugin [v]).code=0
 ·rw[if_neg (by simpa using hk)]
  obtain⟨r',es,hr'⟩:=tq (h:=(h2.push [r]).fresh 1) pv hk
  obtain⟨h5,e5,s5⟩:=cS s4 a4 o.below o3.stk hr'
  rw[ap,ap,ap,aO]at s5
  refine⟨_,h5,?_,bu.ok s5.drop.drop.drop⟩
  refine ah cj rfl ?_;unfold ca
  simp only[sim,ag,Nat.reduceAdd,Nat.reduceSub,List.replicate,reduceCtorEq,Nat.reduceLeDiff,Nat.reduceLT,aa,az,tp,c1,Int.reduceEq,decide_false,decide_true,e2,o1,o2,c3,f0,tl3,tl4,es,e5]
 ·rw[if_pos hk]
  have es:=yi (h:=(h2.push [r]).fresh 1) pv hk
  refine⟨_,_,?_,bu.no (by decide) (n.stk st) rfl s4.drop.drop.drop⟩
  refine ah cj rfl ?_;unfold ca
  simp only[sim,ag,Nat.reduceAdd,Nat.reduceSub,List.replicate,reduceCtorEq,Nat.reduceLeDiff,Nat.reduceLT,aa,az,tp,c1,Int.reduceEq,decide_false,decide_true,e2,o1,o2,c3,f0,tl3,tl4,es]
set_option maxHeartbeats 1000000 in
theorem GE (s:St h0 F0 J0 h L) (a:At c L i n) (o:OkR c n) {st:List VD} {v:VD} (hst:n.top.stack=st++[v]) (hc:v.code=0) (k m:Int):∃ fr h',aj Try.prog po iY [.ptr c.mb 0 0,.agg (iR 12 k m)] h=some (fr,h')∧bu h0 F0 J0 c L i (n.stk st) (bV n.top.plugin 12 k m [v] n.S) fr h':=by
 rw[Lt]
 have s1:=s.push [iR 12 k m]
 have a1:=a.cons (ai h.n [iR 12 k m])
 obtain⟨tp,_⟩:=ct s1 a1 o.below
 have c1:=(s1.cell 0 rfl).1
 obtain⟨h2,r,e2,hv,s2,a2⟩:=eQ s1 a1 o hst
 rw[ap]at s2 a2
 have o3:=o.stk' hst
 have f0:aK 0 (.ptr n.fb n.below.length 0)=some (.ptr n.fb n.below.length 0):=rfl
 by_cases hk:v.kind=3
 ·rw[if_neg (by simpa using hk)]
  obtain⟨x,hx⟩:=(yD hc).2 hk
  have hz:v.l[0]? =some x:=by rw[hx];rfl
  have hzd:v.l.getD 0 ay=x:=by rw[hx];rfl
  rw[hzd]
  obtain⟨r',ek,hr'⟩:=dK (h:=h2) hv hk
  obtain⟨o1,o2⟩:=hr'.len3
  obtain⟨lv,rz,p1,p2,p3,p4⟩:=hr'.part hz
  have p2:∀ q:IntKind,bQ (some tV) none lv (.int q 0)=some (.ip rz 0):=p2
  obtain⟨w,hw,_⟩:=hr'.cells3
  have hn:r'[1]? =some (.int .i64 v.n):=by rw[hw];rfl
  have s3:=s2.push [r']
  have a3:=a2.cons (ai h2.n [r'])
  have c3:=(s3.cell 0 rfl).1
  obtain⟨_,tl3⟩:=ct s3 a3 o.below
  by_cases hp:v.n=n.top.plugin
  ·rw[if_neg (by simpa using hp)]
   have d:decide (v.n=n.top.plugin)=true:=decide_eq_true hp
   obtain⟨h4,e4,s4⟩:=cS s3 a3 o.below o3.stk p4
   rw[ap,ap,aO]at s4
   refine⟨_,h4,?_,bu.ok s4.drop.drop⟩
   refine ah cj rfl ?_;unfold ca
   simp only[sim,ag,Nat.reduceAdd,Nat.reduceSub,List.replicate,reduceCtorEq,Nat.reduceLeDiff,Nat.reduceLT,aa,az,tp,c1,Int.reduceEq,decide_false,decide_true,e2,ek,o1,o2,c3,hn,f0,tl3,d,bX,p1,p2,p3,e4]
  ·rw[if_pos hp]
   have d:decide (v.n=n.top.plugin)=false:=decide_eq_false hp
   refine⟨_,_,?_,bu.no (by decide) (n.stk st) rfl s3.drop.drop⟩
   refine ah cj rfl ?_;unfold ca
   simp only[sim,ag,Nat.reduceAdd,Nat.reduceSub,List.replicate,reduceCtorEq,Nat.reduceLeDiff,Nat.reduceLT,aa,az,tp,c1,Int.reduceEq,decide_false,decide_true,e2,ek,o1,o2,c3,hn,f0,tl3,d,bL]
 ·rw[if_pos hk]
  have ek:=eU (h:=h2) hv hk
  refine⟨_,_,?_,bu.no (by decide) (n.stk st) rfl s2.drop⟩
  refine ah cj rfl ?_;unfold ca
  simp only[sim,ag,Nat.reduceAdd,Nat.reduceSub,List.replicate,reduceCtorEq,Nat.reduceLeDiff,Nat.reduceLT,aa,az,tp,c1,Int.reduceEq,decide_false,decide_true,e2,ek]
theorem Iz (s:St h0 F0 J0 h L) (a:At c L i n) (o:OkR c n) (k m:Int):∃ h',aj Try.prog po iY [.ptr c.mb 0 0,.agg (iR 1 k m)] h=some (.inl (.tup []),h')∧St h0 F0 J0 h' (put c L i (n.stk (n.top.stack++[ay]))):=by
 have s1:=s.push [iR 1 k m]
 have a1:=a.cons (ai h.n [iR 1 k m])
 obtain⟨tp,_⟩:=ct s1 a1 o.below
 have c1:=(s1.cell 0 rfl).1
 obtain⟨h2,e2,s2⟩:=cS s1 a1 o.below o.stk cQ
 rw[ap]at s2
 refine⟨h2,?_,s2.drop⟩
 refine ah cj rfl ?_;unfold ca
 simp only[sim,ag,Nat.reduceAdd,Nat.reduceSub,List.replicate,reduceCtorEq,Nat.reduceLeDiff,Nat.reduceLT,aa,az,tp,c1,Int.reduceEq,decide_false,decide_true,e2]
theorem Hs (s:St h0 F0 J0 h L) (a:At c L i n) (o:OkR c n) (k m:Int):∃ h',aj Try.prog po iY [.ptr c.mb 0 0,.agg (iR 2 k m)] h=some (.inl (.tup []),h')∧St h0 F0 J0 h' (put c L i (n.stk (n.top.stack++[ju m]))):=by
 have s1:=s.push [iR 2 k m]
 have a1:=a.cons (ai h.n [iR 2 k m])
 obtain⟨tp,_⟩:=ct s1 a1 o.below
 have c1:=(s1.cell 0 rfl).1
 obtain⟨h2,e2,s2⟩:=cS s1 a1 o.below o.stk (pZ m)
 rw[ap]at s2
 refine⟨h2,?_,s2.drop⟩
 refine ah cj rfl ?_;unfold ca
 simp only[sim,ag,Nat.reduceAdd,Nat.reduceSub,List.replicate,reduceCtorEq,Nat.reduceLeDiff,Nat.reduceLT,aa,az,tp,c1,Int.reduceEq,decide_false,decide_true,kw,e2]
theorem IF (s:St h0 F0 J0 h L) (a:At c L i n) (o:OkR c n) (k m:Int):∃ h',aj Try.prog po iY [.ptr c.mb 0 0,.agg (iR 3 k m)] h=some (.inl (.tup []),h')∧St h0 F0 J0 h' (put c L i (n.stk (n.top.stack++[n.top.arg]))):=by
 have s1:=s.push [iR 3 k m]
 have a1:=a.cons (ai h.n [iR 3 k m])
 obtain⟨tp,_⟩:=ct s1 a1 o.below
 have c1:=(s1.cell 0 rfl).1
 obtain⟨ar,sv,nv,g,mv⟩:=cV s1 (i+1) a1.m
 have f3:aK 3 (.ptr n.fb n.below.length 0)=some (.ptr n.fb n.below.length 3):=rfl
 have la:=mv.arg
 obtain⟨h2,e2,s2⟩:=cS s1 a1 o.below o.stk mv.ha
 rw[ap]at s2
 refine⟨h2,?_,s2.drop⟩
 refine ah cj rfl ?_;unfold ca
 simp only[sim,ag,Nat.reduceAdd,Nat.reduceSub,List.replicate,reduceCtorEq,Nat.reduceLeDiff,Nat.reduceLT,aa,az,tp,c1,Int.reduceEq,decide_false,decide_true,f3,la,e2]
theorem Hu (s:St h0 F0 J0 h L) (a:At c L i n) (o:OkR c n) {k:Int} (hk:0≤k∧k<n.top.names.length) (m:Int):∃ h',aj Try.prog po iY [.ptr c.mb 0 0,.agg (iR 4 k m)] h=some (.inl (.tup []),h')∧St h0 F0 J0 h' (put c L i (n.stk (n.top.stack++[n.top.names.getD (n.top.names.length - 1 - k.toNat) ay]))):=by
 have s1:=s.push [iR 4 k m]
 have a1:=a.cons (ai h.n [iR 4 k m])
 obtain⟨tp,_⟩:=ct s1 a1 o.below
 have c1:=(s1.cell 0 rfl).1
 obtain⟨ar,sv,nv,g,mv⟩:=cV s1 (i+1) a1.m
 have f7:aK 7 (.ptr n.fb n.below.length 0)=some (.ptr n.fb n.below.length 7):=rfl
 have ln:=fun q=>mv.rd q 7 nv (bY n.top ar sv nv g mv.ha.len3.1).2.2.1
 obtain⟨p,rx,p1,p2,p3⟩:=mv.nv.2.2.2.2 .i64 (n.top.names.length - 1 - k.toNat) (n.top.names.getD (n.top.names.length - 1 - k.toNat) ay) (by
  simp only[List.getD]
  rw[List.getElem?_eq_getElem (by omega)]
  rfl)
 have hn:=o.nms
 have w1:IntKind.wrap .i64 ((n.top.names.length:Int) - 1)=(n.top.names.length:Int) - 1:=w64 (by omega) (by omega)
 have w2:IntKind.wrap .i64 ((n.top.names.length:Int) - 1 - k)=((n.top.names.length - 1 - k.toNat:Nat):Int):=y9 (by omega) (by omega) (by omega)
 have lnn:=mv.nv.2.2.1
 have fn:=mv.nv.2.2.2.1
 obtain⟨h2,e2,s2⟩:=cS s1 a1 o.below o.stk p3
 rw[ap]at s2
 refine⟨h2,?_,s2.drop⟩
 refine ah cj rfl ?_;unfold ca
 simp only[sim,ag,Nat.reduceAdd,Nat.reduceSub,List.replicate,reduceCtorEq,Nat.reduceLeDiff,Nat.reduceLT,aa,az,tp,c1,Int.reduceEq,decide_false,decide_true,f7,ln,lnn,fn,w1,w2,p1,p2,e2]
end
def Ee (h0:AH) (F0 J0:Nat→Prop) (c:Cfg) (L:List Asn) (i:Nat) (q:ij) (fr:AV ⊕ AV) (h':AH):Prop:=match q with
 | .go m=>fr= .inl (.tup [])∧∃ fb',St h0 F0 J0 h' (put c L i ⟨fb',m.S,m.below,m.top⟩)
 | .fail S k=>fr= .inr (.iface tGo (.int .i64 k))∧∃ n':Now,n'.S=S∧St h0 F0 J0 h' (put c L i n')
 | .over _ _=>False
section
variable {h h' h0:AH} {F J F0 J0:Nat→Prop} {L:List Asn} {c:Cfg} {i:Nat} {n:Now}
theorem d7 (M:List XD):dR (dW M)=some M.length∧(∀ s,cN s (some 158) (dW M)=true)∧(dW M).one=true:=by
 unfold dW
 exact⟨by simp[dR],fun s=>i8,rfl⟩
theorem Ij (e:TypeId) (rows:List (List AV)):SlA e (eH e rows) rows:=by
 unfold eH
 by_cases hz:rows=[]
 ·exact .inl ⟨hz,by rw[if_pos hz]⟩
 ·exact .inr ⟨none,by rw[if_neg hz]⟩
theorem mQ (s:St h0 F0 J0 h L) (a:At c L i n) (o:OkR c n) {p:Nat} (hp:p<4):(∀ q:IntKind,bQ none (some (4,5)) (.ptr c.bb 0 2) (.int q (p:Int))=some (.ptr c.bb 0 (2+p*5)))∧(∀ k:Nat,aD false k h (.ptr c.bb 0 (2+p*5+1))=some (gZ (c.ms.getD p none)))∧
  ∃ r,aD true 3 h (.ptr c.bb 0 (2+p*5+2))=some (.agg r)∧VaA (n.S.kept.getD p ay) r∧aD true 5 h (.ptr c.bb 0 (2+p*5))=some (.agg (.bool (c.ms.getD p none).isSome::gZ (c.ms.getD p none)::r))∧c.bb<h.n:=by
 obtain⟨F,J,x⟩:=s.get (i+1) a.b
 obtain⟨row,c1,cn,_,_,_,hpl⟩:=pz x o.len
 obtain⟨q1,q2,r,q3,q4,q5⟩:=hpl p (by rw[o.ms];exact hp)
 refine⟨fun q=>by simp[bQ,hp],fun k=> ?_,r,?_,q4,?_,cn⟩
 ·rw[bC,c1,Option.bind_some,List.getElem?_cons_zero,Option.bind_some,eY,q2]
 ·rw[bC,c1,Option.bind_some,List.getElem?_cons_zero,Option.bind_some,q3]
 ·rw[bC,c1,Option.bind_some,List.getElem?_cons_zero,Option.bind_some,q5]
theorem tF {b i off k:Nat} {g:Bool} {es:List (List AV)} (hb:b<h.n):aD g k (h.push es) (.ptr b i off)=aD g k h (.ptr b i off):=by rw[bC,bC,aR hb]
abbrev zR5:List AV:=[.bool false,.nils,.int .i64 0,.int .i64 0,.nils]
theorem Ed {G:af} {i:Int} {k:Nat} (hb:eX (G.rights i) k=true):G.has i=true:=by
 cases h:G.has i with
 | true=>rfl
 | false=>
   have:G.rights i=0:=by unfold af.rights;rw[if_pos (.inl (af.path_no h))]
   rw[this]at hb
   have h2:eX 0 k=false:=by unfold eX;rw[Int.zero_ediv];decide
   rw[h2]at hb
   cases hb
def kb (h0:AH) (F0 J0:Nat→Prop) (c:Cfg) (L:List Asn) (i:Nat) (n:Now) (q:StD×xx×Int) (fr:AV ⊕ AV) (h':AH):Prop:=
 (q.2.2=0∧fr= .inl (.tup [])∧∃ fb',St h0 F0 J0 h' (put c L i ⟨fb',q.1,n.below++[n.top],⟨q.2.1.plugin,q.2.1.func,0,q.2.1.arg,[],[],true,q.2.1.gates⟩⟩))∨
 (q.2.2≠0∧fr= .inr (.iface tGo (.int .i64 q.2.2))∧∃ n':Now,n'.S=q.1∧St h0 F0 J0 h' (put c L i n'))
theorem kb.no (a:At c L i n) {q:xx} {k:Int} (hk:k≠0) (s:St h0 F0 J0 h' L):kb h0 F0 J0 c L i n (n.S,q,k) (.inr (.iface tGo (.int .i64 k))) h':= .inr ⟨hk,rfl,n,rfl,by rw[a.same];exact s⟩
set_option maxRecDepth 100000 in
set_option maxHeartbeats 2000000 in
theorem Iq (s:St h0 F0 J0 h L) (a:At c L i n) (o:OkR c n) {v x:VD} {r t:List AV} (hv:VaA v r) (hx:VaA x t):∃ fr h',aj Try.prog po 128 [.ptr c.mb 0 0,.agg r,.agg t] h=some (fr,h')∧kb h0 F0 J0 c L i n (fJ c.ms v x (n.below.length+1) n.S) fr h':=by
 unfold fJ
 simp only
 have s1:=(s.push [r]).push [t]
 have a1:=(a.cons (ai h.n [r])).cons (ai (h.push [r]).n [t])
 obtain⟨o1,o2⟩:=hv.len3
 obtain⟨o3,o4⟩:=hx.len3
 have c1:((h.push [r]).push [t]).cell h.n=some [r]:=(s1.cell 1 rfl).1
 have c2:((h.push [r]).push [t]).cell (h.n+1)=some [t]:=(s1.cell 0 rfl).1
 by_cases hk:v.kind=4
 case neg=>
  rw[if_pos hk]
  have ek:=eU (h:=(h.push [r]).push [t]) hv hk
  refine⟨_,_,?_,kb.no a (by decide) s1.drop.drop⟩
  refine ah iG rfl ?_;unfold gD
  simp only[sim,ag,Nat.reduceAdd,Nat.reduceSub,List.replicate,reduceCtorEq,Nat.reduceLeDiff,Nat.reduceLT,aa,az,o1,o2,o3,o4,c1,c2,ek]
 rw[if_neg (by simpa using hk)]
 obtain⟨r',ek,hv'⟩:=dK (h:=(h.push [r]).push [t]) hv hk
 have ec:=pM s1 a1.m a1.b a1.g o.len o.S.wf hv' (k:=3) (q:=8) (by decide) (by decide)
 by_cases hb:eX (n.S.G.rights v.n) 3=true
 case neg=>
  rw[if_neg hb]at ec
  rw[if_pos (by simpa using hb)]
  refine⟨_,_,?_,kb.no a (by decide) s1.drop.drop⟩
  refine ah iG rfl ?_;unfold gD
  simp only[sim,ag,Nat.reduceAdd,Nat.reduceSub,List.replicate,reduceCtorEq,Nat.reduceLeDiff,Nat.reduceLT,aa,az,o1,o2,o3,o4,c1,c2,ek,ec]
 rw[if_pos hb]at ec
 rw[if_neg (by simp[hb])]
 obtain⟨_,_,ht⟩:=af.target_ok o.S.wf (Ed hb)
 generalize (n.S.G.target v.n).1=T at*
 obtain⟨t1,t2,t3,t4,t5,t6⟩:=T
 simp only[aC]at ht ec ⊢
 generalize hN:([.int .i64 t1,.int .i64 t2,.int .i64 t3,.int .i64 t4,.int .i64 t5,.int .i64 t6]:List AV)=N at*
 have n4:N[4]? =some (.int .i64 t5):=by rw[←hN];rfl
 have n5:N[5]? =some (.int .i64 t6):=by rw[←hN];rfl
 have nl:N.length=6:=by rw[←hN];rfl
 have no:N.all AV.one=true:=by rw[←hN];rfl
 have s2:=s1.push [N]
 have a2:=a1.cons (ai ((h.push [r]).push [t]).n [N])
 have c3:=(s2.cell 0 rfl).1
 simp only[aM]at c3
 by_cases hp:t5<0
 ·rw[if_pos hp]
  have d:decide (t5<0)=true:=decide_eq_true hp
  refine⟨_,_,?_,kb.no a (by decide) s2.drop.drop.drop⟩
  refine ah iG rfl ?_;unfold gD
  simp only[sim,ag,Nat.reduceAdd,Nat.reduceSub,List.replicate,reduceCtorEq,Nat.reduceLeDiff,Nat.reduceLT,aa,az,o1,o2,o3,o4,c1,c2,ek,ec,nl,no,n4,d,bL]
 rw[if_neg hp]
 obtain⟨P,rfl⟩:=Int.eq_ofNat_of_zero_le (show 0≤t5 by omega)
 have d:decide ((P:Int)<0)=false:=decide_eq_false (by omega)
 have hP4:P<4:=by omega
 rw[Int.toNat_natCast]
 -- the plugin is looked at
 have s3':=s2.push [zR5]
 have a3':=a2.cons (ai (((h.push [r]).push [t]).push [N]).n [zR5])
 obtain⟨l0,_,_⟩:=cH s2 a2 o.len
 obtain⟨l0',_,_⟩:=cH s3' a3' o.len
 obtain⟨ix,_,kr,_,hkr,l5,bn⟩:=mQ s2 a2 o hP4
 have l5':aD true 5 ((((h.push [r]).push [t]).push [N]).push [zR5]) (.ptr c.bb 0 (2+P*5))=_:=(tF bn).trans l5
 have fa0:aK 0 (.ptr c.mb 0 0)=some (.ptr c.mb 0 0):=rfl
 have fa1:aK 2 (.ptr c.bb 0 0)=some (.ptr c.bb 0 2):=rfl
 have fa2:aK 1 (.ptr c.mb 0 0)=some (.ptr c.mb 0 1):=rfl
 have fa3:aK 0 (.ptr c.bb 0 0)=some (.ptr c.bb 0 0):=rfl
 have c3':=(s3'.cell 1 rfl).1
 have c7:=(s3'.cell 0 rfl).1
 have m4:∀ x,((((h.push [r]).push [t]).push [N]).push [zR5]).set (h.n+1+1+1) (some x)=(((h.push [r]).push [t]).push [N]).push x:=fun x=>bw (h:=((h.push [r]).push [t]).push [N])
 simp only[aM]at c3' c7
 generalize hM:c.ms.getD P none=M at*
 have oc:(gZ M).one=true:=by cases M<;>first | rfl | exact(d7 _).2.2
 obtain⟨k1,k2⟩:=hkr.len3
 generalize hq:AV.bool M.isSome::gZ M::kr=pl at*
 have p0:pl[0]? =some (.bool M.isSome):=by rw[←hq];rfl
 have p1:pl[1]? =some (gZ M):=by rw[←hq];rfl
 have pl5:pl.length=5:=by rw[←hq];simp[k1]
 have po':pl.all AV.one=true:=by rw[←hq];simp only[List.all_cons,oc,k2,Bool.and_true];rfl
 have s3:St h0 F0 J0 _ (ai (h.n+1+1+1) [pl]::ai (h.n+1+1) [N]::ai (h.n+1) [t]::ai h.n [r]::L):=s2.push [pl]
 have a3:=a2.cons (ai (h.n+1+1+1) [pl])
 have c4:=(s3.cell 0 rfl).1
 have c5:=(s3.cell 1 rfl).1
 have c6:=(s3.cell 2 rfl).1
 have hfM:ci c.ms (P:Int)=M.getD []:=by unfold ci;rw[Int.toNat_natCast,hM]
 by_cases hcode:M.isNone∨((ci c.ms (P:Int)).length:Int)≤t6∨t6<0
 ·rw[if_pos hcode]
  refine⟨_,_,?_,kb.no a (by decide) s3.drop.drop.drop.drop⟩
  cases M with
  | none=>
    simp only[Option.isSome_none]at p0
    refine ah iG rfl ?_;unfold gD
    simp only[sim,ag,Nat.reduceAdd,Nat.reduceSub,List.replicate,reduceCtorEq,Nat.reduceLeDiff,Nat.reduceLT,aa,az,o1,o2,o3,o4,c1,c2,ek,ec,nl,no,n4,n5,d,bX,bL,fa0,fa1,l0,l0',ix,l5,l5',c3,c3',pl5,po',c7,m4,c4,c5,p0]
  | some M=>
    simp only[Option.isSome_some]at p0
    have d2:decide ((M.length:Int)≤t6)=true:=by
     refine decide_eq_true ?_
     rw[hfM]at hcode
     simp only[Option.getD_some]at hcode
     rcases hcode with h | h | h
     ·cases h
     ·exact h
     ·omega
    obtain⟨m1,m2,_⟩:=d7 M
    simp only[gZ]at p1
    refine ah iG rfl ?_;unfold gD
    simp only[sim,ag,Nat.reduceAdd,Nat.reduceSub,List.replicate,reduceCtorEq,Nat.reduceLeDiff,Nat.reduceLT,aa,az,o1,o2,o3,o4,c1,c2,ek,ec,nl,no,n4,n5,d,bX,bL,fa0,fa1,l0,l0',ix,l5,l5',c3,c3',pl5,po',c7,m4,c4,c5,p0,p1,m1,m2,d2]
 rw[if_neg hcode]
 obtain⟨M,rfl⟩:∃ M',M=some M':=by
  cases M with
  | none=>exact absurd (.inl rfl) hcode
  | some M=>exact⟨M,rfl⟩
 simp only[Option.isSome_some]at p0
 have d2:decide ((M.length:Int)≤t6)=false:=by
  refine decide_eq_false fun h=>hcode (.inr (.inl ?_))
  rw[hfM]
  exact h
 obtain⟨m1,m2,_⟩:=d7 M
 simp only[gZ]at p1
 obtain⟨l0'',l1'',_⟩:=cH s3 a3 o.len
 obtain⟨_,_,_,_,mv⟩:=cV s3 (i+4) a3.m
 have lm:∀ k:Nat,aD false k ((((h.push [r]).push [t]).push [N]).push [pl]) (.ptr c.mb 0 1)=some (.msl n.fb 0 (n.below.length+1) tFr):=fun k=>by
  rw[bC,mv.m];rfl
 by_cases h20:n.below.length+1=20
 ·rw[if_pos h20]
  have d3:decide (((n.below.length+1:Nat):Int)=20)=true:=decide_eq_true (by omega)
  refine⟨_,_,?_,kb.no a (by decide) s3.drop.drop.drop.drop⟩
  refine ah iG rfl ?_;unfold gD
  simp only[sim,ag,Nat.reduceAdd,Nat.reduceSub,List.replicate,reduceCtorEq,Nat.reduceLeDiff,Nat.reduceLT,aa,az,o1,o2,o3,o4,c1,c2,ek,ec,nl,no,n4,n5,d,bX,bL,fa0,fa1,fa2,l0,l0',l0'',ix,l5,l5',c3,c3',pl5,po',c7,m4,c4,c5,p0,p1,m1,m2,d2,lm,d3]
 rw[if_neg h20]
 have d3:decide (((n.below.length+1:Nat):Int)=20)=false:=decide_eq_false (by omega)
 -- the argument goes across
 obtain⟨F1,J1,gx⟩:=s3.get (i+1+1+1+1+2) a3.g
 have gg:=H1 (gx:IsG _ F1 J1 c.gb n.S.G) o.S.wf v.n
 have gs:SlA 3 (eH 3 ((n.S.G.gatesC v.n).map fun x=>[.int .i64 x])) (dw (n.S.G.gatesC v.n)):=Ij _ _
 have gfew:=tM (i:=v.n) o.S.wf
 generalize eH 3 ((n.S.G.gatesC v.n).map fun x=>[.int .i64 x])=gv at*
 generalize n.S.G.gatesC v.n=ks at*
 obtain⟨h4,⟨y,e4,hy⟩,s4⟩:=kG s3 a3 (R:=fun h'=>∃ r',aj Try.prog po 106 [.ptr c.gb 0 0,.agg t,gv] ((((h.push [r]).push [t]).push [N]).push [pl])=some (.inl (.tup [.agg r',.int .i64 (bj ks n.S.G x).2.2]),h')∧VaA (bj ks n.S.G x).2.1 r') fun F J gx=>qu gx o.S.wf hx gs (by omega)
 generalize bj ks n.S.G x=q at*
 obtain⟨G',y',cc⟩:=q
 simp only at e4 hy s4 ⊢
 have a4:=a3.put {n with S:={n.S with G:=G'}}
 rw[ap,ap,ap,ap]at s4 a4
 obtain⟨z1,z2⟩:=hy.len3
 have s5':=s4.push [zR3]
 have a5':=a4.cons (ai h4.n [zR3])
 obtain⟨n0,n1,_⟩:=cH s5' a5' o.len
 have d0:=(s5'.cell 3 rfl).1
 have s5:=s4.push [y]
 have a5:=a4.cons (ai h4.n [y])
 have d1:=(s5.cell 0 rfl).1
 have d2':=(s5.cell 2 rfl).1
 have hfo:(gv).one=true:=by rcases gs with⟨_,rfl⟩ | ⟨id,rfl⟩<;>rfl
 have hgc:gv.cells=[gv]:=by rcases gs with⟨_,rfl⟩ | ⟨id,rfl⟩<;>rfl
 by_cases hcc:cc=0
 ·subst hcc
  have d5:decide ((0:Int)=0)=true:=rfl
  obtain⟨_,ec6⟩:=ym s5 a5 o.below (f:=⟨P,t6,0,y',[],[],true,ks⟩) (ar:=y) (g:=gv) hy gs rfl rfl
  obtain⟨h6,fb',e6,s6⟩:=ec6 h20
  rw[ap,ap,ap,ap,ap,aO]at s6
  refine⟨_,h6,?_,.inl ⟨rfl,rfl,fb',s6.drop.drop.drop.drop.drop⟩⟩
  obtain⟨y0,y1,y2,rfl⟩:∃ a b c,y=[a,b,c]:=by match y,z1 with | [a,b,c],_=>exact⟨a,b,c,rfl⟩
  simp only[List.all_cons,List.all_nil,Bool.and_true,Bool.and_eq_true]at z2
  obtain⟨z3,z4,z5⟩:=z2
  simp only[cD,Int.natCast_zero,List.cons_append,List.nil_append]at e6
  refine ah iG rfl ?_;unfold gD
  simp only[sim,ag,Nat.reduceAdd,Nat.reduceSub,List.replicate,reduceCtorEq,Nat.reduceLeDiff,Nat.reduceLT,aa,az,o1,o2,o3,o4,c1,c2,ek,ec,nl,no,n4,n5,d,bX,bL,fa0,fa1,fa2,fa3,l0,l0',l0'',l1'',ix,l5,l5',c3,c3',pl5,po',c7,m4,c4,c5,c6,p0,p1,m1,m2,d2,lm,d3,gg,e4,n0,n1,d0,d1,d2',d5,z3,z4,z5,hfo,hgc,e6]
 ·have d5:decide (cc=0)=false:=decide_eq_false hcc
  refine⟨_,_,?_,.inr ⟨hcc,rfl,{n with S:={n.S with G:=G'}},rfl,s5.drop.drop.drop.drop.drop⟩⟩
  refine ah iG rfl ?_;unfold gD
  simp only[sim,ag,Nat.reduceAdd,Nat.reduceSub,List.replicate,reduceCtorEq,Nat.reduceLeDiff,Nat.reduceLT,aa,az,o1,o2,o3,o4,c1,c2,ek,ec,nl,no,n4,n5,d,bX,bL,fa0,fa1,fa2,fa3,l0,l0',l0'',l1'',ix,l5,l5',c3,c3',pl5,po',c7,m4,c4,c5,c6,p0,p1,m1,m2,d2,lm,d3,gg,e4,n0,n1,d0,d1,d2',d5,z1,z2]
end
abbrev MM:FuncId:=111
section
variable {h h' h0:AH} {F J F0 J0:Nat→Prop} {L:List Asn} {c:Cfg} {i:Nat} {n:Now}
theorem cG (s:St h0 F0 J0 h L) (a:At c L i n) (o:OkR c n) {op k m:Int} (hop:13≤op) {fr:AV ⊕ AV} (e:aj Try.prog po MM [.ptr c.mb 0 0,.agg (iR op k m)] (h.push [iR op k m])=some (fr,h')) (hfr:fr= .inl (.tup [])∨∃ v,fr= .inr v):
  aj Try.prog po iY [.ptr c.mb 0 0,.agg (iR op k m)] h=some (fr,h'):=by
 have s1:=s.push [iR op k m]
 have a1:=a.cons (ai h.n [iR op k m])
 obtain⟨tp,_⟩:=ct s1 a1 o.below
 have c1:=(s1.cell 0 rfl).1
 have d:∀ j:Int,j<13→decide (op=j)=false:=fun j hj=>decide_eq_false (by omega)
 have e1:=d 1 (by decide);have e2:=d 2 (by decide);have e3:=d 3 (by decide);have e4:=d 4 (by decide);have e6:=d 6 (by decide);have e8:=d 8 (by decide);have e9:=d 9 (by decide);have e10:=d 10 (by decide);have e11:=d 11 (by decide);have e12:=d 12 (by decide)
 rcases hfr with rfl | ⟨v,rfl⟩
 ·refine ah cj rfl ?_;unfold ca
  simp only[sim,ag,Nat.reduceAdd,Nat.reduceSub,List.replicate,reduceCtorEq,Nat.reduceLeDiff,Nat.reduceLT,aa,az,tp,c1,e1,e2,e3,e4,e6,e8,e9,e10,e11,e12,e]
 ·refine ah cj rfl ?_;unfold ca
  simp only[sim,ag,Nat.reduceAdd,Nat.reduceSub,List.replicate,reduceCtorEq,Nat.reduceLeDiff,Nat.reduceLT,aa,az,tp,c1,e1,e2,e3,e4,e6,e8,e9,e10,e11,e12,e]
theorem bu.fr {q:StD×VD×Int} {fr:AV ⊕ AV} (r:bu h0 F0 J0 c L i n q fr h'):fr= .inl (.tup [])∨∃ v,fr= .inr v:=by
 rcases r with⟨_,b,_⟩ | ⟨_,b,_⟩
 ·exact .inl b
 ·exact .inr ⟨_,b⟩
theorem bu.put {q:StD×VD×Int} {n1:Now} {fr:AV ⊕ AV} (r:bu h0 F0 J0 c (put c L i n1) i n q fr h'):bu h0 F0 J0 c L i n q fr h':=by
 rcases r with⟨x,y,z⟩ | ⟨x,y,n',z,w⟩
 ·exact .inl ⟨x,y,by rw[aO]at z;exact z⟩
 ·exact .inr ⟨x,y,n',z,by rw[aO]at w;exact w⟩
theorem kb.put {q:StD×xx×Int} {n1:Now} {fr:AV ⊕ AV} (r:kb h0 F0 J0 c (put c L i n1) i n q fr h'):kb h0 F0 J0 c L i n q fr h':=by
 rcases r with⟨x,y,fb,z⟩ | ⟨x,y,n',z,w⟩
 ·exact .inl ⟨x,y,fb,by rw[aO]at z;exact z⟩
 ·exact .inr ⟨x,y,n',z,by rw[aO]at w;exact w⟩
theorem kb.drop {X:Asn} {q:StD×xx×Int} {fr:AV ⊕ AV} (r:kb h0 F0 J0 c (X::L) (i+1) n q fr h'):kb h0 F0 J0 c L i n q fr h':=by
 rcases r with⟨x,y,fb,z⟩ | ⟨x,y,n',z,w⟩
 ·exact .inl ⟨x,y,fb,z.drop⟩
 ·exact .inr ⟨x,y,n',z,w.drop⟩
theorem gC (s:St h0 F0 J0 h L) (a:At c L i n) (o:OkR c n) (op k m:Int):St h0 F0 J0 ((h.push [iR op k m]).push [iR op k m]) (ai (h.n+1) [iR op k m]::ai h.n [iR op k m]::L)∧At c (ai (h.n+1) [iR op k m]::ai h.n [iR op k m]::L) (i+1+1) n∧
  aj Try.prog po FX [.ptr c.mb 0 0] ((h.push [iR op k m]).push [iR op k m])=some (.inl (.ptr n.fb n.below.length 0),(h.push [iR op k m]).push [iR op k m])∧(∀ k':Nat,aD false k' ((h.push [iR op k m]).push [iR op k m]) (.ptr n.fb n.below.length 0)=some (.int .i64 n.top.plugin))∧((h.push [iR op k m]).push [iR op k m]).cell (h.n+1)=some [iR op k m]:=by
 have s1:=(s.push [iR op k m]).push [iR op k m]
 have a1:=(a.cons (ai h.n [iR op k m])).cons (ai (h.n+1) [iR op k m])
 obtain⟨tp,tl⟩:=ct s1 a1 o.below
 exact⟨s1,a1,tp,tl,(s1.cell 0 rfl).1⟩
theorem Gn (s:St h0 F0 J0 h L) (a:At c L i n) (o:OkR c n) {st:List VD} {v:VD} (hst:n.top.stack=st++[v]) (k m:Int):∃ fr h',aj Try.prog po iY [.ptr c.mb 0 0,.agg (iR 13 k m)] h=some (fr,h')∧bu h0 F0 J0 c L i (n.stk st) (bV n.top.plugin 13 k m [v] n.S) fr h':=by
 obtain⟨s1,a1,tp,_,c1⟩:=gC s a o 13 k m
 obtain⟨h2,r,e2,hv,s2,a2⟩:=eQ s1 a1 o hst
 obtain⟨fr,h3,e3,r3⟩:=D7 s2 a2 (o.stk' hst) hv k m
 have r4:=r3.put.drop.drop
 refine⟨fr,h3,cG s a o (by decide) ?_ r4.fr,r4⟩
 rcases r4.fr with rfl | ⟨u,rfl⟩
 ·refine ah bM rfl ?_;unfold bB
  simp only[sim,ag,Nat.reduceAdd,Nat.reduceSub,List.replicate,reduceCtorEq,Nat.reduceLeDiff,Nat.reduceLT,aa,az,tp,c1,Int.reduceEq,decide_false,decide_true,e2,e3]
 ·refine ah bM rfl ?_;unfold bB
  simp only[sim,ag,Nat.reduceAdd,Nat.reduceSub,List.replicate,reduceCtorEq,Nat.reduceLeDiff,Nat.reduceLT,aa,az,tp,c1,Int.reduceEq,decide_false,decide_true,e2,e3]
theorem D3 (s:St h0 F0 J0 h L) (a:At c L i n) (o:OkR c n) {st:List VD} {v:VD} (hst:n.top.stack=st++[v]) (k m:Int):∃ fr h',aj Try.prog po iY [.ptr c.mb 0 0,.agg (iR 16 k m)] h=some (fr,h')∧bu h0 F0 J0 c L i (n.stk st) (bV n.top.plugin 16 k m [v] n.S) fr h':=by
 obtain⟨s1,a1,tp,_,c1⟩:=gC s a o 16 k m
 obtain⟨h2,r,e2,hv,s2,a2⟩:=eQ s1 a1 o hst
 obtain⟨fr,h3,e3,r3⟩:=Fx s2 a2 (o.stk' hst) hv k m
 have r4:=r3.put.drop.drop
 refine⟨fr,h3,cG s a o (by decide) ?_ r4.fr,r4⟩
 rcases r4.fr with rfl | ⟨u,rfl⟩
 ·refine ah bM rfl ?_;unfold bB
  simp only[sim,ag,Nat.reduceAdd,Nat.reduceSub,List.replicate,reduceCtorEq,Nat.reduceLeDiff,Nat.reduceLT,aa,az,tp,c1,Int.reduceEq,decide_false,decide_true,e2,e3]
 ·refine ah bM rfl ?_;unfold bB
  simp only[sim,ag,Nat.reduceAdd,Nat.reduceSub,List.replicate,reduceCtorEq,Nat.reduceLeDiff,Nat.reduceLT,aa,az,tp,c1,Int.reduceEq,decide_false,decide_true,e2,e3]
theorem wJ {h3:AH} {L3:List Asn} (s3:St h0 F0 J0 h3 L3) (x y:List AV):St h0 F0 J0 ((((h3.push [zR3]).push [zR3]).set h3.n (some [x])).set (h3.n+1) (some [y])) (ai (h3.n+1) [y]::ai h3.n [x]::L3)∧(((h3.push [zR3]).push [zR3]).set h3.n (some [x])).cell (h3.n+1)=some [zR3]:=by
 have s4:=(s3.push [zR3]).push [zR3]
 have s5:St h0 F0 J0 _ (ai (h3.n+1) [zR3]::ai h3.n [x]::L3):=s4.set 1 rfl [x]
 exact⟨s5.set 0 rfl [y],(s5.cell 0 rfl).1⟩
set_option maxHeartbeats 1000000 in
theorem Gy (s:St h0 F0 J0 h L) (a:At c L i n) (o:OkR c n) {st:List VD} {v w:VD} (hst:n.top.stack=st++[v]++[w]) (k m:Int):∃ fr h',aj Try.prog po iY [.ptr c.mb 0 0,.agg (iR 14 k m)] h=some (fr,h')∧bu h0 F0 J0 c L i (n.stk st) (bV n.top.plugin 14 k m [v,w] n.S) fr h':=by
 obtain⟨s1,a1,tp,_,c1⟩:=gC s a o 14 k m
 obtain⟨h2,h3,rw_,rv,e2,e3,hw,hv,s3,a3⟩:=pm s1 a1 o hst
 have o3:=(o.stk' (st:=st) (l:=[v]++[w]) (by rw[hst,List.append_assoc]))
 obtain⟨o1,o2⟩:=hw.len3
 obtain⟨o5,o4⟩:=hv.len3
 obtain⟨s6,q0⟩:=wJ s3 rw_ rv
 have a6:=(a3.cons (ai h3.n [rw_])).cons (ai (h3.n+1) [rv])
 have q1:=(s6.cell 0 rfl).1
 have q2:=(s6.cell 1 rfl).1
 generalize hh6:(((h3.push [zR3]).push [zR3]).set h3.n (some [rw_])).set (h3.n+1) (some [rv])=h6 at*
 obtain⟨fr,h7,e7,r7⟩:=CT s6 a6 o3 hv hw k m
 have r8:=r7.drop.drop.put.drop.drop
 refine⟨fr,h7,cG s a o (by decide) ?_ r8.fr,r8⟩
 rcases r8.fr with rfl | ⟨u,rfl⟩
 ·refine ah bM rfl ?_;unfold bB
  simp only[sim,ag,Nat.reduceAdd,Nat.reduceSub,List.replicate,reduceCtorEq,Nat.reduceLeDiff,Nat.reduceLT,aa,az,tp,c1,Int.reduceEq,decide_false,decide_true,e2,e3,o1,o2,o4,o5,q0,hh6,q1,q2,e7]
 ·refine ah bM rfl ?_;unfold bB
  simp only[sim,ag,Nat.reduceAdd,Nat.reduceSub,List.replicate,reduceCtorEq,Nat.reduceLeDiff,Nat.reduceLT,aa,az,tp,c1,Int.reduceEq,decide_false,decide_true,e2,e3,o1,o2,o4,o5,q0,hh6,q1,q2,e7]
set_option maxHeartbeats 1000000 in
theorem Fw (s:St h0 F0 J0 h L) (a:At c L i n) (o:OkR c n) {st:List VD} {v w:VD} (hst:n.top.stack=st++[v]++[w]) (k m:Int):∃ fr h',aj Try.prog po iY [.ptr c.mb 0 0,.agg (iR 19 k m)] h=some (fr,h')∧kb h0 F0 J0 c L i (n.stk st) (fJ c.ms v w (n.below.length+1) n.S) fr h':=by
 obtain⟨s1,a1,tp,_,c1⟩:=gC s a o 19 k m
 obtain⟨h2,h3,rw_,rv,e2,e3,hw,hv,s3,a3⟩:=pm s1 a1 o hst
 have o3:=(o.stk' (st:=st) (l:=[v]++[w]) (by rw[hst,List.append_assoc]))
 obtain⟨o1,o2⟩:=hw.len3
 obtain⟨o5,o4⟩:=hv.len3
 obtain⟨s6,q0⟩:=wJ s3 rw_ rv
 have a6:=(a3.cons (ai h3.n [rw_])).cons (ai (h3.n+1) [rv])
 have q1:=(s6.cell 0 rfl).1
 have q2:=(s6.cell 1 rfl).1
 generalize hh6:(((h3.push [zR3]).push [zR3]).set h3.n (some [rw_])).set (h3.n+1) (some [rv])=h6 at*
 obtain⟨fr,h7,e7,r7⟩:=Iq s6 a6 o3 hv hw
 have r8:=r7.drop.drop.put.drop.drop
 have hfr:fr= .inl (.tup [])∨∃ v,fr= .inr v:=by
  rcases r8 with⟨_,b,_⟩ | ⟨_,b,_⟩
  ·exact .inl b
  ·exact .inr ⟨_,b⟩
 refine⟨fr,h7,cG s a o (by decide) ?_ hfr,r8⟩
 rcases hfr with rfl | ⟨u,rfl⟩
 ·refine ah bM rfl ?_;unfold bB
  simp only[sim,ag,Nat.reduceAdd,Nat.reduceSub,List.replicate,reduceCtorEq,Nat.reduceLeDiff,Nat.reduceLT,aa,az,tp,c1,Int.reduceEq,decide_false,decide_true,e2,e3,o1,o2,o4,o5,q0,hh6,q1,q2,e7]
 ·refine ah bM rfl ?_;unfold bB
  simp only[sim,ag,Nat.reduceAdd,Nat.reduceSub,List.replicate,reduceCtorEq,Nat.reduceLeDiff,Nat.reduceLT,aa,az,tp,c1,Int.reduceEq,decide_false,decide_true,e2,e3,o1,o2,o4,o5,q0,hh6,q1,q2,e7]
theorem K9 {p k n:Int} {v:VD} {S:StD}:bV p 15 k n [v] S=if v.kind≠4 then S.no 2 else DF S (S.G.derive v.n k (-1)):=rfl
theorem KV {p k n:Int} {v:VD} {S:StD}:bV p 17 k n [v] S=if v.kind≠5 then S.no 2 else({S with G:=(S.G.cut v.n).1}:StD).ok ay:=rfl
theorem K5 {p k n:Int} {v:VD} {S:StD}:bV p 20 k n [v] S=({S with kept:=S.kept.set p.toNat v}:StD).ok (S.kept.getD p.toNat ay):=rfl
set_option maxHeartbeats 1000000 in
theorem F7 (s:St h0 F0 J0 h L) (a:At c L i n) (o:OkR c n) {st:List VD} {v:VD} (hst:n.top.stack=st++[v]) (k m:Int):∃ fr h',aj Try.prog po iY [.ptr c.mb 0 0,.agg (iR 15 k m)] h=some (fr,h')∧bu h0 F0 J0 c L i (n.stk st) (bV n.top.plugin 15 k m [v] n.S) fr h':=by
 rw[K9]
 obtain⟨s1,a1,tp,_,c1⟩:=gC s a o 15 k m
 obtain⟨h2,r,e2,hv,s2,a2⟩:=eQ s1 a1 o hst
 have o3:=o.stk' hst
 rw[ap,ap]at s2 a2
 have c2:=(s2.cell 0 rfl).1
 by_cases hk:v.kind=4
 ·rw[if_neg (by simpa using hk)]
  obtain⟨r',ek,hv'⟩:=dK (h:=h2) hv hk
  obtain⟨h3,e3,s3⟩:=oS s2 a2 o.len o.S.wf hv' k (-1)
  have a3:=a2.put {(n.stk st)with S:={n.S with G:=(n.S.G.derive v.n k (-1)).1}}
  unfold DF
  by_cases hc:(n.S.G.derive v.n k (-1)).2.2=0
  ·rw[if_pos hc]at e3
   rw[if_neg (by simpa using hc)]
   obtain⟨h4,e4,s4⟩:=cS s3 a3 o.below o3.stk (uP (n.S.G.derive v.n k (-1)).2.1)
   rw[aO,ap,ap,aO]at s4
   have r8:bu h0 F0 J0 c L i (n.stk st) _ _ h4:=bu.ok s4.drop.drop
   refine⟨_,h4,cG s a o (by decide) ?_ r8.fr,r8⟩
   refine ah bM rfl ?_;unfold bB
   simp only[sim,ag,Nat.reduceAdd,Nat.reduceSub,List.replicate,reduceCtorEq,Nat.reduceLeDiff,Nat.reduceLT,aa,az,tp,c1,Int.reduceEq,decide_false,decide_true,e2,c2,ek,e3,e4]
  ·rw[if_neg hc]at e3
   rw[if_pos hc]
   rw[ap,ap,aO]at s3
   have r8:bu h0 F0 J0 c L i (n.stk st) _ _ h3:=bu.no (S:={n.S with G:=(n.S.G.derive v.n k (-1)).1}) hc {(n.stk st)with S:={n.S with G:=(n.S.G.derive v.n k (-1)).1}} rfl s3.drop.drop
   refine⟨_,h3,cG s a o (by decide) ?_ r8.fr,r8⟩
   refine ah bM rfl ?_;unfold bB
   simp only[sim,ag,Nat.reduceAdd,Nat.reduceSub,List.replicate,reduceCtorEq,Nat.reduceLeDiff,Nat.reduceLT,aa,az,tp,c1,Int.reduceEq,decide_false,decide_true,e2,c2,ek,e3]
 ·rw[if_pos hk]
  have ek:=eU (h:=h2) hv hk
  have r8:bu h0 F0 J0 c L i (n.stk st) _ _ h2:=bu.no (S:=n.S) (k:=2) (by decide) (n.stk st) rfl s2.drop.drop
  refine⟨_,h2,cG s a o (by decide) ?_ r8.fr,r8⟩
  refine ah bM rfl ?_;unfold bB
  simp only[sim,ag,Nat.reduceAdd,Nat.reduceSub,List.replicate,reduceCtorEq,Nat.reduceLeDiff,Nat.reduceLT,aa,az,tp,c1,Int.reduceEq,decide_false,decide_true,e2,c2,ek]
set_option maxHeartbeats 1000000 in
theorem EE (s:St h0 F0 J0 h L) (a:At c L i n) (o:OkR c n) {st:List VD} {v:VD} (hst:n.top.stack=st++[v]) (k m:Int):∃ fr h',aj Try.prog po iY [.ptr c.mb 0 0,.agg (iR 17 k m)] h=some (fr,h')∧bu h0 F0 J0 c L i (n.stk st) (bV n.top.plugin 17 k m [v] n.S) fr h':=by
 rw[KV]
 obtain⟨s1,a1,tp,_,c1⟩:=gC s a o 17 k m
 obtain⟨l0,l1,_⟩:=cH s1 a1 o.len
 obtain⟨h2,r,e2,hv,s2,a2⟩:=eQ s1 a1 o hst
 have o3:=o.stk' hst
 obtain⟨l2,l3,_⟩:=cH s2 a2 o.len
 rw[ap,ap]at s2 a2
 have f0:aK 0 (.ptr c.mb 0 0)=some (.ptr c.mb 0 0):=rfl
 have f1:aK 0 (.ptr c.bb 0 0)=some (.ptr c.bb 0 0):=rfl
 by_cases hk:v.kind=5
 ·rw[if_neg (by simpa using hk)]
  obtain⟨r',ek,hv'⟩:=dK (h:=h2) hv hk
  obtain⟨w,hw,_⟩:=hv'.cells3
  have fl:HW false 1 1 (.agg r')=some (.int .i64 v.n):=by rw[hw];rfl
  obtain⟨h3,e3,s3⟩:=kG s2 a2 (R:=fun h'=>aj Try.prog po 57 [.ptr c.gb 0 0,.int .i64 v.n] h2=some (.inl (.int .i64 (n.S.G.cut v.n).2),h')) fun F J x=>Jx x v.n
  have a3:=a2.put {(n.stk st)with S:={n.S with G:=(n.S.G.cut v.n).1}}
  obtain⟨h4,e4,s4⟩:=cS s3 a3 o.below o3.stk cQ
  rw[aO,ap,ap,aO]at s4
  have r8:bu h0 F0 J0 c L i (n.stk st) _ _ h4:=bu.ok (S:={n.S with G:=(n.S.G.cut v.n).1}) (v:=ay) s4.drop.drop
  refine⟨_,h4,cG s a o (by decide) ?_ r8.fr,r8⟩
  refine ah bM rfl ?_;unfold bB
  simp only[sim,ag,Nat.reduceAdd,Nat.reduceSub,List.replicate,reduceCtorEq,Nat.reduceLeDiff,Nat.reduceLT,aa,az,tp,c1,Int.reduceEq,decide_false,decide_true,f0,f1,l0,l1,l2,l3,e2,ek,fl,e3,e4]
 ·rw[if_pos hk]
  have ek:=eU (h:=h2) hv hk
  have r8:bu h0 F0 J0 c L i (n.stk st) _ _ h2:=bu.no (S:=n.S) (k:=2) (by decide) (n.stk st) rfl s2.drop.drop
  refine⟨_,h2,cG s a o (by decide) ?_ r8.fr,r8⟩
  refine ah bM rfl ?_;unfold bB
  simp only[sim,ag,Nat.reduceAdd,Nat.reduceSub,List.replicate,reduceCtorEq,Nat.reduceLeDiff,Nat.reduceLT,aa,az,tp,c1,Int.reduceEq,decide_false,decide_true,f0,f1,l0,l1,l2,l3,e2,ek]
def Ld (h0:AH) (F0 J0:Nat→Prop) (c:Cfg) (L:List Asn) (i:Nat) (n:Now) (k:Int) (v:VD) (fr:AV ⊕ AV) (h':AH):Prop:=
 (n.below.length+1≠20∧fr= .inl (.tup [])∧∃ fb',St h0 F0 J0 h' (put c L i ⟨fb',n.S,n.below++[n.top],⟨n.top.plugin,k,0,v,[],[],false,[]⟩⟩))∨
 (n.below.length+1=20∧fr= .inr (.iface tGo (.int .i64 4))∧St h0 F0 J0 h' (put c L i n))
set_option maxRecDepth 100000 in
set_option maxHeartbeats 1000000 in
theorem Fs (s:St h0 F0 J0 h L) (a:At c L i n) (o:OkR c n) {st:List VD} {v:VD} (hst:n.top.stack=st++[v]) (k m:Int):∃ fr h',aj Try.prog po iY [.ptr c.mb 0 0,.agg (iR 18 k m)] h=some (fr,h')∧Ld h0 F0 J0 c L i (n.stk st) k v fr h':=by
 obtain⟨s1,a1,tp,_,c1⟩:=gC s a o 18 k m
 obtain⟨h2,r,e2,hv,s2,a2⟩:=eQ s1 a1 o hst
 have o3:=o.stk' hst
 rw[ap,ap]at s2 a2
 obtain⟨o1,o2⟩:=hv.len3
 have s3:=s2.push [r]
 have a3:=a2.cons (ai h2.n [r])
 have c3:=(s3.cell 0 rfl).1
 have c4:=(s3.cell 1 rfl).1
 obtain⟨_,tl⟩:=ct s3 a3 o.below
 have f0:aK 0 (.ptr n.fb n.below.length 0)=some (.ptr n.fb n.below.length 0):=rfl
 obtain⟨e20,e21⟩:=ym s3 a3 o.below (f:=⟨n.top.plugin,k,0,v,[],[],false,[]⟩) (ar:=r) (g:= .nils) hv (.inl ⟨rfl,rfl⟩) rfl rfl
 obtain⟨y0,y1,y2,rfl⟩:∃ a b c,r=[a,b,c]:=by match r,o1 with | [a,b,c],_=>exact⟨a,b,c,rfl⟩
 simp only[List.all_cons,List.all_nil,Bool.and_true,Bool.and_eq_true]at o2
 obtain⟨z3,z4,z5⟩:=o2
 by_cases h20:n.below.length+1=20
 ·obtain⟨h4,e4,s4⟩:=e20 h20
  simp only[cD,Int.natCast_zero,List.cons_append,List.nil_append]at e4
  refine⟨_,h4,cG s a o (by decide) ?_ (.inr ⟨_,rfl⟩),.inr ⟨h20,rfl,s4.drop.drop.drop⟩⟩
  refine ah bM rfl ?_;unfold bB
  simp only[sim,ag,Nat.reduceAdd,Nat.reduceSub,List.replicate,reduceCtorEq,Nat.reduceLeDiff,Nat.reduceLT,aa,az,tp,c1,Int.reduceEq,decide_false,decide_true,e2,f0,tl,c3,c4,z3,z4,z5,e4]
 ·obtain⟨h4,fb',e4,s4⟩:=e21 h20
  simp only[cD,Int.natCast_zero,List.cons_append,List.nil_append]at e4
  rw[ap,ap,ap,aO]at s4
  refine⟨_,h4,cG s a o (by decide) ?_ (.inl rfl),.inl ⟨h20,rfl,fb',s4.drop.drop.drop⟩⟩
  refine ah bM rfl ?_;unfold bB
  simp only[sim,ag,Nat.reduceAdd,Nat.reduceSub,List.replicate,reduceCtorEq,Nat.reduceLeDiff,Nat.reduceLT,aa,az,tp,c1,Int.reduceEq,decide_false,decide_true,e2,f0,tl,c3,c4,z3,z4,z5,e4]
set_option maxHeartbeats 1000000 in
theorem FD (s:St h0 F0 J0 h L) (a:At c L i n) (o:OkR c n) {st:List VD} {v:VD} (hst:n.top.stack=st++[v]) {P:Nat} (hP:n.top.plugin=(P:Int)) (hP4:P<4) (k m:Int):∃ fr h',aj Try.prog po iY [.ptr c.mb 0 0,.agg (iR 20 k m)] h=some (fr,h')∧bu h0 F0 J0 c L i (n.stk st) (bV n.top.plugin 20 k m [v] n.S) fr h':=by
 rw[K5]
 obtain⟨s1,a1,tp,tl,c1⟩:=gC s a o 20 k m
 obtain⟨l0,l1,_⟩:=cH s1 a1 o.len
 obtain⟨ix,_,kr,lk,hkr,_,bn⟩:=mQ s1 a1 o hP4
 rw[hP]at tl ⊢
 rw[Int.toNat_natCast]
 obtain⟨k1,k2⟩:=hkr.len3
 have f0:aK 0 (.ptr c.mb 0 0)=some (.ptr c.mb 0 0):=rfl
 have f1:aK 2 (.ptr c.bb 0 0)=some (.ptr c.bb 0 2):=rfl
 have f2:aK 0 (.ptr n.fb n.below.length 0)=some (.ptr n.fb n.below.length 0):=rfl
 have f3:aK 2 (.ptr c.bb 0 (2+P*5))=some (.ptr c.bb 0 (2+P*5+2)):=rfl
 have s2:St h0 F0 J0 _ (ai (h.n+1+1) [kr]::ai (h.n+1) [iR 20 k m]::ai h.n [iR 20 k m]::L):=s1.push [kr]
 have a2:=a1.cons (ai (h.n+1+1) [kr])
 obtain⟨h3,r,e3,hv,s3,a3⟩:=eQ s2 a2 o hst
 have o3:=o.stk' hst
 rw[ap,ap,ap]at s3
 have a3':At c (ai (h.n+1+1) [kr]::ai (h.n+1) [iR 20 k m]::ai h.n [iR 20 k m]::put c L i (n.stk st)) (i+1+1+1) (n.stk st):=a3
 obtain⟨h4,e4,s4⟩:=Fa s3 (i+1+1+1+1) a3'.b o.len (p:=P) (by rw[o.ms];exact hP4) hv
 have s4':St h0 F0 J0 h4 (ai (h.n+1+1) [kr]::ai (h.n+1) [iR 20 k m]::ai h.n [iR 20 k m]::put c L i {(n.stk st)with S:={n.S with kept:=n.S.kept.set P v}}):=by
  rw[a3'.setB,ap,ap,ap,aO]at s4
  exact s4
 have a4:=((((a.put {(n.stk st)with S:={n.S with kept:=n.S.kept.set P v}}).cons (ai h.n [iR 20 k m])).cons (ai (h.n+1) [iR 20 k m])).cons (ai (h.n+1+1) [kr]))
 have c4:=(s4'.cell 0 rfl).1
 obtain⟨h5,e5,s5⟩:=cS s4' a4 o.below o3.stk hkr
 rw[ap,ap,ap,aO]at s5
 have r8:bu h0 F0 J0 c L i (n.stk st) _ _ h5:=bu.ok (S:={n.S with kept:=n.S.kept.set P v}) (v:=n.S.kept.getD P ay) s5.drop.drop.drop
 refine⟨_,h5,cG s a o (by decide) ?_ r8.fr,r8⟩
 refine ah bM rfl ?_;unfold bB
 simp only[sim,ag,Nat.reduceAdd,Nat.reduceSub,List.replicate,reduceCtorEq,Nat.reduceLeDiff,Nat.reduceLT,aa,az,tp,c1,Int.reduceEq,decide_false,decide_true,f0,f1,f2,f3,l0,tl,ix,lk,k1,k2,e3,e4,c4,e5]
set_option maxHeartbeats 1000000 in
theorem FA (s:St h0 F0 J0 h L) (a:At c L i n) (o:OkR c n) {P:Nat} (hP:n.top.plugin=(P:Int)) (hP4:P<4) (k m:Int):∃ h',aj Try.prog po iY [.ptr c.mb 0 0,.agg (iR 21 k m)] h=some (.inl (.tup []),h')∧St h0 F0 J0 h' (put c L i (n.stk (n.top.stack++[n.S.kept.getD P ay]))):=by
 obtain⟨s1,a1,tp,tl,c1⟩:=gC s a o 21 k m
 obtain⟨l0,l1,_⟩:=cH s1 a1 o.len
 obtain⟨ix,_,kr,lk,hkr,_,bn⟩:=mQ s1 a1 o hP4
 rw[hP]at tl
 have f0:aK 0 (.ptr c.mb 0 0)=some (.ptr c.mb 0 0):=rfl
 have f1:aK 2 (.ptr c.bb 0 0)=some (.ptr c.bb 0 2):=rfl
 have f2:aK 0 (.ptr n.fb n.below.length 0)=some (.ptr n.fb n.below.length 0):=rfl
 have f3:aK 2 (.ptr c.bb 0 (2+P*5))=some (.ptr c.bb 0 (2+P*5+2)):=rfl
 obtain⟨h2,e2,s2⟩:=cS s1 a1 o.below o.stk hkr
 rw[ap,ap]at s2
 refine⟨h2,cG s a o (by decide) ?_ (.inl rfl),s2.drop.drop⟩
 refine ah bM rfl ?_;unfold bB
 simp only[sim,ag,Nat.reduceAdd,Nat.reduceSub,List.replicate,reduceCtorEq,Nat.reduceLeDiff,Nat.reduceLT,aa,az,tp,c1,Int.reduceEq,decide_false,decide_true,f0,f1,f2,f3,l0,tl,ix,lk,e2]
end
theorem rI {ms:aL} (g:oJ ms) {p k:Int} (hk:k.toNat<(ci ms p).length):(cU ms p k).fault (ci ms p).length 0=0:=by
 have:cU ms p k=(ci ms p)[k.toNat]:=by simp[cU,List.getD,hk]
 rw[this]
 exact g p _ (List.getElem_mem hk)
def MaD.after (m:MaD) (S:StD) (k:Nat) (vs:List VD):MaD:={S:=S,top:={m.top with pc:=m.top.pc+k,stack:=m.top.stack++vs},below:=m.below}
def bh (ms:aL) (m:MaD) (c:List aQ):Prop:=∃ pre post,dM ms m.top.plugin m.top.f=pre++c++post∧m.top.pc=pre.length
theorem bh.get {ms:aL} {m:MaD} {x:aQ} {c:List aQ} (h:bh ms m (x::c)):(dM ms m.top.plugin m.top.f).getD m.top.pc np=x:=by
 obtain⟨pre,post,e,hp⟩:=h
 rw[e,hp]
 simp[List.getD]
theorem bh.at {ms:aL} {m:MaD} {x:aQ} {c:List aQ} (h:bh ms m (x::c)) (hg:m.Good ms) (ho:Cn m x):Ok ms m:=by
 refine⟨hg,?_,by rw[h.get];exact ho⟩
 obtain⟨pre,post,e,hp⟩:=h
 rw[e,hp]
 simp
theorem MaD.Good.after {ms:aL} {m:MaD} {S:StD} {k:Nat} {vs:List VD} (h:m.Good ms) (hS:S.Good) (hmu:S.mu≤m.S.mu) (hl:S.left+vs.length≤m.S.left) (hv:∀ v∈vs,v.code=0):(m.after S k vs).Good ms:=by
 have h1:=h.stk;have h2:=h.nms;have h3:=h.mu
 refine⟨hS,⟨h.top.p0,h.top.there,h.top.f0,h.top.f1,h.top.arg,h.top.names,fun v hm=> ?_,h.top.gates⟩,Nat.le_trans hmu h3,?_,?_,h.few⟩
 ·rcases List.mem_append.1 hm with hm | hm
  ·exact h.top.stack v hm
  ·exact hv v hm
 ·simp only[MaD.after,List.length_append];omega
 ·simp only[MaD.after];omega
theorem MaD.Good.next {ms:aL} {m m':MaD} (h:m.Good ms) (hS:m'.S=m.S) (hb:m'.below.length=m.below.length) (ht:m'.top.Good ms) (h1:m'.top.stack.length≤m.top.stack.length) (h2:m'.top.names.length+m'.S.left≤100000):m'.Good ms:=by
 have h3:=h.stk;have h4:=h.mu;have h5:=h.few
 refine⟨by rw[hS];exact h.S,ht,by rw[hS];exact h4,by rw[hS];omega,h2,by omega⟩
theorem Cn.tick (m:MaD):Cn m ⟨100,0,0⟩:=⟨by simp,by simp,by simp,by simp,by simp,by simp⟩
theorem bh.left {ms:aL} {m:MaD} {a b:List aQ} (h:bh ms m (a++b)):bh ms m a:=by
 obtain⟨pre,post,e,hp⟩:=h
 exact⟨pre,b++post,by rw[e];simp,hp⟩
theorem bh.right {ms:aL} {m m':MaD} {a b:List aQ} (h:bh ms m (a++b)) (h1:m'.top.plugin=m.top.plugin) (h2:m'.top.f=m.top.f) (h3:m'.top.pc=m.top.pc+a.length):bh ms m' b:=by
 obtain⟨pre,post,e,hp⟩:=h
 exact⟨pre++a,post,by rw[h1,h2,e];simp,by rw[h3,hp];simp⟩
def ft (ms:aL) (m:MaD) (k:Nat) (q:StD×VD×Int):Prop:=
 if q.2.2≠0 then fN ms m (.fail q.1 q.2.2)else ∀ r,fN ms (m.after q.1 k [q.2.1]) r→fN ms m r
def yL (ms:aL) (m:MaD) (k:Nat) (acc:List VD) (q:StD×List VD×Int):Prop:=
 if q.2.2≠0 then fN ms m (.fail q.1 q.2.2)else ∃ ws,q.2.1=acc++ws∧∀ r,fN ms (m.after q.1 k ws) r→fN ms m r
theorem ft.no {ms:aL} {m:MaD} {k:Nat} {S:StD} {c:Int} (hc:c≠0) (h:fN ms m (.fail S c)):ft ms m k (S.no c):=by
 unfold ft
 rw[if_pos (show(S.no c).2.2≠0 from hc)]
 exact h
theorem ft.ok {ms:aL} {m:MaD} {k:Nat} {S:StD} {v:VD} (h:∀ r,fN ms (m.after S k [v]) r→fN ms m r):ft ms m k (S.ok v):=by
 unfold ft
 rw[if_neg (by simp[StD.ok])]
 exact h
theorem Hv {ms:aL} {m:MaD} {c:List aQ} (hG:m.Good ms) (h:bh ms m (⟨100,0,0⟩::c)) (hl:m.S.left≠0) {r:ij} (hr:fN ms (m.after m.S.tick 1 []) r):fN ms m r:=by
 refine .go (h.at hG (.tick m)) ?_ hr
 unfold fB
 simp only[h.get,if_true]
 rw[if_neg hl]
 simp[MaD.after]
theorem xI {ms:aL} {m:MaD} {c:List aQ} (hG:m.Good ms) (h:bh ms m (⟨100,0,0⟩::c)) (hl:m.S.left=0):fN ms m (.fail m.S 12):=by
 refine .fail (h.at hG (.tick m)) ?_
 unfold fB
 simp only[h.get,if_true]
 rw[if_pos hl]
theorem jq (st ws:List VD):jl (st++ws) ws.length=ws:=by
 unfold jl
 rw[List.length_append,Nat.add_sub_cancel]
 exact List.drop_left
theorem jt (st ws:List VD):kx (st++ws) ws.length=st:=by
 unfold kx
 rw[List.length_append,Nat.add_sub_cancel]
 exact List.take_left
theorem dQ (st:List VD) (v:VD):jl (st++[v]) 1=[v]:=jq st [v]
theorem fS (st:List VD) (v:VD):kx (st++[v]) 1=st:=jt st [v]
theorem BD (x:XD) (hx:∃ nf o,x.fault nf o=0) (p:Nat):∃ c,aw x p=⟨100,0,0⟩::c:=by
 obtain⟨nf,o,h⟩:=hx
 obtain⟨h1,h2,_⟩:=ki h
 rw[gT]
 unfold qS
 split
 ·rename_i h5
  rw[h5]at h2
  have:x.l.length=2:=by simp[aU]at h2;omega
  match hl:x.l,this with
  | [a,b],_=>exact⟨_,rfl⟩
 ·split
  ·rename_i h7
   rw[h7]at h2
   have:x.l.length=3:=by simp[aU]at h2;omega
   match hl:x.l,this with
   | [a,b,c],_=>exact⟨_,rfl⟩
  ·exact⟨_,rfl⟩
theorem CJ {p:Int} {x y:XD} {arg:VD} {names:List VD} {S:StD} (h1:x.op=y.op) (h2:x.k=y.k) (h3:x.n=y.n):fG p x arg names S=fG p y arg names S:=by
 unfold fG
 rw[h1,h2,h3]
theorem fk (m:MaD) (S S':StD) (a b:Nat) (vs ws:List VD):(m.after S a vs).after S' b ws=m.after S' (a+b) (vs++ws):=by
 simp[MaD.after,Nat.add_assoc]
theorem Af (m:MaD):m.after m.S 0 []=m:=by simp[MaD.after]
theorem wk {ms:aL} {m:MaD} {op k n:Int} {c:List aQ} (h:bh ms m (⟨op,k,n⟩::c)) (ho:op<100):fB ms m=jP ms (m.after m.S 1 []) ⟨op,k,n⟩:=by
 unfold fB
 simp only[h.get]
 rw[if_neg (by omega),if_neg (by omega),if_neg (by omega),if_neg (by omega),if_neg (by omega),if_neg (by omega)]
 simp[MaD.after]
def LJ (ms:aL) (N:Nat):Prop:=∀ (x:XD) (m:MaD),m.Good ms→m.S.left≤N→x.fault (ci ms m.top.plugin).length m.top.names.length=0→bh ms m (aw x m.top.pc)→
 ft ms m (aw x m.top.pc).length (ofD ms N m.top.plugin x m.top.arg m.top.names (m.below.length+1) m.S)
theorem MaD.Good.after1 {ms:aL} {m:MaD} {S':StD} {v:VD} {c:Int} {k:Nat} (h:m.Good ms) (hox:IV m.S (S',v,c)) (hc:c=0):(m.after S' k [v]).Good ms:=by
 have h1:=hox.1.mu
 have h2:=hox.2 hc
 have h3:=hox.1.val hc
 simp only at h1 h2 h3
 exact h.after hox.1.good (by omega) (by simp only[List.length_singleton];omega) (fun w hw=>by simp only[List.mem_singleton]at hw;rw[hw];exact h3)
theorem LV {ms:aL} {N:Nat} (ih:LJ ms N):∀ (l:List XD) (m:MaD) (acc:List VD),m.Good ms→m.S.left≤N→(∀ y∈l,y.fault (ci ms m.top.plugin).length m.top.names.length=0)→bh ms m (gn (l.map aw) m.top.pc)→
  yL ms m (gn (l.map aw) m.top.pc).length acc (evL (fun y S=>ofD ms N m.top.plugin y m.top.arg m.top.names (m.below.length+1) S) l m.S acc)
 | [],m,acc,_,_,_,_=>by
   unfold yL
   simp only[evL,List.map_nil,gn,List.length_nil]
   rw[if_neg (by simp)]
   exact⟨[],by simp,fun r hr=>by rw[Af]at hr;exact hr⟩
 | x::l,m,acc,hG,hl,hf,hs=>by
   simp only[List.map_cons,gn]at hs ⊢
   have h1:=ih x m hG hl (hf x (by simp)) hs.left
   have hle:=iC ms N m.top.plugin x m.top.arg m.top.names (m.below.length+1) m.S
   have hox:=gt ms N m.top.plugin x m.top.arg m.top.names (m.below.length+1) m.S hG.S hG.top.arg hG.top.names
   rw[evL]
   rcases hq:ofD ms N m.top.plugin x m.top.arg m.top.names (m.below.length+1) m.S with⟨S',v,c⟩
   rw[hq]at h1 hle hox
   simp only at h1 hle ⊢
   unfold ft at h1
   simp only at h1
   by_cases hc:c=0
   ·rw[if_neg (by simpa using hc)]at h1 ⊢
    have h2:=LV ih l (m.after S' (aw x m.top.pc).length [v]) (acc++[v]) (hG.after1 hox hc) (Nat.le_trans hle hl) (fun y hy=>hf y (by simp[hy])) (hs.right rfl rfl rfl)
    have e1:(m.after S' (aw x m.top.pc).length [v]).top.pc=m.top.pc+(aw x m.top.pc).length:=rfl
    rw[e1]at h2
    change yL ms _ _ _ (evL (fun y S=>ofD ms N m.top.plugin y m.top.arg m.top.names (m.below.length+1) S) l S' (acc++[v]))at h2
    generalize evL (fun y S=>ofD ms N m.top.plugin y m.top.arg m.top.names (m.below.length+1) S) l S' (acc++[v])=q at h2 ⊢
    unfold yL at h2 ⊢
    by_cases hz:q.2.2=0
    ·rw[if_neg (by simpa using hz)]at h2 ⊢
     obtain⟨ws,e,h2⟩:=h2
     refine⟨v::ws,by rw[e];simp,fun r hr=>h1 r (h2 r ?_)⟩
     rw[fk,List.singleton_append]
     rw[List.length_append]at hr
     exact hr
    ·rw[if_pos hz]at h2 ⊢
     exact h1 _ h2
   ·rw[if_pos hc]at h1 ⊢
    unfold yL
    simp only
    rw[if_pos hc]
    exact h1
theorem Cm {op:Int} (h:0≤aU op):1≤op∧op≤21:=by
 unfold aU at h
 split at h
 ·omega
 ·split at h
  ·omega
  ·split at h
   ·omega
   ·split at h
    ·omega
    ·omega
theorem nT {ms:aL} {m:MaD} {c:List aQ} (h:bh ms m (⟨105,0,0⟩::c)) {st:List VD} {v:VD} (hv:m.top.stack=st++[v]):fB ms m=(
  let q:=if m.top.asked then gm m.top.gates v m.S else m.S.ok v
  if q.2.2≠0 then .fail q.1 q.2.2 else match m.below.getLast? with
   | none=> .over q.1 q.2.1
   | some t=> .go ⟨q.1,{t with stack:=t.stack++[q.2.1]},m.below.dropLast⟩):=by
 unfold fB
 simp only[h.get]
 rw[if_neg (by omega),if_neg (by omega),if_neg (by omega),if_neg (by omega),if_neg (by omega),if_pos trivial]
 unfold MaD.back
 simp only[hv,dQ,List.getD_cons_zero]
 rfl
theorem n9 {α:Type} (l:List α) (a:α):(l++[a]).getLast? =some a∧(l++[a]).dropLast=l:=⟨by simp,by simp⟩
theorem D2 {nf k n o:Int} (h:iH nf 18 k n o=0):0≤k∧k<nf:=by
 unfold iH at h
 split at h
 ·cases h
 ·rw[if_neg (by decide),if_neg (by decide),if_neg (by decide),if_pos rfl]at h
  split at h
  ·cases h
  ·omega
theorem ED {nf k n o:Int} (h:iH nf 4 k n o=0):0≤k∧k<o:=by
 unfold iH at h
 split at h
 ·cases h
 ·rw[if_pos rfl]at h
  split at h
  ·cases h
  ·omega
theorem A7 {ms:aL} {v x:VD} {fr:Nat} {S S':StD} {q:xx} (h:fJ ms v x fr S=(S',q,0)):q.func.toNat<(ci ms q.plugin).length∧fr≠20:=by
 unfold fJ at h
 simp only at h
 split at h
 ·simp only[Prod.mk.injEq]at h;omega
 ·split at h
  ·simp only[Prod.mk.injEq]at h;omega
  ·split at h
   ·simp only[Prod.mk.injEq]at h;omega
   ·split at h
    ·simp only[Prod.mk.injEq]at h;omega
    ·rename_i hn
     split at h
     ·simp only[Prod.mk.injEq]at h;omega
     ·rename_i hf
      simp only[Prod.mk.injEq]at h
      obtain⟨_,rfl,_⟩:=h
      exact⟨by
       simp only
       have:¬ ((ci ms (S.G.target v.n).1.plugin).length:Int)≤(S.G.target v.n).1.func:=fun e=>hn (.inr (.inl e))
       have h3:¬ (S.G.target v.n).1.func<0:=fun e=>hn (.inr (.inr e))
       omega,hf⟩
theorem Bc {f:XD→StD→StD×VD×Int}:∀ (l:List XD) (S:StD) (acc:List VD),(evL f l S acc).2.2=0→(evL f l S acc).2.1.length=acc.length+l.length
 | [],S,acc,_=>rfl
 | x::l,S,acc,h=>by
   rw[evL]at h ⊢
   rcases hq:f x S with⟨S',v,c⟩
   rw[hq]at h
   simp only at h ⊢
   by_cases hc:c=0
   ·rw[if_neg (by simpa using hc)]at h ⊢
    rw[Bc l S' _ h]
    simp
    omega
   ·rw[if_pos hc]at h
    exact absurd h hc
theorem iv {p:Int} {x:XD} {arg:VD} {names:List VD} {S:StD}:fG p x arg names S=none↔¬ (x.op=1∨x.op=2∨x.op=3∨x.op=4∨x.op=21):=by
 unfold fG
 constructor
 ·intro h
  repeat' split at h
  all_goals first
   | omega
   | cases h
 ·intro h
  rw[if_neg (by omega),if_neg (by omega),if_neg (by omega),if_neg (by omega),if_neg (by omega)]
theorem GH {α:Type} {l:List α} (h:l.length=2):∃ a b,l=[a,b]:=by
 match l,h with
 | [a,b],_=>exact⟨a,b,rfl⟩
theorem Lm {α:Type} {l:List α} (h:l.length=3):∃ a b c,l=[a,b,c]:=by
 match l,h with
 | [a,b,c],_=>exact⟨a,b,c,rfl⟩
set_option maxHeartbeats 1000000 in
theorem Mn {ms:aL} (hg:oJ ms):∀ N:Nat,LJ ms N
 | 0,x,m,hG,hl,hf,hs=>by
   obtain⟨c,hc⟩:=BD x ⟨_,_,hf⟩ m.top.pc
   have h0:m.S.left=0:=by omega
   rw[hc]at hs
   exact ft.no (by decide) (xI hG hs h0)
 | N+1,x,m,hG,hl,hf,hs=>by
   have ih:=Mn hg N
   obtain⟨c,hc⟩:=BD x ⟨_,_,hf⟩ m.top.pc
   have hs0:=hs
   rw[hc]at hs0
   obtain⟨f1,f2,f3,f4,f5⟩:=ki hf
   rw[ofD]
   by_cases h0:m.S.left=0
   ·rw[if_pos h0]
    exact ft.no (by decide) (xI hG hs0 h0)
   rw[if_neg h0]
   have go1:∀ r,fN ms (m.after m.S.tick 1 []) r→fN ms m r:=fun r hr=>Hv hG hs0 h0 hr
   have hG1:(m.after m.S.tick 1 []).Good ms:=hG.after hG.S.tick (by have:=mi h0;omega) (by have:=mi h0;simp only[List.length_nil];omega) (by simp)
   have hl1:m.S.tick.left≤N:=by show m.S.left - 1≤N;omega
   have hop:=Cm f1
   by_cases o5:x.op=5
   ·have hlf:fG m.top.plugin x m.top.arg m.top.names m.S.tick=none:=iv.2 (by omega)
    rw[hlf]
    simp only
    rw[if_pos o5]
    have hlen:x.l.length=2:=by rw[o5]at f2;simp[aU]at f2;omega
    obtain⟨a,b,hab⟩:=GH hlen
    rw[o5]at f5
    rw[hab]at f5 ⊢
    obtain⟨fa,f6⟩:=ge f5
    obtain⟨fb,_⟩:=ge f6
    rw[if_neg (by omega)]at fa
    rw[if_pos (by omega)]at fb
    simp only[List.getD_cons_zero,List.getD_cons_succ]
    have hcode:aw x m.top.pc=⟨100,0,0⟩::(aw a (m.top.pc+1)++(⟨101,0,0⟩::(aw b (m.top.pc+1+(aw a (m.top.pc+1)).length+1)++[⟨102,0,0⟩]))):=by
     rw[gT,hab]
     unfold qS
     rw[if_pos o5]
     rfl
    rw[hcode]at hs ⊢
    have hs1:bh ms (m.after m.S.tick 1 []) _:=bh.right (a:=[⟨100,0,0⟩]) hs rfl rfl rfl
    have h1:=ih a (m.after m.S.tick 1 []) hG1 hl1 fa hs1.left
    have hle:=iC ms N m.top.plugin a m.top.arg m.top.names (m.below.length+1) m.S.tick
    have hox:=gt ms N m.top.plugin a m.top.arg m.top.names (m.below.length+1) m.S.tick hG.S.tick hG.top.arg hG.top.names
    change ft ms _ _ (ofD ms N m.top.plugin a m.top.arg m.top.names (m.below.length+1) m.S.tick)at h1
    rcases hq:ofD ms N m.top.plugin a m.top.arg m.top.names (m.below.length+1) m.S.tick with⟨S',v,c⟩
    rw[hq]at h1 hle hox
    simp only at h1 hle ⊢
    unfold ft at h1
    simp only at h1
    by_cases hc:c=0
    ·rw[if_neg (by simpa using hc)]at h1 ⊢
     rw[fk]at h1
     generalize hA:aw a (m.top.pc+1)=A at*
     have hA':aw a (m.after m.S.tick 1 []).top.pc=A:=hA
     rw[hA']at h1
     have hs2:bh ms (m.after S' (1+A.length) ([]++[v])) (⟨101,0,0⟩::(aw b (m.top.pc+1+A.length+1)++[⟨102,0,0⟩])):=bh.right hs1 rfl rfl (by simp only[MaD.after];omega)
     have hG2:(m.after S' (1+A.length) ([]++[v])).Good ms:=by
      have:=MaD.Good.after1 (k:=A.length) hG1 hox hc
      rwa [fk]at this
     have ok2:=hs2.at hG2 ⟨by simp,by simp[MaD.after],by simp,by simp,by simp,by simp⟩
     have hvc:v.code=0:=hox.1.val hc
     have hlt:S'.left<m.S.tick.left:=hox.2 hc
     have htk:=(mi h0).2
     have hG3:(⟨S',{m.top with pc:=m.top.pc+1+A.length+1,names:=m.top.names++[v]},m.below⟩:MaD).Good ms:=by
      refine hG2.next rfl rfl ⟨hG.top.p0,hG.top.there,hG.top.f0,hG.top.f1,hG.top.arg,fun w hw=> ?_,hG.top.stack,hG.top.gates⟩ (by simp[MaD.after]) ?_
      ·rcases List.mem_append.1 hw with hw | hw
       ·exact hG.top.names w hw
       ·simp only[List.mem_singleton]at hw
        rw[hw];exact hvc
      ·have:=hG.nms
       simp only[List.length_append,List.length_singleton]
       omega
     -- the name is open
     have e1:fB ms (m.after S' (1+A.length) ([]++[v]))= .go {S:=S',top:={m.top with pc:=m.top.pc+1+A.length+1,names:=m.top.names++[v]},below:=m.below}:=by
      unfold fB
      simp only[hs2.get]
      rw[if_neg (by decide),if_pos trivial]
      simp only[MaD.after,List.nil_append,dQ,fS,List.getD_cons_zero]
      rw[Nat.add_assoc m.top.pc 1]
     have hs3:bh ms {S:=S',top:={m.top with pc:=m.top.pc+1+A.length+1,names:=m.top.names++[v]},below:=m.below} (aw b (m.top.pc+1+A.length+1)++[⟨102,0,0⟩]):=bh.right (a:=[⟨101,0,0⟩]) hs2 rfl rfl (by simp only[MaD.after,List.length_singleton];omega)
     have h2:=ih b {S:=S',top:={m.top with pc:=m.top.pc+1+A.length+1,names:=m.top.names++[v]},below:=m.below} hG3 (Nat.le_trans hle hl1) (by
      simp only[List.length_append,List.length_singleton]
      exact fb) hs3.left
     simp only at h2
     have hox3:=gt ms N m.top.plugin b m.top.arg (m.top.names++[v]) (m.below.length+1) S' hG3.S hG3.top.arg hG3.top.names
     generalize ofD ms N m.top.plugin b m.top.arg (m.top.names++[v]) (m.below.length+1) S'=q at h2 hox3 ⊢
     unfold ft at h2 ⊢
     by_cases hz:q.2.2=0
     ·rw[if_neg (by simpa using hz)]at h2 ⊢
      intro r hr
      refine go1 r (h1 r (.go ok2 e1 (h2 r ?_)))
      generalize aw b (m.top.pc+1+A.length+1)=B at*
      have hs4:bh ms (MaD.after {S:=S',top:={m.top with pc:=m.top.pc+1+A.length+1,names:=m.top.names++[v]},below:=m.below} q.1 B.length [q.2.1]) [⟨102,0,0⟩]:=bh.right hs3 rfl rfl rfl
      refine .go (hs4.at (MaD.Good.after1 (c:=q.2.2) hG3 hox3 hz) ⟨by simp,by simp,by simp[MaD.after],by simp,by simp,by simp⟩) (m':=m.after q.1 (⟨100,0,0⟩::(A++(⟨101,0,0⟩::(B++[⟨102,0,0⟩]))):List aQ).length [q.2.1]) ?_ hr
      unfold fB
      simp only[hs4.get]
      rw[if_neg (by decide),if_neg (by decide),if_pos trivial]
      simp only[MaD.after,List.dropLast_concat,List.length_cons,List.length_append,List.length_nil]
      congr 3
      omega
     ·rw[if_pos hz]at h2 ⊢
      exact go1 _ (h1 _ (.go ok2 e1 h2))
    ·rw[if_pos hc]at h1 ⊢
     exact ft.no hc (go1 _ h1)
   by_cases o7:x.op=7
   ·have hlf:fG m.top.plugin x m.top.arg m.top.names m.S.tick=none:=iv.2 (by omega)
    rw[hlf]
    simp only
    rw[if_neg o5,if_pos o7]
    have hlen:x.l.length=3:=by rw[o7]at f2;simp[aU]at f2;omega
    obtain⟨a,b,c',hab⟩:=Lm hlen
    have fall:=jK o5 f5
    have fa:=fall a (by rw[hab];simp)
    have fb:=fall b (by rw[hab];simp)
    have fc:=fall c' (by rw[hab];simp)
    rw[hab]
    simp only[List.getD_cons_zero,List.getD_cons_succ]
    have hcode:aw x m.top.pc=⟨100,0,0⟩::(aw a (m.top.pc+1)++(⟨103,((gy (aw a) (aw b) m.top.pc:Nat):Int),0⟩::(aw b (m.top.pc+1+(aw a (m.top.pc+1)).length+1)++
      (⟨104,((gy (aw a) (aw b) m.top.pc+(aw c' (gy (aw a) (aw b) m.top.pc)).length:Nat):Int),0⟩::aw c' (gy (aw a) (aw b) m.top.pc))))):=by
     rw[gT,hab]
     unfold qS
     rw[if_neg o5,if_pos o7]
     rfl
    have hel:gy (aw a) (aw b) m.top.pc=m.top.pc+1+(aw a (m.top.pc+1)).length+1+(aw b (m.top.pc+1+(aw a (m.top.pc+1)).length+1)).length+1:=rfl
    rw[hcode]at hs ⊢
    have hs1:bh ms (m.after m.S.tick 1 []) _:=bh.right (a:=[⟨100,0,0⟩]) hs rfl rfl rfl
    have h1:=ih a (m.after m.S.tick 1 []) hG1 hl1 fa hs1.left
    have hle:=iC ms N m.top.plugin a m.top.arg m.top.names (m.below.length+1) m.S.tick
    have hox:=gt ms N m.top.plugin a m.top.arg m.top.names (m.below.length+1) m.S.tick hG.S.tick hG.top.arg hG.top.names
    change ft ms _ _ (ofD ms N m.top.plugin a m.top.arg m.top.names (m.below.length+1) m.S.tick)at h1
    rcases hq:ofD ms N m.top.plugin a m.top.arg m.top.names (m.below.length+1) m.S.tick with⟨S',v,c⟩
    rw[hq]at h1 hle hox
    simp only at h1 hle ⊢
    unfold ft at h1
    simp only at h1
    by_cases hc:c=0
    ·rw[if_neg (by simpa using hc)]at h1 ⊢
     rw[fk]at h1
     have hA':aw a (m.after m.S.tick 1 []).top.pc=aw a (m.top.pc+1):=rfl
     rw[hA']at h1
     have hB':∀ q,q=m.top.pc+1+(aw a (m.top.pc+1)).length+1→aw b q=aw b (m.top.pc+1+(aw a (m.top.pc+1)).length+1):=fun q e=>by rw[e]
     have hC':∀ q,q=gy (aw a) (aw b) m.top.pc→aw c' q=aw c' (gy (aw a) (aw b) m.top.pc):=fun q e=>by rw[e]
     generalize aw c' (gy (aw a) (aw b) m.top.pc)=C at*
     generalize gy (aw a) (aw b) m.top.pc=el at*
     generalize aw b (m.top.pc+1+(aw a (m.top.pc+1)).length+1)=B at*
     generalize aw a (m.top.pc+1)=A at*
     have hs2:bh ms (m.after S' (1+A.length) ([]++[v])) (⟨103,(el:Int),0⟩::(B++(⟨104,((el+C.length:Nat):Int),0⟩::C))):=bh.right hs1 rfl rfl (by simp only[MaD.after];omega)
     have hk:(⟨100,0,0⟩::(A++(⟨103,(el:Int),0⟩::(B++(⟨104,((el+C.length:Nat):Int),0⟩::C)))):List aQ).length=1+A.length+1+B.length+1+C.length:=by simp only[List.length_cons,List.length_append];omega
     rw[hk]
     have go2:∀ r,fN ms (m.after S' (1+A.length) ([]++[v])) r→fN ms m r:=fun r hr=>go1 r (h1 r hr)
     have hG2:(m.after S' (1+A.length) ([]++[v])).Good ms:=by
      have:=MaD.Good.after1 (k:=A.length) hG1 hox hc
      rwa [fk]at this
     have ok2:=hs2.at hG2 ⟨by simp,by simp[MaD.after],by simp,by simp,by simp,by simp⟩
     have hG3:∀ pc,(⟨S',{m.top with pc:=pc},m.below⟩:MaD).Good ms:=fun pc=>by
      refine hG2.next rfl rfl ⟨hG.top.p0,hG.top.there,hG.top.f0,hG.top.f1,hG.top.arg,hG.top.names,hG.top.stack,hG.top.gates⟩ (by simp[MaD.after]) hG2.nms
     by_cases hv:v.kind=1
     ·rw[if_neg (by simpa using hv)]
      have e1:fB ms (m.after S' (1+A.length) ([]++[v]))= .go {S:=S',top:={m.top with pc:=if v.n=0 then el else m.top.pc+(1+A.length)+1},below:=m.below}:=by
       unfold fB
       simp only[hs2.get]
       rw[if_neg (by decide),if_neg (by decide),if_neg (by decide),if_pos trivial]
       simp only[MaD.after,List.nil_append,dQ,fS,List.getD_cons_zero,Int.toNat_natCast]
       rw[if_neg (by simpa using hv)]
      by_cases hn:v.n=0
      ·rw[if_neg (by simpa using hn)]
       rw[if_pos hn]at e1
       have hs3:bh ms {S:=S',top:={m.top with pc:=el},below:=m.below} C:=by
        have:=bh.right (m':={S:=S',top:={m.top with pc:=el},below:=m.below}) (a:=⟨100,0,0⟩::(A++(⟨103,(el:Int),0⟩::(B++[⟨104,((el+C.length:Nat):Int),0⟩])))) (b:=C) (ms:=ms) (m:=m) (by simpa using hs) rfl rfl (by simp only[List.length_cons,List.length_append,List.length_nil];omega)
        exact this
       have h2:=ih c' {S:=S',top:={m.top with pc:=el},below:=m.below} (hG3 _) (Nat.le_trans hle hl1) fc (by simp only;rw[hC' el rfl];exact hs3)
       simp only at h2
       rw[hC' el rfl]at h2
       generalize ofD ms N m.top.plugin c' m.top.arg m.top.names (m.below.length+1) S'=q at h2 ⊢
       unfold ft at h2 ⊢
       by_cases hz:q.2.2=0
       ·rw[if_neg (by simpa using hz)]at h2 ⊢
        intro r hr
        refine go2 r (.go ok2 e1 (h2 r ?_))
        have:(MaD.after {S:=S',top:={m.top with pc:=el},below:=m.below} q.1 C.length [q.2.1])=m.after q.1 (1+A.length+1+B.length+1+C.length) [q.2.1]:=by
         simp only[MaD.after]
         rw[show el+C.length=m.top.pc+(1+A.length+1+B.length+1+C.length) by omega]
        rw[this]
        exact hr
       ·rw[if_pos hz]at h2 ⊢
        exact go2 _ (.go ok2 e1 h2)
      ·rw[if_pos hn]
       rw[if_neg hn]at e1
       have hs3:bh ms {S:=S',top:={m.top with pc:=m.top.pc+(1+A.length)+1},below:=m.below} (B++(⟨104,((el+C.length:Nat):Int),0⟩::C)):=bh.right (a:=[⟨103,(el:Int),0⟩]) hs2 rfl rfl (by simp only[MaD.after,List.length_singleton])
       have hB:aw b (m.top.pc+(1+A.length)+1)=B:=hB' _ (by omega)
       have h2:=ih b {S:=S',top:={m.top with pc:=m.top.pc+(1+A.length)+1},below:=m.below} (hG3 _) (Nat.le_trans hle hl1) fb (by simp only;rw[hB];exact hs3.left)
       simp only at h2
       rw[hB]at h2
       have hox3:=gt ms N m.top.plugin b m.top.arg m.top.names (m.below.length+1) S' hG2.S hG.top.arg hG.top.names
       generalize ofD ms N m.top.plugin b m.top.arg m.top.names (m.below.length+1) S'=q at h2 hox3 ⊢
       unfold ft at h2 ⊢
       by_cases hz:q.2.2=0
       ·rw[if_neg (by simpa using hz)]at h2 ⊢
        intro r hr
        refine go2 r (.go ok2 e1 (h2 r ?_))
        have hs4:bh ms (MaD.after {S:=S',top:={m.top with pc:=m.top.pc+(1+A.length)+1},below:=m.below} q.1 B.length [q.2.1]) (⟨104,((el+C.length:Nat):Int),0⟩::C):=bh.right hs3 rfl rfl rfl
        refine .go (hs4.at (MaD.Good.after1 (c:=q.2.2) (hG3 _) hox3 hz) ⟨by simp,by simp,by simp,fun _=>Int.natCast_nonneg _,by simp,by simp⟩) (m':=m.after q.1 (1+A.length+1+B.length+1+C.length) [q.2.1]) ?_ hr
        unfold fB
        simp only[hs4.get]
        rw[if_neg (by decide),if_neg (by decide),if_neg (by decide),if_neg (by decide),if_pos trivial]
        simp only[MaD.after,Int.toNat_natCast]
        congr 3
        omega
       ·rw[if_pos hz]at h2 ⊢
        exact go2 _ (.go ok2 e1 h2)
     ·rw[if_pos hv]
      refine ft.no (by decide) (go2 _ (.fail ok2 ?_))
      unfold fB
      simp only[hs2.get]
      rw[if_neg (by decide),if_neg (by decide),if_neg (by decide),if_pos trivial]
      simp only[MaD.after,List.nil_append,dQ,List.getD_cons_zero]
      rw[if_pos hv]
    ·rw[if_pos hc]at h1 ⊢
     exact ft.no hc (go1 _ h1)
   have hcode:aw x m.top.pc=⟨100,0,0⟩::(gn (x.l.map aw) (m.top.pc+1)++[⟨x.op,x.k,x.n⟩]):=by
    rw[gT]
    unfold qS
    rw[if_neg o5,if_neg o7]
   rw[hcode]at hs ⊢
   have hs1:bh ms (m.after m.S.tick 1 []) (gn (x.l.map aw) (m.top.pc+1)++[⟨x.op,x.k,x.n⟩]):=bh.right (a:=[⟨100,0,0⟩]) hs rfl rfl rfl
   cases hlf:fG m.top.plugin x m.top.arg m.top.names m.S.tick with
   | some v=>
     have hz:x.l=[]:=by
      have:x.op=1∨x.op=2∨x.op=3∨x.op=4∨x.op=21:=by
       rcases Classical.em (x.op=1∨x.op=2∨x.op=3∨x.op=4∨x.op=21)with h | h
       ·exact h
       ·rw[iv.2 h]at hlf
        cases hlf
      have hp:aU x.op=0:=by rw[aU,if_pos this]
      rw[hp]at f2
      exact List.length_eq_zero_iff.1 (by omega)
     rw[hz]at hs1 ⊢
     simp only[List.map_nil,gn,List.nil_append]at hs1 ⊢
     refine ft.ok fun r hr=>go1 r (.go (hs1.at hG1 ⟨.inl ⟨hop.1,hop.2,o5,o7⟩,fun h=>by simp only at h;omega,fun h=>by simp only at h;omega,fun h=>by simp only at h;omega,fun _=>by
      simp only
      rw[hz]at f2
      rw[←f2]
      simp,fun h=> ?_⟩) ?_ hr)
     ·simp only at h
      rw[h]at f3
      exact ED f3
     rw[wk hs1 (by omega)]
     unfold jP
     have hlf2:fG m.top.plugin (.mk x.op x.k x.n []) m.top.arg m.top.names m.S.tick=some v:=by
      rw[←hlf]
      exact CJ rfl rfl rfl
     simp only[MaD.after,List.append_nil,hlf2,MaD.push,List.length_cons,List.length_nil]
   | none=>
     simp only
     rw[if_neg o5,if_neg o7]
     have hL:=LV ih x.l (m.after m.S.tick 1 []) [] hG1 hl1 (jK o5 f5) hs1.left
     have hlen:=Bc (f:=fun y S=>ofD ms N m.top.plugin y m.top.arg m.top.names (m.below.length+1) S) x.l m.S.tick []
     have hle:=mf (f:=fun y S=>ofD ms N m.top.plugin y m.top.arg m.top.names (m.below.length+1) S) (fun y S=>iC ms N m.top.plugin y m.top.arg m.top.names (m.below.length+1) S) x.l m.S.tick []
     have hoL:=yM (f:=fun y S=>ofD ms N m.top.plugin y m.top.arg m.top.names (m.below.length+1) S) (fun y S h=>gt ms N m.top.plugin y m.top.arg m.top.names (m.below.length+1) S h hG.top.arg hG.top.names) x.l m.S.tick [] hG.S.tick (by simp)
     change yL ms _ _ _ (evL (fun y S=>ofD ms N m.top.plugin y m.top.arg m.top.names (m.below.length+1) S) x.l m.S.tick [])at hL
     rcases hq:evL (fun y S=>ofD ms N m.top.plugin y m.top.arg m.top.names (m.below.length+1) S) x.l m.S.tick []with⟨S',l,c⟩
     rw[hq]at hL hlen hle hoL
     obtain⟨oL1,oL2,oL3,oL4⟩:=hoL
     simp only[List.length_nil,Nat.zero_add]at hL hlen hle ⊢
     unfold yL at hL
     simp only at hL
     by_cases hc:c=0
     ·subst hc
      rw[if_neg (by simp)]at hL ⊢
      obtain⟨ws,hws,hL⟩:=hL
      rw[List.nil_append]at hws
      subst hws
      have hlen:=hlen rfl
      change ∀ r,fN ms ((m.after m.S.tick 1 []).after S' (gn (x.l.map aw) (m.top.pc+1)).length l) r→_ at hL
      rw[fk,List.nil_append]at hL
      generalize gn (x.l.map aw) (m.top.pc+1)=A at*
      have go2:∀ r,fN ms (m.after S' (1+A.length) l) r→fN ms m r:=fun r hr=>go1 r (hL r hr)
      have hs2:bh ms (m.after S' (1+A.length) l) [⟨x.op,x.k,x.n⟩]:=bh.right hs1 rfl rfl (by simp only[MaD.after];omega)
      have hlf2:fG m.top.plugin (.mk x.op x.k x.n []) m.top.arg m.top.names S'=none:=iv.2 (iv.1 hlf)
      have est:=wk hs2 (by omega)
      have tk:=mi h0
      have hlv:=(oL4 rfl).1
      have hll:=(oL4 rfl).2
      simp only[List.length_nil,Nat.add_zero]at oL1 oL2 oL3 hlv hll
      have hG2:(m.after S' (1+A.length) l).Good ms:=hG.after oL1 (by omega) (by omega) hlv
      have ok2:Ok ms (m.after S' (1+A.length) l):=hs2.at hG2 ⟨.inl ⟨hop.1,hop.2,o5,o7⟩,fun h=>by simp only at h;omega,fun h=>by simp only at h;omega,fun h=>by simp only at h;omega,fun _=>by
       simp only[MaD.after,List.length_append]
       omega,fun h=>by
       have:=iv.1 hlf
       simp only at h
       omega⟩
      have hlp:(aU x.op).toNat=l.length:=by omega
      have hk:(⟨100,0,0⟩::(A++[⟨x.op,x.k,x.n⟩]):List aQ).length=1+A.length+1:=by simp only[List.length_cons,List.length_append,List.length_nil];omega
      rw[hk]
      clear hk hcode hs hs1
      unfold jP at est
      simp only[MaD.after,List.append_nil,hlf2]at est
      by_cases o18:x.op=18
      ·rw[if_pos o18]at est ⊢
       rw[o18]at f2 f3
       obtain⟨k0,k1⟩:=D2 f3
       obtain⟨v,rfl⟩:∃ v,l=[v]:=by
        have:l.length=1:=by rw[hlen];simp[aU]at f2;omega
        match l,this with
        | [v],_=>exact⟨v,rfl⟩
       rw[dQ,fS]at est
       simp only[List.getD_cons_zero]at est ⊢
       unfold MaD.call at est
       simp only at est
       by_cases hfr:m.below.length+1=20
       ·rw[if_pos hfr]at est ⊢
        exact ft.no (by decide) (go2 _ (.fail ok2 est))
       ·rw[if_neg hfr]at est ⊢
        have gf:=rI hg (p:=m.top.plugin) (k:=x.k) (by omega)
        have hG3:(⟨S',⟨m.top.plugin,x.k,0,v,[],[],false,[]⟩,m.below++[{m.top with pc:=m.top.pc+(1+A.length)+1}]⟩:MaD).Good ms:=by
         have g1:=hG.stk;have g2:=hG.few;have g3:=hG.mu
         refine⟨oL1,⟨hG.top.p0,hG.top.there,k0,by simp only;omega,hlv v (by simp),by simp,by simp,by simp⟩,by simp only;omega,?_,?_,?_⟩
         ·simp only[List.length_nil];omega
         ·simp only[List.length_nil];omega
         ·simp only[List.length_append,List.length_singleton];omega
        have hox3:=gt ms N m.top.plugin (cU ms m.top.plugin x.k) v [] (m.below.length+1+1) S' oL1 (hlv v (by simp)) (by simp)
        have h3:=ih (cU ms m.top.plugin x.k) ⟨S',⟨m.top.plugin,x.k,0,v,[],[],false,[]⟩,m.below++[{m.top with pc:=m.top.pc+(1+A.length)+1}]⟩ hG3 (Nat.le_trans hle hl1) gf ⟨[],[⟨105,0,0⟩],by simp[dM],rfl⟩
        simp only[List.length_append,List.length_singleton]at h3
        generalize ofD ms N m.top.plugin (cU ms m.top.plugin x.k) v [] (m.below.length+1+1) S'=q at h3 hox3 ⊢
        unfold ft at h3 ⊢
        by_cases hz:q.2.2=0
        ·rw[if_neg (by simpa using hz)]at h3 ⊢
         intro r hr
         refine go2 r (.go ok2 est (h3 r (.go (bh.at (c:=[]) (x:=⟨105,0,0⟩) ⟨aw (cU ms m.top.plugin x.k) 0,[],by simp[dM,MaD.after],by simp[MaD.after]⟩ (MaD.Good.after1 (c:=q.2.2) hG3 hox3 hz) ⟨by simp,by simp[MaD.after],by simp,by simp,by simp,by simp⟩) ?_ hr)))
         rw[nT (c:=[]) (st:=[]) (v:=q.2.1) ⟨aw (cU ms m.top.plugin x.k) 0,[],by simp[dM,MaD.after],by simp[MaD.after]⟩ rfl]
         simp only[MaD.after,StD.ok,n9]
         rw[if_neg (by simp)]
         simp only[n9,Bool.false_eq_true,if_false]
         simp[Nat.add_assoc]
        ·rw[if_pos hz]at h3 ⊢
         exact go2 _ (.go ok2 est h3)
      by_cases o19:x.op=19
      ·rw[if_neg o18,if_pos o19]at est ⊢
       rw[o19]at f2
       obtain⟨v,w,rfl⟩:∃ v w,l=[v,w]:=GH (by rw[hlen];simp[aU]at f2;omega)
       have tk:=jq m.top.stack [v,w]
       have dr:=jt m.top.stack [v,w]
       simp only[List.length_cons,List.length_nil,Nat.zero_add,Nat.reduceAdd]at tk dr
       rw[tk,dr]at est
       simp only[List.getD_cons_zero,List.getD_cons_succ]at est ⊢
       have hal:=lu ms v w (m.below.length+1) S'
       have hao:=Cg (ms:=ms) (v:=v) (x:=w) (fr:=m.below.length+1) oL1
       rcases hqa:fJ ms v w (m.below.length+1) S' with⟨S2,q,c⟩
       rw[hqa]at est hal hao
       simp only at est hal hao ⊢
       by_cases hc:c=0
       ·subst hc
        rw[if_neg (by simp)]at est ⊢
        obtain⟨qf,hfr⟩:=A7 hqa
        unfold MaD.call at est
        simp only at est
        rw[if_neg hfr]at est
        have gf:=rI hg (p:=q.plugin) (k:=q.func) qf
        obtain⟨b1,b2,b3⟩:=hao
        obtain⟨b4,b5,b6,b7,b8,b9⟩:=b3 rfl
        have hG3:(⟨S2,⟨q.plugin,q.func,0,q.arg,[],[],true,q.gates⟩,m.below++[{m.top with pc:=m.top.pc+(1+A.length)+1}]⟩:MaD).Good ms:=by
         have g1:=hG.stk;have g2:=hG.few;have g3:=hG.mu
         refine⟨b1,⟨b7,b6,b8,b9,b4,by simp,by simp,b5⟩,by simp only;omega,?_,?_,?_⟩
         ·simp only[List.length_nil];omega
         ·simp only[List.length_nil];omega
         ·simp only[List.length_append,List.length_singleton];omega
        have hox3:=gt ms N q.plugin (cU ms q.plugin q.func) q.arg [] (m.below.length+1+1) S2 b1 b4 (by simp)
        have h3:=ih (cU ms q.plugin q.func) ⟨S2,⟨q.plugin,q.func,0,q.arg,[],[],true,q.gates⟩,m.below++[{m.top with pc:=m.top.pc+(1+A.length)+1}]⟩ hG3 (Nat.le_trans (Nat.le_of_eq hal) (Nat.le_trans hle hl1)) gf ⟨[],[⟨105,0,0⟩],by simp[dM],rfl⟩
        simp only[List.length_append,List.length_singleton]at h3
        rcases hq3:ofD ms N q.plugin (cU ms q.plugin q.func) q.arg [] (m.below.length+1+1) S2 with⟨S3,v3,c3⟩
        rw[hq3]at h3 hox3
        unfold ft at h3
        simp only at h3 ⊢
        by_cases hz:c3=0
        ·rw[if_neg (by simpa using hz)]at h3 ⊢
         have bst:=nT (ms:=ms) (m:=MaD.after ⟨S2,⟨q.plugin,q.func,0,q.arg,[],[],true,q.gates⟩,m.below++[{m.top with pc:=m.top.pc+(1+A.length)+1}]⟩ S3 (aw (cU ms q.plugin q.func) 0).length [v3]) (c:=[]) (st:=[]) (v:=v3) ⟨aw (cU ms q.plugin q.func) 0,[],by simp[dM,MaD.after],by simp[MaD.after]⟩ rfl
         have ok3:Ok ms (MaD.after ⟨S2,⟨q.plugin,q.func,0,q.arg,[],[],true,q.gates⟩,m.below++[{m.top with pc:=m.top.pc+(1+A.length)+1}]⟩ S3 (aw (cU ms q.plugin q.func) 0).length [v3]):=
          bh.at (c:=[]) (x:=⟨105,0,0⟩) ⟨aw (cU ms q.plugin q.func) 0,[],by simp[dM,MaD.after],by simp[MaD.after]⟩ (hG3.after1 hox3 hz) ⟨by simp,by simp[MaD.after],by simp,by simp,by simp,by simp⟩
         simp only[MaD.after,if_true,n9]at bst
         generalize gm q.gates v3 S3=q4 at bst ⊢
         unfold ft
         by_cases hz4:q4.2.2=0
         ·rw[if_neg (by simpa using hz4)]at bst ⊢
          intro r hr
          refine go2 r (.go ok2 est (h3 r (.go ok3 bst ?_)))
          simpa[MaD.after,Nat.add_assoc]using hr
         ·rw[if_pos hz4]at bst ⊢
          exact go2 _ (.go ok2 est (h3 _ (.fail ok3 bst)))
        ·rw[if_pos hz]at h3 ⊢
         exact ft.no hz (go2 _ (.go ok2 est h3))
       ·rw[if_pos hc]at est ⊢
        exact ft.no hc (go2 _ (.fail ok2 est))
      rw[if_neg o18,if_neg o19]at est ⊢
      rw[hlp,jq,jt]at est
      generalize bV m.top.plugin x.op x.k x.n l S'=q at est ⊢
      unfold ft
      unfold MaD.done MaD.push at est
      by_cases hz:q.2.2=0
      ·rw[if_neg (by simpa using hz)]at est ⊢
       intro r hr
       refine go2 r (.go ok2 est ?_)
       simpa only[MaD.after,Nat.add_assoc]using hr
      ·rw[if_pos hz]at est ⊢
       exact go2 _ (.fail ok2 est)
     ·rw[if_pos hc]at hL ⊢
      exact ft.no hc (go1 _ hL)
theorem ei {α:Type} {l:List α} (h:1≤l.length):∃ st v,l=st++[v]:=⟨l.dropLast,l.getLast (fun e=>by rw[e]at h;simp at h),(List.dropLast_concat_getLast _).symm⟩
theorem vK {α:Type} {l:List α} (h:2≤l.length):∃ st v w,l=st++[v]++[w]:=by
 obtain⟨st,w,rfl⟩:=ei (l:=l) (by omega)
 obtain⟨st,v,rfl⟩:=ei (l:=st) (by simp at h;omega)
 exact⟨st,v,w,rfl⟩
section
variable {h h' h0:AH} {F J F0 J0:Nat→Prop} {L:List Asn} {c:Cfg} {i:Nat} {n:Now}
abbrev Now.m (n:Now):MaD:=⟨n.S,n.top,n.below⟩
theorem bu.toI {st:List VD} {q:StD×VD×Int} {fr:AV ⊕ AV} (r:bu h0 F0 J0 c L i (n.stk st) q fr h'):Ee h0 F0 J0 c L i (MaD.done n.m st q) fr h':=by
 unfold MaD.done
 rcases r with⟨e,b,s⟩ | ⟨e,b,n',e2,s⟩
 ·rw[if_neg (by simpa using e)]
  exact⟨b,n.fb,s⟩
 ·rw[if_pos e]
  exact⟨b,n',e2,s⟩
theorem kb.toI {st:List VD} {q:StD×xx×Int} {fr:AV ⊕ AV} (r:kb h0 F0 J0 c L i (n.stk st) q fr h') (h20:q.2.2=0→n.below.length+1≠20):Ee h0 F0 J0 c L i (match q with
   | (S',q,k)=>if k≠0 then .fail S' k else MaD.call n.m S' st q.plugin q.func q.arg true q.gates) fr h':=by
 obtain⟨S',q,k⟩:=q
 rcases r with⟨e,b,fb,s⟩ | ⟨e,b,n',e2,s⟩
 ·simp only at e s h20 ⊢
  rw[if_neg (by simpa using e)]
  unfold MaD.call
  rw[if_neg (h20 e)]
  exact⟨b,fb,s⟩
 ·simp only at e b e2 s ⊢
  rw[if_pos e]
  exact⟨b,n',e2,s⟩
theorem Ld.toI {st:List VD} {k:Int} {v:VD} {fr:AV ⊕ AV} (r:Ld h0 F0 J0 c L i (n.stk st) k v fr h'):Ee h0 F0 J0 c L i (MaD.call n.m n.S st n.top.plugin k v false []) fr h':=by
 unfold MaD.call
 rcases r with⟨e,b,fb,s⟩ | ⟨e,b,s⟩
 ·rw[if_neg e]
  exact⟨b,fb,s⟩
 ·rw[if_pos e]
  exact⟨b,n.stk st,rfl,s⟩
theorem uh {ms:aL} {m:MaD} {op k x:Int} (h:¬ (op=1∨op=2∨op=3∨op=4∨op=21)) (h8:op≠18) (h9:op≠19):jP ms m ⟨op,k,x⟩=m.done (kx m.top.stack (aU op).toNat) (bV m.top.plugin op k x (jl m.top.stack (aU op).toNat) m.S):=by
 unfold jP
 have hl:fG m.top.plugin (.mk op k x []) m.top.arg m.top.names m.S=none:=iv.2 h
 simp only
 rw[hl]
 simp only
 rw[if_neg h8,if_neg h9]
theorem DI {ms:aL} {m:MaD} {op k x:Int} {v:VD} (h:fG m.top.plugin (.mk op k x []) m.top.arg m.top.names m.S=some v):jP ms m ⟨op,k,x⟩=m.push m.S m.top.stack v:=by
 unfold jP
 simp only
 rw[h]
theorem mB {ms:aL} {st:List VD} {v:VD} {op k x:Int} (hst:n.top.stack=st++[v]) (h:¬ (op=1∨op=2∨op=3∨op=4∨op=21)) (h8:op≠18) (h9:op≠19) (hp:(aU op).toNat=1):jP ms n.m ⟨op,k,x⟩=MaD.done n.m st (bV n.top.plugin op k x [v] n.S):=by
 rw[uh h h8 h9,hp]
 simp only[hst,dQ,fS]
theorem EZ {ms:aL} {st:List VD} {v w:VD} {op k x:Int} (hst:n.top.stack=st++[v]++[w]) (h:¬ (op=1∨op=2∨op=3∨op=4∨op=21)) (h8:op≠18) (h9:op≠19) (hp:(aU op).toNat=2):jP ms n.m ⟨op,k,x⟩=MaD.done n.m st (bV n.top.plugin op k x [v,w] n.S):=by
 rw[uh h h8 h9,hp]
 have e:n.top.stack=st++[v,w]:=by rw[hst,List.append_assoc];rfl
 have t:=jq st [v,w]
 have d:=jt st [v,w]
 simp only[List.length_cons,List.length_nil,Nat.zero_add,Nat.reduceAdd]at t d
 simp only[e,t,d]
theorem mR {ms:aL} {v:VD} {op k x:Int} {h1:AH} (hl:fG n.top.plugin (.mk op k x []) n.top.arg n.top.names n.S=some v) (s:St h0 F0 J0 h1 (put c L i (n.stk (n.top.stack++[v])))):Ee h0 F0 J0 c L i (jP ms n.m ⟨op,k,x⟩) (.inl (.tup [])) h1:=by
 rw[DI hl]
 exact⟨rfl,n.fb,s⟩
theorem od {st:List VD} {l:List VD} (hg:n.top.Good c.ms) (hst:n.top.stack=st++l) {v:VD} (hv:v∈l):v.code=0:=hg.stack v (by rw[hst];exact List.mem_append_right _ hv)
set_option maxHeartbeats 1000000 in
theorem KX (s:St h0 F0 J0 h L) (a:At c L i n) (o:OkR c n) (hg:n.top.Good c.ms) {x:aQ} (hx:Cn n.m x) (hop:x.op<100):
  ∃ fr h',aj Try.prog po iY [.ptr c.mb 0 0,.agg (bW x)] h=some (fr,h')∧Ee h0 F0 J0 c L i (jP c.ms n.m x) fr h':=by
 obtain⟨op,k,m⟩:=x
 simp only at hop
 have hk:=hx.kind
 have hparts:=hx.parts hop
 have hvar:=hx.var
 simp only at hk hparts hvar
 obtain⟨P,hP⟩:=Int.eq_ofNat_of_zero_le hg.p0
 have hP4:P<4:=by
  have:=hg.there
  rw[hP]at this
  have this:(c.ms.getD P none).isSome=true:=this
  rcases Nat.lt_or_ge P 4 with h | h
  ·exact h
  ·rw[List.getD,List.getElem?_eq_none (by rw[o.ms];exact h)]at this
   cases this
 have pP:n.top.plugin.toNat=P:=by rw[hP];rfl
 have cases_:op=1∨op=2∨op=3∨op=4∨op=6∨op=8∨op=9∨op=10∨op=11∨op=12∨op=13∨op=14∨op=15∨op=16∨op=17∨op=18∨op=19∨op=20∨op=21:=by omega
 rcases cases_ with rfl | rfl | rfl | rfl | rfl | rfl | rfl | rfl | rfl | rfl | rfl | rfl | rfl | rfl | rfl | rfl | rfl | rfl | rfl
 ·obtain⟨h',e,s'⟩:=Iz s a o k m
  exact⟨_,h',e,mR rfl s'⟩
 ·obtain⟨h',e,s'⟩:=Hs s a o k m
  exact⟨_,h',e,mR rfl s'⟩
 ·obtain⟨h',e,s'⟩:=IF s a o k m
  exact⟨_,h',e,mR rfl s'⟩
 ·obtain⟨h',e,s'⟩:=Hu s a o (hvar rfl) m
  exact⟨_,h',e,mR rfl s'⟩
 ·obtain⟨st,v,w,hst⟩:=vK (l:=n.top.stack) hparts
  obtain⟨fr,h',e,r⟩:=Hg s a o hst k m
  exact⟨fr,h',e,by rw[EZ hst (by decide) (by decide) (by decide) rfl];exact r.toI⟩
 ·obtain⟨st,v,w,hst⟩:=vK (l:=n.top.stack) hparts
  obtain⟨fr,h',e,r⟩:=ID s a o hst k m
  exact⟨fr,h',e,by rw[EZ hst (by decide) (by decide) (by decide) rfl];exact r.toI⟩
 ·obtain⟨st,v,hst⟩:=ei (l:=n.top.stack) hparts
  obtain⟨fr,h',e,r⟩:=Hj s a o hst (od hg hst (by simp)) k m
  exact⟨fr,h',e,by rw[mB hst (by decide) (by decide) (by decide) rfl];exact r.toI⟩
 ·obtain⟨st,v,hst⟩:=ei (l:=n.top.stack) hparts
  obtain⟨fr,h',e,r⟩:=GR s a o hst (od hg hst (by simp)) k m
  exact⟨fr,h',e,by rw[mB hst (by decide) (by decide) (by decide) rfl];exact r.toI⟩
 ·obtain⟨st,v,hst⟩:=ei (l:=n.top.stack) hparts
  obtain⟨fr,h',e,r⟩:=FG s a o hst k m
  exact⟨fr,h',e,by rw[mB hst (by decide) (by decide) (by decide) rfl];exact r.toI⟩
 ·obtain⟨st,v,hst⟩:=ei (l:=n.top.stack) hparts
  obtain⟨fr,h',e,r⟩:=GE s a o hst (od hg hst (by simp)) k m
  exact⟨fr,h',e,by rw[mB hst (by decide) (by decide) (by decide) rfl];exact r.toI⟩
 ·obtain⟨st,v,hst⟩:=ei (l:=n.top.stack) hparts
  obtain⟨fr,h',e,r⟩:=Gn s a o hst k m
  exact⟨fr,h',e,by rw[mB hst (by decide) (by decide) (by decide) rfl];exact r.toI⟩
 ·obtain⟨st,v,w,hst⟩:=vK (l:=n.top.stack) hparts
  obtain⟨fr,h',e,r⟩:=Gy s a o hst k m
  exact⟨fr,h',e,by rw[EZ hst (by decide) (by decide) (by decide) rfl];exact r.toI⟩
 ·obtain⟨st,v,hst⟩:=ei (l:=n.top.stack) hparts
  obtain⟨fr,h',e,r⟩:=F7 s a o hst k m
  exact⟨fr,h',e,by rw[mB hst (by decide) (by decide) (by decide) rfl];exact r.toI⟩
 ·obtain⟨st,v,hst⟩:=ei (l:=n.top.stack) hparts
  obtain⟨fr,h',e,r⟩:=D3 s a o hst k m
  exact⟨fr,h',e,by rw[mB hst (by decide) (by decide) (by decide) rfl];exact r.toI⟩
 ·obtain⟨st,v,hst⟩:=ei (l:=n.top.stack) hparts
  obtain⟨fr,h',e,r⟩:=EE s a o hst k m
  exact⟨fr,h',e,by rw[mB hst (by decide) (by decide) (by decide) rfl];exact r.toI⟩
 ·obtain⟨st,v,hst⟩:=ei (l:=n.top.stack) hparts
  obtain⟨fr,h',e,r⟩:=Fs s a o hst k m
  refine⟨fr,h',e,?_⟩
  have:jP c.ms n.m ⟨18,k,m⟩=MaD.call n.m n.S st n.top.plugin k v false []:=by
   unfold jP
   simp only
   have hl:fG n.top.plugin (.mk 18 k m []) n.top.arg n.top.names n.S=none:=rfl
   rw[hl]
   simp only[hst,dQ,fS,if_true]
   rfl
  rw[this]
  exact r.toI
 ·obtain⟨st,v,w,hst⟩:=vK (l:=n.top.stack) hparts
  obtain⟨fr,h',e,r⟩:=Fw s a o hst k m
  refine⟨fr,h',e,?_⟩
  have e2:n.top.stack=st++[v,w]:=by rw[hst,List.append_assoc];rfl
  have t:=jq st [v,w]
  have d:=jt st [v,w]
  simp only[List.length_cons,List.length_nil,Nat.zero_add,Nat.reduceAdd]at t d
  have:jP c.ms n.m ⟨19,k,m⟩=match fJ c.ms v w (n.below.length+1) n.S with
   | (S',q,k)=>if k≠0 then .fail S' k else MaD.call n.m S' st q.plugin q.func q.arg true q.gates:=by
   unfold jP
   simp only
   have hl:fG n.top.plugin (.mk 19 k m []) n.top.arg n.top.names n.S=none:=rfl
   rw[hl]
   simp only[e2,t,d,if_true]
   rw[if_neg (by decide)]
   rfl
  rw[this]
  refine kb.toI (q:=fJ c.ms v w (n.below.length+1) n.S) r fun h0=> ?_
  exact(A7 (S':=(fJ c.ms v w (n.below.length+1) n.S).1) (q:=(fJ c.ms v w (n.below.length+1) n.S).2.1) (by rw[←h0])).2
 ·obtain⟨st,v,hst⟩:=ei (l:=n.top.stack) hparts
  obtain⟨fr,h',e,r⟩:=FD s a o hst hP hP4 k m
  exact⟨fr,h',e,by rw[mB hst (by decide) (by decide) (by decide) rfl];exact r.toI⟩
 ·obtain⟨h',e,s'⟩:=FA s a o hP hP4 k m
  refine⟨_,h',e,mR ?_ s'⟩
  show some (n.S.kept.getD n.top.plugin.toNat ay)=_
  rw[pP]
end
def j8 (c:Cfg) (L:List Asn) (i fb:Nat) (S:StD):List Asn:=(put c L i ⟨fb,S,[],⟨0,0,0,ay,[],[],false,[]⟩⟩).set i (yW c.mb c.bb fb (S.left:Int))
theorem IH {c:Cfg} {L:List Asn} {i:Nat} {n n':Now} {X:Asn} (hS:n.S=n'.S):(put c L i n).set i X=(put c L i n').set i X:=by
 refine jA fun j=> ?_
 rw[List.getElem?_set,List.getElem?_set,pD,pD,eW,eW,hS]
 by_cases hj:i=j
 ·rw[if_pos hj,if_pos hj]
 ·rw[if_neg hj,if_neg hj,if_neg (show ¬ j=i from Ne.symm hj),if_neg (show ¬ j=i from Ne.symm hj)]
theorem Be {c:Cfg} {L:List Asn} {i fb:Nat} {n:Now}:(put c L i n).set i (yW c.mb c.bb fb (n.S.left:Int))=j8 c L i fb n.S:=IH rfl
def uG (h0:AH) (F0 J0:Nat→Prop) (c:Cfg) (L:List Asn) (i:Nat) (q:ij) (fr:AV ⊕ AV) (h':AH):Prop:=match q with
 | .go m=>∃ r,fr= .inl (.tup [.agg r,.bool false])∧(r.length=3∧r.all AV.one=true)∧∃ fb',St h0 F0 J0 h' (put c L i ⟨fb',m.S,m.below,m.top⟩)
 | .fail S k=>fr= .inr (.iface tGo (.int .i64 k))∧∃ n':Now,n'.S=S∧St h0 F0 J0 h' (put c L i n')
 | .over S v=>∃ r,fr= .inl (.tup [.agg r,.bool true])∧VaA v r∧∃ fb',St h0 F0 J0 h' (j8 c L i fb' S)
abbrev L0:FuncId:=85
section
variable {h h' h0:AH} {F J F0 J0:Nat→Prop} {L:List Asn} {c:Cfg} {i:Nat} {n:Now}
theorem Ei {α:Type} (l:List α):l=[]∨∃ a t,l=a++[t]:=by
 rcases Nat.eq_zero_or_pos l.length with h | h
 ·exact .inl (List.length_eq_zero_iff.1 h)
 ·obtain⟨a,t,e⟩:=ei (l:=l) h
  exact .inr ⟨a,t,e⟩
theorem wC {hA:AH} {LA:List Asn} {iA:Nat} {nA:Now} (s:St h0 F0 J0 hA LA) (a:At c LA iA nA) (hb:nA.below.length≤100) (ht:∀ t,nA.below.getLast? =some t→t.stack.length≤100000) {v:VD} {r:List AV} (hv:VaA v r):
  (∀ k:Nat,aD false k hA (.ptr c.mb 0 1)=some (.msl nA.fb 0 (nA.below.length+1) tFr))∧
  ((nA.below=[]∧∃ h1,aI 1 hA (.ptr c.mb 0 1) (.msl nA.fb 0 nA.below.length tFr)=some h1∧(∀ k:Nat,aD false k h1 (.ptr c.mb 0 1)=some (.msl nA.fb 0 nA.below.length tFr))∧St h0 F0 J0 h1 (LA.set iA (yW c.mb c.bb nA.fb (nA.S.left:Int))))∨
   (∃ bl t,nA.below=bl++[t]∧∃ h1 h2,aI 1 hA (.ptr c.mb 0 1) (.msl nA.fb 0 nA.below.length tFr)=some h1∧(∀ k:Nat,aD false k h1 (.ptr c.mb 0 1)=some (.msl nA.fb 0 nA.below.length tFr))∧St h0 F0 J0 h1 (put c LA iA ⟨nA.fb,nA.S,bl,t⟩)∧
      aj Try.prog po fPu [.ptr c.mb 0 0,.agg r] h1=some (.inl (.tup []),h2)∧St h0 F0 J0 h2 (put c LA iA ⟨nA.fb,nA.S,bl,{t with stack:=t.stack++[v]}⟩))):=by
 obtain⟨_,_,_,_,mv⟩:=cV s iA a.m
 refine⟨fun k=>by rw[bC,mv.m];rfl,?_⟩
 rcases Ei nA.below with hn | ⟨bl,t,hn⟩
 ·refine .inl ⟨hn,?_⟩
  have am:=a.m
  rw[hn]at am ⊢
  obtain⟨h1,e1,s1⟩:=If s iA am
  refine⟨h1,e1,fun k=> ?_,s1⟩
  have hl:iA<LA.length:=(List.getElem?_eq_some_iff.1 am).1
  have hc:=(s1.cell iA (by rw[List.getElem?_set_self hl];rfl)).1
  rw[bC,hc];rfl
 ·refine .inr ⟨bl,t,hn,?_⟩
  have am:=a.m
  rw[hn]at am
  obtain⟨h1,e1,s1⟩:=Fr s iA am
  rw[a.setM]at s1
  have a1:=a.put ⟨nA.fb,nA.S,bl,t⟩
  obtain⟨_,_,_,_,mv1⟩:=cV s1 iA a1.m
  have hlen:nA.below.length=bl.length+1:=by rw[hn];simp
  obtain⟨h2,e2,s2⟩:=cS s1 a1 (by simp only;omega) (ht t (by rw[hn];simp)) hv
  rw[aO]at s2
  exact⟨h1,h2,by rw[hlen];exact e1,fun k=>by rw[bC,mv1.m,hlen];rfl,s1,e2,s2⟩
theorem xA {gates:List Int} {v:VD} {S:StD}:gm gates v S=if(bj gates S.G v).2.2≠0 then({S with G:=(bj gates S.G v).1}:StD).no (bj gates S.G v).2.2 else({S with G:=(bj gates S.G v).1}:StD).ok (bj gates S.G v).2.1:=rfl
theorem vL {st:List VD} {v:VD} (hst:n.top.stack=st++[v]):MaD.back n.m=(if(if n.top.asked then gm n.top.gates v n.S else n.S.ok v).2.2≠0 then .fail (if n.top.asked then gm n.top.gates v n.S else n.S.ok v).1 (if n.top.asked then gm n.top.gates v n.S else n.S.ok v).2.2
  else match n.below.getLast? with
  | none=> .over (if n.top.asked then gm n.top.gates v n.S else n.S.ok v).1 (if n.top.asked then gm n.top.gates v n.S else n.S.ok v).2.1
  | some t=> .go ⟨(if n.top.asked then gm n.top.gates v n.S else n.S.ok v).1,{t with stack:=t.stack++[(if n.top.asked then gm n.top.gates v n.S else n.S.ok v).2.1]},n.below.dropLast⟩):=by
 unfold MaD.back
 simp only[hst,dQ,List.getD_cons_zero]
 rfl
set_option maxRecDepth 100000 in
set_option maxHeartbeats 2000000 in
theorem Ik (s:St h0 F0 J0 h L) (a:At c L i n) (o:OkR c n) {st:List VD} {v:VD} (hst:n.top.stack=st++[v]) (hgf:n.top.gates.length≤80) (hgo:∀ m',MaD.back n.m= .go m'→m'.top.stack.length≤100000):
  ∃ fr h',aj Try.prog po L0 [.ptr c.mb 0 0] h=some (fr,h')∧uG h0 F0 J0 c L i (MaD.back n.m) fr h':=by
 have ht0:n.top.asked=false→∀ t,n.below.getLast? =some t→t.stack.length≤100000:=fun hk t ht=>by
  rw[vL hst,hk]at hgo
  simp only[Bool.false_eq_true,if_false]at hgo
  rw[if_neg (by simp[StD.ok]),ht]at hgo
  have:=hgo _ rfl
  simp at this
  omega
 have ht1:n.top.asked=true→(bj n.top.gates n.S.G v).2.2=0→∀ t,n.below.getLast? =some t→t.stack.length≤100000:=fun hk hc t ht=>by
  have hb:(gm n.top.gates v n.S).2.2=0:=by rw[xA,if_neg (fun e=>e hc)];rfl
  rw[vL hst,hk]at hgo
  simp only[if_true]at hgo
  rw[if_neg (fun e=>e hb),ht]at hgo
  have:=hgo _ rfl
  simp at this
  omega
 clear hgo
 rw[vL hst]
 have s0:=s.push [zR3]
 have a0:=a.cons (ai h.n [zR3])
 obtain⟨h2,r,e2,hv,s2,a2⟩:=eQ s0 a0 o hst
 have o3:=o.stk' hst
 rw[ap]at s2 a2
 obtain⟨o1,o2⟩:=hv.len3
 have s3:=s2.push [r]
 have a3:=a2.cons (ai h2.n [r])
 obtain⟨tp,_⟩:=ct s3 a3 o.below
 obtain⟨ar,sv,nv,g,mv⟩:=cV s3 (i+1+1) a3.m
 have lall:=mv.all
 have hgo:g.one=true:=by
  have:=mv.hg
  rcases this with⟨_,rfl⟩ | ⟨id,rfl⟩<;>rfl
 have hga:SlA 3 g (dw n.top.gates):=mv.hg
 have g6:=bY (n.stk st).top ar sv nv g mv.ha.len3.1
 have g7:=mq (f:=(n.stk st).top) (g:=g) mv.ha.len3 mv.sv.1 mv.nv.1 hgo
 generalize cD (n.stk st).top ar sv nv g=row at*
 have s4:St h0 F0 J0 _ (ai (h2.n+1) [row]::ai h2.n [r]::ai h.n [zR3]::put c L i (n.stk st)):=s3.push [row]
 have a4:=a3.cons (ai (h2.n+1) [row])
 have c1:=(s4.cell 0 rfl).1
 have c2:=(s4.cell 1 rfl).1
 have wl:IntKind.wrap .i64 (((n.below.length+1:Nat):Int) - 1)=(n.below.length:Int):=y9 (by omega) (by have:=o.below;omega) (by have:=o.below;omega)
 have sl:=uW (e:=tFr) (b:=n.fb) (n:=n.below.length+1) (m:=n.below.length) (by omega)
 have fm:aK 1 (.ptr c.mb 0 0)=some (.ptr c.mb 0 1):=rfl
 have r8:row[8]? =some (.bool n.top.asked):=g6.2.2.2.2.1
 have r9:row[9]? =some g:=g6.2.2.2.1
 have rl:row.length=10:=g6.2.1
 clear g6
 cases hask:n.top.asked with
 | false=>
   rw[hask]at r8
   simp only[Bool.false_eq_true,if_false,StD.ok]
   rw[if_neg (by simp)]
   obtain⟨ld,hfin⟩:=wC s4 a4 o.below (ht0 hask) hv
   rcases hfin with⟨hb0,h1,e5,l5,s5⟩ | ⟨bl,t,hbl,h1,h5,e5,l5,s5,e6,s6⟩
   ·have hb0:n.below=[]:=hb0
    rw[hb0]
    have s5':St h0 F0 J0 h1 (ai (h2.n+1) [row]::ai h2.n [r]::ai h.n [zR3]::(put c L i (n.stk st)).set i (yW c.mb c.bb n.fb (n.S.left:Int))):=s5
    have d1:=(s5'.cell 1 rfl).1
    have d2:=(s5'.cell 2 rfl).1
    have s6:=s5'.set 2 rfl [r]
    have d3:=(s6.cell 2 rfl).1
    refine⟨.inl (.tup [.agg r,.bool true]),_,?_,r,rfl,hv,n.fb,by have:=s6.drop.drop.drop;rw[←Be (n:=n.stk st)];exact this⟩
    have dz:decide ((n.below.length:Int)=0)=true:=decide_eq_true (by rw[hb0];rfl)
    refine ah kM rfl ?_;unfold jw
    simp only[sim,ag,Nat.reduceAdd,Nat.reduceSub,List.replicate,reduceCtorEq,Nat.reduceLeDiff,Nat.reduceLT,aa,az,e2,o1,o2,tp,lall,rl,g7,c1,c2,r8,fm,ld,wl,sl,e5,l5,dz,d1,d2,d3,nt,mJ]
   ·have hbl:n.below=bl++[t]:=hbl
    have hlen:n.below.length=bl.length+1:=by rw[hbl];simp
    have hlast:n.below.getLast? =some t:=by rw[hbl];simp
    have hdrop:n.below.dropLast=bl:=by rw[hbl];simp
    rw[hlast,hdrop]
    have s5':St h0 F0 J0 h1 (ai (h2.n+1) [row]::ai h2.n [r]::ai h.n [zR3]::put c (put c L i (n.stk st)) i ⟨n.fb,n.S,bl,t⟩):=s5
    have s6':St h0 F0 J0 h5 (ai (h2.n+1) [row]::ai h2.n [r]::ai h.n [zR3]::put c (put c L i (n.stk st)) i ⟨n.fb,n.S,bl,{t with stack:=t.stack++[v]}⟩):=s6
    have d1:=(s5'.cell 1 rfl).1
    have d2:=(s6'.cell 1 rfl).1
    have d3:=(s6'.cell 2 rfl).1
    have s7:=s6'.set 2 rfl [r]
    have d4:=(s7.cell 2 rfl).1
    refine⟨.inl (.tup [.agg r,.bool false]),_,?_,r,rfl,hv.len3,n.fb,by have:=s7.drop.drop.drop;rw[aO]at this;exact this⟩
    have dz:decide ((n.below.length:Int)=0)=false:=decide_eq_false (by rw[hlen];omega)
    refine ah kM rfl ?_;unfold jw
    simp only[sim,ag,Nat.reduceAdd,Nat.reduceSub,List.replicate,reduceCtorEq,Nat.reduceLeDiff,Nat.reduceLT,aa,az,e2,o1,o2,tp,lall,rl,g7,c1,c2,r8,fm,ld,wl,sl,e5,l5,dz,d1,e6,d2,d3,d4,nt,mJ]
 | true=>
   rw[hask]at r8
   simp only[if_true]
   have ht2:=ht1 hask
   clear ht0 ht1
   rw[xA]
   obtain⟨l0,l1,_⟩:=cH s4 a4 o.len
   have f0:aK 0 (.ptr c.mb 0 0)=some (.ptr c.mb 0 0):=rfl
   have f1:aK 0 (.ptr c.bb 0 0)=some (.ptr c.bb 0 0):=rfl
   obtain⟨h5,⟨y,e5,hy⟩,s5⟩:=kG s4 a4 (R:=fun h'=>∃ r',aj Try.prog po 106 [.ptr c.gb 0 0,.agg r,g] ((h2.push [r]).push [row])=some (.inl (.tup [.agg r',.int .i64 (bj n.top.gates n.S.G v).2.2]),h')∧VaA (bj n.top.gates n.S.G v).2.1 r') fun F J gx=>qu gx o.S.wf hv hga (by omega)
   generalize bj n.top.gates n.S.G v=q at*
   obtain⟨G',v',cc⟩:=q
   simp only at e5 hy s5 ⊢
   rw[ap,ap,ap,aO]at s5
   obtain⟨z1,z2⟩:=hy.len3
   have a5:=(((a.put {(n.stk st)with S:={n.S with G:=G'}}).cons (ai h.n [zR3])).cons (ai h2.n [r])).cons (ai (h2.n+1) [row])
   have s6:=s5.push [zR3]
   have a6:=a5.cons (ai h5.n [zR3])
   obtain⟨n0,n1,_⟩:=cH s6 a6 o.len
   have d0:=(s6.cell 1 rfl).1
   have d1:=(s6.cell 2 rfl).1
   have s7:=s5.push [y]
   have a7:=a5.cons (ai h5.n [y])
   have d2:=(s7.cell 0 rfl).1
   have d3:=(s7.cell 2 rfl).1
   by_cases hcc:cc=0
   ·subst hcc
    rw[if_neg (fun h=>h rfl)]
    simp only[StD.ok]
    rw[if_neg (by simp)]
    have d5:decide ((0:Int)=0)=true:=rfl
    have s8:St h0 F0 J0 _ (ai h5.n [y]::ai (h2.n+1) [row]::ai h2.n [y]::ai h.n [zR3]::put c L i {(n.stk st)with S:={n.S with G:=G'}}):=s7.set 2 rfl [y]
    have a8:=(((a.put {(n.stk st)with S:={n.S with G:=G'}}).cons (ai h.n [zR3])).cons (ai h2.n [y])).cons (ai (h2.n+1) [row]) |>.cons (ai h5.n [y])
    obtain⟨ld,hfin⟩:=wC s8 a8 o.below (ht2 rfl) hy
    rcases hfin with⟨hb0,h1,e9,l9,s9⟩ | ⟨bl,t,hbl,h1,h9,e9,l9,s9,e10,s10⟩
    ·have hb0:n.below=[]:=hb0
     rw[hb0]
     have s9':St h0 F0 J0 h1 (ai h5.n [y]::ai (h2.n+1) [row]::ai h2.n [y]::ai h.n [zR3]::(put c L i {(n.stk st)with S:={n.S with G:=G'}}).set i (yW c.mb c.bb n.fb (n.S.left:Int))):=s9
     have g1:=(s9'.cell 2 rfl).1
     have g2:=(s9'.cell 3 rfl).1
     have s11:=s9'.set 3 rfl [y]
     have g3:=(s11.cell 3 rfl).1
     refine⟨.inl (.tup [.agg y,.bool true]),_,?_,y,rfl,hy,n.fb,by have:=s11.drop.drop.drop.drop;rw[←Be (n:={(n.stk st)with S:={n.S with G:=G'}})];exact this⟩
     have dz:decide ((n.below.length:Int)=0)=true:=decide_eq_true (by rw[hb0];rfl)
     refine ah kM rfl ?_;unfold jw
     simp only[sim,ag,Nat.reduceAdd,Nat.reduceSub,List.replicate,reduceCtorEq,Nat.reduceLeDiff,Nat.reduceLT,aa,az,e2,o1,o2,tp,lall,rl,g7,c1,c2,r8,r9,fm,f0,f1,l0,l1,e5,n0,n1,d0,d1,d2,d3,d5,bX,z1,z2,ld,wl,sl,e9,l9,dz,g1,g2,g3,nt,mJ]
    ·have hbl:n.below=bl++[t]:=hbl
     have hlen:n.below.length=bl.length+1:=by rw[hbl];simp
     have hlast:n.below.getLast? =some t:=by rw[hbl];simp
     have hdrop:n.below.dropLast=bl:=by rw[hbl];simp
     rw[hlast,hdrop]
     have s9':St h0 F0 J0 h1 (ai h5.n [y]::ai (h2.n+1) [row]::ai h2.n [y]::ai h.n [zR3]::put c (put c L i {(n.stk st)with S:={n.S with G:=G'}}) i ⟨n.fb,{n.S with G:=G'},bl,t⟩):=s9
     have s10':St h0 F0 J0 h9 (ai h5.n [y]::ai (h2.n+1) [row]::ai h2.n [y]::ai h.n [zR3]::put c (put c L i {(n.stk st)with S:={n.S with G:=G'}}) i ⟨n.fb,{n.S with G:=G'},bl,{t with stack:=t.stack++[v']}⟩):=s10
     have g1:=(s9'.cell 2 rfl).1
     have g2:=(s10'.cell 2 rfl).1
     have g3:=(s10'.cell 3 rfl).1
     have s11:=s10'.set 3 rfl [y]
     have g4:=(s11.cell 3 rfl).1
     refine⟨.inl (.tup [.agg y,.bool false]),_,?_,y,rfl,hy.len3,n.fb,by have:=s11.drop.drop.drop.drop;rw[aO]at this;exact this⟩
     have dz:decide ((n.below.length:Int)=0)=false:=decide_eq_false (by rw[hlen];omega)
     refine ah kM rfl ?_;unfold jw
     simp only[sim,ag,Nat.reduceAdd,Nat.reduceSub,List.replicate,reduceCtorEq,Nat.reduceLeDiff,Nat.reduceLT,aa,az,e2,o1,o2,tp,lall,rl,g7,c1,c2,r8,r9,fm,f0,f1,l0,l1,e5,n0,n1,d0,d1,d2,d3,d5,bX,z1,z2,ld,wl,sl,e9,l9,dz,g1,e10,g2,g3,g4,nt,mJ]
   ·rw[if_pos hcc,if_pos (show((({n.S with G:=G'}:StD).no cc).2.2≠0) from hcc)]
    simp only[StD.no]
    have d5:decide (cc=0)=false:=decide_eq_false hcc
    refine⟨_,_,?_,rfl,{(n.stk st)with S:={n.S with G:=G'}},rfl,s7.drop.drop.drop.drop⟩
    refine ah kM rfl ?_;unfold jw
    simp only[sim,ag,Nat.reduceAdd,Nat.reduceSub,List.replicate,reduceCtorEq,Nat.reduceLeDiff,Nat.reduceLT,aa,az,e2,o1,o2,tp,lall,rl,g7,c1,c2,r8,r9,fm,f0,f1,l0,l1,e5,n0,n1,d0,d1,d2,d3,d5,bL,z1,z2]
end
end Go.Proofs.Ytkdbjfncchmmpaa
