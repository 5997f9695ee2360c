/- The machine in memory: what its topmost frame reads as, and what becomes of it by a store. -/
import Derived.Test.YtkdbjfncchmmpaaGreatMg5
namespace Go.Proofs.YtkdbjfncchmmpaaGreat
open Nat (reduceAdd reduceSub reduceLeDiff reduceLT)
open List (replicate)
set_option linter.unusedSimpArgs false
set_option linter.unusedVariables false
open Go
def BP (mb bb fb:Nat) (left:Int):Asn:=ai mb [[.ptr bb 0 0,.msl fb 0 0 tFr,.int .i64 left]]
section
variable {h h' h0:AH} {F J F0 J0:Nat→Prop} {L:List Asn} {mb bb fb:Nat} {left:Int} {below:List FrD} {top:FrD}
theorem kB:∀ {rs:List (List AV)} {fs:List FrD} {r:List AV} {f:FrD} {h:AH} {F J:Nat→Prop},rs.length=fs.length→((eJ (rs++[r]) (fs++[f])).A h F J↔(dw (nn r f) (eJ rs fs)).A h F J)
 | [],[],r,f,h,F,J,_=>Iff.rfl
 | q::rs,g::fs,r,f,h,F,J,hl=>by
   have ih:∀ {h:AH} {F J:Nat→Prop},(eJ (rs++[r]) (fs++[f])).A h F J↔(dw (nn r f) (eJ rs fs)).A h F J:=kB (by simpa using hl)
   constructor
   ·intro x
    exact jK (eZ (fun _ _ _ y=>y) (fun _ _ _ y=>ih.1 y) x)
   ·intro x
    exact eZ (fun _ _ _ y=>y) (fun _ _ _ y=>ih.2 y) (jK x)
 | [],_::_,_,_,_,_,_,hl=>by simp at hl
 | _::_,[],_,_,_,_,_,hl=>by simp at hl
structure MP (h:AH) (mb bb fb:Nat) (left:Int) (below:List FrD) (top:FrD) (a:List AV) (sv nv g:AV):Prop where
 m:h.cell mb=some [[.ptr bb 0 0,.msl fb 0 (below.length+1) tFr,.int .i64 left]]
 mn:mb<h.n
 rd:∀ (n j:Nat) (v:AV),(cP top a sv nv g)[j]? =some v→aD false n h (.ptr fb below.length j)=some v
 arg:aD true 3 h (.ptr fb below.length 3)=some (.agg a)
 all:aD true 10 h (.ptr fb below.length 0)=some (.agg (cP top a sv nv g))
 ha:VaA top.arg a
 hg:SlA 3 g (bh top.gates)
 sv:sv.one=true∧sv.cells=[sv]∧dH sv=some top.stack.length∧∀ s,du s (some tV) sv=true
 nv:nv.one=true∧nv.cells=[nv]∧dH nv=some top.names.length∧(∀ s,du s (some tV) nv=true)∧∀ (q:IntKind) (i:Nat) (y:VD),top.names[i]? =some y→∃ p r,bX (some tV) none nv (.int q (i:Int))=some p∧aD true 3 h p=some (.agg r)∧VaA y r
 fbn:fb<h.n
theorem dv (s0:St h0 F0 J0 h L) (i:Nat) (hi:L[i]? =some (eu mb bb fb left below top)):∃ a sv nv g,MP h mb bb fb left below top a sv nv g:=by
 obtain⟨F,J,x⟩:=s0.get i hi
 obtain⟨rs,ex,a,sv,nv,g,hrl,ha,hg,s⟩:=iQ x
 have q1:=(s.cell 1 rfl).1
 have g6:=ca top a sv nv g ha.len3.1
 obtain⟨F1,J1,x1⟩:=s.get 2 rfl
 obtain⟨F2,J2,x2⟩:=s.get 3 rfl
 have r1:=gE x1
 have r2:=gE x2
 refine⟨a,sv,nv,g,(s.cell 0 rfl).1,(s.cell 0 rfl).2,fun n j v hv=>lP q1 hrl hv,?_,?_,ha,hg,⟨r1.1,r1.2.1,r1.2.2.1,r1.2.2.2.1⟩,r2,(s.cell 1 rfl).2⟩
 ·rw[bC,q1,Option.bind_some,n7 hrl,Option.bind_some]
  unfold ldA
  rw[if_pos rfl,if_pos (by rw[g6.2.1];decide)]
  match a,ha.len3.1 with
  | [x,y,z],_=>rfl
 ·rw[bC,q1,Option.bind_some,n7 hrl,Option.bind_some]
  exact bq g6.2.1
theorem Bq (s0:St h0 F0 J0 h L) (i:Nat) (hi:L[i]? =some (eu mb bb fb left below top)) (pc:Nat):∃ h',aH 1 h (.ptr fb below.length 2) (.int .i64 (pc:Int))=some h'∧St h0 F0 J0 h' (L.set i (eu mb bb fb left below {top with pc:=pc})):=by
 refine s0.call (R:=fun h'=>aH 1 h (.ptr fb below.length 2) (.int .i64 (pc:Int))=some h') i hi fun F J x=> ?_
 obtain⟨rs,ex,a,sv,nv,g,hrl,ha,hg,s⟩:=iQ x
 have g6:=ca top a sv nv g ha.len3.1
 have hr:(cP top a sv nv g).set 2 (.int .i64 (pc:Int))=cP {top with pc:=pc} a sv nv g:=rfl
 have s1:=s.set 1 rfl (rs++cP {top with pc:=pc} a sv nv g::ex)
 exact⟨_,ml (s.cell 1 rfl).1 hrl rfl rfl (by rw[g6.2.1];decide) hr,me (top:={top with pc:=pc}) ha hg s1⟩
theorem G9 (s0:St h0 F0 J0 h L) (i:Nat) (hi:L[i]? =some (eu mb bb fb left below top)) (l:Int):∃ h',aH 1 h (.ptr mb 0 2) (.int .i64 l)=some h'∧St h0 F0 J0 h' (L.set i (eu mb bb fb l below top)):=by
 refine s0.call (R:=fun h'=>aH 1 h (.ptr mb 0 2) (.int .i64 l)=some h') i hi fun F J x=> ?_
 obtain⟨rs,ex,a,sv,nv,g,hrl,ha,hg,s⟩:=iQ x
 have s1:=s.set 0 rfl [[.ptr bb 0 0,.msl fb 0 (below.length+1) tFr,.int .i64 l]]
 exact⟨_,bo (s.cell 0 rfl).1 rfl rfl rfl (by simp),me ha hg s1⟩
theorem yk (f:FrD) (a:List AV) (s n g n':AV) (nm:List VD) (ha:a.length=3):(cP f a s n g).set 7 n'=cP {f with names:=nm} a s n' g:=by
 match a,ha with
 | [x,y,z],_=>rfl
theorem H2 (s0:St h0 F0 J0 h L) (i:Nat) (hi:L[i]? =some (eu mb bb fb left below top)) {nm:List VD} {v:VD} (hn:top.names=nm++[v]) {a:List AV} {sv nv g:AV} (hv:MP h mb bb fb left below top a sv nv g):
  ∃ nv' h',fz nv none (some (.int .i64 (nm.length:Int)))=some nv'∧nv'.one=true∧nv'.cells=[nv']∧aH 1 h (.ptr fb below.length 7) nv'=some h'∧St h0 F0 J0 h' (L.set i (eu mb bb fb left below {top with names:=nm})):=by
 obtain⟨h',nv',⟨e1,e2,e3,e4⟩,s'⟩:=s0.callE (R:=fun h' nv'=>fz nv none (some (.int .i64 (nm.length:Int)))=some nv'∧nv'.one=true∧nv'.cells=[nv']∧aH 1 h (.ptr fb below.length 7) nv'=some h') i hi (Y:=fun _=>eu mb bb fb left below {top with names:=nm}) fun F J x=>by
  obtain⟨rs,ex,a',sv',nv',g',hrl,ha,hg,s⟩:=iQ x
  have g6:=ca top a' sv' nv' g' ha.len3.1
  have l7:=lP (n:=1) (s.cell 1 rfl).1 hrl g6.2.2.1
  have l7':=hv.rd 1 7 nv (ca top a sv nv g hv.ha.len3.1).2.2.1
  rw[l7]at l7'
  injection l7' with l7'
  subst l7'
  obtain⟨F1,J1,x1⟩:=s.get 3 rfl
  rw[hn]at x1
  obtain⟨b,hb⟩:=zw x1 (by simp)
  rw[List.length_append,List.length_singleton]at hb
  subst hb
  have s1:=s.set 1 rfl (rs++cP {top with names:=nm} a' sv' (.msl b 0 nm.length tV) g'::ex)
  have s2:St h F J _ (FP mb bb fb left below {top with names:=nm} rs ex a' sv' (.msl b 0 nm.length tV) g'):=s1.upd 3 rfl fun _ _ _ x=>by rw[hn]at x;exact zs x
  exact⟨_,.msl b 0 nm.length tV,⟨wq (by omega),rfl,rfl,ml (s.cell 1 rfl).1 hrl rfl rfl (by rw[g6.2.1];decide) (yk _ _ _ _ _ _ nm ha.len3.1)⟩,me (top:={top with names:=nm}) ha hg s2⟩
 exact⟨nv',h',e1,e2,e3,e4,s'⟩
theorem xZ {b n:Nat} {l:List VD} (x:(cG (.msl b 0 n tV) l).A h F J) {i:Nat} (hi:i<l.length) {v:VD} {r:List AV} (hv:VaA v r):∃ h',aH 3 h (.ptr b i 0) (.agg r)=some h'∧Did h F J h' (cG (.msl b 0 n tV) (l.set i v)):=by
 obtain⟨rows,hl,x⟩:=x
 have hlen:=hl.len
 rcases x with⟨⟨_,e⟩,_⟩ | ⟨⟨b',es⟩,⟨e,h1,h2⟩,a1,a2,a3,a4⟩
 ·cases e
 ·injection e with e1 _ e2 _
  simp only at e1 h1 h2 a1 a3 a4
  subst e1
  have hir:i<rows.length:=by omega
  have hie:i<es.length:=by omega
  obtain⟨q,hq⟩:∃ q,es[i]? =some q:=⟨_,List.getElem?_eq_getElem hie⟩
  have hq3:q.length=3:=by
   have h5:rows[i]? =some q:=by
    conv=>lhs;rw[h2]
    rw[List.getElem?_take_of_lt hir]
    exact hq
   obtain⟨y,hy⟩:∃ y,l[i]? =some y:=⟨_,List.getElem?_eq_getElem hi⟩
   obtain⟨r',h6,h7⟩:=hl.get hy
   rw[h5]at h6
   injection h6 with h6
   rw[h6]
   exact h7.len3.1
  have hst:stA q 0 r=r:=by
   unfold stA
   rw[List.take_zero,List.nil_append,List.drop_of_length_le (by have:=hv.len3.1;omega),List.append_nil]
  have hset:∀ {l:List VD} {rows:List (List AV)} {i:Nat},VaL l rows→i<l.length→VaL (l.set i v) (rows.set i r):=by
   intro l
   induction l with
   | nil=>intro rows i _ hi;simp at hi
   | cons y l ih=>
     intro rows i hl hi
     obtain⟨r0,rs,rfl,q1,q2⟩:=hl
     cases i with
     | zero=>exact⟨r,rs,rfl,hv,q2⟩
     | succ i=>exact⟨r0,rs.set i r,rfl,q1,ih q2 (by simpa using hi)⟩
  refine⟨_,bo (es:=es) (e:=q) a4 hq hv.len3.2 hv.len3.1 (by omega),F,J,⟨rows.set i r,hset hl hi,.inr ⟨⟨b,es.set i r⟩,⟨by simp only[List.length_set,e2],by simpa using h1,?_⟩,a1,a2,a3,?_⟩⟩,⟨Nat.le_refl _,Nat.le_refl _,fun k _ hk=>be fun e=>hk ((a1 k).2 e),fun _ _ _=>rfl⟩,fun _=> .inl,fun _=> .inl⟩
  ·simp only[List.length_set]
   rw[List.take_set]
   conv=>lhs;rw[h2]
  ·simp only[AV.cells,hst]
   exact aP
theorem tF {n b i off:Nat} {h h':AH} {r:List AV} (hs:aH n h (.ptr b i off) (.agg r)=some h'):aD true n h' (.ptr b i off)=some (.agg r):=by
 unfold aH at hs
 simp only[Option.bind_eq_some_iff]at hs
 obtain⟨es,h2,e,h3,h4⟩:=hs
 split at h4
 ·rename_i hc
  injection h4 with h4
  subst h4
  have hi:=(List.getElem?_eq_some_iff.1 h3).1
  have c2:=hc.2.1
  simp only[AV.cells]at c2
  rw[bC,aP,Option.bind_some,List.getElem?_set_self hi,Option.bind_some]
  have hl:=kz e r off (by omega)
  simp only[AV.cells,ldA,if_true]
  have:((stA e off r).drop off).take n=r:=by
   unfold stA
   rw[List.append_assoc,List.drop_left' (by simp;omega),List.take_left' c2]
  rw[this]
  exact if_pos (by omega)
 ·cases h4
theorem Gw (s0:St h0 F0 J0 h L) (i:Nat) (hi:L[i]? =some (eu mb bb fb left below top)) {v:VD} {r:List AV} (hv:VaA v r) (hl:top.names.length≤1000000) {bz:Nat} (hz:h.cell bz=some [zR3]) {a:List AV} {sv nv g:AV} (mv:MP h mb bb fb left below top a sv nv g):
  ∃ q h1 h2 h3,aE true tV nv (.msl bz 0 1 tV) h=some (.msl q 0 (top.names.length+1) tV,h1)∧aH 3 h1 (.ptr q top.names.length 0) (.agg r)=some h2∧aH 1 h2 (.ptr fb below.length 7) (.msl q 0 (top.names.length+1) tV)=some h3∧aD true 3 h3 (.ptr q top.names.length 0)=some (.agg r)∧
    St h0 F0 J0 h3 (L.set i (eu mb bb fb left below {top with names:=top.names++[v]})):=by
 have zv:VaA au zR3:=ee
 obtain⟨h3,⟨q,h1,h2⟩,⟨e1,e2,e3,e4⟩,s'⟩:=s0.callE (R:=fun h3 (q:Nat×AH×AH)=>aE true tV nv (.msl bz 0 1 tV) h=some (.msl q.1 0 (top.names.length+1) tV,q.2.1)∧aH 3 q.2.1 (.ptr q.1 top.names.length 0) (.agg r)=some q.2.2∧aH 1 q.2.2 (.ptr fb below.length 7) (.msl q.1 0 (top.names.length+1) tV)=some h3∧aD true 3 h3 (.ptr q.1 top.names.length 0)=some (.agg r)) i hi (Y:=fun _=>eu mb bb fb left below {top with names:=top.names++[v]}) fun F J x=>by
  obtain⟨rs,ex,a',sv',nv',g',hrl,ha,hg,s⟩:=iQ x
  have g6:=ca top a' sv' nv' g' ha.len3.1
  have l7:=lP (n:=1) (s.cell 1 rfl).1 hrl g6.2.2.1
  have l7':=mv.rd 1 7 nv (ca top a sv nv g mv.ha.len3.1).2.2.1
  rw[l7]at l7'
  injection l7' with l7'
  subst l7'
  obtain⟨h1,e1,s1⟩:=s.app 3 rfl hz zv hl
  obtain⟨h2,e2,s2⟩:=s1.call (R:=fun h2=>aH 3 h1 (.ptr h.n top.names.length 0) (.agg r)=some h2) 3 rfl fun F J x=>xZ x (i:=top.names.length) (by simp) hv
  rw[show(top.names++[au]).set top.names.length v=top.names++[v] from wo top.names [] au v rfl]at s2
  have st:=ml (v:= .msl h.n 0 (top.names.length+1) tV) (s2.cell 1 rfl).1 hrl rfl rfl (by rw[g6.2.1];decide) (yk _ _ _ _ _ _ (top.names++[v]) ha.len3.1)
  have s3:=s2.set 1 rfl (rs++cP {top with names:=top.names++[v]} a' sv' (.msl h.n 0 (top.names.length+1) tV) g'::ex)
  obtain⟨F4,J4,x4⟩:=s3.get 3 rfl
  obtain⟨p,r',p1,p2,p3⟩:=(gE x4).2.2.2.2 .i64 top.names.length v (CX top.names [] v rfl)
  refine⟨_,(h.n,h1,h2),⟨e1,e2,st,?_⟩,me (top:={top with names:=top.names++[v]}) ha hg s3⟩
  -- what was put there is there still
  obtain⟨F5,J5,x5⟩:=s2.get 3 rfl
  have hne:fb≠h.n:=by have:=(s.cell 1 rfl).2;omega
  rw[bC,be (Ne.symm hne),←bC (agg:=true) (n:=3)]
  exact tF e2
 exact⟨q,h1,h2,h3,e1,e2,e3,e4,s'⟩
theorem pE (x:(eu mb bb fb left below top).A h F J):∃ rs ex row,rs.length=below.length∧row.length=10∧row.all AV.one=true∧St h F J h [ai mb [[.ptr bb 0 0,.msl fb 0 (below.length+1) tFr,.int .i64 left]],ai fb (rs++row::ex),nn row top,eJ rs below]:=by
 obtain⟨⟨rs,row,ex⟩,x⟩:=x
 obtain⟨F1,J1,F2,J2,x1,⟨F3,J3,F4,J4,x3,⟨F5,J5,F6,J6,x5,x6,r6⟩,r4⟩,r2⟩:=x
 have x5':=x5
 obtain⟨⟨a,s,n,g⟩,⟨e,ha,hg⟩,y⟩:=x5'
 simp only at e
 have g6:=ca top a s n g ha.len3.1
 obtain⟨_,_,_,_,y1,y2,_⟩:=y
 have hgo:g.one=true:=by
  have hg:SlA _ g _:=hg
  rcases hg with⟨_,rfl⟩ | ⟨id,rfl⟩<;>rfl
 refine⟨rs,ex,row,lU x6,by rw[e];exact g6.2.1,by rw[e];exact oz ha.len3 (gE y1).1 (gE y2).1 hgo,St.start ?_⟩
 exact⟨F1,J1,F2,J2,x1,⟨F3,J3,F4,J4,x3,⟨F5,J5,F6,J6,x5,aX.one x6,r6⟩,r4⟩,r2⟩
theorem tr {rs ex:List (List AV)} {row:List AV} (s:St h0 F0 J0 h [ai mb [[.ptr bb 0 0,.msl fb 0 (below.length+1) tFr,.int .i64 left]],ai fb (rs++row::ex),nn row top,eJ rs below]):Did h0 F0 J0 h (eu mb bb fb left below top):=
 Did.imp (fun _ _ _ x=>by
  obtain⟨F1,J1,F2,J2,x1,⟨F3,J3,F4,J4,x3,⟨F5,J5,F6,J6,x5,x6,r6⟩,r4⟩,r2⟩:=x
  exact⟨⟨rs,row,ex⟩,F1,J1,F2,J2,x1,⟨F3,J3,F4,J4,x3,⟨F5,J5,F6,J6,x5,aX.one' x6,r6⟩,r4⟩,r2⟩) s
theorem uB {f:FrD} {a:List AV} {g:AV} (ha:VaA f.arg a) (hg:SlA 3 g (bh f.gates)) (hs:f.stack=[]) (hn:f.names=[]):(nn (cP f a .nils .nils g) f).A h (fun _=>False) (fun _=>False):=by
 have e:∀ (l:List VD),l=[]→(cG .nils l).A h (fun _=>False) (fun _=>False):=fun l hl=>by
  subst hl
  exact⟨[],rfl,.inl ⟨⟨rfl,rfl⟩,fun _ h=>h,fun _ h=>h⟩⟩
 exact⟨⟨a,.nils,.nils,g⟩,⟨rfl,ha,hg⟩,fun _=>False,fun _=>False,fun _=>False,fun _=>False,e _ hs,e _ hn,fun k=>by simp,fun j=>by simp,fun _ h=>h.elim,fun _ h=>h.elim⟩
theorem St.front {X:Asn} (s:St h0 F0 J0 h L) (i:Nat) (hi:L[i]? =some X):St h0 F0 J0 h (X::L.eraseIdx i):=s.imp fun _ _ _ x=>(aX.front hi).1 x
theorem Iv (s0:St h0 F0 J0 h L) (i:Nat) (hi:L[i]? =some (eu mb bb fb left below top)) {f:FrD} {a:List AV} {g:AV} (ha:VaA f.arg a) (hg:SlA 3 g (bh f.gates)) (hs:f.stack=[]) (hn:f.names=[]) (hb:below.length≤1000) {bz:Nat} (hz:h.cell bz=some [cP f a .nils .nils g]):
  ∃ h1 h2,aE true tFr (.msl fb 0 (below.length+1) tFr) (.msl bz 0 1 tFr) h=some (.msl h.n 0 (below.length+2) tFr,h1)∧aH 1 h1 (.ptr mb 0 1) (.msl h.n 0 (below.length+2) tFr)=some h2∧St h0 F0 J0 h2 (L.set i (eu mb bb h.n left (below++[top]) f)):=by
 obtain⟨h2,h1,⟨e1,e2⟩,s'⟩:=s0.callE (R:=fun h2 h1=>aE true tFr (.msl fb 0 (below.length+1) tFr) (.msl bz 0 1 tFr) h=some (.msl h.n 0 (below.length+2) tFr,h1)∧aH 1 h1 (.ptr mb 0 1) (.msl h.n 0 (below.length+2) tFr)=some h2) i hi (Y:=fun _=>eu mb bb h.n left (below++[top]) f) fun F J x=>by
  obtain⟨rs,ex,row,hrl,hl10,ho,s⟩:=pE x
  have c1:=(s.cell 1 rfl).1
  have g6:=ca f a .nils .nils g ha.len3.1
  have hgo:g.one=true:=by rcases hg with⟨_,rfl⟩ | ⟨id,rfl⟩<;>rfl
  have ho2:([cP f a .nils .nils g].all fun x=>x.all AV.one)=true:=by simp only[List.all_cons,List.all_nil,Bool.and_true];exact oz ha.len3 rfl rfl hgo
  have htk:(rs++row::ex).take (below.length+1)=rs++[row]:=by
   rw[←hrl,List.take_append]
   simp[List.take_of_length_le (Nat.le_succ rs.length)]
  have hap:aE true tFr (.msl fb 0 (below.length+1) tFr) (.msl bz 0 1 tFr) h=some (.msl h.n 0 (below.length+2) tFr,(h.set fb none).push (rs++[row]++[cP f a .nils .nils g])):=by
   have he:bL h tFr (.msl bz 0 1 tFr)=some [cP f a .nils .nils g]:=by simp[bL,hz]
   simp only[aE,he,Option.bind_some,List.length_singleton]
   rw[if_neg (by decide)]
   simp only[eo,c1,Option.bind_some]
   rw[if_pos ⟨by simp,by simp,ho2⟩,if_pos ⟨trivial,trivial,by omega⟩,if_pos (by simp;omega),htk]
   rfl
  have s1:=s.del 1 rfl
  have s2:=s1.push (rs++[row]++[cP f a .nils .nils g])
  have hnn:(h.set fb none).n=h.n:=rfl
  have st:aH 1 ((h.set fb none).push (rs++[row]++[cP f a .nils .nils g])) (.ptr mb 0 1) (.msl h.n 0 (below.length+2) tFr)=some (((h.set fb none).push (rs++[row]++[cP f a .nils .nils g])).set mb (some [[.ptr bb 0 0,.msl h.n 0 (below.length+2) tFr,.int .i64 left]])):=bo (n:=1) (i:=0) (x:= .msl h.n 0 (below.length+2) tFr) (off:=1) (e:=[.ptr bb 0 0,.msl fb 0 (below.length+1) tFr,.int .i64 left]) (s2.cell 1 rfl).1 rfl rfl rfl (by simp)
  have s3:=s2.set 1 rfl [[.ptr bb 0 0,.msl h.n 0 (below.length+2) tFr,.int .i64 left]]
  refine⟨_,_,⟨hap,st⟩,tr (rs:=rs++[row]) (ex:=[]) (row:=cP f a .nils .nils g) ?_⟩
  rw[List.length_append,List.length_singleton]
  have s4:=(s3.front 2 rfl).drop
  have s5:St _ _ _ _ [eJ (rs++[row]) (below++[top]),ai h.n (rs++[row]++[cP f a .nils .nils g]),ai mb [[.ptr bb 0 0,.msl h.n 0 (below.length+2) tFr,.int .i64 left]]]:=
   (((s4.front 2 rfl).front 3 rfl).front 1 rfl).imp fun _ _ _ x=>by
     have y:=aX.star_out x
     exact eZ (fun _ _ _ z=>(kB hrl).2 z) (fun _ _ _ z=>z) y
  have s6:=s5.add (af.refl _) (uB ha hg hs hn) (fun _ h=>h.elim) (fun _ h=>h.elim)
  have s7:=(((s6.front 1 rfl).front 1 rfl).front 2 rfl).front 3 rfl
  exact s7
 exact⟨h1,h2,e1,e2,s'⟩
theorem Ho (s0:St h0 F0 J0 h L) (i:Nat) {t:FrD} (hi:L[i]? =some (eu mb bb fb left (below++[t]) top)):
  ∃ h',aH 1 h (.ptr mb 0 1) (.msl fb 0 (below.length+1) tFr)=some h'∧St h0 F0 J0 h' (L.set i (eu mb bb fb left below t)):=by
 refine s0.call (R:=fun h'=>aH 1 h (.ptr mb 0 1) (.msl fb 0 (below.length+1) tFr)=some h') i hi fun F J x=> ?_
 obtain⟨rs,ex,row,hrl,hl10,ho,s⟩:=pE x
 rw[List.length_append,List.length_singleton]at hrl
 obtain⟨rs',q,rfl⟩:∃ rs' q,rs=rs'++[q]:=by
  refine⟨rs.dropLast,rs.getLast (fun e=>by rw[e]at hrl;simp at hrl),(List.dropLast_concat_getLast _).symm⟩
 have hrl':rs'.length=below.length:=by simpa using hrl
 have st:aH 1 h (.ptr mb 0 1) (.msl fb 0 (below.length+1) tFr)=some (h.set mb (some [[.ptr bb 0 0,.msl fb 0 (below.length+1) tFr,.int .i64 left]])):=bo (n:=1) (i:=0) (x:= .msl fb 0 (below.length+1) tFr) (off:=1) (e:=[.ptr bb 0 0,.msl fb 0 ((below++[t]).length+1) tFr,.int .i64 left]) (s.cell 0 rfl).1 rfl rfl rfl (by simp)
 have s1:=s.set 0 rfl [[.ptr bb 0 0,.msl fb 0 (below.length+1) tFr,.int .i64 left]]
 have s2:=(s1.front 2 rfl).drop
 have s3:=(s2.front 2 rfl).imp fun _ _ _ x=>aX.star_in (eZ (fun _ _ _ z=>(kB hrl').1 z) (fun _ _ _ z=>z) x)
 have s4:=(((s3.front 1 rfl).front 1 rfl).front 3 rfl).front 3 rfl
 exact⟨_,st,tr (rs:=rs') (ex:=row::ex) (row:=q) (by simpa using s4)⟩
theorem JO (s0:St h0 F0 J0 h L) (i:Nat) (hi:L[i]? =some (eu mb bb fb left [] top)):
  ∃ h',aH 1 h (.ptr mb 0 1) (.msl fb 0 0 tFr)=some h'∧St h0 F0 J0 h' (L.set i (BP mb bb fb left)):=by
 refine s0.call (R:=fun h'=>aH 1 h (.ptr mb 0 1) (.msl fb 0 0 tFr)=some h') i hi fun F J x=> ?_
 obtain⟨rs,ex,row,hrl,hl10,ho,s⟩:=pE x
 have st:aH 1 h (.ptr mb 0 1) (.msl fb 0 0 tFr)=some (h.set mb (some [[.ptr bb 0 0,.msl fb 0 0 tFr,.int .i64 left]])):=bo (n:=1) (i:=0) (x:= .msl fb 0 0 tFr) (off:=1) (e:=[.ptr bb 0 0,.msl fb 0 1 tFr,.int .i64 left]) (s.cell 0 rfl).1 rfl rfl rfl (by simp)
 have s1:=s.set 0 rfl [[.ptr bb 0 0,.msl fb 0 0 tFr,.int .i64 left]]
 have s2:=((s1.front 3 rfl).drop.front 2 rfl).drop
 have s3:=(s2.front 1 rfl).drop
 exact⟨_,st,Did.imp (fun _ _ _ x=>aX.one' x) s3⟩
end
theorem DW {x:BitVec 64} {k:Nat} (hk:k<64) {r:Int} (hr:r=(BitVec.twoPow 64 k).toInt):BN x.toInt r=d9 x.toInt k:=by
 rw[hr,xR,qt x hk]
 cases hb:x.getLsbD k
 ·refine decide_eq_false fun h=> ?_
  have:=congrArg (fun v:BitVec 64=>v.getLsbD k) h
  simp only[BitVec.getLsbD_and,hb,Bool.false_and,BitVec.getLsbD_twoPow]at this
  simp[hk]at this
 ·refine decide_eq_true (BitVec.eq_of_getLsbD_eq fun i hi=> ?_)
  rw[BitVec.getLsbD_and,BitVec.getLsbD_twoPow]
  by_cases h2:k=i
  ·subst h2
   simp[hb]
  ·simp[h2]
section
variable {h h' h0:AH} {F J F0 J0:Nat→Prop} {L:List Asn} {mb bb fb gb wb:Nat} {left:Int} {below:List FrD} {top:FrD} {ms:aM} {kept:List VD} {G:ae}
theorem bP (c:Int):aj Tryz.prog po 89 [.bool true,.int .i64 c] h=some (.inr (.iface tGo (.int .i64 c)),h):=by
 refine ah yR rfl ?_;unfold qL
 simp only[sim,ag,reduceAdd,reduceSub,replicate,reduceCtorEq,reduceLeDiff,reduceLT,aa,JN,Gb,oF (af.refl h) (rfl:wkA (.iface tGo (.int .i64 c))=_)]
theorem bZ (c:Int):aj Tryz.prog po 89 [.bool false,.int .i64 c] h=some (.inl (.tup []),h):=by
 refine ah yR rfl ?_;unfold qL
 simp only[sim,ag,reduceAdd,reduceSub,replicate,reduceCtorEq,reduceLeDiff,reduceLT,aa,aA (af.refl h) (rfl:wkA (.tup [])=_)]
theorem kZ (n:Int):aj Tryz.prog po 115 [.int .i64 n] h=some (.inl (.agg [.int .i64 1,.int .i64 n,.nils]),h):=by
 refine ah Bn rfl ?_;unfold qR
 simp only[sim,ag,reduceAdd,reduceSub,replicate,reduceCtorEq,reduceLeDiff,reduceLT,aa]
 exact aA (af.push _ _) rfl
theorem tD (n:Int):VaA (iH n) [.int .i64 1,.int .i64 n,.nils]:=⟨.nils,[],rfl,.inl ⟨rfl,rfl⟩,rfl⟩
theorem wE (n:Int):VaA (fh n) [.int .i64 4,.int .i64 n,.nils]:=⟨.nils,[],rfl,.inl ⟨rfl,rfl⟩,rfl⟩
theorem Lx (n:Int):VaA (.mk 5 n []) [.int .i64 5,.int .i64 n,.nils]:=⟨.nils,[],rfl,.inl ⟨rfl,rfl⟩,rfl⟩
theorem wF {k n:Int} {l:List VD} {es:List (List AV)} {id:Option Nat} (hl:VaL l es):VaA (.mk k n l) [.int .i64 k,.int .i64 n,.isl id tV es]:=⟨_,es,rfl,.inr ⟨id,rfl⟩,hl⟩
theorem VaA.cells3 {v:VD} {r:List AV} (hv:VaA v r):∃ w,r=[.int .i64 v.kind,.int .i64 v.n,w]∧w.one=true:=by
 cases v with
 | mk k n l=>
   obtain⟨w,es,rfl,h1,_⟩:=hv
   exact⟨w,rfl,by rcases h1 with⟨_,rfl⟩ | ⟨id,rfl⟩<;>rfl⟩
theorem dW {v:VD} {r:List AV} (hv:VaA v r) {k:Int} (hk:v.kind=k):∃ r',aj Tryz.prog po 91 [.agg r,.int .i64 k] h=some (.inl (.agg r'),h)∧VaA v r':=by
 obtain⟨r',hw,hr'⟩:=Cx hv
 obtain⟨w,rfl,ho⟩:=hv.cells3
 have hwA:wkA (.agg [.int .i64 v.kind,.int .i64 v.n,w])=some (.agg r'):=by simp only[wkA,hw,Option.map_some]
 refine⟨r',?_,hr'⟩
 have d:decide (v.kind=k)=true:=decide_eq_true hk
 refine ah xX rfl ?_;unfold rK
 simp only[sim,ag,reduceAdd,reduceSub,replicate,reduceCtorEq,reduceLeDiff,reduceLT,aa,ay,d,bZ,ho]
 exact aA (by repeat (first | exact af.refl _ | refine af.trans ?_ (af.push _ _) | refine af.trans ?_ (af.fresh _ _))) hwA
theorem fq {v:VD} {r:List AV} (hv:VaA v r) {k:Int} (hk:v.kind≠k):aj Tryz.prog po 91 [.agg r,.int .i64 k] h=some (.inr (.iface tGo (.int .i64 2)),h):=by
 obtain⟨w,rfl,ho⟩:=hv.cells3
 have d:decide (v.kind=k)=false:=decide_eq_false hk
 refine ah xX rfl ?_;unfold rK
 simp only[sim,ag,reduceAdd,reduceSub,replicate,reduceCtorEq,reduceLeDiff,reduceLT,aa,ay,d,bP,ho]
 exact oF (by repeat (first | exact af.refl _ | refine af.trans ?_ (af.push _ _) | refine af.trans ?_ (af.fresh _ _))) rfl
theorem uz {v:VD} {r:List AV} (hv:VaA v r) (hk:v.code=0):∃ r',aj Tryz.prog po 116 [.agg r] h=some (.inl (.agg r'),h)∧VaA v r':=by
 obtain⟨r',hw,hr'⟩:=Cx hv
 have hwA:wkA (.agg r)=some (.agg r'):=by simp only[wkA,hw,Option.map_some]
 refine⟨r',?_,hr'⟩
 have d:decide (v.code=0)=true:=decide_eq_true hk
 have ck:=fun h=>kf (h:=h) hv
 obtain⟨o1,o2⟩:=hv.len3
 refine ah vT rfl ?_;unfold pI
 simp only[sim,ag,reduceAdd,reduceSub,replicate,reduceCtorEq,reduceLeDiff,reduceLT,aa,ay,d,bZ,ck,o1,o2]
 exact aA (by repeat (first | exact af.refl _ | refine af.trans ?_ (af.push _ _) | refine af.trans ?_ (af.fresh _ _))) hwA
theorem yb {v:VD} {r:List AV} (hv:VaA v r) (hk:v.code≠0):aj Tryz.prog po 116 [.agg r] h=some (.inr (.iface tGo (.int .i64 3)),h):=by
 have d:decide (v.code=0)=false:=decide_eq_false hk
 have ck:=fun h=>kf (h:=h) hv
 obtain⟨o1,o2⟩:=hv.len3
 refine ah vT rfl ?_;unfold pI
 simp only[sim,ag,reduceAdd,reduceSub,replicate,reduceCtorEq,reduceLeDiff,reduceLT,aa,ay,d,bP,ck,o1,o2]
 exact oF (by repeat (first | exact af.refl _ | refine af.trans ?_ (af.push _ _) | refine af.trans ?_ (af.fresh _ _))) rfl
theorem jX (s:St h0 F0 J0 h L) {ib:Nat} (hi:L[ib]? =some (dA bb gb wb ms kept)) (hl:ms.length=kept.length):(∀ n:Nat,aD false n h (.ptr bb 0 0)=some (.ptr gb 0 0))∧∀ n:Nat,aD false n h (.ptr bb 0 1)=some (.ptr wb 0 0):=by
 obtain⟨F,J,x⟩:=s.get ib hi
 obtain⟨row,c1,_,c2,c3,_⟩:=wy x hl
 refine⟨fun n=> ?_,fun n=> ?_⟩
 ·rw[bC,c1,Option.bind_some,List.getElem?_cons_zero,Option.bind_some,fD,c2]
 ·rw[bC,c1,Option.bind_some,List.getElem?_cons_zero,Option.bind_some,fD,c3]
theorem KP (hW:G.Wf) (i:Int) {k:Nat} {r:Int} (hk:k<64) (hr:r=(BitVec.twoPow 64 k).toInt):aj Tryz.prog po 144 [.int .i64 (G.rights i),.int .i64 r] h=some (.inl (.bool (d9 (G.rights i) k)),h):=by
 obtain⟨x,hx⟩:=qV hW i
 have e:BN (G.rights i) r=d9 (G.rights i) k:=by rw[hx];exact DW hk hr
 rw[←e]
 refine ah Dw rfl ?_;unfold xQ
 simp only[sim,ag,reduceAdd,reduceSub,replicate,reduceCtorEq,reduceLeDiff,reduceLT,aa]
 rfl
abbrev PF:FuncId:=147
abbrev zR6:List AV:=[.int .i64 0,.int .i64 0,.int .i64 0,.int .i64 0,.int .i64 0,.int .i64 0]
theorem sJ (s:St h0 F0 J0 h L) {im ib ig:Nat} (hm:L[im]? =some (eu mb bb fb left below top)) (hb:L[ib]? =some (dA bb gb wb ms kept)) (hg:L[ig]? =some (bp gb G)) (hl:ms.length=kept.length) (hW:G.Wf) {v:VD} {r:List AV} (hv:VaA v r) {k:Nat} {q:Int} (hk:k<64) (hq:q=(BitVec.twoPow 64 k).toInt):
  aj Tryz.prog po PF [.ptr mb 0 0,.agg r,.int .i64 q] h=some (if d9 (G.rights v.n) k=true then .inl (.tup [.int .i64 v.n,.agg (aL (G.target v.n).1)])else .inr (.iface tGo (.int .i64 9)),h):=by
 obtain⟨w,rfl,ho⟩:=hv.cells3
 have s1:=(s.push [[.int .i64 v.kind,.int .i64 v.n,w]]).push [zR6]
 obtain⟨a,sv,nv,g,mv⟩:=dv s1 (im+2) hm
 have l0:∀ n:Nat,aD false n _ (.ptr mb 0 0)=some (.ptr bb 0 0):=fun n=>by
  rw[bC,mv.m,Option.bind_some,List.getElem?_cons_zero,Option.bind_some,fD];rfl
 have l1:=(jX s1 (ib:=ib+2) hb hl).1
 obtain⟨F,J,gx⟩:=s1.get (ig+2) hg
 have rr:=zu (gx:IsG _ F J gb G) hW v.n
 have tt:=GI (gx:IsG _ F J gb G) hW v.n
 have hh:=KP (h:=(h.push [[.int .i64 v.kind,.int .i64 v.n,w]]).push [zR6]) hW v.n hk hq
 have f0:aI 0 (.ptr mb 0 0)=some (.ptr mb 0 0):=rfl
 have f1:aI 0 (.ptr bb 0 0)=some (.ptr bb 0 0):=rfl
 cases hbit:d9 (G.rights v.n) k with
 | false=>
   rw[hbit]at hh
   rw[if_neg (by decide)]
   refine ah CM rfl ?_;unfold xI
   simp only[sim,ag,reduceAdd,reduceSub,replicate,reduceCtorEq,reduceLeDiff,reduceLT,aa,ay,ho,f0,f1,l0,l1,rr,hh,bP]
   exact oF (by repeat (first | exact af.refl _ | refine af.trans ?_ (af.push _ _) | refine af.trans ?_ (af.fresh _ _))) rfl
 | true=>
   rw[hbit]at hh
   rw[if_pos rfl]
   refine ah CM rfl ?_;unfold xI
   simp only[sim,ag,reduceAdd,reduceSub,replicate,reduceCtorEq,reduceLeDiff,reduceLT,aa,ay,ho,f0,f1,l0,l1,rr,hh,bZ,tt,aL,aN,MZ,wr,be,eqF,Pt,ne_eq,not_false_eq_true]
   exact aA (af.set (by repeat (first | exact af.refl _ | refine af.trans ?_ (af.push _ _) | refine af.trans ?_ (af.fresh _ _))) (by omega)) rfl
end
structure Cfg where
 (mb bb gb wb:Nat)
 ms:aM
structure Now where
 fb:Nat
 S:StD
 below:List FrD
 top:FrD
structure At (c:Cfg) (L:List Asn) (i:Nat) (n:Now):Prop where
 m:L[i]? =some (eu c.mb c.bb n.fb (n.S.left:Int) n.below n.top)
 b:L[i+1]? =some (dA c.bb c.gb c.wb c.ms n.S.kept)
 g:L[i+2]? =some (bp c.gb n.S.G)
 w:L[i+3]? =some (bk c.wb n.S.cells n.S.log)
def put (c:Cfg) (L:List Asn) (i:Nat) (n:Now):List Asn:=(((L.set i (eu c.mb c.bb n.fb (n.S.left:Int) n.below n.top)).set (i+1) (dA c.bb c.gb c.wb c.ms n.S.kept)).set (i+2) (bp c.gb n.S.G)).set (i+3) (bk c.wb n.S.cells n.S.log)
theorem ft {c:Cfg} {L:List Asn} {i j:Nat} {n:Now}:(put c L i n)[j]? =if j<L.length then(if j=i+3 then some (bk c.wb n.S.cells n.S.log)else if j=i+2 then some (bp c.gb n.S.G)else if j=i+1 then some (dA c.bb c.gb c.wb c.ms n.S.kept)else if j=i then some (eu c.mb c.bb n.fb (n.S.left:Int) n.below n.top)else L[j]?)else none:=by
 unfold put
 by_cases hj:j<L.length
 ·rw[if_pos hj]
  simp only[List.getElem?_set,List.length_set]
  by_cases h3:j=i+3
  ·subst h3;simp[hj]
  ·by_cases h2:j=i+2
   ·subst h2;simp[hj]
   ·by_cases h1:j=i+1
    ·subst h1;simp[hj]
    ·by_cases h0:j=i
     ·subst h0;simp[hj]
     ·simp[h0,h1,h2,h3,Ne.symm h0,Ne.symm h1,Ne.symm h2,Ne.symm h3]
 ·rw[if_neg hj,List.getElem?_eq_none (by simpa using hj)]
theorem At.len {c:Cfg} {L:List Asn} {i:Nat} {n:Now} (a:At c L i n):i+3<L.length:=(List.getElem?_eq_some_iff.1 a.w).1
theorem At.put {c:Cfg} {L:List Asn} {i:Nat} {n:Now} (a:At c L i n) (n':Now):At c (put c L i n') i n':=by
 have:=a.len
 refine⟨?_,?_,?_,?_⟩<;>rw[ft]
 ·rw[if_pos (by omega),if_neg (by omega),if_neg (by omega),if_neg (by omega),if_pos rfl]
 ·rw[if_pos (by omega),if_neg (by omega),if_neg (by omega),if_pos rfl]
 ·rw[if_pos (by omega),if_neg (by omega),if_pos rfl]
 ·rw[if_pos (by omega),if_pos rfl]
theorem qF {c:Cfg} {L:List Asn} {i:Nat} {n:Now}:(Go.Proofs.YtkdbjfncchmmpaaGreat.put c L i n).length=L.length:=by simp[Go.Proofs.YtkdbjfncchmmpaaGreat.put]
theorem kG {L L':List Asn} (h:∀ j:Nat,L[j]? =L'[j]?):L=L':=List.ext_getElem? h
theorem aQ {c:Cfg} {L:List Asn} {i:Nat} {n n':Now}:put c (put c L i n) i n'=put c L i n':=by
 refine kG fun j=> ?_
 rw[ft,ft,qF,ft]
 by_cases hj:j<L.length
 ·simp only[if_pos hj]
  repeat' (first | rfl | split)
  all_goals first | rfl | omega
 ·simp only[if_neg hj]
theorem At.same {c:Cfg} {L:List Asn} {i:Nat} {n:Now} (a:At c L i n):Go.Proofs.YtkdbjfncchmmpaaGreat.put c L i n=L:=by
 have:=a.len
 refine kG fun j=> ?_
 rw[ft]
 split
 ·split
  ·rename_i e;rw[e,a.w]
  ·split
   ·rename_i e;rw[e,a.g]
   ·split
    ·rename_i e;rw[e,a.b]
    ·split
     ·rename_i e;rw[e,a.m]
     ·rfl
 ·rename_i hj
  exact(List.getElem?_eq_none (Nat.le_of_not_lt hj)).symm
theorem At.setM {c:Cfg} {L:List Asn} {i:Nat} {n:Now} (a:At c L i n) (fb':Nat) (l:Nat) (below':List FrD) (top':FrD):L.set i (eu c.mb c.bb fb' (l:Int) below' top')=Go.Proofs.YtkdbjfncchmmpaaGreat.put c L i ⟨fb',{n.S with left:=l},below',top'⟩:=by
 have:=a.len
 refine kG fun j=> ?_
 rw[ft,List.getElem?_set]
 by_cases hj:j<L.length
 ·rw[if_pos hj]
  by_cases h0:i=j
  ·subst h0
   simp[hj]
  ·rw[if_neg h0,if_neg (Ne.symm h0:¬ j=i)]
   split
   ·rename_i e;rw[e,a.w]
   ·split
    ·rename_i e;rw[e,a.g]
    ·split
     ·rename_i e;rw[e,a.b]
     ·rfl
 ·rw[if_neg hj,if_neg (by omega)]
  exact List.getElem?_eq_none (Nat.le_of_not_lt hj)
theorem At.setB {c:Cfg} {L:List Asn} {i:Nat} {n:Now} (a:At c L i n) (k:List VD):L.set (i+1) (dA c.bb c.gb c.wb c.ms k)=Go.Proofs.YtkdbjfncchmmpaaGreat.put c L i {n with S:={n.S with kept:=k}}:=by
 have:=a.len
 refine kG fun j=> ?_
 rw[ft,List.getElem?_set]
 by_cases hj:j<L.length
 ·rw[if_pos hj]
  by_cases h0:i+1=j
  ·subst h0
   simp[hj]
  ·rw[if_neg h0,if_neg (Ne.symm h0:¬ j=i+1)]
   split
   ·rename_i e;rw[e,a.w]
   ·split
    ·rename_i e;rw[e,a.g]
    ·split
     ·rename_i e;rw[e,a.m]
     ·rfl
 ·rw[if_neg hj,if_neg (by omega)]
  exact List.getElem?_eq_none (Nat.le_of_not_lt hj)
theorem At.setG {c:Cfg} {L:List Asn} {i:Nat} {n:Now} (a:At c L i n) (G:ae):L.set (i+2) (bp c.gb G)=Go.Proofs.YtkdbjfncchmmpaaGreat.put c L i {n with S:={n.S with G:=G}}:=by
 have:=a.len
 refine kG fun j=> ?_
 rw[ft,List.getElem?_set]
 by_cases hj:j<L.length
 ·rw[if_pos hj]
  by_cases h0:i+2=j
  ·subst h0
   simp[hj]
  ·rw[if_neg h0,if_neg (Ne.symm h0:¬ j=i+2)]
   split
   ·rename_i e;rw[e,a.w]
   ·split
    ·rename_i e;rw[e,a.b]
    ·split
     ·rename_i e;rw[e,a.m]
     ·rfl
 ·rw[if_neg hj,if_neg (by omega)]
  exact List.getElem?_eq_none (Nat.le_of_not_lt hj)
theorem At.setW {c:Cfg} {L:List Asn} {i:Nat} {n:Now} (a:At c L i n) (cells:List Int) (log:List cE):L.set (i+3) (bk c.wb cells log)=Go.Proofs.YtkdbjfncchmmpaaGreat.put c L i {n with S:={n.S with cells:=cells,log:=log}}:=by
 have:=a.len
 refine kG fun j=> ?_
 rw[ft,List.getElem?_set]
 by_cases hj:j<L.length
 ·rw[if_pos hj]
  by_cases h0:i+3=j
  ·subst h0
   simp[hj]
  ·rw[if_neg h0,if_neg (Ne.symm h0:¬ j=i+3)]
   split
   ·rename_i e;rw[e,a.g]
   ·split
    ·rename_i e;rw[e,a.b]
    ·split
     ·rename_i e;rw[e,a.m]
     ·rfl
 ·rw[if_neg hj,if_neg (by omega)]
  exact List.getElem?_eq_none (Nat.le_of_not_lt hj)
theorem At.cons {c:Cfg} {L:List Asn} {i:Nat} {n:Now} (a:At c L i n) (X:Asn):At c (X::L) (i+1) n:=⟨a.m,a.b,a.g,a.w⟩
theorem ap {c:Cfg} {L:List Asn} {i:Nat} {n:Now} {X:Asn}:Go.Proofs.YtkdbjfncchmmpaaGreat.put c (X::L) (i+1) n=X::Go.Proofs.YtkdbjfncchmmpaaGreat.put c L i n:=rfl
def xL:List RS:=[(.ops [(.i (.v 3) (.box 3 (.v 1))),(.i (.v 4) (.alloc [(.int .i64 0),(.int .i64 0),.nils])),(.i (.v 5) (.alloc [(.int .i64 0)]))])]
def mo:List RS:=[(.ops [(.i .l (.mv (.v 0))),(.i .l (.load true 3 (.v 3))),(.i .l (.call (.c (.fn 126 [] [])) [(.l 1),(.l 0)])),(.i (.v 6) (.mv (.l 0)))]),(.ops [(.i .l (.mv (.v 6))),(.i (.v 8) (.bin (.int .i64) .neq (.l 0) (.c (.int .i64 0))))]),(.cond (.v 8) [(.ops [(.i .l (.build [(.int .i64 0),(.int .i64 0),.nils] [(0,1),(1,1),(2,1)] [])),(.i .l (.mv (.v 6))),(.i .n (.store 3 (.v 4) (.l 1))),(.i .n (.store 1 (.v 5) (.l 0)))]),.ret] [])]
def xG:List RS:=[(.ops [(.i .l (.mv (.v 0))),(.i .l (.mv (.v 2))),(.i .l (.build [.nilp,.nils] [(0,1),(1,1)] [(0,(.l 1)),(1,(.l 0))])),(.i .l (.box 2 (.l 0))),(.i (.v 7) (.mv (.l 0)))]),(.ops [(.i .l (.mv (.v 7))),(.i .l (.load true 3 (.v 3))),(.i .l (.call (.c (.fn 128 [] [])) [(.l 1),(.l 0)])),(.i .n (.store 3 (.v 4) (.l 0))),(.i .n (.store 1 (.v 5) (.c (.int .i64 0))))]),.ret]
def xr:List RS:=[(.ops [(.i .l (.mv (.v 0))),(.i .l (.mv (.v 2))),(.i .l (.build [.nilp,.nils] [(0,1),(1,1)] [(0,(.l 1)),(1,(.l 0))])),(.i .l (.box 2 (.l 0))),(.i (.v 7) (.mv (.l 0)))])]
def qv:List RS:=[(.ops [(.i .l (.mv (.v 2))),(.i (.v 5) (.binG .iface none true .neq (.l 0) (.c .nili)))]),(.cond (.v 5) [(.ops [(.i .l (.mv (.v 2))),(.i .l (.tas 210 true (.l 0))),(.i .l (.mv (.l 0))),(.i .l (.ext (.l 0) 0)),(.i .l (.ext (.l 1) 1)),(.i (.v 3) (.mv (.l 1))),(.i (.v 4) (.mv (.l 0)))]),(.ops [(.i .l (.mv (.v 4))),(.i (.v 6) (.un .not (.l 0)))]),(.cond (.v 6) [(.ops [(.i .l (.mv (.v 2))),(.i .n (.pan (.l 0)))])] []),(.ops [(.i .l (.build [(.int .i64 0),(.int .i64 0),.nils] [(0,1),(1,1),(2,1)] [])),(.i .l (.mv (.v 3))),(.i .n (.store 3 (.v 0) (.l 1))),(.i .n (.store 1 (.v 1) (.l 0)))])] [])]
open Go Go.RowKit
abbrev fAc:FuncId:=113
abbrev fCl:FuncId:=127
noncomputable def cAc:Code:=Tryz.f113.body.getD .skip
noncomputable def cCl:Code:=Tryz.f127.body.getD .skip
theorem MC:(Tryz.prog).funcs[fCl]? =some Tryz.f127:=Tryz.func127
theorem Jt:Tryz.f127.body=some cCl:=rfl
theorem Nx:cCl= .seq (cL cCl) (cR cCl):=rfl
theorem PC:Tryz.f127.ntmps=18:=rfl
noncomputable def clA:Oper:={dst:=some 5,op:= .call {callee:= .builtin .recover,args:= #[],argTypes:= #[]},type:=((eO (cL cCl)).getD 0 default).type,pos:=((eO (cL cCl)).getD 0 default).pos,after:= #[],guard:=none}
noncomputable def clB:Oper:={dst:=some 2,op:= .assign (.tmp 5),type:=((eO (cL cCl)).getD 1 default).type,pos:=((eO (cL cCl)).getD 1 default).pos,after:=((eO (cL cCl)).getD 1 default).after,guard:=none}
theorem Hx:cL cCl= .region 0 #[clA,clB] false:=rfl
theorem OV:bj Tryz.prog (po.mu fCl) (po.plan fCl) 18 [0,1,2,3,4,7,14] (cR cCl) []=some qv:=by kernel_rfl
theorem NA:cQ (po.plan fCl) (po.kp fCl) (cR cCl)=true:=by kernel_rfl
theorem OO:sw 2 18 (po.nv fCl) 7 [0,1,2,3,4,7,14]=true:=by kernel_rfl
theorem Ck {h h':AH} {e:AV} {c6 c7:Nat} {V':List AV} (hr:aq (aj Tryz.prog po) 7 [.ss qv,.halt []] [.ptr c6 0 0,.ptr c7 0 0,e,.junk,.junk,.junk,.junk] [] h=some (.halt [],V',h'))
  {m:Mm} {w:World} {p6 p7 v:Value} (hw:WR Tryz.prog m h w) (v6:VR Tryz.prog m h (.ptr c6 0 0) p6) (v7:VR Tryz.prog m h (.ptr c7 0 0) p7) (ve:VR Tryz.prog m h e v) {u:FrameMode} (u':FrameMode)
  (hrec:∀ c:Frame,c.mode=u→∀ cs,(recoverD (c::cs)=some (v,{c with mode:=u'}::cs))∨(recoverD (c::cs)=none∧v= .nilIface∧u'=u)):
  CallsD Tryz.prog fCl #[p6,p7] u w fun e u'' w'=>(∃ v,e= .returned v)∧u''=u'∧∃ m',Ext m h m' h'∧WR Tryz.prog m' h' w'∧Below m.base w w':=by
 intro c cs hu
 have hvs:VRs Tryz.prog m h [.ptr c6 0 0,.ptr c7 0 0] [p6,p7]:=⟨rfl,fun j hj hj'=>by
  match j,hj with
  | 0,_=>exact v6
  | 1,_=>exact v7⟩
 have he:=oP MC Jt [p6,p7] .deferred
 have ht:=nO (P:=Tryz.prog) (h:=h) (k:=18) hvs
 generalize hb:Frame.enter Tryz.prog fCl #[p6,p7] .deferred=b at he
 have hbk:b.kind= .deferred:=by rw[←hb];simp[Frame.enter]
 have hbf:b.fn=fCl:=by rw[←hb];simp[Frame.enter]
 have hbr:b.roundOf=none:=by rw[←hb];simp[Frame.enter]
 rw[PC]at he
 generalize ha:([p6,p7]++replicate (18 - [p6,p7].length) undef).toArray=ts at he ht
 have h1:Steps Tryz.prog (lone b (c::cs) w) (lone (b.at {tmps:=ts,defers:=[]} [.code (cL cCl),.code (cR cCl)]) (c::cs) w):=by
  rw[←he]
  conv=>lhs;rw[Nx]
  exact .one step_seq
 have hsz:ts.size=18:=by rw[ht.1];rfl
 have hreg:(cL cCl).wpS Tryz.prog (fun e a' cs' w'=>e= .normal∧cs'={c with mode:=u'}::cs∧w'=w∧a'=(({tmps:=ts,defers:=[]}:Act).put (some 5) v).put (some 2) v) {tmps:=ts,defers:=[]} (c::cs) w:=by
  rw[Hx]
  apply wpS_region
  rcases hrec c hu cs with h1 | ⟨h1,h2,h3⟩
  ·simp[wpOpsS,go_sem,clA,clB,h1,Act.put,Act.eval,hsz]
  ·have h4:({c with mode:=u'}:Frame)=c:=by rw[h3,←hu]
   simp[wpOpsS,go_sem,clA,clB,h1,Act.put,Act.eval,hsz,h2,h4]
 obtain⟨e1,a1,cs1,w1,⟨rfl,rfl,rfl,rfl⟩,harr⟩:=hreg b [.code (cR cCl)] hbk hbr
 have ht1:=(ht.put (a:={tmps:=ts,defers:=[]}) ve (some 5)).put ve (some 2)
 have rv:RV 18 [0,1,2,3,4,7,14] [] (bI (bI ([AV.ptr c6 0 0,.ptr c7 0 0]++replicate (18 - [AV.ptr c6 0 0,.ptr c7 0 0].length) .junk) (some 5) e) (some 2) e) [.ptr c6 0 0,.ptr c7 0 0,e,.junk,.junk,.junk,.junk] []:=by
  refine⟨by simp[bI],rfl,rfl,fun j s hj=> ?_,fun j s hj=>by simp at hj⟩
  match j,hj with
  | 0,hj | 1,hj | 2,hj | 3,hj | 4,hj | 5,hj | 6,hj=>obtain rfl:=Option.some.inj hj;exact⟨by decide,rfl⟩
  | j+7,hj=>simp at hj
 obtain⟨t',hp,hrv⟩:=qk pok (bO OO) OV NA hr rv
 obtain⟨m',w',x1,x2,x3,a',x4,x5,x6⟩:=hp m w1 _ {b with defers:=[]} ({c with mode:=u'}::cs) hw ht1 rfl
 have hfin:Steps Tryz.prog (lone b (c::cs) w1) (lone {b.at a' []with mode:= .returning} ({c with mode:=u'}::cs) w'):=h1.trans (harr.trans (x6.trans (.one step_end)))
 refine⟨.returned (.tuple #[]),u',w',_,⟨⟨_,rfl⟩,rfl,m',x1,x2,x3⟩,hfin,hbk,rfl,x5,Tryz.f127,?_,?_⟩
 ·show(Tryz.prog).funcs[b.fn]? =_
  rw[hbf]
  exact MC
 ·simp[results,Tryz.results127]
theorem Cf (c:Frame) (h:c.mode= .returning) (cs:List Frame):recoverD (c::cs)=none:=by simp[recoverD,h]
theorem Af {v:Value} (c:Frame) (h:c.mode= .panicking [{v:=v,recovered:=false}]) (cs:List Frame):recoverD (c::cs)=some (v,{c with mode:= .panicking [{v:=v,recovered:=true}]}::cs):=by simp[recoverD,h]
theorem On:mq .iface none true .neq .nili .nili=some (.bool false):=rfl
theorem Nv {q:TypeId} {v:AV}:mq .iface none true .neq (.iface q v) .nili=some (.bool true):=rfl
theorem JZ {q:TypeId} {v:AV}:Fd q true (.iface q v)=some (.tup [v,.bool true]):=by simp[Fd]
theorem BZ {h:AH} {c6 c7:Nat} {m:Mm} {w:World} {p6 p7:Value} (hw:WR Tryz.prog m h w) (v6:VR Tryz.prog m h (.ptr c6 0 0) p6) (v7:VR Tryz.prog m h (.ptr c7 0 0) p7):
  CallsD Tryz.prog fCl #[p6,p7] .returning w fun e u'' w'=>(∃ v,e= .returned v)∧u''= .returning∧∃ m',Ext m h m' h∧WR Tryz.prog m' h w'∧Below m.base w w':=by
 refine Ck (V':=[.ptr c6 0 0,.ptr c7 0 0,.nili,.junk,.junk,.bool false,.junk]) (e:= .nili) ?_ hw v6 v7 .nili .returning fun c hc cs=> .inr ⟨Cf c hc cs,rfl,rfl⟩
 unfold qv
 simp only[sim,ag,reduceAdd,reduceSub,replicate,reduceCtorEq,reduceLeDiff,reduceLT,aa,On]
theorem Ew {h:AH} {c6 c7:Nat} {m:Mm} {w:World} {p6 p7 u:Value} {code x y:Int} {l z:AV} (hw:WR Tryz.prog m h w) (v6:VR Tryz.prog m h (.ptr c6 0 0) p6) (v7:VR Tryz.prog m h (.ptr c7 0 0) p7) (vu:VR Tryz.prog m h (.iface ns (.int .i64 code)) u)
  (h6:h.cell c6=some [[.int .i64 x,.int .i64 y,l]]) (h7:h.cell c7=some [[z]]) (hne:c7≠c6) (hl:l.one=true):
  CallsD Tryz.prog fCl #[p6,p7] (.panicking [{v:=u,recovered:=false}]) w fun e u'' w'=>(∃ v,e= .returned v)∧u''= .panicking [{v:=u,recovered:=true}]∧
   ∃ m',Ext m h m' ((h.set c6 (some [[.int .i64 0,.int .i64 0,.nils]])).set c7 (some [[.int .i64 code]]))∧WR Tryz.prog m' ((h.set c6 (some [[.int .i64 0,.int .i64 0,.nils]])).set c7 (some [[.int .i64 code]])) w'∧Below m.base w w':=by
 refine Ck (V':=[.ptr c6 0 0,.ptr c7 0 0,.iface ns (.int .i64 code),.int .i64 code,.bool true,.bool true,.bool false]) (e:= .iface ns (.int .i64 code)) ?_ hw v6 v7 vu (.panicking [{v:=u,recovered:=true}]) fun c hc cs=> .inl (Af c hc cs)
 have h7':(h.set c6 (some [[.int .i64 0,.int .i64 0,.nils]])).cell c7=some [[z]]:=(be hne).trans h7
 unfold qv
 simp only[sim,ag,reduceAdd,reduceSub,replicate,reduceCtorEq,reduceLeDiff,reduceLT,aa,Nv,JZ,h6,h7']
open Go Go.RowKit
theorem Pe:(Tryz.prog).funcs[fAc]? =some Tryz.f113:=Tryz.func113
theorem Jr:Tryz.f113.body=some cAc:=rfl
theorem Po:Tryz.f113.ntmps=25:=rfl
noncomputable abbrev cY:Code:=cL (cR cAc)
noncomputable abbrev cZ:Code:=cR (cR cAc)
noncomputable abbrev cW:Code:=cR cZ
theorem NF:cAc= .seq (cL cAc) (cR cAc):=rfl
theorem La:cR cAc= .seq cY cZ:=rfl
theorem JF:cZ= .seq (cL cZ) cW:=rfl
theorem K4:cW= .seq (cL cW) (cR cW):=rfl
theorem Lg:cR cW= .seq (cL (cR cW)) .ret:=rfl
abbrev vA:List Nat:=[0,1,2,4,6,7,8,9,14]
theorem C5:sw 3 25 (po.nv fAc) 9 vA=true:=by kernel_rfl
theorem Nc:bj Tryz.prog (po.mu fAc) (po.plan fAc) 25 vA (cL cAc) []=some xL:=by kernel_rfl
theorem NN:bj Tryz.prog (po.mu fAc) (po.plan fAc) 25 vA cY []=some mo:=by kernel_rfl
theorem Nd:bj Tryz.prog (po.mu fAc) (po.plan fAc) 25 vA cW []=some xG:=by kernel_rfl
theorem NJ:bj Tryz.prog (po.mu fAc) (po.plan fAc) 25 vA (cL cW) []=some xr:=by kernel_rfl
theorem K6:cQ (po.plan fAc) (po.kp fAc) (cL cAc)=true:=by kernel_rfl
theorem JA:cQ (po.plan fAc) (po.kp fAc) cY=true:=by kernel_rfl
theorem Jn:cQ (po.plan fAc) (po.kp fAc) cW=true:=by kernel_rfl
theorem K2:cQ (po.plan fAc) (po.kp fAc) (cL cW)=true:=by kernel_rfl
theorem M5:ju Tryz.prog vA Tryz.f113.results.toList=some [.cell true 3 4,.cell false 1 5]:=by kernel_rfl
noncomputable def acA:Oper:={dst:=some 17,op:= .makeFunc (.func fCl) #[] #[.tmp 6,.tmp 7],type:=((eO (cL cZ)).getD 0 default).type,pos:=((eO (cL cZ)).getD 0 default).pos,after:= #[],guard:=none}
noncomputable def acB:Oper:={dst:=none,op:= .defer {callee:= .value (.tmp 17),args:= #[],argTypes:= #[]},type:=((eO (cL cZ)).getD 1 default).type,pos:=((eO (cL cZ)).getD 1 default).pos,after:=((eO (cL cZ)).getD 1 default).after,guard:=none}
theorem KS:cL cZ= .region 4 #[acA,acB] false:=rfl
section
variable {h:AH} {m:Mm} {w:World}
abbrev zR:List AV:=[.int .i64 0,.int .i64 0,.nils]
def acH (h:AH) (r:List AV):AH:=((h.push [r]).push [zR]).push [[.int .i64 0]]
theorem Kf {b:Nat} {r:List AV} {gv:AV} {K:List Item} (o1:r.all AV.one=true) (o2:r.length=3):aq (aj Tryz.prog po) 9 [.ss xL,.halt K] [.ptr b 0 0,.agg r,gv,.junk,.junk,.junk,.junk,.junk,.junk] [] h=
  some (.halt K,[.ptr b 0 0,.agg r,gv,.ptr h.n 0 0,.ptr (h.n+1) 0 0,.ptr (h.n+1+1) 0 0,.junk,.junk,.junk],acH h r):=by
 unfold xL
 simp only[sim,ag,reduceAdd,reduceSub,replicate,reduceCtorEq,reduceLeDiff,reduceLT,aa,o1,o2,acH]
theorem LB (x y z:AV):RV 25 vA [] ([x,y,z]++replicate (25 - [x,y,z].length) .junk) [x,y,z,.junk,.junk,.junk,.junk,.junk,.junk] []:=by
 refine⟨by simp,rfl,rfl,fun j s hj=> ?_,fun j s hj=>by simp at hj⟩
 match j,hj with
 | 0,hj | 1,hj | 2,hj | 3,hj | 4,hj | 5,hj | 6,hj | 7,hj | 8,hj=>obtain rfl:=Option.some.inj hj;exact⟨by decide,rfl⟩
 | j+9,hj=>simp at hj
theorem AQ {b:Nat} {r:List AV} {gv:AV} {x:AEx} {V2:List AV} {h2:AH} (o1:r.all AV.one=true) (o2:r.length=3)
  (hr:aq (aj Tryz.prog po) 9 [.ss mo,.halt [.code cZ]] [.ptr b 0 0,.agg r,gv,.ptr h.n 0 0,.ptr (h.n+1) 0 0,.ptr (h.n+1+1) 0 0,.junk,.junk,.junk] [] (acH h r)=some (x,V2,h2)) (hx:∀ v,x≠.panic v)
  {vs:List Value} (hw:WR Tryz.prog m h w) (hvs:VRs Tryz.prog m h [.ptr b 0 0,.agg r,gv] vs) (cs:List Frame):
  ∃ (bf:Frame) (t2:List AV),bf.fn=fAc∧bf.kind= .normal∧bf.defers=[]∧RV 25 vA [] t2 V2 []∧bU Tryz.prog (po.kp fAc) m h w bf cs (lone (Frame.enter Tryz.prog fAc vs.toArray .normal) cs w) (x,t2,h2):=by
 have he:=oP Pe Jr vs .normal
 have ht:=nO (P:=Tryz.prog) (h:=h) (k:=25) hvs
 rw[Po]at he
 obtain⟨t1,hp1,rv1⟩:=qk pok (bO C5) Nc K6 (Kf (K:=[.code (cR cAc)]) (h:=h) (gv:=gv) (b:=b) o1 o2) (LB _ _ _)
 obtain⟨t2,hp2,rv2⟩:=qk pok (bO C5) NN JA hr rv1
 refine⟨Frame.enter Tryz.prog fAc vs.toArray .normal,t2,by simp[Frame.enter],by simp[Frame.enter],by simp[Frame.enter],rv2,?_⟩
 generalize Frame.enter Tryz.prog fAc vs.toArray .normal=bf at he ⊢
 obtain⟨m1,w1,x1,x2,x3,a1,x4,x5,x6⟩:=hp1 m w {tmps:=_,defers:=[]} {bf with defers:=[]} cs hw ht rfl
 have x5:a1.defers=[]:=x5
 have s0:Steps Tryz.prog (lone bf cs w) (lone (bf.at a1 [.code cY,.code cZ]) cs w1):=by
  conv=>lhs;rw[←he,NF]
  refine .head step_seq (x6.trans ?_)
  conv=>lhs;rw[La]
  exact .one step_seq
 obtain⟨m2,w2,y1,y2,y3,y4⟩:=hp2 m1 w1 a1 {bf with defers:=[]} cs x2 x4 x5
 have y5:bU Tryz.prog (po.kp fAc) m1 (acH h r) w1 {bf with defers:=[]} cs (lone (bf.at a1 [.code cY,.code cZ]) cs w1) (x,t2,h2):=⟨m2,w2,y1,y2,y3,y4⟩
 have y6:=bU.steps s0 (bU.after x1 x3 y5)
 have hd:bf.defers=[]:=by rw[←he];rfl
 have hbf:({bf with defers:=[]}:Frame)=bf:=by rw[←hd]
 rwa [hbf]at y6
theorem xF {t V:List AV} {h:AH} {v:AV} (rv:RV 25 vA [] t V []) (hv:(eS V h [.cell true 3 4,.cell false 1 5]).map fC=some v):nj Tryz.f113 t h Tryz.prog=some v:=by
 unfold nj
 rw[gt (h:=h) rv M5]
 exact hv
theorem Ny {h:AH} {b:Nat} {es:Option (List (List AV))} (hc:h.cell b=es):h.set b es=h:=by
 cases h with
 | mk=>
   simp only[AH.set,AH.mk.injEq,and_true,true_and]
   funext k
   by_cases hk:k=b
   ·subst hk
    simpa using hc.symm
   ·simp[hk]
theorem AX {b:Nat} {r:List AV} {gv:AV} {c:Int} (o1:r.all AV.one=true) (o2:r.length=3) (hc:c≠0)
  (eM:aj Tryz.prog po 126 [.ptr b 0 0,.agg r] (acH h r)=some (.inl (.int .i64 c),acH h r)):
  AC Tryz.prog fAc [.ptr b 0 0,.agg r,gv] h (.inl (.tup [.agg zR,.int .i64 c]),(acH h r).set (h.n+1+1) (some [[.int .i64 c]])):=by
 intro m w vs hw hvs cs
 have c4:(acH h r).cell h.n=some [r]:=hU
 have c6:(acH h r).cell (h.n+1)=some [zR]:=kD
 have c7:(acH h r).cell (h.n+1+1)=some [[.int .i64 0]]:=fB
 have hs6:(acH h r).set (h.n+1) (some [zR])=acH h r:=Ny c6
 have hr:aq (aj Tryz.prog po) 9 [.ss mo,.halt [.code cZ]] [.ptr b 0 0,.agg r,gv,.ptr h.n 0 0,.ptr (h.n+1) 0 0,.ptr (h.n+1+1) 0 0,.junk,.junk,.junk] [] (acH h r)=
   some (.ret,[.ptr b 0 0,.agg r,gv,.ptr h.n 0 0,.ptr (h.n+1) 0 0,.ptr (h.n+1+1) 0 0,.int .i64 c,.junk,.bool true],(acH h r).set (h.n+1+1) (some [[.int .i64 c]])):=by
  unfold mo
  simp only[sim,ag,reduceAdd,reduceSub,replicate,reduceCtorEq,reduceLeDiff,reduceLT,aa,c4,bq o2,eM,hc,c6,hs6,c7]
 obtain⟨bf,t2,b1,b2,b3,rv,m',w',x1,x2,x3,a',todo,x4,x5,x6⟩:=AQ o1 o2 hr (fun v=>by simp) hw hvs cs
 rw[b3]at x5
 have hres:=xF (h:=(acH h r).set (h.n+1+1) (some [[.int .i64 c]])) (v:= .tup [.agg zR,.int .i64 c]) rv (by
  have q6:((acH h r).set (h.n+1+1) (some [[.int .i64 c]])).cell (h.n+1)=some [zR]:=(be (by omega)).trans c6
  simp only[sim,ag,reduceAdd,reduceSub,replicate,reduceCtorEq,reduceLeDiff,reduceLT,aa,q6])
 obtain⟨u,h7,h8⟩:=gC x2 x4 hres
 exact⟨.returned u,w',_,⟨m',x1,x2,x3,u,rfl,h8⟩,x6,b1,rfl,x5,b2,_,by simp[Frame.at,b1],h7⟩
theorem xz {n:Nat} {vm:List Nat} {t V:List AV} {i:Nat} {v:AV} (rv:RV n vm [] t V []) (hi:i ∉ vm):RV n vm [] (bI t (some i) v) V []:=by
 refine⟨by simpa[bI]using rv.len,rv.lv,rv.ll,fun j s hj=> ?_,fun j s hj=>by simp at hj⟩
 obtain⟨h1,h2⟩:=rv.v j s hj
 refine⟨h1,?_⟩
 rw[←h2]
 have hne:i≠s:=fun e=>hi (by rw[e];exact List.mem_of_getElem? hj)
 simp[bI,List.getD,List.getElem?_set,hne]
theorem CF {n:Nat} {vm:List Nat} {t V:List AV} (rv:RV n vm [] t V []) {j s:Nat} (hj:vm[j]? =some s):s<t.length∧t.getD s .junk=V.getD j .junk:=by
 obtain⟨h1,h2⟩:=rv.v j s hj
 exact⟨by rw[rv.len];exact h1,h2⟩
theorem Hs {bf:Frame} {a2:Act} {cs:List Frame} {p6 p7:Value} (hsz:a2.tmps.size=25) (h6:a2.tmps.getD 6 undef=p6) (h7:a2.tmps.getD 7 undef=p7):
  Steps Tryz.prog (lone (bf.at a2 [.code cZ]) cs w) (lone (bf.at {a2.put (some 17) (.func (.func fCl) #[] #[p6,p7])with defers:={target:= .fn (.func fCl) #[p6,p7],args:= #[]}::a2.defers} [.code cW]) cs w):=by
 have hw:(cL cZ).wp Tryz.prog (fun e a' w'=>e= .normal∧w'=w∧a'={a2.put (some 17) (.func (.func fCl) #[] #[p6,p7])with defers:={target:= .fn (.func fCl) #[p6,p7],args:= #[]}::a2.defers}) a2 w:=by
  have hmf:∀ (fn:Fn) (first cap:Array Value) (w:World),(Instr.makeFunc fn first cap).run Tryz.prog w= .ok (.func fn first cap) w:=fun _ _ _ _=>rfl
  subst h6 h7
  rw[KS]
  apply wp_region
  simp[wpOps,go_sem,acA,acB,hmf,Act.put,Act.eval,hsz]
 obtain⟨e,a',w',⟨rfl,rfl,rfl⟩,harr⟩:=hw bf [.code cW] cs
 conv=>lhs;rw[JF]
 exact .head step_seq harr
theorem C0 {b:Nat} {r:List AV} {gv:AV} (o2:r.length=3) (eM:aj Tryz.prog po 126 [.ptr b 0 0,.agg r] (acH h r)=some (.inl (.int .i64 0),acH h r)):
  aq (aj Tryz.prog po) 9 [.ss mo,.halt [.code cZ]] [.ptr b 0 0,.agg r,gv,.ptr h.n 0 0,.ptr (h.n+1) 0 0,.ptr (h.n+1+1) 0 0,.junk,.junk,.junk] [] (acH h r)=
   some (.halt [.code cZ],[.ptr b 0 0,.agg r,gv,.ptr h.n 0 0,.ptr (h.n+1) 0 0,.ptr (h.n+1+1) 0 0,.int .i64 0,.junk,.bool false],acH h r):=by
 have c4:(acH h r).cell h.n=some [r]:=hU
 unfold mo
 simp only[sim,ag,reduceAdd,reduceSub,replicate,reduceCtorEq,reduceLeDiff,reduceLT,aa,c4,bq o2,eM]
theorem xu {h2:AH} {m2:Mm} {t2 V2:List AV} {a2:Act} (rv:RV 25 vA [] t2 V2 []) (ht:TR Tryz.prog m2 h2 t2 a2.tmps) {j s:Nat} (hj:vA[j]? =some s):VR Tryz.prog m2 h2 (V2.getD j .junk) (a2.tmps.getD s undef):=by
 obtain⟨h1,e1⟩:=CF rv hj
 rw[←e1]
 exact LO ht h1
theorem Om {b:Nat} {r r':List AV} {gv:AV} {h4:AH} (o1:r.all AV.one=true) (o2:r.length=3) (o3:r'.all AV.one=true) (o4:r'.length=3) (og:gv= .nils∨∃ id e rows,gv= .isl id e rows)
  (eM:aj Tryz.prog po 126 [.ptr b 0 0,.agg r] (acH h r)=some (.inl (.int .i64 0),acH h r))
  (eV:aj Tryz.prog po 128 [.ptr (acH h r).n 0 0,.agg r] ((acH h r).push [[.ptr b 0 0,gv]])=some (.inl (.agg r'),h4)) (k6:h4.cell (h.n+1)=some [zR]) (k7:h4.cell (h.n+1+1)=some [[.int .i64 0]]):
  AC Tryz.prog fAc [.ptr b 0 0,.agg r,gv] h (.inl (.tup [.agg r',.int .i64 0]),(h4.set (h.n+1) (some [r'])).set (h.n+1+1) (some [[.int .i64 0]])):=by
 intro m w vs hw hvs cs
 have c4:((acH h r).push [[.ptr b 0 0,gv]]).cell h.n=some [r]:=(aN (by simp only[acH,aJ];omega)).trans hU
 have k7':(h4.set (h.n+1) (some [r'])).cell (h.n+1+1)=some [[.int .i64 0]]:=(be (by omega)).trans k7
 have hr2:aq (aj Tryz.prog po) 9 [.ss xG,.halt []] [.ptr b 0 0,.agg r,gv,.ptr h.n 0 0,.ptr (h.n+1) 0 0,.ptr (h.n+1+1) 0 0,.int .i64 0,.junk,.bool false] [] (acH h r)=
   some (.ret,[.ptr b 0 0,.agg r,gv,.ptr h.n 0 0,.ptr (h.n+1) 0 0,.ptr (h.n+1+1) 0 0,.int .i64 0,.ptr (acH h r).n 0 0,.bool false],(h4.set (h.n+1) (some [r'])).set (h.n+1+1) (some [[.int .i64 0]])):=by
  unfold xG
  rcases og with rfl | ⟨id,e,rows,rfl⟩
  ·simp only[sim,ag,reduceAdd,reduceSub,replicate,reduceCtorEq,reduceLeDiff,reduceLT,aa,c4,bq o2,eV,k6,o3,o4,k7']
  ·simp only[sim,ag,reduceAdd,reduceSub,replicate,reduceCtorEq,reduceLeDiff,reduceLT,aa,c4,bq o2,eV,k6,o3,o4,k7']
 obtain⟨bf,t2,b1,b2,b3,rv,m2,w2,x1,x2,x3,a2,x4,x5,x6⟩:=AQ o1 o2 (C0 (gv:=gv) o2 eM) (fun v=>by simp) hw hvs cs
 rw[b3]at x5
 have v6:=xu rv x4 (j:=4) (s:=6) rfl
 have v7:=xu rv x4 (j:=5) (s:=7) rfl
 have hsz:a2.tmps.size=25:=by rw[x4.1,rv.len]
 have lay:=Hs (w:=w2) (bf:=bf) (a2:=a2) (cs:=cs) hsz rfl rfl
 generalize hp6:a2.tmps.getD 6 undef=p6 at v6 lay
 generalize hp7:a2.tmps.getD 7 undef=p7 at v7 lay
 rw[x5]at lay
 have ht3:=x4.put (VR.junk (.func (.func fCl) #[] #[p6,p7])) (some 17)
 have rv3:=xz (i:=17) (v:= .junk) rv (by decide)
 obtain⟨t5,hp,rv5⟩:=qk pok (bO C5) Nd Jn hr2 rv3
 obtain⟨m3,w3,y1,y2,y3,a5,todo,y4,y5,y6⟩:=hp m2 w2 {a2.put (some 17) (.func (.func fCl) #[] #[p6,p7])with defers:=[{target:= .fn (.func fCl) #[p6,p7],args:= #[]}]} {bf with defers:=[{target:= .fn (.func fCl) #[p6,p7],args:= #[]}]} cs x2 ht3 rfl
 have hlv:Leaves Tryz.prog Tryz.f113 a5.tmps (fun e w'=>∃ m',Ext m h m' ((h4.set (h.n+1) (some [r'])).set (h.n+1+1) (some [[.int .i64 0]]))∧WR Tryz.prog m' ((h4.set (h.n+1) (some [r'])).set (h.n+1+1) (some [[.int .i64 0]])) w'∧Below m.base w w'∧∃ u,e= .returned u∧VR Tryz.prog m' ((h4.set (h.n+1) (some [r'])).set (h.n+1+1) (some [[.int .i64 0]])) (.tup [.agg r',.int .i64 0]) u) [{target:= .fn (.func fCl) #[p6,p7],args:= #[]}] .returning w3:=by
  refine leaves_cons (f:=fCl) (args:= #[p6,p7]) (by simp) (by simp[go_sem]) ?_
  refine(BZ y2 (v6.ext y1) (v7.ext y1)).mono ?_
  rintro e u'' w' ⟨⟨v,rfl⟩,rfl,m4,z1,z2,z3⟩
  have hres:=xF (h:=(h4.set (h.n+1) (some [r'])).set (h.n+1+1) (some [[.int .i64 0]])) (v:= .tup [.agg r',.int .i64 0]) rv5 (by
   have q6:((h4.set (h.n+1) (some [r'])).set (h.n+1+1) (some [[.int .i64 0]])).cell (h.n+1)=some [r']:=(be (by omega)).trans aP
   simp only[sim,ag,reduceAdd,reduceSub,replicate,reduceCtorEq,reduceLeDiff,reduceLT,aa,q6,bq o4])
  obtain⟨u,h7,h8⟩:=gC z2 (y4.ext z1) hres
  refine⟨u,h7,m4,(x1.trans y1).trans z1,z2,?_,u,rfl,h8⟩
  have q1:m2.base=m.base:=x1.base
  have q2:m3.base=m2.base:=y1.base
  rw[q2,q1]at z3
  rw[q1]at y3
  exact(x3.trans y3).trans z3
 obtain⟨e,w4,fr',hR,hs,hfn,hl⟩:=leaves_steps [{target:= .fn (.func fCl) #[p6,p7],args:= #[]}] .returning w3 {(({bf with defers:=[{target:= .fn (.func fCl) #[p6,p7],args:= #[]}]}:Frame).at a5 todo)with mode:= .returning} cs rfl y5 rfl (by simp[Frame.at,b1]) (by simpa[Frame.at]using b2) hlv
 exact⟨e,w4,fr',hR,Comes.of_steps (x6.trans (lay.trans y6)) hs,hfn.trans b1,hl⟩
noncomputable abbrev uc:Array Oper:=eO (cL (cR cW))
noncomputable abbrev o6 (i:Nat):Oper:=uc.getD i default
theorem N4:cL (cR cW)= .region 6 uc false:=rfl
theorem Pz:((Tryz.prog).underlying tV).isNone=false:=by kernel_rfl
theorem PE:fR Tryz.prog tV=true:=by kernel_rfl
theorem PK:szA Tryz.prog tV=3:=by kernel_rfl
theorem Pn (t:List AV) (h:AH):OpF Tryz.prog po fAc t h (o6 0) (t.getD 9 .junk) h:= .inl ⟨rfl,rfl⟩
theorem Pr {t:List AV} {h:AH} {v:AV} (hl:aD true 3 h (t.getD 4 .junk)=some v):OpF Tryz.prog po fAc t h (o6 1) v h:=by
 refine .inl ⟨rfl,?_⟩
 show(if((Tryz.prog).underlying tV).isNone then none else(aD (fR Tryz.prog tV) (szA Tryz.prog tV) h (t.getD 4 .junk)).map fun v=>(v,h))=_
 rw[Pz,PE,PK,hl]
 rfl
theorem Px (t:List AV):aG t (o6 2)=some (128,[t.getD 22 .junk,t.getD 23 .junk]):=rfl
theorem NU:∃ fn,(Tryz.prog).funcs[(128:Nat)]? =some fn∧(fn.body.isNone=false∧(fn.name== "runtime.NumGoroutine")=false):=⟨_,Tryz.func128,by kernel_rfl,by kernel_rfl⟩
theorem Ly {b:Nat} {r:List AV} {gv:AV} {h4:AH} {c:Int} (o1:r.all AV.one=true) (o2:r.length=3) (og:gv= .nils∨∃ id e rows,gv= .isl id e rows)
  (eM:aj Tryz.prog po 126 [.ptr b 0 0,.agg r] (acH h r)=some (.inl (.int .i64 0),acH h r))
  (eV:aj Tryz.prog po 128 [.ptr (acH h r).n 0 0,.agg r] ((acH h r).push [[.ptr b 0 0,gv]])=some (.inr (.iface ns (.int .i64 c)),h4)) (k6:h4.cell (h.n+1)=some [zR]) (k7:h4.cell (h.n+1+1)=some [[.int .i64 0]]):
  AC Tryz.prog fAc [.ptr b 0 0,.agg r,gv] h (.inl (.tup [.agg zR,.int .i64 c]),(h4.set (h.n+1) (some [zR])).set (h.n+1+1) (some [[.int .i64 c]])):=by
 intro m w vs hw hvs cs
 have c4:((acH h r).push [[.ptr b 0 0,gv]]).cell h.n=some [r]:=(aN (by simp only[acH,aJ];omega)).trans hU
 have hr3:aq (aj Tryz.prog po) 9 [.ss xr,.halt [.code (cR cW)]] [.ptr b 0 0,.agg r,gv,.ptr h.n 0 0,.ptr (h.n+1) 0 0,.ptr (h.n+1+1) 0 0,.int .i64 0,.junk,.bool false] [] (acH h r)=
   some (.halt [.code (cR cW)],[.ptr b 0 0,.agg r,gv,.ptr h.n 0 0,.ptr (h.n+1) 0 0,.ptr (h.n+1+1) 0 0,.int .i64 0,.ptr (acH h r).n 0 0,.bool false],(acH h r).push [[.ptr b 0 0,gv]]):=by
  unfold xr
  rcases og with rfl | ⟨id,e,rows,rfl⟩
  ·simp only[sim,ag,reduceAdd,reduceSub,replicate,reduceCtorEq,reduceLeDiff,reduceLT,aa]
  ·simp only[sim,ag,reduceAdd,reduceSub,replicate,reduceCtorEq,reduceLeDiff,reduceLT,aa]
 obtain⟨bf,t2,b1,b2,b3,rv,m2,w2,x1,x2,x3,a2,x4,x5,x6⟩:=AQ o1 o2 (C0 (gv:=gv) o2 eM) (fun v=>by simp) hw hvs cs
 rw[b3]at x5
 have v6:=xu rv x4 (j:=4) (s:=6) rfl
 have v7:=xu rv x4 (j:=5) (s:=7) rfl
 have hsz:a2.tmps.size=25:=by rw[x4.1,rv.len]
 have lay:=Hs (w:=w2) (bf:=bf) (a2:=a2) (cs:=cs) hsz rfl rfl
 generalize hp6:a2.tmps.getD 6 undef=p6 at v6 lay
 generalize hp7:a2.tmps.getD 7 undef=p7 at v7 lay
 rw[x5]at lay
 have ht3:=x4.put (VR.junk (.func (.func fCl) #[] #[p6,p7])) (some 17)
 have rv3:=xz (i:=17) (v:= .junk) rv (by decide)
 obtain⟨t5,hp,rv5⟩:=qk pok (bO C5) NJ K2 hr3 rv3
 obtain⟨m3,w3,y1,y2,y3,a5,y4,y5,y6⟩:=hp m2 w2 {a2.put (some 17) (.func (.func fCl) #[] #[p6,p7])with defers:=[{target:= .fn (.func fCl) #[p6,p7],args:= #[]}]} {bf with defers:=[{target:= .fn (.func fCl) #[p6,p7],args:= #[]}]} cs x2 ht3 rfl
 have s1:Steps Tryz.prog (lone (bf.at {a2.put (some 17) (.func (.func fCl) #[] #[p6,p7])with defers:=[{target:= .fn (.func fCl) #[p6,p7],args:= #[]}]} [.code cW]) cs w2) (lone (bf.at a5 [.inRegion uc [0,1,2,3,4],.code .ret]) cs w3):=by
  conv=>lhs;rw[K4]
  refine .head step_seq (y6.trans ?_)
  conv=>lhs;rw[Lg]
  refine .head step_seq ?_
  conv=>lhs;rw[N4]
  exact .one step_region
 -- the first two operations of the last statement
 obtain⟨q9,e9⟩:=CF rv5 (j:=7) (s:=9) rfl
 obtain⟨q4,e4⟩:=CF rv5 (j:=3) (s:=4) rfl
 obtain⟨m6,w6,u6,d1,d2,d3,d4,d5⟩:=pG (b:=bf) (cs:=cs) (K:=[.code .ret]) (all:=uc) (i:=0) (rest:=[1,2,3,4]) pok rfl (rfl:aZ uc t5 (o6 0)=some true) y2 y4 (Pn t5 _)
 have ht6:=(y4.ext d1).put d3 (some 22)
 have rv6:=xz (i:=22) (v:=t5.getD 9 .junk) rv5 (by decide)
 obtain⟨q4',e4'⟩:=CF rv6 (j:=3) (s:=4) rfl
 obtain⟨m7,w7,u7,f1,f2,f3,f4,f5⟩:=pG (b:=bf) (cs:=cs) (K:=[.code .ret]) (all:=uc) (i:=1) (rest:=[2,3,4]) (o:=o6 1) (a:=a5.put (some 22) u6) (v:= .agg r) pok rfl (rfl:aZ uc _ (o6 1)=some true) d2 ht6 (Pr (by
  rw[e4']
  simp[aD,AH.row,c4,bq o2]))
 have ht7:=(ht6.ext f1).put f3 (some 23)
 have rv7:=xz (i:=23) (v:= .agg r) rv6 (by decide)
 -- the call that gives up
 obtain⟨fn,g1,g2,g3⟩:=NU
 have hl7:(bI (bI t5 (some 22) (t5.getD 9 .junk)) (some 23) (.agg r)).length=25:=rv7.len
 have hl5:t5.length=25:=rv5.len
 have ecl:=Px (bI (bI t5 (some 22) (t5.getD 9 .junk)) (some 23) (.agg r))
 have ea:(bI (bI t5 (some 22) (t5.getD 9 .junk)) (some 23) (.agg r)).getD 22 .junk= .ptr (acH h r).n 0 0:=by
  have:(bI (bI t5 (some 22) (t5.getD 9 .junk)) (some 23) (.agg r)).getD 22 .junk=t5.getD 9 .junk:=by simp[bI,List.getD,List.getElem?_set,hl5]
  rw[this,e9]
  rfl
 have eb:(bI (bI t5 (some 22) (t5.getD 9 .junk)) (some 23) (.agg r)).getD 23 .junk= .agg r:=by simp[bI,List.getD,List.getElem?_set,hl5]
 rw[ea,eb]at ecl
 have hac:=rj pok eV
 obtain⟨vs7,v1,v2⟩:=iB (w:=w7) ht7 ecl g1 g3 g2
 obtain⟨e,w8,hR,hst⟩:=j9 (b:=bf) (cs:=cs) (k:=[.code .ret]) (rest:=[3,4]) (all:=uc) (i:=2) rfl (dS ht7 uc (o6 2) (rfl:aZ uc _ (o6 2)=some true)) v2 (hac m7 w7 vs7 f2 v1) (by rintro w' ⟨m',_,_,_,u',h,_⟩;cases h)
 obtain⟨m8,z1,z2,z3,u8,rfl,z5⟩:=hR
 rcases hst with⟨v',h3,_⟩ | ⟨ch,h3,todo,z6⟩
 ·cases h3
 injection h3 with h3
 subst h3
 have hlv:Leaves Tryz.prog Tryz.f113 ((a5.put (some 22) u6).put (some 23) u7).tmps (fun e w'=>∃ m',Ext m h m' ((h4.set (h.n+1) (some [zR])).set (h.n+1+1) (some [[.int .i64 c]]))∧WR Tryz.prog m' ((h4.set (h.n+1) (some [zR])).set (h.n+1+1) (some [[.int .i64 c]])) w'∧Below m.base w w'∧∃ u,e= .returned u∧VR Tryz.prog m' ((h4.set (h.n+1) (some [zR])).set (h.n+1+1) (some [[.int .i64 c]])) (.tup [.agg zR,.int .i64 c]) u) [{target:= .fn (.func fCl) #[p6,p7],args:= #[]}] (.panicking [{v:=u8,recovered:=false}]) w8:=by
  refine leaves_cons (f:=fCl) (args:= #[p6,p7]) (by simp) (by simp[go_sem]) ?_
  refine(Ew (code:=c) z2 (((((v6.ext y1).ext d1).ext f1).ext z1)) (((((v7.ext y1).ext d1).ext f1).ext z1)) z5 k6 k7 (by omega) rfl).mono ?_
  rintro e u'' w' ⟨⟨v,rfl⟩,rfl,m9,n1,n2,n3⟩
  have hres:=xF (h:=(h4.set (h.n+1) (some [zR])).set (h.n+1+1) (some [[.int .i64 c]])) (v:= .tup [.agg zR,.int .i64 c]) rv7 (by
   have q6:((h4.set (h.n+1) (some [zR])).set (h.n+1+1) (some [[.int .i64 c]])).cell (h.n+1)=some [zR]:=(be (by omega)).trans aP
   simp only[sim,ag,reduceAdd,reduceSub,replicate,reduceCtorEq,reduceLeDiff,reduceLT,aa,q6])
  obtain⟨u,h7,h8⟩:=gC n2 ((ht7.ext z1).ext n1) hres
  refine⟨u,h7,m9,((((x1.trans y1).trans d1).trans f1).trans z1).trans n1,n2,?_,u,rfl,h8⟩
  have q1:m2.base=m.base:=x1.base
  have q2:m3.base=m2.base:=y1.base
  have q3:m6.base=m3.base:=d1.base
  have q5:m7.base=m6.base:=f1.base
  have q6:m8.base=m7.base:=z1.base
  rw[q6,q5,q3,q2,q1]at n3
  rw[q5,q3,q2,q1]at z3
  rw[q3,q2,q1]at f4
  rw[q2,q1]at d4
  rw[q1]at y3
  exact((((x3.trans y3).trans d4).trans f4).trans z3).trans n3
 have hdf:((a5.put (some 22) u6).put (some 23) u7).defers=[{target:= .fn (.func fCl) #[p6,p7],args:= #[]}]:=y5
 obtain⟨e,w9,fr',hR,hs,hfn,hl⟩:=leaves_steps [{target:= .fn (.func fCl) #[p6,p7],args:= #[]}] (.panicking [{v:=u8,recovered:=false}]) w8 {(bf.at ((a5.put (some 22) u6).put (some 23) u7) todo)with mode:= .panicking [{v:=u8,recovered:=false}]} cs rfl hdf rfl (by simp[Frame.at,b1]) (by simpa[Frame.at]using b2) hlv
 exact⟨e,w9,fr',hR,Comes.of_steps (x6.trans (lay.trans (s1.trans (d5.trans (f5.trans z6))))) hs,hfn.trans b1,hl⟩
end
section
variable {h:AH} {F J:Nat→Prop} {b:Nat} {G:ae}
theorem AF (g:IsG h F J b G) (r:List AV):Mv h F J b (acH h r) G [h.n+1+1,h.n+1,h.n] []:=(((Mv.start g).push [r]).push [zR]).push [[.int .i64 0]]
theorem oG (g:IsG h F J b G) (hW:G.Wf) {x:VD} {r:List AV} (hx:VaA x r):aj Tryz.prog po 126 [.ptr b 0 0,.agg r] (acH h r)=some (.inl (.int .i64 (tP G x)),acH h r):=by
 obtain⟨F2,J2,g2⟩:=(AF g r).isG
 exact IY g2 hW hx
theorem G6 {x:VD} (hz:tP G x=0):x.size≤100000:=by
 have:x.code=0:=by
  unfold tP at hz
  split at hz
  ·exact hz
  ·rename_i hc
   simpa using hc
 have:=yl this
 omega
theorem rU (g:IsG h F J b G) (hW:G.Wf) {x:VD} {r:List AV} {gv:AV} {ks:List Int} (hx:VaA x r) (hg:SlA 3 gv (bh ks)) (hk:ks.length≤1000000) (hz:tP G x=0):
  ∃ h4,(∃ q,aj Tryz.prog po 128 [.ptr (acH h r).n 0 0,.agg r] ((acH h r).push [[.ptr b 0 0,gv]])=some (q,h4)∧FS ks G x q)∧Mv h F J b h4 (da ks x G).1 [(acH h r).n,h.n+1+1,h.n+1,h.n] []∧h4.cell (h.n+1)=some [zR]∧h4.cell (h.n+1+1)=some [[.int .i64 0]]:=by
 have m1:=(AF g r).push [[.ptr b 0 0,gv]]
 obtain⟨h4,e,m2,k, -, -⟩:=m1.callF (R:=fun h4=>∃ q,aj Tryz.prog po 128 [.ptr (acH h r).n 0 0,.agg r] ((acH h r).push [[.ptr b 0 0,gv]])=some (q,h4)∧FS ks G x q) (G':=(da ks x G).1) fun F2 J2 g2 _ hC=>by
  obtain⟨q,h4,e,r2,d⟩:=Gz hg.isL hk _ x (Nat.le_refl _) (G6 hz) r ((acH h r).push [[.ptr b 0 0,gv]]) F2 J2 G g2 hW (by simp only[aJ];omega) (hC _ (by simp)) aC hx
  exact⟨h4,⟨q,e,r2⟩,d⟩
 refine⟨h4,e,m2,(k _ (by simp)).trans ?_,(k _ (by simp)).trans ?_⟩
 ·exact(aN (by simp only[acH,aJ];omega)).trans kD
 ·exact(aN (by simp only[acH,aJ];omega)).trans fB
theorem IB {gv:AV} {e:TypeId} {rows:List (List AV)} (hg:SlA e gv rows):gv= .nils∨∃ id e rows,gv= .isl id e rows:=by
 rcases hg with⟨_,h⟩ | ⟨id,h⟩
 ·exact .inl h
 ·exact .inr ⟨_,_,_,h⟩
theorem FI (g:IsG h F J b G) (hW:G.Wf) {x:VD} {r:List AV} {gv:AV} {ks:List Int} (hx:VaA x r) (hg:SlA 3 gv (bh ks)) (hk:ks.length≤1000000):
  ∃ q,AC Tryz.prog fAc [.ptr b 0 0,.agg r,gv] h q∧sB [.ptr b 0 0,.agg r,gv] h q:=by
 obtain⟨o1,o2⟩:=hx.one
 have eM:=oG g hW hx
 by_cases hz:tP G x=0
 ·rw[hz]at eM
  obtain⟨h4,⟨q,eV,rV⟩,mv,k6,k7⟩:=rU g hW hx hg hk hz
  rcases rV with⟨hz2,r',rfl,x2⟩ | ⟨hz2,rfl⟩
  ·obtain⟨o3,o4⟩:=x2.one
   refine⟨_,Om o1 o2 o3 o4 (IB hg) eM eV k6 k7,?_⟩
   rintro F2 J2 b2 G2 x3 r3 gv3 ks3 e g3 hW3 hx3 hg3 hk3
   simp only[List.cons.injEq,AV.ptr.injEq,AV.agg.injEq,and_true]at e
   obtain⟨rfl,rfl,rfl⟩:=e
   have eM3:=oG g3 hW3 hx3
   rw[eM]at eM3
   simp only[Option.some.injEq,Prod.mk.injEq,Sum.inl.injEq,AV.int.injEq,true_and,and_true]at eM3
   obtain⟨h5,⟨q,eV3,rV3⟩,mv3, -, -⟩:=rU g3 hW3 hx3 hg3 hk3 eM3.symm
   rw[eV]at eV3
   simp only[Option.some.injEq,Prod.mk.injEq]at eV3
   obtain⟨rfl,rfl⟩:=eV3
   have ha:aV ks3 G2 x3=da ks3 x3 G2:=by rw[aV,if_neg (by simp[←eM3])]
   rcases rV3 with⟨hz3,r4,e4,x4⟩ | ⟨_,e4⟩
   ·simp only[Sum.inl.injEq,AV.agg.injEq]at e4
    subst e4
    rw[ha]
    exact⟨r',_,by rw[hz3],x4,((mv3.set (by simp) _).set (by simp) _).did⟩
   ·cases e4
  ·refine⟨_,Ly o1 o2 (IB hg) eM eV k6 k7,?_⟩
   rintro F2 J2 b2 G2 x3 r3 gv3 ks3 e g3 hW3 hx3 hg3 hk3
   simp only[List.cons.injEq,AV.ptr.injEq,AV.agg.injEq,and_true]at e
   obtain⟨rfl,rfl,rfl⟩:=e
   have eM3:=oG g3 hW3 hx3
   rw[eM]at eM3
   simp only[Option.some.injEq,Prod.mk.injEq,Sum.inl.injEq,AV.int.injEq,true_and,and_true]at eM3
   obtain⟨h5,⟨q,eV3,rV3⟩,mv3, -, -⟩:=rU g3 hW3 hx3 hg3 hk3 eM3.symm
   rw[eV]at eV3
   simp only[Option.some.injEq,Prod.mk.injEq]at eV3
   obtain⟨rfl,rfl⟩:=eV3
   have ha:aV ks3 G2 x3=da ks3 x3 G2:=by rw[aV,if_neg (by simp[←eM3])]
   rcases rV3 with⟨_,r4,e4,_⟩ | ⟨hz3,e4⟩
   ·cases e4
   ·simp only[Sum.inr.injEq,AV.iface.injEq,AV.int.injEq,true_and]at e4
    have hv:(da ks3 x3 G2).2.1=au:=by
     rw[CA]at hz3 ⊢
     split
     ·rfl
     ·rename_i h1
      rw[if_neg h1]at hz3
      split
      ·rfl
      ·rename_i h2
       rw[if_neg h2]at hz3
       exact absurd rfl hz3
    rw[ha,hv]
    exact⟨zR,_,by rw[e4],ee,((mv3.set (by simp) _).set (by simp) _).did⟩
 ·refine⟨_,AX o1 o2 hz eM,?_⟩
  rintro F2 J2 b2 G2 x3 r3 gv3 ks3 e g3 hW3 hx3 hg3 hk3
  simp only[List.cons.injEq,AV.ptr.injEq,AV.agg.injEq,and_true]at e
  obtain⟨rfl,rfl,rfl⟩:=e
  have eM3:=oG g3 hW3 hx3
  rw[eM]at eM3
  simp only[Option.some.injEq,Prod.mk.injEq,Sum.inl.injEq,AV.int.injEq,true_and,and_true]at eM3
  have ha:aV ks3 G2 x3=(G2,au,tP G2 x3):=by rw[aV,if_pos (by rw[←eM3];exact hz)]
  rw[ha]
  exact⟨zR,_,by rw[eM3],ee,((AF g3 r).set (by simp) _).did⟩
theorem Ci:po.ext fAc=some oI:=by
 show ql fAc=_
 unfold ql
 exact if_pos rfl
theorem qP (g:IsG h F J b G) (hW:G.Wf) {x:VD} {r:List AV} {gv:AV} {ks:List Int} (hx:VaA x r) (hg:SlA 3 gv (bh ks)) (hk:ks.length≤1000000):
  ∃ h',(∃ r',aj Tryz.prog po 113 [.ptr b 0 0,.agg r,gv] h=some (.inl (.tup [.agg r',.int .i64 (aV ks G x).2.2]),h')∧VaA (aV ks G x).2.1 r')∧de h F J b h' (aV ks G x).1:=by
 have H:=FI g hW hx hg hk
 have e:aj Tryz.prog po fAc [.ptr b 0 0,.agg r,gv] h=some (Classical.choose H):=by
  unfold aj
  rw[Ci]
  show oI _ _=_
  unfold oI
  rw[dif_pos H]
 obtain⟨r',h',h1,h2,h3⟩:=(Classical.choose_spec H).2 F J b G x r gv ks rfl g hW hx hg hk
 rw[h1]at e
 exact⟨h',⟨r',e,h2⟩,h3⟩
end
structure OkR (c:Cfg) (n:Now):Prop where
 ms:c.ms.length=4
 S:n.S.Good
 below:n.below.length≤100
 stk:n.top.stack.length≤100000
 nms:n.top.names.length≤100000
 log:n.S.log.length≤1000000
theorem OkR.len {c:Cfg} {n:Now} (o:OkR c n):c.ms.length=n.S.kept.length:=o.ms.trans o.S.kept.symm
def bw (h0:AH) (F0 J0:Nat→Prop) (c:Cfg) (L:List Asn) (i:Nat) (n:Now) (q:StD×VD×Int) (fr:AV ⊕ AV) (h':AH):Prop:=
 (q.2.2=0∧fr= .inl (.tup [])∧St h0 F0 J0 h' (put c L i {n with S:=q.1,top:={n.top with stack:=n.top.stack++[q.2.1]}}))∨
 (q.2.2≠0∧fr= .inr (.iface tGo (.int .i64 q.2.2))∧∃ n':Now,n'.S=q.1∧St h0 F0 J0 h' (put c L i n'))
section
variable {h h' h0:AH} {F J F0 J0:Nat→Prop} {L:List Asn} {c:Cfg} {i:Nat} {n:Now}
theorem bw.no {S:StD} {k:Int} (hk:k≠0) (n':Now) (hS:n'.S=S) (s:St h0 F0 J0 h' (put c L i n')):bw h0 F0 J0 c L i n (S.no k) (.inr (.iface tGo (.int .i64 k))) h':= .inr ⟨hk,rfl,n',hS,s⟩
theorem bw.ok {S:StD} {v:VD} (s:St h0 F0 J0 h' (put c L i {n with S:=S,top:={n.top with stack:=n.top.stack++[v]}})):bw h0 F0 J0 c L i n (S.ok v) (.inl (.tup [])) h':= .inl ⟨rfl,rfl,s⟩
theorem bw.fail (a:At c L i n) {k:Int} (hk:k≠0) (s:St h0 F0 J0 h' L):bw h0 F0 J0 c L i n (n.S.no k) (.inr (.iface tGo (.int .i64 k))) h':=bw.no hk n rfl (by rw[a.same];exact s)
theorem bw.drop {X:Asn} {q:StD×VD×Int} {fr:AV ⊕ AV} (r:bw h0 F0 J0 c (X::L) (i+1) n q fr h'):bw h0 F0 J0 c L i n q fr h':=by
 rcases r with⟨a,b,s⟩ | ⟨a,b,n',e,s⟩
 ·exact .inl ⟨a,b,s.drop⟩
 ·exact .inr ⟨a,b,n',e,s.drop⟩
theorem dp (s:St h0 F0 J0 h L) (a:At c L i n) (hb:n.below.length≤100) (hs:n.top.stack.length≤100000) {v:VD} {r:List AV} (hv:VaA v r):
  ∃ h',aj Tryz.prog po fPu [.ptr c.mb 0 0,.agg r] h=some (.inl (.tup []),h')∧St h0 F0 J0 h' (put c L i {n with top:={n.top with stack:=n.top.stack++[v]}}):=by
 obtain⟨h',e,s'⟩:=Ln s i a.m hv (by omega) (by omega)
 rw[a.setM]at s'
 exact⟨h',e,s'⟩
theorem Bl (s:St h0 F0 J0 h L) (a:At c L i n) {st:List VD} {v:VD} (hst:n.top.stack=st++[v]) (hb:n.below.length≤100) (hl:st.length≤100000):
  ∃ h' r,aj Tryz.prog po 90 [.ptr c.mb 0 0] h=some (.inl (.agg r),h')∧VaA v r∧St h0 F0 J0 h' (put c L i {n with top:={n.top with stack:=st}}):=by
 obtain⟨h',⟨r,e,hv⟩,s'⟩:=Nj s i a.m hst (by omega) (by omega)
 rw[a.setM]at s'
 exact⟨h',r,e,hv,s'⟩
theorem lG (s:St h0 F0 J0 h L) (a:At c L i n) {R:AH→Prop} {G':ae} (cc:∀ F J,IsG h F J c.gb n.S.G→∃ h',R h'∧de h F J c.gb h' G'):∃ h',R h'∧St h0 F0 J0 h' (put c L i {n with S:={n.S with G:=G'}}):=by
 obtain⟨h',r,s'⟩:=s.call (R:=R) (Y:=bp c.gb G') (i+2) a.g cc
 rw[a.setG]at s'
 exact⟨h',r,s'⟩
theorem cX (s:St h0 F0 J0 h L) (a:At c L i n) (hl:c.ms.length=n.S.kept.length):(∀ k:Nat,aD false k h (.ptr c.mb 0 0)=some (.ptr c.bb 0 0))∧(∀ k:Nat,aD false k h (.ptr c.bb 0 0)=some (.ptr c.gb 0 0))∧∀ k:Nat,aD false k h (.ptr c.bb 0 1)=some (.ptr c.wb 0 0):=by
 obtain⟨a',sv,nv,g,mv⟩:=dv s i a.m
 obtain⟨b1,b2⟩:=jX s a.b hl
 refine⟨fun k=> ?_,b1,b2⟩
 rw[bC,mv.m,Option.bind_some,List.getElem?_cons_zero,Option.bind_some,fD];rfl
theorem cK (s:St h0 F0 J0 h L) (a:At c L i n) (hb:n.below.length≤100):aj Tryz.prog po HV [.ptr c.mb 0 0] h=some (.inl (.ptr n.fb n.below.length 0),h)∧∀ k:Nat,aD false k h (.ptr n.fb n.below.length 0)=some (.int .i64 n.top.plugin):=by
 obtain⟨a',sv,nv,g,mv⟩:=dv s i a.m
 exact⟨qG mv.m (by omega),fun k=>mv.rd k 0 _ (ca n.top a' sv nv g mv.ha.len3.1).2.2.2.2.2.1⟩
theorem gz (t:aY):aL t=[.int .i64 t.parent,.int .i64 t.gate,.int .i64 t.rights,.int .i64 t.cell,.int .i64 t.plugin,.int .i64 t.func]:=rfl
theorem NE {p k n:Int} {v:VD} {S:StD}:bH p 13 k n [v] S=if v.kind≠4 then S.no 2 else if d9 (S.G.rights v.n) 0=false then S.no 9 else if 0≤(S.G.target v.n).1.plugin then S.no 2
  else({S with log:=S.log++[cE.mk p (S.G.target v.n).1.cell 1 v.n]}:StD).ok (iH (S.cells.getD (S.G.target v.n).1.cell.toNat 0)):=rfl
theorem pS {G:ae} (hW:G.Wf) {i:Int} {k:Nat} (hb:d9 (G.rights i) k=true) (hp:¬ 0≤(G.target i).1.plugin):0≤(G.target i).1.cell∧(G.target i).1.cell<12:=by
 have hh:G.has i=true:=by
  cases h:G.has i with
  | true=>rfl
  | false=>
    have:G.rights i=0:=by unfold ae.rights;rw[if_pos (.inl (ae.path_no h))]
    rw[this]at hb
    have h2:d9 0 k=false:=by unfold d9;rw[Int.zero_ediv];decide
    rw[h2]at hb
    cases hb
 obtain⟨_,_,h1 | h1⟩:=ae.target_ok hW hh
 ·exact⟨h1.2.1,h1.2.2.1⟩
 ·omega
set_option maxHeartbeats 1000000 in
theorem He (s:St h0 F0 J0 h L) (a:At c L i n) (o:OkR c n) {v:VD} {r:List AV} (hv:VaA v r) (k m:Int):∃ fr h',aj Tryz.prog po 129 [.ptr c.mb 0 0,.agg r] h=some (fr,h')∧bw h0 F0 J0 c L i n (bH n.top.plugin 13 k m [v] n.S) fr h':=by
 rw[NE]
 have s1:=s.push [r]
 have a1:=a.cons (ai h.n [r])
 obtain⟨o1,o2⟩:=hv.len3
 by_cases hk:v.kind=4
 ·rw[if_neg (by simpa using hk)]
  obtain⟨r',ek,hv'⟩:=dW (h:=h.push [r]) hv hk
  have ec:=sJ s1 a1.m a1.b a1.g o.len o.S.wf hv' (k:=0) (q:=1) (by decide) (by decide)
  by_cases hb:d9 (n.S.G.rights v.n) 0=true
  ·rw[if_pos hb]at ec
   rw[if_neg (by simp[hb])]
   have s2:=s1.push [aL (n.S.G.target v.n).1]
   have a2:=a1.cons (ai (h.push [r]).n [aL (n.S.G.target v.n).1])
   by_cases hp:0≤(n.S.G.target v.n).1.plugin
   ·rw[if_pos hp]
    have d:decide (0≤(n.S.G.target v.n).1.plugin)=true:=decide_eq_true hp
    refine⟨_,_,?_,bw.fail a (by decide) s2.drop.drop⟩
    refine ah nL rfl ?_;unfold kX
    simp only[sim,ag,reduceAdd,reduceSub,replicate,reduceCtorEq,reduceLeDiff,reduceLT,aa,ay,o1,o2,ek,ec,gz,d,bP]
   ·rw[if_neg hp]
    have d:decide (0≤(n.S.G.target v.n).1.plugin)=false:=decide_eq_false hp
    obtain⟨l0,l1,l2⟩:=cX s2 a2 o.len
    obtain⟨tp,tl⟩:=cK s2 a2 o.below
    obtain⟨h3,e3,s3⟩:=JW s2 (i+1+1+3) a2.w o.S.cells o.log (pS o.S.wf hb hp) n.top.plugin v.n
    rw[a2.setW]at s3
    have a3:=a2.put {n with S:={n.S with cells:=n.S.cells,log:=n.S.log++[⟨n.top.plugin,(n.S.G.target v.n).1.cell,1,v.n⟩]}}
    obtain⟨h4,e4,s4⟩:=dp s3 a3 o.below o.stk (tD (n.S.cells.getD (n.S.G.target v.n).1.cell.toNat 0))
    rw[aQ,ap,ap]at s4
    refine⟨_,h4,?_,bw.ok s4.drop.drop⟩
    have f0:aI 0 (.ptr c.mb 0 0)=some (.ptr c.mb 0 0):=rfl
    have f1:aI 1 (.ptr c.bb 0 0)=some (.ptr c.bb 0 1):=rfl
    have f2:aI 0 (.ptr n.fb n.below.length 0)=some (.ptr n.fb n.below.length 0):=rfl
    rw[gz]at l0 l1 l2 tp tl e3
    refine ah nL rfl ?_;unfold kX
    simp only[sim,ag,reduceAdd,reduceSub,replicate,reduceCtorEq,reduceLeDiff,reduceLT,aa,ay,o1,o2,ek,ec,gz,d,bZ,f0,f1,f2,l0,l1,l2,tp,tl,e3,kZ,e4]
  ·rw[if_neg hb]at ec
   rw[if_pos (by simpa using hb)]
   refine⟨_,_,?_,bw.fail a (by decide) s1.drop⟩
   refine ah nL rfl ?_;unfold kX
   simp only[sim,ag,reduceAdd,reduceSub,replicate,reduceCtorEq,reduceLeDiff,reduceLT,aa,ay,o1,o2,ek,ec]
 ·rw[if_pos hk]
  have ek:=fq (h:=h.push [r]) hv hk
  refine⟨_,_,?_,bw.fail a (by decide) s1.drop⟩
  refine ah nL rfl ?_;unfold kX
  simp only[sim,ag,reduceAdd,reduceSub,replicate,reduceCtorEq,reduceLeDiff,reduceLT,aa,ay,o1,o2,ek]
theorem NY {p k n:Int} {v x:VD} {S:StD}:bH p 14 k n [v,x] S=if v.kind≠4∨x.kind≠1 then S.no 2 else if d9 (S.G.rights v.n) 1=false then S.no 9 else if 0≤(S.G.target v.n).1.plugin then S.no 2
  else({S with log:=S.log++[cE.mk p (S.G.target v.n).1.cell 2 v.n],cells:=S.cells.set (S.G.target v.n).1.cell.toNat x.n}:StD).ok x:=rfl
set_option maxHeartbeats 1000000 in
theorem Fc (s:St h0 F0 J0 h L) (a:At c L i n) (o:OkR c n) {v x:VD} {r t:List AV} (hv:VaA v r) (hx:VaA x t) (k m:Int):∃ fr h',aj Tryz.prog po 130 [.ptr c.mb 0 0,.agg r,.agg t] h=some (fr,h')∧bw h0 F0 J0 c L i n (bH n.top.plugin 14 k m [v,x] n.S) fr h':=by
 rw[NY]
 have s1:=(s.push [r]).push [t]
 have a1:=(a.cons (ai h.n [r])).cons (ai (h.push [r]).n [t])
 obtain⟨o1,o2⟩:=hv.len3
 obtain⟨o3,o4⟩:=hx.len3
 have c1:((h.push [r]).push [t]).cell h.n=some [r]:=(s1.cell 1 rfl).1
 have c2:((h.push [r]).push [t]).cell (h.n+1)=some [t]:=(s1.cell 0 rfl).1
 by_cases hk:v.kind=4
 ·obtain⟨r',ek,hv'⟩:=dW (h:=(h.push [r]).push [t]) hv hk
  by_cases hk2:x.kind=1
  ·rw[if_neg (by simp[hk,hk2])]
   obtain⟨t',ek2,hx'⟩:=dW (h:=(h.push [r]).push [t]) hx hk2
   have ec:=sJ s1 a1.m a1.b a1.g o.len o.S.wf hv (k:=1) (q:=2) (by decide) (by decide)
   by_cases hb:d9 (n.S.G.rights v.n) 1=true
   ·rw[if_pos hb]at ec
    rw[if_neg (by simp[hb])]
    have s2:=s1.push [aL (n.S.G.target v.n).1]
    have a2:=a1.cons (ai ((h.push [r]).push [t]).n [aL (n.S.G.target v.n).1])
    by_cases hp:0≤(n.S.G.target v.n).1.plugin
    ·rw[if_pos hp]
     have d:decide (0≤(n.S.G.target v.n).1.plugin)=true:=decide_eq_true hp
     refine⟨_,_,?_,bw.fail a (by decide) s2.drop.drop.drop⟩
     refine ah jP rfl ?_;unfold iN
     simp only[sim,ag,reduceAdd,reduceSub,replicate,reduceCtorEq,reduceLeDiff,reduceLT,aa,ay,o1,o2,o3,o4,c1,c2,ek,ek2,ec,gz,d,bP]
    ·rw[if_neg hp]
     have d:decide (0≤(n.S.G.target v.n).1.plugin)=false:=decide_eq_false hp
     obtain⟨l0,l1,l2⟩:=cX s2 a2 o.len
     obtain⟨tp,tl⟩:=cK s2 a2 o.below
     obtain⟨w,hw,_⟩:=hx.cells3
     have c3:(((h.push [r]).push [t]).push [aL (n.S.G.target v.n).1]).cell (h.n+1)=some [t]:=(s2.cell 1 rfl).1
     have hxn:t[1]? =some (.int .i64 x.n):=by rw[hw];rfl
     obtain⟨h3,e3,s3⟩:=IQ s2 (i+1+1+1+3) a2.w o.S.cells o.log (pS o.S.wf hb hp) n.top.plugin v.n x.n
     rw[a2.setW]at s3
     have a3:=a2.put {n with S:={n.S with cells:=n.S.cells.set (n.S.G.target v.n).1.cell.toNat x.n,log:=n.S.log++[⟨n.top.plugin,(n.S.G.target v.n).1.cell,2,v.n⟩]}}
     have c4:=(s3.cell 1 rfl).1
     simp only[aJ]at c4
     obtain⟨h4,e4,s4⟩:=dp s3 a3 o.below o.stk hx
     rw[aQ,ap,ap,ap]at s4
     refine⟨_,h4,?_,bw.ok s4.drop.drop.drop⟩
     have f0:aI 0 (.ptr c.mb 0 0)=some (.ptr c.mb 0 0):=rfl
     have f1:aI 1 (.ptr c.bb 0 0)=some (.ptr c.bb 0 1):=rfl
     have f2:aI 0 (.ptr n.fb n.below.length 0)=some (.ptr n.fb n.below.length 0):=rfl
     rw[gz]at l0 l1 l2 tp tl e3 c3
     refine ah jP rfl ?_;unfold iN
     simp only[sim,ag,reduceAdd,reduceSub,replicate,reduceCtorEq,reduceLeDiff,reduceLT,aa,ay,o1,o2,o3,o4,c1,c2,ek,ek2,ec,gz,d,bZ,f0,f1,f2,l0,l1,l2,tp,tl,c3,hxn,e3,c4,e4]
   ·rw[if_neg hb]at ec
    rw[if_pos (by simpa using hb)]
    refine⟨_,_,?_,bw.fail a (by decide) s1.drop.drop⟩
    refine ah jP rfl ?_;unfold iN
    simp only[sim,ag,reduceAdd,reduceSub,replicate,reduceCtorEq,reduceLeDiff,reduceLT,aa,ay,o1,o2,o3,o4,c1,c2,ek,ek2,ec]
  ·rw[if_pos (.inr hk2)]
   have ek2:=fq (h:=(h.push [r]).push [t]) hx hk2
   refine⟨_,_,?_,bw.fail a (by decide) s1.drop.drop⟩
   refine ah jP rfl ?_;unfold iN
   simp only[sim,ag,reduceAdd,reduceSub,replicate,reduceCtorEq,reduceLeDiff,reduceLT,aa,ay,o1,o2,o3,o4,c1,c2,ek,ek2]
 ·rw[if_pos (.inl hk)]
  have ek:=fq (h:=(h.push [r]).push [t]) hv hk
  refine⟨_,_,?_,bw.fail a (by decide) s1.drop.drop⟩
  refine ah jP rfl ?_;unfold iN
  simp only[sim,ag,reduceAdd,reduceSub,replicate,reduceCtorEq,reduceLeDiff,reduceLT,aa,ay,o1,o2,o3,o4,c1,c2,ek]
end
section
variable {h h' h0:AH} {F J F0 J0:Nat→Prop} {L:List Asn} {c:Cfg} {i:Nat} {n:Now}
theorem qb (s:St h0 F0 J0 h L) (a:At c L i n) (hl:c.ms.length=n.S.kept.length) (hW:n.S.G.Wf) {v:VD} {r:List AV} (hv:VaA v r) (rr g:Int):
  ∃ h',aj Tryz.prog po 131 [.ptr c.mb 0 0,.agg r,.int .i64 rr,.int .i64 g] h=some (if(n.S.G.derive v.n rr g).2.2=0 then .inl (.agg [.int .i64 4,.int .i64 (n.S.G.derive v.n rr g).2.1,.nils])else .inr (.iface tGo (.int .i64 (n.S.G.derive v.n rr g).2.2)),h')∧
    St h0 F0 J0 h' (put c L i {n with S:={n.S with G:=(n.S.G.derive v.n rr g).1}}):=by
 have s1:=(s.push [r]).push [zR3]
 have a1:=(a.cons (ai h.n [r])).cons (ai (h.push [r]).n [zR3])
 obtain⟨w,hw,ho⟩:=hv.cells3
 obtain⟨o1,o2⟩:=hv.len3
 have c1:((h.push [r]).push [zR3]).cell h.n=some [r]:=(s1.cell 1 rfl).1
 obtain⟨l0,l1,l2⟩:=cX s1 a1 hl
 have hn:r[1]? =some (.int .i64 v.n):=by rw[hw];rfl
 obtain⟨h2,e2,s2⟩:=lG s1 a1 (R:=fun h'=>aj Tryz.prog po 84 [.ptr c.gb 0 0,.int .i64 v.n,.int .i64 rr,.int .i64 g] ((h.push [r]).push [zR3])=some (.inl (.tup [.int .i64 (n.S.G.derive v.n rr g).2.1,.int .i64 (n.S.G.derive v.n rr g).2.2]),h')) fun F J x=>yB x hW v.n rr g
 rw[ap,ap]at s2
 have c2:=(s2.cell 0 rfl).1
 simp only[aJ]at c2
 have f0:aI 0 (.ptr c.mb 0 0)=some (.ptr c.mb 0 0):=rfl
 have f1:aI 0 (.ptr c.bb 0 0)=some (.ptr c.bb 0 0):=rfl
 by_cases hc:(n.S.G.derive v.n rr g).2.2=0
 ·have d:decide ((n.S.G.derive v.n rr g).2.2=0)=true:=decide_eq_true hc
  rw[if_pos hc]
  have s3:=s2.set 0 rfl [[.int .i64 4,.int .i64 (n.S.G.derive v.n rr g).2.1,.nils]]
  refine⟨_,?_,s3.drop.drop⟩
  generalize n.S.G.derive v.n rr g=q at*
  refine ah qa rfl ?_;unfold lO
  simp only[sim,ag,reduceAdd,reduceSub,replicate,reduceCtorEq,reduceLeDiff,reduceLT,aa,ay,o1,o2,c1,l0,l1,f0,f1,hn,e2,d,bZ,c2]
 ·have d:decide ((n.S.G.derive v.n rr g).2.2=0)=false:=decide_eq_false hc
  rw[if_neg hc]
  refine⟨_,?_,s2.drop.drop⟩
  generalize n.S.G.derive v.n rr g=q at*
  refine ah qa rfl ?_;unfold lO
  simp only[sim,ag,reduceAdd,reduceSub,replicate,reduceCtorEq,reduceLeDiff,reduceLT,aa,ay,o1,o2,c1,l0,l1,f0,f1,hn,e2,d,bP,c2]
theorem MY {p k n:Int} {v:VD} {S:StD}:bH p 16 k n [v] S=if v.kind≠4 then S.no 2 else if S.G.gate.2.2≠0 then({S with G:=S.G.gate.1}:StD).no S.G.gate.2.2
  else match S.G.gate.1.derive v.n 15 S.G.gate.2.1 with
   | (G',m,c)=>if c≠0 then({S with G:=G'}:StD).no c else({S with G:=G'}:StD).ok (.mk 2 0 [fh m,.mk 5 S.G.gate.2.1 []]):=rfl
set_option maxHeartbeats 1000000 in
theorem G8 (s:St h0 F0 J0 h L) (a:At c L i n) (o:OkR c n) {v:VD} {r:List AV} (hv:VaA v r) (k m:Int):∃ fr h',aj Tryz.prog po 132 [.ptr c.mb 0 0,.agg r] h=some (fr,h')∧bw h0 F0 J0 c L i n (bH n.top.plugin 16 k m [v] n.S) fr h':=by
 rw[MY]
 have s1:=s.push [r]
 have a1:=a.cons (ai h.n [r])
 obtain⟨o1,o2⟩:=hv.len3
 by_cases hk:v.kind=4
 ·rw[if_neg (by simpa using hk)]
  obtain⟨r',ek,hv'⟩:=dW (h:=h.push [r]) hv hk
  obtain⟨l0,l1,l2⟩:=cX s1 a1 o.len
  have f0:aI 0 (.ptr c.mb 0 0)=some (.ptr c.mb 0 0):=rfl
  have f1:aI 0 (.ptr c.bb 0 0)=some (.ptr c.bb 0 0):=rfl
  obtain⟨h2,e2,s2⟩:=lG s1 a1 (R:=fun h'=>aj Tryz.prog po 63 [.ptr c.gb 0 0] (h.push [r])=some (.inl (.tup [.int .i64 n.S.G.gate.2.1,.int .i64 n.S.G.gate.2.2]),h')) fun F J x=>IJ x o.S.wf
  have a2:=a1.put {n with S:={n.S with G:=n.S.G.gate.1}}
  have s2':=s2
  rw[ap]at s2'
  have c2:=(s2'.cell 0 rfl).1
  by_cases hg:n.S.G.gate.2.2=0
  ·rw[if_neg (by simpa using hg)]
   have dg:decide (n.S.G.gate.2.2=0)=true:=decide_eq_true hg
   obtain⟨h3,e3,s3⟩:=qb s2 a2 o.len (o.S.wf.gate) hv 15 n.S.G.gate.2.1
   rw[aQ]at s3
   have a3:=a1.put {n with S:={n.S with G:=(n.S.G.gate.1.derive v.n 15 n.S.G.gate.2.1).1}}
   generalize n.S.G.gate.1.derive v.n 15 n.S.G.gate.2.1=q at*
   obtain⟨G',m',cc⟩:=q
   simp only at e3 s3 a3 ⊢
   by_cases hc:cc=0
   ·subst hc
    rw[if_pos rfl]at e3
    rw[if_neg (by simp)]
    have s4:=(s3.push [[.int .i64 4,.int .i64 m',.nils]]).fresh 2
    have a4:=(a3.cons (ai h3.n [[.int .i64 4,.int .i64 m',.nils]])).cons (idA (h3.push [[.int .i64 4,.int .i64 m',.nils]]).ids 2)
    have pv:VaA (.mk 2 0 [fh m',.mk 5 n.S.G.gate.2.1 []]) [.int .i64 2,.int .i64 0,.isl (some h3.ids) tV [[.int .i64 4,.int .i64 m',.nils],[.int .i64 5,.int .i64 n.S.G.gate.2.1,.nils]]]:=wF ⟨_,_,rfl,wE m',_,_,rfl,Lx _,rfl⟩
    obtain⟨h5,e5,s5⟩:=dp s4 a4 o.below o.stk pv
    rw[ap,ap,aQ,ap]at s5
    refine⟨_,h5,?_,bw.ok s5.drop.drop.drop⟩
    refine ah od rfl ?_;unfold lI
    simp only[sim,ag,reduceAdd,reduceSub,replicate,reduceCtorEq,reduceLeDiff,reduceLT,aa,ay,o1,o2,ek,l0,l1,f0,f1,e2,dg,bZ,c2,e3,e5]
   ·rw[if_neg hc]at e3
    rw[if_pos hc]
    rw[ap]at s3
    refine⟨_,_,?_,bw.no hc {n with S:={n.S with G:=G'}} rfl s3.drop⟩
    refine ah od rfl ?_;unfold lI
    simp only[sim,ag,reduceAdd,reduceSub,replicate,reduceCtorEq,reduceLeDiff,reduceLT,aa,ay,o1,o2,ek,l0,l1,f0,f1,e2,dg,bZ,c2,e3]
  ·rw[if_pos hg]
   have dg:decide (n.S.G.gate.2.2=0)=false:=decide_eq_false hg
   refine⟨_,_,?_,bw.no hg {n with S:={n.S with G:=n.S.G.gate.1}} rfl s2'.drop⟩
   refine ah od rfl ?_;unfold lI
   simp only[sim,ag,reduceAdd,reduceSub,replicate,reduceCtorEq,reduceLeDiff,reduceLT,aa,ay,o1,o2,ek,l0,l1,f0,f1,e2,dg,bP]
 ·rw[if_pos hk]
  have ek:=fq (h:=h.push [r]) hv hk
  refine⟨_,_,?_,bw.fail a (by decide) s1.drop⟩
  refine ah od rfl ?_;unfold lI
  simp only[sim,ag,reduceAdd,reduceSub,replicate,reduceCtorEq,reduceLeDiff,reduceLT,aa,ay,o1,o2,ek]
theorem yT (s:St h0 F0 J0 h L) (a:At c L i n) (hb:n.below.length≤100) {f:FrD} {ar:List AV} {g:AV} (ha:VaA f.arg ar) (hg:SlA 3 g (bh f.gates)) (hs:f.stack=[]) (hn:f.names=[]):
  (n.below.length+1=20→∃ h',aj Tryz.prog po 133 [.ptr c.mb 0 0,.agg (cP f ar .nils .nils g)] h=some (.inr (.iface tGo (.int .i64 4)),h')∧St h0 F0 J0 h' L)∧
  (n.below.length+1≠20→∃ h' fb',aj Tryz.prog po 133 [.ptr c.mb 0 0,.agg (cP f ar .nils .nils g)] h=some (.inl (.tup []),h')∧St h0 F0 J0 h' (put c L i ⟨fb',n.S,n.below++[n.top],f⟩)):=by
 have hgo:g.one=true:=by rcases hg with⟨_,rfl⟩ | ⟨id,rfl⟩<;>rfl
 have o2:=(ca f ar .nils .nils g ha.len3.1).2.1
 have o1:=oz (f:=f) (s:= .nils) (n:= .nils) ha.len3 rfl rfl hgo
 generalize hrow:cP f ar .nils .nils g=row at*
 have s1:=s.push [row]
 have a1:=a.cons (ai h.n [row])
 obtain⟨_,_,_,_,mv⟩:=dv s1 (i+1) a1.m
 have ld:∀ (k:Nat) (x:AH),x.cell c.mb=some [[.ptr c.bb 0 0,.msl n.fb 0 (n.below.length+1) tFr,.int .i64 (n.S.left:Int)]]→aD false k x (.ptr c.mb 0 1)=some (.msl n.fb 0 (n.below.length+1) tFr):=fun k x hx=>by
  rw[bC,hx];rfl
 have l1:=fun k=>ld k _ mv.m
 have f1:aI 1 (.ptr c.mb 0 0)=some (.ptr c.mb 0 1):=rfl
 refine⟨fun h20=> ?_,fun h20=> ?_⟩
 ·have d:decide (((n.below.length+1:Nat):Int)=20)=true:=decide_eq_true (by omega)
  refine⟨_,?_,s1.drop⟩
  refine ah zg rfl ?_;unfold tM
  simp only[sim,ag,reduceAdd,reduceSub,replicate,reduceCtorEq,reduceLeDiff,reduceLT,aa,ay,o1,o2,f1,l1,d,bP]
 ·have d:decide (((n.below.length+1:Nat):Int)=20)=false:=decide_eq_false (by omega)
  have s2:=s1.push [row]
  have a2:=a1.cons (ai (h.push [row]).n [row])
  obtain⟨_,_,_,_,mv2⟩:=dv s2 (i+2) a2.m
  have l2:=fun k=>ld k _ mv2.m
  obtain⟨h3,h4,e3,e4,s4⟩:=Iv s2 (i+1+1) a2.m (f:=f) (a:=ar) (g:=g) ha hg hs hn (by omega) (bz:=h.n+1) (by rw[hrow];exact(s2.cell 0 rfl).1)
  rw[a2.setM,ap,ap]at s4
  have c1:(h.push [row]).cell h.n=some [row]:=(s1.cell 0 rfl).1
  simp only[aJ]at e3 e4
  refine⟨_,_,?_,s4.drop.drop⟩
  refine ah zg rfl ?_;unfold tM
  simp only[sim,ag,reduceAdd,reduceSub,replicate,reduceCtorEq,reduceLeDiff,reduceLT,aa,ay,o1,o2,f1,l1,l2,d,bZ,c1,e3,e4]
theorem Oj {p k n:Int} {v:VD} {S:StD}:bH p 9 k n [v] S=if v.kind≠2 then S.no 2 else S.ok (v.l.getD 0 au):=rfl
theorem NP {p k n:Int} {v:VD} {S:StD}:bH p 10 k n [v] S=if v.kind≠2 then S.no 2 else S.ok (v.l.getD 1 au):=rfl
end
abbrev jD:FuncId:=93
section
variable {h h' h0:AH} {F J F0 J0:Nat→Prop} {L:List Asn} {c:Cfg} {i:Nat} {n:Now}
theorem Br (k x y:Int):aj Tryz.prog po 42 [.int .i64 k,.int .i64 x,.int .i64 y] h=some (.inl (.int .i64 (rZ k x y)),h):=by
 unfold rZ
 by_cases h1:k=1
 ·subst h1
  refine ah fH rfl ?_;unfold eH
  simp only[sim,ag,reduceAdd,reduceSub,replicate,reduceCtorEq,reduceLeDiff,reduceLT,aa,decide_true]
 have d1:decide (k=1)=false:=decide_eq_false h1
 rw[if_neg h1]
 by_cases h2:k=2
 ·subst h2
  rw[if_pos rfl]
  refine ah fH rfl ?_;unfold eH
  simp only[sim,ag,reduceAdd,reduceSub,replicate,reduceCtorEq,reduceLeDiff,reduceLT,aa,d1,decide_true]
 have d2:decide (k=2)=false:=decide_eq_false h2
 rw[if_neg h2]
 by_cases h3:k=3
 ·subst h3
  rw[if_pos rfl]
  refine ah fH rfl ?_;unfold eH
  simp only[sim,ag,reduceAdd,reduceSub,replicate,reduceCtorEq,reduceLeDiff,reduceLT,aa,d1,d2,decide_true]
 have d3:decide (k=3)=false:=decide_eq_false h3
 rw[if_neg h3]
 by_cases h4:k=4
 ·subst h4
  rw[if_pos rfl]
  by_cases hl:x<y
  ·have dl:decide (x<y)=true:=decide_eq_true hl
   rw[if_pos hl]
   refine ah fH rfl ?_;unfold eH
   simp only[sim,ag,reduceAdd,reduceSub,replicate,reduceCtorEq,reduceLeDiff,reduceLT,aa,d1,d2,d3,dl,decide_true]
  ·have dl:decide (x<y)=false:=decide_eq_false hl
   rw[if_neg hl]
   refine ah fH rfl ?_;unfold eH
   simp only[sim,ag,reduceAdd,reduceSub,replicate,reduceCtorEq,reduceLeDiff,reduceLT,aa,d1,d2,d3,dl,decide_true]
 have d4:decide (k=4)=false:=decide_eq_false h4
 rw[if_neg h4]
 by_cases h5:k=5
 ·subst h5
  rw[if_pos rfl]
  by_cases hl:x=y
  ·have dl:decide (x=y)=true:=decide_eq_true hl
   rw[if_pos hl]
   refine ah fH rfl ?_;unfold eH
   simp only[sim,ag,reduceAdd,reduceSub,replicate,reduceCtorEq,reduceLeDiff,reduceLT,aa,d1,d2,d3,d4,dl,decide_true]
  ·have dl:decide (x=y)=false:=decide_eq_false hl
   rw[if_neg hl]
   refine ah fH rfl ?_;unfold eH
   simp only[sim,ag,reduceAdd,reduceSub,replicate,reduceCtorEq,reduceLeDiff,reduceLT,aa,d1,d2,d3,d4,dl,decide_true]
 have d5:decide (k=5)=false:=decide_eq_false h5
 rw[if_neg h5]
 refine ah fH rfl ?_;unfold eH
 simp only[sim,ag,reduceAdd,reduceSub,replicate,reduceCtorEq,reduceLeDiff,reduceLT,aa,d1,d2,d3,d4,d5]
abbrev iR (op k m:Int):List AV:=[.int .i64 op,.int .i64 k,.int .i64 m]
abbrev Now.stk (n:Now) (l:List VD):Now:={n with top:={n.top with stack:=l}}
theorem fk (s:St h0 F0 J0 h L) (a:At c L i n) (o:OkR c n) {st:List VD} {v:VD} (hst:n.top.stack=st++[v]):
  ∃ h' r,aj Tryz.prog po 90 [.ptr c.mb 0 0] h=some (.inl (.agg r),h')∧VaA v r∧St h0 F0 J0 h' (put c L i (n.stk st))∧At c (put c L i (n.stk st)) i (n.stk st):=by
 have hsl:=o.stk
 rw[hst]at hsl
 simp only[List.length_append,List.length_singleton]at hsl
 obtain⟨h',r,e,hv,s'⟩:=Bl s a hst o.below (by omega)
 exact⟨h',r,e,hv,s',a.put _⟩
theorem qA (s:St h0 F0 J0 h L) (a:At c L i n) (o:OkR c n) {st:List VD} {v w:VD} (hst:n.top.stack=st++[v]++[w]):
  ∃ h2 h3 rw_ rv,aj Tryz.prog po 90 [.ptr c.mb 0 0] h=some (.inl (.agg rw_),h2)∧aj Tryz.prog po 90 [.ptr c.mb 0 0] h2=some (.inl (.agg rv),h3)∧VaA w rw_∧VaA v rv∧St h0 F0 J0 h3 (put c L i (n.stk st))∧At c (put c L i (n.stk st)) i (n.stk st):=by
 have hsl:=o.stk
 rw[hst]at hsl
 simp only[List.length_append,List.length_singleton]at hsl
 obtain⟨h2,r2,e2,hw,s2⟩:=Bl s a hst o.below (by simp;omega)
 obtain⟨h3,r3,e3,hv,s3⟩:=Bl s2 (a.put (n.stk (st++[v]))) rfl o.below (by omega)
 rw[aQ]at s3
 exact⟨h2,h3,r2,r3,e2,e3,hw,hv,s3,a.put _⟩
theorem OkR.stk' {n:Now} {st:List VD} {l:List VD} (o:OkR c n) (hst:n.top.stack=st++l):OkR c (n.stk st):=by
 have hsl:=o.stk
 rw[hst]at hsl
 simp only[List.length_append]at hsl
 exact⟨o.ms,o.S,o.below,by simp only;omega,o.nms,o.log⟩
theorem Pf {p k n:Int} {v x:VD} {S:StD}:bH p 6 k n [v,x] S=if v.kind≠1∨x.kind≠1 then S.no 2 else S.ok (iH (rZ k v.n x.n)):=rfl
set_option maxHeartbeats 1000000 in
theorem KQ (s:St h0 F0 J0 h L) (a:At c L i n) (o:OkR c n) {st:List VD} {v w:VD} (hst:n.top.stack=st++[v]++[w]) (k m:Int):∃ fr h',aj Tryz.prog po jD [.ptr c.mb 0 0,.agg (iR 6 k m)] h=some (fr,h')∧bw h0 F0 J0 c L i (n.stk st) (bH n.top.plugin 6 k m [v,w] n.S) fr h':=by
 rw[Pf]
 have s1:=s.push [iR 6 k m]
 have a1:=a.cons (ai h.n [iR 6 k m])
 obtain⟨tp,tl⟩:=cK s1 a1 o.below
 have c1:=(s1.cell 0 rfl).1
 obtain⟨h2,h3,rw_,rv,e2,e3,hw,hv,s3,a3⟩:=qA s1 a1 o hst
 rw[ap]at s3 a3
 have o3:=(o.stk' (st:=st) (l:=[v]++[w]) (by rw[hst,List.append_assoc]))
 have s4:=(s3.push [zR3]).push [zR3]
 have s5:St h0 F0 J0 _ (ai (h3.n+1) [zR3]::ai h3.n [rw_]::ai h.n [iR 6 k m]::put c L i (n.stk st)):=s4.set 1 rfl [rw_]
 have s6:St h0 F0 J0 _ (ai (h3.n+1) [rv]::ai h3.n [rw_]::ai h.n [iR 6 k m]::put c L i (n.stk st)):=s5.set 0 rfl [rv]
 have a6:=(a3.cons (ai h3.n [rw_])).cons (ai (h3.n+1) [rv])
 obtain⟨o1,o2⟩:=hw.len3
 obtain⟨o5,o4⟩:=hv.len3
 have q0:=(s5.cell 0 rfl).1
 have q1:=(s6.cell 0 rfl).1
 have q2:=(s6.cell 1 rfl).1
 have q3:=(s6.cell 2 rfl).1
 generalize hh6:(((h3.push [zR3]).push [zR3]).set h3.n (some [rw_])).set (h3.n+1) (some [rv])=h6 at*
 by_cases hk:v.kind=1
 ·obtain⟨r1,ek1,hv'⟩:=dW (h:=h6) hv hk
  by_cases hk2:w.kind=1
  ·rw[if_neg (by simp[hk,hk2])]
   obtain⟨r2,ek2,hw'⟩:=dW (h:=h6) hw hk2
   obtain⟨y1,hy1,_⟩:=hv.cells3
   obtain⟨y2,hy2,_⟩:=hw.cells3
   have n1:rv[1]? =some (.int .i64 v.n):=by rw[hy1];rfl
   have n2:rw_[1]? =some (.int .i64 w.n):=by rw[hy2];rfl
   obtain⟨h7,e7,s7⟩:=dp s6 a6 o.below o3.stk (tD (rZ k v.n w.n))
   rw[ap,ap,ap,aQ]at s7
   refine⟨_,h7,?_,bw.ok s7.drop.drop.drop⟩
   refine ah cJ rfl ?_;unfold cB
   simp only[sim,ag,reduceAdd,reduceSub,replicate,reduceCtorEq,reduceLeDiff,reduceLT,aa,ay,tp,c1,Int.reduceEq,decide_false,decide_true,e2,e3,o1,o2,o5,o4,q0,hh6,q1,q2,q3,ek1,ek2,n1,n2,Br,kZ,e7]
  ·rw[if_pos (.inr hk2)]
   have ek2:=fq (h:=h6) hw hk2
   refine⟨_,_,?_,bw.no (by decide) (n.stk st) rfl s6.drop.drop.drop⟩
   refine ah cJ rfl ?_;unfold cB
   simp only[sim,ag,reduceAdd,reduceSub,replicate,reduceCtorEq,reduceLeDiff,reduceLT,aa,ay,tp,c1,Int.reduceEq,decide_false,decide_true,e2,e3,o1,o2,o5,o4,q0,hh6,q1,q2,q3,ek1,ek2]
 ·rw[if_pos (.inl hk)]
  have ek1:=fq (h:=h6) hv hk
  refine⟨_,_,?_,bw.no (by decide) (n.stk st) rfl s6.drop.drop.drop⟩
  refine ah cJ rfl ?_;unfold cB
  simp only[sim,ag,reduceAdd,reduceSub,replicate,reduceCtorEq,reduceLeDiff,reduceLT,aa,ay,tp,c1,Int.reduceEq,decide_false,decide_true,e2,e3,o1,o2,o5,o4,q0,hh6,q1,q2,q3,ek1]
end
section
variable {h h' h0:AH} {F J F0 J0:Nat→Prop} {L:List Asn} {c:Cfg} {i:Nat} {n:Now}
theorem Oh {p k n:Int} {v x:VD} {S:StD}:bH p 8 k n [v,x] S=if(VD.mk 2 0 [v,x]).code≠0 then S.no 3 else S.ok (.mk 2 0 [v,x]):=rfl
theorem NI {p k n:Int} {v:VD} {S:StD}:bH p 11 k n [v] S=if(VD.mk 3 p [v]).code≠0 then S.no 3 else S.ok (.mk 3 p [v]):=rfl
theorem Nf {p k n:Int} {v:VD} {S:StD}:bH p 12 k n [v] S=if v.kind≠3 then S.no 2 else if v.n≠p then S.no 10 else S.ok (v.l.getD 0 au):=rfl
set_option maxHeartbeats 1000000 in
theorem Kt (s:St h0 F0 J0 h L) (a:At c L i n) (o:OkR c n) {st:List VD} {v w:VD} (hst:n.top.stack=st++[v]++[w]) (k m:Int):∃ fr h',aj Tryz.prog po jD [.ptr c.mb 0 0,.agg (iR 8 k m)] h=some (fr,h')∧bw h0 F0 J0 c L i (n.stk st) (bH n.top.plugin 8 k m [v,w] n.S) fr h':=by
 rw[Oh]
 have s1:=s.push [iR 8 k m]
 have a1:=a.cons (ai h.n [iR 8 k m])
 obtain⟨tp,tl⟩:=cK s1 a1 o.below
 have c1:=(s1.cell 0 rfl).1
 obtain⟨h2,h3,rw_,rv,e2,e3,hw,hv,s3,a3⟩:=qA s1 a1 o hst
 rw[ap]at s3 a3
 have o3:=(o.stk' (st:=st) (l:=[v]++[w]) (by rw[hst,List.append_assoc]))
 have s4:=(s3.push [zR3]).push [zR3]
 have s5:St h0 F0 J0 _ (ai (h3.n+1) [zR3]::ai h3.n [rw_]::ai h.n [iR 8 k m]::put c L i (n.stk st)):=s4.set 1 rfl [rw_]
 have s6:St h0 F0 J0 _ (ai (h3.n+1) [rv]::ai h3.n [rw_]::ai h.n [iR 8 k m]::put c L i (n.stk st)):=s5.set 0 rfl [rv]
 have a6:=(a3.cons (ai h3.n [rw_])).cons (ai (h3.n+1) [rv])
 obtain⟨o1,o2⟩:=hw.len3
 obtain⟨o5,o4⟩:=hv.len3
 have q0:=(s5.cell 0 rfl).1
 have q1:=(s6.cell 0 rfl).1
 have q2:=(s6.cell 1 rfl).1
 generalize hh6:(((h3.push [zR3]).push [zR3]).set h3.n (some [rw_])).set (h3.n+1) (some [rv])=h6 at*
 have s7:=s6.fresh 2
 have a7:=a6.cons (idA h6.ids 2)
 have pv:VaA (.mk 2 0 [v,w]) [.int .i64 2,.int .i64 0,.isl (some h6.ids) tV [rv,rw_]]:=wF ⟨_,_,rfl,hv,_,_,rfl,hw,rfl⟩
 by_cases hk:(VD.mk 2 0 [v,w]).code=0
 ·rw[if_neg (by simpa using hk)]
  obtain⟨r',es,hr'⟩:=uz (h:=h6.fresh 2) pv hk
  obtain⟨h8,e8,s8⟩:=dp s7 a7 o.below o3.stk hr'
  rw[ap,ap,ap,ap,aQ]at s8
  refine⟨_,h8,?_,bw.ok s8.drop.drop.drop.drop⟩
  refine ah cJ rfl ?_;unfold cB
  simp only[sim,ag,reduceAdd,reduceSub,replicate,reduceCtorEq,reduceLeDiff,reduceLT,aa,ay,tp,c1,Int.reduceEq,decide_false,decide_true,e2,e3,o1,o2,o5,o4,q0,hh6,q1,q2,es,e8]
 ·rw[if_pos hk]
  have es:=yb (h:=h6.fresh 2) pv hk
  refine⟨_,_,?_,bw.no (by decide) (n.stk st) rfl s7.drop.drop.drop.drop⟩
  refine ah cJ rfl ?_;unfold cB
  simp only[sim,ag,reduceAdd,reduceSub,replicate,reduceCtorEq,reduceLeDiff,reduceLT,aa,ay,tp,c1,Int.reduceEq,decide_false,decide_true,e2,e3,o1,o2,o5,o4,q0,hh6,q1,q2,es]
theorem VaA.part {v:VD} {r:List AV} (hv:VaA v r) {j:Nat} {x:VD} (hx:v.l[j]? =some x):∃ lv rx,r[2]? =some lv∧(∀ q:IntKind,bX (some tV) none lv (.int q (j:Int))=some (.ip rx 0))∧ldA true 3 rx 0=some (.agg rx)∧VaA x rx:=by
 cases v with
 | mk k n l=>
   obtain⟨w,es,rfl,h1,h2⟩:=hv
   obtain⟨rx,e1,e2⟩:=h2.get hx
   rcases h1 with⟨rfl,_⟩ | ⟨id,rfl⟩
   ·simp at e1
   ·exact⟨_,rx,rfl,fun q=>xn rfl e1,bq e2.len3.1,e2⟩
set_option maxHeartbeats 1000000 in
theorem Db (s:St h0 F0 J0 h L) (a:At c L i n) (o:OkR c n) {st:List VD} {v:VD} (hst:n.top.stack=st++[v]) (hc:v.code=0) {j:Nat} (hj:j<2):∃ fr h',aj Tryz.prog po 117 [.ptr c.mb 0 0,.int .i64 (j:Int)] h=some (fr,h')∧bw h0 F0 J0 c L i (n.stk st) (if v.kind≠2 then n.S.no 2 else n.S.ok (v.l.getD j au)) fr h':=by
 obtain⟨h2,r,e2,hv,s2,a2⟩:=fk s a o hst
 have o3:=o.stk' hst
 by_cases hk:v.kind=2
 ·rw[if_neg (by simpa using hk)]
  obtain⟨x,y,hxy⟩:=(yh hc).1 hk
  obtain⟨z,hz⟩:∃ z,v.l[j]? =some z:=by rw[hxy];match j,hj with | 0,_=>exact⟨x,rfl⟩ | 1,_=>exact⟨y,rfl⟩
  have hzd:v.l.getD j au=z:=by simp[List.getD,hz]
  rw[hzd]
  obtain⟨r',ek,hr'⟩:=dW (h:=h2) hv hk
  obtain⟨o1,o2⟩:=hr'.len3
  obtain⟨lv,rz,p1,p2,p3,p4⟩:=hr'.part hz
  have s3:=s2.push [r']
  have a3:=a2.cons (ai h2.n [r'])
  have c3:=(s3.cell 0 rfl).1
  obtain⟨h4,e4,s4⟩:=dp s3 a3 o.below o3.stk p4
  rw[ap,aQ]at s4
  refine⟨_,h4,?_,bw.ok s4.drop⟩
  refine ah zW rfl ?_;unfold qQ
  simp only[sim,ag,reduceAdd,reduceSub,replicate,reduceCtorEq,reduceLeDiff,reduceLT,aa,ay,e2,ek,o1,o2,c3,p1,p2,p3,e4]
 ·rw[if_pos hk]
  have ek:=fq (h:=h2) hv hk
  refine⟨_,_,?_,bw.no (by decide) (n.stk st) rfl s2⟩
  refine ah zW rfl ?_;unfold qQ
  simp only[sim,ag,reduceAdd,reduceSub,replicate,reduceCtorEq,reduceLeDiff,reduceLT,aa,ay,e2,ek]
theorem JJ (s:St h0 F0 J0 h L) (a:At c L i n) (o:OkR c n) {st:List VD} {v:VD} (hst:n.top.stack=st++[v]) (hc:v.code=0) (k m:Int):∃ fr h',aj Tryz.prog po jD [.ptr c.mb 0 0,.agg (iR 9 k m)] h=some (fr,h')∧bw h0 F0 J0 c L i (n.stk st) (bH n.top.plugin 9 k m [v] n.S) fr h':=by
 rw[Oj]
 have s1:=s.push [iR 9 k m]
 have a1:=a.cons (ai h.n [iR 9 k m])
 obtain⟨tp,tl⟩:=cK s1 a1 o.below
 have c1:=(s1.cell 0 rfl).1
 obtain⟨fr,h2,e2,r2⟩:=Db s1 a1 o hst hc (j:=0) (by decide)
 have e2:aj Tryz.prog po 117 [.ptr c.mb 0 0,.int .i64 0] (h.push [iR 9 k m])=some (fr,h2):=e2
 refine⟨fr,h2,?_,r2.drop⟩
 rcases r2 with⟨_,rfl,_⟩ | ⟨_,rfl,_⟩
 ·refine ah cJ rfl ?_;unfold cB
  simp only[sim,ag,reduceAdd,reduceSub,replicate,reduceCtorEq,reduceLeDiff,reduceLT,aa,ay,tp,c1,Int.reduceEq,decide_false,decide_true,e2]
 ·refine ah cJ rfl ?_;unfold cB
  simp only[sim,ag,reduceAdd,reduceSub,replicate,reduceCtorEq,reduceLeDiff,reduceLT,aa,ay,tp,c1,Int.reduceEq,decide_false,decide_true,e2]
theorem IG (s:St h0 F0 J0 h L) (a:At c L i n) (o:OkR c n) {st:List VD} {v:VD} (hst:n.top.stack=st++[v]) (hc:v.code=0) (k m:Int):∃ fr h',aj Tryz.prog po jD [.ptr c.mb 0 0,.agg (iR 10 k m)] h=some (fr,h')∧bw h0 F0 J0 c L i (n.stk st) (bH n.top.plugin 10 k m [v] n.S) fr h':=by
 rw[NP]
 have s1:=s.push [iR 10 k m]
 have a1:=a.cons (ai h.n [iR 10 k m])
 obtain⟨tp,tl⟩:=cK s1 a1 o.below
 have c1:=(s1.cell 0 rfl).1
 obtain⟨fr,h2,e2,r2⟩:=Db s1 a1 o hst hc (j:=1) (by decide)
 have e2:aj Tryz.prog po 117 [.ptr c.mb 0 0,.int .i64 1] (h.push [iR 10 k m])=some (fr,h2):=e2
 refine⟨fr,h2,?_,r2.drop⟩
 rcases r2 with⟨_,rfl,_⟩ | ⟨_,rfl,_⟩
 ·refine ah cJ rfl ?_;unfold cB
  simp only[sim,ag,reduceAdd,reduceSub,replicate,reduceCtorEq,reduceLeDiff,reduceLT,aa,ay,tp,c1,Int.reduceEq,decide_false,decide_true,e2]
 ·refine ah cJ rfl ?_;unfold cB
  simp only[sim,ag,reduceAdd,reduceSub,replicate,reduceCtorEq,reduceLeDiff,reduceLT,aa,ay,tp,c1,Int.reduceEq,decide_false,decide_true,e2]
set_option maxHeartbeats 1000000 in
theorem Gv (s:St h0 F0 J0 h L) (a:At c L i n) (o:OkR c n) {st:List VD} {v:VD} (hst:n.top.stack=st++[v]) (k m:Int):∃ fr h',aj Tryz.prog po jD [.ptr c.mb 0 0,.agg (iR 11 k m)] h=some (fr,h')∧bw h0 F0 J0 c L i (n.stk st) (bH n.top.plugin 11 k m [v] n.S) fr h':=by
 rw[NI]
 have s1:=s.push [iR 11 k m]
 have a1:=a.cons (ai h.n [iR 11 k m])
 obtain⟨tp,_⟩:=cK s1 a1 o.below
 have c1:=(s1.cell 0 rfl).1
 obtain⟨h2,r,e2,hv,s2,a2⟩:=fk s1 a1 o hst
 rw[ap]at s2 a2
 have o3:=o.stk' hst
 obtain⟨o1,o2⟩:=hv.len3
 have s3:=s2.push [r]
 have a3:=a2.cons (ai h2.n [r])
 have c3:=(s3.cell 0 rfl).1
 obtain⟨_,tl3⟩:=cK s3 a3 o.below
 have s4:=s3.fresh 1
 have a4:=a3.cons (idA (h2.push [r]).ids 1)
 obtain⟨_,tl4⟩:=cK s4 a4 o.below
 have f0:aI 0 (.ptr n.fb n.below.length 0)=some (.ptr n.fb n.below.length 0):=rfl
 have pv:VaA (.mk 3 n.top.plugin [v]) [.int .i64 3,.int .i64 n.top.plugin,.isl (some h2.ids) tV [r]]:=wF ⟨_,_,rfl,hv,rfl⟩
 by_cases hk:(VD.mk 3 n.top.plugin [v]).code=0
 ·rw[if_neg (by simpa using hk)]
  obtain⟨r',es,hr'⟩:=uz (h:=(h2.push [r]).fresh 1) pv hk
  obtain⟨h5,e5,s5⟩:=dp s4 a4 o.below o3.stk hr'
  rw[ap,ap,ap,aQ]at s5
  refine⟨_,h5,?_,bw.ok s5.drop.drop.drop⟩
  refine ah cJ rfl ?_;unfold cB
  simp only[sim,ag,reduceAdd,reduceSub,replicate,reduceCtorEq,reduceLeDiff,reduceLT,aa,ay,tp,c1,Int.reduceEq,decide_false,decide_true,e2,o1,o2,c3,f0,tl3,tl4,es,e5]
 ·rw[if_pos hk]
  have es:=yb (h:=(h2.push [r]).fresh 1) pv hk
  refine⟨_,_,?_,bw.no (by decide) (n.stk st) rfl s4.drop.drop.drop⟩
  refine ah cJ rfl ?_;unfold cB
  simp only[sim,ag,reduceAdd,reduceSub,replicate,reduceCtorEq,reduceLeDiff,reduceLT,aa,ay,tp,c1,Int.reduceEq,decide_false,decide_true,e2,o1,o2,c3,f0,tl3,tl4,es]
set_option maxHeartbeats 1000000 in
theorem GZ (s:St h0 F0 J0 h L) (a:At c L i n) (o:OkR c n) {st:List VD} {v:VD} (hst:n.top.stack=st++[v]) (hc:v.code=0) (k m:Int):∃ fr h',aj Tryz.prog po jD [.ptr c.mb 0 0,.agg (iR 12 k m)] h=some (fr,h')∧bw h0 F0 J0 c L i (n.stk st) (bH n.top.plugin 12 k m [v] n.S) fr h':=by
 rw[Nf]
 have s1:=s.push [iR 12 k m]
 have a1:=a.cons (ai h.n [iR 12 k m])
 obtain⟨tp,_⟩:=cK s1 a1 o.below
 have c1:=(s1.cell 0 rfl).1
 obtain⟨h2,r,e2,hv,s2,a2⟩:=fk s1 a1 o hst
 rw[ap]at s2 a2
 have o3:=o.stk' hst
 have f0:aI 0 (.ptr n.fb n.below.length 0)=some (.ptr n.fb n.below.length 0):=rfl
 by_cases hk:v.kind=3
 ·rw[if_neg (by simpa using hk)]
  obtain⟨x,hx⟩:=(yh hc).2 hk
  have hz:v.l[0]? =some x:=by rw[hx];rfl
  have hzd:v.l.getD 0 au=x:=by rw[hx];rfl
  rw[hzd]
  obtain⟨r',ek,hr'⟩:=dW (h:=h2) hv hk
  obtain⟨o1,o2⟩:=hr'.len3
  obtain⟨lv,rz,p1,p2,p3,p4⟩:=hr'.part hz
  have p2:∀ q:IntKind,bX (some tV) none lv (.int q 0)=some (.ip rz 0):=p2
  obtain⟨w,hw,_⟩:=hr'.cells3
  have hn:r'[1]? =some (.int .i64 v.n):=by rw[hw];rfl
  have s3:=s2.push [r']
  have a3:=a2.cons (ai h2.n [r'])
  have c3:=(s3.cell 0 rfl).1
  obtain⟨_,tl3⟩:=cK s3 a3 o.below
  by_cases hp:v.n=n.top.plugin
  ·rw[if_neg (by simpa using hp)]
   have d:decide (v.n=n.top.plugin)=true:=decide_eq_true hp
   obtain⟨h4,e4,s4⟩:=dp s3 a3 o.below o3.stk p4
   rw[ap,ap,aQ]at s4
   refine⟨_,h4,?_,bw.ok s4.drop.drop⟩
   refine ah cJ rfl ?_;unfold cB
   simp only[sim,ag,reduceAdd,reduceSub,replicate,reduceCtorEq,reduceLeDiff,reduceLT,aa,ay,tp,c1,Int.reduceEq,decide_false,decide_true,e2,ek,o1,o2,c3,hn,f0,tl3,d,bZ,p1,p2,p3,e4]
  ·rw[if_pos hp]
   have d:decide (v.n=n.top.plugin)=false:=decide_eq_false hp
   refine⟨_,_,?_,bw.no (by decide) (n.stk st) rfl s3.drop.drop⟩
   refine ah cJ rfl ?_;unfold cB
   simp only[sim,ag,reduceAdd,reduceSub,replicate,reduceCtorEq,reduceLeDiff,reduceLT,aa,ay,tp,c1,Int.reduceEq,decide_false,decide_true,e2,ek,o1,o2,c3,hn,f0,tl3,d,bP]
 ·rw[if_pos hk]
  have ek:=fq (h:=h2) hv hk
  refine⟨_,_,?_,bw.no (by decide) (n.stk st) rfl s2.drop⟩
  refine ah cJ rfl ?_;unfold cB
  simp only[sim,ag,reduceAdd,reduceSub,replicate,reduceCtorEq,reduceLeDiff,reduceLT,aa,ay,tp,c1,Int.reduceEq,decide_false,decide_true,e2,ek]
theorem Lj (s:St h0 F0 J0 h L) (a:At c L i n) (o:OkR c n) (k m:Int):∃ h',aj Tryz.prog po jD [.ptr c.mb 0 0,.agg (iR 1 k m)] h=some (.inl (.tup []),h')∧St h0 F0 J0 h' (put c L i (n.stk (n.top.stack++[au]))):=by
 have s1:=s.push [iR 1 k m]
 have a1:=a.cons (ai h.n [iR 1 k m])
 obtain⟨tp,_⟩:=cK s1 a1 o.below
 have c1:=(s1.cell 0 rfl).1
 obtain⟨h2,e2,s2⟩:=dp s1 a1 o.below o.stk ee
 rw[ap]at s2
 refine⟨h2,?_,s2.drop⟩
 refine ah cJ rfl ?_;unfold cB
 simp only[sim,ag,reduceAdd,reduceSub,replicate,reduceCtorEq,reduceLeDiff,reduceLT,aa,ay,tp,c1,Int.reduceEq,decide_false,decide_true,e2]
theorem Jz (s:St h0 F0 J0 h L) (a:At c L i n) (o:OkR c n) (k m:Int):∃ h',aj Tryz.prog po jD [.ptr c.mb 0 0,.agg (iR 2 k m)] h=some (.inl (.tup []),h')∧St h0 F0 J0 h' (put c L i (n.stk (n.top.stack++[iH m]))):=by
 have s1:=s.push [iR 2 k m]
 have a1:=a.cons (ai h.n [iR 2 k m])
 obtain⟨tp,_⟩:=cK s1 a1 o.below
 have c1:=(s1.cell 0 rfl).1
 obtain⟨h2,e2,s2⟩:=dp s1 a1 o.below o.stk (tD m)
 rw[ap]at s2
 refine⟨h2,?_,s2.drop⟩
 refine ah cJ rfl ?_;unfold cB
 simp only[sim,ag,reduceAdd,reduceSub,replicate,reduceCtorEq,reduceLeDiff,reduceLT,aa,ay,tp,c1,Int.reduceEq,decide_false,decide_true,kZ,e2]
theorem Ki (s:St h0 F0 J0 h L) (a:At c L i n) (o:OkR c n) (k m:Int):∃ h',aj Tryz.prog po jD [.ptr c.mb 0 0,.agg (iR 3 k m)] h=some (.inl (.tup []),h')∧St h0 F0 J0 h' (put c L i (n.stk (n.top.stack++[n.top.arg]))):=by
 have s1:=s.push [iR 3 k m]
 have a1:=a.cons (ai h.n [iR 3 k m])
 obtain⟨tp,_⟩:=cK s1 a1 o.below
 have c1:=(s1.cell 0 rfl).1
 obtain⟨ar,sv,nv,g,mv⟩:=dv s1 (i+1) a1.m
 have f3:aI 3 (.ptr n.fb n.below.length 0)=some (.ptr n.fb n.below.length 3):=rfl
 have la:=mv.arg
 obtain⟨h2,e2,s2⟩:=dp s1 a1 o.below o.stk mv.ha
 rw[ap]at s2
 refine⟨h2,?_,s2.drop⟩
 refine ah cJ rfl ?_;unfold cB
 simp only[sim,ag,reduceAdd,reduceSub,replicate,reduceCtorEq,reduceLeDiff,reduceLT,aa,ay,tp,c1,Int.reduceEq,decide_false,decide_true,f3,la,e2]
theorem Kc (s:St h0 F0 J0 h L) (a:At c L i n) (o:OkR c n) {k:Int} (hk:0≤k∧k<n.top.names.length) (m:Int):∃ h',aj Tryz.prog po jD [.ptr c.mb 0 0,.agg (iR 4 k m)] h=some (.inl (.tup []),h')∧St h0 F0 J0 h' (put c L i (n.stk (n.top.stack++[n.top.names.getD (n.top.names.length - 1 - k.toNat) au]))):=by
 have s1:=s.push [iR 4 k m]
 have a1:=a.cons (ai h.n [iR 4 k m])
 obtain⟨tp,_⟩:=cK s1 a1 o.below
 have c1:=(s1.cell 0 rfl).1
 obtain⟨ar,sv,nv,g,mv⟩:=dv s1 (i+1) a1.m
 have f7:aI 7 (.ptr n.fb n.below.length 0)=some (.ptr n.fb n.below.length 7):=rfl
 have ln:=fun q=>mv.rd q 7 nv (ca n.top ar sv nv g mv.ha.len3.1).2.2.1
 obtain⟨p,rx,p1,p2,p3⟩:=mv.nv.2.2.2.2 .i64 (n.top.names.length - 1 - k.toNat) (n.top.names.getD (n.top.names.length - 1 - k.toNat) au) (by
  simp only[List.getD]
  rw[List.getElem?_eq_getElem (by omega)]
  rfl)
 have hn:=o.nms
 have w1:IntKind.wrap .i64 ((n.top.names.length:Int) - 1)=(n.top.names.length:Int) - 1:=w64 (by omega) (by omega)
 have w2:IntKind.wrap .i64 ((n.top.names.length:Int) - 1 - k)=((n.top.names.length - 1 - k.toNat:Nat):Int):=Bj (by omega) (by omega) (by omega)
 have lnn:=mv.nv.2.2.1
 have fn:=mv.nv.2.2.2.1
 obtain⟨h2,e2,s2⟩:=dp s1 a1 o.below o.stk p3
 rw[ap]at s2
 refine⟨h2,?_,s2.drop⟩
 refine ah cJ rfl ?_;unfold cB
 simp only[sim,ag,reduceAdd,reduceSub,replicate,reduceCtorEq,reduceLeDiff,reduceLT,aa,ay,tp,c1,Int.reduceEq,decide_false,decide_true,f7,ln,lnn,fn,w1,w2,p1,p2,e2]
end
def Jg (h0:AH) (F0 J0:Nat→Prop) (c:Cfg) (L:List Asn) (i:Nat) (q:iY) (fr:AV ⊕ AV) (h':AH):Prop:=match q with
 | .go m=>fr= .inl (.tup [])∧∃ fb',St h0 F0 J0 h' (put c L i ⟨fb',m.S,m.below,m.top⟩)
 | .fail S k=>fr= .inr (.iface tGo (.int .i64 k))∧∃ n':Now,n'.S=S∧St h0 F0 J0 h' (put c L i n')
 | .over _ _=>False
section
variable {h h' h0:AH} {F J F0 J0:Nat→Prop} {L:List Asn} {c:Cfg} {i:Nat} {n:Now}
theorem eD (M:List XD):dH (ei M)=some M.length∧(∀ s,du s (some 174) (ei M)=true)∧(ei M).one=true:=by
 unfold ei
 exact⟨by simp[dH],fun s=>jS,rfl⟩
theorem Js (e:TypeId) (rows:List (List AV)):SlA e (dD e rows) rows:=by
 unfold dD
 by_cases hz:rows=[]
 ·exact .inl ⟨hz,by rw[if_pos hz]⟩
 ·exact .inr ⟨none,by rw[if_neg hz]⟩
theorem nQ (s:St h0 F0 J0 h L) (a:At c L i n) (o:OkR c n) {p:Nat} (hp:p<4):(∀ q:IntKind,bX none (some (4,5)) (.ptr c.bb 0 2) (.int q (p:Int))=some (.ptr c.bb 0 (2+p*5)))∧(∀ k:Nat,aD false k h (.ptr c.bb 0 (2+p*5+1))=some (iT (c.ms.getD p none)))∧
  ∃ r,aD true 3 h (.ptr c.bb 0 (2+p*5+2))=some (.agg r)∧VaA (n.S.kept.getD p au) r∧aD true 5 h (.ptr c.bb 0 (2+p*5))=some (.agg (.bool (c.ms.getD p none).isSome::iT (c.ms.getD p none)::r))∧c.bb<h.n:=by
 obtain⟨F,J,x⟩:=s.get (i+1) a.b
 obtain⟨row,c1,cn,_,_,_,hpl⟩:=wy x o.len
 obtain⟨q1,q2,r,q3,q4,q5⟩:=hpl p (by rw[o.ms];exact hp)
 refine⟨fun q=>by simp[bX,hp],fun k=> ?_,r,?_,q4,?_,cn⟩
 ·rw[bC,c1,Option.bind_some,List.getElem?_cons_zero,Option.bind_some,fD,q2]
 ·rw[bC,c1,Option.bind_some,List.getElem?_cons_zero,Option.bind_some,q3]
 ·rw[bC,c1,Option.bind_some,List.getElem?_cons_zero,Option.bind_some,q5]
theorem uT {b i off k:Nat} {g:Bool} {es:List (List AV)} (hb:b<h.n):aD g k (h.push es) (.ptr b i off)=aD g k h (.ptr b i off):=by rw[bC,bC,aN hb]
abbrev zR5:List AV:=[.bool false,.nils,.int .i64 0,.int .i64 0,.nils]
theorem Gx {G:ae} {i:Int} {k:Nat} (hb:d9 (G.rights i) k=true):G.has i=true:=by
 cases h:G.has i with
 | true=>rfl
 | false=>
   have:G.rights i=0:=by unfold ae.rights;rw[if_pos (.inl (ae.path_no h))]
   rw[this]at hb
   have h2:d9 0 k=false:=by unfold d9;rw[Int.zero_ediv];decide
   rw[h2]at hb
   cases hb
def kW (h0:AH) (F0 J0:Nat→Prop) (c:Cfg) (L:List Asn) (i:Nat) (n:Now) (q:StD×rc×Int) (fr:AV ⊕ AV) (h':AH):Prop:=
 (q.2.2=0∧fr= .inl (.tup [])∧∃ fb',St h0 F0 J0 h' (put c L i ⟨fb',q.1,n.below++[n.top],⟨q.2.1.plugin,q.2.1.func,0,q.2.1.arg,[],[],true,q.2.1.gates⟩⟩))∨
 (q.2.2≠0∧fr= .inr (.iface tGo (.int .i64 q.2.2))∧∃ n':Now,n'.S=q.1∧St h0 F0 J0 h' (put c L i n'))
theorem kW.no (a:At c L i n) {q:rc} {k:Int} (hk:k≠0) (s:St h0 F0 J0 h' L):kW h0 F0 J0 c L i n (n.S,q,k) (.inr (.iface tGo (.int .i64 k))) h':= .inr ⟨hk,rfl,n,rfl,by rw[a.same];exact s⟩
set_option maxRecDepth 100000 in
set_option maxHeartbeats 2000000 in
theorem JQ (s:St h0 F0 J0 h L) (a:At c L i n) (o:OkR c n) {v x:VD} {r t:List AV} (hv:VaA v r) (hx:VaA x t):∃ fr h',aj Tryz.prog po 134 [.ptr c.mb 0 0,.agg r,.agg t] h=some (fr,h')∧kW h0 F0 J0 c L i n (eX c.ms v x (n.below.length+1) n.S) fr h':=by
 unfold eX
 simp only
 have s1:=(s.push [r]).push [t]
 have a1:=(a.cons (ai h.n [r])).cons (ai (h.push [r]).n [t])
 obtain⟨o1,o2⟩:=hv.len3
 obtain⟨o3,o4⟩:=hx.len3
 have c1:((h.push [r]).push [t]).cell h.n=some [r]:=(s1.cell 1 rfl).1
 have c2:((h.push [r]).push [t]).cell (h.n+1)=some [t]:=(s1.cell 0 rfl).1
 by_cases hk:v.kind=4
 case neg=>
  rw[if_pos hk]
  have ek:=fq (h:=(h.push [r]).push [t]) hv hk
  refine⟨_,_,?_,kW.no a (by decide) s1.drop.drop⟩
  refine ah jw rfl ?_;unfold iE
  simp only[sim,ag,reduceAdd,reduceSub,replicate,reduceCtorEq,reduceLeDiff,reduceLT,aa,ay,o1,o2,o3,o4,c1,c2,ek]
 rw[if_neg (by simpa using hk)]
 obtain⟨r',ek,hv'⟩:=dW (h:=(h.push [r]).push [t]) hv hk
 have ec:=sJ s1 a1.m a1.b a1.g o.len o.S.wf hv' (k:=3) (q:=8) (by decide) (by decide)
 by_cases hb:d9 (n.S.G.rights v.n) 3=true
 case neg=>
  rw[if_neg hb]at ec
  rw[if_pos (by simpa using hb)]
  refine⟨_,_,?_,kW.no a (by decide) s1.drop.drop⟩
  refine ah jw rfl ?_;unfold iE
  simp only[sim,ag,reduceAdd,reduceSub,replicate,reduceCtorEq,reduceLeDiff,reduceLT,aa,ay,o1,o2,o3,o4,c1,c2,ek,ec]
 rw[if_pos hb]at ec
 rw[if_neg (by simp[hb])]
 obtain⟨_,_,ht⟩:=ae.target_ok o.S.wf (Gx hb)
 generalize (n.S.G.target v.n).1=T at*
 obtain⟨t1,t2,t3,t4,t5,t6⟩:=T
 simp only[aL]at ht ec ⊢
 generalize hN:([.int .i64 t1,.int .i64 t2,.int .i64 t3,.int .i64 t4,.int .i64 t5,.int .i64 t6]:List AV)=N at*
 have n4:N[4]? =some (.int .i64 t5):=by rw[←hN];rfl
 have n5:N[5]? =some (.int .i64 t6):=by rw[←hN];rfl
 have nl:N.length=6:=by rw[←hN];rfl
 have no:N.all AV.one=true:=by rw[←hN];rfl
 have s2:=s1.push [N]
 have a2:=a1.cons (ai ((h.push [r]).push [t]).n [N])
 have c3:=(s2.cell 0 rfl).1
 simp only[aJ]at c3
 by_cases hp:t5<0
 ·rw[if_pos hp]
  have d:decide (t5<0)=true:=decide_eq_true hp
  refine⟨_,_,?_,kW.no a (by decide) s2.drop.drop.drop⟩
  refine ah jw rfl ?_;unfold iE
  simp only[sim,ag,reduceAdd,reduceSub,replicate,reduceCtorEq,reduceLeDiff,reduceLT,aa,ay,o1,o2,o3,o4,c1,c2,ek,ec,nl,no,n4,d,bP]
 rw[if_neg hp]
 obtain⟨P,rfl⟩:=Int.eq_ofNat_of_zero_le (show 0≤t5 by omega)
 have d:decide ((P:Int)<0)=false:=decide_eq_false (by omega)
 have hP4:P<4:=by omega
 rw[Int.toNat_natCast]
 -- the plugin is looked at
 have s3':=s2.push [zR5]
 have a3':=a2.cons (ai (((h.push [r]).push [t]).push [N]).n [zR5])
 obtain⟨l0,_,_⟩:=cX s2 a2 o.len
 obtain⟨l0',_,_⟩:=cX s3' a3' o.len
 obtain⟨ix,_,kr,_,hkr,l5,bn⟩:=nQ s2 a2 o hP4
 have l5':aD true 5 ((((h.push [r]).push [t]).push [N]).push [zR5]) (.ptr c.bb 0 (2+P*5))=_:=(uT bn).trans l5
 have fa0:aI 0 (.ptr c.mb 0 0)=some (.ptr c.mb 0 0):=rfl
 have fa1:aI 2 (.ptr c.bb 0 0)=some (.ptr c.bb 0 2):=rfl
 have fa2:aI 1 (.ptr c.mb 0 0)=some (.ptr c.mb 0 1):=rfl
 have fa3:aI 0 (.ptr c.bb 0 0)=some (.ptr c.bb 0 0):=rfl
 have c3':=(s3'.cell 1 rfl).1
 have c7:=(s3'.cell 0 rfl).1
 have m4:∀ x,((((h.push [r]).push [t]).push [N]).push [zR5]).set (h.n+1+1+1) (some x)=(((h.push [r]).push [t]).push [N]).push x:=fun x=>bm (h:=((h.push [r]).push [t]).push [N])
 simp only[aJ]at c3' c7
 generalize hM:c.ms.getD P none=M at*
 have oc:(iT M).one=true:=by cases M<;>first | rfl | exact(eD _).2.2
 obtain⟨k1,k2⟩:=hkr.len3
 generalize hq:AV.bool M.isSome::iT M::kr=pl at*
 have p0:pl[0]? =some (.bool M.isSome):=by rw[←hq];rfl
 have p1:pl[1]? =some (iT M):=by rw[←hq];rfl
 have pl5:pl.length=5:=by rw[←hq];simp[k1]
 have po':pl.all AV.one=true:=by rw[←hq];simp only[List.all_cons,oc,k2,Bool.and_true];rfl
 have s3:St h0 F0 J0 _ (ai (h.n+1+1+1) [pl]::ai (h.n+1+1) [N]::ai (h.n+1) [t]::ai h.n [r]::L):=s2.push [pl]
 have a3:=a2.cons (ai (h.n+1+1+1) [pl])
 have c4:=(s3.cell 0 rfl).1
 have c5:=(s3.cell 1 rfl).1
 have c6:=(s3.cell 2 rfl).1
 have hfM:cH c.ms (P:Int)=M.getD []:=by unfold cH;rw[Int.toNat_natCast,hM]
 by_cases hcode:M.isNone∨((cH c.ms (P:Int)).length:Int)≤t6∨t6<0
 ·rw[if_pos hcode]
  refine⟨_,_,?_,kW.no a (by decide) s3.drop.drop.drop.drop⟩
  cases M with
  | none=>
    simp only[Option.isSome_none]at p0
    refine ah jw rfl ?_;unfold iE
    simp only[sim,ag,reduceAdd,reduceSub,replicate,reduceCtorEq,reduceLeDiff,reduceLT,aa,ay,o1,o2,o3,o4,c1,c2,ek,ec,nl,no,n4,n5,d,bZ,bP,fa0,fa1,l0,l0',ix,l5,l5',c3,c3',pl5,po',c7,m4,c4,c5,p0]
  | some M=>
    simp only[Option.isSome_some]at p0
    have d2:decide ((M.length:Int)≤t6)=true:=by
     refine decide_eq_true ?_
     rw[hfM]at hcode
     simp only[Option.getD_some]at hcode
     rcases hcode with h | h | h
     ·cases h
     ·exact h
     ·omega
    obtain⟨m1,m2,_⟩:=eD M
    simp only[iT]at p1
    refine ah jw rfl ?_;unfold iE
    simp only[sim,ag,reduceAdd,reduceSub,replicate,reduceCtorEq,reduceLeDiff,reduceLT,aa,ay,o1,o2,o3,o4,c1,c2,ek,ec,nl,no,n4,n5,d,bZ,bP,fa0,fa1,l0,l0',ix,l5,l5',c3,c3',pl5,po',c7,m4,c4,c5,p0,p1,m1,m2,d2]
 rw[if_neg hcode]
 obtain⟨M,rfl⟩:∃ M',M=some M':=by
  cases M with
  | none=>exact absurd (.inl rfl) hcode
  | some M=>exact⟨M,rfl⟩
 simp only[Option.isSome_some]at p0
 have d2:decide ((M.length:Int)≤t6)=false:=by
  refine decide_eq_false fun h=>hcode (.inr (.inl ?_))
  rw[hfM]
  exact h
 obtain⟨m1,m2,_⟩:=eD M
 simp only[iT]at p1
 obtain⟨l0'',l1'',_⟩:=cX s3 a3 o.len
 obtain⟨_,_,_,_,mv⟩:=dv s3 (i+4) a3.m
 have lm:∀ k:Nat,aD false k ((((h.push [r]).push [t]).push [N]).push [pl]) (.ptr c.mb 0 1)=some (.msl n.fb 0 (n.below.length+1) tFr):=fun k=>by
  rw[bC,mv.m];rfl
 by_cases h20:n.below.length+1=20
 ·rw[if_pos h20]
  have d3:decide (((n.below.length+1:Nat):Int)=20)=true:=decide_eq_true (by omega)
  refine⟨_,_,?_,kW.no a (by decide) s3.drop.drop.drop.drop⟩
  refine ah jw rfl ?_;unfold iE
  simp only[sim,ag,reduceAdd,reduceSub,replicate,reduceCtorEq,reduceLeDiff,reduceLT,aa,ay,o1,o2,o3,o4,c1,c2,ek,ec,nl,no,n4,n5,d,bZ,bP,fa0,fa1,fa2,l0,l0',l0'',ix,l5,l5',c3,c3',pl5,po',c7,m4,c4,c5,p0,p1,m1,m2,d2,lm,d3]
 rw[if_neg h20]
 have d3:decide (((n.below.length+1:Nat):Int)=20)=false:=decide_eq_false (by omega)
 -- the argument goes across
 obtain⟨F1,J1,gx⟩:=s3.get (i+1+1+1+1+2) a3.g
 have gg:=JV (gx:IsG _ F1 J1 c.gb n.S.G) o.S.wf v.n
 have gs:SlA 3 (dD 3 ((n.S.G.gatesC v.n).map fun x=>[.int .i64 x])) (bh (n.S.G.gatesC v.n)):=Js _ _
 have gfew:=vF (i:=v.n) o.S.wf
 generalize dD 3 ((n.S.G.gatesC v.n).map fun x=>[.int .i64 x])=gv at*
 generalize n.S.G.gatesC v.n=ks at*
 obtain⟨h4,⟨y,e4,hy⟩,s4⟩:=lG s3 a3 (R:=fun h'=>∃ r',aj Tryz.prog po 113 [.ptr c.gb 0 0,.agg t,gv] ((((h.push [r]).push [t]).push [N]).push [pl])=some (.inl (.tup [.agg r',.int .i64 (aV ks n.S.G x).2.2]),h')∧VaA (aV ks n.S.G x).2.1 r') fun F J gx=>qP gx o.S.wf hx gs (by omega)
 generalize aV ks n.S.G x=q at*
 obtain⟨G',y',cc⟩:=q
 simp only at e4 hy s4 ⊢
 have a4:=a3.put {n with S:={n.S with G:=G'}}
 rw[ap,ap,ap,ap]at s4 a4
 obtain⟨z1,z2⟩:=hy.len3
 have s5':=s4.push [zR3]
 have a5':=a4.cons (ai h4.n [zR3])
 obtain⟨n0,n1,_⟩:=cX s5' a5' o.len
 have d0:=(s5'.cell 3 rfl).1
 have s5:=s4.push [y]
 have a5:=a4.cons (ai h4.n [y])
 have d1:=(s5.cell 0 rfl).1
 have d2':=(s5.cell 2 rfl).1
 have hfo:(gv).one=true:=by rcases gs with⟨_,rfl⟩ | ⟨id,rfl⟩<;>rfl
 have hgc:gv.cells=[gv]:=by rcases gs with⟨_,rfl⟩ | ⟨id,rfl⟩<;>rfl
 by_cases hcc:cc=0
 ·subst hcc
  have d5:decide ((0:Int)=0)=true:=rfl
  obtain⟨_,ec6⟩:=yT s5 a5 o.below (f:=⟨P,t6,0,y',[],[],true,ks⟩) (ar:=y) (g:=gv) hy gs rfl rfl
  obtain⟨h6,fb',e6,s6⟩:=ec6 h20
  rw[ap,ap,ap,ap,ap,aQ]at s6
  refine⟨_,h6,?_,.inl ⟨rfl,rfl,fb',s6.drop.drop.drop.drop.drop⟩⟩
  obtain⟨y0,y1,y2,rfl⟩:∃ a b c,y=[a,b,c]:=by match y,z1 with | [a,b,c],_=>exact⟨a,b,c,rfl⟩
  simp only[List.all_cons,List.all_nil,Bool.and_true,Bool.and_eq_true]at z2
  obtain⟨z3,z4,z5⟩:=z2
  simp only[cP,Int.natCast_zero,List.cons_append,List.nil_append]at e6
  refine ah jw rfl ?_;unfold iE
  simp only[sim,ag,reduceAdd,reduceSub,replicate,reduceCtorEq,reduceLeDiff,reduceLT,aa,ay,o1,o2,o3,o4,c1,c2,ek,ec,nl,no,n4,n5,d,bZ,bP,fa0,fa1,fa2,fa3,l0,l0',l0'',l1'',ix,l5,l5',c3,c3',pl5,po',c7,m4,c4,c5,c6,p0,p1,m1,m2,d2,lm,d3,gg,e4,n0,n1,d0,d1,d2',d5,z3,z4,z5,hfo,hgc,e6]
 ·have d5:decide (cc=0)=false:=decide_eq_false hcc
  refine⟨_,_,?_,.inr ⟨hcc,rfl,{n with S:={n.S with G:=G'}},rfl,s5.drop.drop.drop.drop.drop⟩⟩
  refine ah jw rfl ?_;unfold iE
  simp only[sim,ag,reduceAdd,reduceSub,replicate,reduceCtorEq,reduceLeDiff,reduceLT,aa,ay,o1,o2,o3,o4,c1,c2,ek,ec,nl,no,n4,n5,d,bZ,bP,fa0,fa1,fa2,fa3,l0,l0',l0'',l1'',ix,l5,l5',c3,c3',pl5,po',c7,m4,c4,c5,c6,p0,p1,m1,m2,d2,lm,d3,gg,e4,n0,n1,d0,d1,d2',d5,z1,z2]
end
abbrev PI:FuncId:=118
section
variable {h h' h0:AH} {F J F0 J0:Nat→Prop} {L:List Asn} {c:Cfg} {i:Nat} {n:Now}
theorem cT (s:St h0 F0 J0 h L) (a:At c L i n) (o:OkR c n) {op k m:Int} (hop:13≤op) {fr:AV ⊕ AV} (e:aj Tryz.prog po PI [.ptr c.mb 0 0,.agg (iR op k m)] (h.push [iR op k m])=some (fr,h')) (hfr:fr= .inl (.tup [])∨∃ v,fr= .inr v):
  aj Tryz.prog po jD [.ptr c.mb 0 0,.agg (iR op k m)] h=some (fr,h'):=by
 have s1:=s.push [iR op k m]
 have a1:=a.cons (ai h.n [iR op k m])
 obtain⟨tp,_⟩:=cK s1 a1 o.below
 have c1:=(s1.cell 0 rfl).1
 have d:∀ j:Int,j<13→decide (op=j)=false:=fun j hj=>decide_eq_false (by omega)
 have e1:=d 1 (by decide);have e2:=d 2 (by decide);have e3:=d 3 (by decide);have e4:=d 4 (by decide);have e6:=d 6 (by decide);have e8:=d 8 (by decide);have e9:=d 9 (by decide);have e10:=d 10 (by decide);have e11:=d 11 (by decide);have e12:=d 12 (by decide)
 rcases hfr with rfl | ⟨v,rfl⟩
 ·refine ah cJ rfl ?_;unfold cB
  simp only[sim,ag,reduceAdd,reduceSub,replicate,reduceCtorEq,reduceLeDiff,reduceLT,aa,ay,tp,c1,e1,e2,e3,e4,e6,e8,e9,e10,e11,e12,e]
 ·refine ah cJ rfl ?_;unfold cB
  simp only[sim,ag,reduceAdd,reduceSub,replicate,reduceCtorEq,reduceLeDiff,reduceLT,aa,ay,tp,c1,e1,e2,e3,e4,e6,e8,e9,e10,e11,e12,e]
theorem bw.fr {q:StD×VD×Int} {fr:AV ⊕ AV} (r:bw h0 F0 J0 c L i n q fr h'):fr= .inl (.tup [])∨∃ v,fr= .inr v:=by
 rcases r with⟨_,b,_⟩ | ⟨_,b,_⟩
 ·exact .inl b
 ·exact .inr ⟨_,b⟩
theorem bw.put {q:StD×VD×Int} {n1:Now} {fr:AV ⊕ AV} (r:bw h0 F0 J0 c (put c L i n1) i n q fr h'):bw h0 F0 J0 c L i n q fr h':=by
 rcases r with⟨x,y,z⟩ | ⟨x,y,n',z,w⟩
 ·exact .inl ⟨x,y,by rw[aQ]at z;exact z⟩
 ·exact .inr ⟨x,y,n',z,by rw[aQ]at w;exact w⟩
theorem kW.put {q:StD×rc×Int} {n1:Now} {fr:AV ⊕ AV} (r:kW h0 F0 J0 c (put c L i n1) i n q fr h'):kW h0 F0 J0 c L i n q fr h':=by
 rcases r with⟨x,y,fb,z⟩ | ⟨x,y,n',z,w⟩
 ·exact .inl ⟨x,y,fb,by rw[aQ]at z;exact z⟩
 ·exact .inr ⟨x,y,n',z,by rw[aQ]at w;exact w⟩
theorem kW.drop {X:Asn} {q:StD×rc×Int} {fr:AV ⊕ AV} (r:kW h0 F0 J0 c (X::L) (i+1) n q fr h'):kW h0 F0 J0 c L i n q fr h':=by
 rcases r with⟨x,y,fb,z⟩ | ⟨x,y,n',z,w⟩
 ·exact .inl ⟨x,y,fb,z.drop⟩
 ·exact .inr ⟨x,y,n',z,w.drop⟩
theorem iF (s:St h0 F0 J0 h L) (a:At c L i n) (o:OkR c n) (op k m:Int):St h0 F0 J0 ((h.push [iR op k m]).push [iR op k m]) (ai (h.n+1) [iR op k m]::ai h.n [iR op k m]::L)∧At c (ai (h.n+1) [iR op k m]::ai h.n [iR op k m]::L) (i+1+1) n∧
  aj Tryz.prog po HV [.ptr c.mb 0 0] ((h.push [iR op k m]).push [iR op k m])=some (.inl (.ptr n.fb n.below.length 0),(h.push [iR op k m]).push [iR op k m])∧(∀ k':Nat,aD false k' ((h.push [iR op k m]).push [iR op k m]) (.ptr n.fb n.below.length 0)=some (.int .i64 n.top.plugin))∧((h.push [iR op k m]).push [iR op k m]).cell (h.n+1)=some [iR op k m]:=by
 have s1:=(s.push [iR op k m]).push [iR op k m]
 have a1:=(a.cons (ai h.n [iR op k m])).cons (ai (h.n+1) [iR op k m])
 obtain⟨tp,tl⟩:=cK s1 a1 o.below
 exact⟨s1,a1,tp,tl,(s1.cell 0 rfl).1⟩
theorem IS (s:St h0 F0 J0 h L) (a:At c L i n) (o:OkR c n) {st:List VD} {v:VD} (hst:n.top.stack=st++[v]) (k m:Int):∃ fr h',aj Tryz.prog po jD [.ptr c.mb 0 0,.agg (iR 13 k m)] h=some (fr,h')∧bw h0 F0 J0 c L i (n.stk st) (bH n.top.plugin 13 k m [v] n.S) fr h':=by
 obtain⟨s1,a1,tp,_,c1⟩:=iF s a o 13 k m
 obtain⟨h2,r,e2,hv,s2,a2⟩:=fk s1 a1 o hst
 obtain⟨fr,h3,e3,r3⟩:=He s2 a2 (o.stk' hst) hv k m
 have r4:=r3.put.drop.drop
 refine⟨fr,h3,cT s a o (by decide) ?_ r4.fr,r4⟩
 rcases r4.fr with rfl | ⟨u,rfl⟩
 ·refine ah bN rfl ?_;unfold bG
  simp only[sim,ag,reduceAdd,reduceSub,replicate,reduceCtorEq,reduceLeDiff,reduceLT,aa,ay,tp,c1,Int.reduceEq,decide_false,decide_true,e2,e3]
 ·refine ah bN rfl ?_;unfold bG
  simp only[sim,ag,reduceAdd,reduceSub,replicate,reduceCtorEq,reduceLeDiff,reduceLT,aa,ay,tp,c1,Int.reduceEq,decide_false,decide_true,e2,e3]
theorem HL (s:St h0 F0 J0 h L) (a:At c L i n) (o:OkR c n) {st:List VD} {v:VD} (hst:n.top.stack=st++[v]) (k m:Int):∃ fr h',aj Tryz.prog po jD [.ptr c.mb 0 0,.agg (iR 16 k m)] h=some (fr,h')∧bw h0 F0 J0 c L i (n.stk st) (bH n.top.plugin 16 k m [v] n.S) fr h':=by
 obtain⟨s1,a1,tp,_,c1⟩:=iF s a o 16 k m
 obtain⟨h2,r,e2,hv,s2,a2⟩:=fk s1 a1 o hst
 obtain⟨fr,h3,e3,r3⟩:=G8 s2 a2 (o.stk' hst) hv k m
 have r4:=r3.put.drop.drop
 refine⟨fr,h3,cT s a o (by decide) ?_ r4.fr,r4⟩
 rcases r4.fr with rfl | ⟨u,rfl⟩
 ·refine ah bN rfl ?_;unfold bG
  simp only[sim,ag,reduceAdd,reduceSub,replicate,reduceCtorEq,reduceLeDiff,reduceLT,aa,ay,tp,c1,Int.reduceEq,decide_false,decide_true,e2,e3]
 ·refine ah bN rfl ?_;unfold bG
  simp only[sim,ag,reduceAdd,reduceSub,replicate,reduceCtorEq,reduceLeDiff,reduceLT,aa,ay,tp,c1,Int.reduceEq,decide_false,decide_true,e2,e3]
theorem zZ {h3:AH} {L3:List Asn} (s3:St h0 F0 J0 h3 L3) (x y:List AV):St h0 F0 J0 ((((h3.push [zR3]).push [zR3]).set h3.n (some [x])).set (h3.n+1) (some [y])) (ai (h3.n+1) [y]::ai h3.n [x]::L3)∧(((h3.push [zR3]).push [zR3]).set h3.n (some [x])).cell (h3.n+1)=some [zR3]:=by
 have s4:=(s3.push [zR3]).push [zR3]
 have s5:St h0 F0 J0 _ (ai (h3.n+1) [zR3]::ai h3.n [x]::L3):=s4.set 1 rfl [x]
 exact⟨s5.set 0 rfl [y],(s5.cell 0 rfl).1⟩
set_option maxHeartbeats 1000000 in
theorem HO (s:St h0 F0 J0 h L) (a:At c L i n) (o:OkR c n) {st:List VD} {v w:VD} (hst:n.top.stack=st++[v]++[w]) (k m:Int):∃ fr h',aj Tryz.prog po jD [.ptr c.mb 0 0,.agg (iR 14 k m)] h=some (fr,h')∧bw h0 F0 J0 c L i (n.stk st) (bH n.top.plugin 14 k m [v,w] n.S) fr h':=by
 obtain⟨s1,a1,tp,_,c1⟩:=iF s a o 14 k m
 obtain⟨h2,h3,rw_,rv,e2,e3,hw,hv,s3,a3⟩:=qA s1 a1 o hst
 have o3:=(o.stk' (st:=st) (l:=[v]++[w]) (by rw[hst,List.append_assoc]))
 obtain⟨o1,o2⟩:=hw.len3
 obtain⟨o5,o4⟩:=hv.len3
 obtain⟨s6,q0⟩:=zZ s3 rw_ rv
 have a6:=(a3.cons (ai h3.n [rw_])).cons (ai (h3.n+1) [rv])
 have q1:=(s6.cell 0 rfl).1
 have q2:=(s6.cell 1 rfl).1
 generalize hh6:(((h3.push [zR3]).push [zR3]).set h3.n (some [rw_])).set (h3.n+1) (some [rv])=h6 at*
 obtain⟨fr,h7,e7,r7⟩:=Fc s6 a6 o3 hv hw k m
 have r8:=r7.drop.drop.put.drop.drop
 refine⟨fr,h7,cT s a o (by decide) ?_ r8.fr,r8⟩
 rcases r8.fr with rfl | ⟨u,rfl⟩
 ·refine ah bN rfl ?_;unfold bG
  simp only[sim,ag,reduceAdd,reduceSub,replicate,reduceCtorEq,reduceLeDiff,reduceLT,aa,ay,tp,c1,Int.reduceEq,decide_false,decide_true,e2,e3,o1,o2,o4,o5,q0,hh6,q1,q2,e7]
 ·refine ah bN rfl ?_;unfold bG
  simp only[sim,ag,reduceAdd,reduceSub,replicate,reduceCtorEq,reduceLeDiff,reduceLT,aa,ay,tp,c1,Int.reduceEq,decide_false,decide_true,e2,e3,o1,o2,o4,o5,q0,hh6,q1,q2,e7]
set_option maxHeartbeats 1000000 in
theorem Ic (s:St h0 F0 J0 h L) (a:At c L i n) (o:OkR c n) {st:List VD} {v w:VD} (hst:n.top.stack=st++[v]++[w]) (k m:Int):∃ fr h',aj Tryz.prog po jD [.ptr c.mb 0 0,.agg (iR 19 k m)] h=some (fr,h')∧kW h0 F0 J0 c L i (n.stk st) (eX c.ms v w (n.below.length+1) n.S) fr h':=by
 obtain⟨s1,a1,tp,_,c1⟩:=iF s a o 19 k m
 obtain⟨h2,h3,rw_,rv,e2,e3,hw,hv,s3,a3⟩:=qA s1 a1 o hst
 have o3:=(o.stk' (st:=st) (l:=[v]++[w]) (by rw[hst,List.append_assoc]))
 obtain⟨o1,o2⟩:=hw.len3
 obtain⟨o5,o4⟩:=hv.len3
 obtain⟨s6,q0⟩:=zZ s3 rw_ rv
 have a6:=(a3.cons (ai h3.n [rw_])).cons (ai (h3.n+1) [rv])
 have q1:=(s6.cell 0 rfl).1
 have q2:=(s6.cell 1 rfl).1
 generalize hh6:(((h3.push [zR3]).push [zR3]).set h3.n (some [rw_])).set (h3.n+1) (some [rv])=h6 at*
 obtain⟨fr,h7,e7,r7⟩:=JQ s6 a6 o3 hv hw
 have r8:=r7.drop.drop.put.drop.drop
 have hfr:fr= .inl (.tup [])∨∃ v,fr= .inr v:=by
  rcases r8 with⟨_,b,_⟩ | ⟨_,b,_⟩
  ·exact .inl b
  ·exact .inr ⟨_,b⟩
 refine⟨fr,h7,cT s a o (by decide) ?_ hfr,r8⟩
 rcases hfr with rfl | ⟨u,rfl⟩
 ·refine ah bN rfl ?_;unfold bG
  simp only[sim,ag,reduceAdd,reduceSub,replicate,reduceCtorEq,reduceLeDiff,reduceLT,aa,ay,tp,c1,Int.reduceEq,decide_false,decide_true,e2,e3,o1,o2,o4,o5,q0,hh6,q1,q2,e7]
 ·refine ah bN rfl ?_;unfold bG
  simp only[sim,ag,reduceAdd,reduceSub,replicate,reduceCtorEq,reduceLeDiff,reduceLT,aa,ay,tp,c1,Int.reduceEq,decide_false,decide_true,e2,e3,o1,o2,o4,o5,q0,hh6,q1,q2,e7]
theorem NT {p k n:Int} {v:VD} {S:StD}:bH p 15 k n [v] S=if v.kind≠4 then S.no 2 else xJ S (S.G.derive v.n k (-1)):=rfl
theorem NL {p k n:Int} {v:VD} {S:StD}:bH p 17 k n [v] S=if v.kind≠5 then S.no 2 else({S with G:=(S.G.cut v.n).1}:StD).ok au:=rfl
theorem NH {p k n:Int} {v:VD} {S:StD}:bH p 20 k n [v] S=({S with kept:=S.kept.set p.toNat v}:StD).ok (S.kept.getD p.toNat au):=rfl
set_option maxHeartbeats 1000000 in
theorem GC (s:St h0 F0 J0 h L) (a:At c L i n) (o:OkR c n) {st:List VD} {v:VD} (hst:n.top.stack=st++[v]) (k m:Int):∃ fr h',aj Tryz.prog po jD [.ptr c.mb 0 0,.agg (iR 15 k m)] h=some (fr,h')∧bw h0 F0 J0 c L i (n.stk st) (bH n.top.plugin 15 k m [v] n.S) fr h':=by
 rw[NT]
 obtain⟨s1,a1,tp,_,c1⟩:=iF s a o 15 k m
 obtain⟨h2,r,e2,hv,s2,a2⟩:=fk s1 a1 o hst
 have o3:=o.stk' hst
 rw[ap,ap]at s2 a2
 have c2:=(s2.cell 0 rfl).1
 by_cases hk:v.kind=4
 ·rw[if_neg (by simpa using hk)]
  obtain⟨r',ek,hv'⟩:=dW (h:=h2) hv hk
  obtain⟨h3,e3,s3⟩:=qb s2 a2 o.len o.S.wf hv' k (-1)
  have a3:=a2.put {(n.stk st)with S:={n.S with G:=(n.S.G.derive v.n k (-1)).1}}
  unfold xJ
  by_cases hc:(n.S.G.derive v.n k (-1)).2.2=0
  ·rw[if_pos hc]at e3
   rw[if_neg (by simpa using hc)]
   obtain⟨h4,e4,s4⟩:=dp s3 a3 o.below o3.stk (wE (n.S.G.derive v.n k (-1)).2.1)
   rw[aQ,ap,ap,aQ]at s4
   have r8:bw h0 F0 J0 c L i (n.stk st) _ _ h4:=bw.ok s4.drop.drop
   refine⟨_,h4,cT s a o (by decide) ?_ r8.fr,r8⟩
   refine ah bN rfl ?_;unfold bG
   simp only[sim,ag,reduceAdd,reduceSub,replicate,reduceCtorEq,reduceLeDiff,reduceLT,aa,ay,tp,c1,Int.reduceEq,decide_false,decide_true,e2,c2,ek,e3,e4]
  ·rw[if_neg hc]at e3
   rw[if_pos hc]
   rw[ap,ap,aQ]at s3
   have r8:bw h0 F0 J0 c L i (n.stk st) _ _ h3:=bw.no (S:={n.S with G:=(n.S.G.derive v.n k (-1)).1}) hc {(n.stk st)with S:={n.S with G:=(n.S.G.derive v.n k (-1)).1}} rfl s3.drop.drop
   refine⟨_,h3,cT s a o (by decide) ?_ r8.fr,r8⟩
   refine ah bN rfl ?_;unfold bG
   simp only[sim,ag,reduceAdd,reduceSub,replicate,reduceCtorEq,reduceLeDiff,reduceLT,aa,ay,tp,c1,Int.reduceEq,decide_false,decide_true,e2,c2,ek,e3]
 ·rw[if_pos hk]
  have ek:=fq (h:=h2) hv hk
  have r8:bw h0 F0 J0 c L i (n.stk st) _ _ h2:=bw.no (S:=n.S) (k:=2) (by decide) (n.stk st) rfl s2.drop.drop
  refine⟨_,h2,cT s a o (by decide) ?_ r8.fr,r8⟩
  refine ah bN rfl ?_;unfold bG
  simp only[sim,ag,reduceAdd,reduceSub,replicate,reduceCtorEq,reduceLeDiff,reduceLT,aa,ay,tp,c1,Int.reduceEq,decide_false,decide_true,e2,c2,ek]
set_option maxHeartbeats 1000000 in
theorem Hr (s:St h0 F0 J0 h L) (a:At c L i n) (o:OkR c n) {st:List VD} {v:VD} (hst:n.top.stack=st++[v]) (k m:Int):∃ fr h',aj Tryz.prog po jD [.ptr c.mb 0 0,.agg (iR 17 k m)] h=some (fr,h')∧bw h0 F0 J0 c L i (n.stk st) (bH n.top.plugin 17 k m [v] n.S) fr h':=by
 rw[NL]
 obtain⟨s1,a1,tp,_,c1⟩:=iF s a o 17 k m
 obtain⟨l0,l1,_⟩:=cX s1 a1 o.len
 obtain⟨h2,r,e2,hv,s2,a2⟩:=fk s1 a1 o hst
 have o3:=o.stk' hst
 obtain⟨l2,l3,_⟩:=cX s2 a2 o.len
 rw[ap,ap]at s2 a2
 have f0:aI 0 (.ptr c.mb 0 0)=some (.ptr c.mb 0 0):=rfl
 have f1:aI 0 (.ptr c.bb 0 0)=some (.ptr c.bb 0 0):=rfl
 by_cases hk:v.kind=5
 ·rw[if_neg (by simpa using hk)]
  obtain⟨r',ek,hv'⟩:=dW (h:=h2) hv hk
  obtain⟨w,hw,_⟩:=hv'.cells3
  have fl:K0 false 1 1 (.agg r')=some (.int .i64 v.n):=by rw[hw];rfl
  obtain⟨h3,e3,s3⟩:=lG s2 a2 (R:=fun h'=>aj Tryz.prog po 62 [.ptr c.gb 0 0,.int .i64 v.n] h2=some (.inl (.int .i64 (n.S.G.cut v.n).2),h')) fun F J x=>Mn x v.n
  have a3:=a2.put {(n.stk st)with S:={n.S with G:=(n.S.G.cut v.n).1}}
  obtain⟨h4,e4,s4⟩:=dp s3 a3 o.below o3.stk ee
  rw[aQ,ap,ap,aQ]at s4
  have r8:bw h0 F0 J0 c L i (n.stk st) _ _ h4:=bw.ok (S:={n.S with G:=(n.S.G.cut v.n).1}) (v:=au) s4.drop.drop
  refine⟨_,h4,cT s a o (by decide) ?_ r8.fr,r8⟩
  refine ah bN rfl ?_;unfold bG
  simp only[sim,ag,reduceAdd,reduceSub,replicate,reduceCtorEq,reduceLeDiff,reduceLT,aa,ay,tp,c1,Int.reduceEq,decide_false,decide_true,f0,f1,l0,l1,l2,l3,e2,ek,fl,e3,e4]
 ·rw[if_pos hk]
  have ek:=fq (h:=h2) hv hk
  have r8:bw h0 F0 J0 c L i (n.stk st) _ _ h2:=bw.no (S:=n.S) (k:=2) (by decide) (n.stk st) rfl s2.drop.drop
  refine⟨_,h2,cT s a o (by decide) ?_ r8.fr,r8⟩
  refine ah bN rfl ?_;unfold bG
  simp only[sim,ag,reduceAdd,reduceSub,replicate,reduceCtorEq,reduceLeDiff,reduceLT,aa,ay,tp,c1,Int.reduceEq,decide_false,decide_true,f0,f1,l0,l1,l2,l3,e2,ek]
def MT (h0:AH) (F0 J0:Nat→Prop) (c:Cfg) (L:List Asn) (i:Nat) (n:Now) (k:Int) (v:VD) (fr:AV ⊕ AV) (h':AH):Prop:=
 (n.below.length+1≠20∧fr= .inl (.tup [])∧∃ fb',St h0 F0 J0 h' (put c L i ⟨fb',n.S,n.below++[n.top],⟨n.top.plugin,k,0,v,[],[],false,[]⟩⟩))∨
 (n.below.length+1=20∧fr= .inr (.iface tGo (.int .i64 4))∧St h0 F0 J0 h' (put c L i n))
set_option maxRecDepth 100000 in
set_option maxHeartbeats 1000000 in
theorem IX (s:St h0 F0 J0 h L) (a:At c L i n) (o:OkR c n) {st:List VD} {v:VD} (hst:n.top.stack=st++[v]) (k m:Int):∃ fr h',aj Tryz.prog po jD [.ptr c.mb 0 0,.agg (iR 18 k m)] h=some (fr,h')∧MT h0 F0 J0 c L i (n.stk st) k v fr h':=by
 obtain⟨s1,a1,tp,_,c1⟩:=iF s a o 18 k m
 obtain⟨h2,r,e2,hv,s2,a2⟩:=fk s1 a1 o hst
 have o3:=o.stk' hst
 rw[ap,ap]at s2 a2
 obtain⟨o1,o2⟩:=hv.len3
 have s3:=s2.push [r]
 have a3:=a2.cons (ai h2.n [r])
 have c3:=(s3.cell 0 rfl).1
 have c4:=(s3.cell 1 rfl).1
 obtain⟨_,tl⟩:=cK s3 a3 o.below
 have f0:aI 0 (.ptr n.fb n.below.length 0)=some (.ptr n.fb n.below.length 0):=rfl
 obtain⟨e20,e21⟩:=yT s3 a3 o.below (f:=⟨n.top.plugin,k,0,v,[],[],false,[]⟩) (ar:=r) (g:= .nils) hv (.inl ⟨rfl,rfl⟩) rfl rfl
 obtain⟨y0,y1,y2,rfl⟩:∃ a b c,r=[a,b,c]:=by match r,o1 with | [a,b,c],_=>exact⟨a,b,c,rfl⟩
 simp only[List.all_cons,List.all_nil,Bool.and_true,Bool.and_eq_true]at o2
 obtain⟨z3,z4,z5⟩:=o2
 by_cases h20:n.below.length+1=20
 ·obtain⟨h4,e4,s4⟩:=e20 h20
  simp only[cP,Int.natCast_zero,List.cons_append,List.nil_append]at e4
  refine⟨_,h4,cT s a o (by decide) ?_ (.inr ⟨_,rfl⟩),.inr ⟨h20,rfl,s4.drop.drop.drop⟩⟩
  refine ah bN rfl ?_;unfold bG
  simp only[sim,ag,reduceAdd,reduceSub,replicate,reduceCtorEq,reduceLeDiff,reduceLT,aa,ay,tp,c1,Int.reduceEq,decide_false,decide_true,e2,f0,tl,c3,c4,z3,z4,z5,e4]
 ·obtain⟨h4,fb',e4,s4⟩:=e21 h20
  simp only[cP,Int.natCast_zero,List.cons_append,List.nil_append]at e4
  rw[ap,ap,ap,aQ]at s4
  refine⟨_,h4,cT s a o (by decide) ?_ (.inl rfl),.inl ⟨h20,rfl,fb',s4.drop.drop.drop⟩⟩
  refine ah bN rfl ?_;unfold bG
  simp only[sim,ag,reduceAdd,reduceSub,replicate,reduceCtorEq,reduceLeDiff,reduceLT,aa,ay,tp,c1,Int.reduceEq,decide_false,decide_true,e2,f0,tl,c3,c4,z3,z4,z5,e4]
set_option maxHeartbeats 1000000 in
theorem HG (s:St h0 F0 J0 h L) (a:At c L i n) (o:OkR c n) {st:List VD} {v:VD} (hst:n.top.stack=st++[v]) {P:Nat} (hP:n.top.plugin=(P:Int)) (hP4:P<4) (k m:Int):∃ fr h',aj Tryz.prog po jD [.ptr c.mb 0 0,.agg (iR 20 k m)] h=some (fr,h')∧bw h0 F0 J0 c L i (n.stk st) (bH n.top.plugin 20 k m [v] n.S) fr h':=by
 rw[NH]
 obtain⟨s1,a1,tp,tl,c1⟩:=iF s a o 20 k m
 obtain⟨l0,l1,_⟩:=cX s1 a1 o.len
 obtain⟨ix,_,kr,lk,hkr,_,bn⟩:=nQ s1 a1 o hP4
 rw[hP]at tl ⊢
 rw[Int.toNat_natCast]
 obtain⟨k1,k2⟩:=hkr.len3
 have f0:aI 0 (.ptr c.mb 0 0)=some (.ptr c.mb 0 0):=rfl
 have f1:aI 2 (.ptr c.bb 0 0)=some (.ptr c.bb 0 2):=rfl
 have f2:aI 0 (.ptr n.fb n.below.length 0)=some (.ptr n.fb n.below.length 0):=rfl
 have f3:aI 2 (.ptr c.bb 0 (2+P*5))=some (.ptr c.bb 0 (2+P*5+2)):=rfl
 have s2:St h0 F0 J0 _ (ai (h.n+1+1) [kr]::ai (h.n+1) [iR 20 k m]::ai h.n [iR 20 k m]::L):=s1.push [kr]
 have a2:=a1.cons (ai (h.n+1+1) [kr])
 obtain⟨h3,r,e3,hv,s3,a3⟩:=fk s2 a2 o hst
 have o3:=o.stk' hst
 rw[ap,ap,ap]at s3
 have a3':At c (ai (h.n+1+1) [kr]::ai (h.n+1) [iR 20 k m]::ai h.n [iR 20 k m]::put c L i (n.stk st)) (i+1+1+1) (n.stk st):=a3
 obtain⟨h4,e4,s4⟩:=F9 s3 (i+1+1+1+1) a3'.b o.len (p:=P) (by rw[o.ms];exact hP4) hv
 have s4':St h0 F0 J0 h4 (ai (h.n+1+1) [kr]::ai (h.n+1) [iR 20 k m]::ai h.n [iR 20 k m]::put c L i {(n.stk st)with S:={n.S with kept:=n.S.kept.set P v}}):=by
  rw[a3'.setB,ap,ap,ap,aQ]at s4
  exact s4
 have a4:=((((a.put {(n.stk st)with S:={n.S with kept:=n.S.kept.set P v}}).cons (ai h.n [iR 20 k m])).cons (ai (h.n+1) [iR 20 k m])).cons (ai (h.n+1+1) [kr]))
 have c4:=(s4'.cell 0 rfl).1
 obtain⟨h5,e5,s5⟩:=dp s4' a4 o.below o3.stk hkr
 rw[ap,ap,ap,aQ]at s5
 have r8:bw h0 F0 J0 c L i (n.stk st) _ _ h5:=bw.ok (S:={n.S with kept:=n.S.kept.set P v}) (v:=n.S.kept.getD P au) s5.drop.drop.drop
 refine⟨_,h5,cT s a o (by decide) ?_ r8.fr,r8⟩
 refine ah bN rfl ?_;unfold bG
 simp only[sim,ag,reduceAdd,reduceSub,replicate,reduceCtorEq,reduceLeDiff,reduceLT,aa,ay,tp,c1,Int.reduceEq,decide_false,decide_true,f0,f1,f2,f3,l0,tl,ix,lk,k1,k2,e3,e4,c4,e5]
set_option maxHeartbeats 1000000 in
theorem Hz (s:St h0 F0 J0 h L) (a:At c L i n) (o:OkR c n) {P:Nat} (hP:n.top.plugin=(P:Int)) (hP4:P<4) (k m:Int):∃ h',aj Tryz.prog po jD [.ptr c.mb 0 0,.agg (iR 21 k m)] h=some (.inl (.tup []),h')∧St h0 F0 J0 h' (put c L i (n.stk (n.top.stack++[n.S.kept.getD P au]))):=by
 obtain⟨s1,a1,tp,tl,c1⟩:=iF s a o 21 k m
 obtain⟨l0,l1,_⟩:=cX s1 a1 o.len
 obtain⟨ix,_,kr,lk,hkr,_,bn⟩:=nQ s1 a1 o hP4
 rw[hP]at tl
 have f0:aI 0 (.ptr c.mb 0 0)=some (.ptr c.mb 0 0):=rfl
 have f1:aI 2 (.ptr c.bb 0 0)=some (.ptr c.bb 0 2):=rfl
 have f2:aI 0 (.ptr n.fb n.below.length 0)=some (.ptr n.fb n.below.length 0):=rfl
 have f3:aI 2 (.ptr c.bb 0 (2+P*5))=some (.ptr c.bb 0 (2+P*5+2)):=rfl
 obtain⟨h2,e2,s2⟩:=dp s1 a1 o.below o.stk hkr
 rw[ap,ap]at s2
 refine⟨h2,cT s a o (by decide) ?_ (.inl rfl),s2.drop.drop⟩
 refine ah bN rfl ?_;unfold bG
 simp only[sim,ag,reduceAdd,reduceSub,replicate,reduceCtorEq,reduceLeDiff,reduceLT,aa,ay,tp,c1,Int.reduceEq,decide_false,decide_true,f0,f1,f2,f3,l0,tl,ix,lk,e2]
end
theorem sG {ms:aM} (g:qh ms) {p k:Int} (hk:k.toNat<(cH ms p).length):(cS ms p k).fault (cH ms p).length 0=0:=by
 have:cS ms p k=(cH ms p)[k.toNat]:=by simp[cS,List.getD,hk]
 rw[this]
 exact g p _ (List.getElem_mem hk)
def MaD.after (m:MaD) (S:StD) (k:Nat) (vs:List VD):MaD:={S:=S,top:={m.top with pc:=m.top.pc+k,stack:=m.top.stack++vs},below:=m.below}
def bi (ms:aM) (m:MaD) (c:List aR):Prop:=∃ pre post,dU ms m.top.plugin m.top.f=pre++c++post∧m.top.pc=pre.length
theorem bi.get {ms:aM} {m:MaD} {x:aR} {c:List aR} (h:bi ms m (x::c)):(dU ms m.top.plugin m.top.f).getD m.top.pc oJ=x:=by
 obtain⟨pre,post,e,hp⟩:=h
 rw[e,hp]
 simp[List.getD]
theorem bi.at {ms:aM} {m:MaD} {x:aR} {c:List aR} (h:bi ms m (x::c)) (hg:m.Good ms) (ho:Ff m x):Ok ms m:=by
 refine⟨hg,?_,by rw[h.get];exact ho⟩
 obtain⟨pre,post,e,hp⟩:=h
 rw[e,hp]
 simp
theorem MaD.Good.after {ms:aM} {m:MaD} {S:StD} {k:Nat} {vs:List VD} (h:m.Good ms) (hS:S.Good) (hmu:S.mu≤m.S.mu) (hl:S.left+vs.length≤m.S.left) (hv:∀ v∈vs,v.code=0):(m.after S k vs).Good ms:=by
 have h1:=h.stk;have h2:=h.nms;have h3:=h.mu
 refine⟨hS,⟨h.top.p0,h.top.there,h.top.f0,h.top.f1,h.top.arg,h.top.names,fun v hm=> ?_,h.top.gates⟩,Nat.le_trans hmu h3,?_,?_,h.few⟩
 ·rcases List.mem_append.1 hm with hm | hm
  ·exact h.top.stack v hm
  ·exact hv v hm
 ·simp only[MaD.after,List.length_append];omega
 ·simp only[MaD.after];omega
theorem MaD.Good.next {ms:aM} {m m':MaD} (h:m.Good ms) (hS:m'.S=m.S) (hb:m'.below.length=m.below.length) (ht:m'.top.Good ms) (h1:m'.top.stack.length≤m.top.stack.length) (h2:m'.top.names.length+m'.S.left≤100000):m'.Good ms:=by
 have h3:=h.stk;have h4:=h.mu;have h5:=h.few
 refine⟨by rw[hS];exact h.S,ht,by rw[hS];exact h4,by rw[hS];omega,h2,by omega⟩
theorem Ff.tick (m:MaD):Ff m ⟨100,0,0⟩:=⟨by simp,by simp,by simp,by simp,by simp,by simp⟩
theorem bi.left {ms:aM} {m:MaD} {a b:List aR} (h:bi ms m (a++b)):bi ms m a:=by
 obtain⟨pre,post,e,hp⟩:=h
 exact⟨pre,b++post,by rw[e];simp,hp⟩
theorem bi.right {ms:aM} {m m':MaD} {a b:List aR} (h:bi ms m (a++b)) (h1:m'.top.plugin=m.top.plugin) (h2:m'.top.f=m.top.f) (h3:m'.top.pc=m.top.pc+a.length):bi ms m' b:=by
 obtain⟨pre,post,e,hp⟩:=h
 exact⟨pre++a,post,by rw[h1,h2,e];simp,by rw[h3,hp];simp⟩
def fL (ms:aM) (m:MaD) (k:Nat) (q:StD×VD×Int):Prop:=
 if q.2.2≠0 then gA ms m (.fail q.1 q.2.2)else ∀ r,gA ms (m.after q.1 k [q.2.1]) r→gA ms m r
def BM (ms:aM) (m:MaD) (k:Nat) (acc:List VD) (q:StD×List VD×Int):Prop:=
 if q.2.2≠0 then gA ms m (.fail q.1 q.2.2)else ∃ ws,q.2.1=acc++ws∧∀ r,gA ms (m.after q.1 k ws) r→gA ms m r
theorem fL.no {ms:aM} {m:MaD} {k:Nat} {S:StD} {c:Int} (hc:c≠0) (h:gA ms m (.fail S c)):fL ms m k (S.no c):=by
 unfold fL
 rw[if_pos (show(S.no c).2.2≠0 from hc)]
 exact h
theorem fL.ok {ms:aM} {m:MaD} {k:Nat} {S:StD} {v:VD} (h:∀ r,gA ms (m.after S k [v]) r→gA ms m r):fL ms m k (S.ok v):=by
 unfold fL
 rw[if_neg (by simp[StD.ok])]
 exact h
theorem Km {ms:aM} {m:MaD} {c:List aR} (hG:m.Good ms) (h:bi ms m (⟨100,0,0⟩::c)) (hl:m.S.left≠0) {r:iY} (hr:gA ms (m.after m.S.tick 1 []) r):gA ms m r:=by
 refine .go (h.at hG (.tick m)) ?_ hr
 unfold fQ
 simp only[h.get,if_true]
 rw[if_neg hl]
 simp[MaD.after]
theorem yQ {ms:aM} {m:MaD} {c:List aR} (hG:m.Good ms) (h:bi ms m (⟨100,0,0⟩::c)) (hl:m.S.left=0):gA ms m (.fail m.S 12):=by
 refine .fail (h.at hG (.tick m)) ?_
 unfold fQ
 simp only[h.get,if_true]
 rw[if_pos hl]
theorem jM (st ws:List VD):kc (st++ws) ws.length=ws:=by
 unfold kc
 rw[List.length_append,Nat.add_sub_cancel]
 exact List.drop_left
theorem j7 (st ws:List VD):ly (st++ws) ws.length=st:=by
 unfold ly
 rw[List.length_append,Nat.add_sub_cancel]
 exact List.take_left
theorem d8 (st:List VD) (v:VD):kc (st++[v]) 1=[v]:=jM st [v]
theorem gu (st:List VD) (v:VD):ly (st++[v]) 1=st:=j7 st [v]
theorem Dy (x:XD) (hx:∃ nf o,x.fault nf o=0) (p:Nat):∃ c,az x p=⟨100,0,0⟩::c:=by
 obtain⟨nf,o,h⟩:=hx
 obtain⟨h1,h2,_⟩:=lC h
 rw[iO]
 unfold tQ
 split
 ·rename_i h5
  rw[h5]at h2
  have:x.l.length=2:=by simp[aW]at h2;omega
  match hl:x.l,this with
  | [a,b],_=>exact⟨_,rfl⟩
 ·split
  ·rename_i h7
   rw[h7]at h2
   have:x.l.length=3:=by simp[aW]at h2;omega
   match hl:x.l,this with
   | [a,b,c],_=>exact⟨_,rfl⟩
  ·exact⟨_,rfl⟩
theorem Fv {p:Int} {x y:XD} {arg:VD} {names:List VD} {S:StD} (h1:x.op=y.op) (h2:x.k=y.k) (h3:x.n=y.n):dV p x arg names S=dV p y arg names S:=by
 unfold dV
 rw[h1,h2,h3]
theorem fF (m:MaD) (S S':StD) (a b:Nat) (vs ws:List VD):(m.after S a vs).after S' b ws=m.after S' (a+b) (vs++ws):=by
 simp[MaD.after,Nat.add_assoc]
theorem AL (m:MaD):m.after m.S 0 []=m:=by simp[MaD.after]
theorem Ag {ms:aM} {m:MaD} {op k n:Int} {c:List aR} (h:bi ms m (⟨op,k,n⟩::c)) (ho:op<100):fQ ms m=kF ms (m.after m.S 1 []) ⟨op,k,n⟩:=by
 unfold fQ
 simp only[h.get]
 rw[if_neg (by omega),if_neg (by omega),if_neg (by omega),if_neg (by omega),if_neg (by omega),if_neg (by omega)]
 simp[MaD.after]
def Ou (ms:aM) (N:Nat):Prop:=∀ (x:XD) (m:MaD),m.Good ms→m.S.left≤N→x.fault (cH ms m.top.plugin).length m.top.names.length=0→bi ms m (az x m.top.pc)→
 fL ms m (az x m.top.pc).length (ofD ms N m.top.plugin x m.top.arg m.top.names (m.below.length+1) m.S)
theorem MaD.Good.after1 {ms:aM} {m:MaD} {S':StD} {v:VD} {c:Int} {k:Nat} (h:m.Good ms) (hox:J9 m.S (S',v,c)) (hc:c=0):(m.after S' k [v]).Good ms:=by
 have h1:=hox.1.mu
 have h2:=hox.2 hc
 have h3:=hox.1.val hc
 simp only at h1 h2 h3
 exact h.after hox.1.good (by omega) (by simp only[List.length_singleton];omega) (fun w hw=>by simp only[List.mem_singleton]at hw;rw[hw];exact h3)
theorem OL {ms:aM} {N:Nat} (ih:Ou ms N):∀ (l:List XD) (m:MaD) (acc:List VD),m.Good ms→m.S.left≤N→(∀ y∈l,y.fault (cH ms m.top.plugin).length m.top.names.length=0)→bi ms m (gU (l.map az) m.top.pc)→
  BM ms m (gU (l.map az) m.top.pc).length acc (evL (fun y S=>ofD ms N m.top.plugin y m.top.arg m.top.names (m.below.length+1) S) l m.S acc)
 | [],m,acc,_,_,_,_=>by
   unfold BM
   simp only[evL,List.map_nil,gU,List.length_nil]
   rw[if_neg (by simp)]
   exact⟨[],by simp,fun r hr=>by rw[AL]at hr;exact hr⟩
 | x::l,m,acc,hG,hl,hf,hs=>by
   simp only[List.map_cons,gU]at hs ⊢
   have h1:=ih x m hG hl (hf x (by simp)) hs.left
   have hle:=jJ ms N m.top.plugin x m.top.arg m.top.names (m.below.length+1) m.S
   have hox:=gW ms N m.top.plugin x m.top.arg m.top.names (m.below.length+1) m.S hG.S hG.top.arg hG.top.names
   rw[evL]
   rcases hq:ofD ms N m.top.plugin x m.top.arg m.top.names (m.below.length+1) m.S with⟨S',v,c⟩
   rw[hq]at h1 hle hox
   simp only at h1 hle ⊢
   unfold fL at h1
   simp only at h1
   by_cases hc:c=0
   ·rw[if_neg (by simpa using hc)]at h1 ⊢
    have h2:=OL ih l (m.after S' (az x m.top.pc).length [v]) (acc++[v]) (hG.after1 hox hc) (Nat.le_trans hle hl) (fun y hy=>hf y (by simp[hy])) (hs.right rfl rfl rfl)
    have e1:(m.after S' (az x m.top.pc).length [v]).top.pc=m.top.pc+(az x m.top.pc).length:=rfl
    rw[e1]at h2
    change BM ms _ _ _ (evL (fun y S=>ofD ms N m.top.plugin y m.top.arg m.top.names (m.below.length+1) S) l S' (acc++[v]))at h2
    generalize evL (fun y S=>ofD ms N m.top.plugin y m.top.arg m.top.names (m.below.length+1) S) l S' (acc++[v])=q at h2 ⊢
    unfold BM at h2 ⊢
    by_cases hz:q.2.2=0
    ·rw[if_neg (by simpa using hz)]at h2 ⊢
     obtain⟨ws,e,h2⟩:=h2
     refine⟨v::ws,by rw[e];simp,fun r hr=>h1 r (h2 r ?_)⟩
     rw[fF,List.singleton_append]
     rw[List.length_append]at hr
     exact hr
    ·rw[if_pos hz]at h2 ⊢
     exact h1 _ h2
   ·rw[if_pos hc]at h1 ⊢
    unfold BM
    simp only
    rw[if_pos hc]
    exact h1
theorem E8 {op:Int} (h:0≤aW op):1≤op∧op≤21:=by
 unfold aW at h
 split at h
 ·omega
 ·split at h
  ·omega
  ·split at h
   ·omega
   ·split at h
    ·omega
    ·omega
theorem pf {ms:aM} {m:MaD} {c:List aR} (h:bi ms m (⟨105,0,0⟩::c)) {st:List VD} {v:VD} (hv:m.top.stack=st++[v]):fQ ms m=(
  let q:=if m.top.asked then eC m.top.gates v m.S else m.S.ok v
  if q.2.2≠0 then .fail q.1 q.2.2 else match m.below.getLast? with
   | none=> .over q.1 q.2.1
   | some t=> .go ⟨q.1,{t with stack:=t.stack++[q.2.1]},m.below.dropLast⟩):=by
 unfold fQ
 simp only[h.get]
 rw[if_neg (by omega),if_neg (by omega),if_neg (by omega),if_neg (by omega),if_neg (by omega),if_pos trivial]
 unfold MaD.back
 simp only[hv,d8,List.getD_cons_zero]
 rfl
theorem pt {α:Type} (l:List α) (a:α):(l++[a]).getLast? =some a∧(l++[a]).dropLast=l:=⟨by simp,by simp⟩
theorem H0 {nf k n o:Int} (h:jn nf 18 k n o=0):0≤k∧k<nf:=by
 unfold jn at h
 split at h
 ·cases h
 ·rw[if_neg (by decide),if_neg (by decide),if_neg (by decide),if_pos rfl]at h
  split at h
  ·cases h
  ·omega
theorem Gd {nf k n o:Int} (h:jn nf 4 k n o=0):0≤k∧k<o:=by
 unfold jn at h
 split at h
 ·cases h
 ·rw[if_pos rfl]at h
  split at h
  ·cases h
  ·omega
theorem CN {ms:aM} {v x:VD} {fr:Nat} {S S':StD} {q:rc} (h:eX ms v x fr S=(S',q,0)):q.func.toNat<(cH ms q.plugin).length∧fr≠20:=by
 unfold eX at h
 simp only at h
 split at h
 ·simp only[Prod.mk.injEq]at h;omega
 ·split at h
  ·simp only[Prod.mk.injEq]at h;omega
  ·split at h
   ·simp only[Prod.mk.injEq]at h;omega
   ·split at h
    ·simp only[Prod.mk.injEq]at h;omega
    ·rename_i hn
     split at h
     ·simp only[Prod.mk.injEq]at h;omega
     ·rename_i hf
      simp only[Prod.mk.injEq]at h
      obtain⟨_,rfl,_⟩:=h
      exact⟨by
       simp only
       have:¬ ((cH ms (S.G.target v.n).1.plugin).length:Int)≤(S.G.target v.n).1.func:=fun e=>hn (.inr (.inl e))
       have h3:¬ (S.G.target v.n).1.func<0:=fun e=>hn (.inr (.inr e))
       omega,hf⟩
theorem C8 {f:XD→StD→StD×VD×Int}:∀ (l:List XD) (S:StD) (acc:List VD),(evL f l S acc).2.2=0→(evL f l S acc).2.1.length=acc.length+l.length
 | [],S,acc,_=>rfl
 | x::l,S,acc,h=>by
   rw[evL]at h ⊢
   rcases hq:f x S with⟨S',v,c⟩
   rw[hq]at h
   simp only at h ⊢
   by_cases hc:c=0
   ·rw[if_neg (by simpa using hc)]at h ⊢
    rw[C8 l S' _ h]
    simp
    omega
   ·rw[if_pos hc]at h
    exact absurd h hc
theorem jf {p:Int} {x:XD} {arg:VD} {names:List VD} {S:StD}:dV p x arg names S=none↔¬ (x.op=1∨x.op=2∨x.op=3∨x.op=4∨x.op=21):=by
 unfold dV
 constructor
 ·intro h
  repeat' split at h
  all_goals first
   | omega
   | cases h
 ·intro h
  rw[if_neg (by omega),if_neg (by omega),if_neg (by omega),if_neg (by omega),if_neg (by omega)]
theorem Jd {α:Type} {l:List α} (h:l.length=2):∃ a b,l=[a,b]:=by
 match l,h with
 | [a,b],_=>exact⟨a,b,rfl⟩
theorem M9 {α:Type} {l:List α} (h:l.length=3):∃ a b c,l=[a,b,c]:=by
 match l,h with
 | [a,b,c],_=>exact⟨a,b,c,rfl⟩
set_option maxHeartbeats 1000000 in
theorem OQ {ms:aM} (hg:qh ms):∀ N:Nat,Ou ms N
 | 0,x,m,hG,hl,hf,hs=>by
   obtain⟨c,hc⟩:=Dy x ⟨_,_,hf⟩ m.top.pc
   have h0:m.S.left=0:=by omega
   rw[hc]at hs
   exact fL.no (by decide) (yQ hG hs h0)
 | N+1,x,m,hG,hl,hf,hs=>by
   have ih:=OQ hg N
   obtain⟨c,hc⟩:=Dy x ⟨_,_,hf⟩ m.top.pc
   have hs0:=hs
   rw[hc]at hs0
   obtain⟨f1,f2,f3,f4,f5⟩:=lC hf
   rw[ofD]
   by_cases h0:m.S.left=0
   ·rw[if_pos h0]
    exact fL.no (by decide) (yQ hG hs0 h0)
   rw[if_neg h0]
   have go1:∀ r,gA ms (m.after m.S.tick 1 []) r→gA ms m r:=fun r hr=>Km hG hs0 h0 hr
   have hG1:(m.after m.S.tick 1 []).Good ms:=hG.after hG.S.tick (by have:=nR h0;omega) (by have:=nR h0;simp only[List.length_nil];omega) (by simp)
   have hl1:m.S.tick.left≤N:=by show m.S.left - 1≤N;omega
   have hop:=E8 f1
   by_cases o5:x.op=5
   ·have hlf:dV m.top.plugin x m.top.arg m.top.names m.S.tick=none:=jf.2 (by omega)
    rw[hlf]
    simp only
    rw[if_pos o5]
    have hlen:x.l.length=2:=by rw[o5]at f2;simp[aW]at f2;omega
    obtain⟨a,b,hab⟩:=Jd hlen
    rw[o5]at f5
    rw[hab]at f5 ⊢
    obtain⟨fa,f6⟩:=gQ f5
    obtain⟨fb,_⟩:=gQ f6
    rw[if_neg (by omega)]at fa
    rw[if_pos (by omega)]at fb
    simp only[List.getD_cons_zero,List.getD_cons_succ]
    have hcode:az x m.top.pc=⟨100,0,0⟩::(az a (m.top.pc+1)++(⟨101,0,0⟩::(az b (m.top.pc+1+(az a (m.top.pc+1)).length+1)++[⟨102,0,0⟩]))):=by
     rw[iO,hab]
     unfold tQ
     rw[if_pos o5]
     rfl
    rw[hcode]at hs ⊢
    have hs1:bi ms (m.after m.S.tick 1 []) _:=bi.right (a:=[⟨100,0,0⟩]) hs rfl rfl rfl
    have h1:=ih a (m.after m.S.tick 1 []) hG1 hl1 fa hs1.left
    have hle:=jJ ms N m.top.plugin a m.top.arg m.top.names (m.below.length+1) m.S.tick
    have hox:=gW ms N m.top.plugin a m.top.arg m.top.names (m.below.length+1) m.S.tick hG.S.tick hG.top.arg hG.top.names
    change fL ms _ _ (ofD ms N m.top.plugin a m.top.arg m.top.names (m.below.length+1) m.S.tick)at h1
    rcases hq:ofD ms N m.top.plugin a m.top.arg m.top.names (m.below.length+1) m.S.tick with⟨S',v,c⟩
    rw[hq]at h1 hle hox
    simp only at h1 hle ⊢
    unfold fL at h1
    simp only at h1
    by_cases hc:c=0
    ·rw[if_neg (by simpa using hc)]at h1 ⊢
     rw[fF]at h1
     generalize hA:az a (m.top.pc+1)=A at*
     have hA':az a (m.after m.S.tick 1 []).top.pc=A:=hA
     rw[hA']at h1
     have hs2:bi ms (m.after S' (1+A.length) ([]++[v])) (⟨101,0,0⟩::(az b (m.top.pc+1+A.length+1)++[⟨102,0,0⟩])):=bi.right hs1 rfl rfl (by simp only[MaD.after];omega)
     have hG2:(m.after S' (1+A.length) ([]++[v])).Good ms:=by
      have:=MaD.Good.after1 (k:=A.length) hG1 hox hc
      rwa [fF]at this
     have ok2:=hs2.at hG2 ⟨by simp,by simp[MaD.after],by simp,by simp,by simp,by simp⟩
     have hvc:v.code=0:=hox.1.val hc
     have hlt:S'.left<m.S.tick.left:=hox.2 hc
     have htk:=(nR h0).2
     have hG3:(⟨S',{m.top with pc:=m.top.pc+1+A.length+1,names:=m.top.names++[v]},m.below⟩:MaD).Good ms:=by
      refine hG2.next rfl rfl ⟨hG.top.p0,hG.top.there,hG.top.f0,hG.top.f1,hG.top.arg,fun w hw=> ?_,hG.top.stack,hG.top.gates⟩ (by simp[MaD.after]) ?_
      ·rcases List.mem_append.1 hw with hw | hw
       ·exact hG.top.names w hw
       ·simp only[List.mem_singleton]at hw
        rw[hw];exact hvc
      ·have:=hG.nms
       simp only[List.length_append,List.length_singleton]
       omega
     -- the name is open
     have e1:fQ ms (m.after S' (1+A.length) ([]++[v]))= .go {S:=S',top:={m.top with pc:=m.top.pc+1+A.length+1,names:=m.top.names++[v]},below:=m.below}:=by
      unfold fQ
      simp only[hs2.get]
      rw[if_neg (by decide),if_pos trivial]
      simp only[MaD.after,List.nil_append,d8,gu,List.getD_cons_zero]
      rw[Nat.add_assoc m.top.pc 1]
     have hs3:bi ms {S:=S',top:={m.top with pc:=m.top.pc+1+A.length+1,names:=m.top.names++[v]},below:=m.below} (az b (m.top.pc+1+A.length+1)++[⟨102,0,0⟩]):=bi.right (a:=[⟨101,0,0⟩]) hs2 rfl rfl (by simp only[MaD.after,List.length_singleton];omega)
     have h2:=ih b {S:=S',top:={m.top with pc:=m.top.pc+1+A.length+1,names:=m.top.names++[v]},below:=m.below} hG3 (Nat.le_trans hle hl1) (by
      simp only[List.length_append,List.length_singleton]
      exact fb) hs3.left
     simp only at h2
     have hox3:=gW ms N m.top.plugin b m.top.arg (m.top.names++[v]) (m.below.length+1) S' hG3.S hG3.top.arg hG3.top.names
     generalize ofD ms N m.top.plugin b m.top.arg (m.top.names++[v]) (m.below.length+1) S'=q at h2 hox3 ⊢
     unfold fL at h2 ⊢
     by_cases hz:q.2.2=0
     ·rw[if_neg (by simpa using hz)]at h2 ⊢
      intro r hr
      refine go1 r (h1 r (.go ok2 e1 (h2 r ?_)))
      generalize az b (m.top.pc+1+A.length+1)=B at*
      have hs4:bi ms (MaD.after {S:=S',top:={m.top with pc:=m.top.pc+1+A.length+1,names:=m.top.names++[v]},below:=m.below} q.1 B.length [q.2.1]) [⟨102,0,0⟩]:=bi.right hs3 rfl rfl rfl
      refine .go (hs4.at (MaD.Good.after1 (c:=q.2.2) hG3 hox3 hz) ⟨by simp,by simp,by simp[MaD.after],by simp,by simp,by simp⟩) (m':=m.after q.1 (⟨100,0,0⟩::(A++(⟨101,0,0⟩::(B++[⟨102,0,0⟩]))):List aR).length [q.2.1]) ?_ hr
      unfold fQ
      simp only[hs4.get]
      rw[if_neg (by decide),if_neg (by decide),if_pos trivial]
      simp only[MaD.after,List.dropLast_concat,List.length_cons,List.length_append,List.length_nil]
      congr 3
      omega
     ·rw[if_pos hz]at h2 ⊢
      exact go1 _ (h1 _ (.go ok2 e1 h2))
    ·rw[if_pos hc]at h1 ⊢
     exact fL.no hc (go1 _ h1)
   by_cases o7:x.op=7
   ·have hlf:dV m.top.plugin x m.top.arg m.top.names m.S.tick=none:=jf.2 (by omega)
    rw[hlf]
    simp only
    rw[if_neg o5,if_pos o7]
    have hlen:x.l.length=3:=by rw[o7]at f2;simp[aW]at f2;omega
    obtain⟨a,b,c',hab⟩:=M9 hlen
    have fall:=kg o5 f5
    have fa:=fall a (by rw[hab];simp)
    have fb:=fall b (by rw[hab];simp)
    have fc:=fall c' (by rw[hab];simp)
    rw[hab]
    simp only[List.getD_cons_zero,List.getD_cons_succ]
    have hcode:az x m.top.pc=⟨100,0,0⟩::(az a (m.top.pc+1)++(⟨103,((g8 (az a) (az b) m.top.pc:Nat):Int),0⟩::(az b (m.top.pc+1+(az a (m.top.pc+1)).length+1)++
      (⟨104,((g8 (az a) (az b) m.top.pc+(az c' (g8 (az a) (az b) m.top.pc)).length:Nat):Int),0⟩::az c' (g8 (az a) (az b) m.top.pc))))):=by
     rw[iO,hab]
     unfold tQ
     rw[if_neg o5,if_pos o7]
     rfl
    have hel:g8 (az a) (az b) m.top.pc=m.top.pc+1+(az a (m.top.pc+1)).length+1+(az b (m.top.pc+1+(az a (m.top.pc+1)).length+1)).length+1:=rfl
    rw[hcode]at hs ⊢
    have hs1:bi ms (m.after m.S.tick 1 []) _:=bi.right (a:=[⟨100,0,0⟩]) hs rfl rfl rfl
    have h1:=ih a (m.after m.S.tick 1 []) hG1 hl1 fa hs1.left
    have hle:=jJ ms N m.top.plugin a m.top.arg m.top.names (m.below.length+1) m.S.tick
    have hox:=gW ms N m.top.plugin a m.top.arg m.top.names (m.below.length+1) m.S.tick hG.S.tick hG.top.arg hG.top.names
    change fL ms _ _ (ofD ms N m.top.plugin a m.top.arg m.top.names (m.below.length+1) m.S.tick)at h1
    rcases hq:ofD ms N m.top.plugin a m.top.arg m.top.names (m.below.length+1) m.S.tick with⟨S',v,c⟩
    rw[hq]at h1 hle hox
    simp only at h1 hle ⊢
    unfold fL at h1
    simp only at h1
    by_cases hc:c=0
    ·rw[if_neg (by simpa using hc)]at h1 ⊢
     rw[fF]at h1
     have hA':az a (m.after m.S.tick 1 []).top.pc=az a (m.top.pc+1):=rfl
     rw[hA']at h1
     have hB':∀ q,q=m.top.pc+1+(az a (m.top.pc+1)).length+1→az b q=az b (m.top.pc+1+(az a (m.top.pc+1)).length+1):=fun q e=>by rw[e]
     have hC':∀ q,q=g8 (az a) (az b) m.top.pc→az c' q=az c' (g8 (az a) (az b) m.top.pc):=fun q e=>by rw[e]
     generalize az c' (g8 (az a) (az b) m.top.pc)=C at*
     generalize g8 (az a) (az b) m.top.pc=el at*
     generalize az b (m.top.pc+1+(az a (m.top.pc+1)).length+1)=B at*
     generalize az a (m.top.pc+1)=A at*
     have hs2:bi ms (m.after S' (1+A.length) ([]++[v])) (⟨103,(el:Int),0⟩::(B++(⟨104,((el+C.length:Nat):Int),0⟩::C))):=bi.right hs1 rfl rfl (by simp only[MaD.after];omega)
     have hk:(⟨100,0,0⟩::(A++(⟨103,(el:Int),0⟩::(B++(⟨104,((el+C.length:Nat):Int),0⟩::C)))):List aR).length=1+A.length+1+B.length+1+C.length:=by simp only[List.length_cons,List.length_append];omega
     rw[hk]
     have go2:∀ r,gA ms (m.after S' (1+A.length) ([]++[v])) r→gA ms m r:=fun r hr=>go1 r (h1 r hr)
     have hG2:(m.after S' (1+A.length) ([]++[v])).Good ms:=by
      have:=MaD.Good.after1 (k:=A.length) hG1 hox hc
      rwa [fF]at this
     have ok2:=hs2.at hG2 ⟨by simp,by simp[MaD.after],by simp,by simp,by simp,by simp⟩
     have hG3:∀ pc,(⟨S',{m.top with pc:=pc},m.below⟩:MaD).Good ms:=fun pc=>by
      refine hG2.next rfl rfl ⟨hG.top.p0,hG.top.there,hG.top.f0,hG.top.f1,hG.top.arg,hG.top.names,hG.top.stack,hG.top.gates⟩ (by simp[MaD.after]) hG2.nms
     by_cases hv:v.kind=1
     ·rw[if_neg (by simpa using hv)]
      have e1:fQ ms (m.after S' (1+A.length) ([]++[v]))= .go {S:=S',top:={m.top with pc:=if v.n=0 then el else m.top.pc+(1+A.length)+1},below:=m.below}:=by
       unfold fQ
       simp only[hs2.get]
       rw[if_neg (by decide),if_neg (by decide),if_neg (by decide),if_pos trivial]
       simp only[MaD.after,List.nil_append,d8,gu,List.getD_cons_zero,Int.toNat_natCast]
       rw[if_neg (by simpa using hv)]
      by_cases hn:v.n=0
      ·rw[if_neg (by simpa using hn)]
       rw[if_pos hn]at e1
       have hs3:bi ms {S:=S',top:={m.top with pc:=el},below:=m.below} C:=by
        have:=bi.right (m':={S:=S',top:={m.top with pc:=el},below:=m.below}) (a:=⟨100,0,0⟩::(A++(⟨103,(el:Int),0⟩::(B++[⟨104,((el+C.length:Nat):Int),0⟩])))) (b:=C) (ms:=ms) (m:=m) (by simpa using hs) rfl rfl (by simp only[List.length_cons,List.length_append,List.length_nil];omega)
        exact this
       have h2:=ih c' {S:=S',top:={m.top with pc:=el},below:=m.below} (hG3 _) (Nat.le_trans hle hl1) fc (by simp only;rw[hC' el rfl];exact hs3)
       simp only at h2
       rw[hC' el rfl]at h2
       generalize ofD ms N m.top.plugin c' m.top.arg m.top.names (m.below.length+1) S'=q at h2 ⊢
       unfold fL at h2 ⊢
       by_cases hz:q.2.2=0
       ·rw[if_neg (by simpa using hz)]at h2 ⊢
        intro r hr
        refine go2 r (.go ok2 e1 (h2 r ?_))
        have:(MaD.after {S:=S',top:={m.top with pc:=el},below:=m.below} q.1 C.length [q.2.1])=m.after q.1 (1+A.length+1+B.length+1+C.length) [q.2.1]:=by
         simp only[MaD.after]
         rw[show el+C.length=m.top.pc+(1+A.length+1+B.length+1+C.length) by omega]
        rw[this]
        exact hr
       ·rw[if_pos hz]at h2 ⊢
        exact go2 _ (.go ok2 e1 h2)
      ·rw[if_pos hn]
       rw[if_neg hn]at e1
       have hs3:bi ms {S:=S',top:={m.top with pc:=m.top.pc+(1+A.length)+1},below:=m.below} (B++(⟨104,((el+C.length:Nat):Int),0⟩::C)):=bi.right (a:=[⟨103,(el:Int),0⟩]) hs2 rfl rfl (by simp only[MaD.after,List.length_singleton])
       have hB:az b (m.top.pc+(1+A.length)+1)=B:=hB' _ (by omega)
       have h2:=ih b {S:=S',top:={m.top with pc:=m.top.pc+(1+A.length)+1},below:=m.below} (hG3 _) (Nat.le_trans hle hl1) fb (by simp only;rw[hB];exact hs3.left)
       simp only at h2
       rw[hB]at h2
       have hox3:=gW ms N m.top.plugin b m.top.arg m.top.names (m.below.length+1) S' hG2.S hG.top.arg hG.top.names
       generalize ofD ms N m.top.plugin b m.top.arg m.top.names (m.below.length+1) S'=q at h2 hox3 ⊢
       unfold fL at h2 ⊢
       by_cases hz:q.2.2=0
       ·rw[if_neg (by simpa using hz)]at h2 ⊢
        intro r hr
        refine go2 r (.go ok2 e1 (h2 r ?_))
        have hs4:bi ms (MaD.after {S:=S',top:={m.top with pc:=m.top.pc+(1+A.length)+1},below:=m.below} q.1 B.length [q.2.1]) (⟨104,((el+C.length:Nat):Int),0⟩::C):=bi.right hs3 rfl rfl rfl
        refine .go (hs4.at (MaD.Good.after1 (c:=q.2.2) (hG3 _) hox3 hz) ⟨by simp,by simp,by simp,fun _=>Int.natCast_nonneg _,by simp,by simp⟩) (m':=m.after q.1 (1+A.length+1+B.length+1+C.length) [q.2.1]) ?_ hr
        unfold fQ
        simp only[hs4.get]
        rw[if_neg (by decide),if_neg (by decide),if_neg (by decide),if_neg (by decide),if_pos trivial]
        simp only[MaD.after,Int.toNat_natCast]
        congr 3
        omega
       ·rw[if_pos hz]at h2 ⊢
        exact go2 _ (.go ok2 e1 h2)
     ·rw[if_pos hv]
      refine fL.no (by decide) (go2 _ (.fail ok2 ?_))
      unfold fQ
      simp only[hs2.get]
      rw[if_neg (by decide),if_neg (by decide),if_neg (by decide),if_pos trivial]
      simp only[MaD.after,List.nil_append,d8,List.getD_cons_zero]
      rw[if_pos hv]
    ·rw[if_pos hc]at h1 ⊢
     exact fL.no hc (go1 _ h1)
   have hcode:az x m.top.pc=⟨100,0,0⟩::(gU (x.l.map az) (m.top.pc+1)++[⟨x.op,x.k,x.n⟩]):=by
    rw[iO]
    unfold tQ
    rw[if_neg o5,if_neg o7]
   rw[hcode]at hs ⊢
   have hs1:bi ms (m.after m.S.tick 1 []) (gU (x.l.map az) (m.top.pc+1)++[⟨x.op,x.k,x.n⟩]):=bi.right (a:=[⟨100,0,0⟩]) hs rfl rfl rfl
   cases hlf:dV m.top.plugin x m.top.arg m.top.names m.S.tick with
   | some v=>
     have hz:x.l=[]:=by
      have:x.op=1∨x.op=2∨x.op=3∨x.op=4∨x.op=21:=by
       rcases Classical.em (x.op=1∨x.op=2∨x.op=3∨x.op=4∨x.op=21)with h | h
       ·exact h
       ·rw[jf.2 h]at hlf
        cases hlf
      have hp:aW x.op=0:=by rw[aW,if_pos this]
      rw[hp]at f2
      exact List.length_eq_zero_iff.1 (by omega)
     rw[hz]at hs1 ⊢
     simp only[List.map_nil,gU,List.nil_append]at hs1 ⊢
     refine fL.ok fun r hr=>go1 r (.go (hs1.at hG1 ⟨.inl ⟨hop.1,hop.2,o5,o7⟩,fun h=>by simp only at h;omega,fun h=>by simp only at h;omega,fun h=>by simp only at h;omega,fun _=>by
      simp only
      rw[hz]at f2
      rw[←f2]
      simp,fun h=> ?_⟩) ?_ hr)
     ·simp only at h
      rw[h]at f3
      exact Gd f3
     rw[Ag hs1 (by omega)]
     unfold kF
     have hlf2:dV m.top.plugin (.mk x.op x.k x.n []) m.top.arg m.top.names m.S.tick=some v:=by
      rw[←hlf]
      exact Fv rfl rfl rfl
     simp only[MaD.after,List.append_nil,hlf2,MaD.push,List.length_cons,List.length_nil]
   | none=>
     simp only
     rw[if_neg o5,if_neg o7]
     have hL:=OL ih x.l (m.after m.S.tick 1 []) [] hG1 hl1 (kg o5 f5) hs1.left
     have hlen:=C8 (f:=fun y S=>ofD ms N m.top.plugin y m.top.arg m.top.names (m.below.length+1) S) x.l m.S.tick []
     have hle:=tS (f:=fun y S=>ofD ms N m.top.plugin y m.top.arg m.top.names (m.below.length+1) S) (fun y S=>jJ ms N m.top.plugin y m.top.arg m.top.names (m.below.length+1) S) x.l m.S.tick []
     have hoL:=Bv (f:=fun y S=>ofD ms N m.top.plugin y m.top.arg m.top.names (m.below.length+1) S) (fun y S h=>gW ms N m.top.plugin y m.top.arg m.top.names (m.below.length+1) S h hG.top.arg hG.top.names) x.l m.S.tick [] hG.S.tick (by simp)
     change BM ms _ _ _ (evL (fun y S=>ofD ms N m.top.plugin y m.top.arg m.top.names (m.below.length+1) S) x.l m.S.tick [])at hL
     rcases hq:evL (fun y S=>ofD ms N m.top.plugin y m.top.arg m.top.names (m.below.length+1) S) x.l m.S.tick []with⟨S',l,c⟩
     rw[hq]at hL hlen hle hoL
     obtain⟨oL1,oL2,oL3,oL4⟩:=hoL
     simp only[List.length_nil,Nat.zero_add]at hL hlen hle ⊢
     unfold BM at hL
     simp only at hL
     by_cases hc:c=0
     ·subst hc
      rw[if_neg (by simp)]at hL ⊢
      obtain⟨ws,hws,hL⟩:=hL
      rw[List.nil_append]at hws
      subst hws
      have hlen:=hlen rfl
      change ∀ r,gA ms ((m.after m.S.tick 1 []).after S' (gU (x.l.map az) (m.top.pc+1)).length l) r→_ at hL
      rw[fF,List.nil_append]at hL
      generalize gU (x.l.map az) (m.top.pc+1)=A at*
      have go2:∀ r,gA ms (m.after S' (1+A.length) l) r→gA ms m r:=fun r hr=>go1 r (hL r hr)
      have hs2:bi ms (m.after S' (1+A.length) l) [⟨x.op,x.k,x.n⟩]:=bi.right hs1 rfl rfl (by simp only[MaD.after];omega)
      have hlf2:dV m.top.plugin (.mk x.op x.k x.n []) m.top.arg m.top.names S'=none:=jf.2 (jf.1 hlf)
      have est:=Ag hs2 (by omega)
      have tk:=nR h0
      have hlv:=(oL4 rfl).1
      have hll:=(oL4 rfl).2
      simp only[List.length_nil,Nat.add_zero]at oL1 oL2 oL3 hlv hll
      have hG2:(m.after S' (1+A.length) l).Good ms:=hG.after oL1 (by omega) (by omega) hlv
      have ok2:Ok ms (m.after S' (1+A.length) l):=hs2.at hG2 ⟨.inl ⟨hop.1,hop.2,o5,o7⟩,fun h=>by simp only at h;omega,fun h=>by simp only at h;omega,fun h=>by simp only at h;omega,fun _=>by
       simp only[MaD.after,List.length_append]
       omega,fun h=>by
       have:=jf.1 hlf
       simp only at h
       omega⟩
      have hlp:(aW x.op).toNat=l.length:=by omega
      have hk:(⟨100,0,0⟩::(A++[⟨x.op,x.k,x.n⟩]):List aR).length=1+A.length+1:=by simp only[List.length_cons,List.length_append,List.length_nil];omega
      rw[hk]
      clear hk hcode hs hs1
      unfold kF at est
      simp only[MaD.after,List.append_nil,hlf2]at est
      by_cases o18:x.op=18
      ·rw[if_pos o18]at est ⊢
       rw[o18]at f2 f3
       obtain⟨k0,k1⟩:=H0 f3
       obtain⟨v,rfl⟩:∃ v,l=[v]:=by
        have:l.length=1:=by rw[hlen];simp[aW]at f2;omega
        match l,this with
        | [v],_=>exact⟨v,rfl⟩
       rw[d8,gu]at est
       simp only[List.getD_cons_zero]at est ⊢
       unfold MaD.call at est
       simp only at est
       by_cases hfr:m.below.length+1=20
       ·rw[if_pos hfr]at est ⊢
        exact fL.no (by decide) (go2 _ (.fail ok2 est))
       ·rw[if_neg hfr]at est ⊢
        have gf:=sG hg (p:=m.top.plugin) (k:=x.k) (by omega)
        have hG3:(⟨S',⟨m.top.plugin,x.k,0,v,[],[],false,[]⟩,m.below++[{m.top with pc:=m.top.pc+(1+A.length)+1}]⟩:MaD).Good ms:=by
         have g1:=hG.stk;have g2:=hG.few;have g3:=hG.mu
         refine⟨oL1,⟨hG.top.p0,hG.top.there,k0,by simp only;omega,hlv v (by simp),by simp,by simp,by simp⟩,by simp only;omega,?_,?_,?_⟩
         ·simp only[List.length_nil];omega
         ·simp only[List.length_nil];omega
         ·simp only[List.length_append,List.length_singleton];omega
        have hox3:=gW ms N m.top.plugin (cS ms m.top.plugin x.k) v [] (m.below.length+1+1) S' oL1 (hlv v (by simp)) (by simp)
        have h3:=ih (cS ms m.top.plugin x.k) ⟨S',⟨m.top.plugin,x.k,0,v,[],[],false,[]⟩,m.below++[{m.top with pc:=m.top.pc+(1+A.length)+1}]⟩ hG3 (Nat.le_trans hle hl1) gf ⟨[],[⟨105,0,0⟩],by simp[dU],rfl⟩
        simp only[List.length_append,List.length_singleton]at h3
        generalize ofD ms N m.top.plugin (cS ms m.top.plugin x.k) v [] (m.below.length+1+1) S'=q at h3 hox3 ⊢
        unfold fL at h3 ⊢
        by_cases hz:q.2.2=0
        ·rw[if_neg (by simpa using hz)]at h3 ⊢
         intro r hr
         refine go2 r (.go ok2 est (h3 r (.go (bi.at (c:=[]) (x:=⟨105,0,0⟩) ⟨az (cS ms m.top.plugin x.k) 0,[],by simp[dU,MaD.after],by simp[MaD.after]⟩ (MaD.Good.after1 (c:=q.2.2) hG3 hox3 hz) ⟨by simp,by simp[MaD.after],by simp,by simp,by simp,by simp⟩) ?_ hr)))
         rw[pf (c:=[]) (st:=[]) (v:=q.2.1) ⟨az (cS ms m.top.plugin x.k) 0,[],by simp[dU,MaD.after],by simp[MaD.after]⟩ rfl]
         simp only[MaD.after,StD.ok,pt]
         rw[if_neg (by simp)]
         simp only[pt,Bool.false_eq_true,if_false]
         simp[Nat.add_assoc]
        ·rw[if_pos hz]at h3 ⊢
         exact go2 _ (.go ok2 est h3)
      by_cases o19:x.op=19
      ·rw[if_neg o18,if_pos o19]at est ⊢
       rw[o19]at f2
       obtain⟨v,w,rfl⟩:∃ v w,l=[v,w]:=Jd (by rw[hlen];simp[aW]at f2;omega)
       have tk:=jM m.top.stack [v,w]
       have dr:=j7 m.top.stack [v,w]
       simp only[List.length_cons,List.length_nil,Nat.zero_add,reduceAdd]at tk dr
       rw[tk,dr]at est
       simp only[List.getD_cons_zero,List.getD_cons_succ]at est ⊢
       have hal:=pB ms v w (m.below.length+1) S'
       have hao:=CZ (ms:=ms) (v:=v) (x:=w) (fr:=m.below.length+1) oL1
       rcases hqa:eX ms v w (m.below.length+1) S' with⟨S2,q,c⟩
       rw[hqa]at est hal hao
       simp only at est hal hao ⊢
       by_cases hc:c=0
       ·subst hc
        rw[if_neg (by simp)]at est ⊢
        obtain⟨qf,hfr⟩:=CN hqa
        unfold MaD.call at est
        simp only at est
        rw[if_neg hfr]at est
        have gf:=sG hg (p:=q.plugin) (k:=q.func) qf
        obtain⟨b1,b2,b3⟩:=hao
        obtain⟨b4,b5,b6,b7,b8,b9⟩:=b3 rfl
        have hG3:(⟨S2,⟨q.plugin,q.func,0,q.arg,[],[],true,q.gates⟩,m.below++[{m.top with pc:=m.top.pc+(1+A.length)+1}]⟩:MaD).Good ms:=by
         have g1:=hG.stk;have g2:=hG.few;have g3:=hG.mu
         refine⟨b1,⟨b7,b6,b8,b9,b4,by simp,by simp,b5⟩,by simp only;omega,?_,?_,?_⟩
         ·simp only[List.length_nil];omega
         ·simp only[List.length_nil];omega
         ·simp only[List.length_append,List.length_singleton];omega
        have hox3:=gW ms N q.plugin (cS ms q.plugin q.func) q.arg [] (m.below.length+1+1) S2 b1 b4 (by simp)
        have h3:=ih (cS ms q.plugin q.func) ⟨S2,⟨q.plugin,q.func,0,q.arg,[],[],true,q.gates⟩,m.below++[{m.top with pc:=m.top.pc+(1+A.length)+1}]⟩ hG3 (Nat.le_trans (Nat.le_of_eq hal) (Nat.le_trans hle hl1)) gf ⟨[],[⟨105,0,0⟩],by simp[dU],rfl⟩
        simp only[List.length_append,List.length_singleton]at h3
        rcases hq3:ofD ms N q.plugin (cS ms q.plugin q.func) q.arg [] (m.below.length+1+1) S2 with⟨S3,v3,c3⟩
        rw[hq3]at h3 hox3
        unfold fL at h3
        simp only at h3 ⊢
        by_cases hz:c3=0
        ·rw[if_neg (by simpa using hz)]at h3 ⊢
         have bst:=pf (ms:=ms) (m:=MaD.after ⟨S2,⟨q.plugin,q.func,0,q.arg,[],[],true,q.gates⟩,m.below++[{m.top with pc:=m.top.pc+(1+A.length)+1}]⟩ S3 (az (cS ms q.plugin q.func) 0).length [v3]) (c:=[]) (st:=[]) (v:=v3) ⟨az (cS ms q.plugin q.func) 0,[],by simp[dU,MaD.after],by simp[MaD.after]⟩ rfl
         have ok3:Ok ms (MaD.after ⟨S2,⟨q.plugin,q.func,0,q.arg,[],[],true,q.gates⟩,m.below++[{m.top with pc:=m.top.pc+(1+A.length)+1}]⟩ S3 (az (cS ms q.plugin q.func) 0).length [v3]):=
          bi.at (c:=[]) (x:=⟨105,0,0⟩) ⟨az (cS ms q.plugin q.func) 0,[],by simp[dU,MaD.after],by simp[MaD.after]⟩ (hG3.after1 hox3 hz) ⟨by simp,by simp[MaD.after],by simp,by simp,by simp,by simp⟩
         simp only[MaD.after,if_true,pt]at bst
         generalize eC q.gates v3 S3=q4 at bst ⊢
         unfold fL
         by_cases hz4:q4.2.2=0
         ·rw[if_neg (by simpa using hz4)]at bst ⊢
          intro r hr
          refine go2 r (.go ok2 est (h3 r (.go ok3 bst ?_)))
          simpa[MaD.after,Nat.add_assoc]using hr
         ·rw[if_pos hz4]at bst ⊢
          exact go2 _ (.go ok2 est (h3 _ (.fail ok3 bst)))
        ·rw[if_pos hz]at h3 ⊢
         exact fL.no hz (go2 _ (.go ok2 est h3))
       ·rw[if_pos hc]at est ⊢
        exact fL.no hc (go2 _ (.fail ok2 est))
      rw[if_neg o18,if_neg o19]at est ⊢
      rw[hlp,jM,j7]at est
      generalize bH m.top.plugin x.op x.k x.n l S'=q at est ⊢
      unfold fL
      unfold MaD.done MaD.push at est
      by_cases hz:q.2.2=0
      ·rw[if_neg (by simpa using hz)]at est ⊢
       intro r hr
       refine go2 r (.go ok2 est ?_)
       simpa only[MaD.after,Nat.add_assoc]using hr
      ·rw[if_pos hz]at est ⊢
       exact go2 _ (.fail ok2 est)
     ·rw[if_pos hc]at hL ⊢
      exact fL.no hc (go1 _ hL)
theorem eB {α:Type} {l:List α} (h:1≤l.length):∃ st v,l=st++[v]:=⟨l.dropLast,l.getLast (fun e=>by rw[e]at h;simp at h),(List.dropLast_concat_getLast _).symm⟩
theorem xh {α:Type} {l:List α} (h:2≤l.length):∃ st v w,l=st++[v]++[w]:=by
 obtain⟨st,w,rfl⟩:=eB (l:=l) (by omega)
 obtain⟨st,v,rfl⟩:=eB (l:=st) (by simp at h;omega)
 exact⟨st,v,w,rfl⟩
section
variable {h h' h0:AH} {F J F0 J0:Nat→Prop} {L:List Asn} {c:Cfg} {i:Nat} {n:Now}
abbrev Now.m (n:Now):MaD:=⟨n.S,n.top,n.below⟩
theorem bw.toI {st:List VD} {q:StD×VD×Int} {fr:AV ⊕ AV} (r:bw h0 F0 J0 c L i (n.stk st) q fr h'):Jg h0 F0 J0 c L i (MaD.done n.m st q) fr h':=by
 unfold MaD.done
 rcases r with⟨e,b,s⟩ | ⟨e,b,n',e2,s⟩
 ·rw[if_neg (by simpa using e)]
  exact⟨b,n.fb,s⟩
 ·rw[if_pos e]
  exact⟨b,n',e2,s⟩
theorem kW.toI {st:List VD} {q:StD×rc×Int} {fr:AV ⊕ AV} (r:kW h0 F0 J0 c L i (n.stk st) q fr h') (h20:q.2.2=0→n.below.length+1≠20):Jg h0 F0 J0 c L i (match q with
   | (S',q,k)=>if k≠0 then .fail S' k else MaD.call n.m S' st q.plugin q.func q.arg true q.gates) fr h':=by
 obtain⟨S',q,k⟩:=q
 rcases r with⟨e,b,fb,s⟩ | ⟨e,b,n',e2,s⟩
 ·simp only at e s h20 ⊢
  rw[if_neg (by simpa using e)]
  unfold MaD.call
  rw[if_neg (h20 e)]
  exact⟨b,fb,s⟩
 ·simp only at e b e2 s ⊢
  rw[if_pos e]
  exact⟨b,n',e2,s⟩
theorem MT.toI {st:List VD} {k:Int} {v:VD} {fr:AV ⊕ AV} (r:MT h0 F0 J0 c L i (n.stk st) k v fr h'):Jg h0 F0 J0 c L i (MaD.call n.m n.S st n.top.plugin k v false []) fr h':=by
 unfold MaD.call
 rcases r with⟨e,b,fb,s⟩ | ⟨e,b,s⟩
 ·rw[if_neg e]
  exact⟨b,fb,s⟩
 ·rw[if_pos e]
  exact⟨b,n.stk st,rfl,s⟩
theorem uY {ms:aM} {m:MaD} {op k x:Int} (h:¬ (op=1∨op=2∨op=3∨op=4∨op=21)) (h8:op≠18) (h9:op≠19):kF ms m ⟨op,k,x⟩=m.done (ly m.top.stack (aW op).toNat) (bH m.top.plugin op k x (kc m.top.stack (aW op).toNat) m.S):=by
 unfold kF
 have hl:dV m.top.plugin (.mk op k x []) m.top.arg m.top.names m.S=none:=jf.2 h
 simp only
 rw[hl]
 simp only
 rw[if_neg h8,if_neg h9]
theorem EP {ms:aM} {m:MaD} {op k x:Int} {v:VD} (h:dV m.top.plugin (.mk op k x []) m.top.arg m.top.names m.S=some v):kF ms m ⟨op,k,x⟩=m.push m.S m.top.stack v:=by
 unfold kF
 simp only
 rw[h]
theorem nI {ms:aM} {st:List VD} {v:VD} {op k x:Int} (hst:n.top.stack=st++[v]) (h:¬ (op=1∨op=2∨op=3∨op=4∨op=21)) (h8:op≠18) (h9:op≠19) (hp:(aW op).toNat=1):kF ms n.m ⟨op,k,x⟩=MaD.done n.m st (bH n.top.plugin op k x [v] n.S):=by
 rw[uY h h8 h9,hp]
 simp only[hst,d8,gu]
theorem FV {ms:aM} {st:List VD} {v w:VD} {op k x:Int} (hst:n.top.stack=st++[v]++[w]) (h:¬ (op=1∨op=2∨op=3∨op=4∨op=21)) (h8:op≠18) (h9:op≠19) (hp:(aW op).toNat=2):kF ms n.m ⟨op,k,x⟩=MaD.done n.m st (bH n.top.plugin op k x [v,w] n.S):=by
 rw[uY h h8 h9,hp]
 have e:n.top.stack=st++[v,w]:=by rw[hst,List.append_assoc];rfl
 have t:=jM st [v,w]
 have d:=j7 st [v,w]
 simp only[List.length_cons,List.length_nil,Nat.zero_add,reduceAdd]at t d
 simp only[e,t,d]
theorem n9 {ms:aM} {v:VD} {op k x:Int} {h1:AH} (hl:dV n.top.plugin (.mk op k x []) n.top.arg n.top.names n.S=some v) (s:St h0 F0 J0 h1 (put c L i (n.stk (n.top.stack++[v])))):Jg h0 F0 J0 c L i (kF ms n.m ⟨op,k,x⟩) (.inl (.tup [])) h1:=by
 rw[EP hl]
 exact⟨rfl,n.fb,s⟩
theorem oY {st:List VD} {l:List VD} (hg:n.top.Good c.ms) (hst:n.top.stack=st++l) {v:VD} (hv:v∈l):v.code=0:=hg.stack v (by rw[hst];exact List.mem_append_right _ hv)
set_option maxHeartbeats 1000000 in
theorem Np (s:St h0 F0 J0 h L) (a:At c L i n) (o:OkR c n) (hg:n.top.Good c.ms) {x:aR} (hx:Ff n.m x) (hop:x.op<100):
  ∃ fr h',aj Tryz.prog po jD [.ptr c.mb 0 0,.agg (cb x)] h=some (fr,h')∧Jg h0 F0 J0 c L i (kF c.ms n.m x) fr h':=by
 obtain⟨op,k,m⟩:=x
 simp only at hop
 have hk:=hx.kind
 have hparts:=hx.parts hop
 have hvar:=hx.var
 simp only at hk hparts hvar
 obtain⟨P,hP⟩:=Int.eq_ofNat_of_zero_le hg.p0
 have hP4:P<4:=by
  have:=hg.there
  rw[hP]at this
  have this:(c.ms.getD P none).isSome=true:=this
  rcases Nat.lt_or_ge P 4 with h | h
  ·exact h
  ·rw[List.getD,List.getElem?_eq_none (by rw[o.ms];exact h)]at this
   cases this
 have pP:n.top.plugin.toNat=P:=by rw[hP];rfl
 have cases_:op=1∨op=2∨op=3∨op=4∨op=6∨op=8∨op=9∨op=10∨op=11∨op=12∨op=13∨op=14∨op=15∨op=16∨op=17∨op=18∨op=19∨op=20∨op=21:=by omega
 rcases cases_ with rfl | rfl | rfl | rfl | rfl | rfl | rfl | rfl | rfl | rfl | rfl | rfl | rfl | rfl | rfl | rfl | rfl | rfl | rfl
 ·obtain⟨h',e,s'⟩:=Lj s a o k m
  exact⟨_,h',e,n9 rfl s'⟩
 ·obtain⟨h',e,s'⟩:=Jz s a o k m
  exact⟨_,h',e,n9 rfl s'⟩
 ·obtain⟨h',e,s'⟩:=Ki s a o k m
  exact⟨_,h',e,n9 rfl s'⟩
 ·obtain⟨h',e,s'⟩:=Kc s a o (hvar rfl) m
  exact⟨_,h',e,n9 rfl s'⟩
 ·obtain⟨st,v,w,hst⟩:=xh (l:=n.top.stack) hparts
  obtain⟨fr,h',e,r⟩:=KQ s a o hst k m
  exact⟨fr,h',e,by rw[FV hst (by decide) (by decide) (by decide) rfl];exact r.toI⟩
 ·obtain⟨st,v,w,hst⟩:=xh (l:=n.top.stack) hparts
  obtain⟨fr,h',e,r⟩:=Kt s a o hst k m
  exact⟨fr,h',e,by rw[FV hst (by decide) (by decide) (by decide) rfl];exact r.toI⟩
 ·obtain⟨st,v,hst⟩:=eB (l:=n.top.stack) hparts
  obtain⟨fr,h',e,r⟩:=JJ s a o hst (oY hg hst (by simp)) k m
  exact⟨fr,h',e,by rw[nI hst (by decide) (by decide) (by decide) rfl];exact r.toI⟩
 ·obtain⟨st,v,hst⟩:=eB (l:=n.top.stack) hparts
  obtain⟨fr,h',e,r⟩:=IG s a o hst (oY hg hst (by simp)) k m
  exact⟨fr,h',e,by rw[nI hst (by decide) (by decide) (by decide) rfl];exact r.toI⟩
 ·obtain⟨st,v,hst⟩:=eB (l:=n.top.stack) hparts
  obtain⟨fr,h',e,r⟩:=Gv s a o hst k m
  exact⟨fr,h',e,by rw[nI hst (by decide) (by decide) (by decide) rfl];exact r.toI⟩
 ·obtain⟨st,v,hst⟩:=eB (l:=n.top.stack) hparts
  obtain⟨fr,h',e,r⟩:=GZ s a o hst (oY hg hst (by simp)) k m
  exact⟨fr,h',e,by rw[nI hst (by decide) (by decide) (by decide) rfl];exact r.toI⟩
 ·obtain⟨st,v,hst⟩:=eB (l:=n.top.stack) hparts
  obtain⟨fr,h',e,r⟩:=IS s a o hst k m
  exact⟨fr,h',e,by rw[nI hst (by decide) (by decide) (by decide) rfl];exact r.toI⟩
 ·obtain⟨st,v,w,hst⟩:=xh (l:=n.top.stack) hparts
  obtain⟨fr,h',e,r⟩:=HO s a o hst k m
  exact⟨fr,h',e,by rw[FV hst (by decide) (by decide) (by decide) rfl];exact r.toI⟩
 ·obtain⟨st,v,hst⟩:=eB (l:=n.top.stack) hparts
  obtain⟨fr,h',e,r⟩:=GC s a o hst k m
  exact⟨fr,h',e,by rw[nI hst (by decide) (by decide) (by decide) rfl];exact r.toI⟩
 ·obtain⟨st,v,hst⟩:=eB (l:=n.top.stack) hparts
  obtain⟨fr,h',e,r⟩:=HL s a o hst k m
  exact⟨fr,h',e,by rw[nI hst (by decide) (by decide) (by decide) rfl];exact r.toI⟩
 ·obtain⟨st,v,hst⟩:=eB (l:=n.top.stack) hparts
  obtain⟨fr,h',e,r⟩:=Hr s a o hst k m
  exact⟨fr,h',e,by rw[nI hst (by decide) (by decide) (by decide) rfl];exact r.toI⟩
 ·obtain⟨st,v,hst⟩:=eB (l:=n.top.stack) hparts
  obtain⟨fr,h',e,r⟩:=IX s a o hst k m
  refine⟨fr,h',e,?_⟩
  have:kF c.ms n.m ⟨18,k,m⟩=MaD.call n.m n.S st n.top.plugin k v false []:=by
   unfold kF
   simp only
   have hl:dV n.top.plugin (.mk 18 k m []) n.top.arg n.top.names n.S=none:=rfl
   rw[hl]
   simp only[hst,d8,gu,if_true]
   rfl
  rw[this]
  exact r.toI
 ·obtain⟨st,v,w,hst⟩:=xh (l:=n.top.stack) hparts
  obtain⟨fr,h',e,r⟩:=Ic s a o hst k m
  refine⟨fr,h',e,?_⟩
  have e2:n.top.stack=st++[v,w]:=by rw[hst,List.append_assoc];rfl
  have t:=jM st [v,w]
  have d:=j7 st [v,w]
  simp only[List.length_cons,List.length_nil,Nat.zero_add,reduceAdd]at t d
  have:kF c.ms n.m ⟨19,k,m⟩=match eX c.ms v w (n.below.length+1) n.S with
   | (S',q,k)=>if k≠0 then .fail S' k else MaD.call n.m S' st q.plugin q.func q.arg true q.gates:=by
   unfold kF
   simp only
   have hl:dV n.top.plugin (.mk 19 k m []) n.top.arg n.top.names n.S=none:=rfl
   rw[hl]
   simp only[e2,t,d,if_true]
   rw[if_neg (by decide)]
   rfl
  rw[this]
  refine kW.toI (q:=eX c.ms v w (n.below.length+1) n.S) r fun h0=> ?_
  exact(CN (S':=(eX c.ms v w (n.below.length+1) n.S).1) (q:=(eX c.ms v w (n.below.length+1) n.S).2.1) (by rw[←h0])).2
 ·obtain⟨st,v,hst⟩:=eB (l:=n.top.stack) hparts
  obtain⟨fr,h',e,r⟩:=HG s a o hst hP hP4 k m
  exact⟨fr,h',e,by rw[nI hst (by decide) (by decide) (by decide) rfl];exact r.toI⟩
 ·obtain⟨h',e,s'⟩:=Hz s a o hP hP4 k m
  refine⟨_,h',e,n9 ?_ s'⟩
  show some (n.S.kept.getD n.top.plugin.toNat au)=_
  rw[pP]
end
def kV (c:Cfg) (L:List Asn) (i fb:Nat) (S:StD):List Asn:=(put c L i ⟨fb,S,[],⟨0,0,0,au,[],[],false,[]⟩⟩).set i (BP c.mb c.bb fb (S.left:Int))
theorem JY {c:Cfg} {L:List Asn} {i:Nat} {n n':Now} {X:Asn} (hS:n.S=n'.S):(put c L i n).set i X=(put c L i n').set i X:=by
 refine kG fun j=> ?_
 rw[List.getElem?_set,List.getElem?_set,qF,qF,ft,ft,hS]
 by_cases hj:i=j
 ·rw[if_pos hj,if_pos hj]
 ·rw[if_neg hj,if_neg hj,if_neg (show ¬ j=i from Ne.symm hj),if_neg (show ¬ j=i from Ne.symm hj)]
theorem Cm {c:Cfg} {L:List Asn} {i fb:Nat} {n:Now}:(put c L i n).set i (BP c.mb c.bb fb (n.S.left:Int))=kV c L i fb n.S:=JY rfl
def wj (h0:AH) (F0 J0:Nat→Prop) (c:Cfg) (L:List Asn) (i:Nat) (q:iY) (fr:AV ⊕ AV) (h':AH):Prop:=match q with
 | .go m=>∃ r,fr= .inl (.tup [.agg r,.bool false])∧(r.length=3∧r.all AV.one=true)∧∃ fb',St h0 F0 J0 h' (put c L i ⟨fb',m.S,m.below,m.top⟩)
 | .fail S k=>fr= .inr (.iface tGo (.int .i64 k))∧∃ n':Now,n'.S=S∧St h0 F0 J0 h' (put c L i n')
 | .over S v=>∃ r,fr= .inl (.tup [.agg r,.bool true])∧VaA v r∧∃ fb',St h0 F0 J0 h' (kV c L i fb' S)
abbrev OR:FuncId:=92
section
variable {h h' h0:AH} {F J F0 J0:Nat→Prop} {L:List Asn} {c:Cfg} {i:Nat} {n:Now}
theorem IM {α:Type} (l:List α):l=[]∨∃ a t,l=a++[t]:=by
 rcases Nat.eq_zero_or_pos l.length with h | h
 ·exact .inl (List.length_eq_zero_iff.1 h)
 ·obtain⟨a,t,e⟩:=eB (l:=l) h
  exact .inr ⟨a,t,e⟩
theorem yn {hA:AH} {LA:List Asn} {iA:Nat} {nA:Now} (s:St h0 F0 J0 hA LA) (a:At c LA iA nA) (hb:nA.below.length≤100) (ht:∀ t,nA.below.getLast? =some t→t.stack.length≤100000) {v:VD} {r:List AV} (hv:VaA v r):
  (∀ k:Nat,aD false k hA (.ptr c.mb 0 1)=some (.msl nA.fb 0 (nA.below.length+1) tFr))∧
  ((nA.below=[]∧∃ h1,aH 1 hA (.ptr c.mb 0 1) (.msl nA.fb 0 nA.below.length tFr)=some h1∧(∀ k:Nat,aD false k h1 (.ptr c.mb 0 1)=some (.msl nA.fb 0 nA.below.length tFr))∧St h0 F0 J0 h1 (LA.set iA (BP c.mb c.bb nA.fb (nA.S.left:Int))))∨
   (∃ bl t,nA.below=bl++[t]∧∃ h1 h2,aH 1 hA (.ptr c.mb 0 1) (.msl nA.fb 0 nA.below.length tFr)=some h1∧(∀ k:Nat,aD false k h1 (.ptr c.mb 0 1)=some (.msl nA.fb 0 nA.below.length tFr))∧St h0 F0 J0 h1 (put c LA iA ⟨nA.fb,nA.S,bl,t⟩)∧
      aj Tryz.prog po fPu [.ptr c.mb 0 0,.agg r] h1=some (.inl (.tup []),h2)∧St h0 F0 J0 h2 (put c LA iA ⟨nA.fb,nA.S,bl,{t with stack:=t.stack++[v]}⟩))):=by
 obtain⟨_,_,_,_,mv⟩:=dv s iA a.m
 refine⟨fun k=>by rw[bC,mv.m];rfl,?_⟩
 rcases IM nA.below with hn | ⟨bl,t,hn⟩
 ·refine .inl ⟨hn,?_⟩
  have am:=a.m
  rw[hn]at am ⊢
  obtain⟨h1,e1,s1⟩:=JO s iA am
  refine⟨h1,e1,fun k=> ?_,s1⟩
  have hl:iA<LA.length:=(List.getElem?_eq_some_iff.1 am).1
  have hc:=(s1.cell iA (by rw[List.getElem?_set_self hl];rfl)).1
  rw[bC,hc];rfl
 ·refine .inr ⟨bl,t,hn,?_⟩
  have am:=a.m
  rw[hn]at am
  obtain⟨h1,e1,s1⟩:=Ho s iA am
  rw[a.setM]at s1
  have a1:=a.put ⟨nA.fb,nA.S,bl,t⟩
  obtain⟨_,_,_,_,mv1⟩:=dv s1 iA a1.m
  have hlen:nA.below.length=bl.length+1:=by rw[hn];simp
  obtain⟨h2,e2,s2⟩:=dp s1 a1 (by simp only;omega) (ht t (by rw[hn];simp)) hv
  rw[aQ]at s2
  exact⟨h1,h2,by rw[hlen];exact e1,fun k=>by rw[bC,mv1.m,hlen];rfl,s1,e2,s2⟩
theorem zU {gates:List Int} {v:VD} {S:StD}:eC gates v S=if(aV gates S.G v).2.2≠0 then({S with G:=(aV gates S.G v).1}:StD).no (aV gates S.G v).2.2 else({S with G:=(aV gates S.G v).1}:StD).ok (aV gates S.G v).2.1:=rfl
theorem wR {st:List VD} {v:VD} (hst:n.top.stack=st++[v]):MaD.back n.m=(if(if n.top.asked then eC n.top.gates v n.S else n.S.ok v).2.2≠0 then .fail (if n.top.asked then eC n.top.gates v n.S else n.S.ok v).1 (if n.top.asked then eC n.top.gates v n.S else n.S.ok v).2.2
  else match n.below.getLast? with
  | none=> .over (if n.top.asked then eC n.top.gates v n.S else n.S.ok v).1 (if n.top.asked then eC n.top.gates v n.S else n.S.ok v).2.1
  | some t=> .go ⟨(if n.top.asked then eC n.top.gates v n.S else n.S.ok v).1,{t with stack:=t.stack++[(if n.top.asked then eC n.top.gates v n.S else n.S.ok v).2.1]},n.below.dropLast⟩):=by
 unfold MaD.back
 simp only[hst,d8,List.getD_cons_zero]
 rfl
set_option maxRecDepth 100000 in
set_option maxHeartbeats 2000000 in
theorem Kq (s:St h0 F0 J0 h L) (a:At c L i n) (o:OkR c n) {st:List VD} {v:VD} (hst:n.top.stack=st++[v]) (hgf:n.top.gates.length≤80) (hgo:∀ m',MaD.back n.m= .go m'→m'.top.stack.length≤100000):
  ∃ fr h',aj Tryz.prog po OR [.ptr c.mb 0 0] h=some (fr,h')∧wj h0 F0 J0 c L i (MaD.back n.m) fr h':=by
 have ht0:n.top.asked=false→∀ t,n.below.getLast? =some t→t.stack.length≤100000:=fun hk t ht=>by
  rw[wR hst,hk]at hgo
  simp only[Bool.false_eq_true,if_false]at hgo
  rw[if_neg (by simp[StD.ok]),ht]at hgo
  have:=hgo _ rfl
  simp at this
  omega
 have ht1:n.top.asked=true→(aV n.top.gates n.S.G v).2.2=0→∀ t,n.below.getLast? =some t→t.stack.length≤100000:=fun hk hc t ht=>by
  have hb:(eC n.top.gates v n.S).2.2=0:=by rw[zU,if_neg (fun e=>e hc)];rfl
  rw[wR hst,hk]at hgo
  simp only[if_true]at hgo
  rw[if_neg (fun e=>e hb),ht]at hgo
  have:=hgo _ rfl
  simp at this
  omega
 clear hgo
 rw[wR hst]
 have s0:=s.push [zR3]
 have a0:=a.cons (ai h.n [zR3])
 obtain⟨h2,r,e2,hv,s2,a2⟩:=fk s0 a0 o hst
 have o3:=o.stk' hst
 rw[ap]at s2 a2
 obtain⟨o1,o2⟩:=hv.len3
 have s3:=s2.push [r]
 have a3:=a2.cons (ai h2.n [r])
 obtain⟨tp,_⟩:=cK s3 a3 o.below
 obtain⟨ar,sv,nv,g,mv⟩:=dv s3 (i+1+1) a3.m
 have lall:=mv.all
 have hgo:g.one=true:=by
  have:=mv.hg
  rcases this with⟨_,rfl⟩ | ⟨id,rfl⟩<;>rfl
 have hga:SlA 3 g (bh n.top.gates):=mv.hg
 have g6:=ca (n.stk st).top ar sv nv g mv.ha.len3.1
 have g7:=oz (f:=(n.stk st).top) (g:=g) mv.ha.len3 mv.sv.1 mv.nv.1 hgo
 generalize cP (n.stk st).top ar sv nv g=row at*
 have s4:St h0 F0 J0 _ (ai (h2.n+1) [row]::ai h2.n [r]::ai h.n [zR3]::put c L i (n.stk st)):=s3.push [row]
 have a4:=a3.cons (ai (h2.n+1) [row])
 have c1:=(s4.cell 0 rfl).1
 have c2:=(s4.cell 1 rfl).1
 have wl:IntKind.wrap .i64 (((n.below.length+1:Nat):Int) - 1)=(n.below.length:Int):=Bj (by omega) (by have:=o.below;omega) (by have:=o.below;omega)
 have sl:=wq (e:=tFr) (b:=n.fb) (n:=n.below.length+1) (m:=n.below.length) (by omega)
 have fm:aI 1 (.ptr c.mb 0 0)=some (.ptr c.mb 0 1):=rfl
 have r8:row[8]? =some (.bool n.top.asked):=g6.2.2.2.2.1
 have r9:row[9]? =some g:=g6.2.2.2.1
 have rl:row.length=10:=g6.2.1
 clear g6
 cases hask:n.top.asked with
 | false=>
   rw[hask]at r8
   simp only[Bool.false_eq_true,if_false,StD.ok]
   rw[if_neg (by simp)]
   obtain⟨ld,hfin⟩:=yn s4 a4 o.below (ht0 hask) hv
   rcases hfin with⟨hb0,h1,e5,l5,s5⟩ | ⟨bl,t,hbl,h1,h5,e5,l5,s5,e6,s6⟩
   ·have hb0:n.below=[]:=hb0
    rw[hb0]
    have s5':St h0 F0 J0 h1 (ai (h2.n+1) [row]::ai h2.n [r]::ai h.n [zR3]::(put c L i (n.stk st)).set i (BP c.mb c.bb n.fb (n.S.left:Int))):=s5
    have d1:=(s5'.cell 1 rfl).1
    have d2:=(s5'.cell 2 rfl).1
    have s6:=s5'.set 2 rfl [r]
    have d3:=(s6.cell 2 rfl).1
    refine⟨.inl (.tup [.agg r,.bool true]),_,?_,r,rfl,hv,n.fb,by have:=s6.drop.drop.drop;rw[←Cm (n:=n.stk st)];exact this⟩
    have dz:decide ((n.below.length:Int)=0)=true:=decide_eq_true (by rw[hb0];rfl)
    refine ah lH rfl ?_;unfold jU
    simp only[sim,ag,reduceAdd,reduceSub,replicate,reduceCtorEq,reduceLeDiff,reduceLT,aa,ay,e2,o1,o2,tp,lall,rl,g7,c1,c2,r8,fm,ld,wl,sl,e5,l5,dz,d1,d2,d3,nU,oL]
   ·have hbl:n.below=bl++[t]:=hbl
    have hlen:n.below.length=bl.length+1:=by rw[hbl];simp
    have hlast:n.below.getLast? =some t:=by rw[hbl];simp
    have hdrop:n.below.dropLast=bl:=by rw[hbl];simp
    rw[hlast,hdrop]
    have s5':St h0 F0 J0 h1 (ai (h2.n+1) [row]::ai h2.n [r]::ai h.n [zR3]::put c (put c L i (n.stk st)) i ⟨n.fb,n.S,bl,t⟩):=s5
    have s6':St h0 F0 J0 h5 (ai (h2.n+1) [row]::ai h2.n [r]::ai h.n [zR3]::put c (put c L i (n.stk st)) i ⟨n.fb,n.S,bl,{t with stack:=t.stack++[v]}⟩):=s6
    have d1:=(s5'.cell 1 rfl).1
    have d2:=(s6'.cell 1 rfl).1
    have d3:=(s6'.cell 2 rfl).1
    have s7:=s6'.set 2 rfl [r]
    have d4:=(s7.cell 2 rfl).1
    refine⟨.inl (.tup [.agg r,.bool false]),_,?_,r,rfl,hv.len3,n.fb,by have:=s7.drop.drop.drop;rw[aQ]at this;exact this⟩
    have dz:decide ((n.below.length:Int)=0)=false:=decide_eq_false (by rw[hlen];omega)
    refine ah lH rfl ?_;unfold jU
    simp only[sim,ag,reduceAdd,reduceSub,replicate,reduceCtorEq,reduceLeDiff,reduceLT,aa,ay,e2,o1,o2,tp,lall,rl,g7,c1,c2,r8,fm,ld,wl,sl,e5,l5,dz,d1,e6,d2,d3,d4,nU,oL]
 | true=>
   rw[hask]at r8
   simp only[if_true]
   have ht2:=ht1 hask
   clear ht0 ht1
   rw[zU]
   obtain⟨l0,l1,_⟩:=cX s4 a4 o.len
   have f0:aI 0 (.ptr c.mb 0 0)=some (.ptr c.mb 0 0):=rfl
   have f1:aI 0 (.ptr c.bb 0 0)=some (.ptr c.bb 0 0):=rfl
   obtain⟨h5,⟨y,e5,hy⟩,s5⟩:=lG s4 a4 (R:=fun h'=>∃ r',aj Tryz.prog po 113 [.ptr c.gb 0 0,.agg r,g] ((h2.push [r]).push [row])=some (.inl (.tup [.agg r',.int .i64 (aV n.top.gates n.S.G v).2.2]),h')∧VaA (aV n.top.gates n.S.G v).2.1 r') fun F J gx=>qP gx o.S.wf hv hga (by omega)
   generalize aV n.top.gates n.S.G v=q at*
   obtain⟨G',v',cc⟩:=q
   simp only at e5 hy s5 ⊢
   rw[ap,ap,ap,aQ]at s5
   obtain⟨z1,z2⟩:=hy.len3
   have a5:=(((a.put {(n.stk st)with S:={n.S with G:=G'}}).cons (ai h.n [zR3])).cons (ai h2.n [r])).cons (ai (h2.n+1) [row])
   have s6:=s5.push [zR3]
   have a6:=a5.cons (ai h5.n [zR3])
   obtain⟨n0,n1,_⟩:=cX s6 a6 o.len
   have d0:=(s6.cell 1 rfl).1
   have d1:=(s6.cell 2 rfl).1
   have s7:=s5.push [y]
   have a7:=a5.cons (ai h5.n [y])
   have d2:=(s7.cell 0 rfl).1
   have d3:=(s7.cell 2 rfl).1
   by_cases hcc:cc=0
   ·subst hcc
    rw[if_neg (fun h=>h rfl)]
    simp only[StD.ok]
    rw[if_neg (by simp)]
    have d5:decide ((0:Int)=0)=true:=rfl
    have s8:St h0 F0 J0 _ (ai h5.n [y]::ai (h2.n+1) [row]::ai h2.n [y]::ai h.n [zR3]::put c L i {(n.stk st)with S:={n.S with G:=G'}}):=s7.set 2 rfl [y]
    have a8:=(((a.put {(n.stk st)with S:={n.S with G:=G'}}).cons (ai h.n [zR3])).cons (ai h2.n [y])).cons (ai (h2.n+1) [row]) |>.cons (ai h5.n [y])
    obtain⟨ld,hfin⟩:=yn s8 a8 o.below (ht2 rfl) hy
    rcases hfin with⟨hb0,h1,e9,l9,s9⟩ | ⟨bl,t,hbl,h1,h9,e9,l9,s9,e10,s10⟩
    ·have hb0:n.below=[]:=hb0
     rw[hb0]
     have s9':St h0 F0 J0 h1 (ai h5.n [y]::ai (h2.n+1) [row]::ai h2.n [y]::ai h.n [zR3]::(put c L i {(n.stk st)with S:={n.S with G:=G'}}).set i (BP c.mb c.bb n.fb (n.S.left:Int))):=s9
     have g1:=(s9'.cell 2 rfl).1
     have g2:=(s9'.cell 3 rfl).1
     have s11:=s9'.set 3 rfl [y]
     have g3:=(s11.cell 3 rfl).1
     refine⟨.inl (.tup [.agg y,.bool true]),_,?_,y,rfl,hy,n.fb,by have:=s11.drop.drop.drop.drop;rw[←Cm (n:={(n.stk st)with S:={n.S with G:=G'}})];exact this⟩
     have dz:decide ((n.below.length:Int)=0)=true:=decide_eq_true (by rw[hb0];rfl)
     refine ah lH rfl ?_;unfold jU
     simp only[sim,ag,reduceAdd,reduceSub,replicate,reduceCtorEq,reduceLeDiff,reduceLT,aa,ay,e2,o1,o2,tp,lall,rl,g7,c1,c2,r8,r9,fm,f0,f1,l0,l1,e5,n0,n1,d0,d1,d2,d3,d5,bZ,z1,z2,ld,wl,sl,e9,l9,dz,g1,g2,g3,nU,oL]
    ·have hbl:n.below=bl++[t]:=hbl
     have hlen:n.below.length=bl.length+1:=by rw[hbl];simp
     have hlast:n.below.getLast? =some t:=by rw[hbl];simp
     have hdrop:n.below.dropLast=bl:=by rw[hbl];simp
     rw[hlast,hdrop]
     have s9':St h0 F0 J0 h1 (ai h5.n [y]::ai (h2.n+1) [row]::ai h2.n [y]::ai h.n [zR3]::put c (put c L i {(n.stk st)with S:={n.S with G:=G'}}) i ⟨n.fb,{n.S with G:=G'},bl,t⟩):=s9
     have s10':St h0 F0 J0 h9 (ai h5.n [y]::ai (h2.n+1) [row]::ai h2.n [y]::ai h.n [zR3]::put c (put c L i {(n.stk st)with S:={n.S with G:=G'}}) i ⟨n.fb,{n.S with G:=G'},bl,{t with stack:=t.stack++[v']}⟩):=s10
     have g1:=(s9'.cell 2 rfl).1
     have g2:=(s10'.cell 2 rfl).1
     have g3:=(s10'.cell 3 rfl).1
     have s11:=s10'.set 3 rfl [y]
     have g4:=(s11.cell 3 rfl).1
     refine⟨.inl (.tup [.agg y,.bool false]),_,?_,y,rfl,hy.len3,n.fb,by have:=s11.drop.drop.drop.drop;rw[aQ]at this;exact this⟩
     have dz:decide ((n.below.length:Int)=0)=false:=decide_eq_false (by rw[hlen];omega)
     refine ah lH rfl ?_;unfold jU
     simp only[sim,ag,reduceAdd,reduceSub,replicate,reduceCtorEq,reduceLeDiff,reduceLT,aa,ay,e2,o1,o2,tp,lall,rl,g7,c1,c2,r8,r9,fm,f0,f1,l0,l1,e5,n0,n1,d0,d1,d2,d3,d5,bZ,z1,z2,ld,wl,sl,e9,l9,dz,g1,e10,g2,g3,g4,nU,oL]
   ·rw[if_pos hcc,if_pos (show((({n.S with G:=G'}:StD).no cc).2.2≠0) from hcc)]
    simp only[StD.no]
    have d5:decide (cc=0)=false:=decide_eq_false hcc
    refine⟨_,_,?_,rfl,{(n.stk st)with S:={n.S with G:=G'}},rfl,s7.drop.drop.drop.drop⟩
    refine ah lH rfl ?_;unfold jU
    simp only[sim,ag,reduceAdd,reduceSub,replicate,reduceCtorEq,reduceLeDiff,reduceLT,aa,ay,e2,o1,o2,tp,lall,rl,g7,c1,c2,r8,r9,fm,f0,f1,l0,l1,e5,n0,n1,d0,d1,d2,d3,d5,bP,z1,z2]
end
end Go.Proofs.YtkdbjfncchmmpaaGreat
