/- pass in the plain model: may it be handed on; the mover. -/
import Derived.Test.YtkdbjfncchmmpaaGreatMg5
namespace Go.Proofs.YtkdbjfncchmmpaaGreat
open Nat renaming reduceAdd→θ,reduceSub→ξ,reduceLeDiff→ψ,reduceLT→ω
open List renaming replicate→η
set_option linter.unusedSimpArgs false
set_option linter.unusedVariables false
set_option linter.unusedSimpArgs false
set_option linter.unusedVariables false
open Go
theorem Sa {x:BitVec 64}:LC x.toInt 4=cP x.toInt 2:=by
 have h4:(4:Int)=(4#64).toInt:=by decide
 rw[h4,FS,vH x (by omega)]
 have e:(4#64)=BitVec.twoPow 64 2:=by decide
 cases hb:x.getLsbD 2
 ·refine decide_eq_false fun h=> ?_
  have:=congrArg (fun v:BitVec 64=>v.getLsbD 2) h
  simp only[BitVec.getLsbD_and,hb,Bool.false_and]at this
  exact absurd this (by decide)
 ·refine decide_eq_true (BitVec.eq_of_getLsbD_eq fun i hi=> ?_)
  rw[BitVec.getLsbD_and,e,BitVec.getLsbD_twoPow]
  by_cases h2:2=i
  ·subst h2
   simp[hb]
  ·simp[h2]
section
variable {h:AH} {F J:Nat→Prop} {b:Nat} {G:ae}
abbrev rc:TypeId:=210
theorem NY {C:zP} {nv:Nat} {d:RD} {is:List RI} {k:List RK} {V L:List AV} {q:TypeId} {v:AV}:aC C nv (.ops (.i d (.pan (.l 0))::is)::k) V (.iface q v::L) h=some (.panic (.iface q v),V,h):=Tj rfl
theorem Mi (c:Int):aj Tryz.prog po 161 [.bool true,.int .i64 c] h=some (.inr (.iface rc (.int .i64 c)),h):=by
 refine ag FW rfl ?_;unfold xL
 simp only[sim,af,θ,ξ,η,reduceCtorEq,ψ,ω,aa,Un,NY,rK (ab.refl h) (rfl:wkA (.iface rc (.int .i64 c))=_)]
theorem Rg (c:Int):aj Tryz.prog po 161 [.bool false,.int .i64 c] h=some (.inl (.tup []),h):=by
 refine ag FW rfl ?_;unfold xL
 simp only[sim,af,θ,ξ,η,reduceCtorEq,ψ,ω,aa,aI (ab.refl h) (rfl:wkA (.tup [])=_)]
theorem Yw (g:ae) (hW:g.Wf) (i:Int):aj Tryz.prog po 144 [.int .i64 (g.rights i),.int .i64 4] h=some (.inl (.bool (cP (g.rights i) 2)),h):=by
 obtain⟨x,hx⟩:=yb hW i
 have e:LC (g.rights i) 4=cP (g.rights i) 2:=by rw[hx];exact Sa
 rw[←e]
 refine ag K6 rfl ?_;unfold CI
 simp only[sim,af,θ,ξ,η,reduceCtorEq,ψ,ω,aa]
 rfl
def Xz (ks:List Int) (G:ae) (n:Int) (q:AV ⊕ AV):Prop:=
 ((je ks G n).2.2=0∧q= .inl (.int .i64 (je ks G n).2.1))∨((je ks G n).2.2≠0∧q= .inr (.iface rc (.int .i64 (je ks G n).2.2)))
theorem Aw (k:Int) (l:List Int) (G:ae) (n:Int):je (k::l) G n=if(G.derive n 15 k).2.2≠0 then((G.derive n 15 k).1,0,(G.derive n 15 k).2.2)else je l (G.derive n 15 k).1 (G.derive n 15 k).2.1:=rfl
theorem QN {m:Nat} {gv:AV} {ks:List Int} (g:IsG h F J b G) (hW:G.Wf) (hm:m<h.n) (hF:¬ F m) (hc:h.cell m=some [[.ptr b 0 0,gv]]) (hg:IsL 3 gv (bH ks)) (hk:ks.length≤1000000) (n:Int):
  ∃ q h',aj Tryz.prog po 146 [.ptr m 0 0,.int .i64 n] h=some (q,h')∧(Xz ks G n q∧cO h F J b h' (je ks G n).1):=by
 have hl:=hg.len
 have hf:=hg.fits
 rw[List.length_map]at hl
 refine Qs (Post:=fun q h'=>Xz ks G n q∧cO h F J b h' (je ks G n).1) VH rfl fun Q hR hP=> ?_;unfold K0
 simp only[sim,af,θ,ξ,η,reduceCtorEq,ψ,ω,aa,hc,hl,hf]
 refine fN (fun i V h'=>∃ v3 v4 v5 v9 G' n',V=[.ptr m 0 0,.int .i64 n',.int .i64 0,v3,v4,v5,gv,.int .i64 ks.length,.int .i64 (i:Nat),v9]∧G'.Wf∧Mv h F J b h' G' [] []∧je (ks.drop i) G' n'=je ks G n) ks.length ⟨_,_,_,_,G,n,rfl,hW,Mv.start g,rfl⟩ ?_ ?_
 ·rintro i V h' hi ⟨v3,v4,v5,v9,G',n',rfl,hW',mv,he⟩ next
  have hlt:(i:Int)<(ks.length:Int):=by omega
  have hw:=w64 (n:=(i:Int)+1) (by omega) (by omega)
  obtain⟨k,hk'⟩:∃ k,ks[i]? =some k:=⟨_,List.getElem?_eq_getElem hi⟩
  have i1:=hg.ix .i64 i [.int .i64 k] (by simp[hk'])
  have hd:ks.drop i=k::ks.drop (i+1):=by
   obtain⟨hi',rfl⟩:=List.getElem?_eq_some_iff.1 hk'
   exact List.drop_eq_getElem_cons hi'
  have hc':h'.cell m=some [[.ptr b 0 0,gv]]:=(mv.old hm hF).trans hc
  obtain⟨h2,e2,mv2, -, -, -⟩:=mv.call fun F J g=>xS g hW' n' 15 k
  rw[hd,Aw]at he
  by_cases hz:(G'.derive n' 15 k).2.2=0
  ·rw[if_neg (by simp[hz])]at he
   have ef:=fun h=>Rg (h:=h) 0
   rw[hz]at e2
   rw[aG nB.eq_1]
   simp only[sim,af,θ,ξ,η,reduceCtorEq,ψ,ω,aa,hlt,i1,hc',e2,ef,hw]
   exact next _ _ ⟨_,_,_,_,_,_,rfl,hW'.derive _ _ _,mv2,he⟩
  ·rw[if_pos hz]at he
   have ef:=fun h=>Mi (h:=h) (G'.derive n' 15 k).2.2
   rw[aG nB.eq_1]
   simp only[sim,af,θ,ξ,η,reduceCtorEq,ψ,ω,aa,hlt,i1,hc',e2,hz,ef]
   refine hP _ _ _ ⟨.inr ?_,?_⟩
   ·rw[←he]
    exact⟨hz,rfl⟩
   ·rw[←he]
    exact mv2.did
 ·rintro V h' ⟨v3,v4,v5,v9,G',n',rfl,hW',mv,he⟩
  have hlt:¬ (ks.length:Int)<(ks.length:Int):=by omega
  rw[List.drop_length]at he
  rw[aG nB.eq_1]
  simp only[sim,af,θ,ξ,η,reduceCtorEq,ψ,ω,aa,hlt]
  refine hR _ _ _ rfl ⟨.inl ?_,?_⟩
  ·rw[←he]
   exact⟨rfl,rfl⟩
  ·rw[←he]
   exact mv.did
theorem DQ {G:ae} (hW:G.Wf) (l:List Int):∀ (i:Nat) (n:Int),l[i]? =some n→(l.drop i).any (fun n=> !cP (G.rights n) 2)=(!cP (G.rights n) 2 || (l.drop (i+1)).any fun n=> !cP (G.rights n) 2):=by
 intro i n hn
 obtain⟨hi,rfl⟩:=List.getElem?_eq_some_iff.1 hn
 rw[List.drop_eq_getElem_cons hi,List.any_cons]
theorem sk {x:VD} (h:x.code=0):x.size≤40:=by
 unfold VD.code at h
 split at h
 ·cases h
 ·omega
theorem Na (g:IsG h F J b G) (hW:G.Wf) {x:VD} {r:List AV} (hx:VaA x r):aj Tryz.prog po 126 [.ptr b 0 0,.agg r] h=some (.inl (.int .i64 (oO G x)),h):=by
 obtain⟨o1,o2⟩:=hx.one
 have e1:=fun h=>nu (h:=h) hx
 unfold oO
 by_cases hc:x.code=0
 ·have hs:=sk hc
  have e2:=fun h=>HK _ x (Nat.le_refl _) (by omega) r h hx
  rw[if_neg (by simp[hc])]
  cases hgt:x.gate
  ·have e3:=fun h=>Md _ x (Nat.le_refl _) (by omega) r h hx
   have il:=iL 3 (bH x.caps)
   have hl:=il.len
   have hf:=il.fits
   rw[List.length_map]at hl
   have cf:=x.caps_few
   simp only[hgt]at e2
   simp only[Bool.false_eq_true,if_false]
   refine dV BP rfl fun Q hQ=> ?_;unfold vz
   simp only[sim,af,θ,ξ,η,reduceCtorEq,ψ,ω,aa,o1,o2,bi o2,e1,hc,e2,e3,hl,hf]
   refine fN (fun i V h'=>∃ v5 v11 v12,V=[.ptr b 0 0,.agg r,.ptr h.n 0 0,.int .i64 0,.int .i64 0,v5,.bool false,.bool false,ge 3 (bH x.caps),.int .i64 x.caps.length,.int .i64 (i:Nat),v11,v12]∧ab h h'∧(x.caps.drop i).any (fun n=> !cP (G.rights n) 2)=x.caps.any fun n=> !cP (G.rights n) 2) x.caps.length ⟨_,_,_,rfl,(by repeat (first | exact ab.refl _ | refine ab.trans ?_ (ab.push _ _) | refine ab.trans ?_ (ab.fresh _ _))),rfl⟩ ?_ ?_
   ·rintro i V h' hi ⟨v5,v11,v12,rfl,gr,he⟩ next
    have hlt:(i:Int)<(x.caps.length:Int):=by omega
    have hw:=w64 (n:=(i:Int)+1) (by omega) (by omega)
    obtain⟨n,hn⟩:∃ n,x.caps[i]? =some n:=⟨_,List.getElem?_eq_getElem hi⟩
    have i1:=il.ix .i64 i [.int .i64 n] (by simp[hn])
    have e4:=DI (g.grew gr) hW n
    have e5:=fun h=>Yw (h:=h) G hW n
    rw[DQ hW _ _ _ hn]at he
    cases hb:cP (G.rights n) 2
    ·rw[hb]at he
     simp only[hb]at e5
     rw[aG mQ.eq_1]
     simp only[sim,af,θ,ξ,η,reduceCtorEq,ψ,ω,aa,hlt,i1,e4,e5]
     refine hQ _ _ _ rfl gr ?_
     rw[←he]
     rfl
    ·rw[hb]at he
     simp only[hb]at e5
     rw[aG mQ.eq_1]
     simp only[sim,af,θ,ξ,η,reduceCtorEq,ψ,ω,aa,hlt,i1,e4,e5,hw]
     exact next _ _ ⟨_,_,_,rfl,gr,he⟩
   ·rintro V h' ⟨v5,v11,v12,rfl,gr,he⟩
    have hlt:¬ (x.caps.length:Int)<(x.caps.length:Int):=by omega
    rw[List.drop_length]at he
    rw[aG mQ.eq_1]
    simp only[sim,af,θ,ξ,η,reduceCtorEq,ψ,ω,aa,hlt]
    refine hQ _ _ _ rfl gr ?_
    rw[←he]
    rfl
  ·simp only[hgt]at e2
   simp only[if_true]
   refine dV BP rfl fun Q hQ=> ?_;unfold vz
   simp only[sim,af,θ,ξ,η,reduceCtorEq,ψ,ω,aa,o1,o2,bi o2,e1,hc,e2]
   exact hQ _ _ _ rfl (by repeat (first | exact ab.refl _ | refine ab.trans ?_ (ab.push _ _) | refine ab.trans ?_ (ab.fresh _ _))) rfl
 ·rw[if_pos hc]
  refine dV BP rfl fun Q hQ=> ?_;unfold vz
  simp only[sim,af,θ,ξ,η,reduceCtorEq,ψ,ω,aa,o1,o2,bi o2,e1,hc]
  exact hQ _ _ _ rfl (by repeat (first | exact ab.refl _ | refine ab.trans ?_ (ab.push _ _) | refine ab.trans ?_ (ab.fresh _ _))) rfl
theorem LI (g:IsG h F J b G) (hW:G.Wf) {x:VD} {r:List AV} (hx:VaA x r):aj Tryz.prog po 155 [.ptr b 0 0,.agg r] h=some (.inl (.int .i64 (oO G x)),h):=by
 obtain⟨o1,o2⟩:=hx.one
 have e1:=fun h=>jY (h:=h) hx
 unfold oO
 by_cases hc:x.code=0
 ·have hs:=sk hc
  have e2:=fun h=>H0 _ x (Nat.le_refl _) (by omega) r h hx
  rw[if_neg (by simp[hc])]
  cases hgt:x.gate
  ·have e3:=fun h=>GN _ x (Nat.le_refl _) (by omega) r h hx
   have il:=iL 3 (bH x.caps)
   have hl:=il.len
   have hf:=il.fits
   rw[List.length_map]at hl
   have cf:=x.caps_few
   simp only[hgt]at e2
   simp only[Bool.false_eq_true,if_false]
   refine dV qy rfl fun Q hQ=> ?_;unfold nj
   simp only[sim,af,θ,ξ,η,reduceCtorEq,ψ,ω,aa,o1,o2,bi o2,e1,hc,e2,e3]
   refine fN (fun i V h'=>∃ v9 v10,V=[.ptr b 0 0,.agg r,.ptr h.n 0 0,.int .i64 0,.int .i64 0,ge 3 (bH x.caps),.int .i64 (i:Nat),.bool false,.bool false,v9,v10]∧ab h h'∧(x.caps.drop i).any (fun n=> !cP (G.rights n) 2)=x.caps.any fun n=> !cP (G.rights n) 2) x.caps.length ⟨_,_,rfl,(by repeat (first | exact ab.refl _ | refine ab.trans ?_ (ab.push _ _) | refine ab.trans ?_ (ab.fresh _ _))),rfl⟩ ?_ ?_
   ·rintro i V h' hi ⟨v9,v10,rfl,gr,he⟩ next
    have hlt:(i:Int)<(x.caps.length:Int):=by omega
    have hw:=w64 (n:=(i:Int)+1) (by omega) (by omega)
    obtain⟨n,hn⟩:∃ n,x.caps[i]? =some n:=⟨_,List.getElem?_eq_getElem hi⟩
    have i1:=il.ix .i64 i [.int .i64 n] (by simp[hn])
    have e4:=Eu (g.grew gr) hW n
    have e5:∀ h,aj Tryz.prog po 151 [.int .i64 (G.rights n),.int .i64 2] h=some (.inl (.bool (cP (G.rights n) 2)),h):=fun h=>Ra (G.rights n) 2 (by omega)
    rw[DQ hW _ _ _ hn]at he
    cases hb:cP (G.rights n) 2
    ·rw[hb]at he
     simp only[hb]at e5
     rw[aG ju.eq_1]
     simp only[sim,af,θ,ξ,η,reduceCtorEq,ψ,ω,aa,hl,hf,hlt,i1,e4,e5]
     refine hQ _ _ _ rfl gr ?_
     rw[←he]
     rfl
    ·rw[hb]at he
     simp only[hb]at e5
     rw[aG ju.eq_1]
     simp only[sim,af,θ,ξ,η,reduceCtorEq,ψ,ω,aa,hl,hf,hlt,i1,e4,e5,hw]
     exact next _ _ ⟨_,_,rfl,gr,he⟩
   ·rintro V h' ⟨v9,v10,rfl,gr,he⟩
    have hlt:¬ (x.caps.length:Int)<(x.caps.length:Int):=by omega
    rw[List.drop_length]at he
    rw[aG ju.eq_1]
    simp only[sim,af,θ,ξ,η,reduceCtorEq,ψ,ω,aa,hl,hf,hlt]
    refine hQ _ _ _ rfl gr ?_
    rw[←he]
    rfl
  ·simp only[hgt]at e2
   simp only[if_true]
   refine dV qy rfl fun Q hQ=> ?_;unfold nj
   simp only[sim,af,θ,ξ,η,reduceCtorEq,ψ,ω,aa,o1,o2,bi o2,e1,hc,e2]
   exact hQ _ _ _ rfl (by repeat (first | exact ab.refl _ | refine ab.trans ?_ (ab.push _ _) | refine ab.trans ?_ (ab.fresh _ _))) rfl
 ·rw[if_pos hc]
  refine dV qy rfl fun Q hQ=> ?_;unfold nj
  simp only[sim,af,θ,ξ,η,reduceCtorEq,ψ,ω,aa,o1,o2,bi o2,e1,hc]
  exact hQ _ _ _ rfl (by repeat (first | exact ab.refl _ | refine ab.trans ?_ (ab.push _ _) | refine ab.trans ?_ (ab.fresh _ _))) rfl
end
section
variable {h:AH} {F J:Nat→Prop} {b:Nat} {G:ae}
def Sv (ks:List Int) (G:ae) (x:VD) (q:AV ⊕ AV):Prop:=
 ((cN ks x G).2.2=0∧∃ r',q= .inl (.agg r')∧VaA (cN ks x G).2.1 r')∨((cN ks x G).2.2≠0∧q= .inr (.iface rc (.int .i64 (cN ks x G).2.2)))
theorem yi (ks:List Int) (x:VD) (l:List VD) (G:ae):bK ks (x::l) G=
  if(cN ks x G).2.2≠0 then((cN ks x G).1,[],(cN ks x G).2.2)
  else((bK ks l (cN ks x G).1).1,(cN ks x G).2.1::(bK ks l (cN ks x G).1).2.1,(bK ks l (cN ks x G).1).2.2):=rfl
theorem Kr {l:List VD} {i:Nat} {y:VD} (h:l[i]? =some y):l.drop i=y::l.drop (i+1):=by
 obtain⟨hi,rfl⟩:=List.getElem?_eq_some_iff.1 h
 exact List.drop_eq_getElem_cons hi
set_option maxHeartbeats 2000000 in
theorem Qu {m:Nat} {gv:AV} {ks:List Int} (hg:IsL 3 gv (bH ks)) (hk:ks.length≤1000000):∀ (N:Nat) (x:VD),SizeOf.sizeOf x≤N→x.size≤100000→∀ (r:List AV) (h:AH) (F J:Nat→Prop) (G:ae),IsG h F J b G→G.Wf→m<h.n→¬ F m→h.cell m=some [[.ptr b 0 0,gv]]→VaA x r→
  ∃ q h',aj Tryz.prog po 128 [.ptr m 0 0,.agg r] h=some (q,h')∧(Sv ks G x q∧cO h F J b h' (cN ks x G).1):=by
 intro N
 induction N with
 | zero=>intro x hx;have:=x.so_pos;omega
 | succ N ih=>
   intro x hx hsz r h F J G g hW hm hF hc he
   obtain⟨v,es,rfl,hsl,hv,hn,hix⟩:=he.facts
   have hlen:=x.len_size
   have hve:=vh ks x G
   -- the loop over the parts
   have rest:∀ (Q:jN→Prop) (h1:AH) (G1:ae) (n1:Int) (I:List Nat) (v6:AV),G1.Wf→Mv h F J b h1 G1 [h.n+1+1,h.n+1,h.n] I→h1.cell h.n=some [[.int .i64 x.kind,.int .i64 x.n,v]]→h1.cell (h.n+1)=some [[.int .i64 0,.int .i64 0,.nils]]→h1.cell (h.n+1+1)=some [[.int .i64 x.kind,.int .i64 n1,.nils]]→
     (∀ V h' v,(fS V h' [.cell true 3 3]).map gh=some v→(bK ks x.l G1).2.2=0→(∃ r',v= .agg r'∧VaA (.mk x.kind n1 (bK ks x.l G1).2.1) r')→cO h F J b h' (bK ks x.l G1).1→Q (some (.ret,V,h')))→
     (∀ V h',(bK ks x.l G1).2.2≠0→cO h F J b h' (bK ks x.l G1).1→Q (some (.panic (.iface rc (.int .i64 (bK ks x.l G1).2.2)),V,h')))→
     Q (aC (aj Tryz.prog po) 11 (.lp kT:: .ss []:: .blk 0::[.ss [.ops [mt,tM],.ret]])
       [.ptr m 0 0,.agg [.int .i64 x.kind,.int .i64 x.n,v],.ptr h.n 0 0,.ptr (h.n+1) 0 0,.ptr (h.n+1+1) 0 0,.junk,v6,v,.int .i64 es.length,.int .i64 0,.junk] [] h1):=by
    intro Q h1 G1 n1 I v6 hW1 mv1 d1 d2 d3 hR hP
    refine fN (fun i V h'=>∃ v5 v10 acc rows C I G' ys,V=[.ptr m 0 0,.agg [.int .i64 x.kind,.int .i64 x.n,v],.ptr h.n 0 0,.ptr (h.n+1) 0 0,.ptr (h.n+1+1) 0 0,v5,v6,v,.int .i64 es.length,.int .i64 (i:Nat),v10]∧
     G'.Wf∧(Mv h F J b h' G' C I∧h.n+1+1∈C∧h.n+1∈C∧h.n∈C)∧h'.cell (h.n+1)=some [[.int .i64 0,.int .i64 0,.nils]]∧h'.cell (h.n+1+1)=some [[.int .i64 x.kind,.int .i64 n1,acc]]∧
     tZ tV I h' acc rows∧VaL ys rows∧rows.length=i∧bK ks x.l G1=((bK ks (x.l.drop i) G').1,ys++(bK ks (x.l.drop i) G').2.1,(bK ks (x.l.drop i) G').2.2)) x.l.length
     ⟨_,_,_,[],_,I,G1,[],rfl,hW1,⟨mv1,by simp,by simp,by simp⟩,d2,d3,.inl ⟨rfl,rfl⟩,rfl,rfl,rfl⟩ ?_ ?_
    ·rintro i V h' hi ⟨v5,v10,acc,rows,C,I,G',ys,rfl,hW',⟨mv,m1,m2,m3⟩,c2,c3,ha,hr,hri,hq⟩ next
     have hlt:(i:Int)<(es.length:Int):=by rw[hn];omega
     obtain⟨y,hy⟩:=i7 hi
     obtain⟨q,i1,j1,x1⟩:=hix i y hy
     obtain⟨o1,o2⟩:=x1.one
     have hw:=w64 (n:=(i:Int)+1) (by omega) (by omega)
     have mvp:=mv.push [q]
     have hc':(h'.push [q]).cell m=some [[.ptr b 0 0,gv]]:=(mvp.old hm hF).trans hc
     have p2:(h'.push [q]).cell (h.n+1)=some [[.int .i64 0,.int .i64 0,.nils]]:=(bv (mv.lt m2)).trans c2
     have p3:(h'.push [q]).cell (h.n+1+1)=some [[.int .i64 x.kind,.int .i64 n1,acc]]:=(bv (mv.lt m1)).trans c3
     have hap:tZ tV I (h'.push [q]) acc rows:=ha
     obtain⟨h2,⟨q2,e2,r2⟩,mv2,k1,k2,k3⟩:=mvp.callF (R:=fun h2=>∃ q2,aj Tryz.prog po 128 [.ptr m 0 0,.agg q] (h'.push [q])=some (q2,h2)∧Sv ks G' y q2) (G':=(cN ks y G').1) fun F2 J2 g2 hF2 _=>by
      obtain⟨q2,h2,e2,r2,d2⟩:=ih y (by have:=VD.lt_mem (eR hy);omega) (by have:=VD.size_mem (eR hy);omega) q (h'.push [q]) F2 J2 G' g2 hW' (by have:=mv.n;simp only[bd];omega) (hF2 m hm hF) hc' x1
      exact⟨h2,⟨q2,e2,r2⟩,d2⟩
     rw[Kr hy,yi]at hq
     have f2:h2.cell (h.n+1)=some [[.int .i64 0,.int .i64 0,.nils]]:=(k1 _ (by simp[m2])).trans p2
     have f3:h2.cell (h.n+1+1)=some [[.int .i64 x.kind,.int .i64 n1,acc]]:=(k1 _ (by simp[m1])).trans p3
     rcases r2 with⟨hz,r',rfl,x2⟩ | ⟨hz,rfl⟩
     ·rw[if_neg (by simp[hz])]at hq
      obtain⟨o3,o4⟩:=x2.one
      obtain⟨acc2,h3,I3,e3,a1,mv3,a3,a4⟩:=S8 (e:=tV) mv2 (hap.keep k3) (row:=r') o3 (by rw[hri];omega)
      obtain⟨oA,cA⟩:=a1.cell
      rw[aG kT.eq_1]
      simp only[sim,af,θ,ξ,η,reduceCtorEq,ψ,ω,aa,hlt,i1,j1,o1,o2,bi o2,p3,e2,f3,o3,o4,e3,a3,oA,cA,hw]
      refine next _ _ ⟨_,_,_,_,_,I3,_,ys++[(cN ks y G').2.1],rfl,rA ks y G' hW',⟨mv3.set (by simp[m1]) _,by simp[m1],by simp[m2],by simp[m3]⟩,?_,bR,a1.keep fun _ _=>rfl,hr.append x2,by simp[hri],?_⟩
      ·rw[bu (by omega),a3]
       exact f2
      ·rw[hq]
       simp
     ·rw[if_pos hz]at hq
      rw[aG kT.eq_1]
      simp only[sim,af,θ,ξ,η,reduceCtorEq,ψ,ω,aa,hlt,i1,j1,o1,o2,bi o2,p3,e2]
      have q1:(bK ks x.l G1).2.2=(cN ks y G').2.2:=by rw[hq]
      have q2:(bK ks x.l G1).1=(cN ks y G').1:=by rw[hq]
      rw[←q1]at hz ⊢
      exact hP _ _ hz (by rw[q2];exact mv2.did)
    ·rintro V h' ⟨v5,v10,acc,rows,C,I,G',ys,rfl,hW',⟨mv,m1,m2,m3⟩,c2,c3,ha,hr,hri,hq⟩
     have hlt:¬ ((x.l.length:Int)<(es.length:Int)):=by rw[hn];omega
     rw[List.drop_length]at hq
     simp only[bK,List.append_nil]at hq
     obtain⟨oA,cA⟩:=ha.cell
     rw[aG kT.eq_1]
     simp only[sim,af,θ,ξ,η,reduceCtorEq,ψ,ω,aa,hlt,c3,c2,oA,cA]
     refine hR _ _ (.agg [.int .i64 x.kind,.int .i64 n1,acc]) (by simp only[sim,oA,List.all_cons,List.all_nil,List.length_cons,List.length_nil,Option.map_some,Option.bind_some,List.getD_cons_zero,List.getD_cons_succ,List.take_succ_cons,List.take_zero,List.drop_zero]) ?_ ⟨_,rfl,?_⟩ ?_
     ·rw[hq]
     ·rw[hq]
      exact VaA.mk (x:= .mk x.kind n1 ys) ha.sla hr
     ·rw[hq]
      exact(mv.set m2 _).did
   have m0:=((Mv.start g).push [[.int .i64 x.kind,.int .i64 x.n,v]]).push [[.int .i64 0,.int .i64 0,.nils]]
   have m1:=m0.push [[.int .i64 x.kind,.int .i64 x.n,.nils]]
   have q0:(((h.push [[.int .i64 x.kind,.int .i64 x.n,v]]).push [[.int .i64 0,.int .i64 0,.nils]]).push [[.int .i64 x.kind,.int .i64 x.n,.nils]]).cell m=some [[.ptr b 0 0,gv]]:=(m1.old hm hF).trans hc
   refine Qs (Post:=fun q h'=>Sv ks G x q∧cO h F J b h' (cN ks x G).1) Vi rfl fun Q hR hP=> ?_;unfold Kp
   by_cases h4:x.kind=4
   ·have hh:dD ks G x.kind x.n=je ks G x.n:=by rw[dD,if_pos h4]
    rw[hh]at hve
    rw[h4]at m1 q0 rest
    obtain⟨h2,⟨q2,e2,r2⟩,mv2,k1,k2,k3⟩:=m1.callF (R:=fun h2=>∃ q2,aj Tryz.prog po 146 [.ptr m 0 0,.int .i64 x.n] _=some (q2,h2)∧Xz ks G x.n q2) (G':=(je ks G x.n).1) fun F2 J2 g2 hF2 _=>by
     obtain⟨q2,h2,e2,r2,d2⟩:=QN g2 hW (by simp only[bd];omega) (hF2 m hm hF) q0 hg hk x.n
     exact⟨h2,⟨q2,e2,r2⟩,d2⟩
    have f1:h2.cell h.n=some [[.int .i64 4,.int .i64 x.n,v]]:=(k1 _ (by simp[bd])).trans gA
    have f2:h2.cell (h.n+1)=some [[.int .i64 0,.int .i64 0,.nils]]:=(k1 _ (by simp[bd])).trans iE
    have f3:h2.cell (h.n+1+1)=some [[.int .i64 4,.int .i64 x.n,.nils]]:=(k1 _ (by simp[bd])).trans aw
    rw[h4]at hve
    rcases r2 with⟨hz,rfl⟩ | ⟨hz,rfl⟩
    ·rw[if_neg (by simp[hz])]at hve
     simp only[sim,af,θ,ξ,η,reduceCtorEq,ψ,ω,aa,hv,h4,e2,f1,f3,bu (show h.n≠h.n+1+1 by omega),hsl.len,hsl.fits]
     refine rest Q _ (je ks G x.n).1 (je ks G x.n).2.1 _ _ (Jp ks G x.n hW) (mv2.set (by simp[bd]) _) ?_ ?_ bR (fun V h' v' e hz2 hr hd=> ?_) (fun V h' hz2 hd=> ?_)
     ·rw[bu (by omega)];exact f1
     ·rw[bu (by omega)];exact f2
     ·obtain⟨r',rfl,hr⟩:=hr
      rw[if_neg (by simp[hz2])]at hve
      refine hR _ _ _ e ⟨.inl ⟨by rw[hve],r',rfl,by rw[hve];exact hr⟩,by rw[hve];exact hd⟩
     ·rw[if_pos hz2]at hve
      refine hP _ _ _ ⟨.inr ⟨by rw[hve];exact hz2,by rw[hve]⟩,by rw[hve];exact hd⟩
    ·rw[if_pos hz]at hve
     simp only[sim,af,θ,ξ,η,reduceCtorEq,ψ,ω,aa,hv,h4,e2]
     refine hP _ _ _ ⟨.inr ⟨by rw[hve];exact hz,by rw[hve]⟩,by rw[hve];exact mv2.did⟩
   ·have hh:dD ks G x.kind x.n=(G,x.n,0):=by rw[dD,if_neg h4]
    rw[hh]at hve
    rw[if_neg (by simp)]at hve
    simp only[sim,af,θ,ξ,η,reduceCtorEq,ψ,ω,aa,hv,h4,hsl.len,hsl.fits]
    refine rest Q _ G x.n _ _ hW m1 gA iE aw (fun V h' v' e hz2 hr hd=> ?_) (fun V h' hz2 hd=> ?_)
    ·obtain⟨r',rfl,hr⟩:=hr
     rw[if_neg (by simp[hz2])]at hve
     refine hR _ _ _ e ⟨.inl ⟨by rw[hve],r',rfl,by rw[hve];exact hr⟩,by rw[hve];exact hd⟩
    ·rw[if_pos hz2]at hve
     refine hP _ _ _ ⟨.inr ⟨by rw[hve];exact hz2,by rw[hve]⟩,by rw[hve];exact hd⟩
theorem aL:VaA aK [.int .i64 0,.int .i64 0,.nils]:=by
 simp only[aK,VaA]
 exact⟨_,[],rfl,.inl ⟨rfl,rfl⟩,rfl⟩
set_option maxHeartbeats 2000000 in
theorem Hj {gv:AV} {ks:List Int} (hg:IsL 3 gv (bH ks)) (hk:ks.length≤1000000):∀ (N:Nat) (x:VD),SizeOf.sizeOf x≤N→x.size≤100000→∀ (r:List AV) (h:AH) (F J:Nat→Prop) (G:ae),IsG h F J b G→G.Wf→VaA x r→
  ∃ v h',aj Tryz.prog po 156 [.ptr b 0 0,.agg r,gv] h=some (.inl v,h')∧((∃ r',v= .tup [.agg r',.int .i64 (cN ks x G).2.2]∧VaA (cN ks x G).2.1 r')∧cO h F J b h' (cN ks x G).1):=by
 intro N
 induction N with
 | zero=>intro x hx;have:=x.so_pos;omega
 | succ N ih=>
   intro x hx hsz r h F J G g hW he
   obtain⟨v,es,rfl,hsl,hv,hn,hix⟩:=he.facts
   have hlen:=x.len_size
   have hve:=vh ks x G
   have gl:=hg.len
   have gf:=hg.fits
   rw[List.length_map]at gl
   have rest:∀ (Q:jN→Prop) (h1:AH) (G1:ae) (n1:Int) (I:List Nat) (v7 v8 v9 v10 v14 v15 v16:AV),G1.Wf→Mv h F J b h1 G1 [h.n+1+1,h.n+1,h.n] I→h1.cell h.n=some [[.int .i64 x.kind,.int .i64 x.n,v]]→h1.cell (h.n+1)=some [[.int .i64 0,.int .i64 0,.nils]]→h1.cell (h.n+1+1)=some [[.int .i64 x.kind,.int .i64 n1,.nils]]→
     (∀ V h' v,(fS V h' [.cell true 3 4,.v 5]).map gh=some v→(∃ r',v= .tup [.agg r',.int .i64 (bK ks x.l G1).2.2]∧VaA (if(bK ks x.l G1).2.2≠0 then aK else .mk x.kind n1 (bK ks x.l G1).2.1) r')→cO h F J b h' (bK ks x.l G1).1→Q (some (.ret,V,h')))→
     Q (aC (aj Tryz.prog po) 19 (.lp iN:: .ss []:: .blk 2::[.ss [.ops [oZ,nn,jF],.ret]])
       [.ptr b 0 0,.agg [.int .i64 x.kind,.int .i64 x.n,v],gv,.ptr h.n 0 0,.ptr (h.n+1) 0 0,.int .i64 0,.ptr (h.n+1+1) 0 0,v7,v8,v9,v10,.int .i64 0,.junk,.junk,v14,v15,v16,.junk,.junk] [] h1):=by
    intro Q h1 G1 n1 I v7 v8 v9 v10 v14 v15 v16 hW1 mv1 d1 d2 d3 hR
    refine fN (fun i V h'=>∃ v12 v13 v17 v18 acc rows C I G' ys,V=[.ptr b 0 0,.agg [.int .i64 x.kind,.int .i64 x.n,v],gv,.ptr h.n 0 0,.ptr (h.n+1) 0 0,.int .i64 0,.ptr (h.n+1+1) 0 0,v7,v8,v9,v10,.int .i64 (i:Nat),v12,v13,v14,v15,v16,v17,v18]∧
     G'.Wf∧(Mv h F J b h' G' C I∧h.n+1+1∈C∧h.n+1∈C∧h.n∈C)∧(h'.cell h.n=some [[.int .i64 x.kind,.int .i64 x.n,v]]∧h'.cell (h.n+1)=some [[.int .i64 0,.int .i64 0,.nils]])∧h'.cell (h.n+1+1)=some [[.int .i64 x.kind,.int .i64 n1,acc]]∧
     tZ tV I h' acc rows∧VaL ys rows∧rows.length=i∧bK ks x.l G1=((bK ks (x.l.drop i) G').1,ys++(bK ks (x.l.drop i) G').2.1,(bK ks (x.l.drop i) G').2.2)) x.l.length
     ⟨_,_,_,_,_,[],_,I,G1,[],rfl,hW1,⟨mv1,by simp,by simp,by simp⟩,⟨d1,d2⟩,d3,.inl ⟨rfl,rfl⟩,rfl,rfl,rfl⟩ ?_ ?_
    ·rintro i V h' hi ⟨v12,v13,v17,v18,acc,rows,C,I,G',ys,rfl,hW',⟨mv,m1,m2,m3⟩,⟨c1,c2⟩,c3,ha,hr,hri,hq⟩ next
     have hlt:(i:Int)<(es.length:Int):=by rw[hn];omega
     obtain⟨y,hy⟩:=i7 hi
     obtain⟨q,i1,j1,x1⟩:=hix i y hy
     have hw:=w64 (n:=(i:Int)+1) (by omega) (by omega)
     obtain⟨h2,⟨v2,e2,r',rfl,x2⟩,mv2,k1,k2,k3⟩:=mv.call (R:=fun h2=>∃ v2,aj Tryz.prog po 156 [.ptr b 0 0,.agg q,gv] h'=some (.inl v2,h2)∧∃ r',v2= .tup [.agg r',.int .i64 (cN ks y G').2.2]∧VaA (cN ks y G').2.1 r') (G':=(cN ks y G').1) fun F2 J2 g2=>by
      obtain⟨v2,h2,e2,r2,d2⟩:=ih y (by have:=VD.lt_mem (eR hy);omega) (by have:=VD.size_mem (eR hy);omega) q h' F2 J2 G' g2 hW' x1
      exact⟨h2,⟨v2,e2,r2⟩,d2⟩
     rw[Kr hy,yi]at hq
     obtain⟨o3,o4⟩:=x2.one
     have f1:h2.cell h.n=some [[.int .i64 x.kind,.int .i64 x.n,v]]:=(k1 _ m3).trans c1
     have f2:h2.cell (h.n+1)=some [[.int .i64 0,.int .i64 0,.nils]]:=(k1 _ m2).trans c2
     have f3:h2.cell (h.n+1+1)=some [[.int .i64 x.kind,.int .i64 n1,acc]]:=(k1 _ m1).trans c3
     have mvp:=mv2.push [r']
     have p1:(h2.push [r']).cell h.n=some [[.int .i64 x.kind,.int .i64 x.n,v]]:=(bv (mv2.lt m3)).trans f1
     have p2:(h2.push [r']).cell (h.n+1)=some [[.int .i64 0,.int .i64 0,.nils]]:=(bv (mv2.lt m2)).trans f2
     have p3:(h2.push [r']).cell (h.n+1+1)=some [[.int .i64 x.kind,.int .i64 n1,acc]]:=(bv (mv2.lt m1)).trans f3
     by_cases hz:(cN ks y G').2.2=0
     ·rw[if_neg (by simp[hz])]at hq
      have hap:tZ tV I (h2.push [r']) acc rows:=ha.keep k3
      obtain⟨acc2,h3,I3,e3,a1,mv3,a3,a4⟩:=S8 (e:=tV) mvp hap (row:=r') o3 (by rw[hri];omega)
      simp only[gM]at e3
      obtain⟨oA,cA⟩:=a1.cell
      rw[hz]at e2
      rw[aG iN.eq_1]
      simp only[sim,af,θ,ξ,η,reduceCtorEq,ψ,ω,aa,c1,hsl.len,hsl.fits,hlt,i1,j1,e2,o3,o4,bi o4,p3,e3,a3,oA,cA,hw]
      refine next _ _ ⟨_,_,_,_,_,_,_,I3,_,ys++[(cN ks y G').2.1],rfl,rA ks y G' hW',⟨mv3.set (by simp[m1]) _,by simp[m1],by simp[m2],by simp[m3]⟩,⟨?_,?_⟩,bR,a1.keep fun _ _=>rfl,hr.append x2,by simp[hri],?_⟩
      ·rw[bu (by omega),a3]
       exact p1
      ·rw[bu (by omega),a3]
       exact p2
      ·rw[hq]
       simp
     ·rw[if_pos hz]at hq
      have q1:(bK ks x.l G1).2.2=(cN ks y G').2.2:=by rw[hq]
      have q2:(bK ks x.l G1).1=(cN ks y G').1:=by rw[hq]
      rw[aG iN.eq_1]
      simp only[sim,af,θ,ξ,η,reduceCtorEq,ψ,ω,aa,c1,hsl.len,hsl.fits,hlt,i1,j1,e2,o3,o4,hz,p2]
      refine hR _ _ (.tup [.agg [.int .i64 0,.int .i64 0,.nils],.int .i64 (cN ks y G').2.2]) (by simp only[sim,af,θ,ξ,η,reduceCtorEq,ψ,ω,aa]) ⟨_,by rw[q1],?_⟩ ?_
      ·rw[if_pos (by rw[q1];exact hz)]
       exact aL
      ·rw[q2]
       exact(mvp.set (by simp[m2]) _).did
    ·rintro V h' ⟨v12,v13,v17,v18,acc,rows,C,I,G',ys,rfl,hW',⟨mv,m1,m2,m3⟩,⟨c1,c2⟩,c3,ha,hr,hri,hq⟩
     have hlt:¬ ((x.l.length:Int)<(es.length:Int)):=by rw[hn];omega
     rw[List.drop_length]at hq
     simp only[bK,List.append_nil]at hq
     obtain⟨oA,cA⟩:=ha.cell
     rw[aG iN.eq_1]
     simp only[sim,af,θ,ξ,η,reduceCtorEq,ψ,ω,aa,c1,hsl.len,hsl.fits,hlt,c3,c2,oA,cA]
     refine hR _ _ (.tup [.agg [.int .i64 x.kind,.int .i64 n1,acc],.int .i64 0]) (by simp only[sim,af,θ,ξ,η,reduceCtorEq,ψ,ω,aa,oA]) ⟨_,by rw[hq],?_⟩ ?_
     ·rw[hq]
      exact VaA.mk (x:= .mk x.kind n1 ys) ha.sla hr
     ·rw[hq]
      exact(mv.set m2 _).did
   have m1:=(((Mv.start g).push [[.int .i64 x.kind,.int .i64 x.n,v]]).push [[.int .i64 0,.int .i64 0,.nils]]).push [[.int .i64 x.kind,.int .i64 x.n,.nils]]
   refine NR (R:=fun v h'=>(∃ r',v= .tup [.agg r',.int .i64 (cN ks x G).2.2]∧VaA (cN ks x G).2.1 r')∧cO h F J b h' (cN ks x G).1) M3 rfl fun Q hR=> ?_;unfold Ad
   by_cases h4:x.kind=4
   ·have hh:dD ks G x.kind x.n=je ks G x.n:=by rw[dD,if_pos h4]
    rw[hh]at hve
    rw[h4]at m1 rest hve
    simp only[sim,af,θ,ξ,η,reduceCtorEq,ψ,ω,aa,hv,h4,gl,gf]
    refine fN (fun i V h'=>∃ v9 v10 v15 v16 G' n',V=[.ptr b 0 0,.agg [.int .i64 4,.int .i64 x.n,v],gv,.ptr h.n 0 0,.ptr (h.n+1) 0 0,.int .i64 0,.ptr (h.n+1+1) 0 0,.int .i64 n',.int .i64 (i:Nat),v9,v10,.junk,.junk,.junk,.bool true,v15,v16,.junk,.junk]∧G'.Wf∧Mv h F J b h' G' [h.n+1+1,h.n+1,h.n] []∧
     (h'.cell h.n=some [[.int .i64 4,.int .i64 x.n,v]]∧h'.cell (h.n+1)=some [[.int .i64 0,.int .i64 0,.nils]]∧h'.cell (h.n+1+1)=some [[.int .i64 4,.int .i64 x.n,.nils]])∧je (ks.drop i) G' n'=je ks G x.n) ks.length ⟨_,_,_,_,G,x.n,rfl,hW,m1,⟨gA,iE,aw⟩,rfl⟩ ?_ ?_
    ·rintro i V h' hi ⟨v9,v10,v15,v16,G',n',rfl,hW',mv,⟨c1,c2,c3⟩,hq⟩ next
     have hlt:(i:Int)<(ks.length:Int):=by omega
     have hw:=w64 (n:=(i:Int)+1) (by omega) (by omega)
     obtain⟨k,hk'⟩:∃ k,ks[i]? =some k:=⟨_,List.getElem?_eq_getElem hi⟩
     have i1:=hg.ix .i64 i [.int .i64 k] (by simp[hk'])
     have hd:ks.drop i=k::ks.drop (i+1):=by
      obtain⟨hi',rfl⟩:=List.getElem?_eq_some_iff.1 hk'
      exact List.drop_eq_getElem_cons hi'
     obtain⟨h2,e2,mv2,k1, -, -⟩:=mv.call fun F J g=>rM g hW' n' 15 k
     rw[hd,Aw]at hq
     have f1:h2.cell h.n=some [[.int .i64 4,.int .i64 x.n,v]]:=(k1 _ (by simp)).trans c1
     have f2:h2.cell (h.n+1)=some [[.int .i64 0,.int .i64 0,.nils]]:=(k1 _ (by simp)).trans c2
     have f3:h2.cell (h.n+1+1)=some [[.int .i64 4,.int .i64 x.n,.nils]]:=(k1 _ (by simp)).trans c3
     by_cases hz:(G'.derive n' 15 k).2.2=0
     ·rw[if_neg (by simp[hz])]at hq
      rw[hz]at e2
      rw[aG j0.eq_1]
      simp only[sim,af,θ,ξ,η,reduceCtorEq,ψ,ω,aa,gl,gf,hlt,i1,e2,hw]
      exact next _ _ ⟨_,_,_,_,_,_,rfl,hW'.derive _ _ _,mv2,⟨f1,f2,f3⟩,hq⟩
     ·rw[if_pos hz]at hq
      have hz2:(je ks G x.n).2.2≠0:=by rw[←hq];exact hz
      rw[if_pos hz2]at hve
      rw[aG j0.eq_1]
      simp only[sim,af,θ,ξ,η,reduceCtorEq,ψ,ω,aa,gl,gf,hlt,i1,e2,hz,f2]
      refine hR _ _ (.tup [.agg [.int .i64 0,.int .i64 0,.nils],.int .i64 (G'.derive n' 15 k).2.2]) (by simp only[sim,af,θ,ξ,η,reduceCtorEq,ψ,ω,aa]) ⟨⟨_,by rw[hve,←hq],?_⟩,?_⟩
      ·rw[hve]
       exact aL
      ·rw[hve,←hq]
       exact(mv2.set (by simp) _).did
    ·rintro V h' ⟨v9,v10,v15,v16,G',n',rfl,hW',mv,⟨c1,c2,c3⟩,hq⟩
     have hlt:¬ (ks.length:Int)<(ks.length:Int):=by omega
     rw[List.drop_length]at hq
     have hz:(je ks G x.n).2.2=0:=by rw[←hq];rfl
     have hn':(je ks G x.n).2.1=n':=by rw[←hq];rfl
     have hG':(je ks G x.n).1=G':=by rw[←hq];rfl
     rw[if_neg (by simp[hz]),hG',hn']at hve
     rw[aG j0.eq_1]
     simp only[sim,af,θ,ξ,η,reduceCtorEq,ψ,ω,aa,gl,gf,hlt,c3]
     refine rest Q _ G' n' _ _ _ _ _ _ _ _ hW' (mv.set (by simp) _) ?_ ?_ bR (fun V h'' v' e hr hd=> ?_)
     ·rw[bu (by omega)];exact c1
     ·rw[bu (by omega)];exact c2
     ·obtain⟨r',rfl,hr⟩:=hr
      by_cases hz2:(bK ks x.l G').2.2=0
      ·rw[if_neg (by simp[hz2])]at hr hve
       exact hR _ _ _ e ⟨⟨r',by rw[hve,hz2],by rw[hve];exact hr⟩,by rw[hve];exact hd⟩
      ·rw[if_pos hz2]at hr hve
       exact hR _ _ _ e ⟨⟨r',by rw[hve],by rw[hve];exact hr⟩,by rw[hve];exact hd⟩
   ·have hh:dD ks G x.kind x.n=(G,x.n,0):=by rw[dD,if_neg h4]
    rw[hh]at hve
    rw[if_neg (by simp)]at hve
    simp only[sim,af,θ,ξ,η,reduceCtorEq,ψ,ω,aa,hv,h4]
    refine rest Q _ G x.n _ _ _ _ _ _ _ _ hW m1 gA iE aw (fun V h'' v' e hr hd=> ?_)
    obtain⟨r',rfl,hr⟩:=hr
    by_cases hz2:(bK ks x.l G).2.2=0
    ·rw[if_neg (by simp[hz2])]at hr hve
     exact hR _ _ _ e ⟨⟨r',by rw[hve,hz2],by rw[hve];exact hr⟩,by rw[hve];exact hd⟩
    ·rw[if_pos hz2]at hr hve
     exact hR _ _ _ e ⟨⟨r',by rw[hve],by rw[hve];exact hr⟩,by rw[hve];exact hd⟩
theorem Ig {gv:AV} {ks:List Int} (hg:IsL 3 gv (bH ks)) (hk:ks.length≤1000000) {x:VD} {r:List AV} (g:IsG h F J b G) (hW:G.Wf) (hx:VaA x r):
  ∃ h',(∃ r',aj Tryz.prog po 140 [.ptr b 0 0,.agg r,gv] h=some (.inl (.tup [.agg r',.int .i64 (aN ks G x).2.2]),h')∧VaA (aN ks G x).2.1 r')∧cO h F J b h' (aN ks G x).1:=by
 obtain⟨o1,o2⟩:=hx.one
 have m1:=((Mv.start g).push [r]).push [[.int .i64 0,.int .i64 0,.nils]]
 obtain⟨F2,J2,g2⟩:=m1.isG
 have e1:=LI g2 hW hx
 suffices key:∃ v h',aj Tryz.prog po 140 [.ptr b 0 0,.agg r,gv] h=some (.inl v,h')∧((∃ r',v= .tup [.agg r',.int .i64 (aN ks G x).2.2]∧VaA (aN ks G x).2.1 r')∧cO h F J b h' (aN ks G x).1) by
  obtain⟨_,h',e,⟨r',rfl,h2⟩,h3⟩:=key
  exact⟨h',⟨r',e,h2⟩,h3⟩
 refine NR (R:=fun v h'=>(∃ r',v= .tup [.agg r',.int .i64 (aN ks G x).2.2]∧VaA (aN ks G x).2.1 r')∧cO h F J b h' (aN ks G x).1) Mb rfl fun Q hR=> ?_;unfold Ay
 by_cases hz:oO G x=0
 ·have ha:aN ks G x=cN ks x G:=by rw[aN,if_neg (by simp[hz])]
  rw[ha]at hR
  rw[hz]at e1
  have hs:x.size≤100000:=by
   have:x.code=0:=by
    unfold oO at hz
    split at hz
    ·exact hz
    ·rename_i hc
     simpa using hc
   have:=sk this
   omega
  obtain⟨h2,⟨v2,e2,r',rfl,x2⟩,mv2,k1,k2,k3⟩:=m1.call (R:=fun h2=>∃ v2,aj Tryz.prog po 156 [.ptr b 0 0,.agg r,gv] _=some (.inl v2,h2)∧∃ r',v2= .tup [.agg r',.int .i64 (cN ks x G).2.2]∧VaA (cN ks x G).2.1 r') (G':=(cN ks x G).1) fun F2 J2 g2=>by
   obtain⟨v2,h2,e2,r2,d2⟩:=Hj hg hk _ x (Nat.le_refl _) hs r _ F2 J2 G g2 hW hx
   exact⟨h2,⟨v2,e2,r2⟩,d2⟩
  have f2:h2.cell (h.n+1)=some [[.int .i64 0,.int .i64 0,.nils]]:=(k1 _ (by simp[bd])).trans aq
  obtain⟨o3,o4⟩:=x2.one
  simp only[sim,af,θ,ξ,η,reduceCtorEq,ψ,ω,aa,o1,o2,bi o2,jl,e1,e2,o3,o4,f2]
  exact hR _ _ (.tup [.agg r',.int .i64 (cN ks x G).2.2]) (by simp only[sim,af,θ,ξ,η,reduceCtorEq,ψ,ω,aa,o3,o4,bi o4]) ⟨⟨_,rfl,x2⟩,(mv2.set (by simp[bd]) _).did⟩
 ·have ha:aN ks G x=(G,aK,oO G x):=by rw[aN,if_pos hz]
  rw[ha]at hR
  simp only[sim,af,θ,ξ,η,reduceCtorEq,ψ,ω,aa,o1,o2,bi o2,jl,e1,hz]
  exact hR _ _ (.tup [.agg [.int .i64 0,.int .i64 0,.nils],.int .i64 (oO G x)]) (by simp only[sim,af,θ,ξ,η,reduceCtorEq,ψ,ω,aa]) ⟨⟨_,rfl,aL⟩,m1.did⟩
end
def GE (mb bb fb:Nat) (left:Int):Asn:=ah mb [[.ptr bb 0 0,.msl fb 0 0 tFr,.int .i64 left]]
section
variable {h h' h0:AH} {F J F0 J0:Nat→Prop} {L:List Asn} {mb bb fb:Nat} {left:Int} {below:List FrD} {top:FrD}
theorem nD:∀ {rs:List (List AV)} {fs:List FrD} {r:List AV} {f:FrD} {h:AH} {F J:Nat→Prop},rs.length=fs.length→((gq (rs++[r]) (fs++[f])).A h F J↔(fw (qp r f) (gq rs fs)).A h F J)
 | [],[],r,f,h,F,J,_=>Iff.rfl
 | q::rs,g::fs,r,f,h,F,J,hl=>by
   have ih:∀ {h:AH} {F J:Nat→Prop},(gq (rs++[r]) (fs++[f])).A h F J↔(fw (qp r f) (gq rs fs)).A h F J:=nD (by simpa using hl)
   constructor
   ·intro x
    exact ii (eB (fun _ _ _ y=>y) (fun _ _ _ y=>ih.1 y) x)
   ·intro x
    exact eB (fun _ _ _ y=>y) (fun _ _ _ y=>ih.2 y) (ii x)
 | [],_::_,_,_,_,_,_,hl=>by simp at hl
 | _::_,[],_,_,_,_,_,hl=>by simp at hl
structure Yr (h:AH) (mb bb fb:Nat) (left:Int) (below:List FrD) (top:FrD) (a:List AV) (sv nv g:AV):Prop where
 m:h.cell mb=some [[.ptr bb 0 0,.msl fb 0 (below.length+1) tFr,.int .i64 left]]
 mn:mb<h.n
 rd:∀ (n j:Nat) (v:AV),(dL top a sv nv g)[j]? =some v→aR false n h (.ptr fb below.length j)=some v
 arg:aR true 3 h (.ptr fb below.length 3)=some (.agg a)
 all:aR true 10 h (.ptr fb below.length 0)=some (.agg (dL top a sv nv g))
 ha:VaA top.arg a
 hg:SlA 3 g (bH top.gates)
 sv:sv.one=true∧sv.cells=[sv]∧eW sv=some top.stack.length∧∀ s,ew s (some tV) sv=true
 nv:nv.one=true∧nv.cells=[nv]∧eW nv=some top.names.length∧(∀ s,ew s (some tV) nv=true)∧∀ (q:IntKind) (i:Nat) (y:VD),top.names[i]? =some y→∃ p r,bL (some tV) none nv (.int q (i:Int))=some p∧aR true 3 h p=some (.agg r)∧VaA y r
 fbn:fb<h.n
theorem eh (s0:St h0 F0 J0 h L) (i:Nat) (hi:L[i]? =some (fR mb bb fb left below top)):∃ a sv nv g,Yr h mb bb fb left below top a sv nv g:=by
 obtain⟨F,J,x⟩:=s0.get i hi
 obtain⟨rs,ex,a,sv,nv,g,hrl,ha,hg,s⟩:=kP x
 have q1:=(s.cell 1 rfl).1
 have g6:=cT top a sv nv g ha.len3.1
 obtain⟨F1,J1,x1⟩:=s.get 2 rfl
 obtain⟨F2,J2,x2⟩:=s.get 3 rfl
 have r1:=kC x1
 have r2:=kC x2
 refine⟨a,sv,nv,g,(s.cell 0 rfl).1,(s.cell 0 rfl).2,fun n j v hv=>oh q1 hrl hv,?_,?_,ha,hg,⟨r1.1,r1.2.1,r1.2.2.1,r1.2.2.2.1⟩,r2,(s.cell 1 rfl).2⟩
 ·rw[bP,q1,Option.bind_some,sG hrl,Option.bind_some]
  unfold ldA
  rw[if_pos rfl,if_pos (by rw[g6.2.1];decide)]
  match a,ha.len3.1 with
  | [x,y,z],_=>rfl
 ·rw[bP,q1,Option.bind_some,sG hrl,Option.bind_some]
  exact bi g6.2.1
theorem GW (s0:St h0 F0 J0 h L) (i:Nat) (hi:L[i]? =some (fR mb bb fb left below top)) (pc:Nat):∃ h',aZ 1 h (.ptr fb below.length 2) (.int .i64 (pc:Int))=some h'∧St h0 F0 J0 h' (L.set i (fR mb bb fb left below {top with pc:=pc})):=by
 refine s0.call (R:=fun h'=>aZ 1 h (.ptr fb below.length 2) (.int .i64 (pc:Int))=some h') i hi fun F J x=> ?_
 obtain⟨rs,ex,a,sv,nv,g,hrl,ha,hg,s⟩:=kP x
 have g6:=cT top a sv nv g ha.len3.1
 have hr:(dL top a sv nv g).set 2 (.int .i64 (pc:Int))=dL {top with pc:=pc} a sv nv g:=rfl
 have s1:=s.set 1 rfl (rs++dL {top with pc:=pc} a sv nv g::ex)
 exact⟨_,pD (s.cell 1 rfl).1 hrl rfl rfl (by rw[g6.2.1];decide) hr,pM (top:={top with pc:=pc}) ha hg s1⟩
theorem Rk (s0:St h0 F0 J0 h L) (i:Nat) (hi:L[i]? =some (fR mb bb fb left below top)) (l:Int):∃ h',aZ 1 h (.ptr mb 0 2) (.int .i64 l)=some h'∧St h0 F0 J0 h' (L.set i (fR mb bb fb l below top)):=by
 refine s0.call (R:=fun h'=>aZ 1 h (.ptr mb 0 2) (.int .i64 l)=some h') i hi fun F J x=> ?_
 obtain⟨rs,ex,a,sv,nv,g,hrl,ha,hg,s⟩:=kP x
 have s1:=s.set 0 rfl [[.ptr bb 0 0,.msl fb 0 (below.length+1) tFr,.int .i64 l]]
 exact⟨_,bJ (s.cell 0 rfl).1 rfl rfl rfl (by simp),pM ha hg s1⟩
theorem D6 (f:FrD) (a:List AV) (s n g n':AV) (nm:List VD) (ha:a.length=3):(dL f a s n g).set 7 n'=dL {f with names:=nm} a s n' g:=by
 match a,ha with
 | [x,y,z],_=>rfl
theorem Qy (s0:St h0 F0 J0 h L) (i:Nat) (hi:L[i]? =some (fR mb bb fb left below top)) {nm:List VD} {v:VD} (hn:top.names=nm++[v]) {a:List AV} {sv nv g:AV} (hv:Yr h mb bb fb left below top a sv nv g):
  ∃ nv' h',mX nv none (some (.int .i64 (nm.length:Int)))=some nv'∧nv'.one=true∧nv'.cells=[nv']∧aZ 1 h (.ptr fb below.length 7) nv'=some h'∧St h0 F0 J0 h' (L.set i (fR mb bb fb left below {top with names:=nm})):=by
 obtain⟨h',nv',⟨e1,e2,e3,e4⟩,s'⟩:=s0.callE (R:=fun h' nv'=>mX nv none (some (.int .i64 (nm.length:Int)))=some nv'∧nv'.one=true∧nv'.cells=[nv']∧aZ 1 h (.ptr fb below.length 7) nv'=some h') i hi (Y:=fun _=>fR mb bb fb left below {top with names:=nm}) fun F J x=>by
  obtain⟨rs,ex,a',sv',nv',g',hrl,ha,hg,s⟩:=kP x
  have g6:=cT top a' sv' nv' g' ha.len3.1
  have l7:=oh (n:=1) (s.cell 1 rfl).1 hrl g6.2.2.1
  have l7':=hv.rd 1 7 nv (cT top a sv nv g hv.ha.len3.1).2.2.1
  rw[l7]at l7'
  injection l7' with l7'
  subst l7'
  obtain⟨F1,J1,x1⟩:=s.get 3 rfl
  rw[hn]at x1
  obtain⟨b,hb⟩:=ES x1 (by simp)
  rw[List.length_append,List.length_singleton]at hb
  subst hb
  have s1:=s.set 1 rfl (rs++dL {top with names:=nm} a' sv' (.msl b 0 nm.length tV) g'::ex)
  have s2:St h F J _ (NB mb bb fb left below {top with names:=nm} rs ex a' sv' (.msl b 0 nm.length tV) g'):=s1.upd 3 rfl fun _ _ _ x=>by rw[hn]at x;exact EC x
  exact⟨_,.msl b 0 nm.length tV,⟨C7 (by omega),rfl,rfl,pD (s.cell 1 rfl).1 hrl rfl rfl (by rw[g6.2.1];decide) (D6 _ _ _ _ _ _ nm ha.len3.1)⟩,pM (top:={top with names:=nm}) ha hg s2⟩
 exact⟨nv',h',e1,e2,e3,e4,s'⟩
theorem Tb {b n:Nat} {l:List VD} (x:(iT (.msl b 0 n tV) l).A h F J) {i:Nat} (hi:i<l.length) {v:VD} {r:List AV} (hv:VaA v r):∃ h',aZ 3 h (.ptr b i 0) (.agg r)=some h'∧Did h F J h' (iT (.msl b 0 n tV) (l.set i v)):=by
 obtain⟨rows,hl,x⟩:=x
 have hlen:=hl.len
 rcases x with⟨⟨_,e⟩,_⟩ | ⟨⟨b',es⟩,⟨e,h1,h2⟩,a1,a2,a3,a4⟩
 ·cases e
 ·injection e with e1 _ e2 _
  simp only at e1 h1 h2 a1 a3 a4
  subst e1
  have hir:i<rows.length:=by omega
  have hie:i<es.length:=by omega
  obtain⟨q,hq⟩:∃ q,es[i]? =some q:=⟨_,List.getElem?_eq_getElem hie⟩
  have hq3:q.length=3:=by
   have h5:rows[i]? =some q:=by
    conv=>lhs;rw[h2]
    rw[List.getElem?_take_of_lt hir]
    exact hq
   obtain⟨y,hy⟩:∃ y,l[i]? =some y:=⟨_,List.getElem?_eq_getElem hi⟩
   obtain⟨r',h6,h7⟩:=hl.get hy
   rw[h5]at h6
   injection h6 with h6
   rw[h6]
   exact h7.len3.1
  have hst:stA q 0 r=r:=by
   unfold stA
   rw[List.take_zero,List.nil_append,List.drop_of_length_le (by have:=hv.len3.1;omega),List.append_nil]
  have hset:∀ {l:List VD} {rows:List (List AV)} {i:Nat},VaL l rows→i<l.length→VaL (l.set i v) (rows.set i r):=by
   intro l
   induction l with
   | nil=>intro rows i _ hi;simp at hi
   | cons y l ih=>
     intro rows i hl hi
     obtain⟨r0,rs,rfl,q1,q2⟩:=hl
     cases i with
     | zero=>exact⟨r,rs,rfl,hv,q2⟩
     | succ i=>exact⟨r0,rs.set i r,rfl,q1,ih q2 (by simpa using hi)⟩
  refine⟨_,bJ (es:=es) (e:=q) a4 hq hv.len3.2 hv.len3.1 (by omega),F,J,⟨rows.set i r,hset hl hi,.inr ⟨⟨b,es.set i r⟩,⟨by simp only[List.length_set,e2],by simpa using h1,?_⟩,a1,a2,a3,?_⟩⟩,⟨Nat.le_refl _,Nat.le_refl _,fun k _ hk=>bu fun e=>hk ((a1 k).2 e),fun _ _ _=>rfl⟩,fun _=> .inl,fun _=> .inl⟩
  ·simp only[List.length_set]
   rw[List.take_set]
   conv=>lhs;rw[h2]
  ·simp only[AV.cells,hst]
   exact bR
theorem Gw {n b i off:Nat} {h h':AH} {r:List AV} (hs:aZ n h (.ptr b i off) (.agg r)=some h'):aR true n h' (.ptr b i off)=some (.agg r):=by
 unfold aZ at hs
 simp only[Option.bind_eq_some_iff]at hs
 obtain⟨es,h2,e,h3,h4⟩:=hs
 split at h4
 ·rename_i hc
  injection h4 with h4
  subst h4
  have hi:=(List.getElem?_eq_some_iff.1 h3).1
  have c2:=hc.2.1
  simp only[AV.cells]at c2
  rw[bP,bR,Option.bind_some,List.getElem?_set_self hi,Option.bind_some]
  have hl:=mN e r off (by omega)
  simp only[AV.cells,ldA,if_true]
  have:((stA e off r).drop off).take n=r:=by
   unfold stA
   rw[List.append_assoc,List.drop_left' (by simp;omega),List.take_left' c2]
  rw[this]
  exact if_pos (by omega)
 ·cases h4
theorem Tc (s0:St h0 F0 J0 h L) (i:Nat) (hi:L[i]? =some (fR mb bb fb left below top)) {v:VD} {r:List AV} (hv:VaA v r) (hl:top.names.length≤1000000) {bz:Nat} (hz:h.cell bz=some [zR3]) {a:List AV} {sv nv g:AV} (mv:Yr h mb bb fb left below top a sv nv g):
  ∃ q h1 h2 h3,aQ true tV nv (.msl bz 0 1 tV) h=some (.msl q 0 (top.names.length+1) tV,h1)∧aZ 3 h1 (.ptr q top.names.length 0) (.agg r)=some h2∧aZ 1 h2 (.ptr fb below.length 7) (.msl q 0 (top.names.length+1) tV)=some h3∧aR true 3 h3 (.ptr q top.names.length 0)=some (.agg r)∧
    St h0 F0 J0 h3 (L.set i (fR mb bb fb left below {top with names:=top.names++[v]})):=by
 have zv:VaA aK zR3:=aL
 obtain⟨h3,⟨q,h1,h2⟩,⟨e1,e2,e3,e4⟩,s'⟩:=s0.callE (R:=fun h3 (q:Nat×AH×AH)=>aQ true tV nv (.msl bz 0 1 tV) h=some (.msl q.1 0 (top.names.length+1) tV,q.2.1)∧aZ 3 q.2.1 (.ptr q.1 top.names.length 0) (.agg r)=some q.2.2∧aZ 1 q.2.2 (.ptr fb below.length 7) (.msl q.1 0 (top.names.length+1) tV)=some h3∧aR true 3 h3 (.ptr q.1 top.names.length 0)=some (.agg r)) i hi (Y:=fun _=>fR mb bb fb left below {top with names:=top.names++[v]}) fun F J x=>by
  obtain⟨rs,ex,a',sv',nv',g',hrl,ha,hg,s⟩:=kP x
  have g6:=cT top a' sv' nv' g' ha.len3.1
  have l7:=oh (n:=1) (s.cell 1 rfl).1 hrl g6.2.2.1
  have l7':=mv.rd 1 7 nv (cT top a sv nv g mv.ha.len3.1).2.2.1
  rw[l7]at l7'
  injection l7' with l7'
  subst l7'
  obtain⟨h1,e1,s1⟩:=s.app 3 rfl hz zv hl
  obtain⟨h2,e2,s2⟩:=s1.call (R:=fun h2=>aZ 3 h1 (.ptr h.n top.names.length 0) (.agg r)=some h2) 3 rfl fun F J x=>Tb x (i:=top.names.length) (by simp) hv
  rw[show(top.names++[aK]).set top.names.length v=top.names++[v] from KO top.names [] aK v rfl]at s2
  have st:=pD (v:= .msl h.n 0 (top.names.length+1) tV) (s2.cell 1 rfl).1 hrl rfl rfl (by rw[g6.2.1];decide) (D6 _ _ _ _ _ _ (top.names++[v]) ha.len3.1)
  have s3:=s2.set 1 rfl (rs++dL {top with names:=top.names++[v]} a' sv' (.msl h.n 0 (top.names.length+1) tV) g'::ex)
  obtain⟨F4,J4,x4⟩:=s3.get 3 rfl
  obtain⟨p,r',p1,p2,p3⟩:=(kC x4).2.2.2.2 .i64 top.names.length v (Lp top.names [] v rfl)
  refine⟨_,(h.n,h1,h2),⟨e1,e2,st,?_⟩,pM (top:={top with names:=top.names++[v]}) ha hg s3⟩
  -- what was put there is there still
  obtain⟨F5,J5,x5⟩:=s2.get 3 rfl
  have hne:fb≠h.n:=by have:=(s.cell 1 rfl).2;omega
  rw[bP,bu (Ne.symm hne),←bP (agg:=true) (n:=3)]
  exact Gw e2
 exact⟨q,h1,h2,h3,e1,e2,e3,e4,s'⟩
theorem tz (x:(fR mb bb fb left below top).A h F J):∃ rs ex row,rs.length=below.length∧row.length=10∧row.all AV.one=true∧St h F J h [ah mb [[.ptr bb 0 0,.msl fb 0 (below.length+1) tFr,.int .i64 left]],ah fb (rs++row::ex),qp row top,gq rs below]:=by
 obtain⟨⟨rs,row,ex⟩,x⟩:=x
 obtain⟨F1,J1,F2,J2,x1,⟨F3,J3,F4,J4,x3,⟨F5,J5,F6,J6,x5,x6,r6⟩,r4⟩,r2⟩:=x
 have x5':=x5
 obtain⟨⟨a,s,n,g⟩,⟨e,ha,hg⟩,y⟩:=x5'
 simp only at e
 have g6:=cT top a s n g ha.len3.1
 obtain⟨_,_,_,_,y1,y2,_⟩:=y
 have hgo:g.one=true:=by
  have hg:SlA _ g _:=hg
  rcases hg with⟨_,rfl⟩ | ⟨id,rfl⟩<;>rfl
 refine⟨rs,ex,row,pf x6,by rw[e];exact g6.2.1,by rw[e];exact qX ha.len3 (kC y1).1 (kC y2).1 hgo,St.start ?_⟩
 exact⟨F1,J1,F2,J2,x1,⟨F3,J3,F4,J4,x3,⟨F5,J5,F6,J6,x5,bj.one x6,r6⟩,r4⟩,r2⟩
theorem wr {rs ex:List (List AV)} {row:List AV} (s:St h0 F0 J0 h [ah mb [[.ptr bb 0 0,.msl fb 0 (below.length+1) tFr,.int .i64 left]],ah fb (rs++row::ex),qp row top,gq rs below]):Did h0 F0 J0 h (fR mb bb fb left below top):=
 Did.imp (fun _ _ _ x=>by
  obtain⟨F1,J1,F2,J2,x1,⟨F3,J3,F4,J4,x3,⟨F5,J5,F6,J6,x5,x6,r6⟩,r4⟩,r2⟩:=x
  exact⟨⟨rs,row,ex⟩,F1,J1,F2,J2,x1,⟨F3,J3,F4,J4,x3,⟨F5,J5,F6,J6,x5,bj.one' x6,r6⟩,r4⟩,r2⟩) s
theorem AL {f:FrD} {a:List AV} {g:AV} (ha:VaA f.arg a) (hg:SlA 3 g (bH f.gates)) (hs:f.stack=[]) (hn:f.names=[]):(qp (dL f a .nils .nils g) f).A h (fun _=>False) (fun _=>False):=by
 have e:∀ (l:List VD),l=[]→(iT .nils l).A h (fun _=>False) (fun _=>False):=fun l hl=>by
  subst hl
  exact⟨[],rfl,.inl ⟨⟨rfl,rfl⟩,fun _ h=>h,fun _ h=>h⟩⟩
 exact⟨⟨a,.nils,.nils,g⟩,⟨rfl,ha,hg⟩,fun _=>False,fun _=>False,fun _=>False,fun _=>False,e _ hs,e _ hn,fun k=>by simp,fun j=>by simp,fun _ h=>h.elim,fun _ h=>h.elim⟩
theorem St.front {X:Asn} (s:St h0 F0 J0 h L) (i:Nat) (hi:L[i]? =some X):St h0 F0 J0 h (X::L.eraseIdx i):=s.imp fun _ _ _ x=>(bj.front hi).1 x
theorem Ry (s0:St h0 F0 J0 h L) (i:Nat) (hi:L[i]? =some (fR mb bb fb left below top)) {f:FrD} {a:List AV} {g:AV} (ha:VaA f.arg a) (hg:SlA 3 g (bH f.gates)) (hs:f.stack=[]) (hn:f.names=[]) (hb:below.length≤1000) {bz:Nat} (hz:h.cell bz=some [dL f a .nils .nils g]):
  ∃ h1 h2,aQ true tFr (.msl fb 0 (below.length+1) tFr) (.msl bz 0 1 tFr) h=some (.msl h.n 0 (below.length+2) tFr,h1)∧aZ 1 h1 (.ptr mb 0 1) (.msl h.n 0 (below.length+2) tFr)=some h2∧St h0 F0 J0 h2 (L.set i (fR mb bb h.n left (below++[top]) f)):=by
 obtain⟨h2,h1,⟨e1,e2⟩,s'⟩:=s0.callE (R:=fun h2 h1=>aQ true tFr (.msl fb 0 (below.length+1) tFr) (.msl bz 0 1 tFr) h=some (.msl h.n 0 (below.length+2) tFr,h1)∧aZ 1 h1 (.ptr mb 0 1) (.msl h.n 0 (below.length+2) tFr)=some h2) i hi (Y:=fun _=>fR mb bb h.n left (below++[top]) f) fun F J x=>by
  obtain⟨rs,ex,row,hrl,hl10,ho,s⟩:=tz x
  have c1:=(s.cell 1 rfl).1
  have g6:=cT f a .nils .nils g ha.len3.1
  have hgo:g.one=true:=by rcases hg with⟨_,rfl⟩ | ⟨id,rfl⟩<;>rfl
  have ho2:([dL f a .nils .nils g].all fun x=>x.all AV.one)=true:=by simp only[List.all_cons,List.all_nil,Bool.and_true];exact qX ha.len3 rfl rfl hgo
  have htk:(rs++row::ex).take (below.length+1)=rs++[row]:=by
   rw[←hrl,List.take_append]
   simp[List.take_of_length_le (Nat.le_succ rs.length)]
  have hap:aQ true tFr (.msl fb 0 (below.length+1) tFr) (.msl bz 0 1 tFr) h=some (.msl h.n 0 (below.length+2) tFr,(h.set fb none).push (rs++[row]++[dL f a .nils .nils g])):=by
   have he:cE h tFr (.msl bz 0 1 tFr)=some [dL f a .nils .nils g]:=by simp[cE,hz]
   simp only[aQ,he,Option.bind_some,List.length_singleton]
   rw[if_neg (by decide)]
   simp only[eS,c1,Option.bind_some]
   rw[if_pos ⟨by simp,by simp,ho2⟩,if_pos ⟨trivial,trivial,by omega⟩,if_pos (by simp;omega),htk]
   rfl
  have s1:=s.del 1 rfl
  have s2:=s1.push (rs++[row]++[dL f a .nils .nils g])
  have hnn:(h.set fb none).n=h.n:=rfl
  have st:aZ 1 ((h.set fb none).push (rs++[row]++[dL f a .nils .nils g])) (.ptr mb 0 1) (.msl h.n 0 (below.length+2) tFr)=some (((h.set fb none).push (rs++[row]++[dL f a .nils .nils g])).set mb (some [[.ptr bb 0 0,.msl h.n 0 (below.length+2) tFr,.int .i64 left]])):=bJ (n:=1) (i:=0) (x:= .msl h.n 0 (below.length+2) tFr) (off:=1) (e:=[.ptr bb 0 0,.msl fb 0 (below.length+1) tFr,.int .i64 left]) (s2.cell 1 rfl).1 rfl rfl rfl (by simp)
  have s3:=s2.set 1 rfl [[.ptr bb 0 0,.msl h.n 0 (below.length+2) tFr,.int .i64 left]]
  refine⟨_,_,⟨hap,st⟩,wr (rs:=rs++[row]) (ex:=[]) (row:=dL f a .nils .nils g) ?_⟩
  rw[List.length_append,List.length_singleton]
  have s4:=(s3.front 2 rfl).drop
  have s5:St _ _ _ _ [gq (rs++[row]) (below++[top]),ah h.n (rs++[row]++[dL f a .nils .nils g]),ah mb [[.ptr bb 0 0,.msl h.n 0 (below.length+2) tFr,.int .i64 left]]]:=
   (((s4.front 2 rfl).front 3 rfl).front 1 rfl).imp fun _ _ _ x=>by
     have y:=bj.star_out x
     exact eB (fun _ _ _ z=>(nD hrl).2 z) (fun _ _ _ z=>z) y
  have s6:=s5.add (ab.refl _) (AL ha hg hs hn) (fun _ h=>h.elim) (fun _ h=>h.elim)
  have s7:=(((s6.front 1 rfl).front 1 rfl).front 2 rfl).front 3 rfl
  exact s7
 exact⟨h1,h2,e1,e2,s'⟩
theorem Pa (s0:St h0 F0 J0 h L) (i:Nat) {t:FrD} (hi:L[i]? =some (fR mb bb fb left (below++[t]) top)):
  ∃ h',aZ 1 h (.ptr mb 0 1) (.msl fb 0 (below.length+1) tFr)=some h'∧St h0 F0 J0 h' (L.set i (fR mb bb fb left below t)):=by
 refine s0.call (R:=fun h'=>aZ 1 h (.ptr mb 0 1) (.msl fb 0 (below.length+1) tFr)=some h') i hi fun F J x=> ?_
 obtain⟨rs,ex,row,hrl,hl10,ho,s⟩:=tz x
 rw[List.length_append,List.length_singleton]at hrl
 obtain⟨rs',q,rfl⟩:∃ rs' q,rs=rs'++[q]:=by
  refine⟨rs.dropLast,rs.getLast (fun e=>by rw[e]at hrl;simp at hrl),(List.dropLast_concat_getLast _).symm⟩
 have hrl':rs'.length=below.length:=by simpa using hrl
 have st:aZ 1 h (.ptr mb 0 1) (.msl fb 0 (below.length+1) tFr)=some (h.set mb (some [[.ptr bb 0 0,.msl fb 0 (below.length+1) tFr,.int .i64 left]])):=bJ (n:=1) (i:=0) (x:= .msl fb 0 (below.length+1) tFr) (off:=1) (e:=[.ptr bb 0 0,.msl fb 0 ((below++[t]).length+1) tFr,.int .i64 left]) (s.cell 0 rfl).1 rfl rfl rfl (by simp)
 have s1:=s.set 0 rfl [[.ptr bb 0 0,.msl fb 0 (below.length+1) tFr,.int .i64 left]]
 have s2:=(s1.front 2 rfl).drop
 have s3:=(s2.front 2 rfl).imp fun _ _ _ x=>bj.star_in (eB (fun _ _ _ z=>(nD hrl').1 z) (fun _ _ _ z=>z) x)
 have s4:=(((s3.front 1 rfl).front 1 rfl).front 3 rfl).front 3 rfl
 exact⟨_,st,wr (rs:=rs') (ex:=row::ex) (row:=q) (by simpa using s4)⟩
theorem VF (s0:St h0 F0 J0 h L) (i:Nat) (hi:L[i]? =some (fR mb bb fb left [] top)):
  ∃ h',aZ 1 h (.ptr mb 0 1) (.msl fb 0 0 tFr)=some h'∧St h0 F0 J0 h' (L.set i (GE mb bb fb left)):=by
 refine s0.call (R:=fun h'=>aZ 1 h (.ptr mb 0 1) (.msl fb 0 0 tFr)=some h') i hi fun F J x=> ?_
 obtain⟨rs,ex,row,hrl,hl10,ho,s⟩:=tz x
 have st:aZ 1 h (.ptr mb 0 1) (.msl fb 0 0 tFr)=some (h.set mb (some [[.ptr bb 0 0,.msl fb 0 0 tFr,.int .i64 left]])):=bJ (n:=1) (i:=0) (x:= .msl fb 0 0 tFr) (off:=1) (e:=[.ptr bb 0 0,.msl fb 0 1 tFr,.int .i64 left]) (s.cell 0 rfl).1 rfl rfl rfl (by simp)
 have s1:=s.set 0 rfl [[.ptr bb 0 0,.msl fb 0 0 tFr,.int .i64 left]]
 have s2:=((s1.front 3 rfl).drop.front 2 rfl).drop
 have s3:=(s2.front 1 rfl).drop
 exact⟨_,st,Did.imp (fun _ _ _ x=>bj.one' x) s3⟩
end
theorem Uw {x:BitVec 64} {k:Nat} (hk:k<64) {r:Int} (hr:r=(BitVec.twoPow 64 k).toInt):LC x.toInt r=cP x.toInt k:=by
 rw[hr,FS,vH x hk]
 cases hb:x.getLsbD k
 ·refine decide_eq_false fun h=> ?_
  have:=congrArg (fun v:BitVec 64=>v.getLsbD k) h
  simp only[BitVec.getLsbD_and,hb,Bool.false_and,BitVec.getLsbD_twoPow]at this
  simp[hk]at this
 ·refine decide_eq_true (BitVec.eq_of_getLsbD_eq fun i hi=> ?_)
  rw[BitVec.getLsbD_and,BitVec.getLsbD_twoPow]
  by_cases h2:k=i
  ·subst h2
   simp[hb]
  ·simp[h2]
section
variable {h h' h0:AH} {F J F0 J0:Nat→Prop} {L:List Asn} {mb bb fb gb wb:Nat} {left:Int} {below:List FrD} {top:FrD} {ms:aO} {kept:List VD} {G:ae}
theorem cK (c:Int):aj Tryz.prog po 89 [.bool true,.int .i64 c] h=some (.inr (.iface tGo (.int .i64 c)),h):=by
 refine ag FI rfl ?_;unfold xl
 simp only[sim,af,θ,ξ,η,reduceCtorEq,ψ,ω,aa,Un,NY,rK (ab.refl h) (rfl:wkA (.iface tGo (.int .i64 c))=_)]
theorem cU (c:Int):aj Tryz.prog po 89 [.bool false,.int .i64 c] h=some (.inl (.tup []),h):=by
 refine ag FI rfl ?_;unfold xl
 simp only[sim,af,θ,ξ,η,reduceCtorEq,ψ,ω,aa,aI (ab.refl h) (rfl:wkA (.tup [])=_)]
theorem pd (n:Int):aj Tryz.prog po 115 [.int .i64 n] h=some (.inl (.agg [.int .i64 1,.int .i64 n,.nils]),h):=by
 refine ag HG rfl ?_;unfold wk
 simp only[sim,af,θ,ξ,η,reduceCtorEq,ψ,ω,aa]
 exact aI (ab.push _ _) rfl
theorem qg (n:Int):VaA (qY n) [.int .i64 1,.int .i64 n,.nils]:=⟨.nils,[],rfl,.inl ⟨rfl,rfl⟩,rfl⟩
theorem C2 (n:Int):VaA (wj n) [.int .i64 4,.int .i64 n,.nils]:=⟨.nils,[],rfl,.inl ⟨rfl,rfl⟩,rfl⟩
theorem Jx (n:Int):VaA (.mk 5 n []) [.int .i64 5,.int .i64 n,.nils]:=⟨.nils,[],rfl,.inl ⟨rfl,rfl⟩,rfl⟩
theorem vw {k n:Int} {l:List VD} {es:List (List AV)} {id:Option Nat} (hl:VaL l es):VaA (.mk k n l) [.int .i64 k,.int .i64 n,.isl id tV es]:=⟨_,es,rfl,.inr ⟨id,rfl⟩,hl⟩
theorem VaA.cells3 {v:VD} {r:List AV} (hv:VaA v r):∃ w,r=[.int .i64 v.kind,.int .i64 v.n,w]∧w.one=true:=by
 cases v with
 | mk k n l=>
   obtain⟨w,es,rfl,h1,_⟩:=hv
   exact⟨w,rfl,by rcases h1 with⟨_,rfl⟩ | ⟨id,rfl⟩<;>rfl⟩
theorem fA {v:VD} {r:List AV} (hv:VaA v r) {k:Int} (hk:v.kind=k):∃ r',aj Tryz.prog po 91 [.agg r,.int .i64 k] h=some (.inl (.agg r'),h)∧VaA v r':=by
 obtain⟨r',hw,hr'⟩:=JG hv
 obtain⟨w,rfl,ho⟩:=hv.cells3
 have hwA:wkA (.agg [.int .i64 v.kind,.int .i64 v.n,w])=some (.agg r'):=by simp only[wkA,hw,Option.map_some]
 refine⟨r',?_,hr'⟩
 have d:decide (v.kind=k)=true:=decide_eq_true hk
 refine ag Fz rfl ?_;unfold xg
 simp only[sim,af,θ,ξ,η,reduceCtorEq,ψ,ω,aa,au,d,cU,ho]
 exact aI (by repeat (first | exact ab.refl _ | refine ab.trans ?_ (ab.push _ _) | refine ab.trans ?_ (ab.fresh _ _))) hwA
theorem gN {v:VD} {r:List AV} (hv:VaA v r) {k:Int} (hk:v.kind≠k):aj Tryz.prog po 91 [.agg r,.int .i64 k] h=some (.inr (.iface tGo (.int .i64 2)),h):=by
 obtain⟨w,rfl,ho⟩:=hv.cells3
 have d:decide (v.kind=k)=false:=decide_eq_false hk
 refine ag Fz rfl ?_;unfold xg
 simp only[sim,af,θ,ξ,η,reduceCtorEq,ψ,ω,aa,au,d,cK,ho]
 exact rK (by repeat (first | exact ab.refl _ | refine ab.trans ?_ (ab.push _ _) | refine ab.trans ?_ (ab.fresh _ _))) rfl
theorem Ap {v:VD} {r:List AV} (hv:VaA v r) (hk:v.code=0):∃ r',aj Tryz.prog po 116 [.agg r] h=some (.inl (.agg r'),h)∧VaA v r':=by
 obtain⟨r',hw,hr'⟩:=JG hv
 have hwA:wkA (.agg r)=some (.agg r'):=by simp only[wkA,hw,Option.map_some]
 refine⟨r',?_,hr'⟩
 have d:decide (v.code=0)=true:=decide_eq_true hk
 have ck:=fun h=>nu (h:=h) hv
 obtain⟨o1,o2⟩:=hv.len3
 refine ag AZ rfl ?_;unfold ua
 simp only[sim,af,θ,ξ,η,reduceCtorEq,ψ,ω,aa,au,d,cU,ck,o1,o2]
 exact aI (by repeat (first | exact ab.refl _ | refine ab.trans ?_ (ab.push _ _) | refine ab.trans ?_ (ab.fresh _ _))) hwA
theorem Fw {v:VD} {r:List AV} (hv:VaA v r) (hk:v.code≠0):aj Tryz.prog po 116 [.agg r] h=some (.inr (.iface tGo (.int .i64 3)),h):=by
 have d:decide (v.code=0)=false:=decide_eq_false hk
 have ck:=fun h=>nu (h:=h) hv
 obtain⟨o1,o2⟩:=hv.len3
 refine ag AZ rfl ?_;unfold ua
 simp only[sim,af,θ,ξ,η,reduceCtorEq,ψ,ω,aa,au,d,cK,ck,o1,o2]
 exact rK (by repeat (first | exact ab.refl _ | refine ab.trans ?_ (ab.push _ _) | refine ab.trans ?_ (ab.fresh _ _))) rfl
theorem px (s:St h0 F0 J0 h L) {ib:Nat} (hi:L[ib]? =some (ei bb gb wb ms kept)) (hl:ms.length=kept.length):(∀ n:Nat,aR false n h (.ptr bb 0 0)=some (.ptr gb 0 0))∧∀ n:Nat,aR false n h (.ptr bb 0 1)=some (.ptr wb 0 0):=by
 obtain⟨F,J,x⟩:=s.get ib hi
 obtain⟨row,c1,_,c2,c3,_⟩:=vC x hl
 refine⟨fun n=> ?_,fun n=> ?_⟩
 ·rw[bP,c1,Option.bind_some,List.getElem?_cons_zero,Option.bind_some,hD,c2]
 ·rw[bP,c1,Option.bind_some,List.getElem?_cons_zero,Option.bind_some,hD,c3]
theorem VM (hW:G.Wf) (i:Int) {k:Nat} {r:Int} (hk:k<64) (hr:r=(BitVec.twoPow 64 k).toInt):aj Tryz.prog po 144 [.int .i64 (G.rights i),.int .i64 r] h=some (.inl (.bool (cP (G.rights i) k)),h):=by
 obtain⟨x,hx⟩:=yb hW i
 have e:LC (G.rights i) r=cP (G.rights i) k:=by rw[hx];exact Uw hk hr
 rw[←e]
 refine ag K6 rfl ?_;unfold CI
 simp only[sim,af,θ,ξ,η,reduceCtorEq,ψ,ω,aa]
 rfl
abbrev aai:FuncId:=147
abbrev zR6:List AV:=[.int .i64 0,.int .i64 0,.int .i64 0,.int .i64 0,.int .i64 0,.int .i64 0]
theorem xp (s:St h0 F0 J0 h L) {im ib ig:Nat} (hm:L[im]? =some (fR mb bb fb left below top)) (hb:L[ib]? =some (ei bb gb wb ms kept)) (hg:L[ig]? =some (aW gb G)) (hl:ms.length=kept.length) (hW:G.Wf) {v:VD} {r:List AV} (hv:VaA v r) {k:Nat} {q:Int} (hk:k<64) (hq:q=(BitVec.twoPow 64 k).toInt):
  aj Tryz.prog po aai [.ptr mb 0 0,.agg r,.int .i64 q] h=some (if cP (G.rights v.n) k=true then .inl (.tup [.int .i64 v.n,.agg (aH (G.target v.n).1)])else .inr (.iface tGo (.int .i64 9)),h):=by
 obtain⟨w,rfl,ho⟩:=hv.cells3
 have s1:=(s.push [[.int .i64 v.kind,.int .i64 v.n,w]]).push [zR6]
 obtain⟨a,sv,nv,g,mv⟩:=eh s1 (im+2) hm
 have l0:∀ n:Nat,aR false n _ (.ptr mb 0 0)=some (.ptr bb 0 0):=fun n=>by
  rw[bP,mv.m,Option.bind_some,List.getElem?_cons_zero,Option.bind_some,hD];rfl
 have l1:=(px s1 (ib:=ib+2) hb hl).1
 obtain⟨F,J,gx⟩:=s1.get (ig+2) hg
 have rr:=DI (gx:IsG _ F J gb G) hW v.n
 have tt:=Om (gx:IsG _ F J gb G) hW v.n
 have hh:=VM (h:=(h.push [[.int .i64 v.kind,.int .i64 v.n,w]]).push [zR6]) hW v.n hk hq
 have f0:aP 0 (.ptr mb 0 0)=some (.ptr mb 0 0):=rfl
 have f1:aP 0 (.ptr bb 0 0)=some (.ptr bb 0 0):=rfl
 cases hbit:cP (G.rights v.n) k with
 | false=>
   rw[hbit]at hh
   rw[if_neg (by decide)]
   refine ag Jq rfl ?_;unfold Bl
   simp only[sim,af,θ,ξ,η,reduceCtorEq,ψ,ω,aa,au,ho,f0,f1,l0,l1,rr,hh,cK]
   exact rK (by repeat (first | exact ab.refl _ | refine ab.trans ?_ (ab.push _ _) | refine ab.trans ?_ (ab.fresh _ _))) rfl
 | true=>
   rw[hbit]at hh
   rw[if_pos rfl]
   refine ag Jq rfl ?_;unfold Bl
   simp only[sim,af,θ,ξ,η,reduceCtorEq,ψ,ω,aa,au,ho,f0,f1,l0,l1,rr,hh,cU,tt,aH,bv,X3,Cf,bu,eqF,aaq,ne_eq,not_false_eq_true]
   exact aI (ab.set (by repeat (first | exact ab.refl _ | refine ab.trans ?_ (ab.push _ _) | refine ab.trans ?_ (ab.fresh _ _))) (by omega)) rfl
end
structure Cfg where
 (mb bb gb wb:Nat)
 ms:aO
structure Now where
 fb:Nat
 S:StD
 below:List FrD
 top:FrD
structure At (c:Cfg) (L:List Asn) (i:Nat) (n:Now):Prop where
 m:L[i]? =some (fR c.mb c.bb n.fb (n.S.left:Int) n.below n.top)
 b:L[i+1]? =some (ei c.bb c.gb c.wb c.ms n.S.kept)
 g:L[i+2]? =some (aW c.gb n.S.G)
 w:L[i+3]? =some (bE c.wb n.S.cells n.S.log)
def put (c:Cfg) (L:List Asn) (i:Nat) (n:Now):List Asn:=(((L.set i (fR c.mb c.bb n.fb (n.S.left:Int) n.below n.top)).set (i+1) (ei c.bb c.gb c.wb c.ms n.S.kept)).set (i+2) (aW c.gb n.S.G)).set (i+3) (bE c.wb n.S.cells n.S.log)
theorem gR {c:Cfg} {L:List Asn} {i j:Nat} {n:Now}:(put c L i n)[j]? =if j<L.length then(if j=i+3 then some (bE c.wb n.S.cells n.S.log)else if j=i+2 then some (aW c.gb n.S.G)else if j=i+1 then some (ei c.bb c.gb c.wb c.ms n.S.kept)else if j=i then some (fR c.mb c.bb n.fb (n.S.left:Int) n.below n.top)else L[j]?)else none:=by
 unfold put
 by_cases hj:j<L.length
 ·rw[if_pos hj]
  simp only[List.getElem?_set,List.length_set]
  by_cases h3:j=i+3
  ·subst h3;simp[hj]
  ·by_cases h2:j=i+2
   ·subst h2;simp[hj]
   ·by_cases h1:j=i+1
    ·subst h1;simp[hj]
    ·by_cases h0:j=i
     ·subst h0;simp[hj]
     ·simp[h0,h1,h2,h3,Ne.symm h0,Ne.symm h1,Ne.symm h2,Ne.symm h3]
 ·rw[if_neg hj,List.getElem?_eq_none (by simpa using hj)]
theorem At.len {c:Cfg} {L:List Asn} {i:Nat} {n:Now} (a:At c L i n):i+3<L.length:=(List.getElem?_eq_some_iff.1 a.w).1
theorem At.put {c:Cfg} {L:List Asn} {i:Nat} {n:Now} (a:At c L i n) (n':Now):At c (put c L i n') i n':=by
 have:=a.len
 refine⟨?_,?_,?_,?_⟩<;>rw[gR]
 ·rw[if_pos (by omega),if_neg (by omega),if_neg (by omega),if_neg (by omega),if_pos rfl]
 ·rw[if_pos (by omega),if_neg (by omega),if_neg (by omega),if_pos rfl]
 ·rw[if_pos (by omega),if_neg (by omega),if_pos rfl]
 ·rw[if_pos (by omega),if_pos rfl]
theorem vI {c:Cfg} {L:List Asn} {i:Nat} {n:Now}:(Go.Proofs.YtkdbjfncchmmpaaGreat.put c L i n).length=L.length:=by simp[Go.Proofs.YtkdbjfncchmmpaaGreat.put]
theorem mY {L L':List Asn} (h:∀ j:Nat,L[j]? =L'[j]?):L=L':=List.ext_getElem? h
theorem bo {c:Cfg} {L:List Asn} {i:Nat} {n n':Now}:put c (put c L i n) i n'=put c L i n':=by
 refine mY fun j=> ?_
 rw[gR,gR,vI,gR]
 by_cases hj:j<L.length
 ·simp only[if_pos hj]
  repeat' (first | rfl | split)
  all_goals first | rfl | omega
 ·simp only[if_neg hj]
theorem At.same {c:Cfg} {L:List Asn} {i:Nat} {n:Now} (a:At c L i n):Go.Proofs.YtkdbjfncchmmpaaGreat.put c L i n=L:=by
 have:=a.len
 refine mY fun j=> ?_
 rw[gR]
 split
 ·split
  ·rename_i e;rw[e,a.w]
  ·split
   ·rename_i e;rw[e,a.g]
   ·split
    ·rename_i e;rw[e,a.b]
    ·split
     ·rename_i e;rw[e,a.m]
     ·rfl
 ·rename_i hj
  exact(List.getElem?_eq_none (Nat.le_of_not_lt hj)).symm
theorem At.setM {c:Cfg} {L:List Asn} {i:Nat} {n:Now} (a:At c L i n) (fb':Nat) (l:Nat) (below':List FrD) (top':FrD):L.set i (fR c.mb c.bb fb' (l:Int) below' top')=Go.Proofs.YtkdbjfncchmmpaaGreat.put c L i ⟨fb',{n.S with left:=l},below',top'⟩:=by
 have:=a.len
 refine mY fun j=> ?_
 rw[gR,List.getElem?_set]
 by_cases hj:j<L.length
 ·rw[if_pos hj]
  by_cases h0:i=j
  ·subst h0
   simp[hj]
  ·rw[if_neg h0,if_neg (Ne.symm h0:¬ j=i)]
   split
   ·rename_i e;rw[e,a.w]
   ·split
    ·rename_i e;rw[e,a.g]
    ·split
     ·rename_i e;rw[e,a.b]
     ·rfl
 ·rw[if_neg hj,if_neg (by omega)]
  exact List.getElem?_eq_none (Nat.le_of_not_lt hj)
theorem At.setB {c:Cfg} {L:List Asn} {i:Nat} {n:Now} (a:At c L i n) (k:List VD):L.set (i+1) (ei c.bb c.gb c.wb c.ms k)=Go.Proofs.YtkdbjfncchmmpaaGreat.put c L i {n with S:={n.S with kept:=k}}:=by
 have:=a.len
 refine mY fun j=> ?_
 rw[gR,List.getElem?_set]
 by_cases hj:j<L.length
 ·rw[if_pos hj]
  by_cases h0:i+1=j
  ·subst h0
   simp[hj]
  ·rw[if_neg h0,if_neg (Ne.symm h0:¬ j=i+1)]
   split
   ·rename_i e;rw[e,a.w]
   ·split
    ·rename_i e;rw[e,a.g]
    ·split
     ·rename_i e;rw[e,a.m]
     ·rfl
 ·rw[if_neg hj,if_neg (by omega)]
  exact List.getElem?_eq_none (Nat.le_of_not_lt hj)
theorem At.setG {c:Cfg} {L:List Asn} {i:Nat} {n:Now} (a:At c L i n) (G:ae):L.set (i+2) (aW c.gb G)=Go.Proofs.YtkdbjfncchmmpaaGreat.put c L i {n with S:={n.S with G:=G}}:=by
 have:=a.len
 refine mY fun j=> ?_
 rw[gR,List.getElem?_set]
 by_cases hj:j<L.length
 ·rw[if_pos hj]
  by_cases h0:i+2=j
  ·subst h0
   simp[hj]
  ·rw[if_neg h0,if_neg (Ne.symm h0:¬ j=i+2)]
   split
   ·rename_i e;rw[e,a.w]
   ·split
    ·rename_i e;rw[e,a.b]
    ·split
     ·rename_i e;rw[e,a.m]
     ·rfl
 ·rw[if_neg hj,if_neg (by omega)]
  exact List.getElem?_eq_none (Nat.le_of_not_lt hj)
theorem At.setW {c:Cfg} {L:List Asn} {i:Nat} {n:Now} (a:At c L i n) (cells:List Int) (log:List eO):L.set (i+3) (bE c.wb cells log)=Go.Proofs.YtkdbjfncchmmpaaGreat.put c L i {n with S:={n.S with cells:=cells,log:=log}}:=by
 have:=a.len
 refine mY fun j=> ?_
 rw[gR,List.getElem?_set]
 by_cases hj:j<L.length
 ·rw[if_pos hj]
  by_cases h0:i+3=j
  ·subst h0
   simp[hj]
  ·rw[if_neg h0,if_neg (Ne.symm h0:¬ j=i+3)]
   split
   ·rename_i e;rw[e,a.g]
   ·split
    ·rename_i e;rw[e,a.b]
    ·split
     ·rename_i e;rw[e,a.m]
     ·rfl
 ·rw[if_neg hj,if_neg (by omega)]
  exact List.getElem?_eq_none (Nat.le_of_not_lt hj)
theorem At.cons {c:Cfg} {L:List Asn} {i:Nat} {n:Now} (a:At c L i n) (X:Asn):At c (X::L) (i+1) n:=⟨a.m,a.b,a.g,a.w⟩
theorem aB {c:Cfg} {L:List Asn} {i:Nat} {n:Now} {X:Asn}:Go.Proofs.YtkdbjfncchmmpaaGreat.put c (X::L) (i+1) n=X::Go.Proofs.YtkdbjfncchmmpaaGreat.put c L i n:=rfl
def CS:List RS:=[(.ops [qt,sK,(.i (.v 5) Iy)])]
def py:List RS:=[(.ops [ay,md,(.i .l (.call (.c (.fn 126 [] [])) [(.l 1),(.l 0)])),dM]),(.ops [dQ,Ix]),(.cond (.v 8) [(.ops [iQ,dQ,xM,(.i .n (.store 1 (.v 5) (.l 0)))]),.ret] [])]
def Du:List RS:=[OK,(.ops [fx,md,O5,nn,(.i .n (.store 1 (.v 5) (.c (.int .i64 0))))]),.ret]
def CP:List RS:=[OK]
def vi:List RS:=[(.ops [bN,(.i (.v 5) (.binG .iface none true .neq (.l 0) (.c .nili)))]),(.cond (.v 5) [(.ops [bN,(.i .l (.tas 210 true (.l 0))),aV,br,bY,GH,dB]),(.ops [bA,tv]),(.cond (.v 6) [(.ops [bN,Dw])] []),(.ops [iQ,bm,(.i .n (.store 3 (.v 0) (.l 1))),(.i .n (.store 1 (.v 1) (.l 0)))])] [])]
open Go Go.RowKit
abbrev fAc:FuncId:=113
abbrev fCl:FuncId:=127
noncomputable def cAc:Code:=Tryz.f113.body.getD .skip
noncomputable def cCl:Code:=Tryz.f127.body.getD .skip
theorem Wj:(Tryz.prog).funcs[fCl]? =some Tryz.f127:=Tryz.func127
theorem Vc:Tryz.f127.body=some cCl:=rfl
theorem Xs:cCl= .seq (cL cCl) (cR cCl):=rfl
theorem Z7:Tryz.f127.ntmps=18:=rfl
noncomputable def clA:Oper:={dst:=some 5,op:= .call {callee:= .builtin .recover,args:= #[],argTypes:= #[]},type:=((gC (cL cCl)).getD 0 default).type,pos:=((gC (cL cCl)).getD 0 default).pos,after:= #[],guard:=none}
noncomputable def clB:Oper:={dst:=some 2,op:= .assign (.tmp 5),type:=((gC (cL cCl)).getD 1 default).type,pos:=((gC (cL cCl)).getD 1 default).pos,after:=((gC (cL cCl)).getD 1 default).after,guard:=none}
theorem Ts:cL cCl= .region 0 #[clA,clB] false:=rfl
theorem Zr:bG Tryz.prog (po.mu fCl) (po.plan fCl) 18 [0,1,2,3,4,7,14] (cR cCl) []=some vi:=by kernel_rfl
theorem Xu:dP (po.plan fCl) (po.kp fCl) (cR cCl)=true:=by kernel_rfl
theorem ZK:x9 2 18 (po.nv fCl) 7 [0,1,2,3,4,7,14]=true:=by kernel_rfl
theorem J8 {h h':AH} {e:AV} {c6 c7:Nat} {V':List AV} (hr:aC (aj Tryz.prog po) 7 [.ss vi,.halt []] [.ptr c6 0 0,.ptr c7 0 0,e,.junk,.junk,.junk,.junk] [] h=some (.halt [],V',h'))
  {m:Mm} {w:World} {p6 p7 v:Value} (hw:WR Tryz.prog m h w) (v6:VR Tryz.prog m h (.ptr c6 0 0) p6) (v7:VR Tryz.prog m h (.ptr c7 0 0) p7) (ve:VR Tryz.prog m h e v) {u:FrameMode} (u':FrameMode)
  (hrec:∀ c:Frame,c.mode=u→∀ cs,(recoverD (c::cs)=some (v,{c with mode:=u'}::cs))∨(recoverD (c::cs)=none∧v= .nilIface∧u'=u)):
  CallsD Tryz.prog fCl #[p6,p7] u w fun e u'' w'=>(∃ v,e= .returned v)∧u''=u'∧∃ m',Ext m h m' h'∧WR Tryz.prog m' h' w'∧Below m.base w w':=by
 intro c cs hu
 have hvs:VRs Tryz.prog m h [.ptr c6 0 0,.ptr c7 0 0] [p6,p7]:=⟨rfl,fun j hj hj'=>by
  match j,hj with
  | 0,_=>exact v6
  | 1,_=>exact v7⟩
 have he:=rU Wj Vc [p6,p7] .deferred
 have ht:=re (P:=Tryz.prog) (h:=h) (k:=18) hvs
 generalize hb:Frame.enter Tryz.prog fCl #[p6,p7] .deferred=b at he
 have hbk:b.kind= .deferred:=by rw[←hb];simp[Frame.enter]
 have hbf:b.fn=fCl:=by rw[←hb];simp[Frame.enter]
 have hbr:b.roundOf=none:=by rw[←hb];simp[Frame.enter]
 rw[Z7]at he
 generalize ha:([p6,p7]++η (18 - [p6,p7].length) undef).toArray=ts at he ht
 have h1:Steps Tryz.prog (lone b (c::cs) w) (lone (b.at {tmps:=ts,defers:=[]} [.code (cL cCl),.code (cR cCl)]) (c::cs) w):=by
  rw[←he]
  conv=>lhs;rw[Xs]
  exact .one step_seq
 have hsz:ts.size=18:=by rw[ht.1];rfl
 have hreg:(cL cCl).wpS Tryz.prog (fun e a' cs' w'=>e= .normal∧cs'={c with mode:=u'}::cs∧w'=w∧a'=(({tmps:=ts,defers:=[]}:Act).put (some 5) v).put (some 2) v) {tmps:=ts,defers:=[]} (c::cs) w:=by
  rw[Ts]
  apply wpS_region
  rcases hrec c hu cs with h1 | ⟨h1,h2,h3⟩
  ·simp[wpOpsS,go_sem,clA,clB,h1,Act.put,Act.eval,hsz]
  ·have h4:({c with mode:=u'}:Frame)=c:=by rw[h3,←hu]
   simp[wpOpsS,go_sem,clA,clB,h1,Act.put,Act.eval,hsz,h2,h4]
 obtain⟨e1,a1,cs1,w1,⟨rfl,rfl,rfl,rfl⟩,harr⟩:=hreg b [.code (cR cCl)] hbk hbr
 have ht1:=(ht.put (a:={tmps:=ts,defers:=[]}) ve (some 5)).put ve (some 2)
 have rv:RV 18 [0,1,2,3,4,7,14] [] (cz (cz ([AV.ptr c6 0 0,.ptr c7 0 0]++η (18 - [AV.ptr c6 0 0,.ptr c7 0 0].length) .junk) (some 5) e) (some 2) e) [.ptr c6 0 0,.ptr c7 0 0,e,.junk,.junk,.junk,.junk] []:=by
  refine⟨by simp[cz],rfl,rfl,fun j s hj=> ?_,fun j s hj=>by simp at hj⟩
  match j,hj with
  | 0,hj | 1,hj | 2,hj | 3,hj | 4,hj | 5,hj | 6,hj=>obtain rfl:=Option.some.inj hj;exact⟨by decide,rfl⟩
  | j+7,hj=>simp at hj
 obtain⟨t',hp,hrv⟩:=uP pok (cH ZK) Zr Xu hr rv
 obtain⟨m',w',x1,x2,x3,a',x4,x5,x6⟩:=hp m w1 _ {b with defers:=[]} ({c with mode:=u'}::cs) hw ht1 rfl
 have hfin:Steps Tryz.prog (lone b (c::cs) w1) (lone {b.at a' []with mode:= .returning} ({c with mode:=u'}::cs) w'):=h1.trans (harr.trans (x6.trans (.one step_end)))
 refine⟨.returned (.tuple #[]),u',w',_,⟨⟨_,rfl⟩,rfl,m',x1,x2,x3⟩,hfin,hbk,rfl,x5,Tryz.f127,?_,?_⟩
 ·show(Tryz.prog).funcs[b.fn]? =_
  rw[hbf]
  exact Wj
 ·simp[results,Tryz.results127]
theorem H7 (c:Frame) (h:c.mode= .returning) (cs:List Frame):recoverD (c::cs)=none:=by simp[recoverD,h]
theorem FD {v:Value} (c:Frame) (h:c.mode= .panicking [{v:=v,recovered:=false}]) (cs:List Frame):recoverD (c::cs)=some (v,{c with mode:= .panicking [{v:=v,recovered:=true}]}::cs):=by simp[recoverD,h]
theorem ZY:ma .iface none true .neq .nili .nili=some (.bool false):=rfl
theorem Yh {q:TypeId} {v:AV}:ma .iface none true .neq (.iface q v) .nili=some (.bool true):=rfl
theorem Vs {q:TypeId} {v:AV}:LL q true (.iface q v)=some (.tup [v,.bool true]):=by simp[LL]
theorem Gr {h:AH} {c6 c7:Nat} {m:Mm} {w:World} {p6 p7:Value} (hw:WR Tryz.prog m h w) (v6:VR Tryz.prog m h (.ptr c6 0 0) p6) (v7:VR Tryz.prog m h (.ptr c7 0 0) p7):
  CallsD Tryz.prog fCl #[p6,p7] .returning w fun e u'' w'=>(∃ v,e= .returned v)∧u''= .returning∧∃ m',Ext m h m' h∧WR Tryz.prog m' h w'∧Below m.base w w':=by
 refine J8 (V':=[.ptr c6 0 0,.ptr c7 0 0,.nili,.junk,.junk,.bool false,.junk]) (e:= .nili) ?_ hw v6 v7 .nili .returning fun c hc cs=> .inr ⟨H7 c hc cs,rfl,rfl⟩
 unfold vi
 simp only[sim,af,θ,ξ,η,reduceCtorEq,ψ,ω,aa,ZY]
theorem M8 {h:AH} {c6 c7:Nat} {m:Mm} {w:World} {p6 p7 u:Value} {code x y:Int} {l z:AV} (hw:WR Tryz.prog m h w) (v6:VR Tryz.prog m h (.ptr c6 0 0) p6) (v7:VR Tryz.prog m h (.ptr c7 0 0) p7) (vu:VR Tryz.prog m h (.iface rc (.int .i64 code)) u)
  (h6:h.cell c6=some [[.int .i64 x,.int .i64 y,l]]) (h7:h.cell c7=some [[z]]) (hne:c7≠c6) (hl:l.one=true):
  CallsD Tryz.prog fCl #[p6,p7] (.panicking [{v:=u,recovered:=false}]) w fun e u'' w'=>(∃ v,e= .returned v)∧u''= .panicking [{v:=u,recovered:=true}]∧
   ∃ m',Ext m h m' ((h.set c6 (some [[.int .i64 0,.int .i64 0,.nils]])).set c7 (some [[.int .i64 code]]))∧WR Tryz.prog m' ((h.set c6 (some [[.int .i64 0,.int .i64 0,.nils]])).set c7 (some [[.int .i64 code]])) w'∧Below m.base w w':=by
 refine J8 (V':=[.ptr c6 0 0,.ptr c7 0 0,.iface rc (.int .i64 code),.int .i64 code,.bool true,.bool true,.bool false]) (e:= .iface rc (.int .i64 code)) ?_ hw v6 v7 vu (.panicking [{v:=u,recovered:=true}]) fun c hc cs=> .inl (FD c hc cs)
 have h7':(h.set c6 (some [[.int .i64 0,.int .i64 0,.nils]])).cell c7=some [[z]]:=(bu hne).trans h7
 unfold vi
 simp only[sim,af,θ,ξ,η,reduceCtorEq,ψ,ω,aa,Yh,Vs,h6,h7']
open Go Go.RowKit
theorem ZP:(Tryz.prog).funcs[fAc]? =some Tryz.f113:=Tryz.func113
theorem Ub:Tryz.f113.body=some cAc:=rfl
theorem aav:Tryz.f113.ntmps=25:=rfl
noncomputable abbrev cY:Code:=cL (cR cAc)
noncomputable abbrev cZ:Code:=cR (cR cAc)
noncomputable abbrev cW:Code:=cR cZ
theorem X5:cAc= .seq (cL cAc) (cR cAc):=rfl
theorem U1:cR cAc= .seq cY cZ:=rfl
theorem Uo:cZ= .seq (cL cZ) cW:=rfl
theorem U4:cW= .seq (cL cW) (cR cW):=rfl
theorem UB:cR cW= .seq (cL (cR cW)) .ret:=rfl
abbrev vA:List Nat:=[0,1,2,4,6,7,8,9,14]
theorem JR:x9 3 25 (po.nv fAc) 9 vA=true:=by kernel_rfl
theorem Yt:bG Tryz.prog (po.mu fAc) (po.plan fAc) 25 vA (cL cAc) []=some CS:=by kernel_rfl
theorem YN:bG Tryz.prog (po.mu fAc) (po.plan fAc) 25 vA cY []=some py:=by kernel_rfl
theorem Yi:bG Tryz.prog (po.mu fAc) (po.plan fAc) 25 vA cW []=some Du:=by kernel_rfl
theorem YY:bG Tryz.prog (po.mu fAc) (po.plan fAc) 25 vA (cL cW) []=some CP:=by kernel_rfl
theorem Vx:dP (po.plan fAc) (po.kp fAc) (cL cAc)=true:=by kernel_rfl
theorem TP:dP (po.plan fAc) (po.kp fAc) cY=true:=by kernel_rfl
theorem UM:dP (po.plan fAc) (po.kp fAc) cW=true:=by kernel_rfl
theorem Ui:dP (po.plan fAc) (po.kp fAc) (cL cW)=true:=by kernel_rfl
theorem XT:lI Tryz.prog vA Tryz.f113.results.toList=some [.cell true 3 4,.cell false 1 5]:=by kernel_rfl
noncomputable def acA:Oper:={dst:=some 17,op:= .makeFunc (.func fCl) #[] #[.tmp 6,.tmp 7],type:=((gC (cL cZ)).getD 0 default).type,pos:=((gC (cL cZ)).getD 0 default).pos,after:= #[],guard:=none}
noncomputable def acB:Oper:={dst:=none,op:= .defer {callee:= .value (.tmp 17),args:= #[],argTypes:= #[]},type:=((gC (cL cZ)).getD 1 default).type,pos:=((gC (cL cZ)).getD 1 default).pos,after:=((gC (cL cZ)).getD 1 default).after,guard:=none}
theorem U7:cL cZ= .region 4 #[acA,acB] false:=rfl
section
variable {h:AH} {m:Mm} {w:World}
abbrev zR:List AV:=[.int .i64 0,.int .i64 0,.nils]
def acH (h:AH) (r:List AV):AH:=((h.push [r]).push [zR]).push [[.int .i64 0]]
theorem T1 {b:Nat} {r:List AV} {gv:AV} {K:List Item} (o1:r.all AV.one=true) (o2:r.length=3):aC (aj Tryz.prog po) 9 [.ss CS,.halt K] [.ptr b 0 0,.agg r,gv,.junk,.junk,.junk,.junk,.junk,.junk] [] h=
  some (.halt K,[.ptr b 0 0,.agg r,gv,.ptr h.n 0 0,.ptr (h.n+1) 0 0,.ptr (h.n+1+1) 0 0,.junk,.junk,.junk],acH h r):=by
 unfold CS
 simp only[sim,af,θ,ξ,η,reduceCtorEq,ψ,ω,aa,o1,o2,acH]
theorem Vo (x y z:AV):RV 25 vA [] ([x,y,z]++η (25 - [x,y,z].length) .junk) [x,y,z,.junk,.junk,.junk,.junk,.junk,.junk] []:=by
 refine⟨by simp,rfl,rfl,fun j s hj=> ?_,fun j s hj=>by simp at hj⟩
 match j,hj with
 | 0,hj | 1,hj | 2,hj | 3,hj | 4,hj | 5,hj | 6,hj | 7,hj | 8,hj=>obtain rfl:=Option.some.inj hj;exact⟨by decide,rfl⟩
 | j+9,hj=>simp at hj
theorem Hl {b:Nat} {r:List AV} {gv:AV} {x:AEx} {V2:List AV} {h2:AH} (o1:r.all AV.one=true) (o2:r.length=3)
  (hr:aC (aj Tryz.prog po) 9 [.ss py,.halt [.code cZ]] [.ptr b 0 0,.agg r,gv,.ptr h.n 0 0,.ptr (h.n+1) 0 0,.ptr (h.n+1+1) 0 0,.junk,.junk,.junk] [] (acH h r)=some (x,V2,h2)) (hx:∀ v,x≠.panic v)
  {vs:List Value} (hw:WR Tryz.prog m h w) (hvs:VRs Tryz.prog m h [.ptr b 0 0,.agg r,gv] vs) (cs:List Frame):
  ∃ (bf:Frame) (t2:List AV),bf.fn=fAc∧bf.kind= .normal∧bf.defers=[]∧RV 25 vA [] t2 V2 []∧bV Tryz.prog (po.kp fAc) m h w bf cs (lone (Frame.enter Tryz.prog fAc vs.toArray .normal) cs w) (x,t2,h2):=by
 have he:=rU ZP Ub vs .normal
 have ht:=re (P:=Tryz.prog) (h:=h) (k:=25) hvs
 rw[aav]at he
 obtain⟨t1,hp1,rv1⟩:=uP pok (cH JR) Yt Vx (T1 (K:=[.code (cR cAc)]) (h:=h) (gv:=gv) (b:=b) o1 o2) (Vo _ _ _)
 obtain⟨t2,hp2,rv2⟩:=uP pok (cH JR) YN TP hr rv1
 refine⟨Frame.enter Tryz.prog fAc vs.toArray .normal,t2,by simp[Frame.enter],by simp[Frame.enter],by simp[Frame.enter],rv2,?_⟩
 generalize Frame.enter Tryz.prog fAc vs.toArray .normal=bf at he ⊢
 obtain⟨m1,w1,x1,x2,x3,a1,x4,x5,x6⟩:=hp1 m w {tmps:=_,defers:=[]} {bf with defers:=[]} cs hw ht rfl
 have x5:a1.defers=[]:=x5
 have s0:Steps Tryz.prog (lone bf cs w) (lone (bf.at a1 [.code cY,.code cZ]) cs w1):=by
  conv=>lhs;rw[←he,X5]
  refine .head step_seq (x6.trans ?_)
  conv=>lhs;rw[U1]
  exact .one step_seq
 obtain⟨m2,w2,y1,y2,y3,y4⟩:=hp2 m1 w1 a1 {bf with defers:=[]} cs x2 x4 x5
 have y5:bV Tryz.prog (po.kp fAc) m1 (acH h r) w1 {bf with defers:=[]} cs (lone (bf.at a1 [.code cY,.code cZ]) cs w1) (x,t2,h2):=⟨m2,w2,y1,y2,y3,y4⟩
 have y6:=bV.steps s0 (bV.after x1 x3 y5)
 have hd:bf.defers=[]:=by rw[←he];rfl
 have hbf:({bf with defers:=[]}:Frame)=bf:=by rw[←hd]
 rwa [hbf]at y6
theorem Dn {t V:List AV} {h:AH} {v:AV} (rv:RV 25 vA [] t V []) (hv:(fS V h [.cell true 3 4,.cell false 1 5]).map gh=some v):qi Tryz.f113 t h Tryz.prog=some v:=by
 unfold qi
 rw[i8 (h:=h) rv XT]
 exact hv
theorem Xq {h:AH} {b:Nat} {es:Option (List (List AV))} (hc:h.cell b=es):h.set b es=h:=by
 cases h with
 | mk=>
   simp only[AH.set,AH.mk.injEq,and_true,true_and]
   funext k
   by_cases hk:k=b
   ·subst hk
    simpa using hc.symm
   ·simp[hk]
theorem Gz {b:Nat} {r:List AV} {gv:AV} {c:Int} (o1:r.all AV.one=true) (o2:r.length=3) (hc:c≠0)
  (eM:aj Tryz.prog po 126 [.ptr b 0 0,.agg r] (acH h r)=some (.inl (.int .i64 c),acH h r)):
  AC Tryz.prog fAc [.ptr b 0 0,.agg r,gv] h (.inl (.tup [.agg zR,.int .i64 c]),(acH h r).set (h.n+1+1) (some [[.int .i64 c]])):=by
 intro m w vs hw hvs cs
 have c4:(acH h r).cell h.n=some [r]:=gA
 have c6:(acH h r).cell (h.n+1)=some [zR]:=iE
 have c7:(acH h r).cell (h.n+1+1)=some [[.int .i64 0]]:=aw
 have hs6:(acH h r).set (h.n+1) (some [zR])=acH h r:=Xq c6
 have hr:aC (aj Tryz.prog po) 9 [.ss py,.halt [.code cZ]] [.ptr b 0 0,.agg r,gv,.ptr h.n 0 0,.ptr (h.n+1) 0 0,.ptr (h.n+1+1) 0 0,.junk,.junk,.junk] [] (acH h r)=
   some (.ret,[.ptr b 0 0,.agg r,gv,.ptr h.n 0 0,.ptr (h.n+1) 0 0,.ptr (h.n+1+1) 0 0,.int .i64 c,.junk,.bool true],(acH h r).set (h.n+1+1) (some [[.int .i64 c]])):=by
  unfold py
  simp only[sim,af,θ,ξ,η,reduceCtorEq,ψ,ω,aa,c4,bi o2,eM,hc,c6,hs6,c7]
 obtain⟨bf,t2,b1,b2,b3,rv,m',w',x1,x2,x3,a',todo,x4,x5,x6⟩:=Hl o1 o2 hr (fun v=>by simp) hw hvs cs
 rw[b3]at x5
 have hres:=Dn (h:=(acH h r).set (h.n+1+1) (some [[.int .i64 c]])) (v:= .tup [.agg zR,.int .i64 c]) rv (by
  have q6:((acH h r).set (h.n+1+1) (some [[.int .i64 c]])).cell (h.n+1)=some [zR]:=(bu (by omega)).trans c6
  simp only[sim,af,θ,ξ,η,reduceCtorEq,ψ,ω,aa,q6])
 obtain⟨u,h7,h8⟩:=ja x2 x4 hres
 exact⟨.returned u,w',_,⟨m',x1,x2,x3,u,rfl,h8⟩,x6,b1,rfl,x5,b2,_,by simp[Frame.at,b1],h7⟩
theorem CB {n:Nat} {vm:List Nat} {t V:List AV} {i:Nat} {v:AV} (rv:RV n vm [] t V []) (hi:i ∉ vm):RV n vm [] (cz t (some i) v) V []:=by
 refine⟨by simpa[cz]using rv.len,rv.lv,rv.ll,fun j s hj=> ?_,fun j s hj=>by simp at hj⟩
 obtain⟨h1,h2⟩:=rv.v j s hj
 refine⟨h1,?_⟩
 rw[←h2]
 have hne:i≠s:=fun e=>hi (by rw[e];exact List.mem_of_getElem? hj)
 simp[cz,List.getD,List.getElem?_set,hne]
theorem Kh {n:Nat} {vm:List Nat} {t V:List AV} (rv:RV n vm [] t V []) {j s:Nat} (hj:vm[j]? =some s):s<t.length∧t.getD s .junk=V.getD j .junk:=by
 obtain⟨h1,h2⟩:=rv.v j s hj
 exact⟨by rw[rv.len];exact h1,h2⟩
theorem N1 {bf:Frame} {a2:Act} {cs:List Frame} {p6 p7:Value} (hsz:a2.tmps.size=25) (h6:a2.tmps.getD 6 undef=p6) (h7:a2.tmps.getD 7 undef=p7):
  Steps Tryz.prog (lone (bf.at a2 [.code cZ]) cs w) (lone (bf.at {a2.put (some 17) (.func (.func fCl) #[] #[p6,p7])with defers:={target:= .fn (.func fCl) #[p6,p7],args:= #[]}::a2.defers} [.code cW]) cs w):=by
 have hw:(cL cZ).wp Tryz.prog (fun e a' w'=>e= .normal∧w'=w∧a'={a2.put (some 17) (.func (.func fCl) #[] #[p6,p7])with defers:={target:= .fn (.func fCl) #[p6,p7],args:= #[]}::a2.defers}) a2 w:=by
  have hmf:∀ (fn:Fn) (first cap:Array Value) (w:World),(Instr.makeFunc fn first cap).run Tryz.prog w= .ok (.func fn first cap) w:=fun _ _ _ _=>rfl
  subst h6 h7
  rw[U7]
  apply wp_region
  simp[wpOps,go_sem,acA,acB,hmf,Act.put,Act.eval,hsz]
 obtain⟨e,a',w',⟨rfl,rfl,rfl⟩,harr⟩:=hw bf [.code cW] cs
 conv=>lhs;rw[Uo]
 exact .head step_seq harr
theorem Kw {b:Nat} {r:List AV} {gv:AV} (o2:r.length=3) (eM:aj Tryz.prog po 126 [.ptr b 0 0,.agg r] (acH h r)=some (.inl (.int .i64 0),acH h r)):
  aC (aj Tryz.prog po) 9 [.ss py,.halt [.code cZ]] [.ptr b 0 0,.agg r,gv,.ptr h.n 0 0,.ptr (h.n+1) 0 0,.ptr (h.n+1+1) 0 0,.junk,.junk,.junk] [] (acH h r)=
   some (.halt [.code cZ],[.ptr b 0 0,.agg r,gv,.ptr h.n 0 0,.ptr (h.n+1) 0 0,.ptr (h.n+1+1) 0 0,.int .i64 0,.junk,.bool false],acH h r):=by
 have c4:(acH h r).cell h.n=some [r]:=gA
 unfold py
 simp only[sim,af,θ,ξ,η,reduceCtorEq,ψ,ω,aa,c4,bi o2,eM]
theorem CF {h2:AH} {m2:Mm} {t2 V2:List AV} {a2:Act} (rv:RV 25 vA [] t2 V2 []) (ht:TR Tryz.prog m2 h2 t2 a2.tmps) {j s:Nat} (hj:vA[j]? =some s):VR Tryz.prog m2 h2 (V2.getD j .junk) (a2.tmps.getD s undef):=by
 obtain⟨h1,e1⟩:=Kh rv hj
 rw[←e1]
 exact W7 ht h1
theorem Z0 {b:Nat} {r r':List AV} {gv:AV} {h4:AH} (o1:r.all AV.one=true) (o2:r.length=3) (o3:r'.all AV.one=true) (o4:r'.length=3) (og:gv= .nils∨∃ id e rows,gv= .isl id e rows)
  (eM:aj Tryz.prog po 126 [.ptr b 0 0,.agg r] (acH h r)=some (.inl (.int .i64 0),acH h r))
  (eV:aj Tryz.prog po 128 [.ptr (acH h r).n 0 0,.agg r] ((acH h r).push [[.ptr b 0 0,gv]])=some (.inl (.agg r'),h4)) (k6:h4.cell (h.n+1)=some [zR]) (k7:h4.cell (h.n+1+1)=some [[.int .i64 0]]):
  AC Tryz.prog fAc [.ptr b 0 0,.agg r,gv] h (.inl (.tup [.agg r',.int .i64 0]),(h4.set (h.n+1) (some [r'])).set (h.n+1+1) (some [[.int .i64 0]])):=by
 intro m w vs hw hvs cs
 have c4:((acH h r).push [[.ptr b 0 0,gv]]).cell h.n=some [r]:=(bv (by simp only[acH,bd];omega)).trans gA
 have k7':(h4.set (h.n+1) (some [r'])).cell (h.n+1+1)=some [[.int .i64 0]]:=(bu (by omega)).trans k7
 have hr2:aC (aj Tryz.prog po) 9 [.ss Du,.halt []] [.ptr b 0 0,.agg r,gv,.ptr h.n 0 0,.ptr (h.n+1) 0 0,.ptr (h.n+1+1) 0 0,.int .i64 0,.junk,.bool false] [] (acH h r)=
   some (.ret,[.ptr b 0 0,.agg r,gv,.ptr h.n 0 0,.ptr (h.n+1) 0 0,.ptr (h.n+1+1) 0 0,.int .i64 0,.ptr (acH h r).n 0 0,.bool false],(h4.set (h.n+1) (some [r'])).set (h.n+1+1) (some [[.int .i64 0]])):=by
  unfold Du
  rcases og with rfl | ⟨id,e,rows,rfl⟩
  ·simp only[sim,af,θ,ξ,η,reduceCtorEq,ψ,ω,aa,c4,bi o2,eV,k6,o3,o4,k7']
  ·simp only[sim,af,θ,ξ,η,reduceCtorEq,ψ,ω,aa,c4,bi o2,eV,k6,o3,o4,k7']
 obtain⟨bf,t2,b1,b2,b3,rv,m2,w2,x1,x2,x3,a2,x4,x5,x6⟩:=Hl o1 o2 (Kw (gv:=gv) o2 eM) (fun v=>by simp) hw hvs cs
 rw[b3]at x5
 have v6:=CF rv x4 (j:=4) (s:=6) rfl
 have v7:=CF rv x4 (j:=5) (s:=7) rfl
 have hsz:a2.tmps.size=25:=by rw[x4.1,rv.len]
 have lay:=N1 (w:=w2) (bf:=bf) (a2:=a2) (cs:=cs) hsz rfl rfl
 generalize hp6:a2.tmps.getD 6 undef=p6 at v6 lay
 generalize hp7:a2.tmps.getD 7 undef=p7 at v7 lay
 rw[x5]at lay
 have ht3:=x4.put (VR.junk (.func (.func fCl) #[] #[p6,p7])) (some 17)
 have rv3:=CB (i:=17) (v:= .junk) rv (by decide)
 obtain⟨t5,hp,rv5⟩:=uP pok (cH JR) Yi UM hr2 rv3
 obtain⟨m3,w3,y1,y2,y3,a5,todo,y4,y5,y6⟩:=hp m2 w2 {a2.put (some 17) (.func (.func fCl) #[] #[p6,p7])with defers:=[{target:= .fn (.func fCl) #[p6,p7],args:= #[]}]} {bf with defers:=[{target:= .fn (.func fCl) #[p6,p7],args:= #[]}]} cs x2 ht3 rfl
 have hlv:Leaves Tryz.prog Tryz.f113 a5.tmps (fun e w'=>∃ m',Ext m h m' ((h4.set (h.n+1) (some [r'])).set (h.n+1+1) (some [[.int .i64 0]]))∧WR Tryz.prog m' ((h4.set (h.n+1) (some [r'])).set (h.n+1+1) (some [[.int .i64 0]])) w'∧Below m.base w w'∧∃ u,e= .returned u∧VR Tryz.prog m' ((h4.set (h.n+1) (some [r'])).set (h.n+1+1) (some [[.int .i64 0]])) (.tup [.agg r',.int .i64 0]) u) [{target:= .fn (.func fCl) #[p6,p7],args:= #[]}] .returning w3:=by
  refine leaves_cons (f:=fCl) (args:= #[p6,p7]) (by simp) (by simp[go_sem]) ?_
  refine(Gr y2 (v6.ext y1) (v7.ext y1)).mono ?_
  rintro e u'' w' ⟨⟨v,rfl⟩,rfl,m4,z1,z2,z3⟩
  have hres:=Dn (h:=(h4.set (h.n+1) (some [r'])).set (h.n+1+1) (some [[.int .i64 0]])) (v:= .tup [.agg r',.int .i64 0]) rv5 (by
   have q6:((h4.set (h.n+1) (some [r'])).set (h.n+1+1) (some [[.int .i64 0]])).cell (h.n+1)=some [r']:=(bu (by omega)).trans bR
   simp only[sim,af,θ,ξ,η,reduceCtorEq,ψ,ω,aa,q6,bi o4])
  obtain⟨u,h7,h8⟩:=ja z2 (y4.ext z1) hres
  refine⟨u,h7,m4,(x1.trans y1).trans z1,z2,?_,u,rfl,h8⟩
  have q1:m2.base=m.base:=x1.base
  have q2:m3.base=m2.base:=y1.base
  rw[q2,q1]at z3
  rw[q1]at y3
  exact(x3.trans y3).trans z3
 obtain⟨e,w4,fr',hR,hs,hfn,hl⟩:=leaves_steps [{target:= .fn (.func fCl) #[p6,p7],args:= #[]}] .returning w3 {(({bf with defers:=[{target:= .fn (.func fCl) #[p6,p7],args:= #[]}]}:Frame).at a5 todo)with mode:= .returning} cs rfl y5 rfl (by simp[Frame.at,b1]) (by simpa[Frame.at]using b2) hlv
 exact⟨e,w4,fr',hR,Comes.of_steps (x6.trans (lay.trans y6)) hs,hfn.trans b1,hl⟩
noncomputable abbrev zw:Array Oper:=gC (cL (cR cW))
noncomputable abbrev o6 (i:Nat):Oper:=zw.getD i default
theorem YA:cL (cR cW)= .region 6 zw false:=rfl
theorem aar:((Tryz.prog).underlying tV).isNone=false:=by kernel_rfl
theorem aan:iK Tryz.prog tV=true:=by kernel_rfl
theorem aap:szA Tryz.prog tV=3:=by kernel_rfl
theorem aas (t:List AV) (h:AH):OpF Tryz.prog po fAc t h (o6 0) (t.getD 9 .junk) h:= .inl ⟨rfl,rfl⟩
theorem aab {t:List AV} {h:AH} {v:AV} (hl:aR true 3 h (t.getD 4 .junk)=some v):OpF Tryz.prog po fAc t h (o6 1) v h:=by
 refine .inl ⟨rfl,?_⟩
 show(if((Tryz.prog).underlying tV).isNone then none else(aR (iK Tryz.prog tV) (szA Tryz.prog tV) h (t.getD 4 .junk)).map fun v=>(v,h))=_
 rw[aar,aan,aap,hl]
 rfl
theorem aao (t:List AV):aT t (o6 2)=some (128,[t.getD 22 .junk,t.getD 23 .junk]):=rfl
theorem Yu:∃ fn,(Tryz.prog).funcs[(128:Nat)]? =some fn∧(fn.body.isNone=false∧(fn.name== "runtime.NumGoroutine")=false):=⟨_,Tryz.func128,by kernel_rfl,by kernel_rfl⟩
theorem U6 {b:Nat} {r:List AV} {gv:AV} {h4:AH} {c:Int} (o1:r.all AV.one=true) (o2:r.length=3) (og:gv= .nils∨∃ id e rows,gv= .isl id e rows)
  (eM:aj Tryz.prog po 126 [.ptr b 0 0,.agg r] (acH h r)=some (.inl (.int .i64 0),acH h r))
  (eV:aj Tryz.prog po 128 [.ptr (acH h r).n 0 0,.agg r] ((acH h r).push [[.ptr b 0 0,gv]])=some (.inr (.iface rc (.int .i64 c)),h4)) (k6:h4.cell (h.n+1)=some [zR]) (k7:h4.cell (h.n+1+1)=some [[.int .i64 0]]):
  AC Tryz.prog fAc [.ptr b 0 0,.agg r,gv] h (.inl (.tup [.agg zR,.int .i64 c]),(h4.set (h.n+1) (some [zR])).set (h.n+1+1) (some [[.int .i64 c]])):=by
 intro m w vs hw hvs cs
 have c4:((acH h r).push [[.ptr b 0 0,gv]]).cell h.n=some [r]:=(bv (by simp only[acH,bd];omega)).trans gA
 have hr3:aC (aj Tryz.prog po) 9 [.ss CP,.halt [.code (cR cW)]] [.ptr b 0 0,.agg r,gv,.ptr h.n 0 0,.ptr (h.n+1) 0 0,.ptr (h.n+1+1) 0 0,.int .i64 0,.junk,.bool false] [] (acH h r)=
   some (.halt [.code (cR cW)],[.ptr b 0 0,.agg r,gv,.ptr h.n 0 0,.ptr (h.n+1) 0 0,.ptr (h.n+1+1) 0 0,.int .i64 0,.ptr (acH h r).n 0 0,.bool false],(acH h r).push [[.ptr b 0 0,gv]]):=by
  unfold CP
  rcases og with rfl | ⟨id,e,rows,rfl⟩
  ·simp only[sim,af,θ,ξ,η,reduceCtorEq,ψ,ω,aa]
  ·simp only[sim,af,θ,ξ,η,reduceCtorEq,ψ,ω,aa]
 obtain⟨bf,t2,b1,b2,b3,rv,m2,w2,x1,x2,x3,a2,x4,x5,x6⟩:=Hl o1 o2 (Kw (gv:=gv) o2 eM) (fun v=>by simp) hw hvs cs
 rw[b3]at x5
 have v6:=CF rv x4 (j:=4) (s:=6) rfl
 have v7:=CF rv x4 (j:=5) (s:=7) rfl
 have hsz:a2.tmps.size=25:=by rw[x4.1,rv.len]
 have lay:=N1 (w:=w2) (bf:=bf) (a2:=a2) (cs:=cs) hsz rfl rfl
 generalize hp6:a2.tmps.getD 6 undef=p6 at v6 lay
 generalize hp7:a2.tmps.getD 7 undef=p7 at v7 lay
 rw[x5]at lay
 have ht3:=x4.put (VR.junk (.func (.func fCl) #[] #[p6,p7])) (some 17)
 have rv3:=CB (i:=17) (v:= .junk) rv (by decide)
 obtain⟨t5,hp,rv5⟩:=uP pok (cH JR) YY Ui hr3 rv3
 obtain⟨m3,w3,y1,y2,y3,a5,y4,y5,y6⟩:=hp m2 w2 {a2.put (some 17) (.func (.func fCl) #[] #[p6,p7])with defers:=[{target:= .fn (.func fCl) #[p6,p7],args:= #[]}]} {bf with defers:=[{target:= .fn (.func fCl) #[p6,p7],args:= #[]}]} cs x2 ht3 rfl
 have s1:Steps Tryz.prog (lone (bf.at {a2.put (some 17) (.func (.func fCl) #[] #[p6,p7])with defers:=[{target:= .fn (.func fCl) #[p6,p7],args:= #[]}]} [.code cW]) cs w2) (lone (bf.at a5 [.inRegion zw [0,1,2,3,4],.code .ret]) cs w3):=by
  conv=>lhs;rw[U4]
  refine .head step_seq (y6.trans ?_)
  conv=>lhs;rw[UB]
  refine .head step_seq ?_
  conv=>lhs;rw[YA]
  exact .one step_region
 -- the first two operations of the last statement
 obtain⟨q9,e9⟩:=Kh rv5 (j:=7) (s:=9) rfl
 obtain⟨q4,e4⟩:=Kh rv5 (j:=3) (s:=4) rfl
 obtain⟨m6,w6,u6,d1,d2,d3,d4,d5⟩:=pC (b:=bf) (cs:=cs) (K:=[.code .ret]) (all:=zw) (i:=0) (rest:=[1,2,3,4]) pok rfl (rfl:bB zw t5 (o6 0)=some true) y2 y4 (aas t5 _)
 have ht6:=(y4.ext d1).put d3 (some 22)
 have rv6:=CB (i:=22) (v:=t5.getD 9 .junk) rv5 (by decide)
 obtain⟨q4',e4'⟩:=Kh rv6 (j:=3) (s:=4) rfl
 obtain⟨m7,w7,u7,f1,f2,f3,f4,f5⟩:=pC (b:=bf) (cs:=cs) (K:=[.code .ret]) (all:=zw) (i:=1) (rest:=[2,3,4]) (o:=o6 1) (a:=a5.put (some 22) u6) (v:= .agg r) pok rfl (rfl:bB zw _ (o6 1)=some true) d2 ht6 (aab (by
  rw[e4']
  simp[aR,AH.row,c4,bi o2]))
 have ht7:=(ht6.ext f1).put f3 (some 23)
 have rv7:=CB (i:=23) (v:= .agg r) rv6 (by decide)
 -- the call that gives up
 obtain⟨fn,g1,g2,g3⟩:=Yu
 have hl7:(cz (cz t5 (some 22) (t5.getD 9 .junk)) (some 23) (.agg r)).length=25:=rv7.len
 have hl5:t5.length=25:=rv5.len
 have ecl:=aao (cz (cz t5 (some 22) (t5.getD 9 .junk)) (some 23) (.agg r))
 have ea:(cz (cz t5 (some 22) (t5.getD 9 .junk)) (some 23) (.agg r)).getD 22 .junk= .ptr (acH h r).n 0 0:=by
  have:(cz (cz t5 (some 22) (t5.getD 9 .junk)) (some 23) (.agg r)).getD 22 .junk=t5.getD 9 .junk:=by simp[cz,List.getD,List.getElem?_set,hl5]
  rw[this,e9]
  rfl
 have eb:(cz (cz t5 (some 22) (t5.getD 9 .junk)) (some 23) (.agg r)).getD 23 .junk= .agg r:=by simp[cz,List.getD,List.getElem?_set,hl5]
 rw[ea,eb]at ecl
 have hac:=wx pok eV
 obtain⟨vs7,v1,v2⟩:=jZ (w:=w7) ht7 ecl g1 g3 g2
 obtain⟨e,w8,hR,hst⟩:=mE (b:=bf) (cs:=cs) (k:=[.code .ret]) (rest:=[3,4]) (all:=zw) (i:=2) rfl (ez ht7 zw (o6 2) (rfl:bB zw _ (o6 2)=some true)) v2 (hac m7 w7 vs7 f2 v1) (by rintro w' ⟨m',_,_,_,u',h,_⟩;cases h)
 obtain⟨m8,z1,z2,z3,u8,rfl,z5⟩:=hR
 rcases hst with⟨v',h3,_⟩ | ⟨ch,h3,todo,z6⟩
 ·cases h3
 injection h3 with h3
 subst h3
 have hlv:Leaves Tryz.prog Tryz.f113 ((a5.put (some 22) u6).put (some 23) u7).tmps (fun e w'=>∃ m',Ext m h m' ((h4.set (h.n+1) (some [zR])).set (h.n+1+1) (some [[.int .i64 c]]))∧WR Tryz.prog m' ((h4.set (h.n+1) (some [zR])).set (h.n+1+1) (some [[.int .i64 c]])) w'∧Below m.base w w'∧∃ u,e= .returned u∧VR Tryz.prog m' ((h4.set (h.n+1) (some [zR])).set (h.n+1+1) (some [[.int .i64 c]])) (.tup [.agg zR,.int .i64 c]) u) [{target:= .fn (.func fCl) #[p6,p7],args:= #[]}] (.panicking [{v:=u8,recovered:=false}]) w8:=by
  refine leaves_cons (f:=fCl) (args:= #[p6,p7]) (by simp) (by simp[go_sem]) ?_
  refine(M8 (code:=c) z2 (((((v6.ext y1).ext d1).ext f1).ext z1)) (((((v7.ext y1).ext d1).ext f1).ext z1)) z5 k6 k7 (by omega) rfl).mono ?_
  rintro e u'' w' ⟨⟨v,rfl⟩,rfl,m9,n1,n2,n3⟩
  have hres:=Dn (h:=(h4.set (h.n+1) (some [zR])).set (h.n+1+1) (some [[.int .i64 c]])) (v:= .tup [.agg zR,.int .i64 c]) rv7 (by
   have q6:((h4.set (h.n+1) (some [zR])).set (h.n+1+1) (some [[.int .i64 c]])).cell (h.n+1)=some [zR]:=(bu (by omega)).trans bR
   simp only[sim,af,θ,ξ,η,reduceCtorEq,ψ,ω,aa,q6])
  obtain⟨u,h7,h8⟩:=ja n2 ((ht7.ext z1).ext n1) hres
  refine⟨u,h7,m9,((((x1.trans y1).trans d1).trans f1).trans z1).trans n1,n2,?_,u,rfl,h8⟩
  have q1:m2.base=m.base:=x1.base
  have q2:m3.base=m2.base:=y1.base
  have q3:m6.base=m3.base:=d1.base
  have q5:m7.base=m6.base:=f1.base
  have q6:m8.base=m7.base:=z1.base
  rw[q6,q5,q3,q2,q1]at n3
  rw[q5,q3,q2,q1]at z3
  rw[q3,q2,q1]at f4
  rw[q2,q1]at d4
  rw[q1]at y3
  exact((((x3.trans y3).trans d4).trans f4).trans z3).trans n3
 have hdf:((a5.put (some 22) u6).put (some 23) u7).defers=[{target:= .fn (.func fCl) #[p6,p7],args:= #[]}]:=y5
 obtain⟨e,w9,fr',hR,hs,hfn,hl⟩:=leaves_steps [{target:= .fn (.func fCl) #[p6,p7],args:= #[]}] (.panicking [{v:=u8,recovered:=false}]) w8 {(bf.at ((a5.put (some 22) u6).put (some 23) u7) todo)with mode:= .panicking [{v:=u8,recovered:=false}]} cs rfl hdf rfl (by simp[Frame.at,b1]) (by simpa[Frame.at]using b2) hlv
 exact⟨e,w9,fr',hR,Comes.of_steps (x6.trans (lay.trans (s1.trans (d5.trans (f5.trans z6))))) hs,hfn.trans b1,hl⟩
end
section
variable {h:AH} {F J:Nat→Prop} {b:Nat} {G:ae}
theorem HU (g:IsG h F J b G) (r:List AV):Mv h F J b (acH h r) G [h.n+1+1,h.n+1,h.n] []:=(((Mv.start g).push [r]).push [zR]).push [[.int .i64 0]]
theorem rN (g:IsG h F J b G) (hW:G.Wf) {x:VD} {r:List AV} (hx:VaA x r):aj Tryz.prog po 126 [.ptr b 0 0,.agg r] (acH h r)=some (.inl (.int .i64 (oO G x)),acH h r):=by
 obtain⟨F2,J2,g2⟩:=(HU g r).isG
 exact Na g2 hW hx
theorem OC {x:VD} (hz:oO G x=0):x.size≤100000:=by
 have:x.code=0:=by
  unfold oO at hz
  split at hz
  ·exact hz
  ·rename_i hc
   simpa using hc
 have:=sk this
 omega
theorem vR (g:IsG h F J b G) (hW:G.Wf) {x:VD} {r:List AV} {gv:AV} {ks:List Int} (hx:VaA x r) (hg:SlA 3 gv (bH ks)) (hk:ks.length≤1000000) (hz:oO G x=0):
  ∃ h4,(∃ q,aj Tryz.prog po 128 [.ptr (acH h r).n 0 0,.agg r] ((acH h r).push [[.ptr b 0 0,gv]])=some (q,h4)∧Sv ks G x q)∧Mv h F J b h4 (cN ks x G).1 [(acH h r).n,h.n+1+1,h.n+1,h.n] []∧h4.cell (h.n+1)=some [zR]∧h4.cell (h.n+1+1)=some [[.int .i64 0]]:=by
 have m1:=(HU g r).push [[.ptr b 0 0,gv]]
 obtain⟨h4,e,m2,k, -, -⟩:=m1.callF (R:=fun h4=>∃ q,aj Tryz.prog po 128 [.ptr (acH h r).n 0 0,.agg r] ((acH h r).push [[.ptr b 0 0,gv]])=some (q,h4)∧Sv ks G x q) (G':=(cN ks x G).1) fun F2 J2 g2 _ hC=>by
  obtain⟨q,h4,e,r2,d⟩:=Qu hg.isL hk _ x (Nat.le_refl _) (OC hz) r ((acH h r).push [[.ptr b 0 0,gv]]) F2 J2 G g2 hW (by simp only[bd];omega) (hC _ (by simp)) ap hx
  exact⟨h4,⟨q,e,r2⟩,d⟩
 refine⟨h4,e,m2,(k _ (by simp)).trans ?_,(k _ (by simp)).trans ?_⟩
 ·exact(bv (by simp only[acH,bd];omega)).trans iE
 ·exact(bv (by simp only[acH,bd];omega)).trans aw
theorem O6 {gv:AV} {e:TypeId} {rows:List (List AV)} (hg:SlA e gv rows):gv= .nils∨∃ id e rows,gv= .isl id e rows:=by
 rcases hg with⟨_,h⟩ | ⟨id,h⟩
 ·exact .inl h
 ·exact .inr ⟨_,_,_,h⟩
theorem Mx (g:IsG h F J b G) (hW:G.Wf) {x:VD} {r:List AV} {gv:AV} {ks:List Int} (hx:VaA x r) (hg:SlA 3 gv (bH ks)) (hk:ks.length≤1000000):
  ∃ q,AC Tryz.prog fAc [.ptr b 0 0,.agg r,gv] h q∧vS [.ptr b 0 0,.agg r,gv] h q:=by
 obtain⟨o1,o2⟩:=hx.one
 have eM:=rN g hW hx
 by_cases hz:oO G x=0
 ·rw[hz]at eM
  obtain⟨h4,⟨q,eV,rV⟩,mv,k6,k7⟩:=vR g hW hx hg hk hz
  rcases rV with⟨hz2,r',rfl,x2⟩ | ⟨hz2,rfl⟩
  ·obtain⟨o3,o4⟩:=x2.one
   refine⟨_,Z0 o1 o2 o3 o4 (O6 hg) eM eV k6 k7,?_⟩
   rintro F2 J2 b2 G2 x3 r3 gv3 ks3 e g3 hW3 hx3 hg3 hk3
   simp only[List.cons.injEq,AV.ptr.injEq,AV.agg.injEq,and_true]at e
   obtain⟨rfl,rfl,rfl⟩:=e
   have eM3:=rN g3 hW3 hx3
   rw[eM]at eM3
   simp only[Option.some.injEq,Prod.mk.injEq,Sum.inl.injEq,AV.int.injEq,true_and,and_true]at eM3
   obtain⟨h5,⟨q,eV3,rV3⟩,mv3, -, -⟩:=vR g3 hW3 hx3 hg3 hk3 eM3.symm
   rw[eV]at eV3
   simp only[Option.some.injEq,Prod.mk.injEq]at eV3
   obtain⟨rfl,rfl⟩:=eV3
   have ha:aN ks3 G2 x3=cN ks3 x3 G2:=by rw[aN,if_neg (by simp[←eM3])]
   rcases rV3 with⟨hz3,r4,e4,x4⟩ | ⟨_,e4⟩
   ·simp only[Sum.inl.injEq,AV.agg.injEq]at e4
    subst e4
    rw[ha]
    exact⟨r',_,by rw[hz3],x4,((mv3.set (by simp) _).set (by simp) _).did⟩
   ·cases e4
  ·refine⟨_,U6 o1 o2 (O6 hg) eM eV k6 k7,?_⟩
   rintro F2 J2 b2 G2 x3 r3 gv3 ks3 e g3 hW3 hx3 hg3 hk3
   simp only[List.cons.injEq,AV.ptr.injEq,AV.agg.injEq,and_true]at e
   obtain⟨rfl,rfl,rfl⟩:=e
   have eM3:=rN g3 hW3 hx3
   rw[eM]at eM3
   simp only[Option.some.injEq,Prod.mk.injEq,Sum.inl.injEq,AV.int.injEq,true_and,and_true]at eM3
   obtain⟨h5,⟨q,eV3,rV3⟩,mv3, -, -⟩:=vR g3 hW3 hx3 hg3 hk3 eM3.symm
   rw[eV]at eV3
   simp only[Option.some.injEq,Prod.mk.injEq]at eV3
   obtain⟨rfl,rfl⟩:=eV3
   have ha:aN ks3 G2 x3=cN ks3 x3 G2:=by rw[aN,if_neg (by simp[←eM3])]
   rcases rV3 with⟨_,r4,e4,_⟩ | ⟨hz3,e4⟩
   ·cases e4
   ·simp only[Sum.inr.injEq,AV.iface.injEq,AV.int.injEq,true_and]at e4
    have hv:(cN ks3 x3 G2).2.1=aK:=by
     rw[vh]at hz3 ⊢
     split
     ·rfl
     ·rename_i h1
      rw[if_neg h1]at hz3
      split
      ·rfl
      ·rename_i h2
       rw[if_neg h2]at hz3
       exact absurd rfl hz3
    rw[ha,hv]
    exact⟨zR,_,by rw[e4],aL,((mv3.set (by simp) _).set (by simp) _).did⟩
 ·refine⟨_,Gz o1 o2 hz eM,?_⟩
  rintro F2 J2 b2 G2 x3 r3 gv3 ks3 e g3 hW3 hx3 hg3 hk3
  simp only[List.cons.injEq,AV.ptr.injEq,AV.agg.injEq,and_true]at e
  obtain⟨rfl,rfl,rfl⟩:=e
  have eM3:=rN g3 hW3 hx3
  rw[eM]at eM3
  simp only[Option.some.injEq,Prod.mk.injEq,Sum.inl.injEq,AV.int.injEq,true_and,and_true]at eM3
  have ha:aN ks3 G2 x3=(G2,aK,oO G2 x3):=by rw[aN,if_pos (by rw[←eM3];exact hz)]
  rw[ha]
  exact⟨zR,_,by rw[eM3],aL,((HU g3 r).set (by simp) _).did⟩
theorem Gl:po.ext fAc=some rD:=by
 show vd fAc=_
 unfold vd
 exact if_pos rfl
theorem vL (g:IsG h F J b G) (hW:G.Wf) {x:VD} {r:List AV} {gv:AV} {ks:List Int} (hx:VaA x r) (hg:SlA 3 gv (bH ks)) (hk:ks.length≤1000000):
  ∃ h',(∃ r',aj Tryz.prog po 113 [.ptr b 0 0,.agg r,gv] h=some (.inl (.tup [.agg r',.int .i64 (aN ks G x).2.2]),h')∧VaA (aN ks G x).2.1 r')∧cO h F J b h' (aN ks G x).1:=by
 have H:=Mx g hW hx hg hk
 have e:aj Tryz.prog po fAc [.ptr b 0 0,.agg r,gv] h=some (Classical.choose H):=by
  unfold aj
  rw[Gl]
  show rD _ _=_
  unfold rD
  rw[dif_pos H]
 obtain⟨r',h',h1,h2,h3⟩:=(Classical.choose_spec H).2 F J b G x r gv ks rfl g hW hx hg hk
 rw[h1]at e
 exact⟨h',⟨r',e,h2⟩,h3⟩
end
structure OkR (c:Cfg) (n:Now):Prop where
 ms:c.ms.length=4
 S:n.S.Good
 below:n.below.length≤100
 stk:n.top.stack.length≤100000
 nms:n.top.names.length≤100000
 log:n.S.log.length≤1000000
theorem OkR.len {c:Cfg} {n:Now} (o:OkR c n):c.ms.length=n.S.kept.length:=o.ms.trans o.S.kept.symm
def bW (h0:AH) (F0 J0:Nat→Prop) (c:Cfg) (L:List Asn) (i:Nat) (n:Now) (q:StD×VD×Int) (fr:AV ⊕ AV) (h':AH):Prop:=
 (q.2.2=0∧fr= .inl (.tup [])∧St h0 F0 J0 h' (put c L i {n with S:=q.1,top:={n.top with stack:=n.top.stack++[q.2.1]}}))∨
 (q.2.2≠0∧fr= .inr (.iface tGo (.int .i64 q.2.2))∧∃ n':Now,n'.S=q.1∧St h0 F0 J0 h' (put c L i n'))
section
variable {h h' h0:AH} {F J F0 J0:Nat→Prop} {L:List Asn} {c:Cfg} {i:Nat} {n:Now}
theorem bW.no {S:StD} {k:Int} (hk:k≠0) (n':Now) (hS:n'.S=S) (s:St h0 F0 J0 h' (put c L i n')):bW h0 F0 J0 c L i n (S.no k) (.inr (.iface tGo (.int .i64 k))) h':= .inr ⟨hk,rfl,n',hS,s⟩
theorem bW.ok {S:StD} {v:VD} (s:St h0 F0 J0 h' (put c L i {n with S:=S,top:={n.top with stack:=n.top.stack++[v]}})):bW h0 F0 J0 c L i n (S.ok v) (.inl (.tup [])) h':= .inl ⟨rfl,rfl,s⟩
theorem bW.fail (a:At c L i n) {k:Int} (hk:k≠0) (s:St h0 F0 J0 h' L):bW h0 F0 J0 c L i n (n.S.no k) (.inr (.iface tGo (.int .i64 k))) h':=bW.no hk n rfl (by rw[a.same];exact s)
theorem bW.drop {X:Asn} {q:StD×VD×Int} {fr:AV ⊕ AV} (r:bW h0 F0 J0 c (X::L) (i+1) n q fr h'):bW h0 F0 J0 c L i n q fr h':=by
 rcases r with⟨a,b,s⟩ | ⟨a,b,n',e,s⟩
 ·exact .inl ⟨a,b,s.drop⟩
 ·exact .inr ⟨a,b,n',e,s.drop⟩
theorem ej (s:St h0 F0 J0 h L) (a:At c L i n) (hb:n.below.length≤100) (hs:n.top.stack.length≤100000) {v:VD} {r:List AV} (hv:VaA v r):
  ∃ h',aj Tryz.prog po fPu [.ptr c.mb 0 0,.agg r] h=some (.inl (.tup []),h')∧St h0 F0 J0 h' (put c L i {n with top:={n.top with stack:=n.top.stack++[v]}}):=by
 obtain⟨h',e,s'⟩:=UF s i a.m hv (by omega) (by omega)
 rw[a.setM]at s'
 exact⟨h',e,s'⟩
theorem G5 (s:St h0 F0 J0 h L) (a:At c L i n) {st:List VD} {v:VD} (hst:n.top.stack=st++[v]) (hb:n.below.length≤100) (hl:st.length≤100000):
  ∃ h' r,aj Tryz.prog po 90 [.ptr c.mb 0 0] h=some (.inl (.agg r),h')∧VaA v r∧St h0 F0 J0 h' (put c L i {n with top:={n.top with stack:=st}}):=by
 obtain⟨h',⟨r,e,hv⟩,s'⟩:=YE s i a.m hst (by omega) (by omega)
 rw[a.setM]at s'
 exact⟨h',r,e,hv,s'⟩
theorem pt (s:St h0 F0 J0 h L) (a:At c L i n) {R:AH→Prop} {G':ae} (cc:∀ F J,IsG h F J c.gb n.S.G→∃ h',R h'∧cO h F J c.gb h' G'):∃ h',R h'∧St h0 F0 J0 h' (put c L i {n with S:={n.S with G:=G'}}):=by
 obtain⟨h',r,s'⟩:=s.call (R:=R) (Y:=aW c.gb G') (i+2) a.g cc
 rw[a.setG]at s'
 exact⟨h',r,s'⟩
theorem dU (s:St h0 F0 J0 h L) (a:At c L i n) (hl:c.ms.length=n.S.kept.length):(∀ k:Nat,aR false k h (.ptr c.mb 0 0)=some (.ptr c.bb 0 0))∧(∀ k:Nat,aR false k h (.ptr c.bb 0 0)=some (.ptr c.gb 0 0))∧∀ k:Nat,aR false k h (.ptr c.bb 0 1)=some (.ptr c.wb 0 0):=by
 obtain⟨a',sv,nv,g,mv⟩:=eh s i a.m
 obtain⟨b1,b2⟩:=px s a.b hl
 refine⟨fun k=> ?_,b1,b2⟩
 rw[bP,mv.m,Option.bind_some,List.getElem?_cons_zero,Option.bind_some,hD];rfl
theorem dq (s:St h0 F0 J0 h L) (a:At c L i n) (hb:n.below.length≤100):aj Tryz.prog po Tf [.ptr c.mb 0 0] h=some (.inl (.ptr n.fb n.below.length 0),h)∧∀ k:Nat,aR false k h (.ptr n.fb n.below.length 0)=some (.int .i64 n.top.plugin):=by
 obtain⟨a',sv,nv,g,mv⟩:=eh s i a.m
 exact⟨vD mv.m (by omega),fun k=>mv.rd k 0 _ (cT n.top a' sv nv g mv.ha.len3.1).2.2.2.2.2.1⟩
theorem i5 (t:bw):aH t=[.int .i64 t.parent,.int .i64 t.gate,.int .i64 t.rights,.int .i64 t.cell,.int .i64 t.plugin,.int .i64 t.func]:=rfl
theorem Rn {p k n:Int} {v:VD} {S:StD}:bS p 13 k n [v] S=if v.kind≠4 then S.no 2 else if cP (S.G.rights v.n) 0=false then S.no 9 else if 0≤(S.G.target v.n).1.plugin then S.no 2
  else({S with log:=S.log++[eO.mk p (S.G.target v.n).1.cell 1 v.n]}:StD).ok (qY (S.cells.getD (S.G.target v.n).1.cell.toNat 0)):=rfl
theorem ly {G:ae} (hW:G.Wf) {i:Int} {k:Nat} (hb:cP (G.rights i) k=true) (hp:¬ 0≤(G.target i).1.plugin):0≤(G.target i).1.cell∧(G.target i).1.cell<12:=by
 have hh:G.has i=true:=by
  cases h:G.has i with
  | true=>rfl
  | false=>
    have:G.rights i=0:=by unfold ae.rights;rw[if_pos (.inl (ae.path_no h))]
    rw[this]at hb
    have h2:cP 0 k=false:=by unfold cP;rw[Int.zero_ediv];decide
    rw[h2]at hb
    cases hb
 obtain⟨_,_,h1 | h1⟩:=ae.target_ok hW hh
 ·exact⟨h1.2.1,h1.2.2.1⟩
 ·omega
set_option maxHeartbeats 1000000 in
theorem Sm (s:St h0 F0 J0 h L) (a:At c L i n) (o:OkR c n) {v:VD} {r:List AV} (hv:VaA v r) (k m:Int):∃ fr h',aj Tryz.prog po 129 [.ptr c.mb 0 0,.agg r] h=some (fr,h')∧bW h0 F0 J0 c L i n (bS n.top.plugin 13 k m [v] n.S) fr h':=by
 rw[Rn]
 have s1:=s.push [r]
 have a1:=a.cons (ah h.n [r])
 obtain⟨o1,o2⟩:=hv.len3
 by_cases hk:v.kind=4
 ·rw[if_neg (by simpa using hk)]
  obtain⟨r',ek,hv'⟩:=fA (h:=h.push [r]) hv hk
  have ec:=xp s1 a1.m a1.b a1.g o.len o.S.wf hv' (k:=0) (q:=1) (by decide) (by decide)
  by_cases hb:cP (n.S.G.rights v.n) 0=true
  ·rw[if_pos hb]at ec
   rw[if_neg (by simp[hb])]
   have s2:=s1.push [aH (n.S.G.target v.n).1]
   have a2:=a1.cons (ah (h.push [r]).n [aH (n.S.G.target v.n).1])
   by_cases hp:0≤(n.S.G.target v.n).1.plugin
   ·rw[if_pos hp]
    have d:decide (0≤(n.S.G.target v.n).1.plugin)=true:=decide_eq_true hp
    refine⟨_,_,?_,bW.fail a (by decide) s2.drop.drop⟩
    refine ag ru rfl ?_;unfold pm
    simp only[sim,af,θ,ξ,η,reduceCtorEq,ψ,ω,aa,au,o1,o2,ek,ec,i5,d,cK]
   ·rw[if_neg hp]
    have d:decide (0≤(n.S.G.target v.n).1.plugin)=false:=decide_eq_false hp
    obtain⟨l0,l1,l2⟩:=dU s2 a2 o.len
    obtain⟨tp,tl⟩:=dq s2 a2 o.below
    obtain⟨h3,e3,s3⟩:=Ue s2 (i+1+1+3) a2.w o.S.cells o.log (ly o.S.wf hb hp) n.top.plugin v.n
    rw[a2.setW]at s3
    have a3:=a2.put {n with S:={n.S with cells:=n.S.cells,log:=n.S.log++[⟨n.top.plugin,(n.S.G.target v.n).1.cell,1,v.n⟩]}}
    obtain⟨h4,e4,s4⟩:=ej s3 a3 o.below o.stk (qg (n.S.cells.getD (n.S.G.target v.n).1.cell.toNat 0))
    rw[bo,aB,aB]at s4
    refine⟨_,h4,?_,bW.ok s4.drop.drop⟩
    have f0:aP 0 (.ptr c.mb 0 0)=some (.ptr c.mb 0 0):=rfl
    have f1:aP 1 (.ptr c.bb 0 0)=some (.ptr c.bb 0 1):=rfl
    have f2:aP 0 (.ptr n.fb n.below.length 0)=some (.ptr n.fb n.below.length 0):=rfl
    rw[i5]at l0 l1 l2 tp tl e3
    refine ag ru rfl ?_;unfold pm
    simp only[sim,af,θ,ξ,η,reduceCtorEq,ψ,ω,aa,au,o1,o2,ek,ec,i5,d,cU,f0,f1,f2,l0,l1,l2,tp,tl,e3,pd,e4]
  ·rw[if_neg hb]at ec
   rw[if_pos (by simpa using hb)]
   refine⟨_,_,?_,bW.fail a (by decide) s1.drop⟩
   refine ag ru rfl ?_;unfold pm
   simp only[sim,af,θ,ξ,η,reduceCtorEq,ψ,ω,aa,au,o1,o2,ek,ec]
 ·rw[if_pos hk]
  have ek:=gN (h:=h.push [r]) hv hk
  refine⟨_,_,?_,bW.fail a (by decide) s1.drop⟩
  refine ag ru rfl ?_;unfold pm
  simp only[sim,af,θ,ξ,η,reduceCtorEq,ψ,ω,aa,au,o1,o2,ek]
theorem Oc {p k n:Int} {v x:VD} {S:StD}:bS p 14 k n [v,x] S=if v.kind≠4∨x.kind≠1 then S.no 2 else if cP (S.G.rights v.n) 1=false then S.no 9 else if 0≤(S.G.target v.n).1.plugin then S.no 2
  else({S with log:=S.log++[eO.mk p (S.G.target v.n).1.cell 2 v.n],cells:=S.cells.set (S.G.target v.n).1.cell.toNat x.n}:StD).ok x:=rfl
set_option maxHeartbeats 1000000 in
theorem LX (s:St h0 F0 J0 h L) (a:At c L i n) (o:OkR c n) {v x:VD} {r t:List AV} (hv:VaA v r) (hx:VaA x t) (k m:Int):∃ fr h',aj Tryz.prog po 130 [.ptr c.mb 0 0,.agg r,.agg t] h=some (fr,h')∧bW h0 F0 J0 c L i n (bS n.top.plugin 14 k m [v,x] n.S) fr h':=by
 rw[Oc]
 have s1:=(s.push [r]).push [t]
 have a1:=(a.cons (ah h.n [r])).cons (ah (h.push [r]).n [t])
 obtain⟨o1,o2⟩:=hv.len3
 obtain⟨o3,o4⟩:=hx.len3
 have c1:((h.push [r]).push [t]).cell h.n=some [r]:=(s1.cell 1 rfl).1
 have c2:((h.push [r]).push [t]).cell (h.n+1)=some [t]:=(s1.cell 0 rfl).1
 by_cases hk:v.kind=4
 ·obtain⟨r',ek,hv'⟩:=fA (h:=(h.push [r]).push [t]) hv hk
  by_cases hk2:x.kind=1
  ·rw[if_neg (by simp[hk,hk2])]
   obtain⟨t',ek2,hx'⟩:=fA (h:=(h.push [r]).push [t]) hx hk2
   have ec:=xp s1 a1.m a1.b a1.g o.len o.S.wf hv (k:=1) (q:=2) (by decide) (by decide)
   by_cases hb:cP (n.S.G.rights v.n) 1=true
   ·rw[if_pos hb]at ec
    rw[if_neg (by simp[hb])]
    have s2:=s1.push [aH (n.S.G.target v.n).1]
    have a2:=a1.cons (ah ((h.push [r]).push [t]).n [aH (n.S.G.target v.n).1])
    by_cases hp:0≤(n.S.G.target v.n).1.plugin
    ·rw[if_pos hp]
     have d:decide (0≤(n.S.G.target v.n).1.plugin)=true:=decide_eq_true hp
     refine⟨_,_,?_,bW.fail a (by decide) s2.drop.drop.drop⟩
     refine ag mL rfl ?_;unfold kB
     simp only[sim,af,θ,ξ,η,reduceCtorEq,ψ,ω,aa,au,o1,o2,o3,o4,c1,c2,ek,ek2,ec,i5,d,cK]
    ·rw[if_neg hp]
     have d:decide (0≤(n.S.G.target v.n).1.plugin)=false:=decide_eq_false hp
     obtain⟨l0,l1,l2⟩:=dU s2 a2 o.len
     obtain⟨tp,tl⟩:=dq s2 a2 o.below
     obtain⟨w,hw,_⟩:=hx.cells3
     have c3:(((h.push [r]).push [t]).push [aH (n.S.G.target v.n).1]).cell (h.n+1)=some [t]:=(s2.cell 1 rfl).1
     have hxn:t[1]? =some (.int .i64 x.n):=by rw[hw];rfl
     obtain⟨h3,e3,s3⟩:=Ni s2 (i+1+1+1+3) a2.w o.S.cells o.log (ly o.S.wf hb hp) n.top.plugin v.n x.n
     rw[a2.setW]at s3
     have a3:=a2.put {n with S:={n.S with cells:=n.S.cells.set (n.S.G.target v.n).1.cell.toNat x.n,log:=n.S.log++[⟨n.top.plugin,(n.S.G.target v.n).1.cell,2,v.n⟩]}}
     have c4:=(s3.cell 1 rfl).1
     simp only[bd]at c4
     obtain⟨h4,e4,s4⟩:=ej s3 a3 o.below o.stk hx
     rw[bo,aB,aB,aB]at s4
     refine⟨_,h4,?_,bW.ok s4.drop.drop.drop⟩
     have f0:aP 0 (.ptr c.mb 0 0)=some (.ptr c.mb 0 0):=rfl
     have f1:aP 1 (.ptr c.bb 0 0)=some (.ptr c.bb 0 1):=rfl
     have f2:aP 0 (.ptr n.fb n.below.length 0)=some (.ptr n.fb n.below.length 0):=rfl
     rw[i5]at l0 l1 l2 tp tl e3 c3
     refine ag mL rfl ?_;unfold kB
     simp only[sim,af,θ,ξ,η,reduceCtorEq,ψ,ω,aa,au,o1,o2,o3,o4,c1,c2,ek,ek2,ec,i5,d,cU,f0,f1,f2,l0,l1,l2,tp,tl,c3,hxn,e3,c4,e4]
   ·rw[if_neg hb]at ec
    rw[if_pos (by simpa using hb)]
    refine⟨_,_,?_,bW.fail a (by decide) s1.drop.drop⟩
    refine ag mL rfl ?_;unfold kB
    simp only[sim,af,θ,ξ,η,reduceCtorEq,ψ,ω,aa,au,o1,o2,o3,o4,c1,c2,ek,ek2,ec]
  ·rw[if_pos (.inr hk2)]
   have ek2:=gN (h:=(h.push [r]).push [t]) hx hk2
   refine⟨_,_,?_,bW.fail a (by decide) s1.drop.drop⟩
   refine ag mL rfl ?_;unfold kB
   simp only[sim,af,θ,ξ,η,reduceCtorEq,ψ,ω,aa,au,o1,o2,o3,o4,c1,c2,ek,ek2]
 ·rw[if_pos (.inl hk)]
  have ek:=gN (h:=(h.push [r]).push [t]) hv hk
  refine⟨_,_,?_,bW.fail a (by decide) s1.drop.drop⟩
  refine ag mL rfl ?_;unfold kB
  simp only[sim,af,θ,ξ,η,reduceCtorEq,ψ,ω,aa,au,o1,o2,o3,o4,c1,c2,ek]
end
section
variable {h h' h0:AH} {F J F0 J0:Nat→Prop} {L:List Asn} {c:Cfg} {i:Nat} {n:Now}
theorem uV (s:St h0 F0 J0 h L) (a:At c L i n) (hl:c.ms.length=n.S.kept.length) (hW:n.S.G.Wf) {v:VD} {r:List AV} (hv:VaA v r) (rr g:Int):
  ∃ h',aj Tryz.prog po 131 [.ptr c.mb 0 0,.agg r,.int .i64 rr,.int .i64 g] h=some (if(n.S.G.derive v.n rr g).2.2=0 then .inl (.agg [.int .i64 4,.int .i64 (n.S.G.derive v.n rr g).2.1,.nils])else .inr (.iface tGo (.int .i64 (n.S.G.derive v.n rr g).2.2)),h')∧
    St h0 F0 J0 h' (put c L i {n with S:={n.S with G:=(n.S.G.derive v.n rr g).1}}):=by
 have s1:=(s.push [r]).push [zR3]
 have a1:=(a.cons (ah h.n [r])).cons (ah (h.push [r]).n [zR3])
 obtain⟨w,hw,ho⟩:=hv.cells3
 obtain⟨o1,o2⟩:=hv.len3
 have c1:((h.push [r]).push [zR3]).cell h.n=some [r]:=(s1.cell 1 rfl).1
 obtain⟨l0,l1,l2⟩:=dU s1 a1 hl
 have hn:r[1]? =some (.int .i64 v.n):=by rw[hw];rfl
 obtain⟨h2,e2,s2⟩:=pt s1 a1 (R:=fun h'=>aj Tryz.prog po 84 [.ptr c.gb 0 0,.int .i64 v.n,.int .i64 rr,.int .i64 g] ((h.push [r]).push [zR3])=some (.inl (.tup [.int .i64 (n.S.G.derive v.n rr g).2.1,.int .i64 (n.S.G.derive v.n rr g).2.2]),h')) fun F J x=>xS x hW v.n rr g
 rw[aB,aB]at s2
 have c2:=(s2.cell 0 rfl).1
 simp only[bd]at c2
 have f0:aP 0 (.ptr c.mb 0 0)=some (.ptr c.mb 0 0):=rfl
 have f1:aP 0 (.ptr c.bb 0 0)=some (.ptr c.bb 0 0):=rfl
 by_cases hc:(n.S.G.derive v.n rr g).2.2=0
 ·have d:decide ((n.S.G.derive v.n rr g).2.2=0)=true:=decide_eq_true hc
  rw[if_pos hc]
  have s3:=s2.set 0 rfl [[.int .i64 4,.int .i64 (n.S.G.derive v.n rr g).2.1,.nils]]
  refine⟨_,?_,s3.drop.drop⟩
  generalize n.S.G.derive v.n rr g=q at*
  refine ag uG rfl ?_;unfold oK
  simp only[sim,af,θ,ξ,η,reduceCtorEq,ψ,ω,aa,au,o1,o2,c1,l0,l1,f0,f1,hn,e2,d,cU,c2]
 ·have d:decide ((n.S.G.derive v.n rr g).2.2=0)=false:=decide_eq_false hc
  rw[if_neg hc]
  refine⟨_,?_,s2.drop.drop⟩
  generalize n.S.G.derive v.n rr g=q at*
  refine ag uG rfl ?_;unfold oK
  simp only[sim,af,θ,ξ,η,reduceCtorEq,ψ,ω,aa,au,o1,o2,c1,l0,l1,f0,f1,hn,e2,d,cK,c2]
theorem PL {p k n:Int} {v:VD} {S:StD}:bS p 16 k n [v] S=if v.kind≠4 then S.no 2 else if S.G.gate.2.2≠0 then({S with G:=S.G.gate.1}:StD).no S.G.gate.2.2
  else match S.G.gate.1.derive v.n 15 S.G.gate.2.1 with
   | (G',m,c)=>if c≠0 then({S with G:=G'}:StD).no c else({S with G:=G'}:StD).ok (.mk 2 0 [wj m,.mk 5 S.G.gate.2.1 []]):=rfl
set_option maxHeartbeats 1000000 in
theorem So (s:St h0 F0 J0 h L) (a:At c L i n) (o:OkR c n) {v:VD} {r:List AV} (hv:VaA v r) (k m:Int):∃ fr h',aj Tryz.prog po 132 [.ptr c.mb 0 0,.agg r] h=some (fr,h')∧bW h0 F0 J0 c L i n (bS n.top.plugin 16 k m [v] n.S) fr h':=by
 rw[PL]
 have s1:=s.push [r]
 have a1:=a.cons (ah h.n [r])
 obtain⟨o1,o2⟩:=hv.len3
 by_cases hk:v.kind=4
 ·rw[if_neg (by simpa using hk)]
  obtain⟨r',ek,hv'⟩:=fA (h:=h.push [r]) hv hk
  obtain⟨l0,l1,l2⟩:=dU s1 a1 o.len
  have f0:aP 0 (.ptr c.mb 0 0)=some (.ptr c.mb 0 0):=rfl
  have f1:aP 0 (.ptr c.bb 0 0)=some (.ptr c.bb 0 0):=rfl
  obtain⟨h2,e2,s2⟩:=pt s1 a1 (R:=fun h'=>aj Tryz.prog po 63 [.ptr c.gb 0 0] (h.push [r])=some (.inl (.tup [.int .i64 n.S.G.gate.2.1,.int .i64 n.S.G.gate.2.2]),h')) fun F J x=>Pb x o.S.wf
  have a2:=a1.put {n with S:={n.S with G:=n.S.G.gate.1}}
  have s2':=s2
  rw[aB]at s2'
  have c2:=(s2'.cell 0 rfl).1
  by_cases hg:n.S.G.gate.2.2=0
  ·rw[if_neg (by simpa using hg)]
   have dg:decide (n.S.G.gate.2.2=0)=true:=decide_eq_true hg
   obtain⟨h3,e3,s3⟩:=uV s2 a2 o.len (o.S.wf.gate) hv 15 n.S.G.gate.2.1
   rw[bo]at s3
   have a3:=a1.put {n with S:={n.S with G:=(n.S.G.gate.1.derive v.n 15 n.S.G.gate.2.1).1}}
   generalize n.S.G.gate.1.derive v.n 15 n.S.G.gate.2.1=q at*
   obtain⟨G',m',cc⟩:=q
   simp only at e3 s3 a3 ⊢
   by_cases hc:cc=0
   ·subst hc
    rw[if_pos rfl]at e3
    rw[if_neg (by simp)]
    have s4:=(s3.push [[.int .i64 4,.int .i64 m',.nils]]).fresh 2
    have a4:=(a3.cons (ah h3.n [[.int .i64 4,.int .i64 m',.nils]])).cons (idA (h3.push [[.int .i64 4,.int .i64 m',.nils]]).ids 2)
    have pv:VaA (.mk 2 0 [wj m',.mk 5 n.S.G.gate.2.1 []]) [.int .i64 2,.int .i64 0,.isl (some h3.ids) tV [[.int .i64 4,.int .i64 m',.nils],[.int .i64 5,.int .i64 n.S.G.gate.2.1,.nils]]]:=vw ⟨_,_,rfl,C2 m',_,_,rfl,Jx _,rfl⟩
    obtain⟨h5,e5,s5⟩:=ej s4 a4 o.below o.stk pv
    rw[aB,aB,bo,aB]at s5
    refine⟨_,h5,?_,bW.ok s5.drop.drop.drop⟩
    refine ag rY rfl ?_;unfold oM
    simp only[sim,af,θ,ξ,η,reduceCtorEq,ψ,ω,aa,au,o1,o2,ek,l0,l1,f0,f1,e2,dg,cU,c2,e3,e5]
   ·rw[if_neg hc]at e3
    rw[if_pos hc]
    rw[aB]at s3
    refine⟨_,_,?_,bW.no hc {n with S:={n.S with G:=G'}} rfl s3.drop⟩
    refine ag rY rfl ?_;unfold oM
    simp only[sim,af,θ,ξ,η,reduceCtorEq,ψ,ω,aa,au,o1,o2,ek,l0,l1,f0,f1,e2,dg,cU,c2,e3]
  ·rw[if_pos hg]
   have dg:decide (n.S.G.gate.2.2=0)=false:=decide_eq_false hg
   refine⟨_,_,?_,bW.no hg {n with S:={n.S with G:=n.S.G.gate.1}} rfl s2'.drop⟩
   refine ag rY rfl ?_;unfold oM
   simp only[sim,af,θ,ξ,η,reduceCtorEq,ψ,ω,aa,au,o1,o2,ek,l0,l1,f0,f1,e2,dg,cK]
 ·rw[if_pos hk]
  have ek:=gN (h:=h.push [r]) hv hk
  refine⟨_,_,?_,bW.fail a (by decide) s1.drop⟩
  refine ag rY rfl ?_;unfold oM
  simp only[sim,af,θ,ξ,η,reduceCtorEq,ψ,ω,aa,au,o1,o2,ek]
theorem EJ (s:St h0 F0 J0 h L) (a:At c L i n) (hb:n.below.length≤100) {f:FrD} {ar:List AV} {g:AV} (ha:VaA f.arg ar) (hg:SlA 3 g (bH f.gates)) (hs:f.stack=[]) (hn:f.names=[]):
  (n.below.length+1=20→∃ h',aj Tryz.prog po 133 [.ptr c.mb 0 0,.agg (dL f ar .nils .nils g)] h=some (.inr (.iface tGo (.int .i64 4)),h')∧St h0 F0 J0 h' L)∧
  (n.below.length+1≠20→∃ h' fb',aj Tryz.prog po 133 [.ptr c.mb 0 0,.agg (dL f ar .nils .nils g)] h=some (.inl (.tup []),h')∧St h0 F0 J0 h' (put c L i ⟨fb',n.S,n.below++[n.top],f⟩)):=by
 have hgo:g.one=true:=by rcases hg with⟨_,rfl⟩ | ⟨id,rfl⟩<;>rfl
 have o2:=(cT f ar .nils .nils g ha.len3.1).2.1
 have o1:=qX (f:=f) (s:= .nils) (n:= .nils) ha.len3 rfl rfl hgo
 generalize hrow:dL f ar .nils .nils g=row at*
 have s1:=s.push [row]
 have a1:=a.cons (ah h.n [row])
 obtain⟨_,_,_,_,mv⟩:=eh s1 (i+1) a1.m
 have ld:∀ (k:Nat) (x:AH),x.cell c.mb=some [[.ptr c.bb 0 0,.msl n.fb 0 (n.below.length+1) tFr,.int .i64 (n.S.left:Int)]]→aR false k x (.ptr c.mb 0 1)=some (.msl n.fb 0 (n.below.length+1) tFr):=fun k x hx=>by
  rw[bP,hx];rfl
 have l1:=fun k=>ld k _ mv.m
 have f1:aP 1 (.ptr c.mb 0 0)=some (.ptr c.mb 0 1):=rfl
 refine⟨fun h20=> ?_,fun h20=> ?_⟩
 ·have d:decide (((n.below.length+1:Nat):Int)=20)=true:=decide_eq_true (by omega)
  refine⟨_,?_,s1.drop⟩
  refine ag Fr rfl ?_;unfold yA
  simp only[sim,af,θ,ξ,η,reduceCtorEq,ψ,ω,aa,au,o1,o2,f1,l1,d,cK]
 ·have d:decide (((n.below.length+1:Nat):Int)=20)=false:=decide_eq_false (by omega)
  have s2:=s1.push [row]
  have a2:=a1.cons (ah (h.push [row]).n [row])
  obtain⟨_,_,_,_,mv2⟩:=eh s2 (i+2) a2.m
  have l2:=fun k=>ld k _ mv2.m
  obtain⟨h3,h4,e3,e4,s4⟩:=Ry s2 (i+1+1) a2.m (f:=f) (a:=ar) (g:=g) ha hg hs hn (by omega) (bz:=h.n+1) (by rw[hrow];exact(s2.cell 0 rfl).1)
  rw[a2.setM,aB,aB]at s4
  have c1:(h.push [row]).cell h.n=some [row]:=(s1.cell 0 rfl).1
  simp only[bd]at e3 e4
  refine⟨_,_,?_,s4.drop.drop⟩
  refine ag Fr rfl ?_;unfold yA
  simp only[sim,af,θ,ξ,η,reduceCtorEq,ψ,ω,aa,au,o1,o2,f1,l1,l2,d,cU,c1,e3,e4]
theorem WT {p k n:Int} {v:VD} {S:StD}:bS p 9 k n [v] S=if v.kind≠2 then S.no 2 else S.ok (v.l.getD 0 aK):=rfl
theorem Su {p k n:Int} {v:VD} {S:StD}:bS p 10 k n [v] S=if v.kind≠2 then S.no 2 else S.ok (v.l.getD 1 aK):=rfl
end
abbrev lY:FuncId:=93
section
variable {h h' h0:AH} {F J F0 J0:Nat→Prop} {L:List Asn} {c:Cfg} {i:Nat} {n:Now}
theorem yE (k x y:Int):aj Tryz.prog po 42 [.int .i64 k,.int .i64 x,.int .i64 y] h=some (.inl (.int .i64 (oI k x y)),h):=by
 unfold oI
 by_cases h1:k=1
 ·subst h1
  refine ag hU rfl ?_;unfold gy
  simp only[sim,af,θ,ξ,η,reduceCtorEq,ψ,ω,aa,decide_true]
 have d1:decide (k=1)=false:=decide_eq_false h1
 rw[if_neg h1]
 by_cases h2:k=2
 ·subst h2
  rw[if_pos rfl]
  refine ag hU rfl ?_;unfold gy
  simp only[sim,af,θ,ξ,η,reduceCtorEq,ψ,ω,aa,d1,decide_true]
 have d2:decide (k=2)=false:=decide_eq_false h2
 rw[if_neg h2]
 by_cases h3:k=3
 ·subst h3
  rw[if_pos rfl]
  refine ag hU rfl ?_;unfold gy
  simp only[sim,af,θ,ξ,η,reduceCtorEq,ψ,ω,aa,d1,d2,decide_true]
 have d3:decide (k=3)=false:=decide_eq_false h3
 rw[if_neg h3]
 by_cases h4:k=4
 ·subst h4
  rw[if_pos rfl]
  by_cases hl:x<y
  ·have dl:decide (x<y)=true:=decide_eq_true hl
   rw[if_pos hl]
   refine ag hU rfl ?_;unfold gy
   simp only[sim,af,θ,ξ,η,reduceCtorEq,ψ,ω,aa,d1,d2,d3,dl,decide_true]
  ·have dl:decide (x<y)=false:=decide_eq_false hl
   rw[if_neg hl]
   refine ag hU rfl ?_;unfold gy
   simp only[sim,af,θ,ξ,η,reduceCtorEq,ψ,ω,aa,d1,d2,d3,dl,decide_true]
 have d4:decide (k=4)=false:=decide_eq_false h4
 rw[if_neg h4]
 by_cases h5:k=5
 ·subst h5
  rw[if_pos rfl]
  by_cases hl:x=y
  ·have dl:decide (x=y)=true:=decide_eq_true hl
   rw[if_pos hl]
   refine ag hU rfl ?_;unfold gy
   simp only[sim,af,θ,ξ,η,reduceCtorEq,ψ,ω,aa,d1,d2,d3,d4,dl,decide_true]
  ·have dl:decide (x=y)=false:=decide_eq_false hl
   rw[if_neg hl]
   refine ag hU rfl ?_;unfold gy
   simp only[sim,af,θ,ξ,η,reduceCtorEq,ψ,ω,aa,d1,d2,d3,d4,dl,decide_true]
 have d5:decide (k=5)=false:=decide_eq_false h5
 rw[if_neg h5]
 refine ag hU rfl ?_;unfold gy
 simp only[sim,af,θ,ξ,η,reduceCtorEq,ψ,ω,aa,d1,d2,d3,d4,d5]
abbrev iR (op k m:Int):List AV:=[.int .i64 op,.int .i64 k,.int .i64 m]
abbrev Now.stk (n:Now) (l:List VD):Now:={n with top:={n.top with stack:=l}}
theorem gQ (s:St h0 F0 J0 h L) (a:At c L i n) (o:OkR c n) {st:List VD} {v:VD} (hst:n.top.stack=st++[v]):
  ∃ h' r,aj Tryz.prog po 90 [.ptr c.mb 0 0] h=some (.inl (.agg r),h')∧VaA v r∧St h0 F0 J0 h' (put c L i (n.stk st))∧At c (put c L i (n.stk st)) i (n.stk st):=by
 have hsl:=o.stk
 rw[hst]at hsl
 simp only[List.length_append,List.length_singleton]at hsl
 obtain⟨h',r,e,hv,s'⟩:=G5 s a hst o.below (by omega)
 exact⟨h',r,e,hv,s',a.put _⟩
theorem vE (s:St h0 F0 J0 h L) (a:At c L i n) (o:OkR c n) {st:List VD} {v w:VD} (hst:n.top.stack=st++[v]++[w]):
  ∃ h2 h3 rw_ rv,aj Tryz.prog po 90 [.ptr c.mb 0 0] h=some (.inl (.agg rw_),h2)∧aj Tryz.prog po 90 [.ptr c.mb 0 0] h2=some (.inl (.agg rv),h3)∧VaA w rw_∧VaA v rv∧St h0 F0 J0 h3 (put c L i (n.stk st))∧At c (put c L i (n.stk st)) i (n.stk st):=by
 have hsl:=o.stk
 rw[hst]at hsl
 simp only[List.length_append,List.length_singleton]at hsl
 obtain⟨h2,r2,e2,hw,s2⟩:=G5 s a hst o.below (by simp;omega)
 obtain⟨h3,r3,e3,hv,s3⟩:=G5 s2 (a.put (n.stk (st++[v]))) rfl o.below (by omega)
 rw[bo]at s3
 exact⟨h2,h3,r2,r3,e2,e3,hw,hv,s3,a.put _⟩
theorem OkR.stk' {n:Now} {st:List VD} {l:List VD} (o:OkR c n) (hst:n.top.stack=st++l):OkR c (n.stk st):=by
 have hsl:=o.stk
 rw[hst]at hsl
 simp only[List.length_append]at hsl
 exact⟨o.ms,o.S,o.below,by simp only;omega,o.nms,o.log⟩
theorem Xb {p k n:Int} {v x:VD} {S:StD}:bS p 6 k n [v,x] S=if v.kind≠1∨x.kind≠1 then S.no 2 else S.ok (qY (oI k v.n x.n)):=rfl
set_option maxHeartbeats 1000000 in
theorem U5 (s:St h0 F0 J0 h L) (a:At c L i n) (o:OkR c n) {st:List VD} {v w:VD} (hst:n.top.stack=st++[v]++[w]) (k m:Int):∃ fr h',aj Tryz.prog po lY [.ptr c.mb 0 0,.agg (iR 6 k m)] h=some (fr,h')∧bW h0 F0 J0 c L i (n.stk st) (bS n.top.plugin 6 k m [v,w] n.S) fr h':=by
 rw[Xb]
 have s1:=s.push [iR 6 k m]
 have a1:=a.cons (ah h.n [iR 6 k m])
 obtain⟨tp,tl⟩:=dq s1 a1 o.below
 have c1:=(s1.cell 0 rfl).1
 obtain⟨h2,h3,rw_,rv,e2,e3,hw,hv,s3,a3⟩:=vE s1 a1 o hst
 rw[aB]at s3 a3
 have o3:=(o.stk' (st:=st) (l:=[v]++[w]) (by rw[hst,List.append_assoc]))
 have s4:=(s3.push [zR3]).push [zR3]
 have s5:St h0 F0 J0 _ (ah (h3.n+1) [zR3]::ah h3.n [rw_]::ah h.n [iR 6 k m]::put c L i (n.stk st)):=s4.set 1 rfl [rw_]
 have s6:St h0 F0 J0 _ (ah (h3.n+1) [rv]::ah h3.n [rw_]::ah h.n [iR 6 k m]::put c L i (n.stk st)):=s5.set 0 rfl [rv]
 have a6:=(a3.cons (ah h3.n [rw_])).cons (ah (h3.n+1) [rv])
 obtain⟨o1,o2⟩:=hw.len3
 obtain⟨o5,o4⟩:=hv.len3
 have q0:=(s5.cell 0 rfl).1
 have q1:=(s6.cell 0 rfl).1
 have q2:=(s6.cell 1 rfl).1
 have q3:=(s6.cell 2 rfl).1
 generalize hh6:(((h3.push [zR3]).push [zR3]).set h3.n (some [rw_])).set (h3.n+1) (some [rv])=h6 at*
 by_cases hk:v.kind=1
 ·obtain⟨r1,ek1,hv'⟩:=fA (h:=h6) hv hk
  by_cases hk2:w.kind=1
  ·rw[if_neg (by simp[hk,hk2])]
   obtain⟨r2,ek2,hw'⟩:=fA (h:=h6) hw hk2
   obtain⟨y1,hy1,_⟩:=hv.cells3
   obtain⟨y2,hy2,_⟩:=hw.cells3
   have n1:rv[1]? =some (.int .i64 v.n):=by rw[hy1];rfl
   have n2:rw_[1]? =some (.int .i64 w.n):=by rw[hy2];rfl
   obtain⟨h7,e7,s7⟩:=ej s6 a6 o.below o3.stk (qg (oI k v.n w.n))
   rw[aB,aB,aB,bo]at s7
   refine⟨_,h7,?_,bW.ok s7.drop.drop.drop⟩
   refine ag dx rfl ?_;unfold dj
   simp only[sim,af,θ,ξ,η,reduceCtorEq,ψ,ω,aa,au,tp,c1,Int.reduceEq,decide_false,decide_true,e2,e3,o1,o2,o5,o4,q0,hh6,q1,q2,q3,ek1,ek2,n1,n2,yE,pd,e7]
  ·rw[if_pos (.inr hk2)]
   have ek2:=gN (h:=h6) hw hk2
   refine⟨_,_,?_,bW.no (by decide) (n.stk st) rfl s6.drop.drop.drop⟩
   refine ag dx rfl ?_;unfold dj
   simp only[sim,af,θ,ξ,η,reduceCtorEq,ψ,ω,aa,au,tp,c1,Int.reduceEq,decide_false,decide_true,e2,e3,o1,o2,o5,o4,q0,hh6,q1,q2,q3,ek1,ek2]
 ·rw[if_pos (.inl hk)]
  have ek1:=gN (h:=h6) hv hk
  refine⟨_,_,?_,bW.no (by decide) (n.stk st) rfl s6.drop.drop.drop⟩
  refine ag dx rfl ?_;unfold dj
  simp only[sim,af,θ,ξ,η,reduceCtorEq,ψ,ω,aa,au,tp,c1,Int.reduceEq,decide_false,decide_true,e2,e3,o1,o2,o5,o4,q0,hh6,q1,q2,q3,ek1]
end
section
variable {h h' h0:AH} {F J F0 J0:Nat→Prop} {L:List Asn} {c:Cfg} {i:Nat} {n:Now}
theorem Wl {p k n:Int} {v x:VD} {S:StD}:bS p 8 k n [v,x] S=if(VD.mk 2 0 [v,x]).code≠0 then S.no 3 else S.ok (.mk 2 0 [v,x]):=rfl
theorem On {p k n:Int} {v:VD} {S:StD}:bS p 11 k n [v] S=if(VD.mk 3 p [v]).code≠0 then S.no 3 else S.ok (.mk 3 p [v]):=rfl
theorem QF {p k n:Int} {v:VD} {S:StD}:bS p 12 k n [v] S=if v.kind≠3 then S.no 2 else if v.n≠p then S.no 10 else S.ok (v.l.getD 0 aK):=rfl
set_option maxHeartbeats 1000000 in
theorem Vz (s:St h0 F0 J0 h L) (a:At c L i n) (o:OkR c n) {st:List VD} {v w:VD} (hst:n.top.stack=st++[v]++[w]) (k m:Int):∃ fr h',aj Tryz.prog po lY [.ptr c.mb 0 0,.agg (iR 8 k m)] h=some (fr,h')∧bW h0 F0 J0 c L i (n.stk st) (bS n.top.plugin 8 k m [v,w] n.S) fr h':=by
 rw[Wl]
 have s1:=s.push [iR 8 k m]
 have a1:=a.cons (ah h.n [iR 8 k m])
 obtain⟨tp,tl⟩:=dq s1 a1 o.below
 have c1:=(s1.cell 0 rfl).1
 obtain⟨h2,h3,rw_,rv,e2,e3,hw,hv,s3,a3⟩:=vE s1 a1 o hst
 rw[aB]at s3 a3
 have o3:=(o.stk' (st:=st) (l:=[v]++[w]) (by rw[hst,List.append_assoc]))
 have s4:=(s3.push [zR3]).push [zR3]
 have s5:St h0 F0 J0 _ (ah (h3.n+1) [zR3]::ah h3.n [rw_]::ah h.n [iR 8 k m]::put c L i (n.stk st)):=s4.set 1 rfl [rw_]
 have s6:St h0 F0 J0 _ (ah (h3.n+1) [rv]::ah h3.n [rw_]::ah h.n [iR 8 k m]::put c L i (n.stk st)):=s5.set 0 rfl [rv]
 have a6:=(a3.cons (ah h3.n [rw_])).cons (ah (h3.n+1) [rv])
 obtain⟨o1,o2⟩:=hw.len3
 obtain⟨o5,o4⟩:=hv.len3
 have q0:=(s5.cell 0 rfl).1
 have q1:=(s6.cell 0 rfl).1
 have q2:=(s6.cell 1 rfl).1
 generalize hh6:(((h3.push [zR3]).push [zR3]).set h3.n (some [rw_])).set (h3.n+1) (some [rv])=h6 at*
 have s7:=s6.fresh 2
 have a7:=a6.cons (idA h6.ids 2)
 have pv:VaA (.mk 2 0 [v,w]) [.int .i64 2,.int .i64 0,.isl (some h6.ids) tV [rv,rw_]]:=vw ⟨_,_,rfl,hv,_,_,rfl,hw,rfl⟩
 by_cases hk:(VD.mk 2 0 [v,w]).code=0
 ·rw[if_neg (by simpa using hk)]
  obtain⟨r',es,hr'⟩:=Ap (h:=h6.fresh 2) pv hk
  obtain⟨h8,e8,s8⟩:=ej s7 a7 o.below o3.stk hr'
  rw[aB,aB,aB,aB,bo]at s8
  refine⟨_,h8,?_,bW.ok s8.drop.drop.drop.drop⟩
  refine ag dx rfl ?_;unfold dj
  simp only[sim,af,θ,ξ,η,reduceCtorEq,ψ,ω,aa,au,tp,c1,Int.reduceEq,decide_false,decide_true,e2,e3,o1,o2,o5,o4,q0,hh6,q1,q2,es,e8]
 ·rw[if_pos hk]
  have es:=Fw (h:=h6.fresh 2) pv hk
  refine⟨_,_,?_,bW.no (by decide) (n.stk st) rfl s7.drop.drop.drop.drop⟩
  refine ag dx rfl ?_;unfold dj
  simp only[sim,af,θ,ξ,η,reduceCtorEq,ψ,ω,aa,au,tp,c1,Int.reduceEq,decide_false,decide_true,e2,e3,o1,o2,o5,o4,q0,hh6,q1,q2,es]
theorem VaA.part {v:VD} {r:List AV} (hv:VaA v r) {j:Nat} {x:VD} (hx:v.l[j]? =some x):∃ lv rx,r[2]? =some lv∧(∀ q:IntKind,bL (some tV) none lv (.int q (j:Int))=some (.ip rx 0))∧ldA true 3 rx 0=some (.agg rx)∧VaA x rx:=by
 cases v with
 | mk k n l=>
   obtain⟨w,es,rfl,h1,h2⟩:=hv
   obtain⟨rx,e1,e2⟩:=h2.get hx
   rcases h1 with⟨rfl,_⟩ | ⟨id,rfl⟩
   ·simp at e1
   ·exact⟨_,rx,rfl,fun q=>C1 rfl e1,bi e2.len3.1,e2⟩
set_option maxHeartbeats 1000000 in
theorem Jr (s:St h0 F0 J0 h L) (a:At c L i n) (o:OkR c n) {st:List VD} {v:VD} (hst:n.top.stack=st++[v]) (hc:v.code=0) {j:Nat} (hj:j<2):∃ fr h',aj Tryz.prog po 117 [.ptr c.mb 0 0,.int .i64 (j:Int)] h=some (fr,h')∧bW h0 F0 J0 c L i (n.stk st) (if v.kind≠2 then n.S.no 2 else n.S.ok (v.l.getD j aK)) fr h':=by
 obtain⟨h2,r,e2,hv,s2,a2⟩:=gQ s a o hst
 have o3:=o.stk' hst
 by_cases hk:v.kind=2
 ·rw[if_neg (by simpa using hk)]
  obtain⟨x,y,hxy⟩:=(ow hc).1 hk
  obtain⟨z,hz⟩:∃ z,v.l[j]? =some z:=by rw[hxy];match j,hj with | 0,_=>exact⟨x,rfl⟩ | 1,_=>exact⟨y,rfl⟩
  have hzd:v.l.getD j aK=z:=by simp[List.getD,hz]
  rw[hzd]
  obtain⟨r',ek,hr'⟩:=fA (h:=h2) hv hk
  obtain⟨o1,o2⟩:=hr'.len3
  obtain⟨lv,rz,p1,p2,p3,p4⟩:=hr'.part hz
  have s3:=s2.push [r']
  have a3:=a2.cons (ah h2.n [r'])
  have c3:=(s3.cell 0 rfl).1
  obtain⟨h4,e4,s4⟩:=ej s3 a3 o.below o3.stk p4
  rw[aB,bo]at s4
  refine⟨_,h4,?_,bW.ok s4.drop⟩
  refine ag FJ rfl ?_;unfold yP
  simp only[sim,af,θ,ξ,η,reduceCtorEq,ψ,ω,aa,au,e2,ek,o1,o2,c3,p1,p2,p3,e4]
 ·rw[if_pos hk]
  have ek:=gN (h:=h2) hv hk
  refine⟨_,_,?_,bW.no (by decide) (n.stk st) rfl s2⟩
  refine ag FJ rfl ?_;unfold yP
  simp only[sim,af,θ,ξ,η,reduceCtorEq,ψ,ω,aa,au,e2,ek]
theorem UK (s:St h0 F0 J0 h L) (a:At c L i n) (o:OkR c n) {st:List VD} {v:VD} (hst:n.top.stack=st++[v]) (hc:v.code=0) (k m:Int):∃ fr h',aj Tryz.prog po lY [.ptr c.mb 0 0,.agg (iR 9 k m)] h=some (fr,h')∧bW h0 F0 J0 c L i (n.stk st) (bS n.top.plugin 9 k m [v] n.S) fr h':=by
 rw[WT]
 have s1:=s.push [iR 9 k m]
 have a1:=a.cons (ah h.n [iR 9 k m])
 obtain⟨tp,tl⟩:=dq s1 a1 o.below
 have c1:=(s1.cell 0 rfl).1
 obtain⟨fr,h2,e2,r2⟩:=Jr s1 a1 o hst hc (j:=0) (by decide)
 have e2:aj Tryz.prog po 117 [.ptr c.mb 0 0,.int .i64 0] (h.push [iR 9 k m])=some (fr,h2):=e2
 refine⟨fr,h2,?_,r2.drop⟩
 rcases r2 with⟨_,rfl,_⟩ | ⟨_,rfl,_⟩
 ·refine ag dx rfl ?_;unfold dj
  simp only[sim,af,θ,ξ,η,reduceCtorEq,ψ,ω,aa,au,tp,c1,Int.reduceEq,decide_false,decide_true,e2]
 ·refine ag dx rfl ?_;unfold dj
  simp only[sim,af,θ,ξ,η,reduceCtorEq,ψ,ω,aa,au,tp,c1,Int.reduceEq,decide_false,decide_true,e2]
theorem Sx (s:St h0 F0 J0 h L) (a:At c L i n) (o:OkR c n) {st:List VD} {v:VD} (hst:n.top.stack=st++[v]) (hc:v.code=0) (k m:Int):∃ fr h',aj Tryz.prog po lY [.ptr c.mb 0 0,.agg (iR 10 k m)] h=some (fr,h')∧bW h0 F0 J0 c L i (n.stk st) (bS n.top.plugin 10 k m [v] n.S) fr h':=by
 rw[Su]
 have s1:=s.push [iR 10 k m]
 have a1:=a.cons (ah h.n [iR 10 k m])
 obtain⟨tp,tl⟩:=dq s1 a1 o.below
 have c1:=(s1.cell 0 rfl).1
 obtain⟨fr,h2,e2,r2⟩:=Jr s1 a1 o hst hc (j:=1) (by decide)
 have e2:aj Tryz.prog po 117 [.ptr c.mb 0 0,.int .i64 1] (h.push [iR 10 k m])=some (fr,h2):=e2
 refine⟨fr,h2,?_,r2.drop⟩
 rcases r2 with⟨_,rfl,_⟩ | ⟨_,rfl,_⟩
 ·refine ag dx rfl ?_;unfold dj
  simp only[sim,af,θ,ξ,η,reduceCtorEq,ψ,ω,aa,au,tp,c1,Int.reduceEq,decide_false,decide_true,e2]
 ·refine ag dx rfl ?_;unfold dj
  simp only[sim,af,θ,ξ,η,reduceCtorEq,ψ,ω,aa,au,tp,c1,Int.reduceEq,decide_false,decide_true,e2]
set_option maxHeartbeats 1000000 in
theorem QY (s:St h0 F0 J0 h L) (a:At c L i n) (o:OkR c n) {st:List VD} {v:VD} (hst:n.top.stack=st++[v]) (k m:Int):∃ fr h',aj Tryz.prog po lY [.ptr c.mb 0 0,.agg (iR 11 k m)] h=some (fr,h')∧bW h0 F0 J0 c L i (n.stk st) (bS n.top.plugin 11 k m [v] n.S) fr h':=by
 rw[On]
 have s1:=s.push [iR 11 k m]
 have a1:=a.cons (ah h.n [iR 11 k m])
 obtain⟨tp,_⟩:=dq s1 a1 o.below
 have c1:=(s1.cell 0 rfl).1
 obtain⟨h2,r,e2,hv,s2,a2⟩:=gQ s1 a1 o hst
 rw[aB]at s2 a2
 have o3:=o.stk' hst
 obtain⟨o1,o2⟩:=hv.len3
 have s3:=s2.push [r]
 have a3:=a2.cons (ah h2.n [r])
 have c3:=(s3.cell 0 rfl).1
 obtain⟨_,tl3⟩:=dq s3 a3 o.below
 have s4:=s3.fresh 1
 have a4:=a3.cons (idA (h2.push [r]).ids 1)
 obtain⟨_,tl4⟩:=dq s4 a4 o.below
 have f0:aP 0 (.ptr n.fb n.below.length 0)=some (.ptr n.fb n.below.length 0):=rfl
 have pv:VaA (.mk 3 n.top.plugin [v]) [.int .i64 3,.int .i64 n.top.plugin,.isl (some h2.ids) tV [r]]:=vw ⟨_,_,rfl,hv,rfl⟩
 by_cases hk:(VD.mk 3 n.top.plugin [v]).code=0
 ·rw[if_neg (by simpa using hk)]
  obtain⟨r',es,hr'⟩:=Ap (h:=(h2.push [r]).fresh 1) pv hk
  obtain⟨h5,e5,s5⟩:=ej s4 a4 o.below o3.stk hr'
  rw[aB,aB,aB,bo]at s5
  refine⟨_,h5,?_,bW.ok s5.drop.drop.drop⟩
  refine ag dx rfl ?_;unfold dj
  simp only[sim,af,θ,ξ,η,reduceCtorEq,ψ,ω,aa,au,tp,c1,Int.reduceEq,decide_false,decide_true,e2,o1,o2,c3,f0,tl3,tl4,es,e5]
 ·rw[if_pos hk]
  have es:=Fw (h:=(h2.push [r]).fresh 1) pv hk
  refine⟨_,_,?_,bW.no (by decide) (n.stk st) rfl s4.drop.drop.drop⟩
  refine ag dx rfl ?_;unfold dj
  simp only[sim,af,θ,ξ,η,reduceCtorEq,ψ,ω,aa,au,tp,c1,Int.reduceEq,decide_false,decide_true,e2,o1,o2,c3,f0,tl3,tl4,es]
set_option maxHeartbeats 1000000 in
theorem RR (s:St h0 F0 J0 h L) (a:At c L i n) (o:OkR c n) {st:List VD} {v:VD} (hst:n.top.stack=st++[v]) (hc:v.code=0) (k m:Int):∃ fr h',aj Tryz.prog po lY [.ptr c.mb 0 0,.agg (iR 12 k m)] h=some (fr,h')∧bW h0 F0 J0 c L i (n.stk st) (bS n.top.plugin 12 k m [v] n.S) fr h':=by
 rw[QF]
 have s1:=s.push [iR 12 k m]
 have a1:=a.cons (ah h.n [iR 12 k m])
 obtain⟨tp,_⟩:=dq s1 a1 o.below
 have c1:=(s1.cell 0 rfl).1
 obtain⟨h2,r,e2,hv,s2,a2⟩:=gQ s1 a1 o hst
 rw[aB]at s2 a2
 have o3:=o.stk' hst
 have f0:aP 0 (.ptr n.fb n.below.length 0)=some (.ptr n.fb n.below.length 0):=rfl
 by_cases hk:v.kind=3
 ·rw[if_neg (by simpa using hk)]
  obtain⟨x,hx⟩:=(ow hc).2 hk
  have hz:v.l[0]? =some x:=by rw[hx];rfl
  have hzd:v.l.getD 0 aK=x:=by rw[hx];rfl
  rw[hzd]
  obtain⟨r',ek,hr'⟩:=fA (h:=h2) hv hk
  obtain⟨o1,o2⟩:=hr'.len3
  obtain⟨lv,rz,p1,p2,p3,p4⟩:=hr'.part hz
  have p2:∀ q:IntKind,bL (some tV) none lv (.int q 0)=some (.ip rz 0):=p2
  obtain⟨w,hw,_⟩:=hr'.cells3
  have hn:r'[1]? =some (.int .i64 v.n):=by rw[hw];rfl
  have s3:=s2.push [r']
  have a3:=a2.cons (ah h2.n [r'])
  have c3:=(s3.cell 0 rfl).1
  obtain⟨_,tl3⟩:=dq s3 a3 o.below
  by_cases hp:v.n=n.top.plugin
  ·rw[if_neg (by simpa using hp)]
   have d:decide (v.n=n.top.plugin)=true:=decide_eq_true hp
   obtain⟨h4,e4,s4⟩:=ej s3 a3 o.below o3.stk p4
   rw[aB,aB,bo]at s4
   refine⟨_,h4,?_,bW.ok s4.drop.drop⟩
   refine ag dx rfl ?_;unfold dj
   simp only[sim,af,θ,ξ,η,reduceCtorEq,ψ,ω,aa,au,tp,c1,Int.reduceEq,decide_false,decide_true,e2,ek,o1,o2,c3,hn,f0,tl3,d,cU,p1,p2,p3,e4]
  ·rw[if_pos hp]
   have d:decide (v.n=n.top.plugin)=false:=decide_eq_false hp
   refine⟨_,_,?_,bW.no (by decide) (n.stk st) rfl s3.drop.drop⟩
   refine ag dx rfl ?_;unfold dj
   simp only[sim,af,θ,ξ,η,reduceCtorEq,ψ,ω,aa,au,tp,c1,Int.reduceEq,decide_false,decide_true,e2,ek,o1,o2,c3,hn,f0,tl3,d,cK]
 ·rw[if_pos hk]
  have ek:=gN (h:=h2) hv hk
  refine⟨_,_,?_,bW.no (by decide) (n.stk st) rfl s2.drop⟩
  refine ag dx rfl ?_;unfold dj
  simp only[sim,af,θ,ξ,η,reduceCtorEq,ψ,ω,aa,au,tp,c1,Int.reduceEq,decide_false,decide_true,e2,ek]
theorem UU (s:St h0 F0 J0 h L) (a:At c L i n) (o:OkR c n) (k m:Int):∃ h',aj Tryz.prog po lY [.ptr c.mb 0 0,.agg (iR 1 k m)] h=some (.inl (.tup []),h')∧St h0 F0 J0 h' (put c L i (n.stk (n.top.stack++[aK]))):=by
 have s1:=s.push [iR 1 k m]
 have a1:=a.cons (ah h.n [iR 1 k m])
 obtain⟨tp,_⟩:=dq s1 a1 o.below
 have c1:=(s1.cell 0 rfl).1
 obtain⟨h2,e2,s2⟩:=ej s1 a1 o.below o.stk aL
 rw[aB]at s2
 refine⟨h2,?_,s2.drop⟩
 refine ag dx rfl ?_;unfold dj
 simp only[sim,af,θ,ξ,η,reduceCtorEq,ψ,ω,aa,au,tp,c1,Int.reduceEq,decide_false,decide_true,e2]
theorem T3 (s:St h0 F0 J0 h L) (a:At c L i n) (o:OkR c n) (k m:Int):∃ h',aj Tryz.prog po lY [.ptr c.mb 0 0,.agg (iR 2 k m)] h=some (.inl (.tup []),h')∧St h0 F0 J0 h' (put c L i (n.stk (n.top.stack++[qY m]))):=by
 have s1:=s.push [iR 2 k m]
 have a1:=a.cons (ah h.n [iR 2 k m])
 obtain⟨tp,_⟩:=dq s1 a1 o.below
 have c1:=(s1.cell 0 rfl).1
 obtain⟨h2,e2,s2⟩:=ej s1 a1 o.below o.stk (qg m)
 rw[aB]at s2
 refine⟨h2,?_,s2.drop⟩
 refine ag dx rfl ?_;unfold dj
 simp only[sim,af,θ,ξ,η,reduceCtorEq,ψ,ω,aa,au,tp,c1,Int.reduceEq,decide_false,decide_true,pd,e2]
theorem T9 (s:St h0 F0 J0 h L) (a:At c L i n) (o:OkR c n) (k m:Int):∃ h',aj Tryz.prog po lY [.ptr c.mb 0 0,.agg (iR 3 k m)] h=some (.inl (.tup []),h')∧St h0 F0 J0 h' (put c L i (n.stk (n.top.stack++[n.top.arg]))):=by
 have s1:=s.push [iR 3 k m]
 have a1:=a.cons (ah h.n [iR 3 k m])
 obtain⟨tp,_⟩:=dq s1 a1 o.below
 have c1:=(s1.cell 0 rfl).1
 obtain⟨ar,sv,nv,g,mv⟩:=eh s1 (i+1) a1.m
 have f3:aP 3 (.ptr n.fb n.below.length 0)=some (.ptr n.fb n.below.length 3):=rfl
 have la:=mv.arg
 obtain⟨h2,e2,s2⟩:=ej s1 a1 o.below o.stk mv.ha
 rw[aB]at s2
 refine⟨h2,?_,s2.drop⟩
 refine ag dx rfl ?_;unfold dj
 simp only[sim,af,θ,ξ,η,reduceCtorEq,ψ,ω,aa,au,tp,c1,Int.reduceEq,decide_false,decide_true,f3,la,e2]
theorem UT (s:St h0 F0 J0 h L) (a:At c L i n) (o:OkR c n) {k:Int} (hk:0≤k∧k<n.top.names.length) (m:Int):∃ h',aj Tryz.prog po lY [.ptr c.mb 0 0,.agg (iR 4 k m)] h=some (.inl (.tup []),h')∧St h0 F0 J0 h' (put c L i (n.stk (n.top.stack++[n.top.names.getD (n.top.names.length - 1 - k.toNat) aK]))):=by
 have s1:=s.push [iR 4 k m]
 have a1:=a.cons (ah h.n [iR 4 k m])
 obtain⟨tp,_⟩:=dq s1 a1 o.below
 have c1:=(s1.cell 0 rfl).1
 obtain⟨ar,sv,nv,g,mv⟩:=eh s1 (i+1) a1.m
 have f7:aP 7 (.ptr n.fb n.below.length 0)=some (.ptr n.fb n.below.length 7):=rfl
 have ln:=fun q=>mv.rd q 7 nv (cT n.top ar sv nv g mv.ha.len3.1).2.2.1
 obtain⟨p,rx,p1,p2,p3⟩:=mv.nv.2.2.2.2 .i64 (n.top.names.length - 1 - k.toNat) (n.top.names.getD (n.top.names.length - 1 - k.toNat) aK) (by
  simp only[List.getD]
  rw[List.getElem?_eq_getElem (by omega)]
  rfl)
 have hn:=o.nms
 have w1:IntKind.wrap .i64 ((n.top.names.length:Int) - 1)=(n.top.names.length:Int) - 1:=w64 (by omega) (by omega)
 have w2:IntKind.wrap .i64 ((n.top.names.length:Int) - 1 - k)=((n.top.names.length - 1 - k.toNat:Nat):Int):=HP (by omega) (by omega) (by omega)
 have lnn:=mv.nv.2.2.1
 have fn:=mv.nv.2.2.2.1
 obtain⟨h2,e2,s2⟩:=ej s1 a1 o.below o.stk p3
 rw[aB]at s2
 refine⟨h2,?_,s2.drop⟩
 refine ag dx rfl ?_;unfold dj
 simp only[sim,af,θ,ξ,η,reduceCtorEq,ψ,ω,aa,au,tp,c1,Int.reduceEq,decide_false,decide_true,f7,ln,lnn,fn,w1,w2,p1,p2,e2]
end
def Tu (h0:AH) (F0 J0:Nat→Prop) (c:Cfg) (L:List Asn) (i:Nat) (q:kH) (fr:AV ⊕ AV) (h':AH):Prop:=match q with
 | .go m=>fr= .inl (.tup [])∧∃ fb',St h0 F0 J0 h' (put c L i ⟨fb',m.S,m.below,m.top⟩)
 | .fail S k=>fr= .inr (.iface tGo (.int .i64 k))∧∃ n':Now,n'.S=S∧St h0 F0 J0 h' (put c L i n')
 | .over _ _=>False
section
variable {h h' h0:AH} {F J F0 J0:Nat→Prop} {L:List Asn} {c:Cfg} {i:Nat} {n:Now}
theorem fj (M:List XD):eW (dY M)=some M.length∧(∀ s,ew s (some 174) (dY M)=true)∧(dY M).one=true:=by
 unfold dY
 exact⟨by simp[eW],fun s=>mh,rfl⟩
theorem Ur (e:TypeId) (rows:List (List AV)):SlA e (ge e rows) rows:=by
 unfold ge
 by_cases hz:rows=[]
 ·exact .inl ⟨hz,by rw[if_pos hz]⟩
 ·exact .inr ⟨none,by rw[if_neg hz]⟩
theorem so (s:St h0 F0 J0 h L) (a:At c L i n) (o:OkR c n) {p:Nat} (hp:p<4):(∀ q:IntKind,bL none (some (4,5)) (.ptr c.bb 0 2) (.int q (p:Int))=some (.ptr c.bb 0 (2+p*5)))∧(∀ k:Nat,aR false k h (.ptr c.bb 0 (2+p*5+1))=some (kV (c.ms.getD p none)))∧
  ∃ r,aR true 3 h (.ptr c.bb 0 (2+p*5+2))=some (.agg r)∧VaA (n.S.kept.getD p aK) r∧aR true 5 h (.ptr c.bb 0 (2+p*5))=some (.agg (.bool (c.ms.getD p none).isSome::kV (c.ms.getD p none)::r))∧c.bb<h.n:=by
 obtain⟨F,J,x⟩:=s.get (i+1) a.b
 obtain⟨row,c1,cn,_,_,_,hpl⟩:=vC x o.len
 obtain⟨q1,q2,r,q3,q4,q5⟩:=hpl p (by rw[o.ms];exact hp)
 refine⟨fun q=>by simp[bL,hp],fun k=> ?_,r,?_,q4,?_,cn⟩
 ·rw[bP,c1,Option.bind_some,List.getElem?_cons_zero,Option.bind_some,hD,q2]
 ·rw[bP,c1,Option.bind_some,List.getElem?_cons_zero,Option.bind_some,q3]
 ·rw[bP,c1,Option.bind_some,List.getElem?_cons_zero,Option.bind_some,q5]
theorem zK {b i off k:Nat} {g:Bool} {es:List (List AV)} (hb:b<h.n):aR g k (h.push es) (.ptr b i off)=aR g k h (.ptr b i off):=by rw[bP,bP,bv hb]
abbrev zR5:List AV:=[.bool false,.nils,.int .i64 0,.int .i64 0,.nils]
theorem EO {G:ae} {i:Int} {k:Nat} (hb:cP (G.rights i) k=true):G.has i=true:=by
 cases h:G.has i with
 | true=>rfl
 | false=>
   have:G.rights i=0:=by unfold ae.rights;rw[if_pos (.inl (ae.path_no h))]
   rw[this]at hb
   have h2:cP 0 k=false:=by unfold cP;rw[Int.zero_ediv];decide
   rw[h2]at hb
   cases hb
def nT (h0:AH) (F0 J0:Nat→Prop) (c:Cfg) (L:List Asn) (i:Nat) (n:Now) (q:StD×u5×Int) (fr:AV ⊕ AV) (h':AH):Prop:=
 (q.2.2=0∧fr= .inl (.tup [])∧∃ fb',St h0 F0 J0 h' (put c L i ⟨fb',q.1,n.below++[n.top],⟨q.2.1.plugin,q.2.1.func,0,q.2.1.arg,[],[],true,q.2.1.gates⟩⟩))∨
 (q.2.2≠0∧fr= .inr (.iface tGo (.int .i64 q.2.2))∧∃ n':Now,n'.S=q.1∧St h0 F0 J0 h' (put c L i n'))
theorem nT.no (a:At c L i n) {q:u5} {k:Int} (hk:k≠0) (s:St h0 F0 J0 h' L):nT h0 F0 J0 c L i n (n.S,q,k) (.inr (.iface tGo (.int .i64 k))) h':= .inr ⟨hk,rfl,n,rfl,by rw[a.same];exact s⟩
set_option maxRecDepth 100000 in
set_option maxHeartbeats 2000000 in
theorem TD (s:St h0 F0 J0 h L) (a:At c L i n) (o:OkR c n) {v x:VD} {r t:List AV} (hv:VaA v r) (hx:VaA x t):∃ fr h',aj Tryz.prog po 134 [.ptr c.mb 0 0,.agg r,.agg t] h=some (fr,h')∧nT h0 F0 J0 c L i n (eC c.ms v x (n.below.length+1) n.S) fr h':=by
 unfold eC
 simp only
 have s1:=(s.push [r]).push [t]
 have a1:=(a.cons (ah h.n [r])).cons (ah (h.push [r]).n [t])
 obtain⟨o1,o2⟩:=hv.len3
 obtain⟨o3,o4⟩:=hx.len3
 have c1:((h.push [r]).push [t]).cell h.n=some [r]:=(s1.cell 1 rfl).1
 have c2:((h.push [r]).push [t]).cell (h.n+1)=some [t]:=(s1.cell 0 rfl).1
 by_cases hk:v.kind=4
 case neg=>
  rw[if_pos hk]
  have ek:=gN (h:=(h.push [r]).push [t]) hv hk
  refine⟨_,_,?_,nT.no a (by decide) s1.drop.drop⟩
  refine ag kW rfl ?_;unfold ka
  simp only[sim,af,θ,ξ,η,reduceCtorEq,ψ,ω,aa,au,o1,o2,o3,o4,c1,c2,ek]
 rw[if_neg (by simpa using hk)]
 obtain⟨r',ek,hv'⟩:=fA (h:=(h.push [r]).push [t]) hv hk
 have ec:=xp s1 a1.m a1.b a1.g o.len o.S.wf hv' (k:=3) (q:=8) (by decide) (by decide)
 by_cases hb:cP (n.S.G.rights v.n) 3=true
 case neg=>
  rw[if_neg hb]at ec
  rw[if_pos (by simpa using hb)]
  refine⟨_,_,?_,nT.no a (by decide) s1.drop.drop⟩
  refine ag kW rfl ?_;unfold ka
  simp only[sim,af,θ,ξ,η,reduceCtorEq,ψ,ω,aa,au,o1,o2,o3,o4,c1,c2,ek,ec]
 rw[if_pos hb]at ec
 rw[if_neg (by simp[hb])]
 obtain⟨_,_,ht⟩:=ae.target_ok o.S.wf (EO hb)
 generalize (n.S.G.target v.n).1=T at*
 obtain⟨t1,t2,t3,t4,t5,t6⟩:=T
 simp only[aH]at ht ec ⊢
 generalize hN:([.int .i64 t1,.int .i64 t2,.int .i64 t3,.int .i64 t4,.int .i64 t5,.int .i64 t6]:List AV)=N at*
 have n4:N[4]? =some (.int .i64 t5):=by rw[←hN];rfl
 have n5:N[5]? =some (.int .i64 t6):=by rw[←hN];rfl
 have nl:N.length=6:=by rw[←hN];rfl
 have no:N.all AV.one=true:=by rw[←hN];rfl
 have s2:=s1.push [N]
 have a2:=a1.cons (ah ((h.push [r]).push [t]).n [N])
 have c3:=(s2.cell 0 rfl).1
 simp only[bd]at c3
 by_cases hp:t5<0
 ·rw[if_pos hp]
  have d:decide (t5<0)=true:=decide_eq_true hp
  refine⟨_,_,?_,nT.no a (by decide) s2.drop.drop.drop⟩
  refine ag kW rfl ?_;unfold ka
  simp only[sim,af,θ,ξ,η,reduceCtorEq,ψ,ω,aa,au,o1,o2,o3,o4,c1,c2,ek,ec,nl,no,n4,d,cK]
 rw[if_neg hp]
 obtain⟨P,rfl⟩:=Int.eq_ofNat_of_zero_le (show 0≤t5 by omega)
 have d:decide ((P:Int)<0)=false:=decide_eq_false (by omega)
 have hP4:P<4:=by omega
 rw[Int.toNat_natCast]
 -- the plugin is looked at
 have s3':=s2.push [zR5]
 have a3':=a2.cons (ah (((h.push [r]).push [t]).push [N]).n [zR5])
 obtain⟨l0,_,_⟩:=dU s2 a2 o.len
 obtain⟨l0',_,_⟩:=dU s3' a3' o.len
 obtain⟨ix,_,kr,_,hkr,l5,bn⟩:=so s2 a2 o hP4
 have l5':aR true 5 ((((h.push [r]).push [t]).push [N]).push [zR5]) (.ptr c.bb 0 (2+P*5))=_:=(zK bn).trans l5
 have fa0:aP 0 (.ptr c.mb 0 0)=some (.ptr c.mb 0 0):=rfl
 have fa1:aP 2 (.ptr c.bb 0 0)=some (.ptr c.bb 0 2):=rfl
 have fa2:aP 1 (.ptr c.mb 0 0)=some (.ptr c.mb 0 1):=rfl
 have fa3:aP 0 (.ptr c.bb 0 0)=some (.ptr c.bb 0 0):=rfl
 have c3':=(s3'.cell 1 rfl).1
 have c7:=(s3'.cell 0 rfl).1
 have m4:∀ x,((((h.push [r]).push [t]).push [N]).push [zR5]).set (h.n+1+1+1) (some x)=(((h.push [r]).push [t]).push [N]).push x:=fun x=>aA (h:=((h.push [r]).push [t]).push [N])
 simp only[bd]at c3' c7
 generalize hM:c.ms.getD P none=M at*
 have oc:(kV M).one=true:=by cases M<;>first | rfl | exact(fj _).2.2
 obtain⟨k1,k2⟩:=hkr.len3
 generalize hq:AV.bool M.isSome::kV M::kr=pl at*
 have p0:pl[0]? =some (.bool M.isSome):=by rw[←hq];rfl
 have p1:pl[1]? =some (kV M):=by rw[←hq];rfl
 have pl5:pl.length=5:=by rw[←hq];simp[k1]
 have po':pl.all AV.one=true:=by rw[←hq];simp only[List.all_cons,oc,k2,Bool.and_true];rfl
 have s3:St h0 F0 J0 _ (ah (h.n+1+1+1) [pl]::ah (h.n+1+1) [N]::ah (h.n+1) [t]::ah h.n [r]::L):=s2.push [pl]
 have a3:=a2.cons (ah (h.n+1+1+1) [pl])
 have c4:=(s3.cell 0 rfl).1
 have c5:=(s3.cell 1 rfl).1
 have c6:=(s3.cell 2 rfl).1
 have hfM:bQ c.ms (P:Int)=M.getD []:=by unfold bQ;rw[Int.toNat_natCast,hM]
 by_cases hcode:M.isNone∨((bQ c.ms (P:Int)).length:Int)≤t6∨t6<0
 ·rw[if_pos hcode]
  refine⟨_,_,?_,nT.no a (by decide) s3.drop.drop.drop.drop⟩
  cases M with
  | none=>
    simp only[Option.isSome_none]at p0
    refine ag kW rfl ?_;unfold ka
    simp only[sim,af,θ,ξ,η,reduceCtorEq,ψ,ω,aa,au,o1,o2,o3,o4,c1,c2,ek,ec,nl,no,n4,n5,d,cU,cK,fa0,fa1,l0,l0',ix,l5,l5',c3,c3',pl5,po',c7,m4,c4,c5,p0]
  | some M=>
    simp only[Option.isSome_some]at p0
    have d2:decide ((M.length:Int)≤t6)=true:=by
     refine decide_eq_true ?_
     rw[hfM]at hcode
     simp only[Option.getD_some]at hcode
     rcases hcode with h | h | h
     ·cases h
     ·exact h
     ·omega
    obtain⟨m1,m2,_⟩:=fj M
    simp only[kV]at p1
    refine ag kW rfl ?_;unfold ka
    simp only[sim,af,θ,ξ,η,reduceCtorEq,ψ,ω,aa,au,o1,o2,o3,o4,c1,c2,ek,ec,nl,no,n4,n5,d,cU,cK,fa0,fa1,l0,l0',ix,l5,l5',c3,c3',pl5,po',c7,m4,c4,c5,p0,p1,m1,m2,d2]
 rw[if_neg hcode]
 obtain⟨M,rfl⟩:∃ M',M=some M':=by
  cases M with
  | none=>exact absurd (.inl rfl) hcode
  | some M=>exact⟨M,rfl⟩
 simp only[Option.isSome_some]at p0
 have d2:decide ((M.length:Int)≤t6)=false:=by
  refine decide_eq_false fun h=>hcode (.inr (.inl ?_))
  rw[hfM]
  exact h
 obtain⟨m1,m2,_⟩:=fj M
 simp only[kV]at p1
 obtain⟨l0'',l1'',_⟩:=dU s3 a3 o.len
 obtain⟨_,_,_,_,mv⟩:=eh s3 (i+4) a3.m
 have lm:∀ k:Nat,aR false k ((((h.push [r]).push [t]).push [N]).push [pl]) (.ptr c.mb 0 1)=some (.msl n.fb 0 (n.below.length+1) tFr):=fun k=>by
  rw[bP,mv.m];rfl
 by_cases h20:n.below.length+1=20
 ·rw[if_pos h20]
  have d3:decide (((n.below.length+1:Nat):Int)=20)=true:=decide_eq_true (by omega)
  refine⟨_,_,?_,nT.no a (by decide) s3.drop.drop.drop.drop⟩
  refine ag kW rfl ?_;unfold ka
  simp only[sim,af,θ,ξ,η,reduceCtorEq,ψ,ω,aa,au,o1,o2,o3,o4,c1,c2,ek,ec,nl,no,n4,n5,d,cU,cK,fa0,fa1,fa2,l0,l0',l0'',ix,l5,l5',c3,c3',pl5,po',c7,m4,c4,c5,p0,p1,m1,m2,d2,lm,d3]
 rw[if_neg h20]
 have d3:decide (((n.below.length+1:Nat):Int)=20)=false:=decide_eq_false (by omega)
 -- the argument goes across
 obtain⟨F1,J1,gx⟩:=s3.get (i+1+1+1+1+2) a3.g
 have gg:=Ul (gx:IsG _ F1 J1 c.gb n.S.G) o.S.wf v.n
 have gs:SlA 3 (ge 3 ((n.S.G.gatesC v.n).map fun x=>[.int .i64 x])) (bH (n.S.G.gatesC v.n)):=Ur _ _
 have gfew:=sP (i:=v.n) o.S.wf
 generalize ge 3 ((n.S.G.gatesC v.n).map fun x=>[.int .i64 x])=gv at*
 generalize n.S.G.gatesC v.n=ks at*
 obtain⟨h4,⟨y,e4,hy⟩,s4⟩:=pt s3 a3 (R:=fun h'=>∃ r',aj Tryz.prog po 113 [.ptr c.gb 0 0,.agg t,gv] ((((h.push [r]).push [t]).push [N]).push [pl])=some (.inl (.tup [.agg r',.int .i64 (aN ks n.S.G x).2.2]),h')∧VaA (aN ks n.S.G x).2.1 r') fun F J gx=>vL gx o.S.wf hx gs (by omega)
 generalize aN ks n.S.G x=q at*
 obtain⟨G',y',cc⟩:=q
 simp only at e4 hy s4 ⊢
 have a4:=a3.put {n with S:={n.S with G:=G'}}
 rw[aB,aB,aB,aB]at s4 a4
 obtain⟨z1,z2⟩:=hy.len3
 have s5':=s4.push [zR3]
 have a5':=a4.cons (ah h4.n [zR3])
 obtain⟨n0,n1,_⟩:=dU s5' a5' o.len
 have d0:=(s5'.cell 3 rfl).1
 have s5:=s4.push [y]
 have a5:=a4.cons (ah h4.n [y])
 have d1:=(s5.cell 0 rfl).1
 have d2':=(s5.cell 2 rfl).1
 have hfo:(gv).one=true:=by rcases gs with⟨_,rfl⟩ | ⟨id,rfl⟩<;>rfl
 have hgc:gv.cells=[gv]:=by rcases gs with⟨_,rfl⟩ | ⟨id,rfl⟩<;>rfl
 by_cases hcc:cc=0
 ·subst hcc
  have d5:decide ((0:Int)=0)=true:=rfl
  obtain⟨_,ec6⟩:=EJ s5 a5 o.below (f:=⟨P,t6,0,y',[],[],true,ks⟩) (ar:=y) (g:=gv) hy gs rfl rfl
  obtain⟨h6,fb',e6,s6⟩:=ec6 h20
  rw[aB,aB,aB,aB,aB,bo]at s6
  refine⟨_,h6,?_,.inl ⟨rfl,rfl,fb',s6.drop.drop.drop.drop.drop⟩⟩
  obtain⟨y0,y1,y2,rfl⟩:∃ a b c,y=[a,b,c]:=by match y,z1 with | [a,b,c],_=>exact⟨a,b,c,rfl⟩
  simp only[List.all_cons,List.all_nil,Bool.and_true,Bool.and_eq_true]at z2
  obtain⟨z3,z4,z5⟩:=z2
  simp only[dL,Int.natCast_zero,List.cons_append,List.nil_append]at e6
  refine ag kW rfl ?_;unfold ka
  simp only[sim,af,θ,ξ,η,reduceCtorEq,ψ,ω,aa,au,o1,o2,o3,o4,c1,c2,ek,ec,nl,no,n4,n5,d,cU,cK,fa0,fa1,fa2,fa3,l0,l0',l0'',l1'',ix,l5,l5',c3,c3',pl5,po',c7,m4,c4,c5,c6,p0,p1,m1,m2,d2,lm,d3,gg,e4,n0,n1,d0,d1,d2',d5,z3,z4,z5,hfo,hgc,e6]
 ·have d5:decide (cc=0)=false:=decide_eq_false hcc
  refine⟨_,_,?_,.inr ⟨hcc,rfl,{n with S:={n.S with G:=G'}},rfl,s5.drop.drop.drop.drop.drop⟩⟩
  refine ag kW rfl ?_;unfold ka
  simp only[sim,af,θ,ξ,η,reduceCtorEq,ψ,ω,aa,au,o1,o2,o3,o4,c1,c2,ek,ec,nl,no,n4,n5,d,cU,cK,fa0,fa1,fa2,fa3,l0,l0',l0'',l1'',ix,l5,l5',c3,c3',pl5,po',c7,m4,c4,c5,c6,p0,p1,m1,m2,d2,lm,d3,gg,e4,n0,n1,d0,d1,d2',d5,z1,z2]
end
abbrev aax:FuncId:=118
section
variable {h h' h0:AH} {F J F0 J0:Nat→Prop} {L:List Asn} {c:Cfg} {i:Nat} {n:Now}
theorem dS (s:St h0 F0 J0 h L) (a:At c L i n) (o:OkR c n) {op k m:Int} (hop:13≤op) {fr:AV ⊕ AV} (e:aj Tryz.prog po aax [.ptr c.mb 0 0,.agg (iR op k m)] (h.push [iR op k m])=some (fr,h')) (hfr:fr= .inl (.tup [])∨∃ v,fr= .inr v):
  aj Tryz.prog po lY [.ptr c.mb 0 0,.agg (iR op k m)] h=some (fr,h'):=by
 have s1:=s.push [iR op k m]
 have a1:=a.cons (ah h.n [iR op k m])
 obtain⟨tp,_⟩:=dq s1 a1 o.below
 have c1:=(s1.cell 0 rfl).1
 have d:∀ j:Int,j<13→decide (op=j)=false:=fun j hj=>decide_eq_false (by omega)
 have e1:=d 1 (by decide);have e2:=d 2 (by decide);have e3:=d 3 (by decide);have e4:=d 4 (by decide);have e6:=d 6 (by decide);have e8:=d 8 (by decide);have e9:=d 9 (by decide);have e10:=d 10 (by decide);have e11:=d 11 (by decide);have e12:=d 12 (by decide)
 rcases hfr with rfl | ⟨v,rfl⟩
 ·refine ag dx rfl ?_;unfold dj
  simp only[sim,af,θ,ξ,η,reduceCtorEq,ψ,ω,aa,au,tp,c1,e1,e2,e3,e4,e6,e8,e9,e10,e11,e12,e]
 ·refine ag dx rfl ?_;unfold dj
  simp only[sim,af,θ,ξ,η,reduceCtorEq,ψ,ω,aa,au,tp,c1,e1,e2,e3,e4,e6,e8,e9,e10,e11,e12,e]
theorem bW.fr {q:StD×VD×Int} {fr:AV ⊕ AV} (r:bW h0 F0 J0 c L i n q fr h'):fr= .inl (.tup [])∨∃ v,fr= .inr v:=by
 rcases r with⟨_,b,_⟩ | ⟨_,b,_⟩
 ·exact .inl b
 ·exact .inr ⟨_,b⟩
theorem bW.put {q:StD×VD×Int} {n1:Now} {fr:AV ⊕ AV} (r:bW h0 F0 J0 c (put c L i n1) i n q fr h'):bW h0 F0 J0 c L i n q fr h':=by
 rcases r with⟨x,y,z⟩ | ⟨x,y,n',z,w⟩
 ·exact .inl ⟨x,y,by rw[bo]at z;exact z⟩
 ·exact .inr ⟨x,y,n',z,by rw[bo]at w;exact w⟩
theorem nT.put {q:StD×u5×Int} {n1:Now} {fr:AV ⊕ AV} (r:nT h0 F0 J0 c (put c L i n1) i n q fr h'):nT h0 F0 J0 c L i n q fr h':=by
 rcases r with⟨x,y,fb,z⟩ | ⟨x,y,n',z,w⟩
 ·exact .inl ⟨x,y,fb,by rw[bo]at z;exact z⟩
 ·exact .inr ⟨x,y,n',z,by rw[bo]at w;exact w⟩
theorem nT.drop {X:Asn} {q:StD×u5×Int} {fr:AV ⊕ AV} (r:nT h0 F0 J0 c (X::L) (i+1) n q fr h'):nT h0 F0 J0 c L i n q fr h':=by
 rcases r with⟨x,y,fb,z⟩ | ⟨x,y,n',z,w⟩
 ·exact .inl ⟨x,y,fb,z.drop⟩
 ·exact .inr ⟨x,y,n',z,w.drop⟩
theorem j6 (s:St h0 F0 J0 h L) (a:At c L i n) (o:OkR c n) (op k m:Int):St h0 F0 J0 ((h.push [iR op k m]).push [iR op k m]) (ah (h.n+1) [iR op k m]::ah h.n [iR op k m]::L)∧At c (ah (h.n+1) [iR op k m]::ah h.n [iR op k m]::L) (i+1+1) n∧
  aj Tryz.prog po Tf [.ptr c.mb 0 0] ((h.push [iR op k m]).push [iR op k m])=some (.inl (.ptr n.fb n.below.length 0),(h.push [iR op k m]).push [iR op k m])∧(∀ k':Nat,aR false k' ((h.push [iR op k m]).push [iR op k m]) (.ptr n.fb n.below.length 0)=some (.int .i64 n.top.plugin))∧((h.push [iR op k m]).push [iR op k m]).cell (h.n+1)=some [iR op k m]:=by
 have s1:=(s.push [iR op k m]).push [iR op k m]
 have a1:=(a.cons (ah h.n [iR op k m])).cons (ah (h.n+1) [iR op k m])
 obtain⟨tp,tl⟩:=dq s1 a1 o.below
 exact⟨s1,a1,tp,tl,(s1.cell 0 rfl).1⟩
theorem Sq (s:St h0 F0 J0 h L) (a:At c L i n) (o:OkR c n) {st:List VD} {v:VD} (hst:n.top.stack=st++[v]) (k m:Int):∃ fr h',aj Tryz.prog po lY [.ptr c.mb 0 0,.agg (iR 13 k m)] h=some (fr,h')∧bW h0 F0 J0 c L i (n.stk st) (bS n.top.plugin 13 k m [v] n.S) fr h':=by
 obtain⟨s1,a1,tp,_,c1⟩:=j6 s a o 13 k m
 obtain⟨h2,r,e2,hv,s2,a2⟩:=gQ s1 a1 o hst
 obtain⟨fr,h3,e3,r3⟩:=Sm s2 a2 (o.stk' hst) hv k m
 have r4:=r3.put.drop.drop
 refine⟨fr,h3,dS s a o (by decide) ?_ r4.fr,r4⟩
 rcases r4.fr with rfl | ⟨u,rfl⟩
 ·refine ag cJ rfl ?_;unfold cj
  simp only[sim,af,θ,ξ,η,reduceCtorEq,ψ,ω,aa,au,tp,c1,Int.reduceEq,decide_false,decide_true,e2,e3]
 ·refine ag cJ rfl ?_;unfold cj
  simp only[sim,af,θ,ξ,η,reduceCtorEq,ψ,ω,aa,au,tp,c1,Int.reduceEq,decide_false,decide_true,e2,e3]
theorem R2 (s:St h0 F0 J0 h L) (a:At c L i n) (o:OkR c n) {st:List VD} {v:VD} (hst:n.top.stack=st++[v]) (k m:Int):∃ fr h',aj Tryz.prog po lY [.ptr c.mb 0 0,.agg (iR 16 k m)] h=some (fr,h')∧bW h0 F0 J0 c L i (n.stk st) (bS n.top.plugin 16 k m [v] n.S) fr h':=by
 obtain⟨s1,a1,tp,_,c1⟩:=j6 s a o 16 k m
 obtain⟨h2,r,e2,hv,s2,a2⟩:=gQ s1 a1 o hst
 obtain⟨fr,h3,e3,r3⟩:=So s2 a2 (o.stk' hst) hv k m
 have r4:=r3.put.drop.drop
 refine⟨fr,h3,dS s a o (by decide) ?_ r4.fr,r4⟩
 rcases r4.fr with rfl | ⟨u,rfl⟩
 ·refine ag cJ rfl ?_;unfold cj
  simp only[sim,af,θ,ξ,η,reduceCtorEq,ψ,ω,aa,au,tp,c1,Int.reduceEq,decide_false,decide_true,e2,e3]
 ·refine ag cJ rfl ?_;unfold cj
  simp only[sim,af,θ,ξ,η,reduceCtorEq,ψ,ω,aa,au,tp,c1,Int.reduceEq,decide_false,decide_true,e2,e3]
theorem Ea {h3:AH} {L3:List Asn} (s3:St h0 F0 J0 h3 L3) (x y:List AV):St h0 F0 J0 ((((h3.push [zR3]).push [zR3]).set h3.n (some [x])).set (h3.n+1) (some [y])) (ah (h3.n+1) [y]::ah h3.n [x]::L3)∧(((h3.push [zR3]).push [zR3]).set h3.n (some [x])).cell (h3.n+1)=some [zR3]:=by
 have s4:=(s3.push [zR3]).push [zR3]
 have s5:St h0 F0 J0 _ (ah (h3.n+1) [zR3]::ah h3.n [x]::L3):=s4.set 1 rfl [x]
 exact⟨s5.set 0 rfl [y],(s5.cell 0 rfl).1⟩
set_option maxHeartbeats 1000000 in
theorem Pr (s:St h0 F0 J0 h L) (a:At c L i n) (o:OkR c n) {st:List VD} {v w:VD} (hst:n.top.stack=st++[v]++[w]) (k m:Int):∃ fr h',aj Tryz.prog po lY [.ptr c.mb 0 0,.agg (iR 14 k m)] h=some (fr,h')∧bW h0 F0 J0 c L i (n.stk st) (bS n.top.plugin 14 k m [v,w] n.S) fr h':=by
 obtain⟨s1,a1,tp,_,c1⟩:=j6 s a o 14 k m
 obtain⟨h2,h3,rw_,rv,e2,e3,hw,hv,s3,a3⟩:=vE s1 a1 o hst
 have o3:=(o.stk' (st:=st) (l:=[v]++[w]) (by rw[hst,List.append_assoc]))
 obtain⟨o1,o2⟩:=hw.len3
 obtain⟨o5,o4⟩:=hv.len3
 obtain⟨s6,q0⟩:=Ea s3 rw_ rv
 have a6:=(a3.cons (ah h3.n [rw_])).cons (ah (h3.n+1) [rv])
 have q1:=(s6.cell 0 rfl).1
 have q2:=(s6.cell 1 rfl).1
 generalize hh6:(((h3.push [zR3]).push [zR3]).set h3.n (some [rw_])).set (h3.n+1) (some [rv])=h6 at*
 obtain⟨fr,h7,e7,r7⟩:=LX s6 a6 o3 hv hw k m
 have r8:=r7.drop.drop.put.drop.drop
 refine⟨fr,h7,dS s a o (by decide) ?_ r8.fr,r8⟩
 rcases r8.fr with rfl | ⟨u,rfl⟩
 ·refine ag cJ rfl ?_;unfold cj
  simp only[sim,af,θ,ξ,η,reduceCtorEq,ψ,ω,aa,au,tp,c1,Int.reduceEq,decide_false,decide_true,e2,e3,o1,o2,o4,o5,q0,hh6,q1,q2,e7]
 ·refine ag cJ rfl ?_;unfold cj
  simp only[sim,af,θ,ξ,η,reduceCtorEq,ψ,ω,aa,au,tp,c1,Int.reduceEq,decide_false,decide_true,e2,e3,o1,o2,o4,o5,q0,hh6,q1,q2,e7]
set_option maxHeartbeats 1000000 in
theorem Pd (s:St h0 F0 J0 h L) (a:At c L i n) (o:OkR c n) {st:List VD} {v w:VD} (hst:n.top.stack=st++[v]++[w]) (k m:Int):∃ fr h',aj Tryz.prog po lY [.ptr c.mb 0 0,.agg (iR 19 k m)] h=some (fr,h')∧nT h0 F0 J0 c L i (n.stk st) (eC c.ms v w (n.below.length+1) n.S) fr h':=by
 obtain⟨s1,a1,tp,_,c1⟩:=j6 s a o 19 k m
 obtain⟨h2,h3,rw_,rv,e2,e3,hw,hv,s3,a3⟩:=vE s1 a1 o hst
 have o3:=(o.stk' (st:=st) (l:=[v]++[w]) (by rw[hst,List.append_assoc]))
 obtain⟨o1,o2⟩:=hw.len3
 obtain⟨o5,o4⟩:=hv.len3
 obtain⟨s6,q0⟩:=Ea s3 rw_ rv
 have a6:=(a3.cons (ah h3.n [rw_])).cons (ah (h3.n+1) [rv])
 have q1:=(s6.cell 0 rfl).1
 have q2:=(s6.cell 1 rfl).1
 generalize hh6:(((h3.push [zR3]).push [zR3]).set h3.n (some [rw_])).set (h3.n+1) (some [rv])=h6 at*
 obtain⟨fr,h7,e7,r7⟩:=TD s6 a6 o3 hv hw
 have r8:=r7.drop.drop.put.drop.drop
 have hfr:fr= .inl (.tup [])∨∃ v,fr= .inr v:=by
  rcases r8 with⟨_,b,_⟩ | ⟨_,b,_⟩
  ·exact .inl b
  ·exact .inr ⟨_,b⟩
 refine⟨fr,h7,dS s a o (by decide) ?_ hfr,r8⟩
 rcases hfr with rfl | ⟨u,rfl⟩
 ·refine ag cJ rfl ?_;unfold cj
  simp only[sim,af,θ,ξ,η,reduceCtorEq,ψ,ω,aa,au,tp,c1,Int.reduceEq,decide_false,decide_true,e2,e3,o1,o2,o4,o5,q0,hh6,q1,q2,e7]
 ·refine ag cJ rfl ?_;unfold cj
  simp only[sim,af,θ,ξ,η,reduceCtorEq,ψ,ω,aa,au,tp,c1,Int.reduceEq,decide_false,decide_true,e2,e3,o1,o2,o4,o5,q0,hh6,q1,q2,e7]
theorem OH {p k n:Int} {v:VD} {S:StD}:bS p 15 k n [v] S=if v.kind≠4 then S.no 2 else Jf S (S.G.derive v.n k (-1)):=rfl
theorem Pf {p k n:Int} {v:VD} {S:StD}:bS p 17 k n [v] S=if v.kind≠5 then S.no 2 else({S with G:=(S.G.cut v.n).1}:StD).ok aK:=rfl
theorem Rh {p k n:Int} {v:VD} {S:StD}:bS p 20 k n [v] S=({S with kept:=S.kept.set p.toNat v}:StD).ok (S.kept.getD p.toNat aK):=rfl
set_option maxHeartbeats 1000000 in
theorem RB (s:St h0 F0 J0 h L) (a:At c L i n) (o:OkR c n) {st:List VD} {v:VD} (hst:n.top.stack=st++[v]) (k m:Int):∃ fr h',aj Tryz.prog po lY [.ptr c.mb 0 0,.agg (iR 15 k m)] h=some (fr,h')∧bW h0 F0 J0 c L i (n.stk st) (bS n.top.plugin 15 k m [v] n.S) fr h':=by
 rw[OH]
 obtain⟨s1,a1,tp,_,c1⟩:=j6 s a o 15 k m
 obtain⟨h2,r,e2,hv,s2,a2⟩:=gQ s1 a1 o hst
 have o3:=o.stk' hst
 rw[aB,aB]at s2 a2
 have c2:=(s2.cell 0 rfl).1
 by_cases hk:v.kind=4
 ·rw[if_neg (by simpa using hk)]
  obtain⟨r',ek,hv'⟩:=fA (h:=h2) hv hk
  obtain⟨h3,e3,s3⟩:=uV s2 a2 o.len o.S.wf hv' k (-1)
  have a3:=a2.put {(n.stk st)with S:={n.S with G:=(n.S.G.derive v.n k (-1)).1}}
  unfold Jf
  by_cases hc:(n.S.G.derive v.n k (-1)).2.2=0
  ·rw[if_pos hc]at e3
   rw[if_neg (by simpa using hc)]
   obtain⟨h4,e4,s4⟩:=ej s3 a3 o.below o3.stk (C2 (n.S.G.derive v.n k (-1)).2.1)
   rw[bo,aB,aB,bo]at s4
   have r8:bW h0 F0 J0 c L i (n.stk st) _ _ h4:=bW.ok s4.drop.drop
   refine⟨_,h4,dS s a o (by decide) ?_ r8.fr,r8⟩
   refine ag cJ rfl ?_;unfold cj
   simp only[sim,af,θ,ξ,η,reduceCtorEq,ψ,ω,aa,au,tp,c1,Int.reduceEq,decide_false,decide_true,e2,c2,ek,e3,e4]
  ·rw[if_neg hc]at e3
   rw[if_pos hc]
   rw[aB,aB,bo]at s3
   have r8:bW h0 F0 J0 c L i (n.stk st) _ _ h3:=bW.no (S:={n.S with G:=(n.S.G.derive v.n k (-1)).1}) hc {(n.stk st)with S:={n.S with G:=(n.S.G.derive v.n k (-1)).1}} rfl s3.drop.drop
   refine⟨_,h3,dS s a o (by decide) ?_ r8.fr,r8⟩
   refine ag cJ rfl ?_;unfold cj
   simp only[sim,af,θ,ξ,η,reduceCtorEq,ψ,ω,aa,au,tp,c1,Int.reduceEq,decide_false,decide_true,e2,c2,ek,e3]
 ·rw[if_pos hk]
  have ek:=gN (h:=h2) hv hk
  have r8:bW h0 F0 J0 c L i (n.stk st) _ _ h2:=bW.no (S:=n.S) (k:=2) (by decide) (n.stk st) rfl s2.drop.drop
  refine⟨_,h2,dS s a o (by decide) ?_ r8.fr,r8⟩
  refine ag cJ rfl ?_;unfold cj
  simp only[sim,af,θ,ξ,η,reduceCtorEq,ψ,ω,aa,au,tp,c1,Int.reduceEq,decide_false,decide_true,e2,c2,ek]
set_option maxHeartbeats 1000000 in
theorem QK (s:St h0 F0 J0 h L) (a:At c L i n) (o:OkR c n) {st:List VD} {v:VD} (hst:n.top.stack=st++[v]) (k m:Int):∃ fr h',aj Tryz.prog po lY [.ptr c.mb 0 0,.agg (iR 17 k m)] h=some (fr,h')∧bW h0 F0 J0 c L i (n.stk st) (bS n.top.plugin 17 k m [v] n.S) fr h':=by
 rw[Pf]
 obtain⟨s1,a1,tp,_,c1⟩:=j6 s a o 17 k m
 obtain⟨l0,l1,_⟩:=dU s1 a1 o.len
 obtain⟨h2,r,e2,hv,s2,a2⟩:=gQ s1 a1 o hst
 have o3:=o.stk' hst
 obtain⟨l2,l3,_⟩:=dU s2 a2 o.len
 rw[aB,aB]at s2 a2
 have f0:aP 0 (.ptr c.mb 0 0)=some (.ptr c.mb 0 0):=rfl
 have f1:aP 0 (.ptr c.bb 0 0)=some (.ptr c.bb 0 0):=rfl
 by_cases hk:v.kind=5
 ·rw[if_neg (by simpa using hk)]
  obtain⟨r',ek,hv'⟩:=fA (h:=h2) hv hk
  obtain⟨w,hw,_⟩:=hv'.cells3
  have fl:UG false 1 1 (.agg r')=some (.int .i64 v.n):=by rw[hw];rfl
  obtain⟨h3,e3,s3⟩:=pt s2 a2 (R:=fun h'=>aj Tryz.prog po 62 [.ptr c.gb 0 0,.int .i64 v.n] h2=some (.inl (.int .i64 (n.S.G.cut v.n).2),h')) fun F J x=>Wo x v.n
  have a3:=a2.put {(n.stk st)with S:={n.S with G:=(n.S.G.cut v.n).1}}
  obtain⟨h4,e4,s4⟩:=ej s3 a3 o.below o3.stk aL
  rw[bo,aB,aB,bo]at s4
  have r8:bW h0 F0 J0 c L i (n.stk st) _ _ h4:=bW.ok (S:={n.S with G:=(n.S.G.cut v.n).1}) (v:=aK) s4.drop.drop
  refine⟨_,h4,dS s a o (by decide) ?_ r8.fr,r8⟩
  refine ag cJ rfl ?_;unfold cj
  simp only[sim,af,θ,ξ,η,reduceCtorEq,ψ,ω,aa,au,tp,c1,Int.reduceEq,decide_false,decide_true,f0,f1,l0,l1,l2,l3,e2,ek,fl,e3,e4]
 ·rw[if_pos hk]
  have ek:=gN (h:=h2) hv hk
  have r8:bW h0 F0 J0 c L i (n.stk st) _ _ h2:=bW.no (S:=n.S) (k:=2) (by decide) (n.stk st) rfl s2.drop.drop
  refine⟨_,h2,dS s a o (by decide) ?_ r8.fr,r8⟩
  refine ag cJ rfl ?_;unfold cj
  simp only[sim,af,θ,ξ,η,reduceCtorEq,ψ,ω,aa,au,tp,c1,Int.reduceEq,decide_false,decide_true,f0,f1,l0,l1,l2,l3,e2,ek]
def XI (h0:AH) (F0 J0:Nat→Prop) (c:Cfg) (L:List Asn) (i:Nat) (n:Now) (k:Int) (v:VD) (fr:AV ⊕ AV) (h':AH):Prop:=
 (n.below.length+1≠20∧fr= .inl (.tup [])∧∃ fb',St h0 F0 J0 h' (put c L i ⟨fb',n.S,n.below++[n.top],⟨n.top.plugin,k,0,v,[],[],false,[]⟩⟩))∨
 (n.below.length+1=20∧fr= .inr (.iface tGo (.int .i64 4))∧St h0 F0 J0 h' (put c L i n))
set_option maxRecDepth 100000 in
set_option maxHeartbeats 1000000 in
theorem PE (s:St h0 F0 J0 h L) (a:At c L i n) (o:OkR c n) {st:List VD} {v:VD} (hst:n.top.stack=st++[v]) (k m:Int):∃ fr h',aj Tryz.prog po lY [.ptr c.mb 0 0,.agg (iR 18 k m)] h=some (fr,h')∧XI h0 F0 J0 c L i (n.stk st) k v fr h':=by
 obtain⟨s1,a1,tp,_,c1⟩:=j6 s a o 18 k m
 obtain⟨h2,r,e2,hv,s2,a2⟩:=gQ s1 a1 o hst
 have o3:=o.stk' hst
 rw[aB,aB]at s2 a2
 obtain⟨o1,o2⟩:=hv.len3
 have s3:=s2.push [r]
 have a3:=a2.cons (ah h2.n [r])
 have c3:=(s3.cell 0 rfl).1
 have c4:=(s3.cell 1 rfl).1
 obtain⟨_,tl⟩:=dq s3 a3 o.below
 have f0:aP 0 (.ptr n.fb n.below.length 0)=some (.ptr n.fb n.below.length 0):=rfl
 obtain⟨e20,e21⟩:=EJ s3 a3 o.below (f:=⟨n.top.plugin,k,0,v,[],[],false,[]⟩) (ar:=r) (g:= .nils) hv (.inl ⟨rfl,rfl⟩) rfl rfl
 obtain⟨y0,y1,y2,rfl⟩:∃ a b c,r=[a,b,c]:=by match r,o1 with | [a,b,c],_=>exact⟨a,b,c,rfl⟩
 simp only[List.all_cons,List.all_nil,Bool.and_true,Bool.and_eq_true]at o2
 obtain⟨z3,z4,z5⟩:=o2
 by_cases h20:n.below.length+1=20
 ·obtain⟨h4,e4,s4⟩:=e20 h20
  simp only[dL,Int.natCast_zero,List.cons_append,List.nil_append]at e4
  refine⟨_,h4,dS s a o (by decide) ?_ (.inr ⟨_,rfl⟩),.inr ⟨h20,rfl,s4.drop.drop.drop⟩⟩
  refine ag cJ rfl ?_;unfold cj
  simp only[sim,af,θ,ξ,η,reduceCtorEq,ψ,ω,aa,au,tp,c1,Int.reduceEq,decide_false,decide_true,e2,f0,tl,c3,c4,z3,z4,z5,e4]
 ·obtain⟨h4,fb',e4,s4⟩:=e21 h20
  simp only[dL,Int.natCast_zero,List.cons_append,List.nil_append]at e4
  rw[aB,aB,aB,bo]at s4
  refine⟨_,h4,dS s a o (by decide) ?_ (.inl rfl),.inl ⟨h20,rfl,fb',s4.drop.drop.drop⟩⟩
  refine ag cJ rfl ?_;unfold cj
  simp only[sim,af,θ,ξ,η,reduceCtorEq,ψ,ω,aa,au,tp,c1,Int.reduceEq,decide_false,decide_true,e2,f0,tl,c3,c4,z3,z4,z5,e4]
set_option maxHeartbeats 1000000 in
theorem Sn (s:St h0 F0 J0 h L) (a:At c L i n) (o:OkR c n) {st:List VD} {v:VD} (hst:n.top.stack=st++[v]) {P:Nat} (hP:n.top.plugin=(P:Int)) (hP4:P<4) (k m:Int):∃ fr h',aj Tryz.prog po lY [.ptr c.mb 0 0,.agg (iR 20 k m)] h=some (fr,h')∧bW h0 F0 J0 c L i (n.stk st) (bS n.top.plugin 20 k m [v] n.S) fr h':=by
 rw[Rh]
 obtain⟨s1,a1,tp,tl,c1⟩:=j6 s a o 20 k m
 obtain⟨l0,l1,_⟩:=dU s1 a1 o.len
 obtain⟨ix,_,kr,lk,hkr,_,bn⟩:=so s1 a1 o hP4
 rw[hP]at tl ⊢
 rw[Int.toNat_natCast]
 obtain⟨k1,k2⟩:=hkr.len3
 have f0:aP 0 (.ptr c.mb 0 0)=some (.ptr c.mb 0 0):=rfl
 have f1:aP 2 (.ptr c.bb 0 0)=some (.ptr c.bb 0 2):=rfl
 have f2:aP 0 (.ptr n.fb n.below.length 0)=some (.ptr n.fb n.below.length 0):=rfl
 have f3:aP 2 (.ptr c.bb 0 (2+P*5))=some (.ptr c.bb 0 (2+P*5+2)):=rfl
 have s2:St h0 F0 J0 _ (ah (h.n+1+1) [kr]::ah (h.n+1) [iR 20 k m]::ah h.n [iR 20 k m]::L):=s1.push [kr]
 have a2:=a1.cons (ah (h.n+1+1) [kr])
 obtain⟨h3,r,e3,hv,s3,a3⟩:=gQ s2 a2 o hst
 have o3:=o.stk' hst
 rw[aB,aB,aB]at s3
 have a3':At c (ah (h.n+1+1) [kr]::ah (h.n+1) [iR 20 k m]::ah h.n [iR 20 k m]::put c L i (n.stk st)) (i+1+1+1) (n.stk st):=a3
 obtain⟨h4,e4,s4⟩:=Tq s3 (i+1+1+1+1) a3'.b o.len (p:=P) (by rw[o.ms];exact hP4) hv
 have s4':St h0 F0 J0 h4 (ah (h.n+1+1) [kr]::ah (h.n+1) [iR 20 k m]::ah h.n [iR 20 k m]::put c L i {(n.stk st)with S:={n.S with kept:=n.S.kept.set P v}}):=by
  rw[a3'.setB,aB,aB,aB,bo]at s4
  exact s4
 have a4:=((((a.put {(n.stk st)with S:={n.S with kept:=n.S.kept.set P v}}).cons (ah h.n [iR 20 k m])).cons (ah (h.n+1) [iR 20 k m])).cons (ah (h.n+1+1) [kr]))
 have c4:=(s4'.cell 0 rfl).1
 obtain⟨h5,e5,s5⟩:=ej s4' a4 o.below o3.stk hkr
 rw[aB,aB,aB,bo]at s5
 have r8:bW h0 F0 J0 c L i (n.stk st) _ _ h5:=bW.ok (S:={n.S with kept:=n.S.kept.set P v}) (v:=n.S.kept.getD P aK) s5.drop.drop.drop
 refine⟨_,h5,dS s a o (by decide) ?_ r8.fr,r8⟩
 refine ag cJ rfl ?_;unfold cj
 simp only[sim,af,θ,ξ,η,reduceCtorEq,ψ,ω,aa,au,tp,c1,Int.reduceEq,decide_false,decide_true,f0,f1,f2,f3,l0,tl,ix,lk,k1,k2,e3,e4,c4,e5]
set_option maxHeartbeats 1000000 in
theorem PK (s:St h0 F0 J0 h L) (a:At c L i n) (o:OkR c n) {P:Nat} (hP:n.top.plugin=(P:Int)) (hP4:P<4) (k m:Int):∃ h',aj Tryz.prog po lY [.ptr c.mb 0 0,.agg (iR 21 k m)] h=some (.inl (.tup []),h')∧St h0 F0 J0 h' (put c L i (n.stk (n.top.stack++[n.S.kept.getD P aK]))):=by
 obtain⟨s1,a1,tp,tl,c1⟩:=j6 s a o 21 k m
 obtain⟨l0,l1,_⟩:=dU s1 a1 o.len
 obtain⟨ix,_,kr,lk,hkr,_,bn⟩:=so s1 a1 o hP4
 rw[hP]at tl
 have f0:aP 0 (.ptr c.mb 0 0)=some (.ptr c.mb 0 0):=rfl
 have f1:aP 2 (.ptr c.bb 0 0)=some (.ptr c.bb 0 2):=rfl
 have f2:aP 0 (.ptr n.fb n.below.length 0)=some (.ptr n.fb n.below.length 0):=rfl
 have f3:aP 2 (.ptr c.bb 0 (2+P*5))=some (.ptr c.bb 0 (2+P*5+2)):=rfl
 obtain⟨h2,e2,s2⟩:=ej s1 a1 o.below o.stk hkr
 rw[aB,aB]at s2
 refine⟨h2,dS s a o (by decide) ?_ (.inl rfl),s2.drop.drop⟩
 refine ag cJ rfl ?_;unfold cj
 simp only[sim,af,θ,ξ,η,reduceCtorEq,ψ,ω,aa,au,tp,c1,Int.reduceEq,decide_false,decide_true,f0,f1,f2,f3,l0,tl,ix,lk,e2]
end
end Go.Proofs.YtkdbjfncchmmpaaGreat
