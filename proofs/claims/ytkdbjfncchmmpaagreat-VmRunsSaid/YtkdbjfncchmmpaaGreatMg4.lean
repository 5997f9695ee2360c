/- From what a statement says of its arguments ('they read as data') to what the walks ask; and back. No walk here. -/
import Derived.Test.YtkdbjfncchmmpaaGreatMg3
import Derived.Test.YtkdbjfncchmmpaaGreatRows
import Derived.ProofKit
import Derived.OpenShut
import Derived.ShutString
import Derived.ChangeOld
import Derived.Deep.Slices
import Derived.Deep.Fields
import Derived.Lib.SmallJoins
namespace Go.Proofs.YtkdbjfncchmmpaaGreat
open Nat renaming reduceAdd→θ,reduceSub→ξ,reduceLeDiff→ψ,reduceLT→ω
open List renaming replicate→η
set_option linter.unusedSimpArgs false
set_option linter.unusedVariables false
set_option linter.unusedSimpArgs false
set_option linter.unusedVariables false
open Go.ChangeShapes Go.WideShapes Go.ChangeAt Go.RowKit Go.Deep Go.Joins
open Go.ChangeMaps (open_string shut_string)
theorem own:ownKnob Tryz.prog.godebug=none:=by kernel_rfl
theorem US:laidOutB Tryz.prog=true:=by kernel_rfl
section
variable {H:Type} {enc:TypeId×Value→H} {P:Program} {W W':World}
theorem pW (hl:laidOutB P=true):∀ {ts:List TypeId} {vs:List Value} {ds:List (DataW H)} {p:List MemPlace},
  DataW.TrodAll enc P W 0 (fun _=>true) true ts vs ds p→(∀ t∈ts,P.readableRec t=true∧t<P.types.size)→Below W.heap.size W W'→(∀ x∈p,x.block<W.heap.size)→
  DataW.TrodAll enc P W' 0 (fun b=>decide (b<W.heap.size)) true ts vs ds p
 | [],[],[],p,h,_,_,_=>h
 | t::ts,v::vs,d::ds,p,h,ht,hb,hp=>by
   obtain⟨p1,q1,h1,h2,rfl⟩:=h
   obtain⟨hr,hs⟩:=ht t (by simp)
   exact⟨p1,q1,Below.trod hl hr hs h1 hb (fun x hx=>hp x (by simp[hx])),pW hl h2 (fun t' h'=>ht t' (by simp[h'])) hb (fun x hx=>hp x (by simp[hx])),rfl⟩
 | [],_::_,_,_,h,_,_,_=>by simp[DataW.TrodAll]at h
 | _::_,[],_,_,h,_,_,_=>by simp[DataW.TrodAll]at h
 | _::_,_::_,[],_,h,_,_,_=>by simp[DataW.TrodAll]at h
 | [],[],_::_,_,h,_,_,_=>by simp[DataW.TrodAll]at h
theorem wP:∀ {ts:List TypeId} {vs:List Value} {ds:List (DataW H)} {p:List MemPlace},
  DataW.TrodAll enc P W 0 (fun _=>true) true ts vs ds p→∀ x∈p,x.block<W.heap.size
 | [],[],[],p,h,x,hx=>by
   have:p=[]:=h
   subst this
   simp at hx
 | t::ts,v::vs,d::ds,p,h,x,hx=>by
   obtain⟨p1,q1,⟨n,h1⟩,h2,rfl⟩:=h
   rcases List.mem_append.1 hx with hx | hx
   ·exact DataW.trod_lt n _ _ _ h1 x hx
   ·exact wP h2 x hx
 | [],_::_,_,_,h,_,_=>by simp[DataW.TrodAll]at h
 | _::_,[],_,_,h,_,_=>by simp[DataW.TrodAll]at h
 | _::_,_::_,[],_,h,_,_=>by simp[DataW.TrodAll]at h
 | [],[],_::_,_,h,_,_=>by simp[DataW.TrodAll]at h
def Law (P:Program) (f:FuncId) (args:Array Value) (W:World):Prop:=
 Calls P f args W fun e W'=>e= .returned (.bool true)∧Below W.heap.size W W'
theorem RF {f:Func} {s:ChangeSpec} {args:Array Value} {ds gs:List (DataW H)} {before:List MemPlace} {tb:TypeId} (hl:laidOutB P=true) (htb:P.underlying tb=some .bool) (hres:f.resultTypes= #[tb])
  (hv:s.vars=[]) (hparams:∀ t∈f.params.toList,P.readableRec t=true∧t<P.types.size)
  (hs:∀ ds:List (DataW H),ds.length=f.params.size→s.fn H ds={results:=[.lit (.bool true)],args:=ds})
  (hW:DataW.Whole enc P f.params.toList s.vars false W args.toList ds gs before) (hb:Below W.heap.size W W'):
  s.post enc P f false true false false W args (.bool true) W':=by
 have hW0:=hW
 obtain⟨p,q,hA,hV,rfl,hfz,hnd⟩:=hW
 rw[hv]at hV
 obtain⟨rfl,rfl⟩:=trodVars_none hV
 have hlen:ds.length=f.params.size:=by
  have:∀ {ts:List TypeId} {vs:List Value} {ds:List (DataW H)} {p:List MemPlace},DataW.TrodAll enc P W 0 (fun _=>true) true ts vs ds p→ds.length=ts.length:=by
   intro ts
   induction ts with
   | nil=>
     intro vs ds p h
     cases vs<;>cases ds<;>simp[DataW.TrodAll]at h ⊢
   | cons t ts ih=>
     intro vs ds p h
     cases vs<;>cases ds<;>simp[DataW.TrodAll]at h ⊢
     obtain⟨_,_,_,h2,_⟩:=h
     exact ih h2
  simpa using this hA
 have e:=hs (ds++[]) (by simpa using hlen)
 refine⟨ds,[],_,[],p,[],hW0,?_,?_,?_,hb.frame _,fun h=>by cases h⟩
 ·rw[e,hres]
  exact trodAll_mk1 (shut_bool htb _)
 ·rw[e]
  simp only[List.append_nil]
  exact pW hl hA hparams hb (wP hA)
 ·rw[e,hv]
  rfl
def Kb (z:Int):Prop:= -9223372036854775808≤z∧z≤9223372036854775807
end
open Go Go.RowKit
def h0A:AH:={n:=0,cell:=fun _=>none,ids:=0,hw:=fun _=>0}
def m0A (W:World):Mm:={base:=W.heap.size,blk:=fun _=>0,bt:=fun _=>0,bsz:=fun _=>0,imm:=fun g o=>W.cell? ⟨g,o,none⟩,tg:=fun _=>0,tc:=fun _=>0,te:=fun _=>0,jk:=fun _=>none}
theorem Mg {P:Program} {b:Nat} {w:World} (h:Wu P=[]∧WO P=[]):xX P b w:=by
 refine⟨fun q hq=> ?_,fun n hn=> ?_⟩
 ·rw[h.1]at hq
  cases hq
 ·rw[h.2]at hn
  cases hn
theorem wr0 (P:Program) (W:World) (hg:xX P W.heap.size W):WR P (m0A W) h0A W where
 good:=hg
 size:=Nat.le_refl _
 lt:=fun b es hb=>by simp[h0A]at hb
 live:=fun b es hb=>by simp[h0A]at hb
 inj:=fun b b' es es' hb=>by simp[h0A]at hb
 imm:=fun g o v h=>h
 sep:=fun b es hb=>by simp[h0A]at hb
 tip:=fun k hk=>absurd hk (Nat.not_lt_zero _)
 tfree:=fun k hk=>absurd hk (Nat.not_lt_zero _)
 tblk:=fun k hk=>absurd hk (Nat.not_lt_zero _)
 tinj:=fun k k' hk=>absurd hk (Nat.not_lt_zero _)
 jk:=fun g x hj=>by simp[m0A]at hj
theorem XO {f:FuncId} {avs:List AV} {vs:List Value} {W:World} {h':AH} (hr:aj Tryz.prog po f avs h0A=some (.inl (.bool true),h')) (hv:VRs Tryz.prog (m0A W) h0A avs vs) (hg:xX Tryz.prog W.heap.size W:=by exact Mg ⟨by kernel_rfl,by kernel_rfl⟩):Law Tryz.prog f vs.toArray W:=by
 refine(wx pok hr (m0A W) W vs (wr0 _ W hg) hv).mono fun e W' ⟨m',_,_,hb,hx⟩=> ?_
 obtain⟨u,rfl,hu⟩:=hx
 cases hu
 exact⟨rfl,hb⟩
theorem X7 {P:Program} {m:Mm} {h:AH} (s:ByteArray):VR P m h (.str s.data.toList) (.string s):=by
 have:=VR.str (P:=P) (m:=m) (h:=h) s.data.toList
 simpa using this
section
variable {P:Program} {po:Pol} {g:FuncId} {a nv:Nat} {vm:List Nat} {ss:List RS} {rs:List nS} {args:List AV} {h:AH}
theorem B0 {p:Bool} {Post:(AV ⊕ AV)×AH→Prop} (hf:FnR P po g a nv vm ss rs p) (ha:args.length=a)
  (H:∀ Q:jN→Prop,(∀ r q,cFR p rs h r=some q→Post q→Q r)→Q (aC (aj P po) nv [.ss ss] (args++η (vm.length - args.length) .junk) [] h)):
  ∃ q,aj P po g args h=some q∧Post q:=by
 obtain⟨q,h1,h2⟩:=H (fun r=>∃ q,cFR p rs h r=some q∧Post q) (fun r q h1 h2=>⟨q,h1,h2⟩)
 exact⟨q,ag hf ha h1,h2⟩
theorem Jc {v:AV} {R:AH→Prop} (hf:FnR P po g a nv vm ss rs false) (ha:args.length=a)
  (H:∀ Q:jN→Prop,(∀ V h',(fS V h' rs).map gh=some v→R h'→Q (some (.ret,V,h')))→Q (aC (aj P po) nv [.ss ss] (args++η (vm.length - args.length) .junk) [] h)):
  ∃ h',aj P po g args h=some (.inl v,h')∧R h':=by
 obtain⟨q,h1,h',rfl,h2⟩:=B0 (Post:=fun q=>∃ h',q=(.inl v,h')∧R h') hf ha fun Q hQ=>H Q fun V h' e r=>hQ _ (.inl v,h') (by simp only[lK,e,kX,ng]) ⟨h',rfl,r⟩
 exact⟨h',h1,h2⟩
theorem NR {R:AV→AH→Prop} (hf:FnR P po g a nv vm ss rs false) (ha:args.length=a)
  (H:∀ Q:jN→Prop,(∀ V h' v,(fS V h' rs).map gh=some v→R v h'→Q (some (.ret,V,h')))→Q (aC (aj P po) nv [.ss ss] (args++η (vm.length - args.length) .junk) [] h)):
  ∃ v h',aj P po g args h=some (.inl v,h')∧R v h':=by
 obtain⟨q,h1,v,h',rfl,h2⟩:=B0 (Post:=fun q=>∃ v h',q=(.inl v,h')∧R v h') hf ha fun Q hQ=>H Q fun V h' v e r=>hQ _ (.inl v,h') (by simp only[lK,e,kX,ng]) ⟨v,h',rfl,r⟩
 exact⟨v,h',h1,h2⟩
theorem GJ {R:AV→Prop} (hf:FnR P po g a nv vm ss rs true) (ha:args.length=a)
  (H:∀ Q:jN→Prop,(∀ V h' v v',(fS V h' rs).map gh=some v→ab h h'→wkA v=some v'→R v'→Q (some (.ret,V,h')))→Q (aC (aj P po) nv [.ss ss] (args++η (vm.length - args.length) .junk) [] h)):
  ∃ v,aj P po g args h=some (.inl v,h)∧R v:=by
 obtain⟨q,h1,v,rfl,h2⟩:=B0 (Post:=fun q=>∃ v,q=(.inl v,h)∧R v) hf ha fun Q hQ=>H Q fun V h' v v' e hg w r=>hQ _ (.inl v',h) (by simp only[lK,e,kX];exact aI hg w) ⟨v',rfl,r⟩
 exact⟨v,h1,h2⟩
theorem dV {v':AV} (hf:FnR P po g a nv vm ss rs true) (ha:args.length=a)
  (H:∀ Q:jN→Prop,(∀ V h' v,(fS V h' rs).map gh=some v→ab h h'→wkA v=some v'→Q (some (.ret,V,h')))→Q (aC (aj P po) nv [.ss ss] (args++η (vm.length - args.length) .junk) [] h)):
  aj P po g args h=some (.inl v',h):=by
 obtain⟨v,h1,rfl⟩:=GJ (R:=fun v=>v=v') hf ha fun Q hQ=>H Q fun V h' v e hg w=>hQ V h' v v' e hg w rfl
 exact h1
end
section
variable {P:Program} {po:Pol} {g:FuncId} {a nv:Nat} {vm:List Nat} {ss:List RS} {rs:List nS} {args:List AV} {h:AH}
theorem Qs {Post:(AV ⊕ AV)→AH→Prop} (hf:FnR P po g a nv vm ss rs false) (ha:args.length=a)
  (H:∀ Q:jN→Prop,(∀ V h' v,(fS V h' rs).map gh=some v→Post (.inl v) h'→Q (some (.ret,V,h')))→(∀ V h' v,Post (.inr v) h'→Q (some (.panic v,V,h')))→Q (aC (aj P po) nv [.ss ss] (args++η (vm.length - args.length) .junk) [] h)):
  ∃ q h',aj P po g args h=some (q,h')∧Post q h':=by
 obtain⟨⟨q,h'⟩,e,p⟩:=B0 (Post:=fun q=>Post q.1 q.2) hf ha fun Q hQ=>H Q (fun V h' v e r=>hQ _ (.inl v,h') (by simp only[lK,e,kX,ng]) r) (fun V h' v r=>hQ _ (.inr v,h') (by simp only[sU,ng]) r)
 exact⟨q,h',e,p⟩
end
theorem fN {C:zP} {nv:Nat} {b:List RS} {K:List RK} {V:List AV} {h:AH} {Q:jN→Prop} (I:Nat→List AV→AH→Prop) (n:Nat) (h0:I 0 V h)
  (step:∀ i V h,i<n→I i V h→(∀ V' h',I (i+1) V' h'→Q (aC C nv (.lp b::K) V' [] h'))→Q (aC C nv (.lp b::K) V [] h))
  (stop:∀ V h,I n V h→Q (aC C nv (.lp b::K) V [] h)):Q (aC C nv (.lp b::K) V [] h):=by
 have key:∀ (d i:Nat) (V:List AV) (h:AH),i+d=n→I i V h→Q (aC C nv (.lp b::K) V [] h):=by
  intro d
  induction d with
  | zero=>
    intro i V h hi hI
    obtain rfl:i=n:=by omega
    exact stop V h hI
  | succ d ih=>exact fun i V h hi hI=>step i V h (by omega) hI fun V' h' hI'=>ih (i+1) V' h' (by omega) hI'
 exact key n 0 V h (by omega) h0
theorem X3 {a n:Nat} (h:a<n):(a<n+1)=True:=by simp;omega
theorem Cf {n:Nat}:(n<n+1)=True:=by simp
theorem KO {α:Type} (A B:List α) (x y:α) {n:Nat} (hn:n=A.length):(A++x::B).set n y=A++y::B:=by subst hn;simp
theorem Lp {α:Type} (A B:List α) (x:α) {n:Nat} (hn:n=A.length):(A++x::B)[n]? =some x:=by subst hn;simp
theorem kO {α:Type} {l:List α} {i:Nat} {y:α} (h:l[i]? =some y):l.take (i+1)=l.take i++[y]:=by
 rw[List.take_add_one,h]
 rfl
theorem HP {n m:Int} (e:n=m) (h1: -9223372036854775808≤n) (h2:n≤9223372036854775807):IntKind.wrap .i64 n=m:=by rw[←e];exact w64 h1 h2
theorem sm {h0 h:AH} {e:TypeId} {v:AV} {acc:List (List AV)} (ha:Acc h0 h e v acc) (g:ab h0 h) {x:AV} {rows:List (List AV)} (hx:(x= .nils∧rows=[])∨∃ id,x= .isl id e rows) (h1:∀ r∈rows,r.all AV.one=true) (hl:acc.length≤1000000) (hr:rows.length≤1000000):
  ∃ v' h',aQ false e v x h=some (v',h')∧Acc h0 h' e v' (acc++rows)∧ab h0 h'∧h'.cell=h.cell∧h'.n=h.n:=by
 have h1':rows.all (·.all AV.one)=true:=by rw[List.all_eq_true];exact h1
 by_cases hz:rows.length=0
 ·have hz':=List.length_eq_zero_iff.1 hz
  subst hz'
  refine⟨v,h,?_,by simpa using ha,g,rfl,rfl⟩
  have hs:pb e v h=some (v,h):=by
   rcases ha with⟨_,rfl⟩ | ⟨id,_,_,_,_,rfl⟩<;>simp[pb]
  rcases hx with⟨rfl,_⟩ | ⟨id,rfl⟩
  ·exact hs
  ·simp[aQ,cE,hs]
 ·obtain⟨id2,rfl⟩:∃ id,x= .isl id e rows:=by
   rcases hx with⟨_,rfl⟩ | hx
   ·simp at hz
   ·exact hx
  have e1:aQ false e v (.isl id2 e rows) h=eS false e v rows h:=by
   simp only[aQ,cE,if_true,Option.bind_some]
   rw[if_neg hz]
  rw[e1]
  unfold eS
  rw[if_pos ⟨by omega,by omega,h1'⟩]
  have hne:rows≠[]:=fun e=>hz (by rw[e];rfl)
  rcases ha with⟨rfl,rfl⟩ | ⟨id,a0,a1,a2,a3,rfl⟩
  ·refine⟨_,_,rfl,.inr ⟨h.ids,by simpa using hne,g.ids,by simp[AH.fresh],by simp[AH.fresh],by simp⟩,g.trans (ab.fresh _ _),rfl,rfl⟩
  ·refine⟨.isl (some id) e (acc++rows),h.grow id (acc.length+rows.length),?_,.inr ⟨id,by simp[a0],a1,a2,by simp[AH.grow],rfl⟩,g.grow a1,rfl,rfl⟩
   simp[a3,hl]
theorem Da (e:TypeId) (rows:List (List AV)):(ge e rows= .nils∧rows=[])∨∃ id,ge e rows= .isl id e rows:=by
 unfold ge
 by_cases hz:rows=[]
 ·exact .inl ⟨by rw[if_pos hz],hz⟩
 ·exact .inr ⟨none,by rw[if_neg hz]⟩
theorem zm (l:List Int):∀ r∈bH l,r.all AV.one=true:=by
 intro r hr
 obtain⟨n,_,rfl⟩:=List.mem_map.1 hr
 rfl
def Y6 (f:AV) (xs:List AV):Option (FuncId×List AV):=match f with
 | .fn g a c=>some (g,a++xs++c)
 | _=>none
section
variable {C:zP} {nv:Nat} {k:List RK} {V L:List AV} {h:AH} {d:RD} {is:List RI}
theorem AM {f:Arg} {args:List Arg}:bp V L (.call f args)=Y6 (arg V L f) (args.map (arg V L)):=by
 simp only[bp]
 cases arg V L f<;>rfl
theorem JD {g:FuncId} {a c xs:List AV}:Y6 (.fn g a c) xs=some (g,a++xs++c):=rfl
theorem Ln {g:FuncId} {xs:List AV}:rF C nv d is k V L h (some (g,xs))=rC C nv d is k V L (C g xs h):=rfl
theorem au:(type_of% @HD)∧(type_of% @AM)∧(type_of% @JD)∧(type_of% @Ln):=⟨@HD,@AM,@JD,@Ln⟩
end
section
variable {h:AH} {F J:Nat→Prop} {b:Nat} {G:ae}
theorem ae.way_few {G:ae} (hW:G.Wf) (i:Int):(G.way i).length≤81:=by
 rw[ae.way_length]
 exact ae.path_few hW i
theorem Y9 (hW:G.Wf):∀ (f:Nat) (i:Int) (h:AH) (F J:Nat→Prop) (b:Nat),i+1≤f→IsG h F J b G→aj Tryz.prog po 154 [.ptr b 0 0,.int .i64 i] h=some (.inl (ge 3 (bH (G.way i))),h):=by
 intro f
 induction f with
 | zero=>
   intro i h F J b hi g
   obtain⟨nv,sv,h1,h2, -⟩:=g.ex
   have h0:i<0:=by omega
   have hh:G.has i=false:=by simp[ae.has];omega
   refine ag KS rfl ?_;unfold Cs
   simp only[sim,af,θ,ξ,η,reduceCtorEq,ψ,ω,aa,h0,h1,ae.way_no hh]
   exact aI (ab.refl h) rfl
 | succ f ih=>
   intro i h F J b hi g
   obtain⟨nv,sv,h1,h2, -⟩:=g.ex
   refine ag KS rfl ?_;unfold Cs
   cases hh:G.has i
   ·have:decide (i<0)=true∨decide (i<0)=false∧decide ((G.nodes.length:Int)≤i)=true:=by
     simp[ae.has]at hh
     simp only[decide_eq_true_eq,decide_eq_false_iff_not]
     omega
    rcases this with h0 | ⟨h0,h3⟩
    ·simp only[sim,af,θ,ξ,η,reduceCtorEq,ψ,ω,aa,h0,h1,ae.way_no hh]
     exact aI (ab.refl h) rfl
    ·simp only[sim,af,θ,ξ,η,reduceCtorEq,ψ,ω,aa,h0,h3,h1,h2.isL.len,h2.isL.fits,List.length_map,ae.way_no hh]
     exact aI (ab.refl h) rfl
   ·obtain⟨m,rfl,hm,hm2⟩:=ae.node_nat hh
    have hix:=h2.isL.ix .i64 m _ hm2
    have h0:decide ((m:Int)<0)=false:=by simp
    have h3:decide ((G.nodes.length:Int)≤(m:Int))=false:=by simp;omega
    have ok:=hW.get hh
    have hp:=ok.p1
    have hp0:=ok.p0
    simp only[Int.toNat_natCast]at hp hp0
    have g1:ab h (h.fresh 1):=ab.fresh h 1
    have hcall:=ih (G.nodes.getD m bM).parent (h.fresh 1) F J b (by omega) (g.grew g1)
    have ha:Acc h (h.fresh 1) 3 (.isl (some h.ids) 3 [[.int .i64 (m:Int)]]) [[.int .i64 (m:Int)]]:= .inr ⟨h.ids,by simp,Nat.le_refl _,by simp[AH.fresh],by simp[AH.fresh],rfl⟩
    obtain⟨v',h',e1,a1,a2, -, -⟩:=sm ha g1 (Da 3 (bH (G.way (G.nodes.getD m bM).parent))) (zm _) (by simp) (by have:=ae.way_few hW (G.nodes.getD m bM).parent;rw[List.length_map];omega)
    have hway:=ae.way_yes hW hh
    simp only[Int.toNat_natCast]at hway
    have hfin:wkA v'=some (ge 3 (bH (G.way m))):=by
     rw[hway]
     exact tW a1 (tO (m::G.way (G.nodes.getD m bM).parent))
    simp only[sim,af,θ,ξ,η,reduceCtorEq,ψ,ω,aa,h0,h3,h1,h2.isL.len,h2.isL.fits,List.length_map,hix,eI,hcall,e1,aI a2 hfin]
theorem J9 (g:IsG h F J b G) (hW:G.Wf) (i:Int):aj Tryz.prog po 154 [.ptr b 0 0,.int .i64 i] h=some (.inl (ge 3 (bH (G.way i))),h):=Y9 hW (i+1).toNat i h F J b (by omega) g
theorem Y3 {kd:Kd} {q q2:IntKind} {x:Int} {k:Nat} (hk:k≤q.bits):bO kd .shr (.int q x) (.int q2 (k:Int))=some (.int q (x.fdiv (2 ^ k))):=by
 simp[bO,Nat.min_eq_left hk]
theorem ZW {kd:Kd} {q q2:IntKind} {x:Int} {k:Nat} (hk:k≤q.bits):bO kd .shl (.int q x) (.int q2 (k:Int))=some (.int q (q.wrap (x*2 ^ k))):=by
 simp[bO,Nat.min_eq_left hk]
theorem XA {k:Nat} (hk:k<1000):IntKind.wrap .u64 (k:Int)=k:=by rw[IntKind.wrap_u64];omega
theorem Ra (x:Int) (k:Nat) (hk:k<64):aj Tryz.prog po 151 [.int .i64 x,.int .i64 (k:Int)] h=some (.inl (.bool (cP x k)),h):=by
 refine ag YX rfl ?_;unfold PN
 have hs:∀ kd,bO kd .shr (.int .i64 x) (.int .u64 (k:Int))=some (.int .i64 (x.fdiv (2 ^ k))):=fun kd=>Y3 (by simp[IntKind.bits];omega)
 simp only[sim,af,θ,ξ,η,reduceCtorEq,ψ,ω,aa,XA (k:=k) (by omega),hs]
 have e:x.fdiv (2 ^ k)=x / 2 ^ k:=Int.fdiv_eq_ediv_of_nonneg _ (by exact Int.le_of_lt (Int.pow_pos (by decide)))
 rw[e]
 rfl
def lU (G:ae) (k:Nat) (l:List Int):Bool:=l.all fun i=>cP (G.at_ i).rights k && !dm G (G.at_ i)
theorem Hy (g:IsG h F J b G) (hW:G.Wf) (W:List Int) (w:AV) (hw:IsL 3 w (bH W)) (hWl:W.length≤1000) (hWh:∀ i∈W,G.has i=true) (k:Nat) (hk:k<64) (v1 v2 v4 v9:AV) (K:List RK):∀ (l pre:List Int) (a:Bool) (h':AH) (v8 v10 v11:AV),W=pre++l→ab h h'→
  ∃ h'' v7 v8' v10',aC (aj Tryz.prog po) 12 (.lp jy:: .ss []:: .blk 2::K) [.ptr b 0 0,v1,v2,w,v4,.int .i64 (k:Int),.bool a,.int .i64 (pre.length:Int),v8,v9,v10,v11] [] h'=
    aC (aj Tryz.prog po) 12 K [.ptr b 0 0,v1,v2,w,v4,.int .i64 (k:Int),.bool (a && lU G k l),v7,v8',v9,v10',v11] [] h''∧ab h h'':=by
 intro l
 induction l with
 | nil=>
   intro pre a h' v8 v10 v11 e hg
   rw[aG jy.eq_1]
   have hlt:¬ ((pre.length:Int)<(W.length:Int)):=by rw[e];simp
   refine⟨h',.int .i64 (pre.length:Int),v8,.bool false,?_,hg⟩
   simp only[sim,af,θ,ξ,η,reduceCtorEq,ψ,ω,aa,hw.len,hw.fits,List.length_map,hlt,lU,List.all_nil]
 | cons i l ih=>
   intro pre a h' v8 v10 v11 e hg
   have g':=g.grew hg
   obtain⟨nv,sv,h1,h2, -⟩:=g'.ex
   have hlt:(pre.length:Int)<(W.length:Int):=by rw[e];simp;omega
   have hiW:=hWh i (by rw[e];simp)
   obtain⟨m,rfl,hm,hm2⟩:=ae.node_nat hiW
   have hix:=hw.ix .i64 pre.length [.int .i64 (m:Int)] (by rw[e];simp)
   have hix2:=h2.isL.ix .i64 m _ hm2
   have hat:G.at_ (m:Int)=G.nodes.getD m bM:=rfl
   have hg2:ab h (h'.push [aH (G.nodes.getD m bM)]):=hg.trans (ab.push _ _)
   have hwr:=w64 (n:=(pre.length:Int)+1) (by omega) (by omega)
   have hbn:b≠h'.n:=by have:=g'.hb.2;omega
   have gO:=Yn (g.grew hg2)
   have e2:((pre++[(m:Int)]).length:Int)=(pre.length:Int)+1:=by simp
   have hB:=Ra (h:=h'.push [aH (G.nodes.getD m bM)]) (G.nodes.getD m bM).rights k hk
   obtain⟨h'',v7,v8',v10',r1,r2⟩:=ih (pre++[(m:Int)]) (a && (cP (G.nodes.getD m bM).rights k && !dm G (G.nodes.getD m bM))) (h'.push [aH (G.nodes.getD m bM)]) (.ptr h'.n 0 0) (.bool true) v11 (by simp[e]) hg2
   refine⟨h'',v7,v8',v10',?_,r2⟩
   rw[e2]at r1
   rw[aG jy.eq_1]
   generalize G.nodes.getD m bM=n at*
   have hal:lU G k ((m:Int)::l)=((cP n.rights k && !dm G n) && lU G k l):=by simp only[lU,List.all_cons,hat]
   rw[hal,←Bool.and_assoc,←r1]
   have hcl:dm G n=(decide (0≤n.gate) && !G.isOpen n.gate):=rfl
   by_cases h0:n.gate<0
   ·have h0':¬ (0≤n.gate):=by omega
    cases a<;>cases hb:cP n.rights k<;>simp only[sim,af,θ,ξ,η,reduceCtorEq,ψ,ω,aa,hw.len,hw.fits,List.length_map,hlt,hix,hix2,h1,eI,gW hbn,hB,hb,h0,h0',hcl,hwr]
   ·have h0':0≤n.gate:=by omega
    cases a<;>cases hb:cP n.rights k<;>cases hO:G.isOpen n.gate<;>simp only[sim,af,θ,ξ,η,reduceCtorEq,ψ,ω,aa,hw.len,hw.fits,List.length_map,hlt,hix,hix2,h1,eI,gW hbn,hB,hb,h0,h0',hcl,hwr,gO,hO]
def sb (G:ae) (W:List Int) (k:Nat):Int:=((List.range k).map fun j=>if lU G j W then(2:Int) ^ j else 0).sum
theorem sX (G:ae) (W:List Int) (k:Nat):sb G W (k+1)=sb G W k+(if lU G k W then(2:Int) ^ k else 0):=by
 simp[sb,List.range_succ]
theorem vV (G:ae) (W:List Int):∀ k,0≤sb G W k∧sb G W k<2 ^ k
 | 0=>by simp[sb]
 | k+1=>by
   have:=vV G W k
   have h2:(2:Int) ^ (k+1)=2 ^ k+2 ^ k:=by rw[Int.pow_succ];omega
   rw[sX,h2]
   split<;>omega
theorem Ek (g:IsG h F J b G) (hW:G.Wf) (W:List Int) (w:AV) (hw:IsL 3 w (bH W)) (hWl:W.length≤1000) (hW0:W≠[]) (hWh:∀ i∈W,G.has i=true) (v1:AV):∀ (d k:Nat) (h':AH) (v6 v7 v8 v9 v10 v11:AV),k+d=4→ab h h'→
  cFR true [.v 2] h (aC (aj Tryz.prog po) 12 [.lp fK,.ss [],.blk 0,.ss [.ops [bA,dH],.ret]] [.ptr b 0 0,v1,.int .i64 0,w,.int .i64 (sb G W k),.int .i64 (k:Int),v6,v7,v8,v9,v10,v11] [] h')=
   some (.inl (.int .i64 (sb G W 4)),h):=by
 intro d
 induction d with
 | zero=>
   intro k h' v6 v7 v8 v9 v10 v11 hk hg
   obtain rfl:k=4:=by omega
   rw[aG fK.eq_1]
   have h4:((4:Nat):Int)=4:=rfl
   simp only[sim,af,θ,ξ,η,reduceCtorEq,ψ,ω,aa,h4,Int.lt_irrefl,aI hg (rfl:wkA (.int .i64 (sb G W 4))=_)]
 | succ d ih=>
   intro k h' v6 v7 v8 v9 v10 v11 hk hg
   have hlt:(k:Int)<4:=by omega
   have hpos:(0:Int)<(W.length:Int):=by
    have:0<W.length:=List.length_pos_iff.2 hW0
    omega
   have hsm:=vV G W k
   have hp16:(2:Int) ^ k≤16:=by
    have:k=0∨k=1∨k=2∨k=3:=by omega
    rcases this with rfl | rfl | rfl | rfl<;>decide
   have hp0:(0:Int)<(2:Int) ^ k:=Int.pow_pos (by decide)
   have hw1:IntKind.wrap .i64 (1*2 ^ k:Int)=2 ^ k:=by rw[Int.one_mul];exact w64 (by omega) (by omega)
   have hw2:=w64 (n:=sb G W k+2 ^ k) (by omega) (by omega)
   have hw3:=w64 (n:=(k:Int)+1) (by omega) (by omega)
   have hsh:∀ kd,bO kd .shl (.int .i64 1) (.int .u64 (k:Int))=some (.int .i64 (IntKind.wrap .i64 (1*2 ^ k))):=fun kd=>ZW (by simp[IntKind.bits];omega)
   have e1:((k+1:Nat):Int)=(k:Int)+1:=by omega
   obtain⟨h'',u7,u8,u10,r1,r2⟩:=Hy g hW W w hw hWl hWh k (by omega) v1 (.int .i64 0) (.int .i64 (sb G W k)) (.bool true) [.ss [.ops [(.i (.v 11) (.mv (.v 6)))],.cond (.v 11) [.ops [bA,bT,IC,(.i .l (.bin (.int .i64) .shl (.c (.int .i64 1)) (.l 0))),(.i .l (.bin (.int .i64) .add (.l 3) (.l 0))),dB]] []],.blk 1,.ss [.ops [bT,oF,dw]],.lp fK,.ss [],.blk 0,.ss [.ops [bA,dH],.ret]] W [] true h' v8 v10 v11 rfl hg
   simp only[List.length_nil,Int.natCast_zero,Bool.true_and]at r1
   rw[aG fK.eq_1]
   cases ha:lU G k W
   ·have:=ih (k+1) h'' (.bool false) u7 u8 (.bool true) u10 (.bool false) (by omega) r2
    rw[sX,ha,e1]at this
    simp only[Bool.false_eq_true,if_false,Int.add_zero]at this
    simp only[sim,af,θ,ξ,η,reduceCtorEq,ψ,ω,aa,hlt,hw.len,hw.fits,List.length_map,hpos,r1,ha,XA (k:=k) (by omega),hsh,hw1,hw2,hw3,this]
   ·have:=ih (k+1) h'' (.bool true) u7 u8 (.bool true) u10 (.bool true) (by omega) r2
    rw[sX,ha,e1]at this
    simp only[if_true]at this
    simp only[sim,af,θ,ξ,η,reduceCtorEq,ψ,ω,aa,hlt,hw.len,hw.fits,List.length_map,hpos,r1,ha,XA (k:=k) (by omega),hsh,hw1,hw2,hw3,this]
theorem DH (G:ae) (k:Nat) (i:Int):lU G k (G.way i)=yf G (G.path i) k:=by
 unfold lU yf
 rw[←ae.way_path,List.all_map]
 rfl
theorem Eu (g:IsG h F J b G) (hW:G.Wf) (i:Int):aj Tryz.prog po 152 [.ptr b 0 0,.int .i64 i] h=some (.inl (.int .i64 (G.rights i)),h):=by
 refine ag F8 rfl ?_;unfold vY
 have hl:=iL 3 (bH (G.way i))
 have hfew:=ae.way_few hW i
 rw[←HO hW i]
 by_cases hz:G.way i=[]
 ·have hp:G.path i=[]:=by rw[←ae.way_path,hz];rfl
  have hlen:(G.way i).length=0:=by rw[hz];rfl
  have hr:kx G i 4=0:=by unfold kx;rw[if_pos hp]
  have h04:(0:Int)<4:=by decide
  rw[hr]
  simp only[sim,af,θ,ξ,η,reduceCtorEq,ψ,ω,aa,J9 g hW]
  rw[aG fK.eq_1]
  simp only[sim,af,θ,ξ,η,reduceCtorEq,ψ,ω,aa,hl.len,hl.fits,List.length_map,hlen,Int.natCast_zero,Int.lt_irrefl,h04]
 ·have hp:G.path i≠[]:=by
   intro e
   rw[←ae.way_path]at e
   exact hz (List.map_eq_nil_iff.1 e)
  have hr:kx G i 4=sb G (G.way i) 4:=by
   unfold kx sb
   rw[if_neg hp]
   simp only[DH]
  rw[hr]
  have:=Ek g hW (G.way i) (ge 3 (bH (G.way i))) hl (by omega) hz (ae.way_has i) (.int .i64 i) 4 0 h .junk .junk .junk .junk .junk .junk rfl (ab.refl h)
  have h0:sb G (G.way i) 0=0:=rfl
  rw[h0]at this
  simp only[sim,af,θ,ξ,η,reduceCtorEq,ψ,ω,aa,J9 g hW]
  exact this
end
def bw.ints (n:bw):List Int:=[n.parent,n.gate,n.rights,n.cell,n.plugin,n.func]
instance:DecidableEq bw:=fun a b=>decidable_of_iff (a.ints=b.ints) ⟨fun e=>by
 cases a
 cases b
 simp[bw.ints]at e
 simp[e],fun e=>by rw[e]⟩
section
variable {h:AH}
theorem TQ (n m:bw):eJ [.int .i64,.int .i64,.int .i64,.int .i64,.int .i64,.int .i64] (aH n) (aH m)=some (decide (n=m)):=by
 unfold aH
 simp only[eJ,if_true,Option.map_some,Bool.and_true]
 congr 1
 rw[Bool.eq_iff_iff]
 simp only[Bool.and_eq_true,beq_iff_eq,decide_eq_true_eq]
 constructor
 ·rintro⟨h1,h2,h3,h4,h5,h6⟩
  cases n
  cases m
  simp_all
 ·rintro rfl
  exact⟨rfl,rfl,rfl,rfl,rfl,rfl⟩
theorem Fo (n m:bw) (kd:Kd) (cy:Bool):ma kd (some [.int .i64,.int .i64,.int .i64,.int .i64,.int .i64,.int .i64]) cy .neq (.agg (aH n)) (.agg (aH m))=some (.bool (!decide (n=m))):=by
 simp only[ma,Option.bind_some,TQ,Option.map_some]
theorem ym (l m:List bw) (v w:AV) (hv:IsL tN v (l.map aH)) (hw:IsL tN w (m.map aH)) (hl:l.length≤1000):∀ (r r' pre pre':List bw) (t1 t2 t3:AV),l=pre++r→m=pre'++r'→pre.length=pre'.length→r.length=r'.length→
  cFR true [.v 2] h (aC (aj Tryz.prog po) 7 [.lp gV,.ss [],.blk 0,.ss [.ops [Lg],.ret]] [v,w,.bool false,.int .i64 pre.length,t1,t2,t3] [] h)=some (.inl (.bool (decide (r=r'))),h):=by
 intro r
 induction r with
 | nil=>
   intro r' pre pre' t1 t2 t3 e e' hp hr
   obtain rfl:r'=[]:=List.length_eq_zero_iff.1 hr.symm
   rw[aG gV.eq_1]
   have hlt:¬ ((pre.length:Int)<(l.length:Int)):=by rw[e];simp
   simp only[sim,af,θ,ξ,η,reduceCtorEq,ψ,ω,aa,hv.len,hv.fits,List.length_map,hlt]
 | cons i r ih=>
   intro r' pre pre' t1 t2 t3 e e' hp hr
   obtain⟨i',r',rfl⟩:∃ i' s,r'=i'::s:=by cases r' with | nil=>simp at hr | cons a s=>exact⟨a,s,rfl⟩
   rw[aG gV.eq_1]
   have hlt:(pre.length:Int)<(l.length:Int):=by rw[e];simp;omega
   have hix:=hv.ix .i64 pre.length (aH i) (by rw[e];simp)
   have hix2:=hw.ix .i64 pre.length (aH i') (by rw[e',hp];simp)
   have hwr:=w64 (n:=(pre.length:Int)+1) (by omega) (by omega)
   have e2:((pre++[i]).length:Int)=(pre.length:Int)+1:=by simp
   cases hd:decide (i=i')
   ·have hc:decide (i::r=i'::r')=false:=by
     have:¬ i=i':=by simpa using hd
     simp[this]
    simp only[sim,af,θ,ξ,η,reduceCtorEq,ψ,ω,aa,hv.len,hv.fits,List.length_map,hlt,hix,hix2,eI,Fo,hd,hc]
   ·have:=ih r' (pre++[i]) (pre'++[i']) t1 (.bool true) (.bool false) (by simp[e]) (by simp[e']) (by simp[hp]) (by simpa using hr)
    rw[e2]at this
    have hc:decide (i::r=i'::r')=decide (r=r'):=by
     have:i=i':=by simpa using hd
     simp[this]
    simp only[sim,af,θ,ξ,η,reduceCtorEq,ψ,ω,aa,hv.len,hv.fits,List.length_map,hlt,hix,hix2,eI,Fo,hd,hwr,this,hc]
theorem EP (l m:List bw) (v w:AV) (hv:IsL tN v (l.map aH)) (hw:IsL tN w (m.map aH)) (hl:l.length≤1000):aj Tryz.prog po 14 [v,w] h=some (.inl (.bool (decide (l=m))),h):=by
 refine ag C8 rfl ?_;unfold sx
 cases hd:decide ((l.length:Int)=(m.length:Int))
 ·have hne:decide (l=m)=false:=by
   simp at hd ⊢
   intro e
   rw[e]at hd
   exact hd rfl
  simp only[sim,af,θ,ξ,η,reduceCtorEq,ψ,ω,aa,hv.len,hv.fits,hw.len,hw.fits,List.length_map,hd,hne]
 ·have:=ym (h:=h) l m v w hv hw hl l m [] [] (.bool false) .junk .junk rfl rfl rfl (by simp at hd;omega)
  simp only[List.length_nil,Int.natCast_zero]at this
  simp only[sim,af,θ,ξ,η,reduceCtorEq,ψ,ω,aa,hv.len,hv.fits,hw.len,hw.fits,List.length_map,hd]
  exact this
end
theorem cO.same {h:AH} {F J:Nat→Prop} {b:Nat} {G:ae} (g:IsG h F J b G):cO h F J b h G:=⟨F,J,g,Chg.refl _ _ _,fun _=> .inl,fun _=> .inl⟩
theorem cO.grew {h h':AH} {F J:Nat→Prop} {b:Nat} {G:ae} (g:IsG h F J b G) (x:ab h h'):cO h F J b h' G:=⟨F,J,g.grew x,x.chg _ _,fun _=> .inl,fun _=> .inl⟩
theorem cO.after {h h1 h2:AH} {F J:Nat→Prop} {b:Nat} {G':ae} (x:ab h h1) (d:cO h1 F J b h2 G'):cO h F J b h2 G':=by
 obtain⟨F',J',g,c,hF,hJ⟩:=d
 have:=x.n
 have:=x.ids
 exact⟨F',J',g,(x.chg F J).trans c,fun k hk=>(hF k hk).imp id (by omega),fun j hj=>(hJ j hj).imp id (by omega)⟩
section
variable {h:AH} {F J:Nat→Prop} {b:Nat} {G:ae}
theorem EU (h:AH) {F:Nat→Prop} {b:Nat} {sv:AV} {l:List Bool} (g:sF h F b tB sv (l.map fun x=>[.bool x])) (hl:l.length≤1000):
  ∃ h' v',aQ true tB sv (.msl h.n 0 1 tB) (h.push [[.bool false]])=some (v',h')∧eW v'=some (l.length+1)∧(∀ s,ew s (some tB) v'=true)∧v'.one=true∧v'.cells=[v']∧h'.ids=h.ids∧h'.hw=h.hw∧h'.n=h.n+2∧h'.cell (h.n+1)=some ((l++[false]).map fun x=>[.bool x])∧v'= .msl (h.n+1) 0 (l.length+1) tB∧∀ k,k<h.n→¬ (F k∧k≠b)→h'.cell k=h.cell k:=by
 have e0:cE (h.push [[.bool false]]) tB (.msl h.n 0 1 tB)=some [[.bool false]]:=by simp[cE,ap]
 rcases g with⟨h1,rfl⟩ | ⟨q,h1,h2,h3,h4,rfl⟩
 ·have hl0:l=[]:=by simpa using h1
  subst hl0
  refine⟨(h.push [[.bool false]]).push [[.bool false]],.msl (h.n+1) 0 1 tB,?_,rfl,fun s=>ml,rfl,rfl,rfl,rfl,rfl,?_,rfl,fun k hk _=> ?_⟩
  ·simp[aQ,e0,eS,AV.one,bd]
  ·simp[AH.push]
  ·simp[AH.push,show k≠h.n by omega,show k≠h.n+1 by omega]
 ·have hq:q≠h.n:=by omega
  refine⟨((h.push [[.bool false]]).set q none).push ((l.map fun x=>[.bool x])++[[.bool false]]),.msl (h.n+1) 0 (l.length+1) tB,?_,rfl,fun s=>ml,rfl,rfl,rfl,rfl,rfl,?_,rfl,fun k hk hk2=> ?_⟩
  ·have e1:(h.push [[.bool false]]).cell q=some (l.map fun x=>[.bool x]):=by rw[gW hq];exact h4
   simp only[aQ,e0,Option.bind_some,List.length_singleton,Nat.one_ne_zero,if_false,eS,List.length_map]
   rw[if_pos ⟨by omega,by omega,rfl⟩,if_pos ⟨trivial,trivial,by omega⟩,e1]
   have e2:List.take l.length (l.map fun x=>[AV.bool x])=l.map fun x=>[.bool x]:=List.take_of_length_le (by simp)
   simp[bd,fI,e2]
  ·simp[AH.push,AH.set]
  ·have:k≠q:=fun e=>hk2 (by subst e;exact⟨h1,h2⟩)
   simp[AH.push,AH.set,show k≠h.n by omega,show k≠h.n+1 by omega,this]
theorem EL {h':AH} {nv v':AV} (g:IsG h F J b G) (h2:qZ h J tN nv (G.nodes.map aH)) (e1:h'.ids=h.ids) (e2:h'.hw=h.hw) (e3:h'.n=h.n+2) (e4:h'.cell (h.n+1)=some ((G.shut++[false]).map fun x=>[.bool x])) (e5:v'= .msl (h.n+1) 0 (G.shut.length+1) tB) (e6:∀ k,k<h.n→¬ (F k∧k≠b)→h'.cell k=h.cell k):
  cO h F J b (h'.set b (some [[nv,v']])) ⟨G.nodes,G.shut++[false]⟩:=by
 have hbn:=g.hb.2
 refine⟨fun k=>k=b∨k=h.n+1,J,⟨⟨.inl rfl,by rw[fI,e3];omega⟩,⟨by rintro k (rfl | rfl)<;>(rw[fI,e3];omega),fun j hj=>by rw[pI,e1];exact g.lt.2 j hj⟩,nv,v',bR,?_,.inr ⟨h.n+1,.inr rfl,by omega,by rw[fI,e3];omega,by rw[bu (by omega)];exact e4,?_⟩⟩,⟨by rw[fI,e3];omega,by rw[pI,e1];omega,fun k hk hF=> ?_,fun j hj hJ=>by rw[tA,e2]⟩,?_,fun _=> .inl⟩
 ·rcases h2 with h2 | ⟨id,a1,a0,a2,a3,a4⟩
  ·exact .inl h2
  ·exact .inr ⟨id,a1,a0,by rw[pI,e1];exact a2,by rw[tA,e2];exact a3,a4⟩
 ·rw[e5]
  simp
 ·have:k≠b:=fun e=>hF (by rw[e];exact g.hb.1)
  rw[bu this]
  exact e6 k hk fun x=>hF x.1
 ·rintro k (rfl | rfl)
  ·exact .inl g.hb.1
  ·exact .inr (by omega)
theorem Pb (g:IsG h F J b G) (hW:G.Wf):∃ h',aj Tryz.prog po 63 [.ptr b 0 0] h=some (.inl (.tup [.int .i64 G.gate.2.1,.int .i64 G.gate.2.2]),h')∧cO h F J b h' G.gate.1:=by
 obtain⟨nv,sv,h1,h2,h3⟩:=g.ex
 have hgs:=hW.gates
 cases hd:decide ((G.shut.length:Int)=20)
 ·have hne:¬ G.shut.length=20:=by simp at hd;omega
  have hG:G.gate=(⟨G.nodes,G.shut++[false]⟩,(G.shut.length:Int),0):=by unfold ae.gate;rw[if_neg hne]
  obtain⟨h',v',a1,a2,a3,a4,a5,a6,a7,a8,a9,a10,a11⟩:=EU h h3 (by omega)
  have hbn:b≠h.n:=by have:=g.hb.2;omega
  have hcb:h'.cell b=some [[nv,sv]]:=(a11 b g.hb.2 (fun x=>x.2 rfl)).trans h1
  have hwr:IntKind.wrap .i64 (((G.shut.length+1:Nat):Int) - 1)=(G.shut.length:Int):=by rw[w64]<;>omega
  refine⟨h'.set b (some [[nv,v']]),?_,by rw[hG];exact EL g h2 a6 a7 a8 a9 a10 a11⟩
  rw[hG]
  refine ag DJ rfl ?_;unfold xE
  simp only[sim,af,θ,ξ,η,reduceCtorEq,ψ,ω,aa,h1,h3.len.1,h3.len.2,List.length_map,hd,a1,gW hbn,hcb,a4,a5,a2,a3,hwr]
 ·have he:G.shut.length=20:=by simp at hd;omega
  have hG:G.gate=(G,0,11):=by unfold ae.gate;rw[if_pos he]
  refine⟨h,?_,by rw[hG];exact cO.same g⟩
  rw[hG]
  refine ag DJ rfl ?_;unfold xE
  simp only[sim,af,θ,ξ,η,reduceCtorEq,ψ,ω,aa,h1,h3.len.1,h3.len.2,List.length_map,hd]
theorem N9 (g:IsG h F J b G) (hW:G.Wf):∃ h',aj Tryz.prog po 68 [.ptr b 0 0] h=some (.inl (.tup [.int .i64 G.gate.2.1,.int .i64 G.gate.2.2]),h')∧cO h F J b h' G.gate.1:=by
 obtain⟨nv,sv,h1,h2,h3⟩:=g.ex
 have hgs:=hW.gates
 cases hd:decide (20≤(G.shut.length:Int))
 ·have hne:¬ G.shut.length=20:=by simp at hd;omega
  have hG:G.gate=(⟨G.nodes,G.shut++[false]⟩,(G.shut.length:Int),0):=by unfold ae.gate;rw[if_neg hne]
  obtain⟨h',v',a1,a2,a3,a4,a5,a6,a7,a8,a9,a10,a11⟩:=EU h h3 (by omega)
  have hbn:b≠h.n:=by have:=g.hb.2;omega
  have hcb:h'.cell b=some [[nv,sv]]:=(a11 b g.hb.2 (fun x=>x.2 rfl)).trans h1
  have hwr:IntKind.wrap .i64 (((G.shut.length+1:Nat):Int) - 1)=(G.shut.length:Int):=by rw[w64]<;>omega
  refine⟨h'.set b (some [[nv,v']]),?_,by rw[hG];exact EL g h2 a6 a7 a8 a9 a10 a11⟩
  rw[hG]
  refine ag E9 rfl ?_;unfold vO
  simp only[sim,af,θ,ξ,η,reduceCtorEq,ψ,ω,aa,h1,h3.len.1,h3.len.2,List.length_map,hd,a1,gW hbn,hcb,a4,a5,a2,a3,hwr]
 ·have he:G.shut.length=20:=by simp at hd;omega
  have hG:G.gate=(G,0,11):=by unfold ae.gate;rw[if_pos he]
  refine⟨h,?_,by rw[hG];exact cO.same g⟩
  rw[hG]
  refine ag E9 rfl ?_;unfold vO
  simp only[sim,af,θ,ξ,η,reduceCtorEq,ψ,ω,aa,h1,h3.len.1,h3.len.2,List.length_map,hd]
theorem Jz {nv sv:AV} (g:IsG h F J b G) (h1:h.cell b=some [[nv,sv]]) (h2:qZ h J tN nv (G.nodes.map aH)) {m q:Nat} (hm:m<G.shut.length) (e1:F q) (e2:q≠b) (e3:q<h.n) (e4:sv= .msl q 0 G.shut.length tB):
  cO h F J b (h.set q (some ((G.shut.map fun x=>[AV.bool x]).set m [.bool true]))) ⟨G.nodes,G.shut.set m true⟩:=by
 refine⟨F,J,⟨⟨g.hb.1,g.hb.2⟩,g.lt,nv,sv,by rw[bu (Ne.symm e2)];exact h1,?_,.inr ⟨q,e1,e2,e3,by rw[bR,List.map_set],by rw[e4];simp⟩⟩,⟨Nat.le_refl _,Nat.le_refl _,fun k hk hF=>bu (fun e=>hF (by rw[e];exact e1)),fun _ _ _=>rfl⟩,fun _=> .inl,fun _=> .inl⟩
 rcases h2 with h2 | ⟨id,a1,a0,a2,a3,a4⟩
 ·exact .inl h2
 ·exact .inr ⟨id,a1,a0,a2,a3,a4⟩
theorem Wo (g:IsG h F J b G) (k:Int):∃ h',aj Tryz.prog po 62 [.ptr b 0 0,.int .i64 k] h=some (.inl (.int .i64 (G.cut k).2),h')∧cO h F J b h' (G.cut k).1:=by
 obtain⟨nv,sv,h1,h2,h3⟩:=g.ex
 cases hh:G.hasGate k
 ·have hG:G.cut k=(G,8):=by unfold ae.cut;rw[if_neg (by simp[hh])]
  rw[hG]
  refine⟨h,?_,cO.same g⟩
  refine ag KY rfl ?_;unfold BH
  simp only[sim,af,θ,ξ,η,reduceCtorEq,ψ,ω,aa,Ed g,hh]
 ·obtain⟨m,rfl,hm⟩:=ae.gate_nat hh
  have hG:G.cut (m:Int)=(⟨G.nodes,G.shut.set m true⟩,0):=by unfold ae.cut;rw[if_pos hh];simp
  obtain⟨q,e1,e2,e3,e4,e5,e6,e7⟩:=vk h3 hm
  rw[hG]
  refine⟨_,?_,Jz g h1 h2 hm e4 e5 e6 e7⟩
  refine ag KY rfl ?_;unfold BH
  simp only[sim,af,θ,ξ,η,reduceCtorEq,ψ,ω,aa,Ed g,hh,h1,e1,e2,e3]
theorem Wy (g:IsG h F J b G) (k:Int):∃ h',aj Tryz.prog po 67 [.ptr b 0 0,.int .i64 k] h=some (.inl (.int .i64 (G.cut k).2),h')∧cO h F J b h' (G.cut k).1:=by
 obtain⟨nv,sv,h1,h2,h3⟩:=g.ex
 cases hh:G.hasGate k
 ·have hG:G.cut k=(G,8):=by unfold ae.cut;rw[if_neg (by simp[hh])]
  rw[hG]
  refine⟨h,?_,cO.same g⟩
  refine ag KV rfl ?_;unfold Ca
  simp only[sim,af,θ,ξ,η,reduceCtorEq,ψ,ω,aa,FZ g,hh]
 ·obtain⟨m,rfl,hm⟩:=ae.gate_nat hh
  have hG:G.cut (m:Int)=(⟨G.nodes,G.shut.set m true⟩,0):=by unfold ae.cut;rw[if_pos hh];simp
  obtain⟨q,e1,e2,e3,e4,e5,e6,e7⟩:=vk h3 hm
  rw[hG]
  refine⟨_,?_,Jz g h1 h2 hm e4 e5 e6 e7⟩
  refine ag KV rfl ?_;unfold Ca
  simp only[sim,af,θ,ξ,η,reduceCtorEq,ψ,ω,aa,FZ g,hh,h1,e1,e2,e3]
theorem Ef (h:AH) {J:Nat→Prop} {nv:AV} {rows:List (List AV)} (g:qZ h J tN nv rows) {row:List AV} (hr:row.all AV.one=true) (hl:rows.length≤1000):
  ∃ h' v',aQ false tN nv (.isl (some h.ids) tN [row]) (h.fresh 1)=some (v',h')∧eW v'=some (rows.length+1)∧(∀ s,ew s (some tN) v'=true)∧v'.one=true∧v'.cells=[v']∧h'.cell=h.cell∧h'.n=h.n∧h.ids≤h'.ids∧
    (∃ id,(J id∨h.ids≤id)∧id<h'.ids∧h'.hw id=rows.length+1∧v'= .isl (some id) tN (rows++[row])∧∀ j,j<h.ids→¬ J j→h'.hw j=h.hw j):=by
 have hr':[row].all (·.all AV.one)=true:=by simpa using hr
 rcases g with⟨rfl,rfl⟩ | ⟨id,a1,a0,a2,a3,rfl⟩
 ·refine⟨(h.fresh 1).fresh 1,.isl (some (h.ids+1)) tN [row],?_,rfl,fun s=>mh,rfl,rfl,rfl,rfl,by simp[AH.fresh];omega,h.ids+1,.inr (by omega),by simp[AH.fresh],by simp[AH.fresh],by simp,fun j hj _=>by simp[AH.fresh,show j≠h.ids by omega,show j≠h.ids+1 by omega]⟩
  simp only[aQ,cE,if_true,Option.bind_some,List.length_singleton,Nat.one_ne_zero,if_false,eS]
  rw[if_pos ⟨by omega,by omega,hr'⟩]
  rfl
 ·have hne:id≠h.ids:=by omega
  refine⟨(h.fresh 1).grow id (rows.length+1),.isl (some id) tN (rows++[row]),?_,by simp[eW],fun s=>mh,rfl,rfl,rfl,rfl,by simp[AH.fresh,AH.grow],id,.inl a1,by simp[AH.fresh,AH.grow];omega,by simp[AH.grow],rfl,fun j hj hJ=> ?_⟩
  ·simp only[aQ,cE,if_true,Option.bind_some,List.length_singleton,Nat.one_ne_zero,if_false,eS]
   rw[if_pos ⟨by omega,by omega,hr'⟩,jM hne,a3,if_pos ⟨trivial,rfl,by omega⟩]
  ·have h1:j≠id:=fun e=>hJ (by rw[e];exact a1)
   simp[AH.grow,AH.fresh,h1,show j≠h.ids by omega]
theorem KF {h':AH} {sv v':AV} {n:bw} (g:IsG h F J b G) (h3:sF h F b tB sv (G.shut.map fun x=>[.bool x])) (e1:h'.cell=h.cell) (e2:h'.n=h.n) (e0:h.ids≤h'.ids)
  (e3:∃ id,(J id∨h.ids≤id)∧id<h'.ids∧h'.hw id=G.nodes.length+1∧v'= .isl (some id) tN (G.nodes.map aH++[aH n])∧∀ j,j<h.ids→¬ J j→h'.hw j=h.hw j):cO h F J b (h'.set b (some [[v',sv]])) ⟨G.nodes++[n],G.shut⟩:=by
 obtain⟨id,a1,a2,a3,a4,a5⟩:=e3
 refine⟨F,fun j=>j=id,⟨⟨g.hb.1,by rw[fI,e2];exact g.hb.2⟩,⟨fun k hk=>by rw[fI,e2];exact g.lt.1 k hk,fun j hj=>by rw[hj];exact a2⟩,v',sv,bR,.inr ⟨id,rfl,by simp,a2,by rw[tA,a3];simp,by rw[a4];simp⟩,?_⟩,⟨by rw[fI,e2];exact Nat.le_refl _,by rw[pI];exact e0,fun k hk hF=> ?_,fun j hj hJ=>by rw[tA];exact a5 j hj hJ⟩,fun _=> .inl,fun j hj=>by rw[hj];exact a1⟩
 ·rcases h3 with h3 | ⟨q,b1,b2,b3,b4,b5⟩
  ·exact .inl h3
  ·exact .inr ⟨q,b1,b2,by rw[fI,e2];exact b3,by rw[bu b2,e1];exact b4,b5⟩
 ·rw[bu (fun e=>hF (by rw[e];exact g.hb.1)),e1]
theorem QA (g:IsG h F J b G) (hW:G.Wf) (n:bw):∃ h',aj Tryz.prog po 97 [.ptr b 0 0,.agg (aH n)] h=some (.inl (.tup [.int .i64 (G.add n).2.1,.int .i64 (G.add n).2.2]),h')∧cO h F J b h' (G.add n).1:=by
 have hg1:=ab.push h [aH n]
 have g1:=g.grew hg1
 have hbn:h.n≠b:=by have:=g.hb.2;omega
 obtain⟨nv,sv,h1,h2,h3⟩:=g1.ex
 have hfew:=hW.few
 have hH:=Ed g1
 unfold ae.add
 skip
 cases hc:gX n.rights
 ·rw[if_pos rfl]
  refine⟨h.push [aH n],?_,cO.grew g hg1⟩
  refine ag pE rfl ?_;unfold nz
  simp only[sim,af,θ,ξ,η,reduceCtorEq,ψ,ω,aa,eI,pB,hc]
 ·rw[if_neg (by simp)]
  have stop:(n.gate≠ -1∧G.hasGate n.gate=false)∨(n.gate= -1∨G.hasGate n.gate=true):=by
   by_cases e:n.gate= -1
   ·exact .inr (.inl e)
   ·cases hh:G.hasGate n.gate
    ·exact .inl ⟨e,rfl⟩
    ·exact .inr (.inr rfl)
  rcases stop with hs | hs
  ·rw[if_pos hs]
   refine⟨h.push [aH n],?_,cO.grew g hg1⟩
   obtain⟨s1,s2⟩:=hs
   refine ag pE rfl ?_;unfold nz
   simp only[sim,af,θ,ξ,η,reduceCtorEq,ψ,ω,aa,eI,pB,hc,hH,s1,s2]
  ·have hs':¬ (n.gate≠ -1∧G.hasGate n.gate=false):=by
    rintro⟨a,b⟩
    rcases hs with hs | hs
    ·exact a hs
    ·rw[b]at hs;cases hs
   rw[if_neg hs']
   have hs2:decide (n.gate= -1)=true∨decide (n.gate= -1)=false∧G.hasGate n.gate=true:=by
    rcases hs with hs | hs
    ·exact .inl (by simp[hs])
    ·by_cases e:n.gate= -1
     ·exact .inl (by simp[e])
     ·exact .inr ⟨by simp[e],hs⟩
   cases hd:decide ((G.nodes.length:Int)=80)
   ·have hne:¬ G.nodes.length=80:=by simp at hd;omega
    rw[if_neg hne]
    obtain⟨h',v',a1,a2,a3,a4,a5,a6,a7,a8,a9⟩:=Ef (h.push [aH n]) h2 (row:=aH n) rfl (by simp;omega)
    have hwr:IntKind.wrap .i64 (((G.nodes.length+1:Nat):Int) - 1)=(G.nodes.length:Int):=by rw[w64]<;>omega
    refine⟨h'.set b (some [[v',sv]]),?_,cO.after hg1 (KF g1 h3 a6 a7 a8 (by simpa using a9))⟩
    simp only[gM,List.length_map]at a1 a2
    rcases hs2 with hs2 | ⟨hs2,hs3⟩
    ·refine ag pE rfl ?_;unfold nz
     simp only[sim,af,θ,ξ,η,reduceCtorEq,ψ,ω,aa,eI,pB,hc,hH,hs2,hd,h1,h2.isL.len,h2.isL.fits,List.length_map,a1,a2,a3,a4,a5,a6,hwr]
    ·refine ag pE rfl ?_;unfold nz
     simp only[sim,af,θ,ξ,η,reduceCtorEq,ψ,ω,aa,eI,pB,hc,hH,hs2,hs3,hd,h1,h2.isL.len,h2.isL.fits,List.length_map,a1,a2,a3,a4,a5,a6,hwr]
   ·have he:G.nodes.length=80:=by simp at hd;omega
    rw[if_pos he]
    refine⟨h.push [aH n],?_,cO.grew g hg1⟩
    rcases hs2 with hs2 | ⟨hs2,hs3⟩
    ·refine ag pE rfl ?_;unfold nz
     simp only[sim,af,θ,ξ,η,reduceCtorEq,ψ,ω,aa,eI,pB,hc,hH,hs2,hd,h1,h2.isL.len,h2.isL.fits,List.length_map]
    ·refine ag pE rfl ?_;unfold nz
     simp only[sim,af,θ,ξ,η,reduceCtorEq,ψ,ω,aa,eI,pB,hc,hH,hs2,hs3,hd,h1,h2.isL.len,h2.isL.fits,List.length_map]
theorem OW (g:IsG h F J b G) (hW:G.Wf) (n:bw):∃ h',aj Tryz.prog po 99 [.ptr b 0 0,.agg (aH n)] h=some (.inl (.tup [.int .i64 (G.add n).2.1,.int .i64 (G.add n).2.2]),h')∧cO h F J b h' (G.add n).1:=by
 have hg1:=ab.push h [aH n]
 have g1:=g.grew hg1
 have hbn:h.n≠b:=by have:=g.hb.2;omega
 obtain⟨nv,sv,h1,h2,h3⟩:=g1.ex
 have hfew:=hW.few
 have hH:=FZ g1
 unfold ae.add
 skip
 cases hc:gX n.rights
 ·rw[if_pos rfl]
  refine⟨h.push [aH n],?_,cO.grew g hg1⟩
  refine ag pz rfl ?_;unfold nh
  have hc':decide (n.rights<0)=true∨decide (n.rights<0)=false∧decide (15<n.rights)=true:=by
   simp[gX]at hc
   simp only[decide_eq_true_eq,decide_eq_false_iff_not]
   omega
  rcases hc' with hc' | ⟨hc',hc2⟩
  ·simp only[sim,af,θ,ξ,η,reduceCtorEq,ψ,ω,aa,eI,hc']
  ·simp only[sim,af,θ,ξ,η,reduceCtorEq,ψ,ω,aa,eI,hc',hc2]
 ·rw[if_neg (by simp)]
  have hr0:decide (n.rights<0)=false:=by simp[gX]at hc;simp;omega
  have hr1:decide (15<n.rights)=false:=by simp[gX]at hc;simp;omega
  have stop:(n.gate≠ -1∧G.hasGate n.gate=false)∨(n.gate= -1∨G.hasGate n.gate=true):=by
   by_cases e:n.gate= -1
   ·exact .inr (.inl e)
   ·cases hh:G.hasGate n.gate
    ·exact .inl ⟨e,rfl⟩
    ·exact .inr (.inr rfl)
  rcases stop with hs | hs
  ·rw[if_pos hs]
   refine⟨h.push [aH n],?_,cO.grew g hg1⟩
   obtain⟨s1,s2⟩:=hs
   refine ag pz rfl ?_;unfold nh
   simp only[sim,af,θ,ξ,η,reduceCtorEq,ψ,ω,aa,eI,hr0,hr1,hH,s1,s2]
  ·have hs':¬ (n.gate≠ -1∧G.hasGate n.gate=false):=by
    rintro⟨a,b⟩
    rcases hs with hs | hs
    ·exact a hs
    ·rw[b]at hs;cases hs
   rw[if_neg hs']
   have hs2:decide (n.gate= -1)=true∨decide (n.gate= -1)=false∧G.hasGate n.gate=true:=by
    rcases hs with hs | hs
    ·exact .inl (by simp[hs])
    ·by_cases e:n.gate= -1
     ·exact .inl (by simp[e])
     ·exact .inr ⟨by simp[e],hs⟩
   cases hd:decide (80≤(G.nodes.length:Int))
   ·have hne:¬ G.nodes.length=80:=by simp at hd;omega
    rw[if_neg hne]
    obtain⟨h',v',a1,a2,a3,a4,a5,a6,a7,a8,a9⟩:=Ef (h.push [aH n]) h2 (row:=aH n) rfl (by simp;omega)
    have hwr:IntKind.wrap .i64 (((G.nodes.length+1:Nat):Int) - 1)=(G.nodes.length:Int):=by rw[w64]<;>omega
    refine⟨h'.set b (some [[v',sv]]),?_,cO.after hg1 (KF g1 h3 a6 a7 a8 (by simpa using a9))⟩
    simp only[gM,List.length_map]at a1 a2
    rcases hs2 with hs2 | ⟨hs2,hs3⟩
    ·refine ag pz rfl ?_;unfold nh
     simp only[sim,af,θ,ξ,η,reduceCtorEq,ψ,ω,aa,eI,hr0,hr1,hH,hs2,hd,h1,h2.isL.len,h2.isL.fits,List.length_map,a1,a2,a3,a4,a5,a6,hwr]
    ·refine ag pz rfl ?_;unfold nh
     simp only[sim,af,θ,ξ,η,reduceCtorEq,ψ,ω,aa,eI,hr0,hr1,hH,hs2,hs3,hd,h1,h2.isL.len,h2.isL.fits,List.length_map,a1,a2,a3,a4,a5,a6,hwr]
   ·have he:G.nodes.length=80:=by simp at hd;omega
    rw[if_pos he]
    refine⟨h.push [aH n],?_,cO.grew g hg1⟩
    rcases hs2 with hs2 | ⟨hs2,hs3⟩
    ·refine ag pz rfl ?_;unfold nh
     simp only[sim,af,θ,ξ,η,reduceCtorEq,ψ,ω,aa,eI,hr0,hr1,hH,hs2,hd,h1,h2.isL.len,h2.isL.fits,List.length_map]
    ·refine ag pz rfl ?_;unfold nh
     simp only[sim,af,θ,ξ,η,reduceCtorEq,ψ,ω,aa,eI,hr0,hr1,hH,hs2,hs3,hd,h1,h2.isL.len,h2.isL.fits,List.length_map]
end
section
variable {h h' h0:AH} {F J F0 J0:Nat→Prop} {X Y Z:Asn} {L:List Asn}
theorem Did.same (x:X.A h F J):Did h F J h X:=⟨F,J,x,Chg.refl _ _ _,fun _=> .inl,fun _=> .inl⟩
theorem Did.imp (hxy:∀ h F J,X.A h F J→Y.A h F J) (d:Did h F J h' X):Did h F J h' Y:=by
 obtain⟨F',J',x,r⟩:=d
 exact⟨F',J',hxy _ _ _ x,r⟩
theorem Did.chain (ch:Chg F0 J0 h0 h) (a:∀ k,F k→F0 k∨h0.n≤k) (b:∀ j,J j→J0 j∨h0.ids≤j) (d:Did h F J h' Y):Did h0 F0 J0 h' Y:=by
 obtain⟨F2,J2,y,c2,a2,b2⟩:=d
 refine⟨F2,J2,y,ch.then c2 a b,fun k hk=> ?_,fun j hj=> ?_⟩
 ·rcases a2 k hk with h | h
  ·exact a k h
  ·exact .inr (Nat.le_trans ch.n h)
 ·rcases b2 j hj with h | h
  ·exact b j h
  ·exact .inr (Nat.le_trans ch.ids h)
theorem zO (x:(fw X Z).A h F J) {R:AH→Prop} (c:∀ F1 J1,X.A h F1 J1→∃ h',R h'∧Did h F1 J1 h' Y):∃ h',R h'∧Did h F J h' (fw Y Z):=by
 obtain⟨F1,J1,F2,J2,x1,z,hF,hJ,dF,dJ⟩:=x
 obtain⟨h',r,F3,J3,y,c3,a3,b3⟩:=c F1 J1 x1
 have zl:=Z.lt z
 refine⟨h',r,fun k=>F3 k∨F2 k,fun j=>J3 j∨J2 j,⟨F3,J3,F2,J2,y,Z.keep z c3 (fun k hk h1=>dF k h1 hk) (fun j hj h1=>dJ j h1 hj),fun _=>Iff.rfl,fun _=>Iff.rfl,fun k h3 h2=> ?_,fun j h3 h2=> ?_⟩,?_,fun k hk=> ?_,fun j hj=> ?_⟩
 ·rcases a3 k h3 with h | h
  ·exact dF k h h2
  ·have:=zl.1 k h2;omega
 ·rcases b3 j h3 with h | h
  ·exact dJ j h h2
  ·have:=zl.2 j h2;omega
 ·exact⟨c3.n,c3.ids,fun k hk hn=>c3.cell k hk fun h1=>hn ((hF k).2 (.inl h1)),fun j hj hn=>c3.hw j hj fun h1=>hn ((hJ j).2 (.inl h1))⟩
 ·rcases hk with h | h
  ·exact(a3 k h).imp (fun h=>(hF k).2 (.inl h)) id
  ·exact .inl ((hF k).2 (.inr h))
 ·rcases hj with h | h
  ·exact(b3 j h).imp (fun h=>(hJ j).2 (.inl h)) id
  ·exact .inl ((hJ j).2 (.inr h))
theorem my (x:(fw X Y).A h F J):(fw Y X).A h F J:=by
 obtain⟨F1,J1,F2,J2,x1,z,hF,hJ,dF,dJ⟩:=x
 exact⟨F2,J2,F1,J1,z,x1,fun k=>(hF k).trans or_comm,fun j=>(hJ j).trans or_comm,fun k h2 h1=>dF k h1 h2,fun j h2 h1=>dJ j h1 h2⟩
theorem kK (x:(fw (fw X Y) Z).A h F J):(fw X (fw Y Z)).A h F J:=by
 obtain⟨F1,J1,F2,J2,⟨F3,J3,F4,J4,x3,y4,hF3,hJ3,dF3,dJ3⟩,z,hF,hJ,dF,dJ⟩:=x
 refine⟨F3,J3,fun k=>F4 k∨F2 k,fun j=>J4 j∨J2 j,x3,⟨F4,J4,F2,J2,y4,z,fun _=>Iff.rfl,fun _=>Iff.rfl,fun k h4=>dF k ((hF3 k).2 (.inr h4)),fun j h4=>dJ j ((hJ3 j).2 (.inr h4))⟩,fun k=> ?_,fun j=> ?_,fun k h3 h=> ?_,fun j h3 h=> ?_⟩
 ·rw[hF k,hF3 k,or_assoc]
 ·rw[hJ j,hJ3 j,or_assoc]
 ·rcases h with h | h
  ·exact dF3 k h3 h
  ·exact dF k ((hF3 k).2 (.inl h3)) h
 ·rcases h with h | h
  ·exact dJ3 j h3 h
  ·exact dJ j ((hJ3 j).2 (.inl h3)) h
theorem ii (x:(fw X (fw Y Z)).A h F J):(fw Y (fw X Z)).A h F J:=by
 have a:=kK (my x)
 obtain⟨F1,J1,F2,J2,y,zx,r⟩:=a
 exact⟨F1,J1,F2,J2,y,my zx,r⟩
theorem eB {X' Y':Asn} (hx:∀ h F J,X.A h F J→X'.A h F J) (hy:∀ h F J,Y.A h F J→Y'.A h F J) (x:(fw X Y).A h F J):(fw X' Y').A h F J:=by
 obtain⟨F1,J1,F2,J2,x1,y1,r⟩:=x
 exact⟨F1,J1,F2,J2,hx _ _ _ x1,hy _ _ _ y1,r⟩
def St (h0:AH) (F0 J0:Nat→Prop) (h:AH) (L:List Asn):Prop:=Did h0 F0 J0 h (bj L)
theorem St.perm {L':List Asn} (hp:List.Perm L L'):∀ {h F J},(bj L).A h F J→(bj L').A h F J:=by
 induction hp with
 | nil=>exact fun x=>x
 | cons X _ ih=>exact fun x=>eB (fun _ _ _ y=>y) (fun _ _ _ y=>ih y) x
 | swap X Y l=>exact fun x=>ii x
 | trans _ _ ih1 ih2=>exact fun x=>ih2 (ih1 x)
theorem bj.front:∀ {L:List Asn} {i:Nat} {X:Asn},L[i]? =some X→∀ {h F J},(bj L).A h F J↔(fw X (bj (L.eraseIdx i))).A h F J
 | [],i,X,hi,_,_,_=>by simp at hi
 | Y::L,0,X,hi,h,F,J=>by
   obtain rfl:Y=X:=by simpa using hi
   exact Iff.rfl
 | Y::L,i+1,X,hi,h,F,J=>by
   have ih:∀ {h:AH} {F J:Nat→Prop},(bj L).A h F J↔(fw X (bj (L.eraseIdx i))).A h F J:=bj.front (by simpa using hi)
   constructor
   ·intro x
    exact ii (eB (fun _ _ _ y=>y) (fun _ _ _ y=>ih.1 y) x)
   ·intro x
    exact eB (fun _ _ _ y=>y) (fun _ _ _ y=>ih.2 y) (ii x)
theorem bj.back {i:Nat} (hi:i<L.length) (x:(fw X (bj (L.eraseIdx i))).A h F J):(bj (L.set i X)).A h F J:=by
 rw[bj.front (L:=L.set i X) (i:=i) (X:=X) (by simp[hi])]
 rw[show(L.set i X).eraseIdx i=L.eraseIdx i from List.eraseIdx_set_eq]
 exact x
theorem St.call {R:AH→Prop} (s:St h0 F0 J0 h L) (i:Nat) (hi:L[i]? =some X) (c:∀ F J,X.A h F J→∃ h',R h'∧Did h F J h' Y):∃ h',R h'∧St h0 F0 J0 h' (L.set i Y):=by
 have hl:i<L.length:=(List.getElem?_eq_some_iff.1 hi).1
 obtain⟨F,J,x,ch,a,b⟩:=s
 obtain⟨h',r,d⟩:=zO ((bj.front hi).1 x) c
 exact⟨h',r,Did.chain ch a b (d.imp fun _ _ _ y=>bj.back hl y)⟩
theorem St.start (x:(bj L).A h F J):St h F J h L:=Did.same x
theorem St.get (s:St h0 F0 J0 h L) (i:Nat) (hi:L[i]? =some X):∃ F J,X.A h F J:=by
 obtain⟨F,J,x,_⟩:=s
 obtain⟨F1,J1,_,_,x1,_⟩:=(bj.front hi).1 x
 exact⟨F1,J1,x1⟩
theorem St.cell (s:St h0 F0 J0 h L) (i:Nat) {b:Nat} {es:List (List AV)} (hi:L[i]? =some (ah b es)):h.cell b=some es∧b<h.n:=by
 obtain⟨_,_,_,_,c,d⟩:=s.get i hi
 exact⟨d,c⟩
theorem St.imp {L':List Asn} (s:St h0 F0 J0 h L) (hx:∀ h F J,(bj L).A h F J→(bj L').A h F J):St h0 F0 J0 h L':=Did.imp hx s
theorem St.grew (s:St h0 F0 J0 h L) (g:ab h h'):St h0 F0 J0 h' L:=by
 obtain⟨F,J,x,ch,a,b⟩:=s
 have lt:=(bj L).lt x
 exact⟨F,J,(bj L).keep x (g.chg (fun _=>False) fun _=>False) (fun _ _ h=>h) (fun _ _ h=>h),ch.trans (g.chg _ _),a,b⟩
theorem St.add (s:St h0 F0 J0 h L) (g:ab h h') {F1 J1:Nat→Prop} (x1:X.A h' F1 J1) (hF:∀ k,F1 k→h.n≤k) (hJ:∀ j,J1 j→h.ids≤j):St h0 F0 J0 h' (X::L):=by
 obtain⟨F,J,x,ch,a,b⟩:=s
 have lt:=(bj L).lt x
 have x':=(bj L).keep x (g.chg (fun _=>False) fun _=>False) (fun _ _ h=>h) (fun _ _ h=>h)
 refine⟨fun k=>F1 k∨F k,fun j=>J1 j∨J j,⟨F1,J1,F,J,x1,x',fun _=>Iff.rfl,fun _=>Iff.rfl,fun k h1 h2=> ?_,fun j h1 h2=> ?_⟩,ch.trans (g.chg _ _),fun k hk=> ?_,fun j hj=> ?_⟩
 ·have:=lt.1 k h2;have:=hF k h1;omega
 ·have:=lt.2 j h2;have:=hJ j h1;omega
 ·exact hk.elim (fun h=> .inr (Nat.le_trans ch.n (hF k h))) (a k)
 ·exact hj.elim (fun h=> .inr (Nat.le_trans ch.ids (hJ j h))) (b j)
theorem St.push (s:St h0 F0 J0 h L) (es:List (List AV)):St h0 F0 J0 (h.push es) (ah h.n es::L):=
 s.add (ab.push h es) (F1:=fun k=>k=h.n) (J1:=fun _=>False) ⟨fun _=>Iff.rfl,fun _ h=>h,Nat.lt_succ_self _,ap⟩ (fun k hk=>Nat.le_of_eq hk.symm) (fun _ h=>h.elim)
theorem St.fresh (s:St h0 F0 J0 h L) (m:Nat):St h0 F0 J0 (h.fresh m) (idA h.ids m::L):=
 s.add (ab.fresh h m) (F1:=fun _=>False) (J1:=fun j=>j=h.ids) ⟨fun _ h=>h,fun _=>Iff.rfl,Nat.lt_succ_self _,by simp[AH.fresh]⟩ (fun _ h=>h.elim) (fun j hj=>Nat.le_of_eq hj.symm)
theorem St.set (s:St h0 F0 J0 h L) (i:Nat) {b:Nat} {es:List (List AV)} (hi:L[i]? =some (ah b es)) (fs:List (List AV)):St h0 F0 J0 (h.set b (some fs)) (L.set i (ah b fs)):=by
 obtain⟨h',rfl,d⟩:=s.call (R:=fun q=>q=h.set b (some fs)) i hi (Y:=ah b fs) fun F J ⟨a1,a2,a3,a4⟩=>⟨_,rfl,F,J,⟨a1,a2,a3,bR⟩,⟨Nat.le_refl _,Nat.le_refl _,fun k _ hk=>bu fun e=>hk ((a1 k).2 e),fun _ _ _=>rfl⟩,fun _=> .inl,fun _=> .inl⟩
 exact d
theorem St.del (s:St h0 F0 J0 h L) (i:Nat) {b:Nat} {es:List (List AV)} (hi:L[i]? =some (ah b es)):St h0 F0 J0 (h.set b none) (L.set i (zs True)):=by
 obtain⟨h',rfl,d⟩:=s.call (R:=fun q=>q=h.set b none) i hi (Y:=zs True) fun F J ⟨a1,a2,a3,a4⟩=>⟨_,rfl,fun _=>False,fun _=>False,⟨trivial,fun _ h=>h,fun _ h=>h⟩,⟨Nat.le_refl _,Nat.le_refl _,fun k _ hk=>bu fun e=>hk ((a1 k).2 e),fun _ _ _=>rfl⟩,fun _ h=>h.elim,fun _ h=>h.elim⟩
 exact d
theorem St.drop (s:St h0 F0 J0 h (X::L)):St h0 F0 J0 h L:=by
 obtain⟨F,J,⟨F1,J1,F2,J2,_,x2,hF,hJ,_,_⟩,ch,a,b⟩:=s
 exact⟨F2,J2,x2,ch,fun k hk=>a k ((hF k).2 (.inr hk)),fun j hj=>b j ((hJ j).2 (.inr hj))⟩
end
open Go Go.ChangeShapes Go.WideShapes Go.ChangeAt Go.RowKit Go.Deep
def TyA (P:Program):Nat→TypeId→List AV→Prop
 | 0,_,_=>False
 | n+1,t,cs=>match P.underlying t with
   | some .bool=>∃ b,cs=[.bool b]
   | some (.int k)=>∃ z,cs=[.int k z]∧(Lit.int k z).wf=true
   | some .string=>∃ s,cs=[.str s]∧s.length≤maxLen
   | some (.slice e)=>cs=[.nils]∨∃ es,cs=[.isl none e es]∧es.length≤maxLen∧∀ r∈es,r.length=P.cellsOf e∧TyA P n e r
   | some (.struct fs)=>∃ parts:List (List AV),cs=parts.flatten∧parts.length=fs.size∧∀ (i:Nat) (f:Field),fs[i]? =some f→∃ p,parts[i]? =some p∧p.length=P.cellsOf f.type∧TyA P n f.type p
   | _=>False
def kZ (P:Program):Nat→List Field→Nat→Bool
 | o,[],m=>o==m
 | o,f::r,m=>f.offset==o && kZ P (o+P.cellsOf f.type) r m
def sf (P:Program) (S:List TypeId):Bool:=S.all fun t=>match P.underlying t with
 | some .bool | some (.int _) | some .string=>true
 | some (.slice e)=>S.contains e && P.cellsOf e != 0
 | some (.struct fs)=>kZ P 0 fs.toList (P.cellsOf t) && fs.toList.all fun f=>S.contains f.type
 | _=>false
theorem wL {P:Program}:∀ {l:List Field} {o m:Nat},kZ P o l m=true→o≤m
 | [],o,m,h=>by simp[kZ]at h;omega
 | f::r,o,m,h=>by
   simp only[kZ,Bool.and_eq_true]at h
   have:=wL h.2
   omega
section
variable {H:Type} {enc:TypeId×Value→H} {P:Program} {W:World} {S:List TypeId}
theorem ut {n:Nat} (ih:∀ t cs x,t∈S→DataW.trod enc P W 0 (fun _=>true) true n t cs=some x→∃ avs,TyA P n t avs∧VRs P (m0A W) h0A avs cs):
  ∀ (fl:List Field) (o m:Nat) (cs:List Value),kZ P o fl m=true→cs.length=m→(∀ f∈fl,f.type∈S∧∃ x,DataW.trod enc P W 0 (fun _=>true) true n f.type ((cs.drop f.offset).take (P.cellsOf f.type))=some x)→
  ∃ parts:List (List AV),parts.length=fl.length∧(∀ (i:Nat) (f:Field),fl[i]? =some f→∃ p,parts[i]? =some p∧p.length=P.cellsOf f.type∧TyA P n f.type p)∧VRs P (m0A W) h0A parts.flatten (cs.drop o)
 | [],o,m,cs,h,hc,hf=>by
   simp only[kZ,beq_iff_eq]at h
   refine⟨[],rfl,fun i f hi=>by simp at hi,?_⟩
   rw[List.drop_eq_nil_of_le (by omega)]
   exact VRs.nil
 | f::fl,o,m,cs,h,hc,hf=>by
   simp only[kZ,Bool.and_eq_true,beq_iff_eq]at h
   obtain⟨h1,h2⟩:=h
   have hle:=wL h2
   obtain⟨hs,x,hx⟩:=hf f (by simp)
   obtain⟨p,hp1,hp2⟩:=ih _ _ _ hs hx
   obtain⟨parts,q1,q2,q3⟩:=ut ih fl (o+P.cellsOf f.type) m cs h2 hc (fun g hg=>hf g (by simp[hg]))
   rw[h1]at hp2
   have hl:p.length=P.cellsOf f.type:=by
    have:=hp2.1
    rw[List.length_take,List.length_drop]at this
    omega
   refine⟨p::parts,by simp[q1],?_,?_⟩
   ·intro i g hi
    cases i with
    | zero=>
      obtain rfl:f=g:=by simpa using hi
      exact⟨p,rfl,hl,hp1⟩
    | succ i=>exact q2 i g (by simpa using hi)
   ·have e:cs.drop o=(cs.drop o).take (P.cellsOf f.type)++cs.drop (o+P.cellsOf f.type):=by
     rw[←List.drop_drop,List.take_append_drop]
    rw[e,List.flatten_cons]
    exact VRs.append hp2 q3
theorem Bv (hS:sf P S=true):∀ (fuel:Nat) (t:TypeId) (cs:List Value) (x:DataW H×List MemPlace),t∈S→DataW.trod enc P W 0 (fun _=>true) true fuel t cs=some x→
  ∃ avs,TyA P fuel t avs∧VRs P (m0A W) h0A avs cs
 | 0,t,cs,x,_,h=>by simp[DataW.trod]at h
 | n+1,t,cs,x,ht,h=>by
   have hS':=hS
   have hc:=List.all_eq_true.1 hS t ht
   simp only[TyA]
   split at hc
   ·rename_i hu
    obtain⟨b,rfl, -⟩:=DataW.trod_bool hu h
    exact⟨_,⟨b,rfl⟩,VRs.cons (.bool b) VRs.nil⟩
   ·rename_i k hu
    obtain⟨z,rfl, -,hw⟩:=DataW.trod_int hu h
    exact⟨_,⟨z,rfl,hw⟩,VRs.cons (.int k z) VRs.nil⟩
   ·rename_i hu
    obtain⟨s,rfl, -,hw⟩:=DataW.trod_string hu h
    exact⟨_,⟨s.data.toList,rfl,by simpa using hw⟩,VRs.cons (X7 s) VRs.nil⟩
   ·rename_i e hu
    simp only[Bool.and_eq_true,bne_iff_ne,ne_eq,List.contains_iff_mem]at hc
    rcases DataW.trod_slice hu h with⟨rfl, -⟩ | ⟨a,len,cap,elems,rest,n',hn,rfl, -,hb,hl,hm,hlen,hel, -, -⟩
    ·exact⟨_,Or.inl rfl,VRs.cons .nils VRs.nil⟩
    ·obtain rfl:n=n':=by omega
     have key:∀ i,i<len→∃ q:List AV×List Value,W.cells? 0 (a.add (i*P.cellsOf e)) (P.cellsOf e)=some q.2∧TyA P n e q.1∧VRs P (m0A W) h0A q.1 q.2:=by
      intro i hi
      have h1:=hel i hi
      rw[List.getElem?_eq_getElem (by omega)]at h1
      obtain⟨cs',h2,h3⟩:=Option.bind_eq_some_iff.1 h1
      obtain⟨avs,h4,h5⟩:=Bv hS' n e cs' _ hc.1 h3
      exact⟨(avs,cs'),h2,h4,h5⟩
     obtain⟨V,hV⟩:=choose_lt key
     have hlen2:∀ i,i<len→(V i).1.length=P.cellsOf e∧(V i).2.length=P.cellsOf e:=fun i hi=>by
      obtain⟨h1,h2,h3⟩:=hV i hi
      have:=(World.cells?_some h1).2.1
      exact⟨by rw[←this,h3.1],this⟩
     refine⟨_,Or.inr ⟨(List.range len).map fun i=>(V i).1,rfl,by simp;omega,?_⟩,VRs.cons ?_ VRs.nil⟩
     ·intro r hr
      obtain⟨i,hi,rfl⟩:=List.mem_map.1 hr
      have hi:=List.mem_range.1 hi
      exact⟨(hlen2 i hi).1,(hV i hi).2.1⟩
     ·by_cases hz:len=0
      ·subst hz
       exact .isl0 e a cap
      ·have ha:a=⟨a.block,a.off,none⟩:=by
        obtain⟨h1,h2,h3⟩:=hV 0 (by omega)
        have:=(World.cells?_some h1).2.2 0 (by omega)
        rw[List.getElem?_eq_getElem (by rw[(hlen2 0 (by omega)).2];omega)]at this
        have hsp:=World.cell?_spot this
        obtain⟨b,o,sp⟩:=a
        simp[Addr.add]at hsp
        subst hsp
        rfl
       have:=VR.isl (P:=P) (m:=m0A W) (h:=h0A) none e ((List.range len).map fun i=>(V i).1) a.block a.off cap (fun i j=>(V i).2.getD j default) (fun r hr=> ?_) (fun i hi j hj=> ?_) (fun i hi j hj=> ?_) (by simpa using hl) (fun q hq=>by cases hq)
       ·rw[←ha]at this
        simpa using this
       ·obtain⟨i,hi,rfl⟩:=List.mem_map.1 hr
        exact(hlen2 i (List.mem_range.1 hi)).1
       ·simp only[List.length_map,List.length_range]at hi
        obtain⟨h1,h2,h3⟩:=hV i hi
        have h4:=(World.cells?_some h1).2.2 j hj
        rw[Go.Deep.add_add,ha,Addr.add_lit]at h4
        have h5:j<(V i).2.length:=by rw[(hlen2 i hi).2];exact hj
        rw[List.getElem?_eq_getElem h5]at h4
        show W.cell? _=_
        rw[h4]
        simp[List.getD,h5]
       ·simp only[List.length_map,List.length_range]at hi
        obtain⟨h1,h2,h3⟩:=hV i hi
        simp only[List.getElem_map,List.getElem_range]at hj ⊢
        have h5:j<(V i).2.length:=by rw[h3.1];exact hj
        have:=h3.2 j hj h5
        simpa[List.getD,h5]using this
   ·rename_i fs hu
    simp only[Bool.and_eq_true,List.all_eq_true,List.contains_iff_mem]at hc
    obtain⟨xs,n',hn, -,hl,hxl,hf⟩:=DataW.trod_struct hu h
    obtain rfl:n=n':=by omega
    obtain⟨parts,q1,q2,q3⟩:=ut (S:=S) (n:=n) (fun t cs x ht h=>Bv hS' n t cs x ht h) fs.toList 0 (P.cellsOf t) cs hc.1 hl (fun f hm=>⟨hc.2 f hm,by
     obtain⟨i,hi⟩:=List.mem_iff_getElem?.1 hm
     rw[Array.getElem?_toList]at hi
     have h1:=hf i f hi
     have h2:=(Array.getElem?_eq_some_iff.1 hi).1
     rw[List.getElem?_eq_getElem (by omega)]at h1
     exact⟨_,h1⟩⟩)
    exact⟨_,⟨parts,rfl,by simpa using q1,fun i f hi=>q2 i f (by rw[Array.getElem?_toList];exact hi)⟩,by simpa using q3⟩
   ·cases hc
theorem xA {t e:TypeId} (hS:sf P S=true) (hm:t∈S) (hu:P.underlying t=some (.slice e)) {v:Value} {d:DataW H} {p:List MemPlace} {r:Reach} {b0:Nat} (hok:Value.okWide P W r b0 t v) (h:DataW.Trod enc P W 0 (fun _=>true) true t v d p):
  ∃ n av,TyA P n t [av]∧VR P (m0A W) h0A av v:=by
 obtain⟨a,len,cap,rfl⟩:=okWide_slice hu hok
 obtain⟨fuel,hf⟩:=h
 obtain⟨avs,h1,h2⟩:=Bv hS fuel t _ _ hm hf
 have hl:=h2.1
 match avs,hl with
 | [av],_=>exact⟨fuel,av,h1,h2.2 0 (by simp) (by simp[Value.cells])⟩
end
section
variable {P:Program} {t e:TypeId} {cs:List AV}
theorem iV {n:Nat} {k:IntKind} (hu:P.underlying t=some (.int k)) (h:TyA P n t cs):∃ z,cs=[.int k z]∧(Lit.int k z).wf=true:=by
 cases n with
 | zero=>exact h.elim
 | succ n=>simpa only[TyA,hu]using h
def InS (e:TypeId) (v:AV) (es:List (List AV)):Prop:=(es=[]∧v= .nils)∨v= .isl none e es
theorem InS.isL {v:AV} {es:List (List AV)} (h:InS e v es):IsL e v es:=by
 rcases h with⟨rfl,rfl⟩ | rfl
 ·exact n7 e
 ·exact pF _ _ _
theorem ub {n:Nat} (hu:P.underlying t=some (.slice e)) (h:TyA P n t cs):∃ m v es,n=m+1∧cs=[v]∧InS e v es∧es.length≤maxLen∧∀ r∈es,r.length=P.cellsOf e∧TyA P m e r:=by
 cases n with
 | zero=>exact h.elim
 | succ n=>
   simp only[TyA,hu]at h
   rcases h with rfl | ⟨es,rfl,h1,h2⟩
   ·exact⟨n,.nils,[],rfl,rfl,.inl ⟨rfl,rfl⟩,by simp,fun r hr=>by simp at hr⟩
   ·exact⟨n,_,es,rfl,rfl,.inr rfl,h1,h2⟩
def ns (P:Program) (t:TypeId):Option (List TypeId):=match P.underlying t with
 | some (.struct fs)=>some (fs.toList.map (·.type))
 | _=>none
theorem mc {n:Nat} {ts:List TypeId} (hu:ns P t=some ts) (h:TyA P n t cs):∃ m,n=m+1∧∃ parts:List (List AV),cs=parts.flatten∧parts.length=ts.length∧∀ (i:Nat) (t':TypeId),ts[i]? =some t'→∃ p,parts[i]? =some p∧p.length=P.cellsOf t'∧TyA P m t' p:=by
 cases n with
 | zero=>exact h.elim
 | succ n=>
   unfold ns at hu
   simp only[TyA]at h
   split at hu
   ·rename_i fs hf
    cases hu
    rw[hf]at h
    obtain⟨parts,h1,h2,h3⟩:=h
    refine⟨n,rfl,parts,h1,by simpa using h2,fun i t' hi=> ?_⟩
    rw[List.getElem?_map]at hi
    obtain⟨f,h4,h5⟩:=Option.map_eq_some_iff.1 hi
    subst h5
    exact h3 i f (by rw[←Array.getElem?_toList];exact h4)
   ·cases hu
theorem ZL {α:Type} {l:List α} (h:l.length=1):∃ a,l=[a]:=by
 match l,h with
 | [a],_=>exact⟨a,rfl⟩
theorem Zx {α:Type} {l:List α} (h:l.length=2):∃ a b,l=[a,b]:=by
 match l,h with
 | [a,b],_=>exact⟨a,b,rfl⟩
theorem Wn {α:Type} {l:List α} (h:l.length=3):∃ a b c,l=[a,b,c]:=by
 match l,h with
 | [a,b,c],_=>exact⟨a,b,c,rfl⟩
theorem VP {α:Type} {l:List α} (h:l.length=4):∃ a b c d,l=[a,b,c,d]:=by
 match l,h with
 | [a,b,c,d],_=>exact⟨a,b,c,d,rfl⟩
end
theorem SlA.isL {e:TypeId} {v:AV} {es:List (List AV)} (h:SlA e v es):IsL e v es:=by
 rcases h with⟨rfl,rfl⟩ | ⟨id,rfl⟩
 ·exact n7 e
 ·exact pF _ _ _
theorem InS.sla {e:TypeId} {v:AV} {es:List (List AV)} (h:InS e v es):SlA e v es:=by
 rcases h with h | h
 ·exact .inl h
 ·exact .inr ⟨_,h⟩
theorem VaL.len:∀ {l:List VD} {es:List (List AV)},VaL l es→es.length=l.length
 | [],es,h=>by
   simp only[VaL]at h
   subst h
   rfl
 | x::l,es,h=>by
   simp only[VaL]at h
   obtain⟨r,rs,rfl,_,h2⟩:=h
   simp[VaL.len h2]
theorem VaL.get:∀ {l:List VD} {es:List (List AV)} {i:Nat} {x:VD},VaL l es→l[i]? =some x→∃ r,es[i]? =some r∧VaA x r
 | [],es,i,x,h,hx=>by simp at hx
 | y::l,es,i,x,h,hx=>by
   simp only[VaL]at h
   obtain⟨r,rs,rfl,h1,h2⟩:=h
   cases i with
   | zero=>
     obtain rfl:y=x:=by simpa using hx
     exact⟨r,rfl,h1⟩
   | succ i=>simpa using VaL.get h2 (by simpa using hx)
theorem VaL.append {l:List VD} {es:List (List AV)} {x:VD} {r:List AV} (h:VaL l es) (hx:VaA x r):VaL (l++[x]) (es++[r]):=by
 induction l generalizing es with
 | nil=>
   simp only[VaL]at h
   subst h
   simp[VaL,hx]
 | cons y l ih=>
   simp only[VaL]at h
   obtain⟨q,rs,rfl,h1,h2⟩:=h
   exact⟨q,rs++[r],rfl,h1,ih h2⟩
theorem VaA.row {x:VD} {r:List AV} (h:VaA x r):∃ v es,r=[.int .i64 x.kind,.int .i64 x.n,v]∧SlA tV v es∧VaL x.l es:=by
 cases x with
 | mk kind n l=>simp only[VaA]at h;exact h
theorem VaA.one {x:VD} {r:List AV} (h:VaA x r):r.all AV.one=true∧r.length=3:=by
 obtain⟨v,es,rfl,hv,_⟩:=h.row
 rcases hv with⟨_,rfl⟩ | ⟨id,rfl⟩<;>exact⟨rfl,rfl⟩
mutual
theorem JG:∀ {x:VD} {r:List AV},VaA x r→∃ r',wkL r=some r'∧VaA x r'
 | .mk kind n l,r,h=>by
   simp only[VaA]at h
   obtain⟨v,es,rfl,hv,hl⟩:=h
   obtain⟨es',h1,h2⟩:=PY hl
   rcases hv with⟨rfl,rfl⟩ | ⟨id,rfl⟩
   ·exact⟨_,rfl,by simp only[VaA];exact⟨_,[],rfl,.inl ⟨rfl,rfl⟩,hl⟩⟩
   ·refine⟨[.int .i64 kind,.int .i64 n,.isl none tV es'],?_,?_⟩
    ·simp only[wkL,wkA,h1,Option.map_some]
    ·simp only[VaA]
     exact⟨_,es',rfl,.inr ⟨_,rfl⟩,h2⟩
theorem PY:∀ {l:List VD} {es:List (List AV)},VaL l es→∃ es',wkR es=some es'∧VaL l es'
 | [],es,h=>by
   simp only[VaL]at h
   subst h
   exact⟨[],rfl,rfl⟩
 | x::l,es,h=>by
   simp only[VaL]at h
   obtain⟨r,rs,rfl,h1,h2⟩:=h
   obtain⟨r',q1,q2⟩:=JG h1
   obtain⟨rs',q3,q4⟩:=PY h2
   exact⟨r'::rs',by simp only[wkR,q1,q3],by simp only[VaL];exact⟨r',rs',rfl,q2,q4⟩⟩
end
structure vW (h:AH) (v:AV) (l:List VD):Prop where
 len:eW v=some l.length
 fits:∀ s,ew s (some tV) v=true
 one:v.one=true
 ix:∀ (i:Nat) (y:VD),l[i]? =some y→∃ a q,bL (some tV) none v (.int .i64 (i:Int))=some a∧(∀ h',ab h h'→aR true 3 h' a=some (.agg q))∧VaA y q
theorem vW.of {h:AH} {v:AV} {es:List (List AV)} {l:List VD} (hv:SlA tV v es) (hl:VaL l es):vW h v l:=by
 refine⟨?_,hv.isL.fits,?_,fun i y hy=> ?_⟩
 ·rw[←hl.len];exact hv.isL.len
 ·rcases hv with⟨_,rfl⟩ | ⟨id,rfl⟩<;>rfl
 ·obtain⟨q,h1,h2⟩:=hl.get hy
  exact⟨.ip q 0,q,hv.isL.ix .i64 i q h1,fun h' _=>bi h2.one.2,h2⟩
theorem VaA.mk {x:VD} {v:AV} {es:List (List AV)} (hv:SlA tV v es) (hl:VaL x.l es):VaA x [.int .i64 x.kind,.int .i64 x.n,v]:=by
 rw[x.eta]
 simp only[VaA]
 exact⟨v,es,rfl,hv,by simpa[VD.l]using hl⟩
theorem VaA.facts {x:VD} {r:List AV} (h:VaA x r):∃ v es,r=[.int .i64 x.kind,.int .i64 x.n,v]∧IsL tV v es∧v.one=true∧es.length=x.l.length∧
  ∀ (i:Nat) (y:VD),x.l[i]? =some y→∃ q,bL (some tV) none v (.int .i64 (i:Int))=some (.ip q 0)∧ldA true 3 q 0=some (.agg q)∧VaA y q:=by
 obtain⟨v,es,rfl,hv,hl⟩:=h.row
 refine⟨v,es,rfl,hv.isL,?_,hl.len,fun i y hy=> ?_⟩
 ·rcases hv with⟨_,rfl⟩ | ⟨id,rfl⟩<;>rfl
 ·obtain⟨q,h1,h2⟩:=hl.get hy
  exact⟨q,hv.isL.ix .i64 i q h1,bi h2.one.2,h2⟩
theorem Z1:ns Tryz.prog tV=some [3,2,33]:=by kernel_rfl
theorem ZE:(Tryz.prog).underlying 3=some (.int .i64):=by kernel_rfl
theorem TM:(Tryz.prog).underlying 2=some (.int .i64):=by kernel_rfl
theorem YI:(Tryz.prog).underlying 33=some (.slice tV):=by kernel_rfl
mutual
def VD.wf:VD→Prop
 | .mk kind n l=>Kb kind∧Kb n∧XL l
def XL:List VD→Prop
 | []=>True
 | x::l=>x.wf∧XL l
end
theorem Wv {z:Int} (w:(Lit.int .i64 z).wf=true):Kb z:=by simpa[Kb,Lit.wf,IntKind.min,IntKind.max,IntKind.signed,IntKind.bits]using w
theorem Zn:∀ (n:Nat) (r:List AV),TyA Tryz.prog n tV r→∃ x:VD,VaA x r∧x.wf:=by
 intro n
 induction n using Nat.strongRecOn with
 | ind n ih=>
   intro r h
   obtain⟨m,rfl,parts,rfl,hl,hf⟩:=mc Z1 h
   obtain⟨p0,a0,_,b0⟩:=hf 0 _ rfl
   obtain⟨p1,a1,_,b1⟩:=hf 1 _ rfl
   obtain⟨p2,a2,_,b2⟩:=hf 2 _ rfl
   obtain⟨k,rfl,w0⟩:=iV ZE b0
   obtain⟨z,rfl,w1⟩:=iV TM b1
   obtain⟨m',v,es,rfl,rfl,hv,_,hr⟩:=ub YI b2
   obtain⟨c0,c1,c2,rfl⟩:=Wn hl
   simp only[List.getElem?_cons_zero,List.getElem?_cons_succ,Option.some.injEq]at a0 a1 a2
   subst a0 a1 a2
   have key:∀ es:List (List AV),(∀ r∈es,∃ x:VD,VaA x r∧x.wf)→∃ l,VaL l es∧XL l:=by
    intro es
    induction es with
    | nil=>intro _;exact⟨[],rfl,trivial⟩
    | cons r es ih2=>
      intro hh
      obtain⟨x,hx,hw⟩:=hh r (by simp)
      obtain⟨l,hl,hw2⟩:=ih2 fun q hq=>hh q (by simp[hq])
      exact⟨x::l,by simp only[VaL];exact⟨r,es,rfl,hx,hl⟩,hw,hw2⟩
   obtain⟨l,hl,hw⟩:=key es fun r hr'=>ih m' (by omega) r (hr r hr').2
   exact⟨.mk k z l,by simp only[VaA];exact⟨v,es,rfl,hv.sla,hl⟩,Wv w0,Wv w1,hw⟩
abbrev tFr:TypeId:=126
abbrev tGo:TypeId:=127
theorem VaA.len3 {x:VD} {r:List AV} (h:VaA x r):r.length=3∧r.all AV.one=true:=by
 cases x with
 | mk k n l=>
   obtain⟨v,es,rfl,h1,_⟩:=h
   rcases h1 with⟨_,rfl⟩ | ⟨id,rfl⟩<;>exact⟨rfl,rfl⟩
theorem VaL.app:∀ {l m:List VD} {es fs:List (List AV)},VaL l es→VaL m fs→VaL (l++m) (es++fs)
 | [],m,es,fs,h,g=>by simp only[VaL]at h;subst h;exact g
 | x::l,m,es,fs,h,g=>by
   obtain⟨r,rs,rfl,h1,h2⟩:=h
   exact⟨r,rs++fs,rfl,h1,VaL.app h2 g⟩
theorem VaL.one {x:VD} {r:List AV} (h:VaA x r):VaL [x] [r]:=⟨r,[],rfl,h,rfl⟩
theorem VaL.take:∀ {l:List VD} {es:List (List AV)},VaL l es→∀ n,VaL (l.take n) (es.take n)
 | [],_,h,n=>by simp only[VaL]at h;subst h;simp[VaL]
 | y::l,es,h,n=>by
   obtain⟨r,rs,rfl,h1,h2⟩:=h
   cases n with
   | zero=>simp[VaL]
   | succ n=>exact⟨r,rs.take n,rfl,h1,VaL.take h2 n⟩
def aaj (e:TypeId) (v:AV) (rows:List (List AV)):Asn:=orA (zs (rows=[]∧v= .nils)) (rO fun q:Nat×List (List AV)=>xU (v= .msl q.1 0 rows.length e∧rows.length≤q.2.length∧rows=q.2.take rows.length) (ah q.1 q.2))
def iT (v:AV) (l:List VD):Asn:=rO fun rows:List (List AV)=>xU (VaL l rows) (aaj tV v rows)
def dL (f:FrD) (a:List AV) (s n g:AV):List AV:=[.int .i64 f.plugin,.int .i64 f.f,.int .i64 (f.pc:Int)]++a++[s,n,.bool f.asked,g]
def qp (row:List AV) (f:FrD):Asn:=rO fun q:List AV×AV×AV×AV=>xU (row=dL f q.1 q.2.1 q.2.2.1 q.2.2.2∧VaA f.arg q.1∧SlA 3 q.2.2.2 (bH f.gates)) (fw (iT q.2.1 f.stack) (iT q.2.2.1 f.names))
def gq:List (List AV)→List FrD→Asn
 | [],[]=>zs True
 | r::rs,f::fs=>fw (qp r f) (gq rs fs)
 | _,_=>zs False
def fR (mb bb fb:Nat) (left:Int) (below:List FrD) (top:FrD):Asn:=rO fun q:List (List AV)×List AV×List (List AV)=>
 fw (ah mb [[.ptr bb 0 0,.msl fb 0 (below.length+1) tFr,.int .i64 left]]) (fw (ah fb (q.1++q.2.1::q.2.2)) (fw (qp q.2.1 top) (gq q.1 below)))
section
variable {h h' h0:AH} {F J F0 J0:Nat→Prop} {L:List Asn} {mb bb fb:Nat} {left:Int} {below:List FrD} {top:FrD}
theorem pf:∀ {rs:List (List AV)} {fs:List FrD} {h:AH} {F J:Nat→Prop},(gq rs fs).A h F J→rs.length=fs.length
 | [],[],_,_,_,_=>rfl
 | r::rs,f::fs,_,_,_,h=>by
   obtain⟨_,_,_,_,_,y,_⟩:=h
   simp[pf y]
 | [],_::_,_,_,_,h=>h.1.elim
 | _::_,[],_,_,_,h=>h.1.elim
theorem bj.nil (F J:Nat→Prop) (h:AH) (hF:∀ k,¬ F k) (hJ:∀ j,¬ J j):(bj []).A h F J:=⟨trivial,hF,hJ⟩
theorem bj.two {X Y:Asn} (x:(fw X Y).A h F J):(bj [X,Y]).A h F J:=by
 obtain⟨F1,J1,F2,J2,x1,y,hF,hJ,dF,dJ⟩:=x
 exact⟨F1,J1,F2,J2,x1,⟨F2,J2,fun _=>False,fun _=>False,y,⟨trivial,fun _ h=>h,fun _ h=>h⟩,fun k=>by simp,fun j=>by simp,fun _ _ h=>h,fun _ _ h=>h⟩,hF,hJ,dF,dJ⟩
theorem bj.one {X:Asn} (x:X.A h F J):(bj [X]).A h F J:=⟨F,J,fun _=>False,fun _=>False,x,⟨trivial,fun _ h=>h,fun _ h=>h⟩,fun k=>by simp,fun j=>by simp,fun _ _ h=>h,fun _ _ h=>h⟩
theorem bj.one' {X:Asn} (x:(bj [X]).A h F J):X.A h F J:=by
 obtain⟨F1,J1,F2,J2,x1,⟨_,e1,e2⟩,hF,hJ,_,_⟩:=x
 have e3:F=F1:=by funext k;exact propext ((hF k).trans ⟨fun h=>h.resolve_right (e1 k),.inl⟩)
 have e4:J=J1:=by funext j;exact propext ((hJ j).trans ⟨fun h=>h.resolve_right (e2 j),.inl⟩)
 rw[e3,e4];exact x1
theorem bj.star_in {X Y:Asn} (x:(bj (fw X Y::L)).A h F J):(bj (X::Y::L)).A h F J:=kK x
theorem mM {X Y Z:Asn} (x:(fw X (fw Y Z)).A h F J):(fw (fw X Y) Z).A h F J:=my (kK (my (kK (my x))))
theorem bj.star_out {X Y:Asn} (x:(bj (X::Y::L)).A h F J):(bj (fw X Y::L)).A h F J:=mM x
abbrev NB (mb bb fb:Nat) (left:Int) (below:List FrD) (top:FrD) (rs ex:List (List AV)) (a:List AV) (s n g:AV):List Asn:=
 [ah mb [[.ptr bb 0 0,.msl fb 0 (below.length+1) tFr,.int .i64 left]],ah fb (rs++dL top a s n g::ex),iT s top.stack,iT n top.names,gq rs below]
theorem kP (x:(fR mb bb fb left below top).A h F J):∃ rs ex a s n g,rs.length=below.length∧VaA top.arg a∧SlA 3 g (bH top.gates)∧St h F J h (NB mb bb fb left below top rs ex a s n g):=by
 obtain⟨⟨rs,row,ex⟩,x⟩:=x
 obtain⟨F1,J1,F2,J2,x1,⟨F3,J3,F4,J4,x3,⟨F5,J5,F6,J6,⟨⟨a,s,n,g⟩,⟨e,ha,hg⟩,x5⟩,x6,r6⟩,r4⟩,r2⟩:=x
 simp only at e
 subst e
 refine⟨rs,ex,a,s,n,g,pf x6,ha,hg,St.start ?_⟩
 exact⟨F1,J1,F2,J2,x1,⟨F3,J3,F4,J4,x3,bj.star_in (L:=[gq rs below]) ⟨F5,J5,F6,J6,x5,bj.one x6,r6⟩,r4⟩,r2⟩
theorem M2 {rs ex:List (List AV)} {a:List AV} {s n g:AV} (ha:VaA top.arg a) (hg:SlA 3 g (bH top.gates)) (x:(bj (NB mb bb fb left below top rs ex a s n g)).A h F J):(fR mb bb fb left below top).A h F J:=by
 obtain⟨F1,J1,F2,J2,x1,⟨F3,J3,F4,J4,x3,x4,r4⟩,r2⟩:=x
 obtain⟨F5,J5,F6,J6,x5,x6,r6⟩:=bj.star_out (X:=iT s top.stack) (Y:=iT n top.names) (L:=[gq rs below]) x4
 exact⟨⟨rs,dL top a s n g,ex⟩,F1,J1,F2,J2,x1,⟨F3,J3,F4,J4,x3,⟨F5,J5,F6,J6,⟨⟨a,s,n,g⟩,⟨rfl,ha,hg⟩,x5⟩,bj.one' x6,r6⟩,r4⟩,r2⟩
theorem pM {rs ex:List (List AV)} {a:List AV} {s n g:AV} (ha:VaA top.arg a) (hg:SlA 3 g (bH top.gates)) (s0:St h0 F0 J0 h (NB mb bb fb left below top rs ex a s n g)):Did h0 F0 J0 h (fR mb bb fb left below top):=
 Did.imp (fun _ _ _ x=>M2 ha hg x) s0
theorem kC {v:AV} {l:List VD} (x:(iT v l).A h F J):v.one=true∧v.cells=[v]∧eW v=some l.length∧(∀ s,ew s (some tV) v=true)∧(∀ (q:IntKind) (i:Nat) (y:VD),l[i]? =some y→∃ p r,bL (some tV) none v (.int q (i:Int))=some p∧aR true 3 h p=some (.agg r)∧VaA y r):=by
 obtain⟨rows,hl,x⟩:=x
 have hlen:=hl.len
 rcases x with⟨⟨rfl,rfl⟩,_⟩ | ⟨⟨b,es⟩,⟨rfl,h1,h2⟩,x⟩
 ·simp only[List.length_nil]at hlen
  refine⟨rfl,rfl,by rw[←hlen];rfl,fun s=>rfl,fun q i y hy=> ?_⟩
  have:=List.length_eq_zero_iff.1 hlen.symm
  subst this
  simp at hy
 ·refine⟨rfl,rfl,by rw[←hlen];rfl,fun s=>ml,fun q i y hy=> ?_⟩
  obtain⟨r,q1,q2⟩:=hl.get hy
  have hi:i<rows.length:=(List.getElem?_eq_some_iff.1 q1).1
  refine⟨.ptr b (0+i) 0,r,qO rfl hi,?_,q2⟩
  obtain⟨_,_,_,hc⟩:=x
  have h3:es[i]? =some r:=by
   have:(es.take rows.length)[i]? =some r:=by rw[←h2];exact q1
   rwa [List.getElem?_take_of_lt hi]at this
  simp only at hc
  rw[bP,hc,Nat.zero_add,Option.bind_some,h3,Option.bind_some]
  exact bi q2.len3.1
theorem OX {v:AV} {l:List VD} {y:VD} {r:List AV} {bz:Nat} (x:(iT v l).A h F J) (hz:h.cell bz=some [r]) (hy:VaA y r) (hl:l.length≤1000000):
  ∃ h',aQ true tV v (.msl bz 0 1 tV) h=some (.msl h.n 0 (l.length+1) tV,h')∧Did h F J h' (iT (.msl h.n 0 (l.length+1) tV) (l++[y])):=by
 have he:cE h tV (.msl bz 0 1 tV)=some [r]:=by simp[cE,hz]
 have ha:∀ s,aQ true tV s (.msl bz 0 1 tV) h=eS true tV s [r] h:=fun s=>by
  simp only[aQ,he,Option.bind_some,List.length_singleton]
  rw[if_neg (by decide)]
 have hr:([r].all fun x=>x.all AV.one)=true:=by simp only[List.all_cons,List.all_nil,Bool.and_true];exact hy.len3.2
 obtain⟨rows,hv,x⟩:=x
 have hlen:=hv.len
 rcases x with⟨⟨rfl,rfl⟩,e1,e2⟩ | ⟨⟨b,es⟩,⟨rfl,h1,h2⟩,a1,a2,a3,a4⟩
 ·have hl0:l=[]:=List.length_eq_zero_iff.1 (by simpa using hlen.symm)
  subst hl0
  refine⟨h.push [r],?_,fun k=>k=h.n,fun _=>False,⟨[r],VaL.one hy,.inr ⟨⟨h.n,[r]⟩,⟨rfl,Nat.le_refl _,rfl⟩,fun _=>Iff.rfl,fun _ h=>h,Nat.lt_succ_self _,ap⟩⟩,(ab.push h [r]).chg _ _,fun k hk=> .inr (Nat.le_of_eq hk.symm),fun _ h=>h.elim⟩
  rw[ha]
  simp only[eS]
  rw[if_pos ⟨by simp,by simp,hr⟩]
  rfl
 ·simp only at h1 h2 a1 a3 a4
  have hn:((h.set b none).push (es.take rows.length++[r])).cell h.n=some (es.take rows.length++[r]):=by
   have:=ap (h:=h.set b none) (es:=es.take rows.length++[r])
   exact this
  refine⟨(h.set b none).push (es.take rows.length++[r]),?_,fun k=>k=h.n,fun _=>False,⟨rows++[r],hv.app (VaL.one hy),.inr ⟨⟨h.n,es.take rows.length++[r]⟩,⟨by simp[hlen],?_,?_⟩,fun _=>Iff.rfl,fun _ h=>h,Nat.lt_succ_self _,hn⟩⟩,⟨Nat.le_succ _,Nat.le_refl _,fun k hk hF=> ?_,fun _ _ _=>rfl⟩,fun k hk=> .inr (Nat.le_of_eq hk.symm),fun _ h=>h.elim⟩
  ·rw[ha]
   simp only[eS,a4,Option.bind_some]
   rw[if_pos ⟨by simp,by simp,hr⟩,if_pos ⟨trivial,trivial,by omega⟩,if_pos h1]
   simp[hlen,fI]
  ·simp;omega
  ·rw[←h2,List.take_of_length_le (by simp)]
  ·rw[gW (by rw[fI];omega),bu fun e=>hF ((a1 k).2 e)]
theorem EC {b m:Nat} {l:List VD} {y:VD} (x:(iT (.msl b 0 m tV) (l++[y])).A h F J):(iT (.msl b 0 l.length tV) l).A h F J:=by
 obtain⟨rows,hv,x⟩:=x
 have hlen:=hv.len
 rw[List.length_append,List.length_singleton]at hlen
 rcases x with⟨⟨_,e⟩,_⟩ | ⟨⟨b',es⟩,⟨e,h1,h2⟩,x⟩
 ·cases e
 ·injection e with e1 _ e2 _
  have hv2:=hv.take l.length
  rw[List.take_left]at hv2
  simp only at e1 h1 h2
  refine⟨rows.take l.length,hv2,.inr ⟨⟨b',es⟩,⟨by rw[e1];congr 1;simp;omega,by simp;omega,?_⟩,x⟩⟩
  have h3:(rows.take l.length).length=l.length:=by simp;omega
  rw[h3]
  conv=>lhs;rw[h2]
  rw[List.take_take]
  congr 1
  omega
theorem ES {v:AV} {l:List VD} (x:(iT v l).A h F J) (hl:l≠[]):∃ b,v= .msl b 0 l.length tV:=by
 obtain⟨rows,hv,x⟩:=x
 have hlen:=hv.len
 rcases x with⟨⟨rfl,rfl⟩,_⟩ | ⟨⟨b',es⟩,⟨e,_⟩,_⟩
 ·exact absurd (List.length_eq_zero_iff.1 (by simpa using hlen.symm)) hl
 ·exact⟨b',by rw[e,hlen]⟩
theorem St.upd {X Y:Asn} (s:St h0 F0 J0 h L) (i:Nat) (hi:L[i]? =some X) (hxy:∀ h F J,X.A h F J→Y.A h F J):St h0 F0 J0 h (L.set i Y):=by
 obtain⟨h',rfl,d⟩:=s.call (R:=fun q=>q=h) i hi (Y:=Y) fun F J x=>⟨h,rfl,Did.imp hxy (Did.same x)⟩
 exact d
theorem Hm {α:Type} {X Z:Asn} {Y:α→Asn} (x:(fw X Z).A h F J) {R:AH→α→Prop} (c:∀ F1 J1,X.A h F1 J1→∃ h' a,R h' a∧Did h F1 J1 h' (Y a)):∃ h' a,R h' a∧Did h F J h' (fw (Y a) Z):=by
 obtain⟨F1,J1,F2,J2,x1,z,hF,hJ,dF,dJ⟩:=x
 obtain⟨h',a0,r,F3,J3,y,c3,a3,b3⟩:=c F1 J1 x1
 have zl:=Z.lt z
 refine⟨h',a0,r,fun k=>F3 k∨F2 k,fun j=>J3 j∨J2 j,⟨F3,J3,F2,J2,y,Z.keep z c3 (fun k hk h1=>dF k h1 hk) (fun j hj h1=>dJ j h1 hj),fun _=>Iff.rfl,fun _=>Iff.rfl,fun k h3 h2=> ?_,fun j h3 h2=> ?_⟩,?_,fun k hk=> ?_,fun j hj=> ?_⟩
 ·rcases a3 k h3 with h | h
  ·exact dF k h h2
  ·have:=zl.1 k h2;omega
 ·rcases b3 j h3 with h | h
  ·exact dJ j h h2
  ·have:=zl.2 j h2;omega
 ·exact⟨c3.n,c3.ids,fun k hk hn=>c3.cell k hk fun h1=>hn ((hF k).2 (.inl h1)),fun j hj hn=>c3.hw j hj fun h1=>hn ((hJ j).2 (.inl h1))⟩
 ·rcases hk with h | h
  ·exact(a3 k h).imp (fun h=>(hF k).2 (.inl h)) id
  ·exact .inl ((hF k).2 (.inr h))
 ·rcases hj with h | h
  ·exact(b3 j h).imp (fun h=>(hJ j).2 (.inl h)) id
  ·exact .inl ((hJ j).2 (.inr h))
theorem St.callE {α:Type} {X:Asn} {R:AH→α→Prop} {Y:α→Asn} (s:St h0 F0 J0 h L) (i:Nat) (hi:L[i]? =some X) (c:∀ F J,X.A h F J→∃ h' a,R h' a∧Did h F J h' (Y a)):∃ h' a,R h' a∧St h0 F0 J0 h' (L.set i (Y a)):=by
 have hl:i<L.length:=(List.getElem?_eq_some_iff.1 hi).1
 obtain⟨F,J,x,ch,a,b⟩:=s
 obtain⟨h',a0,r,d⟩:=Hm ((bj.front hi).1 x) c
 exact⟨h',a0,r,Did.chain ch a b (d.imp fun _ _ _ y=>bj.back hl y)⟩
theorem St.app (s:St h0 F0 J0 h L) (i:Nat) {v:AV} {l:List VD} (hi:L[i]? =some (iT v l)) {y:VD} {r:List AV} {bz:Nat} (hz:h.cell bz=some [r]) (hy:VaA y r) (hl:l.length≤1000000):
  ∃ h',aQ true tV v (.msl bz 0 1 tV) h=some (.msl h.n 0 (l.length+1) tV,h')∧St h0 F0 J0 h' (L.set i (iT (.msl h.n 0 (l.length+1) tV) (l++[y]))):=
 s.call (R:=fun h'=>aQ true tV v (.msl bz 0 1 tV) h=some (.msl h.n 0 (l.length+1) tV,h')) i hi fun _ _ x=>OX x hz hy hl
end
def EK:List RS:=[BS,(.ops [(.i .l (.call (.c (.fn 76 [] [])) [])),(.i .l (.call (.c (.fn 77 [] [])) [])),(.i .l (.build [.nilp,.nilp,(.bool false),.nils,(.int .i64 0),(.int .i64 0),.nils,(.bool false),.nils,(.int .i64 0),(.int .i64 0),.nils,(.bool false),.nils,(.int .i64 0),(.int .i64 0),.nils,(.bool false),.nils,(.int .i64 0),(.int .i64 0),.nils] [(0,1),(1,1),(2,20)] [(0,(.l 1)),(1,(.l 0))])),(.i .l (.box 22 (.l 0))),wm]),.ret]
theorem Oi:FnR Tryz.prog po 39 0 1 [0] EK [(.v 0)] false:=by refine⟨_,_,Tryz.func39,rfl,rfl,?_,?_,?_,?_,?_⟩<;>kernel_rfl
def xl:List RS:=[(.ops [Gy]),(.cond (.v 2) [(.ops [bk,(.i .l (.mki 127 (.l 0))),Dw])] [])]
theorem FI:FnR Tryz.prog po 89 2 3 [0,1,4] xl [] true:=by refine⟨_,_,Tryz.func89,rfl,rfl,?_,?_,?_,?_,?_⟩<;>kernel_rfl
def Li:List RS:=[(.ops [(.i (.v 1) (.mv (.c .nilp)))]),(.ops [ay,bg,bX,ai,ay,bg,bX,ai,Bf,gc,(.i .l (.ixa (some 126) none (.l 6) (.l 0))),iS]),.ret]
theorem T2:FnR Tryz.prog po 88 1 2 [0,2] Li [(.v 1)] false:=by refine⟨_,_,Tryz.func88,rfl,rfl,?_,?_,?_,?_,?_⟩<;>kernel_rfl
def Ke:List RS:=[(.ops [Eq]),(.ops [ay,HN,dH]),(.ops [bN,bg,lV,ai,lC,gc,cV]),(.ops [bN,bg,lV,ai,bm,oE,cQ,sK,nn]),(.ops [bN,bN,bg,lV,ai,bm,(.i .l (.slc false (some 35) (.l 1) none (some (.l 0)))),xz,lV,fU]),(.ops [mt,xN]),.ret]
theorem TV:FnR Tryz.prog po 90 1 5 [0,2,3,4,5] Ke [(.cell true 3 1)] false:=by refine⟨_,_,Tryz.func90,rfl,rfl,?_,?_,?_,?_,?_⟩<;>kernel_rfl
def wk:List RS:=[(.ops [Eq]),(.ops [ay,Le,xN]),.ret]
theorem HG:FnR Tryz.prog po 115 1 2 [0,2] wk [(.cell true 3 1)] true:=by refine⟨_,_,Tryz.func115,rfl,rfl,?_,?_,?_,?_,?_⟩<;>kernel_rfl
def xg:List RS:=[(.ops [BI,Er]),(.ops [pk,ai,bk,yr,BC]),(.ops [lB,tM]),.ret]
theorem Fz:FnR Tryz.prog po 91 2 4 [0,1,2,4] xg [(.cell true 3 3)] true:=by refine⟨_,_,Tryz.func91,rfl,rfl,?_,?_,?_,?_,?_⟩<;>kernel_rfl
def ua:List RS:=[(.ops [Ai,BF]),(.ops [qM,Jk,oU,(.i .l (.call (.c (.fn 89 [] [])) [(.l 0),(.c (.int .i64 3))]))]),(.ops [qM,xK]),.ret]
theorem AZ:FnR Tryz.prog po 116 1 3 [0,1,2] ua [(.cell true 3 2)] true:=by refine⟨_,_,Tryz.func116,rfl,rfl,?_,?_,?_,?_,?_⟩<;>kernel_rfl
def gy:List RS:=[g8,(.ops [BV]),(.ops [(.i (.v 5) (.mv (.v 0)))]),(.block 0 [(.ops [(.i .l (.bin (.int .i64) .eql (.v 5) (.c (.int .i64 1)))),dM]),(.cond (.v 6) [Po,.ret] [(.ops [(.i .l (.bin (.int .i64) .eql (.v 5) (.c (.int .i64 2)))),fV]),(.cond (.v 7) [Sy,.ret] [(.ops [(.i .l (.bin (.int .i64) .eql (.v 5) (.c (.int .i64 3)))),dE]),(.cond (.v 8) [Pz,.ret] [(.ops [(.i .l (.bin (.int .i64) .eql (.v 5) (.c (.int .i64 4)))),nZ]),(.cond (.v 9) [(.ops [bk,bN,Cv,dB])] [(.ops [(.i .l (.bin (.int .i64) .eql (.v 5) (.c (.int .i64 5)))),mp]),(.cond (.v 10) [(.ops [bk,bN,Gn,dB])] [])])])])])]),(.ops [(.i (.v 11) (.mv (.v 4)))]),(.cond (.v 11) [C4,.ret] []),g8,.ret]
theorem hU:FnR Tryz.prog po 42 3 12 [0,1,2,6,7,8,9,14,19,24,29,34] gy [(.v 3)] true:=by refine⟨_,_,Tryz.func42,rfl,rfl,?_,?_,?_,?_,?_⟩<;>kernel_rfl
def Bl:List RS:=[(.ops [qt,nL,NC]),(.ops [eu,ai,dM]),(.ops [ay,bg,bI,ai,bg,bI,ai,dQ,Pu,bN,(.i .l (.call (.c (.fn 144 [] [])) [(.l 1),(.l 0)])),lW,(.i .l (.call (.c (.fn 89 [] [])) [(.l 0),(.c (.int .i64 9))]))]),(.ops [ay,bg,bI,ai,bg,bI,ai,dQ,(.i .l (.call (.c (.fn 162 [] [])) [(.l 1),(.l 0)])),aV,br,bY,(.i (.v 7) wG),(.i .n (.store 6 (.v 7) (.l 1))),aV]),(.ops [dQ,(.i .l (.load true 6 (.v 7))),nq,Ph]),.ret]
theorem Jq:FnR Tryz.prog po 147 3 8 [0,1,2,4,6,7,8,9] Bl [(.v 4),(.cell true 6 5)] true:=by refine⟨_,_,Tryz.func147,rfl,rfl,?_,?_,?_,?_,?_⟩<;>kernel_rfl
def pm:List RS:=[xO,(.ops [ay,lB,DT,(.i .l (.call (.c (.fn 147 [] [])) [(.l 2),(.l 0),(.c (.int .i64 1))])),aV,br,bY,Id,GH,Bi]),(.ops [(.i .l (.fad 4 (.v 4))),ai,pZ,BC]),(.ops [ay,bg,bI,ai,bg,bX,ai,ay,B9,ai,bm,(.i .l (.call (.c (.fn 88 [] [])) [(.l 3)])),(.ck [⟨none,false,1,(.l 9),(.l 8)⟩,⟨none,false,1,(.l 6),(.l 5)⟩,⟨none,false,1,(.l 3),(.l 2)⟩]),bg,bI,ai,(.i .l (.call (.c (.fn 148 [] [])) [(.l 8),(.l 0),(.l 5),(.l 4)])),aV,br,bY,nH,aV]),(.ops [ay,bT,GM,(.i .l (.call (.c (.fn 114 [] [])) [(.l 2),(.l 0)]))])]
theorem ru:FnR Tryz.prog po 129 2 6 [0,1,3,4,5,6] pm [] false:=by refine⟨_,_,Tryz.func129,rfl,rfl,?_,?_,?_,?_,?_⟩<;>kernel_rfl
def kB:List RS:=[Rt,(.ops [md,DT]),(.ops [mt,B1]),(.ops [ay,md,(.i .l (.call (.c (.fn 147 [] [])) [(.l 1),(.l 0),(.c (.int .i64 2))])),aV,br,bY,RQ,nH,Nk]),(.ops [Bs,ai,pZ,BC]),(.ops [ay,bg,bI,ai,bg,bX,ai,ay,(.i .l (.fad 3 (.v 6))),ai,bT,jU,ai,(.i .l (.call (.c (.fn 88 [] [])) [(.l 5)])),(.ck [⟨none,false,1,(.l 11),(.l 10)⟩,⟨none,false,1,(.l 8),(.l 7)⟩,⟨none,false,1,(.l 5),(.l 4)⟩,⟨none,false,1,(.l 2),(.l 1)⟩]),bg,bI,ai,(.i .l (.call (.c (.fn 149 [] [])) [(.l 10),(.l 0),(.l 7),(.l 6),(.l 4)]))]),(.ops [ay,mt,wC])]
theorem mL:FnR Tryz.prog po 130 3 7 [0,1,2,4,5,6,7] kB [] false:=by refine⟨_,_,Tryz.func130,rfl,rfl,?_,?_,?_,?_,?_⟩<;>kernel_rfl
def oK:List RS:=[(.ops [(.i (.v 4) (.box 3 (.v 1))),uU]),(.ops [ay,bg,bI,ai,bg,bI,ai,jU,ai,bN,bm,(.i .l (.call (.c (.fn 84 [] [])) [(.l 4),(.l 2),(.l 1),(.l 0)])),aV,br,bY,ti,fV]),(.ops [fx,oU,fx,BM]),(.ops [dQ,Nv,kS]),.ret]
theorem uG:FnR Tryz.prog po 131 4 8 [0,1,2,3,5,8,9,10] oK [(.cell true 3 5)] false:=by refine⟨_,_,Tryz.func131,rfl,rfl,?_,?_,?_,?_,?_⟩<;>kernel_rfl
def oM:List RS:=[xO,(.ops [lB,DT]),(.ops [ay,bg,bI,ai,bg,bI,ai,QI,aV,br,bY,GH,dB]),(.ops [bA,oU,bA,BM]),(.ops [ay,lB,bm,(.i .l (.call (.c (.fn 131 [] [])) [(.l 2),(.l 1),(.c (.int .i64 15)),(.l 0)])),uU,kS]),(.ops [ay,pU,bm,Qh,Qv,K1,Iz])]
theorem rY:FnR Tryz.prog po 132 2 6 [0,1,3,4,5,6] oM [] false:=by refine⟨_,_,Tryz.func132,rfl,rfl,?_,?_,?_,?_,?_⟩<;>kernel_rfl
def yA:List RS:=[(.ops [(.i (.v 2) (.box 10 (.v 1)))]),OV,(.ops [ay,ay,bg,bX,ai,(.i .l (.load true 10 (.v 2))),Nc,(.ck [⟨none,false,1,(.l 3),(.l 2)⟩]),(.i .l (.app true 126 (.l 2) (.l 0))),OU,bX,fU])]
theorem Fr:FnR Tryz.prog po 133 2 3 [0,1,3] yA [] false:=by refine⟨_,_,Tryz.func133,rfl,rfl,?_,?_,?_,?_,?_⟩<;>kernel_rfl
def ka:List RS:=[Rt,(.ops [ay,md,DT,(.i .l (.call (.c (.fn 147 [] [])) [(.l 2),(.l 0),(.c (.int .i64 8))])),aV,br,bY,RQ,nH,Nk]),(.ops [Bs,ai,jJ,BC]),(.ops [ay,bg,bI,ai,Bs,ai,qh,dW,zF,(.i .l (.load true 5 (.l 0))),(.i (.v 7) (.alloc [(.bool false),.nils,(.int .i64 0),(.int .i64 0),.nils])),(.ck [⟨none,false,1,(.l 7),(.l 6)⟩,⟨none,false,1,(.l 5),(.l 4)⟩,⟨none,true,5,(.l 1),(.l 0)⟩]),(.i .n (.store 5 (.v 7) (.l 0)))]),(.ops [Iu,ai,lW,aV,(.g (.l 0) false .l (.fad 5 (.v 6))),fG,(.g (.l 2) false .l (.fad 1 (.v 7))),tq,(.g (.l 4) false .l (.len false (some 174) (.l 0))),(.g (.l 5) false .l (.bin (.int .i64) .geq (.l 3) (.l 0))),(.i .l (.pick (.l 6) (.c (.bool true)) (.l 0))),(.i .l (.call (.c (.fn 89 [] [])) [(.l 0),(.c (.int .i64 8))]))]),OV,(.ops [ay,bg,bI,ai,bg,bI,ai,bT,(.i .l (.call (.c (.fn 150 [] [])) [(.l 1),(.l 0)])),dE]),(.ops [ay,bg,bI,ai,bg,bI,ai,mt,lJ,(.i .l (.call (.c (.fn 113 [] [])) [(.l 2),(.l 1),(.l 0)])),aV,br,bY,C6,(.ck [⟨none,false,1,(.l 10),(.l 9)⟩,⟨none,false,1,(.l 7),(.l 6)⟩,⟨none,true,3,(.v 4),(.l 5)⟩]),Ru,mp]),(.ops [mr,oU,mr,BM]),(.ops [ay,Bs,ai,(.i .l (.fad 5 (.v 6))),ai,Bz,lJ,(.i .l (.build [(.int .i64 0),(.int .i64 0),(.int .i64 0),(.int .i64 0),(.int .i64 0),.nils,.nils,.nils,(.bool false),.nils] [(0,1),(1,1),(2,1),(3,3),(6,1),(7,1),(8,1),(9,1)] [(0,(.l 4)),(1,(.l 2)),(3,(.l 1)),(6,(.c (.bool true))),(7,(.l 0))])),(.i .l (.call (.c (.fn 133 [] [])) [(.l 7),(.l 0)]))])]
theorem kW:FnR Tryz.prog po 134 3 11 [0,1,2,4,5,6,7,8,9,10,11] ka [] false:=by refine⟨_,_,Tryz.func134,rfl,rfl,?_,?_,?_,?_,?_⟩<;>kernel_rfl
def yP:List RS:=[(.ops [ay,jL,(.i .l (.call (.c (.fn 91 [] [])) [(.l 0),(.c (.int .i64 2))])),BF,xK]),(.ops [ay,lQ,ai,bk,oE,cQ,Iz])]
theorem FJ:FnR Tryz.prog po 117 2 3 [0,1,4] yP [] false:=by refine⟨_,_,Tryz.func117,rfl,rfl,?_,?_,?_,?_,?_⟩<;>kernel_rfl
def dj:List RS:=[xO,Hz,(.ops [pk,(.i (.v 10) f9)]),(.block 0 [(.ops [(.i .l (.bin (.int .i64) .eql (.v 10) (.c (.int .i64 1)))),mV]),(.cond (.v 11) [(.ops [ay,iQ,wC])] [(.ops [(.i .l (.bin (.int .i64) .eql (.v 10) (.c (.int .i64 2)))),sT]),(.cond (.v 12) [(.ops [ay,lQ,ai,GM,(.i .l (.call (.c (.fn 114 [] [])) [(.l 3),(.l 0)]))])] [(.ops [(.i .l (.bin (.int .i64) .eql (.v 10) (.c (.int .i64 3)))),mU]),(.cond (.v 13) [(.ops [ay,bm,bg,xd,cQ,Ny])] [(.ops [(.i .l (.bin (.int .i64) .eql (.v 10) (.c (.int .i64 4)))),tK]),(.cond (.v 14) [(.ops [ay,bm,bg,nP,ai,bm,bg,nP,ai,lC,gc,mO,ai,Qo,(.i .l (.ixa (some 35) none (.l 9) (.l 0))),cQ,(.i .l (.call (.c (.fn 114 [] [])) [(.l 15),(.l 0)]))])] [(.ops [(.i .l (.bin (.int .i64) .eql (.v 10) (.c (.int .i64 6)))),vM]),(.cond (.v 15) [Ox,(.ops [pU,B1]),(.ops [mt,B1]),(.ops [ay,mO,ai,IM,ai,jU,ai,(.i .l (.call (.c (.fn 42 [] [])) [(.l 4),(.l 2),(.l 0)])),GM,Nx])] [(.ops [(.i .l (.bin (.int .i64) .eql (.v 10) (.c (.int .i64 8)))),xB]),(.cond (.v 16) [(.ops [ay,jL,ay,jL,Dz,FK,(.i .n (.store 3 (.v 6) (.l 2))),oz]),(.ops [ay,IY,oZ,(.i .l (.bsl false 35 [(.int .i64 0),(.int .i64 0),.nils] 3 2 [(0,(.l 1)),(1,(.l 0))])),K1,Qa,Iz])] [(.ops [(.i .l (.bin (.int .i64) .eql (.v 10) (.c (.int .i64 9)))),mR]),(.cond (.v 17) [(.ops [ay,(.i .l (.call (.c (.fn 117 [] [])) [(.l 0),(.c (.int .i64 0))]))])] [(.ops [(.i .l (.bin (.int .i64) .eql (.v 10) (.c (.int .i64 10)))),wQ]),(.cond (.v 18) [(.ops [ay,(.i .l (.call (.c (.fn 117 [] [])) [(.l 0),(.c (.int .i64 1))]))])] [(.ops [(.i .l (.bin (.int .i64) .eql (.v 10) (.c (.int .i64 11)))),yZ]),(.cond (.v 19) [(.ops [ay,jL,Ij,Q4]),(.ops [ay,bm,bg,bI,ai,GL,KP,(.ck [⟨none,false,1,(.l 3),(.l 2)⟩]),(.i .l (.build [(.int .i64 0),(.int .i64 0),.nils] [(0,1),(1,1),(2,1)] [(0,(.c (.int .i64 3))),(1,(.l 2)),(2,(.l 0))])),Qa,Nx])] [(.ops [(.i .l (.bin (.int .i64) .eql (.v 10) (.c (.int .i64 12)))),Gx]),(.cond (.v 20) [(.ops [ay,jL,(.i .l (.call (.c (.fn 91 [] [])) [(.l 0),(.c (.int .i64 3))])),C6,Qn]),(.ops [(.i .l (.fad 1 (.v 9))),ai,bm,bg,bI,ai,(.i .l Of),(.i .l (.call (.c (.fn 89 [] [])) [(.l 0),(.c (.int .i64 10))]))]),(.ops [ay,(.i .l (.fad 2 (.v 9))),ai,eY,cQ,Ny])] [(.ops [ay,lB,(.i .l (.call (.c (.fn 118 [] [])) [(.l 1),(.l 0)]))])])])])])])])])])])])])]
theorem dx:FnR Tryz.prog po 93 2 21 [0,1,3,4,5,6,7,8,9,10,14,18,23,30,38,57,77,90,94,98,112] dj [] false:=by refine⟨_,_,Tryz.func93,rfl,rfl,?_,?_,?_,?_,?_⟩<;>kernel_rfl
def cj:List RS:=[xO,Hz,(.ops [pk,(.i (.v 11) f9)]),(.block 0 [(.ops [(.i .l (.bin (.int .i64) .eql (.v 11) (.c (.int .i64 13)))),sT]),(.cond (.v 12) [(.ops [ay,ay,jL,(.i .l (.call (.c (.fn 129 [] [])) [(.l 2),(.l 0)]))])] [(.ops [(.i .l (.bin (.int .i64) .eql (.v 11) (.c (.int .i64 14)))),mU]),(.cond (.v 13) [Ox,(.ops [ay,pU,mt,(.i .l (.call (.c (.fn 130 [] [])) [(.l 2),(.l 1),(.l 0)]))])] [(.ops [(.i .l (.bin (.int .i64) .eql (.v 11) (.c (.int .i64 15)))),tK]),(.cond (.v 14) [(.ops [ay,ay,ay,mO,ai,(.i .l (.call (.c (.fn 90 [] [])) [(.l 2)])),(.ck [⟨none,false,1,(.l 2),(.l 1)⟩]),DT,(.ck [⟨none,false,1,(.l 3),(.l 2)⟩]),(.i .l (.call (.c (.fn 131 [] [])) [(.l 5),(.l 0),(.l 2),(.c (.int .i64 (-1)))])),(.i .l (.call (.c (.fn 114 [] [])) [(.l 7),(.l 0)]))])] [(.ops [(.i .l (.bin (.int .i64) .eql (.v 11) (.c (.int .i64 16)))),vM]),(.cond (.v 15) [(.ops [ay,ay,jL,(.i .l (.call (.c (.fn 132 [] [])) [(.l 2),(.l 0)]))])] [(.ops [(.i .l (.bin (.int .i64) .eql (.v 11) (.c (.int .i64 17)))),xB]),(.cond (.v 16) [(.ops [ay,bg,bI,ai,bg,bI,ai,ay,jL,(.ck [⟨none,false,1,(.l 6),(.l 5)⟩,⟨none,false,1,(.l 3),(.l 2)⟩]),(.i .l (.call (.c (.fn 91 [] [])) [(.l 0),(.c (.int .i64 5))])),(.ck [⟨none,false,1,(.l 7),(.l 6)⟩,⟨none,false,1,(.l 4),(.l 3)⟩]),(.i .l (.fld false 1 1 (.l 0))),(.i .l (.call (.c (.fn 62 [] [])) [(.l 4),(.l 0)]))]),(.ops [ay,iQ,wC])] [(.ops [(.i .l (.bin (.int .i64) .eql (.v 11) (.c (.int .i64 18)))),mR]),(.cond (.v 17) [(.ops [ay,jL,Dz,BL]),(.ops [ay,bm,bg,bI,ai,mO,ai,oZ,(.i .l (.build [(.int .i64 0),(.int .i64 0),(.int .i64 0),(.int .i64 0),(.int .i64 0),.nils,.nils,.nils,(.bool false),.nils] [(0,1),(1,1),(2,1),(3,3),(6,1),(7,1),(8,1),(9,1)] [(0,(.l 3)),(1,(.l 1)),(3,(.l 0))])),(.i .l (.call (.c (.fn 133 [] [])) [(.l 8),(.l 0)]))])] [(.ops [(.i .l (.bin (.int .i64) .eql (.v 11) (.c (.int .i64 19)))),wQ]),(.cond (.v 18) [(.ops [ay,jL,ay,jL,FK,Ij,(.i .n (.store 3 (.v 7) (.l 2))),Q4]),(.ops [ay,GL,IY,(.i .l (.call (.c (.fn 134 [] [])) [(.l 2),(.l 1),(.l 0)]))])] [(.ops [(.i .l (.bin (.int .i64) .eql (.v 11) (.c (.int .i64 20)))),yZ]),(.cond (.v 19) [(.ops [ay,bg,bI,ai,bm,bg,bI,ai,oN,dW,zF,nZ]),(.ops [iX,bg,dW,cQ,(.i (.v 10) qJ),(.i .n (.store 3 (.v 10) (.l 0)))]),(.ops [iX,ay,jL,qh,dW,(.i .n (.store 3 (.l 0) (.l 2)))]),(.ops [ay,(.i .l (.load true 3 (.v 10))),wC])] [(.ops [(.i .l (.bin (.int .i64) .eql (.v 11) (.c (.int .i64 21)))),Gx]),(.cond (.v 20) [(.ops [ay,ay,bg,bI,ai,bm,bg,bI,ai,oN,dW,zF,dW,cQ,(.i .l (.call (.c (.fn 114 [] [])) [(.l 13),(.l 0)]))])] [])])])])])])])])])])]
theorem cJ:FnR Tryz.prog po 118 2 21 [0,1,3,4,5,6,7,8,9,10,11,15,16,22,32,43,49,66,80,90,115] cj [] false:=by refine⟨_,_,Tryz.func118,rfl,rfl,?_,?_,?_,?_,?_⟩<;>kernel_rfl
def mF:List RS:=[(.ops [Eq,ur]),(.ops [ay,jL,Er,tM]),(.ops [ay,HN,bg,(.i .l (.load true 10 (.l 0))),(.i (.v 4) (.alloc [(.int .i64 0),(.int .i64 0),(.int .i64 0),(.int .i64 0),(.int .i64 0),.nils,.nils,.nils,(.bool false),.nils])),(.i .n (.store 10 (.v 4) (.l 0)))]),(.ops [(.i .l (.fad 8 (.v 4))),vX]),(.cond (.v 7) [(.ops [ay,bg,bI,ai,bg,bI,ai,md,(.i .l (.fad 9 (.v 4))),ai,(.i .l (.call (.c (.fn 113 [] [])) [(.l 3),(.l 2),(.l 0)])),aV,br,bY,uU,(.ck [⟨none,false,1,(.l 11),(.l 10)⟩,⟨none,false,1,(.l 8),(.l 7)⟩,⟨none,true,3,(.v 3),(.l 6)⟩,⟨none,false,1,(.l 5),(.l 4)⟩]),kY,dM]),(.ops [dQ,oU,dQ,BM]),(.ops [pU,tM])] []),(.ops [ay,ay,bg,bX,ai,ay,bg,bX,ai,Bf,gc,(.i .l (.slc false (some 126) (.l 6) none (some (.l 0)))),(.i .l (.nilc (.l 11))),bX,fU]),(.ops [ay,bg,bX,ai,Bf,(.i (.v 8) yF)]),(.cond (.v 8) [(.ops [md,xN,Lg]),.ret] []),(.ops [ay,md,wC]),(.ops [md,xN,ur]),.ret]
theorem oJ:FnR Tryz.prog po 92 1 9 [0,2,3,4,5,6,7,15,54] mF [(.cell true 3 1),(.v 2)] false:=by refine⟨_,_,Tryz.func92,rfl,rfl,?_,?_,?_,?_,?_⟩<;>kernel_rfl
def ep:List RS:=[(.ops [Eq,ur]),Hz,(.ops [ay,bg,bI,ai,bm,bg,bI,ai,oN,dW,zF,bX,ai,bm,bg,bX,ai,(.i .l (.ixa (some 174) none (.l 4) (.l 0))),ai,bm,bg,dW,ai,(.i .l (.ixa (some 184) none (.l 4) (.l 0))),cQ,(.i (.v 4) (.alloc [(.int .i64 0),(.int .i64 0),(.int .i64 0)])),(.ck [⟨none,false,1,(.l 22),(.l 21)⟩,⟨none,false,1,(.l 18),(.l 17)⟩,⟨none,false,1,(.l 13),(.l 12)⟩,⟨none,false,1,(.l 9),(.l 8)⟩,⟨none,false,1,(.l 7),(.l 6)⟩,⟨none,false,1,(.l 3),(.l 2)⟩,⟨none,true,3,(.l 1),(.l 0)⟩]),nn]),(.ops [bm,bg,dW,ai,oF,oN,dW,fU]),(.ops [iW,xC]),(.block 0 [(.ops [(.i .l (.bin (.int .i64) .eql (.v 6) (.c (.int .i64 100)))),fV]),(.cond (.v 7) [(.ops [ay,bg,dW,ai,Dk,(.i .l (.call (.c (.fn 89 [] [])) [(.l 0),(.c (.int .i64 12))]))]),Rs] [(.ops [(.i .l (.bin (.int .i64) .eql (.v 6) (.c (.int .i64 101)))),dE]),(.cond (.v 8) [(.ops [ay,jL,uU,kS]),(.ops [bm,bg,nP,ai,pU,(.i .l (.len false (some 35) (.l 1))),(.i .l (.bsl true 35 [(.int .i64 0),(.int .i64 0),.nils] 3 1 [(0,(.c (.agg [(.int .i64 0),(.int .i64 0),.nils])))])),(.ck [⟨none,false,1,(.l 4),(.l 3)⟩,⟨none,true,3,(.v 5),(.l 2)⟩]),(.i .l (.app true 35 (.l 3) (.l 0))),(.i .l (.ixa (some 35) none (.l 0) (.l 2))),(.i .l (.nilc (.l 8))),nP,(.i .n (.store 3 (.l 2) (.l 6))),PA,(.ck [⟨none,true,3,(.l 2),(.l 6)⟩])])] [(.ops [(.i .l (.bin (.int .i64) .eql (.v 6) (.c (.int .i64 102)))),nZ]),(.cond (.v 9) [(.ops [bm,bm,bg,nP,ai,bm,bg,nP,ai,lC,gc,(.i .l (.slc false (some 35) (.l 6) none (some (.l 0)))),(.i .l (.nilc (.l 11))),nP,fU])] [(.ops [(.i .l (.bin (.int .i64) .eql (.v 6) (.c (.int .i64 103)))),mp]),(.cond (.v 10) [(.ops [ay,jL,B1,(.i .l (.fld false 1 1 (.l 0))),Ds]),(.cond (.v 11) [RP] [])] [(.ops [(.i .l (.bin (.int .i64) .eql (.v 6) (.c (.int .i64 104)))),sT]),(.cond (.v 12) [RP] [(.ops [(.i .l (.bin (.int .i64) .eql (.v 6) (.c (.int .i64 105)))),mU]),(.cond (.v 13) [(.ops [ay,(.i .l (.call (.c (.fn 92 [] [])) [(.l 0)])),br,bY,Oh,dH]),.ret] [(.ops [ay,mt,(.i .l (.call (.c (.fn 93 [] [])) [(.l 1),(.l 0)]))])])])])])])])]),(.ops [iQ,xN,ur]),.ret]
theorem eU:FnR Tryz.prog po 50 1 14 [0,2,3,4,5,6,42,46,61,76,92,98,104,111] ep [(.cell true 3 1),(.v 2)] false:=by refine⟨_,_,Tryz.func50,rfl,rfl,?_,?_,?_,?_,?_⟩<;>kernel_rfl
def Kj:List RS:=[BS,(.ops [(.i .l (.build [(.int .i64 0),(.int .i64 0),(.int .i64 0),(.int .i64 0),(.int .i64 0),(.int .i64 0),(.int .i64 0),(.int .i64 0),(.int .i64 0),(.int .i64 0),(.int .i64 0),(.int .i64 0),.nils] [(0,12),(12,1)] [])),(.i .l (.box 13 (.l 0))),wm]),.ret]
theorem Uk:FnR Tryz.prog po 77 0 1 [0] Kj [(.v 0)] false:=by refine⟨_,_,Tryz.func77,rfl,rfl,?_,?_,?_,?_,?_⟩<;>kernel_rfl
def F7:List RS:=[(.ops [nL,BO]),(.ops [bN,IW,tv]),(.cond (.v 6) [(.ops [nL,BO]),.ret] []),(.ops [ay,ay,bg,xy,ai,bk,bN,bm,(.i .l (.build [(.int .i64 0),(.int .i64 0),(.int .i64 0),(.int .i64 0)] [(0,1),(1,1),(2,1),(3,1)] [(0,(.l 2)),(1,(.l 1)),(2,(.c (.int .i64 1))),(3,(.l 0))])),KD,SB,IQ,xy,fU]),(.ops [ay,bN,lP,bI,(.i .l (.ixa none (some (12,1)) (.l 0) (.l 2))),ai,dB,Pi]),.ret]
theorem Qe:FnR Tryz.prog po 148 4 7 [0,1,2,3,8,9,12] F7 [(.v 4),(.v 5)] false:=by refine⟨_,_,Tryz.func148,rfl,rfl,?_,?_,?_,?_,?_⟩<;>kernel_rfl
def AJ:List RS:=[(.ops [BO]),(.ops [bN,IW,tv]),(.cond (.v 6) [(.ops [BO]),.ret] []),(.ops [ay,ay,bg,xy,ai,bk,bN,bm,(.i .l (.build [(.int .i64 0),(.int .i64 0),(.int .i64 0),(.int .i64 0)] [(0,1),(1,1),(2,1),(3,1)] [(0,(.l 2)),(1,(.l 1)),(2,(.c (.int .i64 2))),(3,(.l 0))])),KD,SB,IQ,xy,fU]),(.ops [ay,bN,bA,qh,bI,(.i .l (.ixa none (some (12,1)) (.l 0) (.l 3))),PA]),(.ops [Pi]),.ret]
theorem LE:FnR Tryz.prog po 149 5 7 [0,1,2,3,4,10,13] AJ [(.v 5)] false:=by refine⟨_,_,Tryz.func149,rfl,rfl,?_,?_,?_,?_,?_⟩<;>kernel_rfl
def CJ:List RS:=[tY,(.ops [ay,bg,xy,ai,(.i .l (.call (.c (.fn 52 [] [])) [(.l 0)])),iS]),.ret]
theorem Jy:FnR Tryz.prog po 17 1 2 [0,2] CJ [(.v 1)] true:=by refine⟨_,_,Tryz.func17,rfl,rfl,?_,?_,?_,?_,?_⟩<;>kernel_rfl
def tj:List RS:=[tY,(.ops [ay,Nt]),(.cond (.v 2) [tY,.ret] []),(.ops [(.i .l (.bsl false 137 [(.int .i64 0),(.int .i64 0),(.int .i64 0),(.int .i64 0)] 4 0 [])),ay,(.i .l (.app false 137 (.l 1) (.l 0))),iS]),.ret]
theorem Ar:FnR Tryz.prog po 52 1 3 [0,2,4] tj [(.v 1)] true:=by refine⟨_,_,Tryz.func52,rfl,rfl,?_,?_,?_,?_,?_⟩<;>kernel_rfl
def gT:List RS:=[(.ops [bm,ay,Hx,Bh]),(.cond (.v 5) [] [(.exit 0)]),(.block 1 [(.ops [ay,bm,Nu,ai,bk,bm,Nu,ai,(.i (.v 6) Of)]),(.cond (.v 6) [d9,.ret] [])]),qG]
def rf:List RS:=[d9,(.ops [ay,Hx,bk,Hx,BA]),(.cond (.v 4) [d9,.ret] []),g8,(.block 0 [(.loop gT)]),qD,.ret]
theorem Be:FnR Tryz.prog po 20 2 7 [0,1,4,5,10,14,25] rf [(.v 2)] true:=by refine⟨_,_,Tryz.func20,rfl,rfl,?_,?_,?_,?_,?_⟩<;>kernel_rfl
def yk:List RS:=[g8,(.ops [(.i (.v 4) (.mv (.v 0)))]),(.block 0 [(.ops [(.i .l (.bin (.int .i64) .eql (.v 4) (.c (.int .i64 1)))),dw]),(.cond (.v 5) [Po,.ret] [(.ops [(.i .l (.bin (.int .i64) .eql (.v 4) (.c (.int .i64 2)))),dM]),(.cond (.v 6) [Sy,.ret] [(.ops [(.i .l (.bin (.int .i64) .eql (.v 4) (.c (.int .i64 3)))),fV]),(.cond (.v 7) [Pz,.ret] [(.ops [Dj,dE]),(.cond (.v 8) [(.ops [bk,bN,(.i (.v 9) Iq)]),(.cond (.v 9) [C4,.ret] [])] [(.ops [(.i .l (.bin (.int .i64) .eql (.v 4) (.c (.int .i64 5)))),mp]),(.cond (.v 10) [(.ops [bk,bN,(.i (.v 11) PV)]),(.cond (.v 11) [C4,.ret] [])] [])])])])])]),g8,.ret]
theorem Il:FnR Tryz.prog po 136 3 12 [0,1,2,6,7,8,13,18,23,27,28,32] yk [(.v 3)] true:=by refine⟨_,_,Tryz.func136,rfl,rfl,?_,?_,?_,?_,?_⟩<;>kernel_rfl
def wI:List RS:=[BS,(.ops [Pe,DB,(.i .l (.mks 2 [(.int .i64 0)] (.c (.int .i64 12)) (.c (.int .i64 12)))),(.i .l (.build [.nilp,.nils,.nils,.nilp,.nilp,.nilp,.nilp,(.int .i64 0),(.int .i64 0),.nils,(.int .i64 0),(.int .i64 0),.nils,(.int .i64 0),(.int .i64 0),.nils,(.int .i64 0),(.int .i64 0),.nils,.nils,.nils,.nils,.nils] [(0,1),(1,1),(2,1),(3,4),(7,12),(19,4)] [(0,(.l 1)),(1,(.l 0))])),(.i .l (.box 23 (.l 0))),wm]),.ret]
theorem Gb:FnR Tryz.prog po 25 0 1 [0] wI [(.v 0)] false:=by refine⟨_,_,Tryz.func25,rfl,rfl,?_,?_,?_,?_,?_⟩<;>kernel_rfl
def yg:List RS:=[(.ops [(.i (.v 3) (.box 1 (.v 2))),nL]),(.ops [bk,jJ,aV,pT,Kf,RJ]),(.cond (.v 7) [(.ops [xD]),.ret] []),(.ops [wU,(.i .l (.call (.c (.fn 82 [] [])) [(.l 0)])),(.i (.v 5) wZ),(.i .n (.store 2 (.v 5) (.l 0)))]),(.ops [GU,ai,Ix]),(.cond (.v 8) [(.ops [GU,ai,dB]),.ret] []),(.ops [wU,(.i .l (.call (.c (.fn 83 [] [])) [(.l 0)])),(.i (.v 6) (.alloc [.nils])),(.i .n (.store 1 (.v 6) (.l 0)))]),(.ops [ay,bk,lP,xd,Dr,(.i .n (.store 1 (.l 0) (.v 6)))]),(.ops [ay,bk,iQ,qh,nP,(.i .l (.ixa none (some (4,3)) (.l 0) (.l 3))),HR]),lO,.ret]
theorem Fp:FnR Tryz.prog po 44 3 9 [0,1,2,5,6,7,8,14,19] yg [(.v 4)] false:=by refine⟨_,_,Tryz.func44,rfl,rfl,?_,?_,?_,?_,?_⟩<;>kernel_rfl
def wy:List RS:=[(.ops [N3]),(.ops [SF,iS]),(.ops [bk,(.i (.v 7) (.bin .ptr .eql (.l 0) (.c .nilp)))]),(.cond (.v 7) [(.ops [N3]),.ret] []),(.ops [(.i .l (.build [(.int .i64 0),(.int .i64 0),(.int .i64 0),.nils] [(0,1),(1,1),(2,1),(3,1)] [(0,(.c (.int .i64 3)))])),(.i .l (.call (.c (.fn 41 [] [])) [(.c (.int .i64 2))])),(.i .l (.bsl false 109 [(.int .i64 0),(.int .i64 0),(.int .i64 0),.nils] 4 2 [(0,(.l 1)),(1,(.l 0))])),(.i .l (.build [(.int .i64 0),(.int .i64 0),(.int .i64 0),.nils] [(0,1),(1,1),(2,1),(3,1)] [(0,(.c (.int .i64 6))),(1,(.c (.int .i64 1))),(3,(.l 0))])),Gt,(.i .l (.build [.nils] [(0,1)] [(0,(.l 0))])),Qj,aV,br,bY,(.i .l wZ),(.i (.v 2) tC),(.i .n (.store 2 (.l 0) (.l 1)))]),(.ops [bk,bN,PX,qh,dW,(.i .l (.ixa none (some (4,5)) (.l 0) (.c (.int .i64 1)))),O7]),(.ops [bk,(.i .l (.build [(.int .i64 0),(.int .i64 0),.nils] [(0,1),(1,1),(2,1)] [(0,(.c (.int .i64 1))),(1,(.c (.int .i64 5)))])),(.i .l (.call (.c (.fn 12 [] [])) [(.l 1),(.c (.int .i64 1)),(.c (.int .i64 0)),(.l 0),(.c (.int .i64 9))])),aV,br,bY,BB,Er,(.i .n (.store 3 (.v 3) (.l 2))),nq,dw]),(.ops [bk,iQ,(.i .l (.call (.c (.fn 12 [] [])) [(.l 1),(.c (.int .i64 0)),(.c (.int .i64 0)),(.l 0),(.c (.int .i64 9))])),aV,br,bY,BB,(.i .l qJ),HR,(.i .l tC),(.i (.v 6) tC)]),(.ops [eu,ai,(.i .l (.bin (.int .i64) .eql (.l 0) (.c (.int .i64 7)))),aV,Cw,(.g (.l 1) true .l Qp),wh,aV,OE,(.g (.l 1) true .l yF),wh,aV,Rd,(.g (.l 1) true .l (.bin (.int .i64) .eql (.l 0) (.c (.int .i64 8)))),wh,aV,(.g (.l 0) true .l (.call (.c (.fn 42 [] [])) [(.c (.int .i64 4)),(.c (.int .i64 1)),(.c (.int .i64 2))])),GD,wh,wm]),.ret]
theorem Ga:FnR Tryz.prog po 8 0 8 [0,1,2,4,5,6,9,12] wy [(.v 0)] true:=by refine⟨_,_,Tryz.func8,rfl,rfl,?_,?_,?_,?_,?_⟩<;>kernel_rfl
def cG:List RS:=[(.ops [bN,ay,BQ,(.i (.v 3) n8)]),(.cond (.v 3) [] [(.exit 0)]),(.block 1 [(.ops [ay,bN,Hg,Ho,(.i (.v 4) (.call (.c (.fn 43 [] [])) [(.l 0)]))]),(.cond (.v 4) [(.ops [(.i (.v 1) (.mv (.c (.bool true))))]),.ret] [])]),(.ops [bN,oF,dH])]
def jO:List RS:=[(.ops [G8]),iC,(.block 0 [(.loop cG)]),(.ops [ay,BQ,(.i .l (.bin (.int .i64) .gtr (.l 0) (.c (.int .i64 10)))),iS]),.ret]
theorem nK:FnR Tryz.prog po 9 1 5 [0,2,3,7,14] jO [(.v 1)] true:=by refine⟨_,_,Tryz.func9,rfl,rfl,?_,?_,?_,?_,?_⟩<;>kernel_rfl
def jI:List RS:=[(.ops [iX,bk,(.i .l (.len false (some 116) (.l 0))),(.i (.v 12) n8)]),(.cond (.v 12) [] [(.exit 2)]),(.block 3 [(.ops [bA,bg,bI,ai,bT,bg,bI,ai,bk,iX,(.i .l (.ixa (some 116) none (.l 1) (.l 0))),(.i .l (.load true 5 (.l 0))),(.i .l (.call (.c (.fn 45 [] [])) [(.l 8),(.l 4),(.l 0)]))])]),(.ops [iX,oF,nZ])]
def ic:List RS:=[(.ops [dQ,ay,BQ,(.i .l n8),aV,Rd,(.g (.l 1) true .l Hq),(.i (.v 10) vP)]),(.cond (.v 10) [] [(.exit 0)]),(.block 1 [(.ops [ay,dQ,Hg,Ho,Qj,aV,br,bY,(.i (.v 8) wZ),Hd,(.i .n (.store 2 (.v 8) (.l 0)))]),(.ops [(.i .l (.fad 0 (.v 8))),ai,Ds]),(.cond (.v 11) [(.ops [bA,dQ,fx,PX,(.i .l (.nilc (.l 3))),dW,(.i .l (.ixa none (some (4,5)) (.l 0) (.l 4))),O7])] []),(.ops [bT,dQ,ay,dQ,Hg,Ho,(.i .l (.call (.c (.fn 44 [] [])) [(.l 5),(.l 4),(.l 0)]))])]),Iw]
def Fb:List RS:=[(.ops [(.i (.v 2) (.mv (.c .nilp))),(.i (.v 3) (.mv (.c .nilp)))]),(.ops [SF,(.i .l (.call (.c (.fn 25 [] [])) [])),nq,dw]),(.ops [jB]),(.block 0 [(.loop ic)]),(.ops [pa]),(.block 2 [(.loop jI)]),(.ops [bA,bT,(.i (.v 2) lT),cV]),.ret]
theorem Pt:FnR Tryz.prog po 10 2 13 [0,1,4,5,6,7,8,9,10,11,21,34,52] Fb [(.v 2),(.v 3)] false:=by refine⟨_,_,Tryz.func10,rfl,rfl,?_,?_,?_,?_,?_⟩<;>kernel_rfl
def QR:List RS:=[xO]
def Cd:List RI:=[ay,ay,lB,(.i .l (.bsl true 35 [(.int .i64 0),(.int .i64 0),.nils] 3 1 [(0,(.l 0))])),(.i .l (.call (.c (.fn 88 [] [])) [(.l 3)])),(.ck [⟨none,true,3,(.v 2),(.l 2)⟩]),(.i .l (.call (.c (.fn 88 [] [])) [(.l 3)])),(.ck [⟨none,true,3,(.v 2),(.l 3)⟩]),bg,lV,ai,(.i .l (.app true 35 (.l 0) (.l 5))),(.i .l (.nilc (.l 5))),lV,fU]
def Cy:List RI:=[ay,ay,lB,(.i .l (.call (.c (.fn 88 [] [])) [(.l 2)])),(.ck [⟨none,true,3,(.v 2),(.l 1)⟩]),(.i .l (.bsl true 35 [(.int .i64 0),(.int .i64 0),.nils] 3 1 [(0,(.l 1))])),(.i .l (.call (.c (.fn 88 [] [])) [(.l 3)])),(.ck [⟨none,true,3,(.v 2),(.l 3)⟩]),bg,lV,ai,(.i .l (.app true 35 (.l 0) (.l 4))),xz,lV,fU]
def CR:List RI:=[ay,ay,lB,(.i .l (.call (.c (.fn 88 [] [])) [(.l 2)])),(.ck [⟨none,true,3,(.v 2),(.l 1)⟩]),(.i .l (.call (.c (.fn 88 [] [])) [(.l 2)])),(.ck [⟨none,true,3,(.v 2),(.l 2)⟩]),bg,lV,ai,(.i .l (.bsl true 35 [(.int .i64 0),(.int .i64 0),.nils] 3 1 [(0,(.l 5))])),(.ck [⟨none,false,1,(.l 2),(.l 1)⟩]),(.i .l (.app true 35 (.l 1) (.l 0))),xz,lV,fU]
open Go Go.RowKit
section
variable {P:Program} {po:Pol} {f:FuncId} {n nv:Nat} {vm:List Nat} {h h':AH} {t V V':List AV} {all:Array Oper} {pl:List (Nat×List Nat)} {E:Nat→Nat→Prop}
theorem Lr (pok:POK P po) {is:List RI} {K:List Item} {x:AEx} (pp:pu all pl (fun _=>false) E) (hkp:tG (po.kp f) all=true) (hvm:vm.Nodup∧∀ j s,vm[j]? =some s→(j<nv↔s<po.nv f))
  (htr:jH P (po.mu f) n vm all [] (dO true all pl)=some is) (hr:aC (aj P po) nv [.ops is,.halt K] V [] h=some (x,V',h')) (rv:RV n vm [] t V []):
  ∃ t',(∀ (m:Mm) (w:World) (a:Act) (b:Frame) (cs:List Frame) (L:List Nat),kG all E (mD all) L→WR P m h w→TR P m h t a.tmps→a.defers=b.defers→bV P (po.kp f) m h w b cs (lone (b.at a (.inRegion all L::K)) cs w) (x,t',h'))∧RV n vm [] t' V' []:=by
 obtain⟨t',e,rv'⟩:=(rX (n:=n) (f:=f) hvm.1 hvm.2 _ _ _ _ _ hr).2.1 true all (dO true all pl) is [.halt K] [] t [.halt K] rfl htr (.halt K [] []) rv
 refine⟨t',fun m w a b cs L hL hw ht hd=> ?_,rv'⟩
 obtain⟨e2,t2,h2,hp,he⟩:=k9 pok f _ t h _ e
 refine tH pok pp hkp hp (fun e0=> ?_) (fun v e0=> ?_) hL hw ht hd
 ·subst e0
  exact fun m1 w1 a1 q1 q2 q3=>he K (.halt K []) b cs m1 w1 a1 q1 q2 q3
 ·subst e0
  exact he
theorem DF (pok:POK P po) (hedge:∀ j,j<all.size→∀ e∈(opI all j).after,Region.binds .any e=true→e.on<j) {id:Nat} {b:Frame} {a:Act} {K:List Item} {cs:List Frame} {w:World}:
  ∃ L w',kG all (fun _ _=>False) (mD all) L∧Steps P (lone (b.at a (.code (.region id all true)::K)) cs w) (lone (b.at a (.inRegion all L::K)) cs w')∧(∀ (m:Mm) (h:AH),WR P m h w→WR P m h w')∧∀ base,Below base w w':=by
 refine⟨_,_,?_,.one step_region_draw,fun m h hw=>hw.drew,fun base=>(Below.refl _ _).drew⟩
 simp only[Region.schedule,pok.mixed,Bool.true_or,if_true,Region.linearise]
 exact C3 hedge _ _ _ (by simp) (by simp[List.countP_replicate])
end
open Go Go.RowKit
section
variable {P:Program} {po:Pol} {f:FuncId} {n nv:Nat} {vm:List Nat} {h h' h2 h3:AH} {V V':List AV} {args:List AV} {all:Array Oper}
theorem qS.draw (pok:POK P po) {id:Nat} {c:Code} (hc:c= .region id all true) (p:qS P po f n vm args h (.halt [.code c]) V h2)
  (hedge:((List.range all.size).all fun j=>(all.getD j default).after.all fun e=> !Region.binds .any e || decide (e.on<j))=true) (hvm:vm.Nodup∧∀ j s,vm[j]? =some s→(j<nv↔s<po.nv f)) (hkp:tG (po.kp f) all=true)
  (h1:∀ L,kG all (fun _ _=>False) (mD all) L→∃ (E:Nat→Nat→Prop) (pl:List (Nat×List Nat)) (is:List RI),kG all E (mD all) L∧pu all pl (fun _=>false) E∧jH P (po.mu f) n vm all [] (dO true all pl)=some is∧aC (aj P po) nv [.ops is,.halt []] V [] h2=some (.halt [],V',h3)):
  qS P po f n vm args h .ret V' h3:=by
 intro m w vs hw hvs cs
 obtain⟨bf,t2,b1,b2,b3,rv,m1,w1,x1,x2,x3,a1,x4,x5,x6⟩:=p m w vs hw hvs cs
 subst hc
 obtain⟨L,w2,q1,q2,q3,q4⟩:=DF (P:=P) (all:=all) (id:=id) (b:=bf) (a:=a1) (K:=[]) (cs:=cs) (w:=w1) pok (fun j hj e he hb=>by
  rw[List.all_eq_true]at hedge
  have:=hedge j (List.mem_range.2 hj)
  rw[Array.all_eq_true']at this
  have:=this e he
  simpa[hb]using this)
 obtain⟨E,pl,is,e1,e2,e3,e4⟩:=h1 L q1
 obtain⟨t',hp,rv'⟩:=Lr (K:=[]) pok e2 hkp hvm e3 e4 rv
 obtain⟨m3,w3,y1,y2,y3,a3,y4,y5,y6⟩:=hp m1 w2 a1 bf cs L e1 (q3 _ _ x2) x4 x5
 refine⟨bf,t',b1,b2,b3,rv',bV.steps x6 (bV.after x1 x3 (bV.steps q2 (bV.after (Ext.refl _ _) (q4 _) ?_)))⟩
 exact⟨m3,w3,y1,y2,y3,a3,[],y4,y5,y6.trans (.one step_end)⟩
theorem xY {E:Nat→Nat→Prop} {x y z:Nat} (h1:E x y) (hz:((opI all z).after.toList.any fun e=>Region.binds .any e && e.on==y)=true):∀ {li:Array Bool} {L:List Nat},kG all E li L→li.size=all.size→(li.getD y false=true→li.getD x false=true)→kG all (Im E x z) li L:=by
 rw[List.any_eq_true]at hz
 obtain⟨e,e1,e2⟩:=hz
 simp only[Bool.and_eq_true,beq_iff_eq]at e2
 intro li L ho
 induction ho with
 | nil li h=>exact fun _ _=> .nil _ h
 | cons li i L g1 g2 g3 g4 _ ih=>
   intro hs hi
   have hil:i<li.size:=by omega
   refine .cons _ _ _ g1 g2 g3 (fun j hj=>hj.elim (g4 j) fun hj=> ?_) (ih (by simpa using hs) fun hy=> ?_)
   ·rw[hj.1]
    refine hi ?_
    have:=g3 e (by rw[hj.2];simpa using e1) e2.1
    rwa [e2.2]at this
   ·rw[bZ hil]at hy ⊢
    split
    ·rfl
    ·split at hy
     ·rename_i h5
      exact g4 x (by rw[←h5];exact h1)
     ·exact hi hy
theorem L9 {E:Nat→Nat→Prop} {x y z:Nat} (h1:E x y) (h2:E z x) (hz:∃ e∈(opI all z).after,Region.binds .any e=true∧e.on=y) (hx:x<all.size):∀ {li:Array Bool} {L:List Nat},kG all E li L→li.size=all.size→li.getD x false=false→li.getD y false=false→li.getD z false=false→False:=by
 intro li L ho
 induction ho with
 | nil li h=>
   intro hs a _ _
   rw[h x hx]at a
   cases a
 | cons li i L g1 g2 g3 g4 _ ih=>
   intro hs a b c
   have n1:x≠i:=fun e=>by
    have:=g4 z (by rw[←e];exact h2)
    rw[c]at this
    cases this
   have n2:y≠i:=fun e=>by
    have:=g4 x (by rw[←e];exact h1)
    rw[a]at this
    cases this
   have n3:z≠i:=fun e=>by
    obtain⟨e',e1,e2,e3⟩:=hz
    have:=g3 e' (by rw[←e];exact e1) e2
    rw[e3,b]at this
    cases this
   have hi:i<li.size:=by omega
   exact ih (by simpa using hs) (by rw[bZ hi,if_neg n1];exact a) (by rw[bZ hi,if_neg n2];exact b) (by rw[bZ hi,if_neg n3];exact c)
end
abbrev fPu:FuncId:=114
abbrev Tf:FuncId:=88
noncomputable def cPu:Code:=Tryz.f114.body.getD .skip
theorem WF:(Tryz.prog).funcs[fPu]? =some Tryz.f114:=Tryz.func114
theorem TX:Tryz.f114.body=some cPu:=rfl
theorem aac:Tryz.f114.ntmps=16:=rfl
theorem XQ:cPu= .seq (cL cPu) (cR cPu):=rfl
theorem YD:lI Tryz.prog [0,1,3] Tryz.f114.results.toList=some []:=by kernel_rfl
abbrev vPu:List Nat:=[0,1,3]
theorem VW:x9 2 16 (po.nv fPu) 3 vPu=true:=by kernel_rfl
theorem YU:bG Tryz.prog (po.mu fPu) (po.plan fPu) 16 vPu (cL cPu) []=some QR:=by kernel_rfl
theorem UX:dP (po.plan fPu) (po.kp fPu) (cL cPu)=true:=by kernel_rfl
noncomputable abbrev puO:Array Oper:=gC (cR cPu)
theorem YR:cR cPu= .region 1 puO true:=rfl
theorem TS:((List.range puO.size).all fun j=>(puO.getD j default).after.all fun e=> !Region.binds .any e || decide (e.on<j))=true:=by kernel_rfl
theorem Y0:tG (po.kp fPu) puO=true:=by kernel_rfl
def Xv:List (Nat×List Nat):=[(0,[]),(2,[]),(7,[]),(8,[]),(1,[7]),(3,[7]),(4,[]),(5,[]),(6,[]),(9,[]),(10,[]),(11,[]),(12,[])]
def YW:List (Nat×List Nat):=[(0,[]),(2,[]),(7,[]),(1,[7]),(8,[]),(3,[7]),(4,[]),(5,[]),(6,[]),(9,[]),(10,[]),(11,[]),(12,[])]
def Xo:List (Nat×List Nat):=[(0,[]),(2,[]),(7,[]),(1,[7]),(3,[7]),(4,[]),(5,[]),(6,[]),(8,[6]),(9,[]),(10,[]),(11,[]),(12,[])]
theorem Zb:np [(8,1),(8,3),(8,4),(8,5),(8,6)] puO Xv=true:=by kernel_rfl
theorem YZ:np [(1,8),(8,3),(8,4),(8,5),(8,6)] puO YW=true:=by kernel_rfl
theorem Zd:np [(1,8),(3,8)] puO Xo=true:=by kernel_rfl
theorem Zs:jH Tryz.prog (po.mu fPu) 16 vPu puO [] (dO true puO Xv)=some Cd:=by kernel_rfl
theorem Zv:jH Tryz.prog (po.mu fPu) 16 vPu puO [] (dO true puO YW)=some Cy:=by kernel_rfl
theorem Zu:jH Tryz.prog (po.mu fPu) 16 vPu puO [] (dO true puO Xo)=some CR:=by kernel_rfl
theorem JB:puO.size=13:=by kernel_rfl
theorem Y5:((opI puO 4).after.toList.any fun e=>Region.binds .any e && e.on==3)=true:=by kernel_rfl
theorem ZI:((opI puO 5).after.toList.any fun e=>Region.binds .any e && e.on==4)=true:=by kernel_rfl
theorem Zq:((opI puO 6).after.toList.any fun e=>Region.binds .any e && e.on==5)=true:=by kernel_rfl
theorem KE {E:Nat→Nat→Prop} (h1:E 8 3) {L:List Nat} (ho:kG puO E (mD puO) L):kG puO (Im (Im (Im E 8 4) 8 5) 8 6) (mD puO) L:=by
 have hsz:(mD puO).size=puO.size:=by simp
 have n:∀ j,(mD puO).getD j false=true→(mD puO).getD 8 false=true:=fun j hj=>by rw[ee]at hj;cases hj
 exact xY (.inr ⟨rfl,rfl⟩) Zq (xY (.inr ⟨rfl,rfl⟩) ZI (xY h1 Y5 ho hsz (n _)) hsz (n _)) hsz (n _)
theorem Zp:((opI puO 3).after.toList.any fun e=>Region.binds .any e && e.on==1)=true:=by kernel_rfl
theorem ZR (x y:AV):RV 16 vPu [] ([x,y]++η (16 - [x,y].length) .junk) ([x,y]++η (vPu.length - [x,y].length) .junk) []:=by
 refine⟨by simp,rfl,rfl,fun j s hj=> ?_,fun j s hj=>by simp at hj⟩
 match j,hj with
 | 0,hj | 1,hj | 2,hj=>obtain rfl:=Option.some.inj hj;exact⟨by decide,rfl⟩
 | j+3,hj=>simp at hj
theorem vD {h:AH} {mb fb k:Nat} {bx lf:AV} (hm:h.cell mb=some [[bx,.msl fb 0 (k+1) tFr,lf]]) (hk:k≤1000):aj Tryz.prog po Tf [.ptr mb 0 0] h=some (.inl (.ptr fb k 0),h):=by
 have w:IntKind.wrap .i64 (((k+1:Nat):Int) - 1)=(k:Int):=HP (by omega) (by omega) (by omega)
 have ix:∀ q:IntKind,bL (some tFr) none (.msl fb 0 (k+1) tFr) (.int q (k:Int))=some (.ptr fb (0+k) 0):=fun q=>qO rfl (by omega)
 refine ag T2 rfl ?_;unfold Li
 simp only[sim,af,θ,ξ,η,reduceCtorEq,ψ,ω,aa,hm,w,ix,Nat.zero_add]
theorem Ve {h h3:AH} {mb fb k:Nat} {bx lf s s':AV} {r:List AV} {rows:List (List AV)} {row:List AV} (hk:k≤1000) (hr:r.length=3∧r.all AV.one=true) (hmn:mb<h.n) (hfn:fb<h.n)
  (hm:h.cell mb=some [[bx,.msl fb 0 (k+1) tFr,lf]]) (hf:h.cell fb=some rows) (hrow:rows[k]? =some row) (hs:row[6]? =some s) (hlr:row.length=10)
  (ha:aQ true tV s (.msl (h.n+1) 0 1 tV) ((h.push [r]).push [r])=some (s',h3)) (hf3:h3.cell fb=some rows) (h1:s'.one=true) (hc1:s'.cells=[s']):
  aj Tryz.prog po fPu [.ptr mb 0 0,.agg r] h=some (.inl (.tup []),h3.set fb (some (rows.set k (row.set 6 s')))):=by
 have hkl:k<rows.length:=(List.getElem?_eq_some_iff.1 hrow).1
 have hst:stA row 6 [s']=row.set 6 s':=by
  match row,hlr with
  | [a,b,c,d,e,f,g,i,j,l],_=>rfl
 have hv:SA [.ptr mb 0 0,.agg r] h=some (h3.set fb (some (rows.set k (row.set 6 s')))):=by
  simp only[SA,hm,Option.bind_some,hf,Nat.add_sub_cancel,hrow,hs,ha,Option.map_some]
 have hac:AC Tryz.prog fPu [.ptr mb 0 0,.agg r] h (.inl (.tup []),h3.set fb (some (rows.set k (row.set 6 s')))):=by
  have p0:=qS.start (po:=po) (h:=h) WF TX aac (ZR (.ptr mb 0 0) (.agg r))
  have p1:=p0.next (nv:=3) (x:= .halt [.code (cR cPu)]) (V':=[.ptr mb 0 0,.agg r,.ptr h.n 0 0]) (h3:=h.push [r]) pok XQ (cH VW) YU UX (by
   unfold QR
   have hb:= @Km (aj (Tryz.prog) po) 3
   simp only[sim,af,θ,ξ,η,reduceCtorEq,ψ,ω,aa,hr.1,hr.2])
  have hmn1:(h.push [r]).cell mb=some [[bx,.msl fb 0 (k+1) tFr,lf]]:=(gW (by omega)).trans hm
  have hmn2:((h.push [r]).push [r]).cell mb=some [[bx,.msl fb 0 (k+1) tFr,lf]]:=(gW (by rw[bd];omega)).trans hmn1
  have hf1:(h.push [r]).cell fb=some rows:=(gW (by omega)).trans hf
  have hf2:((h.push [r]).push [r]).cell fb=some rows:=(gW (by rw[bd];omega)).trans hf1
  have t1:=vD hmn1 hk
  have t2:=vD hmn2 hk
  have fs1:aP 6 (.ptr fb k 0)=some (.ptr fb k 6):=rfl
  have ld1:∀ {x:AH} {n:Nat},x.cell fb=some rows→aR false n x (.ptr fb k 6)=some s:=fun{x n} hx=>by
   rw[bP,hx,Option.bind_some,hrow,Option.bind_some,hD]
   exact hs
  have st:aZ 1 h3 (.ptr fb k 6) s'=some (h3.set fb (some (rows.set k (row.set 6 s')))):=by
   rw[bJ (es:=rows) (e:=row) hf3 hrow (by rw[hc1];simpa using h1) (by rw[hc1];rfl) (by omega),hc1,hst]
  have run:∀ is,is=Cd∨is=Cy∨is=CR→aC (aj Tryz.prog po) 3 [.ops is,.halt []] [.ptr mb 0 0,.agg r,.ptr h.n 0 0] [] (h.push [r])=some (.halt [],[.ptr mb 0 0,.agg r,.ptr h.n 0 0],h3.set fb (some (rows.set k (row.set 6 s')))):=by
   have q0:(h.push [r]).cell h.n=some [r]:=ap
   have q1:((h.push [r]).push [r]).cell h.n=some [r]:=(gW (by rw[bd];omega)).trans ap
   intro is his
   rcases his with rfl | rfl | rfl
   ·unfold Cd
    simp only[sim,af,θ,ξ,η,reduceCtorEq,ψ,ω,aa,au,Tf,t1,t2,hr.1,hr.2,hf1,hf2,hrow,hs,ha,h1,hc1,q0,q1,ld1 hf2,st]
   ·unfold Cy
    simp only[sim,af,θ,ξ,η,reduceCtorEq,ψ,ω,aa,au,t1,t2,hr.1,hr.2,hf1,hf2,hrow,hs,ha,h1,hc1,q0,q1,ld1 hf2,st]
   ·unfold CR
    simp only[sim,af,θ,ξ,η,reduceCtorEq,ψ,ω,aa,au,t1,t2,hr.1,hr.2,hf1,hf2,hrow,hs,ha,h1,hc1,q0,q1,ld1 hf1,ld1 hf2,st]
  refine(qS.draw (nv:=3) (V':=[.ptr mb 0 0,.agg r,.ptr h.n 0 0]) pok YR p1 TS (cH VW) Y0 fun L hL=> ?_).ret WF YD rfl
  have e31:∃ e∈(opI puO 3).after,Region.binds .any e=true∧e.on=1:=by
   have:=Zp
   rw[List.any_eq_true]at this
   obtain⟨e,e1,e2⟩:=this
   simp only[Bool.and_eq_true,beq_iff_eq]at e2
   exact⟨e,by simpa using e1,e2.1,e2.2⟩
  have hsz:(mD puO).size=puO.size:=by simp
  rcases pN (x:=8) (y:=1) (by decide) (by rw[JB];decide) hL hsz (ee _) (ee _)with o1 | o1
  ·rcases pN (x:=8) (y:=3) (by decide) (by rw[JB];decide) o1 hsz (ee _) (ee _)with o2 | o2
   ·exact⟨_,Xv,Cd,(KE (.inr ⟨rfl,rfl⟩) o2).mono (fun i j hj=>by simp only[List.mem_cons,Prod.mk.injEq,List.not_mem_nil,or_false]at hj;rcases hj with hj | hj | hj | hj | hj;exact .inl (.inl (.inl (.inl (.inr hj))));exact .inl (.inl (.inl (.inr hj)));exact .inl (.inl (.inr hj));exact .inl (.inr hj);exact .inr hj),kF Zb,Zs,run _ (.inl rfl)⟩
   ·exact(L9 (x:=8) (y:=1) (z:=3) (.inl (.inr ⟨rfl,rfl⟩)) (.inr ⟨rfl,rfl⟩) e31 (by rw[JB];decide) o2 hsz (ee _) (ee _) (ee _)).elim
  ·rcases pN (x:=8) (y:=3) (by decide) (by rw[JB];decide) o1 hsz (ee _) (ee _)with o2 | o2
   ·exact⟨_,YW,Cy,(KE (.inr ⟨rfl,rfl⟩) o2).mono (fun i j hj=>by simp only[List.mem_cons,Prod.mk.injEq,List.not_mem_nil,or_false]at hj;rcases hj with hj | hj | hj | hj | hj;exact .inl (.inl (.inl (.inl (.inr hj))));exact .inl (.inl (.inl (.inr hj)));exact .inl (.inl (.inr hj));exact .inl (.inr hj);exact .inr hj),kF YZ,Zv,run _ (.inr (.inl rfl))⟩
   ·exact⟨_,Xo,CR,o2.mono (fun i j hj=>by simp only[List.mem_cons,Prod.mk.injEq,List.mem_singleton,List.not_mem_nil,or_false]at hj;rcases hj with hj | hj;exact .inl (.inr hj);exact .inr hj),kF Zd,Zu,run _ (.inr (.inr rfl))⟩
 have hx:po.ext fPu=some Lk:=by
  show vd fPu=_
  unfold vd
  rw[if_neg (by decide),if_pos rfl]
 unfold aj
 rw[hx]
 simp only[Lk,hv]
 rw[if_pos hac]
def lF:List RS:=[(.ops [bA,lQ,ai,lC,xV,aV,Dt,SN,OI]),(.cond (.v 5) [] [(.exit 0)]),(.block 1 [(.ops [lQ,ai,bA,oE,cQ,bk,(.i .l (.call (.c (.fn 86 [] [])) [(.l 1),(.l 0)])),iS])]),sW]
def Fm:List RS:=[(.ops [BI,kI]),(.ops [bk,gc,iS]),lO,(.block 0 [(.loop lF)]),(.ops [bk,cV]),.ret]
theorem SL:FnR Tryz.prog po 86 2 6 [0,1,2,4,5,16] Fm [(.v 3)] true:=by refine⟨_,_,Tryz.func86,rfl,rfl,?_,?_,?_,?_,?_⟩<;>kernel_rfl
def tX:List RS:=[Bu,(.ops [qM,(.i .l (.call (.c (.fn 86 [] [])) [(.l 0),(.c (.int .i64 40))])),(.i (.v 3) BY)]),(.cond (.v 3) [(.ops [Nm]),.ret] []),(.ops [qM,O9,dH]),.ret]
theorem AE:FnR Tryz.prog po 47 1 4 [0,1,2,5] tX [(.v 2)] true:=by refine⟨_,_,Tryz.func47,rfl,rfl,?_,?_,?_,?_,?_⟩<;>kernel_rfl
def iH:List RS:=[(.ops [Rb]),(.cond (.v 12) [] [(.exit 1)]),(.block 2 [(.ops [(.i .l (.ixa (some 35) none (.v 9) (.v 11))),cQ,sK,nn]),(.ops [mt,O9,dw]),(.ops [bT,(.i (.v 13) dT)]),(.cond (.v 13) [(.ops [bT,dH]),.ret] [])]),(.ops [SP,mV])]
def AK:List RS:=[Bu,(.ops [fT,ai,jJ,aV,qP,fG,Do,(.i (.v 6) Je)]),(.cond (.v 6) [(.ops [Rf]),.ret] []),(.ops [(.i .l (.bsl false 3 [(.int .i64 0)] 1 6 [(0,(.c (.int .i64 0))),(1,(.c (.int .i64 0))),(2,(.c (.int .i64 2))),(3,(.c (.int .i64 1))),(4,(.c (.int .i64 0))),(5,(.c (.int .i64 0)))])),fT,ai,(.i .l (.ixa (some 3) none (.l 2) (.l 0))),ai,cV]),(.block 0 [(.ops [kJ,ai,lC,bm,yr,aV,IJ,(.g (.l 1) false .l PP),(.g (.l 2) false .l eD),xW,lE,HH,(.g (.l 6) false .l vN),(.i .l IZ),aV,qP,fG,(.g (.l 2) false .l yF),I2,xW,lE,HH,Gf,(.i .l GP),fV]),(.cond (.v 7) [(.ops [Gv]),.ret] [(.ops [fT,ai,(.i .l (.bin (.int .i64) .geq (.l 0) (.c (.int .i64 3)))),aV,xW,lE,BR,yH,dE]),(.cond (.v 8) [(.ops [Rq]),.ret] [])])]),(.ops [kJ,GY,(.i (.v 10) (.len false (some 35) (.v 9))),Gu]),(.block 1 [(.loop iH)]),iC,.ret]
theorem MG:FnR Tryz.prog po 87 1 14 [0,1,2,3,5,6,14,20,45,55,56,57,58,64] AK [(.v 2)] true:=by refine⟨_,_,Tryz.func87,rfl,rfl,?_,?_,?_,?_,?_⟩<;>kernel_rfl
def nx:List RS:=[(.ops [PJ]),(.cond (.v 8) [] [(.exit 0)]),(.block 1 [(.ops [(.i .l (.ixa (some 35) none (.v 5) (.v 7))),cQ,sK,nn]),(.ops [jQ,ai,mt,Pp,(.ck [⟨none,false,1,(.l 3),(.l 2)⟩]),KP,(.ck [⟨none,false,1,(.l 4),(.l 3)⟩]),(.i .l (.app false 35 (.l 3) (.l 0))),jQ,pj])]),(.ops [SI,fV])]
def Ju:List RS:=[(.ops [Ai,BF]),(.ops [fT,ai,CL,ai,I0,Er,tM]),(.ops [kJ,(.i (.v 5) f9),(.i (.v 6) (.len false (some 35) (.v 5))),oR]),(.block 0 [(.loop nx)]),(.ops [md,xK]),.ret]
theorem Ux:FnR Tryz.prog po 48 1 9 [0,1,2,3,5,12,13,14,15] Ju [(.cell true 3 2)] true:=by refine⟨_,_,Tryz.func48,rfl,rfl,?_,?_,?_,?_,?_⟩<;>kernel_rfl
def lD:List RS:=[(.ops [Gc]),(.cond (.v 9) [] [(.exit 0)]),(.block 1 [(.ops [(.i .l (.ixa (some 35) none (.v 6) (.v 8))),cQ,sK,nn]),(.ops [bm,mt,(.i .l NF),OS,cV])]),Jj]
def Fd:List RS:=[(.ops [Ai,yG]),yd,(.ops [fT,ai,SW]),(.cond (.v 5) [(.ops [bm,CL,ai,FC,Sg,cV])] []),(.ops [kJ,xC,(.i (.v 7) (.len false (some 35) (.v 6))),jW]),(.block 0 [(.loop lD)]),n9,.ret]
theorem Qi:FnR Tryz.prog po 143 1 10 [0,1,2,3,5,8,15,16,17,18] Fd [(.v 2)] true:=by refine⟨_,_,Tryz.func143,rfl,rfl,?_,?_,?_,?_,?_⟩<;>kernel_rfl
def AA:List RS:=[Gj,(.ops [fT,ai,yT,aV,(.g (.l 0) false .l (.fad 2 (.v 1))),fG,(.g (.l 2) false .l (.call (.c (.fn 157 [] [])) [(.l 0),(.c (.fn 142 [] []))])),pV,dH]),.ret]
theorem LO:FnR Tryz.prog po 142 1 3 [0,1,2] AA [(.v 2)] true:=by refine⟨_,_,Tryz.func142,rfl,rfl,?_,?_,?_,?_,?_⟩<;>kernel_rfl
def sC:List RS:=[d9,(.ops [ay,bk,(.i .l (.call (.c (.fn 166 [] [])) [(.l 1),(.l 0)])),pZ,dH]),.ret]
theorem Bj:FnR Tryz.prog po 157 2 3 [0,1,4] sC [(.v 2)] true:=by refine⟨_,_,Tryz.func157,rfl,rfl,?_,?_,?_,?_,?_⟩<;>kernel_rfl
def j7:List RS:=[(.ops [O1]),(.cond (.v 6) [] [(.exit 0)]),(.block 1 [(.ops [bT,cV]),(.ops [bk,ay,bm,oE,cQ,QM]),(.cond (.v 7) [n9,.ret] [])]),(.ops [Nl,dw])]
def AW:List RS:=[iC,(.ops [ay,(.i (.v 4) (.len false (some 35) (.l 0))),jF]),(.block 0 [(.loop j7)]),(.ops [IG]),.ret]
theorem M5:FnR Tryz.prog po 166 2 8 [0,1,4,5,7,8,9,16] AW [(.v 2)] true:=by refine⟨_,_,Tryz.func166,rfl,rfl,?_,?_,?_,?_,?_⟩<;>kernel_rfl
def wV:List RS:=[(.ops [BI,qt,BV]),(.ops [pk,ai,g9,ai,(.i .l Qd),aV,(.g (.l 0) true .l (.fad 1 (.v 2))),lE,(.g (.l 2) true .l (.fad 1 (.v 3))),wR,(.g (.l 4) true .l Qd),Bg,aV,(.g (.l 0) true .l (.fad 2 (.v 2))),lE,(.g (.l 2) true .l (.fad 2 (.v 3))),wR,(.g (.l 4) true .l (.call (.c (.fn 30 [] [])) [(.l 2),(.l 0)])),Bg,dB]),.ret]
theorem HQ:FnR Tryz.prog po 19 2 5 [0,1,2,3,4] wV [(.v 4)] true:=by refine⟨_,_,Tryz.func19,rfl,rfl,?_,?_,?_,?_,?_⟩<;>kernel_rfl
def iG:List RS:=[(.ops [bm,ay,lC,Bh]),(.cond (.v 5) [] [(.exit 0)]),(.block 1 [(.ops [ay,bm,oE,cQ,bk,bm,oE,cQ,(.i .l (.call (.c (.fn 19 [] [])) [(.l 4),(.l 0)])),tv]),(.cond (.v 6) [d9,.ret] [])]),qG]
def pe:List RS:=[d9,(.ops [ay,lC,bk,lC,BA]),(.cond (.v 4) [d9,.ret] []),g8,(.block 0 [(.loop iG)]),qD,.ret]
theorem uL:FnR Tryz.prog po 30 2 7 [0,1,4,5,10,14,26] pe [(.v 2)] true:=by refine⟨_,_,Tryz.func30,rfl,rfl,?_,?_,?_,?_,?_⟩<;>kernel_rfl
def jv:List RS:=[(.ops [bT,lQ,ai,lC,xV,aV,Cw,G7,Jg,Qc]),(.cond (.v 6) [] [(.exit 0)]),(.block 1 [(.ops [bA,lQ,ai,bT,oE,cQ,bk,bA,IA,(.i .l (.call (.c (.fn 46 [] [])) [(.l 3),(.l 0)])),N6,dB])]),yz]
def yQ:List RS:=[(.ops [BI,kI]),(.ops [xD]),oe,(.block 0 [(.loop jv)]),wK,.ret]
theorem IR:FnR Tryz.prog po 46 2 7 [0,1,2,4,5,6,16] yQ [(.v 3)] true:=by refine⟨_,_,Tryz.func46,rfl,rfl,?_,?_,?_,?_,?_⟩<;>kernel_rfl
def fz:List RS:=[(.ops [bA,bm,(.i (.v 13) Iq)]),(.cond (.v 13) [] [(.exit 1)]),(.block 2 [(.ops [kJ,ai,bA,oE,cQ,QB,dw]),(.ops [bT,(.i (.v 14) dT)]),(.cond (.v 14) [(.ops [bT,dH]),.ret] [])]),sW]
def sB:List RS:=[Bu,g8,(.ops [fT,xC]),(.block 0 [(.ops [(.i .l (.bin (.int .i64) .eql (.v 6) (.c (.int .i64 2)))),fV]),(.cond (.v 7) [(.ops [(.i (.v 3) yS)])] [(.ops [(.i .l (.bin (.int .i64) .eql (.v 6) (.c (.int .i64 3)))),dE]),(.cond (.v 8) [C4] [(.ops [(.i .l (.bin (.int .i64) .eql (.v 6) (.c (.int .i64 0)))),nZ]),(.cond (.v 9) [] [(.ops [(.i .l (.bin (.int .i64) .eql (.v 6) (.c (.int .i64 1)))),nZ]),(.cond (.v 9) [] [(.ops [(.i .l (.bin (.int .i64) .eql (.v 6) (.c (.int .i64 4)))),nZ]),(.cond (.v 9) [] [(.ops [OB,nZ])])])]),(.cond (.v 9) [] [(.ops [Rf]),.ret])])])]),(.ops [kJ,ai,lC,bm,(.i (.v 10) SD)]),(.cond (.v 10) [(.ops [Gv]),.ret] []),(.ops [fT,ai,Dk,aV,qP,fG,(.g (.l 2) false .l PP),pV,aV,xW,lE,HH,(.i (.v 11) vN)]),(.cond (.v 11) [(.ops [Gv]),.ret] []),(.ops [fT,ai,(.i .l Qp),aV,qP,fG,(.g (.l 2) false .l Hf),pV,aV,qP,fG,(.g (.l 2) false .l (.bin (.int .i64) .eql (.l 0) (.c (.int .i64 5)))),pV,aV,xW,lE,BR,(.i (.v 12) vN)]),(.cond (.v 12) [(.ops [Rq]),.ret] []),lO,(.block 1 [(.loop fz)]),iC,.ret]
theorem Cm:FnR Tryz.prog po 94 1 15 [0,1,2,3,4,5,7,8,10,12,21,34,52,55,65] sB [(.v 2)] true:=by refine⟨_,_,Tryz.func94,rfl,rfl,?_,?_,?_,?_,?_⟩<;>kernel_rfl
def od:List RS:=[Bu,(.ops [qM,(.i .l (.call (.c (.fn 46 [] [])) [(.l 0),(.c (.int .i64 40))])),(.i (.v 3) (.bin (.int .i64) .gtr (.l 0) (.c (.int .i64 40))))]),(.cond (.v 3) [(.ops [Nm]),.ret] []),(.ops [qM,QB,dH]),.ret]
theorem uI:FnR Tryz.prog po 53 1 4 [0,1,2,5] od [(.v 2)] true:=by refine⟨_,_,Tryz.func53,rfl,rfl,?_,?_,?_,?_,?_⟩<;>kernel_rfl
def uv:List RS:=[Gj,(.ops [qM,(.i .l (.call (.c (.fn 46 [] [])) [(.l 0),(.c (.int .i64 500))])),(.i .l (.bin (.int .i64) .gtr (.l 0) (.c (.int .i64 500)))),dH]),.ret]
theorem Ft:FnR Tryz.prog po 11 1 3 [0,1,2] uv [(.v 2)] true:=by refine⟨_,_,Tryz.func11,rfl,rfl,?_,?_,?_,?_,?_⟩<;>kernel_rfl
def kb:List RS:=[(.ops [bA,kJ,ai,lC,(.i (.v 6) wE)]),(.cond (.v 6) [] [(.exit 0)]),(.block 1 [(.ops [bm,kJ,ai,bA,oE,cQ,Tm,(.i .l (.app false 3 (.l 6) (.l 0))),cV])]),sW]
def zN:List RS:=[(.ops [Ai,yG]),yd,(.ops [fT,ai,SW]),(.cond (.v 5) [(.ops [CL,ai,FC,cV])] []),lO,(.block 0 [(.loop kb)]),n9,.ret]
theorem MP:FnR Tryz.prog po 165 1 7 [0,1,2,3,4,7,15] zN [(.v 2)] true:=by refine⟨_,_,Tryz.func165,rfl,rfl,?_,?_,?_,?_,?_⟩<;>kernel_rfl
def kh:List RS:=[(.ops [bm,kJ,ai,lC,(.i (.v 4) wE)]),(.cond (.v 4) [] [(.exit 0)]),(.block 1 [(.ops [kJ,ai,bm,oE,cQ,(.i (.v 5) R0)]),(.cond (.v 5) [qD,.ret] [])]),qG]
def AP:List RS:=[Gj,g8,(.block 0 [(.loop kh)]),(.ops [fT,ai,yT,dH]),.ret]
theorem Mw:FnR Tryz.prog po 164 1 6 [0,1,2,3,8,16] AP [(.v 2)] true:=by refine⟨_,_,Tryz.func164,rfl,rfl,?_,?_,?_,?_,?_⟩<;>kernel_rfl
theorem uT {x y:VD} {i:Nat} (h:x.l[i]? =some y):cg (x.l.take (i+1))=cg (x.l.take i)+y.size∧cg (x.l.take (i+1))≤cg x.l:=by
 have e:=kO h
 constructor
 ·rw[e,jn,GZ]
 ·have:=jn (x.l.take (i+1)) (x.l.drop (i+1))
  rw[List.take_append_drop]at this
  omega
theorem pL (l:List VD) (i:Nat):cg (l.take i)≤cg l:=by
 have:=jn (l.take i) (l.drop i)
 rw[List.take_append_drop]at this
 omega
theorem Ew (l:List VD) {i:Nat} (hi:i<l.length):i≤cg (l.take i):=by
 have:=qH (l.take i)
 rw[List.length_take]at this
 omega
theorem eR {l:List VD} {i:Nat} {y:VD} (h:l[i]? =some y):y∈l:=List.mem_of_getElem? h
theorem i7 {l:List VD} {i:Nat} (h:i<l.length):∃ y,l[i]? =some y:=⟨_,List.getElem?_eq_getElem h⟩
section
variable {h:AH}
def me (left:Int) (n:Nat):Int:=if(n:Int)≤left then left - n else -1
theorem LZ:∀ (N:Nat) (x:VD),SizeOf.sizeOf x≤N→∀ (r:List AV) (h:AH) (left:Int),VaA x r→0≤left→left≤100000→
  aj Tryz.prog po 86 [.agg r,.int .i64 left] h=some (.inl (.int .i64 (me left x.size)),h):=by
 intro N
 induction N with
 | zero=>intro x hx;have:=x.so_pos;omega
 | succ N ih=>
   intro x hx r h left he h0 h1
   obtain⟨v,es,rfl,hsl,hv,hn,hix⟩:=he.facts
   have hs:=x.size_eq
   have w1:=w64 (n:=left - 1) (by omega) (by omega)
   refine dV SL rfl fun Q hQ=> ?_;unfold Fm
   simp only[sim,af,θ,ξ,η,reduceCtorEq,ψ,ω,aa,hv,w1]
   refine fN (fun i V h'=>∃ v5 cur,V=[.agg [.int .i64 x.kind,.int .i64 x.n,v],.int .i64 cur,.ptr h.n 0 0,.int .i64 0,.int .i64 (i:Nat),v5]∧h'=h.push [[.int .i64 x.kind,.int .i64 x.n,v]]∧cur=me left (1+cg (x.l.take i))) x.l.length ⟨_,_,rfl,rfl,?_⟩ ?_ ?_
   ·simp only[me,List.take_zero,cg]
    split<;>omega
   ·rintro i V h' hi ⟨v5,cur,rfl,rfl,hc⟩ next
    have hlt:(i:Int)<(es.length:Int):=by rw[hn];omega
    by_cases hp:0≤cur
    ·obtain⟨y,hy⟩:=i7 hi
     obtain⟨q,i1,d1,x1⟩:=hix i y hy
     obtain⟨z1,z2⟩:=uT hy
     have hil:=Ew x.l hi
     have hcl:cur≤100000∧(i:Int)<100000:=by
      rw[hc,me]at hp ⊢
      split at hp
      ·rename_i hh
       rw[if_pos hh]
       omega
      ·omega
     have hw:=w64 (n:=(i:Int)+1) (by omega) (by omega)
     have e1:=ih y (by have:=VD.lt_mem (eR hy);omega) q (h.push [[.int .i64 x.kind,.int .i64 x.n,v]]) cur x1 hp (by omega)
     rw[aG lF.eq_1]
     simp only[sim,af,θ,ξ,η,reduceCtorEq,ψ,ω,aa,hsl.len,hsl.fits,hlt,hp,i1,d1,e1,hw]
     refine next _ _ ⟨_,_,rfl,rfl,?_⟩
     rw[z1,hc]
     rw[hc]at hp
     simp only[me]at hp ⊢
     repeat' split<;>omega
    ·rw[aG lF.eq_1]
     simp only[sim,af,θ,ξ,η,reduceCtorEq,ψ,ω,aa,hsl.len,hsl.fits,hlt,hp]
     refine hQ _ _ _ rfl (by repeat (first | exact ab.refl _ | refine ab.trans ?_ (ab.push _ _) | refine ab.trans ?_ (ab.fresh _ _))) ?_
     have e:cur=me left x.size:=by
      rw[hc,me]at hp
      rw[hc,me,me,hs]
      have:=pL x.l i
      split at hp
      ·omega
      ·rename_i hh
       rw[if_neg hh,if_neg (by omega)]
     rw[←e]
     rfl
   ·rintro V h' ⟨v5,cur,rfl,rfl,hc⟩
    have hlt:¬ ((x.l.length:Int)<(es.length:Int)):=by rw[hn];omega
    rw[List.take_length,←hs]at hc
    rw[aG lF.eq_1]
    simp only[sim,af,θ,ξ,η,reduceCtorEq,ψ,ω,aa,hsl.len,hsl.fits,hlt]
    exact hQ _ _ _ rfl (by repeat (first | exact ab.refl _ | refine ab.trans ?_ (ab.push _ _) | refine ab.trans ?_ (ab.fresh _ _))) (by rw[←hc];rfl)
theorem uK:∀ (N:Nat) (x:VD),SizeOf.sizeOf x≤N→∀ (r:List AV) (h:AH) (most:Int),VaA x r→0≤most→most≤100000→
  aj Tryz.prog po 46 [.agg r,.int .i64 most] h=some (.inl (.int .i64 (min (x.size:Int) (most+1))),h):=by
 intro N
 induction N with
 | zero=>intro x hx;have:=x.so_pos;omega
 | succ N ih=>
   intro x hx r h most he h0 h1
   obtain⟨v,es,rfl,hsl,hv,hn,hix⟩:=he.facts
   have hs:=x.size_eq
   refine dV IR rfl fun Q hQ=> ?_;unfold yQ
   simp only[sim,af,θ,ξ,η,reduceCtorEq,ψ,ω,aa,hv]
   refine fN (fun i V h'=>∃ v6 cur,V=[.agg [.int .i64 x.kind,.int .i64 x.n,v],.int .i64 most,.ptr h.n 0 0,.int .i64 0,.int .i64 cur,.int .i64 (i:Nat),v6]∧h'=h.push [[.int .i64 x.kind,.int .i64 x.n,v]]∧cur=min ((1+cg (x.l.take i):Nat):Int) (most+1)) x.l.length ⟨_,_,rfl,rfl,?_⟩ ?_ ?_
   ·simp only[List.take_zero,cg]
    omega
   ·rintro i V h' hi ⟨v6,cur,rfl,rfl,hc⟩ next
    have hlt:(i:Int)<(es.length:Int):=by rw[hn];omega
    by_cases hp:cur≤most
    ·obtain⟨y,hy⟩:=i7 hi
     obtain⟨q,i1,d1,x1⟩:=hix i y hy
     obtain⟨z1,z2⟩:=uT hy
     have hil:=Ew x.l hi
     have hw:=w64 (n:=(i:Int)+1) (by omega) (by omega)
     have hw1:=w64 (n:=most - cur) (by omega) (by omega)
     have e1:=ih y (by have:=VD.lt_mem (eR hy);omega) q (h.push [[.int .i64 x.kind,.int .i64 x.n,v]]) (most - cur) x1 (by omega) (by omega)
     have hw2:=w64 (n:=cur+min (y.size:Int) (most - cur+1)) (by omega) (by omega)
     rw[aG jv.eq_1]
     simp only[sim,af,θ,ξ,η,reduceCtorEq,ψ,ω,aa,hsl.len,hsl.fits,hlt,hp,i1,d1,hw1,e1,hw2,hw]
     refine next _ _ ⟨_,_,rfl,rfl,?_⟩
     rw[z1]
     omega
    ·rw[aG jv.eq_1]
     simp only[sim,af,θ,ξ,η,reduceCtorEq,ψ,ω,aa,hsl.len,hsl.fits,hlt,hp]
     refine hQ _ _ _ rfl (by repeat (first | exact ab.refl _ | refine ab.trans ?_ (ab.push _ _) | refine ab.trans ?_ (ab.fresh _ _))) ?_
     have e:cur=min (x.size:Int) (most+1):=by
      have:=pL x.l i
      omega
     rw[←e]
     rfl
   ·rintro V h' ⟨v6,cur,rfl,rfl,hc⟩
    have hlt:¬ ((x.l.length:Int)<(es.length:Int)):=by rw[hn];omega
    rw[List.take_length,←hs]at hc
    rw[aG jv.eq_1]
    simp only[sim,af,θ,ξ,η,reduceCtorEq,ψ,ω,aa,hsl.len,hsl.fits,hlt]
    exact hQ _ _ _ rfl (by repeat (first | exact ab.refl _ | refine ab.trans ?_ (ab.push _ _) | refine ab.trans ?_ (ab.fresh _ _))) (by rw[←hc];rfl)
theorem Cp {x:VD} {r:List AV} (he:VaA x r):aj Tryz.prog po 11 [.agg r] h=some (.inl (.bool x.great),h):=by
 obtain⟨o1,o2⟩:=he.one
 have e1:=fun h=>uK _ x (Nat.le_refl _) r h 500 he (by omega) (by omega)
 have e2:(500<min (x.size:Int) (500+1))=(500<x.size):=propext (by omega)
 refine dV Ft rfl fun Q hQ=> ?_;unfold uv
 simp only[sim,af,θ,ξ,η,reduceCtorEq,ψ,ω,aa,o1,o2,bi o2,e1,e2]
 exact hQ _ _ _ rfl (by repeat (first | exact ab.refl _ | refine ab.trans ?_ (ab.push _ _) | refine ab.trans ?_ (ab.fresh _ _))) rfl
theorem wO {kind n:Int} {len:Nat} (h:di kind n len=0):len=ff kind∧(kind=0∨kind=1∨kind=2∨kind=3∨kind=4∨kind=5):=by
 unfold di at h
 split at h
 ·cases h
 ·split at h
  ·cases h
  ·exact⟨by omega,by omega⟩
theorem E3 (kind:Int):ff kind≤2:=by unfold ff;split;omega;split<;>omega
theorem uH {l:List VD} {i:Nat} {y:VD} (h:l[i]? =some y):dt (l.drop i)=if y.fault≠0 then y.fault else dt (l.drop (i+1)):=by
 obtain⟨hi,rfl⟩:=List.getElem?_eq_some_iff.1 h
 rw[List.drop_eq_getElem_cons hi,iu]
set_option maxHeartbeats 1000000 in
theorem zD:∀ (N:Nat) (x:VD),SizeOf.sizeOf x≤N→∀ (r:List AV) (h:AH),VaA x r→
  aj Tryz.prog po 94 [.agg r] h=some (.inl (.int .i64 x.fault),h):=by
 intro N
 induction N with
 | zero=>intro x hx;have:=x.so_pos;omega
 | succ N ih=>
   intro x hx r h he
   obtain⟨v,es,rfl,hsl,hv,hn,hix⟩:=he.facts
   have hfe:=x.fault_eq
   rw[hfe]
   have loop:di x.kind x.n x.l.length=0→∀ (Q:jN→Prop) (v6 v7 v8 v9 v10 v11 v12 v13 v14:AV),(∀ V h',(fS V h' [.v 2]).map gh=some (.int .i64 (dt x.l))→ab h h'→Q (some (.ret,V,h')))→
     Q (aC (aj Tryz.prog po) 15 (.lp fz:: .ss []:: .blk 1::[.ss [.ops [uk],.ret]])
       [.agg [.int .i64 x.kind,.int .i64 x.n,v],.ptr h.n 0 0,.int .i64 0,.int .i64 (ff x.kind:Nat),.int .i64 0,.junk,v6,v7,v8,v9,v10,v11,v12,v13,v14] [] (h.push [[.int .i64 x.kind,.int .i64 x.n,v]])):=by
    intro hd Q v6 v7 v8 v9 v10 v11 v12 v13 v14 hQ
    obtain⟨hlen, -⟩:=wO hd
    have hwf:=E3 x.kind
    refine fN (fun i V h'=>∃ v5 v13 v14,V=[.agg [.int .i64 x.kind,.int .i64 x.n,v],.ptr h.n 0 0,.int .i64 0,.int .i64 (ff x.kind:Nat),.int .i64 (i:Nat),v5,v6,v7,v8,v9,v10,v11,v12,v13,v14]∧h'=h.push [[.int .i64 x.kind,.int .i64 x.n,v]]∧dt (x.l.drop i)=dt x.l) x.l.length ⟨_,_,_,rfl,rfl,rfl⟩ ?_ ?_
    ·rintro i V h' hi ⟨v5,v13,v14,rfl,rfl,hc⟩ next
     have hlt:(i:Int)<(ff x.kind:Int):=by omega
     obtain⟨y,hy⟩:=i7 hi
     obtain⟨q,i1,d1,x1⟩:=hix i y hy
     have hw:=w64 (n:=(i:Int)+1) (by omega) (by omega)
     have e1:=ih y (by have:=VD.lt_mem (eR hy);omega) q (h.push [[.int .i64 x.kind,.int .i64 x.n,v]]) x1
     rw[uH hy]at hc
     by_cases hf:y.fault=0
     ·rw[if_neg (by simp[hf])]at hc
      rw[hf]at e1
      rw[aG fz.eq_1]
      simp only[sim,af,θ,ξ,η,reduceCtorEq,ψ,ω,aa,hlt,i1,d1,e1,hw]
      exact next _ _ ⟨_,_,_,rfl,rfl,hc⟩
     ·rw[if_pos hf]at hc
      rw[aG fz.eq_1]
      simp only[sim,af,θ,ξ,η,reduceCtorEq,ψ,ω,aa,hlt,i1,d1,e1,hf]
      exact hQ _ _ (by rw[←hc];rfl) (by repeat (first | exact ab.refl _ | refine ab.trans ?_ (ab.push _ _) | refine ab.trans ?_ (ab.fresh _ _)))
    ·rintro V h' ⟨v5,v13,v14,rfl,rfl,hc⟩
     have hlt:¬ ((x.l.length:Int)<(ff x.kind:Int)):=by omega
     rw[List.drop_length]at hc
     rw[aG fz.eq_1]
     simp only[sim,af,θ,ξ,η,reduceCtorEq,ψ,ω,aa,hlt]
     exact hQ _ _ (by rw[←hc];rfl) (by repeat (first | exact ab.refl _ | refine ab.trans ?_ (ab.push _ _) | refine ab.trans ?_ (ab.fresh _ _)))
   refine dV Cm rfl fun Q hQ=> ?_;unfold sB
   by_cases hk:x.kind=0∨x.kind=1∨x.kind=2∨x.kind=3∨x.kind=4∨x.kind=5
   ·by_cases hl:(x.l.length:Nat)=ff x.kind
    ·have hl':(es.length:Int)=(ff x.kind:Int):=by rw[hn,hl]
     by_cases hz:x.n=0
     ·have hh:di x.kind x.n x.l.length=0:=by
       unfold di
       rw[if_neg (by omega),if_neg (by omega),if_neg (by omega),if_neg (by omega)]
      have L:=loop hh
      rw[hh]at hQ
      rcases hk with hk | hk | hk | hk | hk | hk
      all_goals
       rw[hk]at hl' L
       simp only[ff,Int.reduceEq,if_false,if_true,Int.cast_ofNat_Int,Int.natCast_zero,Int.natCast_one,hz]at hl' L
       simp only[sim,af,θ,ξ,η,reduceCtorEq,ψ,ω,aa,hv,hk,hz,Int.reduceEq,Int.reduceLT,hsl.len,hsl.fits,hl']
       exact L _ _ _ _ _ _ _ _ _ _ fun V h' e g=>hQ _ _ _ e g rfl
     ·have hh0:di x.kind x.n x.l.length=if x.kind=0∨x.kind=2 then 5 else if 3≤x.kind∧x.n<0 then 1 else 0:=by
       unfold di
       rw[if_neg (by omega),if_neg (by omega)]
       simp only[hz,not_false_eq_true,ne_eq,and_true]
      by_cases hng:x.n<0
      ·rcases hk with hk | hk | hk | hk | hk | hk
       all_goals
        have hh:=hh0
        simp only[hk,hng,Int.reduceEq,Int.reduceLE,true_or,or_true,and_true,and_false,false_or,or_false,or_self,if_true,if_false]at hh
        rw[←hk]at hh
        have L:=loop
        rw[hh]at L hQ
        rw[hk]at hl' L
        simp only[ff,Int.reduceEq,if_false,if_true,Int.cast_ofNat_Int,Int.natCast_zero,Int.natCast_one]at hl' L
        simp only[sim,af,θ,ξ,η,reduceCtorEq,ψ,ω,aa,hv,hk,hz,hng,Int.reduceEq,Int.reduceLT,hsl.len,hsl.fits,hl']
        first
         | exact hQ _ _ _ rfl (by repeat (first | exact ab.refl _ | refine ab.trans ?_ (ab.push _ _) | refine ab.trans ?_ (ab.fresh _ _))) rfl
         | exact L trivial _ _ _ _ _ _ _ _ _ _ fun V h' e g=>hQ _ _ _ e g rfl
      ·rcases hk with hk | hk | hk | hk | hk | hk
       all_goals
        have hh:=hh0
        simp only[hk,hng,Int.reduceEq,Int.reduceLE,true_or,or_true,and_true,and_false,false_or,or_false,or_self,if_true,if_false]at hh
        rw[←hk]at hh
        have L:=loop
        rw[hh]at L hQ
        rw[hk]at hl' L
        simp only[ff,Int.reduceEq,if_false,if_true,Int.cast_ofNat_Int,Int.natCast_zero,Int.natCast_one]at hl' L
        simp only[sim,af,θ,ξ,η,reduceCtorEq,ψ,ω,aa,hv,hk,hz,hng,Int.reduceEq,Int.reduceLT,hsl.len,hsl.fits,hl']
        first
         | exact hQ _ _ _ rfl (by repeat (first | exact ab.refl _ | refine ab.trans ?_ (ab.push _ _) | refine ab.trans ?_ (ab.fresh _ _))) rfl
         | exact L trivial _ _ _ _ _ _ _ _ _ _ fun V h' e g=>hQ _ _ _ e g rfl
    ·have hh:di x.kind x.n x.l.length=5:=by
      unfold di
      rw[if_neg (by omega),if_pos hl]
     have hl':¬ (es.length:Int)=(ff x.kind:Int):=by rw[hn];omega
     rw[hh]at hQ
     rcases hk with hk | hk | hk | hk | hk | hk
     all_goals
      rw[hk]at hl'
      simp only[ff,Int.reduceEq,if_false,if_true,Int.cast_ofNat_Int,Int.natCast_zero,Int.natCast_one]at hl'
      simp only[sim,af,θ,ξ,η,reduceCtorEq,ψ,ω,aa,hv,hk,Int.reduceEq,hsl.len,hsl.fits,hl']
      exact hQ _ _ _ rfl (by repeat (first | exact ab.refl _ | refine ab.trans ?_ (ab.push _ _) | refine ab.trans ?_ (ab.fresh _ _))) rfl
   ·have hh:di x.kind x.n x.l.length=2:=by
     unfold di
     rw[if_pos (by omega)]
    obtain⟨k0,k1,k2,k3,k4,k5⟩:¬ x.kind=0∧¬ x.kind=1∧¬ x.kind=2∧¬ x.kind=3∧¬ x.kind=4∧¬ x.kind=5:=by omega
    rw[hh]at hQ
    simp only[sim,af,θ,ξ,η,reduceCtorEq,ψ,ω,aa,hv,k0,k1,k2,k3,k4,k5]
    exact hQ _ _ _ rfl (by repeat (first | exact ab.refl _ | refine ab.trans ?_ (ab.push _ _) | refine ab.trans ?_ (ab.fresh _ _))) rfl
end
def CI:List RS:=[d9,(.ops [ay,bk,SE,bk,Gn,dH]),.ret]
theorem K6:FnR Tryz.prog po 144 2 3 [0,1,4] CI [(.v 2)] true:=by refine⟨_,_,Tryz.func144,rfl,rfl,?_,?_,?_,?_,?_⟩<;>kernel_rfl
def xL:List RS:=[(.ops [Gy]),(.cond (.v 2) [(.ops [bk,(.i .l (.mki 210 (.l 0))),Dw])] [])]
theorem FW:FnR Tryz.prog po 161 2 3 [0,1,4] xL [] true:=by refine⟨_,_,Tryz.func161,rfl,rfl,?_,?_,?_,?_,?_⟩<;>kernel_rfl
def nB:List RS:=[(.ops [Gc]),(.cond (.v 9) [] [(.exit 0)]),(.block 1 [(.ops [(.i .l (.ixa (some 3) none (.v 6) (.v 8))),ai,cV]),(.ops [ay,bg,bI,ai,bk,bm,(.i .l (.call (.c (.fn 84 [] [])) [(.l 2),(.l 1),(.c (.int .i64 15)),(.l 0)])),aV,br,bY,nq,dw]),(.ops [bT,oU,bT,(.i .l (.call (.c (.fn 161 [] [])) [(.l 1),(.l 0)]))]),(.ops [bA,iS])]),Jj]
def K0:List RS:=[iC,(.ops [ay,bg,bX,xC,(.i (.v 7) (.len false (some 3) (.v 6))),jW]),(.block 0 [(.loop nB)]),(.ops [bk,dH]),.ret]
theorem VH:FnR Tryz.prog po 146 2 10 [0,1,4,6,7,8,12,13,14,15] K0 [(.v 2)] false:=by refine⟨_,_,Tryz.func146,rfl,rfl,?_,?_,?_,?_,?_⟩<;>kernel_rfl
def kT:List RS:=[BJ,(.cond (.v 10) [] [(.exit 0)]),(.block 1 [(.ops [(.i .l (.ixa (some 35) none (.v 7) (.v 9))),cQ,uU,kS]),(.ops [(.i .l (.fad 2 (.v 4))),ai,ay,pU,O5,(.ck [⟨none,false,1,(.l 4),(.l 3)⟩]),KP,(.ck [⟨none,false,1,(.l 5),(.l 4)⟩]),(.i .l (.app false 35 (.l 4) (.l 0))),(.i .l (.fad 2 (.v 4))),pj])]),Ct]
def Kp:List RS:=[(.ops [DC,Er]),(.ops [pk,ai,mO,ai,I0,sK,nn]),(.ops [pk,ai,(.i (.v 6) Hf)]),(.cond (.v 6) [(.ops [ay,mO,ai,(.i .l (.call (.c (.fn 146 [] [])) [(.l 2),(.l 0)])),jU,pj])] []),(.ops [lQ,vX,(.i (.v 8) (.len false (some 35) (.v 7))),pa]),(.block 0 [(.loop kT)]),(.ops [mt,tM]),.ret]
theorem Vi:FnR Tryz.prog po 128 2 11 [0,1,3,4,5,7,15,22,23,24,25] Kp [(.cell true 3 3)] false:=by refine⟨_,_,Tryz.func128,rfl,rfl,?_,?_,?_,?_,?_⟩<;>kernel_rfl
def mQ:List RS:=[(.ops [(.i (.v 11) (.bin (.int .i64) .lss (.v 10) (.v 9)))]),(.cond (.v 11) [] [(.exit 0)]),(.block 1 [(.ops [(.i .l (.ixa (some 3) none (.v 8) (.v 10))),ai,dw]),(.ops [ay,bT,Pu,(.i .l (.call (.c (.fn 144 [] [])) [(.l 0),(.c (.int .i64 4))])),(.i (.v 12) mT)]),(.cond (.v 12) [BW,.ret] [])]),(.ops [(.i .l (.bin (.int .i64) .add (.v 10) (.c (.int .i64 1)))),mp])]
def vz:List RS:=[(.ops [DC,kI]),(.ops [lB,Jk,dB]),(.ops [bA,(.i (.v 6) dT)]),(.cond (.v 6) [wK,.ret] []),(.ops [lB,(.i (.v 7) (.call (.c (.fn 142 [] [])) [(.l 0)]))]),(.cond (.v 7) [BW,.ret] []),(.ops [lB,(.i (.v 8) NF),(.i (.v 9) (.len false (some 3) (.v 8))),(.i (.v 10) F9)]),(.block 0 [(.loop mQ)]),g8,.ret]
theorem BP:FnR Tryz.prog po 126 2 13 [0,1,3,4,5,7,11,14,16,17,18,19,26] vz [(.v 3)] true:=by refine⟨_,_,Tryz.func126,rfl,rfl,?_,?_,?_,?_,?_⟩<;>kernel_rfl
def ju:List RS:=[(.ops [dQ,bT,sS,(.i (.v 9) n8)]),(.cond (.v 9) [] [(.exit 0)]),(.block 1 [(.ops [ay,bT,dQ,Ci,ai,(.i .l (.call (.c (.fn 152 [] [])) [(.l 4),(.l 0)])),(.i .l (.call (.c (.fn 151 [] [])) [(.l 0),(.c (.int .i64 2))])),(.i (.v 10) mT)]),(.cond (.v 10) [BW,.ret] [])]),Iw]
def nj:List RS:=[(.ops [DC,kI]),(.ops [lB,I5,dB]),(.ops [bA,SQ]),(.cond (.v 7) [wK,.ret] []),(.ops [lB,(.i (.v 8) R0)]),(.cond (.v 8) [BW,.ret] []),(.ops [lB,Tm,dw]),(.ops [jB]),(.block 0 [(.loop ju)]),g8,.ret]
theorem qy:FnR Tryz.prog po 155 2 11 [0,1,3,4,5,6,7,11,14,20,30] nj [(.v 3)] true:=by refine⟨_,_,Tryz.func155,rfl,rfl,?_,?_,?_,?_,?_⟩<;>kernel_rfl
def iN:List RS:=[(.ops [ni,jQ,ai,lC,(.i (.v 17) wE)]),(.cond (.v 17) [] [(.exit 2)]),(.block 3 [(.ops [ay,jQ,ai,ni,oE,cQ,bN,(.i .l (.call (.c (.fn 156 [] [])) [(.l 6),(.l 1),(.l 0)])),aV,br,bY,HX,Ii,mU]),(.ops [sZ,(.i (.v 18) dT)]),(.cond (.v 18) [(.ops [iQ,sZ,xM,dw]),.ret] []),(.ops [(.i .l (.fad 2 (.v 6))),ai,(.i .l (.load true 3 (.v 12))),KP,OZ,(.i .l (.fad 2 (.v 6))),pj])]),(.ops [ni,oF,mV])]
def j0:List RS:=[(.ops [lJ,bN,sS,(.i (.v 15) n8)]),(.cond (.v 15) [] [(.exit 0)]),(.block 1 [(.ops [ay,fx,bN,lJ,Ci,ai,(.i .l (.call (.c (.fn 85 [] [])) [(.l 5),(.l 4),(.c (.int .i64 15)),(.l 0)])),aV,br,bY,(.i (.v 9) lT),mp]),(.ops [mr,Gk]),(.cond (.v 16) [(.ops [iQ,mr,xM,dw]),.ret] []),(.ops [iX,fV])]),(.ops [lJ,oF,dE])]
def Ad:List RS:=[(.ops [qt,sK,jF]),(.ops [g9,ai,eu,ai,I0,Dz,BL]),(.ops [g9,ai,(.i (.v 14) Hf)]),(.cond (.v 14) [(.ops [eu,ai,fV]),(.ops [jW]),(.block 0 [(.loop j0)]),(.ops [fx,(.i .l (.fad 1 (.v 6))),pj])] []),(.ops [Gu]),(.block 2 [(.loop iN)]),(.ops [oZ,nn,jF]),.ret]
theorem M3:FnR Tryz.prog po 156 3 19 [0,1,2,4,6,7,8,9,10,11,12,13,14,15,23,29,43,53,68] Ad [(.cell true 3 4),(.v 5)] false:=by refine⟨_,_,Tryz.func156,rfl,rfl,?_,?_,?_,?_,?_⟩<;>kernel_rfl
def Ay:List RS:=[(.ops [qt,sK,jF]),(.ops [ay,md,(.i .l (.call (.c (.fn 155 [] [])) [(.l 1),(.l 0)])),dM]),(.ops [dQ,SQ]),(.cond (.v 7) [(.ops [iQ,dQ,xM,dw]),.ret] []),(.ops [ay,md,bN,(.i .l (.call (.c (.fn 156 [] [])) [(.l 2),(.l 1),(.l 0)])),br,bY,xM,dw]),.ret]
theorem Mb:FnR Tryz.prog po 140 3 8 [0,1,2,4,6,7,8,13] Ay [(.cell true 3 4),(.v 5)] false:=by refine⟨_,_,Tryz.func140,rfl,rfl,?_,?_,?_,?_,?_⟩<;>kernel_rfl
open Go.RowKit
structure iO where
 (d a b c e:Int)
def ae.step (G:ae) (x:iO):ae×Int×Int:=
 if x.d=0 then G.gate else if x.d=1 then((G.cut x.a).1,0,(G.cut x.a).2)else if x.d=2 then G.cellC x.a x.b x.c else if x.d=3 then G.funcC x.a x.e x.b x.c else if x.d=4 then G.derive x.a x.b x.c else(G,0,0)
theorem ae.Wf.step {G:ae} (h:G.Wf) (x:iO):(G.step x).1.Wf:=by
 unfold ae.step
 split
 ·exact h.gate
 split
 ·exact h.cut _
 split
 ·exact h.cellC _ _ _
 split
 ·exact h.funcC _ _ _ _
 split
 ·exact h.derive _ _ _
 ·exact h
theorem ae.path_last {G:ae} (hW:G.Wf):∀ (f:Nat) (i:Int),i.toNat<f→G.has i=true→∃ pre t,G.path i=pre++[t]∧t.parent= -1∧∃ k:Nat,G.nodes[k]? =some t:=by
 intro f
 induction f with
 | zero=>intro i hi;omega
 | succ f ih=>
   intro i hi hh
   have ok:=hW.get hh
   have hget:G.nodes[i.toNat]? =some (G.nodes.getD i.toNat bM):=by
    simp[ae.has]at hh
    have:i.toNat<G.nodes.length:=by omega
    simp[List.getD,this]
   rw[ae.path_yes hW hh]
   by_cases hp:G.has (G.nodes.getD i.toNat bM).parent=true
   ·have hp0:0≤(G.nodes.getD i.toNat bM).parent:=by simp only[ae.has,decide_eq_true_eq]at hp;exact hp.1
    have hp1:=ok.p1
    obtain⟨pre,t,h1,h2,h3⟩:=ih (G.nodes.getD i.toNat bM).parent (by omega) hp
    exact⟨_::pre,t,by rw[h1];rfl,h2,h3⟩
   ·refine⟨[],_,by rw[ae.path_no (by simpa using hp)];rfl,?_,_,hget⟩
    have h0:=ok.p0
    have h1:=ok.p1
    have hi2:i.toNat<G.nodes.length:=(List.getElem?_eq_some_iff.1 hget).1
    simp only[ae.has,decide_eq_true_eq,not_and]at hp
    rcases Int.lt_or_le (G.nodes.getD i.toNat bM).parent 0 with h | h
    ·omega
    ·have:=hp h;omega
theorem ae.target_ok {G:ae} (hW:G.Wf) {i:Int} (hh:G.has i=true):(G.target i).2=true∧(G.target i).1.parent= -1∧((G.target i).1.plugin= -1∧0≤(G.target i).1.cell∧(G.target i).1.cell<12∧(G.target i).1.func=0∨0≤(G.target i).1.plugin∧(G.target i).1.plugin<4∧0≤(G.target i).1.func∧(G.target i).1.func<6∧(G.target i).1.cell=0):=by
 obtain⟨pre,t,h1,h2,k,hk⟩:=ae.path_last hW (i.toNat+1) i (by omega) hh
 have ht:G.target i=(t,true):=by
  unfold ae.target
  rw[h1]
  simp[List.getLastD_eq_getLast?]
 rw[ht]
 exact⟨rfl,h2,(hW.node k t hk).t h2⟩
theorem ae.path_ok {G:ae} (hW:G.Wf):∀ (f:Nat) (i:Int),∀ n∈G.pathF f i,gX n.rights=true∧(n.gate= -1∨0≤n.gate∧n.gate<G.shut.length):=by
 intro f
 induction f with
 | zero=>intro i n hn;simp[ae.pathF]at hn
 | succ f ih=>
   intro i n hn
   unfold ae.pathF at hn
   split at hn
   ·rename_i hk
    rcases List.mem_cons.1 hn with rfl | hn
    ·exact⟨(hW.get hk).r,(hW.get hk).g⟩
    ·exact ih _ n hn
   ·simp at hn
theorem yb {G:ae} (hW:G.Wf) (i:Int):∃ x:BitVec 64,G.rights i=x.toInt:=by
 unfold ae.rights
 split
 ·exact⟨0#64,rfl⟩
 ·exact⟨_,wT _ (fun n hn=>(ae.path_ok hW _ i n hn).1) 15#64⟩
theorem MO {ks:List Int} {x:VD} {G:ae} (h:(cN ks x G).2.2≠0):(cN ks x G).2.1=aK:=by
 rw[vh]at h ⊢
 split
 ·rfl
 ·rename_i h1
  rw[if_neg h1]at h
  split
  ·rfl
  ·rename_i h2
   rw[if_neg h2]at h
   exact absurd rfl h
theorem BN {ks:List Int} {x:VD} {G:ae} (h:(aN ks G x).2.2≠0):(aN ks G x).2.1=aK:=by
 unfold aN at h ⊢
 split
 ·rfl
 ·rename_i h1
  rw[if_neg h1]at h
  exact MO h
theorem aaw (x:VD):(id x).kind=x.kind:=rfl
theorem Z9 (x:VD):(id x).l=x.l.map id:=by simp
section
variable {h:AH}
theorem Uc (i:Option Nat):∀ (k:Int),(k=0∨k=1∨k=2∨k=3∨k=4∨k=5)→bL (some 3) none (.isl i 3 [[.int .i64 0],[.int .i64 0],[.int .i64 2],[.int .i64 1],[.int .i64 0],[.int .i64 0]]) (.int .i64 k)=some (.ip [.int .i64 (ff k:Nat)] 0):=by
 rintro k (rfl | rfl | rfl | rfl | rfl | rfl)<;>rfl
set_option maxHeartbeats 1000000 in
theorem GQ:∀ (N:Nat) (x:VD),SizeOf.sizeOf x≤N→∀ (r:List AV) (h:AH),VaA x r→
  aj Tryz.prog po 87 [.agg r] h=some (.inl (.int .i64 x.fault),h):=by
 intro N
 induction N with
 | zero=>intro x hx;have:=x.so_pos;omega
 | succ N ih=>
   intro x hx r h he
   obtain⟨v,es,rfl,hsl,hv,hn,hix⟩:=he.facts
   have hfe:=x.fault_eq
   rw[hfe]
   have loop:di x.kind x.n x.l.length=0→∀ (Q:jN→Prop) (v3 v6 v7 v8:AV),(∀ V h',(fS V h' [.v 2]).map gh=some (.int .i64 (dt x.l))→ab h h'→Q (some (.ret,V,h')))→
     Q (aC (aj Tryz.prog po) 14 (.lp iH:: .ss []:: .blk 1::[.ss [.ops [uk],.ret]])
       [.agg [.int .i64 x.kind,.int .i64 x.n,v],.ptr h.n 0 0,.int .i64 0,v3,.junk,.junk,v6,v7,v8,v,.int .i64 es.length,.int .i64 0,.junk,.junk] [] ((h.push [[.int .i64 x.kind,.int .i64 x.n,v]]).fresh 6)):=by
    intro hd Q v3 v6 v7 v8 hQ
    obtain⟨hlen, -⟩:=wO hd
    have hwf:=E3 x.kind
    refine fN (fun i V h'=>∃ v4 v5 v12 v13,V=[.agg [.int .i64 x.kind,.int .i64 x.n,v],.ptr h.n 0 0,.int .i64 0,v3,v4,v5,v6,v7,v8,v,.int .i64 es.length,.int .i64 (i:Nat),v12,v13]∧ab h h'∧dt (x.l.drop i)=dt x.l) x.l.length ⟨_,_,_,_,rfl,(by repeat (first | exact ab.refl _ | refine ab.trans ?_ (ab.push _ _) | refine ab.trans ?_ (ab.fresh _ _))),rfl⟩ ?_ ?_
    ·rintro i V h' hi ⟨v4,v5,v12,v13,rfl,g,hc⟩ next
     have hlt:(i:Int)<(es.length:Int):=by rw[hn];omega
     obtain⟨y,hy⟩:=i7 hi
     obtain⟨q,i1,d1,x1⟩:=hix i y hy
     obtain⟨o1,o2⟩:=x1.one
     have hw:=w64 (n:=(i:Int)+1) (by omega) (by omega)
     have e1:=ih y (by have:=VD.lt_mem (eR hy);omega) q (h'.push [q]) x1
     rw[uH hy]at hc
     by_cases hf:y.fault=0
     ·rw[if_neg (by simp[hf])]at hc
      rw[hf]at e1
      rw[aG iH.eq_1]
      simp only[sim,af,θ,ξ,η,reduceCtorEq,ψ,ω,aa,hlt,i1,d1,o1,o2,bi o2,e1,hw]
      exact next _ _ ⟨_,_,_,_,rfl,g.trans (by repeat (first | exact ab.refl _ | refine ab.trans ?_ (ab.push _ _) | refine ab.trans ?_ (ab.fresh _ _))),hc⟩
     ·rw[if_pos hf]at hc
      rw[aG iH.eq_1]
      simp only[sim,af,θ,ξ,η,reduceCtorEq,ψ,ω,aa,hlt,i1,d1,o1,o2,bi o2,e1,hf]
      exact hQ _ _ (by rw[←hc];rfl) (g.trans (by repeat (first | exact ab.refl _ | refine ab.trans ?_ (ab.push _ _) | refine ab.trans ?_ (ab.fresh _ _))))
    ·rintro V h' ⟨v4,v5,v12,v13,rfl,g,hc⟩
     have hlt:¬ ((x.l.length:Int)<(es.length:Int)):=by rw[hn];omega
     rw[List.drop_length]at hc
     rw[aG iH.eq_1]
     simp only[sim,af,θ,ξ,η,reduceCtorEq,ψ,ω,aa,hlt]
     exact hQ _ _ (by rw[←hc];rfl) g
   refine dV MG rfl fun Q hQ=> ?_;unfold AK
   by_cases hk:x.kind=0∨x.kind=1∨x.kind=2∨x.kind=3∨x.kind=4∨x.kind=5
   ·have wi:=fun i=>Uc i x.kind hk
    have k0:¬ x.kind<0:=by omega
    have k5:¬ 5<x.kind:=by omega
    by_cases hl:(x.l.length:Nat)=ff x.kind
    ·have hl':(es.length:Int)=(ff x.kind:Int):=by rw[hn,hl]
     have hh0:di x.kind x.n x.l.length=if(x.kind=0∨x.kind=2)∧x.n≠0 then 5 else if 3≤x.kind∧x.n<0 then 1 else 0:=by
      unfold di
      rw[if_neg (by omega),if_neg (by omega)]
     have L:=loop
     rw[hh0]at L hQ
     rw[hl']at L
     by_cases hz:x.n=0
     ·rcases hk with hk | hk | hk | hk | hk | hk
      all_goals
       rw[hk]at hl' L hQ wi
       simp only[ff,Int.reduceEq,if_false,if_true,Int.cast_ofNat_Int,Int.natCast_zero,Int.natCast_one,hz,not_true,ne_eq,and_false,Int.lt_irrefl]at hl' L hQ wi
       simp only[sim,af,θ,ξ,η,reduceCtorEq,ψ,ω,aa,hv,hk,hz,Int.reduceEq,Int.reduceLT,Int.reduceLE,hsl.len,hsl.fits,hl',wi,Int.lt_irrefl]
       exact L trivial _ _ _ _ _ fun V h' e g=>hQ _ _ _ e g rfl
     ·by_cases hng:x.n<0
      all_goals
       rcases hk with hk | hk | hk | hk | hk | hk
       all_goals
        rw[hk]at hl' L hQ wi
        simp only[ff,Int.reduceEq,Int.reduceLE,if_false,if_true,Int.cast_ofNat_Int,Int.natCast_zero,Int.natCast_one,hz,hng,not_true,not_false_eq_true,ne_eq,and_false,and_true,true_or,or_true,false_or,or_false,or_self]at hl' L hQ wi
        simp only[sim,af,θ,ξ,η,reduceCtorEq,ψ,ω,aa,hv,hk,hz,hng,Int.reduceEq,Int.reduceLT,Int.reduceLE,hsl.len,hsl.fits,hl',wi]
        first
         | exact hQ _ _ _ rfl (by repeat (first | exact ab.refl _ | refine ab.trans ?_ (ab.push _ _) | refine ab.trans ?_ (ab.fresh _ _))) rfl
         | exact L trivial _ _ _ _ _ fun V h' e g=>hQ _ _ _ e g rfl
    ·have hh:di x.kind x.n x.l.length=5:=by
      unfold di
      rw[if_neg (by omega),if_pos hl]
     have hl':¬ (es.length:Int)=(ff x.kind:Int):=by rw[hn];omega
     rw[hh]at hQ
     simp only[sim,af,θ,ξ,η,reduceCtorEq,ψ,ω,aa,hv,k0,k5,hsl.len,hsl.fits,wi,hl']
     exact hQ _ _ _ rfl (by repeat (first | exact ab.refl _ | refine ab.trans ?_ (ab.push _ _) | refine ab.trans ?_ (ab.fresh _ _))) rfl
   ·have hh:di x.kind x.n x.l.length=2:=by
     unfold di
     rw[if_pos (by omega)]
    rw[hh]at hQ
    by_cases k0:x.kind<0
    ·simp only[sim,af,θ,ξ,η,reduceCtorEq,ψ,ω,aa,hv,k0]
     exact hQ _ _ _ rfl (by repeat (first | exact ab.refl _ | refine ab.trans ?_ (ab.push _ _) | refine ab.trans ?_ (ab.fresh _ _))) rfl
    ·have k5:5<x.kind:=by omega
     simp only[sim,af,θ,ξ,η,reduceCtorEq,ψ,ω,aa,hv,k0,k5]
     exact hQ _ _ _ rfl (by repeat (first | exact ab.refl _ | refine ab.trans ?_ (ab.push _ _) | refine ab.trans ?_ (ab.fresh _ _))) rfl
theorem nu {x:VD} {r:List AV} (he:VaA x r):aj Tryz.prog po 47 [.agg r] h=some (.inl (.int .i64 x.code),h):=by
 obtain⟨o1,o2⟩:=he.one
 have e1:=fun h=>LZ _ x (Nat.le_refl _) r h 40 he (by omega) (by omega)
 have e2:=fun h=>GQ _ x (Nat.le_refl _) r h he
 by_cases hs:40<x.size
 ·have e3:me 40 x.size= -1:=by rw[me,if_neg (by omega)]
  have e4:x.code=3:=by rw[VD.code,if_pos hs]
  rw[e4]
  simp only[e3]at e1
  refine dV AE rfl fun Q hQ=> ?_;unfold tX
  simp only[sim,af,θ,ξ,η,reduceCtorEq,ψ,ω,aa,o1,o2,bi o2,e1,Int.reduceLT]
  exact hQ _ _ _ rfl (by repeat (first | exact ab.refl _ | refine ab.trans ?_ (ab.push _ _) | refine ab.trans ?_ (ab.fresh _ _))) rfl
 ·have e3:¬ me 40 x.size<0:=by rw[me,if_pos (by omega)];omega
  have e4:x.code=x.fault:=by rw[VD.code,if_neg hs]
  rw[e4]
  refine dV AE rfl fun Q hQ=> ?_;unfold tX
  simp only[sim,af,θ,ξ,η,reduceCtorEq,ψ,ω,aa,o1,o2,bi o2,e1,e3,e2]
  exact hQ _ _ _ rfl (by repeat (first | exact ab.refl _ | refine ab.trans ?_ (ab.push _ _) | refine ab.trans ?_ (ab.fresh _ _))) rfl
theorem jY {x:VD} {r:List AV} (he:VaA x r):aj Tryz.prog po 53 [.agg r] h=some (.inl (.int .i64 x.code),h):=by
 obtain⟨o1,o2⟩:=he.one
 have e1:=fun h=>uK _ x (Nat.le_refl _) r h 40 he (by omega) (by omega)
 have e2:=fun h=>zD _ x (Nat.le_refl _) r h he
 by_cases hs:40<x.size
 ·have e3:40<min (x.size:Int) (40+1):=by omega
  have e4:x.code=3:=by rw[VD.code,if_pos hs]
  rw[e4]
  refine dV uI rfl fun Q hQ=> ?_;unfold od
  simp only[sim,af,θ,ξ,η,reduceCtorEq,ψ,ω,aa,o1,o2,bi o2,e1,e3]
  exact hQ _ _ _ rfl (by repeat (first | exact ab.refl _ | refine ab.trans ?_ (ab.push _ _) | refine ab.trans ?_ (ab.fresh _ _))) rfl
 ·have e3:¬ 40<min (x.size:Int) (40+1):=by omega
  have e4:x.code=x.fault:=by rw[VD.code,if_neg hs]
  rw[e4]
  refine dV uI rfl fun Q hQ=> ?_;unfold od
  simp only[sim,af,θ,ξ,η,reduceCtorEq,ψ,ω,aa,o1,o2,bi o2,e1,e3,e2]
  exact hQ _ _ _ rfl (by repeat (first | exact ab.refl _ | refine ab.trans ?_ (ab.push _ _) | refine ab.trans ?_ (ab.fresh _ _))) rfl
theorem DO {l l':List VD} {i:Nat} {x y:VD} (h1:l[i]? =some x) (h2:l'[i]? =some y):gG (l.drop i) (l'.drop i)=(pX x y && gG (l.drop (i+1)) (l'.drop (i+1))):=by
 obtain⟨k1,rfl⟩:=List.getElem?_eq_some_iff.1 h1
 obtain⟨k2,rfl⟩:=List.getElem?_eq_some_iff.1 h2
 rw[List.drop_eq_getElem_cons k1,List.drop_eq_getElem_cons k2]
 rfl
theorem Cg (l l':List VD) (v w:AV) (hv:∀ h,vW h v l) (hw:∀ h,vW h w l') (hl:l.length≤100000)
  (hc:∀ x∈l,∀ (y:VD) (q q':List AV) (h:AH),VaA x q→VaA y q'→aj Tryz.prog po 19 [.agg q,.agg q'] h=some (.inl (.bool (pX x y)),h)):
  aj Tryz.prog po 30 [v,w] h=some (.inl (.bool (gG l l')),h):=by
 have vl:=(hv h).len
 have vf:=(hv h).fits
 have wl:=(hw h).len
 have wf:=(hw h).fits
 cases hd:decide ((l.length:Int)=(l'.length:Int))
 ·rw[Ml hd]
  refine dV uL rfl fun Q hQ=> ?_;unfold pe
  simp only[sim,af,θ,ξ,η,reduceCtorEq,ψ,ω,aa,vl,vf,wl,wf,hd]
  exact hQ _ _ _ rfl (by repeat (first | exact ab.refl _ | refine ab.trans ?_ (ab.push _ _) | refine ab.trans ?_ (ab.fresh _ _))) rfl
 ·have hll:l.length=l'.length:=by have:=of_decide_eq_true hd;omega
  refine dV uL rfl fun Q hQ=> ?_;unfold pe
  simp only[sim,af,θ,ξ,η,reduceCtorEq,ψ,ω,aa,vl,vf,wl,wf,hd]
  refine fN (fun i V h'=>∃ v4 v5 v6,V=[v,w,.bool false,.int .i64 (i:Nat),v4,v5,v6]∧ab h h'∧gG (l.drop i) (l'.drop i)=gG l l') l.length ⟨_,_,_,rfl,ab.refl _,rfl⟩ ?_ ?_
  ·rintro i V h' hi ⟨v4,v5,v6,rfl,g,hs⟩ next
   have hlt:(i:Int)<(l.length:Int):=by omega
   have hwi:=w64 (n:=(i:Int)+1) (by omega) (by omega)
   obtain⟨x,hx⟩:=i7 hi
   obtain⟨y,hy⟩:=i7 (l:=l') (i:=i) (by omega)
   obtain⟨a,q,i1,i2,x1⟩:=(hv h').ix i x hx
   obtain⟨b,q',j1,j2,y1⟩:=(hw h').ix i y hy
   have e1:=hc x (eR hx) y q q' h' x1 y1
   rw[DO hx hy]at hs
   cases hb:pX x y
   ·rw[hb]at e1 hs
    rw[Bool.false_and]at hs
    rw[aG iG.eq_1]
    simp only[sim,af,θ,ξ,η,reduceCtorEq,ψ,ω,aa,vl,vf,hlt,i1,i2 _ (ab.refl h'),j1,j2 _ (ab.refl h'),e1]
    exact hQ _ _ _ rfl g (by rw[←hs];rfl)
   ·rw[hb]at e1 hs
    rw[Bool.true_and]at hs
    rw[aG iG.eq_1]
    simp only[sim,af,θ,ξ,η,reduceCtorEq,ψ,ω,aa,vl,vf,hlt,i1,i2 _ (ab.refl h'),j1,j2 _ (ab.refl h'),e1,hwi]
    exact next _ _ ⟨_,_,_,rfl,g,hs⟩
  ·rintro V h' ⟨v4,v5,v6,rfl,g,hs⟩
   have hlt:¬ ((l.length:Int)<(l.length:Int)):=by omega
   rw[List.drop_length,hll,List.drop_length]at hs
   rw[aG iG.eq_1]
   simp only[sim,af,θ,ξ,η,reduceCtorEq,ψ,ω,aa,vl,vf,hlt]
   exact hQ _ _ _ rfl g (by rw[←hs];rfl)
theorem uz:∀ (N:Nat) (x:VD),SizeOf.sizeOf x≤N→x.size≤100000→∀ (y:VD) (q q':List AV) (h:AH),VaA x q→VaA y q'→
  aj Tryz.prog po 19 [.agg q,.agg q'] h=some (.inl (.bool (pX x y)),h):=by
 intro N
 induction N with
 | zero=>intro x hx;have:=x.so_pos;omega
 | succ N ih=>
   intro x hx hsz y q q' h hq hq'
   obtain⟨v,es,rfl,hs,hl⟩:=hq.row
   obtain⟨w,es',rfl,hs',hl'⟩:=hq'.row
   have mv:∀ h,vW h v x.l:=fun h=>vW.of hs hl
   have mw:∀ h,vW h w y.l:=fun h=>vW.of hs' hl'
   have hlen:=x.len_size
   have e1:=fun h=>Cg (h:=h) x.l y.l v w mv mw (by omega) (fun z hz y q q' h=>ih z (by have:=VD.lt_mem hz;omega) (by have:=VD.size_mem hz;omega) y q q' h)
   have o1:=(mv h).one
   have o2:=(mw h).one
   rw[N4]
   refine dV HQ rfl fun Q hQ=> ?_;unfold wV
   cases hk:decide (x.kind=y.kind)
   ·simp only[sim,af,θ,ξ,η,reduceCtorEq,ψ,ω,aa,o1,o2,hk]
    exact hQ _ _ _ rfl (by repeat (first | exact ab.refl _ | refine ab.trans ?_ (ab.push _ _) | refine ab.trans ?_ (ab.fresh _ _))) (by rw[hk];rfl)
   ·cases hn:decide (x.n=y.n)
    ·simp only[sim,af,θ,ξ,η,reduceCtorEq,ψ,ω,aa,o1,o2,hk,hn]
     exact hQ _ _ _ rfl (by repeat (first | exact ab.refl _ | refine ab.trans ?_ (ab.push _ _) | refine ab.trans ?_ (ab.fresh _ _))) (by rw[hk,hn];rfl)
    ·simp only[sim,af,θ,ξ,η,reduceCtorEq,ψ,ω,aa,o1,o2,hk,hn,e1]
     exact hQ _ _ _ rfl (by repeat (first | exact ab.refl _ | refine ab.trans ?_ (ab.push _ _) | refine ab.trans ?_ (ab.fresh _ _))) (by rw[hk,hn];rfl)
def Cn (V:List AV):AV:=V.getD 2 .junk
set_option maxHeartbeats 1000000 in
theorem GN:∀ (N:Nat) (x:VD),SizeOf.sizeOf x≤N→x.size≤100000→∀ (r:List AV) (h:AH),VaA x r→
  aj Tryz.prog po 165 [.agg r] h=some (.inl (ge 3 (bH x.caps)),h):=by
 intro N
 induction N with
 | zero=>intro x hx;have:=x.so_pos;omega
 | succ N ih=>
   intro x hx hsz r h he
   obtain⟨v,es,rfl,hsl,hv,hn,hix⟩:=he.facts
   have hlen:=x.len_size
   have hs:=x.size_eq
   have rest:∀ (Q:jN→Prop) (h0:AH) (acc0:AV) (c0:List Int) (v5 v6:AV),Acc h h0 3 acc0 (bH c0)→ab h h0→h.n<h0.n→h0.cell h.n=some [[.int .i64 x.kind,.int .i64 x.n,v]]→c0.length≤1→
     (∀ V h',(fS V h' [.v 2]).map gh=some (Cn V)→ab h h'→wkA (Cn V)=some (ge 3 (bH (c0++eE x.l)))→Q (some (.ret,V,h')))→
     Q (aC (aj Tryz.prog po) 7 (.lp kb:: .ss []:: .blk 0::[.ss [.ops [bm,dH],.ret]])
       [.agg [.int .i64 x.kind,.int .i64 x.n,v],.ptr h.n 0 0,.nils,acc0,.int .i64 0,v5,v6] [] h0):=by
    intro Q h0 acc0 c0 v5 v6 ha0 g0 hn0 k0 hc0 hQ
    refine fN (fun i V h'=>∃ acc w6,V=[.agg [.int .i64 x.kind,.int .i64 x.n,v],.ptr h.n 0 0,.nils,acc,.int .i64 (i:Nat),v5,w6]∧
     ab h h'∧h.n<h'.n∧h'.cell h.n=some [[.int .i64 x.kind,.int .i64 x.n,v]]∧Acc h h' 3 acc (bH (c0++eE (x.l.take i)))) x.l.length ⟨_,_,rfl,g0,hn0,k0,by simpa[eE]using ha0⟩ ?_ ?_
    ·rintro i V h' hi ⟨acc,w6,rfl,g,hm,c1,ha⟩ next
     have hlt:(i:Int)<(es.length:Int):=by rw[hn];omega
     obtain⟨y,hy⟩:=i7 hi
     obtain⟨q,i1,d1,x1⟩:=hix i y hy
     obtain⟨o1,o2⟩:=x1.one
     have hw:=w64 (n:=(i:Int)+1) (by omega) (by omega)
     have e1:=ih y (by have:=VD.lt_mem (eR hy);omega) (by have:=VD.size_mem (eR hy);omega) q h' x1
     have cf:=mZ (x.l.take i)
     have sl:=pL x.l i
     have cy:=y.caps_few
     have sy:=VD.size_mem (eR hy)
     obtain⟨acc2,h2,e2,a1,a2,a3,a4⟩:=sm (h:=h') ha g (Da 3 (bH y.caps)) (zm _) (by simp only[List.length_map,List.length_append];omega) (by simp only[List.length_map];omega)
     have a1':Acc h h2 3 acc2 (bH (c0++eE (x.l.take (i+1)))):=by
      rw[kO hy,lR,←List.append_assoc]
      simpa[eE]using a1
     rw[aG kb.eq_1]
     simp only[sim,af,θ,ξ,η,reduceCtorEq,ψ,ω,aa,c1,hsl.len,hsl.fits,hlt,i1,d1,o1,o2,bi o2,e1,e2,hw]
     exact next _ _ ⟨_,_,rfl,a2,by rw[a4];exact hm,by rw[a3];exact c1,a1'⟩
    ·rintro V h' ⟨acc,w6,rfl,g,hm,c1,ha⟩
     have hlt:¬ ((x.l.length:Int)<(es.length:Int)):=by rw[hn];omega
     rw[List.take_length]at ha
     have hwA:=tW ha (fun r hr=>by obtain⟨n,_,rfl⟩:=List.mem_map.1 hr;rfl)
     rw[aG kb.eq_1]
     simp only[sim,af,θ,ξ,η,reduceCtorEq,ψ,ω,aa,c1,hsl.len,hsl.fits,hlt]
     exact hQ _ _ rfl g hwA
   rw[x.caps_eq]
   refine dV MP rfl fun Q hQ=> ?_;unfold zN
   by_cases h4:x.kind=4
   ·rw[h4]at rest
    have L:=rest
    have a1:Acc h ((h.push [[.int .i64 4,.int .i64 x.n,v]]).fresh 1) 3 (.isl (some h.ids) 3 [[.int .i64 x.n]]) (bH [x.n]):= .inr ⟨h.ids,by simp,Nat.le_refl _,by simp[AH.fresh,AH.push],by simp[AH.fresh,AH.push],rfl⟩
    have a2:ab h ((h.push [[.int .i64 4,.int .i64 x.n,v]]).fresh 1):=(by repeat (first | exact ab.refl _ | refine ab.trans ?_ (ab.push _ _) | refine ab.trans ?_ (ab.fresh _ _)))
    have a3:((h.push [[.int .i64 4,.int .i64 x.n,v]]).fresh 1).cell=(h.push [[.int .i64 4,.int .i64 x.n,v]]).cell:=rfl
    have a4:((h.push [[.int .i64 4,.int .i64 x.n,v]]).fresh 1).n=(h.push [[.int .i64 4,.int .i64 x.n,v]]).n:=rfl
    have e1:True:=trivial
    simp only[sim,af,θ,ξ,η,reduceCtorEq,ψ,ω,aa,hv,h4,hsl.len,hsl.fits,e1,a3]
    refine L _ _ _ [x.n] _ _ a1 a2 (by rw[a4];simp only[bd,By];omega) (by rw[a3];exact ap) (by simp) fun V h' e g w=>hQ _ _ _ e g ?_
    rw[w]
    simp[h4]
   ·simp only[sim,af,θ,ξ,η,reduceCtorEq,ψ,ω,aa,hv,h4,hsl.len,hsl.fits]
    refine rest _ _ _ [] _ _ (iI _ _ _) (by repeat (first | exact ab.refl _ | refine ab.trans ?_ (ab.push _ _) | refine ab.trans ?_ (ab.fresh _ _))) (by simp only[bd];omega) ap (by simp) fun V h' e g w=>hQ _ _ _ e g ?_
    rw[w]
    simp[h4]
set_option maxHeartbeats 1000000 in
theorem Md:∀ (N:Nat) (x:VD),SizeOf.sizeOf x≤N→x.size≤100000→∀ (r:List AV) (h:AH),VaA x r→
  aj Tryz.prog po 143 [.agg r] h=some (.inl (ge 3 (bH x.caps)),h):=by
 intro N
 induction N with
 | zero=>intro x hx;have:=x.so_pos;omega
 | succ N ih=>
   intro x hx hsz r h he
   obtain⟨v,es,rfl,hsl,hv,hn,hix⟩:=he.facts
   have hlen:=x.len_size
   have hs:=x.size_eq
   have rest:∀ (Q:jN→Prop) (h0:AH) (acc0:AV) (c0:List Int) (v5:AV),Acc h h0 3 acc0 (bH c0)→ab h h0→h.n<h0.n→h0.cell h.n=some [[.int .i64 x.kind,.int .i64 x.n,v]]→c0.length≤1→
     (∀ V h',(fS V h' [.v 2]).map gh=some (Cn V)→ab h h'→wkA (Cn V)=some (ge 3 (bH (c0++eE x.l)))→Q (some (.ret,V,h')))→
     Q (aC (aj Tryz.prog po) 10 (.lp lD:: .ss []:: .blk 0::[.ss [.ops [bm,dH],.ret]])
       [.agg [.int .i64 x.kind,.int .i64 x.n,v],.ptr h.n 0 0,.nils,acc0,.junk,v5,v,.int .i64 es.length,.int .i64 0,.junk] [] h0):=by
    intro Q h0 acc0 c0 v5 ha0 g0 hn0 k0 hc0 hQ
    refine fN (fun i V h'=>∃ acc w4 w9,V=[.agg [.int .i64 x.kind,.int .i64 x.n,v],.ptr h.n 0 0,.nils,acc,w4,v5,v,.int .i64 es.length,.int .i64 (i:Nat),w9]∧
     ab h h'∧h.n<h'.n∧h'.cell h.n=some [[.int .i64 x.kind,.int .i64 x.n,v]]∧Acc h h' 3 acc (bH (c0++eE (x.l.take i)))) x.l.length ⟨_,_,_,rfl,g0,hn0,k0,by simpa[eE]using ha0⟩ ?_ ?_
    ·rintro i V h' hi ⟨acc,w4,w9,rfl,g,hm,c1,ha⟩ next
     have hlt:(i:Int)<(es.length:Int):=by rw[hn];omega
     obtain⟨y,hy⟩:=i7 hi
     obtain⟨q,i1,d1,x1⟩:=hix i y hy
     obtain⟨o1,o2⟩:=x1.one
     have hw:=w64 (n:=(i:Int)+1) (by omega) (by omega)
     have e1:=ih y (by have:=VD.lt_mem (eR hy);omega) (by have:=VD.size_mem (eR hy);omega) q (h'.push [q]) x1
     have cf:=mZ (x.l.take i)
     have sl:=pL x.l i
     have cy:=y.caps_few
     have sy:=VD.size_mem (eR hy)
     obtain⟨acc2,h2,e2,a1,a2,a3,a4⟩:=sm (h:=(h'.push [q])) (show Acc h (h'.push [q]) _ acc _ from ha) (g.trans (ab.push _ _)) (Da 3 (bH y.caps)) (zm _) (by simp only[List.length_map,List.length_append];omega) (by simp only[List.length_map];omega)
     have a1':Acc h h2 3 acc2 (bH (c0++eE (x.l.take (i+1)))):=by
      rw[kO hy,lR,←List.append_assoc]
      simpa[eE]using a1
     rw[aG lD.eq_1]
     simp only[sim,af,θ,ξ,η,reduceCtorEq,ψ,ω,aa,c1,hsl.len,hsl.fits,hlt,i1,d1,o1,o2,bi o2,e1,e2,hw]
     exact next _ _ ⟨_,_,_,rfl,a2,by rw[a4];(show _<h'.n+1;omega),by rw[a3];(exact(bv hm).trans c1),a1'⟩
    ·rintro V h' ⟨acc,w4,w9,rfl,g,hm,c1,ha⟩
     have hlt:¬ ((x.l.length:Int)<(es.length:Int)):=by rw[hn];omega
     rw[List.take_length]at ha
     have hwA:=tW ha (fun r hr=>by obtain⟨n,_,rfl⟩:=List.mem_map.1 hr;rfl)
     rw[aG lD.eq_1]
     simp only[sim,af,θ,ξ,η,reduceCtorEq,ψ,ω,aa,c1,hsl.len,hsl.fits,hlt]
     exact hQ _ _ rfl g hwA
   rw[x.caps_eq]
   refine dV Qi rfl fun Q hQ=> ?_;unfold Fd
   by_cases h4:x.kind=4
   ·rw[h4]at rest
    have L:=rest
    obtain⟨acc1,h1,e1,a1,a2,a3,a4⟩:=lw (h0:=h) (h:=h.push [[.int .i64 4,.int .i64 x.n,v]]) (iI h _ 3) (by repeat (first | exact ab.refl _ | refine ab.trans ?_ (ab.push _ _) | refine ab.trans ?_ (ab.fresh _ _))) (row:=[.int .i64 x.n]) rfl (by simp)
    simp only[gM]at e1
    simp only[sim,af,θ,ξ,η,reduceCtorEq,ψ,ω,aa,hv,h4,hsl.len,hsl.fits,e1,a3]
    refine L _ _ _ [x.n] _ a1 a2 (by rw[a4];simp only[bd];omega) (by rw[a3];exact ap) (by simp) fun V h' e g w=>hQ _ _ _ e g ?_
    rw[w]
    simp[h4]
   ·simp only[sim,af,θ,ξ,η,reduceCtorEq,ψ,ω,aa,hv,h4,hsl.len,hsl.fits]
    refine rest _ _ _ [] _ (iI _ _ _) (by repeat (first | exact ab.refl _ | refine ab.trans ?_ (ab.push _ _) | refine ab.trans ?_ (ab.fresh _ _))) (by simp only[bd];omega) ap (by simp) fun V h' e g w=>hQ _ _ _ e g ?_
    rw[w]
    simp[h4]
theorem Co {l:List VD} {i:Nat} {y:VD} (h:l[i]? =some y):jp (l.drop i)=(y.gate || jp (l.drop (i+1))):=by
 obtain⟨hi,rfl⟩:=List.getElem?_eq_some_iff.1 h
 rw[List.drop_eq_getElem_cons hi]
 rfl
theorem H0:∀ (N:Nat) (x:VD),SizeOf.sizeOf x≤N→x.size≤100000→∀ (r:List AV) (h:AH),VaA x r→
  aj Tryz.prog po 164 [.agg r] h=some (.inl (.bool x.gate),h):=by
 intro N
 induction N with
 | zero=>intro x hx;have:=x.so_pos;omega
 | succ N ih=>
   intro x hx hsz r h he
   obtain⟨v,es,rfl,hsl,hv,hn,hix⟩:=he.facts
   have hlen:=x.len_size
   rw[x.gate_eq]
   refine dV Mw rfl fun Q hQ=> ?_;unfold AP
   simp only[sim,af,θ,ξ,η,reduceCtorEq,ψ,ω,aa,hv]
   refine fN (fun i V h'=>∃ v4 v5,V=[.agg [.int .i64 x.kind,.int .i64 x.n,v],.ptr h.n 0 0,.bool false,.int .i64 (i:Nat),v4,v5]∧h'=h.push [[.int .i64 x.kind,.int .i64 x.n,v]]∧jp (x.l.drop i)=jp x.l) x.l.length ⟨_,_,rfl,rfl,rfl⟩ ?_ ?_
   ·rintro i V h' hi ⟨v4,v5,rfl,rfl,hc⟩ next
    have hlt:(i:Int)<(es.length:Int):=by rw[hn];omega
    obtain⟨y,hy⟩:=i7 hi
    obtain⟨q,i1,d1,x1⟩:=hix i y hy
    have hw:=w64 (n:=(i:Int)+1) (by omega) (by omega)
    have e1:=ih y (by have:=VD.lt_mem (eR hy);omega) (by have:=VD.size_mem (eR hy);omega) q (h.push [[.int .i64 x.kind,.int .i64 x.n,v]]) x1
    rw[Co hy]at hc
    cases hb:y.gate
    ·rw[hb]at e1 hc
     rw[Bool.false_or]at hc
     rw[aG kh.eq_1]
     simp only[sim,af,θ,ξ,η,reduceCtorEq,ψ,ω,aa,hsl.len,hsl.fits,hlt,i1,d1,e1,hw]
     exact next _ _ ⟨_,_,rfl,rfl,hc⟩
    ·rw[hb]at e1 hc
     rw[Bool.true_or]at hc
     rw[aG kh.eq_1]
     simp only[sim,af,θ,ξ,η,reduceCtorEq,ψ,ω,aa,hsl.len,hsl.fits,hlt,i1,d1,e1]
     exact hQ _ _ _ rfl (by repeat (first | exact ab.refl _ | refine ab.trans ?_ (ab.push _ _) | refine ab.trans ?_ (ab.fresh _ _))) (by rw[←hc,Bool.or_true];rfl)
   ·rintro V h' ⟨v4,v5,rfl,rfl,hc⟩
    have hlt:¬ ((x.l.length:Int)<(es.length:Int)):=by rw[hn];omega
    rw[List.drop_length]at hc
    rw[aG kh.eq_1]
    simp only[sim,af,θ,ξ,η,reduceCtorEq,ψ,ω,aa,hsl.len,hsl.fits,hlt]
    exact hQ _ _ _ rfl (by repeat (first | exact ab.refl _ | refine ab.trans ?_ (ab.push _ _) | refine ab.trans ?_ (ab.fresh _ _))) (by rw[←hc];show _=some (AV.bool (decide _ || false));rw[Bool.or_false];rfl)
theorem Hb (v:AV) (l:List VD) (hv:∀ h,vW h v l) (hl:l.length≤100000) (g:FuncId) (p:VD→Bool) (hf:∀ y∈l,∀ q h,VaA y q→aj Tryz.prog po g [.agg q] h=some (.inl (.bool (p y)),h)):
  ∃ n:Int,aj Tryz.prog po 166 [v,.fn g [] []] h=some (.inl (.int .i64 n),h)∧decide (0≤n)=l.any p:=by
 suffices key:∃ v',aj Tryz.prog po 166 [v,.fn g [] []] h=some (.inl v',h)∧∃ n:Int,v'= .int .i64 n∧decide (0≤n)=l.any p by
  obtain⟨_,e,n,rfl,h2⟩:=key
  exact⟨n,e,h2⟩
 have vl:=(hv h).len
 have vf:=(hv h).fits
 refine GJ M5 rfl fun Q hQ=> ?_;unfold AW
 simp only[sim,af,θ,ξ,η,reduceCtorEq,ψ,ω,aa,vl,vf]
 refine fN (fun i V h'=>∃ v2 v3 v6 v7,V=[v,.fn g [] [],v2,v3,.int .i64 l.length,.int .i64 (i:Nat),v6,v7]∧ab h h'∧(l.drop i).any p=l.any p) l.length ⟨_,_,_,_,rfl,ab.refl _,rfl⟩ ?_ ?_
 ·rintro i V h' hi ⟨v2,v3,v6,v7,rfl,g,hc⟩ next
  have hlt:(i:Int)<(l.length:Int):=by omega
  obtain⟨y,hy⟩:=i7 hi
  obtain⟨a,q,i1,i2,x1⟩:=(hv h').ix i y hy
  have hw:=w64 (n:=(i:Int)+1) (by omega) (by omega)
  have e1:=hf y (eR hy) q h' x1
  have hd:(l.drop i).any p=(p y || (l.drop (i+1)).any p):=by
   obtain⟨hi',rfl⟩:=List.getElem?_eq_some_iff.1 hy
   rw[List.drop_eq_getElem_cons hi',List.any_cons]
  rw[hd]at hc
  cases hb:p y
  ·rw[hb]at e1 hc
   rw[Bool.false_or]at hc
   rw[aG j7.eq_1]
   simp only[sim,af,θ,ξ,η,reduceCtorEq,ψ,ω,aa,au,List.append_nil,hlt,i1,i2 _ (ab.refl h'),e1,hw]
   exact next _ _ ⟨_,_,_,_,rfl,g,hc⟩
  ·rw[hb]at e1 hc
   rw[Bool.true_or]at hc
   rw[aG j7.eq_1]
   simp only[sim,af,θ,ξ,η,reduceCtorEq,ψ,ω,aa,au,List.append_nil,hlt,i1,i2 _ (ab.refl h'),e1]
   exact hQ _ _ _ _ rfl g rfl ⟨i,rfl,by rw[←hc];simp⟩
 ·rintro V h' ⟨v2,v3,v6,v7,rfl,g,hc⟩
  have hlt:¬ ((l.length:Int)<(l.length:Int)):=by omega
  rw[List.drop_length]at hc
  rw[aG j7.eq_1]
  simp only[sim,af,θ,ξ,η,reduceCtorEq,ψ,ω,aa,hlt]
  exact hQ _ _ _ _ rfl g rfl ⟨-1,rfl,by rw[←hc];rfl⟩
theorem HK:∀ (N:Nat) (x:VD),SizeOf.sizeOf x≤N→x.size≤100000→∀ (r:List AV) (h:AH),VaA x r→
  aj Tryz.prog po 142 [.agg r] h=some (.inl (.bool x.gate),h):=by
 intro N
 induction N with
 | zero=>intro x hx;have:=x.so_pos;omega
 | succ N ih=>
   intro x hx hsz r h he
   obtain⟨v,es,rfl,hs,hl⟩:=he.row
   have mv:∀ h,vW h v x.l:=fun h=>vW.of hs hl
   have hlen:=x.len_size
   have o1:=(mv h).one
   have e1:∀ h,aj Tryz.prog po 157 [v,.fn 142 [] []] h=some (.inl (.bool (jp x.l)),h):=by
    intro h
    obtain⟨n,e0,e2⟩:=Hb (h:=h) v x.l mv (by omega) 142 VD.gate (fun y hy q h hq=>ih y (by have:=VD.lt_mem hy;omega) (by have:=VD.size_mem hy;omega) q h hq)
    rw[uN,←e2]
    refine dV Bj rfl fun Q hQ=> ?_;unfold sC
    simp only[sim,af,θ,ξ,η,reduceCtorEq,ψ,ω,aa,e0]
    exact hQ _ _ _ rfl (by repeat (first | exact ab.refl _ | refine ab.trans ?_ (ab.push _ _) | refine ab.trans ?_ (ab.fresh _ _))) rfl
   rw[x.gate_eq]
   refine dV LO rfl fun Q hQ=> ?_;unfold AA
   cases hk:decide (x.kind=5)
   ·simp only[sim,af,θ,ξ,η,reduceCtorEq,ψ,ω,aa,o1,hk,e1]
    exact hQ _ _ _ rfl (by repeat (first | exact ab.refl _ | refine ab.trans ?_ (ab.push _ _) | refine ab.trans ?_ (ab.fresh _ _))) (by rw[hk];rfl)
   ·simp only[sim,af,θ,ξ,η,reduceCtorEq,ψ,ω,aa,o1,hk,e1]
    exact hQ _ _ _ rfl (by repeat (first | exact ab.refl _ | refine ab.trans ?_ (ab.push _ _) | refine ab.trans ?_ (ab.fresh _ _))) (by rw[hk];rfl)
end
theorem eqF {a n:Nat} (h:a<n):(a=n)=False:=by simp;omega
theorem aaq {a n:Nat} (h:a<n):(n=a)=False:=by simp;omega
theorem C7 {e:TypeId} {b n m:Nat} (hm:m≤n):mX (.msl b 0 n e) none (some (.int .i64 (m:Int)))=some (.msl b 0 m e):=by
 simp[mX,loA,hiA,eW,Bw,hm]
theorem rJ {α β:Type} {f:α→β}:Option.map f none=none:=rfl
theorem rP {α β:Type} {f:α→β} {a:α}:Option.map f (some a)=some (f a):=rfl
abbrev zR3:List AV:=[.int .i64 0,.int .i64 0,.nils]
section
variable {h h' h0:AH} {F J F0 J0:Nat→Prop} {L:List Asn} {mb bb fb:Nat} {left:Int} {below:List FrD} {top:FrD}
theorem cT (f:FrD) (a:List AV) (s n g:AV) (ha:a.length=3):(dL f a s n g)[6]? =some s∧(dL f a s n g).length=10∧(dL f a s n g)[7]? =some n∧(dL f a s n g)[9]? =some g∧(dL f a s n g)[8]? =some (.bool f.asked)∧(dL f a s n g)[0]? =some (.int .i64 f.plugin)∧(dL f a s n g)[1]? =some (.int .i64 f.f)∧(dL f a s n g)[2]? =some (.int .i64 (f.pc:Int)):=by
 match a,ha with
 | [x,y,z],_=>exact⟨rfl,rfl,rfl,rfl,rfl,rfl,rfl,rfl⟩
theorem qX {f:FrD} {a:List AV} {s n g:AV} (ha:a.length=3∧a.all AV.one=true) (hs:s.one=true) (hn:n.one=true) (hg:g.one=true):(dL f a s n g).all AV.one=true:=by
 simp only[dL,List.all_append,ha.2,hs,hn,hg,List.all_cons,List.all_nil,Bool.and_true]
 rfl
theorem FB (f:FrD) (a:List AV) (s n g s':AV) (st:List VD) (ha:a.length=3):(dL f a s n g).set 6 s'=dL {f with stack:=st} a s' n g:=by
 match a,ha with
 | [x,y,z],_=>rfl
theorem sG {α:Type} {A B:List α} {x:α} {k:Nat} (hk:A.length=k):(A++x::B)[k]? =some x:=Lp A B x hk.symm
theorem Kc {α:Type} {A B:List α} {x y:α} {k:Nat} (hk:A.length=k):(A++x::B).set k y=A++y::B:=KO A B x y hk.symm
theorem UF (s0:St h0 F0 J0 h L) (i:Nat) (hi:L[i]? =some (fR mb bb fb left below top)) {v:VD} {r:List AV} (hv:VaA v r) (hb:below.length≤1000) (hst:top.stack.length≤1000000):
  ∃ h',aj Tryz.prog po fPu [.ptr mb 0 0,.agg r] h=some (.inl (.tup []),h')∧St h0 F0 J0 h' (L.set i (fR mb bb fb left below {top with stack:=top.stack++[v]})):=by
 refine s0.call (R:=fun h'=>aj Tryz.prog po fPu [.ptr mb 0 0,.agg r] h=some (.inl (.tup []),h')) i hi fun F J x=> ?_
 obtain⟨rs,ex,a,sv,nv,g,hrl,ha,hg,s⟩:=kP x
 have s2:=(s.grew (ab.push h [r])).grew (ab.push (h.push [r]) [r])
 have hz:((h.push [r]).push [r]).cell (h.n+1)=some [r]:=ap
 obtain⟨h3,e3,s3⟩:=s2.app 2 rfl hz hv hst
 have q0:=s.cell 0 rfl
 have q1:=s.cell 1 rfl
 have q3:=(s3.cell 1 rfl).1
 have g6:=cT top a sv nv g ha.len3.1
 have run:=Ve (s':= .msl ((h.push [r]).push [r]).n 0 (top.stack.length+1) tV) hb hv.len3 q0.2 q1.2 q0.1 q1.1 (sG hrl) g6.1 g6.2.1 e3 q3 rfl rfl
 rw[FB _ _ _ _ _ _ (top.stack++[v]) ha.len3.1,Kc hrl]at run
 have s4:=s3.set 1 rfl [rs++dL {top with stack:=top.stack++[v]} a (.msl ((h.push [r]).push [r]).n 0 (top.stack.length+1) tV) nv g::ex].flatten
 exact⟨_,run,pM (top:={top with stack:=top.stack++[v]}) ha hg (by simpa using s4)⟩
theorem pD {h2:AH} {rs ex:List (List AV)} {row row':List AV} {k j:Nat} {v:AV} (hc:h2.cell fb=some (rs++row::ex)) (hk:rs.length=k) (h1:v.one=true) (hv:v.cells=[v]) (hj:j<row.length) (hr:row.set j v=row'):aZ 1 h2 (.ptr fb k j) v=some (h2.set fb (some (rs++row'::ex))):=by
 rw[bJ hc (sG hk) (by rw[hv];simpa using h1) (by rw[hv];rfl) (by omega),Kc hk,hv]
 have:stA row j [v]=row':=by
  rw[←hr]
  unfold stA
  refine List.ext_getElem? fun i=> ?_
  have:=j9 row [v] j i (by simp only[List.length_singleton];omega)
  unfold stA at this
  rw[this]
  by_cases e:i=j
  ·subst e
   simp[hj]
  ·rw[if_neg (by simp only[List.length_singleton];omega),List.getElem?_set_ne (by omega)]
 rw[this]
theorem oh {h2:AH} {rs ex:List (List AV)} {row:List AV} {k j n:Nat} {v:AV} (hc:h2.cell fb=some (rs++row::ex)) (hk:rs.length=k) (hr:row[j]? =some v):aR false n h2 (.ptr fb k j)=some v:=by
 rw[bP,hc,Option.bind_some,sG hk,Option.bind_some,hD,hr]
theorem YE (s0:St h0 F0 J0 h L) (i:Nat) (hi:L[i]? =some (fR mb bb fb left below top)) {st:List VD} {v:VD} (hst:top.stack=st++[v]) (hb:below.length≤1000) (hl:st.length≤1000000):
  ∃ h',(∃ r,aj Tryz.prog po 90 [.ptr mb 0 0] h=some (.inl (.agg r),h')∧VaA v r)∧St h0 F0 J0 h' (L.set i (fR mb bb fb left below {top with stack:=st})):=by
 refine s0.call (R:=fun h'=>∃ r,aj Tryz.prog po 90 [.ptr mb 0 0] h=some (.inl (.agg r),h')∧VaA v r) i hi fun F J x=> ?_
 obtain⟨rs,ex,a,sv,nv,g,hrl,ha,hg,s⟩:=kP x
 have s1:=s.push [zR3]
 obtain⟨F1,J1,x1⟩:=s1.get 3 rfl
 rw[hst]at x1
 have hlen:(st++[v]).length=st.length+1:=by simp
 obtain⟨b,hsv⟩:=ES x1 (by simp)
 rw[hlen]at hsv
 subst hsv
 have rd:=kC x1
 obtain⟨p,r,p1,p2,p3⟩:=rd.2.2.2.2 .i64 st.length v (by simp)
 have g6:=cT top a (.msl b 0 (st.length+1) tV) nv g ha.len3.1
 have w:IntKind.wrap .i64 (((st.length+1:Nat):Int) - 1)=(st.length:Int):=HP (by omega) (by omega) (by omega)
 have sl:=C7 (e:=tV) (b:=b) (n:=st.length+1) (m:=st.length) (by omega)
 have tp:=vD (s1.cell 1 rfl).1 hb
 have l1:=fun n=>oh (n:=n) (s1.cell 2 rfl).1 hrl g6.1
 have s2:=s1.push [zR3]
 have s3:=s1.push [r]
 have l3:=fun n=>oh (n:=n) (s3.cell 3 rfl).1 hrl g6.1
 have st4:=pD (v:= .msl b 0 st.length tV) (s3.cell 3 rfl).1 hrl rfl rfl (by rw[g6.2.1];decide) (FB _ _ _ _ _ _ st ha.len3.1)
 have s4:=s3.set 3 rfl (rs++dL {top with stack:=st} a (.msl b 0 st.length tV) nv g::ex)
 have c1:=(s2.cell 0 rfl).1
 have c4:=(s4.cell 0 rfl).1
 have c5:=(s4.cell 1 rfl).1
 have s5:=s4.set 1 rfl [r]
 have c6:=(s5.cell 1 rfl).1
 have fd:aP 6 (.ptr fb below.length 0)=some (.ptr fb below.length 6):=rfl
 have s6:St h F J _ (NB mb bb fb left below {top with stack:=st} rs ex a (.msl b 0 st.length tV) nv g):=s5.drop.drop.upd 2 rfl fun _ _ _ x=>by rw[hst]at x;exact EC x
 refine⟨_,⟨r,?_,p3⟩,pM (top:={top with stack:=st}) ha hg s6⟩
 simp only[bd,fI]at c1 c4 c5 c6 st4 l3
 refine ag TV rfl ?_;unfold Ke
 simp only[sim,af,θ,ξ,η,reduceCtorEq,ψ,ω,aa,au,tp,l1,p1,p2,w,sl,p3.len3.1,p3.len3.2,c1,l3,st4,c4,c5,c6,rJ,rP,fd]
end
def Jm:List RS:=[lO,(.ops [ay,ay,bg,bI,ai,bk,bN,bm,(.i .l (.build [(.int .i64 0),(.int .i64 0),(.int .i64 0)] [(0,1),(1,1),(2,1)] [(0,(.l 2)),(1,(.l 1)),(2,(.l 0))])),(.i .l (.bsl true 184 [(.int .i64 0),(.int .i64 0),(.int .i64 0)] 3 1 [(0,(.l 0))])),(.i .l (.app true 184 (.l 5) (.l 0))),IQ,bI,fU]),(.ops [ay,bg,bI,ai,Te,gc,dB]),.ret]
theorem UE:FnR Tryz.prog po 80 4 5 [0,1,2,3,8] Jm [(.v 4)] false:=by refine⟨_,_,Tryz.func80,rfl,rfl,?_,?_,?_,?_,?_⟩<;>kernel_rfl
def FR:List RS:=[(.ops [ay,bg,bI,ai,bk,ay,bg,bI,ai,Te,(.i .l (.ixa (some 184) none (.l 6) (.l 5))),bX,fU])]
theorem SJ:FnR Tryz.prog po 107 2 2 [0,1] FR [] false:=by refine⟨_,_,Tryz.func107,rfl,rfl,?_,?_,?_,?_,?_⟩<;>kernel_rfl
def oB:List RS:=[BJ,(.cond (.v 10) [] [(.exit 1)]),(.block 2 [(.ops [ID,fC,(.i (.v 5) CO),(.i .n (.store 4 (.v 5) (.l 0)))]),(.ops [ay,(.i .l (.load true 4 (.v 5))),OM])]),Ct]
def rn:List RS:=[(.ops [(.i (.v 2) (.box 4 (.v 1)))]),(.ops [ay,(.i .l (.call (.c (.fn 80 [] [])) [(.l 0),(.c (.int .i64 100)),(.c (.int .i64 0)),(.c (.int .i64 0))]))]),(.ops [pk,xC]),(.block 0 [(.ops [OB,mV]),(.cond (.v 11) [N8,(.ops [ay,(.i .l (.call (.c (.fn 80 [] [])) [(.l 0),(.c (.int .i64 101)),(.c (.int .i64 0)),(.c (.int .i64 0))]))]),Q8,(.ops [ay,(.i .l (.call (.c (.fn 80 [] [])) [(.l 0),(.c (.int .i64 102)),(.c (.int .i64 0)),(.c (.int .i64 0))]))])] [(.ops [(.i .l (.bin (.int .i64) .eql (.v 6) (.c (.int .i64 7)))),sT]),(.cond (.v 12) [N8,(.ops [ay,(.i .l (.call (.c (.fn 80 [] [])) [(.l 0),(.c (.int .i64 103)),(.c (.int .i64 0)),(.c (.int .i64 0))])),cV]),Q8,(.ops [ay,(.i .l (.call (.c (.fn 80 [] [])) [(.l 0),(.c (.int .i64 104)),(.c (.int .i64 0)),(.c (.int .i64 0))])),dB]),(.ops [ay,bm,Oy]),(.ops [ay,qc,ai,Pv,fC,IF]),(.ops [ay,bA,Oy])] [(.ops [qc,vX,Gh,pa]),(.block 1 [(.loop oB)]),(.ops [ay,pk,ai,mO,ai,lQ,ai,(.i .l (.call (.c (.fn 80 [] [])) [(.l 6),(.l 4),(.l 2),(.l 0)]))])])])])]
theorem xJ:FnR Tryz.prog po 79 2 13 [0,1,3,4,5,7,11,13,14,15,16,31,49] rn [] false:=by refine⟨_,_,Tryz.func79,rfl,rfl,?_,?_,?_,?_,?_⟩<;>kernel_rfl
def oV:List RS:=[(.ops [Rb]),(.cond (.v 12) [] [(.exit 0)]),(.block 1 [(.ops [(.i .l (.ixa (some 109) none (.v 9) (.v 11))),fC,PC,QS]),(.ops [(.i .l (.build [.nils] [(0,1)] [])),(.i .l (.box 1 (.l 0))),fV]),(.ops [fx,Jh,OM]),(.ops [fx,(.i .l (.call (.c (.fn 80 [] [])) [(.l 0),(.c (.int .i64 105)),(.c (.int .i64 0)),(.c (.int .i64 0))]))]),(.ops [bT,fx,bg,bI,ai,(.i .l (.bsl false 174 [.nils] 1 1 [(0,(.l 0))])),(.i .l (.app false 174 (.l 5) (.l 0))),dw])]),(.ops [SP,mV])]
def rR:List RS:=[(.ops [wc,yG,(.i (.v 3) wZ)]),(.ops [G4,(.i .l (.call (.c (.fn 78 [] [])) [(.l 0)])),(.i (.v 4) wZ),(.i .n (.store 2 (.v 4) (.l 0)))]),(.ops [iW,ai,Ix]),(.cond (.v 8) [(.ops [(.i .l (.load true 2 (.v 4))),yG,Sp]),.ret] []),(.ops [(.i (.v 5) (.mv (.c .nils)))]),(.ops [fT,GY,(.i (.v 10) (.len false (some 109) (.v 9))),Gu]),(.block 0 [(.loop oV)]),(.ops [bT,xI,(.i (.v 2) lT),Sp]),.ret]
end Go.Proofs.YtkdbjfncchmmpaaGreat
