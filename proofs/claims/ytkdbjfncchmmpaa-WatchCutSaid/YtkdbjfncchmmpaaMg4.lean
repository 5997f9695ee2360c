/- Any argument of numbers, bools, strings, structs and slices of these: from 'it reads as data' to a value of the plain model, and what its type says of it. Slices that nobody turns. Values in the plain model. What a run has to do with, in memory: stacks of values, frames, the machine. The functions of the part 'vm' as lists of steps. The pieces of push. A statement whose order Go leaves open, gone through by hand: each order is one of a few kinds. The machine's push: in each order that Go leaves open. The functions of the part 'vals' as lists of steps. vals and the document's values in the plain model: how many parts, the first fault, the same, copies. The functions of the part 'pass' as lists of steps. The graph in plain Lean: what a step leaves as it was, where ways end, that rights never grow. No walk. What is handed on, in plain Lean: through no gate it is itself; through gates it is of the same thing, and has no right more. No program here. vals and the document's values in the plain model: first faults, the same, what is in them, copies. The machine's small methods: the topmost value is taken off, a value is laid on; kinds, sizes, numbers. The functions of the part 'compile' as lists of steps. The functions of the part 'code' as lists of steps. Expressions in the plain model. -/
import Derived.Test.YtkdbjfncchmmpaaMg3
namespace Go.Proofs.Ytkdbjfncchmmpaa
set_option linter.unusedSimpArgs false
set_option linter.unusedVariables false
open Go Go.ChangeShapes Go.WideShapes Go.ChangeAt Go.RowKit Go.Deep
def TyA (P:Program):Nat→TypeId→List AV→Prop
 | 0,_,_=>False
 | n+1,t,cs=>match P.underlying t with
   | some .bool=>∃ b,cs=[.bool b]
   | some (.int k)=>∃ z,cs=[.int k z]∧(Lit.int k z).wf=true
   | some .string=>∃ s,cs=[.str s]∧s.length≤maxLen
   | some (.slice e)=>cs=[.nils]∨∃ es,cs=[.isl none e es]∧es.length≤maxLen∧∀ r∈es,r.length=P.cellsOf e∧TyA P n e r
   | some (.struct fs)=>∃ parts:List (List AV),cs=parts.flatten∧parts.length=fs.size∧∀ (i:Nat) (f:Field),fs[i]? =some f→∃ p,parts[i]? =some p∧p.length=P.cellsOf f.type∧TyA P n f.type p
   | _=>False
def jv (P:Program):Nat→List Field→Nat→Bool
 | o,[],m=>o==m
 | o,f::r,m=>f.offset==o && jv P (o+P.cellsOf f.type) r m
def vU (P:Program) (S:List TypeId):Bool:=S.all fun t=>match P.underlying t with
 | some .bool | some (.int _) | some .string=>true
 | some (.slice e)=>S.contains e && P.cellsOf e != 0
 | some (.struct fs)=>jv P 0 fs.toList (P.cellsOf t) && fs.toList.all fun f=>S.contains f.type
 | _=>false
theorem sm {P:Program}:∀ {l:List Field} {o m:Nat},jv P o l m=true→o≤m
 | [],o,m,h=>by simp[jv]at h;omega
 | f::r,o,m,h=>by
   simp only[jv,Bool.and_eq_true]at h
   have:=sm h.2
   omega
section
variable {H:Type} {enc:TypeId×Value→H} {P:Program} {W:World} {S:List TypeId}
theorem pR {n:Nat} (ih:∀ t cs x,t∈S→DataW.trod enc P W 0 (fun _=>true) true n t cs=some x→∃ avs,TyA P n t avs∧VRs P (m0A W) h0A avs cs):
  ∀ (fl:List Field) (o m:Nat) (cs:List Value),jv P o fl m=true→cs.length=m→(∀ f∈fl,f.type∈S∧∃ x,DataW.trod enc P W 0 (fun _=>true) true n f.type ((cs.drop f.offset).take (P.cellsOf f.type))=some x)→
  ∃ parts:List (List AV),parts.length=fl.length∧(∀ (i:Nat) (f:Field),fl[i]? =some f→∃ p,parts[i]? =some p∧p.length=P.cellsOf f.type∧TyA P n f.type p)∧VRs P (m0A W) h0A parts.flatten (cs.drop o)
 | [],o,m,cs,h,hc,hf=>by
   simp only[jv,beq_iff_eq]at h
   refine⟨[],rfl,fun i f hi=>by simp at hi,?_⟩
   rw[List.drop_eq_nil_of_le (by omega)]
   exact VRs.nil
 | f::fl,o,m,cs,h,hc,hf=>by
   simp only[jv,Bool.and_eq_true,beq_iff_eq]at h
   obtain⟨h1,h2⟩:=h
   have hle:=sm h2
   obtain⟨hs,x,hx⟩:=hf f (by simp)
   obtain⟨p,hp1,hp2⟩:=ih _ _ _ hs hx
   obtain⟨parts,q1,q2,q3⟩:=pR ih fl (o+P.cellsOf f.type) m cs h2 hc (fun g hg=>hf g (by simp[hg]))
   rw[h1]at hp2
   have hl:p.length=P.cellsOf f.type:=by
    have:=hp2.1
    rw[List.length_take,List.length_drop]at this
    omega
   refine⟨p::parts,by simp[q1],?_,?_⟩
   ·intro i g hi
    cases i with
    | zero=>
      obtain rfl:f=g:=by simpa using hi
      exact⟨p,rfl,hl,hp1⟩
    | succ i=>exact q2 i g (by simpa using hi)
   ·have e:cs.drop o=(cs.drop o).take (P.cellsOf f.type)++cs.drop (o+P.cellsOf f.type):=by
     rw[←List.drop_drop,List.take_append_drop]
    rw[e,List.flatten_cons]
    exact VRs.append hp2 q3
theorem wk (hS:vU P S=true):∀ (fuel:Nat) (t:TypeId) (cs:List Value) (x:DataW H×List MemPlace),t∈S→DataW.trod enc P W 0 (fun _=>true) true fuel t cs=some x→
  ∃ avs,TyA P fuel t avs∧VRs P (m0A W) h0A avs cs
 | 0,t,cs,x,_,h=>by simp[DataW.trod]at h
 | n+1,t,cs,x,ht,h=>by
   have hS':=hS
   have hc:=List.all_eq_true.1 hS t ht
   simp only[TyA]
   split at hc
   ·rename_i hu
    obtain⟨b,rfl, -⟩:=DataW.trod_bool hu h
    exact⟨_,⟨b,rfl⟩,VRs.cons (.bool b) VRs.nil⟩
   ·rename_i k hu
    obtain⟨z,rfl, -,hw⟩:=DataW.trod_int hu h
    exact⟨_,⟨z,rfl,hw⟩,VRs.cons (.int k z) VRs.nil⟩
   ·rename_i hu
    obtain⟨s,rfl, -,hw⟩:=DataW.trod_string hu h
    exact⟨_,⟨s.data.toList,rfl,by simpa using hw⟩,VRs.cons (MW s) VRs.nil⟩
   ·rename_i e hu
    simp only[Bool.and_eq_true,bne_iff_ne,ne_eq,List.contains_iff_mem]at hc
    rcases DataW.trod_slice hu h with⟨rfl, -⟩ | ⟨a,len,cap,elems,rest,n',hn,rfl, -,hb,hl,hm,hlen,hel, -, -⟩
    ·exact⟨_,Or.inl rfl,VRs.cons .nils VRs.nil⟩
    ·obtain rfl:n=n':=by omega
     have key:∀ i,i<len→∃ q:List AV×List Value,W.cells? 0 (a.add (i*P.cellsOf e)) (P.cellsOf e)=some q.2∧TyA P n e q.1∧VRs P (m0A W) h0A q.1 q.2:=by
      intro i hi
      have h1:=hel i hi
      rw[List.getElem?_eq_getElem (by omega)]at h1
      obtain⟨cs',h2,h3⟩:=Option.bind_eq_some_iff.1 h1
      obtain⟨avs,h4,h5⟩:=wk hS' n e cs' _ hc.1 h3
      exact⟨(avs,cs'),h2,h4,h5⟩
     obtain⟨V,hV⟩:=choose_lt key
     have hlen2:∀ i,i<len→(V i).1.length=P.cellsOf e∧(V i).2.length=P.cellsOf e:=fun i hi=>by
      obtain⟨h1,h2,h3⟩:=hV i hi
      have:=(World.cells?_some h1).2.1
      exact⟨by rw[←this,h3.1],this⟩
     refine⟨_,Or.inr ⟨(List.range len).map fun i=>(V i).1,rfl,by simp;omega,?_⟩,VRs.cons ?_ VRs.nil⟩
     ·intro r hr
      obtain⟨i,hi,rfl⟩:=List.mem_map.1 hr
      have hi:=List.mem_range.1 hi
      exact⟨(hlen2 i hi).1,(hV i hi).2.1⟩
     ·by_cases hz:len=0
      ·subst hz
       exact .isl0 e a cap
      ·have ha:a=⟨a.block,a.off,none⟩:=by
        obtain⟨h1,h2,h3⟩:=hV 0 (by omega)
        have:=(World.cells?_some h1).2.2 0 (by omega)
        rw[List.getElem?_eq_getElem (by rw[(hlen2 0 (by omega)).2];omega)]at this
        have hsp:=World.cell?_spot this
        obtain⟨b,o,sp⟩:=a
        simp[Addr.add]at hsp
        subst hsp
        rfl
       have:=VR.isl (P:=P) (m:=m0A W) (h:=h0A) none e ((List.range len).map fun i=>(V i).1) a.block a.off cap (fun i j=>(V i).2.getD j default) (fun r hr=> ?_) (fun i hi j hj=> ?_) (fun i hi j hj=> ?_) (by simpa using hl) (fun q hq=>by cases hq)
       ·rw[←ha]at this
        simpa using this
       ·obtain⟨i,hi,rfl⟩:=List.mem_map.1 hr
        exact(hlen2 i (List.mem_range.1 hi)).1
       ·simp only[List.length_map,List.length_range]at hi
        obtain⟨h1,h2,h3⟩:=hV i hi
        have h4:=(World.cells?_some h1).2.2 j hj
        rw[Go.Deep.add_add,ha,Addr.add_lit]at h4
        have h5:j<(V i).2.length:=by rw[(hlen2 i hi).2];exact hj
        rw[List.getElem?_eq_getElem h5]at h4
        show W.cell? _=_
        rw[h4]
        simp[List.getD,h5]
       ·simp only[List.length_map,List.length_range]at hi
        obtain⟨h1,h2,h3⟩:=hV i hi
        simp only[List.getElem_map,List.getElem_range]at hj ⊢
        have h5:j<(V i).2.length:=by rw[h3.1];exact hj
        have:=h3.2 j hj h5
        simpa[List.getD,h5]using this
   ·rename_i fs hu
    simp only[Bool.and_eq_true,List.all_eq_true,List.contains_iff_mem]at hc
    obtain⟨xs,n',hn, -,hl,hxl,hf⟩:=DataW.trod_struct hu h
    obtain rfl:n=n':=by omega
    obtain⟨parts,q1,q2,q3⟩:=pR (S:=S) (n:=n) (fun t cs x ht h=>wk hS' n t cs x ht h) fs.toList 0 (P.cellsOf t) cs hc.1 hl (fun f hm=>⟨hc.2 f hm,by
     obtain⟨i,hi⟩:=List.mem_iff_getElem?.1 hm
     rw[Array.getElem?_toList]at hi
     have h1:=hf i f hi
     have h2:=(Array.getElem?_eq_some_iff.1 hi).1
     rw[List.getElem?_eq_getElem (by omega)]at h1
     exact⟨_,h1⟩⟩)
    exact⟨_,⟨parts,rfl,by simpa using q1,fun i f hi=>q2 i f (by rw[Array.getElem?_toList];exact hi)⟩,by simpa using q3⟩
   ·cases hc
theorem yj {t e:TypeId} (hS:vU P S=true) (hm:t∈S) (hu:P.underlying t=some (.slice e)) {v:Value} {d:DataW H} {p:List MemPlace} {r:Reach} {b0:Nat} (hok:Value.okWide P W r b0 t v) (h:DataW.Trod enc P W 0 (fun _=>true) true t v d p):
  ∃ n av,TyA P n t [av]∧VR P (m0A W) h0A av v:=by
 obtain⟨a,len,cap,rfl⟩:=okWide_slice hu hok
 obtain⟨fuel,hf⟩:=h
 obtain⟨avs,h1,h2⟩:=wk hS fuel t _ _ hm hf
 have hl:=h2.1
 match avs,hl with
 | [av],_=>exact⟨fuel,av,h1,h2.2 0 (by simp) (by simp[Value.cells])⟩
end
section
variable {P:Program} {t e:TypeId} {cs:List AV}
theorem iZ {n:Nat} {k:IntKind} (hu:P.underlying t=some (.int k)) (h:TyA P n t cs):∃ z,cs=[.int k z]∧(Lit.int k z).wf=true:=by
 cases n with
 | zero=>exact h.elim
 | succ n=>simpa only[TyA,hu]using h
def InS (e:TypeId) (v:AV) (es:List (List AV)):Prop:=(es=[]∧v= .nils)∨v= .isl none e es
theorem Aw {n:Nat} (hu:P.underlying t=some (.slice e)) (h:TyA P n t cs):∃ m v es,n=m+1∧cs=[v]∧InS e v es∧es.length≤maxLen∧∀ r∈es,r.length=P.cellsOf e∧TyA P m e r:=by
 cases n with
 | zero=>exact h.elim
 | succ n=>
   simp only[TyA,hu]at h
   rcases h with rfl | ⟨es,rfl,h1,h2⟩
   ·exact⟨n,.nils,[],rfl,rfl,.inl ⟨rfl,rfl⟩,by simp,fun r hr=>by simp at hr⟩
   ·exact⟨n,_,es,rfl,rfl,.inr rfl,h1,h2⟩
def nK (P:Program) (t:TypeId):Option (List TypeId):=match P.underlying t with
 | some (.struct fs)=>some (fs.toList.map (·.type))
 | _=>none
theorem pk {n:Nat} {ts:List TypeId} (hu:nK P t=some ts) (h:TyA P n t cs):∃ m,n=m+1∧∃ parts:List (List AV),cs=parts.flatten∧parts.length=ts.length∧∀ (i:Nat) (t':TypeId),ts[i]? =some t'→∃ p,parts[i]? =some p∧p.length=P.cellsOf t'∧TyA P m t' p:=by
 cases n with
 | zero=>exact h.elim
 | succ n=>
   unfold nK at hu
   simp only[TyA]at h
   split at hu
   ·rename_i fs hf
    cases hu
    rw[hf]at h
    obtain⟨parts,h1,h2,h3⟩:=h
    refine⟨n,rfl,parts,h1,by simpa using h2,fun i t' hi=> ?_⟩
    rw[List.getElem?_map]at hi
    obtain⟨f,h4,h5⟩:=Option.map_eq_some_iff.1 hi
    subst h5
    exact h3 i f (by rw[←Array.getElem?_toList];exact h4)
   ·cases hu
theorem OD {α:Type} {l:List α} (h:l.length=1):∃ a,l=[a]:=by
 match l,h with
 | [a],_=>exact⟨a,rfl⟩
theorem N0 {α:Type} {l:List α} (h:l.length=2):∃ a b,l=[a,b]:=by
 match l,h with
 | [a,b],_=>exact⟨a,b,rfl⟩
theorem Ot {α:Type} {l:List α} (h:l.length=3):∃ a b c,l=[a,b,c]:=by
 match l,h with
 | [a,b,c],_=>exact⟨a,b,c,rfl⟩
theorem Of {α:Type} {l:List α} (h:l.length=4):∃ a b c d,l=[a,b,c,d]:=by
 match l,h with
 | [a,b,c,d],_=>exact⟨a,b,c,d,rfl⟩
end
theorem SlA.isL {e:TypeId} {v:AV} {es:List (List AV)} (h:SlA e v es):IsL e v es:=by
 rcases h with⟨rfl,rfl⟩ | ⟨id,rfl⟩
 ·exact jJ e
 ·exact kj _ _ _
theorem InS.sla {e:TypeId} {v:AV} {es:List (List AV)} (h:InS e v es):SlA e v es:=by
 rcases h with h | h
 ·exact .inl h
 ·exact .inr ⟨_,h⟩
theorem VaL.len:∀ {l:List VD} {es:List (List AV)},VaL l es→es.length=l.length
 | [],es,h=>by
   simp only[VaL]at h
   subst h
   rfl
 | x::l,es,h=>by
   simp only[VaL]at h
   obtain⟨r,rs,rfl,_,h2⟩:=h
   simp[VaL.len h2]
theorem VaL.get:∀ {l:List VD} {es:List (List AV)} {i:Nat} {x:VD},VaL l es→l[i]? =some x→∃ r,es[i]? =some r∧VaA x r
 | [],es,i,x,h,hx=>by simp at hx
 | y::l,es,i,x,h,hx=>by
   simp only[VaL]at h
   obtain⟨r,rs,rfl,h1,h2⟩:=h
   cases i with
   | zero=>
     obtain rfl:y=x:=by simpa using hx
     exact⟨r,rfl,h1⟩
   | succ i=>simpa using VaL.get h2 (by simpa using hx)
theorem VaL.append {l:List VD} {es:List (List AV)} {x:VD} {r:List AV} (h:VaL l es) (hx:VaA x r):VaL (l++[x]) (es++[r]):=by
 induction l generalizing es with
 | nil=>
   simp only[VaL]at h
   subst h
   simp[VaL,hx]
 | cons y l ih=>
   simp only[VaL]at h
   obtain⟨q,rs,rfl,h1,h2⟩:=h
   exact⟨q,rs++[r],rfl,h1,ih h2⟩
theorem VaA.row {x:VD} {r:List AV} (h:VaA x r):∃ v es,r=[.int .i64 x.kind,.int .i64 x.n,v]∧SlA tV v es∧VaL x.l es:=by
 cases x with
 | mk kind n l=>simp only[VaA]at h;exact h
theorem VaA.one {x:VD} {r:List AV} (h:VaA x r):r.all AV.one=true∧r.length=3:=by
 obtain⟨v,es,rfl,hv,_⟩:=h.row
 rcases hv with⟨_,rfl⟩ | ⟨id,rfl⟩<;>exact⟨rfl,rfl⟩
mutual
theorem CR:∀ {x:VD} {r:List AV},VaA x r→∃ r',wkL r=some r'∧VaA x r'
 | .mk kind n l,r,h=>by
   simp only[VaA]at h
   obtain⟨v,es,rfl,hv,hl⟩:=h
   obtain⟨es',h1,h2⟩:=wJ hl
   rcases hv with⟨rfl,rfl⟩ | ⟨id,rfl⟩
   ·exact⟨_,rfl,by simp only[VaA];exact⟨_,[],rfl,.inl ⟨rfl,rfl⟩,hl⟩⟩
   ·refine⟨[.int .i64 kind,.int .i64 n,.isl none tV es'],?_,?_⟩
    ·simp only[wkL,wkA,h1,Option.map_some]
    ·simp only[VaA]
     exact⟨_,es',rfl,.inr ⟨_,rfl⟩,h2⟩
theorem wJ:∀ {l:List VD} {es:List (List AV)},VaL l es→∃ es',wkR es=some es'∧VaL l es'
 | [],es,h=>by
   simp only[VaL]at h
   subst h
   exact⟨[],rfl,rfl⟩
 | x::l,es,h=>by
   simp only[VaL]at h
   obtain⟨r,rs,rfl,h1,h2⟩:=h
   obtain⟨r',q1,q2⟩:=CR h1
   obtain⟨rs',q3,q4⟩:=wJ h2
   exact⟨r'::rs',by simp only[wkR,q1,q3],by simp only[VaL];exact⟨r',rs',rfl,q2,q4⟩⟩
end
structure rn (h:AH) (v:AV) (l:List VD):Prop where
 len:dS v=some l.length
 fits:∀ s,dm s (some tV) v=true
 one:v.one=true
 ix:∀ (i:Nat) (y:VD),l[i]? =some y→∃ a q,bX (some tV) none v (.int .i64 (i:Int))=some a∧(∀ h',af h h'→aC true 3 h' a=some (.agg q))∧VaA y q
theorem rn.of {h:AH} {v:AV} {es:List (List AV)} {l:List VD} (hv:SlA tV v es) (hl:VaL l es):rn h v l:=by
 refine⟨?_,hv.isL.fits,?_,fun i y hy=> ?_⟩
 ·rw[←hl.len];exact hv.isL.len
 ·rcases hv with⟨_,rfl⟩ | ⟨id,rfl⟩<;>rfl
 ·obtain⟨q,h1,h2⟩:=hl.get hy
  exact⟨.ip q 0,q,hv.isL.ix .i64 i q h1,fun h' _=>bv h2.one.2,h2⟩
theorem VaA.mk {x:VD} {v:AV} {es:List (List AV)} (hv:SlA tV v es) (hl:VaL x.l es):VaA x [.int .i64 x.kind,.int .i64 x.n,v]:=by
 rw[x.eta]
 simp only[VaA]
 exact⟨v,es,rfl,hv,by simpa[VD.l]using hl⟩
theorem VaA.facts {x:VD} {r:List AV} (h:VaA x r):∃ v es,r=[.int .i64 x.kind,.int .i64 x.n,v]∧IsL tV v es∧v.one=true∧es.length=x.l.length∧
  ∀ (i:Nat) (y:VD),x.l[i]? =some y→∃ q,bX (some tV) none v (.int .i64 (i:Int))=some (.ip q 0)∧ldA true 3 q 0=some (.agg q)∧VaA y q:=by
 obtain⟨v,es,rfl,hv,hl⟩:=h.row
 refine⟨v,es,rfl,hv.isL,?_,hl.len,fun i y hy=> ?_⟩
 ·rcases hv with⟨_,rfl⟩ | ⟨id,rfl⟩<;>rfl
 ·obtain⟨q,h1,h2⟩:=hl.get hy
  exact⟨q,hv.isL.ix .i64 i q h1,bv h2.one.2,h2⟩
abbrev tFr:TypeId:=126
abbrev tGo:TypeId:=127
theorem VaA.len3 {x:VD} {r:List AV} (h:VaA x r):r.length=3∧r.all AV.one=true:=by
 cases x with
 | mk k n l=>
   obtain⟨v,es,rfl,h1,_⟩:=h
   rcases h1 with⟨_,rfl⟩ | ⟨id,rfl⟩<;>exact⟨rfl,rfl⟩
theorem VaL.app:∀ {l m:List VD} {es fs:List (List AV)},VaL l es→VaL m fs→VaL (l++m) (es++fs)
 | [],m,es,fs,h,g=>by simp only[VaL]at h;subst h;exact g
 | x::l,m,es,fs,h,g=>by
   obtain⟨r,rs,rfl,h1,h2⟩:=h
   exact⟨r,rs++fs,rfl,h1,VaL.app h2 g⟩
theorem VaL.one {x:VD} {r:List AV} (h:VaA x r):VaL [x] [r]:=⟨r,[],rfl,h,rfl⟩
theorem VaL.take:∀ {l:List VD} {es:List (List AV)},VaL l es→∀ n,VaL (l.take n) (es.take n)
 | [],_,h,n=>by simp only[VaL]at h;subst h;simp[VaL]
 | y::l,es,h,n=>by
   obtain⟨r,rs,rfl,h1,h2⟩:=h
   cases n with
   | zero=>simp[VaL]
   | succ n=>exact⟨r,rs.take n,rfl,h1,VaL.take h2 n⟩
def O4 (e:TypeId) (v:AV) (rows:List (List AV)):Asn:=orA (wx (rows=[]∧v= .nils)) (nH fun q:Nat×List (List AV)=>ua (v= .msl q.1 0 rows.length e∧rows.length≤q.2.length∧rows=q.2.take rows.length) (ai q.1 q.2))
def cG (v:AV) (l:List VD):Asn:=nH fun rows:List (List AV)=>ua (VaL l rows) (O4 tV v rows)
def cP (f:FrD) (a:List AV) (s n g:AV):List AV:=[.int .i64 f.plugin,.int .i64 f.f,.int .i64 (f.pc:Int)]++a++[s,n,.bool f.asked,g]
def mZ (row:List AV) (f:FrD):Asn:=nH fun q:List AV×AV×AV×AV=>ua (row=cP f q.1 q.2.1 q.2.2.1 q.2.2.2∧VaA f.arg q.1∧SlA 3 q.2.2.2 (bm f.gates)) (dA (cG q.2.1 f.stack) (cG q.2.2.1 f.names))
def eJ:List (List AV)→List FrD→Asn
 | [],[]=>wx True
 | r::rs,f::fs=>dA (mZ r f) (eJ rs fs)
 | _,_=>wx False
def ez (mb bb fb:Nat) (left:Int) (below:List FrD) (top:FrD):Asn:=nH fun q:List (List AV)×List AV×List (List AV)=>
 dA (ai mb [[.ptr bb 0 0,.msl fb 0 (below.length+1) tFr,.int .i64 left]]) (dA (ai fb (q.1++q.2.1::q.2.2)) (dA (mZ q.2.1 top) (eJ q.1 below)))
section
variable {h h' h0:AH} {F J F0 J0:Nat→Prop} {L:List Asn} {mb bb fb:Nat} {left:Int} {below:List FrD} {top:FrD}
theorem lC:∀ {rs:List (List AV)} {fs:List FrD} {h:AH} {F J:Nat→Prop},(eJ rs fs).A h F J→rs.length=fs.length
 | [],[],_,_,_,_=>rfl
 | r::rs,f::fs,_,_,_,h=>by
   obtain⟨_,_,_,_,_,y,_⟩:=h
   simp[lC y]
 | [],_::_,_,_,_,h=>h.1.elim
 | _::_,[],_,_,_,h=>h.1.elim
theorem aY.nil (F J:Nat→Prop) (h:AH) (hF:∀ k,¬ F k) (hJ:∀ j,¬ J j):(aY []).A h F J:=⟨trivial,hF,hJ⟩
theorem aY.two {X Y:Asn} (x:(dA X Y).A h F J):(aY [X,Y]).A h F J:=by
 obtain⟨F1,J1,F2,J2,x1,y,hF,hJ,dF,dJ⟩:=x
 exact⟨F1,J1,F2,J2,x1,⟨F2,J2,fun _=>False,fun _=>False,y,⟨trivial,fun _ h=>h,fun _ h=>h⟩,fun k=>by simp,fun j=>by simp,fun _ _ h=>h,fun _ _ h=>h⟩,hF,hJ,dF,dJ⟩
theorem aY.one {X:Asn} (x:X.A h F J):(aY [X]).A h F J:=⟨F,J,fun _=>False,fun _=>False,x,⟨trivial,fun _ h=>h,fun _ h=>h⟩,fun k=>by simp,fun j=>by simp,fun _ _ h=>h,fun _ _ h=>h⟩
theorem aY.one' {X:Asn} (x:(aY [X]).A h F J):X.A h F J:=by
 obtain⟨F1,J1,F2,J2,x1,⟨_,e1,e2⟩,hF,hJ,_,_⟩:=x
 have e3:F=F1:=by funext k;exact propext ((hF k).trans ⟨fun h=>h.resolve_right (e1 k),.inl⟩)
 have e4:J=J1:=by funext j;exact propext ((hJ j).trans ⟨fun h=>h.resolve_right (e2 j),.inl⟩)
 rw[e3,e4];exact x1
theorem aY.star_in {X Y:Asn} (x:(aY (dA X Y::L)).A h F J):(aY (X::Y::L)).A h F J:=iX x
theorem oY {X Y Z:Asn} (x:(dA X (dA Y Z)).A h F J):(dA (dA X Y) Z).A h F J:=jN (iX (jN (iX (jN x))))
theorem aY.star_out {X Y:Asn} (x:(aY (X::Y::L)).A h F J):(aY (dA X Y::L)).A h F J:=oY x
abbrev Ht (mb bb fb:Nat) (left:Int) (below:List FrD) (top:FrD) (rs ex:List (List AV)) (a:List AV) (s n g:AV):List Asn:=
 [ai mb [[.ptr bb 0 0,.msl fb 0 (below.length+1) tFr,.int .i64 left]],ai fb (rs++cP top a s n g::ex),cG s top.stack,cG n top.names,eJ rs below]
theorem i9 (x:(ez mb bb fb left below top).A h F J):∃ rs ex a s n g,rs.length=below.length∧VaA top.arg a∧SlA 3 g (bm top.gates)∧St h F J h (Ht mb bb fb left below top rs ex a s n g):=by
 obtain⟨⟨rs,row,ex⟩,x⟩:=x
 obtain⟨F1,J1,F2,J2,x1,⟨F3,J3,F4,J4,x3,⟨F5,J5,F6,J6,⟨⟨a,s,n,g⟩,⟨e,ha,hg⟩,x5⟩,x6,r6⟩,r4⟩,r2⟩:=x
 simp only at e
 subst e
 refine⟨rs,ex,a,s,n,g,lC x6,ha,hg,St.start ?_⟩
 exact⟨F1,J1,F2,J2,x1,⟨F3,J3,F4,J4,x3,aY.star_in (L:=[eJ rs below]) ⟨F5,J5,F6,J6,x5,aY.one x6,r6⟩,r4⟩,r2⟩
theorem Fm {rs ex:List (List AV)} {a:List AV} {s n g:AV} (ha:VaA top.arg a) (hg:SlA 3 g (bm top.gates)) (x:(aY (Ht mb bb fb left below top rs ex a s n g)).A h F J):(ez mb bb fb left below top).A h F J:=by
 obtain⟨F1,J1,F2,J2,x1,⟨F3,J3,F4,J4,x3,x4,r4⟩,r2⟩:=x
 obtain⟨F5,J5,F6,J6,x5,x6,r6⟩:=aY.star_out (X:=cG s top.stack) (Y:=cG n top.names) (L:=[eJ rs below]) x4
 exact⟨⟨rs,cP top a s n g,ex⟩,F1,J1,F2,J2,x1,⟨F3,J3,F4,J4,x3,⟨F5,J5,F6,J6,⟨⟨a,s,n,g⟩,⟨rfl,ha,hg⟩,x5⟩,aY.one' x6,r6⟩,r4⟩,r2⟩
theorem lX {rs ex:List (List AV)} {a:List AV} {s n g:AV} (ha:VaA top.arg a) (hg:SlA 3 g (bm top.gates)) (s0:St h0 F0 J0 h (Ht mb bb fb left below top rs ex a s n g)):Did h0 F0 J0 h (ez mb bb fb left below top):=
 Did.imp (fun _ _ _ x=>Fm ha hg x) s0
theorem gm {v:AV} {l:List VD} (x:(cG v l).A h F J):v.one=true∧v.cells=[v]∧dS v=some l.length∧(∀ s,dm s (some tV) v=true)∧(∀ (q:IntKind) (i:Nat) (y:VD),l[i]? =some y→∃ p r,bX (some tV) none v (.int q (i:Int))=some p∧aC true 3 h p=some (.agg r)∧VaA y r):=by
 obtain⟨rows,hl,x⟩:=x
 have hlen:=hl.len
 rcases x with⟨⟨rfl,rfl⟩,_⟩ | ⟨⟨b,es⟩,⟨rfl,h1,h2⟩,x⟩
 ·simp only[List.length_nil]at hlen
  refine⟨rfl,rfl,by rw[←hlen];rfl,fun s=>rfl,fun q i y hy=> ?_⟩
  have:=List.length_eq_zero_iff.1 hlen.symm
  subst this
  simp at hy
 ·refine⟨rfl,rfl,by rw[←hlen];rfl,fun s=>jO,fun q i y hy=> ?_⟩
  obtain⟨r,q1,q2⟩:=hl.get hy
  have hi:i<rows.length:=(List.getElem?_eq_some_iff.1 q1).1
  refine⟨.ptr b (0+i) 0,r,rJ rfl hi,?_,q2⟩
  obtain⟨_,_,_,hc⟩:=x
  have h3:es[i]? =some r:=by
   have:(es.take rows.length)[i]? =some r:=by rw[←h2];exact q1
   rwa [List.getElem?_take_of_lt hi]at this
  simp only at hc
  rw[bB,hc,Nat.zero_add,Option.bind_some,h3,Option.bind_some]
  exact bv q2.len3.1
theorem GU {v:AV} {l:List VD} {y:VD} {r:List AV} {bz:Nat} (x:(cG v l).A h F J) (hz:h.cell bz=some [r]) (hy:VaA y r) (hl:l.length≤1000000):
  ∃ h',aA true tV v (.msl bz 0 1 tV) h=some (.msl h.n 0 (l.length+1) tV,h')∧Did h F J h' (cG (.msl h.n 0 (l.length+1) tV) (l++[y])):=by
 have he:bD h tV (.msl bz 0 1 tV)=some [r]:=by simp[bD,hz]
 have ha:∀ s,aA true tV s (.msl bz 0 1 tV) h=d9 true tV s [r] h:=fun s=>by
  simp only[aA,he,Option.bind_some,List.length_singleton]
  rw[if_neg (by decide)]
 have hr:([r].all fun x=>x.all AV.one)=true:=by simp only[List.all_cons,List.all_nil,Bool.and_true];exact hy.len3.2
 obtain⟨rows,hv,x⟩:=x
 have hlen:=hv.len
 rcases x with⟨⟨rfl,rfl⟩,e1,e2⟩ | ⟨⟨b,es⟩,⟨rfl,h1,h2⟩,a1,a2,a3,a4⟩
 ·have hl0:l=[]:=List.length_eq_zero_iff.1 (by simpa using hlen.symm)
  subst hl0
  refine⟨h.push [r],?_,fun k=>k=h.n,fun _=>False,⟨[r],VaL.one hy,.inr ⟨⟨h.n,[r]⟩,⟨rfl,Nat.le_refl _,rfl⟩,fun _=>Iff.rfl,fun _ h=>h,Nat.lt_succ_self _,aE⟩⟩,(af.push h [r]).chg _ _,fun k hk=> .inr (Nat.le_of_eq hk.symm),fun _ h=>h.elim⟩
  rw[ha]
  simp only[d9]
  rw[if_pos ⟨by simp,by simp,hr⟩]
  rfl
 ·simp only at h1 h2 a1 a3 a4
  have hn:((h.set b none).push (es.take rows.length++[r])).cell h.n=some (es.take rows.length++[r]):=by
   have:=aE (h:=h.set b none) (es:=es.take rows.length++[r])
   exact this
  refine⟨(h.set b none).push (es.take rows.length++[r]),?_,fun k=>k=h.n,fun _=>False,⟨rows++[r],hv.app (VaL.one hy),.inr ⟨⟨h.n,es.take rows.length++[r]⟩,⟨by simp[hlen],?_,?_⟩,fun _=>Iff.rfl,fun _ h=>h,Nat.lt_succ_self _,hn⟩⟩,⟨Nat.le_succ _,Nat.le_refl _,fun k hk hF=> ?_,fun _ _ _=>rfl⟩,fun k hk=> .inr (Nat.le_of_eq hk.symm),fun _ h=>h.elim⟩
  ·rw[ha]
   simp only[d9,a4,Option.bind_some]
   rw[if_pos ⟨by simp,by simp,hr⟩,if_pos ⟨trivial,trivial,by omega⟩,if_pos h1]
   simp[hlen,dW]
  ·simp;omega
  ·rw[←h2,List.take_of_length_le (by simp)]
  ·rw[hU (by rw[dW];omega),be fun e=>hF ((a1 k).2 e)]
theorem yh {b m:Nat} {l:List VD} {y:VD} (x:(cG (.msl b 0 m tV) (l++[y])).A h F J):(cG (.msl b 0 l.length tV) l).A h F J:=by
 obtain⟨rows,hv,x⟩:=x
 have hlen:=hv.len
 rw[List.length_append,List.length_singleton]at hlen
 rcases x with⟨⟨_,e⟩,_⟩ | ⟨⟨b',es⟩,⟨e,h1,h2⟩,x⟩
 ·cases e
 ·injection e with e1 _ e2 _
  have hv2:=hv.take l.length
  rw[List.take_left]at hv2
  simp only at e1 h1 h2
  refine⟨rows.take l.length,hv2,.inr ⟨⟨b',es⟩,⟨by rw[e1];congr 1;simp;omega,by simp;omega,?_⟩,x⟩⟩
  have h3:(rows.take l.length).length=l.length:=by simp;omega
  rw[h3]
  conv=>lhs;rw[h2]
  rw[List.take_take]
  congr 1
  omega
theorem xN {v:AV} {l:List VD} (x:(cG v l).A h F J) (hl:l≠[]):∃ b,v= .msl b 0 l.length tV:=by
 obtain⟨rows,hv,x⟩:=x
 have hlen:=hv.len
 rcases x with⟨⟨rfl,rfl⟩,_⟩ | ⟨⟨b',es⟩,⟨e,_⟩,_⟩
 ·exact absurd (List.length_eq_zero_iff.1 (by simpa using hlen.symm)) hl
 ·exact⟨b',by rw[e,hlen]⟩
theorem St.upd {X Y:Asn} (s:St h0 F0 J0 h L) (i:Nat) (hi:L[i]? =some X) (hxy:∀ h F J,X.A h F J→Y.A h F J):St h0 F0 J0 h (L.set i Y):=by
 obtain⟨h',rfl,d⟩:=s.call (R:=fun q=>q=h) i hi (Y:=Y) fun F J x=>⟨h,rfl,Did.imp hxy (Did.same x)⟩
 exact d
theorem A9 {α:Type} {X Z:Asn} {Y:α→Asn} (x:(dA X Z).A h F J) {R:AH→α→Prop} (c:∀ F1 J1,X.A h F1 J1→∃ h' a,R h' a∧Did h F1 J1 h' (Y a)):∃ h' a,R h' a∧Did h F J h' (dA (Y a) Z):=by
 obtain⟨F1,J1,F2,J2,x1,z,hF,hJ,dF,dJ⟩:=x
 obtain⟨h',a0,r,F3,J3,y,c3,a3,b3⟩:=c F1 J1 x1
 have zl:=Z.lt z
 refine⟨h',a0,r,fun k=>F3 k∨F2 k,fun j=>J3 j∨J2 j,⟨F3,J3,F2,J2,y,Z.keep z c3 (fun k hk h1=>dF k h1 hk) (fun j hj h1=>dJ j h1 hj),fun _=>Iff.rfl,fun _=>Iff.rfl,fun k h3 h2=> ?_,fun j h3 h2=> ?_⟩,?_,fun k hk=> ?_,fun j hj=> ?_⟩
 ·rcases a3 k h3 with h | h
  ·exact dF k h h2
  ·have:=zl.1 k h2;omega
 ·rcases b3 j h3 with h | h
  ·exact dJ j h h2
  ·have:=zl.2 j h2;omega
 ·exact⟨c3.n,c3.ids,fun k hk hn=>c3.cell k hk fun h1=>hn ((hF k).2 (.inl h1)),fun j hj hn=>c3.hw j hj fun h1=>hn ((hJ j).2 (.inl h1))⟩
 ·rcases hk with h | h
  ·exact(a3 k h).imp (fun h=>(hF k).2 (.inl h)) id
  ·exact .inl ((hF k).2 (.inr h))
 ·rcases hj with h | h
  ·exact(b3 j h).imp (fun h=>(hJ j).2 (.inl h)) id
  ·exact .inl ((hJ j).2 (.inr h))
theorem St.callE {α:Type} {X:Asn} {R:AH→α→Prop} {Y:α→Asn} (s:St h0 F0 J0 h L) (i:Nat) (hi:L[i]? =some X) (c:∀ F J,X.A h F J→∃ h' a,R h' a∧Did h F J h' (Y a)):∃ h' a,R h' a∧St h0 F0 J0 h' (L.set i (Y a)):=by
 have hl:i<L.length:=(List.getElem?_eq_some_iff.1 hi).1
 obtain⟨F,J,x,ch,a,b⟩:=s
 obtain⟨h',a0,r,d⟩:=A9 ((aY.front hi).1 x) c
 exact⟨h',a0,r,Did.chain ch a b (d.imp fun _ _ _ y=>aY.back hl y)⟩
theorem St.app (s:St h0 F0 J0 h L) (i:Nat) {v:AV} {l:List VD} (hi:L[i]? =some (cG v l)) {y:VD} {r:List AV} {bz:Nat} (hz:h.cell bz=some [r]) (hy:VaA y r) (hl:l.length≤1000000):
  ∃ h',aA true tV v (.msl bz 0 1 tV) h=some (.msl h.n 0 (l.length+1) tV,h')∧St h0 F0 J0 h' (L.set i (cG (.msl h.n 0 (l.length+1) tV) (l++[y]))):=
 s.call (R:=fun h'=>aA true tV v (.msl bz 0 1 tV) h=some (.msl h.n 0 (l.length+1) tV,h')) i hi fun _ _ x=>GU x hz hy hl
end
def yd:List RS:=[(.ops [(.i (.v 0) (.mv (.c .nilp)))]),(.ops [(.i .l (.call (.c (.fn 68 [] [])) [])),(.i .l (.call (.c (.fn 69 [] [])) [])),(.i .l (.build [.nilp,.nilp,(.bool false),.nils,(.int .i64 0),(.int .i64 0),.nils,(.bool false),.nils,(.int .i64 0),(.int .i64 0),.nils,(.bool false),.nils,(.int .i64 0),(.int .i64 0),.nils,(.bool false),.nils,(.int .i64 0),(.int .i64 0),.nils] [(0,1),(1,1),(2,20)] [(0,(.l 1)),(1,(.l 0))])),(.i .l (.box 22 (.l 0))),(.i (.v 0) (.mv (.l 0)))]),.ret]
theorem Gs:FnR Try.prog po 39 0 1 [0] yd [(.v 0)] false:=⟨_,_,Try.func39,rfl,rfl,by kernel_rfl,by kernel_rfl,by kernel_rfl,by kernel_rfl,by kernel_rfl⟩
def rI:List RS:=[(.ops [(.i (.v 2) (.mv (.v 0)))]),(.cond (.v 2) [(.ops [(.i .l (.mv (.v 1))),(.i .l (.mki 127 (.l 0))),(.i .n (.pan (.l 0)))])] [])]
theorem xK:FnR Try.prog po 82 2 3 [0,1,4] rI [] true:=⟨_,_,Try.func82,rfl,rfl,by kernel_rfl,by kernel_rfl,by kernel_rfl,by kernel_rfl,by kernel_rfl⟩
def Cb:List RS:=[(.ops [(.i (.v 1) (.mv (.c .nilp)))]),(.ops [(.i .l (.mv (.v 0))),(.i .l (.nilc (.l 0))),(.i .l (.fad 1 (.l 0))),(.i .l (.load false 1 (.l 0))),(.i .l (.mv (.v 0))),(.i .l (.nilc (.l 0))),(.i .l (.fad 1 (.l 0))),(.i .l (.load false 1 (.l 0))),(.i .l (.len false (some 126) (.l 0))),(.i .l (.bin (.int .i64) .sub (.l 0) (.c (.int .i64 1)))),(.i .l (.ixa (some 126) none (.l 6) (.l 0))),(.i (.v 1) (.mv (.l 0)))]),.ret]
theorem KZ:FnR Try.prog po 81 1 2 [0,2] Cb [(.v 1)] false:=⟨_,_,Try.func81,rfl,rfl,by kernel_rfl,by kernel_rfl,by kernel_rfl,by kernel_rfl,by kernel_rfl⟩
def Da:List RS:=[(.ops [(.i (.v 1) (.alloc [(.int .i64 0),(.int .i64 0),.nils]))]),(.ops [(.i .l (.mv (.v 0))),(.i .l (.call (.c (.fn 81 [] [])) [(.l 0)])),(.i (.v 2) (.mv (.l 0)))]),(.ops [(.i .l (.mv (.v 2))),(.i .l (.nilc (.l 0))),(.i .l (.fad 6 (.l 0))),(.i .l (.load false 1 (.l 0))),(.i .l (.len false (some 29) (.l 0))),(.i .l (.bin (.int .i64) .sub (.l 0) (.c (.int .i64 1)))),(.i (.v 3) (.mv (.l 0)))]),(.ops [(.i .l (.mv (.v 2))),(.i .l (.nilc (.l 0))),(.i .l (.fad 6 (.l 0))),(.i .l (.load false 1 (.l 0))),(.i .l (.mv (.v 3))),(.i .l (.ixa (some 29) none (.l 1) (.l 0))),(.i .l (.load true 3 (.l 0))),(.i (.v 4) (.alloc [(.int .i64 0),(.int .i64 0),.nils])),(.i .n (.store 3 (.v 4) (.l 0)))]),(.ops [(.i .l (.mv (.v 2))),(.i .l (.mv (.v 2))),(.i .l (.nilc (.l 0))),(.i .l (.fad 6 (.l 0))),(.i .l (.load false 1 (.l 0))),(.i .l (.mv (.v 3))),(.i .l (.slc false (some 29) (.l 1) none (some (.l 0)))),(.i .l (.nilc (.l 6))),(.i .l (.fad 6 (.l 0))),(.i .n (.store 1 (.l 0) (.l 2)))]),(.ops [(.i .l (.load true 3 (.v 4))),(.i .n (.store 3 (.v 1) (.l 0)))]),.ret]
theorem Kz:FnR Try.prog po 83 1 5 [0,2,3,4,5] Da [(.cell true 3 1)] false:=⟨_,_,Try.func83,rfl,rfl,by kernel_rfl,by kernel_rfl,by kernel_rfl,by kernel_rfl,by kernel_rfl⟩
def sO:List RS:=[(.ops [(.i (.v 1) (.alloc [(.int .i64 0),(.int .i64 0),.nils]))]),(.ops [(.i .l (.mv (.v 0))),(.i .l (.build [(.int .i64 0),(.int .i64 0),.nils] [(0,1),(1,1),(2,1)] [(0,(.c (.int .i64 1))),(1,(.l 0))])),(.i .n (.store 3 (.v 1) (.l 0)))]),.ret]
theorem AI:FnR Try.prog po 108 1 2 [0,2] sO [(.cell true 3 1)] true:=⟨_,_,Try.func108,rfl,rfl,by kernel_rfl,by kernel_rfl,by kernel_rfl,by kernel_rfl,by kernel_rfl⟩
def qI:List RS:=[(.ops [(.i (.v 2) (.box 3 (.v 0))),(.i (.v 3) (.alloc [(.int .i64 0),(.int .i64 0),.nils]))]),(.ops [(.i .l (.fad 0 (.v 2))),(.i .l (.load false 1 (.l 0))),(.i .l (.mv (.v 1))),(.i .l (.bin (.int .i64) .neq (.l 1) (.l 0))),(.i .l (.call (.c (.fn 82 [] [])) [(.l 0),(.c (.int .i64 2))]))]),(.ops [(.i .l (.load true 3 (.v 2))),(.i .n (.store 3 (.v 3) (.l 0)))]),.ret]
theorem zX:FnR Try.prog po 84 2 4 [0,1,2,4] qI [(.cell true 3 3)] true:=⟨_,_,Try.func84,rfl,rfl,by kernel_rfl,by kernel_rfl,by kernel_rfl,by kernel_rfl,by kernel_rfl⟩
def py:List RS:=[(.ops [(.i (.v 1) (.box 3 (.v 0))),(.i (.v 2) (.alloc [(.int .i64 0),(.int .i64 0),.nils]))]),(.ops [(.i .l (.load true 3 (.v 1))),(.i .l (.call (.c (.fn 18 [] [])) [(.l 0)])),(.i .l (.bin (.int .i64) .neq (.l 0) (.c (.int .i64 0)))),(.i .l (.call (.c (.fn 82 [] [])) [(.l 0),(.c (.int .i64 3))]))]),(.ops [(.i .l (.load true 3 (.v 1))),(.i .n (.store 3 (.v 2) (.l 0)))]),.ret]
theorem uI:FnR Try.prog po 109 1 3 [0,1,2] py [(.cell true 3 2)] true:=⟨_,_,Try.func109,rfl,rfl,by kernel_rfl,by kernel_rfl,by kernel_rfl,by kernel_rfl,by kernel_rfl⟩
def eH:List RS:=[(.ops [(.i (.v 3) (.mv (.c (.int .i64 0))))]),(.ops [(.i (.v 4) (.mv (.c (.bool false))))]),(.ops [(.i (.v 5) (.mv (.v 0)))]),(.block 0 [(.ops [(.i .l (.bin (.int .i64) .eql (.v 5) (.c (.int .i64 1)))),(.i (.v 6) (.mv (.l 0)))]),(.cond (.v 6) [(.ops [(.i .l (.mv (.v 1))),(.i .l (.mv (.v 2))),(.i .l (.bin (.int .i64) .add (.l 1) (.l 0))),(.i (.v 3) (.mv (.l 0)))]),.ret] [(.ops [(.i .l (.bin (.int .i64) .eql (.v 5) (.c (.int .i64 2)))),(.i (.v 7) (.mv (.l 0)))]),(.cond (.v 7) [(.ops [(.i .l (.mv (.v 1))),(.i .l (.mv (.v 2))),(.i .l (.bin (.int .i64) .sub (.l 1) (.l 0))),(.i (.v 3) (.mv (.l 0)))]),.ret] [(.ops [(.i .l (.bin (.int .i64) .eql (.v 5) (.c (.int .i64 3)))),(.i (.v 8) (.mv (.l 0)))]),(.cond (.v 8) [(.ops [(.i .l (.mv (.v 1))),(.i .l (.mv (.v 2))),(.i .l (.bin (.int .i64) .mul (.l 1) (.l 0))),(.i (.v 3) (.mv (.l 0)))]),.ret] [(.ops [(.i .l (.bin (.int .i64) .eql (.v 5) (.c (.int .i64 4)))),(.i (.v 9) (.mv (.l 0)))]),(.cond (.v 9) [(.ops [(.i .l (.mv (.v 1))),(.i .l (.mv (.v 2))),(.i .l (.bin (.int .i64) .lss (.l 1) (.l 0))),(.i (.v 4) (.mv (.l 0)))])] [(.ops [(.i .l (.bin (.int .i64) .eql (.v 5) (.c (.int .i64 5)))),(.i (.v 10) (.mv (.l 0)))]),(.cond (.v 10) [(.ops [(.i .l (.mv (.v 1))),(.i .l (.mv (.v 2))),(.i .l (.bin (.int .i64) .eql (.l 1) (.l 0))),(.i (.v 4) (.mv (.l 0)))])] [])])])])])]),(.ops [(.i (.v 11) (.mv (.v 4)))]),(.cond (.v 11) [(.ops [(.i (.v 3) (.mv (.c (.int .i64 1))))]),.ret] []),(.ops [(.i (.v 3) (.mv (.c (.int .i64 0))))]),.ret]
theorem fD:FnR Try.prog po 12 3 12 [0,1,2,6,7,8,9,14,19,24,29,34] eH [(.v 3)] true:=⟨_,_,Try.func12,rfl,rfl,by kernel_rfl,by kernel_rfl,by kernel_rfl,by kernel_rfl,by kernel_rfl⟩
def xb:List RS:=[(.ops [(.i (.v 3) (.box 3 (.v 1))),(.i (.v 4) (.mv (.c (.int .i64 0)))),(.i (.v 5) (.alloc [(.int .i64 0),(.int .i64 0),(.int .i64 0),(.int .i64 0),(.int .i64 0),(.int .i64 0)]))]),(.ops [(.i .l (.fad 1 (.v 3))),(.i .l (.load false 1 (.l 0))),(.i (.v 6) (.mv (.l 0)))]),(.ops [(.i .l (.mv (.v 0))),(.i .l (.nilc (.l 0))),(.i .l (.fad 0 (.l 0))),(.i .l (.load false 1 (.l 0))),(.i .l (.nilc (.l 0))),(.i .l (.fad 0 (.l 0))),(.i .l (.load false 1 (.l 0))),(.i .l (.mv (.v 6))),(.i .l (.call (.c (.fn 133 [] [])) [(.l 1),(.l 0)])),(.i .l (.mv (.v 2))),(.i .l (.call (.c (.fn 132 [] [])) [(.l 1),(.l 0)])),(.i .l (.un .not (.l 0))),(.i .l (.call (.c (.fn 82 [] [])) [(.l 0),(.c (.int .i64 9))]))]),(.ops [(.i .l (.mv (.v 0))),(.i .l (.nilc (.l 0))),(.i .l (.fad 0 (.l 0))),(.i .l (.load false 1 (.l 0))),(.i .l (.nilc (.l 0))),(.i .l (.fad 0 (.l 0))),(.i .l (.load false 1 (.l 0))),(.i .l (.mv (.v 6))),(.i .l (.call (.c (.fn 38 [] [])) [(.l 1),(.l 0)])),(.i .l (.mv (.l 0))),(.i .l (.ext (.l 0) 0)),(.i .l (.ext (.l 1) 1)),(.i (.v 7) (.alloc [(.int .i64 0),(.int .i64 0),(.int .i64 0),(.int .i64 0),(.int .i64 0),(.int .i64 0)])),(.i .n (.store 6 (.v 7) (.l 1))),(.i .l (.mv (.l 0)))]),(.ops [(.i .l (.mv (.v 6))),(.i .l (.load true 6 (.v 7))),(.i (.v 4) (.mv (.l 1))),(.i .n (.store 6 (.v 5) (.l 0)))]),.ret]
theorem Dw:FnR Try.prog po 135 3 8 [0,1,2,4,6,7,8,9] xb [(.v 4),(.cell true 6 5)] true:=⟨_,_,Try.func135,rfl,rfl,by kernel_rfl,by kernel_rfl,by kernel_rfl,by kernel_rfl,by kernel_rfl⟩
def lK:List RS:=[(.ops [(.i (.v 2) (.box 3 (.v 1)))]),(.ops [(.i .l (.mv (.v 0))),(.i .l (.load true 3 (.v 2))),(.i .l (.call (.c (.fn 84 [] [])) [(.l 0),(.c (.int .i64 4))])),(.i .l (.call (.c (.fn 135 [] [])) [(.l 2),(.l 0),(.c (.int .i64 1))])),(.i .l (.mv (.l 0))),(.i .l (.ext (.l 0) 0)),(.i .l (.ext (.l 1) 1)),(.i (.v 4) (.alloc [(.int .i64 0),(.int .i64 0),(.int .i64 0),(.int .i64 0),(.int .i64 0),(.int .i64 0)])),(.i (.v 3) (.mv (.l 1))),(.i .n (.store 6 (.v 4) (.l 0)))]),(.ops [(.i .l (.fad 4 (.v 4))),(.i .l (.load false 1 (.l 0))),(.i .l (.bin (.int .i64) .geq (.l 0) (.c (.int .i64 0)))),(.i .l (.call (.c (.fn 82 [] [])) [(.l 0),(.c (.int .i64 2))]))]),(.ops [(.i .l (.mv (.v 0))),(.i .l (.nilc (.l 0))),(.i .l (.fad 0 (.l 0))),(.i .l (.load false 1 (.l 0))),(.i .l (.nilc (.l 0))),(.i .l (.fad 1 (.l 0))),(.i .l (.load false 1 (.l 0))),(.i .l (.mv (.v 0))),(.i .l (.fad 3 (.v 4))),(.i .l (.load false 1 (.l 0))),(.i .l (.mv (.v 3))),(.i .l (.call (.c (.fn 81 [] [])) [(.l 3)])),(.ck [⟨none,false,1,(.l 9),(.l 8)⟩,⟨none,false,1,(.l 6),(.l 5)⟩,⟨none,false,1,(.l 3),(.l 2)⟩]),(.i .l (.nilc (.l 0))),(.i .l (.fad 0 (.l 0))),(.i .l (.load false 1 (.l 0))),(.i .l (.call (.c (.fn 136 [] [])) [(.l 8),(.l 0),(.l 5),(.l 4)])),(.i .l (.mv (.l 0))),(.i .l (.ext (.l 0) 0)),(.i .l (.ext (.l 1) 1)),(.i (.v 5) (.mv (.l 1))),(.i .l (.mv (.l 0)))]),(.ops [(.i .l (.mv (.v 0))),(.i .l (.mv (.v 5))),(.i .l (.call (.c (.fn 108 [] [])) [(.l 0)])),(.i .l (.call (.c (.fn 107 [] [])) [(.l 2),(.l 0)]))])]
theorem oE:FnR Try.prog po 123 2 6 [0,1,3,4,5,6] lK [] false:=⟨_,_,Try.func123,rfl,rfl,by kernel_rfl,by kernel_rfl,by kernel_rfl,by kernel_rfl,by kernel_rfl⟩
def iK:List RS:=[(.ops [(.i (.v 3) (.box 3 (.v 1))),(.i (.v 4) (.box 3 (.v 2)))]),(.ops [(.i .l (.load true 3 (.v 3))),(.i .l (.call (.c (.fn 84 [] [])) [(.l 0),(.c (.int .i64 4))]))]),(.ops [(.i .l (.load true 3 (.v 4))),(.i .l (.call (.c (.fn 84 [] [])) [(.l 0),(.c (.int .i64 1))]))]),(.ops [(.i .l (.mv (.v 0))),(.i .l (.load true 3 (.v 3))),(.i .l (.call (.c (.fn 135 [] [])) [(.l 1),(.l 0),(.c (.int .i64 2))])),(.i .l (.mv (.l 0))),(.i .l (.ext (.l 0) 0)),(.i .l (.ext (.l 1) 1)),(.i (.v 6) (.alloc [(.int .i64 0),(.int .i64 0),(.int .i64 0),(.int .i64 0),(.int .i64 0),(.int .i64 0)])),(.i (.v 5) (.mv (.l 1))),(.i .n (.store 6 (.v 6) (.l 0)))]),(.ops [(.i .l (.fad 4 (.v 6))),(.i .l (.load false 1 (.l 0))),(.i .l (.bin (.int .i64) .geq (.l 0) (.c (.int .i64 0)))),(.i .l (.call (.c (.fn 82 [] [])) [(.l 0),(.c (.int .i64 2))]))]),(.ops [(.i .l (.mv (.v 0))),(.i .l (.nilc (.l 0))),(.i .l (.fad 0 (.l 0))),(.i .l (.load false 1 (.l 0))),(.i .l (.nilc (.l 0))),(.i .l (.fad 1 (.l 0))),(.i .l (.load false 1 (.l 0))),(.i .l (.mv (.v 0))),(.i .l (.fad 3 (.v 6))),(.i .l (.load false 1 (.l 0))),(.i .l (.mv (.v 5))),(.i .l (.fad 1 (.v 4))),(.i .l (.load false 1 (.l 0))),(.i .l (.call (.c (.fn 81 [] [])) [(.l 5)])),(.ck [⟨none,false,1,(.l 11),(.l 10)⟩,⟨none,false,1,(.l 8),(.l 7)⟩,⟨none,false,1,(.l 5),(.l 4)⟩,⟨none,false,1,(.l 2),(.l 1)⟩]),(.i .l (.nilc (.l 0))),(.i .l (.fad 0 (.l 0))),(.i .l (.load false 1 (.l 0))),(.i .l (.call (.c (.fn 137 [] [])) [(.l 10),(.l 0),(.l 7),(.l 6),(.l 4)]))]),(.ops [(.i .l (.mv (.v 0))),(.i .l (.load true 3 (.v 4))),(.i .l (.call (.c (.fn 107 [] [])) [(.l 1),(.l 0)]))])]
theorem jY:FnR Try.prog po 124 3 7 [0,1,2,4,5,6,7] iK [] false:=⟨_,_,Try.func124,rfl,rfl,by kernel_rfl,by kernel_rfl,by kernel_rfl,by kernel_rfl,by kernel_rfl⟩
def lN:List RS:=[(.ops [(.i (.v 4) (.box 3 (.v 1))),(.i (.v 5) (.alloc [(.int .i64 0),(.int .i64 0),.nils]))]),(.ops [(.i .l (.mv (.v 0))),(.i .l (.nilc (.l 0))),(.i .l (.fad 0 (.l 0))),(.i .l (.load false 1 (.l 0))),(.i .l (.nilc (.l 0))),(.i .l (.fad 0 (.l 0))),(.i .l (.load false 1 (.l 0))),(.i .l (.fad 1 (.v 4))),(.i .l (.load false 1 (.l 0))),(.i .l (.mv (.v 2))),(.i .l (.mv (.v 3))),(.i .l (.call (.c (.fn 79 [] [])) [(.l 4),(.l 2),(.l 1),(.l 0)])),(.i .l (.mv (.l 0))),(.i .l (.ext (.l 0) 0)),(.i .l (.ext (.l 1) 1)),(.i (.v 6) (.mv (.l 1))),(.i (.v 7) (.mv (.l 0)))]),(.ops [(.i .l (.mv (.v 7))),(.i .l (.bin (.int .i64) .neq (.l 0) (.c (.int .i64 0)))),(.i .l (.mv (.v 7))),(.i .l (.call (.c (.fn 82 [] [])) [(.l 1),(.l 0)]))]),(.ops [(.i .l (.mv (.v 6))),(.i .l (.build [(.int .i64 0),(.int .i64 0),.nils] [(0,1),(1,1),(2,1)] [(0,(.c (.int .i64 4))),(1,(.l 0))])),(.i .n (.store 3 (.v 5) (.l 0)))]),.ret]
theorem pK:FnR Try.prog po 125 4 8 [0,1,2,3,5,8,9,10] lN [(.cell true 3 5)] false:=⟨_,_,Try.func125,rfl,rfl,by kernel_rfl,by kernel_rfl,by kernel_rfl,by kernel_rfl,by kernel_rfl⟩
def lz:List RS:=[(.ops [(.i (.v 2) (.box 3 (.v 1)))]),(.ops [(.i .l (.load true 3 (.v 2))),(.i .l (.call (.c (.fn 84 [] [])) [(.l 0),(.c (.int .i64 4))]))]),(.ops [(.i .l (.mv (.v 0))),(.i .l (.nilc (.l 0))),(.i .l (.fad 0 (.l 0))),(.i .l (.load false 1 (.l 0))),(.i .l (.nilc (.l 0))),(.i .l (.fad 0 (.l 0))),(.i .l (.load false 1 (.l 0))),(.i .l (.call (.c (.fn 58 [] [])) [(.l 0)])),(.i .l (.mv (.l 0))),(.i .l (.ext (.l 0) 0)),(.i .l (.ext (.l 1) 1)),(.i (.v 3) (.mv (.l 1))),(.i (.v 4) (.mv (.l 0)))]),(.ops [(.i .l (.mv (.v 4))),(.i .l (.bin (.int .i64) .neq (.l 0) (.c (.int .i64 0)))),(.i .l (.mv (.v 4))),(.i .l (.call (.c (.fn 82 [] [])) [(.l 1),(.l 0)]))]),(.ops [(.i .l (.mv (.v 0))),(.i .l (.load true 3 (.v 2))),(.i .l (.mv (.v 3))),(.i .l (.call (.c (.fn 125 [] [])) [(.l 2),(.l 1),(.c (.int .i64 15)),(.l 0)])),(.i (.v 5) (.alloc [(.int .i64 0),(.int .i64 0),.nils])),(.i .n (.store 3 (.v 5) (.l 0)))]),(.ops [(.i .l (.mv (.v 0))),(.i .l (.load true 3 (.v 5))),(.i .l (.mv (.v 3))),(.i .l (.build [(.int .i64 0),(.int .i64 0),.nils] [(0,1),(1,1),(2,1)] [(0,(.c (.int .i64 5))),(1,(.l 0))])),(.i .l (.bsl false 29 [(.int .i64 0),(.int .i64 0),.nils] 3 2 [(0,(.l 2)),(1,(.l 0))])),(.i .l (.build [(.int .i64 0),(.int .i64 0),.nils] [(0,1),(1,1),(2,1)] [(0,(.c (.int .i64 2))),(2,(.l 0))])),(.i .l (.call (.c (.fn 107 [] [])) [(.l 5),(.l 0)]))])]
theorem nV:FnR Try.prog po 126 2 6 [0,1,3,4,5,6] lz [] false:=⟨_,_,Try.func126,rfl,rfl,by kernel_rfl,by kernel_rfl,by kernel_rfl,by kernel_rfl,by kernel_rfl⟩
def ta:List RS:=[(.ops [(.i (.v 2) (.box 10 (.v 1)))]),(.ops [(.i .l (.mv (.v 0))),(.i .l (.nilc (.l 0))),(.i .l (.fad 1 (.l 0))),(.i .l (.load false 1 (.l 0))),(.i .l (.len false (some 126) (.l 0))),(.i .l (.bin (.int .i64) .eql (.l 0) (.c (.int .i64 20)))),(.i .l (.call (.c (.fn 82 [] [])) [(.l 0),(.c (.int .i64 4))]))]),(.ops [(.i .l (.mv (.v 0))),(.i .l (.mv (.v 0))),(.i .l (.nilc (.l 0))),(.i .l (.fad 1 (.l 0))),(.i .l (.load false 1 (.l 0))),(.i .l (.load true 10 (.v 2))),(.i .l (.bsl true 126 [(.int .i64 0),(.int .i64 0),(.int .i64 0),(.int .i64 0),(.int .i64 0),.nils,.nils,.nils,(.bool false),.nils] 10 1 [(0,(.l 0))])),(.ck [⟨none,false,1,(.l 3),(.l 2)⟩]),(.i .l (.app true 126 (.l 2) (.l 0))),(.i .l (.nilc (.l 7))),(.i .l (.fad 1 (.l 0))),(.i .n (.store 1 (.l 0) (.l 2)))])]
theorem zM:FnR Try.prog po 127 2 3 [0,1,3] ta [] false:=⟨_,_,Try.func127,rfl,rfl,by kernel_rfl,by kernel_rfl,by kernel_rfl,by kernel_rfl,by kernel_rfl⟩
def ir:List RS:=[(.ops [(.i (.v 3) (.box 3 (.v 1))),(.i (.v 4) (.box 3 (.v 2)))]),(.ops [(.i .l (.mv (.v 0))),(.i .l (.load true 3 (.v 3))),(.i .l (.call (.c (.fn 84 [] [])) [(.l 0),(.c (.int .i64 4))])),(.i .l (.call (.c (.fn 135 [] [])) [(.l 2),(.l 0),(.c (.int .i64 8))])),(.i .l (.mv (.l 0))),(.i .l (.ext (.l 0) 0)),(.i .l (.ext (.l 1) 1)),(.i (.v 6) (.alloc [(.int .i64 0),(.int .i64 0),(.int .i64 0),(.int .i64 0),(.int .i64 0),(.int .i64 0)])),(.i (.v 5) (.mv (.l 1))),(.i .n (.store 6 (.v 6) (.l 0)))]),(.ops [(.i .l (.fad 4 (.v 6))),(.i .l (.load false 1 (.l 0))),(.i .l (.bin (.int .i64) .lss (.l 0) (.c (.int .i64 0)))),(.i .l (.call (.c (.fn 82 [] [])) [(.l 0),(.c (.int .i64 2))]))]),(.ops [(.i .l (.mv (.v 0))),(.i .l (.nilc (.l 0))),(.i .l (.fad 0 (.l 0))),(.i .l (.load false 1 (.l 0))),(.i .l (.fad 4 (.v 6))),(.i .l (.load false 1 (.l 0))),(.i .l (.nilc (.l 2))),(.i .l (.fad 2 (.l 0))),(.i .l (.ixa none (some (4,5)) (.l 0) (.l 2))),(.i .l (.load true 5 (.l 0))),(.i (.v 7) (.alloc [(.bool false),.nils,(.int .i64 0),(.int .i64 0),.nils])),(.ck [⟨none,false,1,(.l 7),(.l 6)⟩,⟨none,false,1,(.l 5),(.l 4)⟩,⟨none,true,5,(.l 1),(.l 0)⟩]),(.i .n (.store 5 (.v 7) (.l 0)))]),(.ops [(.i .l (.fad 0 (.v 7))),(.i .l (.load false 1 (.l 0))),(.i .l (.un .not (.l 0))),(.i .l (.mv (.l 0))),(.g (.l 0) false .l (.fad 5 (.v 6))),(.g (.l 1) false .l (.load false 1 (.l 0))),(.g (.l 2) false .l (.fad 1 (.v 7))),(.g (.l 3) false .l (.load false 1 (.l 0))),(.g (.l 4) false .l (.len false (some 158) (.l 0))),(.g (.l 5) false .l (.bin (.int .i64) .geq (.l 3) (.l 0))),(.i .l (.pick (.l 6) (.c (.bool true)) (.l 0))),(.i .l (.call (.c (.fn 82 [] [])) [(.l 0),(.c (.int .i64 8))]))]),(.ops [(.i .l (.mv (.v 0))),(.i .l (.nilc (.l 0))),(.i .l (.fad 1 (.l 0))),(.i .l (.load false 1 (.l 0))),(.i .l (.len false (some 126) (.l 0))),(.i .l (.bin (.int .i64) .eql (.l 0) (.c (.int .i64 20)))),(.i .l (.call (.c (.fn 82 [] [])) [(.l 0),(.c (.int .i64 4))]))]),(.ops [(.i .l (.mv (.v 0))),(.i .l (.nilc (.l 0))),(.i .l (.fad 0 (.l 0))),(.i .l (.load false 1 (.l 0))),(.i .l (.nilc (.l 0))),(.i .l (.fad 0 (.l 0))),(.i .l (.load false 1 (.l 0))),(.i .l (.mv (.v 5))),(.i .l (.call (.c (.fn 138 [] [])) [(.l 1),(.l 0)])),(.i (.v 8) (.mv (.l 0)))]),(.ops [(.i .l (.mv (.v 0))),(.i .l (.nilc (.l 0))),(.i .l (.fad 0 (.l 0))),(.i .l (.load false 1 (.l 0))),(.i .l (.nilc (.l 0))),(.i .l (.fad 0 (.l 0))),(.i .l (.load false 1 (.l 0))),(.i .l (.load true 3 (.v 4))),(.i .l (.mv (.v 8))),(.i .l (.call (.c (.fn 106 [] [])) [(.l 2),(.l 1),(.l 0)])),(.i .l (.mv (.l 0))),(.i .l (.ext (.l 0) 0)),(.i .l (.ext (.l 1) 1)),(.i (.v 9) (.alloc [(.int .i64 0),(.int .i64 0),.nils])),(.ck [⟨none,false,1,(.l 10),(.l 9)⟩,⟨none,false,1,(.l 7),(.l 6)⟩,⟨none,true,3,(.v 4),(.l 5)⟩]),(.i .n (.store 3 (.v 9) (.l 1))),(.i (.v 10) (.mv (.l 0)))]),(.ops [(.i .l (.mv (.v 10))),(.i .l (.bin (.int .i64) .neq (.l 0) (.c (.int .i64 0)))),(.i .l (.mv (.v 10))),(.i .l (.call (.c (.fn 82 [] [])) [(.l 1),(.l 0)]))]),(.ops [(.i .l (.mv (.v 0))),(.i .l (.fad 4 (.v 6))),(.i .l (.load false 1 (.l 0))),(.i .l (.fad 5 (.v 6))),(.i .l (.load false 1 (.l 0))),(.i .l (.load true 3 (.v 9))),(.i .l (.mv (.v 8))),(.i .l (.build [(.int .i64 0),(.int .i64 0),(.int .i64 0),(.int .i64 0),(.int .i64 0),.nils,.nils,.nils,(.bool false),.nils] [(0,1),(1,1),(2,1),(3,3),(6,1),(7,1),(8,1),(9,1)] [(0,(.l 4)),(1,(.l 2)),(3,(.l 1)),(6,(.c (.bool true))),(7,(.l 0))])),(.i .l (.call (.c (.fn 127 [] [])) [(.l 7),(.l 0)]))])]
theorem jt:FnR Try.prog po 128 3 11 [0,1,2,4,5,6,7,8,9,10,11] ir [] false:=⟨_,_,Try.func128,rfl,rfl,by kernel_rfl,by kernel_rfl,by kernel_rfl,by kernel_rfl,by kernel_rfl⟩
def rM:List RS:=[(.ops [(.i .l (.mv (.v 0))),(.i .l (.call (.c (.fn 83 [] [])) [(.l 0)])),(.i .l (.call (.c (.fn 84 [] [])) [(.l 0),(.c (.int .i64 2))])),(.i (.v 2) (.alloc [(.int .i64 0),(.int .i64 0),.nils])),(.i .n (.store 3 (.v 2) (.l 0)))]),(.ops [(.i .l (.mv (.v 0))),(.i .l (.fad 2 (.v 2))),(.i .l (.load false 1 (.l 0))),(.i .l (.mv (.v 1))),(.i .l (.ixa (some 29) none (.l 1) (.l 0))),(.i .l (.load true 3 (.l 0))),(.i .l (.call (.c (.fn 107 [] [])) [(.l 5),(.l 0)]))])]
theorem yP:FnR Try.prog po 110 2 3 [0,1,4] rM [] false:=⟨_,_,Try.func110,rfl,rfl,by kernel_rfl,by kernel_rfl,by kernel_rfl,by kernel_rfl,by kernel_rfl⟩
def cB:List RS:=[(.ops [(.i (.v 2) (.box 3 (.v 1)))]),(.ops [(.i .l (.mv (.v 0))),(.i .l (.call (.c (.fn 81 [] [])) [(.l 0)])),(.i (.v 3) (.mv (.l 0)))]),(.ops [(.i .l (.fad 0 (.v 2))),(.i (.v 10) (.load false 1 (.l 0)))]),(.block 0 [(.ops [(.i .l (.bin (.int .i64) .eql (.v 10) (.c (.int .i64 1)))),(.i (.v 11) (.mv (.l 0)))]),(.cond (.v 11) [(.ops [(.i .l (.mv (.v 0))),(.i .l (.build [(.int .i64 0),(.int .i64 0),.nils] [(0,1),(1,1),(2,1)] [])),(.i .l (.call (.c (.fn 107 [] [])) [(.l 1),(.l 0)]))])] [(.ops [(.i .l (.bin (.int .i64) .eql (.v 10) (.c (.int .i64 2)))),(.i (.v 12) (.mv (.l 0)))]),(.cond (.v 12) [(.ops [(.i .l (.mv (.v 0))),(.i .l (.fad 2 (.v 2))),(.i .l (.load false 1 (.l 0))),(.i .l (.call (.c (.fn 108 [] [])) [(.l 0)])),(.i .l (.call (.c (.fn 107 [] [])) [(.l 3),(.l 0)]))])] [(.ops [(.i .l (.bin (.int .i64) .eql (.v 10) (.c (.int .i64 3)))),(.i (.v 13) (.mv (.l 0)))]),(.cond (.v 13) [(.ops [(.i .l (.mv (.v 0))),(.i .l (.mv (.v 3))),(.i .l (.nilc (.l 0))),(.i .l (.fad 3 (.l 0))),(.i .l (.load true 3 (.l 0))),(.i .l (.call (.c (.fn 107 [] [])) [(.l 4),(.l 0)]))])] [(.ops [(.i .l (.bin (.int .i64) .eql (.v 10) (.c (.int .i64 4)))),(.i (.v 14) (.mv (.l 0)))]),(.cond (.v 14) [(.ops [(.i .l (.mv (.v 0))),(.i .l (.mv (.v 3))),(.i .l (.nilc (.l 0))),(.i .l (.fad 7 (.l 0))),(.i .l (.load false 1 (.l 0))),(.i .l (.mv (.v 3))),(.i .l (.nilc (.l 0))),(.i .l (.fad 7 (.l 0))),(.i .l (.load false 1 (.l 0))),(.i .l (.len false (some 29) (.l 0))),(.i .l (.bin (.int .i64) .sub (.l 0) (.c (.int .i64 1)))),(.i .l (.fad 1 (.v 2))),(.i .l (.load false 1 (.l 0))),(.i .l (.bin (.int .i64) .sub (.l 2) (.l 0))),(.i .l (.ixa (some 29) none (.l 9) (.l 0))),(.i .l (.load true 3 (.l 0))),(.i .l (.call (.c (.fn 107 [] [])) [(.l 15),(.l 0)]))])] [(.ops [(.i .l (.bin (.int .i64) .eql (.v 10) (.c (.int .i64 6)))),(.i (.v 15) (.mv (.l 0)))]),(.cond (.v 15) [(.ops [(.i .l (.mv (.v 0))),(.i .l (.call (.c (.fn 83 [] [])) [(.l 0)])),(.i .l (.mv (.v 0))),(.i .l (.call (.c (.fn 83 [] [])) [(.l 0)])),(.i (.v 4) (.alloc [(.int .i64 0),(.int .i64 0),.nils])),(.i (.v 5) (.alloc [(.int .i64 0),(.int .i64 0),.nils])),(.i .n (.store 3 (.v 4) (.l 2))),(.i .n (.store 3 (.v 5) (.l 0)))]),(.ops [(.i .l (.load true 3 (.v 5))),(.i .l (.call (.c (.fn 84 [] [])) [(.l 0),(.c (.int .i64 1))]))]),(.ops [(.i .l (.load true 3 (.v 4))),(.i .l (.call (.c (.fn 84 [] [])) [(.l 0),(.c (.int .i64 1))]))]),(.ops [(.i .l (.mv (.v 0))),(.i .l (.fad 1 (.v 2))),(.i .l (.load false 1 (.l 0))),(.i .l (.fad 1 (.v 5))),(.i .l (.load false 1 (.l 0))),(.i .l (.fad 1 (.v 4))),(.i .l (.load false 1 (.l 0))),(.i .l (.call (.c (.fn 12 [] [])) [(.l 4),(.l 2),(.l 0)])),(.i .l (.call (.c (.fn 108 [] [])) [(.l 0)])),(.i .l (.call (.c (.fn 107 [] [])) [(.l 8),(.l 0)]))])] [(.ops [(.i .l (.bin (.int .i64) .eql (.v 10) (.c (.int .i64 8)))),(.i (.v 16) (.mv (.l 0)))]),(.cond (.v 16) [(.ops [(.i .l (.mv (.v 0))),(.i .l (.call (.c (.fn 83 [] [])) [(.l 0)])),(.i .l (.mv (.v 0))),(.i .l (.call (.c (.fn 83 [] [])) [(.l 0)])),(.i (.v 6) (.alloc [(.int .i64 0),(.int .i64 0),.nils])),(.i (.v 7) (.alloc [(.int .i64 0),(.int .i64 0),.nils])),(.i .n (.store 3 (.v 6) (.l 2))),(.i .n (.store 3 (.v 7) (.l 0)))]),(.ops [(.i .l (.mv (.v 0))),(.i .l (.load true 3 (.v 7))),(.i .l (.load true 3 (.v 6))),(.i .l (.bsl false 29 [(.int .i64 0),(.int .i64 0),.nils] 3 2 [(0,(.l 1)),(1,(.l 0))])),(.i .l (.build [(.int .i64 0),(.int .i64 0),.nils] [(0,1),(1,1),(2,1)] [(0,(.c (.int .i64 2))),(2,(.l 0))])),(.i .l (.call (.c (.fn 109 [] [])) [(.l 0)])),(.i .l (.call (.c (.fn 107 [] [])) [(.l 5),(.l 0)]))])] [(.ops [(.i .l (.bin (.int .i64) .eql (.v 10) (.c (.int .i64 9)))),(.i (.v 17) (.mv (.l 0)))]),(.cond (.v 17) [(.ops [(.i .l (.mv (.v 0))),(.i .l (.call (.c (.fn 110 [] [])) [(.l 0),(.c (.int .i64 0))]))])] [(.ops [(.i .l (.bin (.int .i64) .eql (.v 10) (.c (.int .i64 10)))),(.i (.v 18) (.mv (.l 0)))]),(.cond (.v 18) [(.ops [(.i .l (.mv (.v 0))),(.i .l (.call (.c (.fn 110 [] [])) [(.l 0),(.c (.int .i64 1))]))])] [(.ops [(.i .l (.bin (.int .i64) .eql (.v 10) (.c (.int .i64 11)))),(.i (.v 19) (.mv (.l 0)))]),(.cond (.v 19) [(.ops [(.i .l (.mv (.v 0))),(.i .l (.call (.c (.fn 83 [] [])) [(.l 0)])),(.i (.v 8) (.alloc [(.int .i64 0),(.int .i64 0),.nils])),(.i .n (.store 3 (.v 8) (.l 0)))]),(.ops [(.i .l (.mv (.v 0))),(.i .l (.mv (.v 3))),(.i .l (.nilc (.l 0))),(.i .l (.fad 0 (.l 0))),(.i .l (.load false 1 (.l 0))),(.i .l (.load true 3 (.v 8))),(.i .l (.bsl false 29 [(.int .i64 0),(.int .i64 0),.nils] 3 1 [(0,(.l 0))])),(.ck [⟨none,false,1,(.l 3),(.l 2)⟩]),(.i .l (.build [(.int .i64 0),(.int .i64 0),.nils] [(0,1),(1,1),(2,1)] [(0,(.c (.int .i64 3))),(1,(.l 2)),(2,(.l 0))])),(.i .l (.call (.c (.fn 109 [] [])) [(.l 0)])),(.i .l (.call (.c (.fn 107 [] [])) [(.l 8),(.l 0)]))])] [(.ops [(.i .l (.bin (.int .i64) .eql (.v 10) (.c (.int .i64 12)))),(.i (.v 20) (.mv (.l 0)))]),(.cond (.v 20) [(.ops [(.i .l (.mv (.v 0))),(.i .l (.call (.c (.fn 83 [] [])) [(.l 0)])),(.i .l (.call (.c (.fn 84 [] [])) [(.l 0),(.c (.int .i64 3))])),(.i (.v 9) (.alloc [(.int .i64 0),(.int .i64 0),.nils])),(.i .n (.store 3 (.v 9) (.l 0)))]),(.ops [(.i .l (.fad 1 (.v 9))),(.i .l (.load false 1 (.l 0))),(.i .l (.mv (.v 3))),(.i .l (.nilc (.l 0))),(.i .l (.fad 0 (.l 0))),(.i .l (.load false 1 (.l 0))),(.i .l (.bin (.int .i64) .neq (.l 4) (.l 0))),(.i .l (.call (.c (.fn 82 [] [])) [(.l 0),(.c (.int .i64 10))]))]),(.ops [(.i .l (.mv (.v 0))),(.i .l (.fad 2 (.v 9))),(.i .l (.load false 1 (.l 0))),(.i .l (.ixa (some 29) none (.l 0) (.c (.int .i64 0)))),(.i .l (.load true 3 (.l 0))),(.i .l (.call (.c (.fn 107 [] [])) [(.l 4),(.l 0)]))])] [(.ops [(.i .l (.mv (.v 0))),(.i .l (.load true 3 (.v 2))),(.i .l (.call (.c (.fn 111 [] [])) [(.l 1),(.l 0)]))])])])])])])])])])])])])]
theorem cK:FnR Try.prog po 86 2 21 [0,1,3,4,5,6,7,8,9,10,14,18,23,30,38,57,77,90,94,98,112] cB [] false:=⟨_,_,Try.func86,rfl,rfl,by kernel_rfl,by kernel_rfl,by kernel_rfl,by kernel_rfl,by kernel_rfl⟩
def bG:List RS:=[(.ops [(.i (.v 2) (.box 3 (.v 1)))]),(.ops [(.i .l (.mv (.v 0))),(.i .l (.call (.c (.fn 81 [] [])) [(.l 0)])),(.i (.v 3) (.mv (.l 0)))]),(.ops [(.i .l (.fad 0 (.v 2))),(.i (.v 11) (.load false 1 (.l 0)))]),(.block 0 [(.ops [(.i .l (.bin (.int .i64) .eql (.v 11) (.c (.int .i64 13)))),(.i (.v 12) (.mv (.l 0)))]),(.cond (.v 12) [(.ops [(.i .l (.mv (.v 0))),(.i .l (.mv (.v 0))),(.i .l (.call (.c (.fn 83 [] [])) [(.l 0)])),(.i .l (.call (.c (.fn 123 [] [])) [(.l 2),(.l 0)]))])] [(.ops [(.i .l (.bin (.int .i64) .eql (.v 11) (.c (.int .i64 14)))),(.i (.v 13) (.mv (.l 0)))]),(.cond (.v 13) [(.ops [(.i .l (.mv (.v 0))),(.i .l (.call (.c (.fn 83 [] [])) [(.l 0)])),(.i .l (.mv (.v 0))),(.i .l (.call (.c (.fn 83 [] [])) [(.l 0)])),(.i (.v 4) (.alloc [(.int .i64 0),(.int .i64 0),.nils])),(.i (.v 5) (.alloc [(.int .i64 0),(.int .i64 0),.nils])),(.i .n (.store 3 (.v 4) (.l 2))),(.i .n (.store 3 (.v 5) (.l 0)))]),(.ops [(.i .l (.mv (.v 0))),(.i .l (.load true 3 (.v 5))),(.i .l (.load true 3 (.v 4))),(.i .l (.call (.c (.fn 124 [] [])) [(.l 2),(.l 1),(.l 0)]))])] [(.ops [(.i .l (.bin (.int .i64) .eql (.v 11) (.c (.int .i64 15)))),(.i (.v 14) (.mv (.l 0)))]),(.cond (.v 14) [(.ops [(.i .l (.mv (.v 0))),(.i .l (.mv (.v 0))),(.i .l (.mv (.v 0))),(.i .l (.fad 1 (.v 2))),(.i .l (.load false 1 (.l 0))),(.i .l (.call (.c (.fn 83 [] [])) [(.l 2)])),(.ck [⟨none,false,1,(.l 2),(.l 1)⟩]),(.i .l (.call (.c (.fn 84 [] [])) [(.l 0),(.c (.int .i64 4))])),(.ck [⟨none,false,1,(.l 3),(.l 2)⟩]),(.i .l (.call (.c (.fn 125 [] [])) [(.l 5),(.l 0),(.l 2),(.c (.int .i64 (-1)))])),(.i .l (.call (.c (.fn 107 [] [])) [(.l 7),(.l 0)]))])] [(.ops [(.i .l (.bin (.int .i64) .eql (.v 11) (.c (.int .i64 16)))),(.i (.v 15) (.mv (.l 0)))]),(.cond (.v 15) [(.ops [(.i .l (.mv (.v 0))),(.i .l (.mv (.v 0))),(.i .l (.call (.c (.fn 83 [] [])) [(.l 0)])),(.i .l (.call (.c (.fn 126 [] [])) [(.l 2),(.l 0)]))])] [(.ops [(.i .l (.bin (.int .i64) .eql (.v 11) (.c (.int .i64 17)))),(.i (.v 16) (.mv (.l 0)))]),(.cond (.v 16) [(.ops [(.i .l (.mv (.v 0))),(.i .l (.nilc (.l 0))),(.i .l (.fad 0 (.l 0))),(.i .l (.load false 1 (.l 0))),(.i .l (.nilc (.l 0))),(.i .l (.fad 0 (.l 0))),(.i .l (.load false 1 (.l 0))),(.i .l (.mv (.v 0))),(.i .l (.call (.c (.fn 83 [] [])) [(.l 0)])),(.ck [⟨none,false,1,(.l 6),(.l 5)⟩,⟨none,false,1,(.l 3),(.l 2)⟩]),(.i .l (.call (.c (.fn 84 [] [])) [(.l 0),(.c (.int .i64 5))])),(.ck [⟨none,false,1,(.l 7),(.l 6)⟩,⟨none,false,1,(.l 4),(.l 3)⟩]),(.i .l (.fld false 1 1 (.l 0))),(.i .l (.call (.c (.fn 57 [] [])) [(.l 4),(.l 0)]))]),(.ops [(.i .l (.mv (.v 0))),(.i .l (.build [(.int .i64 0),(.int .i64 0),.nils] [(0,1),(1,1),(2,1)] [])),(.i .l (.call (.c (.fn 107 [] [])) [(.l 1),(.l 0)]))])] [(.ops [(.i .l (.bin (.int .i64) .eql (.v 11) (.c (.int .i64 18)))),(.i (.v 17) (.mv (.l 0)))]),(.cond (.v 17) [(.ops [(.i .l (.mv (.v 0))),(.i .l (.call (.c (.fn 83 [] [])) [(.l 0)])),(.i (.v 6) (.alloc [(.int .i64 0),(.int .i64 0),.nils])),(.i .n (.store 3 (.v 6) (.l 0)))]),(.ops [(.i .l (.mv (.v 0))),(.i .l (.mv (.v 3))),(.i .l (.nilc (.l 0))),(.i .l (.fad 0 (.l 0))),(.i .l (.load false 1 (.l 0))),(.i .l (.fad 1 (.v 2))),(.i .l (.load false 1 (.l 0))),(.i .l (.load true 3 (.v 6))),(.i .l (.build [(.int .i64 0),(.int .i64 0),(.int .i64 0),(.int .i64 0),(.int .i64 0),.nils,.nils,.nils,(.bool false),.nils] [(0,1),(1,1),(2,1),(3,3),(6,1),(7,1),(8,1),(9,1)] [(0,(.l 3)),(1,(.l 1)),(3,(.l 0))])),(.i .l (.call (.c (.fn 127 [] [])) [(.l 8),(.l 0)]))])] [(.ops [(.i .l (.bin (.int .i64) .eql (.v 11) (.c (.int .i64 19)))),(.i (.v 18) (.mv (.l 0)))]),(.cond (.v 18) [(.ops [(.i .l (.mv (.v 0))),(.i .l (.call (.c (.fn 83 [] [])) [(.l 0)])),(.i .l (.mv (.v 0))),(.i .l (.call (.c (.fn 83 [] [])) [(.l 0)])),(.i (.v 7) (.alloc [(.int .i64 0),(.int .i64 0),.nils])),(.i (.v 8) (.alloc [(.int .i64 0),(.int .i64 0),.nils])),(.i .n (.store 3 (.v 7) (.l 2))),(.i .n (.store 3 (.v 8) (.l 0)))]),(.ops [(.i .l (.mv (.v 0))),(.i .l (.load true 3 (.v 8))),(.i .l (.load true 3 (.v 7))),(.i .l (.call (.c (.fn 128 [] [])) [(.l 2),(.l 1),(.l 0)]))])] [(.ops [(.i .l (.bin (.int .i64) .eql (.v 11) (.c (.int .i64 20)))),(.i (.v 19) (.mv (.l 0)))]),(.cond (.v 19) [(.ops [(.i .l (.mv (.v 0))),(.i .l (.nilc (.l 0))),(.i .l (.fad 0 (.l 0))),(.i .l (.load false 1 (.l 0))),(.i .l (.mv (.v 3))),(.i .l (.nilc (.l 0))),(.i .l (.fad 0 (.l 0))),(.i .l (.load false 1 (.l 0))),(.i .l (.nilc (.l 4))),(.i .l (.fad 2 (.l 0))),(.i .l (.ixa none (some (4,5)) (.l 0) (.l 2))),(.i (.v 9) (.mv (.l 0)))]),(.ops [(.i .l (.mv (.v 9))),(.i .l (.nilc (.l 0))),(.i .l (.fad 2 (.l 0))),(.i .l (.load true 3 (.l 0))),(.i (.v 10) (.alloc [(.int .i64 0),(.int .i64 0),.nils])),(.i .n (.store 3 (.v 10) (.l 0)))]),(.ops [(.i .l (.mv (.v 9))),(.i .l (.mv (.v 0))),(.i .l (.call (.c (.fn 83 [] [])) [(.l 0)])),(.i .l (.nilc (.l 2))),(.i .l (.fad 2 (.l 0))),(.i .n (.store 3 (.l 0) (.l 2)))]),(.ops [(.i .l (.mv (.v 0))),(.i .l (.load true 3 (.v 10))),(.i .l (.call (.c (.fn 107 [] [])) [(.l 1),(.l 0)]))])] [(.ops [(.i .l (.bin (.int .i64) .eql (.v 11) (.c (.int .i64 21)))),(.i (.v 20) (.mv (.l 0)))]),(.cond (.v 20) [(.ops [(.i .l (.mv (.v 0))),(.i .l (.mv (.v 0))),(.i .l (.nilc (.l 0))),(.i .l (.fad 0 (.l 0))),(.i .l (.load false 1 (.l 0))),(.i .l (.mv (.v 3))),(.i .l (.nilc (.l 0))),(.i .l (.fad 0 (.l 0))),(.i .l (.load false 1 (.l 0))),(.i .l (.nilc (.l 4))),(.i .l (.fad 2 (.l 0))),(.i .l (.ixa none (some (4,5)) (.l 0) (.l 2))),(.i .l (.fad 2 (.l 0))),(.i .l (.load true 3 (.l 0))),(.i .l (.call (.c (.fn 107 [] [])) [(.l 13),(.l 0)]))])] [])])])])])])])])])])]
theorem bP:FnR Try.prog po 111 2 21 [0,1,3,4,5,6,7,8,9,10,11,15,16,22,32,43,49,66,80,90,115] bG [] false:=⟨_,_,Try.func111,rfl,rfl,by kernel_rfl,by kernel_rfl,by kernel_rfl,by kernel_rfl,by kernel_rfl⟩
def jW:List RS:=[(.ops [(.i (.v 1) (.alloc [(.int .i64 0),(.int .i64 0),.nils])),(.i (.v 2) (.mv (.c (.bool false))))]),(.ops [(.i .l (.mv (.v 0))),(.i .l (.call (.c (.fn 83 [] [])) [(.l 0)])),(.i (.v 3) (.alloc [(.int .i64 0),(.int .i64 0),.nils])),(.i .n (.store 3 (.v 3) (.l 0)))]),(.ops [(.i .l (.mv (.v 0))),(.i .l (.call (.c (.fn 81 [] [])) [(.l 0)])),(.i .l (.nilc (.l 0))),(.i .l (.load true 10 (.l 0))),(.i (.v 4) (.alloc [(.int .i64 0),(.int .i64 0),(.int .i64 0),(.int .i64 0),(.int .i64 0),.nils,.nils,.nils,(.bool false),.nils])),(.i .n (.store 10 (.v 4) (.l 0)))]),(.ops [(.i .l (.fad 8 (.v 4))),(.i (.v 7) (.load false 1 (.l 0)))]),(.cond (.v 7) [(.ops [(.i .l (.mv (.v 0))),(.i .l (.nilc (.l 0))),(.i .l (.fad 0 (.l 0))),(.i .l (.load false 1 (.l 0))),(.i .l (.nilc (.l 0))),(.i .l (.fad 0 (.l 0))),(.i .l (.load false 1 (.l 0))),(.i .l (.load true 3 (.v 3))),(.i .l (.fad 9 (.v 4))),(.i .l (.load false 1 (.l 0))),(.i .l (.call (.c (.fn 106 [] [])) [(.l 3),(.l 2),(.l 0)])),(.i .l (.mv (.l 0))),(.i .l (.ext (.l 0) 0)),(.i .l (.ext (.l 1) 1)),(.i (.v 5) (.alloc [(.int .i64 0),(.int .i64 0),.nils])),(.ck [⟨none,false,1,(.l 11),(.l 10)⟩,⟨none,false,1,(.l 8),(.l 7)⟩,⟨none,true,3,(.v 3),(.l 6)⟩,⟨none,false,1,(.l 5),(.l 4)⟩]),(.i .n (.store 3 (.v 5) (.l 1))),(.i (.v 6) (.mv (.l 0)))]),(.ops [(.i .l (.mv (.v 6))),(.i .l (.bin (.int .i64) .neq (.l 0) (.c (.int .i64 0)))),(.i .l (.mv (.v 6))),(.i .l (.call (.c (.fn 82 [] [])) [(.l 1),(.l 0)]))]),(.ops [(.i .l (.load true 3 (.v 5))),(.i .n (.store 3 (.v 3) (.l 0)))])] []),(.ops [(.i .l (.mv (.v 0))),(.i .l (.mv (.v 0))),(.i .l (.nilc (.l 0))),(.i .l (.fad 1 (.l 0))),(.i .l (.load false 1 (.l 0))),(.i .l (.mv (.v 0))),(.i .l (.nilc (.l 0))),(.i .l (.fad 1 (.l 0))),(.i .l (.load false 1 (.l 0))),(.i .l (.len false (some 126) (.l 0))),(.i .l (.bin (.int .i64) .sub (.l 0) (.c (.int .i64 1)))),(.i .l (.slc false (some 126) (.l 6) none (some (.l 0)))),(.i .l (.nilc (.l 11))),(.i .l (.fad 1 (.l 0))),(.i .n (.store 1 (.l 0) (.l 2)))]),(.ops [(.i .l (.mv (.v 0))),(.i .l (.nilc (.l 0))),(.i .l (.fad 1 (.l 0))),(.i .l (.load false 1 (.l 0))),(.i .l (.len false (some 126) (.l 0))),(.i (.v 8) (.bin (.int .i64) .eql (.l 0) (.c (.int .i64 0))))]),(.cond (.v 8) [(.ops [(.i .l (.load true 3 (.v 3))),(.i .n (.store 3 (.v 1) (.l 0))),(.i (.v 2) (.mv (.c (.bool true))))]),.ret] []),(.ops [(.i .l (.mv (.v 0))),(.i .l (.load true 3 (.v 3))),(.i .l (.call (.c (.fn 107 [] [])) [(.l 1),(.l 0)]))]),(.ops [(.i .l (.load true 3 (.v 3))),(.i .n (.store 3 (.v 1) (.l 0))),(.i (.v 2) (.mv (.c (.bool false))))]),.ret]
theorem lL:FnR Try.prog po 85 1 9 [0,2,3,4,5,6,7,15,54] jW [(.cell true 3 1),(.v 2)] false:=⟨_,_,Try.func85,rfl,rfl,by kernel_rfl,by kernel_rfl,by kernel_rfl,by kernel_rfl,by kernel_rfl⟩
def dv:List RS:=[(.ops [(.i (.v 1) (.alloc [(.int .i64 0),(.int .i64 0),.nils])),(.i (.v 2) (.mv (.c (.bool false))))]),(.ops [(.i .l (.mv (.v 0))),(.i .l (.call (.c (.fn 81 [] [])) [(.l 0)])),(.i (.v 3) (.mv (.l 0)))]),(.ops [(.i .l (.mv (.v 0))),(.i .l (.nilc (.l 0))),(.i .l (.fad 0 (.l 0))),(.i .l (.load false 1 (.l 0))),(.i .l (.mv (.v 3))),(.i .l (.nilc (.l 0))),(.i .l (.fad 0 (.l 0))),(.i .l (.load false 1 (.l 0))),(.i .l (.nilc (.l 4))),(.i .l (.fad 2 (.l 0))),(.i .l (.ixa none (some (4,5)) (.l 0) (.l 2))),(.i .l (.fad 1 (.l 0))),(.i .l (.load false 1 (.l 0))),(.i .l (.mv (.v 3))),(.i .l (.nilc (.l 0))),(.i .l (.fad 1 (.l 0))),(.i .l (.load false 1 (.l 0))),(.i .l (.ixa (some 158) none (.l 4) (.l 0))),(.i .l (.load false 1 (.l 0))),(.i .l (.mv (.v 3))),(.i .l (.nilc (.l 0))),(.i .l (.fad 2 (.l 0))),(.i .l (.load false 1 (.l 0))),(.i .l (.ixa (some 169) none (.l 4) (.l 0))),(.i .l (.load true 3 (.l 0))),(.i (.v 4) (.alloc [(.int .i64 0),(.int .i64 0),(.int .i64 0)])),(.ck [⟨none,false,1,(.l 22),(.l 21)⟩,⟨none,false,1,(.l 18),(.l 17)⟩,⟨none,false,1,(.l 13),(.l 12)⟩,⟨none,false,1,(.l 9),(.l 8)⟩,⟨none,false,1,(.l 7),(.l 6)⟩,⟨none,false,1,(.l 3),(.l 2)⟩,⟨none,true,3,(.l 1),(.l 0)⟩]),(.i .n (.store 3 (.v 4) (.l 0)))]),(.ops [(.i .l (.mv (.v 3))),(.i .l (.nilc (.l 0))),(.i .l (.fad 2 (.l 0))),(.i .l (.load false 1 (.l 0))),(.i .l (.bin (.int .i64) .add (.l 0) (.c (.int .i64 1)))),(.i .l (.nilc (.l 4))),(.i .l (.fad 2 (.l 0))),(.i .n (.store 1 (.l 0) (.l 2)))]),(.ops [(.i .l (.fad 0 (.v 4))),(.i (.v 6) (.load false 1 (.l 0)))]),(.block 0 [(.ops [(.i .l (.bin (.int .i64) .eql (.v 6) (.c (.int .i64 100)))),(.i (.v 7) (.mv (.l 0)))]),(.cond (.v 7) [(.ops [(.i .l (.mv (.v 0))),(.i .l (.nilc (.l 0))),(.i .l (.fad 2 (.l 0))),(.i .l (.load false 1 (.l 0))),(.i .l (.bin (.int .i64) .eql (.l 0) (.c (.int .i64 0)))),(.i .l (.call (.c (.fn 82 [] [])) [(.l 0),(.c (.int .i64 12))]))]),(.ops [(.i .l (.mv (.v 0))),(.i .l (.nilc (.l 0))),(.i .l (.fad 2 (.l 0))),(.i .l (.load false 1 (.l 0))),(.i .l (.bin (.int .i64) .sub (.l 0) (.c (.int .i64 1)))),(.i .l (.nilc (.l 4))),(.i .l (.fad 2 (.l 0))),(.i .n (.store 1 (.l 0) (.l 2)))])] [(.ops [(.i .l (.bin (.int .i64) .eql (.v 6) (.c (.int .i64 101)))),(.i (.v 8) (.mv (.l 0)))]),(.cond (.v 8) [(.ops [(.i .l (.mv (.v 0))),(.i .l (.call (.c (.fn 83 [] [])) [(.l 0)])),(.i (.v 5) (.alloc [(.int .i64 0),(.int .i64 0),.nils])),(.i .n (.store 3 (.v 5) (.l 0)))]),(.ops [(.i .l (.mv (.v 3))),(.i .l (.nilc (.l 0))),(.i .l (.fad 7 (.l 0))),(.i .l (.load false 1 (.l 0))),(.i .l (.load true 3 (.v 5))),(.i .l (.len false (some 29) (.l 1))),(.i .l (.bsl true 29 [(.int .i64 0),(.int .i64 0),.nils] 3 1 [(0,(.c (.agg [(.int .i64 0),(.int .i64 0),.nils])))])),(.ck [⟨none,false,1,(.l 4),(.l 3)⟩,⟨none,true,3,(.v 5),(.l 2)⟩]),(.i .l (.app true 29 (.l 3) (.l 0))),(.i .l (.ixa (some 29) none (.l 0) (.l 2))),(.i .l (.nilc (.l 8))),(.i .l (.fad 7 (.l 0))),(.i .n (.store 3 (.l 2) (.l 6))),(.i .n (.store 1 (.l 0) (.l 3))),(.ck [⟨none,true,3,(.l 2),(.l 6)⟩])])] [(.ops [(.i .l (.bin (.int .i64) .eql (.v 6) (.c (.int .i64 102)))),(.i (.v 9) (.mv (.l 0)))]),(.cond (.v 9) [(.ops [(.i .l (.mv (.v 3))),(.i .l (.mv (.v 3))),(.i .l (.nilc (.l 0))),(.i .l (.fad 7 (.l 0))),(.i .l (.load false 1 (.l 0))),(.i .l (.mv (.v 3))),(.i .l (.nilc (.l 0))),(.i .l (.fad 7 (.l 0))),(.i .l (.load false 1 (.l 0))),(.i .l (.len false (some 29) (.l 0))),(.i .l (.bin (.int .i64) .sub (.l 0) (.c (.int .i64 1)))),(.i .l (.slc false (some 29) (.l 6) none (some (.l 0)))),(.i .l (.nilc (.l 11))),(.i .l (.fad 7 (.l 0))),(.i .n (.store 1 (.l 0) (.l 2)))])] [(.ops [(.i .l (.bin (.int .i64) .eql (.v 6) (.c (.int .i64 103)))),(.i (.v 10) (.mv (.l 0)))]),(.cond (.v 10) [(.ops [(.i .l (.mv (.v 0))),(.i .l (.call (.c (.fn 83 [] [])) [(.l 0)])),(.i .l (.call (.c (.fn 84 [] [])) [(.l 0),(.c (.int .i64 1))])),(.i .l (.fld false 1 1 (.l 0))),(.i (.v 11) (.bin (.int .i64) .eql (.l 0) (.c (.int .i64 0))))]),(.cond (.v 11) [(.ops [(.i .l (.mv (.v 3))),(.i .l (.fad 1 (.v 4))),(.i .l (.load false 1 (.l 0))),(.i .l (.nilc (.l 2))),(.i .l (.fad 2 (.l 0))),(.i .n (.store 1 (.l 0) (.l 2)))])] [])] [(.ops [(.i .l (.bin (.int .i64) .eql (.v 6) (.c (.int .i64 104)))),(.i (.v 12) (.mv (.l 0)))]),(.cond (.v 12) [(.ops [(.i .l (.mv (.v 3))),(.i .l (.fad 1 (.v 4))),(.i .l (.load false 1 (.l 0))),(.i .l (.nilc (.l 2))),(.i .l (.fad 2 (.l 0))),(.i .n (.store 1 (.l 0) (.l 2)))])] [(.ops [(.i .l (.bin (.int .i64) .eql (.v 6) (.c (.int .i64 105)))),(.i (.v 13) (.mv (.l 0)))]),(.cond (.v 13) [(.ops [(.i .l (.mv (.v 0))),(.i .l (.call (.c (.fn 85 [] [])) [(.l 0)])),(.i .l (.ext (.l 0) 0)),(.i .l (.ext (.l 1) 1)),(.i .n (.store 3 (.v 1) (.l 1))),(.i (.v 2) (.mv (.l 0)))]),.ret] [(.ops [(.i .l (.mv (.v 0))),(.i .l (.load true 3 (.v 4))),(.i .l (.call (.c (.fn 86 [] [])) [(.l 1),(.l 0)]))])])])])])])])]),(.ops [(.i .l (.build [(.int .i64 0),(.int .i64 0),.nils] [(0,1),(1,1),(2,1)] [])),(.i .n (.store 3 (.v 1) (.l 0))),(.i (.v 2) (.mv (.c (.bool false))))]),.ret]
theorem dK:FnR Try.prog po 48 1 14 [0,2,3,4,5,6,42,46,61,76,92,98,104,111] dv [(.cell true 3 1),(.v 2)] false:=⟨_,_,Try.func48,rfl,rfl,by kernel_rfl,by kernel_rfl,by kernel_rfl,by kernel_rfl,by kernel_rfl⟩
def Cf:List RS:=[(.ops [(.i (.v 0) (.mv (.c .nilp)))]),(.ops [(.i .l (.build [(.int .i64 0),(.int .i64 0),(.int .i64 0),(.int .i64 0),(.int .i64 0),(.int .i64 0),(.int .i64 0),(.int .i64 0),(.int .i64 0),(.int .i64 0),(.int .i64 0),(.int .i64 0),.nils] [(0,12),(12,1)] [])),(.i .l (.box 13 (.l 0))),(.i (.v 0) (.mv (.l 0)))]),.ret]
theorem JJ:FnR Try.prog po 69 0 1 [0] Cf [(.v 0)] false:=⟨_,_,Try.func69,rfl,rfl,by kernel_rfl,by kernel_rfl,by kernel_rfl,by kernel_rfl,by kernel_rfl⟩
def ya:List RS:=[(.ops [(.i (.v 4) (.mv (.c (.int .i64 0)))),(.i (.v 5) (.mv (.c (.bool false))))]),(.ops [(.i .l (.mv (.v 2))),(.i .l (.call (.c (.fn 87 [] [])) [(.l 0)])),(.i (.v 6) (.un .not (.l 0)))]),(.cond (.v 6) [(.ops [(.i (.v 4) (.mv (.c (.int .i64 0)))),(.i (.v 5) (.mv (.c (.bool false))))]),.ret] []),(.ops [(.i .l (.mv (.v 0))),(.i .l (.mv (.v 0))),(.i .l (.nilc (.l 0))),(.i .l (.fad 12 (.l 0))),(.i .l (.load false 1 (.l 0))),(.i .l (.mv (.v 1))),(.i .l (.mv (.v 2))),(.i .l (.mv (.v 3))),(.i .l (.build [(.int .i64 0),(.int .i64 0),(.int .i64 0),(.int .i64 0)] [(0,1),(1,1),(2,1),(3,1)] [(0,(.l 2)),(1,(.l 1)),(2,(.c (.int .i64 1))),(3,(.l 0))])),(.i .l (.bsl false 98 [(.int .i64 0),(.int .i64 0),(.int .i64 0),(.int .i64 0)] 4 1 [(0,(.l 0))])),(.i .l (.app false 98 (.l 5) (.l 0))),(.i .l (.nilc (.l 10))),(.i .l (.fad 12 (.l 0))),(.i .n (.store 1 (.l 0) (.l 2)))]),(.ops [(.i .l (.mv (.v 0))),(.i .l (.mv (.v 2))),(.i .l (.nilc (.l 1))),(.i .l (.fad 0 (.l 0))),(.i .l (.ixa none (some (12,1)) (.l 0) (.l 2))),(.i .l (.load false 1 (.l 0))),(.i (.v 4) (.mv (.l 0))),(.i (.v 5) (.mv (.c (.bool true))))]),.ret]
theorem IV:FnR Try.prog po 136 4 7 [0,1,2,3,8,9,12] ya [(.v 4),(.v 5)] false:=⟨_,_,Try.func136,rfl,rfl,by kernel_rfl,by kernel_rfl,by kernel_rfl,by kernel_rfl,by kernel_rfl⟩
def vi:List RS:=[(.ops [(.i (.v 5) (.mv (.c (.bool false))))]),(.ops [(.i .l (.mv (.v 2))),(.i .l (.call (.c (.fn 87 [] [])) [(.l 0)])),(.i (.v 6) (.un .not (.l 0)))]),(.cond (.v 6) [(.ops [(.i (.v 5) (.mv (.c (.bool false))))]),.ret] []),(.ops [(.i .l (.mv (.v 0))),(.i .l (.mv (.v 0))),(.i .l (.nilc (.l 0))),(.i .l (.fad 12 (.l 0))),(.i .l (.load false 1 (.l 0))),(.i .l (.mv (.v 1))),(.i .l (.mv (.v 2))),(.i .l (.mv (.v 3))),(.i .l (.build [(.int .i64 0),(.int .i64 0),(.int .i64 0),(.int .i64 0)] [(0,1),(1,1),(2,1),(3,1)] [(0,(.l 2)),(1,(.l 1)),(2,(.c (.int .i64 2))),(3,(.l 0))])),(.i .l (.bsl false 98 [(.int .i64 0),(.int .i64 0),(.int .i64 0),(.int .i64 0)] 4 1 [(0,(.l 0))])),(.i .l (.app false 98 (.l 5) (.l 0))),(.i .l (.nilc (.l 10))),(.i .l (.fad 12 (.l 0))),(.i .n (.store 1 (.l 0) (.l 2)))]),(.ops [(.i .l (.mv (.v 0))),(.i .l (.mv (.v 2))),(.i .l (.mv (.v 4))),(.i .l (.nilc (.l 2))),(.i .l (.fad 0 (.l 0))),(.i .l (.ixa none (some (12,1)) (.l 0) (.l 3))),(.i .n (.store 1 (.l 0) (.l 3)))]),(.ops [(.i (.v 5) (.mv (.c (.bool true))))]),.ret]
theorem Eu:FnR Try.prog po 137 5 7 [0,1,2,3,4,10,13] vi [(.v 5)] false:=⟨_,_,Try.func137,rfl,rfl,by kernel_rfl,by kernel_rfl,by kernel_rfl,by kernel_rfl,by kernel_rfl⟩
def wF:List RS:=[(.ops [(.i (.v 1) (.mv (.c .nils)))]),(.ops [(.i .l (.mv (.v 0))),(.i .l (.nilc (.l 0))),(.i .l (.fad 12 (.l 0))),(.i .l (.load false 1 (.l 0))),(.i .l (.call (.c (.fn 63 [] [])) [(.l 0)])),(.i (.v 1) (.mv (.l 0)))]),.ret]
theorem Co:FnR Try.prog po 31 1 2 [0,2] wF [(.v 1)] true:=⟨_,_,Try.func31,rfl,rfl,by kernel_rfl,by kernel_rfl,by kernel_rfl,by kernel_rfl,by kernel_rfl⟩
def oQ:List RS:=[(.ops [(.i (.v 1) (.mv (.c .nils)))]),(.ops [(.i .l (.mv (.v 0))),(.i (.v 2) (.bin .slice .eql (.l 0) (.c .nils)))]),(.cond (.v 2) [(.ops [(.i (.v 1) (.mv (.c .nils)))]),.ret] []),(.ops [(.i .l (.bsl false 98 [(.int .i64 0),(.int .i64 0),(.int .i64 0),(.int .i64 0)] 4 0 [])),(.i .l (.mv (.v 0))),(.i .l (.app false 98 (.l 1) (.l 0))),(.i (.v 1) (.mv (.l 0)))]),.ret]
theorem vG:FnR Try.prog po 63 1 3 [0,2,4] oQ [(.v 1)] true:=⟨_,_,Try.func63,rfl,rfl,by kernel_rfl,by kernel_rfl,by kernel_rfl,by kernel_rfl,by kernel_rfl⟩
def HZ:List RS:=[(.ops [(.i (.v 2) (.box 3 (.v 1)))])]
def wP:List RI:=[(.i .l (.mv (.v 0))),(.i .l (.mv (.v 0))),(.i .l (.load true 3 (.v 2))),(.i .l (.bsl true 29 [(.int .i64 0),(.int .i64 0),.nils] 3 1 [(0,(.l 0))])),(.i .l (.call (.c (.fn 81 [] [])) [(.l 3)])),(.ck [⟨none,true,3,(.v 2),(.l 2)⟩]),(.i .l (.call (.c (.fn 81 [] [])) [(.l 3)])),(.ck [⟨none,true,3,(.v 2),(.l 3)⟩]),(.i .l (.nilc (.l 0))),(.i .l (.fad 6 (.l 0))),(.i .l (.load false 1 (.l 0))),(.i .l (.app true 29 (.l 0) (.l 5))),(.i .l (.nilc (.l 5))),(.i .l (.fad 6 (.l 0))),(.i .n (.store 1 (.l 0) (.l 2)))]
def wZ:List RI:=[(.i .l (.mv (.v 0))),(.i .l (.mv (.v 0))),(.i .l (.load true 3 (.v 2))),(.i .l (.call (.c (.fn 81 [] [])) [(.l 2)])),(.ck [⟨none,true,3,(.v 2),(.l 1)⟩]),(.i .l (.bsl true 29 [(.int .i64 0),(.int .i64 0),.nils] 3 1 [(0,(.l 1))])),(.i .l (.call (.c (.fn 81 [] [])) [(.l 3)])),(.ck [⟨none,true,3,(.v 2),(.l 3)⟩]),(.i .l (.nilc (.l 0))),(.i .l (.fad 6 (.l 0))),(.i .l (.load false 1 (.l 0))),(.i .l (.app true 29 (.l 0) (.l 4))),(.i .l (.nilc (.l 6))),(.i .l (.fad 6 (.l 0))),(.i .n (.store 1 (.l 0) (.l 2)))]
def wW:List RI:=[(.i .l (.mv (.v 0))),(.i .l (.mv (.v 0))),(.i .l (.load true 3 (.v 2))),(.i .l (.call (.c (.fn 81 [] [])) [(.l 2)])),(.ck [⟨none,true,3,(.v 2),(.l 1)⟩]),(.i .l (.call (.c (.fn 81 [] [])) [(.l 2)])),(.ck [⟨none,true,3,(.v 2),(.l 2)⟩]),(.i .l (.nilc (.l 0))),(.i .l (.fad 6 (.l 0))),(.i .l (.load false 1 (.l 0))),(.i .l (.bsl true 29 [(.int .i64 0),(.int .i64 0),.nils] 3 1 [(0,(.l 5))])),(.ck [⟨none,false,1,(.l 2),(.l 1)⟩]),(.i .l (.app true 29 (.l 1) (.l 0))),(.i .l (.nilc (.l 6))),(.i .l (.fad 6 (.l 0))),(.i .n (.store 1 (.l 0) (.l 2)))]
open Go Go.RowKit
section
variable {P:Program} {po:Pol} {f:FuncId} {n nv:Nat} {vm:List Nat} {h h':AH} {t V V':List AV} {all:Array Oper} {pl:List (Nat×List Nat)} {E:Nat→Nat→Prop}
theorem Ez (pok:POK P po) {is:List RI} {K:List Item} {x:AEx} (pp:jS all pl (fun _=>false) E) (hkp:rP (po.kp f) all=true) (hvm:vm.Nodup∧∀ j s,vm[j]? =some s→(j<nv↔s<po.nv f))
  (htr:gQ P (po.mu f) n vm all [] (eu true all pl)=some is) (hr:aq (aj P po) nv [.ops is,.halt K] V [] h=some (x,V',h')) (rv:RV n vm [] t V []):
  ∃ t',(∀ (m:Mm) (w:World) (a:Act) (b:Frame) (cs:List Frame) (L:List Nat),gV all E (mp all) L→WR P m h w→TR P m h t a.tmps→a.defers=b.defers→bU P (po.kp f) m h w b cs (lone (b.at a (.inRegion all L::K)) cs w) (x,t',h'))∧RV n vm [] t' V' []:=by
 obtain⟨t',e,rv'⟩:=(oD (n:=n) (f:=f) hvm.1 hvm.2 _ _ _ _ _ hr).2.1 true all (eu true all pl) is [.halt K] [] t [.halt K] rfl htr (.halt K [] []) rv
 refine⟨t',fun m w a b cs L hL hw ht hd=> ?_,rv'⟩
 obtain⟨e2,t2,h2,hp,he⟩:=jy pok f _ t h _ e
 refine pe pok pp hkp hp (fun e0=> ?_) (fun v e0=> ?_) hL hw ht hd
 ·subst e0
  exact fun m1 w1 a1 q1 q2 q3=>he K (.halt K []) b cs m1 w1 a1 q1 q2 q3
 ·subst e0
  exact he
theorem zs (pok:POK P po) (hedge:∀ j,j<all.size→∀ e∈(opI all j).after,Region.binds .any e=true→e.on<j) {id:Nat} {b:Frame} {a:Act} {K:List Item} {cs:List Frame} {w:World}:
  ∃ L w',gV all (fun _ _=>False) (mp all) L∧Steps P (lone (b.at a (.code (.region id all true)::K)) cs w) (lone (b.at a (.inRegion all L::K)) cs w')∧(∀ (m:Mm) (h:AH),WR P m h w→WR P m h w')∧∀ base,Below base w w':=by
 refine⟨_,_,?_,.one step_region_draw,fun m h hw=>hw.drew,fun base=>(Below.refl _ _).drew⟩
 simp only[Region.schedule,pok.mixed,Bool.true_or,if_true,Region.linearise]
 exact AB hedge _ _ _ (by simp) (by simp[List.countP_replicate])
end
open Go Go.RowKit
section
variable {P:Program} {po:Pol} {f:FuncId} {n nv:Nat} {vm:List Nat} {h h' h2 h3:AH} {V V':List AV} {args:List AV} {all:Array Oper}
theorem mM.draw (pok:POK P po) {id:Nat} {c:Code} (hc:c= .region id all true) (p:mM P po f n vm args h (.halt [.code c]) V h2)
  (hedge:((List.range all.size).all fun j=>(all.getD j default).after.all fun e=> !Region.binds .any e || decide (e.on<j))=true) (hvm:vm.Nodup∧∀ j s,vm[j]? =some s→(j<nv↔s<po.nv f)) (hkp:rP (po.kp f) all=true)
  (h1:∀ L,gV all (fun _ _=>False) (mp all) L→∃ (E:Nat→Nat→Prop) (pl:List (Nat×List Nat)) (is:List RI),gV all E (mp all) L∧jS all pl (fun _=>false) E∧gQ P (po.mu f) n vm all [] (eu true all pl)=some is∧aq (aj P po) nv [.ops is,.halt []] V [] h2=some (.halt [],V',h3)):
  mM P po f n vm args h .ret V' h3:=by
 intro m w vs hw hvs cs
 obtain⟨bf,t2,b1,b2,b3,rv,m1,w1,x1,x2,x3,a1,x4,x5,x6⟩:=p m w vs hw hvs cs
 subst hc
 obtain⟨L,w2,q1,q2,q3,q4⟩:=zs (P:=P) (all:=all) (id:=id) (b:=bf) (a:=a1) (K:=[]) (cs:=cs) (w:=w1) pok (fun j hj e he hb=>by
  rw[List.all_eq_true]at hedge
  have:=hedge j (List.mem_range.2 hj)
  rw[Array.all_eq_true']at this
  have:=this e he
  simpa[hb]using this)
 obtain⟨E,pl,is,e1,e2,e3,e4⟩:=h1 L q1
 obtain⟨t',hp,rv'⟩:=Ez (K:=[]) pok e2 hkp hvm e3 e4 rv
 obtain⟨m3,w3,y1,y2,y3,a3,y4,y5,y6⟩:=hp m1 w2 a1 bf cs L e1 (q3 _ _ x2) x4 x5
 refine⟨bf,t',b1,b2,b3,rv',bU.steps x6 (bU.after x1 x3 (bU.steps q2 (bU.after (Ext.refl _ _) (q4 _) ?_)))⟩
 exact⟨m3,w3,y1,y2,y3,a3,[],y4,y5,y6.trans (.one step_end)⟩
theorem si {E:Nat→Nat→Prop} {x y z:Nat} (h1:E x y) (hz:((opI all z).after.toList.any fun e=>Region.binds .any e && e.on==y)=true):∀ {li:Array Bool} {L:List Nat},gV all E li L→li.size=all.size→(li.getD y false=true→li.getD x false=true)→gV all (AG E x z) li L:=by
 rw[List.any_eq_true]at hz
 obtain⟨e,e1,e2⟩:=hz
 simp only[Bool.and_eq_true,beq_iff_eq]at e2
 intro li L ho
 induction ho with
 | nil li h=>exact fun _ _=> .nil _ h
 | cons li i L g1 g2 g3 g4 _ ih=>
   intro hs hi
   have hil:i<li.size:=by omega
   refine .cons _ _ _ g1 g2 g3 (fun j hj=>hj.elim (g4 j) fun hj=> ?_) (ih (by simpa using hs) fun hy=> ?_)
   ·rw[hj.1]
    refine hi ?_
    have:=g3 e (by rw[hj.2];simpa using e1) e2.1
    rwa [e2.2]at this
   ·rw[bQ hil]at hy ⊢
    split
    ·rfl
    ·split at hy
     ·rename_i h5
      exact g4 x (by rw[←h5];exact h1)
     ·exact hi hy
theorem Eh {E:Nat→Nat→Prop} {x y z:Nat} (h1:E x y) (h2:E z x) (hz:∃ e∈(opI all z).after,Region.binds .any e=true∧e.on=y) (hx:x<all.size):∀ {li:Array Bool} {L:List Nat},gV all E li L→li.size=all.size→li.getD x false=false→li.getD y false=false→li.getD z false=false→False:=by
 intro li L ho
 induction ho with
 | nil li h=>
   intro hs a _ _
   rw[h x hx]at a
   cases a
 | cons li i L g1 g2 g3 g4 _ ih=>
   intro hs a b c
   have n1:x≠i:=fun e=>by
    have:=g4 z (by rw[←e];exact h2)
    rw[c]at this
    cases this
   have n2:y≠i:=fun e=>by
    have:=g4 x (by rw[←e];exact h1)
    rw[a]at this
    cases this
   have n3:z≠i:=fun e=>by
    obtain⟨e',e1,e2,e3⟩:=hz
    have:=g3 e' (by rw[←e];exact e1) e2
    rw[e3,b]at this
    cases this
   have hi:i<li.size:=by omega
   exact ih (by simpa using hs) (by rw[bQ hi,if_neg n1];exact a) (by rw[bQ hi,if_neg n2];exact b) (by rw[bQ hi,if_neg n3];exact c)
end
abbrev fPu:FuncId:=107
abbrev Gv:FuncId:=81
noncomputable def cPu:Code:=Try.f107.body.getD .skip
theorem LG:(Try.prog).funcs[fPu]? =some Try.f107:=Try.func107
theorem KF:Try.f107.body=some cPu:=rfl
theorem O3:Try.f107.ntmps=16:=rfl
theorem MX:cPu= .seq (cL cPu) (cR cPu):=rfl
theorem Nf:jp Try.prog [0,1,3] Try.f107.results.toList=some []:=by kernel_rfl
abbrev vPu:List Nat:=[0,1,3]
theorem LF:so 2 16 (po.nv fPu) 3 vPu=true:=by kernel_rfl
theorem MV:bj Try.prog (po.mu fPu) (po.plan fPu) 16 vPu (cL cPu) []=some HZ:=by kernel_rfl
theorem K3:cS (po.plan fPu) (po.kp fPu) (cL cPu)=true:=by kernel_rfl
noncomputable abbrev puO:Array Oper:=eO (cR cPu)
theorem Mx:cR cPu= .region 1 puO true:=rfl
theorem K4:((List.range puO.size).all fun j=>(puO.getD j default).after.all fun e=> !Region.binds .any e || decide (e.on<j))=true:=by kernel_rfl
theorem O0:rP (po.kp fPu) puO=true:=by kernel_rfl
def Nl:List (Nat×List Nat):=[(0,[]),(2,[]),(7,[]),(8,[]),(1,[7]),(3,[7]),(4,[]),(5,[]),(6,[]),(9,[]),(10,[]),(11,[]),(12,[])]
def MZ:List (Nat×List Nat):=[(0,[]),(2,[]),(7,[]),(1,[7]),(8,[]),(3,[7]),(4,[]),(5,[]),(6,[]),(9,[]),(10,[]),(11,[]),(12,[])]
def Nd:List (Nat×List Nat):=[(0,[]),(2,[]),(7,[]),(1,[7]),(3,[7]),(4,[]),(5,[]),(6,[]),(8,[6]),(9,[]),(10,[]),(11,[]),(12,[])]
theorem OP:km [(8,1),(8,3),(8,4),(8,5),(8,6)] puO Nl=true:=by kernel_rfl
theorem On:km [(1,8),(8,3),(8,4),(8,5),(8,6)] puO MZ=true:=by kernel_rfl
theorem N2:km [(1,8),(3,8)] puO Nd=true:=by kernel_rfl
theorem OA:gQ Try.prog (po.mu fPu) 16 vPu puO [] (eu true puO Nl)=some wP:=by kernel_rfl
theorem OG:gQ Try.prog (po.mu fPu) 16 vPu puO [] (eu true puO MZ)=some wZ:=by kernel_rfl
theorem Od:gQ Try.prog (po.mu fPu) 16 vPu puO [] (eu true puO Nd)=some wW:=by kernel_rfl
theorem Cz:puO.size=13:=by kernel_rfl
theorem OS:((opI puO 4).after.toList.any fun e=>Region.binds .any e && e.on==3)=true:=by kernel_rfl
theorem OW:((opI puO 5).after.toList.any fun e=>Region.binds .any e && e.on==4)=true:=by kernel_rfl
theorem OV:((opI puO 6).after.toList.any fun e=>Region.binds .any e && e.on==5)=true:=by kernel_rfl
theorem B4 {E:Nat→Nat→Prop} (h1:E 8 3) {L:List Nat} (ho:gV puO E (mp puO) L):gV puO (AG (AG (AG E 8 4) 8 5) 8 6) (mp puO) L:=by
 have hsz:(mp puO).size=puO.size:=by simp
 have n:∀ j,(mp puO).getD j false=true→(mp puO).getD 8 false=true:=fun j hj=>by rw[eh]at hj;cases hj
 exact si (.inr ⟨rfl,rfl⟩) OV (si (.inr ⟨rfl,rfl⟩) OW (si h1 OS ho hsz (n _)) hsz (n _)) hsz (n _)
theorem OC:((opI puO 3).after.toList.any fun e=>Region.binds .any e && e.on==1)=true:=by kernel_rfl
theorem N7 (x y:AV):RV 16 vPu [] ([x,y]++List.replicate (16 - [x,y].length) .junk) ([x,y]++List.replicate (vPu.length - [x,y].length) .junk) []:=by
 refine⟨by simp,rfl,rfl,fun j s hj=> ?_,fun j s hj=>by simp at hj⟩
 match j,hj with
 | 0,hj | 1,hj | 2,hj=>obtain rfl:=Option.some.inj hj;exact⟨by decide,rfl⟩
 | j+3,hj=>simp at hj
theorem qh {h:AH} {mb fb k:Nat} {bx lf:AV} (hm:h.cell mb=some [[bx,.msl fb 0 (k+1) tFr,lf]]) (hk:k≤1000):aj Try.prog po Gv [.ptr mb 0 0] h=some (.inl (.ptr fb k 0),h):=by
 have w:IntKind.wrap .i64 (((k+1:Nat):Int) - 1)=(k:Int):=Bw (by omega) (by omega) (by omega)
 have ix:∀ q:IntKind,bX (some tFr) none (.msl fb 0 (k+1) tFr) (.int q (k:Int))=some (.ptr fb (0+k) 0):=fun q=>rJ rfl (by omega)
 refine ah KZ rfl ?_;unfold Cb
 simp only[sim,ag,Nat.reduceAdd,Nat.reduceSub,List.replicate,reduceCtorEq,Nat.reduceLeDiff,Nat.reduceLT,aa,hm,w,ix,Nat.zero_add]
theorem Kp {h h3:AH} {mb fb k:Nat} {bx lf s s':AV} {r:List AV} {rows:List (List AV)} {row:List AV} (hk:k≤1000) (hr:r.length=3∧r.all AV.one=true) (hmn:mb<h.n) (hfn:fb<h.n)
  (hm:h.cell mb=some [[bx,.msl fb 0 (k+1) tFr,lf]]) (hf:h.cell fb=some rows) (hrow:rows[k]? =some row) (hs:row[6]? =some s) (hlr:row.length=10)
  (ha:aA true tV s (.msl (h.n+1) 0 1 tV) ((h.push [r]).push [r])=some (s',h3)) (hf3:h3.cell fb=some rows) (h1:s'.one=true) (hc1:s'.cells=[s']):
  aj Try.prog po fPu [.ptr mb 0 0,.agg r] h=some (.inl (.tup []),h3.set fb (some (rows.set k (row.set 6 s')))):=by
 have hkl:k<rows.length:=(List.getElem?_eq_some_iff.1 hrow).1
 have hst:stA row 6 [s']=row.set 6 s':=by
  match row,hlr with
  | [a,b,c,d,e,f,g,i,j,l],_=>rfl
 have hv:GI [.ptr mb 0 0,.agg r] h=some (h3.set fb (some (rows.set k (row.set 6 s')))):=by
  simp only[GI,hm,Option.bind_some,hf,Nat.add_sub_cancel,hrow,hs,ha,Option.map_some]
 have hac:AC Try.prog fPu [.ptr mb 0 0,.agg r] h (.inl (.tup []),h3.set fb (some (rows.set k (row.set 6 s')))):=by
  have p0:=mM.start (po:=po) (h:=h) LG KF O3 (N7 (.ptr mb 0 0) (.agg r))
  have p1:=p0.next (nv:=3) (x:= .halt [.code (cR cPu)]) (V':=[.ptr mb 0 0,.agg r,.ptr h.n 0 0]) (h3:=h.push [r]) pok MX (bO LF) MV K3 (by
   unfold HZ
   have hb:= @DL (aj (Try.prog) po) 3
   simp only[sim,ag,Nat.reduceAdd,Nat.reduceSub,List.replicate,reduceCtorEq,Nat.reduceLeDiff,Nat.reduceLT,aa,hr.1,hr.2])
  have hmn1:(h.push [r]).cell mb=some [[bx,.msl fb 0 (k+1) tFr,lf]]:=(hU (by omega)).trans hm
  have hmn2:((h.push [r]).push [r]).cell mb=some [[bx,.msl fb 0 (k+1) tFr,lf]]:=(hU (by rw[aL];omega)).trans hmn1
  have hf1:(h.push [r]).cell fb=some rows:=(hU (by omega)).trans hf
  have hf2:((h.push [r]).push [r]).cell fb=some rows:=(hU (by rw[aL];omega)).trans hf1
  have t1:=qh hmn1 hk
  have t2:=qh hmn2 hk
  have fs1:aH 6 (.ptr fb k 0)=some (.ptr fb k 6):=rfl
  have ld1:∀ {x:AH} {n:Nat},x.cell fb=some rows→aC false n x (.ptr fb k 6)=some s:=fun{x n} hx=>by
   rw[bB,hx,Option.bind_some,hrow,Option.bind_some,fA]
   exact hs
  have st:aI 1 h3 (.ptr fb k 6) s'=some (h3.set fb (some (rows.set k (row.set 6 s')))):=by
   rw[bk (es:=rows) (e:=row) hf3 hrow (by rw[hc1];simpa using h1) (by rw[hc1];rfl) (by omega),hc1,hst]
  have run:∀ is,is=wP∨is=wZ∨is=wW→aq (aj Try.prog po) 3 [.ops is,.halt []] [.ptr mb 0 0,.agg r,.ptr h.n 0 0] [] (h.push [r])=some (.halt [],[.ptr mb 0 0,.agg r,.ptr h.n 0 0],h3.set fb (some (rows.set k (row.set 6 s')))):=by
   have q0:(h.push [r]).cell h.n=some [r]:=aE
   have q1:((h.push [r]).push [r]).cell h.n=some [r]:=(hU (by rw[aL];omega)).trans aE
   intro is his
   rcases his with rfl | rfl | rfl
   ·unfold wP
    simp only[sim,ag,Nat.reduceAdd,Nat.reduceSub,List.replicate,reduceCtorEq,Nat.reduceLeDiff,Nat.reduceLT,aa,az,Gv,t1,t2,hr.1,hr.2,hf1,hf2,hrow,hs,ha,h1,hc1,q0,q1,ld1 hf2,st]
   ·unfold wZ
    simp only[sim,ag,Nat.reduceAdd,Nat.reduceSub,List.replicate,reduceCtorEq,Nat.reduceLeDiff,Nat.reduceLT,aa,az,t1,t2,hr.1,hr.2,hf1,hf2,hrow,hs,ha,h1,hc1,q0,q1,ld1 hf2,st]
   ·unfold wW
    simp only[sim,ag,Nat.reduceAdd,Nat.reduceSub,List.replicate,reduceCtorEq,Nat.reduceLeDiff,Nat.reduceLT,aa,az,t1,t2,hr.1,hr.2,hf1,hf2,hrow,hs,ha,h1,hc1,q0,q1,ld1 hf1,ld1 hf2,st]
  refine(mM.draw (nv:=3) (V':=[.ptr mb 0 0,.agg r,.ptr h.n 0 0]) pok Mx p1 K4 (bO LF) O0 fun L hL=> ?_).ret LG Nf rfl
  have e31:∃ e∈(opI puO 3).after,Region.binds .any e=true∧e.on=1:=by
   have:=OC
   rw[List.any_eq_true]at this
   obtain⟨e,e1,e2⟩:=this
   simp only[Bool.and_eq_true,beq_iff_eq]at e2
   exact⟨e,by simpa using e1,e2.1,e2.2⟩
  have hsz:(mp puO).size=puO.size:=by simp
  rcases lZ (x:=8) (y:=1) (by decide) (by rw[Cz];decide) hL hsz (eh _) (eh _)with o1 | o1
  ·rcases lZ (x:=8) (y:=3) (by decide) (by rw[Cz];decide) o1 hsz (eh _) (eh _)with o2 | o2
   ·exact⟨_,Nl,wP,(B4 (.inr ⟨rfl,rfl⟩) o2).mono (fun i j hj=>by simp only[List.mem_cons,Prod.mk.injEq,List.not_mem_nil,or_false]at hj;rcases hj with hj | hj | hj | hj | hj;exact .inl (.inl (.inl (.inl (.inr hj))));exact .inl (.inl (.inl (.inr hj)));exact .inl (.inl (.inr hj));exact .inl (.inr hj);exact .inr hj),iY OP,OA,run _ (.inl rfl)⟩
   ·exact(Eh (x:=8) (y:=1) (z:=3) (.inl (.inr ⟨rfl,rfl⟩)) (.inr ⟨rfl,rfl⟩) e31 (by rw[Cz];decide) o2 hsz (eh _) (eh _) (eh _)).elim
  ·rcases lZ (x:=8) (y:=3) (by decide) (by rw[Cz];decide) o1 hsz (eh _) (eh _)with o2 | o2
   ·exact⟨_,MZ,wZ,(B4 (.inr ⟨rfl,rfl⟩) o2).mono (fun i j hj=>by simp only[List.mem_cons,Prod.mk.injEq,List.not_mem_nil,or_false]at hj;rcases hj with hj | hj | hj | hj | hj;exact .inl (.inl (.inl (.inl (.inr hj))));exact .inl (.inl (.inl (.inr hj)));exact .inl (.inl (.inr hj));exact .inl (.inr hj);exact .inr hj),iY On,OG,run _ (.inr (.inl rfl))⟩
   ·exact⟨_,Nd,wW,o2.mono (fun i j hj=>by simp only[List.mem_cons,Prod.mk.injEq,List.mem_singleton,List.not_mem_nil,or_false]at hj;rcases hj with hj | hj;exact .inl (.inr hj);exact .inr hj),iY N2,Od,run _ (.inr (.inr rfl))⟩
 have hx:po.ext fPu=some CE:=by
  show qc fPu=_
  unfold qc
  rw[if_neg (by decide),if_pos rfl]
 unfold aj
 rw[hx]
 simp only[CE,hv]
 rw[if_pos hac]
def jz:List RS:=[(.ops [(.i .l (.mv (.v 4))),(.i .l (.fad 2 (.v 2))),(.i .l (.load false 1 (.l 0))),(.i .l (.len false (some 29) (.l 0))),(.i .l (.bin (.int .i64) .lss (.l 3) (.l 0))),(.i .l (.mv (.l 0))),(.g (.l 0) true .l (.mv (.v 1))),(.g (.l 1) true .l (.bin (.int .i64) .geq (.l 0) (.c (.int .i64 0)))),(.i (.v 5) (.pick (.l 2) (.l 0) (.c (.bool false))))]),(.cond (.v 5) [] [(.exit 0)]),(.block 1 [(.ops [(.i .l (.fad 2 (.v 2))),(.i .l (.load false 1 (.l 0))),(.i .l (.mv (.v 4))),(.i .l (.ixa (some 29) none (.l 1) (.l 0))),(.i .l (.load true 3 (.l 0))),(.i .l (.mv (.v 1))),(.i .l (.call (.c (.fn 49 [] [])) [(.l 1),(.l 0)])),(.i (.v 1) (.mv (.l 0)))])]),(.ops [(.i .l (.mv (.v 4))),(.i .l (.bin (.int .i64) .add (.l 0) (.c (.int .i64 1)))),(.i (.v 4) (.mv (.l 0)))])]
def Af:List RS:=[(.ops [(.i (.v 2) (.box 3 (.v 0))),(.i (.v 3) (.mv (.c (.int .i64 0))))]),(.ops [(.i .l (.mv (.v 1))),(.i .l (.bin (.int .i64) .sub (.l 0) (.c (.int .i64 1)))),(.i (.v 1) (.mv (.l 0)))]),(.ops [(.i (.v 4) (.mv (.c (.int .i64 0))))]),(.block 0 [(.loop jz)]),(.ops [(.i .l (.mv (.v 1))),(.i (.v 3) (.mv (.l 0)))]),.ret]
theorem GM:FnR Try.prog po 49 2 6 [0,1,2,4,5,16] Af [(.v 3)] true:=⟨_,_,Try.func49,rfl,rfl,by kernel_rfl,by kernel_rfl,by kernel_rfl,by kernel_rfl,by kernel_rfl⟩
def ph:List RS:=[(.ops [(.i (.v 1) (.box 3 (.v 0))),(.i (.v 2) (.mv (.c (.int .i64 0))))]),(.ops [(.i .l (.load true 3 (.v 1))),(.i .l (.call (.c (.fn 49 [] [])) [(.l 0),(.c (.int .i64 40))])),(.i (.v 3) (.bin (.int .i64) .lss (.l 0) (.c (.int .i64 0))))]),(.cond (.v 3) [(.ops [(.i (.v 2) (.mv (.c (.int .i64 3))))]),.ret] []),(.ops [(.i .l (.load true 3 (.v 1))),(.i .l (.call (.c (.fn 50 [] [])) [(.l 0)])),(.i (.v 2) (.mv (.l 0)))]),.ret]
theorem vj:FnR Try.prog po 18 1 4 [0,1,2,5] ph [(.v 2)] true:=⟨_,_,Try.func18,rfl,rfl,by kernel_rfl,by kernel_rfl,by kernel_rfl,by kernel_rfl,by kernel_rfl⟩
def fW:List RS:=[(.ops [(.i (.v 12) (.bin (.int .i64) .lss (.v 11) (.v 10)))]),(.cond (.v 12) [] [(.exit 1)]),(.block 2 [(.ops [(.i .l (.ixa (some 29) none (.v 9) (.v 11))),(.i .l (.load true 3 (.l 0))),(.i (.v 4) (.alloc [(.int .i64 0),(.int .i64 0),.nils])),(.i .n (.store 3 (.v 4) (.l 0)))]),(.ops [(.i .l (.load true 3 (.v 4))),(.i .l (.call (.c (.fn 50 [] [])) [(.l 0)])),(.i (.v 5) (.mv (.l 0)))]),(.ops [(.i .l (.mv (.v 5))),(.i (.v 13) (.bin (.int .i64) .neq (.l 0) (.c (.int .i64 0))))]),(.cond (.v 13) [(.ops [(.i .l (.mv (.v 5))),(.i (.v 2) (.mv (.l 0)))]),.ret] [])]),(.ops [(.i .l (.bin (.int .i64) .add (.v 11) (.c (.int .i64 1)))),(.i (.v 11) (.mv (.l 0)))])]
def vv:List RS:=[(.ops [(.i (.v 1) (.box 3 (.v 0))),(.i (.v 2) (.mv (.c (.int .i64 0))))]),(.ops [(.i .l (.fad 0 (.v 1))),(.i .l (.load false 1 (.l 0))),(.i .l (.bin (.int .i64) .lss (.l 0) (.c (.int .i64 0)))),(.i .l (.mv (.l 0))),(.g (.l 0) false .l (.fad 0 (.v 1))),(.g (.l 1) false .l (.load false 1 (.l 0))),(.g (.l 2) false .l (.bin (.int .i64) .gtr (.l 0) (.c (.int .i64 5)))),(.i (.v 6) (.pick (.l 3) (.c (.bool true)) (.l 0)))]),(.cond (.v 6) [(.ops [(.i (.v 2) (.mv (.c (.int .i64 2))))]),.ret] []),(.ops [(.i .l (.bsl false 3 [(.int .i64 0)] 1 6 [(0,(.c (.int .i64 0))),(1,(.c (.int .i64 0))),(2,(.c (.int .i64 2))),(3,(.c (.int .i64 1))),(4,(.c (.int .i64 0))),(5,(.c (.int .i64 0)))])),(.i .l (.fad 0 (.v 1))),(.i .l (.load false 1 (.l 0))),(.i .l (.ixa (some 3) none (.l 2) (.l 0))),(.i .l (.load false 1 (.l 0))),(.i (.v 3) (.mv (.l 0)))]),(.block 0 [(.ops [(.i .l (.fad 2 (.v 1))),(.i .l (.load false 1 (.l 0))),(.i .l (.len false (some 29) (.l 0))),(.i .l (.mv (.v 3))),(.i .l (.bin (.int .i64) .neq (.l 1) (.l 0))),(.i .l (.mv (.l 0))),(.g (.l 0) false .l (.mv (.v 3))),(.g (.l 1) false .l (.bin (.int .i64) .eql (.l 0) (.c (.int .i64 2)))),(.g (.l 2) false .l (.mv (.l 0))),(.g (.l 0) true .l (.fad 1 (.v 1))),(.g (.l 1) true .l (.load false 1 (.l 0))),(.g (.l 2) true .l (.bin (.int .i64) .neq (.l 0) (.c (.int .i64 0)))),(.g (.l 6) false .l (.pick (.l 3) (.l 0) (.c (.bool false)))),(.i .l (.pick (.l 7) (.c (.bool true)) (.l 0))),(.i .l (.mv (.l 0))),(.g (.l 0) false .l (.fad 0 (.v 1))),(.g (.l 1) false .l (.load false 1 (.l 0))),(.g (.l 2) false .l (.bin (.int .i64) .eql (.l 0) (.c (.int .i64 0)))),(.g (.l 3) false .l (.mv (.l 0))),(.g (.l 0) true .l (.fad 1 (.v 1))),(.g (.l 1) true .l (.load false 1 (.l 0))),(.g (.l 2) true .l (.bin (.int .i64) .neq (.l 0) (.c (.int .i64 0)))),(.g (.l 7) false .l (.pick (.l 3) (.l 0) (.c (.bool false)))),(.i .l (.pick (.l 8) (.c (.bool true)) (.l 0))),(.i (.v 7) (.mv (.l 0)))]),(.cond (.v 7) [(.ops [(.i (.v 2) (.mv (.c (.int .i64 5))))]),.ret] [(.ops [(.i .l (.fad 0 (.v 1))),(.i .l (.load false 1 (.l 0))),(.i .l (.bin (.int .i64) .geq (.l 0) (.c (.int .i64 3)))),(.i .l (.mv (.l 0))),(.g (.l 0) true .l (.fad 1 (.v 1))),(.g (.l 1) true .l (.load false 1 (.l 0))),(.g (.l 2) true .l (.bin (.int .i64) .lss (.l 0) (.c (.int .i64 0)))),(.i .l (.pick (.l 3) (.l 0) (.c (.bool false)))),(.i (.v 8) (.mv (.l 0)))]),(.cond (.v 8) [(.ops [(.i (.v 2) (.mv (.c (.int .i64 1))))]),.ret] [])])]),(.ops [(.i .l (.fad 2 (.v 1))),(.i (.v 9) (.load false 1 (.l 0))),(.i (.v 10) (.len false (some 29) (.v 9))),(.i (.v 11) (.mv (.c (.int .i64 0))))]),(.block 1 [(.loop fW)]),(.ops [(.i (.v 2) (.mv (.c (.int .i64 0))))]),.ret]
theorem D0:FnR Try.prog po 50 1 14 [0,1,2,3,5,6,14,20,45,55,56,57,58,64] vv [(.v 2)] true:=⟨_,_,Try.func50,rfl,rfl,by kernel_rfl,by kernel_rfl,by kernel_rfl,by kernel_rfl,by kernel_rfl⟩
def ki:List RS:=[(.ops [(.i (.v 8) (.bin (.int .i64) .lss (.v 7) (.v 6)))]),(.cond (.v 8) [] [(.exit 0)]),(.block 1 [(.ops [(.i .l (.ixa (some 29) none (.v 5) (.v 7))),(.i .l (.load true 3 (.l 0))),(.i (.v 4) (.alloc [(.int .i64 0),(.int .i64 0),.nils])),(.i .n (.store 3 (.v 4) (.l 0)))]),(.ops [(.i .l (.fad 2 (.v 3))),(.i .l (.load false 1 (.l 0))),(.i .l (.load true 3 (.v 4))),(.i .l (.call (.c (.fn 46 [] [])) [(.l 0)])),(.ck [⟨none,false,1,(.l 3),(.l 2)⟩]),(.i .l (.bsl false 29 [(.int .i64 0),(.int .i64 0),.nils] 3 1 [(0,(.l 0))])),(.ck [⟨none,false,1,(.l 4),(.l 3)⟩]),(.i .l (.app false 29 (.l 3) (.l 0))),(.i .l (.fad 2 (.v 3))),(.i .n (.store 1 (.l 0) (.l 1)))])]),(.ops [(.i .l (.bin (.int .i64) .add (.v 7) (.c (.int .i64 1)))),(.i (.v 7) (.mv (.l 0)))])]
def Dj:List RS:=[(.ops [(.i (.v 1) (.box 3 (.v 0))),(.i (.v 2) (.alloc [(.int .i64 0),(.int .i64 0),.nils]))]),(.ops [(.i .l (.fad 0 (.v 1))),(.i .l (.load false 1 (.l 0))),(.i .l (.fad 1 (.v 1))),(.i .l (.load false 1 (.l 0))),(.i .l (.build [(.int .i64 0),(.int .i64 0),.nils] [(0,1),(1,1),(2,1)] [(0,(.l 2)),(1,(.l 0))])),(.i (.v 3) (.alloc [(.int .i64 0),(.int .i64 0),.nils])),(.i .n (.store 3 (.v 3) (.l 0)))]),(.ops [(.i .l (.fad 2 (.v 1))),(.i (.v 5) (.load false 1 (.l 0))),(.i (.v 6) (.len false (some 29) (.v 5))),(.i (.v 7) (.mv (.c (.int .i64 0))))]),(.block 0 [(.loop ki)]),(.ops [(.i .l (.load true 3 (.v 3))),(.i .n (.store 3 (.v 2) (.l 0)))]),.ret]
theorem Jx:FnR Try.prog po 46 1 9 [0,1,2,3,5,12,13,14,15] Dj [(.cell true 3 2)] true:=⟨_,_,Try.func46,rfl,rfl,by kernel_rfl,by kernel_rfl,by kernel_rfl,by kernel_rfl,by kernel_rfl⟩
def ju:List RS:=[(.ops [(.i (.v 9) (.bin (.int .i64) .lss (.v 8) (.v 7)))]),(.cond (.v 9) [] [(.exit 0)]),(.block 1 [(.ops [(.i .l (.ixa (some 29) none (.v 6) (.v 8))),(.i .l (.load true 3 (.l 0))),(.i (.v 4) (.alloc [(.int .i64 0),(.int .i64 0),.nils])),(.i .n (.store 3 (.v 4) (.l 0)))]),(.ops [(.i .l (.mv (.v 3))),(.i .l (.load true 3 (.v 4))),(.i .l (.call (.c (.fn 131 [] [])) [(.l 0)])),(.i .l (.app false 3 (.l 2) (.l 0))),(.i (.v 3) (.mv (.l 0)))])]),(.ops [(.i .l (.bin (.int .i64) .add (.v 8) (.c (.int .i64 1)))),(.i (.v 8) (.mv (.l 0)))])]
def xW:List RS:=[(.ops [(.i (.v 1) (.box 3 (.v 0))),(.i (.v 2) (.mv (.c .nils)))]),(.ops [(.i (.v 3) (.mv (.c .nils)))]),(.ops [(.i .l (.fad 0 (.v 1))),(.i .l (.load false 1 (.l 0))),(.i (.v 5) (.bin (.int .i64) .eql (.l 0) (.c (.int .i64 4))))]),(.cond (.v 5) [(.ops [(.i .l (.mv (.v 3))),(.i .l (.fad 1 (.v 1))),(.i .l (.load false 1 (.l 0))),(.i .l (.bsl false 3 [(.int .i64 0)] 1 1 [(0,(.l 0))])),(.i .l (.app false 3 (.l 3) (.l 0))),(.i (.v 3) (.mv (.l 0)))])] []),(.ops [(.i .l (.fad 2 (.v 1))),(.i (.v 6) (.load false 1 (.l 0))),(.i (.v 7) (.len false (some 29) (.v 6))),(.i (.v 8) (.mv (.c (.int .i64 0))))]),(.block 0 [(.loop ju)]),(.ops [(.i .l (.mv (.v 3))),(.i (.v 2) (.mv (.l 0)))]),.ret]
theorem GO:FnR Try.prog po 131 1 10 [0,1,2,3,5,8,15,16,17,18] xW [(.v 2)] true:=⟨_,_,Try.func131,rfl,rfl,by kernel_rfl,by kernel_rfl,by kernel_rfl,by kernel_rfl,by kernel_rfl⟩
def uN:List RS:=[(.ops [(.i (.v 1) (.box 3 (.v 0))),(.i (.v 2) (.mv (.c (.bool false))))]),(.ops [(.i .l (.fad 0 (.v 1))),(.i .l (.load false 1 (.l 0))),(.i .l (.bin (.int .i64) .eql (.l 0) (.c (.int .i64 5)))),(.i .l (.mv (.l 0))),(.g (.l 0) false .l (.fad 2 (.v 1))),(.g (.l 1) false .l (.load false 1 (.l 0))),(.g (.l 2) false .l (.call (.c (.fn 139 [] [])) [(.l 0),(.c (.fn 130 [] []))])),(.i .l (.pick (.l 3) (.c (.bool true)) (.l 0))),(.i (.v 2) (.mv (.l 0)))]),.ret]
theorem EZ:FnR Try.prog po 130 1 3 [0,1,2] uN [(.v 2)] true:=⟨_,_,Try.func130,rfl,rfl,by kernel_rfl,by kernel_rfl,by kernel_rfl,by kernel_rfl,by kernel_rfl⟩
def ns:List RS:=[(.ops [(.i (.v 2) (.mv (.c (.bool false))))]),(.ops [(.i .l (.mv (.v 0))),(.i .l (.mv (.v 1))),(.i .l (.call (.c (.fn 143 [] [])) [(.l 1),(.l 0)])),(.i .l (.bin (.int .i64) .geq (.l 0) (.c (.int .i64 0)))),(.i (.v 2) (.mv (.l 0)))]),.ret]
theorem xf:FnR Try.prog po 139 2 3 [0,1,4] ns [(.v 2)] true:=⟨_,_,Try.func139,rfl,rfl,by kernel_rfl,by kernel_rfl,by kernel_rfl,by kernel_rfl,by kernel_rfl⟩
def iC:List RS:=[(.ops [(.i (.v 6) (.bin (.int .i64) .lss (.v 5) (.v 4)))]),(.cond (.v 6) [] [(.exit 0)]),(.block 1 [(.ops [(.i .l (.mv (.v 5))),(.i (.v 3) (.mv (.l 0)))]),(.ops [(.i .l (.mv (.v 1))),(.i .l (.mv (.v 0))),(.i .l (.mv (.v 3))),(.i .l (.ixa (some 29) none (.l 1) (.l 0))),(.i .l (.load true 3 (.l 0))),(.i (.v 7) (.call (.l 4) [(.l 0)]))]),(.cond (.v 7) [(.ops [(.i .l (.mv (.v 3))),(.i (.v 2) (.mv (.l 0)))]),.ret] [])]),(.ops [(.i .l (.bin (.int .i64) .add (.v 5) (.c (.int .i64 1)))),(.i (.v 5) (.mv (.l 0)))])]
def vn:List RS:=[(.ops [(.i (.v 2) (.mv (.c (.int .i64 0))))]),(.ops [(.i .l (.mv (.v 0))),(.i (.v 4) (.len false (some 29) (.l 0))),(.i (.v 5) (.mv (.c (.int .i64 0))))]),(.block 0 [(.loop iC)]),(.ops [(.i (.v 2) (.mv (.c (.int .i64 (-1)))))]),.ret]
theorem EX:FnR Try.prog po 143 2 8 [0,1,4,5,7,8,9,16] vn [(.v 2)] true:=⟨_,_,Try.func143,rfl,rfl,by kernel_rfl,by kernel_rfl,by kernel_rfl,by kernel_rfl,by kernel_rfl⟩
def sa:List RS:=[(.ops [(.i (.v 2) (.box 3 (.v 0))),(.i (.v 3) (.box 3 (.v 1))),(.i (.v 4) (.mv (.c (.bool false))))]),(.ops [(.i .l (.fad 0 (.v 2))),(.i .l (.load false 1 (.l 0))),(.i .l (.fad 0 (.v 3))),(.i .l (.load false 1 (.l 0))),(.i .l (.bin (.int .i64) .eql (.l 2) (.l 0))),(.i .l (.mv (.l 0))),(.g (.l 0) true .l (.fad 1 (.v 2))),(.g (.l 1) true .l (.load false 1 (.l 0))),(.g (.l 2) true .l (.fad 1 (.v 3))),(.g (.l 3) true .l (.load false 1 (.l 0))),(.g (.l 4) true .l (.bin (.int .i64) .eql (.l 2) (.l 0))),(.i .l (.pick (.l 5) (.l 0) (.c (.bool false)))),(.i .l (.mv (.l 0))),(.g (.l 0) true .l (.fad 2 (.v 2))),(.g (.l 1) true .l (.load false 1 (.l 0))),(.g (.l 2) true .l (.fad 2 (.v 3))),(.g (.l 3) true .l (.load false 1 (.l 0))),(.g (.l 4) true .l (.call (.c (.fn 29 [] [])) [(.l 2),(.l 0)])),(.i .l (.pick (.l 5) (.l 0) (.c (.bool false)))),(.i (.v 4) (.mv (.l 0)))]),.ret]
theorem AX:FnR Try.prog po 19 2 5 [0,1,2,3,4] sa [(.v 4)] true:=⟨_,_,Try.func19,rfl,rfl,by kernel_rfl,by kernel_rfl,by kernel_rfl,by kernel_rfl,by kernel_rfl⟩
def fK:List RS:=[(.ops [(.i .l (.mv (.v 3))),(.i .l (.mv (.v 0))),(.i .l (.len false (some 29) (.l 0))),(.i (.v 5) (.bin (.int .i64) .lss (.l 2) (.l 0)))]),(.cond (.v 5) [] [(.exit 0)]),(.block 1 [(.ops [(.i .l (.mv (.v 0))),(.i .l (.mv (.v 3))),(.i .l (.ixa (some 29) none (.l 1) (.l 0))),(.i .l (.load true 3 (.l 0))),(.i .l (.mv (.v 1))),(.i .l (.mv (.v 3))),(.i .l (.ixa (some 29) none (.l 1) (.l 0))),(.i .l (.load true 3 (.l 0))),(.i .l (.call (.c (.fn 19 [] [])) [(.l 4),(.l 0)])),(.i (.v 6) (.un .not (.l 0)))]),(.cond (.v 6) [(.ops [(.i (.v 2) (.mv (.c (.bool false))))]),.ret] [])]),(.ops [(.i .l (.mv (.v 3))),(.i .l (.bin (.int .i64) .add (.l 0) (.c (.int .i64 1)))),(.i (.v 3) (.mv (.l 0)))])]
def kY:List RS:=[(.ops [(.i (.v 2) (.mv (.c (.bool false))))]),(.ops [(.i .l (.mv (.v 0))),(.i .l (.len false (some 29) (.l 0))),(.i .l (.mv (.v 1))),(.i .l (.len false (some 29) (.l 0))),(.i (.v 4) (.bin (.int .i64) .neq (.l 2) (.l 0)))]),(.cond (.v 4) [(.ops [(.i (.v 2) (.mv (.c (.bool false))))]),.ret] []),(.ops [(.i (.v 3) (.mv (.c (.int .i64 0))))]),(.block 0 [(.loop fK)]),(.ops [(.i (.v 2) (.mv (.c (.bool true))))]),.ret]
theorem pT:FnR Try.prog po 29 2 7 [0,1,4,5,10,14,26] kY [(.v 2)] true:=⟨_,_,Try.func29,rfl,rfl,by kernel_rfl,by kernel_rfl,by kernel_rfl,by kernel_rfl,by kernel_rfl⟩
theorem yR {x y:VD} {i:Nat} (h:x.l[i]? =some y):bE (x.l.take (i+1))=bE (x.l.take i)+y.size∧bE (x.l.take (i+1))≤bE x.l:=by
 have e:=kc h
 constructor
 ·rw[e,gH,Aq]
 ·have:=gH (x.l.take (i+1)) (x.l.drop (i+1))
  rw[List.take_append_drop]at this
  omega
theorem tY (l:List VD) (i:Nat):bE (l.take i)≤bE l:=by
 have:=gH (l.take i) (l.drop i)
 rw[List.take_append_drop]at this
 omega
theorem FR (l:List VD) {i:Nat} (hi:i<l.length):i≤bE (l.take i):=by
 have:=mT (l.take i)
 rw[List.length_take]at this
 omega
theorem iS {l:List VD} {i:Nat} {y:VD} (h:l[i]? =some y):y∈l:=List.mem_of_getElem? h
theorem lE {l:List VD} {i:Nat} (h:i<l.length):∃ y,l[i]? =some y:=⟨_,List.getElem?_eq_getElem h⟩
section
variable {h:AH}
def jR (left:Int) (n:Nat):Int:=if(n:Int)≤left then left - n else -1
theorem Eq:∀ (N:Nat) (x:VD),SizeOf.sizeOf x≤N→∀ (r:List AV) (h:AH) (left:Int),VaA x r→0≤left→left≤100000→
  aj Try.prog po 49 [.agg r,.int .i64 left] h=some (.inl (.int .i64 (jR left x.size)),h):=by
 intro N
 induction N with
 | zero=>intro x hx;have:=x.so_pos;omega
 | succ N ih=>
   intro x hx r h left he h0 h1
   obtain⟨v,es,rfl,hsl,hv,hn,hix⟩:=he.facts
   have hs:=x.size_eq
   have w1:=w64 (n:=left - 1) (by omega) (by omega)
   refine gt GM rfl fun Q hQ=> ?_;unfold Af
   simp only[sim,ag,Nat.reduceAdd,Nat.reduceSub,List.replicate,reduceCtorEq,Nat.reduceLeDiff,Nat.reduceLT,aa,hv,w1]
   refine jh (fun i V h'=>∃ v5 cur,V=[.agg [.int .i64 x.kind,.int .i64 x.n,v],.int .i64 cur,.ptr h.n 0 0,.int .i64 0,.int .i64 (i:Nat),v5]∧h'=h.push [[.int .i64 x.kind,.int .i64 x.n,v]]∧cur=jR left (1+bE (x.l.take i))) x.l.length ⟨_,_,rfl,rfl,?_⟩ ?_ ?_
   ·simp only[jR,List.take_zero,bE]
    split<;>omega
   ·rintro i V h' hi ⟨v5,cur,rfl,rfl,hc⟩ next
    have hlt:(i:Int)<(es.length:Int):=by rw[hn];omega
    by_cases hp:0≤cur
    ·obtain⟨y,hy⟩:=lE hi
     obtain⟨q,i1,d1,x1⟩:=hix i y hy
     obtain⟨z1,z2⟩:=yR hy
     have hil:=FR x.l hi
     have hcl:cur≤100000∧(i:Int)<100000:=by
      rw[hc,jR]at hp ⊢
      split at hp
      ·rename_i hh
       rw[if_pos hh]
       omega
      ·omega
     have hw:=w64 (n:=(i:Int)+1) (by omega) (by omega)
     have e1:=ih y (by have:=VD.lt_mem (iS hy);omega) q (h.push [[.int .i64 x.kind,.int .i64 x.n,v]]) cur x1 hp (by omega)
     rw[aG jz.eq_1]
     simp only[sim,ag,Nat.reduceAdd,Nat.reduceSub,List.replicate,reduceCtorEq,Nat.reduceLeDiff,Nat.reduceLT,aa,hsl.len,hsl.fits,hlt,hp,i1,d1,e1,hw]
     refine next _ _ ⟨_,_,rfl,rfl,?_⟩
     rw[z1,hc]
     rw[hc]at hp
     simp only[jR]at hp ⊢
     repeat' split<;>omega
    ·rw[aG jz.eq_1]
     simp only[sim,ag,Nat.reduceAdd,Nat.reduceSub,List.replicate,reduceCtorEq,Nat.reduceLeDiff,Nat.reduceLT,aa,hsl.len,hsl.fits,hlt,hp]
     refine hQ _ _ _ rfl (by repeat (first | exact af.refl _ | refine af.trans ?_ (af.push _ _) | refine af.trans ?_ (af.fresh _ _))) ?_
     have e:cur=jR left x.size:=by
      rw[hc,jR]at hp
      rw[hc,jR,jR,hs]
      have:=tY x.l i
      split at hp
      ·omega
      ·rename_i hh
       rw[if_neg hh,if_neg (by omega)]
     rw[←e]
     rfl
   ·rintro V h' ⟨v5,cur,rfl,rfl,hc⟩
    have hlt:¬ ((x.l.length:Int)<(es.length:Int)):=by rw[hn];omega
    rw[List.take_length,←hs]at hc
    rw[aG jz.eq_1]
    simp only[sim,ag,Nat.reduceAdd,Nat.reduceSub,List.replicate,reduceCtorEq,Nat.reduceLeDiff,Nat.reduceLT,aa,hsl.len,hsl.fits,hlt]
    exact hQ _ _ _ rfl (by repeat (first | exact af.refl _ | refine af.trans ?_ (af.push _ _) | refine af.trans ?_ (af.fresh _ _))) (by rw[←hc];rfl)
theorem Av {kind n:Int} {len:Nat} (h:dH kind n len=0):len=ji kind∧(kind=0∨kind=1∨kind=2∨kind=3∨kind=4∨kind=5):=by
 unfold dH at h
 split at h
 ·cases h
 ·split at h
  ·cases h
  ·exact⟨by omega,by omega⟩
theorem GQ (kind:Int):ji kind≤2:=by unfold ji;split;omega;split<;>omega
theorem yS {l:List VD} {i:Nat} {y:VD} (h:l[i]? =some y):du (l.drop i)=if y.fault≠0 then y.fault else du (l.drop (i+1)):=by
 obtain⟨hi,rfl⟩:=List.getElem?_eq_some_iff.1 h
 rw[List.drop_eq_getElem_cons hi,fV]
end
def wu:List RS:=[(.ops [(.i (.v 2) (.mv (.c (.bool false))))]),(.ops [(.i .l (.mv (.v 0))),(.i .l (.mv (.v 1))),(.i .l (.bin (.int .i64) .and (.l 1) (.l 0))),(.i .l (.mv (.v 1))),(.i .l (.bin (.int .i64) .eql (.l 1) (.l 0))),(.i (.v 2) (.mv (.l 0)))]),.ret]
theorem DA:FnR Try.prog po 132 2 3 [0,1,4] wu [(.v 2)] true:=⟨_,_,Try.func132,rfl,rfl,by kernel_rfl,by kernel_rfl,by kernel_rfl,by kernel_rfl,by kernel_rfl⟩
def rW:List RS:=[(.ops [(.i (.v 2) (.mv (.v 0)))]),(.cond (.v 2) [(.ops [(.i .l (.mv (.v 1))),(.i .l (.mki 200 (.l 0))),(.i .n (.pan (.l 0)))])] [])]
theorem yO:FnR Try.prog po 142 2 3 [0,1,4] rW [] true:=⟨_,_,Try.func142,rfl,rfl,by kernel_rfl,by kernel_rfl,by kernel_rfl,by kernel_rfl,by kernel_rfl⟩
def kB:List RS:=[(.ops [(.i (.v 9) (.bin (.int .i64) .lss (.v 8) (.v 7)))]),(.cond (.v 9) [] [(.exit 0)]),(.block 1 [(.ops [(.i .l (.ixa (some 3) none (.v 6) (.v 8))),(.i .l (.load false 1 (.l 0))),(.i (.v 3) (.mv (.l 0)))]),(.ops [(.i .l (.mv (.v 0))),(.i .l (.nilc (.l 0))),(.i .l (.fad 0 (.l 0))),(.i .l (.load false 1 (.l 0))),(.i .l (.mv (.v 1))),(.i .l (.mv (.v 3))),(.i .l (.call (.c (.fn 79 [] [])) [(.l 2),(.l 1),(.c (.int .i64 15)),(.l 0)])),(.i .l (.mv (.l 0))),(.i .l (.ext (.l 0) 0)),(.i .l (.ext (.l 1) 1)),(.i (.v 4) (.mv (.l 1))),(.i (.v 5) (.mv (.l 0)))]),(.ops [(.i .l (.mv (.v 5))),(.i .l (.bin (.int .i64) .neq (.l 0) (.c (.int .i64 0)))),(.i .l (.mv (.v 5))),(.i .l (.call (.c (.fn 142 [] [])) [(.l 1),(.l 0)]))]),(.ops [(.i .l (.mv (.v 4))),(.i (.v 1) (.mv (.l 0)))])]),(.ops [(.i .l (.bin (.int .i64) .add (.v 8) (.c (.int .i64 1)))),(.i (.v 8) (.mv (.l 0)))])]
def Dr:List RS:=[(.ops [(.i (.v 2) (.mv (.c (.int .i64 0))))]),(.ops [(.i .l (.mv (.v 0))),(.i .l (.nilc (.l 0))),(.i .l (.fad 1 (.l 0))),(.i (.v 6) (.load false 1 (.l 0))),(.i (.v 7) (.len false (some 3) (.v 6))),(.i (.v 8) (.mv (.c (.int .i64 0))))]),(.block 0 [(.loop kB)]),(.ops [(.i .l (.mv (.v 1))),(.i (.v 2) (.mv (.l 0)))]),.ret]
theorem Ja:FnR Try.prog po 134 2 10 [0,1,4,6,7,8,12,13,14,15] Dr [(.v 2)] false:=⟨_,_,Try.func134,rfl,rfl,by kernel_rfl,by kernel_rfl,by kernel_rfl,by kernel_rfl,by kernel_rfl⟩
def ja:List RS:=[(.ops [(.i (.v 10) (.bin (.int .i64) .lss (.v 9) (.v 8)))]),(.cond (.v 10) [] [(.exit 0)]),(.block 1 [(.ops [(.i .l (.ixa (some 29) none (.v 7) (.v 9))),(.i .l (.load true 3 (.l 0))),(.i (.v 5) (.alloc [(.int .i64 0),(.int .i64 0),.nils])),(.i .n (.store 3 (.v 5) (.l 0)))]),(.ops [(.i .l (.fad 2 (.v 4))),(.i .l (.load false 1 (.l 0))),(.i .l (.mv (.v 0))),(.i .l (.load true 3 (.v 5))),(.i .l (.call (.c (.fn 122 [] [])) [(.l 1),(.l 0)])),(.ck [⟨none,false,1,(.l 4),(.l 3)⟩]),(.i .l (.bsl false 29 [(.int .i64 0),(.int .i64 0),.nils] 3 1 [(0,(.l 0))])),(.ck [⟨none,false,1,(.l 5),(.l 4)⟩]),(.i .l (.app false 29 (.l 4) (.l 0))),(.i .l (.fad 2 (.v 4))),(.i .n (.store 1 (.l 0) (.l 1)))])]),(.ops [(.i .l (.bin (.int .i64) .add (.v 9) (.c (.int .i64 1)))),(.i (.v 9) (.mv (.l 0)))])]
def CA:List RS:=[(.ops [(.i (.v 2) (.box 3 (.v 1))),(.i (.v 3) (.alloc [(.int .i64 0),(.int .i64 0),.nils]))]),(.ops [(.i .l (.fad 0 (.v 2))),(.i .l (.load false 1 (.l 0))),(.i .l (.fad 1 (.v 2))),(.i .l (.load false 1 (.l 0))),(.i .l (.build [(.int .i64 0),(.int .i64 0),.nils] [(0,1),(1,1),(2,1)] [(0,(.l 2)),(1,(.l 0))])),(.i (.v 4) (.alloc [(.int .i64 0),(.int .i64 0),.nils])),(.i .n (.store 3 (.v 4) (.l 0)))]),(.ops [(.i .l (.fad 0 (.v 2))),(.i .l (.load false 1 (.l 0))),(.i (.v 6) (.bin (.int .i64) .eql (.l 0) (.c (.int .i64 4))))]),(.cond (.v 6) [(.ops [(.i .l (.mv (.v 0))),(.i .l (.fad 1 (.v 2))),(.i .l (.load false 1 (.l 0))),(.i .l (.call (.c (.fn 134 [] [])) [(.l 2),(.l 0)])),(.i .l (.fad 1 (.v 4))),(.i .n (.store 1 (.l 0) (.l 1)))])] []),(.ops [(.i .l (.fad 2 (.v 2))),(.i (.v 7) (.load false 1 (.l 0))),(.i (.v 8) (.len false (some 29) (.v 7))),(.i (.v 9) (.mv (.c (.int .i64 0))))]),(.block 0 [(.loop ja)]),(.ops [(.i .l (.load true 3 (.v 4))),(.i .n (.store 3 (.v 3) (.l 0)))]),.ret]
theorem Kg:FnR Try.prog po 122 2 11 [0,1,3,4,5,7,15,22,23,24,25] CA [(.cell true 3 3)] false:=⟨_,_,Try.func122,rfl,rfl,by kernel_rfl,by kernel_rfl,by kernel_rfl,by kernel_rfl,by kernel_rfl⟩
def ky:List RS:=[(.ops [(.i (.v 11) (.bin (.int .i64) .lss (.v 10) (.v 9)))]),(.cond (.v 11) [] [(.exit 0)]),(.block 1 [(.ops [(.i .l (.ixa (some 3) none (.v 8) (.v 10))),(.i .l (.load false 1 (.l 0))),(.i (.v 5) (.mv (.l 0)))]),(.ops [(.i .l (.mv (.v 0))),(.i .l (.mv (.v 5))),(.i .l (.call (.c (.fn 133 [] [])) [(.l 1),(.l 0)])),(.i .l (.call (.c (.fn 132 [] [])) [(.l 0),(.c (.int .i64 4))])),(.i (.v 12) (.un .not (.l 0)))]),(.cond (.v 12) [(.ops [(.i (.v 3) (.mv (.c (.int .i64 9))))]),.ret] [])]),(.ops [(.i .l (.bin (.int .i64) .add (.v 10) (.c (.int .i64 1)))),(.i (.v 10) (.mv (.l 0)))])]
def qp:List RS:=[(.ops [(.i (.v 2) (.box 3 (.v 1))),(.i (.v 3) (.mv (.c (.int .i64 0))))]),(.ops [(.i .l (.load true 3 (.v 2))),(.i .l (.call (.c (.fn 18 [] [])) [(.l 0)])),(.i (.v 4) (.mv (.l 0)))]),(.ops [(.i .l (.mv (.v 4))),(.i (.v 6) (.bin (.int .i64) .neq (.l 0) (.c (.int .i64 0))))]),(.cond (.v 6) [(.ops [(.i .l (.mv (.v 4))),(.i (.v 3) (.mv (.l 0)))]),.ret] []),(.ops [(.i .l (.load true 3 (.v 2))),(.i (.v 7) (.call (.c (.fn 130 [] [])) [(.l 0)]))]),(.cond (.v 7) [(.ops [(.i (.v 3) (.mv (.c (.int .i64 9))))]),.ret] []),(.ops [(.i .l (.load true 3 (.v 2))),(.i (.v 8) (.call (.c (.fn 131 [] [])) [(.l 0)])),(.i (.v 9) (.len false (some 3) (.v 8))),(.i (.v 10) (.mv (.c (.int .i64 0))))]),(.block 0 [(.loop ky)]),(.ops [(.i (.v 3) (.mv (.c (.int .i64 0))))]),.ret]
theorem xe:FnR Try.prog po 120 2 13 [0,1,3,4,5,7,11,14,16,17,18,19,26] qp [(.v 3)] true:=⟨_,_,Try.func120,rfl,rfl,by kernel_rfl,by kernel_rfl,by kernel_rfl,by kernel_rfl,by kernel_rfl⟩
open Go.RowKit
structure Hx where
 (d a b c e:Int)
def ae.step (G:ae) (x:Hx):ae×Int×Int:=
 if x.d=0 then G.gate else if x.d=1 then((G.cut x.a).1,0,(G.cut x.a).2)else if x.d=2 then G.cellC x.a x.b x.c else if x.d=3 then G.funcC x.a x.e x.b x.c else if x.d=4 then G.derive x.a x.b x.c else(G,0,0)
structure ae.Later (G G':ae):Prop where
 nodes:∃ ext,G'.nodes=G.nodes++ext
 shut:G.shut.length≤G'.shut.length∧∀ k:Nat,G.shut.getD k false=true→G'.shut.getD k false=true
theorem ae.Later.refl (G:ae):G.Later G:=⟨⟨[],by simp⟩,Nat.le_refl _,fun _=>id⟩
theorem ae.Later.trans {A B C:ae} (x:A.Later B) (y:B.Later C):A.Later C:=by
 obtain⟨e1,h1⟩:=x.nodes
 obtain⟨e2,h2⟩:=y.nodes
 exact⟨⟨e1++e2,by rw[h2,h1,List.append_assoc]⟩,Nat.le_trans x.shut.1 y.shut.1,fun k hk=>y.shut.2 k (x.shut.2 k hk)⟩
theorem uV (G:ae) (n:aV):(∃ ext:List aV,(G.add n).1.nodes=G.nodes++ext∧ext.length≤1)∧(G.add n).1.shut=G.shut:=by
 unfold ae.add
 split
 ·exact⟨⟨[],by simp,by simp⟩,rfl⟩
 split
 ·exact⟨⟨[],by simp,by simp⟩,rfl⟩
 split
 ·exact⟨⟨[],by simp,by simp⟩,rfl⟩
 ·exact⟨⟨[n],rfl,by simp⟩,rfl⟩
theorem qW (G:ae):G.gate.1.nodes=G.nodes∧G.shut.length≤G.gate.1.shut.length∧∀ k:Nat,G.shut.getD k false=true→G.gate.1.shut.getD k false=true:=by
 unfold ae.gate
 split
 ·exact⟨rfl,Nat.le_refl _,fun _=>id⟩
 ·refine⟨rfl,by simp,fun k hk=> ?_⟩
  have hlt:k<G.shut.length:=by
   rcases Nat.lt_or_ge k G.shut.length with h | h
   ·exact h
   ·rw[List.getD,List.getElem?_eq_none h]at hk;cases hk
  simpa[List.getD,List.getElem?_append_left hlt]using hk
theorem uB (G:ae) (k:Int):(G.cut k).1.nodes=G.nodes∧(G.cut k).1.shut.length=G.shut.length∧∀ j:Nat,G.shut.getD j false=true→(G.cut k).1.shut.getD j false=true:=by
 unfold ae.cut
 split
 ·refine⟨rfl,by simp,fun j hj=> ?_⟩
  have hlt:j<G.shut.length:=by
   rcases Nat.lt_or_ge j G.shut.length with h | h
   ·exact h
   ·rw[List.getD,List.getElem?_eq_none h]at hj;cases hj
  simp only[List.getD,List.getElem?_set]
  by_cases e:k.toNat=j
  ·simp[e,hlt]
  ·simpa[e,List.getD]using hj
 ·exact⟨rfl,rfl,fun _=>id⟩
theorem ae.step_nodes (G:ae) (x:Hx):(∃ ext:List aV,(G.step x).1.nodes=G.nodes++ext∧ext.length≤1)∧G.shut.length≤(G.step x).1.shut.length∧∀ k:Nat,G.shut.getD k false=true→(G.step x).1.shut.getD k false=true:=by
 have keep:∀ n,(∃ ext:List aV,(G.add n).1.nodes=G.nodes++ext∧ext.length≤1)∧G.shut.length≤(G.add n).1.shut.length∧∀ k:Nat,G.shut.getD k false=true→(G.add n).1.shut.getD k false=true:=fun n=>by
  obtain⟨h1,h2⟩:=uV G n
  rw[h2]
  exact⟨h1,Nat.le_refl _,fun _=>id⟩
 have same:(∃ ext:List aV,G.nodes=G.nodes++ext∧ext.length≤1)∧G.shut.length≤G.shut.length∧∀ k:Nat,G.shut.getD k false=true→G.shut.getD k false=true:=⟨⟨[],by simp,by simp⟩,Nat.le_refl _,fun _=>id⟩
 unfold ae.step
 split
 ·obtain⟨h1,h2,h3⟩:=qW G
  exact⟨⟨[],by simp[h1],by simp⟩,h2,h3⟩
 split
 ·obtain⟨h1,h2,h3⟩:=uB G x.a
  exact⟨⟨[],by simp[h1],by simp⟩,by simp only[h2];exact Nat.le_refl _,h3⟩
 split
 ·unfold ae.cellC
  split
  ·exact keep _
  ·exact same
 split
 ·unfold ae.funcC
  split
  ·exact keep _
  ·exact same
 split
 ·unfold ae.derive
  split
  ·exact keep _
  ·exact same
 ·exact same
theorem ae.step_later (G:ae) (x:Hx):G.Later (G.step x).1:=by
 obtain⟨⟨e,h1,_⟩,h2,h3⟩:=G.step_nodes x
 exact⟨⟨e,h1⟩,h2,h3⟩
theorem ae.path_last {G:ae} (hW:G.Wf):∀ (f:Nat) (i:Int),i.toNat<f→G.has i=true→∃ pre t,G.path i=pre++[t]∧t.parent= -1∧∃ k:Nat,G.nodes[k]? =some t:=by
 intro f
 induction f with
 | zero=>intro i hi;omega
 | succ f ih=>
   intro i hi hh
   have ok:=hW.get hh
   have hget:G.nodes[i.toNat]? =some (G.nodes.getD i.toNat bK):=by
    simp[ae.has]at hh
    have:i.toNat<G.nodes.length:=by omega
    simp[List.getD,this]
   rw[ae.path_yes hW hh]
   by_cases hp:G.has (G.nodes.getD i.toNat bK).parent=true
   ·have hp0:0≤(G.nodes.getD i.toNat bK).parent:=by simp only[ae.has,decide_eq_true_eq]at hp;exact hp.1
    have hp1:=ok.p1
    obtain⟨pre,t,h1,h2,h3⟩:=ih (G.nodes.getD i.toNat bK).parent (by omega) hp
    exact⟨_::pre,t,by rw[h1];rfl,h2,h3⟩
   ·refine⟨[],_,by rw[ae.path_no (by simpa using hp)];rfl,?_,_,hget⟩
    have h0:=ok.p0
    have h1:=ok.p1
    have hi2:i.toNat<G.nodes.length:=(List.getElem?_eq_some_iff.1 hget).1
    simp only[ae.has,decide_eq_true_eq,not_and]at hp
    rcases Int.lt_or_le (G.nodes.getD i.toNat bK).parent 0 with h | h
    ·omega
    ·have:=hp h;omega
theorem ae.target_ok {G:ae} (hW:G.Wf) {i:Int} (hh:G.has i=true):(G.target i).2=true∧(G.target i).1.parent= -1∧((G.target i).1.plugin= -1∧0≤(G.target i).1.cell∧(G.target i).1.cell<12∧(G.target i).1.func=0∨0≤(G.target i).1.plugin∧(G.target i).1.plugin<4∧0≤(G.target i).1.func∧(G.target i).1.func<6∧(G.target i).1.cell=0):=by
 obtain⟨pre,t,h1,h2,k,hk⟩:=ae.path_last hW (i.toNat+1) i (by omega) hh
 have ht:G.target i=(t,true):=by
  unfold ae.target
  rw[h1]
  simp[List.getLastD_eq_getLast?]
 rw[ht]
 exact⟨rfl,h2,(hW.node k t hk).t h2⟩
theorem ae.Later.has {G G':ae} (l:G.Later G') {i:Int} (h:G.has i=true):G'.has i=true∧G'.nodes.getD i.toNat bK=G.nodes.getD i.toNat bK:=by
 obtain⟨e,he⟩:=l.nodes
 simp[ae.has]at h
 have hlt:i.toNat<G.nodes.length:=by omega
 refine⟨by simp[ae.has,he];omega,?_⟩
 rw[he]
 simp[List.getD,List.getElem?_append_left hlt]
theorem ae.Later.path {G G':ae} (l:G.Later G') (hW:G.Wf) (hW':G'.Wf):∀ (f:Nat) (i:Int),i.toNat<f→G.has i=true→G'.path i=G.path i:=by
 intro f
 induction f with
 | zero=>intro i hi;omega
 | succ f ih=>
   intro i hi hh
   obtain⟨hh',hn⟩:=l.has hh
   have ok:=hW.get hh
   rw[ae.path_yes hW hh,ae.path_yes hW' hh',hn]
   congr 1
   by_cases hp:G.has (G.nodes.getD i.toNat bK).parent=true
   ·have hp0:0≤(G.nodes.getD i.toNat bK).parent:=by simp only[ae.has,decide_eq_true_eq]at hp;exact hp.1
    have hp1:=ok.p1
    exact ih _ (by omega) hp
   ·have h0:=ok.p0
    have h1:=ok.p1
    have hi2:i.toNat<G.nodes.length:=by simp[ae.has]at hh;omega
    have hneg:(G.nodes.getD i.toNat bK).parent<0:=by
     simp only[ae.has,decide_eq_true_eq,not_and]at hp
     rcases Int.lt_or_le (G.nodes.getD i.toNat bK).parent 0 with h | h
     ·exact h
     ·have:=hp h;omega
    rw[ae.path_no (G:=G) (by simpa using hp),ae.path_no (G:=G') (by simp only[ae.has,decide_eq_false_iff_not,not_and];intro h;omega)]
theorem ae.Later.closed {G G':ae} (l:G.Later G') {n:aV} (hg:n.gate= -1∨0≤n.gate∧n.gate<G.shut.length) (h:cO G n=true):cO G' n=true:=by
 simp only[cO,ae.isOpen,ae.hasGate,Bool.and_eq_true,decide_eq_true_eq,Bool.not_eq_true',Bool.and_eq_false_iff,decide_eq_false_iff_not,Bool.not_eq_false']at h ⊢
 obtain⟨h0,h1⟩:=h
 refine⟨h0,?_⟩
 rcases hg with hg | hg
 ·omega
 ·rcases h1 with h1 | h1
  ·exact absurd hg h1
  ·exact .inr (l.shut.2 _ h1)
theorem ae.path_ok {G:ae} (hW:G.Wf):∀ (f:Nat) (i:Int),∀ n∈G.pathF f i,gU n.rights=true∧(n.gate= -1∨0≤n.gate∧n.gate<G.shut.length):=by
 intro f
 induction f with
 | zero=>intro i n hn;simp[ae.pathF]at hn
 | succ f ih=>
   intro i n hn
   unfold ae.pathF at hn
   split at hn
   ·rename_i hk
    rcases List.mem_cons.1 hn with rfl | hn
    ·exact⟨(hW.get hk).r,(hW.get hk).g⟩
    ·exact ih _ n hn
   ·simp at hn
theorem qz {G:ae} (hW:G.Wf) (i:Int):∃ x:BitVec 64,G.rights i=x.toInt:=by
 unfold ae.rights
 split
 ·exact⟨0#64,rfl⟩
 ·exact⟨_,Ap _ (fun n hn=>(ae.path_ok hW _ i n hn).1) 15#64⟩
theorem zf {G:ae} {g:Int} (h0:0≤g) (hs:G.shut.getD g.toNat false=true) (n:aV) (hn:n.gate=g):cO G n=true:=by
 simp only[cO,ae.isOpen,hn,Bool.and_eq_true,decide_eq_true_eq,Bool.not_eq_true',Bool.and_eq_false_iff,Bool.not_eq_false']
 exact⟨h0,.inr hs⟩
theorem xh {G:ae} {g:Int} (h0:0≤g) (hs:G.shut.getD g.toNat false=true) {i:Int} (ht:(G.gatesC i).contains g=true):G.rights i=0:=by
 unfold ae.rights
 rw[if_pos]
 right
 have hm:g∈G.gatesC i:=by simpa using ht
 unfold ae.gatesC cQ at hm
 obtain⟨n,hn,rfl⟩:=List.mem_map.1 hm
 have hn':=(List.mem_filter.1 hn).1
 exact List.any_eq_true.2 ⟨n,hn',zf h0 hs n rfl⟩
theorem G8 {G:ae} {g:Int} (h:G.hasGate g=true):(G.cut g).1.shut.getD g.toNat false=true∧(G.cut g).1.nodes=G.nodes∧(G.cut g).2=0∧0≤g:=by
 unfold ae.cut
 rw[if_pos h]
 simp[ae.hasGate]at h
 have hl:g.toNat<G.shut.length:=by omega
 exact⟨by simp[List.getD,hl],rfl,rfl,h.1⟩
structure MF (ks:List Int) (G:ae) (n n':Int):Prop where
 has:G.has n=true
 has':G.has n'=true
 way:∃ C:List aV,G.path n'=C++G.path n∧C.map (·.gate)=ks.reverse∧∀ c∈C,c.rights=15
theorem Fl {G:ae} {n k:Int} (hn:G.has n=true) (h0:(G.derive n 15 k).2.2=0):(G.derive n 15 k).1=⟨G.nodes++[⟨n,k,15,0, -1,0⟩],G.shut⟩∧(G.derive n 15 k).2.1=(G.nodes.length:Int):=by
 unfold ae.derive at h0 ⊢
 rw[if_pos hn]at h0 ⊢
 unfold ae.add at h0 ⊢
 split at h0
 ·cases h0
 ·rename_i h1
  rw[if_neg h1]
  split at h0
  ·cases h0
  ·rename_i h2
   rw[if_neg h2]
   split at h0
   ·cases h0
   ·rename_i h3
    rw[if_neg h3]
    exact⟨rfl,rfl⟩
theorem yn:∀ (ks:List Int) (G:ae) (n:Int),G.Wf→G.has n=true→(cz ks G n).2.2=0→G.Later (cz ks G n).1∧MF ks (cz ks G n).1 n (cz ks G n).2.1
 | [],G,n,hW,hn,h0=>⟨ae.Later.refl G,hn,hn,[],rfl,rfl,fun c hc=>by cases hc⟩
 | k::l,G,n,hW,hn,h0=>by
   simp only[cz]at h0 ⊢
   by_cases hz:(G.derive n 15 k).2.2=0
   ·rw[if_neg (by simp[hz])]at h0 ⊢
    obtain⟨e1,e2⟩:=Fl hn hz
    have hW1:=hW.derive n 15 k
    have hl1:G.Later (G.derive n 15 k).1:=by
     have:=ae.step_later G ⟨4,n,15,k,0⟩
     have e:G.step ⟨4,n,15,k,0⟩=G.derive n 15 k:=by simp[ae.step]
     rwa [e]at this
    have hh1:(G.derive n 15 k).1.has (G.derive n 15 k).2.1=true:=by
     rw[e1,e2]
     simp[ae.has]
     omega
    have hat:(G.derive n 15 k).1.nodes.getD ((G.derive n 15 k).2.1).toNat bK=⟨n,k,15,0, -1,0⟩:=by
     rw[e1,e2]
     simp[List.getD]
    obtain⟨a1,a2⟩:=yn l (G.derive n 15 k).1 (G.derive n 15 k).2.1 hW1 hh1 h0
    have hW2:=ww l (G.derive n 15 k).1 (G.derive n 15 k).2.1 hW1
    refine⟨hl1.trans a1,(a1.has (hl1.has hn).1).1,a2.has',?_⟩
    obtain⟨C,c1,c2,c3⟩:=a2.way
    have hp:=ae.path_yes hW2 a2.has
    rw[(a1.has hh1).2,hat]at hp
    refine⟨C++[⟨n,k,15,0, -1,0⟩],?_,by simp[c2],fun c hc=> ?_⟩
    ·rw[c1,hp]
     simp
    ·rcases List.mem_append.1 hc with hc | hc
     ·exact c3 c hc
     ·simp at hc
      rw[hc]
   ·rw[if_pos hz]at h0
    exact absurd h0 hz
theorem pA (C:List aV):cQ C=(C.map (·.gate)).filter fun k=>decide (0≤k):=by
 unfold cQ
 rw[List.filter_map]
 rfl
theorem MF.gates {ks:List Int} {G:ae} {n n':Int} (r:MF ks G n n'):G.gatesC n'=(ks.reverse.filter fun k=>decide (0≤k))++G.gatesC n:=by
 obtain⟨C,h1,h2, -⟩:=r.way
 unfold ae.gatesC
 rw[h1,pA,List.map_append,List.filter_append,←pA (G.path n),h2]
theorem Pl (x:VD):(id x).kind=x.kind:=rfl
theorem Pj (x:VD):(id x).l=x.l.map id:=by simp
section
variable {h:AH}
theorem Jt (i:Option Nat):∀ (k:Int),(k=0∨k=1∨k=2∨k=3∨k=4∨k=5)→bX (some 3) none (.isl i 3 [[.int .i64 0],[.int .i64 0],[.int .i64 2],[.int .i64 1],[.int .i64 0],[.int .i64 0]]) (.int .i64 k)=some (.ip [.int .i64 (ji k:Nat)] 0):=by
 rintro k (rfl | rfl | rfl | rfl | rfl | rfl)<;>rfl
set_option maxHeartbeats 1000000 in
theorem BP:∀ (N:Nat) (x:VD),SizeOf.sizeOf x≤N→∀ (r:List AV) (h:AH),VaA x r→
  aj Try.prog po 50 [.agg r] h=some (.inl (.int .i64 x.fault),h):=by
 intro N
 induction N with
 | zero=>intro x hx;have:=x.so_pos;omega
 | succ N ih=>
   intro x hx r h he
   obtain⟨v,es,rfl,hsl,hv,hn,hix⟩:=he.facts
   have hfe:=x.fault_eq
   rw[hfe]
   have loop:dH x.kind x.n x.l.length=0→∀ (Q:jE→Prop) (v3 v6 v7 v8:AV),(∀ V h',(fg V h' [.v 2]).map fH=some (.int .i64 (du x.l))→af h h'→Q (some (.ret,V,h')))→
     Q (aq (aj Try.prog po) 14 (.lp fW:: .ss []:: .blk 1::[.ss [.ops [(.i (.v 2) (.mv (.c (.int .i64 0))))],.ret]])
       [.agg [.int .i64 x.kind,.int .i64 x.n,v],.ptr h.n 0 0,.int .i64 0,v3,.junk,.junk,v6,v7,v8,v,.int .i64 es.length,.int .i64 0,.junk,.junk] [] ((h.push [[.int .i64 x.kind,.int .i64 x.n,v]]).fresh 6)):=by
    intro hd Q v3 v6 v7 v8 hQ
    obtain⟨hlen, -⟩:=Av hd
    have hwf:=GQ x.kind
    refine jh (fun i V h'=>∃ v4 v5 v12 v13,V=[.agg [.int .i64 x.kind,.int .i64 x.n,v],.ptr h.n 0 0,.int .i64 0,v3,v4,v5,v6,v7,v8,v,.int .i64 es.length,.int .i64 (i:Nat),v12,v13]∧af h h'∧du (x.l.drop i)=du x.l) x.l.length ⟨_,_,_,_,rfl,(by repeat (first | exact af.refl _ | refine af.trans ?_ (af.push _ _) | refine af.trans ?_ (af.fresh _ _))),rfl⟩ ?_ ?_
    ·rintro i V h' hi ⟨v4,v5,v12,v13,rfl,g,hc⟩ next
     have hlt:(i:Int)<(es.length:Int):=by rw[hn];omega
     obtain⟨y,hy⟩:=lE hi
     obtain⟨q,i1,d1,x1⟩:=hix i y hy
     obtain⟨o1,o2⟩:=x1.one
     have hw:=w64 (n:=(i:Int)+1) (by omega) (by omega)
     have e1:=ih y (by have:=VD.lt_mem (iS hy);omega) q (h'.push [q]) x1
     rw[yS hy]at hc
     by_cases hf:y.fault=0
     ·rw[if_neg (by simp[hf])]at hc
      rw[hf]at e1
      rw[aG fW.eq_1]
      simp only[sim,ag,Nat.reduceAdd,Nat.reduceSub,List.replicate,reduceCtorEq,Nat.reduceLeDiff,Nat.reduceLT,aa,hlt,i1,d1,o1,o2,bv o2,e1,hw]
      exact next _ _ ⟨_,_,_,_,rfl,g.trans (by repeat (first | exact af.refl _ | refine af.trans ?_ (af.push _ _) | refine af.trans ?_ (af.fresh _ _))),hc⟩
     ·rw[if_pos hf]at hc
      rw[aG fW.eq_1]
      simp only[sim,ag,Nat.reduceAdd,Nat.reduceSub,List.replicate,reduceCtorEq,Nat.reduceLeDiff,Nat.reduceLT,aa,hlt,i1,d1,o1,o2,bv o2,e1,hf]
      exact hQ _ _ (by rw[←hc];rfl) (g.trans (by repeat (first | exact af.refl _ | refine af.trans ?_ (af.push _ _) | refine af.trans ?_ (af.fresh _ _))))
    ·rintro V h' ⟨v4,v5,v12,v13,rfl,g,hc⟩
     have hlt:¬ ((x.l.length:Int)<(es.length:Int)):=by rw[hn];omega
     rw[List.drop_length]at hc
     rw[aG fW.eq_1]
     simp only[sim,ag,Nat.reduceAdd,Nat.reduceSub,List.replicate,reduceCtorEq,Nat.reduceLeDiff,Nat.reduceLT,aa,hlt]
     exact hQ _ _ (by rw[←hc];rfl) g
   refine gt D0 rfl fun Q hQ=> ?_;unfold vv
   by_cases hk:x.kind=0∨x.kind=1∨x.kind=2∨x.kind=3∨x.kind=4∨x.kind=5
   ·have wi:=fun i=>Jt i x.kind hk
    have k0:¬ x.kind<0:=by omega
    have k5:¬ 5<x.kind:=by omega
    by_cases hl:(x.l.length:Nat)=ji x.kind
    ·have hl':(es.length:Int)=(ji x.kind:Int):=by rw[hn,hl]
     have hh0:dH x.kind x.n x.l.length=if(x.kind=0∨x.kind=2)∧x.n≠0 then 5 else if 3≤x.kind∧x.n<0 then 1 else 0:=by
      unfold dH
      rw[if_neg (by omega),if_neg (by omega)]
     have L:=loop
     rw[hh0]at L hQ
     rw[hl']at L
     by_cases hz:x.n=0
     ·rcases hk with hk | hk | hk | hk | hk | hk
      all_goals
       rw[hk]at hl' L hQ wi
       simp only[ji,Int.reduceEq,if_false,if_true,Int.cast_ofNat_Int,Int.natCast_zero,Int.natCast_one,hz,not_true,ne_eq,and_false,Int.lt_irrefl]at hl' L hQ wi
       simp only[sim,ag,Nat.reduceAdd,Nat.reduceSub,List.replicate,reduceCtorEq,Nat.reduceLeDiff,Nat.reduceLT,aa,hv,hk,hz,Int.reduceEq,Int.reduceLT,Int.reduceLE,hsl.len,hsl.fits,hl',wi,Int.lt_irrefl]
       exact L trivial _ _ _ _ _ fun V h' e g=>hQ _ _ _ e g rfl
     ·by_cases hng:x.n<0
      all_goals
       rcases hk with hk | hk | hk | hk | hk | hk
       all_goals
        rw[hk]at hl' L hQ wi
        simp only[ji,Int.reduceEq,Int.reduceLE,if_false,if_true,Int.cast_ofNat_Int,Int.natCast_zero,Int.natCast_one,hz,hng,not_true,not_false_eq_true,ne_eq,and_false,and_true,true_or,or_true,false_or,or_false,or_self]at hl' L hQ wi
        simp only[sim,ag,Nat.reduceAdd,Nat.reduceSub,List.replicate,reduceCtorEq,Nat.reduceLeDiff,Nat.reduceLT,aa,hv,hk,hz,hng,Int.reduceEq,Int.reduceLT,Int.reduceLE,hsl.len,hsl.fits,hl',wi]
        first
         | exact hQ _ _ _ rfl (by repeat (first | exact af.refl _ | refine af.trans ?_ (af.push _ _) | refine af.trans ?_ (af.fresh _ _))) rfl
         | exact L trivial _ _ _ _ _ fun V h' e g=>hQ _ _ _ e g rfl
    ·have hh:dH x.kind x.n x.l.length=5:=by
      unfold dH
      rw[if_neg (by omega),if_pos hl]
     have hl':¬ (es.length:Int)=(ji x.kind:Int):=by rw[hn];omega
     rw[hh]at hQ
     simp only[sim,ag,Nat.reduceAdd,Nat.reduceSub,List.replicate,reduceCtorEq,Nat.reduceLeDiff,Nat.reduceLT,aa,hv,k0,k5,hsl.len,hsl.fits,wi,hl']
     exact hQ _ _ _ rfl (by repeat (first | exact af.refl _ | refine af.trans ?_ (af.push _ _) | refine af.trans ?_ (af.fresh _ _))) rfl
   ·have hh:dH x.kind x.n x.l.length=2:=by
     unfold dH
     rw[if_pos (by omega)]
    rw[hh]at hQ
    by_cases k0:x.kind<0
    ·simp only[sim,ag,Nat.reduceAdd,Nat.reduceSub,List.replicate,reduceCtorEq,Nat.reduceLeDiff,Nat.reduceLT,aa,hv,k0]
     exact hQ _ _ _ rfl (by repeat (first | exact af.refl _ | refine af.trans ?_ (af.push _ _) | refine af.trans ?_ (af.fresh _ _))) rfl
    ·have k5:5<x.kind:=by omega
     simp only[sim,ag,Nat.reduceAdd,Nat.reduceSub,List.replicate,reduceCtorEq,Nat.reduceLeDiff,Nat.reduceLT,aa,hv,k0,k5]
     exact hQ _ _ _ rfl (by repeat (first | exact af.refl _ | refine af.trans ?_ (af.push _ _) | refine af.trans ?_ (af.fresh _ _))) rfl
theorem kv {x:VD} {r:List AV} (he:VaA x r):aj Try.prog po 18 [.agg r] h=some (.inl (.int .i64 x.code),h):=by
 obtain⟨o1,o2⟩:=he.one
 have e1:=fun h=>Eq _ x (Nat.le_refl _) r h 40 he (by omega) (by omega)
 have e2:=fun h=>BP _ x (Nat.le_refl _) r h he
 by_cases hs:40<x.size
 ·have e3:jR 40 x.size= -1:=by rw[jR,if_neg (by omega)]
  have e4:x.code=3:=by rw[VD.code,if_pos hs]
  rw[e4]
  simp only[e3]at e1
  refine gt vj rfl fun Q hQ=> ?_;unfold ph
  simp only[sim,ag,Nat.reduceAdd,Nat.reduceSub,List.replicate,reduceCtorEq,Nat.reduceLeDiff,Nat.reduceLT,aa,o1,o2,bv o2,e1,Int.reduceLT]
  exact hQ _ _ _ rfl (by repeat (first | exact af.refl _ | refine af.trans ?_ (af.push _ _) | refine af.trans ?_ (af.fresh _ _))) rfl
 ·have e3:¬ jR 40 x.size<0:=by rw[jR,if_pos (by omega)];omega
  have e4:x.code=x.fault:=by rw[VD.code,if_neg hs]
  rw[e4]
  refine gt vj rfl fun Q hQ=> ?_;unfold ph
  simp only[sim,ag,Nat.reduceAdd,Nat.reduceSub,List.replicate,reduceCtorEq,Nat.reduceLeDiff,Nat.reduceLT,aa,o1,o2,bv o2,e1,e3,e2]
  exact hQ _ _ _ rfl (by repeat (first | exact af.refl _ | refine af.trans ?_ (af.push _ _) | refine af.trans ?_ (af.fresh _ _))) rfl
theorem yf {l l':List VD} {i:Nat} {x y:VD} (h1:l[i]? =some x) (h2:l'[i]? =some y):eU (l.drop i) (l'.drop i)=(mC x y && eU (l.drop (i+1)) (l'.drop (i+1))):=by
 obtain⟨k1,rfl⟩:=List.getElem?_eq_some_iff.1 h1
 obtain⟨k2,rfl⟩:=List.getElem?_eq_some_iff.1 h2
 rw[List.drop_eq_getElem_cons k1,List.drop_eq_getElem_cons k2]
 rfl
theorem wX (l l':List VD) (v w:AV) (hv:∀ h,rn h v l) (hw:∀ h,rn h w l') (hl:l.length≤100000)
  (hc:∀ x∈l,∀ (y:VD) (q q':List AV) (h:AH),VaA x q→VaA y q'→aj Try.prog po 19 [.agg q,.agg q'] h=some (.inl (.bool (mC x y)),h)):
  aj Try.prog po 29 [v,w] h=some (.inl (.bool (eU l l')),h):=by
 have vl:=(hv h).len
 have vf:=(hv h).fits
 have wl:=(hw h).len
 have wf:=(hw h).fits
 cases hd:decide ((l.length:Int)=(l'.length:Int))
 ·rw[EC hd]
  refine gt pT rfl fun Q hQ=> ?_;unfold kY
  simp only[sim,ag,Nat.reduceAdd,Nat.reduceSub,List.replicate,reduceCtorEq,Nat.reduceLeDiff,Nat.reduceLT,aa,vl,vf,wl,wf,hd]
  exact hQ _ _ _ rfl (by repeat (first | exact af.refl _ | refine af.trans ?_ (af.push _ _) | refine af.trans ?_ (af.fresh _ _))) rfl
 ·have hll:l.length=l'.length:=by have:=of_decide_eq_true hd;omega
  refine gt pT rfl fun Q hQ=> ?_;unfold kY
  simp only[sim,ag,Nat.reduceAdd,Nat.reduceSub,List.replicate,reduceCtorEq,Nat.reduceLeDiff,Nat.reduceLT,aa,vl,vf,wl,wf,hd]
  refine jh (fun i V h'=>∃ v4 v5 v6,V=[v,w,.bool false,.int .i64 (i:Nat),v4,v5,v6]∧af h h'∧eU (l.drop i) (l'.drop i)=eU l l') l.length ⟨_,_,_,rfl,af.refl _,rfl⟩ ?_ ?_
  ·rintro i V h' hi ⟨v4,v5,v6,rfl,g,hs⟩ next
   have hlt:(i:Int)<(l.length:Int):=by omega
   have hwi:=w64 (n:=(i:Int)+1) (by omega) (by omega)
   obtain⟨x,hx⟩:=lE hi
   obtain⟨y,hy⟩:=lE (l:=l') (i:=i) (by omega)
   obtain⟨a,q,i1,i2,x1⟩:=(hv h').ix i x hx
   obtain⟨b,q',j1,j2,y1⟩:=(hw h').ix i y hy
   have e1:=hc x (iS hx) y q q' h' x1 y1
   rw[yf hx hy]at hs
   cases hb:mC x y
   ·rw[hb]at e1 hs
    rw[Bool.false_and]at hs
    rw[aG fK.eq_1]
    simp only[sim,ag,Nat.reduceAdd,Nat.reduceSub,List.replicate,reduceCtorEq,Nat.reduceLeDiff,Nat.reduceLT,aa,vl,vf,hlt,i1,i2 _ (af.refl h'),j1,j2 _ (af.refl h'),e1]
    exact hQ _ _ _ rfl g (by rw[←hs];rfl)
   ·rw[hb]at e1 hs
    rw[Bool.true_and]at hs
    rw[aG fK.eq_1]
    simp only[sim,ag,Nat.reduceAdd,Nat.reduceSub,List.replicate,reduceCtorEq,Nat.reduceLeDiff,Nat.reduceLT,aa,vl,vf,hlt,i1,i2 _ (af.refl h'),j1,j2 _ (af.refl h'),e1,hwi]
    exact next _ _ ⟨_,_,_,rfl,g,hs⟩
  ·rintro V h' ⟨v4,v5,v6,rfl,g,hs⟩
   have hlt:¬ ((l.length:Int)<(l.length:Int)):=by omega
   rw[List.drop_length,hll,List.drop_length]at hs
   rw[aG fK.eq_1]
   simp only[sim,ag,Nat.reduceAdd,Nat.reduceSub,List.replicate,reduceCtorEq,Nat.reduceLeDiff,Nat.reduceLT,aa,vl,vf,hlt]
   exact hQ _ _ _ rfl g (by rw[←hs];rfl)
theorem Ll:∀ (N:Nat) (x:VD),SizeOf.sizeOf x≤N→x.size≤100000→∀ (y:VD) (q q':List AV) (h:AH),VaA x q→VaA y q'→
  aj Try.prog po 19 [.agg q,.agg q'] h=some (.inl (.bool (mC x y)),h):=by
 intro N
 induction N with
 | zero=>intro x hx;have:=x.so_pos;omega
 | succ N ih=>
   intro x hx hsz y q q' h hq hq'
   obtain⟨v,es,rfl,hs,hl⟩:=hq.row
   obtain⟨w,es',rfl,hs',hl'⟩:=hq'.row
   have mv:∀ h,rn h v x.l:=fun h=>rn.of hs hl
   have mw:∀ h,rn h w y.l:=fun h=>rn.of hs' hl'
   have hlen:=x.len_size
   have e1:=fun h=>wX (h:=h) x.l y.l v w mv mw (by omega) (fun z hz y q q' h=>ih z (by have:=VD.lt_mem hz;omega) (by have:=VD.size_mem hz;omega) y q q' h)
   have o1:=(mv h).one
   have o2:=(mw h).one
   rw[IS]
   refine gt AX rfl fun Q hQ=> ?_;unfold sa
   cases hk:decide (x.kind=y.kind)
   ·simp only[sim,ag,Nat.reduceAdd,Nat.reduceSub,List.replicate,reduceCtorEq,Nat.reduceLeDiff,Nat.reduceLT,aa,o1,o2,hk]
    exact hQ _ _ _ rfl (by repeat (first | exact af.refl _ | refine af.trans ?_ (af.push _ _) | refine af.trans ?_ (af.fresh _ _))) (by rw[hk];rfl)
   ·cases hn:decide (x.n=y.n)
    ·simp only[sim,ag,Nat.reduceAdd,Nat.reduceSub,List.replicate,reduceCtorEq,Nat.reduceLeDiff,Nat.reduceLT,aa,o1,o2,hk,hn]
     exact hQ _ _ _ rfl (by repeat (first | exact af.refl _ | refine af.trans ?_ (af.push _ _) | refine af.trans ?_ (af.fresh _ _))) (by rw[hk,hn];rfl)
    ·simp only[sim,ag,Nat.reduceAdd,Nat.reduceSub,List.replicate,reduceCtorEq,Nat.reduceLeDiff,Nat.reduceLT,aa,o1,o2,hk,hn,e1]
     exact hQ _ _ _ rfl (by repeat (first | exact af.refl _ | refine af.trans ?_ (af.push _ _) | refine af.trans ?_ (af.fresh _ _))) (by rw[hk,hn];rfl)
def IC (V:List AV):AV:=V.getD 2 .junk
set_option maxHeartbeats 1000000 in
theorem D3:∀ (N:Nat) (x:VD),SizeOf.sizeOf x≤N→x.size≤100000→∀ (r:List AV) (h:AH),VaA x r→
  aj Try.prog po 131 [.agg r] h=some (.inl (cT 3 (bm x.caps)),h):=by
 intro N
 induction N with
 | zero=>intro x hx;have:=x.so_pos;omega
 | succ N ih=>
   intro x hx hsz r h he
   obtain⟨v,es,rfl,hsl,hv,hn,hix⟩:=he.facts
   have hlen:=x.len_size
   have hs:=x.size_eq
   have rest:∀ (Q:jE→Prop) (h0:AH) (acc0:AV) (c0:List Int) (v5:AV),Acc h h0 3 acc0 (bm c0)→af h h0→h.n<h0.n→h0.cell h.n=some [[.int .i64 x.kind,.int .i64 x.n,v]]→c0.length≤1→
     (∀ V h',(fg V h' [.v 2]).map fH=some (IC V)→af h h'→wkA (IC V)=some (cT 3 (bm (c0++dC x.l)))→Q (some (.ret,V,h')))→
     Q (aq (aj Try.prog po) 10 (.lp ju:: .ss []:: .blk 0::[.ss [.ops [(.i .l (.mv (.v 3))),(.i (.v 2) (.mv (.l 0)))],.ret]])
       [.agg [.int .i64 x.kind,.int .i64 x.n,v],.ptr h.n 0 0,.nils,acc0,.junk,v5,v,.int .i64 es.length,.int .i64 0,.junk] [] h0):=by
    intro Q h0 acc0 c0 v5 ha0 g0 hn0 k0 hc0 hQ
    refine jh (fun i V h'=>∃ acc w4 w9,V=[.agg [.int .i64 x.kind,.int .i64 x.n,v],.ptr h.n 0 0,.nils,acc,w4,v5,v,.int .i64 es.length,.int .i64 (i:Nat),w9]∧
     af h h'∧h.n<h'.n∧h'.cell h.n=some [[.int .i64 x.kind,.int .i64 x.n,v]]∧Acc h h' 3 acc (bm (c0++dC (x.l.take i)))) x.l.length ⟨_,_,_,rfl,g0,hn0,k0,by simpa[dC]using ha0⟩ ?_ ?_
    ·rintro i V h' hi ⟨acc,w4,w9,rfl,g,hm,c1,ha⟩ next
     have hlt:(i:Int)<(es.length:Int):=by rw[hn];omega
     obtain⟨y,hy⟩:=lE hi
     obtain⟨q,i1,d1,x1⟩:=hix i y hy
     obtain⟨o1,o2⟩:=x1.one
     have hw:=w64 (n:=(i:Int)+1) (by omega) (by omega)
     have e1:=ih y (by have:=VD.lt_mem (iS hy);omega) (by have:=VD.size_mem (iS hy);omega) q (h'.push [q]) x1
     have cf:=mO (x.l.take i)
     have sl:=tY x.l i
     have cy:=y.caps_few
     have sy:=VD.size_mem (iS hy)
     obtain⟨acc2,h2,e2,a1,a2,a3,a4⟩:=HF (h:=(h'.push [q])) (show Acc h (h'.push [q]) _ acc _ from ha) (g.trans (af.push _ _)) (Jc 3 (bm y.caps)) (FZ _) (by simp only[List.length_map,List.length_append];omega) (by simp only[List.length_map];omega)
     have a1':Acc h h2 3 acc2 (bm (c0++dC (x.l.take (i+1)))):=by
      rw[kc hy,mB,←List.append_assoc]
      simpa[dC]using a1
     rw[aG ju.eq_1]
     simp only[sim,ag,Nat.reduceAdd,Nat.reduceSub,List.replicate,reduceCtorEq,Nat.reduceLeDiff,Nat.reduceLT,aa,c1,hsl.len,hsl.fits,hlt,i1,d1,o1,o2,bv o2,e1,e2,hw]
     exact next _ _ ⟨_,_,_,rfl,a2,by rw[a4];(show _<h'.n+1;omega),by rw[a3];(exact(aN hm).trans c1),a1'⟩
    ·rintro V h' ⟨acc,w4,w9,rfl,g,hm,c1,ha⟩
     have hlt:¬ ((x.l.length:Int)<(es.length:Int)):=by rw[hn];omega
     rw[List.take_length]at ha
     have hwA:=xk ha (fun r hr=>by obtain⟨n,_,rfl⟩:=List.mem_map.1 hr;rfl)
     rw[aG ju.eq_1]
     simp only[sim,ag,Nat.reduceAdd,Nat.reduceSub,List.replicate,reduceCtorEq,Nat.reduceLeDiff,Nat.reduceLT,aa,c1,hsl.len,hsl.fits,hlt]
     exact hQ _ _ rfl g hwA
   rw[x.caps_eq]
   refine gt GO rfl fun Q hQ=> ?_;unfold xW
   by_cases h4:x.kind=4
   ·rw[h4]at rest
    have L:=rest
    obtain⟨acc1,h1,e1,a1,a2,a3,a4⟩:=ml (h0:=h) (h:=h.push [[.int .i64 4,.int .i64 x.n,v]]) (lT h _ 3) (by repeat (first | exact af.refl _ | refine af.trans ?_ (af.push _ _) | refine af.trans ?_ (af.fresh _ _))) (row:=[.int .i64 x.n]) rfl (by simp)
    simp only[jd]at e1
    simp only[sim,ag,Nat.reduceAdd,Nat.reduceSub,List.replicate,reduceCtorEq,Nat.reduceLeDiff,Nat.reduceLT,aa,hv,h4,hsl.len,hsl.fits,e1,a3]
    refine L _ _ _ [x.n] _ a1 a2 (by rw[a4];simp only[aL];omega) (by rw[a3];exact aE) (by simp) fun V h' e g w=>hQ _ _ _ e g ?_
    rw[w]
    simp[h4]
   ·simp only[sim,ag,Nat.reduceAdd,Nat.reduceSub,List.replicate,reduceCtorEq,Nat.reduceLeDiff,Nat.reduceLT,aa,hv,h4,hsl.len,hsl.fits]
    refine rest _ _ _ [] _ (lT _ _ _) (by repeat (first | exact af.refl _ | refine af.trans ?_ (af.push _ _) | refine af.trans ?_ (af.fresh _ _))) (by simp only[aL];omega) aE (by simp) fun V h' e g w=>hQ _ _ _ e g ?_
    rw[w]
    simp[h4]
theorem AM (v:AV) (l:List VD) (hv:∀ h,rn h v l) (hl:l.length≤100000) (g:FuncId) (p:VD→Bool) (hf:∀ y∈l,∀ q h,VaA y q→aj Try.prog po g [.agg q] h=some (.inl (.bool (p y)),h)):
  ∃ n:Int,aj Try.prog po 143 [v,.fn g [] []] h=some (.inl (.int .i64 n),h)∧decide (0≤n)=l.any p:=by
 suffices key:∃ v',aj Try.prog po 143 [v,.fn g [] []] h=some (.inl v',h)∧∃ n:Int,v'= .int .i64 n∧decide (0≤n)=l.any p by
  obtain⟨_,e,n,rfl,h2⟩:=key
  exact⟨n,e,h2⟩
 have vl:=(hv h).len
 have vf:=(hv h).fits
 refine Au EX rfl fun Q hQ=> ?_;unfold vn
 simp only[sim,ag,Nat.reduceAdd,Nat.reduceSub,List.replicate,reduceCtorEq,Nat.reduceLeDiff,Nat.reduceLT,aa,vl,vf]
 refine jh (fun i V h'=>∃ v2 v3 v6 v7,V=[v,.fn g [] [],v2,v3,.int .i64 l.length,.int .i64 (i:Nat),v6,v7]∧af h h'∧(l.drop i).any p=l.any p) l.length ⟨_,_,_,_,rfl,af.refl _,rfl⟩ ?_ ?_
 ·rintro i V h' hi ⟨v2,v3,v6,v7,rfl,g,hc⟩ next
  have hlt:(i:Int)<(l.length:Int):=by omega
  obtain⟨y,hy⟩:=lE hi
  obtain⟨a,q,i1,i2,x1⟩:=(hv h').ix i y hy
  have hw:=w64 (n:=(i:Int)+1) (by omega) (by omega)
  have e1:=hf y (iS hy) q h' x1
  have hd:(l.drop i).any p=(p y || (l.drop (i+1)).any p):=by
   obtain⟨hi',rfl⟩:=List.getElem?_eq_some_iff.1 hy
   rw[List.drop_eq_getElem_cons hi',List.any_cons]
  rw[hd]at hc
  cases hb:p y
  ·rw[hb]at e1 hc
   rw[Bool.false_or]at hc
   rw[aG iC.eq_1]
   simp only[sim,ag,Nat.reduceAdd,Nat.reduceSub,List.replicate,reduceCtorEq,Nat.reduceLeDiff,Nat.reduceLT,aa,az,List.append_nil,hlt,i1,i2 _ (af.refl h'),e1,hw]
   exact next _ _ ⟨_,_,_,_,rfl,g,hc⟩
  ·rw[hb]at e1 hc
   rw[Bool.true_or]at hc
   rw[aG iC.eq_1]
   simp only[sim,ag,Nat.reduceAdd,Nat.reduceSub,List.replicate,reduceCtorEq,Nat.reduceLeDiff,Nat.reduceLT,aa,az,List.append_nil,hlt,i1,i2 _ (af.refl h'),e1]
   exact hQ _ _ _ _ rfl g rfl ⟨i,rfl,by rw[←hc];simp⟩
 ·rintro V h' ⟨v2,v3,v6,v7,rfl,g,hc⟩
  have hlt:¬ ((l.length:Int)<(l.length:Int)):=by omega
  rw[List.drop_length]at hc
  rw[aG iC.eq_1]
  simp only[sim,ag,Nat.reduceAdd,Nat.reduceSub,List.replicate,reduceCtorEq,Nat.reduceLeDiff,Nat.reduceLT,aa,hlt]
  exact hQ _ _ _ _ rfl g rfl ⟨-1,rfl,by rw[←hc];rfl⟩
theorem Bo:∀ (N:Nat) (x:VD),SizeOf.sizeOf x≤N→x.size≤100000→∀ (r:List AV) (h:AH),VaA x r→
  aj Try.prog po 130 [.agg r] h=some (.inl (.bool x.gate),h):=by
 intro N
 induction N with
 | zero=>intro x hx;have:=x.so_pos;omega
 | succ N ih=>
   intro x hx hsz r h he
   obtain⟨v,es,rfl,hs,hl⟩:=he.row
   have mv:∀ h,rn h v x.l:=fun h=>rn.of hs hl
   have hlen:=x.len_size
   have o1:=(mv h).one
   have e1:∀ h,aj Try.prog po 139 [v,.fn 130 [] []] h=some (.inl (.bool (ma x.l)),h):=by
    intro h
    obtain⟨n,e0,e2⟩:=AM (h:=h) v x.l mv (by omega) 130 VD.gate (fun y hy q h hq=>ih y (by have:=VD.lt_mem hy;omega) (by have:=VD.size_mem hy;omega) q h hq)
    rw[pM,←e2]
    refine gt xf rfl fun Q hQ=> ?_;unfold ns
    simp only[sim,ag,Nat.reduceAdd,Nat.reduceSub,List.replicate,reduceCtorEq,Nat.reduceLeDiff,Nat.reduceLT,aa,e0]
    exact hQ _ _ _ rfl (by repeat (first | exact af.refl _ | refine af.trans ?_ (af.push _ _) | refine af.trans ?_ (af.fresh _ _))) rfl
   rw[x.gate_eq]
   refine gt EZ rfl fun Q hQ=> ?_;unfold uN
   cases hk:decide (x.kind=5)
   ·simp only[sim,ag,Nat.reduceAdd,Nat.reduceSub,List.replicate,reduceCtorEq,Nat.reduceLeDiff,Nat.reduceLT,aa,o1,hk,e1]
    exact hQ _ _ _ rfl (by repeat (first | exact af.refl _ | refine af.trans ?_ (af.push _ _) | refine af.trans ?_ (af.fresh _ _))) (by rw[hk];rfl)
   ·simp only[sim,ag,Nat.reduceAdd,Nat.reduceSub,List.replicate,reduceCtorEq,Nat.reduceLeDiff,Nat.reduceLT,aa,o1,hk,e1]
    exact hQ _ _ _ rfl (by repeat (first | exact af.refl _ | refine af.trans ?_ (af.push _ _) | refine af.trans ?_ (af.fresh _ _))) (by rw[hk];rfl)
end
theorem eqF {a n:Nat} (h:a<n):(a=n)=False:=by simp;omega
theorem Pc {a n:Nat} (h:a<n):(n=a)=False:=by simp;omega
theorem wN {e:TypeId} {b n m:Nat} (hm:m≤n):gT (.msl b 0 n e) none (some (.int .i64 (m:Int)))=some (.msl b 0 m e):=by
 simp[gT,loA,hiA,dS,th,hm]
theorem oe {α β:Type} {f:α→β}:Option.map f none=none:=rfl
theorem ny {α β:Type} {f:α→β} {a:α}:Option.map f (some a)=some (f a):=rfl
abbrev zR3:List AV:=[.int .i64 0,.int .i64 0,.nils]
section
variable {h h' h0:AH} {F J F0 J0:Nat→Prop} {L:List Asn} {mb bb fb:Nat} {left:Int} {below:List FrD} {top:FrD}
theorem bY (f:FrD) (a:List AV) (s n g:AV) (ha:a.length=3):(cP f a s n g)[6]? =some s∧(cP f a s n g).length=10∧(cP f a s n g)[7]? =some n∧(cP f a s n g)[9]? =some g∧(cP f a s n g)[8]? =some (.bool f.asked)∧(cP f a s n g)[0]? =some (.int .i64 f.plugin)∧(cP f a s n g)[1]? =some (.int .i64 f.f)∧(cP f a s n g)[2]? =some (.int .i64 (f.pc:Int)):=by
 match a,ha with
 | [x,y,z],_=>exact⟨rfl,rfl,rfl,rfl,rfl,rfl,rfl,rfl⟩
theorem nL {f:FrD} {a:List AV} {s n g:AV} (ha:a.length=3∧a.all AV.one=true) (hs:s.one=true) (hn:n.one=true) (hg:g.one=true):(cP f a s n g).all AV.one=true:=by
 simp only[cP,List.all_append,ha.2,hs,hn,hg,List.all_cons,List.all_nil,Bool.and_true]
 rfl
theorem yJ (f:FrD) (a:List AV) (s n g s':AV) (st:List VD) (ha:a.length=3):(cP f a s n g).set 6 s'=cP {f with stack:=st} a s' n g:=by
 match a,ha with
 | [x,y,z],_=>rfl
theorem n9 {α:Type} {A B:List α} {x:α} {k:Nat} (hk:A.length=k):(A++x::B)[k]? =some x:=Dn A B x hk.symm
theorem Ce {α:Type} {A B:List α} {x y:α} {k:Nat} (hk:A.length=k):(A++x::B).set k y=A++y::B:=wy A B x y hk.symm
theorem KX (s0:St h0 F0 J0 h L) (i:Nat) (hi:L[i]? =some (ez mb bb fb left below top)) {v:VD} {r:List AV} (hv:VaA v r) (hb:below.length≤1000) (hst:top.stack.length≤1000000):
  ∃ h',aj Try.prog po fPu [.ptr mb 0 0,.agg r] h=some (.inl (.tup []),h')∧St h0 F0 J0 h' (L.set i (ez mb bb fb left below {top with stack:=top.stack++[v]})):=by
 refine s0.call (R:=fun h'=>aj Try.prog po fPu [.ptr mb 0 0,.agg r] h=some (.inl (.tup []),h')) i hi fun F J x=> ?_
 obtain⟨rs,ex,a,sv,nv,g,hrl,ha,hg,s⟩:=i9 x
 have s2:=(s.grew (af.push h [r])).grew (af.push (h.push [r]) [r])
 have hz:((h.push [r]).push [r]).cell (h.n+1)=some [r]:=aE
 obtain⟨h3,e3,s3⟩:=s2.app 2 rfl hz hv hst
 have q0:=s.cell 0 rfl
 have q1:=s.cell 1 rfl
 have q3:=(s3.cell 1 rfl).1
 have g6:=bY top a sv nv g ha.len3.1
 have run:=Kp (s':= .msl ((h.push [r]).push [r]).n 0 (top.stack.length+1) tV) hb hv.len3 q0.2 q1.2 q0.1 q1.1 (n9 hrl) g6.1 g6.2.1 e3 q3 rfl rfl
 rw[yJ _ _ _ _ _ _ (top.stack++[v]) ha.len3.1,Ce hrl]at run
 have s4:=s3.set 1 rfl [rs++cP {top with stack:=top.stack++[v]} a (.msl ((h.push [r]).push [r]).n 0 (top.stack.length+1) tV) nv g::ex].flatten
 exact⟨_,run,lX (top:={top with stack:=top.stack++[v]}) ha hg (by simpa using s4)⟩
theorem mc {h2:AH} {rs ex:List (List AV)} {row row':List AV} {k j:Nat} {v:AV} (hc:h2.cell fb=some (rs++row::ex)) (hk:rs.length=k) (h1:v.one=true) (hv:v.cells=[v]) (hj:j<row.length) (hr:row.set j v=row'):aI 1 h2 (.ptr fb k j) v=some (h2.set fb (some (rs++row'::ex))):=by
 rw[bk hc (n9 hk) (by rw[hv];simpa using h1) (by rw[hv];rfl) (by omega),Ce hk,hv]
 have:stA row j [v]=row':=by
  rw[←hr]
  unfold stA
  refine List.ext_getElem? fun i=> ?_
  have:=gZ row [v] j i (by simp only[List.length_singleton];omega)
  unfold stA at this
  rw[this]
  by_cases e:i=j
  ·subst e
   simp[hj]
  ·rw[if_neg (by simp only[List.length_singleton];omega),List.getElem?_set_ne (by omega)]
 rw[this]
theorem kS {h2:AH} {rs ex:List (List AV)} {row:List AV} {k j n:Nat} {v:AV} (hc:h2.cell fb=some (rs++row::ex)) (hk:rs.length=k) (hr:row[j]? =some v):aC false n h2 (.ptr fb k j)=some v:=by
 rw[bB,hc,Option.bind_some,n9 hk,Option.bind_some,fA,hr]
theorem Ng (s0:St h0 F0 J0 h L) (i:Nat) (hi:L[i]? =some (ez mb bb fb left below top)) {st:List VD} {v:VD} (hst:top.stack=st++[v]) (hb:below.length≤1000) (hl:st.length≤1000000):
  ∃ h',(∃ r,aj Try.prog po 83 [.ptr mb 0 0] h=some (.inl (.agg r),h')∧VaA v r)∧St h0 F0 J0 h' (L.set i (ez mb bb fb left below {top with stack:=st})):=by
 refine s0.call (R:=fun h'=>∃ r,aj Try.prog po 83 [.ptr mb 0 0] h=some (.inl (.agg r),h')∧VaA v r) i hi fun F J x=> ?_
 obtain⟨rs,ex,a,sv,nv,g,hrl,ha,hg,s⟩:=i9 x
 have s1:=s.push [zR3]
 obtain⟨F1,J1,x1⟩:=s1.get 3 rfl
 rw[hst]at x1
 have hlen:(st++[v]).length=st.length+1:=by simp
 obtain⟨b,hsv⟩:=xN x1 (by simp)
 rw[hlen]at hsv
 subst hsv
 have rd:=gm x1
 obtain⟨p,r,p1,p2,p3⟩:=rd.2.2.2.2 .i64 st.length v (by simp)
 have g6:=bY top a (.msl b 0 (st.length+1) tV) nv g ha.len3.1
 have w:IntKind.wrap .i64 (((st.length+1:Nat):Int) - 1)=(st.length:Int):=Bw (by omega) (by omega) (by omega)
 have sl:=wN (e:=tV) (b:=b) (n:=st.length+1) (m:=st.length) (by omega)
 have tp:=qh (s1.cell 1 rfl).1 hb
 have l1:=fun n=>kS (n:=n) (s1.cell 2 rfl).1 hrl g6.1
 have s2:=s1.push [zR3]
 have s3:=s1.push [r]
 have l3:=fun n=>kS (n:=n) (s3.cell 3 rfl).1 hrl g6.1
 have st4:=mc (v:= .msl b 0 st.length tV) (s3.cell 3 rfl).1 hrl rfl rfl (by rw[g6.2.1];decide) (yJ _ _ _ _ _ _ st ha.len3.1)
 have s4:=s3.set 3 rfl (rs++cP {top with stack:=st} a (.msl b 0 st.length tV) nv g::ex)
 have c1:=(s2.cell 0 rfl).1
 have c4:=(s4.cell 0 rfl).1
 have c5:=(s4.cell 1 rfl).1
 have s5:=s4.set 1 rfl [r]
 have c6:=(s5.cell 1 rfl).1
 have fd:aH 6 (.ptr fb below.length 0)=some (.ptr fb below.length 6):=rfl
 have s6:St h F J _ (Ht mb bb fb left below {top with stack:=st} rs ex a (.msl b 0 st.length tV) nv g):=s5.drop.drop.upd 2 rfl fun _ _ _ x=>by rw[hst]at x;exact yh x
 refine⟨_,⟨r,?_,p3⟩,lX (top:={top with stack:=st}) ha hg s6⟩
 simp only[aL,dW]at c1 c4 c5 c6 st4 l3
 refine ah Kz rfl ?_;unfold Da
 simp only[sim,ag,Nat.reduceAdd,Nat.reduceSub,List.replicate,reduceCtorEq,Nat.reduceLeDiff,Nat.reduceLT,aa,az,tp,l1,p1,p2,w,sl,p3.len3.1,p3.len3.2,c1,l3,st4,c4,c5,c6,oe,ny,fd]
end
def CD:List RS:=[(.ops [(.i (.v 4) (.mv (.c (.int .i64 0))))]),(.ops [(.i .l (.mv (.v 0))),(.i .l (.mv (.v 0))),(.i .l (.nilc (.l 0))),(.i .l (.fad 0 (.l 0))),(.i .l (.load false 1 (.l 0))),(.i .l (.mv (.v 1))),(.i .l (.mv (.v 2))),(.i .l (.mv (.v 3))),(.i .l (.build [(.int .i64 0),(.int .i64 0),(.int .i64 0)] [(0,1),(1,1),(2,1)] [(0,(.l 2)),(1,(.l 1)),(2,(.l 0))])),(.i .l (.bsl true 169 [(.int .i64 0),(.int .i64 0),(.int .i64 0)] 3 1 [(0,(.l 0))])),(.i .l (.app true 169 (.l 5) (.l 0))),(.i .l (.nilc (.l 10))),(.i .l (.fad 0 (.l 0))),(.i .n (.store 1 (.l 0) (.l 2)))]),(.ops [(.i .l (.mv (.v 0))),(.i .l (.nilc (.l 0))),(.i .l (.fad 0 (.l 0))),(.i .l (.load false 1 (.l 0))),(.i .l (.len false (some 169) (.l 0))),(.i .l (.bin (.int .i64) .sub (.l 0) (.c (.int .i64 1)))),(.i (.v 4) (.mv (.l 0)))]),.ret]
theorem Jk:FnR Try.prog po 72 4 5 [0,1,2,3,8] CD [(.v 4)] false:=⟨_,_,Try.func72,rfl,rfl,by kernel_rfl,by kernel_rfl,by kernel_rfl,by kernel_rfl,by kernel_rfl⟩
def zb:List RS:=[(.ops [(.i .l (.mv (.v 0))),(.i .l (.nilc (.l 0))),(.i .l (.fad 0 (.l 0))),(.i .l (.load false 1 (.l 0))),(.i .l (.mv (.v 1))),(.i .l (.mv (.v 0))),(.i .l (.nilc (.l 0))),(.i .l (.fad 0 (.l 0))),(.i .l (.load false 1 (.l 0))),(.i .l (.len false (some 169) (.l 0))),(.i .l (.ixa (some 169) none (.l 6) (.l 5))),(.i .l (.fad 1 (.l 0))),(.i .n (.store 1 (.l 0) (.l 2)))])]
theorem IQ:FnR Try.prog po 99 2 2 [0,1] zb [] false:=⟨_,_,Try.func99,rfl,rfl,by kernel_rfl,by kernel_rfl,by kernel_rfl,by kernel_rfl,by kernel_rfl⟩
def lO:List RS:=[(.ops [(.i (.v 10) (.bin (.int .i64) .lss (.v 9) (.v 8)))]),(.cond (.v 10) [] [(.exit 1)]),(.block 2 [(.ops [(.i .l (.ixa (some 46) none (.v 7) (.v 9))),(.i .l (.load true 4 (.l 0))),(.i (.v 5) (.alloc [(.int .i64 0),(.int .i64 0),(.int .i64 0),.nils])),(.i .n (.store 4 (.v 5) (.l 0)))]),(.ops [(.i .l (.mv (.v 0))),(.i .l (.load true 4 (.v 5))),(.i .l (.call (.c (.fn 71 [] [])) [(.l 1),(.l 0)]))])]),(.ops [(.i .l (.bin (.int .i64) .add (.v 9) (.c (.int .i64 1)))),(.i (.v 9) (.mv (.l 0)))])]
def oz:List RS:=[(.ops [(.i (.v 2) (.box 4 (.v 1)))]),(.ops [(.i .l (.mv (.v 0))),(.i .l (.call (.c (.fn 72 [] [])) [(.l 0),(.c (.int .i64 100)),(.c (.int .i64 0)),(.c (.int .i64 0))]))]),(.ops [(.i .l (.fad 0 (.v 2))),(.i (.v 6) (.load false 1 (.l 0)))]),(.block 0 [(.ops [(.i .l (.bin (.int .i64) .eql (.v 6) (.c (.int .i64 5)))),(.i (.v 11) (.mv (.l 0)))]),(.cond (.v 11) [(.ops [(.i .l (.mv (.v 0))),(.i .l (.fad 3 (.v 2))),(.i .l (.load false 1 (.l 0))),(.i .l (.ixa (some 46) none (.l 0) (.c (.int .i64 0)))),(.i .l (.load true 4 (.l 0))),(.i .l (.call (.c (.fn 71 [] [])) [(.l 4),(.l 0)]))]),(.ops [(.i .l (.mv (.v 0))),(.i .l (.call (.c (.fn 72 [] [])) [(.l 0),(.c (.int .i64 101)),(.c (.int .i64 0)),(.c (.int .i64 0))]))]),(.ops [(.i .l (.mv (.v 0))),(.i .l (.fad 3 (.v 2))),(.i .l (.load false 1 (.l 0))),(.i .l (.ixa (some 46) none (.l 0) (.c (.int .i64 1)))),(.i .l (.load true 4 (.l 0))),(.i .l (.call (.c (.fn 71 [] [])) [(.l 4),(.l 0)]))]),(.ops [(.i .l (.mv (.v 0))),(.i .l (.call (.c (.fn 72 [] [])) [(.l 0),(.c (.int .i64 102)),(.c (.int .i64 0)),(.c (.int .i64 0))]))])] [(.ops [(.i .l (.bin (.int .i64) .eql (.v 6) (.c (.int .i64 7)))),(.i (.v 12) (.mv (.l 0)))]),(.cond (.v 12) [(.ops [(.i .l (.mv (.v 0))),(.i .l (.fad 3 (.v 2))),(.i .l (.load false 1 (.l 0))),(.i .l (.ixa (some 46) none (.l 0) (.c (.int .i64 0)))),(.i .l (.load true 4 (.l 0))),(.i .l (.call (.c (.fn 71 [] [])) [(.l 4),(.l 0)]))]),(.ops [(.i .l (.mv (.v 0))),(.i .l (.call (.c (.fn 72 [] [])) [(.l 0),(.c (.int .i64 103)),(.c (.int .i64 0)),(.c (.int .i64 0))])),(.i (.v 3) (.mv (.l 0)))]),(.ops [(.i .l (.mv (.v 0))),(.i .l (.fad 3 (.v 2))),(.i .l (.load false 1 (.l 0))),(.i .l (.ixa (some 46) none (.l 0) (.c (.int .i64 1)))),(.i .l (.load true 4 (.l 0))),(.i .l (.call (.c (.fn 71 [] [])) [(.l 4),(.l 0)]))]),(.ops [(.i .l (.mv (.v 0))),(.i .l (.call (.c (.fn 72 [] [])) [(.l 0),(.c (.int .i64 104)),(.c (.int .i64 0)),(.c (.int .i64 0))])),(.i (.v 4) (.mv (.l 0)))]),(.ops [(.i .l (.mv (.v 0))),(.i .l (.mv (.v 3))),(.i .l (.call (.c (.fn 99 [] [])) [(.l 1),(.l 0)]))]),(.ops [(.i .l (.mv (.v 0))),(.i .l (.fad 3 (.v 2))),(.i .l (.load false 1 (.l 0))),(.i .l (.ixa (some 46) none (.l 0) (.c (.int .i64 2)))),(.i .l (.load true 4 (.l 0))),(.i .l (.call (.c (.fn 71 [] [])) [(.l 4),(.l 0)]))]),(.ops [(.i .l (.mv (.v 0))),(.i .l (.mv (.v 4))),(.i .l (.call (.c (.fn 99 [] [])) [(.l 1),(.l 0)]))])] [(.ops [(.i .l (.fad 3 (.v 2))),(.i (.v 7) (.load false 1 (.l 0))),(.i (.v 8) (.len false (some 46) (.v 7))),(.i (.v 9) (.mv (.c (.int .i64 0))))]),(.block 1 [(.loop lO)]),(.ops [(.i .l (.mv (.v 0))),(.i .l (.fad 0 (.v 2))),(.i .l (.load false 1 (.l 0))),(.i .l (.fad 1 (.v 2))),(.i .l (.load false 1 (.l 0))),(.i .l (.fad 2 (.v 2))),(.i .l (.load false 1 (.l 0))),(.i .l (.call (.c (.fn 72 [] [])) [(.l 6),(.l 4),(.l 2),(.l 0)]))])])])])]
theorem sf:FnR Try.prog po 71 2 13 [0,1,3,4,5,7,11,13,14,15,16,31,49] oz [] false:=⟨_,_,Try.func71,rfl,rfl,by kernel_rfl,by kernel_rfl,by kernel_rfl,by kernel_rfl,by kernel_rfl⟩
def lq:List RS:=[(.ops [(.i (.v 12) (.bin (.int .i64) .lss (.v 11) (.v 10)))]),(.cond (.v 12) [] [(.exit 0)]),(.block 1 [(.ops [(.i .l (.ixa (some 46) none (.v 9) (.v 11))),(.i .l (.load true 4 (.l 0))),(.i (.v 6) (.alloc [(.int .i64 0),(.int .i64 0),(.int .i64 0),.nils])),(.i .n (.store 4 (.v 6) (.l 0)))]),(.ops [(.i .l (.build [.nils] [(0,1)] [])),(.i .l (.box 1 (.l 0))),(.i (.v 7) (.mv (.l 0)))]),(.ops [(.i .l (.mv (.v 7))),(.i .l (.load true 4 (.v 6))),(.i .l (.call (.c (.fn 71 [] [])) [(.l 1),(.l 0)]))]),(.ops [(.i .l (.mv (.v 7))),(.i .l (.call (.c (.fn 72 [] [])) [(.l 0),(.c (.int .i64 105)),(.c (.int .i64 0)),(.c (.int .i64 0))]))]),(.ops [(.i .l (.mv (.v 5))),(.i .l (.mv (.v 7))),(.i .l (.nilc (.l 0))),(.i .l (.fad 0 (.l 0))),(.i .l (.load false 1 (.l 0))),(.i .l (.bsl false 158 [.nils] 1 1 [(0,(.l 0))])),(.i .l (.app false 158 (.l 5) (.l 0))),(.i (.v 5) (.mv (.l 0)))])]),(.ops [(.i .l (.bin (.int .i64) .add (.v 11) (.c (.int .i64 1)))),(.i (.v 11) (.mv (.l 0)))])]
def oN:List RS:=[(.ops [(.i (.v 1) (.box 1 (.v 0))),(.i (.v 2) (.mv (.c .nils))),(.i (.v 3) (.alloc [(.int .i64 0),(.int .i64 0)]))]),(.ops [(.i .l (.load true 1 (.v 1))),(.i .l (.call (.c (.fn 70 [] [])) [(.l 0)])),(.i (.v 4) (.alloc [(.int .i64 0),(.int .i64 0)])),(.i .n (.store 2 (.v 4) (.l 0)))]),(.ops [(.i .l (.fad 0 (.v 4))),(.i .l (.load false 1 (.l 0))),(.i (.v 8) (.bin (.int .i64) .neq (.l 0) (.c (.int .i64 0))))]),(.cond (.v 8) [(.ops [(.i .l (.load true 2 (.v 4))),(.i (.v 2) (.mv (.c .nils))),(.i .n (.store 2 (.v 3) (.l 0)))]),.ret] []),(.ops [(.i (.v 5) (.mv (.c .nils)))]),(.ops [(.i .l (.fad 0 (.v 1))),(.i (.v 9) (.load false 1 (.l 0))),(.i (.v 10) (.len false (some 46) (.v 9))),(.i (.v 11) (.mv (.c (.int .i64 0))))]),(.block 0 [(.loop lq)]),(.ops [(.i .l (.mv (.v 5))),(.i .l (.build [(.int .i64 0),(.int .i64 0)] [(0,1),(1,1)] [])),(.i (.v 2) (.mv (.l 1))),(.i .n (.store 2 (.v 3) (.l 0)))]),.ret]
def uO:List RS:=[(.ops [(.i (.v 1) (.mv (.c (.int .i64 0))))]),(.ops [(.i .l (.mv (.v 0))),(.i .l (.bin (.int .i64) .lss (.l 0) (.c (.int .i64 1)))),(.i .l (.mv (.l 0))),(.g (.l 0) false .l (.mv (.v 0))),(.g (.l 1) false .l (.bin (.int .i64) .gtr (.l 0) (.c (.int .i64 21)))),(.i (.v 2) (.pick (.l 2) (.c (.bool true)) (.l 0)))]),(.cond (.v 2) [(.ops [(.i (.v 1) (.mv (.c (.int .i64 (-1)))))]),.ret] []),(.ops [(.i .l (.build [(.int .i64 0),(.int .i64 0),(.int .i64 0),(.int .i64 0),(.int .i64 0),(.int .i64 0),(.int .i64 0),(.int .i64 0),(.int .i64 0),(.int .i64 0),(.int .i64 0),(.int .i64 0),(.int .i64 0),(.int .i64 0),(.int .i64 0),(.int .i64 0),(.int .i64 0),(.int .i64 0),(.int .i64 0),(.int .i64 0),(.int .i64 0),(.int .i64 0)] [(0,1),(1,1),(2,1),(3,1),(4,1),(5,1),(6,1),(7,1),(8,1),(9,1),(10,1),(11,1),(12,1),(13,1),(14,1),(15,1),(16,1),(17,1),(18,1),(19,1),(20,1),(21,1)] [(0,(.c (.int .i64 0))),(1,(.c (.int .i64 0))),(2,(.c (.int .i64 0))),(3,(.c (.int .i64 0))),(4,(.c (.int .i64 0))),(5,(.c (.int .i64 2))),(6,(.c (.int .i64 2))),(7,(.c (.int .i64 3))),(8,(.c (.int .i64 2))),(9,(.c (.int .i64 1))),(10,(.c (.int .i64 1))),(11,(.c (.int .i64 1))),(12,(.c (.int .i64 1))),(13,(.c (.int .i64 1))),(14,(.c (.int .i64 2))),(15,(.c (.int .i64 1))),(16,(.c (.int .i64 1))),(17,(.c (.int .i64 1))),(18,(.c (.int .i64 1))),(19,(.c (.int .i64 2))),(20,(.c (.int .i64 1))),(21,(.c (.int .i64 0)))])),(.i .l (.mv (.v 0))),(.i .l (.ix false (some (22,(1,false))) (.l 1) (.l 0))),(.i (.v 1) (.mv (.l 0)))]),.ret]
theorem DV:FnR Try.prog po 117 1 3 [0,2,8] uO [(.v 1)] true:=⟨_,_,Try.func117,rfl,rfl,by kernel_rfl,by kernel_rfl,by kernel_rfl,by kernel_rfl,by kernel_rfl⟩
def nx:List RS:=[(.ops [(.i .l (.mv (.v 1))),(.i .l (.mv (.l 0))),(.g (.l 0) true .l (.mv (.v 0))),(.g (.l 1) true .l (.nilc (.l 0))),(.g (.l 2) true .l (.fad 1 (.l 0))),(.g (.l 3) true .l (.load false 1 (.l 0))),(.g (.l 4) true .l (.bin (.int .i64) .eql (.l 0) (.c (.int .i64 0)))),(.i (.v 3) (.pick (.l 5) (.l 0) (.c (.bool false))))]),(.cond (.v 3) [(.ops [(.i .l (.mv (.v 0))),(.i .l (.mv (.v 2))),(.i .l (.nilc (.l 1))),(.i .l (.fad 1 (.l 0))),(.i .n (.store 1 (.l 0) (.l 2)))])] [])]
theorem tf:FnR Try.prog po 95 3 4 [0,1,2,13] nx [] false:=⟨_,_,Try.func95,rfl,rfl,by kernel_rfl,by kernel_rfl,by kernel_rfl,by kernel_rfl,by kernel_rfl⟩
def yr:List RS:=[(.ops [(.i (.v 2) (.box 4 (.v 0))),(.i (.v 3) (.box 1 (.v 1))),(.i (.v 4) (.mv (.c (.bool false))))]),(.ops [(.i .l (.load false 1 (.v 3))),(.i .l (.bin (.int .i64) .geq (.l 0) (.c (.int .i64 0)))),(.i .l (.mv (.l 0))),(.g (.l 0) true .l (.fad 3 (.v 2))),(.g (.l 1) true .l (.load false 1 (.l 0))),(.g (.l 2) true .l (.mkf 116 [] [(.v 3)])),(.g (.l 3) true .l (.call (.c (.fn 115 [] [])) [(.l 1),(.l 0)])),(.g (.l 4) true .l (.un .not (.l 0))),(.i .l (.pick (.l 5) (.l 0) (.c (.bool false)))),(.i (.v 4) (.mv (.l 0)))]),.ret]
theorem Gy:FnR Try.prog po 96 2 5 [0,1,2,3,4] yr [(.v 4)] true:=⟨_,_,Try.func96,rfl,rfl,by kernel_rfl,by kernel_rfl,by kernel_rfl,by kernel_rfl,by kernel_rfl⟩
def uv:List RS:=[(.ops [(.i (.v 2) (.box 4 (.v 0))),(.i (.v 3) (.mv (.c (.bool false))))]),(.ops [(.i .l (.load true 4 (.v 2))),(.i .l (.load false 1 (.v 1))),(.i .l (.bin (.int .i64) .sub (.l 0) (.c (.int .i64 1)))),(.i .l (.call (.c (.fn 96 [] [])) [(.l 2),(.l 0)])),(.i .l (.un .not (.l 0))),(.i (.v 3) (.mv (.l 0)))]),.ret]
theorem Ev:FnR Try.prog po 116 2 4 [0,1,2,3] uv [(.v 3)] true:=⟨_,_,Try.func116,rfl,rfl,by kernel_rfl,by kernel_rfl,by kernel_rfl,by kernel_rfl,by kernel_rfl⟩
def nD:List RS:=[(.ops [(.i (.v 2) (.mv (.c (.bool false))))]),(.ops [(.i .l (.mv (.v 0))),(.i .l (.mv (.v 1))),(.i .l (.call (.c (.fn 129 [] [])) [(.l 1),(.l 0)])),(.i .l (.bin (.int .i64) .geq (.l 0) (.c (.int .i64 0)))),(.i (.v 2) (.mv (.l 0)))]),.ret]
theorem xo:FnR Try.prog po 115 2 3 [0,1,4] nD [(.v 2)] true:=⟨_,_,Try.func115,rfl,rfl,by kernel_rfl,by kernel_rfl,by kernel_rfl,by kernel_rfl,by kernel_rfl⟩
def fN:List RS:=[(.ops [(.i (.v 6) (.bin (.int .i64) .lss (.v 5) (.v 4)))]),(.cond (.v 6) [] [(.exit 0)]),(.block 1 [(.ops [(.i .l (.mv (.v 5))),(.i (.v 3) (.mv (.l 0)))]),(.ops [(.i .l (.mv (.v 1))),(.i .l (.mv (.v 0))),(.i .l (.mv (.v 3))),(.i .l (.ixa (some 46) none (.l 1) (.l 0))),(.i .l (.load true 4 (.l 0))),(.i (.v 7) (.call (.l 4) [(.l 0)]))]),(.cond (.v 7) [(.ops [(.i .l (.mv (.v 3))),(.i (.v 2) (.mv (.l 0)))]),.ret] [])]),(.ops [(.i .l (.bin (.int .i64) .add (.v 5) (.c (.int .i64 1)))),(.i (.v 5) (.mv (.l 0)))])]
def uf:List RS:=[(.ops [(.i (.v 2) (.mv (.c (.int .i64 0))))]),(.ops [(.i .l (.mv (.v 0))),(.i (.v 4) (.len false (some 46) (.l 0))),(.i (.v 5) (.mv (.c (.int .i64 0))))]),(.block 0 [(.loop fN)]),(.ops [(.i (.v 2) (.mv (.c (.int .i64 (-1)))))]),.ret]
theorem E0:FnR Try.prog po 129 2 8 [0,1,4,5,7,8,9,16] uf [(.v 2)] true:=⟨_,_,Try.func129,rfl,rfl,by kernel_rfl,by kernel_rfl,by kernel_rfl,by kernel_rfl,by kernel_rfl⟩
def iu:List RS:=[(.ops [(.i .l (.mv (.v 4))),(.i .l (.fad 3 (.v 2))),(.i .l (.load false 1 (.l 0))),(.i .l (.len false (some 46) (.l 0))),(.i .l (.bin (.int .i64) .lss (.l 3) (.l 0))),(.i .l (.mv (.l 0))),(.g (.l 0) true .l (.mv (.v 1))),(.g (.l 1) true .l (.bin (.int .i64) .geq (.l 0) (.c (.int .i64 0)))),(.i (.v 5) (.pick (.l 2) (.l 0) (.c (.bool false))))]),(.cond (.v 5) [] [(.exit 0)]),(.block 1 [(.ops [(.i .l (.fad 3 (.v 2))),(.i .l (.load false 1 (.l 0))),(.i .l (.mv (.v 4))),(.i .l (.ixa (some 46) none (.l 1) (.l 0))),(.i .l (.load true 4 (.l 0))),(.i .l (.mv (.v 1))),(.i .l (.call (.c (.fn 97 [] [])) [(.l 1),(.l 0)])),(.i (.v 1) (.mv (.l 0)))])]),(.ops [(.i .l (.mv (.v 4))),(.i .l (.bin (.int .i64) .add (.l 0) (.c (.int .i64 1)))),(.i (.v 4) (.mv (.l 0)))])]
def tS:List RS:=[(.ops [(.i (.v 2) (.box 4 (.v 0))),(.i (.v 3) (.mv (.c (.int .i64 0))))]),(.ops [(.i .l (.mv (.v 1))),(.i .l (.bin (.int .i64) .sub (.l 0) (.c (.int .i64 1)))),(.i (.v 1) (.mv (.l 0)))]),(.ops [(.i (.v 4) (.mv (.c (.int .i64 0))))]),(.block 0 [(.loop iu)]),(.ops [(.i .l (.mv (.v 1))),(.i (.v 3) (.mv (.l 0)))]),.ret]
theorem Ed:FnR Try.prog po 97 2 6 [0,1,2,4,5,16] tS [(.v 3)] true:=⟨_,_,Try.func97,rfl,rfl,by kernel_rfl,by kernel_rfl,by kernel_rfl,by kernel_rfl,by kernel_rfl⟩
def pV:List RS:=[(.ops [(.i (.v 3) (.box 4 (.v 1)))]),(.ops [(.i .l (.mv (.v 0))),(.i .l (.fad 2 (.v 3))),(.i .l (.load false 1 (.l 0))),(.i .l (.bin (.int .i64) .neq (.l 0) (.c (.int .i64 0)))),(.i .l (.mv (.l 0))),(.g (.l 0) true .l (.fad 0 (.v 3))),(.g (.l 1) true .l (.load false 1 (.l 0))),(.g (.l 2) true .l (.bin (.int .i64) .neq (.l 0) (.c (.int .i64 2)))),(.i .l (.pick (.l 3) (.l 0) (.c (.bool false)))),(.i .l (.call (.c (.fn 95 [] [])) [(.l 8),(.l 0),(.c (.int .i64 5))]))]),(.ops [(.i .l (.fad 0 (.v 3))),(.i (.v 4) (.load false 1 (.l 0)))]),(.block 0 [(.ops [(.i .l (.bin (.int .i64) .eql (.v 4) (.c (.int .i64 4)))),(.i (.v 5) (.mv (.l 0)))]),(.cond (.v 5) [(.ops [(.i .l (.mv (.v 0))),(.i .l (.fad 1 (.v 3))),(.i .l (.load false 1 (.l 0))),(.i .l (.bin (.int .i64) .lss (.l 0) (.c (.int .i64 0)))),(.i .l (.mv (.l 0))),(.g (.l 0) false .l (.fad 1 (.v 3))),(.g (.l 1) false .l (.load false 1 (.l 0))),(.g (.l 2) false .l (.mv (.v 2))),(.g (.l 3) false .l (.bin (.int .i64) .geq (.l 1) (.l 0))),(.i .l (.pick (.l 4) (.c (.bool true)) (.l 0))),(.i .l (.call (.c (.fn 95 [] [])) [(.l 9),(.l 0),(.c (.int .i64 1))]))])] [(.ops [(.i .l (.bin (.int .i64) .eql (.v 4) (.c (.int .i64 6)))),(.i (.v 6) (.mv (.l 0)))]),(.cond (.v 6) [(.ops [(.i .l (.mv (.v 0))),(.i .l (.fad 1 (.v 3))),(.i .l (.load false 1 (.l 0))),(.i .l (.bin (.int .i64) .lss (.l 0) (.c (.int .i64 1)))),(.i .l (.mv (.l 0))),(.g (.l 0) false .l (.fad 1 (.v 3))),(.g (.l 1) false .l (.load false 1 (.l 0))),(.g (.l 2) false .l (.bin (.int .i64) .gtr (.l 0) (.c (.int .i64 5)))),(.i .l (.pick (.l 3) (.c (.bool true)) (.l 0))),(.i .l (.call (.c (.fn 95 [] [])) [(.l 8),(.l 0),(.c (.int .i64 1))]))])] [(.ops [(.i .l (.bin (.int .i64) .eql (.v 4) (.c (.int .i64 15)))),(.i (.v 7) (.mv (.l 0)))]),(.cond (.v 7) [(.ops [(.i .l (.mv (.v 0))),(.i .l (.fad 1 (.v 3))),(.i .l (.load false 1 (.l 0))),(.i .l (.call (.c (.fn 112 [] [])) [(.l 0)])),(.i .l (.un .not (.l 0))),(.i .l (.call (.c (.fn 95 [] [])) [(.l 4),(.l 0),(.c (.int .i64 1))]))])] [(.ops [(.i .l (.bin (.int .i64) .eql (.v 4) (.c (.int .i64 18)))),(.i (.v 8) (.mv (.l 0)))]),(.cond (.v 8) [(.ops [(.i .l (.mv (.v 0))),(.i .l (.fad 1 (.v 3))),(.i .l (.load false 1 (.l 0))),(.i .l (.bin (.int .i64) .lss (.l 0) (.c (.int .i64 0)))),(.i .l (.mv (.l 0))),(.g (.l 0) false .l (.fad 1 (.v 3))),(.g (.l 1) false .l (.load false 1 (.l 0))),(.g (.l 2) false .l (.mv (.v 0))),(.g (.l 3) false .l (.nilc (.l 0))),(.g (.l 4) false .l (.fad 0 (.l 0))),(.g (.l 5) false .l (.fad 0 (.l 0))),(.g (.l 6) false .l (.load false 1 (.l 0))),(.g (.l 7) false .l (.len false (some 46) (.l 0))),(.g (.l 8) false .l (.bin (.int .i64) .geq (.l 6) (.l 0))),(.i .l (.pick (.l 9) (.c (.bool true)) (.l 0))),(.i .l (.call (.c (.fn 95 [] [])) [(.l 14),(.l 0),(.c (.int .i64 1))]))])] [(.ops [(.i .l (.mv (.v 0))),(.i .l (.fad 1 (.v 3))),(.i .l (.load false 1 (.l 0))),(.i .l (.bin (.int .i64) .neq (.l 0) (.c (.int .i64 0)))),(.i .l (.call (.c (.fn 95 [] [])) [(.l 3),(.l 0),(.c (.int .i64 5))]))])])])])])])]
theorem xw:FnR Try.prog po 118 3 9 [0,1,2,4,17,23,36,48,56] pV [] false:=⟨_,_,Try.func118,rfl,rfl,by kernel_rfl,by kernel_rfl,by kernel_rfl,by kernel_rfl,by kernel_rfl⟩
def fE:List RS:=[(.ops [(.i (.v 10) (.bin (.int .i64) .lss (.v 9) (.v 8)))]),(.cond (.v 10) [] [(.exit 0)]),(.block 1 [(.ops [(.i .l (.mv (.v 9))),(.i .l (.ixa (some 46) none (.v 7) (.v 9))),(.i .l (.load true 4 (.l 0))),(.i (.v 6) (.alloc [(.int .i64 0),(.int .i64 0),(.int .i64 0),.nils])),(.i (.v 5) (.mv (.l 2))),(.i .n (.store 4 (.v 6) (.l 0)))]),(.ops [(.i .l (.mv (.v 0))),(.i .l (.nilc (.l 0))),(.i .l (.fad 1 (.l 0))),(.i .l (.load false 1 (.l 0))),(.i (.v 11) (.bin (.int .i64) .neq (.l 0) (.c (.int .i64 0))))]),(.cond (.v 11) [.ret] []),(.ops [(.i .l (.fad 0 (.v 3))),(.i .l (.load false 1 (.l 0))),(.i .l (.bin (.int .i64) .eql (.l 0) (.c (.int .i64 5)))),(.i .l (.mv (.l 0))),(.g (.l 0) true .l (.mv (.v 5))),(.g (.l 1) true .l (.bin (.int .i64) .eql (.l 0) (.c (.int .i64 1)))),(.i (.v 12) (.pick (.l 2) (.l 0) (.c (.bool false))))]),(.cond (.v 12) [(.ops [(.i .l (.mv (.v 0))),(.i .l (.load true 4 (.v 6))),(.i .l (.mv (.v 2))),(.i .l (.bin (.int .i64) .add (.l 0) (.c (.int .i64 1)))),(.i .l (.call (.c (.fn 98 [] [])) [(.l 3),(.l 2),(.l 0)]))])] [(.ops [(.i .l (.mv (.v 0))),(.i .l (.load true 4 (.v 6))),(.i .l (.mv (.v 2))),(.i .l (.call (.c (.fn 98 [] [])) [(.l 2),(.l 1),(.l 0)]))])])]),(.ops [(.i .l (.bin (.int .i64) .add (.v 9) (.c (.int .i64 1)))),(.i (.v 9) (.mv (.l 0)))])]
def xP:List RS:=[(.ops [(.i (.v 3) (.box 4 (.v 1)))]),(.ops [(.i .l (.fad 0 (.v 3))),(.i .l (.load false 1 (.l 0))),(.i .l (.call (.c (.fn 117 [] [])) [(.l 0)])),(.i (.v 4) (.mv (.l 0)))]),(.ops [(.i .l (.mv (.v 0))),(.i .l (.mv (.v 4))),(.i .l (.bin (.int .i64) .lss (.l 0) (.c (.int .i64 0)))),(.i .l (.call (.c (.fn 95 [] [])) [(.l 2),(.l 0),(.c (.int .i64 2))]))]),(.ops [(.i .l (.mv (.v 0))),(.i .l (.fad 3 (.v 3))),(.i .l (.load false 1 (.l 0))),(.i .l (.len false (some 46) (.l 0))),(.i .l (.mv (.v 4))),(.i .l (.bin (.int .i64) .neq (.l 1) (.l 0))),(.i .l (.call (.c (.fn 95 [] [])) [(.l 5),(.l 0),(.c (.int .i64 5))]))]),(.ops [(.i .l (.mv (.v 0))),(.i .l (.load true 4 (.v 3))),(.i .l (.mv (.v 2))),(.i .l (.call (.c (.fn 118 [] [])) [(.l 2),(.l 1),(.l 0)]))]),(.ops [(.i .l (.mv (.v 0))),(.i .l (.fad 0 (.v 3))),(.i .l (.load false 1 (.l 0))),(.i .l (.bin (.int .i64) .eql (.l 0) (.c (.int .i64 5)))),(.i .l (.mv (.l 0))),(.g (.l 0) true .l (.mv (.v 2))),(.g (.l 1) true .l (.bin (.int .i64) .eql (.l 0) (.c (.int .i64 12)))),(.i .l (.pick (.l 2) (.l 0) (.c (.bool false)))),(.i .l (.call (.c (.fn 95 [] [])) [(.l 7),(.l 0),(.c (.int .i64 3))]))]),(.ops [(.i .l (.fad 3 (.v 3))),(.i (.v 7) (.load false 1 (.l 0))),(.i (.v 8) (.len false (some 46) (.v 7))),(.i (.v 9) (.mv (.c (.int .i64 0))))]),(.block 0 [(.loop fE)])]
theorem ID:FnR Try.prog po 98 3 13 [0,1,2,4,6,7,8,37,38,39,40,48,55] xP [] false:=⟨_,_,Try.func98,rfl,rfl,by kernel_rfl,by kernel_rfl,by kernel_rfl,by kernel_rfl,by kernel_rfl⟩
def iE:List RS:=[(.ops [(.i (.v 10) (.bin (.int .i64) .lss (.v 9) (.v 8)))]),(.cond (.v 10) [] [(.exit 0)]),(.block 1 [(.ops [(.i .l (.mv (.v 9))),(.i .l (.ixa (some 46) none (.v 7) (.v 9))),(.i .l (.load true 4 (.l 0))),(.i (.v 4) (.alloc [(.int .i64 0),(.int .i64 0),(.int .i64 0),.nils])),(.i (.v 3) (.mv (.l 2))),(.i .n (.store 4 (.v 4) (.l 0)))]),(.ops [(.i .l (.load true 1 (.v 1))),(.i .l (.build [.nils,(.int .i64 0)] [(0,1),(1,1)] [(0,(.l 0))])),(.i .l (.box 2 (.l 0))),(.i (.v 5) (.mv (.l 0)))]),(.ops [(.i .l (.mv (.v 5))),(.i .l (.load true 4 (.v 4))),(.i .l (.call (.c (.fn 96 [] [])) [(.l 0),(.c (.int .i64 30))])),(.i .l (.un .not (.l 0))),(.i .l (.call (.c (.fn 95 [] [])) [(.l 3),(.l 0),(.c (.int .i64 4))]))]),(.ops [(.i .l (.mv (.v 5))),(.i .l (.mv (.v 5))),(.i .l (.nilc (.l 0))),(.i .l (.fad 1 (.l 0))),(.i .l (.load false 1 (.l 0))),(.i .l (.bin (.int .i64) .eql (.l 0) (.c (.int .i64 0)))),(.i .l (.mv (.l 0))),(.g (.l 0) true .l (.load true 4 (.v 4))),(.g (.l 1) true .l (.call (.c (.fn 97 [] [])) [(.l 0),(.c (.int .i64 120))])),(.g (.l 2) true .l (.bin (.int .i64) .lss (.l 0) (.c (.int .i64 0)))),(.i .l (.pick (.l 3) (.l 0) (.c (.bool false)))),(.i .l (.call (.c (.fn 95 [] [])) [(.l 10),(.l 0),(.c (.int .i64 3))]))]),(.ops [(.i .l (.mv (.v 5))),(.i .l (.nilc (.l 0))),(.i .l (.fad 1 (.l 0))),(.i .l (.load false 1 (.l 0))),(.i (.v 11) (.bin (.int .i64) .eql (.l 0) (.c (.int .i64 0))))]),(.cond (.v 11) [(.ops [(.i .l (.mv (.v 5))),(.i .l (.load true 4 (.v 4))),(.i .l (.call (.c (.fn 98 [] [])) [(.l 1),(.l 0),(.c (.int .i64 0))]))])] []),(.ops [(.i .l (.mv (.v 5))),(.i .l (.nilc (.l 0))),(.i .l (.fad 1 (.l 0))),(.i .l (.load false 1 (.l 0))),(.i (.v 12) (.bin (.int .i64) .neq (.l 0) (.c (.int .i64 0))))]),(.cond (.v 12) [(.ops [(.i .l (.mv (.v 5))),(.i .l (.nilc (.l 0))),(.i .l (.fad 1 (.l 0))),(.i .l (.load false 1 (.l 0))),(.i .l (.mv (.v 3))),(.i .l (.build [(.int .i64 0),(.int .i64 0)] [(0,1),(1,1)] [(0,(.l 1)),(1,(.l 0))])),(.i .n (.store 2 (.v 2) (.l 0)))]),.ret] [])]),(.ops [(.i .l (.bin (.int .i64) .add (.v 9) (.c (.int .i64 1)))),(.i (.v 9) (.mv (.l 0)))])]
def uY:List RS:=[(.ops [(.i (.v 1) (.box 1 (.v 0))),(.i (.v 2) (.alloc [(.int .i64 0),(.int .i64 0)]))]),(.ops [(.i .l (.fad 0 (.v 1))),(.i .l (.load false 1 (.l 0))),(.i .l (.len false (some 46) (.l 0))),(.i .l (.bin (.int .i64) .eql (.l 0) (.c (.int .i64 0)))),(.i .l (.mv (.l 0))),(.g (.l 0) false .l (.fad 0 (.v 1))),(.g (.l 1) false .l (.load false 1 (.l 0))),(.g (.l 2) false .l (.len false (some 46) (.l 0))),(.g (.l 3) false .l (.bin (.int .i64) .gtr (.l 0) (.c (.int .i64 6)))),(.i (.v 6) (.pick (.l 4) (.c (.bool true)) (.l 0)))]),(.cond (.v 6) [(.ops [(.i .l (.build [(.int .i64 0),(.int .i64 0)] [(0,1),(1,1)] [(0,(.c (.int .i64 3))),(1,(.c (.int .i64 (-1))))])),(.i .n (.store 2 (.v 2) (.l 0)))]),.ret] []),(.ops [(.i .l (.fad 0 (.v 1))),(.i (.v 7) (.load false 1 (.l 0))),(.i (.v 8) (.len false (some 46) (.v 7))),(.i (.v 9) (.mv (.c (.int .i64 0))))]),(.block 0 [(.loop iE)]),(.ops [(.i .l (.build [(.int .i64 0),(.int .i64 0)] [(0,1),(1,1)] [])),(.i .n (.store 2 (.v 2) (.l 0)))]),.ret]
theorem DQ:FnR Try.prog po 70 1 13 [0,1,2,3,4,5,15,18,19,20,21,49,57] uY [(.cell true 2 2)] true:=⟨_,_,Try.func70,rfl,rfl,by kernel_rfl,by kernel_rfl,by kernel_rfl,by kernel_rfl,by kernel_rfl⟩
def Mt:List RS:=[(.ops [(.i (.v 2) (.alloc [(.int .i64 0),(.int .i64 0)]))]),(.ops [(.i .l (.mv (.v 0))),(.i .l (.mv (.v 1))),(.i .l (.build [(.int .i64 0),(.int .i64 0)] [(0,1),(1,1)] [(0,(.l 1)),(1,(.l 0))])),(.i .n (.store 2 (.v 2) (.l 0)))]),.ret]
theorem Ov:FnR Try.prog po 100 2 3 [0,1,4] Mt [(.cell true 2 2)] true:=⟨_,_,Try.func100,rfl,rfl,by kernel_rfl,by kernel_rfl,by kernel_rfl,by kernel_rfl,by kernel_rfl⟩
def qG:List RS:=[(.ops [(.i (.v 1) (.mv (.c (.int .i64 0))))]),(.ops [(.i (.v 2) (.mv (.v 0)))]),(.block 0 [(.ops [(.i .l (.bin (.int .i64) .eql (.v 2) (.c (.int .i64 1)))),(.i (.v 3) (.mv (.l 0)))]),(.cond (.v 3) [] [(.ops [(.i .l (.bin (.int .i64) .eql (.v 2) (.c (.int .i64 2)))),(.i (.v 3) (.mv (.l 0)))]),(.cond (.v 3) [] [(.ops [(.i .l (.bin (.int .i64) .eql (.v 2) (.c (.int .i64 3)))),(.i (.v 3) (.mv (.l 0)))]),(.cond (.v 3) [] [(.ops [(.i .l (.bin (.int .i64) .eql (.v 2) (.c (.int .i64 4)))),(.i (.v 3) (.mv (.l 0)))]),(.cond (.v 3) [] [(.ops [(.i .l (.bin (.int .i64) .eql (.v 2) (.c (.int .i64 21)))),(.i (.v 3) (.mv (.l 0)))])])])])]),(.cond (.v 3) [(.ops [(.i (.v 1) (.mv (.c (.int .i64 0))))]),.ret] [(.ops [(.i .l (.bin (.int .i64) .eql (.v 2) (.c (.int .i64 9)))),(.i (.v 4) (.mv (.l 0)))]),(.cond (.v 4) [] [(.ops [(.i .l (.bin (.int .i64) .eql (.v 2) (.c (.int .i64 10)))),(.i (.v 4) (.mv (.l 0)))]),(.cond (.v 4) [] [(.ops [(.i .l (.bin (.int .i64) .eql (.v 2) (.c (.int .i64 11)))),(.i (.v 4) (.mv (.l 0)))]),(.cond (.v 4) [] [(.ops [(.i .l (.bin (.int .i64) .eql (.v 2) (.c (.int .i64 12)))),(.i (.v 4) (.mv (.l 0)))]),(.cond (.v 4) [] [(.ops [(.i .l (.bin (.int .i64) .eql (.v 2) (.c (.int .i64 13)))),(.i (.v 4) (.mv (.l 0)))]),(.cond (.v 4) [] [(.ops [(.i .l (.bin (.int .i64) .eql (.v 2) (.c (.int .i64 15)))),(.i (.v 4) (.mv (.l 0)))]),(.cond (.v 4) [] [(.ops [(.i .l (.bin (.int .i64) .eql (.v 2) (.c (.int .i64 16)))),(.i (.v 4) (.mv (.l 0)))]),(.cond (.v 4) [] [(.ops [(.i .l (.bin (.int .i64) .eql (.v 2) (.c (.int .i64 17)))),(.i (.v 4) (.mv (.l 0)))]),(.cond (.v 4) [] [(.ops [(.i .l (.bin (.int .i64) .eql (.v 2) (.c (.int .i64 18)))),(.i (.v 4) (.mv (.l 0)))]),(.cond (.v 4) [] [(.ops [(.i .l (.bin (.int .i64) .eql (.v 2) (.c (.int .i64 20)))),(.i (.v 4) (.mv (.l 0)))])])])])])])])])])]),(.cond (.v 4) [(.ops [(.i (.v 1) (.mv (.c (.int .i64 1))))]),.ret] [(.ops [(.i .l (.bin (.int .i64) .eql (.v 2) (.c (.int .i64 5)))),(.i (.v 5) (.mv (.l 0)))]),(.cond (.v 5) [] [(.ops [(.i .l (.bin (.int .i64) .eql (.v 2) (.c (.int .i64 6)))),(.i (.v 5) (.mv (.l 0)))]),(.cond (.v 5) [] [(.ops [(.i .l (.bin (.int .i64) .eql (.v 2) (.c (.int .i64 8)))),(.i (.v 5) (.mv (.l 0)))]),(.cond (.v 5) [] [(.ops [(.i .l (.bin (.int .i64) .eql (.v 2) (.c (.int .i64 14)))),(.i (.v 5) (.mv (.l 0)))]),(.cond (.v 5) [] [(.ops [(.i .l (.bin (.int .i64) .eql (.v 2) (.c (.int .i64 19)))),(.i (.v 5) (.mv (.l 0)))])])])])]),(.cond (.v 5) [(.ops [(.i (.v 1) (.mv (.c (.int .i64 2))))]),.ret] [(.ops [(.i .l (.bin (.int .i64) .eql (.v 2) (.c (.int .i64 7)))),(.i (.v 6) (.mv (.l 0)))]),(.cond (.v 6) [(.ops [(.i (.v 1) (.mv (.c (.int .i64 3))))]),.ret] [])])])])]),(.ops [(.i (.v 1) (.mv (.c (.int .i64 (-1)))))]),.ret]
theorem BU:FnR Try.prog po 119 1 7 [0,2,3,4,10,21,27] qG [(.v 1)] true:=⟨_,_,Try.func119,rfl,rfl,by kernel_rfl,by kernel_rfl,by kernel_rfl,by kernel_rfl,by kernel_rfl⟩
def g9:List RS:=[(.ops [(.i .l (.mv (.v 5))),(.i .l (.fad 3 (.v 2))),(.i .l (.load false 1 (.l 0))),(.i .l (.len false (some 46) (.l 0))),(.i .l (.bin (.int .i64) .lss (.l 3) (.l 0))),(.i .l (.mv (.l 0))),(.g (.l 0) true .l (.mv (.v 4))),(.g (.l 1) true .l (.mv (.v 1))),(.g (.l 2) true .l (.bin (.int .i64) .leq (.l 1) (.l 0))),(.i (.v 7) (.pick (.l 3) (.l 0) (.c (.bool false))))]),(.cond (.v 7) [] [(.exit 0)]),(.block 1 [(.ops [(.i (.v 6) (.mv (.c (.int .i64 1))))]),(.ops [(.i .l (.mv (.v 1))),(.i (.v 8) (.bin (.int .i64) .gtr (.l 0) (.c (.int .i64 0))))]),(.cond (.v 8) [(.ops [(.i .l (.fad 3 (.v 2))),(.i .l (.load false 1 (.l 0))),(.i .l (.mv (.v 5))),(.i .l (.ixa (some 46) none (.l 1) (.l 0))),(.i .l (.load true 4 (.l 0))),(.i .l (.mv (.v 1))),(.i .l (.bin (.int .i64) .sub (.l 0) (.c (.int .i64 1)))),(.i .l (.call (.c (.fn 101 [] [])) [(.l 2),(.l 0)])),(.i .l (.bin (.int .i64) .add (.c (.int .i64 1)) (.l 0))),(.i (.v 6) (.mv (.l 0)))])] []),(.ops [(.i .l (.mv (.v 6))),(.i .l (.mv (.v 4))),(.i (.v 9) (.bin (.int .i64) .gtr (.l 1) (.l 0)))]),(.cond (.v 9) [(.ops [(.i .l (.mv (.v 6))),(.i (.v 4) (.mv (.l 0)))])] [])]),(.ops [(.i .l (.mv (.v 5))),(.i .l (.bin (.int .i64) .add (.l 0) (.c (.int .i64 1)))),(.i (.v 5) (.mv (.l 0)))])]
def ul:List RS:=[(.ops [(.i (.v 2) (.box 4 (.v 0))),(.i (.v 3) (.mv (.c (.int .i64 0))))]),(.ops [(.i (.v 4) (.mv (.c (.int .i64 0))))]),(.ops [(.i (.v 5) (.mv (.c (.int .i64 0))))]),(.block 0 [(.loop g9)]),(.ops [(.i .l (.mv (.v 4))),(.i (.v 3) (.mv (.l 0)))]),.ret]
theorem Fe:FnR Try.prog po 101 2 10 [0,1,2,4,5,6,7,17,21,33] ul [(.v 3)] true:=⟨_,_,Try.func101,rfl,rfl,by kernel_rfl,by kernel_rfl,by kernel_rfl,by kernel_rfl,by kernel_rfl⟩
def gG:List RS:=[(.ops [(.i .l (.mv (.v 5))),(.i .l (.fad 3 (.v 2))),(.i .l (.load false 1 (.l 0))),(.i .l (.len false (some 46) (.l 0))),(.i .l (.bin (.int .i64) .lss (.l 3) (.l 0))),(.i .l (.mv (.l 0))),(.g (.l 0) true .l (.mv (.v 4))),(.g (.l 1) true .l (.mv (.v 1))),(.g (.l 2) true .l (.bin (.int .i64) .leq (.l 1) (.l 0))),(.i (.v 6) (.pick (.l 3) (.l 0) (.c (.bool false))))]),(.cond (.v 6) [] [(.exit 0)]),(.block 1 [(.ops [(.i .l (.mv (.v 4))),(.i .l (.fad 3 (.v 2))),(.i .l (.load false 1 (.l 0))),(.i .l (.mv (.v 5))),(.i .l (.ixa (some 46) none (.l 1) (.l 0))),(.i .l (.load true 4 (.l 0))),(.i .l (.mv (.v 1))),(.i .l (.mv (.v 4))),(.i .l (.bin (.int .i64) .sub (.l 1) (.l 0))),(.i .l (.call (.c (.fn 60 [] [])) [(.l 3),(.l 0)])),(.i .l (.bin (.int .i64) .add (.l 9) (.l 0))),(.i (.v 4) (.mv (.l 0)))])]),(.ops [(.i .l (.mv (.v 5))),(.i .l (.bin (.int .i64) .add (.l 0) (.c (.int .i64 1)))),(.i (.v 5) (.mv (.l 0)))])]
def sK:List RS:=[(.ops [(.i (.v 2) (.box 4 (.v 0))),(.i (.v 3) (.mv (.c (.int .i64 0))))]),(.ops [(.i (.v 4) (.mv (.c (.int .i64 1))))]),(.ops [(.i (.v 5) (.mv (.c (.int .i64 0))))]),(.block 0 [(.loop gG)]),(.ops [(.i .l (.mv (.v 4))),(.i (.v 3) (.mv (.l 0)))]),.ret]
theorem BJ:FnR Try.prog po 60 2 7 [0,1,2,4,5,6,16] sK [(.v 3)] true:=⟨_,_,Try.func60,rfl,rfl,by kernel_rfl,by kernel_rfl,by kernel_rfl,by kernel_rfl,by kernel_rfl⟩
def bV:List RS:=[(.ops [(.i .l (.mv (.v 9))),(.i .l (.mv (.v 6))),(.i (.v 22) (.bin (.int .i64) .lss (.l 1) (.l 0)))]),(.cond (.v 22) [] [(.exit 1)]),(.block 2 [(.ops [(.i .l (.mv (.v 2))),(.i (.v 10) (.mv (.l 0)))]),(.ops [(.i .l (.fad 0 (.v 4))),(.i .l (.load false 1 (.l 0))),(.i .l (.bin (.int .i64) .eql (.l 0) (.c (.int .i64 5)))),(.i .l (.mv (.l 0))),(.g (.l 0) true .l (.mv (.v 9))),(.g (.l 1) true .l (.bin (.int .i64) .eql (.l 0) (.c (.int .i64 1)))),(.i (.v 23) (.pick (.l 2) (.l 0) (.c (.bool false))))]),(.cond (.v 23) [(.ops [(.i .l (.mv (.v 10))),(.i .l (.bin (.int .i64) .add (.l 0) (.c (.int .i64 1)))),(.i (.v 10) (.mv (.l 0)))])] []),(.ops [(.i .l (.load true 1 (.v 3))),(.i .l (.fad 3 (.v 4))),(.i .l (.load false 1 (.l 0))),(.i .l (.mv (.v 9))),(.i .l (.ixa (some 46) none (.l 1) (.l 0))),(.i .l (.load true 4 (.l 0))),(.i .l (.mv (.v 10))),(.i .l (.call (.c (.fn 102 [] [])) [(.l 6),(.l 1),(.l 0)])),(.i (.v 11) (.mv (.l 0)))]),(.ops [(.i .l (.mv (.v 11))),(.i (.v 24) (.bin (.int .i64) .neq (.l 0) (.c (.int .i64 0))))]),(.cond (.v 24) [(.ops [(.i .l (.mv (.v 11))),(.i (.v 5) (.mv (.l 0)))]),.ret] [])]),(.ops [(.i .l (.mv (.v 9))),(.i .l (.bin (.int .i64) .add (.l 0) (.c (.int .i64 1)))),(.i (.v 9) (.mv (.l 0)))])]
def nh:List RS:=[(.ops [(.i (.v 3) (.box 1 (.v 0))),(.i (.v 4) (.box 4 (.v 1))),(.i (.v 5) (.mv (.c (.int .i64 0))))]),(.ops [(.i .l (.fad 0 (.v 4))),(.i .l (.load false 1 (.l 0))),(.i .l (.call (.c (.fn 119 [] [])) [(.l 0)])),(.i (.v 6) (.mv (.l 0)))]),(.ops [(.i .l (.mv (.v 6))),(.i (.v 12) (.bin (.int .i64) .lss (.l 0) (.c (.int .i64 0))))]),(.cond (.v 12) [(.ops [(.i (.v 5) (.mv (.c (.int .i64 2))))]),.ret] []),(.ops [(.i .l (.fad 3 (.v 4))),(.i .l (.load false 1 (.l 0))),(.i .l (.len false (some 46) (.l 0))),(.i .l (.mv (.v 6))),(.i .l (.bin (.int .i64) .neq (.l 1) (.l 0))),(.i .l (.mv (.l 0))),(.g (.l 0) false .l (.fad 2 (.v 4))),(.g (.l 1) false .l (.load false 1 (.l 0))),(.g (.l 2) false .l (.bin (.int .i64) .neq (.l 0) (.c (.int .i64 0)))),(.g (.l 3) false .l (.mv (.l 0))),(.g (.l 0) true .l (.fad 0 (.v 4))),(.g (.l 1) true .l (.load false 1 (.l 0))),(.g (.l 2) true .l (.bin (.int .i64) .neq (.l 0) (.c (.int .i64 2)))),(.g (.l 7) false .l (.pick (.l 3) (.l 0) (.c (.bool false)))),(.i (.v 13) (.pick (.l 8) (.c (.bool true)) (.l 0)))]),(.cond (.v 13) [(.ops [(.i (.v 5) (.mv (.c (.int .i64 5))))]),.ret] []),(.ops [(.i (.v 7) (.mv (.c (.int .i64 0)))),(.i (.v 8) (.mv (.c (.int .i64 0))))]),(.ops [(.i .l (.fad 0 (.v 4))),(.i (.v 14) (.load false 1 (.l 0)))]),(.block 0 [(.ops [(.i .l (.bin (.int .i64) .eql (.v 14) (.c (.int .i64 4)))),(.i (.v 16) (.mv (.l 0)))]),(.cond (.v 16) [(.ops [(.i .l (.mv (.v 2))),(.i .l (.bin (.int .i64) .sub (.l 0) (.c (.int .i64 1)))),(.i (.v 8) (.mv (.l 0)))])] [(.ops [(.i .l (.bin (.int .i64) .eql (.v 14) (.c (.int .i64 6)))),(.i (.v 17) (.mv (.l 0)))]),(.cond (.v 17) [(.ops [(.i (.v 7) (.mv (.c (.int .i64 1)))),(.i (.v 8) (.mv (.c (.int .i64 5))))])] [(.ops [(.i .l (.bin (.int .i64) .eql (.v 14) (.c (.int .i64 15)))),(.i (.v 18) (.mv (.l 0)))]),(.cond (.v 18) [(.ops [(.i (.v 8) (.mv (.c (.int .i64 15))))])] [(.ops [(.i .l (.bin (.int .i64) .eql (.v 14) (.c (.int .i64 18)))),(.i (.v 19) (.mv (.l 0)))]),(.cond (.v 19) [(.ops [(.i .l (.fad 0 (.v 3))),(.i .l (.load false 1 (.l 0))),(.i .l (.len false (some 46) (.l 0))),(.i .l (.bin (.int .i64) .sub (.l 0) (.c (.int .i64 1)))),(.i (.v 8) (.mv (.l 0)))])] [(.ops [(.i .l (.fad 1 (.v 4))),(.i .l (.load false 1 (.l 0))),(.i (.v 15) (.bin (.int .i64) .neq (.l 0) (.c (.int .i64 0))))]),(.cond (.v 15) [(.ops [(.i (.v 5) (.mv (.c (.int .i64 5))))]),.ret] [])])])])])]),(.ops [(.i .l (.fad 1 (.v 4))),(.i .l (.load false 1 (.l 0))),(.i .l (.mv (.v 7))),(.i .l (.bin (.int .i64) .lss (.l 1) (.l 0))),(.i .l (.mv (.l 0))),(.g (.l 0) false .l (.fad 1 (.v 4))),(.g (.l 1) false .l (.load false 1 (.l 0))),(.g (.l 2) false .l (.mv (.v 8))),(.g (.l 3) false .l (.bin (.int .i64) .gtr (.l 1) (.l 0))),(.i (.v 20) (.pick (.l 4) (.c (.bool true)) (.l 0)))]),(.cond (.v 20) [(.ops [(.i (.v 5) (.mv (.c (.int .i64 1))))]),.ret] []),(.ops [(.i .l (.fad 0 (.v 4))),(.i .l (.load false 1 (.l 0))),(.i .l (.bin (.int .i64) .eql (.l 0) (.c (.int .i64 5)))),(.i .l (.mv (.l 0))),(.g (.l 0) true .l (.mv (.v 2))),(.g (.l 1) true .l (.bin (.int .i64) .eql (.l 0) (.c (.int .i64 12)))),(.i (.v 21) (.pick (.l 2) (.l 0) (.c (.bool false))))]),(.cond (.v 21) [(.ops [(.i (.v 5) (.mv (.c (.int .i64 3))))]),.ret] []),(.ops [(.i (.v 9) (.mv (.c (.int .i64 0))))]),(.block 1 [(.loop bV)]),(.ops [(.i (.v 5) (.mv (.c (.int .i64 0))))]),.ret]
theorem wT:FnR Try.prog po 102 3 25 [0,1,2,3,4,6,7,8,9,10,11,12,17,32,34,37,38,42,44,46,61,68,71,81,93] nh [(.v 5)] true:=⟨_,_,Try.func102,rfl,rfl,by kernel_rfl,by kernel_rfl,by kernel_rfl,by kernel_rfl,by kernel_rfl⟩
def fk:List RS:=[(.ops [(.i .l (.mv (.v 3))),(.i .l (.fad 0 (.v 1))),(.i .l (.load false 1 (.l 0))),(.i .l (.len false (some 46) (.l 0))),(.i (.v 7) (.bin (.int .i64) .lss (.l 3) (.l 0)))]),(.cond (.v 7) [] [(.exit 0)]),(.block 1 [(.ops [(.i .l (.fad 0 (.v 1))),(.i .l (.load false 1 (.l 0))),(.i .l (.mv (.v 3))),(.i .l (.ixa (some 46) none (.l 1) (.l 0))),(.i .l (.load true 4 (.l 0))),(.i (.v 4) (.alloc [(.int .i64 0),(.int .i64 0),(.int .i64 0),.nils])),(.i .n (.store 4 (.v 4) (.l 0)))]),(.ops [(.i .l (.load true 4 (.v 4))),(.i .l (.call (.c (.fn 101 [] [])) [(.l 0),(.c (.int .i64 30))])),(.i (.v 8) (.bin (.int .i64) .gtr (.l 0) (.c (.int .i64 30))))]),(.cond (.v 8) [(.ops [(.i .l (.mv (.v 3))),(.i .l (.call (.c (.fn 100 [] [])) [(.c (.int .i64 4)),(.l 0)])),(.i .n (.store 2 (.v 2) (.l 0)))]),.ret] []),(.ops [(.i .l (.load true 4 (.v 4))),(.i .l (.call (.c (.fn 60 [] [])) [(.l 0),(.c (.int .i64 120))])),(.i (.v 9) (.bin (.int .i64) .gtr (.l 0) (.c (.int .i64 120))))]),(.cond (.v 9) [(.ops [(.i .l (.mv (.v 3))),(.i .l (.call (.c (.fn 100 [] [])) [(.c (.int .i64 3)),(.l 0)])),(.i .n (.store 2 (.v 2) (.l 0)))]),.ret] []),(.ops [(.i .l (.load true 1 (.v 1))),(.i .l (.load true 4 (.v 4))),(.i .l (.call (.c (.fn 102 [] [])) [(.l 1),(.l 0),(.c (.int .i64 0))])),(.i (.v 5) (.mv (.l 0)))]),(.ops [(.i .l (.mv (.v 5))),(.i (.v 10) (.bin (.int .i64) .neq (.l 0) (.c (.int .i64 0))))]),(.cond (.v 10) [(.ops [(.i .l (.mv (.v 5))),(.i .l (.mv (.v 3))),(.i .l (.call (.c (.fn 100 [] [])) [(.l 1),(.l 0)])),(.i .n (.store 2 (.v 2) (.l 0)))]),.ret] [])]),(.ops [(.i .l (.mv (.v 3))),(.i .l (.bin (.int .i64) .add (.l 0) (.c (.int .i64 1)))),(.i (.v 3) (.mv (.l 0)))])]
def nz:List RS:=[(.ops [(.i (.v 1) (.box 1 (.v 0))),(.i (.v 2) (.alloc [(.int .i64 0),(.int .i64 0)]))]),(.ops [(.i .l (.fad 0 (.v 1))),(.i .l (.load false 1 (.l 0))),(.i .l (.len false (some 46) (.l 0))),(.i .l (.bin (.int .i64) .lss (.l 0) (.c (.int .i64 1)))),(.i .l (.mv (.l 0))),(.g (.l 0) false .l (.fad 0 (.v 1))),(.g (.l 1) false .l (.load false 1 (.l 0))),(.g (.l 2) false .l (.len false (some 46) (.l 0))),(.g (.l 3) false .l (.bin (.int .i64) .gtr (.l 0) (.c (.int .i64 6)))),(.i (.v 6) (.pick (.l 4) (.c (.bool true)) (.l 0)))]),(.cond (.v 6) [(.ops [(.i .l (.call (.c (.fn 100 [] [])) [(.c (.int .i64 3)),(.c (.int .i64 (-1)))])),(.i .n (.store 2 (.v 2) (.l 0)))]),.ret] []),(.ops [(.i (.v 3) (.mv (.c (.int .i64 0))))]),(.block 0 [(.loop fk)]),(.ops [(.i .l (.build [(.int .i64 0),(.int .i64 0)] [(0,1),(1,1)] [])),(.i .n (.store 2 (.v 2) (.l 0)))]),.ret]
theorem vO:FnR Try.prog po 73 1 11 [0,1,2,3,4,5,15,21,31,36,43] nz [(.cell true 2 2)] true:=⟨_,_,Try.func73,rfl,rfl,by kernel_rfl,by kernel_rfl,by kernel_rfl,by kernel_rfl,by kernel_rfl⟩
def eo:List RS:=[(.ops [(.i .l (.mv (.v 3))),(.i .l (.fad 0 (.v 1))),(.i .l (.load false 1 (.l 0))),(.i .l (.len false (some 46) (.l 0))),(.i (.v 5) (.bin (.int .i64) .lss (.l 3) (.l 0)))]),(.cond (.v 5) [] [(.exit 0)]),(.block 1 [(.ops [(.i .l (.fad 0 (.v 1))),(.i .l (.load false 1 (.l 0))),(.i .l (.mv (.v 3))),(.i .l (.ixa (some 46) none (.l 1) (.l 0))),(.i .l (.load true 4 (.l 0))),(.i .l (.call (.c (.fn 60 [] [])) [(.l 0),(.c (.int .i64 600))])),(.i (.v 6) (.bin (.int .i64) .gtr (.l 0) (.c (.int .i64 600))))]),(.cond (.v 6) [(.ops [(.i (.v 2) (.mv (.c (.bool true))))]),.ret] [])]),(.ops [(.i .l (.mv (.v 3))),(.i .l (.bin (.int .i64) .add (.l 0) (.c (.int .i64 1)))),(.i (.v 3) (.mv (.l 0)))])]
def lF:List RS:=[(.ops [(.i (.v 1) (.box 1 (.v 0))),(.i (.v 2) (.mv (.c (.bool false))))]),(.ops [(.i .l (.fad 0 (.v 1))),(.i .l (.load false 1 (.l 0))),(.i .l (.len false (some 46) (.l 0))),(.i (.v 4) (.bin (.int .i64) .gtr (.l 0) (.c (.int .i64 20))))]),(.cond (.v 4) [(.ops [(.i (.v 2) (.mv (.c (.bool true))))]),.ret] []),(.ops [(.i (.v 3) (.mv (.c (.int .i64 0))))]),(.block 0 [(.loop eo)]),(.ops [(.i (.v 2) (.mv (.c (.bool false))))]),.ret]
theorem qY:FnR Try.prog po 26 1 7 [0,1,2,3,7,12,21] lF [(.v 2)] true:=⟨_,_,Try.func26,rfl,rfl,by kernel_rfl,by kernel_rfl,by kernel_rfl,by kernel_rfl,by kernel_rfl⟩
theorem ExL.len:∀ {l:List XD} {es:List (List AV)},ExL l es→es.length=l.length
 | [],es,h=>by
   simp only[ExL]at h
   subst h
   rfl
 | x::l,es,h=>by
   simp only[ExL]at h
   obtain⟨r,rs,rfl,_,h2⟩:=h
   simp[ExL.len h2]
theorem ExL.get:∀ {l:List XD} {es:List (List AV)} {i:Nat} {x:XD},ExL l es→l[i]? =some x→∃ r,es[i]? =some r∧ExA x r
 | [],es,i,x,h,hx=>by simp at hx
 | y::l,es,i,x,h,hx=>by
   simp only[ExL]at h
   obtain⟨r,rs,rfl,h1,h2⟩:=h
   cases i with
   | zero=>
     obtain rfl:y=x:=by simpa using hx
     exact⟨r,rfl,h1⟩
   | succ i=>simpa using ExL.get h2 (by simpa using hx)
theorem ExA.row {x:XD} {r:List AV} (h:ExA x r):∃ v es,r=[.int .i64 x.op,.int .i64 x.k,.int .i64 x.n,v]∧SlA tE v es∧ExL x.l es:=by
 cases x with
 | mk op k n l=>simp only[ExA]at h;exact h
theorem ExA.one {x:XD} {r:List AV} (h:ExA x r):r.all AV.one=true∧r.length=4:=by
 obtain⟨v,es,rfl,hv,_⟩:=h.row
 rcases hv with⟨_,rfl⟩ | ⟨id,rfl⟩<;>exact⟨rfl,rfl⟩
theorem ExA.facts {x:XD} {r:List AV} (h:ExA x r):∃ v es,r=[.int .i64 x.op,.int .i64 x.k,.int .i64 x.n,v]∧IsL tE v es∧v.one=true∧es.length=x.l.length∧
  ∀ (i:Nat) (y:XD),x.l[i]? =some y→∃ q,bX (some tE) none v (.int .i64 (i:Int))=some (.ip q 0)∧ldA true 4 q 0=some (.agg q)∧ExA y q:=by
 obtain⟨v,es,rfl,hv,hl⟩:=h.row
 refine⟨v,es,rfl,hv.isL,?_,hl.len,fun i y hy=> ?_⟩
 ·rcases hv with⟨_,rfl⟩ | ⟨id,rfl⟩<;>rfl
 ·obtain⟨q,h1,h2⟩:=hl.get hy
  exact⟨q,hv.isL.ix .i64 i q h1,bv h2.one.2,h2⟩
theorem M8:nK Try.prog tE=some [3,3,2,44]:=by kernel_rfl
theorem Om:(Try.prog).underlying 3=some (.int .i64):=by kernel_rfl
theorem MO:(Try.prog).underlying 2=some (.int .i64):=by kernel_rfl
theorem Hr:(Try.prog).underlying 44=some (.slice tE):=by kernel_rfl
theorem Ol:∀ (n:Nat) (r:List AV),TyA Try.prog n tE r→∃ x,ExA x r:=by
 intro n
 induction n using Nat.strongRecOn with
 | ind n ih=>
   intro r h
   obtain⟨m,rfl,parts,rfl,hl,hf⟩:=pk M8 h
   obtain⟨p0,a0,_,b0⟩:=hf 0 _ rfl
   obtain⟨p1,a1,_,b1⟩:=hf 1 _ rfl
   obtain⟨p2,a2,_,b2⟩:=hf 2 _ rfl
   obtain⟨p3,a3,_,b3⟩:=hf 3 _ rfl
   obtain⟨op,rfl,_⟩:=iZ Om b0
   obtain⟨k,rfl,_⟩:=iZ Om b1
   obtain⟨z,rfl,_⟩:=iZ MO b2
   obtain⟨m',v,es,rfl,rfl,hv,_,hr⟩:=Aw Hr b3
   obtain⟨c0,c1,c2,c3,rfl⟩:=Of hl
   simp only[List.getElem?_cons_zero,List.getElem?_cons_succ,Option.some.injEq]at a0 a1 a2 a3
   subst a0 a1 a2 a3
   have key:∀ es:List (List AV),(∀ r∈es,∃ x,ExA x r)→∃ l,ExL l es:=by
    intro es
    induction es with
    | nil=>intro _;exact⟨[],rfl⟩
    | cons r es ih2=>
      intro hh
      obtain⟨x,hx⟩:=hh r (by simp)
      obtain⟨l,hl⟩:=ih2 fun q hq=>hh q (by simp[hq])
      exact⟨x::l,by simp only[ExL];exact⟨r,es,rfl,hx,hl⟩⟩
   obtain⟨l,hl⟩:=key es fun r hr'=>ih m' (by omega) r (hr r hr').2
   exact⟨.mk op k z l,by simp only[ExA];exact⟨v,es,rfl,hv.sla,hl⟩⟩
def O6 (l:List XD) (r:List AV):Prop:=∃ v es,r=[v]∧SlA tE v es∧ExL l es
theorem OK:nK Try.prog 48=some [44]:=by kernel_rfl
theorem Mz {n:Nat} {r:List AV} (h:TyA Try.prog n 48 r):∃ l,O6 l r:=by
 obtain⟨m,rfl,parts,rfl,hl,hf⟩:=pk OK h
 obtain⟨p0,a0,_,b0⟩:=hf 0 _ rfl
 obtain⟨m',v,es,rfl,rfl,hv,_,hr⟩:=Aw Hr b0
 obtain⟨c0,rfl⟩:=OD hl
 simp only[List.getElem?_cons_zero,Option.some.injEq]at a0
 subst a0
 have key:∀ es:List (List AV),(∀ r∈es,∃ x,ExA x r)→∃ l,ExL l es:=by
  intro es
  induction es with
  | nil=>intro _;exact⟨[],rfl⟩
  | cons r es ih2=>
    intro hh
    obtain⟨x,hx⟩:=hh r (by simp)
    obtain⟨l,hl⟩:=ih2 fun q hq=>hh q (by simp[hq])
    exact⟨x::l,by simp only[ExL];exact⟨r,es,rfl,hx,hl⟩⟩
 obtain⟨l,hl⟩:=key es fun r hr'=>Ol m' r (hr r hr').2
 exact⟨l,v,es,rfl,hv.sla,hl⟩
end Go.Proofs.Ytkdbjfncchmmpaa
