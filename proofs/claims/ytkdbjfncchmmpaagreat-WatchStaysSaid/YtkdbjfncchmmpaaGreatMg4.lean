/- Any argument of numbers, bools, strings, structs and slices of these: from 'it reads as data' to a value of the plain model, and what its type says of it. Slices that nobody turns. -/
import Derived.Test.YtkdbjfncchmmpaaGreatMg3
namespace Go.Proofs.YtkdbjfncchmmpaaGreat
open Nat (reduceAdd reduceSub reduceLeDiff reduceLT)
open List (replicate)
set_option linter.unusedSimpArgs false
set_option linter.unusedVariables false
open Go Go.ChangeShapes Go.WideShapes Go.ChangeAt Go.RowKit Go.Deep
def TyA (P:Program):Nat→TypeId→List AV→Prop
 | 0,_,_=>False
 | n+1,t,cs=>match P.underlying t with
   | some .bool=>∃ b,cs=[.bool b]
   | some (.int k)=>∃ z,cs=[.int k z]∧(Lit.int k z).wf=true
   | some .string=>∃ s,cs=[.str s]∧s.length≤maxLen
   | some (.slice e)=>cs=[.nils]∨∃ es,cs=[.isl none e es]∧es.length≤maxLen∧∀ r∈es,r.length=P.cellsOf e∧TyA P n e r
   | some (.struct fs)=>∃ parts:List (List AV),cs=parts.flatten∧parts.length=fs.size∧∀ (i:Nat) (f:Field),fs[i]? =some f→∃ p,parts[i]? =some p∧p.length=P.cellsOf f.type∧TyA P n f.type p
   | _=>False
def jp (P:Program):Nat→List Field→Nat→Bool
 | o,[],m=>o==m
 | o,f::r,m=>f.offset==o && jp P (o+P.cellsOf f.type) r m
def wK (P:Program) (S:List TypeId):Bool:=S.all fun t=>match P.underlying t with
 | some .bool | some (.int _) | some .string=>true
 | some (.slice e)=>S.contains e && P.cellsOf e != 0
 | some (.struct fs)=>jp P 0 fs.toList (P.cellsOf t) && fs.toList.all fun f=>S.contains f.type
 | _=>false
theorem qW {P:Program}:∀ {l:List Field} {o m:Nat},jp P o l m=true→o≤m
 | [],o,m,h=>by simp[jp]at h;omega
 | f::r,o,m,h=>by
   simp only[jp,Bool.and_eq_true]at h
   have:=qW h.2
   omega
section
variable {H:Type} {enc:TypeId×Value→H} {P:Program} {W:World} {S:List TypeId}
theorem pT {n:Nat} (ih:∀ t cs x,t∈S→DataW.trod enc P W 0 (fun _=>true) true n t cs=some x→∃ avs,TyA P n t avs∧VRs P (m0A W) h0A avs cs):
  ∀ (fl:List Field) (o m:Nat) (cs:List Value),jp P o fl m=true→cs.length=m→(∀ f∈fl,f.type∈S∧∃ x,DataW.trod enc P W 0 (fun _=>true) true n f.type ((cs.drop f.offset).take (P.cellsOf f.type))=some x)→
  ∃ parts:List (List AV),parts.length=fl.length∧(∀ (i:Nat) (f:Field),fl[i]? =some f→∃ p,parts[i]? =some p∧p.length=P.cellsOf f.type∧TyA P n f.type p)∧VRs P (m0A W) h0A parts.flatten (cs.drop o)
 | [],o,m,cs,h,hc,hf=>by
   simp only[jp,beq_iff_eq]at h
   refine⟨[],rfl,fun i f hi=>by simp at hi,?_⟩
   rw[List.drop_eq_nil_of_le (by omega)]
   exact VRs.nil
 | f::fl,o,m,cs,h,hc,hf=>by
   simp only[jp,Bool.and_eq_true,beq_iff_eq]at h
   obtain⟨h1,h2⟩:=h
   have hle:=qW h2
   obtain⟨hs,x,hx⟩:=hf f (by simp)
   obtain⟨p,hp1,hp2⟩:=ih _ _ _ hs hx
   obtain⟨parts,q1,q2,q3⟩:=pT ih fl (o+P.cellsOf f.type) m cs h2 hc (fun g hg=>hf g (by simp[hg]))
   rw[h1]at hp2
   have hl:p.length=P.cellsOf f.type:=by
    have:=hp2.1
    rw[List.length_take,List.length_drop]at this
    omega
   refine⟨p::parts,by simp[q1],?_,?_⟩
   ·intro i g hi
    cases i with
    | zero=>
      obtain rfl:f=g:=by simpa using hi
      exact⟨p,rfl,hl,hp1⟩
    | succ i=>exact q2 i g (by simpa using hi)
   ·have e:cs.drop o=(cs.drop o).take (P.cellsOf f.type)++cs.drop (o+P.cellsOf f.type):=by
     rw[←List.drop_drop,List.take_append_drop]
    rw[e,List.flatten_cons]
    exact VRs.append hp2 q3
theorem xy (hS:wK P S=true):∀ (fuel:Nat) (t:TypeId) (cs:List Value) (x:DataW H×List MemPlace),t∈S→DataW.trod enc P W 0 (fun _=>true) true fuel t cs=some x→
  ∃ avs,TyA P fuel t avs∧VRs P (m0A W) h0A avs cs
 | 0,t,cs,x,_,h=>by simp[DataW.trod]at h
 | n+1,t,cs,x,ht,h=>by
   have hS':=hS
   have hc:=List.all_eq_true.1 hS t ht
   simp only[TyA]
   split at hc
   ·rename_i hu
    obtain⟨b,rfl, -⟩:=DataW.trod_bool hu h
    exact⟨_,⟨b,rfl⟩,VRs.cons (.bool b) VRs.nil⟩
   ·rename_i k hu
    obtain⟨z,rfl, -,hw⟩:=DataW.trod_int hu h
    exact⟨_,⟨z,rfl,hw⟩,VRs.cons (.int k z) VRs.nil⟩
   ·rename_i hu
    obtain⟨s,rfl, -,hw⟩:=DataW.trod_string hu h
    exact⟨_,⟨s.data.toList,rfl,by simpa using hw⟩,VRs.cons (Nt s) VRs.nil⟩
   ·rename_i e hu
    simp only[Bool.and_eq_true,bne_iff_ne,ne_eq,List.contains_iff_mem]at hc
    rcases DataW.trod_slice hu h with⟨rfl, -⟩ | ⟨a,len,cap,elems,rest,n',hn,rfl, -,hb,hl,hm,hlen,hel, -, -⟩
    ·exact⟨_,Or.inl rfl,VRs.cons .nils VRs.nil⟩
    ·obtain rfl:n=n':=by omega
     have key:∀ i,i<len→∃ q:List AV×List Value,W.cells? 0 (a.add (i*P.cellsOf e)) (P.cellsOf e)=some q.2∧TyA P n e q.1∧VRs P (m0A W) h0A q.1 q.2:=by
      intro i hi
      have h1:=hel i hi
      rw[List.getElem?_eq_getElem (by omega)]at h1
      obtain⟨cs',h2,h3⟩:=Option.bind_eq_some_iff.1 h1
      obtain⟨avs,h4,h5⟩:=xy hS' n e cs' _ hc.1 h3
      exact⟨(avs,cs'),h2,h4,h5⟩
     obtain⟨V,hV⟩:=choose_lt key
     have hlen2:∀ i,i<len→(V i).1.length=P.cellsOf e∧(V i).2.length=P.cellsOf e:=fun i hi=>by
      obtain⟨h1,h2,h3⟩:=hV i hi
      have:=(World.cells?_some h1).2.1
      exact⟨by rw[←this,h3.1],this⟩
     refine⟨_,Or.inr ⟨(List.range len).map fun i=>(V i).1,rfl,by simp;omega,?_⟩,VRs.cons ?_ VRs.nil⟩
     ·intro r hr
      obtain⟨i,hi,rfl⟩:=List.mem_map.1 hr
      have hi:=List.mem_range.1 hi
      exact⟨(hlen2 i hi).1,(hV i hi).2.1⟩
     ·by_cases hz:len=0
      ·subst hz
       exact .isl0 e a cap
      ·have ha:a=⟨a.block,a.off,none⟩:=by
        obtain⟨h1,h2,h3⟩:=hV 0 (by omega)
        have:=(World.cells?_some h1).2.2 0 (by omega)
        rw[List.getElem?_eq_getElem (by rw[(hlen2 0 (by omega)).2];omega)]at this
        have hsp:=World.cell?_spot this
        obtain⟨b,o,sp⟩:=a
        simp[Addr.add]at hsp
        subst hsp
        rfl
       have:=VR.isl (P:=P) (m:=m0A W) (h:=h0A) none e ((List.range len).map fun i=>(V i).1) a.block a.off cap (fun i j=>(V i).2.getD j default) (fun r hr=> ?_) (fun i hi j hj=> ?_) (fun i hi j hj=> ?_) (by simpa using hl) (fun q hq=>by cases hq)
       ·rw[←ha]at this
        simpa using this
       ·obtain⟨i,hi,rfl⟩:=List.mem_map.1 hr
        exact(hlen2 i (List.mem_range.1 hi)).1
       ·simp only[List.length_map,List.length_range]at hi
        obtain⟨h1,h2,h3⟩:=hV i hi
        have h4:=(World.cells?_some h1).2.2 j hj
        rw[Go.Deep.add_add,ha,Addr.add_lit]at h4
        have h5:j<(V i).2.length:=by rw[(hlen2 i hi).2];exact hj
        rw[List.getElem?_eq_getElem h5]at h4
        show W.cell? _=_
        rw[h4]
        simp[List.getD,h5]
       ·simp only[List.length_map,List.length_range]at hi
        obtain⟨h1,h2,h3⟩:=hV i hi
        simp only[List.getElem_map,List.getElem_range]at hj ⊢
        have h5:j<(V i).2.length:=by rw[h3.1];exact hj
        have:=h3.2 j hj h5
        simpa[List.getD,h5]using this
   ·rename_i fs hu
    simp only[Bool.and_eq_true,List.all_eq_true,List.contains_iff_mem]at hc
    obtain⟨xs,n',hn, -,hl,hxl,hf⟩:=DataW.trod_struct hu h
    obtain rfl:n=n':=by omega
    obtain⟨parts,q1,q2,q3⟩:=pT (S:=S) (n:=n) (fun t cs x ht h=>xy hS' n t cs x ht h) fs.toList 0 (P.cellsOf t) cs hc.1 hl (fun f hm=>⟨hc.2 f hm,by
     obtain⟨i,hi⟩:=List.mem_iff_getElem?.1 hm
     rw[Array.getElem?_toList]at hi
     have h1:=hf i f hi
     have h2:=(Array.getElem?_eq_some_iff.1 hi).1
     rw[List.getElem?_eq_getElem (by omega)]at h1
     exact⟨_,h1⟩⟩)
    exact⟨_,⟨parts,rfl,by simpa using q1,fun i f hi=>q2 i f (by rw[Array.getElem?_toList];exact hi)⟩,by simpa using q3⟩
   ·cases hc
theorem Is {t e:TypeId} (hS:wK P S=true) (hm:t∈S) (hu:P.underlying t=some (.slice e)) {v:Value} {d:DataW H} {p:List MemPlace} {r:Reach} {b0:Nat} (hok:Value.okWide P W r b0 t v) (h:DataW.Trod enc P W 0 (fun _=>true) true t v d p):
  ∃ n av,TyA P n t [av]∧VR P (m0A W) h0A av v:=by
 obtain⟨a,len,cap,rfl⟩:=okWide_slice hu hok
 obtain⟨fuel,hf⟩:=h
 obtain⟨avs,h1,h2⟩:=xy hS fuel t _ _ hm hf
 have hl:=h2.1
 match avs,hl with
 | [av],_=>exact⟨fuel,av,h1,h2.2 0 (by simp) (by simp[Value.cells])⟩
end
section
variable {P:Program} {t e:TypeId} {cs:List AV}
theorem iS {n:Nat} {k:IntKind} (hu:P.underlying t=some (.int k)) (h:TyA P n t cs):∃ z,cs=[.int k z]∧(Lit.int k z).wf=true:=by
 cases n with
 | zero=>exact h.elim
 | succ n=>simpa only[TyA,hu]using h
def InS (e:TypeId) (v:AV) (es:List (List AV)):Prop:=(es=[]∧v= .nils)∨v= .isl none e es
theorem BU {n:Nat} (hu:P.underlying t=some (.slice e)) (h:TyA P n t cs):∃ m v es,n=m+1∧cs=[v]∧InS e v es∧es.length≤maxLen∧∀ r∈es,r.length=P.cellsOf e∧TyA P m e r:=by
 cases n with
 | zero=>exact h.elim
 | succ n=>
   simp only[TyA,hu]at h
   rcases h with rfl | ⟨es,rfl,h1,h2⟩
   ·exact⟨n,.nils,[],rfl,rfl,.inl ⟨rfl,rfl⟩,by simp,fun r hr=>by simp at hr⟩
   ·exact⟨n,_,es,rfl,rfl,.inr rfl,h1,h2⟩
def nT (P:Program) (t:TypeId):Option (List TypeId):=match P.underlying t with
 | some (.struct fs)=>some (fs.toList.map (·.type))
 | _=>none
theorem pd {n:Nat} {ts:List TypeId} (hu:nT P t=some ts) (h:TyA P n t cs):∃ m,n=m+1∧∃ parts:List (List AV),cs=parts.flatten∧parts.length=ts.length∧∀ (i:Nat) (t':TypeId),ts[i]? =some t'→∃ p,parts[i]? =some p∧p.length=P.cellsOf t'∧TyA P m t' p:=by
 cases n with
 | zero=>exact h.elim
 | succ n=>
   unfold nT at hu
   simp only[TyA]at h
   split at hu
   ·rename_i fs hf
    cases hu
    rw[hf]at h
    obtain⟨parts,h1,h2,h3⟩:=h
    refine⟨n,rfl,parts,h1,by simpa using h2,fun i t' hi=> ?_⟩
    rw[List.getElem?_map]at hi
    obtain⟨f,h4,h5⟩:=Option.map_eq_some_iff.1 hi
    subst h5
    exact h3 i f (by rw[←Array.getElem?_toList];exact h4)
   ·cases hu
theorem O2 {α:Type} {l:List α} (h:l.length=1):∃ a,l=[a]:=by
 match l,h with
 | [a],_=>exact⟨a,rfl⟩
theorem Ph {α:Type} {l:List α} (h:l.length=2):∃ a b,l=[a,b]:=by
 match l,h with
 | [a,b],_=>exact⟨a,b,rfl⟩
theorem O3 {α:Type} {l:List α} (h:l.length=3):∃ a b c,l=[a,b,c]:=by
 match l,h with
 | [a,b,c],_=>exact⟨a,b,c,rfl⟩
theorem OA {α:Type} {l:List α} (h:l.length=4):∃ a b c d,l=[a,b,c,d]:=by
 match l,h with
 | [a,b,c,d],_=>exact⟨a,b,c,d,rfl⟩
end
theorem SlA.isL {e:TypeId} {v:AV} {es:List (List AV)} (h:SlA e v es):IsL e v es:=by
 rcases h with⟨rfl,rfl⟩ | ⟨id,rfl⟩
 ·exact iP e
 ·exact kA _ _ _
theorem InS.sla {e:TypeId} {v:AV} {es:List (List AV)} (h:InS e v es):SlA e v es:=by
 rcases h with h | h
 ·exact .inl h
 ·exact .inr ⟨_,h⟩
theorem VaL.len:∀ {l:List VD} {es:List (List AV)},VaL l es→es.length=l.length
 | [],es,h=>by
   simp only[VaL]at h
   subst h
   rfl
 | x::l,es,h=>by
   simp only[VaL]at h
   obtain⟨r,rs,rfl,_,h2⟩:=h
   simp[VaL.len h2]
theorem VaL.get:∀ {l:List VD} {es:List (List AV)} {i:Nat} {x:VD},VaL l es→l[i]? =some x→∃ r,es[i]? =some r∧VaA x r
 | [],es,i,x,h,hx=>by simp at hx
 | y::l,es,i,x,h,hx=>by
   simp only[VaL]at h
   obtain⟨r,rs,rfl,h1,h2⟩:=h
   cases i with
   | zero=>
     obtain rfl:y=x:=by simpa using hx
     exact⟨r,rfl,h1⟩
   | succ i=>simpa using VaL.get h2 (by simpa using hx)
theorem VaL.append {l:List VD} {es:List (List AV)} {x:VD} {r:List AV} (h:VaL l es) (hx:VaA x r):VaL (l++[x]) (es++[r]):=by
 induction l generalizing es with
 | nil=>
   simp only[VaL]at h
   subst h
   simp[VaL,hx]
 | cons y l ih=>
   simp only[VaL]at h
   obtain⟨q,rs,rfl,h1,h2⟩:=h
   exact⟨q,rs++[r],rfl,h1,ih h2⟩
theorem VaA.row {x:VD} {r:List AV} (h:VaA x r):∃ v es,r=[.int .i64 x.kind,.int .i64 x.n,v]∧SlA tV v es∧VaL x.l es:=by
 cases x with
 | mk kind n l=>simp only[VaA]at h;exact h
theorem VaA.one {x:VD} {r:List AV} (h:VaA x r):r.all AV.one=true∧r.length=3:=by
 obtain⟨v,es,rfl,hv,_⟩:=h.row
 rcases hv with⟨_,rfl⟩ | ⟨id,rfl⟩<;>exact⟨rfl,rfl⟩
mutual
theorem Cx:∀ {x:VD} {r:List AV},VaA x r→∃ r',wkL r=some r'∧VaA x r'
 | .mk kind n l,r,h=>by
   simp only[VaA]at h
   obtain⟨v,es,rfl,hv,hl⟩:=h
   obtain⟨es',h1,h2⟩:=xB hl
   rcases hv with⟨rfl,rfl⟩ | ⟨id,rfl⟩
   ·exact⟨_,rfl,by simp only[VaA];exact⟨_,[],rfl,.inl ⟨rfl,rfl⟩,hl⟩⟩
   ·refine⟨[.int .i64 kind,.int .i64 n,.isl none tV es'],?_,?_⟩
    ·simp only[wkL,wkA,h1,Option.map_some]
    ·simp only[VaA]
     exact⟨_,es',rfl,.inr ⟨_,rfl⟩,h2⟩
theorem xB:∀ {l:List VD} {es:List (List AV)},VaL l es→∃ es',wkR es=some es'∧VaL l es'
 | [],es,h=>by
   simp only[VaL]at h
   subst h
   exact⟨[],rfl,rfl⟩
 | x::l,es,h=>by
   simp only[VaL]at h
   obtain⟨r,rs,rfl,h1,h2⟩:=h
   obtain⟨r',q1,q2⟩:=Cx h1
   obtain⟨rs',q3,q4⟩:=xB h2
   exact⟨r'::rs',by simp only[wkR,q1,q3],by simp only[VaL];exact⟨r',rs',rfl,q2,q4⟩⟩
end
structure rI (h:AH) (v:AV) (l:List VD):Prop where
 len:dH v=some l.length
 fits:∀ s,du s (some tV) v=true
 one:v.one=true
 ix:∀ (i:Nat) (y:VD),l[i]? =some y→∃ a q,bX (some tV) none v (.int .i64 (i:Int))=some a∧(∀ h',af h h'→aD true 3 h' a=some (.agg q))∧VaA y q
theorem rI.of {h:AH} {v:AV} {es:List (List AV)} {l:List VD} (hv:SlA tV v es) (hl:VaL l es):rI h v l:=by
 refine⟨?_,hv.isL.fits,?_,fun i y hy=> ?_⟩
 ·rw[←hl.len];exact hv.isL.len
 ·rcases hv with⟨_,rfl⟩ | ⟨id,rfl⟩<;>rfl
 ·obtain⟨q,h1,h2⟩:=hl.get hy
  exact⟨.ip q 0,q,hv.isL.ix .i64 i q h1,fun h' _=>bq h2.one.2,h2⟩
theorem VaA.mk {x:VD} {v:AV} {es:List (List AV)} (hv:SlA tV v es) (hl:VaL x.l es):VaA x [.int .i64 x.kind,.int .i64 x.n,v]:=by
 rw[x.eta]
 simp only[VaA]
 exact⟨v,es,rfl,hv,by simpa[VD.l]using hl⟩
theorem VaA.facts {x:VD} {r:List AV} (h:VaA x r):∃ v es,r=[.int .i64 x.kind,.int .i64 x.n,v]∧IsL tV v es∧v.one=true∧es.length=x.l.length∧
  ∀ (i:Nat) (y:VD),x.l[i]? =some y→∃ q,bX (some tV) none v (.int .i64 (i:Int))=some (.ip q 0)∧ldA true 3 q 0=some (.agg q)∧VaA y q:=by
 obtain⟨v,es,rfl,hv,hl⟩:=h.row
 refine⟨v,es,rfl,hv.isL,?_,hl.len,fun i y hy=> ?_⟩
 ·rcases hv with⟨_,rfl⟩ | ⟨id,rfl⟩<;>rfl
 ·obtain⟨q,h1,h2⟩:=hl.get hy
  exact⟨q,hv.isL.ix .i64 i q h1,bq h2.one.2,h2⟩
abbrev tFr:TypeId:=126
abbrev tGo:TypeId:=127
theorem VaA.len3 {x:VD} {r:List AV} (h:VaA x r):r.length=3∧r.all AV.one=true:=by
 cases x with
 | mk k n l=>
   obtain⟨v,es,rfl,h1,_⟩:=h
   rcases h1 with⟨_,rfl⟩ | ⟨id,rfl⟩<;>exact⟨rfl,rfl⟩
theorem VaL.app:∀ {l m:List VD} {es fs:List (List AV)},VaL l es→VaL m fs→VaL (l++m) (es++fs)
 | [],m,es,fs,h,g=>by simp only[VaL]at h;subst h;exact g
 | x::l,m,es,fs,h,g=>by
   obtain⟨r,rs,rfl,h1,h2⟩:=h
   exact⟨r,rs++fs,rfl,h1,VaL.app h2 g⟩
theorem VaL.one {x:VD} {r:List AV} (h:VaA x r):VaL [x] [r]:=⟨r,[],rfl,h,rfl⟩
theorem VaL.take:∀ {l:List VD} {es:List (List AV)},VaL l es→∀ n,VaL (l.take n) (es.take n)
 | [],_,h,n=>by simp only[VaL]at h;subst h;simp[VaL]
 | y::l,es,h,n=>by
   obtain⟨r,rs,rfl,h1,h2⟩:=h
   cases n with
   | zero=>simp[VaL]
   | succ n=>exact⟨r,rs.take n,rfl,h1,VaL.take h2 n⟩
def Pu (e:TypeId) (v:AV) (rows:List (List AV)):Asn:=orA (wk (rows=[]∧v= .nils)) (oH fun q:Nat×List (List AV)=>uJ (v= .msl q.1 0 rows.length e∧rows.length≤q.2.length∧rows=q.2.take rows.length) (ai q.1 q.2))
def cG (v:AV) (l:List VD):Asn:=oH fun rows:List (List AV)=>uJ (VaL l rows) (Pu tV v rows)
def cP (f:FrD) (a:List AV) (s n g:AV):List AV:=[.int .i64 f.plugin,.int .i64 f.f,.int .i64 (f.pc:Int)]++a++[s,n,.bool f.asked,g]
def nn (row:List AV) (f:FrD):Asn:=oH fun q:List AV×AV×AV×AV=>uJ (row=cP f q.1 q.2.1 q.2.2.1 q.2.2.2∧VaA f.arg q.1∧SlA 3 q.2.2.2 (bh f.gates)) (dw (cG q.2.1 f.stack) (cG q.2.2.1 f.names))
def eJ:List (List AV)→List FrD→Asn
 | [],[]=>wk True
 | r::rs,f::fs=>dw (nn r f) (eJ rs fs)
 | _,_=>wk False
def eu (mb bb fb:Nat) (left:Int) (below:List FrD) (top:FrD):Asn:=oH fun q:List (List AV)×List AV×List (List AV)=>
 dw (ai mb [[.ptr bb 0 0,.msl fb 0 (below.length+1) tFr,.int .i64 left]]) (dw (ai fb (q.1++q.2.1::q.2.2)) (dw (nn q.2.1 top) (eJ q.1 below)))
section
variable {h h' h0:AH} {F J F0 J0:Nat→Prop} {L:List Asn} {mb bb fb:Nat} {left:Int} {below:List FrD} {top:FrD}
theorem lU:∀ {rs:List (List AV)} {fs:List FrD} {h:AH} {F J:Nat→Prop},(eJ rs fs).A h F J→rs.length=fs.length
 | [],[],_,_,_,_=>rfl
 | r::rs,f::fs,_,_,_,h=>by
   obtain⟨_,_,_,_,_,y,_⟩:=h
   simp[lU y]
 | [],_::_,_,_,_,h=>h.1.elim
 | _::_,[],_,_,_,h=>h.1.elim
theorem aX.nil (F J:Nat→Prop) (h:AH) (hF:∀ k,¬ F k) (hJ:∀ j,¬ J j):(aX []).A h F J:=⟨trivial,hF,hJ⟩
theorem aX.two {X Y:Asn} (x:(dw X Y).A h F J):(aX [X,Y]).A h F J:=by
 obtain⟨F1,J1,F2,J2,x1,y,hF,hJ,dF,dJ⟩:=x
 exact⟨F1,J1,F2,J2,x1,⟨F2,J2,fun _=>False,fun _=>False,y,⟨trivial,fun _ h=>h,fun _ h=>h⟩,fun k=>by simp,fun j=>by simp,fun _ _ h=>h,fun _ _ h=>h⟩,hF,hJ,dF,dJ⟩
theorem aX.one {X:Asn} (x:X.A h F J):(aX [X]).A h F J:=⟨F,J,fun _=>False,fun _=>False,x,⟨trivial,fun _ h=>h,fun _ h=>h⟩,fun k=>by simp,fun j=>by simp,fun _ _ h=>h,fun _ _ h=>h⟩
theorem aX.one' {X:Asn} (x:(aX [X]).A h F J):X.A h F J:=by
 obtain⟨F1,J1,F2,J2,x1,⟨_,e1,e2⟩,hF,hJ,_,_⟩:=x
 have e3:F=F1:=by funext k;exact propext ((hF k).trans ⟨fun h=>h.resolve_right (e1 k),.inl⟩)
 have e4:J=J1:=by funext j;exact propext ((hJ j).trans ⟨fun h=>h.resolve_right (e2 j),.inl⟩)
 rw[e3,e4];exact x1
theorem aX.star_in {X Y:Asn} (x:(aX (dw X Y::L)).A h F J):(aX (X::Y::L)).A h F J:=iV x
theorem oX {X Y Z:Asn} (x:(dw X (dw Y Z)).A h F J):(dw (dw X Y) Z).A h F J:=jN (iV (jN (iV (jN x))))
theorem aX.star_out {X Y:Asn} (x:(aX (X::Y::L)).A h F J):(aX (dw X Y::L)).A h F J:=oX x
abbrev FP (mb bb fb:Nat) (left:Int) (below:List FrD) (top:FrD) (rs ex:List (List AV)) (a:List AV) (s n g:AV):List Asn:=
 [ai mb [[.ptr bb 0 0,.msl fb 0 (below.length+1) tFr,.int .i64 left]],ai fb (rs++cP top a s n g::ex),cG s top.stack,cG n top.names,eJ rs below]
theorem iQ (x:(eu mb bb fb left below top).A h F J):∃ rs ex a s n g,rs.length=below.length∧VaA top.arg a∧SlA 3 g (bh top.gates)∧St h F J h (FP mb bb fb left below top rs ex a s n g):=by
 obtain⟨⟨rs,row,ex⟩,x⟩:=x
 obtain⟨F1,J1,F2,J2,x1,⟨F3,J3,F4,J4,x3,⟨F5,J5,F6,J6,⟨⟨a,s,n,g⟩,⟨e,ha,hg⟩,x5⟩,x6,r6⟩,r4⟩,r2⟩:=x
 simp only at e
 subst e
 refine⟨rs,ex,a,s,n,g,lU x6,ha,hg,St.start ?_⟩
 exact⟨F1,J1,F2,J2,x1,⟨F3,J3,F4,J4,x3,aX.star_in (L:=[eJ rs below]) ⟨F5,J5,F6,J6,x5,aX.one x6,r6⟩,r4⟩,r2⟩
theorem Ek {rs ex:List (List AV)} {a:List AV} {s n g:AV} (ha:VaA top.arg a) (hg:SlA 3 g (bh top.gates)) (x:(aX (FP mb bb fb left below top rs ex a s n g)).A h F J):(eu mb bb fb left below top).A h F J:=by
 obtain⟨F1,J1,F2,J2,x1,⟨F3,J3,F4,J4,x3,x4,r4⟩,r2⟩:=x
 obtain⟨F5,J5,F6,J6,x5,x6,r6⟩:=aX.star_out (X:=cG s top.stack) (Y:=cG n top.names) (L:=[eJ rs below]) x4
 exact⟨⟨rs,cP top a s n g,ex⟩,F1,J1,F2,J2,x1,⟨F3,J3,F4,J4,x3,⟨F5,J5,F6,J6,⟨⟨a,s,n,g⟩,⟨rfl,ha,hg⟩,x5⟩,aX.one' x6,r6⟩,r4⟩,r2⟩
theorem me {rs ex:List (List AV)} {a:List AV} {s n g:AV} (ha:VaA top.arg a) (hg:SlA 3 g (bh top.gates)) (s0:St h0 F0 J0 h (FP mb bb fb left below top rs ex a s n g)):Did h0 F0 J0 h (eu mb bb fb left below top):=
 Did.imp (fun _ _ _ x=>Ek ha hg x) s0
theorem gE {v:AV} {l:List VD} (x:(cG v l).A h F J):v.one=true∧v.cells=[v]∧dH v=some l.length∧(∀ s,du s (some tV) v=true)∧(∀ (q:IntKind) (i:Nat) (y:VD),l[i]? =some y→∃ p r,bX (some tV) none v (.int q (i:Int))=some p∧aD true 3 h p=some (.agg r)∧VaA y r):=by
 obtain⟨rows,hl,x⟩:=x
 have hlen:=hl.len
 rcases x with⟨⟨rfl,rfl⟩,_⟩ | ⟨⟨b,es⟩,⟨rfl,h1,h2⟩,x⟩
 ·simp only[List.length_nil]at hlen
  refine⟨rfl,rfl,by rw[←hlen];rfl,fun s=>rfl,fun q i y hy=> ?_⟩
  have:=List.length_eq_zero_iff.1 hlen.symm
  subst this
  simp at hy
 ·refine⟨rfl,rfl,by rw[←hlen];rfl,fun s=>jW,fun q i y hy=> ?_⟩
  obtain⟨r,q1,q2⟩:=hl.get hy
  have hi:i<rows.length:=(List.getElem?_eq_some_iff.1 q1).1
  refine⟨.ptr b (0+i) 0,r,sj rfl hi,?_,q2⟩
  obtain⟨_,_,_,hc⟩:=x
  have h3:es[i]? =some r:=by
   have:(es.take rows.length)[i]? =some r:=by rw[←h2];exact q1
   rwa [List.getElem?_take_of_lt hi]at this
  simp only at hc
  rw[bC,hc,Nat.zero_add,Option.bind_some,h3,Option.bind_some]
  exact bq q2.len3.1
theorem GF {v:AV} {l:List VD} {y:VD} {r:List AV} {bz:Nat} (x:(cG v l).A h F J) (hz:h.cell bz=some [r]) (hy:VaA y r) (hl:l.length≤1000000):
  ∃ h',aE true tV v (.msl bz 0 1 tV) h=some (.msl h.n 0 (l.length+1) tV,h')∧Did h F J h' (cG (.msl h.n 0 (l.length+1) tV) (l++[y])):=by
 have he:bL h tV (.msl bz 0 1 tV)=some [r]:=by simp[bL,hz]
 have ha:∀ s,aE true tV s (.msl bz 0 1 tV) h=eo true tV s [r] h:=fun s=>by
  simp only[aE,he,Option.bind_some,List.length_singleton]
  rw[if_neg (by decide)]
 have hr:([r].all fun x=>x.all AV.one)=true:=by simp only[List.all_cons,List.all_nil,Bool.and_true];exact hy.len3.2
 obtain⟨rows,hv,x⟩:=x
 have hlen:=hv.len
 rcases x with⟨⟨rfl,rfl⟩,e1,e2⟩ | ⟨⟨b,es⟩,⟨rfl,h1,h2⟩,a1,a2,a3,a4⟩
 ·have hl0:l=[]:=List.length_eq_zero_iff.1 (by simpa using hlen.symm)
  subst hl0
  refine⟨h.push [r],?_,fun k=>k=h.n,fun _=>False,⟨[r],VaL.one hy,.inr ⟨⟨h.n,[r]⟩,⟨rfl,Nat.le_refl _,rfl⟩,fun _=>Iff.rfl,fun _ h=>h,Nat.lt_succ_self _,aC⟩⟩,(af.push h [r]).chg _ _,fun k hk=> .inr (Nat.le_of_eq hk.symm),fun _ h=>h.elim⟩
  rw[ha]
  simp only[eo]
  rw[if_pos ⟨by simp,by simp,hr⟩]
  rfl
 ·simp only at h1 h2 a1 a3 a4
  have hn:((h.set b none).push (es.take rows.length++[r])).cell h.n=some (es.take rows.length++[r]):=by
   have:=aC (h:=h.set b none) (es:=es.take rows.length++[r])
   exact this
  refine⟨(h.set b none).push (es.take rows.length++[r]),?_,fun k=>k=h.n,fun _=>False,⟨rows++[r],hv.app (VaL.one hy),.inr ⟨⟨h.n,es.take rows.length++[r]⟩,⟨by simp[hlen],?_,?_⟩,fun _=>Iff.rfl,fun _ h=>h,Nat.lt_succ_self _,hn⟩⟩,⟨Nat.le_succ _,Nat.le_refl _,fun k hk hF=> ?_,fun _ _ _=>rfl⟩,fun k hk=> .inr (Nat.le_of_eq hk.symm),fun _ h=>h.elim⟩
  ·rw[ha]
   simp only[eo,a4,Option.bind_some]
   rw[if_pos ⟨by simp,by simp,hr⟩,if_pos ⟨trivial,trivial,by omega⟩,if_pos h1]
   simp[hlen,dT]
  ·simp;omega
  ·rw[←h2,List.take_of_length_le (by simp)]
  ·rw[iu (by rw[dT];omega),be fun e=>hF ((a1 k).2 e)]
theorem zs {b m:Nat} {l:List VD} {y:VD} (x:(cG (.msl b 0 m tV) (l++[y])).A h F J):(cG (.msl b 0 l.length tV) l).A h F J:=by
 obtain⟨rows,hv,x⟩:=x
 have hlen:=hv.len
 rw[List.length_append,List.length_singleton]at hlen
 rcases x with⟨⟨_,e⟩,_⟩ | ⟨⟨b',es⟩,⟨e,h1,h2⟩,x⟩
 ·cases e
 ·injection e with e1 _ e2 _
  have hv2:=hv.take l.length
  rw[List.take_left]at hv2
  simp only at e1 h1 h2
  refine⟨rows.take l.length,hv2,.inr ⟨⟨b',es⟩,⟨by rw[e1];congr 1;simp;omega,by simp;omega,?_⟩,x⟩⟩
  have h3:(rows.take l.length).length=l.length:=by simp;omega
  rw[h3]
  conv=>lhs;rw[h2]
  rw[List.take_take]
  congr 1
  omega
theorem zw {v:AV} {l:List VD} (x:(cG v l).A h F J) (hl:l≠[]):∃ b,v= .msl b 0 l.length tV:=by
 obtain⟨rows,hv,x⟩:=x
 have hlen:=hv.len
 rcases x with⟨⟨rfl,rfl⟩,_⟩ | ⟨⟨b',es⟩,⟨e,_⟩,_⟩
 ·exact absurd (List.length_eq_zero_iff.1 (by simpa using hlen.symm)) hl
 ·exact⟨b',by rw[e,hlen]⟩
theorem St.upd {X Y:Asn} (s:St h0 F0 J0 h L) (i:Nat) (hi:L[i]? =some X) (hxy:∀ h F J,X.A h F J→Y.A h F J):St h0 F0 J0 h (L.set i Y):=by
 obtain⟨h',rfl,d⟩:=s.call (R:=fun q=>q=h) i hi (Y:=Y) fun F J x=>⟨h,rfl,Did.imp hxy (Did.same x)⟩
 exact d
theorem A7 {α:Type} {X Z:Asn} {Y:α→Asn} (x:(dw X Z).A h F J) {R:AH→α→Prop} (c:∀ F1 J1,X.A h F1 J1→∃ h' a,R h' a∧Did h F1 J1 h' (Y a)):∃ h' a,R h' a∧Did h F J h' (dw (Y a) Z):=by
 obtain⟨F1,J1,F2,J2,x1,z,hF,hJ,dF,dJ⟩:=x
 obtain⟨h',a0,r,F3,J3,y,c3,a3,b3⟩:=c F1 J1 x1
 have zl:=Z.lt z
 refine⟨h',a0,r,fun k=>F3 k∨F2 k,fun j=>J3 j∨J2 j,⟨F3,J3,F2,J2,y,Z.keep z c3 (fun k hk h1=>dF k h1 hk) (fun j hj h1=>dJ j h1 hj),fun _=>Iff.rfl,fun _=>Iff.rfl,fun k h3 h2=> ?_,fun j h3 h2=> ?_⟩,?_,fun k hk=> ?_,fun j hj=> ?_⟩
 ·rcases a3 k h3 with h | h
  ·exact dF k h h2
  ·have:=zl.1 k h2;omega
 ·rcases b3 j h3 with h | h
  ·exact dJ j h h2
  ·have:=zl.2 j h2;omega
 ·exact⟨c3.n,c3.ids,fun k hk hn=>c3.cell k hk fun h1=>hn ((hF k).2 (.inl h1)),fun j hj hn=>c3.hw j hj fun h1=>hn ((hJ j).2 (.inl h1))⟩
 ·rcases hk with h | h
  ·exact(a3 k h).imp (fun h=>(hF k).2 (.inl h)) id
  ·exact .inl ((hF k).2 (.inr h))
 ·rcases hj with h | h
  ·exact(b3 j h).imp (fun h=>(hJ j).2 (.inl h)) id
  ·exact .inl ((hJ j).2 (.inr h))
theorem St.callE {α:Type} {X:Asn} {R:AH→α→Prop} {Y:α→Asn} (s:St h0 F0 J0 h L) (i:Nat) (hi:L[i]? =some X) (c:∀ F J,X.A h F J→∃ h' a,R h' a∧Did h F J h' (Y a)):∃ h' a,R h' a∧St h0 F0 J0 h' (L.set i (Y a)):=by
 have hl:i<L.length:=(List.getElem?_eq_some_iff.1 hi).1
 obtain⟨F,J,x,ch,a,b⟩:=s
 obtain⟨h',a0,r,d⟩:=A7 ((aX.front hi).1 x) c
 exact⟨h',a0,r,Did.chain ch a b (d.imp fun _ _ _ y=>aX.back hl y)⟩
theorem St.app (s:St h0 F0 J0 h L) (i:Nat) {v:AV} {l:List VD} (hi:L[i]? =some (cG v l)) {y:VD} {r:List AV} {bz:Nat} (hz:h.cell bz=some [r]) (hy:VaA y r) (hl:l.length≤1000000):
  ∃ h',aE true tV v (.msl bz 0 1 tV) h=some (.msl h.n 0 (l.length+1) tV,h')∧St h0 F0 J0 h' (L.set i (cG (.msl h.n 0 (l.length+1) tV) (l++[y]))):=
 s.call (R:=fun h'=>aE true tV v (.msl bz 0 1 tV) h=some (.msl h.n 0 (l.length+1) tV,h')) i hi fun _ _ x=>GF x hz hy hl
end
def xW:List RS:=[(.ops [(.i (.v 0) (.mv (.c .nilp)))]),(.ops [(.i .l (.call (.c (.fn 76 [] [])) [])),(.i .l (.call (.c (.fn 77 [] [])) [])),(.i .l (.build [.nilp,.nilp,(.bool false),.nils,(.int .i64 0),(.int .i64 0),.nils,(.bool false),.nils,(.int .i64 0),(.int .i64 0),.nils,(.bool false),.nils,(.int .i64 0),(.int .i64 0),.nils,(.bool false),.nils,(.int .i64 0),(.int .i64 0),.nils] [(0,1),(1,1),(2,20)] [(0,(.l 1)),(1,(.l 0))])),(.i .l (.box 22 (.l 0))),(.i (.v 0) (.mv (.l 0)))]),.ret]
theorem Iw:FnR Tryz.prog po 39 0 1 [0] xW [(.v 0)] false:=⟨_,_,Tryz.func39,rfl,rfl,by kernel_rfl,by kernel_rfl,by kernel_rfl,by kernel_rfl,by kernel_rfl⟩
def qL:List RS:=[(.ops [(.i (.v 2) (.mv (.v 0)))]),(.cond (.v 2) [(.ops [(.i .l (.mv (.v 1))),(.i .l (.mki 127 (.l 0))),(.i .n (.pan (.l 0)))])] [])]
theorem yR:FnR Tryz.prog po 89 2 3 [0,1,4] qL [] true:=⟨_,_,Tryz.func89,rfl,rfl,by kernel_rfl,by kernel_rfl,by kernel_rfl,by kernel_rfl,by kernel_rfl⟩
def Dt:List RS:=[(.ops [(.i (.v 1) (.mv (.c .nilp)))]),(.ops [(.i .l (.mv (.v 0))),(.i .l (.nilc (.l 0))),(.i .l (.fad 1 (.l 0))),(.i .l (.load false 1 (.l 0))),(.i .l (.mv (.v 0))),(.i .l (.nilc (.l 0))),(.i .l (.fad 1 (.l 0))),(.i .l (.load false 1 (.l 0))),(.i .l (.len false (some 126) (.l 0))),(.i .l (.bin (.int .i64) .sub (.l 0) (.c (.int .i64 1)))),(.i .l (.ixa (some 126) none (.l 6) (.l 0))),(.i (.v 1) (.mv (.l 0)))]),.ret]
theorem JP:FnR Tryz.prog po 88 1 2 [0,2] Dt [(.v 1)] false:=⟨_,_,Tryz.func88,rfl,rfl,by kernel_rfl,by kernel_rfl,by kernel_rfl,by kernel_rfl,by kernel_rfl⟩
def CU:List RS:=[(.ops [(.i (.v 1) (.alloc [(.int .i64 0),(.int .i64 0),.nils]))]),(.ops [(.i .l (.mv (.v 0))),(.i .l (.call (.c (.fn 88 [] [])) [(.l 0)])),(.i (.v 2) (.mv (.l 0)))]),(.ops [(.i .l (.mv (.v 2))),(.i .l (.nilc (.l 0))),(.i .l (.fad 6 (.l 0))),(.i .l (.load false 1 (.l 0))),(.i .l (.len false (some 35) (.l 0))),(.i .l (.bin (.int .i64) .sub (.l 0) (.c (.int .i64 1)))),(.i (.v 3) (.mv (.l 0)))]),(.ops [(.i .l (.mv (.v 2))),(.i .l (.nilc (.l 0))),(.i .l (.fad 6 (.l 0))),(.i .l (.load false 1 (.l 0))),(.i .l (.mv (.v 3))),(.i .l (.ixa (some 35) none (.l 1) (.l 0))),(.i .l (.load true 3 (.l 0))),(.i (.v 4) (.alloc [(.int .i64 0),(.int .i64 0),.nils])),(.i .n (.store 3 (.v 4) (.l 0)))]),(.ops [(.i .l (.mv (.v 2))),(.i .l (.mv (.v 2))),(.i .l (.nilc (.l 0))),(.i .l (.fad 6 (.l 0))),(.i .l (.load false 1 (.l 0))),(.i .l (.mv (.v 3))),(.i .l (.slc false (some 35) (.l 1) none (some (.l 0)))),(.i .l (.nilc (.l 6))),(.i .l (.fad 6 (.l 0))),(.i .n (.store 1 (.l 0) (.l 2)))]),(.ops [(.i .l (.load true 3 (.v 4))),(.i .n (.store 3 (.v 1) (.l 0)))]),.ret]
theorem Lb:FnR Tryz.prog po 90 1 5 [0,2,3,4,5] CU [(.cell true 3 1)] false:=⟨_,_,Tryz.func90,rfl,rfl,by kernel_rfl,by kernel_rfl,by kernel_rfl,by kernel_rfl,by kernel_rfl⟩
def qR:List RS:=[(.ops [(.i (.v 1) (.alloc [(.int .i64 0),(.int .i64 0),.nils]))]),(.ops [(.i .l (.mv (.v 0))),(.i .l (.build [(.int .i64 0),(.int .i64 0),.nils] [(0,1),(1,1),(2,1)] [(0,(.c (.int .i64 1))),(1,(.l 0))])),(.i .n (.store 3 (.v 1) (.l 0)))]),.ret]
theorem Bn:FnR Tryz.prog po 115 1 2 [0,2] qR [(.cell true 3 1)] true:=⟨_,_,Tryz.func115,rfl,rfl,by kernel_rfl,by kernel_rfl,by kernel_rfl,by kernel_rfl,by kernel_rfl⟩
def rK:List RS:=[(.ops [(.i (.v 2) (.box 3 (.v 0))),(.i (.v 3) (.alloc [(.int .i64 0),(.int .i64 0),.nils]))]),(.ops [(.i .l (.fad 0 (.v 2))),(.i .l (.load false 1 (.l 0))),(.i .l (.mv (.v 1))),(.i .l (.bin (.int .i64) .neq (.l 1) (.l 0))),(.i .l (.call (.c (.fn 89 [] [])) [(.l 0),(.c (.int .i64 2))]))]),(.ops [(.i .l (.load true 3 (.v 2))),(.i .n (.store 3 (.v 3) (.l 0)))]),.ret]
theorem xX:FnR Tryz.prog po 91 2 4 [0,1,2,4] rK [(.cell true 3 3)] true:=⟨_,_,Tryz.func91,rfl,rfl,by kernel_rfl,by kernel_rfl,by kernel_rfl,by kernel_rfl,by kernel_rfl⟩
def pI:List RS:=[(.ops [(.i (.v 1) (.box 3 (.v 0))),(.i (.v 2) (.alloc [(.int .i64 0),(.int .i64 0),.nils]))]),(.ops [(.i .l (.load true 3 (.v 1))),(.i .l (.call (.c (.fn 47 [] [])) [(.l 0)])),(.i .l (.bin (.int .i64) .neq (.l 0) (.c (.int .i64 0)))),(.i .l (.call (.c (.fn 89 [] [])) [(.l 0),(.c (.int .i64 3))]))]),(.ops [(.i .l (.load true 3 (.v 1))),(.i .n (.store 3 (.v 2) (.l 0)))]),.ret]
theorem vT:FnR Tryz.prog po 116 1 3 [0,1,2] pI [(.cell true 3 2)] true:=⟨_,_,Tryz.func116,rfl,rfl,by kernel_rfl,by kernel_rfl,by kernel_rfl,by kernel_rfl,by kernel_rfl⟩
def eH:List RS:=[(.ops [(.i (.v 3) (.mv (.c (.int .i64 0))))]),(.ops [(.i (.v 4) (.mv (.c (.bool false))))]),(.ops [(.i (.v 5) (.mv (.v 0)))]),(.block 0 [(.ops [(.i .l (.bin (.int .i64) .eql (.v 5) (.c (.int .i64 1)))),(.i (.v 6) (.mv (.l 0)))]),(.cond (.v 6) [(.ops [(.i .l (.mv (.v 1))),(.i .l (.mv (.v 2))),(.i .l (.bin (.int .i64) .add (.l 1) (.l 0))),(.i (.v 3) (.mv (.l 0)))]),.ret] [(.ops [(.i .l (.bin (.int .i64) .eql (.v 5) (.c (.int .i64 2)))),(.i (.v 7) (.mv (.l 0)))]),(.cond (.v 7) [(.ops [(.i .l (.mv (.v 1))),(.i .l (.mv (.v 2))),(.i .l (.bin (.int .i64) .sub (.l 1) (.l 0))),(.i (.v 3) (.mv (.l 0)))]),.ret] [(.ops [(.i .l (.bin (.int .i64) .eql (.v 5) (.c (.int .i64 3)))),(.i (.v 8) (.mv (.l 0)))]),(.cond (.v 8) [(.ops [(.i .l (.mv (.v 1))),(.i .l (.mv (.v 2))),(.i .l (.bin (.int .i64) .mul (.l 1) (.l 0))),(.i (.v 3) (.mv (.l 0)))]),.ret] [(.ops [(.i .l (.bin (.int .i64) .eql (.v 5) (.c (.int .i64 4)))),(.i (.v 9) (.mv (.l 0)))]),(.cond (.v 9) [(.ops [(.i .l (.mv (.v 1))),(.i .l (.mv (.v 2))),(.i .l (.bin (.int .i64) .lss (.l 1) (.l 0))),(.i (.v 4) (.mv (.l 0)))])] [(.ops [(.i .l (.bin (.int .i64) .eql (.v 5) (.c (.int .i64 5)))),(.i (.v 10) (.mv (.l 0)))]),(.cond (.v 10) [(.ops [(.i .l (.mv (.v 1))),(.i .l (.mv (.v 2))),(.i .l (.bin (.int .i64) .eql (.l 1) (.l 0))),(.i (.v 4) (.mv (.l 0)))])] [])])])])])]),(.ops [(.i (.v 11) (.mv (.v 4)))]),(.cond (.v 11) [(.ops [(.i (.v 3) (.mv (.c (.int .i64 1))))]),.ret] []),(.ops [(.i (.v 3) (.mv (.c (.int .i64 0))))]),.ret]
theorem fH:FnR Tryz.prog po 42 3 12 [0,1,2,6,7,8,9,14,19,24,29,34] eH [(.v 3)] true:=⟨_,_,Tryz.func42,rfl,rfl,by kernel_rfl,by kernel_rfl,by kernel_rfl,by kernel_rfl,by kernel_rfl⟩
def xI:List RS:=[(.ops [(.i (.v 3) (.box 3 (.v 1))),(.i (.v 4) (.mv (.c (.int .i64 0)))),(.i (.v 5) (.alloc [(.int .i64 0),(.int .i64 0),(.int .i64 0),(.int .i64 0),(.int .i64 0),(.int .i64 0)]))]),(.ops [(.i .l (.fad 1 (.v 3))),(.i .l (.load false 1 (.l 0))),(.i (.v 6) (.mv (.l 0)))]),(.ops [(.i .l (.mv (.v 0))),(.i .l (.nilc (.l 0))),(.i .l (.fad 0 (.l 0))),(.i .l (.load false 1 (.l 0))),(.i .l (.nilc (.l 0))),(.i .l (.fad 0 (.l 0))),(.i .l (.load false 1 (.l 0))),(.i .l (.mv (.v 6))),(.i .l (.call (.c (.fn 145 [] [])) [(.l 1),(.l 0)])),(.i .l (.mv (.v 2))),(.i .l (.call (.c (.fn 144 [] [])) [(.l 1),(.l 0)])),(.i .l (.un .not (.l 0))),(.i .l (.call (.c (.fn 89 [] [])) [(.l 0),(.c (.int .i64 9))]))]),(.ops [(.i .l (.mv (.v 0))),(.i .l (.nilc (.l 0))),(.i .l (.fad 0 (.l 0))),(.i .l (.load false 1 (.l 0))),(.i .l (.nilc (.l 0))),(.i .l (.fad 0 (.l 0))),(.i .l (.load false 1 (.l 0))),(.i .l (.mv (.v 6))),(.i .l (.call (.c (.fn 162 [] [])) [(.l 1),(.l 0)])),(.i .l (.mv (.l 0))),(.i .l (.ext (.l 0) 0)),(.i .l (.ext (.l 1) 1)),(.i (.v 7) (.alloc [(.int .i64 0),(.int .i64 0),(.int .i64 0),(.int .i64 0),(.int .i64 0),(.int .i64 0)])),(.i .n (.store 6 (.v 7) (.l 1))),(.i .l (.mv (.l 0)))]),(.ops [(.i .l (.mv (.v 6))),(.i .l (.load true 6 (.v 7))),(.i (.v 4) (.mv (.l 1))),(.i .n (.store 6 (.v 5) (.l 0)))]),.ret]
theorem CM:FnR Tryz.prog po 147 3 8 [0,1,2,4,6,7,8,9] xI [(.v 4),(.cell true 6 5)] true:=⟨_,_,Tryz.func147,rfl,rfl,by kernel_rfl,by kernel_rfl,by kernel_rfl,by kernel_rfl,by kernel_rfl⟩
def kX:List RS:=[(.ops [(.i (.v 2) (.box 3 (.v 1)))]),(.ops [(.i .l (.mv (.v 0))),(.i .l (.load true 3 (.v 2))),(.i .l (.call (.c (.fn 91 [] [])) [(.l 0),(.c (.int .i64 4))])),(.i .l (.call (.c (.fn 147 [] [])) [(.l 2),(.l 0),(.c (.int .i64 1))])),(.i .l (.mv (.l 0))),(.i .l (.ext (.l 0) 0)),(.i .l (.ext (.l 1) 1)),(.i (.v 4) (.alloc [(.int .i64 0),(.int .i64 0),(.int .i64 0),(.int .i64 0),(.int .i64 0),(.int .i64 0)])),(.i (.v 3) (.mv (.l 1))),(.i .n (.store 6 (.v 4) (.l 0)))]),(.ops [(.i .l (.fad 4 (.v 4))),(.i .l (.load false 1 (.l 0))),(.i .l (.bin (.int .i64) .geq (.l 0) (.c (.int .i64 0)))),(.i .l (.call (.c (.fn 89 [] [])) [(.l 0),(.c (.int .i64 2))]))]),(.ops [(.i .l (.mv (.v 0))),(.i .l (.nilc (.l 0))),(.i .l (.fad 0 (.l 0))),(.i .l (.load false 1 (.l 0))),(.i .l (.nilc (.l 0))),(.i .l (.fad 1 (.l 0))),(.i .l (.load false 1 (.l 0))),(.i .l (.mv (.v 0))),(.i .l (.fad 3 (.v 4))),(.i .l (.load false 1 (.l 0))),(.i .l (.mv (.v 3))),(.i .l (.call (.c (.fn 88 [] [])) [(.l 3)])),(.ck [⟨none,false,1,(.l 9),(.l 8)⟩,⟨none,false,1,(.l 6),(.l 5)⟩,⟨none,false,1,(.l 3),(.l 2)⟩]),(.i .l (.nilc (.l 0))),(.i .l (.fad 0 (.l 0))),(.i .l (.load false 1 (.l 0))),(.i .l (.call (.c (.fn 148 [] [])) [(.l 8),(.l 0),(.l 5),(.l 4)])),(.i .l (.mv (.l 0))),(.i .l (.ext (.l 0) 0)),(.i .l (.ext (.l 1) 1)),(.i (.v 5) (.mv (.l 1))),(.i .l (.mv (.l 0)))]),(.ops [(.i .l (.mv (.v 0))),(.i .l (.mv (.v 5))),(.i .l (.call (.c (.fn 115 [] [])) [(.l 0)])),(.i .l (.call (.c (.fn 114 [] [])) [(.l 2),(.l 0)]))])]
theorem nL:FnR Tryz.prog po 129 2 6 [0,1,3,4,5,6] kX [] false:=⟨_,_,Tryz.func129,rfl,rfl,by kernel_rfl,by kernel_rfl,by kernel_rfl,by kernel_rfl,by kernel_rfl⟩
def iN:List RS:=[(.ops [(.i (.v 3) (.box 3 (.v 1))),(.i (.v 4) (.box 3 (.v 2)))]),(.ops [(.i .l (.load true 3 (.v 3))),(.i .l (.call (.c (.fn 91 [] [])) [(.l 0),(.c (.int .i64 4))]))]),(.ops [(.i .l (.load true 3 (.v 4))),(.i .l (.call (.c (.fn 91 [] [])) [(.l 0),(.c (.int .i64 1))]))]),(.ops [(.i .l (.mv (.v 0))),(.i .l (.load true 3 (.v 3))),(.i .l (.call (.c (.fn 147 [] [])) [(.l 1),(.l 0),(.c (.int .i64 2))])),(.i .l (.mv (.l 0))),(.i .l (.ext (.l 0) 0)),(.i .l (.ext (.l 1) 1)),(.i (.v 6) (.alloc [(.int .i64 0),(.int .i64 0),(.int .i64 0),(.int .i64 0),(.int .i64 0),(.int .i64 0)])),(.i (.v 5) (.mv (.l 1))),(.i .n (.store 6 (.v 6) (.l 0)))]),(.ops [(.i .l (.fad 4 (.v 6))),(.i .l (.load false 1 (.l 0))),(.i .l (.bin (.int .i64) .geq (.l 0) (.c (.int .i64 0)))),(.i .l (.call (.c (.fn 89 [] [])) [(.l 0),(.c (.int .i64 2))]))]),(.ops [(.i .l (.mv (.v 0))),(.i .l (.nilc (.l 0))),(.i .l (.fad 0 (.l 0))),(.i .l (.load false 1 (.l 0))),(.i .l (.nilc (.l 0))),(.i .l (.fad 1 (.l 0))),(.i .l (.load false 1 (.l 0))),(.i .l (.mv (.v 0))),(.i .l (.fad 3 (.v 6))),(.i .l (.load false 1 (.l 0))),(.i .l (.mv (.v 5))),(.i .l (.fad 1 (.v 4))),(.i .l (.load false 1 (.l 0))),(.i .l (.call (.c (.fn 88 [] [])) [(.l 5)])),(.ck [⟨none,false,1,(.l 11),(.l 10)⟩,⟨none,false,1,(.l 8),(.l 7)⟩,⟨none,false,1,(.l 5),(.l 4)⟩,⟨none,false,1,(.l 2),(.l 1)⟩]),(.i .l (.nilc (.l 0))),(.i .l (.fad 0 (.l 0))),(.i .l (.load false 1 (.l 0))),(.i .l (.call (.c (.fn 149 [] [])) [(.l 10),(.l 0),(.l 7),(.l 6),(.l 4)]))]),(.ops [(.i .l (.mv (.v 0))),(.i .l (.load true 3 (.v 4))),(.i .l (.call (.c (.fn 114 [] [])) [(.l 1),(.l 0)]))])]
theorem jP:FnR Tryz.prog po 130 3 7 [0,1,2,4,5,6,7] iN [] false:=⟨_,_,Tryz.func130,rfl,rfl,by kernel_rfl,by kernel_rfl,by kernel_rfl,by kernel_rfl,by kernel_rfl⟩
def lO:List RS:=[(.ops [(.i (.v 4) (.box 3 (.v 1))),(.i (.v 5) (.alloc [(.int .i64 0),(.int .i64 0),.nils]))]),(.ops [(.i .l (.mv (.v 0))),(.i .l (.nilc (.l 0))),(.i .l (.fad 0 (.l 0))),(.i .l (.load false 1 (.l 0))),(.i .l (.nilc (.l 0))),(.i .l (.fad 0 (.l 0))),(.i .l (.load false 1 (.l 0))),(.i .l (.fad 1 (.v 4))),(.i .l (.load false 1 (.l 0))),(.i .l (.mv (.v 2))),(.i .l (.mv (.v 3))),(.i .l (.call (.c (.fn 84 [] [])) [(.l 4),(.l 2),(.l 1),(.l 0)])),(.i .l (.mv (.l 0))),(.i .l (.ext (.l 0) 0)),(.i .l (.ext (.l 1) 1)),(.i (.v 6) (.mv (.l 1))),(.i (.v 7) (.mv (.l 0)))]),(.ops [(.i .l (.mv (.v 7))),(.i .l (.bin (.int .i64) .neq (.l 0) (.c (.int .i64 0)))),(.i .l (.mv (.v 7))),(.i .l (.call (.c (.fn 89 [] [])) [(.l 1),(.l 0)]))]),(.ops [(.i .l (.mv (.v 6))),(.i .l (.build [(.int .i64 0),(.int .i64 0),.nils] [(0,1),(1,1),(2,1)] [(0,(.c (.int .i64 4))),(1,(.l 0))])),(.i .n (.store 3 (.v 5) (.l 0)))]),.ret]
theorem qa:FnR Tryz.prog po 131 4 8 [0,1,2,3,5,8,9,10] lO [(.cell true 3 5)] false:=⟨_,_,Tryz.func131,rfl,rfl,by kernel_rfl,by kernel_rfl,by kernel_rfl,by kernel_rfl,by kernel_rfl⟩
def lI:List RS:=[(.ops [(.i (.v 2) (.box 3 (.v 1)))]),(.ops [(.i .l (.load true 3 (.v 2))),(.i .l (.call (.c (.fn 91 [] [])) [(.l 0),(.c (.int .i64 4))]))]),(.ops [(.i .l (.mv (.v 0))),(.i .l (.nilc (.l 0))),(.i .l (.fad 0 (.l 0))),(.i .l (.load false 1 (.l 0))),(.i .l (.nilc (.l 0))),(.i .l (.fad 0 (.l 0))),(.i .l (.load false 1 (.l 0))),(.i .l (.call (.c (.fn 63 [] [])) [(.l 0)])),(.i .l (.mv (.l 0))),(.i .l (.ext (.l 0) 0)),(.i .l (.ext (.l 1) 1)),(.i (.v 3) (.mv (.l 1))),(.i (.v 4) (.mv (.l 0)))]),(.ops [(.i .l (.mv (.v 4))),(.i .l (.bin (.int .i64) .neq (.l 0) (.c (.int .i64 0)))),(.i .l (.mv (.v 4))),(.i .l (.call (.c (.fn 89 [] [])) [(.l 1),(.l 0)]))]),(.ops [(.i .l (.mv (.v 0))),(.i .l (.load true 3 (.v 2))),(.i .l (.mv (.v 3))),(.i .l (.call (.c (.fn 131 [] [])) [(.l 2),(.l 1),(.c (.int .i64 15)),(.l 0)])),(.i (.v 5) (.alloc [(.int .i64 0),(.int .i64 0),.nils])),(.i .n (.store 3 (.v 5) (.l 0)))]),(.ops [(.i .l (.mv (.v 0))),(.i .l (.load true 3 (.v 5))),(.i .l (.mv (.v 3))),(.i .l (.build [(.int .i64 0),(.int .i64 0),.nils] [(0,1),(1,1),(2,1)] [(0,(.c (.int .i64 5))),(1,(.l 0))])),(.i .l (.bsl false 35 [(.int .i64 0),(.int .i64 0),.nils] 3 2 [(0,(.l 2)),(1,(.l 0))])),(.i .l (.build [(.int .i64 0),(.int .i64 0),.nils] [(0,1),(1,1),(2,1)] [(0,(.c (.int .i64 2))),(2,(.l 0))])),(.i .l (.call (.c (.fn 114 [] [])) [(.l 5),(.l 0)]))])]
theorem od:FnR Tryz.prog po 132 2 6 [0,1,3,4,5,6] lI [] false:=⟨_,_,Tryz.func132,rfl,rfl,by kernel_rfl,by kernel_rfl,by kernel_rfl,by kernel_rfl,by kernel_rfl⟩
def tM:List RS:=[(.ops [(.i (.v 2) (.box 10 (.v 1)))]),(.ops [(.i .l (.mv (.v 0))),(.i .l (.nilc (.l 0))),(.i .l (.fad 1 (.l 0))),(.i .l (.load false 1 (.l 0))),(.i .l (.len false (some 126) (.l 0))),(.i .l (.bin (.int .i64) .eql (.l 0) (.c (.int .i64 20)))),(.i .l (.call (.c (.fn 89 [] [])) [(.l 0),(.c (.int .i64 4))]))]),(.ops [(.i .l (.mv (.v 0))),(.i .l (.mv (.v 0))),(.i .l (.nilc (.l 0))),(.i .l (.fad 1 (.l 0))),(.i .l (.load false 1 (.l 0))),(.i .l (.load true 10 (.v 2))),(.i .l (.bsl true 126 [(.int .i64 0),(.int .i64 0),(.int .i64 0),(.int .i64 0),(.int .i64 0),.nils,.nils,.nils,(.bool false),.nils] 10 1 [(0,(.l 0))])),(.ck [⟨none,false,1,(.l 3),(.l 2)⟩]),(.i .l (.app true 126 (.l 2) (.l 0))),(.i .l (.nilc (.l 7))),(.i .l (.fad 1 (.l 0))),(.i .n (.store 1 (.l 0) (.l 2)))])]
theorem zg:FnR Tryz.prog po 133 2 3 [0,1,3] tM [] false:=⟨_,_,Tryz.func133,rfl,rfl,by kernel_rfl,by kernel_rfl,by kernel_rfl,by kernel_rfl,by kernel_rfl⟩
def iE:List RS:=[(.ops [(.i (.v 3) (.box 3 (.v 1))),(.i (.v 4) (.box 3 (.v 2)))]),(.ops [(.i .l (.mv (.v 0))),(.i .l (.load true 3 (.v 3))),(.i .l (.call (.c (.fn 91 [] [])) [(.l 0),(.c (.int .i64 4))])),(.i .l (.call (.c (.fn 147 [] [])) [(.l 2),(.l 0),(.c (.int .i64 8))])),(.i .l (.mv (.l 0))),(.i .l (.ext (.l 0) 0)),(.i .l (.ext (.l 1) 1)),(.i (.v 6) (.alloc [(.int .i64 0),(.int .i64 0),(.int .i64 0),(.int .i64 0),(.int .i64 0),(.int .i64 0)])),(.i (.v 5) (.mv (.l 1))),(.i .n (.store 6 (.v 6) (.l 0)))]),(.ops [(.i .l (.fad 4 (.v 6))),(.i .l (.load false 1 (.l 0))),(.i .l (.bin (.int .i64) .lss (.l 0) (.c (.int .i64 0)))),(.i .l (.call (.c (.fn 89 [] [])) [(.l 0),(.c (.int .i64 2))]))]),(.ops [(.i .l (.mv (.v 0))),(.i .l (.nilc (.l 0))),(.i .l (.fad 0 (.l 0))),(.i .l (.load false 1 (.l 0))),(.i .l (.fad 4 (.v 6))),(.i .l (.load false 1 (.l 0))),(.i .l (.nilc (.l 2))),(.i .l (.fad 2 (.l 0))),(.i .l (.ixa none (some (4,5)) (.l 0) (.l 2))),(.i .l (.load true 5 (.l 0))),(.i (.v 7) (.alloc [(.bool false),.nils,(.int .i64 0),(.int .i64 0),.nils])),(.ck [⟨none,false,1,(.l 7),(.l 6)⟩,⟨none,false,1,(.l 5),(.l 4)⟩,⟨none,true,5,(.l 1),(.l 0)⟩]),(.i .n (.store 5 (.v 7) (.l 0)))]),(.ops [(.i .l (.fad 0 (.v 7))),(.i .l (.load false 1 (.l 0))),(.i .l (.un .not (.l 0))),(.i .l (.mv (.l 0))),(.g (.l 0) false .l (.fad 5 (.v 6))),(.g (.l 1) false .l (.load false 1 (.l 0))),(.g (.l 2) false .l (.fad 1 (.v 7))),(.g (.l 3) false .l (.load false 1 (.l 0))),(.g (.l 4) false .l (.len false (some 174) (.l 0))),(.g (.l 5) false .l (.bin (.int .i64) .geq (.l 3) (.l 0))),(.i .l (.pick (.l 6) (.c (.bool true)) (.l 0))),(.i .l (.call (.c (.fn 89 [] [])) [(.l 0),(.c (.int .i64 8))]))]),(.ops [(.i .l (.mv (.v 0))),(.i .l (.nilc (.l 0))),(.i .l (.fad 1 (.l 0))),(.i .l (.load false 1 (.l 0))),(.i .l (.len false (some 126) (.l 0))),(.i .l (.bin (.int .i64) .eql (.l 0) (.c (.int .i64 20)))),(.i .l (.call (.c (.fn 89 [] [])) [(.l 0),(.c (.int .i64 4))]))]),(.ops [(.i .l (.mv (.v 0))),(.i .l (.nilc (.l 0))),(.i .l (.fad 0 (.l 0))),(.i .l (.load false 1 (.l 0))),(.i .l (.nilc (.l 0))),(.i .l (.fad 0 (.l 0))),(.i .l (.load false 1 (.l 0))),(.i .l (.mv (.v 5))),(.i .l (.call (.c (.fn 150 [] [])) [(.l 1),(.l 0)])),(.i (.v 8) (.mv (.l 0)))]),(.ops [(.i .l (.mv (.v 0))),(.i .l (.nilc (.l 0))),(.i .l (.fad 0 (.l 0))),(.i .l (.load false 1 (.l 0))),(.i .l (.nilc (.l 0))),(.i .l (.fad 0 (.l 0))),(.i .l (.load false 1 (.l 0))),(.i .l (.load true 3 (.v 4))),(.i .l (.mv (.v 8))),(.i .l (.call (.c (.fn 113 [] [])) [(.l 2),(.l 1),(.l 0)])),(.i .l (.mv (.l 0))),(.i .l (.ext (.l 0) 0)),(.i .l (.ext (.l 1) 1)),(.i (.v 9) (.alloc [(.int .i64 0),(.int .i64 0),.nils])),(.ck [⟨none,false,1,(.l 10),(.l 9)⟩,⟨none,false,1,(.l 7),(.l 6)⟩,⟨none,true,3,(.v 4),(.l 5)⟩]),(.i .n (.store 3 (.v 9) (.l 1))),(.i (.v 10) (.mv (.l 0)))]),(.ops [(.i .l (.mv (.v 10))),(.i .l (.bin (.int .i64) .neq (.l 0) (.c (.int .i64 0)))),(.i .l (.mv (.v 10))),(.i .l (.call (.c (.fn 89 [] [])) [(.l 1),(.l 0)]))]),(.ops [(.i .l (.mv (.v 0))),(.i .l (.fad 4 (.v 6))),(.i .l (.load false 1 (.l 0))),(.i .l (.fad 5 (.v 6))),(.i .l (.load false 1 (.l 0))),(.i .l (.load true 3 (.v 9))),(.i .l (.mv (.v 8))),(.i .l (.build [(.int .i64 0),(.int .i64 0),(.int .i64 0),(.int .i64 0),(.int .i64 0),.nils,.nils,.nils,(.bool false),.nils] [(0,1),(1,1),(2,1),(3,3),(6,1),(7,1),(8,1),(9,1)] [(0,(.l 4)),(1,(.l 2)),(3,(.l 1)),(6,(.c (.bool true))),(7,(.l 0))])),(.i .l (.call (.c (.fn 133 [] [])) [(.l 7),(.l 0)]))])]
theorem jw:FnR Tryz.prog po 134 3 11 [0,1,2,4,5,6,7,8,9,10,11] iE [] false:=⟨_,_,Tryz.func134,rfl,rfl,by kernel_rfl,by kernel_rfl,by kernel_rfl,by kernel_rfl,by kernel_rfl⟩
def qQ:List RS:=[(.ops [(.i .l (.mv (.v 0))),(.i .l (.call (.c (.fn 90 [] [])) [(.l 0)])),(.i .l (.call (.c (.fn 91 [] [])) [(.l 0),(.c (.int .i64 2))])),(.i (.v 2) (.alloc [(.int .i64 0),(.int .i64 0),.nils])),(.i .n (.store 3 (.v 2) (.l 0)))]),(.ops [(.i .l (.mv (.v 0))),(.i .l (.fad 2 (.v 2))),(.i .l (.load false 1 (.l 0))),(.i .l (.mv (.v 1))),(.i .l (.ixa (some 35) none (.l 1) (.l 0))),(.i .l (.load true 3 (.l 0))),(.i .l (.call (.c (.fn 114 [] [])) [(.l 5),(.l 0)]))])]
theorem zW:FnR Tryz.prog po 117 2 3 [0,1,4] qQ [] false:=⟨_,_,Tryz.func117,rfl,rfl,by kernel_rfl,by kernel_rfl,by kernel_rfl,by kernel_rfl,by kernel_rfl⟩
def cB:List RS:=[(.ops [(.i (.v 2) (.box 3 (.v 1)))]),(.ops [(.i .l (.mv (.v 0))),(.i .l (.call (.c (.fn 88 [] [])) [(.l 0)])),(.i (.v 3) (.mv (.l 0)))]),(.ops [(.i .l (.fad 0 (.v 2))),(.i (.v 10) (.load false 1 (.l 0)))]),(.block 0 [(.ops [(.i .l (.bin (.int .i64) .eql (.v 10) (.c (.int .i64 1)))),(.i (.v 11) (.mv (.l 0)))]),(.cond (.v 11) [(.ops [(.i .l (.mv (.v 0))),(.i .l (.build [(.int .i64 0),(.int .i64 0),.nils] [(0,1),(1,1),(2,1)] [])),(.i .l (.call (.c (.fn 114 [] [])) [(.l 1),(.l 0)]))])] [(.ops [(.i .l (.bin (.int .i64) .eql (.v 10) (.c (.int .i64 2)))),(.i (.v 12) (.mv (.l 0)))]),(.cond (.v 12) [(.ops [(.i .l (.mv (.v 0))),(.i .l (.fad 2 (.v 2))),(.i .l (.load false 1 (.l 0))),(.i .l (.call (.c (.fn 115 [] [])) [(.l 0)])),(.i .l (.call (.c (.fn 114 [] [])) [(.l 3),(.l 0)]))])] [(.ops [(.i .l (.bin (.int .i64) .eql (.v 10) (.c (.int .i64 3)))),(.i (.v 13) (.mv (.l 0)))]),(.cond (.v 13) [(.ops [(.i .l (.mv (.v 0))),(.i .l (.mv (.v 3))),(.i .l (.nilc (.l 0))),(.i .l (.fad 3 (.l 0))),(.i .l (.load true 3 (.l 0))),(.i .l (.call (.c (.fn 114 [] [])) [(.l 4),(.l 0)]))])] [(.ops [(.i .l (.bin (.int .i64) .eql (.v 10) (.c (.int .i64 4)))),(.i (.v 14) (.mv (.l 0)))]),(.cond (.v 14) [(.ops [(.i .l (.mv (.v 0))),(.i .l (.mv (.v 3))),(.i .l (.nilc (.l 0))),(.i .l (.fad 7 (.l 0))),(.i .l (.load false 1 (.l 0))),(.i .l (.mv (.v 3))),(.i .l (.nilc (.l 0))),(.i .l (.fad 7 (.l 0))),(.i .l (.load false 1 (.l 0))),(.i .l (.len false (some 35) (.l 0))),(.i .l (.bin (.int .i64) .sub (.l 0) (.c (.int .i64 1)))),(.i .l (.fad 1 (.v 2))),(.i .l (.load false 1 (.l 0))),(.i .l (.bin (.int .i64) .sub (.l 2) (.l 0))),(.i .l (.ixa (some 35) none (.l 9) (.l 0))),(.i .l (.load true 3 (.l 0))),(.i .l (.call (.c (.fn 114 [] [])) [(.l 15),(.l 0)]))])] [(.ops [(.i .l (.bin (.int .i64) .eql (.v 10) (.c (.int .i64 6)))),(.i (.v 15) (.mv (.l 0)))]),(.cond (.v 15) [(.ops [(.i .l (.mv (.v 0))),(.i .l (.call (.c (.fn 90 [] [])) [(.l 0)])),(.i .l (.mv (.v 0))),(.i .l (.call (.c (.fn 90 [] [])) [(.l 0)])),(.i (.v 4) (.alloc [(.int .i64 0),(.int .i64 0),.nils])),(.i (.v 5) (.alloc [(.int .i64 0),(.int .i64 0),.nils])),(.i .n (.store 3 (.v 4) (.l 2))),(.i .n (.store 3 (.v 5) (.l 0)))]),(.ops [(.i .l (.load true 3 (.v 5))),(.i .l (.call (.c (.fn 91 [] [])) [(.l 0),(.c (.int .i64 1))]))]),(.ops [(.i .l (.load true 3 (.v 4))),(.i .l (.call (.c (.fn 91 [] [])) [(.l 0),(.c (.int .i64 1))]))]),(.ops [(.i .l (.mv (.v 0))),(.i .l (.fad 1 (.v 2))),(.i .l (.load false 1 (.l 0))),(.i .l (.fad 1 (.v 5))),(.i .l (.load false 1 (.l 0))),(.i .l (.fad 1 (.v 4))),(.i .l (.load false 1 (.l 0))),(.i .l (.call (.c (.fn 42 [] [])) [(.l 4),(.l 2),(.l 0)])),(.i .l (.call (.c (.fn 115 [] [])) [(.l 0)])),(.i .l (.call (.c (.fn 114 [] [])) [(.l 8),(.l 0)]))])] [(.ops [(.i .l (.bin (.int .i64) .eql (.v 10) (.c (.int .i64 8)))),(.i (.v 16) (.mv (.l 0)))]),(.cond (.v 16) [(.ops [(.i .l (.mv (.v 0))),(.i .l (.call (.c (.fn 90 [] [])) [(.l 0)])),(.i .l (.mv (.v 0))),(.i .l (.call (.c (.fn 90 [] [])) [(.l 0)])),(.i (.v 6) (.alloc [(.int .i64 0),(.int .i64 0),.nils])),(.i (.v 7) (.alloc [(.int .i64 0),(.int .i64 0),.nils])),(.i .n (.store 3 (.v 6) (.l 2))),(.i .n (.store 3 (.v 7) (.l 0)))]),(.ops [(.i .l (.mv (.v 0))),(.i .l (.load true 3 (.v 7))),(.i .l (.load true 3 (.v 6))),(.i .l (.bsl false 35 [(.int .i64 0),(.int .i64 0),.nils] 3 2 [(0,(.l 1)),(1,(.l 0))])),(.i .l (.build [(.int .i64 0),(.int .i64 0),.nils] [(0,1),(1,1),(2,1)] [(0,(.c (.int .i64 2))),(2,(.l 0))])),(.i .l (.call (.c (.fn 116 [] [])) [(.l 0)])),(.i .l (.call (.c (.fn 114 [] [])) [(.l 5),(.l 0)]))])] [(.ops [(.i .l (.bin (.int .i64) .eql (.v 10) (.c (.int .i64 9)))),(.i (.v 17) (.mv (.l 0)))]),(.cond (.v 17) [(.ops [(.i .l (.mv (.v 0))),(.i .l (.call (.c (.fn 117 [] [])) [(.l 0),(.c (.int .i64 0))]))])] [(.ops [(.i .l (.bin (.int .i64) .eql (.v 10) (.c (.int .i64 10)))),(.i (.v 18) (.mv (.l 0)))]),(.cond (.v 18) [(.ops [(.i .l (.mv (.v 0))),(.i .l (.call (.c (.fn 117 [] [])) [(.l 0),(.c (.int .i64 1))]))])] [(.ops [(.i .l (.bin (.int .i64) .eql (.v 10) (.c (.int .i64 11)))),(.i (.v 19) (.mv (.l 0)))]),(.cond (.v 19) [(.ops [(.i .l (.mv (.v 0))),(.i .l (.call (.c (.fn 90 [] [])) [(.l 0)])),(.i (.v 8) (.alloc [(.int .i64 0),(.int .i64 0),.nils])),(.i .n (.store 3 (.v 8) (.l 0)))]),(.ops [(.i .l (.mv (.v 0))),(.i .l (.mv (.v 3))),(.i .l (.nilc (.l 0))),(.i .l (.fad 0 (.l 0))),(.i .l (.load false 1 (.l 0))),(.i .l (.load true 3 (.v 8))),(.i .l (.bsl false 35 [(.int .i64 0),(.int .i64 0),.nils] 3 1 [(0,(.l 0))])),(.ck [⟨none,false,1,(.l 3),(.l 2)⟩]),(.i .l (.build [(.int .i64 0),(.int .i64 0),.nils] [(0,1),(1,1),(2,1)] [(0,(.c (.int .i64 3))),(1,(.l 2)),(2,(.l 0))])),(.i .l (.call (.c (.fn 116 [] [])) [(.l 0)])),(.i .l (.call (.c (.fn 114 [] [])) [(.l 8),(.l 0)]))])] [(.ops [(.i .l (.bin (.int .i64) .eql (.v 10) (.c (.int .i64 12)))),(.i (.v 20) (.mv (.l 0)))]),(.cond (.v 20) [(.ops [(.i .l (.mv (.v 0))),(.i .l (.call (.c (.fn 90 [] [])) [(.l 0)])),(.i .l (.call (.c (.fn 91 [] [])) [(.l 0),(.c (.int .i64 3))])),(.i (.v 9) (.alloc [(.int .i64 0),(.int .i64 0),.nils])),(.i .n (.store 3 (.v 9) (.l 0)))]),(.ops [(.i .l (.fad 1 (.v 9))),(.i .l (.load false 1 (.l 0))),(.i .l (.mv (.v 3))),(.i .l (.nilc (.l 0))),(.i .l (.fad 0 (.l 0))),(.i .l (.load false 1 (.l 0))),(.i .l (.bin (.int .i64) .neq (.l 4) (.l 0))),(.i .l (.call (.c (.fn 89 [] [])) [(.l 0),(.c (.int .i64 10))]))]),(.ops [(.i .l (.mv (.v 0))),(.i .l (.fad 2 (.v 9))),(.i .l (.load false 1 (.l 0))),(.i .l (.ixa (some 35) none (.l 0) (.c (.int .i64 0)))),(.i .l (.load true 3 (.l 0))),(.i .l (.call (.c (.fn 114 [] [])) [(.l 4),(.l 0)]))])] [(.ops [(.i .l (.mv (.v 0))),(.i .l (.load true 3 (.v 2))),(.i .l (.call (.c (.fn 118 [] [])) [(.l 1),(.l 0)]))])])])])])])])])])])])])]
theorem cJ:FnR Tryz.prog po 93 2 21 [0,1,3,4,5,6,7,8,9,10,14,18,23,30,38,57,77,90,94,98,112] cB [] false:=⟨_,_,Tryz.func93,rfl,rfl,by kernel_rfl,by kernel_rfl,by kernel_rfl,by kernel_rfl,by kernel_rfl⟩
def bG:List RS:=[(.ops [(.i (.v 2) (.box 3 (.v 1)))]),(.ops [(.i .l (.mv (.v 0))),(.i .l (.call (.c (.fn 88 [] [])) [(.l 0)])),(.i (.v 3) (.mv (.l 0)))]),(.ops [(.i .l (.fad 0 (.v 2))),(.i (.v 11) (.load false 1 (.l 0)))]),(.block 0 [(.ops [(.i .l (.bin (.int .i64) .eql (.v 11) (.c (.int .i64 13)))),(.i (.v 12) (.mv (.l 0)))]),(.cond (.v 12) [(.ops [(.i .l (.mv (.v 0))),(.i .l (.mv (.v 0))),(.i .l (.call (.c (.fn 90 [] [])) [(.l 0)])),(.i .l (.call (.c (.fn 129 [] [])) [(.l 2),(.l 0)]))])] [(.ops [(.i .l (.bin (.int .i64) .eql (.v 11) (.c (.int .i64 14)))),(.i (.v 13) (.mv (.l 0)))]),(.cond (.v 13) [(.ops [(.i .l (.mv (.v 0))),(.i .l (.call (.c (.fn 90 [] [])) [(.l 0)])),(.i .l (.mv (.v 0))),(.i .l (.call (.c (.fn 90 [] [])) [(.l 0)])),(.i (.v 4) (.alloc [(.int .i64 0),(.int .i64 0),.nils])),(.i (.v 5) (.alloc [(.int .i64 0),(.int .i64 0),.nils])),(.i .n (.store 3 (.v 4) (.l 2))),(.i .n (.store 3 (.v 5) (.l 0)))]),(.ops [(.i .l (.mv (.v 0))),(.i .l (.load true 3 (.v 5))),(.i .l (.load true 3 (.v 4))),(.i .l (.call (.c (.fn 130 [] [])) [(.l 2),(.l 1),(.l 0)]))])] [(.ops [(.i .l (.bin (.int .i64) .eql (.v 11) (.c (.int .i64 15)))),(.i (.v 14) (.mv (.l 0)))]),(.cond (.v 14) [(.ops [(.i .l (.mv (.v 0))),(.i .l (.mv (.v 0))),(.i .l (.mv (.v 0))),(.i .l (.fad 1 (.v 2))),(.i .l (.load false 1 (.l 0))),(.i .l (.call (.c (.fn 90 [] [])) [(.l 2)])),(.ck [⟨none,false,1,(.l 2),(.l 1)⟩]),(.i .l (.call (.c (.fn 91 [] [])) [(.l 0),(.c (.int .i64 4))])),(.ck [⟨none,false,1,(.l 3),(.l 2)⟩]),(.i .l (.call (.c (.fn 131 [] [])) [(.l 5),(.l 0),(.l 2),(.c (.int .i64 (-1)))])),(.i .l (.call (.c (.fn 114 [] [])) [(.l 7),(.l 0)]))])] [(.ops [(.i .l (.bin (.int .i64) .eql (.v 11) (.c (.int .i64 16)))),(.i (.v 15) (.mv (.l 0)))]),(.cond (.v 15) [(.ops [(.i .l (.mv (.v 0))),(.i .l (.mv (.v 0))),(.i .l (.call (.c (.fn 90 [] [])) [(.l 0)])),(.i .l (.call (.c (.fn 132 [] [])) [(.l 2),(.l 0)]))])] [(.ops [(.i .l (.bin (.int .i64) .eql (.v 11) (.c (.int .i64 17)))),(.i (.v 16) (.mv (.l 0)))]),(.cond (.v 16) [(.ops [(.i .l (.mv (.v 0))),(.i .l (.nilc (.l 0))),(.i .l (.fad 0 (.l 0))),(.i .l (.load false 1 (.l 0))),(.i .l (.nilc (.l 0))),(.i .l (.fad 0 (.l 0))),(.i .l (.load false 1 (.l 0))),(.i .l (.mv (.v 0))),(.i .l (.call (.c (.fn 90 [] [])) [(.l 0)])),(.ck [⟨none,false,1,(.l 6),(.l 5)⟩,⟨none,false,1,(.l 3),(.l 2)⟩]),(.i .l (.call (.c (.fn 91 [] [])) [(.l 0),(.c (.int .i64 5))])),(.ck [⟨none,false,1,(.l 7),(.l 6)⟩,⟨none,false,1,(.l 4),(.l 3)⟩]),(.i .l (.fld false 1 1 (.l 0))),(.i .l (.call (.c (.fn 62 [] [])) [(.l 4),(.l 0)]))]),(.ops [(.i .l (.mv (.v 0))),(.i .l (.build [(.int .i64 0),(.int .i64 0),.nils] [(0,1),(1,1),(2,1)] [])),(.i .l (.call (.c (.fn 114 [] [])) [(.l 1),(.l 0)]))])] [(.ops [(.i .l (.bin (.int .i64) .eql (.v 11) (.c (.int .i64 18)))),(.i (.v 17) (.mv (.l 0)))]),(.cond (.v 17) [(.ops [(.i .l (.mv (.v 0))),(.i .l (.call (.c (.fn 90 [] [])) [(.l 0)])),(.i (.v 6) (.alloc [(.int .i64 0),(.int .i64 0),.nils])),(.i .n (.store 3 (.v 6) (.l 0)))]),(.ops [(.i .l (.mv (.v 0))),(.i .l (.mv (.v 3))),(.i .l (.nilc (.l 0))),(.i .l (.fad 0 (.l 0))),(.i .l (.load false 1 (.l 0))),(.i .l (.fad 1 (.v 2))),(.i .l (.load false 1 (.l 0))),(.i .l (.load true 3 (.v 6))),(.i .l (.build [(.int .i64 0),(.int .i64 0),(.int .i64 0),(.int .i64 0),(.int .i64 0),.nils,.nils,.nils,(.bool false),.nils] [(0,1),(1,1),(2,1),(3,3),(6,1),(7,1),(8,1),(9,1)] [(0,(.l 3)),(1,(.l 1)),(3,(.l 0))])),(.i .l (.call (.c (.fn 133 [] [])) [(.l 8),(.l 0)]))])] [(.ops [(.i .l (.bin (.int .i64) .eql (.v 11) (.c (.int .i64 19)))),(.i (.v 18) (.mv (.l 0)))]),(.cond (.v 18) [(.ops [(.i .l (.mv (.v 0))),(.i .l (.call (.c (.fn 90 [] [])) [(.l 0)])),(.i .l (.mv (.v 0))),(.i .l (.call (.c (.fn 90 [] [])) [(.l 0)])),(.i (.v 7) (.alloc [(.int .i64 0),(.int .i64 0),.nils])),(.i (.v 8) (.alloc [(.int .i64 0),(.int .i64 0),.nils])),(.i .n (.store 3 (.v 7) (.l 2))),(.i .n (.store 3 (.v 8) (.l 0)))]),(.ops [(.i .l (.mv (.v 0))),(.i .l (.load true 3 (.v 8))),(.i .l (.load true 3 (.v 7))),(.i .l (.call (.c (.fn 134 [] [])) [(.l 2),(.l 1),(.l 0)]))])] [(.ops [(.i .l (.bin (.int .i64) .eql (.v 11) (.c (.int .i64 20)))),(.i (.v 19) (.mv (.l 0)))]),(.cond (.v 19) [(.ops [(.i .l (.mv (.v 0))),(.i .l (.nilc (.l 0))),(.i .l (.fad 0 (.l 0))),(.i .l (.load false 1 (.l 0))),(.i .l (.mv (.v 3))),(.i .l (.nilc (.l 0))),(.i .l (.fad 0 (.l 0))),(.i .l (.load false 1 (.l 0))),(.i .l (.nilc (.l 4))),(.i .l (.fad 2 (.l 0))),(.i .l (.ixa none (some (4,5)) (.l 0) (.l 2))),(.i (.v 9) (.mv (.l 0)))]),(.ops [(.i .l (.mv (.v 9))),(.i .l (.nilc (.l 0))),(.i .l (.fad 2 (.l 0))),(.i .l (.load true 3 (.l 0))),(.i (.v 10) (.alloc [(.int .i64 0),(.int .i64 0),.nils])),(.i .n (.store 3 (.v 10) (.l 0)))]),(.ops [(.i .l (.mv (.v 9))),(.i .l (.mv (.v 0))),(.i .l (.call (.c (.fn 90 [] [])) [(.l 0)])),(.i .l (.nilc (.l 2))),(.i .l (.fad 2 (.l 0))),(.i .n (.store 3 (.l 0) (.l 2)))]),(.ops [(.i .l (.mv (.v 0))),(.i .l (.load true 3 (.v 10))),(.i .l (.call (.c (.fn 114 [] [])) [(.l 1),(.l 0)]))])] [(.ops [(.i .l (.bin (.int .i64) .eql (.v 11) (.c (.int .i64 21)))),(.i (.v 20) (.mv (.l 0)))]),(.cond (.v 20) [(.ops [(.i .l (.mv (.v 0))),(.i .l (.mv (.v 0))),(.i .l (.nilc (.l 0))),(.i .l (.fad 0 (.l 0))),(.i .l (.load false 1 (.l 0))),(.i .l (.mv (.v 3))),(.i .l (.nilc (.l 0))),(.i .l (.fad 0 (.l 0))),(.i .l (.load false 1 (.l 0))),(.i .l (.nilc (.l 4))),(.i .l (.fad 2 (.l 0))),(.i .l (.ixa none (some (4,5)) (.l 0) (.l 2))),(.i .l (.fad 2 (.l 0))),(.i .l (.load true 3 (.l 0))),(.i .l (.call (.c (.fn 114 [] [])) [(.l 13),(.l 0)]))])] [])])])])])])])])])])]
theorem bN:FnR Tryz.prog po 118 2 21 [0,1,3,4,5,6,7,8,9,10,11,15,16,22,32,43,49,66,80,90,115] bG [] false:=⟨_,_,Tryz.func118,rfl,rfl,by kernel_rfl,by kernel_rfl,by kernel_rfl,by kernel_rfl,by kernel_rfl⟩
def jU:List RS:=[(.ops [(.i (.v 1) (.alloc [(.int .i64 0),(.int .i64 0),.nils])),(.i (.v 2) (.mv (.c (.bool false))))]),(.ops [(.i .l (.mv (.v 0))),(.i .l (.call (.c (.fn 90 [] [])) [(.l 0)])),(.i (.v 3) (.alloc [(.int .i64 0),(.int .i64 0),.nils])),(.i .n (.store 3 (.v 3) (.l 0)))]),(.ops [(.i .l (.mv (.v 0))),(.i .l (.call (.c (.fn 88 [] [])) [(.l 0)])),(.i .l (.nilc (.l 0))),(.i .l (.load true 10 (.l 0))),(.i (.v 4) (.alloc [(.int .i64 0),(.int .i64 0),(.int .i64 0),(.int .i64 0),(.int .i64 0),.nils,.nils,.nils,(.bool false),.nils])),(.i .n (.store 10 (.v 4) (.l 0)))]),(.ops [(.i .l (.fad 8 (.v 4))),(.i (.v 7) (.load false 1 (.l 0)))]),(.cond (.v 7) [(.ops [(.i .l (.mv (.v 0))),(.i .l (.nilc (.l 0))),(.i .l (.fad 0 (.l 0))),(.i .l (.load false 1 (.l 0))),(.i .l (.nilc (.l 0))),(.i .l (.fad 0 (.l 0))),(.i .l (.load false 1 (.l 0))),(.i .l (.load true 3 (.v 3))),(.i .l (.fad 9 (.v 4))),(.i .l (.load false 1 (.l 0))),(.i .l (.call (.c (.fn 113 [] [])) [(.l 3),(.l 2),(.l 0)])),(.i .l (.mv (.l 0))),(.i .l (.ext (.l 0) 0)),(.i .l (.ext (.l 1) 1)),(.i (.v 5) (.alloc [(.int .i64 0),(.int .i64 0),.nils])),(.ck [⟨none,false,1,(.l 11),(.l 10)⟩,⟨none,false,1,(.l 8),(.l 7)⟩,⟨none,true,3,(.v 3),(.l 6)⟩,⟨none,false,1,(.l 5),(.l 4)⟩]),(.i .n (.store 3 (.v 5) (.l 1))),(.i (.v 6) (.mv (.l 0)))]),(.ops [(.i .l (.mv (.v 6))),(.i .l (.bin (.int .i64) .neq (.l 0) (.c (.int .i64 0)))),(.i .l (.mv (.v 6))),(.i .l (.call (.c (.fn 89 [] [])) [(.l 1),(.l 0)]))]),(.ops [(.i .l (.load true 3 (.v 5))),(.i .n (.store 3 (.v 3) (.l 0)))])] []),(.ops [(.i .l (.mv (.v 0))),(.i .l (.mv (.v 0))),(.i .l (.nilc (.l 0))),(.i .l (.fad 1 (.l 0))),(.i .l (.load false 1 (.l 0))),(.i .l (.mv (.v 0))),(.i .l (.nilc (.l 0))),(.i .l (.fad 1 (.l 0))),(.i .l (.load false 1 (.l 0))),(.i .l (.len false (some 126) (.l 0))),(.i .l (.bin (.int .i64) .sub (.l 0) (.c (.int .i64 1)))),(.i .l (.slc false (some 126) (.l 6) none (some (.l 0)))),(.i .l (.nilc (.l 11))),(.i .l (.fad 1 (.l 0))),(.i .n (.store 1 (.l 0) (.l 2)))]),(.ops [(.i .l (.mv (.v 0))),(.i .l (.nilc (.l 0))),(.i .l (.fad 1 (.l 0))),(.i .l (.load false 1 (.l 0))),(.i .l (.len false (some 126) (.l 0))),(.i (.v 8) (.bin (.int .i64) .eql (.l 0) (.c (.int .i64 0))))]),(.cond (.v 8) [(.ops [(.i .l (.load true 3 (.v 3))),(.i .n (.store 3 (.v 1) (.l 0))),(.i (.v 2) (.mv (.c (.bool true))))]),.ret] []),(.ops [(.i .l (.mv (.v 0))),(.i .l (.load true 3 (.v 3))),(.i .l (.call (.c (.fn 114 [] [])) [(.l 1),(.l 0)]))]),(.ops [(.i .l (.load true 3 (.v 3))),(.i .n (.store 3 (.v 1) (.l 0))),(.i (.v 2) (.mv (.c (.bool false))))]),.ret]
theorem lH:FnR Tryz.prog po 92 1 9 [0,2,3,4,5,6,7,15,54] jU [(.cell true 3 1),(.v 2)] false:=⟨_,_,Tryz.func92,rfl,rfl,by kernel_rfl,by kernel_rfl,by kernel_rfl,by kernel_rfl,by kernel_rfl⟩
def dj:List RS:=[(.ops [(.i (.v 1) (.alloc [(.int .i64 0),(.int .i64 0),.nils])),(.i (.v 2) (.mv (.c (.bool false))))]),(.ops [(.i .l (.mv (.v 0))),(.i .l (.call (.c (.fn 88 [] [])) [(.l 0)])),(.i (.v 3) (.mv (.l 0)))]),(.ops [(.i .l (.mv (.v 0))),(.i .l (.nilc (.l 0))),(.i .l (.fad 0 (.l 0))),(.i .l (.load false 1 (.l 0))),(.i .l (.mv (.v 3))),(.i .l (.nilc (.l 0))),(.i .l (.fad 0 (.l 0))),(.i .l (.load false 1 (.l 0))),(.i .l (.nilc (.l 4))),(.i .l (.fad 2 (.l 0))),(.i .l (.ixa none (some (4,5)) (.l 0) (.l 2))),(.i .l (.fad 1 (.l 0))),(.i .l (.load false 1 (.l 0))),(.i .l (.mv (.v 3))),(.i .l (.nilc (.l 0))),(.i .l (.fad 1 (.l 0))),(.i .l (.load false 1 (.l 0))),(.i .l (.ixa (some 174) none (.l 4) (.l 0))),(.i .l (.load false 1 (.l 0))),(.i .l (.mv (.v 3))),(.i .l (.nilc (.l 0))),(.i .l (.fad 2 (.l 0))),(.i .l (.load false 1 (.l 0))),(.i .l (.ixa (some 184) none (.l 4) (.l 0))),(.i .l (.load true 3 (.l 0))),(.i (.v 4) (.alloc [(.int .i64 0),(.int .i64 0),(.int .i64 0)])),(.ck [⟨none,false,1,(.l 22),(.l 21)⟩,⟨none,false,1,(.l 18),(.l 17)⟩,⟨none,false,1,(.l 13),(.l 12)⟩,⟨none,false,1,(.l 9),(.l 8)⟩,⟨none,false,1,(.l 7),(.l 6)⟩,⟨none,false,1,(.l 3),(.l 2)⟩,⟨none,true,3,(.l 1),(.l 0)⟩]),(.i .n (.store 3 (.v 4) (.l 0)))]),(.ops [(.i .l (.mv (.v 3))),(.i .l (.nilc (.l 0))),(.i .l (.fad 2 (.l 0))),(.i .l (.load false 1 (.l 0))),(.i .l (.bin (.int .i64) .add (.l 0) (.c (.int .i64 1)))),(.i .l (.nilc (.l 4))),(.i .l (.fad 2 (.l 0))),(.i .n (.store 1 (.l 0) (.l 2)))]),(.ops [(.i .l (.fad 0 (.v 4))),(.i (.v 6) (.load false 1 (.l 0)))]),(.block 0 [(.ops [(.i .l (.bin (.int .i64) .eql (.v 6) (.c (.int .i64 100)))),(.i (.v 7) (.mv (.l 0)))]),(.cond (.v 7) [(.ops [(.i .l (.mv (.v 0))),(.i .l (.nilc (.l 0))),(.i .l (.fad 2 (.l 0))),(.i .l (.load false 1 (.l 0))),(.i .l (.bin (.int .i64) .eql (.l 0) (.c (.int .i64 0)))),(.i .l (.call (.c (.fn 89 [] [])) [(.l 0),(.c (.int .i64 12))]))]),(.ops [(.i .l (.mv (.v 0))),(.i .l (.nilc (.l 0))),(.i .l (.fad 2 (.l 0))),(.i .l (.load false 1 (.l 0))),(.i .l (.bin (.int .i64) .sub (.l 0) (.c (.int .i64 1)))),(.i .l (.nilc (.l 4))),(.i .l (.fad 2 (.l 0))),(.i .n (.store 1 (.l 0) (.l 2)))])] [(.ops [(.i .l (.bin (.int .i64) .eql (.v 6) (.c (.int .i64 101)))),(.i (.v 8) (.mv (.l 0)))]),(.cond (.v 8) [(.ops [(.i .l (.mv (.v 0))),(.i .l (.call (.c (.fn 90 [] [])) [(.l 0)])),(.i (.v 5) (.alloc [(.int .i64 0),(.int .i64 0),.nils])),(.i .n (.store 3 (.v 5) (.l 0)))]),(.ops [(.i .l (.mv (.v 3))),(.i .l (.nilc (.l 0))),(.i .l (.fad 7 (.l 0))),(.i .l (.load false 1 (.l 0))),(.i .l (.load true 3 (.v 5))),(.i .l (.len false (some 35) (.l 1))),(.i .l (.bsl true 35 [(.int .i64 0),(.int .i64 0),.nils] 3 1 [(0,(.c (.agg [(.int .i64 0),(.int .i64 0),.nils])))])),(.ck [⟨none,false,1,(.l 4),(.l 3)⟩,⟨none,true,3,(.v 5),(.l 2)⟩]),(.i .l (.app true 35 (.l 3) (.l 0))),(.i .l (.ixa (some 35) none (.l 0) (.l 2))),(.i .l (.nilc (.l 8))),(.i .l (.fad 7 (.l 0))),(.i .n (.store 3 (.l 2) (.l 6))),(.i .n (.store 1 (.l 0) (.l 3))),(.ck [⟨none,true,3,(.l 2),(.l 6)⟩])])] [(.ops [(.i .l (.bin (.int .i64) .eql (.v 6) (.c (.int .i64 102)))),(.i (.v 9) (.mv (.l 0)))]),(.cond (.v 9) [(.ops [(.i .l (.mv (.v 3))),(.i .l (.mv (.v 3))),(.i .l (.nilc (.l 0))),(.i .l (.fad 7 (.l 0))),(.i .l (.load false 1 (.l 0))),(.i .l (.mv (.v 3))),(.i .l (.nilc (.l 0))),(.i .l (.fad 7 (.l 0))),(.i .l (.load false 1 (.l 0))),(.i .l (.len false (some 35) (.l 0))),(.i .l (.bin (.int .i64) .sub (.l 0) (.c (.int .i64 1)))),(.i .l (.slc false (some 35) (.l 6) none (some (.l 0)))),(.i .l (.nilc (.l 11))),(.i .l (.fad 7 (.l 0))),(.i .n (.store 1 (.l 0) (.l 2)))])] [(.ops [(.i .l (.bin (.int .i64) .eql (.v 6) (.c (.int .i64 103)))),(.i (.v 10) (.mv (.l 0)))]),(.cond (.v 10) [(.ops [(.i .l (.mv (.v 0))),(.i .l (.call (.c (.fn 90 [] [])) [(.l 0)])),(.i .l (.call (.c (.fn 91 [] [])) [(.l 0),(.c (.int .i64 1))])),(.i .l (.fld false 1 1 (.l 0))),(.i (.v 11) (.bin (.int .i64) .eql (.l 0) (.c (.int .i64 0))))]),(.cond (.v 11) [(.ops [(.i .l (.mv (.v 3))),(.i .l (.fad 1 (.v 4))),(.i .l (.load false 1 (.l 0))),(.i .l (.nilc (.l 2))),(.i .l (.fad 2 (.l 0))),(.i .n (.store 1 (.l 0) (.l 2)))])] [])] [(.ops [(.i .l (.bin (.int .i64) .eql (.v 6) (.c (.int .i64 104)))),(.i (.v 12) (.mv (.l 0)))]),(.cond (.v 12) [(.ops [(.i .l (.mv (.v 3))),(.i .l (.fad 1 (.v 4))),(.i .l (.load false 1 (.l 0))),(.i .l (.nilc (.l 2))),(.i .l (.fad 2 (.l 0))),(.i .n (.store 1 (.l 0) (.l 2)))])] [(.ops [(.i .l (.bin (.int .i64) .eql (.v 6) (.c (.int .i64 105)))),(.i (.v 13) (.mv (.l 0)))]),(.cond (.v 13) [(.ops [(.i .l (.mv (.v 0))),(.i .l (.call (.c (.fn 92 [] [])) [(.l 0)])),(.i .l (.ext (.l 0) 0)),(.i .l (.ext (.l 1) 1)),(.i .n (.store 3 (.v 1) (.l 1))),(.i (.v 2) (.mv (.l 0)))]),.ret] [(.ops [(.i .l (.mv (.v 0))),(.i .l (.load true 3 (.v 4))),(.i .l (.call (.c (.fn 93 [] [])) [(.l 1),(.l 0)]))])])])])])])])]),(.ops [(.i .l (.build [(.int .i64 0),(.int .i64 0),.nils] [(0,1),(1,1),(2,1)] [])),(.i .n (.store 3 (.v 1) (.l 0))),(.i (.v 2) (.mv (.c (.bool false))))]),.ret]
theorem dL:FnR Tryz.prog po 50 1 14 [0,2,3,4,5,6,42,46,61,76,92,98,104,111] dj [(.cell true 3 1),(.v 2)] false:=⟨_,_,Tryz.func50,rfl,rfl,by kernel_rfl,by kernel_rfl,by kernel_rfl,by kernel_rfl,by kernel_rfl⟩
def DV:List RS:=[(.ops [(.i (.v 0) (.mv (.c .nilp)))]),(.ops [(.i .l (.build [(.int .i64 0),(.int .i64 0),(.int .i64 0),(.int .i64 0),(.int .i64 0),(.int .i64 0),(.int .i64 0),(.int .i64 0),(.int .i64 0),(.int .i64 0),(.int .i64 0),(.int .i64 0),.nils] [(0,12),(12,1)] [])),(.i .l (.box 13 (.l 0))),(.i (.v 0) (.mv (.l 0)))]),.ret]
theorem JK:FnR Tryz.prog po 77 0 1 [0] DV [(.v 0)] false:=⟨_,_,Tryz.func77,rfl,rfl,by kernel_rfl,by kernel_rfl,by kernel_rfl,by kernel_rfl,by kernel_rfl⟩
def ze:List RS:=[(.ops [(.i (.v 4) (.mv (.c (.int .i64 0)))),(.i (.v 5) (.mv (.c (.bool false))))]),(.ops [(.i .l (.mv (.v 2))),(.i .l (.call (.c (.fn 96 [] [])) [(.l 0)])),(.i (.v 6) (.un .not (.l 0)))]),(.cond (.v 6) [(.ops [(.i (.v 4) (.mv (.c (.int .i64 0)))),(.i (.v 5) (.mv (.c (.bool false))))]),.ret] []),(.ops [(.i .l (.mv (.v 0))),(.i .l (.mv (.v 0))),(.i .l (.nilc (.l 0))),(.i .l (.fad 12 (.l 0))),(.i .l (.load false 1 (.l 0))),(.i .l (.mv (.v 1))),(.i .l (.mv (.v 2))),(.i .l (.mv (.v 3))),(.i .l (.build [(.int .i64 0),(.int .i64 0),(.int .i64 0),(.int .i64 0)] [(0,1),(1,1),(2,1),(3,1)] [(0,(.l 2)),(1,(.l 1)),(2,(.c (.int .i64 1))),(3,(.l 0))])),(.i .l (.bsl false 137 [(.int .i64 0),(.int .i64 0),(.int .i64 0),(.int .i64 0)] 4 1 [(0,(.l 0))])),(.i .l (.app false 137 (.l 5) (.l 0))),(.i .l (.nilc (.l 10))),(.i .l (.fad 12 (.l 0))),(.i .n (.store 1 (.l 0) (.l 2)))]),(.ops [(.i .l (.mv (.v 0))),(.i .l (.mv (.v 2))),(.i .l (.nilc (.l 1))),(.i .l (.fad 0 (.l 0))),(.i .l (.ixa none (some (12,1)) (.l 0) (.l 2))),(.i .l (.load false 1 (.l 0))),(.i (.v 4) (.mv (.l 0))),(.i (.v 5) (.mv (.c (.bool true))))]),.ret]
theorem Ha:FnR Tryz.prog po 148 4 7 [0,1,2,3,8,9,12] ze [(.v 4),(.v 5)] false:=⟨_,_,Tryz.func148,rfl,rfl,by kernel_rfl,by kernel_rfl,by kernel_rfl,by kernel_rfl,by kernel_rfl⟩
def vY:List RS:=[(.ops [(.i (.v 5) (.mv (.c (.bool false))))]),(.ops [(.i .l (.mv (.v 2))),(.i .l (.call (.c (.fn 96 [] [])) [(.l 0)])),(.i (.v 6) (.un .not (.l 0)))]),(.cond (.v 6) [(.ops [(.i (.v 5) (.mv (.c (.bool false))))]),.ret] []),(.ops [(.i .l (.mv (.v 0))),(.i .l (.mv (.v 0))),(.i .l (.nilc (.l 0))),(.i .l (.fad 12 (.l 0))),(.i .l (.load false 1 (.l 0))),(.i .l (.mv (.v 1))),(.i .l (.mv (.v 2))),(.i .l (.mv (.v 3))),(.i .l (.build [(.int .i64 0),(.int .i64 0),(.int .i64 0),(.int .i64 0)] [(0,1),(1,1),(2,1),(3,1)] [(0,(.l 2)),(1,(.l 1)),(2,(.c (.int .i64 2))),(3,(.l 0))])),(.i .l (.bsl false 137 [(.int .i64 0),(.int .i64 0),(.int .i64 0),(.int .i64 0)] 4 1 [(0,(.l 0))])),(.i .l (.app false 137 (.l 5) (.l 0))),(.i .l (.nilc (.l 10))),(.i .l (.fad 12 (.l 0))),(.i .n (.store 1 (.l 0) (.l 2)))]),(.ops [(.i .l (.mv (.v 0))),(.i .l (.mv (.v 2))),(.i .l (.mv (.v 4))),(.i .l (.nilc (.l 2))),(.i .l (.fad 0 (.l 0))),(.i .l (.ixa none (some (12,1)) (.l 0) (.l 3))),(.i .n (.store 1 (.l 0) (.l 3)))]),(.ops [(.i (.v 5) (.mv (.c (.bool true))))]),.ret]
theorem E7:FnR Tryz.prog po 149 5 7 [0,1,2,3,4,10,13] vY [(.v 5)] false:=⟨_,_,Tryz.func149,rfl,rfl,by kernel_rfl,by kernel_rfl,by kernel_rfl,by kernel_rfl,by kernel_rfl⟩
def wu:List RS:=[(.ops [(.i (.v 1) (.mv (.c .nils)))]),(.ops [(.i .l (.mv (.v 0))),(.i .l (.nilc (.l 0))),(.i .l (.fad 12 (.l 0))),(.i .l (.load false 1 (.l 0))),(.i .l (.call (.c (.fn 52 [] [])) [(.l 0)])),(.i (.v 1) (.mv (.l 0)))]),.ret]
theorem C3:FnR Tryz.prog po 17 1 2 [0,2] wu [(.v 1)] true:=⟨_,_,Tryz.func17,rfl,rfl,by kernel_rfl,by kernel_rfl,by kernel_rfl,by kernel_rfl,by kernel_rfl⟩
def px:List RS:=[(.ops [(.i (.v 1) (.mv (.c .nils)))]),(.ops [(.i .l (.mv (.v 0))),(.i (.v 2) (.bin .slice .eql (.l 0) (.c .nils)))]),(.cond (.v 2) [(.ops [(.i (.v 1) (.mv (.c .nils)))]),.ret] []),(.ops [(.i .l (.bsl false 137 [(.int .i64 0),(.int .i64 0),(.int .i64 0),(.int .i64 0)] 4 0 [])),(.i .l (.mv (.v 0))),(.i .l (.app false 137 (.l 1) (.l 0))),(.i (.v 1) (.mv (.l 0)))]),.ret]
theorem u9:FnR Tryz.prog po 52 1 3 [0,2,4] px [(.v 1)] true:=⟨_,_,Tryz.func52,rfl,rfl,by kernel_rfl,by kernel_rfl,by kernel_rfl,by kernel_rfl,by kernel_rfl⟩
def Gn:List RS:=[(.ops [(.i (.v 2) (.box 3 (.v 1)))])]
def wx:List RI:=[(.i .l (.mv (.v 0))),(.i .l (.mv (.v 0))),(.i .l (.load true 3 (.v 2))),(.i .l (.bsl true 35 [(.int .i64 0),(.int .i64 0),.nils] 3 1 [(0,(.l 0))])),(.i .l (.call (.c (.fn 88 [] [])) [(.l 3)])),(.ck [⟨none,true,3,(.v 2),(.l 2)⟩]),(.i .l (.call (.c (.fn 88 [] [])) [(.l 3)])),(.ck [⟨none,true,3,(.v 2),(.l 3)⟩]),(.i .l (.nilc (.l 0))),(.i .l (.fad 6 (.l 0))),(.i .l (.load false 1 (.l 0))),(.i .l (.app true 35 (.l 0) (.l 5))),(.i .l (.nilc (.l 5))),(.i .l (.fad 6 (.l 0))),(.i .n (.store 1 (.l 0) (.l 2)))]
def wL:List RI:=[(.i .l (.mv (.v 0))),(.i .l (.mv (.v 0))),(.i .l (.load true 3 (.v 2))),(.i .l (.call (.c (.fn 88 [] [])) [(.l 2)])),(.ck [⟨none,true,3,(.v 2),(.l 1)⟩]),(.i .l (.bsl true 35 [(.int .i64 0),(.int .i64 0),.nils] 3 1 [(0,(.l 1))])),(.i .l (.call (.c (.fn 88 [] [])) [(.l 3)])),(.ck [⟨none,true,3,(.v 2),(.l 3)⟩]),(.i .l (.nilc (.l 0))),(.i .l (.fad 6 (.l 0))),(.i .l (.load false 1 (.l 0))),(.i .l (.app true 35 (.l 0) (.l 4))),(.i .l (.nilc (.l 6))),(.i .l (.fad 6 (.l 0))),(.i .n (.store 1 (.l 0) (.l 2)))]
def wg:List RI:=[(.i .l (.mv (.v 0))),(.i .l (.mv (.v 0))),(.i .l (.load true 3 (.v 2))),(.i .l (.call (.c (.fn 88 [] [])) [(.l 2)])),(.ck [⟨none,true,3,(.v 2),(.l 1)⟩]),(.i .l (.call (.c (.fn 88 [] [])) [(.l 2)])),(.ck [⟨none,true,3,(.v 2),(.l 2)⟩]),(.i .l (.nilc (.l 0))),(.i .l (.fad 6 (.l 0))),(.i .l (.load false 1 (.l 0))),(.i .l (.bsl true 35 [(.int .i64 0),(.int .i64 0),.nils] 3 1 [(0,(.l 5))])),(.ck [⟨none,false,1,(.l 2),(.l 1)⟩]),(.i .l (.app true 35 (.l 1) (.l 0))),(.i .l (.nilc (.l 6))),(.i .l (.fad 6 (.l 0))),(.i .n (.store 1 (.l 0) (.l 2)))]
open Go Go.RowKit
section
variable {P:Program} {po:Pol} {f:FuncId} {n nv:Nat} {vm:List Nat} {h h':AH} {t V V':List AV} {all:Array Oper} {pl:List (Nat×List Nat)} {E:Nat→Nat→Prop}
theorem Ea (pok:POK P po) {is:List RI} {K:List Item} {x:AEx} (pp:jH all pl (fun _=>false) E) (hkp:rO (po.kp f) all=true) (hvm:vm.Nodup∧∀ j s,vm[j]? =some s→(j<nv↔s<po.nv f))
  (htr:gR P (po.mu f) n vm all [] (eh true all pl)=some is) (hr:aq (aj P po) nv [.ops is,.halt K] V [] h=some (x,V',h')) (rv:RV n vm [] t V []):
  ∃ t',(∀ (m:Mm) (w:World) (a:Act) (b:Frame) (cs:List Frame) (L:List Nat),gX all E (mB all) L→WR P m h w→TR P m h t a.tmps→a.defers=b.defers→bU P (po.kp f) m h w b cs (lone (b.at a (.inRegion all L::K)) cs w) (x,t',h'))∧RV n vm [] t' V' []:=by
 obtain⟨t',e,rv'⟩:=(nB (n:=n) (f:=f) hvm.1 hvm.2 _ _ _ _ _ hr).2.1 true all (eh true all pl) is [.halt K] [] t [.halt K] rfl htr (.halt K [] []) rv
 refine⟨t',fun m w a b cs L hL hw ht hd=> ?_,rv'⟩
 obtain⟨e2,t2,h2,hp,he⟩:=jx pok f _ t h _ e
 refine pi pok pp hkp hp (fun e0=> ?_) (fun v e0=> ?_) hL hw ht hd
 ·subst e0
  exact fun m1 w1 a1 q1 q2 q3=>he K (.halt K []) b cs m1 w1 a1 q1 q2 q3
 ·subst e0
  exact he
theorem yZ (pok:POK P po) (hedge:∀ j,j<all.size→∀ e∈(opI all j).after,Region.binds .any e=true→e.on<j) {id:Nat} {b:Frame} {a:Act} {K:List Item} {cs:List Frame} {w:World}:
  ∃ L w',gX all (fun _ _=>False) (mB all) L∧Steps P (lone (b.at a (.code (.region id all true)::K)) cs w) (lone (b.at a (.inRegion all L::K)) cs w')∧(∀ (m:Mm) (h:AH),WR P m h w→WR P m h w')∧∀ base,Below base w w':=by
 refine⟨_,_,?_,.one step_region_draw,fun m h hw=>hw.drew,fun base=>(Below.refl _ _).drew⟩
 simp only[Region.schedule,pok.mixed,Bool.true_or,if_true,Region.linearise]
 exact Bi hedge _ _ _ (by simp) (by simp[List.countP_replicate])
end
open Go Go.RowKit
section
variable {P:Program} {po:Pol} {f:FuncId} {n nv:Nat} {vm:List Nat} {h h' h2 h3:AH} {V V':List AV} {args:List AV} {all:Array Oper}
theorem mS.draw (pok:POK P po) {id:Nat} {c:Code} (hc:c= .region id all true) (p:mS P po f n vm args h (.halt [.code c]) V h2)
  (hedge:((List.range all.size).all fun j=>(all.getD j default).after.all fun e=> !Region.binds .any e || decide (e.on<j))=true) (hvm:vm.Nodup∧∀ j s,vm[j]? =some s→(j<nv↔s<po.nv f)) (hkp:rO (po.kp f) all=true)
  (h1:∀ L,gX all (fun _ _=>False) (mB all) L→∃ (E:Nat→Nat→Prop) (pl:List (Nat×List Nat)) (is:List RI),gX all E (mB all) L∧jH all pl (fun _=>false) E∧gR P (po.mu f) n vm all [] (eh true all pl)=some is∧aq (aj P po) nv [.ops is,.halt []] V [] h2=some (.halt [],V',h3)):
  mS P po f n vm args h .ret V' h3:=by
 intro m w vs hw hvs cs
 obtain⟨bf,t2,b1,b2,b3,rv,m1,w1,x1,x2,x3,a1,x4,x5,x6⟩:=p m w vs hw hvs cs
 subst hc
 obtain⟨L,w2,q1,q2,q3,q4⟩:=yZ (P:=P) (all:=all) (id:=id) (b:=bf) (a:=a1) (K:=[]) (cs:=cs) (w:=w1) pok (fun j hj e he hb=>by
  rw[List.all_eq_true]at hedge
  have:=hedge j (List.mem_range.2 hj)
  rw[Array.all_eq_true']at this
  have:=this e he
  simpa[hb]using this)
 obtain⟨E,pl,is,e1,e2,e3,e4⟩:=h1 L q1
 obtain⟨t',hp,rv'⟩:=Ea (K:=[]) pok e2 hkp hvm e3 e4 rv
 obtain⟨m3,w3,y1,y2,y3,a3,y4,y5,y6⟩:=hp m1 w2 a1 bf cs L e1 (q3 _ _ x2) x4 x5
 refine⟨bf,t',b1,b2,b3,rv',bU.steps x6 (bU.after x1 x3 (bU.steps q2 (bU.after (Ext.refl _ _) (q4 _) ?_)))⟩
 exact⟨m3,w3,y1,y2,y3,a3,[],y4,y5,y6.trans (.one step_end)⟩
theorem tG {E:Nat→Nat→Prop} {x y z:Nat} (h1:E x y) (hz:((opI all z).after.toList.any fun e=>Region.binds .any e && e.on==y)=true):∀ {li:Array Bool} {L:List Nat},gX all E li L→li.size=all.size→(li.getD y false=true→li.getD x false=true)→gX all (AW E x z) li L:=by
 rw[List.any_eq_true]at hz
 obtain⟨e,e1,e2⟩:=hz
 simp only[Bool.and_eq_true,beq_iff_eq]at e2
 intro li L ho
 induction ho with
 | nil li h=>exact fun _ _=> .nil _ h
 | cons li i L g1 g2 g3 g4 _ ih=>
   intro hs hi
   have hil:i<li.size:=by omega
   refine .cons _ _ _ g1 g2 g3 (fun j hj=>hj.elim (g4 j) fun hj=> ?_) (ih (by simpa using hs) fun hy=> ?_)
   ·rw[hj.1]
    refine hi ?_
    have:=g3 e (by rw[hj.2];simpa using e1) e2.1
    rwa [e2.2]at this
   ·rw[bR hil]at hy ⊢
    split
    ·rfl
    ·split at hy
     ·rename_i h5
      exact g4 x (by rw[←h5];exact h1)
     ·exact hi hy
theorem Fq {E:Nat→Nat→Prop} {x y z:Nat} (h1:E x y) (h2:E z x) (hz:∃ e∈(opI all z).after,Region.binds .any e=true∧e.on=y) (hx:x<all.size):∀ {li:Array Bool} {L:List Nat},gX all E li L→li.size=all.size→li.getD x false=false→li.getD y false=false→li.getD z false=false→False:=by
 intro li L ho
 induction ho with
 | nil li h=>
   intro hs a _ _
   rw[h x hx]at a
   cases a
 | cons li i L g1 g2 g3 g4 _ ih=>
   intro hs a b c
   have n1:x≠i:=fun e=>by
    have:=g4 z (by rw[←e];exact h2)
    rw[c]at this
    cases this
   have n2:y≠i:=fun e=>by
    have:=g4 x (by rw[←e];exact h1)
    rw[a]at this
    cases this
   have n3:z≠i:=fun e=>by
    obtain⟨e',e1,e2,e3⟩:=hz
    have:=g3 e' (by rw[←e];exact e1) e2
    rw[e3,b]at this
    cases this
   have hi:i<li.size:=by omega
   exact ih (by simpa using hs) (by rw[bR hi,if_neg n1];exact a) (by rw[bR hi,if_neg n2];exact b) (by rw[bR hi,if_neg n3];exact c)
end
abbrev fPu:FuncId:=114
abbrev HV:FuncId:=88
noncomputable def cPu:Code:=Tryz.f114.body.getD .skip
theorem Mj:(Tryz.prog).funcs[fPu]? =some Tryz.f114:=Tryz.func114
theorem KO:Tryz.f114.body=some cPu:=rfl
theorem PD:Tryz.f114.ntmps=16:=rfl
theorem Nm:cPu= .seq (cL cPu) (cR cPu):=rfl
theorem N3:ju Tryz.prog [0,1,3] Tryz.f114.results.toList=some []:=by kernel_rfl
abbrev vPu:List Nat:=[0,1,3]
theorem Mt:sw 2 16 (po.nv fPu) 3 vPu=true:=by kernel_rfl
theorem M6:bj Tryz.prog (po.mu fPu) (po.plan fPu) 16 vPu (cL cPu) []=some Gn:=by kernel_rfl
theorem Lo:cQ (po.plan fPu) (po.kp fPu) (cL cPu)=true:=by kernel_rfl
noncomputable abbrev puO:Array Oper:=eO (cR cPu)
theorem Ns:cR cPu= .region 1 puO true:=rfl
theorem Ll:((List.range puO.size).all fun j=>(puO.getD j default).after.all fun e=> !Region.binds .any e || decide (e.on<j))=true:=by kernel_rfl
theorem Ow:rO (po.kp fPu) puO=true:=by kernel_rfl
def N2:List (Nat×List Nat):=[(0,[]),(2,[]),(7,[]),(8,[]),(1,[7]),(3,[7]),(4,[]),(5,[]),(6,[]),(9,[]),(10,[]),(11,[]),(12,[])]
def M4:List (Nat×List Nat):=[(0,[]),(2,[]),(7,[]),(1,[7]),(8,[]),(3,[7]),(4,[]),(5,[]),(6,[]),(9,[]),(10,[]),(11,[]),(12,[])]
def M3:List (Nat×List Nat):=[(0,[]),(2,[]),(7,[]),(1,[7]),(3,[7]),(4,[]),(5,[]),(6,[]),(8,[6]),(9,[]),(10,[]),(11,[]),(12,[])]
theorem O0:kv [(8,1),(8,3),(8,4),(8,5),(8,6)] puO N2=true:=by kernel_rfl
theorem Pb:kv [(1,8),(8,3),(8,4),(8,5),(8,6)] puO M4=true:=by kernel_rfl
theorem Pd:kv [(1,8),(3,8)] puO M3=true:=by kernel_rfl
theorem Ov:gR Tryz.prog (po.mu fPu) 16 vPu puO [] (eh true puO N2)=some wx:=by kernel_rfl
theorem Ox:gR Tryz.prog (po.mu fPu) 16 vPu puO [] (eh true puO M4)=some wL:=by kernel_rfl
theorem OF:gR Tryz.prog (po.mu fPu) 16 vPu puO [] (eh true puO M3)=some wg:=by kernel_rfl
theorem C1:puO.size=13:=by kernel_rfl
theorem Of:((opI puO 4).after.toList.any fun e=>Region.binds .any e && e.on==3)=true:=by kernel_rfl
theorem Pj:((opI puO 5).after.toList.any fun e=>Region.binds .any e && e.on==4)=true:=by kernel_rfl
theorem OM:((opI puO 6).after.toList.any fun e=>Region.binds .any e && e.on==5)=true:=by kernel_rfl
theorem Dj {E:Nat→Nat→Prop} (h1:E 8 3) {L:List Nat} (ho:gX puO E (mB puO) L):gX puO (AW (AW (AW E 8 4) 8 5) 8 6) (mB puO) L:=by
 have hsz:(mB puO).size=puO.size:=by simp
 have n:∀ j,(mB puO).getD j false=true→(mB puO).getD 8 false=true:=fun j hj=>by rw[dZ]at hj;cases hj
 exact tG (.inr ⟨rfl,rfl⟩) OM (tG (.inr ⟨rfl,rfl⟩) Pj (tG h1 Of ho hsz (n _)) hsz (n _)) hsz (n _)
theorem OK:((opI puO 3).after.toList.any fun e=>Region.binds .any e && e.on==1)=true:=by kernel_rfl
theorem OS (x y:AV):RV 16 vPu [] ([x,y]++replicate (16 - [x,y].length) .junk) ([x,y]++replicate (vPu.length - [x,y].length) .junk) []:=by
 refine⟨by simp,rfl,rfl,fun j s hj=> ?_,fun j s hj=>by simp at hj⟩
 match j,hj with
 | 0,hj | 1,hj | 2,hj=>obtain rfl:=Option.some.inj hj;exact⟨by decide,rfl⟩
 | j+3,hj=>simp at hj
theorem qG {h:AH} {mb fb k:Nat} {bx lf:AV} (hm:h.cell mb=some [[bx,.msl fb 0 (k+1) tFr,lf]]) (hk:k≤1000):aj Tryz.prog po HV [.ptr mb 0 0] h=some (.inl (.ptr fb k 0),h):=by
 have w:IntKind.wrap .i64 (((k+1:Nat):Int) - 1)=(k:Int):=Bj (by omega) (by omega) (by omega)
 have ix:∀ q:IntKind,bX (some tFr) none (.msl fb 0 (k+1) tFr) (.int q (k:Int))=some (.ptr fb (0+k) 0):=fun q=>sj rfl (by omega)
 refine ah JP rfl ?_;unfold Dt
 simp only[sim,ag,reduceAdd,reduceSub,replicate,reduceCtorEq,reduceLeDiff,reduceLT,aa,hm,w,ix,Nat.zero_add]
theorem K7 {h h3:AH} {mb fb k:Nat} {bx lf s s':AV} {r:List AV} {rows:List (List AV)} {row:List AV} (hk:k≤1000) (hr:r.length=3∧r.all AV.one=true) (hmn:mb<h.n) (hfn:fb<h.n)
  (hm:h.cell mb=some [[bx,.msl fb 0 (k+1) tFr,lf]]) (hf:h.cell fb=some rows) (hrow:rows[k]? =some row) (hs:row[6]? =some s) (hlr:row.length=10)
  (ha:aE true tV s (.msl (h.n+1) 0 1 tV) ((h.push [r]).push [r])=some (s',h3)) (hf3:h3.cell fb=some rows) (h1:s'.one=true) (hc1:s'.cells=[s']):
  aj Tryz.prog po fPu [.ptr mb 0 0,.agg r] h=some (.inl (.tup []),h3.set fb (some (rows.set k (row.set 6 s')))):=by
 have hkl:k<rows.length:=(List.getElem?_eq_some_iff.1 hrow).1
 have hst:stA row 6 [s']=row.set 6 s':=by
  match row,hlr with
  | [a,b,c,d,e,f,g,i,j,l],_=>rfl
 have hv:Gu [.ptr mb 0 0,.agg r] h=some (h3.set fb (some (rows.set k (row.set 6 s')))):=by
  simp only[Gu,hm,Option.bind_some,hf,Nat.add_sub_cancel,hrow,hs,ha,Option.map_some]
 have hac:AC Tryz.prog fPu [.ptr mb 0 0,.agg r] h (.inl (.tup []),h3.set fb (some (rows.set k (row.set 6 s')))):=by
  have p0:=mS.start (po:=po) (h:=h) Mj KO PD (OS (.ptr mb 0 0) (.agg r))
  have p1:=p0.next (nv:=3) (x:= .halt [.code (cR cPu)]) (V':=[.ptr mb 0 0,.agg r,.ptr h.n 0 0]) (h3:=h.push [r]) pok Nm (bO Mt) M6 Lo (by
   unfold Gn
   have hb:= @Df (aj (Tryz.prog) po) 3
   simp only[sim,ag,reduceAdd,reduceSub,replicate,reduceCtorEq,reduceLeDiff,reduceLT,aa,hr.1,hr.2])
  have hmn1:(h.push [r]).cell mb=some [[bx,.msl fb 0 (k+1) tFr,lf]]:=(iu (by omega)).trans hm
  have hmn2:((h.push [r]).push [r]).cell mb=some [[bx,.msl fb 0 (k+1) tFr,lf]]:=(iu (by rw[aJ];omega)).trans hmn1
  have hf1:(h.push [r]).cell fb=some rows:=(iu (by omega)).trans hf
  have hf2:((h.push [r]).push [r]).cell fb=some rows:=(iu (by rw[aJ];omega)).trans hf1
  have t1:=qG hmn1 hk
  have t2:=qG hmn2 hk
  have fs1:aI 6 (.ptr fb k 0)=some (.ptr fb k 6):=rfl
  have ld1:∀ {x:AH} {n:Nat},x.cell fb=some rows→aD false n x (.ptr fb k 6)=some s:=fun{x n} hx=>by
   rw[bC,hx,Option.bind_some,hrow,Option.bind_some,fD]
   exact hs
  have st:aH 1 h3 (.ptr fb k 6) s'=some (h3.set fb (some (rows.set k (row.set 6 s')))):=by
   rw[bo (es:=rows) (e:=row) hf3 hrow (by rw[hc1];simpa using h1) (by rw[hc1];rfl) (by omega),hc1,hst]
  have run:∀ is,is=wx∨is=wL∨is=wg→aq (aj Tryz.prog po) 3 [.ops is,.halt []] [.ptr mb 0 0,.agg r,.ptr h.n 0 0] [] (h.push [r])=some (.halt [],[.ptr mb 0 0,.agg r,.ptr h.n 0 0],h3.set fb (some (rows.set k (row.set 6 s')))):=by
   have q0:(h.push [r]).cell h.n=some [r]:=aC
   have q1:((h.push [r]).push [r]).cell h.n=some [r]:=(iu (by rw[aJ];omega)).trans aC
   intro is his
   rcases his with rfl | rfl | rfl
   ·unfold wx
    simp only[sim,ag,reduceAdd,reduceSub,replicate,reduceCtorEq,reduceLeDiff,reduceLT,aa,ay,HV,t1,t2,hr.1,hr.2,hf1,hf2,hrow,hs,ha,h1,hc1,q0,q1,ld1 hf2,st]
   ·unfold wL
    simp only[sim,ag,reduceAdd,reduceSub,replicate,reduceCtorEq,reduceLeDiff,reduceLT,aa,ay,t1,t2,hr.1,hr.2,hf1,hf2,hrow,hs,ha,h1,hc1,q0,q1,ld1 hf2,st]
   ·unfold wg
    simp only[sim,ag,reduceAdd,reduceSub,replicate,reduceCtorEq,reduceLeDiff,reduceLT,aa,ay,t1,t2,hr.1,hr.2,hf1,hf2,hrow,hs,ha,h1,hc1,q0,q1,ld1 hf1,ld1 hf2,st]
  refine(mS.draw (nv:=3) (V':=[.ptr mb 0 0,.agg r,.ptr h.n 0 0]) pok Ns p1 Ll (bO Mt) Ow fun L hL=> ?_).ret Mj N3 rfl
  have e31:∃ e∈(opI puO 3).after,Region.binds .any e=true∧e.on=1:=by
   have:=OK
   rw[List.any_eq_true]at this
   obtain⟨e,e1,e2⟩:=this
   simp only[Bool.and_eq_true,beq_iff_eq]at e2
   exact⟨e,by simpa using e1,e2.1,e2.2⟩
  have hsz:(mB puO).size=puO.size:=by simp
  rcases lX (x:=8) (y:=1) (by decide) (by rw[C1];decide) hL hsz (dZ _) (dZ _)with o1 | o1
  ·rcases lX (x:=8) (y:=3) (by decide) (by rw[C1];decide) o1 hsz (dZ _) (dZ _)with o2 | o2
   ·exact⟨_,N2,wx,(Dj (.inr ⟨rfl,rfl⟩) o2).mono (fun i j hj=>by simp only[List.mem_cons,Prod.mk.injEq,List.not_mem_nil,or_false]at hj;rcases hj with hj | hj | hj | hj | hj;exact .inl (.inl (.inl (.inl (.inr hj))));exact .inl (.inl (.inl (.inr hj)));exact .inl (.inl (.inr hj));exact .inl (.inr hj);exact .inr hj),ja O0,Ov,run _ (.inl rfl)⟩
   ·exact(Fq (x:=8) (y:=1) (z:=3) (.inl (.inr ⟨rfl,rfl⟩)) (.inr ⟨rfl,rfl⟩) e31 (by rw[C1];decide) o2 hsz (dZ _) (dZ _) (dZ _)).elim
  ·rcases lX (x:=8) (y:=3) (by decide) (by rw[C1];decide) o1 hsz (dZ _) (dZ _)with o2 | o2
   ·exact⟨_,M4,wL,(Dj (.inr ⟨rfl,rfl⟩) o2).mono (fun i j hj=>by simp only[List.mem_cons,Prod.mk.injEq,List.not_mem_nil,or_false]at hj;rcases hj with hj | hj | hj | hj | hj;exact .inl (.inl (.inl (.inl (.inr hj))));exact .inl (.inl (.inl (.inr hj)));exact .inl (.inl (.inr hj));exact .inl (.inr hj);exact .inr hj),ja Pb,Ox,run _ (.inr (.inl rfl))⟩
   ·exact⟨_,M3,wg,o2.mono (fun i j hj=>by simp only[List.mem_cons,Prod.mk.injEq,List.mem_singleton,List.not_mem_nil,or_false]at hj;rcases hj with hj | hj;exact .inl (.inr hj);exact .inr hj),ja Pd,OF,run _ (.inr (.inr rfl))⟩
 have hx:po.ext fPu=some DG:=by
  show ql fPu=_
  unfold ql
  rw[if_neg (by decide),if_pos rfl]
 unfold aj
 rw[hx]
 simp only[DG,hv]
 rw[if_pos hac]
def jr:List RS:=[(.ops [(.i .l (.mv (.v 4))),(.i .l (.fad 2 (.v 2))),(.i .l (.load false 1 (.l 0))),(.i .l (.len false (some 35) (.l 0))),(.i .l (.bin (.int .i64) .lss (.l 3) (.l 0))),(.i .l (.mv (.l 0))),(.g (.l 0) true .l (.mv (.v 1))),(.g (.l 1) true .l (.bin (.int .i64) .geq (.l 0) (.c (.int .i64 0)))),(.i (.v 5) (.pick (.l 2) (.l 0) (.c (.bool false))))]),(.cond (.v 5) [] [(.exit 0)]),(.block 1 [(.ops [(.i .l (.fad 2 (.v 2))),(.i .l (.load false 1 (.l 0))),(.i .l (.mv (.v 4))),(.i .l (.ixa (some 35) none (.l 1) (.l 0))),(.i .l (.load true 3 (.l 0))),(.i .l (.mv (.v 1))),(.i .l (.call (.c (.fn 86 [] [])) [(.l 1),(.l 0)])),(.i (.v 1) (.mv (.l 0)))])]),(.ops [(.i .l (.mv (.v 4))),(.i .l (.bin (.int .i64) .add (.l 0) (.c (.int .i64 1)))),(.i (.v 4) (.mv (.l 0)))])]
def yI:List RS:=[(.ops [(.i (.v 2) (.box 3 (.v 0))),(.i (.v 3) (.mv (.c (.int .i64 0))))]),(.ops [(.i .l (.mv (.v 1))),(.i .l (.bin (.int .i64) .sub (.l 0) (.c (.int .i64 1)))),(.i (.v 1) (.mv (.l 0)))]),(.ops [(.i (.v 4) (.mv (.c (.int .i64 0))))]),(.block 0 [(.loop jr)]),(.ops [(.i .l (.mv (.v 1))),(.i (.v 3) (.mv (.l 0)))]),.ret]
theorem GY:FnR Tryz.prog po 86 2 6 [0,1,2,4,5,16] yI [(.v 3)] true:=⟨_,_,Tryz.func86,rfl,rfl,by kernel_rfl,by kernel_rfl,by kernel_rfl,by kernel_rfl,by kernel_rfl⟩
def pA:List RS:=[(.ops [(.i (.v 1) (.box 3 (.v 0))),(.i (.v 2) (.mv (.c (.int .i64 0))))]),(.ops [(.i .l (.load true 3 (.v 1))),(.i .l (.call (.c (.fn 86 [] [])) [(.l 0),(.c (.int .i64 40))])),(.i (.v 3) (.bin (.int .i64) .lss (.l 0) (.c (.int .i64 0))))]),(.cond (.v 3) [(.ops [(.i (.v 2) (.mv (.c (.int .i64 3))))]),.ret] []),(.ops [(.i .l (.load true 3 (.v 1))),(.i .l (.call (.c (.fn 87 [] [])) [(.l 0)])),(.i (.v 2) (.mv (.l 0)))]),.ret]
theorem uN:FnR Tryz.prog po 47 1 4 [0,1,2,5] pA [(.v 2)] true:=⟨_,_,Tryz.func47,rfl,rfl,by kernel_rfl,by kernel_rfl,by kernel_rfl,by kernel_rfl,by kernel_rfl⟩
def fO:List RS:=[(.ops [(.i (.v 12) (.bin (.int .i64) .lss (.v 11) (.v 10)))]),(.cond (.v 12) [] [(.exit 1)]),(.block 2 [(.ops [(.i .l (.ixa (some 35) none (.v 9) (.v 11))),(.i .l (.load true 3 (.l 0))),(.i (.v 4) (.alloc [(.int .i64 0),(.int .i64 0),.nils])),(.i .n (.store 3 (.v 4) (.l 0)))]),(.ops [(.i .l (.load true 3 (.v 4))),(.i .l (.call (.c (.fn 87 [] [])) [(.l 0)])),(.i (.v 5) (.mv (.l 0)))]),(.ops [(.i .l (.mv (.v 5))),(.i (.v 13) (.bin (.int .i64) .neq (.l 0) (.c (.int .i64 0))))]),(.cond (.v 13) [(.ops [(.i .l (.mv (.v 5))),(.i (.v 2) (.mv (.l 0)))]),.ret] [])]),(.ops [(.i .l (.bin (.int .i64) .add (.v 11) (.c (.int .i64 1)))),(.i (.v 11) (.mv (.l 0)))])]
def vr:List RS:=[(.ops [(.i (.v 1) (.box 3 (.v 0))),(.i (.v 2) (.mv (.c (.int .i64 0))))]),(.ops [(.i .l (.fad 0 (.v 1))),(.i .l (.load false 1 (.l 0))),(.i .l (.bin (.int .i64) .lss (.l 0) (.c (.int .i64 0)))),(.i .l (.mv (.l 0))),(.g (.l 0) false .l (.fad 0 (.v 1))),(.g (.l 1) false .l (.load false 1 (.l 0))),(.g (.l 2) false .l (.bin (.int .i64) .gtr (.l 0) (.c (.int .i64 5)))),(.i (.v 6) (.pick (.l 3) (.c (.bool true)) (.l 0)))]),(.cond (.v 6) [(.ops [(.i (.v 2) (.mv (.c (.int .i64 2))))]),.ret] []),(.ops [(.i .l (.bsl false 3 [(.int .i64 0)] 1 6 [(0,(.c (.int .i64 0))),(1,(.c (.int .i64 0))),(2,(.c (.int .i64 2))),(3,(.c (.int .i64 1))),(4,(.c (.int .i64 0))),(5,(.c (.int .i64 0)))])),(.i .l (.fad 0 (.v 1))),(.i .l (.load false 1 (.l 0))),(.i .l (.ixa (some 3) none (.l 2) (.l 0))),(.i .l (.load false 1 (.l 0))),(.i (.v 3) (.mv (.l 0)))]),(.block 0 [(.ops [(.i .l (.fad 2 (.v 1))),(.i .l (.load false 1 (.l 0))),(.i .l (.len false (some 35) (.l 0))),(.i .l (.mv (.v 3))),(.i .l (.bin (.int .i64) .neq (.l 1) (.l 0))),(.i .l (.mv (.l 0))),(.g (.l 0) false .l (.mv (.v 3))),(.g (.l 1) false .l (.bin (.int .i64) .eql (.l 0) (.c (.int .i64 2)))),(.g (.l 2) false .l (.mv (.l 0))),(.g (.l 0) true .l (.fad 1 (.v 1))),(.g (.l 1) true .l (.load false 1 (.l 0))),(.g (.l 2) true .l (.bin (.int .i64) .neq (.l 0) (.c (.int .i64 0)))),(.g (.l 6) false .l (.pick (.l 3) (.l 0) (.c (.bool false)))),(.i .l (.pick (.l 7) (.c (.bool true)) (.l 0))),(.i .l (.mv (.l 0))),(.g (.l 0) false .l (.fad 0 (.v 1))),(.g (.l 1) false .l (.load false 1 (.l 0))),(.g (.l 2) false .l (.bin (.int .i64) .eql (.l 0) (.c (.int .i64 0)))),(.g (.l 3) false .l (.mv (.l 0))),(.g (.l 0) true .l (.fad 1 (.v 1))),(.g (.l 1) true .l (.load false 1 (.l 0))),(.g (.l 2) true .l (.bin (.int .i64) .neq (.l 0) (.c (.int .i64 0)))),(.g (.l 7) false .l (.pick (.l 3) (.l 0) (.c (.bool false)))),(.i .l (.pick (.l 8) (.c (.bool true)) (.l 0))),(.i (.v 7) (.mv (.l 0)))]),(.cond (.v 7) [(.ops [(.i (.v 2) (.mv (.c (.int .i64 5))))]),.ret] [(.ops [(.i .l (.fad 0 (.v 1))),(.i .l (.load false 1 (.l 0))),(.i .l (.bin (.int .i64) .geq (.l 0) (.c (.int .i64 3)))),(.i .l (.mv (.l 0))),(.g (.l 0) true .l (.fad 1 (.v 1))),(.g (.l 1) true .l (.load false 1 (.l 0))),(.g (.l 2) true .l (.bin (.int .i64) .lss (.l 0) (.c (.int .i64 0)))),(.i .l (.pick (.l 3) (.l 0) (.c (.bool false)))),(.i (.v 8) (.mv (.l 0)))]),(.cond (.v 8) [(.ops [(.i (.v 2) (.mv (.c (.int .i64 1))))]),.ret] [])])]),(.ops [(.i .l (.fad 2 (.v 1))),(.i (.v 9) (.load false 1 (.l 0))),(.i (.v 10) (.len false (some 35) (.v 9))),(.i (.v 11) (.mv (.c (.int .i64 0))))]),(.block 1 [(.loop fO)]),(.ops [(.i (.v 2) (.mv (.c (.int .i64 0))))]),.ret]
theorem ET:FnR Tryz.prog po 87 1 14 [0,1,2,3,5,6,14,20,45,55,56,57,58,64] vr [(.v 2)] true:=⟨_,_,Tryz.func87,rfl,rfl,by kernel_rfl,by kernel_rfl,by kernel_rfl,by kernel_rfl,by kernel_rfl⟩
def kl:List RS:=[(.ops [(.i (.v 8) (.bin (.int .i64) .lss (.v 7) (.v 6)))]),(.cond (.v 8) [] [(.exit 0)]),(.block 1 [(.ops [(.i .l (.ixa (some 35) none (.v 5) (.v 7))),(.i .l (.load true 3 (.l 0))),(.i (.v 4) (.alloc [(.int .i64 0),(.int .i64 0),.nils])),(.i .n (.store 3 (.v 4) (.l 0)))]),(.ops [(.i .l (.fad 2 (.v 3))),(.i .l (.load false 1 (.l 0))),(.i .l (.load true 3 (.v 4))),(.i .l (.call (.c (.fn 48 [] [])) [(.l 0)])),(.ck [⟨none,false,1,(.l 3),(.l 2)⟩]),(.i .l (.bsl false 35 [(.int .i64 0),(.int .i64 0),.nils] 3 1 [(0,(.l 0))])),(.ck [⟨none,false,1,(.l 4),(.l 3)⟩]),(.i .l (.app false 35 (.l 3) (.l 0))),(.i .l (.fad 2 (.v 3))),(.i .n (.store 1 (.l 0) (.l 1)))])]),(.ops [(.i .l (.bin (.int .i64) .add (.v 7) (.c (.int .i64 1)))),(.i (.v 7) (.mv (.l 0)))])]
def Cu:List RS:=[(.ops [(.i (.v 1) (.box 3 (.v 0))),(.i (.v 2) (.alloc [(.int .i64 0),(.int .i64 0),.nils]))]),(.ops [(.i .l (.fad 0 (.v 1))),(.i .l (.load false 1 (.l 0))),(.i .l (.fad 1 (.v 1))),(.i .l (.load false 1 (.l 0))),(.i .l (.build [(.int .i64 0),(.int .i64 0),.nils] [(0,1),(1,1),(2,1)] [(0,(.l 2)),(1,(.l 0))])),(.i (.v 3) (.alloc [(.int .i64 0),(.int .i64 0),.nils])),(.i .n (.store 3 (.v 3) (.l 0)))]),(.ops [(.i .l (.fad 2 (.v 1))),(.i (.v 5) (.load false 1 (.l 0))),(.i (.v 6) (.len false (some 35) (.v 5))),(.i (.v 7) (.mv (.c (.int .i64 0))))]),(.block 0 [(.loop kl)]),(.ops [(.i .l (.load true 3 (.v 3))),(.i .n (.store 3 (.v 2) (.l 0)))]),.ret]
theorem Ke:FnR Tryz.prog po 48 1 9 [0,1,2,3,5,12,13,14,15] Cu [(.cell true 3 2)] true:=⟨_,_,Tryz.func48,rfl,rfl,by kernel_rfl,by kernel_rfl,by kernel_rfl,by kernel_rfl,by kernel_rfl⟩
def jo:List RS:=[(.ops [(.i (.v 9) (.bin (.int .i64) .lss (.v 8) (.v 7)))]),(.cond (.v 9) [] [(.exit 0)]),(.block 1 [(.ops [(.i .l (.ixa (some 35) none (.v 6) (.v 8))),(.i .l (.load true 3 (.l 0))),(.i (.v 4) (.alloc [(.int .i64 0),(.int .i64 0),.nils])),(.i .n (.store 3 (.v 4) (.l 0)))]),(.ops [(.i .l (.mv (.v 3))),(.i .l (.load true 3 (.v 4))),(.i .l (.call (.c (.fn 143 [] [])) [(.l 0)])),(.i .l (.app false 3 (.l 2) (.l 0))),(.i (.v 3) (.mv (.l 0)))])]),(.ops [(.i .l (.bin (.int .i64) .add (.v 8) (.c (.int .i64 1)))),(.i (.v 8) (.mv (.l 0)))])]
def zB:List RS:=[(.ops [(.i (.v 1) (.box 3 (.v 0))),(.i (.v 2) (.mv (.c .nils)))]),(.ops [(.i (.v 3) (.mv (.c .nils)))]),(.ops [(.i .l (.fad 0 (.v 1))),(.i .l (.load false 1 (.l 0))),(.i (.v 5) (.bin (.int .i64) .eql (.l 0) (.c (.int .i64 4))))]),(.cond (.v 5) [(.ops [(.i .l (.mv (.v 3))),(.i .l (.fad 1 (.v 1))),(.i .l (.load false 1 (.l 0))),(.i .l (.bsl false 3 [(.int .i64 0)] 1 1 [(0,(.l 0))])),(.i .l (.app false 3 (.l 3) (.l 0))),(.i (.v 3) (.mv (.l 0)))])] []),(.ops [(.i .l (.fad 2 (.v 1))),(.i (.v 6) (.load false 1 (.l 0))),(.i (.v 7) (.len false (some 35) (.v 6))),(.i (.v 8) (.mv (.c (.int .i64 0))))]),(.block 0 [(.loop jo)]),(.ops [(.i .l (.mv (.v 3))),(.i (.v 2) (.mv (.l 0)))]),.ret]
theorem G4:FnR Tryz.prog po 143 1 10 [0,1,2,3,5,8,15,16,17,18] zB [(.v 2)] true:=⟨_,_,Tryz.func143,rfl,rfl,by kernel_rfl,by kernel_rfl,by kernel_rfl,by kernel_rfl,by kernel_rfl⟩
def vp:List RS:=[(.ops [(.i (.v 1) (.box 3 (.v 0))),(.i (.v 2) (.mv (.c (.bool false))))]),(.ops [(.i .l (.fad 0 (.v 1))),(.i .l (.load false 1 (.l 0))),(.i .l (.bin (.int .i64) .eql (.l 0) (.c (.int .i64 5)))),(.i .l (.mv (.l 0))),(.g (.l 0) false .l (.fad 2 (.v 1))),(.g (.l 1) false .l (.load false 1 (.l 0))),(.g (.l 2) false .l (.call (.c (.fn 157 [] [])) [(.l 0),(.c (.fn 142 [] []))])),(.i .l (.pick (.l 3) (.c (.bool true)) (.l 0))),(.i (.v 2) (.mv (.l 0)))]),.ret]
theorem ER:FnR Tryz.prog po 142 1 3 [0,1,2] vp [(.v 2)] true:=⟨_,_,Tryz.func142,rfl,rfl,by kernel_rfl,by kernel_rfl,by kernel_rfl,by kernel_rfl,by kernel_rfl⟩
def nV:List RS:=[(.ops [(.i (.v 2) (.mv (.c (.bool false))))]),(.ops [(.i .l (.mv (.v 0))),(.i .l (.mv (.v 1))),(.i .l (.call (.c (.fn 166 [] [])) [(.l 1),(.l 0)])),(.i .l (.bin (.int .i64) .geq (.l 0) (.c (.int .i64 0)))),(.i (.v 2) (.mv (.l 0)))]),.ret]
theorem wN:FnR Tryz.prog po 157 2 3 [0,1,4] nV [(.v 2)] true:=⟨_,_,Tryz.func157,rfl,rfl,by kernel_rfl,by kernel_rfl,by kernel_rfl,by kernel_rfl,by kernel_rfl⟩
def iw:List RS:=[(.ops [(.i (.v 6) (.bin (.int .i64) .lss (.v 5) (.v 4)))]),(.cond (.v 6) [] [(.exit 0)]),(.block 1 [(.ops [(.i .l (.mv (.v 5))),(.i (.v 3) (.mv (.l 0)))]),(.ops [(.i .l (.mv (.v 1))),(.i .l (.mv (.v 0))),(.i .l (.mv (.v 3))),(.i .l (.ixa (some 35) none (.l 1) (.l 0))),(.i .l (.load true 3 (.l 0))),(.i (.v 7) (.call (.l 4) [(.l 0)]))]),(.cond (.v 7) [(.ops [(.i .l (.mv (.v 3))),(.i (.v 2) (.mv (.l 0)))]),.ret] [])]),(.ops [(.i .l (.bin (.int .i64) .add (.v 5) (.c (.int .i64 1)))),(.i (.v 5) (.mv (.l 0)))])]
def vG:List RS:=[(.ops [(.i (.v 2) (.mv (.c (.int .i64 0))))]),(.ops [(.i .l (.mv (.v 0))),(.i (.v 4) (.len false (some 35) (.l 0))),(.i (.v 5) (.mv (.c (.int .i64 0))))]),(.block 0 [(.loop iw)]),(.ops [(.i (.v 2) (.mv (.c (.int .i64 (-1)))))]),.ret]
theorem D5:FnR Tryz.prog po 166 2 8 [0,1,4,5,7,8,9,16] vG [(.v 2)] true:=⟨_,_,Tryz.func166,rfl,rfl,by kernel_rfl,by kernel_rfl,by kernel_rfl,by kernel_rfl,by kernel_rfl⟩
def so:List RS:=[(.ops [(.i (.v 2) (.box 3 (.v 0))),(.i (.v 3) (.box 3 (.v 1))),(.i (.v 4) (.mv (.c (.bool false))))]),(.ops [(.i .l (.fad 0 (.v 2))),(.i .l (.load false 1 (.l 0))),(.i .l (.fad 0 (.v 3))),(.i .l (.load false 1 (.l 0))),(.i .l (.bin (.int .i64) .eql (.l 2) (.l 0))),(.i .l (.mv (.l 0))),(.g (.l 0) true .l (.fad 1 (.v 2))),(.g (.l 1) true .l (.load false 1 (.l 0))),(.g (.l 2) true .l (.fad 1 (.v 3))),(.g (.l 3) true .l (.load false 1 (.l 0))),(.g (.l 4) true .l (.bin (.int .i64) .eql (.l 2) (.l 0))),(.i .l (.pick (.l 5) (.l 0) (.c (.bool false)))),(.i .l (.mv (.l 0))),(.g (.l 0) true .l (.fad 2 (.v 2))),(.g (.l 1) true .l (.load false 1 (.l 0))),(.g (.l 2) true .l (.fad 2 (.v 3))),(.g (.l 3) true .l (.load false 1 (.l 0))),(.g (.l 4) true .l (.call (.c (.fn 30 [] [])) [(.l 2),(.l 0)])),(.i .l (.pick (.l 5) (.l 0) (.c (.bool false)))),(.i (.v 4) (.mv (.l 0)))]),.ret]
theorem BD:FnR Tryz.prog po 19 2 5 [0,1,2,3,4] so [(.v 4)] true:=⟨_,_,Tryz.func19,rfl,rfl,by kernel_rfl,by kernel_rfl,by kernel_rfl,by kernel_rfl,by kernel_rfl⟩
def gc:List RS:=[(.ops [(.i .l (.mv (.v 3))),(.i .l (.mv (.v 0))),(.i .l (.len false (some 35) (.l 0))),(.i (.v 5) (.bin (.int .i64) .lss (.l 2) (.l 0)))]),(.cond (.v 5) [] [(.exit 0)]),(.block 1 [(.ops [(.i .l (.mv (.v 0))),(.i .l (.mv (.v 3))),(.i .l (.ixa (some 35) none (.l 1) (.l 0))),(.i .l (.load true 3 (.l 0))),(.i .l (.mv (.v 1))),(.i .l (.mv (.v 3))),(.i .l (.ixa (some 35) none (.l 1) (.l 0))),(.i .l (.load true 3 (.l 0))),(.i .l (.call (.c (.fn 19 [] [])) [(.l 4),(.l 0)])),(.i (.v 6) (.un .not (.l 0)))]),(.cond (.v 6) [(.ops [(.i (.v 2) (.mv (.c (.bool false))))]),.ret] [])]),(.ops [(.i .l (.mv (.v 3))),(.i .l (.bin (.int .i64) .add (.l 0) (.c (.int .i64 1)))),(.i (.v 3) (.mv (.l 0)))])]
def lT:List RS:=[(.ops [(.i (.v 2) (.mv (.c (.bool false))))]),(.ops [(.i .l (.mv (.v 0))),(.i .l (.len false (some 35) (.l 0))),(.i .l (.mv (.v 1))),(.i .l (.len false (some 35) (.l 0))),(.i (.v 4) (.bin (.int .i64) .neq (.l 2) (.l 0)))]),(.cond (.v 4) [(.ops [(.i (.v 2) (.mv (.c (.bool false))))]),.ret] []),(.ops [(.i (.v 3) (.mv (.c (.int .i64 0))))]),(.block 0 [(.loop gc)]),(.ops [(.i (.v 2) (.mv (.c (.bool true))))]),.ret]
theorem pY:FnR Tryz.prog po 30 2 7 [0,1,4,5,10,14,26] lT [(.v 2)] true:=⟨_,_,Tryz.func30,rfl,rfl,by kernel_rfl,by kernel_rfl,by kernel_rfl,by kernel_rfl,by kernel_rfl⟩
def iz:List RS:=[(.ops [(.i .l (.mv (.v 4))),(.i .l (.fad 2 (.v 1))),(.i .l (.load false 1 (.l 0))),(.i .l (.len false (some 35) (.l 0))),(.i (.v 6) (.bin (.int .i64) .lss (.l 3) (.l 0)))]),(.cond (.v 6) [] [(.exit 0)]),(.block 1 [(.ops [(.i .l (.mv (.v 3))),(.i .l (.fad 2 (.v 1))),(.i .l (.load false 1 (.l 0))),(.i .l (.mv (.v 4))),(.i .l (.ixa (some 35) none (.l 1) (.l 0))),(.i .l (.load true 3 (.l 0))),(.i .l (.call (.c (.fn 165 [] [])) [(.l 0)])),(.i .l (.app false 3 (.l 6) (.l 0))),(.i (.v 3) (.mv (.l 0)))])]),(.ops [(.i .l (.mv (.v 4))),(.i .l (.bin (.int .i64) .add (.l 0) (.c (.int .i64 1)))),(.i (.v 4) (.mv (.l 0)))])]
def uP:List RS:=[(.ops [(.i (.v 1) (.box 3 (.v 0))),(.i (.v 2) (.mv (.c .nils)))]),(.ops [(.i (.v 3) (.mv (.c .nils)))]),(.ops [(.i .l (.fad 0 (.v 1))),(.i .l (.load false 1 (.l 0))),(.i (.v 5) (.bin (.int .i64) .eql (.l 0) (.c (.int .i64 4))))]),(.cond (.v 5) [(.ops [(.i .l (.fad 1 (.v 1))),(.i .l (.load false 1 (.l 0))),(.i .l (.bsl false 3 [(.int .i64 0)] 1 1 [(0,(.l 0))])),(.i (.v 3) (.mv (.l 0)))])] []),(.ops [(.i (.v 4) (.mv (.c (.int .i64 0))))]),(.block 0 [(.loop iz)]),(.ops [(.i .l (.mv (.v 3))),(.i (.v 2) (.mv (.l 0)))]),.ret]
theorem Fw:FnR Tryz.prog po 165 1 7 [0,1,2,3,4,7,15] uP [(.v 2)] true:=⟨_,_,Tryz.func165,rfl,rfl,by kernel_rfl,by kernel_rfl,by kernel_rfl,by kernel_rfl,by kernel_rfl⟩
theorem ye {x y:VD} {i:Nat} (h:x.l[i]? =some y):bD (x.l.take (i+1))=bD (x.l.take i)+y.size∧bD (x.l.take (i+1))≤bD x.l:=by
 have e:=i4 h
 constructor
 ·rw[e,gJ,AY]
 ·have:=gJ (x.l.take (i+1)) (x.l.drop (i+1))
  rw[List.take_append_drop]at this
  omega
theorem pq (l:List VD) (i:Nat):bD (l.take i)≤bD l:=by
 have:=gJ (l.take i) (l.drop i)
 rw[List.take_append_drop]at this
 omega
theorem Hn (l:List VD) {i:Nat} (hi:i<l.length):i≤bD (l.take i):=by
 have:=mL (l.take i)
 rw[List.length_take]at this
 omega
theorem fS {l:List VD} {i:Nat} {y:VD} (h:l[i]? =some y):y∈l:=List.mem_of_getElem? h
theorem ky {l:List VD} {i:Nat} (h:i<l.length):∃ y,l[i]? =some y:=⟨_,List.getElem?_eq_getElem h⟩
section
variable {h:AH}
def jI (left:Int) (n:Nat):Int:=if(n:Int)≤left then left - n else -1
theorem EF:∀ (N:Nat) (x:VD),SizeOf.sizeOf x≤N→∀ (r:List AV) (h:AH) (left:Int),VaA x r→0≤left→left≤100000→
  aj Tryz.prog po 86 [.agg r,.int .i64 left] h=some (.inl (.int .i64 (jI left x.size)),h):=by
 intro N
 induction N with
 | zero=>intro x hx;have:=x.so_pos;omega
 | succ N ih=>
   intro x hx r h left he h0 h1
   obtain⟨v,es,rfl,hsl,hv,hn,hix⟩:=he.facts
   have hs:=x.size_eq
   have w1:=w64 (n:=left - 1) (by omega) (by omega)
   refine fT GY rfl fun Q hQ=> ?_;unfold yI
   simp only[sim,ag,reduceAdd,reduceSub,replicate,reduceCtorEq,reduceLeDiff,reduceLT,aa,hv,w1]
   refine gY (fun i V h'=>∃ v5 cur,V=[.agg [.int .i64 x.kind,.int .i64 x.n,v],.int .i64 cur,.ptr h.n 0 0,.int .i64 0,.int .i64 (i:Nat),v5]∧h'=h.push [[.int .i64 x.kind,.int .i64 x.n,v]]∧cur=jI left (1+bD (x.l.take i))) x.l.length ⟨_,_,rfl,rfl,?_⟩ ?_ ?_
   ·simp only[jI,List.take_zero,bD]
    split<;>omega
   ·rintro i V h' hi ⟨v5,cur,rfl,rfl,hc⟩ next
    have hlt:(i:Int)<(es.length:Int):=by rw[hn];omega
    by_cases hp:0≤cur
    ·obtain⟨y,hy⟩:=ky hi
     obtain⟨q,i1,d1,x1⟩:=hix i y hy
     obtain⟨z1,z2⟩:=ye hy
     have hil:=Hn x.l hi
     have hcl:cur≤100000∧(i:Int)<100000:=by
      rw[hc,jI]at hp ⊢
      split at hp
      ·rename_i hh
       rw[if_pos hh]
       omega
      ·omega
     have hw:=w64 (n:=(i:Int)+1) (by omega) (by omega)
     have e1:=ih y (by have:=VD.lt_mem (fS hy);omega) q (h.push [[.int .i64 x.kind,.int .i64 x.n,v]]) cur x1 hp (by omega)
     rw[aF jr.eq_1]
     simp only[sim,ag,reduceAdd,reduceSub,replicate,reduceCtorEq,reduceLeDiff,reduceLT,aa,hsl.len,hsl.fits,hlt,hp,i1,d1,e1,hw]
     refine next _ _ ⟨_,_,rfl,rfl,?_⟩
     rw[z1,hc]
     rw[hc]at hp
     simp only[jI]at hp ⊢
     repeat' split<;>omega
    ·rw[aF jr.eq_1]
     simp only[sim,ag,reduceAdd,reduceSub,replicate,reduceCtorEq,reduceLeDiff,reduceLT,aa,hsl.len,hsl.fits,hlt,hp]
     refine hQ _ _ _ rfl (by repeat (first | exact af.refl _ | refine af.trans ?_ (af.push _ _) | refine af.trans ?_ (af.fresh _ _))) ?_
     have e:cur=jI left x.size:=by
      rw[hc,jI]at hp
      rw[hc,jI,jI,hs]
      have:=pq x.l i
      split at hp
      ·omega
      ·rename_i hh
       rw[if_neg hh,if_neg (by omega)]
     rw[←e]
     rfl
   ·rintro V h' ⟨v5,cur,rfl,rfl,hc⟩
    have hlt:¬ ((x.l.length:Int)<(es.length:Int)):=by rw[hn];omega
    rw[List.take_length,←hs]at hc
    rw[aF jr.eq_1]
    simp only[sim,ag,reduceAdd,reduceSub,replicate,reduceCtorEq,reduceLeDiff,reduceLT,aa,hsl.len,hsl.fits,hlt]
    exact hQ _ _ _ rfl (by repeat (first | exact af.refl _ | refine af.trans ?_ (af.push _ _) | refine af.trans ?_ (af.fresh _ _))) (by rw[←hc];rfl)
theorem Bc {kind n:Int} {len:Nat} (h:dK kind n len=0):len=iW kind∧(kind=0∨kind=1∨kind=2∨kind=3∨kind=4∨kind=5):=by
 unfold dK at h
 split at h
 ·cases h
 ·split at h
  ·cases h
  ·exact⟨by omega,by omega⟩
theorem Hb (kind:Int):iW kind≤2:=by unfold iW;split;omega;split<;>omega
theorem zL {l:List VD} {i:Nat} {y:VD} (h:l[i]? =some y):dt (l.drop i)=if y.fault≠0 then y.fault else dt (l.drop (i+1)):=by
 obtain⟨hi,rfl⟩:=List.getElem?_eq_some_iff.1 h
 rw[List.drop_eq_getElem_cons hi,gd]
end
def xQ:List RS:=[(.ops [(.i (.v 2) (.mv (.c (.bool false))))]),(.ops [(.i .l (.mv (.v 0))),(.i .l (.mv (.v 1))),(.i .l (.bin (.int .i64) .and (.l 1) (.l 0))),(.i .l (.mv (.v 1))),(.i .l (.bin (.int .i64) .eql (.l 1) (.l 0))),(.i (.v 2) (.mv (.l 0)))]),.ret]
theorem Dw:FnR Tryz.prog po 144 2 3 [0,1,4] xQ [(.v 2)] true:=⟨_,_,Tryz.func144,rfl,rfl,by kernel_rfl,by kernel_rfl,by kernel_rfl,by kernel_rfl,by kernel_rfl⟩
def rf:List RS:=[(.ops [(.i (.v 2) (.mv (.v 0)))]),(.cond (.v 2) [(.ops [(.i .l (.mv (.v 1))),(.i .l (.mki 210 (.l 0))),(.i .n (.pan (.l 0)))])] [])]
theorem zN:FnR Tryz.prog po 161 2 3 [0,1,4] rf [] true:=⟨_,_,Tryz.func161,rfl,rfl,by kernel_rfl,by kernel_rfl,by kernel_rfl,by kernel_rfl,by kernel_rfl⟩
def kK:List RS:=[(.ops [(.i (.v 9) (.bin (.int .i64) .lss (.v 8) (.v 7)))]),(.cond (.v 9) [] [(.exit 0)]),(.block 1 [(.ops [(.i .l (.ixa (some 3) none (.v 6) (.v 8))),(.i .l (.load false 1 (.l 0))),(.i (.v 3) (.mv (.l 0)))]),(.ops [(.i .l (.mv (.v 0))),(.i .l (.nilc (.l 0))),(.i .l (.fad 0 (.l 0))),(.i .l (.load false 1 (.l 0))),(.i .l (.mv (.v 1))),(.i .l (.mv (.v 3))),(.i .l (.call (.c (.fn 84 [] [])) [(.l 2),(.l 1),(.c (.int .i64 15)),(.l 0)])),(.i .l (.mv (.l 0))),(.i .l (.ext (.l 0) 0)),(.i .l (.ext (.l 1) 1)),(.i (.v 4) (.mv (.l 1))),(.i (.v 5) (.mv (.l 0)))]),(.ops [(.i .l (.mv (.v 5))),(.i .l (.bin (.int .i64) .neq (.l 0) (.c (.int .i64 0)))),(.i .l (.mv (.v 5))),(.i .l (.call (.c (.fn 161 [] [])) [(.l 1),(.l 0)]))]),(.ops [(.i .l (.mv (.v 4))),(.i (.v 1) (.mv (.l 0)))])]),(.ops [(.i .l (.bin (.int .i64) .add (.v 8) (.c (.int .i64 1)))),(.i (.v 8) (.mv (.l 0)))])]
def Dx:List RS:=[(.ops [(.i (.v 2) (.mv (.c (.int .i64 0))))]),(.ops [(.i .l (.mv (.v 0))),(.i .l (.nilc (.l 0))),(.i .l (.fad 1 (.l 0))),(.i (.v 6) (.load false 1 (.l 0))),(.i (.v 7) (.len false (some 3) (.v 6))),(.i (.v 8) (.mv (.c (.int .i64 0))))]),(.block 0 [(.loop kK)]),(.ops [(.i .l (.mv (.v 1))),(.i (.v 2) (.mv (.l 0)))]),.ret]
theorem JX:FnR Tryz.prog po 146 2 10 [0,1,4,6,7,8,12,13,14,15] Dx [(.v 2)] false:=⟨_,_,Tryz.func146,rfl,rfl,by kernel_rfl,by kernel_rfl,by kernel_rfl,by kernel_rfl,by kernel_rfl⟩
def i9:List RS:=[(.ops [(.i (.v 10) (.bin (.int .i64) .lss (.v 9) (.v 8)))]),(.cond (.v 10) [] [(.exit 0)]),(.block 1 [(.ops [(.i .l (.ixa (some 35) none (.v 7) (.v 9))),(.i .l (.load true 3 (.l 0))),(.i (.v 5) (.alloc [(.int .i64 0),(.int .i64 0),.nils])),(.i .n (.store 3 (.v 5) (.l 0)))]),(.ops [(.i .l (.fad 2 (.v 4))),(.i .l (.load false 1 (.l 0))),(.i .l (.mv (.v 0))),(.i .l (.load true 3 (.v 5))),(.i .l (.call (.c (.fn 128 [] [])) [(.l 1),(.l 0)])),(.ck [⟨none,false,1,(.l 4),(.l 3)⟩]),(.i .l (.bsl false 35 [(.int .i64 0),(.int .i64 0),.nils] 3 1 [(0,(.l 0))])),(.ck [⟨none,false,1,(.l 5),(.l 4)⟩]),(.i .l (.app false 35 (.l 4) (.l 0))),(.i .l (.fad 2 (.v 4))),(.i .n (.store 1 (.l 0) (.l 1)))])]),(.ops [(.i .l (.bin (.int .i64) .add (.v 9) (.c (.int .i64 1)))),(.i (.v 9) (.mv (.l 0)))])]
def CC:List RS:=[(.ops [(.i (.v 2) (.box 3 (.v 1))),(.i (.v 3) (.alloc [(.int .i64 0),(.int .i64 0),.nils]))]),(.ops [(.i .l (.fad 0 (.v 2))),(.i .l (.load false 1 (.l 0))),(.i .l (.fad 1 (.v 2))),(.i .l (.load false 1 (.l 0))),(.i .l (.build [(.int .i64 0),(.int .i64 0),.nils] [(0,1),(1,1),(2,1)] [(0,(.l 2)),(1,(.l 0))])),(.i (.v 4) (.alloc [(.int .i64 0),(.int .i64 0),.nils])),(.i .n (.store 3 (.v 4) (.l 0)))]),(.ops [(.i .l (.fad 0 (.v 2))),(.i .l (.load false 1 (.l 0))),(.i (.v 6) (.bin (.int .i64) .eql (.l 0) (.c (.int .i64 4))))]),(.cond (.v 6) [(.ops [(.i .l (.mv (.v 0))),(.i .l (.fad 1 (.v 2))),(.i .l (.load false 1 (.l 0))),(.i .l (.call (.c (.fn 146 [] [])) [(.l 2),(.l 0)])),(.i .l (.fad 1 (.v 4))),(.i .n (.store 1 (.l 0) (.l 1)))])] []),(.ops [(.i .l (.fad 2 (.v 2))),(.i (.v 7) (.load false 1 (.l 0))),(.i (.v 8) (.len false (some 35) (.v 7))),(.i (.v 9) (.mv (.c (.int .i64 0))))]),(.block 0 [(.loop i9)]),(.ops [(.i .l (.load true 3 (.v 4))),(.i .n (.store 3 (.v 3) (.l 0)))]),.ret]
theorem Li:FnR Tryz.prog po 128 2 11 [0,1,3,4,5,7,15,22,23,24,25] CC [(.cell true 3 3)] false:=⟨_,_,Tryz.func128,rfl,rfl,by kernel_rfl,by kernel_rfl,by kernel_rfl,by kernel_rfl,by kernel_rfl⟩
def kx:List RS:=[(.ops [(.i (.v 11) (.bin (.int .i64) .lss (.v 10) (.v 9)))]),(.cond (.v 11) [] [(.exit 0)]),(.block 1 [(.ops [(.i .l (.ixa (some 3) none (.v 8) (.v 10))),(.i .l (.load false 1 (.l 0))),(.i (.v 5) (.mv (.l 0)))]),(.ops [(.i .l (.mv (.v 0))),(.i .l (.mv (.v 5))),(.i .l (.call (.c (.fn 145 [] [])) [(.l 1),(.l 0)])),(.i .l (.call (.c (.fn 144 [] [])) [(.l 0),(.c (.int .i64 4))])),(.i (.v 12) (.un .not (.l 0)))]),(.cond (.v 12) [(.ops [(.i (.v 3) (.mv (.c (.int .i64 9))))]),.ret] [])]),(.ops [(.i .l (.bin (.int .i64) .add (.v 10) (.c (.int .i64 1)))),(.i (.v 10) (.mv (.l 0)))])]
def qs:List RS:=[(.ops [(.i (.v 2) (.box 3 (.v 1))),(.i (.v 3) (.mv (.c (.int .i64 0))))]),(.ops [(.i .l (.load true 3 (.v 2))),(.i .l (.call (.c (.fn 47 [] [])) [(.l 0)])),(.i (.v 4) (.mv (.l 0)))]),(.ops [(.i .l (.mv (.v 4))),(.i (.v 6) (.bin (.int .i64) .neq (.l 0) (.c (.int .i64 0))))]),(.cond (.v 6) [(.ops [(.i .l (.mv (.v 4))),(.i (.v 3) (.mv (.l 0)))]),.ret] []),(.ops [(.i .l (.load true 3 (.v 2))),(.i (.v 7) (.call (.c (.fn 142 [] [])) [(.l 0)]))]),(.cond (.v 7) [(.ops [(.i (.v 3) (.mv (.c (.int .i64 9))))]),.ret] []),(.ops [(.i .l (.load true 3 (.v 2))),(.i (.v 8) (.call (.c (.fn 143 [] [])) [(.l 0)])),(.i (.v 9) (.len false (some 3) (.v 8))),(.i (.v 10) (.mv (.c (.int .i64 0))))]),(.block 0 [(.loop kx)]),(.ops [(.i (.v 3) (.mv (.c (.int .i64 0))))]),.ret]
theorem xd:FnR Tryz.prog po 126 2 13 [0,1,3,4,5,7,11,14,16,17,18,19,26] qs [(.v 3)] true:=⟨_,_,Tryz.func126,rfl,rfl,by kernel_rfl,by kernel_rfl,by kernel_rfl,by kernel_rfl,by kernel_rfl⟩
open Go.RowKit
structure Jj where
 (d a b c e:Int)
def ae.step (G:ae) (x:Jj):ae×Int×Int:=
 if x.d=0 then G.gate else if x.d=1 then((G.cut x.a).1,0,(G.cut x.a).2)else if x.d=2 then G.cellC x.a x.b x.c else if x.d=3 then G.funcC x.a x.e x.b x.c else if x.d=4 then G.derive x.a x.b x.c else(G,0,0)
structure ae.Later (G G':ae):Prop where
 nodes:∃ ext,G'.nodes=G.nodes++ext
 shut:G.shut.length≤G'.shut.length∧∀ k:Nat,G.shut.getD k false=true→G'.shut.getD k false=true
theorem ae.Later.refl (G:ae):G.Later G:=⟨⟨[],by simp⟩,Nat.le_refl _,fun _=>id⟩
theorem ae.Later.trans {A B C:ae} (x:A.Later B) (y:B.Later C):A.Later C:=by
 obtain⟨e1,h1⟩:=x.nodes
 obtain⟨e2,h2⟩:=y.nodes
 exact⟨⟨e1++e2,by rw[h2,h1,List.append_assoc]⟩,Nat.le_trans x.shut.1 y.shut.1,fun k hk=>y.shut.2 k (x.shut.2 k hk)⟩
theorem vU (G:ae) (n:aY):(∃ ext:List aY,(G.add n).1.nodes=G.nodes++ext∧ext.length≤1)∧(G.add n).1.shut=G.shut:=by
 unfold ae.add
 split
 ·exact⟨⟨[],by simp,by simp⟩,rfl⟩
 split
 ·exact⟨⟨[],by simp,by simp⟩,rfl⟩
 split
 ·exact⟨⟨[],by simp,by simp⟩,rfl⟩
 ·exact⟨⟨[n],rfl,by simp⟩,rfl⟩
theorem mN (G:ae):G.gate.1.nodes=G.nodes∧G.shut.length≤G.gate.1.shut.length∧∀ k:Nat,G.shut.getD k false=true→G.gate.1.shut.getD k false=true:=by
 unfold ae.gate
 split
 ·exact⟨rfl,Nat.le_refl _,fun _=>id⟩
 ·refine⟨rfl,by simp,fun k hk=> ?_⟩
  have hlt:k<G.shut.length:=by
   rcases Nat.lt_or_ge k G.shut.length with h | h
   ·exact h
   ·rw[List.getD,List.getElem?_eq_none h]at hk;cases hk
  simpa[List.getD,List.getElem?_append_left hlt]using hk
theorem pu (G:ae) (k:Int):(G.cut k).1.nodes=G.nodes∧(G.cut k).1.shut.length=G.shut.length∧∀ j:Nat,G.shut.getD j false=true→(G.cut k).1.shut.getD j false=true:=by
 unfold ae.cut
 split
 ·refine⟨rfl,by simp,fun j hj=> ?_⟩
  have hlt:j<G.shut.length:=by
   rcases Nat.lt_or_ge j G.shut.length with h | h
   ·exact h
   ·rw[List.getD,List.getElem?_eq_none h]at hj;cases hj
  simp only[List.getD,List.getElem?_set]
  by_cases e:k.toNat=j
  ·simp[e,hlt]
  ·simpa[e,List.getD]using hj
 ·exact⟨rfl,rfl,fun _=>id⟩
theorem ae.step_nodes (G:ae) (x:Jj):(∃ ext:List aY,(G.step x).1.nodes=G.nodes++ext∧ext.length≤1)∧G.shut.length≤(G.step x).1.shut.length∧∀ k:Nat,G.shut.getD k false=true→(G.step x).1.shut.getD k false=true:=by
 have keep:∀ n,(∃ ext:List aY,(G.add n).1.nodes=G.nodes++ext∧ext.length≤1)∧G.shut.length≤(G.add n).1.shut.length∧∀ k:Nat,G.shut.getD k false=true→(G.add n).1.shut.getD k false=true:=fun n=>by
  obtain⟨h1,h2⟩:=vU G n
  rw[h2]
  exact⟨h1,Nat.le_refl _,fun _=>id⟩
 have same:(∃ ext:List aY,G.nodes=G.nodes++ext∧ext.length≤1)∧G.shut.length≤G.shut.length∧∀ k:Nat,G.shut.getD k false=true→G.shut.getD k false=true:=⟨⟨[],by simp,by simp⟩,Nat.le_refl _,fun _=>id⟩
 unfold ae.step
 split
 ·obtain⟨h1,h2,h3⟩:=mN G
  exact⟨⟨[],by simp[h1],by simp⟩,h2,h3⟩
 split
 ·obtain⟨h1,h2,h3⟩:=pu G x.a
  exact⟨⟨[],by simp[h1],by simp⟩,by simp only[h2];exact Nat.le_refl _,h3⟩
 split
 ·unfold ae.cellC
  split
  ·exact keep _
  ·exact same
 split
 ·unfold ae.funcC
  split
  ·exact keep _
  ·exact same
 split
 ·unfold ae.derive
  split
  ·exact keep _
  ·exact same
 ·exact same
theorem ae.step_later (G:ae) (x:Jj):G.Later (G.step x).1:=by
 obtain⟨⟨e,h1,_⟩,h2,h3⟩:=G.step_nodes x
 exact⟨⟨e,h1⟩,h2,h3⟩
theorem ae.path_last {G:ae} (hW:G.Wf):∀ (f:Nat) (i:Int),i.toNat<f→G.has i=true→∃ pre t,G.path i=pre++[t]∧t.parent= -1∧∃ k:Nat,G.nodes[k]? =some t:=by
 intro f
 induction f with
 | zero=>intro i hi;omega
 | succ f ih=>
   intro i hi hh
   have ok:=hW.get hh
   have hget:G.nodes[i.toNat]? =some (G.nodes.getD i.toNat bQ):=by
    simp[ae.has]at hh
    have:i.toNat<G.nodes.length:=by omega
    simp[List.getD,this]
   rw[ae.path_yes hW hh]
   by_cases hp:G.has (G.nodes.getD i.toNat bQ).parent=true
   ·have hp0:0≤(G.nodes.getD i.toNat bQ).parent:=by simp only[ae.has,decide_eq_true_eq]at hp;exact hp.1
    have hp1:=ok.p1
    obtain⟨pre,t,h1,h2,h3⟩:=ih (G.nodes.getD i.toNat bQ).parent (by omega) hp
    exact⟨_::pre,t,by rw[h1];rfl,h2,h3⟩
   ·refine⟨[],_,by rw[ae.path_no (by simpa using hp)];rfl,?_,_,hget⟩
    have h0:=ok.p0
    have h1:=ok.p1
    have hi2:i.toNat<G.nodes.length:=(List.getElem?_eq_some_iff.1 hget).1
    simp only[ae.has,decide_eq_true_eq,not_and]at hp
    rcases Int.lt_or_le (G.nodes.getD i.toNat bQ).parent 0 with h | h
    ·omega
    ·have:=hp h;omega
theorem ae.target_ok {G:ae} (hW:G.Wf) {i:Int} (hh:G.has i=true):(G.target i).2=true∧(G.target i).1.parent= -1∧((G.target i).1.plugin= -1∧0≤(G.target i).1.cell∧(G.target i).1.cell<12∧(G.target i).1.func=0∨0≤(G.target i).1.plugin∧(G.target i).1.plugin<4∧0≤(G.target i).1.func∧(G.target i).1.func<6∧(G.target i).1.cell=0):=by
 obtain⟨pre,t,h1,h2,k,hk⟩:=ae.path_last hW (i.toNat+1) i (by omega) hh
 have ht:G.target i=(t,true):=by
  unfold ae.target
  rw[h1]
  simp[List.getLastD_eq_getLast?]
 rw[ht]
 exact⟨rfl,h2,(hW.node k t hk).t h2⟩
theorem ae.Later.has {G G':ae} (l:G.Later G') {i:Int} (h:G.has i=true):G'.has i=true∧G'.nodes.getD i.toNat bQ=G.nodes.getD i.toNat bQ:=by
 obtain⟨e,he⟩:=l.nodes
 simp[ae.has]at h
 have hlt:i.toNat<G.nodes.length:=by omega
 refine⟨by simp[ae.has,he];omega,?_⟩
 rw[he]
 simp[List.getD,List.getElem?_append_left hlt]
theorem ae.Later.path {G G':ae} (l:G.Later G') (hW:G.Wf) (hW':G'.Wf):∀ (f:Nat) (i:Int),i.toNat<f→G.has i=true→G'.path i=G.path i:=by
 intro f
 induction f with
 | zero=>intro i hi;omega
 | succ f ih=>
   intro i hi hh
   obtain⟨hh',hn⟩:=l.has hh
   have ok:=hW.get hh
   rw[ae.path_yes hW hh,ae.path_yes hW' hh',hn]
   congr 1
   by_cases hp:G.has (G.nodes.getD i.toNat bQ).parent=true
   ·have hp0:0≤(G.nodes.getD i.toNat bQ).parent:=by simp only[ae.has,decide_eq_true_eq]at hp;exact hp.1
    have hp1:=ok.p1
    exact ih _ (by omega) hp
   ·have h0:=ok.p0
    have h1:=ok.p1
    have hi2:i.toNat<G.nodes.length:=by simp[ae.has]at hh;omega
    have hneg:(G.nodes.getD i.toNat bQ).parent<0:=by
     simp only[ae.has,decide_eq_true_eq,not_and]at hp
     rcases Int.lt_or_le (G.nodes.getD i.toNat bQ).parent 0 with h | h
     ·exact h
     ·have:=hp h;omega
    rw[ae.path_no (G:=G) (by simpa using hp),ae.path_no (G:=G') (by simp only[ae.has,decide_eq_false_iff_not,not_and];intro h;omega)]
theorem ae.path_ok {G:ae} (hW:G.Wf):∀ (f:Nat) (i:Int),∀ n∈G.pathF f i,fx n.rights=true∧(n.gate= -1∨0≤n.gate∧n.gate<G.shut.length):=by
 intro f
 induction f with
 | zero=>intro i n hn;simp[ae.pathF]at hn
 | succ f ih=>
   intro i n hn
   unfold ae.pathF at hn
   split at hn
   ·rename_i hk
    rcases List.mem_cons.1 hn with rfl | hn
    ·exact⟨(hW.get hk).r,(hW.get hk).g⟩
    ·exact ih _ n hn
   ·simp at hn
theorem qV {G:ae} (hW:G.Wf) (i:Int):∃ x:BitVec 64,G.rights i=x.toInt:=by
 unfold ae.rights
 split
 ·exact⟨0#64,rfl⟩
 ·exact⟨_,tC _ (fun n hn=>(ae.path_ok hW _ i n hn).1) 15#64⟩
theorem Pp (x:VD):(id x).kind=x.kind:=rfl
theorem Pv (x:VD):(id x).l=x.l.map id:=by simp
section
variable {h:AH}
theorem KZ (i:Option Nat):∀ (k:Int),(k=0∨k=1∨k=2∨k=3∨k=4∨k=5)→bX (some 3) none (.isl i 3 [[.int .i64 0],[.int .i64 0],[.int .i64 2],[.int .i64 1],[.int .i64 0],[.int .i64 0]]) (.int .i64 k)=some (.ip [.int .i64 (iW k:Nat)] 0):=by
 rintro k (rfl | rfl | rfl | rfl | rfl | rfl)<;>rfl
set_option maxHeartbeats 1000000 in
theorem Ch:∀ (N:Nat) (x:VD),SizeOf.sizeOf x≤N→∀ (r:List AV) (h:AH),VaA x r→
  aj Tryz.prog po 87 [.agg r] h=some (.inl (.int .i64 x.fault),h):=by
 intro N
 induction N with
 | zero=>intro x hx;have:=x.so_pos;omega
 | succ N ih=>
   intro x hx r h he
   obtain⟨v,es,rfl,hsl,hv,hn,hix⟩:=he.facts
   have hfe:=x.fault_eq
   rw[hfe]
   have loop:dK x.kind x.n x.l.length=0→∀ (Q:jm→Prop) (v3 v6 v7 v8:AV),(∀ V h',(eS V h' [.v 2]).map fC=some (.int .i64 (dt x.l))→af h h'→Q (some (.ret,V,h')))→
     Q (aq (aj Tryz.prog po) 14 (.lp fO:: .ss []:: .blk 1::[.ss [.ops [(.i (.v 2) (.mv (.c (.int .i64 0))))],.ret]])
       [.agg [.int .i64 x.kind,.int .i64 x.n,v],.ptr h.n 0 0,.int .i64 0,v3,.junk,.junk,v6,v7,v8,v,.int .i64 es.length,.int .i64 0,.junk,.junk] [] ((h.push [[.int .i64 x.kind,.int .i64 x.n,v]]).fresh 6)):=by
    intro hd Q v3 v6 v7 v8 hQ
    obtain⟨hlen, -⟩:=Bc hd
    have hwf:=Hb x.kind
    refine gY (fun i V h'=>∃ v4 v5 v12 v13,V=[.agg [.int .i64 x.kind,.int .i64 x.n,v],.ptr h.n 0 0,.int .i64 0,v3,v4,v5,v6,v7,v8,v,.int .i64 es.length,.int .i64 (i:Nat),v12,v13]∧af h h'∧dt (x.l.drop i)=dt x.l) x.l.length ⟨_,_,_,_,rfl,(by repeat (first | exact af.refl _ | refine af.trans ?_ (af.push _ _) | refine af.trans ?_ (af.fresh _ _))),rfl⟩ ?_ ?_
    ·rintro i V h' hi ⟨v4,v5,v12,v13,rfl,g,hc⟩ next
     have hlt:(i:Int)<(es.length:Int):=by rw[hn];omega
     obtain⟨y,hy⟩:=ky hi
     obtain⟨q,i1,d1,x1⟩:=hix i y hy
     obtain⟨o1,o2⟩:=x1.one
     have hw:=w64 (n:=(i:Int)+1) (by omega) (by omega)
     have e1:=ih y (by have:=VD.lt_mem (fS hy);omega) q (h'.push [q]) x1
     rw[zL hy]at hc
     by_cases hf:y.fault=0
     ·rw[if_neg (by simp[hf])]at hc
      rw[hf]at e1
      rw[aF fO.eq_1]
      simp only[sim,ag,reduceAdd,reduceSub,replicate,reduceCtorEq,reduceLeDiff,reduceLT,aa,hlt,i1,d1,o1,o2,bq o2,e1,hw]
      exact next _ _ ⟨_,_,_,_,rfl,g.trans (by repeat (first | exact af.refl _ | refine af.trans ?_ (af.push _ _) | refine af.trans ?_ (af.fresh _ _))),hc⟩
     ·rw[if_pos hf]at hc
      rw[aF fO.eq_1]
      simp only[sim,ag,reduceAdd,reduceSub,replicate,reduceCtorEq,reduceLeDiff,reduceLT,aa,hlt,i1,d1,o1,o2,bq o2,e1,hf]
      exact hQ _ _ (by rw[←hc];rfl) (g.trans (by repeat (first | exact af.refl _ | refine af.trans ?_ (af.push _ _) | refine af.trans ?_ (af.fresh _ _))))
    ·rintro V h' ⟨v4,v5,v12,v13,rfl,g,hc⟩
     have hlt:¬ ((x.l.length:Int)<(es.length:Int)):=by rw[hn];omega
     rw[List.drop_length]at hc
     rw[aF fO.eq_1]
     simp only[sim,ag,reduceAdd,reduceSub,replicate,reduceCtorEq,reduceLeDiff,reduceLT,aa,hlt]
     exact hQ _ _ (by rw[←hc];rfl) g
   refine fT ET rfl fun Q hQ=> ?_;unfold vr
   by_cases hk:x.kind=0∨x.kind=1∨x.kind=2∨x.kind=3∨x.kind=4∨x.kind=5
   ·have wi:=fun i=>KZ i x.kind hk
    have k0:¬ x.kind<0:=by omega
    have k5:¬ 5<x.kind:=by omega
    by_cases hl:(x.l.length:Nat)=iW x.kind
    ·have hl':(es.length:Int)=(iW x.kind:Int):=by rw[hn,hl]
     have hh0:dK x.kind x.n x.l.length=if(x.kind=0∨x.kind=2)∧x.n≠0 then 5 else if 3≤x.kind∧x.n<0 then 1 else 0:=by
      unfold dK
      rw[if_neg (by omega),if_neg (by omega)]
     have L:=loop
     rw[hh0]at L hQ
     rw[hl']at L
     by_cases hz:x.n=0
     ·rcases hk with hk | hk | hk | hk | hk | hk
      all_goals
       rw[hk]at hl' L hQ wi
       simp only[iW,Int.reduceEq,if_false,if_true,Int.cast_ofNat_Int,Int.natCast_zero,Int.natCast_one,hz,not_true,ne_eq,and_false,Int.lt_irrefl]at hl' L hQ wi
       simp only[sim,ag,reduceAdd,reduceSub,replicate,reduceCtorEq,reduceLeDiff,reduceLT,aa,hv,hk,hz,Int.reduceEq,Int.reduceLT,Int.reduceLE,hsl.len,hsl.fits,hl',wi,Int.lt_irrefl]
       exact L trivial _ _ _ _ _ fun V h' e g=>hQ _ _ _ e g rfl
     ·by_cases hng:x.n<0
      all_goals
       rcases hk with hk | hk | hk | hk | hk | hk
       all_goals
        rw[hk]at hl' L hQ wi
        simp only[iW,Int.reduceEq,Int.reduceLE,if_false,if_true,Int.cast_ofNat_Int,Int.natCast_zero,Int.natCast_one,hz,hng,not_true,not_false_eq_true,ne_eq,and_false,and_true,true_or,or_true,false_or,or_false,or_self]at hl' L hQ wi
        simp only[sim,ag,reduceAdd,reduceSub,replicate,reduceCtorEq,reduceLeDiff,reduceLT,aa,hv,hk,hz,hng,Int.reduceEq,Int.reduceLT,Int.reduceLE,hsl.len,hsl.fits,hl',wi]
        first
         | exact hQ _ _ _ rfl (by repeat (first | exact af.refl _ | refine af.trans ?_ (af.push _ _) | refine af.trans ?_ (af.fresh _ _))) rfl
         | exact L trivial _ _ _ _ _ fun V h' e g=>hQ _ _ _ e g rfl
    ·have hh:dK x.kind x.n x.l.length=5:=by
      unfold dK
      rw[if_neg (by omega),if_pos hl]
     have hl':¬ (es.length:Int)=(iW x.kind:Int):=by rw[hn];omega
     rw[hh]at hQ
     simp only[sim,ag,reduceAdd,reduceSub,replicate,reduceCtorEq,reduceLeDiff,reduceLT,aa,hv,k0,k5,hsl.len,hsl.fits,wi,hl']
     exact hQ _ _ _ rfl (by repeat (first | exact af.refl _ | refine af.trans ?_ (af.push _ _) | refine af.trans ?_ (af.fresh _ _))) rfl
   ·have hh:dK x.kind x.n x.l.length=2:=by
     unfold dK
     rw[if_pos (by omega)]
    rw[hh]at hQ
    by_cases k0:x.kind<0
    ·simp only[sim,ag,reduceAdd,reduceSub,replicate,reduceCtorEq,reduceLeDiff,reduceLT,aa,hv,k0]
     exact hQ _ _ _ rfl (by repeat (first | exact af.refl _ | refine af.trans ?_ (af.push _ _) | refine af.trans ?_ (af.fresh _ _))) rfl
    ·have k5:5<x.kind:=by omega
     simp only[sim,ag,reduceAdd,reduceSub,replicate,reduceCtorEq,reduceLeDiff,reduceLT,aa,hv,k0,k5]
     exact hQ _ _ _ rfl (by repeat (first | exact af.refl _ | refine af.trans ?_ (af.push _ _) | refine af.trans ?_ (af.fresh _ _))) rfl
theorem kf {x:VD} {r:List AV} (he:VaA x r):aj Tryz.prog po 47 [.agg r] h=some (.inl (.int .i64 x.code),h):=by
 obtain⟨o1,o2⟩:=he.one
 have e1:=fun h=>EF _ x (Nat.le_refl _) r h 40 he (by omega) (by omega)
 have e2:=fun h=>Ch _ x (Nat.le_refl _) r h he
 by_cases hs:40<x.size
 ·have e3:jI 40 x.size= -1:=by rw[jI,if_neg (by omega)]
  have e4:x.code=3:=by rw[VD.code,if_pos hs]
  rw[e4]
  simp only[e3]at e1
  refine fT uN rfl fun Q hQ=> ?_;unfold pA
  simp only[sim,ag,reduceAdd,reduceSub,replicate,reduceCtorEq,reduceLeDiff,reduceLT,aa,o1,o2,bq o2,e1,Int.reduceLT]
  exact hQ _ _ _ rfl (by repeat (first | exact af.refl _ | refine af.trans ?_ (af.push _ _) | refine af.trans ?_ (af.fresh _ _))) rfl
 ·have e3:¬ jI 40 x.size<0:=by rw[jI,if_pos (by omega)];omega
  have e4:x.code=x.fault:=by rw[VD.code,if_neg hs]
  rw[e4]
  refine fT uN rfl fun Q hQ=> ?_;unfold pA
  simp only[sim,ag,reduceAdd,reduceSub,replicate,reduceCtorEq,reduceLeDiff,reduceLT,aa,o1,o2,bq o2,e1,e3,e2]
  exact hQ _ _ _ rfl (by repeat (first | exact af.refl _ | refine af.trans ?_ (af.push _ _) | refine af.trans ?_ (af.fresh _ _))) rfl
theorem yX {l l':List VD} {i:Nat} {x y:VD} (h1:l[i]? =some x) (h2:l'[i]? =some y):eY (l.drop i) (l'.drop i)=(k9 x y && eY (l.drop (i+1)) (l'.drop (i+1))):=by
 obtain⟨k1,rfl⟩:=List.getElem?_eq_some_iff.1 h1
 obtain⟨k2,rfl⟩:=List.getElem?_eq_some_iff.1 h2
 rw[List.drop_eq_getElem_cons k1,List.drop_eq_getElem_cons k2]
 rfl
theorem xj (l l':List VD) (v w:AV) (hv:∀ h,rI h v l) (hw:∀ h,rI h w l') (hl:l.length≤100000)
  (hc:∀ x∈l,∀ (y:VD) (q q':List AV) (h:AH),VaA x q→VaA y q'→aj Tryz.prog po 19 [.agg q,.agg q'] h=some (.inl (.bool (k9 x y)),h)):
  aj Tryz.prog po 30 [v,w] h=some (.inl (.bool (eY l l')),h):=by
 have vl:=(hv h).len
 have vf:=(hv h).fits
 have wl:=(hw h).len
 have wf:=(hw h).fits
 cases hd:decide ((l.length:Int)=(l'.length:Int))
 ·rw[En hd]
  refine fT pY rfl fun Q hQ=> ?_;unfold lT
  simp only[sim,ag,reduceAdd,reduceSub,replicate,reduceCtorEq,reduceLeDiff,reduceLT,aa,vl,vf,wl,wf,hd]
  exact hQ _ _ _ rfl (by repeat (first | exact af.refl _ | refine af.trans ?_ (af.push _ _) | refine af.trans ?_ (af.fresh _ _))) rfl
 ·have hll:l.length=l'.length:=by have:=of_decide_eq_true hd;omega
  refine fT pY rfl fun Q hQ=> ?_;unfold lT
  simp only[sim,ag,reduceAdd,reduceSub,replicate,reduceCtorEq,reduceLeDiff,reduceLT,aa,vl,vf,wl,wf,hd]
  refine gY (fun i V h'=>∃ v4 v5 v6,V=[v,w,.bool false,.int .i64 (i:Nat),v4,v5,v6]∧af h h'∧eY (l.drop i) (l'.drop i)=eY l l') l.length ⟨_,_,_,rfl,af.refl _,rfl⟩ ?_ ?_
  ·rintro i V h' hi ⟨v4,v5,v6,rfl,g,hs⟩ next
   have hlt:(i:Int)<(l.length:Int):=by omega
   have hwi:=w64 (n:=(i:Int)+1) (by omega) (by omega)
   obtain⟨x,hx⟩:=ky hi
   obtain⟨y,hy⟩:=ky (l:=l') (i:=i) (by omega)
   obtain⟨a,q,i1,i2,x1⟩:=(hv h').ix i x hx
   obtain⟨b,q',j1,j2,y1⟩:=(hw h').ix i y hy
   have e1:=hc x (fS hx) y q q' h' x1 y1
   rw[yX hx hy]at hs
   cases hb:k9 x y
   ·rw[hb]at e1 hs
    rw[Bool.false_and]at hs
    rw[aF gc.eq_1]
    simp only[sim,ag,reduceAdd,reduceSub,replicate,reduceCtorEq,reduceLeDiff,reduceLT,aa,vl,vf,hlt,i1,i2 _ (af.refl h'),j1,j2 _ (af.refl h'),e1]
    exact hQ _ _ _ rfl g (by rw[←hs];rfl)
   ·rw[hb]at e1 hs
    rw[Bool.true_and]at hs
    rw[aF gc.eq_1]
    simp only[sim,ag,reduceAdd,reduceSub,replicate,reduceCtorEq,reduceLeDiff,reduceLT,aa,vl,vf,hlt,i1,i2 _ (af.refl h'),j1,j2 _ (af.refl h'),e1,hwi]
    exact next _ _ ⟨_,_,_,rfl,g,hs⟩
  ·rintro V h' ⟨v4,v5,v6,rfl,g,hs⟩
   have hlt:¬ ((l.length:Int)<(l.length:Int)):=by omega
   rw[List.drop_length,hll,List.drop_length]at hs
   rw[aF gc.eq_1]
   simp only[sim,ag,reduceAdd,reduceSub,replicate,reduceCtorEq,reduceLeDiff,reduceLT,aa,vl,vf,hlt]
   exact hQ _ _ _ rfl g (by rw[←hs];rfl)
theorem Ab:∀ (N:Nat) (x:VD),SizeOf.sizeOf x≤N→x.size≤100000→∀ (y:VD) (q q':List AV) (h:AH),VaA x q→VaA y q'→
  aj Tryz.prog po 19 [.agg q,.agg q'] h=some (.inl (.bool (k9 x y)),h):=by
 intro N
 induction N with
 | zero=>intro x hx;have:=x.so_pos;omega
 | succ N ih=>
   intro x hx hsz y q q' h hq hq'
   obtain⟨v,es,rfl,hs,hl⟩:=hq.row
   obtain⟨w,es',rfl,hs',hl'⟩:=hq'.row
   have mv:∀ h,rI h v x.l:=fun h=>rI.of hs hl
   have mw:∀ h,rI h w y.l:=fun h=>rI.of hs' hl'
   have hlen:=x.len_size
   have e1:=fun h=>xj (h:=h) x.l y.l v w mv mw (by omega) (fun z hz y q q' h=>ih z (by have:=VD.lt_mem hz;omega) (by have:=VD.size_mem hz;omega) y q q' h)
   have o1:=(mv h).one
   have o2:=(mw h).one
   rw[H9]
   refine fT BD rfl fun Q hQ=> ?_;unfold so
   cases hk:decide (x.kind=y.kind)
   ·simp only[sim,ag,reduceAdd,reduceSub,replicate,reduceCtorEq,reduceLeDiff,reduceLT,aa,o1,o2,hk]
    exact hQ _ _ _ rfl (by repeat (first | exact af.refl _ | refine af.trans ?_ (af.push _ _) | refine af.trans ?_ (af.fresh _ _))) (by rw[hk];rfl)
   ·cases hn:decide (x.n=y.n)
    ·simp only[sim,ag,reduceAdd,reduceSub,replicate,reduceCtorEq,reduceLeDiff,reduceLT,aa,o1,o2,hk,hn]
     exact hQ _ _ _ rfl (by repeat (first | exact af.refl _ | refine af.trans ?_ (af.push _ _) | refine af.trans ?_ (af.fresh _ _))) (by rw[hk,hn];rfl)
    ·simp only[sim,ag,reduceAdd,reduceSub,replicate,reduceCtorEq,reduceLeDiff,reduceLT,aa,o1,o2,hk,hn,e1]
     exact hQ _ _ _ rfl (by repeat (first | exact af.refl _ | refine af.trans ?_ (af.push _ _) | refine af.trans ?_ (af.fresh _ _))) (by rw[hk,hn];rfl)
def wU (V:List AV):AV:=V.getD 2 .junk
set_option maxHeartbeats 1000000 in
theorem Nn:∀ (N:Nat) (x:VD),SizeOf.sizeOf x≤N→x.size≤100000→∀ (r:List AV) (h:AH),VaA x r→
  aj Tryz.prog po 165 [.agg r] h=some (.inl (dD 3 (bh x.caps)),h):=by
 intro N
 induction N with
 | zero=>intro x hx;have:=x.so_pos;omega
 | succ N ih=>
   intro x hx hsz r h he
   obtain⟨v,es,rfl,hsl,hv,hn,hix⟩:=he.facts
   have hlen:=x.len_size
   have hs:=x.size_eq
   have rest:∀ (Q:jm→Prop) (h0:AH) (acc0:AV) (c0:List Int) (v5 v6:AV),Acc h h0 3 acc0 (bh c0)→af h h0→h.n<h0.n→h0.cell h.n=some [[.int .i64 x.kind,.int .i64 x.n,v]]→c0.length≤1→
     (∀ V h',(eS V h' [.v 2]).map fC=some (wU V)→af h h'→wkA (wU V)=some (dD 3 (bh (c0++cr x.l)))→Q (some (.ret,V,h')))→
     Q (aq (aj Tryz.prog po) 7 (.lp iz:: .ss []:: .blk 0::[.ss [.ops [(.i .l (.mv (.v 3))),(.i (.v 2) (.mv (.l 0)))],.ret]])
       [.agg [.int .i64 x.kind,.int .i64 x.n,v],.ptr h.n 0 0,.nils,acc0,.int .i64 0,v5,v6] [] h0):=by
    intro Q h0 acc0 c0 v5 v6 ha0 g0 hn0 k0 hc0 hQ
    refine gY (fun i V h'=>∃ acc w6,V=[.agg [.int .i64 x.kind,.int .i64 x.n,v],.ptr h.n 0 0,.nils,acc,.int .i64 (i:Nat),v5,w6]∧
     af h h'∧h.n<h'.n∧h'.cell h.n=some [[.int .i64 x.kind,.int .i64 x.n,v]]∧Acc h h' 3 acc (bh (c0++cr (x.l.take i)))) x.l.length ⟨_,_,rfl,g0,hn0,k0,by simpa[cr]using ha0⟩ ?_ ?_
    ·rintro i V h' hi ⟨acc,w6,rfl,g,hm,c1,ha⟩ next
     have hlt:(i:Int)<(es.length:Int):=by rw[hn];omega
     obtain⟨y,hy⟩:=ky hi
     obtain⟨q,i1,d1,x1⟩:=hix i y hy
     obtain⟨o1,o2⟩:=x1.one
     have hw:=w64 (n:=(i:Int)+1) (by omega) (by omega)
     have e1:=ih y (by have:=VD.lt_mem (fS hy);omega) (by have:=VD.size_mem (fS hy);omega) q h' x1
     have cf:=kM (x.l.take i)
     have sl:=pq x.l i
     have cy:=y.caps_few
     have sy:=VD.size_mem (fS hy)
     obtain⟨acc2,h2,e2,a1,a2,a3,a4⟩:=yH (h:=h') ha g (DH 3 (bh y.caps)) (zT _) (by simp only[List.length_map,List.length_append];omega) (by simp only[List.length_map];omega)
     have a1':Acc h h2 3 acc2 (bh (c0++cr (x.l.take (i+1)))):=by
      rw[i4 hy,jE,←List.append_assoc]
      simpa[cr]using a1
     rw[aF iz.eq_1]
     simp only[sim,ag,reduceAdd,reduceSub,replicate,reduceCtorEq,reduceLeDiff,reduceLT,aa,c1,hsl.len,hsl.fits,hlt,i1,d1,o1,o2,bq o2,e1,e2,hw]
     exact next _ _ ⟨_,_,rfl,a2,by rw[a4];exact hm,by rw[a3];exact c1,a1'⟩
    ·rintro V h' ⟨acc,w6,rfl,g,hm,c1,ha⟩
     have hlt:¬ ((x.l.length:Int)<(es.length:Int)):=by rw[hn];omega
     rw[List.take_length]at ha
     have hwA:=sc ha (fun r hr=>by obtain⟨n,_,rfl⟩:=List.mem_map.1 hr;rfl)
     rw[aF iz.eq_1]
     simp only[sim,ag,reduceAdd,reduceSub,replicate,reduceCtorEq,reduceLeDiff,reduceLT,aa,c1,hsl.len,hsl.fits,hlt]
     exact hQ _ _ rfl g hwA
   rw[x.caps_eq]
   refine fT Fw rfl fun Q hQ=> ?_;unfold uP
   by_cases h4:x.kind=4
   ·rw[h4]at rest
    have L:=rest
    have a1:Acc h ((h.push [[.int .i64 4,.int .i64 x.n,v]]).fresh 1) 3 (.isl (some h.ids) 3 [[.int .i64 x.n]]) (bh [x.n]):= .inr ⟨h.ids,by simp,Nat.le_refl _,by simp[AH.fresh,AH.push],by simp[AH.fresh,AH.push],rfl⟩
    have a2:af h ((h.push [[.int .i64 4,.int .i64 x.n,v]]).fresh 1):=(by repeat (first | exact af.refl _ | refine af.trans ?_ (af.push _ _) | refine af.trans ?_ (af.fresh _ _)))
    have a3:((h.push [[.int .i64 4,.int .i64 x.n,v]]).fresh 1).cell=(h.push [[.int .i64 4,.int .i64 x.n,v]]).cell:=rfl
    have a4:((h.push [[.int .i64 4,.int .i64 x.n,v]]).fresh 1).n=(h.push [[.int .i64 4,.int .i64 x.n,v]]).n:=rfl
    have e1:True:=trivial
    simp only[sim,ag,reduceAdd,reduceSub,replicate,reduceCtorEq,reduceLeDiff,reduceLT,aa,hv,h4,hsl.len,hsl.fits,e1,a3]
    refine L _ _ _ [x.n] _ _ a1 a2 (by rw[a4];simp only[aJ,xM];omega) (by rw[a3];exact aC) (by simp) fun V h' e g w=>hQ _ _ _ e g ?_
    rw[w]
    simp[h4]
   ·simp only[sim,ag,reduceAdd,reduceSub,replicate,reduceCtorEq,reduceLeDiff,reduceLT,aa,hv,h4,hsl.len,hsl.fits]
    refine rest _ _ _ [] _ _ (kH _ _ _) (by repeat (first | exact af.refl _ | refine af.trans ?_ (af.push _ _) | refine af.trans ?_ (af.fresh _ _))) (by simp only[aJ];omega) aC (by simp) fun V h' e g w=>hQ _ _ _ e g ?_
    rw[w]
    simp[h4]
set_option maxHeartbeats 1000000 in
theorem E4:∀ (N:Nat) (x:VD),SizeOf.sizeOf x≤N→x.size≤100000→∀ (r:List AV) (h:AH),VaA x r→
  aj Tryz.prog po 143 [.agg r] h=some (.inl (dD 3 (bh x.caps)),h):=by
 intro N
 induction N with
 | zero=>intro x hx;have:=x.so_pos;omega
 | succ N ih=>
   intro x hx hsz r h he
   obtain⟨v,es,rfl,hsl,hv,hn,hix⟩:=he.facts
   have hlen:=x.len_size
   have hs:=x.size_eq
   have rest:∀ (Q:jm→Prop) (h0:AH) (acc0:AV) (c0:List Int) (v5:AV),Acc h h0 3 acc0 (bh c0)→af h h0→h.n<h0.n→h0.cell h.n=some [[.int .i64 x.kind,.int .i64 x.n,v]]→c0.length≤1→
     (∀ V h',(eS V h' [.v 2]).map fC=some (wU V)→af h h'→wkA (wU V)=some (dD 3 (bh (c0++cr x.l)))→Q (some (.ret,V,h')))→
     Q (aq (aj Tryz.prog po) 10 (.lp jo:: .ss []:: .blk 0::[.ss [.ops [(.i .l (.mv (.v 3))),(.i (.v 2) (.mv (.l 0)))],.ret]])
       [.agg [.int .i64 x.kind,.int .i64 x.n,v],.ptr h.n 0 0,.nils,acc0,.junk,v5,v,.int .i64 es.length,.int .i64 0,.junk] [] h0):=by
    intro Q h0 acc0 c0 v5 ha0 g0 hn0 k0 hc0 hQ
    refine gY (fun i V h'=>∃ acc w4 w9,V=[.agg [.int .i64 x.kind,.int .i64 x.n,v],.ptr h.n 0 0,.nils,acc,w4,v5,v,.int .i64 es.length,.int .i64 (i:Nat),w9]∧
     af h h'∧h.n<h'.n∧h'.cell h.n=some [[.int .i64 x.kind,.int .i64 x.n,v]]∧Acc h h' 3 acc (bh (c0++cr (x.l.take i)))) x.l.length ⟨_,_,_,rfl,g0,hn0,k0,by simpa[cr]using ha0⟩ ?_ ?_
    ·rintro i V h' hi ⟨acc,w4,w9,rfl,g,hm,c1,ha⟩ next
     have hlt:(i:Int)<(es.length:Int):=by rw[hn];omega
     obtain⟨y,hy⟩:=ky hi
     obtain⟨q,i1,d1,x1⟩:=hix i y hy
     obtain⟨o1,o2⟩:=x1.one
     have hw:=w64 (n:=(i:Int)+1) (by omega) (by omega)
     have e1:=ih y (by have:=VD.lt_mem (fS hy);omega) (by have:=VD.size_mem (fS hy);omega) q (h'.push [q]) x1
     have cf:=kM (x.l.take i)
     have sl:=pq x.l i
     have cy:=y.caps_few
     have sy:=VD.size_mem (fS hy)
     obtain⟨acc2,h2,e2,a1,a2,a3,a4⟩:=yH (h:=(h'.push [q])) (show Acc h (h'.push [q]) _ acc _ from ha) (g.trans (af.push _ _)) (DH 3 (bh y.caps)) (zT _) (by simp only[List.length_map,List.length_append];omega) (by simp only[List.length_map];omega)
     have a1':Acc h h2 3 acc2 (bh (c0++cr (x.l.take (i+1)))):=by
      rw[i4 hy,jE,←List.append_assoc]
      simpa[cr]using a1
     rw[aF jo.eq_1]
     simp only[sim,ag,reduceAdd,reduceSub,replicate,reduceCtorEq,reduceLeDiff,reduceLT,aa,c1,hsl.len,hsl.fits,hlt,i1,d1,o1,o2,bq o2,e1,e2,hw]
     exact next _ _ ⟨_,_,_,rfl,a2,by rw[a4];(show _<h'.n+1;omega),by rw[a3];(exact(aN hm).trans c1),a1'⟩
    ·rintro V h' ⟨acc,w4,w9,rfl,g,hm,c1,ha⟩
     have hlt:¬ ((x.l.length:Int)<(es.length:Int)):=by rw[hn];omega
     rw[List.take_length]at ha
     have hwA:=sc ha (fun r hr=>by obtain⟨n,_,rfl⟩:=List.mem_map.1 hr;rfl)
     rw[aF jo.eq_1]
     simp only[sim,ag,reduceAdd,reduceSub,replicate,reduceCtorEq,reduceLeDiff,reduceLT,aa,c1,hsl.len,hsl.fits,hlt]
     exact hQ _ _ rfl g hwA
   rw[x.caps_eq]
   refine fT G4 rfl fun Q hQ=> ?_;unfold zB
   by_cases h4:x.kind=4
   ·rw[h4]at rest
    have L:=rest
    obtain⟨acc1,h1,e1,a1,a2,a3,a4⟩:=lW (h0:=h) (h:=h.push [[.int .i64 4,.int .i64 x.n,v]]) (kH h _ 3) (by repeat (first | exact af.refl _ | refine af.trans ?_ (af.push _ _) | refine af.trans ?_ (af.fresh _ _))) (row:=[.int .i64 x.n]) rfl (by simp)
    simp only[gS]at e1
    simp only[sim,ag,reduceAdd,reduceSub,replicate,reduceCtorEq,reduceLeDiff,reduceLT,aa,hv,h4,hsl.len,hsl.fits,e1,a3]
    refine L _ _ _ [x.n] _ a1 a2 (by rw[a4];simp only[aJ];omega) (by rw[a3];exact aC) (by simp) fun V h' e g w=>hQ _ _ _ e g ?_
    rw[w]
    simp[h4]
   ·simp only[sim,ag,reduceAdd,reduceSub,replicate,reduceCtorEq,reduceLeDiff,reduceLT,aa,hv,h4,hsl.len,hsl.fits]
    refine rest _ _ _ [] _ (kH _ _ _) (by repeat (first | exact af.refl _ | refine af.trans ?_ (af.push _ _) | refine af.trans ?_ (af.fresh _ _))) (by simp only[aJ];omega) aC (by simp) fun V h' e g w=>hQ _ _ _ e g ?_
    rw[w]
    simp[h4]
theorem Cb (v:AV) (l:List VD) (hv:∀ h,rI h v l) (hl:l.length≤100000) (g:FuncId) (p:VD→Bool) (hf:∀ y∈l,∀ q h,VaA y q→aj Tryz.prog po g [.agg q] h=some (.inl (.bool (p y)),h)):
  ∃ n:Int,aj Tryz.prog po 166 [v,.fn g [] []] h=some (.inl (.int .i64 n),h)∧decide (0≤n)=l.any p:=by
 suffices key:∃ v',aj Tryz.prog po 166 [v,.fn g [] []] h=some (.inl v',h)∧∃ n:Int,v'= .int .i64 n∧decide (0≤n)=l.any p by
  obtain⟨_,e,n,rfl,h2⟩:=key
  exact⟨n,e,h2⟩
 have vl:=(hv h).len
 have vf:=(hv h).fits
 refine B4 D5 rfl fun Q hQ=> ?_;unfold vG
 simp only[sim,ag,reduceAdd,reduceSub,replicate,reduceCtorEq,reduceLeDiff,reduceLT,aa,vl,vf]
 refine gY (fun i V h'=>∃ v2 v3 v6 v7,V=[v,.fn g [] [],v2,v3,.int .i64 l.length,.int .i64 (i:Nat),v6,v7]∧af h h'∧(l.drop i).any p=l.any p) l.length ⟨_,_,_,_,rfl,af.refl _,rfl⟩ ?_ ?_
 ·rintro i V h' hi ⟨v2,v3,v6,v7,rfl,g,hc⟩ next
  have hlt:(i:Int)<(l.length:Int):=by omega
  obtain⟨y,hy⟩:=ky hi
  obtain⟨a,q,i1,i2,x1⟩:=(hv h').ix i y hy
  have hw:=w64 (n:=(i:Int)+1) (by omega) (by omega)
  have e1:=hf y (fS hy) q h' x1
  have hd:(l.drop i).any p=(p y || (l.drop (i+1)).any p):=by
   obtain⟨hi',rfl⟩:=List.getElem?_eq_some_iff.1 hy
   rw[List.drop_eq_getElem_cons hi',List.any_cons]
  rw[hd]at hc
  cases hb:p y
  ·rw[hb]at e1 hc
   rw[Bool.false_or]at hc
   rw[aF iw.eq_1]
   simp only[sim,ag,reduceAdd,reduceSub,replicate,reduceCtorEq,reduceLeDiff,reduceLT,aa,ay,List.append_nil,hlt,i1,i2 _ (af.refl h'),e1,hw]
   exact next _ _ ⟨_,_,_,_,rfl,g,hc⟩
  ·rw[hb]at e1 hc
   rw[Bool.true_or]at hc
   rw[aF iw.eq_1]
   simp only[sim,ag,reduceAdd,reduceSub,replicate,reduceCtorEq,reduceLeDiff,reduceLT,aa,ay,List.append_nil,hlt,i1,i2 _ (af.refl h'),e1]
   exact hQ _ _ _ _ rfl g rfl ⟨i,rfl,by rw[←hc];simp⟩
 ·rintro V h' ⟨v2,v3,v6,v7,rfl,g,hc⟩
  have hlt:¬ ((l.length:Int)<(l.length:Int)):=by omega
  rw[List.drop_length]at hc
  rw[aF iw.eq_1]
  simp only[sim,ag,reduceAdd,reduceSub,replicate,reduceCtorEq,reduceLeDiff,reduceLT,aa,hlt]
  exact hQ _ _ _ _ rfl g rfl ⟨-1,rfl,by rw[←hc];rfl⟩
theorem B2:∀ (N:Nat) (x:VD),SizeOf.sizeOf x≤N→x.size≤100000→∀ (r:List AV) (h:AH),VaA x r→
  aj Tryz.prog po 142 [.agg r] h=some (.inl (.bool x.gate),h):=by
 intro N
 induction N with
 | zero=>intro x hx;have:=x.so_pos;omega
 | succ N ih=>
   intro x hx hsz r h he
   obtain⟨v,es,rfl,hs,hl⟩:=he.row
   have mv:∀ h,rI h v x.l:=fun h=>rI.of hs hl
   have hlen:=x.len_size
   have o1:=(mv h).one
   have e1:∀ h,aj Tryz.prog po 157 [v,.fn 142 [] []] h=some (.inl (.bool (ma x.l)),h):=by
    intro h
    obtain⟨n,e0,e2⟩:=Cb (h:=h) v x.l mv (by omega) 142 VD.gate (fun y hy q h hq=>ih y (by have:=VD.lt_mem hy;omega) (by have:=VD.size_mem hy;omega) q h hq)
    rw[pU,←e2]
    refine fT wN rfl fun Q hQ=> ?_;unfold nV
    simp only[sim,ag,reduceAdd,reduceSub,replicate,reduceCtorEq,reduceLeDiff,reduceLT,aa,e0]
    exact hQ _ _ _ rfl (by repeat (first | exact af.refl _ | refine af.trans ?_ (af.push _ _) | refine af.trans ?_ (af.fresh _ _))) rfl
   rw[x.gate_eq]
   refine fT ER rfl fun Q hQ=> ?_;unfold vp
   cases hk:decide (x.kind=5)
   ·simp only[sim,ag,reduceAdd,reduceSub,replicate,reduceCtorEq,reduceLeDiff,reduceLT,aa,o1,hk,e1]
    exact hQ _ _ _ rfl (by repeat (first | exact af.refl _ | refine af.trans ?_ (af.push _ _) | refine af.trans ?_ (af.fresh _ _))) (by rw[hk];rfl)
   ·simp only[sim,ag,reduceAdd,reduceSub,replicate,reduceCtorEq,reduceLeDiff,reduceLT,aa,o1,hk,e1]
    exact hQ _ _ _ rfl (by repeat (first | exact af.refl _ | refine af.trans ?_ (af.push _ _) | refine af.trans ?_ (af.fresh _ _))) (by rw[hk];rfl)
end
theorem eqF {a n:Nat} (h:a<n):(a=n)=False:=by simp;omega
theorem Pt {a n:Nat} (h:a<n):(n=a)=False:=by simp;omega
theorem wq {e:TypeId} {b n m:Nat} (hm:m≤n):fz (.msl b 0 n e) none (some (.int .i64 (m:Int)))=some (.msl b 0 m e):=by
 simp[fz,loA,hiA,dH,pj,hm]
theorem nU {α β:Type} {f:α→β}:Option.map f none=none:=rfl
theorem oL {α β:Type} {f:α→β} {a:α}:Option.map f (some a)=some (f a):=rfl
abbrev zR3:List AV:=[.int .i64 0,.int .i64 0,.nils]
section
variable {h h' h0:AH} {F J F0 J0:Nat→Prop} {L:List Asn} {mb bb fb:Nat} {left:Int} {below:List FrD} {top:FrD}
theorem ca (f:FrD) (a:List AV) (s n g:AV) (ha:a.length=3):(cP f a s n g)[6]? =some s∧(cP f a s n g).length=10∧(cP f a s n g)[7]? =some n∧(cP f a s n g)[9]? =some g∧(cP f a s n g)[8]? =some (.bool f.asked)∧(cP f a s n g)[0]? =some (.int .i64 f.plugin)∧(cP f a s n g)[1]? =some (.int .i64 f.f)∧(cP f a s n g)[2]? =some (.int .i64 (f.pc:Int)):=by
 match a,ha with
 | [x,y,z],_=>exact⟨rfl,rfl,rfl,rfl,rfl,rfl,rfl,rfl⟩
theorem oz {f:FrD} {a:List AV} {s n g:AV} (ha:a.length=3∧a.all AV.one=true) (hs:s.one=true) (hn:n.one=true) (hg:g.one=true):(cP f a s n g).all AV.one=true:=by
 simp only[cP,List.all_append,ha.2,hs,hn,hg,List.all_cons,List.all_nil,Bool.and_true]
 rfl
theorem zI (f:FrD) (a:List AV) (s n g s':AV) (st:List VD) (ha:a.length=3):(cP f a s n g).set 6 s'=cP {f with stack:=st} a s' n g:=by
 match a,ha with
 | [x,y,z],_=>rfl
theorem n7 {α:Type} {A B:List α} {x:α} {k:Nat} (hk:A.length=k):(A++x::B)[k]? =some x:=CX A B x hk.symm
theorem DN {α:Type} {A B:List α} {x y:α} {k:Nat} (hk:A.length=k):(A++x::B).set k y=A++y::B:=wo A B x y hk.symm
theorem Ln (s0:St h0 F0 J0 h L) (i:Nat) (hi:L[i]? =some (eu mb bb fb left below top)) {v:VD} {r:List AV} (hv:VaA v r) (hb:below.length≤1000) (hst:top.stack.length≤1000000):
  ∃ h',aj Tryz.prog po fPu [.ptr mb 0 0,.agg r] h=some (.inl (.tup []),h')∧St h0 F0 J0 h' (L.set i (eu mb bb fb left below {top with stack:=top.stack++[v]})):=by
 refine s0.call (R:=fun h'=>aj Tryz.prog po fPu [.ptr mb 0 0,.agg r] h=some (.inl (.tup []),h')) i hi fun F J x=> ?_
 obtain⟨rs,ex,a,sv,nv,g,hrl,ha,hg,s⟩:=iQ x
 have s2:=(s.grew (af.push h [r])).grew (af.push (h.push [r]) [r])
 have hz:((h.push [r]).push [r]).cell (h.n+1)=some [r]:=aC
 obtain⟨h3,e3,s3⟩:=s2.app 2 rfl hz hv hst
 have q0:=s.cell 0 rfl
 have q1:=s.cell 1 rfl
 have q3:=(s3.cell 1 rfl).1
 have g6:=ca top a sv nv g ha.len3.1
 have run:=K7 (s':= .msl ((h.push [r]).push [r]).n 0 (top.stack.length+1) tV) hb hv.len3 q0.2 q1.2 q0.1 q1.1 (n7 hrl) g6.1 g6.2.1 e3 q3 rfl rfl
 rw[zI _ _ _ _ _ _ (top.stack++[v]) ha.len3.1,DN hrl]at run
 have s4:=s3.set 1 rfl [rs++cP {top with stack:=top.stack++[v]} a (.msl ((h.push [r]).push [r]).n 0 (top.stack.length+1) tV) nv g::ex].flatten
 exact⟨_,run,me (top:={top with stack:=top.stack++[v]}) ha hg (by simpa using s4)⟩
theorem ml {h2:AH} {rs ex:List (List AV)} {row row':List AV} {k j:Nat} {v:AV} (hc:h2.cell fb=some (rs++row::ex)) (hk:rs.length=k) (h1:v.one=true) (hv:v.cells=[v]) (hj:j<row.length) (hr:row.set j v=row'):aH 1 h2 (.ptr fb k j) v=some (h2.set fb (some (rs++row'::ex))):=by
 rw[bo hc (n7 hk) (by rw[hv];simpa using h1) (by rw[hv];rfl) (by omega),DN hk,hv]
 have:stA row j [v]=row':=by
  rw[←hr]
  unfold stA
  refine List.ext_getElem? fun i=> ?_
  have:=iJ row [v] j i (by simp only[List.length_singleton];omega)
  unfold stA at this
  rw[this]
  by_cases e:i=j
  ·subst e
   simp[hj]
  ·rw[if_neg (by simp only[List.length_singleton];omega),List.getElem?_set_ne (by omega)]
 rw[this]
theorem lP {h2:AH} {rs ex:List (List AV)} {row:List AV} {k j n:Nat} {v:AV} (hc:h2.cell fb=some (rs++row::ex)) (hk:rs.length=k) (hr:row[j]? =some v):aD false n h2 (.ptr fb k j)=some v:=by
 rw[bC,hc,Option.bind_some,n7 hk,Option.bind_some,fD,hr]
theorem Nj (s0:St h0 F0 J0 h L) (i:Nat) (hi:L[i]? =some (eu mb bb fb left below top)) {st:List VD} {v:VD} (hst:top.stack=st++[v]) (hb:below.length≤1000) (hl:st.length≤1000000):
  ∃ h',(∃ r,aj Tryz.prog po 90 [.ptr mb 0 0] h=some (.inl (.agg r),h')∧VaA v r)∧St h0 F0 J0 h' (L.set i (eu mb bb fb left below {top with stack:=st})):=by
 refine s0.call (R:=fun h'=>∃ r,aj Tryz.prog po 90 [.ptr mb 0 0] h=some (.inl (.agg r),h')∧VaA v r) i hi fun F J x=> ?_
 obtain⟨rs,ex,a,sv,nv,g,hrl,ha,hg,s⟩:=iQ x
 have s1:=s.push [zR3]
 obtain⟨F1,J1,x1⟩:=s1.get 3 rfl
 rw[hst]at x1
 have hlen:(st++[v]).length=st.length+1:=by simp
 obtain⟨b,hsv⟩:=zw x1 (by simp)
 rw[hlen]at hsv
 subst hsv
 have rd:=gE x1
 obtain⟨p,r,p1,p2,p3⟩:=rd.2.2.2.2 .i64 st.length v (by simp)
 have g6:=ca top a (.msl b 0 (st.length+1) tV) nv g ha.len3.1
 have w:IntKind.wrap .i64 (((st.length+1:Nat):Int) - 1)=(st.length:Int):=Bj (by omega) (by omega) (by omega)
 have sl:=wq (e:=tV) (b:=b) (n:=st.length+1) (m:=st.length) (by omega)
 have tp:=qG (s1.cell 1 rfl).1 hb
 have l1:=fun n=>lP (n:=n) (s1.cell 2 rfl).1 hrl g6.1
 have s2:=s1.push [zR3]
 have s3:=s1.push [r]
 have l3:=fun n=>lP (n:=n) (s3.cell 3 rfl).1 hrl g6.1
 have st4:=ml (v:= .msl b 0 st.length tV) (s3.cell 3 rfl).1 hrl rfl rfl (by rw[g6.2.1];decide) (zI _ _ _ _ _ _ st ha.len3.1)
 have s4:=s3.set 3 rfl (rs++cP {top with stack:=st} a (.msl b 0 st.length tV) nv g::ex)
 have c1:=(s2.cell 0 rfl).1
 have c4:=(s4.cell 0 rfl).1
 have c5:=(s4.cell 1 rfl).1
 have s5:=s4.set 1 rfl [r]
 have c6:=(s5.cell 1 rfl).1
 have fd:aI 6 (.ptr fb below.length 0)=some (.ptr fb below.length 6):=rfl
 have s6:St h F J _ (FP mb bb fb left below {top with stack:=st} rs ex a (.msl b 0 st.length tV) nv g):=s5.drop.drop.upd 2 rfl fun _ _ _ x=>by rw[hst]at x;exact zs x
 refine⟨_,⟨r,?_,p3⟩,me (top:={top with stack:=st}) ha hg s6⟩
 simp only[aJ,dT]at c1 c4 c5 c6 st4 l3
 refine ah Lb rfl ?_;unfold CU
 simp only[sim,ag,reduceAdd,reduceSub,replicate,reduceCtorEq,reduceLeDiff,reduceLT,aa,ay,tp,l1,p1,p2,w,sl,p3.len3.1,p3.len3.2,c1,l3,st4,c4,c5,c6,nU,oL,fd]
end
def Cj:List RS:=[(.ops [(.i (.v 4) (.mv (.c (.int .i64 0))))]),(.ops [(.i .l (.mv (.v 0))),(.i .l (.mv (.v 0))),(.i .l (.nilc (.l 0))),(.i .l (.fad 0 (.l 0))),(.i .l (.load false 1 (.l 0))),(.i .l (.mv (.v 1))),(.i .l (.mv (.v 2))),(.i .l (.mv (.v 3))),(.i .l (.build [(.int .i64 0),(.int .i64 0),(.int .i64 0)] [(0,1),(1,1),(2,1)] [(0,(.l 2)),(1,(.l 1)),(2,(.l 0))])),(.i .l (.bsl true 184 [(.int .i64 0),(.int .i64 0),(.int .i64 0)] 3 1 [(0,(.l 0))])),(.i .l (.app true 184 (.l 5) (.l 0))),(.i .l (.nilc (.l 10))),(.i .l (.fad 0 (.l 0))),(.i .n (.store 1 (.l 0) (.l 2)))]),(.ops [(.i .l (.mv (.v 0))),(.i .l (.nilc (.l 0))),(.i .l (.fad 0 (.l 0))),(.i .l (.load false 1 (.l 0))),(.i .l (.len false (some 184) (.l 0))),(.i .l (.bin (.int .i64) .sub (.l 0) (.c (.int .i64 1)))),(.i (.v 4) (.mv (.l 0)))]),.ret]
theorem Lp:FnR Tryz.prog po 80 4 5 [0,1,2,3,8] Cj [(.v 4)] false:=⟨_,_,Tryz.func80,rfl,rfl,by kernel_rfl,by kernel_rfl,by kernel_rfl,by kernel_rfl,by kernel_rfl⟩
def yW:List RS:=[(.ops [(.i .l (.mv (.v 0))),(.i .l (.nilc (.l 0))),(.i .l (.fad 0 (.l 0))),(.i .l (.load false 1 (.l 0))),(.i .l (.mv (.v 1))),(.i .l (.mv (.v 0))),(.i .l (.nilc (.l 0))),(.i .l (.fad 0 (.l 0))),(.i .l (.load false 1 (.l 0))),(.i .l (.len false (some 184) (.l 0))),(.i .l (.ixa (some 184) none (.l 6) (.l 5))),(.i .l (.fad 1 (.l 0))),(.i .n (.store 1 (.l 0) (.l 2)))])]
theorem FQ:FnR Tryz.prog po 107 2 2 [0,1] yW [] false:=⟨_,_,Tryz.func107,rfl,rfl,by kernel_rfl,by kernel_rfl,by kernel_rfl,by kernel_rfl,by kernel_rfl⟩
def lh:List RS:=[(.ops [(.i (.v 10) (.bin (.int .i64) .lss (.v 9) (.v 8)))]),(.cond (.v 10) [] [(.exit 1)]),(.block 2 [(.ops [(.i .l (.ixa (some 109) none (.v 7) (.v 9))),(.i .l (.load true 4 (.l 0))),(.i (.v 5) (.alloc [(.int .i64 0),(.int .i64 0),(.int .i64 0),.nils])),(.i .n (.store 4 (.v 5) (.l 0)))]),(.ops [(.i .l (.mv (.v 0))),(.i .l (.load true 4 (.v 5))),(.i .l (.call (.c (.fn 79 [] [])) [(.l 1),(.l 0)]))])]),(.ops [(.i .l (.bin (.int .i64) .add (.v 9) (.c (.int .i64 1)))),(.i (.v 9) (.mv (.l 0)))])]
def ow:List RS:=[(.ops [(.i (.v 2) (.box 4 (.v 1)))]),(.ops [(.i .l (.mv (.v 0))),(.i .l (.call (.c (.fn 80 [] [])) [(.l 0),(.c (.int .i64 100)),(.c (.int .i64 0)),(.c (.int .i64 0))]))]),(.ops [(.i .l (.fad 0 (.v 2))),(.i (.v 6) (.load false 1 (.l 0)))]),(.block 0 [(.ops [(.i .l (.bin (.int .i64) .eql (.v 6) (.c (.int .i64 5)))),(.i (.v 11) (.mv (.l 0)))]),(.cond (.v 11) [(.ops [(.i .l (.mv (.v 0))),(.i .l (.fad 3 (.v 2))),(.i .l (.load false 1 (.l 0))),(.i .l (.ixa (some 109) none (.l 0) (.c (.int .i64 0)))),(.i .l (.load true 4 (.l 0))),(.i .l (.call (.c (.fn 79 [] [])) [(.l 4),(.l 0)]))]),(.ops [(.i .l (.mv (.v 0))),(.i .l (.call (.c (.fn 80 [] [])) [(.l 0),(.c (.int .i64 101)),(.c (.int .i64 0)),(.c (.int .i64 0))]))]),(.ops [(.i .l (.mv (.v 0))),(.i .l (.fad 3 (.v 2))),(.i .l (.load false 1 (.l 0))),(.i .l (.ixa (some 109) none (.l 0) (.c (.int .i64 1)))),(.i .l (.load true 4 (.l 0))),(.i .l (.call (.c (.fn 79 [] [])) [(.l 4),(.l 0)]))]),(.ops [(.i .l (.mv (.v 0))),(.i .l (.call (.c (.fn 80 [] [])) [(.l 0),(.c (.int .i64 102)),(.c (.int .i64 0)),(.c (.int .i64 0))]))])] [(.ops [(.i .l (.bin (.int .i64) .eql (.v 6) (.c (.int .i64 7)))),(.i (.v 12) (.mv (.l 0)))]),(.cond (.v 12) [(.ops [(.i .l (.mv (.v 0))),(.i .l (.fad 3 (.v 2))),(.i .l (.load false 1 (.l 0))),(.i .l (.ixa (some 109) none (.l 0) (.c (.int .i64 0)))),(.i .l (.load true 4 (.l 0))),(.i .l (.call (.c (.fn 79 [] [])) [(.l 4),(.l 0)]))]),(.ops [(.i .l (.mv (.v 0))),(.i .l (.call (.c (.fn 80 [] [])) [(.l 0),(.c (.int .i64 103)),(.c (.int .i64 0)),(.c (.int .i64 0))])),(.i (.v 3) (.mv (.l 0)))]),(.ops [(.i .l (.mv (.v 0))),(.i .l (.fad 3 (.v 2))),(.i .l (.load false 1 (.l 0))),(.i .l (.ixa (some 109) none (.l 0) (.c (.int .i64 1)))),(.i .l (.load true 4 (.l 0))),(.i .l (.call (.c (.fn 79 [] [])) [(.l 4),(.l 0)]))]),(.ops [(.i .l (.mv (.v 0))),(.i .l (.call (.c (.fn 80 [] [])) [(.l 0),(.c (.int .i64 104)),(.c (.int .i64 0)),(.c (.int .i64 0))])),(.i (.v 4) (.mv (.l 0)))]),(.ops [(.i .l (.mv (.v 0))),(.i .l (.mv (.v 3))),(.i .l (.call (.c (.fn 107 [] [])) [(.l 1),(.l 0)]))]),(.ops [(.i .l (.mv (.v 0))),(.i .l (.fad 3 (.v 2))),(.i .l (.load false 1 (.l 0))),(.i .l (.ixa (some 109) none (.l 0) (.c (.int .i64 2)))),(.i .l (.load true 4 (.l 0))),(.i .l (.call (.c (.fn 79 [] [])) [(.l 4),(.l 0)]))]),(.ops [(.i .l (.mv (.v 0))),(.i .l (.mv (.v 4))),(.i .l (.call (.c (.fn 107 [] [])) [(.l 1),(.l 0)]))])] [(.ops [(.i .l (.fad 3 (.v 2))),(.i (.v 7) (.load false 1 (.l 0))),(.i (.v 8) (.len false (some 109) (.v 7))),(.i (.v 9) (.mv (.c (.int .i64 0))))]),(.block 1 [(.loop lh)]),(.ops [(.i .l (.mv (.v 0))),(.i .l (.fad 0 (.v 2))),(.i .l (.load false 1 (.l 0))),(.i .l (.fad 1 (.v 2))),(.i .l (.load false 1 (.l 0))),(.i .l (.fad 2 (.v 2))),(.i .l (.load false 1 (.l 0))),(.i .l (.call (.c (.fn 80 [] [])) [(.l 6),(.l 4),(.l 2),(.l 0)]))])])])])]
theorem sW:FnR Tryz.prog po 79 2 13 [0,1,3,4,5,7,11,13,14,15,16,31,49] ow [] false:=⟨_,_,Tryz.func79,rfl,rfl,by kernel_rfl,by kernel_rfl,by kernel_rfl,by kernel_rfl,by kernel_rfl⟩
def lE:List RS:=[(.ops [(.i (.v 12) (.bin (.int .i64) .lss (.v 11) (.v 10)))]),(.cond (.v 12) [] [(.exit 0)]),(.block 1 [(.ops [(.i .l (.ixa (some 109) none (.v 9) (.v 11))),(.i .l (.load true 4 (.l 0))),(.i (.v 6) (.alloc [(.int .i64 0),(.int .i64 0),(.int .i64 0),.nils])),(.i .n (.store 4 (.v 6) (.l 0)))]),(.ops [(.i .l (.build [.nils] [(0,1)] [])),(.i .l (.box 1 (.l 0))),(.i (.v 7) (.mv (.l 0)))]),(.ops [(.i .l (.mv (.v 7))),(.i .l (.load true 4 (.v 6))),(.i .l (.call (.c (.fn 79 [] [])) [(.l 1),(.l 0)]))]),(.ops [(.i .l (.mv (.v 7))),(.i .l (.call (.c (.fn 80 [] [])) [(.l 0),(.c (.int .i64 105)),(.c (.int .i64 0)),(.c (.int .i64 0))]))]),(.ops [(.i .l (.mv (.v 5))),(.i .l (.mv (.v 7))),(.i .l (.nilc (.l 0))),(.i .l (.fad 0 (.l 0))),(.i .l (.load false 1 (.l 0))),(.i .l (.bsl false 174 [.nils] 1 1 [(0,(.l 0))])),(.i .l (.app false 174 (.l 5) (.l 0))),(.i (.v 5) (.mv (.l 0)))])]),(.ops [(.i .l (.bin (.int .i64) .add (.v 11) (.c (.int .i64 1)))),(.i (.v 11) (.mv (.l 0)))])]
def oo:List RS:=[(.ops [(.i (.v 1) (.box 1 (.v 0))),(.i (.v 2) (.mv (.c .nils))),(.i (.v 3) (.alloc [(.int .i64 0),(.int .i64 0)]))]),(.ops [(.i .l (.load true 1 (.v 1))),(.i .l (.call (.c (.fn 78 [] [])) [(.l 0)])),(.i (.v 4) (.alloc [(.int .i64 0),(.int .i64 0)])),(.i .n (.store 2 (.v 4) (.l 0)))]),(.ops [(.i .l (.fad 0 (.v 4))),(.i .l (.load false 1 (.l 0))),(.i (.v 8) (.bin (.int .i64) .neq (.l 0) (.c (.int .i64 0))))]),(.cond (.v 8) [(.ops [(.i .l (.load true 2 (.v 4))),(.i (.v 2) (.mv (.c .nils))),(.i .n (.store 2 (.v 3) (.l 0)))]),.ret] []),(.ops [(.i (.v 5) (.mv (.c .nils)))]),(.ops [(.i .l (.fad 0 (.v 1))),(.i (.v 9) (.load false 1 (.l 0))),(.i (.v 10) (.len false (some 109) (.v 9))),(.i (.v 11) (.mv (.c (.int .i64 0))))]),(.block 0 [(.loop lE)]),(.ops [(.i .l (.mv (.v 5))),(.i .l (.build [(.int .i64 0),(.int .i64 0)] [(0,1),(1,1)] [])),(.i (.v 2) (.mv (.l 1))),(.i .n (.store 2 (.v 3) (.l 0)))]),.ret]
def uo:List RS:=[(.ops [(.i (.v 1) (.mv (.c (.int .i64 0))))]),(.ops [(.i .l (.mv (.v 0))),(.i .l (.bin (.int .i64) .lss (.l 0) (.c (.int .i64 1)))),(.i .l (.mv (.l 0))),(.g (.l 0) false .l (.mv (.v 0))),(.g (.l 1) false .l (.bin (.int .i64) .gtr (.l 0) (.c (.int .i64 21)))),(.i (.v 2) (.pick (.l 2) (.c (.bool true)) (.l 0)))]),(.cond (.v 2) [(.ops [(.i (.v 1) (.mv (.c (.int .i64 (-1)))))]),.ret] []),(.ops [(.i .l (.build [(.int .i64 0),(.int .i64 0),(.int .i64 0),(.int .i64 0),(.int .i64 0),(.int .i64 0),(.int .i64 0),(.int .i64 0),(.int .i64 0),(.int .i64 0),(.int .i64 0),(.int .i64 0),(.int .i64 0),(.int .i64 0),(.int .i64 0),(.int .i64 0),(.int .i64 0),(.int .i64 0),(.int .i64 0),(.int .i64 0),(.int .i64 0),(.int .i64 0)] [(0,1),(1,1),(2,1),(3,1),(4,1),(5,1),(6,1),(7,1),(8,1),(9,1),(10,1),(11,1),(12,1),(13,1),(14,1),(15,1),(16,1),(17,1),(18,1),(19,1),(20,1),(21,1)] [(0,(.c (.int .i64 0))),(1,(.c (.int .i64 0))),(2,(.c (.int .i64 0))),(3,(.c (.int .i64 0))),(4,(.c (.int .i64 0))),(5,(.c (.int .i64 2))),(6,(.c (.int .i64 2))),(7,(.c (.int .i64 3))),(8,(.c (.int .i64 2))),(9,(.c (.int .i64 1))),(10,(.c (.int .i64 1))),(11,(.c (.int .i64 1))),(12,(.c (.int .i64 1))),(13,(.c (.int .i64 1))),(14,(.c (.int .i64 2))),(15,(.c (.int .i64 1))),(16,(.c (.int .i64 1))),(17,(.c (.int .i64 1))),(18,(.c (.int .i64 1))),(19,(.c (.int .i64 2))),(20,(.c (.int .i64 1))),(21,(.c (.int .i64 0)))])),(.i .l (.mv (.v 0))),(.i .l (.ix false (some (22,(1,false))) (.l 1) (.l 0))),(.i (.v 1) (.mv (.l 0)))]),.ret]
theorem Fh:FnR Tryz.prog po 123 1 3 [0,2,8] uo [(.v 1)] true:=⟨_,_,Tryz.func123,rfl,rfl,by kernel_rfl,by kernel_rfl,by kernel_rfl,by kernel_rfl,by kernel_rfl⟩
def oU:List RS:=[(.ops [(.i .l (.mv (.v 1))),(.i .l (.mv (.l 0))),(.g (.l 0) true .l (.mv (.v 0))),(.g (.l 1) true .l (.nilc (.l 0))),(.g (.l 2) true .l (.fad 1 (.l 0))),(.g (.l 3) true .l (.load false 1 (.l 0))),(.g (.l 4) true .l (.bin (.int .i64) .eql (.l 0) (.c (.int .i64 0)))),(.i (.v 3) (.pick (.l 5) (.l 0) (.c (.bool false))))]),(.cond (.v 3) [(.ops [(.i .l (.mv (.v 0))),(.i .l (.mv (.v 2))),(.i .l (.nilc (.l 1))),(.i .l (.fad 1 (.l 0))),(.i .n (.store 1 (.l 0) (.l 2)))])] [])]
theorem qT:FnR Tryz.prog po 103 3 4 [0,1,2,13] oU [] false:=⟨_,_,Tryz.func103,rfl,rfl,by kernel_rfl,by kernel_rfl,by kernel_rfl,by kernel_rfl,by kernel_rfl⟩
def zY:List RS:=[(.ops [(.i (.v 2) (.box 4 (.v 0))),(.i (.v 3) (.box 1 (.v 1))),(.i (.v 4) (.mv (.c (.bool false))))]),(.ops [(.i .l (.load false 1 (.v 3))),(.i .l (.bin (.int .i64) .geq (.l 0) (.c (.int .i64 0)))),(.i .l (.mv (.l 0))),(.g (.l 0) true .l (.fad 3 (.v 2))),(.g (.l 1) true .l (.load false 1 (.l 0))),(.g (.l 2) true .l (.mkf 122 [] [(.v 3)])),(.g (.l 3) true .l (.call (.c (.fn 121 [] [])) [(.l 1),(.l 0)])),(.g (.l 4) true .l (.un .not (.l 0))),(.i .l (.pick (.l 5) (.l 0) (.c (.bool false)))),(.i (.v 4) (.mv (.l 0)))]),.ret]
theorem I0:FnR Tryz.prog po 104 2 5 [0,1,2,3,4] zY [(.v 4)] true:=⟨_,_,Tryz.func104,rfl,rfl,by kernel_rfl,by kernel_rfl,by kernel_rfl,by kernel_rfl,by kernel_rfl⟩
def vh:List RS:=[(.ops [(.i (.v 2) (.box 4 (.v 0))),(.i (.v 3) (.mv (.c (.bool false))))]),(.ops [(.i .l (.load true 4 (.v 2))),(.i .l (.load false 1 (.v 1))),(.i .l (.bin (.int .i64) .sub (.l 0) (.c (.int .i64 1)))),(.i .l (.call (.c (.fn 104 [] [])) [(.l 2),(.l 0)])),(.i .l (.un .not (.l 0))),(.i (.v 3) (.mv (.l 0)))]),.ret]
theorem ES:FnR Tryz.prog po 122 2 4 [0,1,2,3] vh [(.v 3)] true:=⟨_,_,Tryz.func122,rfl,rfl,by kernel_rfl,by kernel_rfl,by kernel_rfl,by kernel_rfl,by kernel_rfl⟩
def nM:List RS:=[(.ops [(.i (.v 2) (.mv (.c (.bool false))))]),(.ops [(.i .l (.mv (.v 0))),(.i .l (.mv (.v 1))),(.i .l (.call (.c (.fn 141 [] [])) [(.l 1),(.l 0)])),(.i .l (.bin (.int .i64) .geq (.l 0) (.c (.int .i64 0)))),(.i (.v 2) (.mv (.l 0)))]),.ret]
theorem xv:FnR Tryz.prog po 121 2 3 [0,1,4] nM [(.v 2)] true:=⟨_,_,Tryz.func121,rfl,rfl,by kernel_rfl,by kernel_rfl,by kernel_rfl,by kernel_rfl,by kernel_rfl⟩
def f9:List RS:=[(.ops [(.i (.v 6) (.bin (.int .i64) .lss (.v 5) (.v 4)))]),(.cond (.v 6) [] [(.exit 0)]),(.block 1 [(.ops [(.i .l (.mv (.v 5))),(.i (.v 3) (.mv (.l 0)))]),(.ops [(.i .l (.mv (.v 1))),(.i .l (.mv (.v 0))),(.i .l (.mv (.v 3))),(.i .l (.ixa (some 109) none (.l 1) (.l 0))),(.i .l (.load true 4 (.l 0))),(.i (.v 7) (.call (.l 4) [(.l 0)]))]),(.cond (.v 7) [(.ops [(.i .l (.mv (.v 3))),(.i (.v 2) (.mv (.l 0)))]),.ret] [])]),(.ops [(.i .l (.bin (.int .i64) .add (.v 5) (.c (.int .i64 1)))),(.i (.v 5) (.mv (.l 0)))])]
def uO:List RS:=[(.ops [(.i (.v 2) (.mv (.c (.int .i64 0))))]),(.ops [(.i .l (.mv (.v 0))),(.i (.v 4) (.len false (some 109) (.l 0))),(.i (.v 5) (.mv (.c (.int .i64 0))))]),(.block 0 [(.loop f9)]),(.ops [(.i (.v 2) (.mv (.c (.int .i64 (-1)))))]),.ret]
theorem EC:FnR Tryz.prog po 141 2 8 [0,1,4,5,7,8,9,16] uO [(.v 2)] true:=⟨_,_,Tryz.func141,rfl,rfl,by kernel_rfl,by kernel_rfl,by kernel_rfl,by kernel_rfl,by kernel_rfl⟩
def ic:List RS:=[(.ops [(.i .l (.mv (.v 4))),(.i .l (.fad 3 (.v 2))),(.i .l (.load false 1 (.l 0))),(.i .l (.len false (some 109) (.l 0))),(.i .l (.bin (.int .i64) .lss (.l 3) (.l 0))),(.i .l (.mv (.l 0))),(.g (.l 0) true .l (.mv (.v 1))),(.g (.l 1) true .l (.bin (.int .i64) .geq (.l 0) (.c (.int .i64 0)))),(.i (.v 5) (.pick (.l 2) (.l 0) (.c (.bool false))))]),(.cond (.v 5) [] [(.exit 0)]),(.block 1 [(.ops [(.i .l (.fad 3 (.v 2))),(.i .l (.load false 1 (.l 0))),(.i .l (.mv (.v 4))),(.i .l (.ixa (some 109) none (.l 1) (.l 0))),(.i .l (.load true 4 (.l 0))),(.i .l (.mv (.v 1))),(.i .l (.call (.c (.fn 105 [] [])) [(.l 1),(.l 0)])),(.i (.v 1) (.mv (.l 0)))])]),(.ops [(.i .l (.mv (.v 4))),(.i .l (.bin (.int .i64) .add (.l 0) (.c (.int .i64 1)))),(.i (.v 4) (.mv (.l 0)))])]
def vQ:List RS:=[(.ops [(.i (.v 2) (.box 4 (.v 0))),(.i (.v 3) (.mv (.c (.int .i64 0))))]),(.ops [(.i .l (.mv (.v 1))),(.i .l (.bin (.int .i64) .sub (.l 0) (.c (.int .i64 1)))),(.i (.v 1) (.mv (.l 0)))]),(.ops [(.i (.v 4) (.mv (.c (.int .i64 0))))]),(.block 0 [(.loop ic)]),(.ops [(.i .l (.mv (.v 1))),(.i (.v 3) (.mv (.l 0)))]),.ret]
theorem EY:FnR Tryz.prog po 105 2 6 [0,1,2,4,5,16] vQ [(.v 3)] true:=⟨_,_,Tryz.func105,rfl,rfl,by kernel_rfl,by kernel_rfl,by kernel_rfl,by kernel_rfl,by kernel_rfl⟩
def pM:List RS:=[(.ops [(.i (.v 3) (.box 4 (.v 1)))]),(.ops [(.i .l (.mv (.v 0))),(.i .l (.fad 2 (.v 3))),(.i .l (.load false 1 (.l 0))),(.i .l (.bin (.int .i64) .neq (.l 0) (.c (.int .i64 0)))),(.i .l (.mv (.l 0))),(.g (.l 0) true .l (.fad 0 (.v 3))),(.g (.l 1) true .l (.load false 1 (.l 0))),(.g (.l 2) true .l (.bin (.int .i64) .neq (.l 0) (.c (.int .i64 2)))),(.i .l (.pick (.l 3) (.l 0) (.c (.bool false)))),(.i .l (.call (.c (.fn 103 [] [])) [(.l 8),(.l 0),(.c (.int .i64 5))]))]),(.ops [(.i .l (.fad 0 (.v 3))),(.i (.v 4) (.load false 1 (.l 0)))]),(.block 0 [(.ops [(.i .l (.bin (.int .i64) .eql (.v 4) (.c (.int .i64 4)))),(.i (.v 5) (.mv (.l 0)))]),(.cond (.v 5) [(.ops [(.i .l (.mv (.v 0))),(.i .l (.fad 1 (.v 3))),(.i .l (.load false 1 (.l 0))),(.i .l (.bin (.int .i64) .lss (.l 0) (.c (.int .i64 0)))),(.i .l (.mv (.l 0))),(.g (.l 0) false .l (.fad 1 (.v 3))),(.g (.l 1) false .l (.load false 1 (.l 0))),(.g (.l 2) false .l (.mv (.v 2))),(.g (.l 3) false .l (.bin (.int .i64) .geq (.l 1) (.l 0))),(.i .l (.pick (.l 4) (.c (.bool true)) (.l 0))),(.i .l (.call (.c (.fn 103 [] [])) [(.l 9),(.l 0),(.c (.int .i64 1))]))])] [(.ops [(.i .l (.bin (.int .i64) .eql (.v 4) (.c (.int .i64 6)))),(.i (.v 6) (.mv (.l 0)))]),(.cond (.v 6) [(.ops [(.i .l (.mv (.v 0))),(.i .l (.fad 1 (.v 3))),(.i .l (.load false 1 (.l 0))),(.i .l (.bin (.int .i64) .lss (.l 0) (.c (.int .i64 1)))),(.i .l (.mv (.l 0))),(.g (.l 0) false .l (.fad 1 (.v 3))),(.g (.l 1) false .l (.load false 1 (.l 0))),(.g (.l 2) false .l (.bin (.int .i64) .gtr (.l 0) (.c (.int .i64 5)))),(.i .l (.pick (.l 3) (.c (.bool true)) (.l 0))),(.i .l (.call (.c (.fn 103 [] [])) [(.l 8),(.l 0),(.c (.int .i64 1))]))])] [(.ops [(.i .l (.bin (.int .i64) .eql (.v 4) (.c (.int .i64 15)))),(.i (.v 7) (.mv (.l 0)))]),(.cond (.v 7) [(.ops [(.i .l (.mv (.v 0))),(.i .l (.fad 1 (.v 3))),(.i .l (.load false 1 (.l 0))),(.i .l (.call (.c (.fn 120 [] [])) [(.l 0)])),(.i .l (.un .not (.l 0))),(.i .l (.call (.c (.fn 103 [] [])) [(.l 4),(.l 0),(.c (.int .i64 1))]))])] [(.ops [(.i .l (.bin (.int .i64) .eql (.v 4) (.c (.int .i64 18)))),(.i (.v 8) (.mv (.l 0)))]),(.cond (.v 8) [(.ops [(.i .l (.mv (.v 0))),(.i .l (.fad 1 (.v 3))),(.i .l (.load false 1 (.l 0))),(.i .l (.bin (.int .i64) .lss (.l 0) (.c (.int .i64 0)))),(.i .l (.mv (.l 0))),(.g (.l 0) false .l (.fad 1 (.v 3))),(.g (.l 1) false .l (.load false 1 (.l 0))),(.g (.l 2) false .l (.mv (.v 0))),(.g (.l 3) false .l (.nilc (.l 0))),(.g (.l 4) false .l (.fad 0 (.l 0))),(.g (.l 5) false .l (.fad 0 (.l 0))),(.g (.l 6) false .l (.load false 1 (.l 0))),(.g (.l 7) false .l (.len false (some 109) (.l 0))),(.g (.l 8) false .l (.bin (.int .i64) .geq (.l 6) (.l 0))),(.i .l (.pick (.l 9) (.c (.bool true)) (.l 0))),(.i .l (.call (.c (.fn 103 [] [])) [(.l 14),(.l 0),(.c (.int .i64 1))]))])] [(.ops [(.i .l (.mv (.v 0))),(.i .l (.fad 1 (.v 3))),(.i .l (.load false 1 (.l 0))),(.i .l (.bin (.int .i64) .neq (.l 0) (.c (.int .i64 0)))),(.i .l (.call (.c (.fn 103 [] [])) [(.l 3),(.l 0),(.c (.int .i64 5))]))])])])])])])]
theorem zO:FnR Tryz.prog po 124 3 9 [0,1,2,4,17,23,36,48,56] pM [] false:=⟨_,_,Tryz.func124,rfl,rfl,by kernel_rfl,by kernel_rfl,by kernel_rfl,by kernel_rfl,by kernel_rfl⟩
def fE:List RS:=[(.ops [(.i (.v 10) (.bin (.int .i64) .lss (.v 9) (.v 8)))]),(.cond (.v 10) [] [(.exit 0)]),(.block 1 [(.ops [(.i .l (.mv (.v 9))),(.i .l (.ixa (some 109) none (.v 7) (.v 9))),(.i .l (.load true 4 (.l 0))),(.i (.v 6) (.alloc [(.int .i64 0),(.int .i64 0),(.int .i64 0),.nils])),(.i (.v 5) (.mv (.l 2))),(.i .n (.store 4 (.v 6) (.l 0)))]),(.ops [(.i .l (.mv (.v 0))),(.i .l (.nilc (.l 0))),(.i .l (.fad 1 (.l 0))),(.i .l (.load false 1 (.l 0))),(.i (.v 11) (.bin (.int .i64) .neq (.l 0) (.c (.int .i64 0))))]),(.cond (.v 11) [.ret] []),(.ops [(.i .l (.fad 0 (.v 3))),(.i .l (.load false 1 (.l 0))),(.i .l (.bin (.int .i64) .eql (.l 0) (.c (.int .i64 5)))),(.i .l (.mv (.l 0))),(.g (.l 0) true .l (.mv (.v 5))),(.g (.l 1) true .l (.bin (.int .i64) .eql (.l 0) (.c (.int .i64 1)))),(.i (.v 12) (.pick (.l 2) (.l 0) (.c (.bool false))))]),(.cond (.v 12) [(.ops [(.i .l (.mv (.v 0))),(.i .l (.load true 4 (.v 6))),(.i .l (.mv (.v 2))),(.i .l (.bin (.int .i64) .add (.l 0) (.c (.int .i64 1)))),(.i .l (.call (.c (.fn 106 [] [])) [(.l 3),(.l 2),(.l 0)]))])] [(.ops [(.i .l (.mv (.v 0))),(.i .l (.load true 4 (.v 6))),(.i .l (.mv (.v 2))),(.i .l (.call (.c (.fn 106 [] [])) [(.l 2),(.l 1),(.l 0)]))])])]),(.ops [(.i .l (.bin (.int .i64) .add (.v 9) (.c (.int .i64 1)))),(.i (.v 9) (.mv (.l 0)))])]
def ya:List RS:=[(.ops [(.i (.v 3) (.box 4 (.v 1)))]),(.ops [(.i .l (.fad 0 (.v 3))),(.i .l (.load false 1 (.l 0))),(.i .l (.call (.c (.fn 123 [] [])) [(.l 0)])),(.i (.v 4) (.mv (.l 0)))]),(.ops [(.i .l (.mv (.v 0))),(.i .l (.mv (.v 4))),(.i .l (.bin (.int .i64) .lss (.l 0) (.c (.int .i64 0)))),(.i .l (.call (.c (.fn 103 [] [])) [(.l 2),(.l 0),(.c (.int .i64 2))]))]),(.ops [(.i .l (.mv (.v 0))),(.i .l (.fad 3 (.v 3))),(.i .l (.load false 1 (.l 0))),(.i .l (.len false (some 109) (.l 0))),(.i .l (.mv (.v 4))),(.i .l (.bin (.int .i64) .neq (.l 1) (.l 0))),(.i .l (.call (.c (.fn 103 [] [])) [(.l 5),(.l 0),(.c (.int .i64 5))]))]),(.ops [(.i .l (.mv (.v 0))),(.i .l (.load true 4 (.v 3))),(.i .l (.mv (.v 2))),(.i .l (.call (.c (.fn 124 [] [])) [(.l 2),(.l 1),(.l 0)]))]),(.ops [(.i .l (.mv (.v 0))),(.i .l (.fad 0 (.v 3))),(.i .l (.load false 1 (.l 0))),(.i .l (.bin (.int .i64) .eql (.l 0) (.c (.int .i64 5)))),(.i .l (.mv (.l 0))),(.g (.l 0) true .l (.mv (.v 2))),(.g (.l 1) true .l (.bin (.int .i64) .eql (.l 0) (.c (.int .i64 12)))),(.i .l (.pick (.l 2) (.l 0) (.c (.bool false)))),(.i .l (.call (.c (.fn 103 [] [])) [(.l 7),(.l 0),(.c (.int .i64 3))]))]),(.ops [(.i .l (.fad 3 (.v 3))),(.i (.v 7) (.load false 1 (.l 0))),(.i (.v 8) (.len false (some 109) (.v 7))),(.i (.v 9) (.mv (.c (.int .i64 0))))]),(.block 0 [(.loop fE)])]
theorem I8:FnR Tryz.prog po 106 3 13 [0,1,2,4,6,7,8,37,38,39,40,48,55] ya [] false:=⟨_,_,Tryz.func106,rfl,rfl,by kernel_rfl,by kernel_rfl,by kernel_rfl,by kernel_rfl,by kernel_rfl⟩
def iC:List RS:=[(.ops [(.i (.v 10) (.bin (.int .i64) .lss (.v 9) (.v 8)))]),(.cond (.v 10) [] [(.exit 0)]),(.block 1 [(.ops [(.i .l (.mv (.v 9))),(.i .l (.ixa (some 109) none (.v 7) (.v 9))),(.i .l (.load true 4 (.l 0))),(.i (.v 4) (.alloc [(.int .i64 0),(.int .i64 0),(.int .i64 0),.nils])),(.i (.v 3) (.mv (.l 2))),(.i .n (.store 4 (.v 4) (.l 0)))]),(.ops [(.i .l (.load true 1 (.v 1))),(.i .l (.build [.nils,(.int .i64 0)] [(0,1),(1,1)] [(0,(.l 0))])),(.i .l (.box 2 (.l 0))),(.i (.v 5) (.mv (.l 0)))]),(.ops [(.i .l (.mv (.v 5))),(.i .l (.load true 4 (.v 4))),(.i .l (.call (.c (.fn 104 [] [])) [(.l 0),(.c (.int .i64 30))])),(.i .l (.un .not (.l 0))),(.i .l (.call (.c (.fn 103 [] [])) [(.l 3),(.l 0),(.c (.int .i64 4))]))]),(.ops [(.i .l (.mv (.v 5))),(.i .l (.mv (.v 5))),(.i .l (.nilc (.l 0))),(.i .l (.fad 1 (.l 0))),(.i .l (.load false 1 (.l 0))),(.i .l (.bin (.int .i64) .eql (.l 0) (.c (.int .i64 0)))),(.i .l (.mv (.l 0))),(.g (.l 0) true .l (.load true 4 (.v 4))),(.g (.l 1) true .l (.call (.c (.fn 105 [] [])) [(.l 0),(.c (.int .i64 120))])),(.g (.l 2) true .l (.bin (.int .i64) .lss (.l 0) (.c (.int .i64 0)))),(.i .l (.pick (.l 3) (.l 0) (.c (.bool false)))),(.i .l (.call (.c (.fn 103 [] [])) [(.l 10),(.l 0),(.c (.int .i64 3))]))]),(.ops [(.i .l (.mv (.v 5))),(.i .l (.nilc (.l 0))),(.i .l (.fad 1 (.l 0))),(.i .l (.load false 1 (.l 0))),(.i (.v 11) (.bin (.int .i64) .eql (.l 0) (.c (.int .i64 0))))]),(.cond (.v 11) [(.ops [(.i .l (.mv (.v 5))),(.i .l (.load true 4 (.v 4))),(.i .l (.call (.c (.fn 106 [] [])) [(.l 1),(.l 0),(.c (.int .i64 0))]))])] []),(.ops [(.i .l (.mv (.v 5))),(.i .l (.nilc (.l 0))),(.i .l (.fad 1 (.l 0))),(.i .l (.load false 1 (.l 0))),(.i (.v 12) (.bin (.int .i64) .neq (.l 0) (.c (.int .i64 0))))]),(.cond (.v 12) [(.ops [(.i .l (.mv (.v 5))),(.i .l (.nilc (.l 0))),(.i .l (.fad 1 (.l 0))),(.i .l (.load false 1 (.l 0))),(.i .l (.mv (.v 3))),(.i .l (.build [(.int .i64 0),(.int .i64 0)] [(0,1),(1,1)] [(0,(.l 1)),(1,(.l 0))])),(.i .n (.store 2 (.v 2) (.l 0)))]),.ret] [])]),(.ops [(.i .l (.bin (.int .i64) .add (.v 9) (.c (.int .i64 1)))),(.i (.v 9) (.mv (.l 0)))])]
def vI:List RS:=[(.ops [(.i (.v 1) (.box 1 (.v 0))),(.i (.v 2) (.alloc [(.int .i64 0),(.int .i64 0)]))]),(.ops [(.i .l (.fad 0 (.v 1))),(.i .l (.load false 1 (.l 0))),(.i .l (.len false (some 109) (.l 0))),(.i .l (.bin (.int .i64) .eql (.l 0) (.c (.int .i64 0)))),(.i .l (.mv (.l 0))),(.g (.l 0) false .l (.fad 0 (.v 1))),(.g (.l 1) false .l (.load false 1 (.l 0))),(.g (.l 2) false .l (.len false (some 109) (.l 0))),(.g (.l 3) false .l (.bin (.int .i64) .gtr (.l 0) (.c (.int .i64 6)))),(.i (.v 6) (.pick (.l 4) (.c (.bool true)) (.l 0)))]),(.cond (.v 6) [(.ops [(.i .l (.build [(.int .i64 0),(.int .i64 0)] [(0,1),(1,1)] [(0,(.c (.int .i64 3))),(1,(.c (.int .i64 (-1))))])),(.i .n (.store 2 (.v 2) (.l 0)))]),.ret] []),(.ops [(.i .l (.fad 0 (.v 1))),(.i (.v 7) (.load false 1 (.l 0))),(.i (.v 8) (.len false (some 109) (.v 7))),(.i (.v 9) (.mv (.c (.int .i64 0))))]),(.block 0 [(.loop iC)]),(.ops [(.i .l (.build [(.int .i64 0),(.int .i64 0)] [(0,1),(1,1)] [])),(.i .n (.store 2 (.v 2) (.l 0)))]),.ret]
theorem Fl:FnR Tryz.prog po 78 1 13 [0,1,2,3,4,5,15,18,19,20,21,49,57] vI [(.cell true 2 2)] true:=⟨_,_,Tryz.func78,rfl,rfl,by kernel_rfl,by kernel_rfl,by kernel_rfl,by kernel_rfl,by kernel_rfl⟩
def L2:List RS:=[(.ops [(.i (.v 2) (.alloc [(.int .i64 0),(.int .i64 0)]))]),(.ops [(.i .l (.mv (.v 0))),(.i .l (.mv (.v 1))),(.i .l (.build [(.int .i64 0),(.int .i64 0)] [(0,1),(1,1)] [(0,(.l 1)),(1,(.l 0))])),(.i .n (.store 2 (.v 2) (.l 0)))]),.ret]
theorem O4:FnR Tryz.prog po 108 2 3 [0,1,4] L2 [(.cell true 2 2)] true:=⟨_,_,Tryz.func108,rfl,rfl,by kernel_rfl,by kernel_rfl,by kernel_rfl,by kernel_rfl,by kernel_rfl⟩
def sZ:List RS:=[(.ops [(.i (.v 1) (.mv (.c (.int .i64 0))))]),(.ops [(.i (.v 2) (.mv (.v 0)))]),(.block 0 [(.ops [(.i .l (.bin (.int .i64) .eql (.v 2) (.c (.int .i64 1)))),(.i (.v 3) (.mv (.l 0)))]),(.cond (.v 3) [] [(.ops [(.i .l (.bin (.int .i64) .eql (.v 2) (.c (.int .i64 2)))),(.i (.v 3) (.mv (.l 0)))]),(.cond (.v 3) [] [(.ops [(.i .l (.bin (.int .i64) .eql (.v 2) (.c (.int .i64 3)))),(.i (.v 3) (.mv (.l 0)))]),(.cond (.v 3) [] [(.ops [(.i .l (.bin (.int .i64) .eql (.v 2) (.c (.int .i64 4)))),(.i (.v 3) (.mv (.l 0)))]),(.cond (.v 3) [] [(.ops [(.i .l (.bin (.int .i64) .eql (.v 2) (.c (.int .i64 21)))),(.i (.v 3) (.mv (.l 0)))])])])])]),(.cond (.v 3) [(.ops [(.i (.v 1) (.mv (.c (.int .i64 0))))]),.ret] [(.ops [(.i .l (.bin (.int .i64) .eql (.v 2) (.c (.int .i64 9)))),(.i (.v 4) (.mv (.l 0)))]),(.cond (.v 4) [] [(.ops [(.i .l (.bin (.int .i64) .eql (.v 2) (.c (.int .i64 10)))),(.i (.v 4) (.mv (.l 0)))]),(.cond (.v 4) [] [(.ops [(.i .l (.bin (.int .i64) .eql (.v 2) (.c (.int .i64 11)))),(.i (.v 4) (.mv (.l 0)))]),(.cond (.v 4) [] [(.ops [(.i .l (.bin (.int .i64) .eql (.v 2) (.c (.int .i64 12)))),(.i (.v 4) (.mv (.l 0)))]),(.cond (.v 4) [] [(.ops [(.i .l (.bin (.int .i64) .eql (.v 2) (.c (.int .i64 13)))),(.i (.v 4) (.mv (.l 0)))]),(.cond (.v 4) [] [(.ops [(.i .l (.bin (.int .i64) .eql (.v 2) (.c (.int .i64 15)))),(.i (.v 4) (.mv (.l 0)))]),(.cond (.v 4) [] [(.ops [(.i .l (.bin (.int .i64) .eql (.v 2) (.c (.int .i64 16)))),(.i (.v 4) (.mv (.l 0)))]),(.cond (.v 4) [] [(.ops [(.i .l (.bin (.int .i64) .eql (.v 2) (.c (.int .i64 17)))),(.i (.v 4) (.mv (.l 0)))]),(.cond (.v 4) [] [(.ops [(.i .l (.bin (.int .i64) .eql (.v 2) (.c (.int .i64 18)))),(.i (.v 4) (.mv (.l 0)))]),(.cond (.v 4) [] [(.ops [(.i .l (.bin (.int .i64) .eql (.v 2) (.c (.int .i64 20)))),(.i (.v 4) (.mv (.l 0)))])])])])])])])])])]),(.cond (.v 4) [(.ops [(.i (.v 1) (.mv (.c (.int .i64 1))))]),.ret] [(.ops [(.i .l (.bin (.int .i64) .eql (.v 2) (.c (.int .i64 5)))),(.i (.v 5) (.mv (.l 0)))]),(.cond (.v 5) [] [(.ops [(.i .l (.bin (.int .i64) .eql (.v 2) (.c (.int .i64 6)))),(.i (.v 5) (.mv (.l 0)))]),(.cond (.v 5) [] [(.ops [(.i .l (.bin (.int .i64) .eql (.v 2) (.c (.int .i64 8)))),(.i (.v 5) (.mv (.l 0)))]),(.cond (.v 5) [] [(.ops [(.i .l (.bin (.int .i64) .eql (.v 2) (.c (.int .i64 14)))),(.i (.v 5) (.mv (.l 0)))]),(.cond (.v 5) [] [(.ops [(.i .l (.bin (.int .i64) .eql (.v 2) (.c (.int .i64 19)))),(.i (.v 5) (.mv (.l 0)))])])])])]),(.cond (.v 5) [(.ops [(.i (.v 1) (.mv (.c (.int .i64 2))))]),.ret] [(.ops [(.i .l (.bin (.int .i64) .eql (.v 2) (.c (.int .i64 7)))),(.i (.v 6) (.mv (.l 0)))]),(.cond (.v 6) [(.ops [(.i (.v 1) (.mv (.c (.int .i64 3))))]),.ret] [])])])])]),(.ops [(.i (.v 1) (.mv (.c (.int .i64 (-1)))))]),.ret]
theorem Ca:FnR Tryz.prog po 125 1 7 [0,2,3,4,10,21,27] sZ [(.v 1)] true:=⟨_,_,Tryz.func125,rfl,rfl,by kernel_rfl,by kernel_rfl,by kernel_rfl,by kernel_rfl,by kernel_rfl⟩
def g9:List RS:=[(.ops [(.i .l (.mv (.v 5))),(.i .l (.fad 3 (.v 2))),(.i .l (.load false 1 (.l 0))),(.i .l (.len false (some 109) (.l 0))),(.i .l (.bin (.int .i64) .lss (.l 3) (.l 0))),(.i .l (.mv (.l 0))),(.g (.l 0) true .l (.mv (.v 4))),(.g (.l 1) true .l (.mv (.v 1))),(.g (.l 2) true .l (.bin (.int .i64) .leq (.l 1) (.l 0))),(.i (.v 7) (.pick (.l 3) (.l 0) (.c (.bool false))))]),(.cond (.v 7) [] [(.exit 0)]),(.block 1 [(.ops [(.i (.v 6) (.mv (.c (.int .i64 1))))]),(.ops [(.i .l (.mv (.v 1))),(.i (.v 8) (.bin (.int .i64) .gtr (.l 0) (.c (.int .i64 0))))]),(.cond (.v 8) [(.ops [(.i .l (.fad 3 (.v 2))),(.i .l (.load false 1 (.l 0))),(.i .l (.mv (.v 5))),(.i .l (.ixa (some 109) none (.l 1) (.l 0))),(.i .l (.load true 4 (.l 0))),(.i .l (.mv (.v 1))),(.i .l (.bin (.int .i64) .sub (.l 0) (.c (.int .i64 1)))),(.i .l (.call (.c (.fn 109 [] [])) [(.l 2),(.l 0)])),(.i .l (.bin (.int .i64) .add (.c (.int .i64 1)) (.l 0))),(.i (.v 6) (.mv (.l 0)))])] []),(.ops [(.i .l (.mv (.v 6))),(.i .l (.mv (.v 4))),(.i (.v 9) (.bin (.int .i64) .gtr (.l 1) (.l 0)))]),(.cond (.v 9) [(.ops [(.i .l (.mv (.v 6))),(.i (.v 4) (.mv (.l 0)))])] [])]),(.ops [(.i .l (.mv (.v 5))),(.i .l (.bin (.int .i64) .add (.l 0) (.c (.int .i64 1)))),(.i (.v 5) (.mv (.l 0)))])]
def uF:List RS:=[(.ops [(.i (.v 2) (.box 4 (.v 0))),(.i (.v 3) (.mv (.c (.int .i64 0))))]),(.ops [(.i (.v 4) (.mv (.c (.int .i64 0))))]),(.ops [(.i (.v 5) (.mv (.c (.int .i64 0))))]),(.block 0 [(.loop g9)]),(.ops [(.i .l (.mv (.v 4))),(.i (.v 3) (.mv (.l 0)))]),.ret]
theorem EZ:FnR Tryz.prog po 109 2 10 [0,1,2,4,5,6,7,17,21,33] uF [(.v 3)] true:=⟨_,_,Tryz.func109,rfl,rfl,by kernel_rfl,by kernel_rfl,by kernel_rfl,by kernel_rfl,by kernel_rfl⟩
def gM:List RS:=[(.ops [(.i .l (.mv (.v 5))),(.i .l (.fad 3 (.v 2))),(.i .l (.load false 1 (.l 0))),(.i .l (.len false (some 109) (.l 0))),(.i .l (.bin (.int .i64) .lss (.l 3) (.l 0))),(.i .l (.mv (.l 0))),(.g (.l 0) true .l (.mv (.v 4))),(.g (.l 1) true .l (.mv (.v 1))),(.g (.l 2) true .l (.bin (.int .i64) .leq (.l 1) (.l 0))),(.i (.v 6) (.pick (.l 3) (.l 0) (.c (.bool false))))]),(.cond (.v 6) [] [(.exit 0)]),(.block 1 [(.ops [(.i .l (.mv (.v 4))),(.i .l (.fad 3 (.v 2))),(.i .l (.load false 1 (.l 0))),(.i .l (.mv (.v 5))),(.i .l (.ixa (some 109) none (.l 1) (.l 0))),(.i .l (.load true 4 (.l 0))),(.i .l (.mv (.v 1))),(.i .l (.mv (.v 4))),(.i .l (.bin (.int .i64) .sub (.l 1) (.l 0))),(.i .l (.call (.c (.fn 81 [] [])) [(.l 3),(.l 0)])),(.i .l (.bin (.int .i64) .add (.l 9) (.l 0))),(.i (.v 4) (.mv (.l 0)))])]),(.ops [(.i .l (.mv (.v 5))),(.i .l (.bin (.int .i64) .add (.l 0) (.c (.int .i64 1)))),(.i (.v 5) (.mv (.l 0)))])]
def rJ:List RS:=[(.ops [(.i (.v 2) (.box 4 (.v 0))),(.i (.v 3) (.mv (.c (.int .i64 0))))]),(.ops [(.i (.v 4) (.mv (.c (.int .i64 1))))]),(.ops [(.i (.v 5) (.mv (.c (.int .i64 0))))]),(.block 0 [(.loop gM)]),(.ops [(.i .l (.mv (.v 4))),(.i (.v 3) (.mv (.l 0)))]),.ret]
theorem Bt:FnR Tryz.prog po 81 2 7 [0,1,2,4,5,6,16] rJ [(.v 3)] true:=⟨_,_,Tryz.func81,rfl,rfl,by kernel_rfl,by kernel_rfl,by kernel_rfl,by kernel_rfl,by kernel_rfl⟩
def bV:List RS:=[(.ops [(.i .l (.mv (.v 9))),(.i .l (.mv (.v 6))),(.i (.v 22) (.bin (.int .i64) .lss (.l 1) (.l 0)))]),(.cond (.v 22) [] [(.exit 1)]),(.block 2 [(.ops [(.i .l (.mv (.v 2))),(.i (.v 10) (.mv (.l 0)))]),(.ops [(.i .l (.fad 0 (.v 4))),(.i .l (.load false 1 (.l 0))),(.i .l (.bin (.int .i64) .eql (.l 0) (.c (.int .i64 5)))),(.i .l (.mv (.l 0))),(.g (.l 0) true .l (.mv (.v 9))),(.g (.l 1) true .l (.bin (.int .i64) .eql (.l 0) (.c (.int .i64 1)))),(.i (.v 23) (.pick (.l 2) (.l 0) (.c (.bool false))))]),(.cond (.v 23) [(.ops [(.i .l (.mv (.v 10))),(.i .l (.bin (.int .i64) .add (.l 0) (.c (.int .i64 1)))),(.i (.v 10) (.mv (.l 0)))])] []),(.ops [(.i .l (.load true 1 (.v 3))),(.i .l (.fad 3 (.v 4))),(.i .l (.load false 1 (.l 0))),(.i .l (.mv (.v 9))),(.i .l (.ixa (some 109) none (.l 1) (.l 0))),(.i .l (.load true 4 (.l 0))),(.i .l (.mv (.v 10))),(.i .l (.call (.c (.fn 110 [] [])) [(.l 6),(.l 1),(.l 0)])),(.i (.v 11) (.mv (.l 0)))]),(.ops [(.i .l (.mv (.v 11))),(.i (.v 24) (.bin (.int .i64) .neq (.l 0) (.c (.int .i64 0))))]),(.cond (.v 24) [(.ops [(.i .l (.mv (.v 11))),(.i (.v 5) (.mv (.l 0)))]),.ret] [])]),(.ops [(.i .l (.mv (.v 9))),(.i .l (.bin (.int .i64) .add (.l 0) (.c (.int .i64 1)))),(.i (.v 9) (.mv (.l 0)))])]
def oR:List RS:=[(.ops [(.i (.v 3) (.box 1 (.v 0))),(.i (.v 4) (.box 4 (.v 1))),(.i (.v 5) (.mv (.c (.int .i64 0))))]),(.ops [(.i .l (.fad 0 (.v 4))),(.i .l (.load false 1 (.l 0))),(.i .l (.call (.c (.fn 125 [] [])) [(.l 0)])),(.i (.v 6) (.mv (.l 0)))]),(.ops [(.i .l (.mv (.v 6))),(.i (.v 12) (.bin (.int .i64) .lss (.l 0) (.c (.int .i64 0))))]),(.cond (.v 12) [(.ops [(.i (.v 5) (.mv (.c (.int .i64 2))))]),.ret] []),(.ops [(.i .l (.fad 3 (.v 4))),(.i .l (.load false 1 (.l 0))),(.i .l (.len false (some 109) (.l 0))),(.i .l (.mv (.v 6))),(.i .l (.bin (.int .i64) .neq (.l 1) (.l 0))),(.i .l (.mv (.l 0))),(.g (.l 0) false .l (.fad 2 (.v 4))),(.g (.l 1) false .l (.load false 1 (.l 0))),(.g (.l 2) false .l (.bin (.int .i64) .neq (.l 0) (.c (.int .i64 0)))),(.g (.l 3) false .l (.mv (.l 0))),(.g (.l 0) true .l (.fad 0 (.v 4))),(.g (.l 1) true .l (.load false 1 (.l 0))),(.g (.l 2) true .l (.bin (.int .i64) .neq (.l 0) (.c (.int .i64 2)))),(.g (.l 7) false .l (.pick (.l 3) (.l 0) (.c (.bool false)))),(.i (.v 13) (.pick (.l 8) (.c (.bool true)) (.l 0)))]),(.cond (.v 13) [(.ops [(.i (.v 5) (.mv (.c (.int .i64 5))))]),.ret] []),(.ops [(.i (.v 7) (.mv (.c (.int .i64 0)))),(.i (.v 8) (.mv (.c (.int .i64 0))))]),(.ops [(.i .l (.fad 0 (.v 4))),(.i (.v 14) (.load false 1 (.l 0)))]),(.block 0 [(.ops [(.i .l (.bin (.int .i64) .eql (.v 14) (.c (.int .i64 4)))),(.i (.v 16) (.mv (.l 0)))]),(.cond (.v 16) [(.ops [(.i .l (.mv (.v 2))),(.i .l (.bin (.int .i64) .sub (.l 0) (.c (.int .i64 1)))),(.i (.v 8) (.mv (.l 0)))])] [(.ops [(.i .l (.bin (.int .i64) .eql (.v 14) (.c (.int .i64 6)))),(.i (.v 17) (.mv (.l 0)))]),(.cond (.v 17) [(.ops [(.i (.v 7) (.mv (.c (.int .i64 1)))),(.i (.v 8) (.mv (.c (.int .i64 5))))])] [(.ops [(.i .l (.bin (.int .i64) .eql (.v 14) (.c (.int .i64 15)))),(.i (.v 18) (.mv (.l 0)))]),(.cond (.v 18) [(.ops [(.i (.v 8) (.mv (.c (.int .i64 15))))])] [(.ops [(.i .l (.bin (.int .i64) .eql (.v 14) (.c (.int .i64 18)))),(.i (.v 19) (.mv (.l 0)))]),(.cond (.v 19) [(.ops [(.i .l (.fad 0 (.v 3))),(.i .l (.load false 1 (.l 0))),(.i .l (.len false (some 109) (.l 0))),(.i .l (.bin (.int .i64) .sub (.l 0) (.c (.int .i64 1)))),(.i (.v 8) (.mv (.l 0)))])] [(.ops [(.i .l (.fad 1 (.v 4))),(.i .l (.load false 1 (.l 0))),(.i (.v 15) (.bin (.int .i64) .neq (.l 0) (.c (.int .i64 0))))]),(.cond (.v 15) [(.ops [(.i (.v 5) (.mv (.c (.int .i64 5))))]),.ret] [])])])])])]),(.ops [(.i .l (.fad 1 (.v 4))),(.i .l (.load false 1 (.l 0))),(.i .l (.mv (.v 7))),(.i .l (.bin (.int .i64) .lss (.l 1) (.l 0))),(.i .l (.mv (.l 0))),(.g (.l 0) false .l (.fad 1 (.v 4))),(.g (.l 1) false .l (.load false 1 (.l 0))),(.g (.l 2) false .l (.mv (.v 8))),(.g (.l 3) false .l (.bin (.int .i64) .gtr (.l 1) (.l 0))),(.i (.v 20) (.pick (.l 4) (.c (.bool true)) (.l 0)))]),(.cond (.v 20) [(.ops [(.i (.v 5) (.mv (.c (.int .i64 1))))]),.ret] []),(.ops [(.i .l (.fad 0 (.v 4))),(.i .l (.load false 1 (.l 0))),(.i .l (.bin (.int .i64) .eql (.l 0) (.c (.int .i64 5)))),(.i .l (.mv (.l 0))),(.g (.l 0) true .l (.mv (.v 2))),(.g (.l 1) true .l (.bin (.int .i64) .eql (.l 0) (.c (.int .i64 12)))),(.i (.v 21) (.pick (.l 2) (.l 0) (.c (.bool false))))]),(.cond (.v 21) [(.ops [(.i (.v 5) (.mv (.c (.int .i64 3))))]),.ret] []),(.ops [(.i (.v 9) (.mv (.c (.int .i64 0))))]),(.block 1 [(.loop bV)]),(.ops [(.i (.v 5) (.mv (.c (.int .i64 0))))]),.ret]
theorem xc:FnR Tryz.prog po 110 3 25 [0,1,2,3,4,6,7,8,9,10,11,12,17,32,34,37,38,42,44,46,61,68,71,81,93] oR [(.v 5)] true:=⟨_,_,Tryz.func110,rfl,rfl,by kernel_rfl,by kernel_rfl,by kernel_rfl,by kernel_rfl,by kernel_rfl⟩
def fu:List RS:=[(.ops [(.i .l (.mv (.v 3))),(.i .l (.fad 0 (.v 1))),(.i .l (.load false 1 (.l 0))),(.i .l (.len false (some 109) (.l 0))),(.i (.v 7) (.bin (.int .i64) .lss (.l 3) (.l 0)))]),(.cond (.v 7) [] [(.exit 0)]),(.block 1 [(.ops [(.i .l (.fad 0 (.v 1))),(.i .l (.load false 1 (.l 0))),(.i .l (.mv (.v 3))),(.i .l (.ixa (some 109) none (.l 1) (.l 0))),(.i .l (.load true 4 (.l 0))),(.i (.v 4) (.alloc [(.int .i64 0),(.int .i64 0),(.int .i64 0),.nils])),(.i .n (.store 4 (.v 4) (.l 0)))]),(.ops [(.i .l (.load true 4 (.v 4))),(.i .l (.call (.c (.fn 109 [] [])) [(.l 0),(.c (.int .i64 30))])),(.i (.v 8) (.bin (.int .i64) .gtr (.l 0) (.c (.int .i64 30))))]),(.cond (.v 8) [(.ops [(.i .l (.mv (.v 3))),(.i .l (.call (.c (.fn 108 [] [])) [(.c (.int .i64 4)),(.l 0)])),(.i .n (.store 2 (.v 2) (.l 0)))]),.ret] []),(.ops [(.i .l (.load true 4 (.v 4))),(.i .l (.call (.c (.fn 81 [] [])) [(.l 0),(.c (.int .i64 120))])),(.i (.v 9) (.bin (.int .i64) .gtr (.l 0) (.c (.int .i64 120))))]),(.cond (.v 9) [(.ops [(.i .l (.mv (.v 3))),(.i .l (.call (.c (.fn 108 [] [])) [(.c (.int .i64 3)),(.l 0)])),(.i .n (.store 2 (.v 2) (.l 0)))]),.ret] []),(.ops [(.i .l (.load true 1 (.v 1))),(.i .l (.load true 4 (.v 4))),(.i .l (.call (.c (.fn 110 [] [])) [(.l 1),(.l 0),(.c (.int .i64 0))])),(.i (.v 5) (.mv (.l 0)))]),(.ops [(.i .l (.mv (.v 5))),(.i (.v 10) (.bin (.int .i64) .neq (.l 0) (.c (.int .i64 0))))]),(.cond (.v 10) [(.ops [(.i .l (.mv (.v 5))),(.i .l (.mv (.v 3))),(.i .l (.call (.c (.fn 108 [] [])) [(.l 1),(.l 0)])),(.i .n (.store 2 (.v 2) (.l 0)))]),.ret] [])]),(.ops [(.i .l (.mv (.v 3))),(.i .l (.bin (.int .i64) .add (.l 0) (.c (.int .i64 1)))),(.i (.v 3) (.mv (.l 0)))])]
def nX:List RS:=[(.ops [(.i (.v 1) (.box 1 (.v 0))),(.i (.v 2) (.alloc [(.int .i64 0),(.int .i64 0)]))]),(.ops [(.i .l (.fad 0 (.v 1))),(.i .l (.load false 1 (.l 0))),(.i .l (.len false (some 109) (.l 0))),(.i .l (.bin (.int .i64) .lss (.l 0) (.c (.int .i64 1)))),(.i .l (.mv (.l 0))),(.g (.l 0) false .l (.fad 0 (.v 1))),(.g (.l 1) false .l (.load false 1 (.l 0))),(.g (.l 2) false .l (.len false (some 109) (.l 0))),(.g (.l 3) false .l (.bin (.int .i64) .gtr (.l 0) (.c (.int .i64 6)))),(.i (.v 6) (.pick (.l 4) (.c (.bool true)) (.l 0)))]),(.cond (.v 6) [(.ops [(.i .l (.call (.c (.fn 108 [] [])) [(.c (.int .i64 3)),(.c (.int .i64 (-1)))])),(.i .n (.store 2 (.v 2) (.l 0)))]),.ret] []),(.ops [(.i (.v 3) (.mv (.c (.int .i64 0))))]),(.block 0 [(.loop fu)]),(.ops [(.i .l (.build [(.int .i64 0),(.int .i64 0)] [(0,1),(1,1)] [])),(.i .n (.store 2 (.v 2) (.l 0)))]),.ret]
theorem xa:FnR Tryz.prog po 82 1 11 [0,1,2,3,4,5,15,21,31,36,43] nX [(.cell true 2 2)] true:=⟨_,_,Tryz.func82,rfl,rfl,by kernel_rfl,by kernel_rfl,by kernel_rfl,by kernel_rfl,by kernel_rfl⟩
def ej:List RS:=[(.ops [(.i .l (.mv (.v 3))),(.i .l (.fad 0 (.v 1))),(.i .l (.load false 1 (.l 0))),(.i .l (.len false (some 109) (.l 0))),(.i (.v 5) (.bin (.int .i64) .lss (.l 3) (.l 0)))]),(.cond (.v 5) [] [(.exit 0)]),(.block 1 [(.ops [(.i .l (.fad 0 (.v 1))),(.i .l (.load false 1 (.l 0))),(.i .l (.mv (.v 3))),(.i .l (.ixa (some 109) none (.l 1) (.l 0))),(.i .l (.load true 4 (.l 0))),(.i .l (.call (.c (.fn 81 [] [])) [(.l 0),(.c (.int .i64 600))])),(.i (.v 6) (.bin (.int .i64) .gtr (.l 0) (.c (.int .i64 600))))]),(.cond (.v 6) [(.ops [(.i (.v 2) (.mv (.c (.bool true))))]),.ret] [])]),(.ops [(.i .l (.mv (.v 3))),(.i .l (.bin (.int .i64) .add (.l 0) (.c (.int .i64 1)))),(.i (.v 3) (.mv (.l 0)))])]
def lS:List RS:=[(.ops [(.i (.v 1) (.box 1 (.v 0))),(.i (.v 2) (.mv (.c (.bool false))))]),(.ops [(.i .l (.fad 0 (.v 1))),(.i .l (.load false 1 (.l 0))),(.i .l (.len false (some 109) (.l 0))),(.i (.v 4) (.bin (.int .i64) .gtr (.l 0) (.c (.int .i64 20))))]),(.cond (.v 4) [(.ops [(.i (.v 2) (.mv (.c (.bool true))))]),.ret] []),(.ops [(.i (.v 3) (.mv (.c (.int .i64 0))))]),(.block 0 [(.loop ej)]),(.ops [(.i (.v 2) (.mv (.c (.bool false))))]),.ret]
theorem sE:FnR Tryz.prog po 43 1 7 [0,1,2,3,7,12,21] lS [(.v 2)] true:=⟨_,_,Tryz.func43,rfl,rfl,by kernel_rfl,by kernel_rfl,by kernel_rfl,by kernel_rfl,by kernel_rfl⟩
theorem ExL.len:∀ {l:List XD} {es:List (List AV)},ExL l es→es.length=l.length
 | [],es,h=>by
   simp only[ExL]at h
   subst h
   rfl
 | x::l,es,h=>by
   simp only[ExL]at h
   obtain⟨r,rs,rfl,_,h2⟩:=h
   simp[ExL.len h2]
theorem ExL.get:∀ {l:List XD} {es:List (List AV)} {i:Nat} {x:XD},ExL l es→l[i]? =some x→∃ r,es[i]? =some r∧ExA x r
 | [],es,i,x,h,hx=>by simp at hx
 | y::l,es,i,x,h,hx=>by
   simp only[ExL]at h
   obtain⟨r,rs,rfl,h1,h2⟩:=h
   cases i with
   | zero=>
     obtain rfl:y=x:=by simpa using hx
     exact⟨r,rfl,h1⟩
   | succ i=>simpa using ExL.get h2 (by simpa using hx)
theorem ExA.row {x:XD} {r:List AV} (h:ExA x r):∃ v es,r=[.int .i64 x.op,.int .i64 x.k,.int .i64 x.n,v]∧SlA tE v es∧ExL x.l es:=by
 cases x with
 | mk op k n l=>simp only[ExA]at h;exact h
theorem ExA.one {x:XD} {r:List AV} (h:ExA x r):r.all AV.one=true∧r.length=4:=by
 obtain⟨v,es,rfl,hv,_⟩:=h.row
 rcases hv with⟨_,rfl⟩ | ⟨id,rfl⟩<;>exact⟨rfl,rfl⟩
theorem ExA.facts {x:XD} {r:List AV} (h:ExA x r):∃ v es,r=[.int .i64 x.op,.int .i64 x.k,.int .i64 x.n,v]∧IsL tE v es∧v.one=true∧es.length=x.l.length∧
  ∀ (i:Nat) (y:XD),x.l[i]? =some y→∃ q,bX (some tE) none v (.int .i64 (i:Int))=some (.ip q 0)∧ldA true 4 q 0=some (.agg q)∧ExA y q:=by
 obtain⟨v,es,rfl,hv,hl⟩:=h.row
 refine⟨v,es,rfl,hv.isL,?_,hl.len,fun i y hy=> ?_⟩
 ·rcases hv with⟨_,rfl⟩ | ⟨id,rfl⟩<;>rfl
 ·obtain⟨q,h1,h2⟩:=hl.get hy
  exact⟨q,hv.isL.ix .i64 i q h1,bq h2.one.2,h2⟩
theorem M1:nT Tryz.prog tE=some [3,3,2,78]:=by kernel_rfl
theorem Oa:(Tryz.prog).underlying 3=some (.int .i64):=by kernel_rfl
theorem Nq:(Tryz.prog).underlying 2=some (.int .i64):=by kernel_rfl
theorem GJ:(Tryz.prog).underlying 78=some (.slice tE):=by kernel_rfl
theorem N7:∀ (n:Nat) (r:List AV),TyA Tryz.prog n tE r→∃ x,ExA x r:=by
 intro n
 induction n using Nat.strongRecOn with
 | ind n ih=>
   intro r h
   obtain⟨m,rfl,parts,rfl,hl,hf⟩:=pd M1 h
   obtain⟨p0,a0,_,b0⟩:=hf 0 _ rfl
   obtain⟨p1,a1,_,b1⟩:=hf 1 _ rfl
   obtain⟨p2,a2,_,b2⟩:=hf 2 _ rfl
   obtain⟨p3,a3,_,b3⟩:=hf 3 _ rfl
   obtain⟨op,rfl,_⟩:=iS Oa b0
   obtain⟨k,rfl,_⟩:=iS Oa b1
   obtain⟨z,rfl,_⟩:=iS Nq b2
   obtain⟨m',v,es,rfl,rfl,hv,_,hr⟩:=BU GJ b3
   obtain⟨c0,c1,c2,c3,rfl⟩:=OA hl
   simp only[List.getElem?_cons_zero,List.getElem?_cons_succ,Option.some.injEq]at a0 a1 a2 a3
   subst a0 a1 a2 a3
   have key:∀ es:List (List AV),(∀ r∈es,∃ x,ExA x r)→∃ l,ExL l es:=by
    intro es
    induction es with
    | nil=>intro _;exact⟨[],rfl⟩
    | cons r es ih2=>
      intro hh
      obtain⟨x,hx⟩:=hh r (by simp)
      obtain⟨l,hl⟩:=ih2 fun q hq=>hh q (by simp[hq])
      exact⟨x::l,by simp only[ExL];exact⟨r,es,rfl,hx,hl⟩⟩
   obtain⟨l,hl⟩:=key es fun r hr'=>ih m' (by omega) r (hr r hr').2
   exact⟨.mk op k z l,by simp only[ExA];exact⟨v,es,rfl,hv.sla,hl⟩⟩
def Pm (l:List XD) (r:List AV):Prop:=∃ v es,r=[v]∧SlA tE v es∧ExL l es
theorem O7:nT Tryz.prog 80=some [78]:=by kernel_rfl
theorem N5 {n:Nat} {r:List AV} (h:TyA Tryz.prog n 80 r):∃ l,Pm l r:=by
 obtain⟨m,rfl,parts,rfl,hl,hf⟩:=pd O7 h
 obtain⟨p0,a0,_,b0⟩:=hf 0 _ rfl
 obtain⟨m',v,es,rfl,rfl,hv,_,hr⟩:=BU GJ b0
 obtain⟨c0,rfl⟩:=O2 hl
 simp only[List.getElem?_cons_zero,Option.some.injEq]at a0
 subst a0
 have key:∀ es:List (List AV),(∀ r∈es,∃ x,ExA x r)→∃ l,ExL l es:=by
  intro es
  induction es with
  | nil=>intro _;exact⟨[],rfl⟩
  | cons r es ih2=>
    intro hh
    obtain⟨x,hx⟩:=hh r (by simp)
    obtain⟨l,hl⟩:=ih2 fun q hq=>hh q (by simp[hq])
    exact⟨x::l,by simp only[ExL];exact⟨r,es,rfl,hx,hl⟩⟩
 obtain⟨l,hl⟩:=key es fun r hr'=>N7 m' r (hr r hr').2
 exact⟨l,v,es,rfl,hv.sla,hl⟩
end Go.Proofs.YtkdbjfncchmmpaaGreat
