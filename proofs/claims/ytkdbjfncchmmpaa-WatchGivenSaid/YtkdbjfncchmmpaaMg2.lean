/- Each operation that is no call does in memory what it does in the plain model: structs compared, slices cut, rows built. Rows are built: struct literals, slice literals, make, append. append does in memory what it does in the plain model. append does in memory what it does in the plain model: whole. Every operation that is no call does in memory what it does in the plain model. -/
import Derived.Test.YtkdbjfncchmmpaaMg1
import Derived.Lib.AppendStr
import Derived.Great.BuildSlice
import Derived.Laws.MakeOwn
import Derived.Laws.OwnMore
import Derived.Maps.AppendAt
namespace Go.Proofs.Ytkdbjfncchmmpaa
open Nat (reduceAdd reduceSub reduceLeDiff reduceLT)
open List (replicate)
set_option linter.unusedSimpArgs false
set_option linter.unusedVariables false
open Go Go.RowKit
section
variable {P:Program} {m m':Mm} {h h':AH} {w w':World} {t:List AV} {a:Act} {o:Oper}
theorem H5 {ty:TypeId} {k:IntKind} (hk:bK P ty= .int k):P.underlying ty=some (.int k):=by
 unfold bK at hk
 split at hk<;>simp at hk
 rename_i h1
 rw[h1,hk]
theorem EW {ty:TypeId} (hk:bK P ty= .bool):P.underlying ty=some .bool:=by
 unfold bK at hk
 split at hk<;>simp at hk
 assumption
theorem GG {ty:TypeId} (hk:bK P ty= .str):P.underlying ty=some .string:=by
 unfold bK at hk
 split at hk<;>simp at hk
 assumption
theorem rR (ty:TypeId) {d:TypeDesc} (hd:P.underlying ty=some d) (hag:f9 P ty=false) (cs:List Value) (off:Nat) {u:Value} (hu:cs[off]? =some u):(part ty cs.toArray off).run P w= .ok u w:=by
 unfold part
 simp only[Sem.run_bind,rO ty hd,Result.andThen_ok,hag]
 simp[hu]
theorem oO:∀ (fs:List Field) (i d:Nat) (X Y:List AV) (X' Y':List Value) (r:Bool),VRs P m h X X'→VRs P m h Y Y'→
  (fs.zipIdx i).all (fun(f,i)=>f.name != "_" && f.offset==i && P.cellsOf f.type==1)=true→fC (fs.map fun f=>bK P f.type) (X.drop i) (Y.drop i)=some r→
  (Op.eqFields (d+1) X'.toArray Y'.toArray fs).run P w= .ok r w
 | [],i,d,X,Y,X',Y',r,hX,hY,hf,he=>by
   simp only[List.map_nil]at he
   unfold fC at he
   split at he<;>simp_all [Op.eqFields]
 | f::fs,i,d,X,Y,X',Y',r,hX,hY,hf,he=>by
   simp only[List.zipIdx_cons,List.all_cons,Bool.and_eq_true,bne_iff_ne,beq_iff_eq]at hf
   obtain⟨⟨⟨hn,hoff⟩,_⟩,hrest⟩:=hf
   simp only[List.map_cons]at he
   have step:∀ (x y:AV) (xs ys:List AV) (b r':Bool),X.drop i=x::xs→Y.drop i=y::ys→fC (fs.map fun f=>bK P f.type) xs ys=some r'→r=(b && r')→f9 P f.type=false→(∃ dd,P.underlying f.type=some dd)→
     (∀ u v,VR P m h x u→VR P m h y v→(Op.equalIn (d+1) f.type u v).run P w= .ok b w)→(Op.eqFields (d+1) X'.toArray Y'.toArray (f::fs)).run P w= .ok r w:=by
    intro x y xs ys b r' ex ey er hr hag ⟨dd,hdd⟩ heq
    have hx:X[i]? =some x:=by
     have:=congrArg (·[0]?) ex
     simpa using this
    have hy:Y[i]? =some y:=by
     have:=congrArg (·[0]?) ey
     simpa using this
    obtain⟨u,hu1,hu2⟩:=hX.get? hx
    obtain⟨v,hv1,hv2⟩:=hY.get? hy
    have exs:X.drop (i+1)=xs:=by
     have:=congrArg (List.drop 1) ex
     simpa using this
    have eys:Y.drop (i+1)=ys:=by
     have:=congrArg (List.drop 1) ey
     simpa using this
    have ih:=oO fs (i+1) d X Y X' Y' r' hX hY hrest (by rw[exs,eys];exact er)
    have p1:=rR (w:=w) f.type hdd hag X' i hu1
    have p2:=rR (w:=w) f.type hdd hag Y' i hv1
    simp only[Op.eqFields,hn,ne_eq,not_false_eq_true,if_true,hoff,Sem.run_bind,p1,p2,Result.andThen_ok,heq u v hu2 hv2]
    cases b
    ·simp[hr]
    ·simp[hr,ih]
   generalize hXd:X.drop i=Xd at he step
   generalize hYd:Y.drop i=Yd at he step
   unfold fC at he
   split at he
   ·rename_i hq
    simp at hq
   ·rename_i _ _ _ k0 ks k a' xs k' b' ys e1
    injection e1 with e1 e2
    split at he
    ·rename_i hkk
     subst hkk
     obtain⟨r',h1,h2⟩:=Option.map_eq_some_iff.1 he
     have hun:=H5 e1
     refine step _ _ _ _ (a'==b') r' rfl rfl (by rw[e2];exact h1) h2.symm (by simp[f9,hun]) ⟨_,hun⟩ (fun u v hu hv=> ?_)
     cases hu
     cases hv
     simp[Op.equalIn,run_underlying hun]
    ·cases he
   ·rename_i _ _ _ ks a' xs b' ys e1
    injection e1 with e1 e2
    obtain⟨r',h1,h2⟩:=Option.map_eq_some_iff.1 he
    have hun:=EW e1
    refine step _ _ _ _ (a'==b') r' rfl rfl (by rw[e2];exact h1) h2.symm (by simp[f9,hun]) ⟨_,hun⟩ (fun u v hu hv=> ?_)
    cases hu
    cases hv
    simp[Op.equalIn,run_underlying hun]
   ·rename_i _ _ _ ks a' xs b' ys e1
    injection e1 with e1 e2
    obtain⟨r',h1,h2⟩:=Option.map_eq_some_iff.1 he
    have hun:=GG e1
    refine step _ _ _ _ (a'==b') r' rfl rfl (by rw[e2];exact h1) h2.symm (by simp[f9,hun]) ⟨_,hun⟩ (fun u v hu hv=> ?_)
    cases hu
    cases hv
    simp[run_equalIn_string,hun]
   ·cases he
theorem zO (hw:WR P m h w) (ht:TR P m h t a.tmps) (op:BinOp) (ty yt:TypeId) (x y:Operand) (ho:o.op= .binOp op ty x y yt) {xs ys:List AV} {ks:List Kd} {b:Bool} {v:AV} (hx:evA t x= .agg xs) (hy:evA t y= .agg ys) (hk:mV P ty=some ks)
  (hb:fC ks xs ys=some b) (hop:(op= .eql∧v= .bool b)∨(op= .neq∧v= .bool !b)):OpR P m h a w o v h:=by
 have h1:=aD ht x
 have h2:=aD ht y
 rw[hx]at h1
 rw[hy]at h2
 obtain⟨u1,hu1⟩:∃ u,a.eval x=u:=⟨_,rfl⟩
 obtain⟨u2,hu2⟩:∃ u,a.eval y=u:=⟨_,rfl⟩
 rw[hu1]at h1
 rw[hu2]at h2
 cases h1 with
 | agg _ l1 a1 a2=>
 cases h2 with
 | agg _ l2 b1 b2=>
 unfold mV at hk
 split at hk
 ·rename_i fs hfs
  split at hk
  ·rename_i hc
   injection hk with hk
   subst hk
   simp only[Bool.and_eq_true,Bool.not_eq_true']at hc
   obtain⟨⟨c1,c2⟩,c3⟩:=hc
   have hfo:P.fieldsOf ty=fs:=by simp[Program.fieldsOf,hfs]
   have hun:P.underlying ty=some (.struct (P.fieldsOf ty)):=by rw[hfo];exact hfs
   have hE:(Op.equalIn 10000 ty (.agg l1.toArray) (.agg l2.toArray)).run P w= .ok b w:=by
    rw[show(10000:Nat)=9999+1 from rfl,run_equalIn_agg w 9999 ty _ _ hun c1,hfo]
    exact oO fs.toList 0 9998 xs ys l1 l2 b ⟨a1,a2⟩ ⟨b1,b2⟩ c3 hb
   rcases hop with⟨rfl,rfl⟩ | ⟨rfl,rfl⟩
   ·refine OpR.pure hw (u:= .bool b) ?_ (.bool _)
    simp only[execOp,ho,hu1,hu2,Sem.run_bind,run_eqGuard_agg w _ _ _ _ _ _ c2,Result.andThen_ok,run_eql_struct,hE,Sem.run_pure]
   ·refine OpR.pure hw (u:= .bool !b) ?_ (.bool _)
    simp only[execOp,ho,hu1,hu2,Sem.run_bind,run_eqGuard_agg w _ _ _ _ _ _ c2,Result.andThen_ok,run_neq_struct,hE,Sem.run_pure]
  ·cases hk
 ·cases hk
theorem wd (x:Value) (k:IntKind) (i:Int) (y:Nat) (c:BoundsCode) (hx:x= .int k i) (h0:0≤i) (h1:i≤y):(Instr.sliceBound x y c).run P w= .ok i.toNat w:=by
 subst hx
 simp[Instr.sliceBound,asIntOf,h0,h1]
theorem i9 (isS:Bool) (n cap:Nat) (lo hi:Option Operand) (ht:TR P m h t a.tmps) {l r:Int} (hl:loA (lo.map (evA t))=some l) (hr:hiA n (hi.map (evA t))=some r) (h0:0≤l) (h1:l≤r) (h2:r≤n) (h3:n≤cap):
  (Instr.sliceBounds isS n cap (lo.map a.eval) (hi.map a.eval) none).run P w= .ok (l.toNat,r.toNat,cap) w:=by
 have hhi:∀ x,hi=some x→∀ (y:Nat) c,r≤(y:Int)→(Instr.sliceBound (a.eval x) y c).run P w= .ok r.toNat w:=by
  intro x hx0 y c hy
  subst hx0
  have hx:=aD ht x
  simp only[Option.map_some]at hr
  generalize evA t x=ex at hr hx
  generalize a.eval x=ax at hx
  cases hx<;>simp[hiA]at hr
  subst hr
  exact wd _ _ _ _ _ rfl (by omega) (by omega)
 have hlo:∀ x,lo=some x→∀ (y:Nat) c,l≤(y:Int)→(Instr.sliceBound (a.eval x) y c).run P w= .ok l.toNat w:=by
  intro x hx0 y c hy
  subst hx0
  have hx:=aD ht x
  simp only[Option.map_some]at hl
  generalize evA t x=ex at hl hx
  generalize a.eval x=ax at hx
  cases hx<;>simp[loA]at hl
  subst hl
  exact wd _ _ _ _ _ rfl (by omega) (by omega)
 cases hi with
 | none=>
   have hr':r.toNat=n:=by
    simp[hiA]at hr
    omega
   cases lo with
   | none=>
     have hl':l.toNat=0:=by
      simp[loA]at hl
      omega
     simp[Instr.sliceBounds,hr',hl']
   | some x=>simp[Instr.sliceBounds,hr',hlo x rfl n _ (by omega)]
 | some y=>
   cases lo with
   | none=>
     have hl':l.toNat=0:=by
      simp[loA]at hl
      omega
     simp[Instr.sliceBounds,hl',hhi y rfl cap _ (by omega)]
   | some x=>simp[Instr.sliceBounds,hhi y rfl cap _ (by omega),hlo x rfl r.toNat _ (by omega)]
theorem GW {ty:TypeId} (h1:eH P ty=true):P.underlying ty=some .string:=by
 unfold eH at h1
 split at h1
 ·assumption
 ·cases h1
theorem IQ {ty:TypeId} (h1:xP P ty=true):∃ e,dL P ty=some e:=by
 unfold xP at h1
 exact Option.isSome_iff_exists.1 h1
theorem HN (hT:mM P) (hw:WR P m h w) (ht:TR P m h t a.tmps) (ty:TypeId) (x:Operand) (lo hi:Option Operand) (ho:o.op= .slice ty x lo hi none) (hf:oF P ty (evA t x)=true) {v:AV} (hv:eN (evA t x) (lo.map (evA t)) (hi.map (evA t))=some v):
  OpR P m h a w o v h:=by
 have hc:=aD ht x
 have key:∃ l n r,loA (lo.map (evA t))=some l∧dR (evA t x)=some n∧hiA n (hi.map (evA t))=some r∧(0≤l∧l≤r∧r≤n)∧py (evA t x) l r=some v:=by
  unfold eN at hv
  obtain⟨l,hl,hv1⟩:=Option.bind_eq_some_iff.1 hv
  obtain⟨n,hn,hv2⟩:=Option.bind_eq_some_iff.1 hv1
  obtain⟨r,hr,hv3⟩:=Option.bind_eq_some_iff.1 hv2
  split at hv3
  ·rename_i hcond
   exact⟨l,n,r,hl,hn,hr,hcond,hv3⟩
  ·cases hv3
 clear hv
 obtain⟨l,n,r,hl,hn,hr,⟨h0,h1,h2⟩,hv⟩:=key
 ·revert hf hc hn hv
  obtain⟨u,hu⟩:∃ u,a.eval x=u:=⟨_,rfl⟩
  rw[hu]
  generalize evA t x=ex
  intro hf hc hn hv
  have pre:∀ {d:TypeDesc},P.underlying ty=some d→(∀ k e,d≠.array k e)→(execOp a.eval o).run P w=((Instr.slice ty u (lo.map a.eval) (hi.map a.eval) none).run P w).andThen fun v w'=> .ok (.value v) w':=by
   intro d hd hne
   simp only[execOp,ho,hu,Instr.sliceAt,Sem.run_bind,run_underlying hd,Result.andThen_ok,Option.map_none]
   cases d<;>first | rfl | exact absurd rfl (hne _ _)
  cases hc with
  | str s=>
    simp only[dR,Option.some.injEq]at hn
    simp only[py,Option.some.injEq]at hv
    subst hn
    subst hv
    ·have hd:=GW (P:=P) (ty:=ty) hf
     refine OpR.pure hw (u:= .string ⟨((s.drop l.toNat).take (r.toNat - l.toNat)).toArray⟩) ?_ (.str _)
     rw[pre hd (by simp)]
     simp only[Instr.slice,Sem.run_bind,run_underlying hd,Result.andThen_ok,Option.isSome_none,Bool.false_eq_true,if_false,qQ,Sem.run_pure]
     rw[i9 false s.length s.length lo hi ht hl hr h0 h1 h2 (Nat.le_refl _)]
     simp only[Result.andThen_ok]
     congr 3
     apply ByteArray.ext
     simp[ByteArray.data_extract]
  | nils=>
    simp only[dR,Option.some.injEq]at hn
    simp only[py,Option.some.injEq]at hv
    subst hn
    subst hv
    ·obtain⟨e,hf'⟩:=IQ (P:=P) (ty:=ty) hf
     have hd:=dP hf'
     have hpos:=gz hT hf'
     obtain⟨i0,hi0,hi1⟩:=cH (P:=P) (q:=e) (by unfold szA;omega)
     have hl0:l=0:=by omega
     have hr0:r=0:=by omega
     refine OpR.pure hw (u:= .slice none 0 0) ?_ .nils
     rw[pre hd (by simp)]
     simp only[Instr.slice,Sem.run_bind,run_underlying hd,Result.andThen_ok]
     rw[i9 true 0 0 lo hi ht hl hr h0 h1 h2 (Nat.le_refl _)]
     simp[hl0,hr0,sizeOf,typeInfo,hi0]
  | isl0 e a' cap=>
    simp only[dR,Option.some.injEq,List.length_nil]at hn
    simp only[py,Option.some.injEq,List.drop_nil,List.take_nil]at hv
    subst hn
    subst hv
    simp only[oF,beq_iff_eq]at hf
    have hd:=dP hf
    have hpos:=gz hT hf
    obtain⟨i0,hi0,hi1⟩:=cH (P:=P) (q:=e) (by unfold szA;omega)
    have hl0:l=0:=by omega
    have hr0:r=0:=by omega
    refine OpR.pure hw (u:= .slice (some a') 0 cap) ?_ (.isl0 e a' cap)
    rw[pre hd (by simp)]
    simp only[Instr.slice,Sem.run_bind,run_underlying hd,Result.andThen_ok]
    rw[i9 true 0 cap lo hi ht hl hr h0 h1 h2 (Nat.zero_le _)]
    simp[hl0,hr0,sizeOf,typeInfo,hi0,Addr.add]
  | isl id e es g o' cap F hle hi' hvv hcap htt=>
    simp only[dR,Option.some.injEq]at hn
    simp only[py,Option.some.injEq]at hv
    subst hn
    subst hv
    simp only[oF,beq_iff_eq]at hf
    have hd:=dP hf
    have hpos:=gz hT hf
    obtain⟨i0,hi0,hi1⟩:=cH (P:=P) (q:=e) (by unfold szA;omega)
    have hi2:i0.size=P.cellsOf e:=hi1
    have hlen:((es.drop l.toNat).take (r.toNat - l.toNat)).length=r.toNat - l.toNat:=by simp;omega
    have hrun:(execOp a.eval o).run P w= .ok (.value (.slice (some (if cap=l.toNat then⟨g,o',none⟩else⟨g,o'+l.toNat*P.cellsOf e,none⟩)) (r.toNat - l.toNat) (cap - l.toNat))) w:=by
     rw[pre hd (by simp)]
     simp only[Instr.slice,Sem.run_bind,run_underlying hd,Result.andThen_ok]
     rw[i9 true es.length cap lo hi ht hl hr h0 h1 h2 hcap]
     simp only[Result.andThen_ok,sizeOf,typeInfo,Sem.run_bind,run_program,hi0,Sem.run_pure,hi2]
     by_cases hcl:cap=l.toNat
     ·simp[hcl]
     ·simp[hcl,Addr.add_lit]
    obtain⟨o2,ho2⟩:∃ o2,(if cap=l.toNat then(⟨g,o',none⟩:Addr)else⟨g,o'+l.toNat*P.cellsOf e,none⟩)=⟨g,o2,none⟩∧(cap≠l.toNat→o2=o'+l.toNat*P.cellsOf e):=by
     by_cases hcl:cap=l.toNat
     ·exact⟨o',by simp[hcl],fun hne=>absurd hcl hne⟩
     ·exact⟨_,by simp[hcl],fun _=>rfl⟩
    obtain⟨ho2,ho3⟩:=ho2
    rw[ho2]at hrun
    refine OpR.pure hw hrun ?_
    have hres:=VR.isl (P:=P) (m:=m) (h:=h) none e ((es.drop l.toNat).take (r.toNat - l.toNat)) g o2 (cap - l.toNat) (fun i j=>F (l.toNat+i) j) (fun q hq=>hle q (List.mem_of_mem_drop (List.mem_of_mem_take hq))) (by
     intro i hi3 j hj
     rw[hlen]at hi3
     rw[ho3 (by omega)]
     have:=hi' (l.toNat+i) (by omega) j hj
     rw[Nat.add_mul]at this
     rw[←this]
     congr 1
     omega) (by
     intro i hi3 j hj
     simp only[List.getElem_take,List.getElem_drop]at hj ⊢
     exact hvv _ _ j hj) (by rw[hlen];omega) (fun k hk=>by cases hk)
    rw[hlen]at hres
    exact hres
  | msl b o' n' e cap hb he' hcap hnn hmx=>
    simp only[dR,Option.some.injEq]at hn
    simp only[py]at hv
    subst hn
    split at hv
    ·rename_i hl0
     injection hv with hv
     subst hv
     subst hl0
     simp only[oF,beq_iff_eq]at hf
     have hd:=dP hf
     have hpos:=gz hT hf
     obtain⟨i0,hi0,hi1⟩:=cH (P:=P) (q:=e) (by unfold szA;omega)
     refine OpR.pure hw (u:= .slice (some ⟨m.blk b,o'*P.cellsOf e,none⟩) r.toNat cap) ?_ (.msl b o' r.toNat e cap hb he' hcap (by omega) hmx)
     rw[pre hd (by simp)]
     simp only[Instr.slice,Sem.run_bind,run_underlying hd,Result.andThen_ok]
     rw[i9 true n' cap lo hi ht hl hr h0 h1 h2 hnn]
     simp only[Result.andThen_ok,sizeOf,typeInfo,Sem.run_bind,run_program,hi0,Sem.run_pure]
     by_cases hcl:cap=0
     ·simp[hcl]
     ·simp[Addr.add_lit]
    ·cases hv
  | _=>simp[py]at hv
end
open Go Go.RowKit
section
variable {P:Program} {m m':Mm} {h h':AH} {w w':World} {t:List AV} {a:Act} {o:Oper}
theorem yL (off:Nat) (v:Value) (cells:Array Value):(v.cells.zipIdx.foldl (fun cs (x:Value×Nat)=>cs.setIfInBounds (off+x.2) x.1) cells).size=cells.size∧
  ∀ k,(v.cells.zipIdx.foldl (fun cs (x:Value×Nat)=>cs.setIfInBounds (off+x.2) x.1) cells)[k]? =if off≤k∧k<off+v.cells.size∧k<cells.size then v.cells[k - off]? else cells[k]? :=by
 have:=Go.Great.foldl_set off v.cells.toList 0 cells
 rw[←Array.foldl_toList,Array.toList_zipIdx]
 simpa using this
theorem nC (ht:TR P m h t a.tmps) (place:Nat→Option (Nat×Nat)) (pl:List (Nat×Nat)) (hp:∀ i q,pl[i]? =some q→place i=some q):∀ (L:List (Nat×Operand)) (cs:List AV) (cells:Array Value) (cs':List AV),VRs P m h cs cells.toList→
  iu pl cs (L.map fun q=>(q.1,evA t q.2))=some cs'→∃ cells',Instr.fill place cells (L.map fun q=>(q.1,a.eval q.2))=some cells'∧VRs P m h cs' cells'.toList
 | [],cs,cells,cs',hr,hf=>by
   simp[iu]at hf
   subst hf
   exact⟨cells,by simp[Instr.fill],hr⟩
 | (i,x)::L,cs,cells,cs',hr,hf=>by
   simp only[List.map_cons,iu]at hf
   rcases hpi:pl[i]? with _ | ⟨off,size⟩
   ·simp[hpi]at hf
   ·simp only[hpi]at hf
    split at hf
    ·rename_i hc
     obtain⟨c1,c2,c3⟩:=hc
     obtain⟨v1,v2⟩:=(aD ht x).cells c3
     have hl1:=v1.1
     have hl2:=hr.1
     simp only[Array.length_toList]at hl1 hl2
     obtain⟨f1,f2⟩:=yL off (a.eval x) cells
     have hr':VRs P m h (stA cs off (evA t x).cells) ((a.eval x).cells.zipIdx.foldl (fun cs (y:Value×Nat)=>cs.setIfInBounds (off+y.2) y.1) cells).toList:=by
      refine⟨by rw[Array.length_toList,f1,stA];simp;omega,fun j hj hj'=> ?_⟩
      have hg:(cs.take off++(evA t x).cells++cs.drop (off+(evA t x).cells.length))[j]? =some (stA cs off (evA t x).cells)[j]:=List.getElem?_eq_getElem hj
      rw[wR _ _ _ (by omega)]at hg
      have hg':((a.eval x).cells.zipIdx.foldl (fun cs (y:Value×Nat)=>cs.setIfInBounds (off+y.2) y.1) cells)[j]? =some (((a.eval x).cells.zipIdx.foldl (fun cs (y:Value×Nat)=>cs.setIfInBounds (off+y.2) y.1) cells).toList[j]):=by
       rw[←Array.getElem?_toList]
       exact List.getElem?_eq_getElem hj'
      rw[f2 j]at hg'
      by_cases hin:off≤j∧j<off+(evA t x).cells.length
      ·rw[if_pos hin]at hg
       rw[if_pos ⟨hin.1,by omega,by omega⟩]at hg'
       obtain⟨u,u1,u2⟩:=v1.get? hg
       rw[Array.getElem?_toList]at u1
       rw[u1]at hg'
       injection hg' with hg'
       rw[←hg']
       exact u2
      ·rw[if_neg hin]at hg
       rw[if_neg (by omega)]at hg'
       obtain⟨u,u1,u2⟩:=hr.get? hg
       rw[Array.getElem?_toList]at u1
       rw[u1]at hg'
       injection hg' with hg'
       rw[←hg']
       exact u2
     obtain⟨cells',g1,g2⟩:=nC ht place pl hp L _ _ cs' hr' hf
     refine⟨cells',?_,g2⟩
     simp only[List.map_cons,Instr.fill,hp i _ hpi]
     rw[if_neg (by simp;omega)]
     exact g1
    ·cases hf
theorem zD (hT:mM P) (hw:WR P m h w) (ht:TR P m h t a.tmps) (ty:TypeId) (parts:Array (Nat×Operand)) (ho:o.op= .build ty parts) {z:List AV} (hz:d8 P ty=some z) {cs:List AV}
  (hv:(∃ pl,fF P ty=some pl∧(∀ q∈pl,szA P q.2≠0)∧iu (pl.map fun q=>(q.1,szA P q.2)) z (parts.toList.map fun q=>(q.1,evA t q.2))=some cs)∨
   (∃ n e,nP P ty=some (n,e)∧szA P e≠0∧iu ((List.range n).map fun i=>(i*szA P e,szA P e)) z (parts.toList.map fun q=>(q.1,evA t q.2))=some cs)):OpR P m h a w o (.agg cs) h:=by
 obtain⟨i,v,hi,hvz,hl,hs,hr,hrun⟩:=dU (m:=m) (h:=h) (w:=w) hT hz
 have key:∃ cells,P.built ty (parts.map fun(i,x)=>(i,a.eval x)).toList=some cells∧VRs P m h cs cells.toList:=by
  have hpt:(parts.map fun(i,x)=>(i,a.eval x)).toList=parts.toList.map fun q=>(q.1,a.eval q.2):=by simp
  rw[hpt]
  unfold Program.built
  rcases hv with⟨pl,h1,h2,h3⟩ | ⟨n,e,h1,h2,h3⟩
  ·unfold fF at h1
   split at h1
   ·rename_i fs hfs
    injection h1 with h1
    subst h1
    have hpl:fs.toList.mapM (fun f=>(P.info? f.type).map fun i=>(f.offset,i.size))=some (fs.toList.map fun f=>(f.offset,szA P f.type)):=by
     have:∀ l:List Field,(∀ f∈l,szA P f.type≠0)→l.mapM (fun f=>(P.info? f.type).map fun i=>(f.offset,i.size))=some (l.map fun f=>(f.offset,szA P f.type)):=by
      intro l
      induction l with
      | nil=>intro _;rfl
      | cons f l ih=>
        intro hl
        obtain⟨i0,hi0,hi1⟩:=cH (hl f (by simp))
        simp[List.mapM_cons,hi0,ih (fun g hg=>hl g (by simp[hg])),hi1]
     exact this _ (fun f hf=>h2 (f.offset,f.type) (List.mem_map.2 ⟨f,hf,rfl⟩))
    simp only[List.map_map]at h3
    obtain⟨cells,g1,g2⟩:=nC ht (fun x=>(fs.toList.map fun f=>(f.offset,szA P f.type)).toArray[x]?) (fs.toList.map ((fun q:Nat×TypeId=>(q.1,szA P q.2))∘fun f=>(f.offset,f.type))) (fun i q hq=>by simpa using hq) parts.toList z v.cells cs hr h3
    refine⟨cells,?_,g2⟩
    simp only[hi,hfs,hvz,hpl]
    exact g1
   ·cases h1
  ·have har:=qO h1
   obtain⟨i0,hi0,hi1⟩:=cH h2
   obtain⟨cells,g1,g2⟩:=nC ht (fun i=>some (i*i0.size,i0.size)) ((List.range n).map fun i=>(i*szA P e,szA P e)) (fun i q hq=>by
    simp only[List.getElem?_map,Option.map_eq_some_iff]at hq
    obtain⟨j,hj,rfl⟩:=hq
    have:=List.getElem?_eq_some_iff.1 hj
    obtain⟨hlt,hjj⟩:=this
    simp at hjj
    subst hjj
    rw[hi1]) parts.toList z v.cells cs hr h3
   refine⟨cells,?_,g2⟩
   simp only[hi,har,hvz,hi0]
   exact g1
 obtain⟨cells,h1,h2⟩:=key
 refine OpR.pure hw (u:= .agg cells) ?_ ?_
 ·have e:=run_build (P:=P) w ty (parts.map fun(i,x)=>(i,a.eval x)) cells h1
  simp only[execOp,ho,Sem.run_bind,e,Result.andThen_ok,Sem.run_pure]
 ·have:=VR.agg (P:=P) (m:=m) (h:=h) cs cells.toList h2.1 h2.2
  simpa using this
def D1 (P:Program) (m:Mm) (h:AH) (sz:Nat) (es:List (List AV)) (cs:Array Value):Prop:=
 cs.size=es.length*sz∧(∀ r∈es,r.length=sz)∧∀ i (hi:i<es.length) j (hj:j<es[i].length),∃ v,cs[i*sz+j]? =some v∧VR P m h es[i][j] v
theorem qn (ht:TR P m h t a.tmps) (sz:Nat):∀ (L:List (Nat×Operand)) (es:List (List AV)) (cells:Array Value) (es':List (List AV)),D1 P m h sz es cells→
  ke sz es (L.map fun q=>(q.1,evA t q.2))=some es'→∃ cells',Instr.fill (fun i=>some (i*sz,sz)) cells (L.map fun q=>(q.1,a.eval q.2))=some cells'∧D1 P m h sz es' cells'∧es'.length=es.length
 | [],es,cells,es',hr,hf=>by
   simp[ke]at hf
   subst hf
   exact⟨cells,by simp[Instr.fill],hr,rfl⟩
 | (i,x)::L,es,cells,es',hr,hf=>by
   simp only[List.map_cons,ke]at hf
   split at hf
   ·rename_i hc
    obtain⟨c1,c2,c3⟩:=hc
    obtain⟨v1,v2⟩:=(aD ht x).cells c3
    have hl1:=v1.1
    simp only[Array.length_toList]at hl1
    obtain⟨r1,r2,r3⟩:=hr
    have hin:=bV (s:=sz) c2
    obtain⟨f1,f2⟩:=yL (i*sz) (a.eval x) cells
    have hr':D1 P m h sz (es.set i (evA t x).cells) ((a.eval x).cells.zipIdx.foldl (fun cs (y:Value×Nat)=>cs.setIfInBounds (i*sz+y.2) y.1) cells):=by
     refine⟨by rw[f1,r1,List.length_set],fun r hr=> ?_,fun i' hi' j hj=> ?_⟩
     ·rcases List.mem_or_eq_of_mem_set hr with hq | hq
      ·exact r2 r hq
      ·rw[hq,c1]
     ·rw[f2]
      have hi2:i'<es.length:=by simpa using hi'
      by_cases e1:i'=i
      ·subst e1
       have hrow:(es.set i' (evA t x).cells)[i']=(evA t x).cells:=by simp
       have hj':j<(evA t x).cells.length:=by rw[hrow]at hj;exact hj
       rw[if_pos ⟨by omega,by omega,by omega⟩]
       obtain⟨u,u1,u2⟩:=v1.get? (List.getElem?_eq_getElem hj')
       refine⟨u,by rw[←u1,Array.getElem?_toList];congr 1;omega,?_⟩
       simpa only[hrow]using u2
      ·have hrow:(es.set i (evA t x).cells)[i']=es[i']:=by simp[Ne.symm e1]
       have hj':j<es[i'].length:=by rw[hrow]at hj;exact hj
       have hjs:j<sz:=by rw[r2 _ (List.getElem_mem hi2)]at hj';exact hj'
       rw[if_neg (by
        rcases Nat.lt_or_gt_of_ne e1 with hq | hq
        ·have:=bV (s:=sz) hq
         omega
        ·have:=bV (s:=sz) hq
         omega)]
       obtain⟨v,hv1,hv2⟩:=r3 i' hi2 j hj'
       exact⟨v,hv1,by simpa only[hrow]using hv2⟩
    obtain⟨cells',g1,g2,g3⟩:=qn ht sz L _ _ es' hr' hf
    refine⟨cells',?_,g2,by rw[g3,List.length_set]⟩
    simp only[List.map_cons,Instr.fill]
    rw[if_neg (by simp;omega)]
    exact g1
   ·cases hf
theorem WR.fresh (hw:WR P m h w) (w':World) (e:TypeId) (es:List (List AV)) (cs:Array Value) (cap:Nat) (hn:New w w') (hbk:Blk w' w.heap.size e cs) (hs:cs.size=cap*P.cellsOf e) (hc:es.length≤cap) (hmx:cap≤maxLen) (hl:∀ r∈es,r.length=P.cellsOf e)
  (hv:∀ i (hi:i<es.length) j (hj:j<es[i].length),∃ v,cs[i*P.cellsOf e+j]? =some v∧VR P m h es[i][j] v):
  ∃ m',Ext m h m' (h.fresh es.length)∧WR P m' (h.fresh es.length) w'∧VR P m' (h.fresh es.length) (.isl (some h.ids) e es) (.slice (some ⟨w.heap.size,0,none⟩) es.length cap):=by
 have hnoimm:∀ o,m.imm w.heap.size o=none:=fun o=>by
  rcases hi:m.imm w.heap.size o with _ | v
  ·rfl
  ·have:=hw.imm_lt hi
   omega
 have hx:Ext m h {m with imm:=fun g o=>if g=w.heap.size then(if o<es.length*P.cellsOf e then cs[o]? else none)else m.imm g o,tg:=fun k=>if k=h.ids then w.heap.size else m.tg k,tc:=fun k=>if k=h.ids then cap else m.tc k,te:=fun k=>if k=h.ids then e else m.te k} (h.fresh es.length):=by
  refine⟨rfl,Nat.le_refl _,by simp[AH.fresh],fun b hb=>⟨rfl,rfl,rfl⟩,fun g o v hi=> ?_,fun k hk=> ?_,fun _ _ h=>h⟩
  ·have:g≠w.heap.size:=fun e=>by rw[e,hnoimm]at hi;cases hi
   simpa[this]using hi
  ·have:k≠h.ids:=by omega
   simp[AH.fresh,this]
 have hw1:=hw.new hn
 have hle:es.length*P.cellsOf e≤cs.size:=by rw[hs];exact Nat.mul_le_mul_right _ hc
 refine⟨_,hx,?_,?_⟩
 ·refine⟨hw1.size,fun b x hb=>hw1.lt b x hb,fun b x hb=> ?_,fun b b' x x' h1 h2 he=>hw1.inj b b' x x' h1 h2 he,fun g o v hi=> ?_,fun b x hb o=> ?_,fun k hk=> ?_,fun k hk o ho'=> ?_,fun k hk b x hb=> ?_,fun k k' hk hk' he=> ?_,hw1.good,fun g x hj=> ?_⟩
  ·obtain⟨c2,h1,h2,h3,h4,h5⟩:=hw1.live b x hb
   refine⟨c2,h1,h2,h3,h4,fun i hi j hj=> ?_⟩
   obtain⟨v,h6,h7⟩:=h5 i hi j hj
   exact⟨v,h6,h7.ext hx⟩
  ·by_cases hg:g=w.heap.size
   ·subst hg
    simp only[if_true]at hi
    split at hi
    ·rw[hbk.cell]
     exact hi
    ·cases hi
   ·simp only[hg,if_false]at hi
    exact hw1.imm g o v hi
  ·have:=hw.below hb
   have hne:m.blk b≠w.heap.size:=by omega
   simp only[hne,if_false]
   exact hw1.sep b x hb o
  ·by_cases hk0:k=h.ids
   ·subst hk0
    simp only[if_true,AH.fresh]
    refine⟨cs.toList.take (es.length*P.cellsOf e),?_,.inr ⟨w.heap.size,cap,cs,rfl,hw.size,hbk,hc,hmx,hs,rfl⟩⟩
    simp
    omega
   ·have hk1:k<h.ids:=by simp[AH.fresh]at hk;omega
    simp only[hk0,if_false,AH.fresh]
    exact hw1.tip k hk1
  ·by_cases hk0:k=h.ids
   ·subst hk0
    simp only[if_true,AH.fresh]at ho' ⊢
    rw[if_neg (by omega)]
   ·have hk1:k<h.ids:=by simp[AH.fresh]at hk;omega
    simp only[hk0,if_false,AH.fresh]at ho' ⊢
    have:=(hw.tip_lt hk1).2
    rw[if_neg (by omega)]
    exact hw1.tfree k hk1 o ho'
  ·have hbl:=hw.below hb
   by_cases hk0:k=h.ids
   ·simp only[hk0,if_true]
    omega
   ·have hk1:k<h.ids:=by simp[AH.fresh]at hk;omega
    simp only[hk0,if_false]
    exact hw1.tblk k hk1 b x hb
  ·by_cases h1:k=h.ids<;>by_cases h2:k'=h.ids
   ·omega
   ·have:=(hw.tip_lt (k:=k') (by simp[AH.fresh]at hk';omega)).2
    simp[h1,h2]at he
    omega
   ·have:=(hw.tip_lt (k:=k) (by simp[AH.fresh]at hk;omega)).2
    simp[h1,h2]at he
    omega
   ·simp[h1,h2]at he
    exact hw.tinj k k' (by simp[AH.fresh]at hk;omega) (by simp[AH.fresh]at hk';omega) he
  ·have hlt:=hw.jk_lt hj
   obtain⟨a1,a2,a3,a4,a5⟩:=hw1.jk g x hj
   refine⟨a1,a2,a3,fun k hk=> ?_,fun o=> ?_⟩
   ·by_cases hk0:k=h.ids
    ·simp only[hk0,if_true]
     omega
    ·simp only[hk0,if_false]
     exact a4 k (by simp[AH.fresh]at hk;omega)
   ·simp only[show ¬ g=w.heap.size by omega,if_false]
    exact a5 o
 ·refine .isl (some h.ids) e es w.heap.size 0 cap (fun i j=>(cs[i*P.cellsOf e+j]?).getD undef) hl (fun i hi j hj=> ?_) (fun i hi j hj=> ?_) hc (fun k hk=> ?_)
  ·have:=bV (s:=P.cellsOf e) hi
   simp only[if_true,Nat.zero_add]
   rw[if_pos (by omega)]
   obtain⟨v,h1,_⟩:=hv i hi j (by rw[hl _ (List.getElem_mem hi)];exact hj)
   simp[h1]
  ·obtain⟨v,h1,h2⟩:=hv i hi j hj
   simp only[h1,Option.getD_some]
   exact h2.ext hx
  ·injection hk with hk
   subst hk
   simp[AH.fresh]
theorem yN (len sz:Nat) (z:List AV) (v:Array Value) (hz:VRs P m h z v.toList) (hl:z.length=sz) (hp:0<sz):D1 P m h sz (replicate len z) ((Array.range (len*sz)).map (v[· % v.size]!)):=by
 have hvs:v.size=sz:=by have:=hz.1;simp at this;omega
 refine⟨by simp,fun r hr=>by rw[(List.mem_replicate.1 hr).2];exact hl,fun i hi j hj=> ?_⟩
 simp only[List.getElem_replicate]at hj ⊢
 have hi':i<len:=by simpa using hi
 have:=bV (s:=sz) hi'
 obtain⟨u,u1,u2⟩:=hz.get? (List.getElem?_eq_getElem hj)
 refine⟨u,?_,u2⟩
 have hmod:(i*sz+j) % sz=j:=by
  rw[Nat.mul_comm,Nat.mul_add_mod]
  exact Nat.mod_eq_of_lt (by omega)
 rw[Array.getElem?_toList]at u1
 have hlt:i*sz+j<len*sz:=by omega
 simp only[Array.getElem?_map,hvs]
 rw[Array.getElem?_eq_getElem (by simpa using hlt)]
 simp only[Array.getElem_range,Option.map_some,hmod]
 rw[getElem!_def,u1]
theorem ul (hT:mM P) (hw:WR P m h w) (ht:TR P m h t a.tmps) (ty:TypeId) (len:Nat) (parts:Array (Nat×Operand)) (ho:o.op= .buildSlice ty len parts) {e:TypeId} (he:dL P ty=some e) {z:List AV} (hz:d8 P e=some z)
  {es:List (List AV)} (hv:ke (szA P e) (replicate len z) (parts.toList.map fun q=>(q.1,evA t q.2))=some es) (hsm:len*szA P e≤16777216):
  OpR P m h a w o (.msl h.n 0 len e) (h.push es)∧OpR P m h a w o (.isl (some h.ids) e es) (h.fresh len):=by
 have hes:=dP he
 have hpos:=gz hT he
 obtain⟨i,v,hi,hvz,hl,hs,hr,hrun⟩:=dU (m:=m) (h:=h) (w:=w) hT hz
 have hi1:i.size=P.cellsOf e:=by simp[Program.cellsOf,hi]
 have hz0:=yN (P:=P) (m:=m) (h:=h) len (P.cellsOf e) z v.cells hr hl hpos
 obtain⟨cells,g1,g2,g3⟩:=qn ht (P.cellsOf e) parts.toList _ _ es hz0 hv
 simp only[List.length_replicate]at g3
 have hparts:(parts.map fun(i,x)=>(i,a.eval x)).toList=parts.toList.map fun q=>(q.1,a.eval q.2):=by simp
 have hb:(Instr.buildSlice ty len (parts.map fun(i,x)=>(i,a.eval x))).run P w= .ok (.slice (some ⟨w.heap.size,0,none⟩) len len) (w.alloc (.cells cells e)):=by
  by_cases hlen:len=0
  ·subst hlen
   have hr0:Array.range 0= #[]:=rfl
   have g1':Instr.fill (fun i=>some (i*P.cellsOf e,P.cellsOf e)) #[] (parts.toList.map fun q=>(q.1,a.eval q.2))=some cells:=by
    rw[Nat.zero_mul,hr0,Array.map_empty]at g1
    exact g1
   simp only[Instr.buildSlice,Sem.run_bind,run_underlying hes,Result.andThen_ok,sizeOf,typeInfo,run_program,hi,Sem.run_pure,hi1,hparts,Nat.zero_mul,hr0,Nat.not_lt_zero,gt_iff_lt,if_false,if_true]
   simp[Array.map_empty,g1',newRow]
  ·have hmul:0<len*P.cellsOf e:=Nat.mul_pos (by omega) hpos
   have hb0:=run_buildSlice (P:=P) w ty e len (parts.map fun(i,x)=>(i,a.eval x)) cells i v hes hi hvz (by rw[hi1];unfold szA at hsm;omega) (by rw[hi1];omega) (by
    rw[hi1,hparts]
    exact g1)
   rw[hb0]
 have hrun2:(execOp a.eval o).run P w= .ok (.value (.slice (some ⟨w.heap.size,0,none⟩) len len)) (w.alloc (.cells cells e)):=by
  simp only[execOp,ho,Sem.run_bind,hb,Result.andThen_ok,Sem.run_pure]
 obtain⟨g21,g22,g23⟩:=g2
 have hmx:len≤maxLen:=by
  have:len*1≤len*P.cellsOf e:=Nat.mul_le_mul_left _ hpos
  unfold maxLen szA at*
  omega
 constructor
 ·obtain⟨m',h1,h2,h3,h4,h5⟩:=hw.push (w.alloc (.cells cells e)) e es cells ((dS.refl _ w).alloc _) (Blk.new w _ _) (Nat.le_of_eq g21.symm) g22 g23
  refine⟨m',_,_,.inl hrun2,h1,h2,?_,(Below.refl _ _).alloc hw.size _⟩
  have:=VR.msl (P:=P) (m:=m') (h:=h.push es) h.n 0 len e len (by simp[AH.push]) h4 (by rw[h5,g21,g3,Nat.zero_add]) (Nat.le_refl _) hmx
  rw[h3]at this
  simpa using this
 ·obtain⟨m',h1,h2,h3⟩:=hw.fresh (w.alloc (.cells cells e)) e es cells len ((dS.refl _ w).alloc _) (Blk.new w _ _) (by rw[g21,g3]) (by rw[g3];exact Nat.le_refl _) hmx g22 g23
  rw[g3]at h1 h2 h3
  exact⟨m',_,_,.inl hrun2,h1,h2,h3,(Below.refl _ _).alloc hw.size _⟩
theorem wG (hT:mM P) (hw:WR P m h w) (ht:TR P m h t a.tmps) (ty:TypeId) (l c:Operand) (ho:o.op= .makeSlice ty l c) {e:TypeId} (he:dL P ty=some e) {z:List AV} (hz:d8 P e=some z) {k1 k2:IntKind} {n:Int}
  (hl:evA t l= .int k1 n) (hc:evA t c= .int k2 n) (h0:0≤n) (hsm:n≤100000):OpR P m h a w o (.msl h.n 0 n.toNat e) (h.push (replicate n.toNat z)):=by
 have hes:=dP he
 have hpos:=gz hT he
 obtain⟨i,v,hi,hvz,hl',hs,hr,hrun⟩:=dU (m:=m) (h:=h) (w:=w) hT hz
 have hi1:i.size=P.cellsOf e:=by simp[Program.cellsOf,hi]
 have v1:=aD ht l
 have v2:=aD ht c
 rw[hl]at v1
 rw[hc]at v2
 obtain⟨u1,hu1⟩:∃ u,a.eval l=u:=⟨_,rfl⟩
 obtain⟨u2,hu2⟩:∃ u,a.eval c=u:=⟨_,rfl⟩
 rw[hu1]at v1
 rw[hu2]at v2
 cases v1
 cases v2
 have hby:=hT.small e i (Dm hz) hi
 have hb:(i.bytes:Int)*n≤281474976710656:=by
  have h1:(i.bytes:Int)*n≤100000*100000:=Int.mul_le_mul (by omega) hsm h0 (by omega)
  omega
 have hz0:=yN (P:=P) (m:=m) (h:=h) n.toNat (P.cellsOf e) z v.cells hr hl' hpos
 obtain⟨r1,r2,r3⟩:=hz0
 have hmk:=run_make (P:=P) w ty e i v hes hi hvz k1 k2 n n h0 (Int.le_refl _) hb (by omega)
 have e1:madeCells v.cells (n.toNat*i.size)=(Array.range (n.toNat*P.cellsOf e)).map (v.cells[· % v.cells.size]!):=by rw[hi1];rfl
 rw[e1]at hmk
 obtain⟨m',h1,h2,h3,h4,h5⟩:=hw.push (w.alloc (.cells ((Array.range (n.toNat*P.cellsOf e)).map (v.cells[· % v.cells.size]!)) e)) e (replicate n.toNat z) _ ((dS.refl _ w).alloc _) (Blk.new w _ _) (Nat.le_of_eq r1.symm) r2 r3
 refine⟨m',_,.slice (some ⟨w.heap.size,0,none⟩) n.toNat n.toNat,.inl ?_,h1,h2,?_,(Below.refl _ _).alloc hw.size _⟩
 ·simp only[execOp,ho,hu1,hu2,Sem.run_bind,hmk,Result.andThen_ok,Sem.run_pure]
 ·have:=VR.msl (P:=P) (m:=m') (h:=h.push (replicate n.toNat z)) h.n 0 n.toNat e n.toNat (by simp[AH.push]) h4 (by rw[h5,r1,List.length_replicate,Nat.zero_add]) (Nat.le_refl _) (by unfold maxLen;omega)
  rw[h3]at this
  simpa using this
end
open Go Go.RowKit
section
variable {P:Program} {m m':Mm} {h h':AH} {w w':World} {t:List AV} {a:Act} {o:Oper}
theorem l6 (base:Nat) (t ty e:TypeId) (i:TypeInfo) (z:Value) (size bytes:Nat) (ht:P.underlying t=some (.slice e)) (hi:P.info? e=some i) (hz:i.zero=some z)
  (hsize:i.size=size) (hby:i.bytes=bytes) (hzs:z.cells.size=size) (hsz:0<size)
  (v:Value) (n:Nat) (xs:List Value) (hown:w.ownsRow base e size v n xs)
  (a:Addr) (m c:Nat) (hm0:0<m) (news:List Value) (hl:news.length=m*size) (hnews:∀ j u,news[j]? =some u→w.cell? (a.add j)=some u) (h1:∀ u∈news,u.oneCell'=true)
  (h63:n+m≤maxLen) (hbytes:(n+m)*bytes≤140737488355328) (hbase:base≤w.heap.size):
  ∃ g cap w',(Builtin.append_ #[t,t] ty #[v,.slice (some a) m c]).run P w= .ok (.slice (some ⟨g,0,none⟩) (n+m) cap) w'∧w'.ownsRow base e size (.slice (some ⟨g,0,none⟩) (n+m) cap) (n+m) (xs++news)∧
    ((v.ownBlock=some g∧dS (fun k=>k=g) w w'∧∃ k,v= .slice (some ⟨g,0,none⟩) n k)∨(g=w.heap.size∧New w w')):=by
 subst hsize
 subst hby
 have hsmall:n+m≤9223372036854775807:=by simp only[maxLen]at h63;omega
 have hlen:(xs++news).length=(n+m)*i.size:=by rw[List.length_append,hown.1,hl,Nat.add_mul]
 have grown:∀ (old:Nat),old<n+m→
   (w.drew.alloc (.cells (xs.toArray++news.toArray++Builtin.zeroCells z.cells (grownCap w (n+m) old e - (n+m))) e)).ownsRow base e i.size
    (.slice (some ⟨w.heap.size,0,none⟩) (n+m) (grownCap w (n+m) old e)) (n+m) (xs++news)∧
   New w (w.drew.alloc (.cells (xs.toArray++news.toArray++Builtin.zeroCells z.cells (grownCap w (n+m) old e - (n+m))) e)):=by
  intro old ho
  have hge:=grownCap_ge w (n+m) old e
  have hcm:grownCap w (n+m) old e≤maxLen:=grownCap_le_maxLen w (n+m) old e h63
  refine⟨⟨hlen,.inr ⟨w.heap.size,_,_,rfl,hbase,heap_alloc_new w.drew _,hge,hcm,?_,?_⟩⟩,⟨rfl,rfl,rfl,by simp,fun k hk _=>heap_alloc_old w.drew _ hk⟩⟩
  ·simp only[Array.size_append,List.size_toArray,size_zeroCells,hzs,hown.1,hl,←Nat.add_mul]
   congr 1
   omega
  ·simp only[Array.toList_append,List.append_assoc]
   rw[←List.append_assoc,←hlen]
   exact List.take_left
 rcases hown.2 with⟨rfl,rfl⟩ | ⟨g,cap,cur,rfl,hbg,hg,hnc,hcm,hcs,htake⟩
 ·have hx:xs=[]:=List.eq_nil_of_length_eq_zero (by simpa using hown.1)
  subst hx
  have hr:=run_append_nil (P:=P) w t ty e i z ht hi hz a m c news hl hnews (by omega) (by omega) (by have hb:=hbytes;simp only[Nat.zero_add]at hb;omega)
  have hgr:=grown 0 (by omega)
  simp only[Nat.zero_add,List.nil_append,Array.empty_append]at hgr ⊢
  exact⟨_,_,_,hr,hgr.1,.inr ⟨rfl,hgr.2⟩⟩
 ·by_cases hroom:n+m≤cap
  ·have hfit:n*i.size+news.length≤cur.size:=by rw[hl,hcs,←Nat.add_mul];exact Nat.mul_le_mul_right _ hroom
   have hr:=run_append_room (P:=P) w t ty e i ht hi g n cap cur hg a m c news hl hnews h1 hroom hfit
   refine⟨_,_,_,hr,⟨hlen,.inr ⟨g,cap,_,rfl,hbg,setRow_heap w g cur _ e _ hg,hroom,hcm,?_,?_⟩⟩,.inl ⟨rfl,⟨rfl,rfl,rfl,by simp,fun k _ hk=>setRow_other w g k _ hk⟩,⟨_,rfl⟩⟩⟩
   ·simp only[List.size_toArray,List.length_append,List.length_take,List.length_drop,Array.length_toList]
    omega
   ·rw[htake,←hlen]
    exact List.take_left
  ·have holds:∀ j u,xs[j]? =some u→w.cell? ((⟨g,0,none⟩:Addr).add j)=some u:=hown.cells (g:=g) rfl
   have hr:=run_append_grow (P:=P) w t ty e i z ht hi hz ⟨g,0,none⟩ n cap xs hown.1 holds a m c news hl hnews (by omega) (by omega) (growslice_fits (by omega) hbytes)
   have hgr:=grown cap (by omega)
   exact⟨_,_,_,hr,hgr.1,.inr ⟨rfl,hgr.2⟩⟩
def gd (P:Program) (m:Mm) (h:AH) (sz:Nat) (es:List (List AV)) (l:List Value):Prop:=
 l.length=es.length*sz∧(∀ r∈es,r.length=sz)∧∀ i (hi:i<es.length) j (hj:j<es[i].length),∃ v,l[i*sz+j]? =some v∧VR P m h es[i][j] v
theorem gd.one {sz:Nat} {es:List (List AV)} {l:List Value} (hr:gd P m h sz es l) (hp:0<sz) (h1:es.all (·.all AV.one)=true):∀ u∈l,u.oneCell'=true:=by
 intro u hu
 obtain⟨k,hk,rfl⟩:=List.getElem_of_mem hu
 obtain⟨r1,r2,r3⟩:=hr
 have hi:k / sz<es.length:=Nat.div_lt_of_lt_mul (by rw[Nat.mul_comm,←r1];exact hk)
 have hj:k % sz<es[k / sz].length:=by rw[r2 _ (List.getElem_mem hi)];exact Nat.mod_lt _ hp
 obtain⟨v,h2,h3⟩:=r3 _ hi _ hj
 have e:k / sz*sz+k % sz=k:=by rw[Nat.mul_comm];exact Nat.div_add_mod k sz
 rw[e,List.getElem?_eq_getElem hk]at h2
 injection h2 with h2
 rw[h2]
 simp only[List.all_eq_true]at h1
 exact h3.one (h1 _ (List.getElem_mem hi) _ (List.getElem_mem hj))
theorem qz (hw:WR P m h w) {e:TypeId} {x:AV} {u:Value} (hx:VR P m h x u) (hnn:x≠.nils) {new:List (List AV)} (hn:bM h e x=some new):
  ∃ ad n c news,u= .slice (some ad) n c∧n=new.length∧gd P m h (P.cellsOf e) new news∧∀ j v,news[j]? =some v→w.cell? (ad.add j)=some v:=by
 cases hx with
 | nils=>exact absurd rfl hnn
 | isl0 e' a' cap=>
   simp only[bM]at hn
   split at hn
   ·injection hn with hn
    subst hn
    exact⟨a',0,cap,[],rfl,rfl,⟨by simp,by simp,fun i hi=>by simp at hi⟩,fun j v hj=>by simp at hj⟩
   ·cases hn
 | isl id e' es g o' cap F hle hi' hvv hcap htt=>
   simp only[bM]at hn
   split at hn
   ·rename_i he
    subst he
    injection hn with hn
    subst hn
    have hpz:0<P.cellsOf e'∨P.cellsOf e'=0:=by omega
    refine⟨⟨g,o',none⟩,es.length,cap,(List.range (es.length*P.cellsOf e')).map fun k=>F (k / P.cellsOf e') (k % P.cellsOf e'),rfl,rfl,⟨by simp,hle,fun i hi j hj=> ?_⟩,fun j v hj=> ?_⟩
    ·have hjs:j<P.cellsOf e':=by rw[←hle _ (List.getElem_mem hi)];exact hj
     have:=bV (s:=P.cellsOf e') hi
     have hd:(i*P.cellsOf e'+j) / P.cellsOf e'=i:=by
      rw[Nat.mul_comm,Nat.mul_add_div (by omega),Nat.div_eq_of_lt hjs,Nat.add_zero]
     have hm:(i*P.cellsOf e'+j) % P.cellsOf e'=j:=by
      rw[Nat.mul_comm,Nat.mul_add_mod]
      exact Nat.mod_eq_of_lt hjs
     refine⟨F i j,?_,hvv i hi j hj⟩
     rw[List.getElem?_map,List.getElem?_range (by omega)]
     simp only[Option.map_some,hd,hm]
    ·simp only[List.getElem?_map,Option.map_eq_some_iff]at hj
     obtain⟨k,hk,rfl⟩:=hj
     obtain⟨hlt,hkk⟩:=List.getElem?_eq_some_iff.1 hk
     simp at hlt hkk
     subst hkk
     have hp:0<P.cellsOf e':=by
      rcases hpz with h1 | h1
      ·exact h1
      ·rw[h1]at hlt
       omega
     have hd:j / P.cellsOf e'<es.length:=Nat.div_lt_of_lt_mul (by rw[Nat.mul_comm];exact hlt)
     have hm:=Nat.mod_lt j hp
     have:=hw.imm _ _ _ (hi' _ hd _ hm)
     rw[Addr.add_lit]
     have e2:j / P.cellsOf e'*P.cellsOf e'+j % P.cellsOf e'=j:=by rw[Nat.mul_comm];exact Nat.div_add_mod j _
     rwa [e2]at this
   ·cases hn
 | msl b o' n' e' cap hb he' hcap hnn hmx=>
   simp only[bM]at hn
   split at hn
   ·rename_i he
    subst he
    obtain⟨es,hes,hn⟩:=Option.bind_eq_some_iff.1 hn
    split at hn
    ·rename_i hle
     injection hn with hn
     subst hn
     obtain⟨cs,h1,h2,h3,h4,h5⟩:=hw.live b es hes
     rw[he']at h1 h3 h4 h5
     have hm:(o'+n')*P.cellsOf e'≤es.length*P.cellsOf e':=Nat.mul_le_mul_right _ hle
     rw[Nat.add_mul]at hm
     have hlen:((es.drop o').take n').length=n':=by simp;omega
     refine⟨_,n',cap,(cs.toList.drop (o'*P.cellsOf e')).take (n'*P.cellsOf e'),rfl,hlen.symm,⟨by rw[hlen];simp;omega,fun r hr=>h3 r (List.mem_of_mem_drop (List.mem_of_mem_take hr)),fun i hi j hj=> ?_⟩,fun j v hj=> ?_⟩
     ·have hi1:i<n'∧o'+i<es.length:=by simp at hi;omega
      have e1:((es.drop o').take n')[i]=es[o'+i]'hi1.2:=by simp
      have hj':j<es[o'+i].length:=by rw[←e1];exact hj
      have hjs:j<P.cellsOf e':=by rw[←h3 _ (List.getElem_mem hi1.2)];exact hj'
      obtain⟨v,v1,v2⟩:=h5 (o'+i) hi1.2 j hj'
      have hle2:=bV (s:=P.cellsOf e') hi1.1
      refine⟨v,?_,by simpa using v2⟩
      rw[List.getElem?_take_of_lt (by omega),List.getElem?_drop,Array.getElem?_toList]
      rw[show o'*P.cellsOf e'+(i*P.cellsOf e'+j)=(o'+i)*P.cellsOf e'+j by rw[Nat.add_mul];omega]
      exact v1
     ·have hlt:j<n'*P.cellsOf e':=by
       have:=(List.getElem?_eq_some_iff.1 hj).1
       simp at this
       omega
      rw[List.getElem?_take_of_lt hlt,List.getElem?_drop,Array.getElem?_toList]at hj
      rw[Addr.add_lit,h1.cell]
      exact hj
    ·cases hn
   ·cases hn
 | _=>simp[bM]at hn
theorem fQ (ty:TypeId) (tys:List TypeId) (x y:Operand) (ho:o.op= .call {callee:= .builtin .append,args:= #[x,y],argTypes:=(ty::tys).toArray}) {u v r:Value} (hu:a.eval x=u) (hv:a.eval y=v)
  (hr:(Builtin.append_ (ty::tys).toArray o.type #[u,v]).run P w= .ok r w'):(execOp a.eval o).run P w= .ok (.value r) w':=by
 simp only[execOp,ho,resolve,invoke,builtin,Sem.run_bind,Sem.run_pure,Result.andThen_ok,List.map_toArray,List.map_cons,List.map_nil,hu,hv,hr]
theorem sB (ty e:TypeId) (tys:List TypeId) (hty:P.underlying ty=some (.slice e)) (hi:P.info? e≠none) (htys:tys=[ty]) (rt:TypeId) (A:Option Addr) (n c:Nat) (hnc:n≤c):
  (Builtin.append_ (ty::tys).toArray rt #[.slice A n c,.slice none 0 0]).run P w= .ok (.slice A n c) w:=by
 subst htys
 obtain⟨i,hi⟩:=Option.ne_none_iff_exists'.1 hi
 cases A<;>simp[Builtin.append_,run_underlying hty,sizeOf,typeInfo,hi,Builtin.lenOf,Builtin.firstCells,hnc,storeCells]
theorem qG (ty e:TypeId) (tys:List TypeId) (hty:P.underlying ty=some (.slice e)) (hi:P.info? e≠none) (htys:tys=[ty]) (rt:TypeId) (A:Option Addr) (n c:Nat) (hnc:n≤c) (ad:Addr) (c2:Nat):
  (Builtin.append_ (ty::tys).toArray rt #[.slice A n c,.slice (some ad) 0 c2]).run P w= .ok (.slice A n c) w:=by
 subst htys
 obtain⟨i,hi⟩:=Option.ne_none_iff_exists'.1 hi
 cases A<;>simp[Builtin.append_,run_underlying hty,sizeOf,typeInfo,hi,Builtin.lenOf,Builtin.firstCells,hnc,storeCells,loadCells,loadCellsFrom]
theorem Gw (hw:WR P m h w) {e:TypeId} {es:List (List AV)} {xs:List Value} {g cap:Nat} (hown:w.ownsRow m.base e (P.cellsOf e) (.slice (some ⟨g,0,none⟩) es.length cap) es.length xs) (hl:∀ r∈es,r.length=P.cellsOf e)
  (hv:∀ i (hi:i<es.length) j (hj:j<es[i].length),∃ v,w.cell? ⟨g,i*P.cellsOf e+j,none⟩=some v∧VR P m h es[i][j] v):gd P m h (P.cellsOf e) es xs:=by
 refine⟨hown.1,hl,fun i hi j hj=> ?_⟩
 have hjs:j<P.cellsOf e:=by rw[←hl _ (List.getElem_mem hi)];exact hj
 have:=bV (s:=P.cellsOf e) hi
 have hlt:i*P.cellsOf e+j<xs.length:=by rw[hown.1];omega
 obtain⟨v,h1,h2⟩:=hv i hi j hj
 have h3:=hown.cells (g:=g) rfl (i*P.cellsOf e+j) xs[i*P.cellsOf e+j] (List.getElem?_eq_getElem hlt)
 rw[Addr.add_lit,Nat.zero_add,h1]at h3
 injection h3 with h3
 exact⟨v,by rw[List.getElem?_eq_getElem hlt,h3],h2⟩
theorem gd.append {sz:Nat} {es fs:List (List AV)} {l k:List Value} (h1:gd P m h sz es l) (h2:gd P m h sz fs k):gd P m h sz (es++fs) (l++k):=by
 obtain⟨a1,a2,a3⟩:=h1
 obtain⟨b1,b2,b3⟩:=h2
 refine⟨by simp[a1,b1,Nat.add_mul],fun r hr=> ?_,fun i hi j hj=> ?_⟩
 ·rcases List.mem_append.1 hr with h | h
  ·exact a2 r h
  ·exact b2 r h
 ·by_cases hlt:i<es.length
  ·have e1:(es++fs)[i]=es[i]:=List.getElem_append_left hlt
   have hj':j<es[i].length:=by rw[e1]at hj;exact hj
   have hjs:j<sz:=by rw[←a2 _ (List.getElem_mem hlt)];exact hj'
   have:=bV (s:=sz) hlt
   obtain⟨v,v1,v2⟩:=a3 i hlt j hj'
   exact⟨v,by rw[List.getElem?_append_left (by omega)];exact v1,by simpa only[e1]using v2⟩
  ·have hi2:i - es.length<fs.length:=by simp at hi;omega
   have e1:(es++fs)[i]=fs[i - es.length]:=List.getElem_append_right (by omega)
   have hj':j<fs[i - es.length].length:=by rw[e1]at hj;exact hj
   have hle:es.length*sz≤i*sz:=Nat.mul_le_mul_right _ (by omega)
   obtain⟨v,v1,v2⟩:=b3 _ hi2 j hj'
   refine⟨v,?_,by simpa only[e1]using v2⟩
   rw[List.getElem?_append_right (by omega),←v1]
   congr 1
   rw[Nat.sub_mul]
   omega
theorem gd.take {sz:Nat} {es:List (List AV)} {l:List Value} (h1:gd P m h sz es l) (n:Nat) (hn:n≤es.length):gd P m h sz (es.take n) (l.take (n*sz)):=by
 obtain⟨a1,a2,a3⟩:=h1
 have hle:n*sz≤es.length*sz:=Nat.mul_le_mul_right _ hn
 refine⟨by simp[a1,Nat.min_eq_left hle,Nat.min_eq_left hn],fun r hr=>a2 r (List.mem_of_mem_take hr),fun i hi j hj=> ?_⟩
 have hi':i<n∧i<es.length:=by simp at hi;omega
 have e1:(es.take n)[i]=es[i]'hi'.2:=by simp
 have hj':j<(es[i]'hi'.2).length:=by rw[e1]at hj;exact hj
 have hjs:j<sz:=by rw[←a2 _ (List.getElem_mem hi'.2)];exact hj'
 have:=bV (s:=sz) hi'.1
 obtain⟨v,v1,v2⟩:=a3 i hi'.2 j hj'
 exact⟨v,by rw[List.getElem?_take_of_lt (by omega)];exact v1,by simpa only[e1]using v2⟩
end
open Go Go.RowKit
section
variable {P:Program} {m m':Mm} {h h':AH} {w w':World} {t:List AV} {a:Act} {o:Oper}
theorem WR.grown (hw:WR P m h w) {k:Nat} (hk:k<h.ids) {xs news:List Value} {n mm g cap:Nat} (hn:n=h.hw k) (hm0:0<mm)
  (hold:w.ownsRow m.base (m.te k) (P.cellsOf (m.te k)) (.slice (some ⟨m.tg k,0,none⟩) n (m.tc k)) n xs) (hsz:0<P.cellsOf (m.te k))
  (hown:w'.ownsRow m.base (m.te k) (P.cellsOf (m.te k)) (.slice (some ⟨g,0,none⟩) (n+mm) cap) (n+mm) (xs++news))
  (hg:(g=m.tg k∧dS (fun q=>q=g) w w')∨(g=w.heap.size∧New w w')) (es:List (List AV)) (hrows:gd P m h (P.cellsOf (m.te k)) es (xs++news)) (hes:es.length=n+mm):
  ∃ m',Ext m h m' (h.grow k (n+mm))∧WR P m' (h.grow k (n+mm)) w'∧VR P m' (h.grow k (n+mm)) (.isl (some k) (m.te k) es) (.slice (some ⟨g,0,none⟩) (n+mm) cap)∧Below m.base w w':=by
 subst hn
 generalize hE:m.te k=e at*
 generalize hS:P.cellsOf e=S at*
 have htl:=hw.tip_lt hk
 have hcells:∀ o v,(xs++news)[o]? =some v→w'.cell? ⟨g,o,none⟩=some v:=by
  intro o v ho
  have:=hown.cells (g:=g) rfl o v ho
  rwa [Addr.add_lit,Nat.zero_add]at this
 have hocells:∀ o v,xs[o]? =some v→w.cell? ⟨m.tg k,o,none⟩=some v:=by
  intro o v ho
  have:=hold.cells (g:=m.tg k) rfl o v ho
  rwa [Addr.add_lit,Nat.zero_add]at this
 have hxl:xs.length=h.hw k*S:=hold.1
 have hol:(xs++news).length=(h.hw k+mm)*S:=hown.1
 have hlt:h.hw k*S<(h.hw k+mm)*S:=by
  rw[Nat.add_mul]
  have:=Nat.mul_pos hm0 hsz
  omega
 -- cells that never turned stay
 have himm:∀ g' o v,m.imm g' o=some v→(if g'=g∧o<(h.hw k+mm)*S then(xs++news)[o]? else m.imm g' o)=some v∧w'.cell? ⟨g',o,none⟩=some v:=by
  intro g' o v hi
  have hc:=hw.imm _ _ _ hi
  by_cases e1:g'=g
  ·subst e1
   rcases hg with⟨hgt,hO⟩ | ⟨hgt,hN⟩
   ·have ho:o<h.hw k*S:=by
     rcases Nat.lt_or_ge o (h.hw k*S)with h1 | h1
     ·exact h1
     ·have:=hw.tfree k hk o (by rw[hE,hS];exact h1)
      rw[←hgt,hi]at this
      cases this
    have hx:xs[o]? =some v:=by
     have h1:=List.getElem?_eq_getElem (l:=xs) (i:=o) (by omega)
     have h2:=hocells o _ h1
     rw[←hgt,hc]at h2
     injection h2 with h2
     rw[h1,h2]
    have hx2:(xs++news)[o]? =some v:=by rw[List.getElem?_append_left (by omega)];exact hx
    exact⟨by rw[if_pos ⟨rfl,by omega⟩];exact hx2,hcells o v hx2⟩
   ·have:=hw.imm_lt hi
    omega
  ·refine⟨by rw[if_neg (fun hh=>e1 hh.1)];exact hi,?_⟩
   rcases hg with⟨hgt,hO⟩ | ⟨hgt,hN⟩
   ·rw[World.cell?_of_block (w:=w) (hO.block _ (hw.imm_lt hi) e1)]
    exact hc
   ·rw[World.cell?_of_block (w:=w) (hN.block _ (hw.imm_lt hi) id)]
    exact hc
 have hx:Ext m h {m with imm:=fun g' o=>if g'=g∧o<(h.hw k+mm)*S then(xs++news)[o]? else m.imm g' o,tg:=fun q=>if q=k then g else m.tg q,tc:=fun q=>if q=k then cap else m.tc q} (h.grow k (h.hw k+mm)):=by
  refine⟨rfl,Nat.le_refl _,Nat.le_refl _,fun b hb=>⟨rfl,rfl,rfl⟩,fun g' o v hi=>(himm g' o v hi).1,fun q hq=>⟨rfl,?_,fun he=> ?_⟩,fun _ _ h=>h⟩
  ·by_cases e1:q=k
   ·subst e1
    simp[AH.grow]
   ·simp[AH.grow,e1]
  ·by_cases e1:q=k
   ·subst e1
    simp[AH.grow]at he
    omega
   ·simp[e1]
 have hsize:w.heap.size≤w'.heap.size:=by
  rcases hg with⟨_,hO⟩ | ⟨_,hN⟩
  ·exact hO.size
  ·exact hN.size
 have hoth:∀ q,q<w.heap.size→q≠m.tg k→w'.heap[q]? =w.heap[q]? :=by
  intro q hq hne
  rcases hg with⟨hgt,hO⟩ | ⟨hgt,hN⟩
  ·exact hO.block q hq (fun e=>hne (e.trans hgt))
  ·exact hN.block q hq id
 have hgb:m.base≤g:=by
  rcases hg with⟨hgt,_⟩ | ⟨hgt,_⟩
  ·rw[hgt];exact htl.1
  ·rw[hgt];exact hw.size
 have hfresh:∀ b x,h.cell b=some x→m.blk b≠g:=by
  intro b x hb
  rcases hg with⟨hgt,_⟩ | ⟨hgt,_⟩
  ·rw[hgt];exact hw.tblk k hk b x hb
  ·have:=hw.below hb
   omega
 refine⟨_,hx,?_,?_,?_⟩
 ·refine⟨Nat.le_trans hw.size hsize,hw.lt,fun b x hb=> ?_,hw.inj,fun g' o v hi=> ?_,fun b x hb o=> ?_,fun q hq=> ?_,fun q hq o ho=> ?_,fun q hq b x hb=> ?_,fun q q' hq hq' he=> ?_,hw.good.keep hw.size fun g' hg' hlt=>hoth g' hg' (fun e=>by have:=htl.1;omega),fun j x hj=> ?_⟩
  ·obtain⟨cs,c1,c2,c3,c4,c5⟩:=hw.live b x hb
   refine⟨cs,(hoth _ c1.lt (hw.tblk k hk b x hb)).trans c1,c2,c3,c4,fun i hi j hj=> ?_⟩
   obtain⟨v,v1,v2⟩:=c5 i hi j hj
   exact⟨v,v1,v2.ext hx⟩
  ·simp only at hi
   split at hi
   ·rename_i hc
    rw[hc.1]
    exact hcells o v hi
   ·exact(himm g' o v hi).2
  ·simp only
   rw[if_neg (fun hh=>hfresh b x hb hh.1)]
   exact hw.sep b x hb o
  ·by_cases e1:q=k
   ·subst e1
    refine⟨xs++news,?_⟩
    simp only[if_true,AH.grow,hE,hS]
    exact hown
   ·obtain⟨ys,hy⟩:=hw.tip q hq
    refine⟨ys,?_⟩
    simp only[e1,if_false,AH.grow]
    have hne:m.tg q≠m.tg k:=fun e=>e1 (hw.tinj q k hq hk e)
    refine⟨hy.1,?_⟩
    rcases hy.2 with h1 | ⟨g2,cap2,cur,e2,hg2,hh2,r⟩
    ·exact .inl h1
    ·refine .inr ⟨g2,cap2,cur,e2,hg2,?_,r⟩
     simp at e2
     obtain⟨rfl,rfl⟩:=e2
     exact(hoth _ (hw.tip_lt hq).2 hne).trans hh2
  ·by_cases e1:q=k
   ·subst e1
    simp only[if_true,AH.grow,hE,hS]at ho ⊢
    rw[if_neg (by omega)]
    rcases hg with⟨hgt,_⟩ | ⟨hgt,_⟩
    ·rw[hgt]
     exact hw.tfree q hk o (by rw[hE,hS];omega)
    ·rcases hi:m.imm g o with _ | v
     ·rfl
     ·have:=hw.imm_lt hi
      omega
   ·simp only[e1,if_false,AH.grow]at ho ⊢
    have hne:m.tg q≠g:=by
     rcases hg with⟨hgt,_⟩ | ⟨hgt,_⟩
     ·rw[hgt];exact fun e=>e1 (hw.tinj q k hq hk e)
     ·have:=(hw.tip_lt hq).2
      omega
    rw[if_neg (fun hh=>hne hh.1)]
    exact hw.tfree q hq o ho
  ·by_cases e1:q=k
   ·simp only[e1,if_true]
    exact hfresh b x hb
   ·simp only[e1,if_false]
    exact hw.tblk q hq b x hb
  ·have hne:∀ q,q<h.ids→q≠k→m.tg q≠g:=by
    intro q hq e1
    rcases hg with⟨hgt,_⟩ | ⟨hgt,_⟩
    ·rw[hgt];exact fun e=>e1 (hw.tinj q k hq hk e)
    ·have:=(hw.tip_lt hq).2
     omega
   by_cases h1:q=k<;>by_cases h2:q'=k
   ·omega
   ·simp[h1,h2]at he
    exact absurd he.symm (hne q' hq' h2)
   ·simp[h1,h2]at he
    exact absurd he (hne q hq h1)
   ·simp[h1,h2]at he
    exact hw.tinj q q' hq hq' he
  ·obtain⟨a1,a2,a3,a4,a5⟩:=hw.jk j x hj
   have hjl:=hw.jk_lt hj
   have hjg:g≠j:=by
    rcases hg with⟨hgt,_⟩ | ⟨hgt,_⟩
    ·rw[hgt];exact a4 k hk
    ·omega
   refine⟨a1,(hoth j hjl (fun e=>a4 k hk e.symm)).trans a2,a3,fun q hq=> ?_,fun o=> ?_⟩
   ·by_cases e1:q=k
    ·simp only[e1,if_true]
     exact hjg
    ·simp only[e1,if_false]
     exact a4 q hq
   ·simp only
    rw[if_neg fun hh=>hjg hh.1.symm]
    exact a5 o
 ·obtain⟨r1,r2,r3⟩:=hrows
  have:=VR.isl (P:=P) (m:={m with imm:=fun g' o=>if g'=g∧o<(h.hw k+mm)*S then(xs++news)[o]? else m.imm g' o,tg:=fun q=>if q=k then g else m.tg q,tc:=fun q=>if q=k then cap else m.tc q}) (h:=h.grow k (h.hw k+mm))
   (some k) e es g 0 cap (fun i j=>((xs++news)[i*S+j]?).getD undef) (by rw[hS];exact r2) (fun i hi j hj=>by
    rw[hS]at hj ⊢
    have:=bV (s:=S) hi
    rw[hes]at this
    simp only[Nat.zero_add]
    rw[if_pos ⟨trivial,by omega⟩,List.getElem?_eq_getElem (by omega)]
    simp) (fun i hi j hj=>by
    obtain⟨v,v1,v2⟩:=r3 i hi j hj
    rw[v1,Option.getD_some]
    exact v2.ext hx) (by
    rw[hes]
    rcases hown.2 with⟨h1,h2⟩ | ⟨_,_,_,h1,_,_,h2,_⟩
    ·simp at h1
    ·simp at h1
     obtain⟨rfl,rfl⟩:=h1
     exact h2) (fun q hq=>by
    injection hq with hq
    subst hq
    exact⟨hk,hE,by simp[AH.grow,hes],fun _=>by simp⟩)
  rw[hes]at this
  exact this
 ·have hb:∀ q,q<m.base→w'.heap[q]? =w.heap[q]? :=fun q hq=>hoth q (by have:=hw.size;omega) (by have:=htl.1;omega)
  rcases hg with⟨_,hO⟩ | ⟨_,hN⟩
  ·exact⟨hO.os,hO.tape,hO.output,hO.size,hb⟩
  ·exact⟨hN.os,hN.tape,hN.output,hN.size,hb⟩
theorem WR.grownM (hw:WR P m h w) {b:Nat} {es:List (List AV)} (hb:h.cell b=some es) (e:TypeId) (he:m.bt b=e) {xs:List Value} {n g cap:Nat}
  (hown:w'.ownsRow m.base e (P.cellsOf e) (.slice (some ⟨g,0,none⟩) n cap) n xs)
  (hg:(g=m.blk b∧dS (fun q=>q=g) w w')∨(g=w.heap.size∧New w w')) (fs:List (List AV)) (hrows:gd P m h (P.cellsOf e) fs xs) (hfs:fs.length=n):
  ∃ m',Ext m h m' ((h.set b none).push fs)∧WR P m' ((h.set b none).push fs) w'∧VR P m' ((h.set b none).push fs) (.msl h.n 0 n e) (.slice (some ⟨g,0,none⟩) n cap)∧Below m.base w w':=by
 have hx:Ext m h {m with blk:=fun q=>if q=h.n then g else m.blk q,bt:=fun q=>if q=h.n then e else m.bt q,bsz:=fun q=>if q=h.n then cap*P.cellsOf e else m.bsz q} ((h.set b none).push fs):=
  ⟨rfl,by simp[AH.push,AH.set],by simp[AH.push,AH.set],fun q hq=>by simp[show q≠h.n by omega],fun _ _ _ h=>h,fun k hk=>⟨rfl,Nat.le_refl _,fun _=>⟨rfl,rfl⟩⟩,fun _ _ h=>h⟩
 have hsize:w.heap.size≤w'.heap.size:=by
  rcases hg with⟨_,hO⟩ | ⟨_,hN⟩
  ·exact hO.size
  ·exact hN.size
 have hoth:∀ q,q<w.heap.size→q≠m.blk b→w'.heap[q]? =w.heap[q]? :=by
  intro q hq hne
  rcases hg with⟨hgt,hO⟩ | ⟨hgt,hN⟩
  ·exact hO.block q hq (fun e=>hne (e.trans hgt))
  ·exact hN.block q hq id
 have hbn:=(hw.lt b es hb).1
 have hblt:=hw.below hb
 have cases_:∀ q x,((h.set b none).push fs).cell q=some x→(q=h.n∧x=fs)∨(q≠h.n∧q≠b∧h.cell q=some x):=by
  intro q x hq
  by_cases e1:q=h.n
  ·left
   subst e1
   simp[AH.push,AH.set]at hq
   exact⟨rfl,hq.symm⟩
  ·right
   by_cases e2:q=b
   ·simp[AH.push,AH.set,e1,e2]at hq
    subst e2
    simp[e1]at hq
   ·simp[AH.push,AH.set,e1,e2]at hq
    exact⟨e1,e2,hq⟩
 have hblk:∃ cur,Blk w' g e cur∧cur.size=cap*P.cellsOf e∧n≤cap∧cap≤maxLen∧cur.toList.take (n*P.cellsOf e)=xs∧m.base≤g:=by
  rcases hown.2 with⟨h1,h2⟩ | ⟨g2,cap2,cur,h1,h2,h3,h4,h5,h6,h7⟩
  ·simp at h1
  ·simp at h1
   obtain⟨rfl,rfl⟩:=h1
   exact⟨cur,h3,h6,h4,h5,h7,h2⟩
 obtain⟨cur,hcur,hcs,hncap,hmx,htake,hgb⟩:=hblk
 have hne:∀ q x,q≠b→h.cell q=some x→m.blk q≠g:=by
  intro q x hqb hq
  rcases hg with⟨hgt,_⟩ | ⟨hgt,_⟩
  ·rw[hgt];exact fun e=>hqb (hw.inj _ _ _ _ hq hb e)
  ·have:=hw.below hq
   omega
 have hgimm:∀ o,m.imm g o=none:=by
  intro o
  rcases hg with⟨hgt,_⟩ | ⟨hgt,_⟩
  ·rw[hgt];exact hw.sep b es hb o
  ·rcases hi:m.imm g o with _ | v
   ·rfl
   ·have:=hw.imm_lt hi
    omega
 obtain⟨r1,r2,r3⟩:=hrows
 refine⟨_,hx,?_,?_,?_⟩
 ·refine⟨Nat.le_trans hw.size hsize,fun q x hq=> ?_,fun q x hq=> ?_,fun q q' x x' hq hq' he=> ?_,fun g' o v hi=> ?_,fun q x hq o=> ?_,fun k hk=> ?_,fun k hk=>hw.tfree k hk,fun k hk q x hq=> ?_,fun k k' hk hk'=>hw.tinj k k' hk hk',hw.good.keep hw.size fun g' hg' hlt=>hoth g' hg' (fun e=>by have:=(hw.lt b es hb).2;omega),fun j x hj=> ?_⟩
  ·rcases cases_ q x hq with⟨rfl,rfl⟩ | ⟨e1,e2,h3⟩
   ·simp[AH.push,AH.set,hgb]
   ·have:=hw.lt q x h3
    simp[AH.push,AH.set,e1]
    omega
  ·rcases cases_ q x hq with⟨rfl,rfl⟩ | ⟨e1,e2,h3⟩
   ·refine⟨cur,by simpa using hcur,by simp[hcs],by simpa using r2,?_,fun i hi j hj=> ?_⟩
    ·simp only[if_true]
     rw[hfs,hcs]
     exact Nat.mul_le_mul_right _ hncap
    ·obtain⟨v,v1,v2⟩:=r3 i hi j hj
     refine⟨v,?_,v2.ext hx⟩
     simp only[if_true]
     rw[←htake]at v1
     have hlt:=(List.getElem?_eq_some_iff.1 v1).1
     simp at hlt
     rw[List.getElem?_take_of_lt (by omega)]at v1
     rw[←Array.getElem?_toList]
     exact v1
   ·obtain⟨cs,c1,c2,c3,c4,c5⟩:=hw.live q x h3
    refine⟨cs,?_,by simpa[e1]using c2,by simpa[e1]using c3,by simpa[e1]using c4,fun i hi j hj=> ?_⟩
    ·simp only[e1,if_false]
     exact(hoth _ c1.lt (fun e=>e2 (hw.inj _ _ _ _ h3 hb e))).trans c1
    ·obtain⟨v,v1,v2⟩:=c5 i hi j hj
     exact⟨v,by simpa[e1]using v1,v2.ext hx⟩
  ·rcases cases_ q x hq with⟨rfl,rfl⟩ | ⟨e1,e2,h3⟩<;>rcases cases_ q' x' hq' with⟨rfl,rfl⟩ | ⟨f1,f2,f3⟩
   ·rfl
   ·simp[f1]at he
    exact absurd he.symm (hne _ _ f2 f3)
   ·simp[e1]at he
    exact absurd he (hne _ _ e2 h3)
   ·simp[e1,f1]at he
    exact hw.inj _ _ _ _ h3 f3 he
  ·have hg':g'≠m.blk b:=fun e=>by
    simp only at hi
    rw[e,hw.sep b es hb o]at hi
    cases hi
   rw[World.cell?_of_block (w:=w) (hoth _ (hw.imm_lt hi) hg')]
   exact hw.imm g' o v hi
  ·rcases cases_ q x hq with⟨rfl,rfl⟩ | ⟨e1,e2,h3⟩
   ·simp only[if_true]
    exact hgimm o
   ·simp only[e1,if_false]
    exact hw.sep q x h3 o
  ·obtain⟨ys,hy⟩:=hw.tip k hk
   refine⟨ys,hy.1,?_⟩
   rcases hy.2 with h1 | ⟨g2,cap2,cur2,e2,hg2,hh2,r⟩
   ·exact .inl h1
   ·refine .inr ⟨g2,cap2,cur2,e2,hg2,?_,r⟩
    simp[AH.push,AH.set]at e2
    obtain⟨rfl,rfl⟩:=e2
    exact(hoth _ (hw.tip_lt hk).2 (fun e=>hw.tblk k hk b es hb e.symm)).trans hh2
  ·have hne2:g≠m.tg k:=by
    rcases hg with⟨hgt,_⟩ | ⟨hgt,_⟩
    ·rw[hgt];exact hw.tblk k hk b es hb
    ·have:=(hw.tip_lt hk).2
     omega
   rcases cases_ q x hq with⟨rfl,rfl⟩ | ⟨e1,e2,h3⟩
   ·simpa using hne2
   ·simp only[e1,if_false]
    exact hw.tblk k hk q x h3
  ·obtain⟨a1,a2,a3,a4,a5⟩:=hw.jk j x hj
   have hjl:=hw.jk_lt hj
   have hjg:g≠j:=by
    rcases hg with⟨hgt,_⟩ | ⟨hgt,_⟩
    ·rw[hgt];exact a3 b es hb
    ·omega
   refine⟨a1,(hoth j hjl (fun e=>a3 b es hb e.symm)).trans a2,fun q y hq=> ?_,a4,a5⟩
   rcases cases_ q y hq with⟨rfl,rfl⟩ | ⟨e1,e2,h3⟩
   ·simpa using hjg
   ·simp only[e1,if_false]
    exact a3 q y h3
 ·have:=VR.msl (P:=P) (m:={m with blk:=fun q=>if q=h.n then g else m.blk q,bt:=fun q=>if q=h.n then e else m.bt q,bsz:=fun q=>if q=h.n then cap*P.cellsOf e else m.bsz q}) (h:=(h.set b none).push fs) h.n 0 n e cap (by simp[AH.push,AH.set]) (by simp) (by simp) hncap hmx
  simpa using this
 ·have hb':∀ q,q<m.base→w'.heap[q]? =w.heap[q]? :=fun q hq=>hoth q (by have:=hw.size;omega) (by have:=(hw.lt b es hb).2;omega)
  rcases hg with⟨_,hO⟩ | ⟨_,hN⟩
  ·exact⟨hO.os,hO.tape,hO.output,hO.size,hb'⟩
  ·exact⟨hN.os,hN.tape,hN.output,hN.size,hb'⟩
theorem Fp (hT:mM P) (hw:WR P m h w) (ht:TR P m h t a.tmps) (ty:TypeId) (x y:Operand) (ho:o.op= .call {callee:= .builtin .append,args:= #[x,y],argTypes:=[ty,ty].toArray}) {e:TypeId} (he:dL P ty=some e) (hz:(d8 P e).isSome=true) (mu:Bool) {v:AV}
  (hv:aF mu e (evA t x) (evA t y) h=some (v,h')):OpR P m h a w o v h':=by
 have hes:=dP he
 have hpos:=gz hT he
 obtain⟨z,hz⟩:=Option.isSome_iff_exists.1 hz
 obtain⟨i,zv,hi,hvz,hl',hs,hr,hrun⟩:=dU (m:=m) (h:=h) (w:=w) hT hz
 have hi1:i.size=P.cellsOf e:=by simp[Program.cellsOf,hi]
 have hby:=hT.small e i (Dm hz) hi
 have vx:=aD ht x
 have vy:=aD ht y
 obtain⟨ux,hux⟩:∃ u,a.eval x=u:=⟨_,rfl⟩
 obtain⟨uy,huy⟩:∃ u,a.eval y=u:=⟨_,rfl⟩
 rw[hux]at vx
 rw[huy]at vy
 by_cases hyn:evA t y= .nils
 ·rw[hyn]at vy hv
  cases vy
  have fin:∀ {A n c},ux= .slice A n c→n≤c→VR P m h v (.slice A n c)→h'=h→OpR P m h a w o v h':=by
   intro A n c h1 h2 h3 h4
   subst h1
   subst h4
   exact OpR.pure hw (fQ ty [ty] x y ho hux huy (sB ty e [ty] hes (by rw[hi];simp) rfl _ A n c h2)) h3
  simp only[aF,kW]at hv
  cases hex:evA t x<;>rw[hex]at hv vx<;>simp only at hv<;>try (cases hv;done)
  ·injection hv with hv
   injection hv with h1 h2
   subst h1
   cases vx
   exact fin rfl (Nat.le_refl _) .nils h2.symm
  ·split at hv
   ·injection hv with hv
    injection hv with h1 h2
    subst h1
    have vx0:=vx
    cases vx with
    | isl0 e' a' cap=>exact fin rfl (Nat.zero_le _) vx0 h2.symm
    | isl id e' es g o' cap F hle hi' hvv hcap htt=>exact fin rfl hcap vx0 h2.symm
   ·cases hv
  ·split at hv
   ·injection hv with hv
    injection hv with h1 h2
    subst h1
    have vx0:=vx
    cases vx with
    | msl b o' n' e' cap hb he' hcap hnn hmx=>exact fin rfl hnn vx0 h2.symm
   ·cases hv
 ·have hv2:((bM h e (evA t y)).bind fun new=>if new.length=0 then kW e (evA t x) h else eF mu e (evA t x) new h)=some (v,h'):=by
   rw[←hv]
   unfold aF
   cases hey:evA t y<;>first | rfl | exact absurd hey hyn
  clear hv
  obtain⟨new,hnew,hv⟩:=Option.bind_eq_some_iff.1 hv2
  by_cases hz0:new.length=0
  ·rw[if_pos hz0]at hv
   obtain⟨ad,n,c,news,rfl,rfl,hrl,hcell⟩:=qz hw vy hyn hnew
   rw[hz0]at huy vy
   have fin:∀ {A n c'},ux= .slice A n c'→n≤c'→VR P m h v (.slice A n c')→h'=h→OpR P m h a w o v h':=by
    intro A n c' h1 h2 h3 h4
    subst h1
    subst h4
    exact OpR.pure hw (fQ ty [ty] x y ho hux huy (qG ty e [ty] hes (by rw[hi];simp) rfl _ A n c' h2 ad c)) h3
   simp only[kW]at hv
   cases hex:evA t x<;>rw[hex]at hv vx<;>simp only at hv<;>try (cases hv;done)
   ·injection hv with hv
    injection hv with h1 h2
    subst h1
    cases vx
    exact fin rfl (Nat.le_refl _) .nils h2.symm
   ·split at hv
    ·injection hv with hv
     injection hv with h1 h2
     subst h1
     have vx0:=vx
     cases vx with
     | isl0 e' a' cap=>exact fin rfl (Nat.zero_le _) vx0 h2.symm
     | isl id e' es g o' cap F hle hi' hvv hcap htt=>exact fin rfl hcap vx0 h2.symm
    ·cases hv
   ·split at hv
    ·injection hv with hv
     injection hv with h1 h2
     subst h1
     have vx0:=vx
     cases vx with
     | msl b o' n' e' cap hb he' hcap hnn hmx=>exact fin rfl hnn vx0 h2.symm
    ·cases hv
  rw[if_neg hz0]at hv
  unfold eF at hv
  split at hv
  ·rename_i hc
   obtain⟨c1,c2,c3⟩:=hc
   obtain⟨ad,n,c,news,rfl,rfl,hrl,hcell⟩:=qz hw vy hyn hnew
   have hone:=hrl.one hpos c3
   have hbd:∀ k,k≤1000000→(k+new.length)*i.bytes≤140737488355328:=by
    intro k hk
    have:(k+new.length)*i.bytes≤2000000*100000:=Nat.mul_le_mul (by omega) hby
    omega
   have hmxx:∀ k,k≤1000000→k+new.length≤maxLen:=by
    intro k hk
    unfold maxLen
    omega
   have hx_nil:evA t x= .nils→OpR P m h a w o v h':=by
    intro hex
    rw[hex]at hv vx
    simp only at hv
    cases vx
    obtain⟨g,cap,w',r1,r2,r3⟩:=l6 (P:=P) (w:=w) m.base ty o.type e i zv (P.cellsOf e) i.bytes hes hi hvz hi1 rfl (by rw[hs]) hpos (.slice none 0 0) 0 [] (World.ownsRow_nil _ _ _ _) ad new.length c (by omega) news hrl.1 hcell hone (hmxx 0 (by omega)) (hbd 0 (by omega)) hw.size
    simp only[Nat.zero_add,List.nil_append]at r1 r2
    rcases r3 with⟨h1,_⟩ | ⟨hg,hN⟩
    ·simp at h1
    ·have hop:=fQ (w':=w') ty [ty] x y ho hux huy r1
     obtain⟨q1,q2⟩:=r2
     rcases q2 with⟨h1,_⟩ | ⟨g2,cap2,cur,h1,h2,h3,h4,h5,h6,h7⟩
     ·simp at h1
     ·simp at h1
      obtain⟨rfl,rfl⟩:=h1
      have hk7:cur.toList.take (new.length*P.cellsOf e)=news:=h7
      have hv3:∀ i (hi:i<new.length) j (hj:j<new[i].length),∃ v,cur[i*P.cellsOf e+j]? =some v∧VR P m h new[i][j] v:=by
       intro i hi j hj
       obtain⟨v,v1,v2⟩:=hrl.2.2 i hi j hj
       rw[←hk7]at v1
       have hlt:=(List.getElem?_eq_some_iff.1 v1).1
       simp at hlt
       rw[List.getElem?_take_of_lt (by omega)]at v1
       exact⟨v,by rw[←Array.getElem?_toList];exact v1,v2⟩
      subst hg
      cases mu
      ·simp only[Bool.false_eq_true,if_false,Option.some.injEq,Prod.mk.injEq]at hv
       obtain⟨rfl,rfl⟩:=hv
       obtain⟨m',k1,k2,k3⟩:=hw.fresh w' e new cur cap hN h3 h6 h4 h5 hrl.2.1 hv3
       exact⟨m',w',_,.inl hop,k1,k2,k3,(New.below hN).mono hw.size⟩
      ·simp only[if_true,Option.some.injEq,Prod.mk.injEq]at hv
       obtain⟨rfl,rfl⟩:=hv
       obtain⟨m',k1,k2,k3,k4,k5⟩:=hw.push w' e new cur hN h3 (by rw[h6];exact Nat.mul_le_mul_right _ h4) hrl.2.1 hv3
       have k6:=VR.msl (P:=P) (m:=m') (h:=h.push new) h.n 0 new.length e cap (by simp[AH.push]) k4 (by rw[k5,h6,Nat.zero_add]) h4 h5
       rw[k3,Nat.zero_mul]at k6
       exact⟨m',w',_,.inl hop,k1,k2,k6,(New.below hN).mono hw.size⟩
   have hx_isl:∀ k z es,evA t x= .isl (some k) z es→OpR P m h a w o v h':=by
    intro k z es hex
    rw[hex]at hv vx
    simp only at hv
    split at hv
    ·rename_i hcond
     obtain⟨rfl,hhw,hles⟩:=hcond
     injection hv with hv
     injection hv with g1 g2
     subst g1
     subst g2
     cases vx with
     | isl id e' es g o' cap F hle hi' hvv hcap htt=>
       obtain⟨hk,hte,_,htip⟩:=htt k rfl
       obtain⟨rfl,rfl,rfl⟩:=htip hhw.symm
       obtain⟨xs,hxs⟩:=hw.tip k hk
       rw[hte,hhw]at hxs
       have hrx:gd P m h (P.cellsOf z) es xs:=Gw hw hxs hle (fun i hi j hj=>⟨F i j,by
        have:=hw.imm _ _ _ (hi' i hi j (by rw[←hle _ (List.getElem_mem hi)];exact hj))
        rwa [Nat.zero_add]at this,hvv i hi j hj⟩)
       obtain⟨g,cap2,w',r1,r2,r3⟩:=l6 (P:=P) (w:=w) m.base ty o.type z i zv (P.cellsOf z) i.bytes hes hi hvz hi1 rfl (by rw[hs]) hpos _ es.length xs hxs ad new.length c (by omega) news hrl.1 hcell hone (hmxx _ hles) (hbd _ hles) hw.size
       have hop:=fQ (w':=w') ty [ty] x y ho hux huy r1
       obtain⟨m',k1,k2,k3,k4⟩:=WR.grown hw hk (n:=es.length) (mm:=new.length) (xs:=xs) (news:=news) (g:=g) (cap:=cap2) (w':=w') hhw.symm c1 (by rw[hte];exact hxs) (by rw[hte];exact hpos) (by rw[hte];exact r2) (by
        rcases r3 with⟨q1,q2,_⟩ | q
        ·left
         simp at q1
         exact⟨q1.symm,q2⟩
        ·exact .inr q) (es++new) (by rw[hte];exact hrx.append hrl) (by simp)
       rw[hte]at k3
       exact⟨m',w',_,.inl hop,k1,k2,k3,k4⟩
    ·cases hv
   have hx_msl:∀ b o' n' z,evA t x= .msl b o' n' z→OpR P m h a w o v h':=by
    intro b o' n' z hex
    rw[hex]at hv vx
    simp only at hv
    split at hv
    ·rename_i hcond
     obtain⟨rfl,rfl,hles⟩:=hcond
     obtain⟨es,hb,hv⟩:=Option.bind_eq_some_iff.1 hv
     split at hv
     ·rename_i hn'
      injection hv with hv
      injection hv with g1 g2
      subst g1
      subst g2
      cases vx with
      | msl b o' n' e' cap hb' he' hcap hnn hmx=>
        obtain⟨cs,l1,l2,l3,l4,l5⟩:=hw.live b es hb
        rw[he']at l1 l3 l4 l5
        have hcsz:cs.size=cap*P.cellsOf z:=by rw[l2,←hcap,Nat.zero_add]
        have hnl:n'*P.cellsOf z≤es.length*P.cellsOf z:=Nat.mul_le_mul_right _ hn'
        have hown:w.ownsRow m.base z (P.cellsOf z) (.slice (some ⟨m.blk b,0,none⟩) n' cap) n' (cs.toList.take (n'*P.cellsOf z)):=
         ⟨by simp;omega,.inr ⟨m.blk b,cap,cs,rfl,(hw.lt b es hb).2,l1,hnn,hmx,hcsz,rfl⟩⟩
        have hrw:gd P m h (P.cellsOf z) (es.take n') (cs.toList.take (n'*P.cellsOf z)):=by
         have h1:gd P m h (P.cellsOf z) es (cs.toList.take (es.length*P.cellsOf z)):=by
          refine⟨by simp;omega,l3,fun i hi j hj=> ?_⟩
          obtain⟨v,v1,v2⟩:=l5 i hi j hj
          have:=bV (s:=P.cellsOf z) hi
          have hjs:j<P.cellsOf z:=by rw[←l3 _ (List.getElem_mem hi)];exact hj
          exact⟨v,by rw[List.getElem?_take_of_lt (by omega),Array.getElem?_toList];exact v1,v2⟩
         have h2:=h1.take n' hn'
         rwa [List.take_take,Nat.min_eq_left hnl]at h2
        obtain⟨g,cap2,w',r1,r2,r3⟩:=l6 (P:=P) (w:=w) m.base ty o.type z i zv (P.cellsOf z) i.bytes hes hi hvz hi1 rfl (by rw[hs]) hpos _ n' _ hown ad new.length c (by omega) news hrl.1 hcell hone (hmxx _ hles) (hbd _ hles) hw.size
        have hux':a.eval x= .slice (some ⟨m.blk b,0,none⟩) n' cap:=by rw[hux];simp
        have hop:=fQ (w':=w') ty [ty] x y ho hux' huy r1
        obtain⟨m',k1,k2,k3,k4⟩:=WR.grownM hw hb z he' (w':=w') (g:=g) (cap:=cap2) r2 (by
         rcases r3 with⟨q1,q2,_⟩ | q
         ·left
          simp at q1
          exact⟨q1.symm,q2⟩
         ·exact .inr q) (es.take n'++new) (hrw.append hrl) (by simp;omega)
        exact⟨m',w',_,.inl hop,k1,k2,k3,k4⟩
     ·cases hv
    ·cases hv
   cases hex:evA t x with
   | nils=>exact hx_nil hex
   | isl id z es=>
     cases id with
     | some k=>exact hx_isl k z es hex
     | none=>rw[hex]at hv;cases hv
   | msl b o' n' z=>exact hx_msl b o' n' z hex
   | _=>rw[hex]at hv;cases hv
  ·cases hv
theorem kU (base:Nat) (t u ty e:TypeId) (i:TypeInfo) (ht:P.underlying t=some (.slice e)) (hu:P.underlying u=some .string) (hi:P.info? e=some i) (hz:i.zero=some (.int .u8 0))
  (hsize:i.size=1) (hby:i.bytes=1) (v:Value) (n:Nat) (xs:List Value) (hown:w.ownsRow base e 1 v n xs) (s:ByteArray) (hm0:s.size≠0)
  (h63:n+s.size≤maxLen) (hbytes:n+s.size≤140737488355328) (hbase:base≤w.heap.size):
  ∃ g cap w',(Builtin.append_ #[t,u] ty #[v,.string s]).run P w= .ok (.slice (some ⟨g,0,none⟩) (n+s.size) cap) w'∧w'.ownsRow base e 1 (.slice (some ⟨g,0,none⟩) (n+s.size) cap) (n+s.size) (xs++Lib.strCells s)∧
    ((v.ownBlock=some g∧dS (fun k=>k=g) w w'∧∃ k,v= .slice (some ⟨g,0,none⟩) n k)∨(g=w.heap.size∧New w w')):=by
 have hsmall:n+s.size≤9223372036854775807:=by simp only[maxLen]at h63;omega
 have hxl:xs.length=n:=by simpa using hown.1
 have hlen:(xs++Lib.strCells s).length=(n+s.size)*1:=by rw[List.length_append,hxl,Lib.strCells_length,Nat.mul_one]
 have grown:∀ (old:Nat),old<n+s.size→
   (w.drew.alloc (.cells (xs.toArray++(Lib.strCells s).toArray++Builtin.zeroCells (Value.int .u8 0).cells (grownCap w (n+s.size) old e - (n+s.size))) e)).ownsRow base e 1
    (.slice (some ⟨w.heap.size,0,none⟩) (n+s.size) (grownCap w (n+s.size) old e)) (n+s.size) (xs++Lib.strCells s)∧
   New w (w.drew.alloc (.cells (xs.toArray++(Lib.strCells s).toArray++Builtin.zeroCells (Value.int .u8 0).cells (grownCap w (n+s.size) old e - (n+s.size))) e)):=by
  intro old ho
  have hge:=grownCap_ge w (n+s.size) old e
  have hcm:grownCap w (n+s.size) old e≤maxLen:=grownCap_le_maxLen w (n+s.size) old e h63
  refine⟨⟨hlen,.inr ⟨w.heap.size,_,_,rfl,hbase,heap_alloc_new w.drew _,hge,hcm,?_,?_⟩⟩,⟨rfl,rfl,rfl,by simp,fun k hk _=>heap_alloc_old w.drew _ hk⟩⟩
  ·have hz1:(Value.int IntKind.u8 0).cells.size=1:=rfl
   simp only[Array.size_append,List.size_toArray,size_zeroCells,hz1,hxl,Lib.strCells_length]
   omega
  ·simp only[Array.toList_append,List.append_assoc]
   rw[←List.append_assoc,←hlen]
   exact List.take_left
 rcases hown.2 with⟨rfl,rfl⟩ | ⟨g,cap,cur,rfl,hbg,hg,hnc,hcm,hcs,htake⟩
 ·have hx:xs=[]:=List.eq_nil_of_length_eq_zero hxl
  subst hx
  have hr:=run_append_nil_string (P:=P) w t u ty e i (.int .u8 0) ht hu hi hz s (by omega) (by omega) (by rw[hby];omega)
  have hgr:=grown 0 (by omega)
  simp only[Nat.zero_add,List.nil_append,Array.empty_append]at hgr ⊢
  have e1:(s.data.map fun b=>Value.int .u8 b.toNat)=(Lib.strCells s).toArray:=by
   apply Array.ext'
   simp[Lib.strCells]
  rw[e1]at hr
  exact⟨_,_,_,hr,hgr.1,.inr ⟨rfl,hgr.2⟩⟩
 ·by_cases hroom:n+s.size≤cap
  ·have hcs':cur.size=cap:=by simpa using hcs
   have hr:=Lib.run_append_room_string (P:=P) w t u ty e i ht hu hi hsize g n cap cur hg s hroom (by omega)
   refine⟨_,_,_,hr,⟨hlen,.inr ⟨g,cap,_,rfl,hbg,setRow_heap w g cur _ e _ hg,hroom,hcm,?_,?_⟩⟩,.inl ⟨rfl,⟨rfl,rfl,rfl,by simp,fun k _ hk=>setRow_other w g k _ hk⟩,⟨_,rfl⟩⟩⟩
   ·simp only[List.size_toArray,List.length_append,List.length_take,List.length_drop,Array.length_toList,Lib.strCells_length]
    omega
   ·have ht':cur.toList.take n=xs:=by simpa using htake
    rw[ht',←hlen]
    exact List.take_left
  ·have holds:∀ j u,xs[j]? =some u→w.cell? ((⟨g,0,none⟩:Addr).add j)=some u:=hown.cells (g:=g) rfl
   have hr:=Lib.run_append_grow_string (P:=P) w t u ty e i (.int .u8 0) ht hu hi hz ⟨g,0,none⟩ n cap xs (by rw[hsize];simpa using hxl) holds s (by omega) (by omega) (by rw[hby];exact growslice_fits (by omega) (by omega))
   have hgr:=grown cap (by omega)
   exact⟨_,_,_,hr,hgr.1,.inr ⟨rfl,hgr.2⟩⟩
theorem KT {e:TypeId} (h:Gl P e=true):∃ i,P.info? e=some i∧i.zero=some (.int .u8 0)∧i.size=1∧i.bytes=1∧P.cellsOf e=1:=by
 unfold Gl at h
 split at h
 ·rename_i i hi
  simp only[Bool.and_eq_true,beq_iff_eq]at h
  obtain⟨⟨h1,h2⟩,h3⟩:=h
  split at h1
  ·rename_i n hz
   have:n=0:=by simpa using h1
   subst this
   exact⟨i,hi,hz,h2,h3,by simp[Program.cellsOf,hi,h2]⟩
  ·cases h1
 ·cases h
theorem ui (l:List UInt8):gd P m h 1 (jq l) (Lib.strCells ⟨l.toArray⟩):=by
 refine⟨by simp[Lib.strCells],fun r hr=> ?_,fun i hi j hj=> ?_⟩
 ·obtain⟨c,_,rfl⟩:=List.mem_map.1 hr
  rfl
 ·have hi':i<l.length:=by simpa using hi
  have e:(jq l)[i]=[.int .u8 l[i].toNat]:=by simp[jq]
  have hj0:j=0:=by
   rw[e]at hj
   simpa using hj
  subst hj0
  refine⟨.int .u8 l[i].toNat,by simp[Lib.strCells,hi'],?_⟩
  simp only[e,List.getElem_cons_zero]
  exact .int _ _
theorem FJ {ty:TypeId} (h:eH P ty=true):P.underlying ty=some .string:=by
 unfold eH at h
 split at h
 ·assumption
 ·cases h
theorem qK (ty u e:TypeId) (hty:P.underlying ty=some (.slice e)) (hu:P.underlying u=some .string) {i:TypeInfo} (hi:P.info? e=some i) (hs:i.size=1) (rt:TypeId) (A:Option Addr) (n c:Nat) (hnc:n≤c):
  (Builtin.append_ #[ty,u] rt #[.slice A n c,.string ⟨#[]⟩]).run P w= .ok (.slice A n c) w:=by
 have hf:=Lib.run_firstCells_string (P:=P) w 1 ⟨#[]⟩
 have e0:(Lib.strCells ⟨#[]⟩)=[]:=rfl
 have e1:(⟨#[]⟩:ByteArray).size=0:=rfl
 rw[e0,e1]at hf
 cases A<;>simp[Builtin.append_,run_underlying hty,run_underlying hu,sizeOf,typeInfo,hi,hs,Builtin.lenOf,hnc,hf,e1,storeCells]
theorem BV (hw:WR P m h w) (ht:TR P m h t a.tmps) (ty tu:TypeId) (x y:Operand) (ho:o.op= .call {callee:= .builtin .append,args:= #[x,y],argTypes:=[ty,tu].toArray}) {e:TypeId} (he:dL P ty=some e) (hu:eH P tu=true) (h8:Gl P e=true) (mu:Bool) {v:AV}
  (hv:pf mu e (evA t x) (evA t y) h=some (v,h')):OpR P m h a w o v h':=by
 have hes:=dP he
 have hus:=FJ hu
 obtain⟨i,hi,hz,hs1,hb1,hc1⟩:=KT h8
 have vx:=aD ht x
 have vy:=aD ht y
 obtain⟨ux,hux⟩:∃ u,a.eval x=u:=⟨_,rfl⟩
 obtain⟨uy,huy⟩:∃ u,a.eval y=u:=⟨_,rfl⟩
 rw[hux]at vx
 rw[huy]at vy
 unfold pf at hv
 split at hv
 ·rename_i l hey
  rw[hey]at vy
  cases vy
  split at hv
  ·rename_i hz0
   obtain rfl:=List.length_eq_zero_iff.1 hz0
   have fin:∀ {A n c'},ux= .slice A n c'→n≤c'→VR P m h v (.slice A n c')→h'=h→OpR P m h a w o v h':=by
    intro A n c' h1 h2 h3 h4
    subst h1
    subst h4
    exact OpR.pure hw (fQ ty [tu] x y ho hux huy (qK ty tu e hes hus hi hs1 _ A n c' h2)) h3
   simp only[kW]at hv
   cases hex:evA t x<;>rw[hex]at hv vx<;>simp only at hv<;>try (cases hv;done)
   ·injection hv with hv
    injection hv with h1 h2
    subst h1
    cases vx
    exact fin rfl (Nat.le_refl _) .nils h2.symm
   ·split at hv
    ·injection hv with hv
     injection hv with h1 h2
     subst h1
     have vx0:=vx
     cases vx with
     | isl0 e' a' cap=>exact fin rfl (Nat.zero_le _) vx0 h2.symm
     | isl id e' es g o' cap F hle hi' hvv hcap htt=>exact fin rfl hcap vx0 h2.symm
    ·cases hv
   ·split at hv
    ·injection hv with hv
     injection hv with h1 h2
     subst h1
     have vx0:=vx
     cases vx with
     | msl b o' n' e' cap hb he' hcap hnn hmx=>exact fin rfl hnn vx0 h2.symm
    ·cases hv
  ·rename_i hz0
   split at hv
   ·rename_i hl9
    have hsz:(⟨l.toArray⟩:ByteArray).size=l.length:=qQ l
    split at hv
    ·rename_i hex
     rw[hex]at vx
     cases vx
     split at hv
     ·rename_i hmu
      injection hv with hv
      injection hv with g1 g2
      subst g1
      subst g2
      obtain⟨g,cap,w',r1,r2,r3⟩:=kU (P:=P) (w:=w) m.base ty tu o.type e i hes hus hi hz hs1 hb1 (.slice none 0 0) 0 [] (World.ownsRow_nil _ _ _ _) ⟨l.toArray⟩ (by rw[hsz];exact hz0) (by rw[hsz];unfold maxLen;omega) (by rw[hsz];omega) hw.size
      rw[hsz]at r1 r2
      simp only[Nat.zero_add,List.nil_append]at r1 r2
      rcases r3 with⟨q1,_⟩ | ⟨hg,hN⟩
      ·simp at q1
      ·have hop:=fQ (w':=w') ty [tu] x y ho hux huy r1
       obtain⟨q1,q2⟩:=r2
       rcases q2 with⟨h1,_⟩ | ⟨g2,cap2,cur,h1,h2,h3,h4,h5,h6,h7⟩
       ·simp at h1
       ·simp at h1
        obtain⟨rfl,rfl⟩:=h1
        have hrl:=ui (P:=P) (m:=m) (h:=h) l
        have hv3:∀ i (hi:i<(jq l).length) j (hj:j<(jq l)[i].length),∃ v,cur[i*P.cellsOf e+j]? =some v∧VR P m h (jq l)[i][j] v:=by
         intro i hi j hj
         obtain⟨v,v1,v2⟩:=hrl.2.2 i hi j hj
         rw[←h7]at v1
         have hlt:=(List.getElem?_eq_some_iff.1 v1).1
         simp at hlt
         rw[List.getElem?_take_of_lt (by omega)]at v1
         exact⟨v,by rw[hc1,←Array.getElem?_toList];exact v1,v2⟩
        subst hg
        obtain⟨m',k1,k2,k3,k4,k5⟩:=hw.push w' e (jq l) cur hN h3 (by rw[h6,hc1];simp;omega) (by rw[hc1];exact hrl.2.1) hv3
        have k6:=VR.msl (P:=P) (m:=m') (h:=h.push (jq l)) h.n 0 l.length e cap (by simp[AH.push]) k4 (by rw[k5,h6,Nat.zero_add,hc1]) h4 h5
        rw[k3,Nat.zero_mul]at k6
        exact⟨m',w',_,.inl hop,k1,k2,k6,(New.below hN).mono hw.size⟩
     ·cases hv
    ·rename_i b o' n' z hex
     rw[hex]at vx
     split at hv
     ·rename_i hcond
      obtain⟨rfl,rfl,hles⟩:=hcond
      obtain⟨es,hb,hv⟩:=Option.bind_eq_some_iff.1 hv
      split at hv
      ·rename_i hn'
       injection hv with hv
       injection hv with g1 g2
       subst g1
       subst g2
       cases vx with
       | msl b o' n' e' cap hb' he' hcap hnn hmx=>
         obtain⟨cs,l1,l2,l3,l4,l5⟩:=hw.live b es hb
         rw[he',hc1]at l3 l4 l5
         rw[he']at l1
         have hcsz:cs.size=cap*1:=by rw[l2,←hcap,Nat.zero_add,hc1]
         have hown:w.ownsRow m.base z 1 (.slice (some ⟨m.blk b,0,none⟩) n' cap) n' (cs.toList.take (n'*1)):=
          ⟨by simp;omega,.inr ⟨m.blk b,cap,cs,rfl,(hw.lt b es hb).2,l1,hnn,hmx,hcsz,rfl⟩⟩
         have hrw:gd P m h 1 (es.take n') (cs.toList.take (n'*1)):=by
          have h1:gd P m h 1 es (cs.toList.take (es.length*1)):=by
           refine⟨by simp;omega,l3,fun i hi j hj=> ?_⟩
           obtain⟨v,v1,v2⟩:=l5 i hi j hj
           have:=bV (s:=1) hi
           have hjs:j<1:=by rw[←l3 _ (List.getElem_mem hi)];exact hj
           exact⟨v,by rw[List.getElem?_take_of_lt (by omega),Array.getElem?_toList];exact v1,v2⟩
          have h2:=h1.take n' hn'
          rwa [List.take_take,Nat.min_eq_left (by omega)]at h2
         obtain⟨g,cap2,w',r1,r2,r3⟩:=kU (P:=P) (w:=w) m.base ty tu o.type z i hes hus hi hz hs1 hb1 _ n' _ hown ⟨l.toArray⟩ (by rw[hsz];exact hz0) (by rw[hsz];unfold maxLen;omega) (by rw[hsz];omega) hw.size
         rw[hsz]at r1 r2
         have hux':a.eval x= .slice (some ⟨m.blk b,0,none⟩) n' cap:=by rw[hux];simp
         have hop:=fQ (w':=w') ty [tu] x y ho hux' huy r1
         obtain⟨m',k1,k2,k3,k4⟩:=WR.grownM hw hb z he' (w':=w') (g:=g) (cap:=cap2) (by rw[hc1];exact r2) (by
          rcases r3 with⟨q1,q2,_⟩ | q
          ·left
           simp at q1
           exact⟨q1.symm,q2⟩
          ·exact .inr q) (es.take n'++jq l) (by rw[hc1];exact hrw.append (ui l)) (by simp;omega)
         exact⟨m',w',_,.inl hop,k1,k2,k3,k4⟩
      ·cases hv
     ·cases hv
    ·cases hv
   ·cases hv
 ·cases hv
end
open Go Go.RowKit
section
variable {P:Program} {m m':Mm} {h h':AH} {w w':World} {t:List AV} {a:Act} {o:Oper}
theorem wL (hT:mM P) (hw:WR P m h w) (ht:TR P m h t a.tmps) {v:AV} (he:bN P t o=some v):OpR P m h a w o v h:=by
 unfold bN at he
 split at he
 ·rename_i x ho
  injection he with h1
  subst h1
  exact C8 hw ht x (.inl ho)
 ·rename_i x ho
  injection he with h1
  subst h1
  exact C8 hw ht x (.inr ho)
 ·rename_i c x y ho
  split at he
  ·rename_i b hb
   injection he with h1
   subst h1
   exact KF hw ht c x y ho hb
  ·cases he
 ·rename_i ty parts ho
  obtain⟨z,hz,he⟩:=Option.bind_eq_some_iff.1 he
  split at he
  ·rename_i pl hpl
   split at he
   ·rename_i hall
    obtain⟨cs,hcs,h1⟩:=Option.map_eq_some_iff.1 he
    subst h1
    exact zD hT hw ht ty parts ho hz (.inl ⟨pl,hpl,by simpa using hall,hcs⟩)
   ·cases he
  ·obtain⟨q,hq,he⟩:=Option.bind_eq_some_iff.1 he
   split at he
   ·cases he
   ·rename_i hnz
    obtain⟨cs,hcs,h1⟩:=Option.map_eq_some_iff.1 he
    subst h1
    exact zD hT hw ht ty parts ho hz (.inr ⟨q.1,q.2,hq,hnz,hcs⟩)
 ·rename_i x ho
  split at he<;>first | (cases he;done) | skip
  all_goals
   rename_i hx
   injection he with h1
   subst h1
   exact Ak hw ht x ho hx rfl
 ·rename_i op ty x y yt ho
  have hx:=aD ht x
  have hy:=aD ht y
  split at he
  ·rename_i ex ey
   rw[ex]at hx
   rw[ey]at hy
   obtain⟨u1,hu1⟩:∃ u,a.eval x=u:=⟨_,rfl⟩
   obtain⟨u2,hu2⟩:∃ u,a.eval y=u:=⟨_,rfl⟩
   rw[hu1]at hx
   rw[hu2]at hy
   cases hx
   cases hy
   have key:∀ c,y= .const c→bK P ty= .iface→∀ b,(op= .eql∧b=true)∨(op= .neq∧b=false)→(execOp a.eval o).run P w= .ok (.value (.bool b)) w:=by
    intro c hyc hk b hop
    subst hyc
    have hd:=hk
    unfold bK at hd
    split at hd<;>simp at hd
    rename_i ms hun
    have heq:(Op.equal ty .nilIface .nilIface).run P w= .ok true w:=by
     have h0:∀ d,(Op.equalIn (d+1) ty .nilIface .nilIface).run P w= .ok true w:=fun d=>by simp[Op.equalIn,run_underlying hun]
     exact h0 9999
    have hg:(eqGuard op ty x (.const c) .nilIface .nilIface).run P w= .ok () w:=by
     rcases hop with⟨rfl,_⟩ | ⟨rfl,_⟩<;>cases x<;>rfl
    rcases hop with⟨rfl,rfl⟩ | ⟨rfl,rfl⟩
    ·have e1:binOp .eql ty .nilIface .nilIface=(do pure (.bool (←Op.equal ty .nilIface .nilIface)):Sem Value):=rfl
     simp only[execOp,ho,hu1,hu2,Sem.run_bind,hg,Result.andThen_ok,e1,heq,Sem.run_pure]
    ·have e1:binOp .neq ty .nilIface .nilIface=(do pure (.bool (!(←Op.equal ty .nilIface .nilIface))):Sem Value):=rfl
     simp only[execOp,ho,hu1,hu2,Sem.run_bind,hg,Result.andThen_ok,e1,heq,Sem.run_pure]
     rfl
   split at he
   ·rename_i c hk
    injection he with h1
    subst h1
    exact OpR.pure hw (key _ rfl hk true (.inl ⟨rfl,rfl⟩)) (.bool _)
   ·rename_i c hk
    injection he with h1
    subst h1
    exact OpR.pure hw (key _ rfl hk false (.inr ⟨rfl,rfl⟩)) (.bool _)
   ·cases he
  ·rename_i xs ys ex ey
   obtain⟨ks,hks,he⟩:=Option.bind_eq_some_iff.1 he
   split at he
   ·obtain⟨b,hb,h1⟩:=Option.map_eq_some_iff.1 he
    subst h1
    exact zO hw ht _ ty yt x y ho ex ey hks hb (.inl ⟨rfl,rfl⟩)
   ·obtain⟨b,hb,h1⟩:=Option.map_eq_some_iff.1 he
    subst h1
    exact zO hw ht _ ty yt x y ho ex ey hks hb (.inr ⟨rfl,rfl⟩)
   ·cases he
  ·rename_i hno1 hno2
   have hr:=he
   clear he
   obtain⟨u1,hu1⟩:∃ u,a.eval x=u:=⟨_,rfl⟩
   obtain⟨u2,hu2⟩:∃ u,a.eval y=u:=⟨_,rfl⟩
   rw[hu1]at hx
   rw[hu2]at hy
   generalize evA t x=ex at*
   generalize evA t y=ey at*
   unfold bw at hr
   split at hr
   ·rename_i k a' k' b'
    cases hx
    cases hy
    obtain⟨u,r1,r2⟩:=JZ (P:=P) (m:=m) (h:=h) (w:=w) op ty k k' a' b' (bK P ty) hr
    exact OpR.pure hw (qM op ty yt x y ho hu1 hu2 rfl r1) r2
   ·rename_i a' b'
    cases hx
    cases hy
    obtain⟨u,r1,r2⟩:=JS (P:=P) (m:=m) (h:=h) (w:=w) op ty a' b' (bK P ty) hr
    exact OpR.pure hw (qM op ty yt x y ho hu1 hu2 rfl r1) r2
   ·split at hr
    ·obtain⟨b,hb,hr⟩:=Option.map_eq_some_iff.1 hr
     subst hr
     obtain⟨e1,e2,e3⟩:=Ge (w:=w) ty hb hx hy
     exact OpR.pure hw (qM _ ty yt x y ho hu1 hu2 e1 e2) (.bool _)
    ·obtain⟨b,hb,hr⟩:=Option.map_eq_some_iff.1 hr
     subst hr
     obtain⟨e1,e2,e3⟩:=Ge (w:=w) ty hb hx hy
     exact OpR.pure hw (qM _ ty yt x y ho hu1 hu2 e1 e3) (.bool _)
    ·cases hr
 ·rename_i op ty x ho
  have hu:=he
  exact Kn hw ht op ty x ho hu
 ·rename_i src dst x ho
  split at he
  ·cases he
  ·rename_i hn
   have hu:=he
   exact Ca hw ht src dst x ho (by cases hs:P.underlying src<;>simp_all) hu
 ·rename_i ty x ho
  split at he
  ·cases he
  ·rename_i hp
   have hp':kB P ty=true:=by simpa using hp
   split at he
   ·injection he with h1
    subst h1
    exact j6 hw ht ty x ho hp'
   ·split at he
    ·rename_i cs hcs
     injection he with h1
     subst h1
     rw[←hcs]
     exact j6 hw ht ty x ho hp'
    ·cases he
 ·rename_i f first captured ho
  split at he
  ·rename_i g
   injection he with h1
   subst h1
   exact zu hw ht g first captured ho
  ·cases he
 ·rename_i ty x lo hi mx ho
  split at he
  ·cases he
  ·rename_i hcond
   have hu:=he
   simp only[Bool.or_eq_true,Bool.not_eq_true',not_or,Bool.not_eq_true,Bool.not_eq_false]at hcond
   obtain⟨c1,c2⟩:=hcond
   cases mx with
   | some mx=>simp at c1
   | none=>exact HN hT hw ht ty x lo hi ho c2 hu
 ·rename_i s x f ho
  obtain⟨q,hq,he⟩:=Option.bind_eq_some_iff.1 he
  split at he
  ·cases he
  ·rename_i hnz
   have hu:=he
   exact wC hw ht s x f ho hq hnz hu
 ·rename_i s x f ho
  obtain⟨q,hq,he⟩:=Option.bind_eq_some_iff.1 he
  split at he
  ·rename_i cs hcs
   split at he
   ·cases he
   ·rename_i hcond
    have hu:=he
    exact IN hw ht s x f ho hq (fun h=>hcond (.inl h)) (by
     intro hn
     exact hcond (.inr (by simp[hn]))) hcs hu
  ·cases he
 ·rename_i ty x ix ho
  have hu:=he
  exact xR hT hw ht ty x ix ho hu
 ·rename_i ty x ix ho
  have hu:=he
  exact Jz hw ht ty x ix ho hu
 ·rename_i x xt aS ok ho
  split at he
  ·rename_i q v' hx
   split at he
   ·rename_i hc
    obtain⟨c1,c2⟩:=hc
    subst c2
    injection he with h1
    subst h1
    exact uv hw ht x xt q ok ho hx c1
   ·cases he
  ·cases he
 ·rename_i x i ho
  split at he
  ·rename_i vs hx
   have hu:=he
   exact Bq hw ht x i ho hx hu
  ·cases he
 ·rename_i args argTypes ho
  have eA:∀ (l:List Operand),args.toList=l→args=l.toArray:=fun l hl=>by rw[←hl]
  have eT:∀ (l:List TypeId),argTypes.toList=l→argTypes=l.toArray:=fun l hl=>by rw[←hl]
  split at he
  ·rename_i x ty tys ha hty
   obtain rfl:=eA _ ha
   obtain rfl:=eT _ hty
   split at he
   ·rename_i hf
    obtain⟨n,hn,h1⟩:=Option.map_eq_some_iff.1 he
    subst h1
    exact Oh hw ht x ty tys ho hf hn
   ·cases he
  ·cases he
 ·rename_i args argTypes ho
  split at he
  ·rename_i x y ha
   obtain rfl:args=[x,y].toArray:=by rw[←ha]
   exact Ng hw ht false x y _ ho rfl rfl he
  ·cases he
 ·rename_i args argTypes ho
  split at he
  ·rename_i x y ha
   obtain rfl:args=[x,y].toArray:=by rw[←ha]
   exact Ng hw ht true x y _ ho rfl rfl he
  ·cases he
 ·cases he
theorem nM (hT:mM P) (hw:WR P m h w) (ht:TR P m h t a.tmps) (mu:TypeId→Bool) {v:AV} (he:aP P mu t h o=some (v,h')):OpR P m h a w o v h':=by
 unfold aP at he
 split at he
 ·rename_i e ho
  obtain⟨z,hz,he⟩:=Option.map_eq_some_iff.1 he
  injection he with h1 h2
  subst h1;subst h2
  split
  ·exact FA hT hw e ho hz
  ·exact Ie hT hw e ho hz
 ·rename_i e x ho
  split at he
  ·rename_i hc
   injection he with he
   injection he with h1 h2
   subst h1;subst h2
   split
   ·exact Ll hw ht e x ho hc.1 hc.2
   ·exact Nz hw ht e x ho hc.1 hc.2
  ·cases he
 ·rename_i ty len parts ho
  obtain⟨e,he1,he⟩:=Option.bind_eq_some_iff.1 he
  obtain⟨z,hz,he⟩:=Option.bind_eq_some_iff.1 he
  split at he
  ·rename_i hc
   obtain⟨es,hes,he⟩:=Option.map_eq_some_iff.1 he
   have:=ul hT hw ht ty len parts ho he1 hz hes hc
   split at he
   ·injection he with h1 h2
    subst h1;subst h2
    exact this.1
   ·injection he with h1 h2
    subst h1;subst h2
    exact this.2
  ·cases he
 ·rename_i ty x ho
  split at he
  ·cases he
  ·rename_i hn
   obtain⟨u,hu,he⟩:=Option.map_eq_some_iff.1 he
   injection he with h1 h2
   subst h1;subst h2
   obtain⟨d,hd⟩:=Option.isSome_iff_exists.1 (by cases hu2:P.underlying ty<;>simp_all:(P.underlying ty).isSome=true)
   obtain⟨i,hi⟩:=rD hd
   exact Kc hw ht ty x ho hd (by rw[hi];simp) hu
 ·rename_i ty x y ho
  split at he
  ·cases he
  ·rename_i hn
   obtain⟨h2,hst,he⟩:=Option.map_eq_some_iff.1 he
   injection he with e1 e2
   subst e1;subst e2
   obtain⟨i,hi,_⟩:=cH hn
   exact In hw ht ty x y ho (by rw[hi];simp) hst
 ·rename_i ty l c ho
  split at he
  ·rename_i k1 n k2 n2 hl hc
   obtain⟨e,he1,he⟩:=Option.bind_eq_some_iff.1 he
   obtain⟨z,hz,he⟩:=Option.bind_eq_some_iff.1 he
   split at he
   ·rename_i hcond
    obtain⟨c1,c2,c3⟩:=hcond
    have hc':evA t c= .int k2 n:=by rw[hc,←c2]
    injection he with he
    injection he with h1 h2
    subst h1;subst h2
    exact wG hT hw ht ty l c ho he1 hz hl hc' c1 c3
   ·cases he
  ·cases he
 ·rename_i args argTypes ho
  have eA:∀ (l:List Operand),args.toList=l→args=l.toArray:=fun l hl=>by rw[←hl]
  have eT:∀ (l:List TypeId),argTypes.toList=l→argTypes=l.toArray:=fun l hl=>by rw[←hl]
  split at he
  ·rename_i x y ty ty' ha hty
   obtain rfl:=eA _ ha
   obtain rfl:=eT _ hty
   split at he
   ·rename_i hte
    subst hte
    obtain⟨e,he1,he⟩:=Option.bind_eq_some_iff.1 he
    split at he
    ·rename_i hz
     exact Fp hT hw ht ty x y ho he1 hz (mu ty) he
    ·cases he
   ·split at he
    ·rename_i hst
     obtain⟨e,he1,he⟩:=Option.bind_eq_some_iff.1 he
     split at he
     ·rename_i h8
      exact BV hw ht ty ty' x y ho he1 hst h8 (mu ty) he
     ·cases he
    ·cases he
  ·cases he
 ·obtain⟨u,hu,he⟩:=Option.map_eq_some_iff.1 he
  injection he with h1 h2
  subst h1;subst h2
  exact wL hT hw ht hu
end
end Go.Proofs.Ytkdbjfncchmmpaa
