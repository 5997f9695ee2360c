/- A call does in memory what the plain model says: what is to be shown, and the steps of the machine. Statements whose order Go leaves open: the plain facts. Statements whose order Go leaves open: the run of a plan, step by step, and what of it is true in every order. The run of a plan seen from its end: what each operation looks at stays. In every order that Go leaves open a statement comes to what its plan comes to. The memory that a call made may be forgotten. What the plain model says of a call is what the machine does. -/
import Derived.Test.YtngphebjmmencaaDoorMg3
import Derived.Orders
namespace Go.Proofs.YtngphebjmmencaaDoor
set_option linter.unusedSimpArgs false
set_option linter.unusedVariables false
open Go Go.RowKit

/-- what is shown of a call: whatever the memory that the model speaks of -/
def AC (P : Program) (g : FuncId) (args : List AV) (h : AH) (r : (AV ⊕ AV) × AH) : Prop :=
  ∀ (m : Mm) (w : World) (vs : List Value), WR P m h w → VRs P m h args vs → Calls P g vs.toArray w fun e w' => ∃ m', Ext m h m' r.2 ∧ WR P m' r.2 w' ∧ Below m.base w w' ∧
    match r.1 with
    | .inl v => ∃ u, e = .returned u ∧ VR P m' r.2 v u
    | .inr v => ∃ u, e = .panicked [{ v := u, recovered := false }] ∧ VR P m' r.2 v u

structure POK (P : Program) (po : Pol) : Prop where
  ty : TyOK P
  name : ∀ (g : Nat) (fn : Func), P.funcs[g]? = some fn → po.use g = true → (fn.name == "runtime.NumGoroutine") = false
  ext : ∀ g F, po.ext g = some F → ∃ fn, P.funcs[g]? = some fn ∧ (fn.body.isNone = false ∧ (fn.name == "runtime.NumGoroutine") = false) ∧ ∀ args h r, F args h = some r → AC P g args h r
  plan : ∀ (g : Nat) (fn : Func) (c : Code), P.funcs[g]? = some fn → fn.body = some c → po.use g = true → regOK (po.plan g) (po.kp g) c = true
  mixed : P.follows .mixedOrders = true

def OutR (P : Program) (S : Nat → Bool) (m : Mm) (h : AH) (w : World) (b : Frame) (cs : List Frame) (mach : Machine) (r : AEx × List AV × AH) : Prop :=
  ∃ m' w', Ext m h m' r.2.2 ∧ WR P m' r.2.2 w' ∧ Below m.base w w' ∧
    match r.1 with
    | .ret => ∃ (a' : Act) (todo : List Item), TR P m' r.2.2 r.2.1 a'.tmps ∧ a'.defers = b.defers ∧ Steps P mach (lone { b.at a' todo with mode := .returning } cs w')
    | .panic v => ∃ (a' : Act) (todo : List Item) (u : Value), (∃ tm, TR P m' r.2.2 tm a'.tmps ∧ ∀ d, S d = true → tm.getD d .junk = r.2.1.getD d .junk) ∧ a'.defers = b.defers ∧ VR P m' r.2.2 v u ∧ Steps P mach (lone { b.at a' todo with mode := .panicking [{ v := u, recovered := false }] } cs w')
    | .halt K => ∃ (a' : Act), TR P m' r.2.2 r.2.1 a'.tmps ∧ a'.defers = b.defers ∧ Steps P mach (lone (b.at a' K) cs w')

section
variable {P : Program} {m m1 m' : Mm} {h h1 h' : AH} {w w1 w' : World} {t : List AV} {a : Act} {o : Oper} {b : Frame} {cs : List Frame} {mach mach' : Machine} {r : AEx × List AV × AH}

theorem OutR.steps {S : Nat → Bool} (hs : Steps P mach mach') (ho : OutR P S m h w b cs mach' r) : OutR P S m h w b cs mach r := by
  obtain ⟨m', w', h1, h2, h3, h4⟩ := ho
  refine ⟨m', w', h1, h2, h3, ?_⟩
  split at h4
  · rename_i hr
    obtain ⟨a', todo, k1, k2, k3⟩ := h4
    exact ⟨a', todo, k1, k2, hs.trans k3⟩
  · rename_i v hr
    obtain ⟨a', todo, u, k0, k1, k2, k3⟩ := h4
    exact ⟨a', todo, u, k0, k1, k2, hs.trans k3⟩
  · rename_i K hr
    obtain ⟨a', k1, k2, k3⟩ := h4
    exact ⟨a', k1, k2, hs.trans k3⟩
theorem OutR.after {S : Nat → Bool} (hx : Ext m h m1 h1) (hb : Below m.base w w1) (ho : OutR P S m1 h1 w1 b cs mach r) : OutR P S m h w b cs mach r := by
  obtain ⟨m', w', k1, k2, k3, k4⟩ := ho
  exact ⟨m', w', hx.trans k1, k2, hb.trans (by rw [← hx.base]; exact k3), k4⟩

theorem TR.clear (ht : TR P m h t a.tmps) (n : Nat) : TR P m h (clearA n t) a.tmps := by
  refine ⟨by rw [ht.1, clearA]; simp; omega, fun i hi => ?_⟩
  unfold clearA at hi ⊢
  by_cases hin : i < (t.take n).length
  · rw [List.getElem_append_left hin, List.getElem_take]
    exact ht.2 i _
  · rw [List.getElem_append_right (by omega)]
    simp only [List.getElem_replicate]
    exact .junk _

/-- one operation is carried out -/
theorem step_value {all : Array Oper} {i : Nat} {rest : List Nat} {k : List Item} {u : Value} (ho : all[i]? = some o) (hwa : Region.wanted o (yielded all a.tmps) = true)
    (hr : (execOp a.eval o).run P w = .ok (.value u) w' ∨ ((execOp a.eval o).run P w = .ok .skip w' ∧ u = undef)) :
    Steps P (lone (b.at a (.inRegion all (i :: rest) :: k)) cs w) (lone (b.at (a.put o.dst u) (.inRegion all rest :: k)) cs w') := by
  have hg := stepG_op (P := P) (b := b) (k := k) (cs := cs) (w := w) (rest := rest) ho hwa
  have hfin : ∀ v, (b.at a (.inRegion all (i :: rest) :: k)).finish v = b.at (a.put o.dst v) (.inRegion all rest :: k) := by
    intro v; rw [Frame.finish_at, ho]; rfl
  refine .one (step_lone_go ?_)
  rcases hr with hr | ⟨hr, rfl⟩
  · rw [hg, ← hfin]; simp [stepG.apply, hr]
  · rw [hg, ← hfin]; simp [stepG.apply, hr]
theorem step_skip_op {all : Array Oper} {i : Nat} {rest : List Nat} {k : List Item} (ho : all[i]? = some o) (hwa : Region.wanted o (yielded all a.tmps) = false) :
    Steps P (lone (b.at a (.inRegion all (i :: rest) :: k)) cs w) (lone (b.at (a.put o.dst undef) (.inRegion all rest :: k)) cs w) := by
  have hs := step_op_skip (P := P) (b := b) (a := a) (k := k) (cs := cs) (w := w) (ops := all) (i := i) (rest := rest) (by simp [ho]; simpa using hwa)
  simp only [ho, Option.bind_some] at hs
  exact .one hs
/-- a call -/
theorem step_call {all : Array Oper} {i : Nat} {rest : List Nat} {k : List Item} {f : FuncId} {args : Array Value} {R : Ending → World → Prop} (ho : all[i]? = some o) (hwa : Region.wanted o (yielded all a.tmps) = true)
    (hr : (execOp a.eval o).run P w = .ok (.enter f args) w) (hc : Calls P f args w R) (hno : ∀ w', ¬ R .outgrown w') :
    ∃ e w', R e w' ∧ ((∃ v, e = .returned v ∧ Steps P (lone (b.at a (.inRegion all (i :: rest) :: k)) cs w) (lone (b.at (a.put o.dst v) (.inRegion all rest :: k)) cs w')) ∨
      (∃ ch, e = .panicked ch ∧ ∃ todo, Steps P (lone (b.at a (.inRegion all (i :: rest) :: k)) cs w) (lone { b.at a todo with mode := .panicking ch } cs w'))) := by
  have hg := stepG_op (P := P) (b := b) (k := k) (cs := cs) (w := w) (rest := rest) ho hwa
  have hfin : ∀ v, (b.at a (.inRegion all (i :: rest) :: k)).finish v = b.at (a.put o.dst v) (.inRegion all rest :: k) := by
    intro v; rw [Frame.finish_at, ho]; rfl
  obtain ⟨e, w'', fr, hR, hsteps, _, hleave⟩ := hc (b.at a (.inRegion all (i :: rest) :: k) :: cs)
  have henter : step P (lone (b.at a (.inRegion all (i :: rest) :: k)) cs w) = .next (lone (Frame.enter P f args .normal) (b.at a (.inRegion all (i :: rest) :: k) :: cs) w) :=
    step_lone_go (by rw [hg]; simp [stepG.apply, hr, Frame.at])
  refine ⟨e, w'', hR, ?_⟩
  cases e with
  | returned v =>
    left
    refine ⟨v, rfl, .head henter (Steps.trans hsteps (.one ?_))⟩
    rw [← hfin]; exact step_leave_returned hleave
  | panicked chain =>
    right
    refine ⟨chain, rfl, .inRegion all (i :: rest) :: k, .head henter (Steps.trans hsteps (.one ?_))⟩
    rw [← Frame.raise_at]; exact step_leave_panicked hleave
  | outgrown => exact absurd hR (hno _)

theorem wanted_sound (ht : TR P m h t a.tmps) (all : Array Oper) (o : Oper) {x : Bool} (hw : wantedA all t o = some x) : Region.wanted o (yielded all a.tmps) = x := by
  unfold wantedA at hw
  unfold Region.wanted
  split at hw
  · rename_i hg
    rw [hg]
    injection hw
  · rename_i j want hg
    rw [hg]
    simp only
    split at hw
    · rename_i d hd
      have hlt : t.getD d .junk ≠ .junk → d < t.length := by
        intro hb
        rcases Nat.lt_or_ge d t.length with h1 | h1
        · exact h1
        · rw [List.getD, List.getElem?_eq_none h1] at hb
          exact absurd rfl hb
      have hv := ht.get d
      split at hw
      · rename_i bb hb
        injection hw with hw
        rw [hb] at hv
        have hts : d < a.tmps.size := by rw [ht.1]; exact hlt (by rw [hb]; simp)
        have hval : a.tmps.getD d undef = .bool bb := by
          revert hv
          generalize a.tmps.getD d undef = q
          intro hv
          cases hv
          rfl
        have e1 : a.tmps[d]? = some (.bool bb) := by
          rw [← hval]
          simp [Array.getD, hts]
        simp only [yielded, hd, Option.bind_some, e1]
        rw [← hw]
        cases want <;> cases bb <;> rfl
      · rename_i vs hb
        injection hw with hw
        rw [hb] at hv
        have hts : d < a.tmps.size := by rw [ht.1]; exact hlt (by rw [hb]; simp)
        obtain ⟨us, hval⟩ : ∃ us, a.tmps.getD d undef = .tuple us := by
          revert hv
          generalize a.tmps.getD d undef = q
          intro hv
          cases hv
          exact ⟨_, rfl⟩
        have e1 : a.tmps[d]? = some (.tuple us) := by
          rw [← hval]
          simp [Array.getD, hts]
        simp only [yielded, hd, Option.bind_some, e1]
        rw [← hw]
        cases want <;> rfl
      · cases hw
    · cases hw

theorem pan_sound (ht : TR P m h t a.tmps) {v : AV} (hp : panA t o = some v) : ∃ u, VR P m h v u ∧ (execOp a.eval o).run P w = .halt (.panic u) w := by
  unfold panA at hp
  split at hp
  · rename_i x ho
    split at hp
    · rename_i q v' hev
      injection hp with hp
      subst hp
      have hv := evA_sound ht x
      rw [hev] at hv
      obtain ⟨u, hu⟩ : ∃ u, a.eval x = u := ⟨_, rfl⟩
      rw [hu] at hv
      cases hv with
      | iface _ _ u' h1 =>
        refine ⟨_, .iface q v' u' h1, ?_⟩
        unfold execOp
        rw [ho]
        simp only [hu, Instr.panic]
        rfl
    · cases hp
  · cases hp
/-- a panic of the program's own is carried out -/
theorem step_pan {all : Array Oper} {i : Nat} {rest : List Nat} {k : List Item} {u : Value} (ho : all[i]? = some o) (hwa : Region.wanted o (yielded all a.tmps) = true) (hr : (execOp a.eval o).run P w = .halt (.panic u) w) :
    Steps P (lone (b.at a (.inRegion all (i :: rest) :: k)) cs w) (lone { b.at a (.inRegion all (i :: rest) :: k) with mode := .panicking [{ v := u, recovered := false }] } cs w) := by
  have hg := stepG_op (P := P) (b := b) (k := k) (cs := cs) (w := w) (rest := rest) ho hwa
  refine .one (step_lone_go ?_)
  rw [hg, ← Frame.raise_at]
  simp [stepG.apply, hr]
theorem callee_sound (ht : TR P m h t a.tmps) {g : FuncId} {args : List AV} (hc : calleeA t o = some (g, args)) {fn : Func} (hf : P.funcs[g]? = some fn) (hn : (fn.name == "runtime.NumGoroutine") = false) (hb : fn.body.isNone = false) :
    ∃ vs : List Value, VRs P m h args vs ∧ (execOp a.eval o).run P w = .ok (.enter g vs.toArray) w := by
  unfold calleeA at hc
  split at hc
  · rename_i fo ao aty ho
    split at hc
    · rename_i g' first captured hev
      injection hc with hc
      injection hc with h1 h2
      subst h1
      subst h2
      have hv := evA_sound ht fo
      rw [hev] at hv
      obtain ⟨u, hu⟩ : ∃ u, a.eval fo = u := ⟨_, rfl⟩
      rw [hu] at hv
      cases hv with
      | fn _ l c l' c' e1 e2 e3 e4 =>
        refine ⟨l' ++ ao.toList.map a.eval ++ c', VRs.append (VRs.append ⟨e1, e3⟩ (VRs.map fun x _ => evA_sound ht x)) ⟨e2, e4⟩, ?_⟩
        have e5 : (l'.toArray ++ ao.map a.eval) ++ c'.toArray = (l' ++ ao.toList.map a.eval ++ c').toArray := by
          apply Array.ext'
          simp
        simp only [execOp, ho, hu, resolve, Deferred.ofValue, Sem.run_bind, Sem.run_pure, Result.andThen_ok, invoke, callFunc, run_program, hf, hn, hb, Bool.false_eq_true, if_false, e5]
    · cases hc
  · cases hc

theorem res_sound (hw : WR P m h w) (ht : TR P m h t a.tmps) {fn : Func} {v : AV} (hv : resA fn t h P = some v) : ∃ u, (results fn a.tmps).run P w = .ok u w ∧ VR P m h v u := by
  unfold resA at hv
  obtain ⟨vs, hvs, rfl⟩ := Option.map_eq_some_iff.1 hv
  have key : ∀ (rs : List ResultVar) (vs : List AV), resL P t h rs = some vs → ∃ us : List Value, (rs.mapM fun (x : ResultVar) => (match x with
      | .tmp t => pure (a.tmps.getD t undef)
      | .cell c t => do loadVar t (← asAddr (a.tmps.getD c undef)) : Sem Value)).run P w = .ok us w ∧ VRs P m h vs us := by
    intro rs
    induction rs with
    | nil =>
      intro vs hvs
      simp [resL] at hvs
      subst hvs
      exact ⟨[], by simp, VRs.nil⟩
    | cons x rs ih =>
      intro vs hvs
      cases x with
      | tmp i =>
        simp only [resL] at hvs
        obtain ⟨l, hl, rfl⟩ := Option.map_eq_some_iff.1 hvs
        obtain ⟨us, h1, h2⟩ := ih l hl
        exact ⟨_, by simp only [List.mapM_cons, Sem.run_bind, Sem.run_pure, Result.andThen_ok, h1], VRs.cons (ht.get i) h2⟩
      | cell i ty =>
        simp only [resL] at hvs
        split at hvs
        · cases hvs
        · rename_i hn
          obtain ⟨v, hv, hvs⟩ := Option.bind_eq_some_iff.1 hvs
          obtain ⟨l, hl, rfl⟩ := Option.map_eq_some_iff.1 hvs
          obtain ⟨us, h1, h2⟩ := ih l hl
          have hx := ht.get i
          obtain ⟨d, hd⟩ := Option.isSome_iff_exists.1 (by cases hu2 : P.underlying ty <;> simp_all : (P.underlying ty).isSome = true)
          obtain ⟨i0, hi0⟩ := under_info hd
          have hld : ∃ u, (do loadVar ty (← asAddr (a.tmps.getD i undef)) : Sem Value).run P w = .ok u w ∧ VR P m h v u := by
            revert hx hv
            generalize a.tmps.getD i undef = ax
            generalize t.getD i .junk = ex
            intro hv hx
            obtain ⟨ex', hx', hne, hl, _⟩ := hx.untag
            rw [← hl] at hv
            cases hx' with
            | tptr t b _ _ => exact absurd rfl (hne t b)
            | ptr b i off hb =>
              simp only [loadA] at hv
              rcases hr : h.row b i with _ | e
              · simp [hr] at hv
              · simp only [hr, Option.bind_some] at hv
                obtain ⟨F, hF⟩ := row_ptr hw hr
                obtain ⟨u, h1, h2⟩ := ld_sound (w := w) ty hd (by rw [hi0]; simp) (m.blk b) (i * P.cellsOf (m.bt b)) off e F hF hv
                exact ⟨u, by simp [asAddr, h1], h2⟩
            | ip e off g o' F hi' hv' =>
              simp only [loadA] at hv
              obtain ⟨u, h1, h2⟩ := ld_sound (w := w) (h := h) (m := m) ty hd (by rw [hi0]; simp) g o' off e F (fun j hj => ⟨hw.imm _ _ _ (hi' j hj), hv' j hj⟩) hv
              exact ⟨u, by simp [asAddr, h1], h2⟩
            | _ => simp [loadA] at hv
          obtain ⟨u, hu1, hu2⟩ := hld
          exact ⟨_, by simp only [List.mapM_cons, Sem.run_bind, Result.andThen_ok, hu1, h1, Sem.run_pure], VRs.cons hu2 h2⟩
  obtain ⟨us, h1, h2⟩ := key _ _ hvs
  unfold results
  rw [Array.mapM_eq_mapM_toList]
  have hrun : (do
      let vs ← (List.toArray <$> (fn.results.toList.mapM fun (x : ResultVar) => (match x with
        | .tmp t => pure (a.tmps.getD t undef)
        | .cell c t => do loadVar t (← asAddr (a.tmps.getD c undef)) : Sem Value)))
      pure (if h : vs.size = 1 then vs[0] else .tuple vs) : Sem Value).run P w = .ok (if h : us.toArray.size = 1 then us.toArray[0] else .tuple us.toArray) w := by
    simp [h1, -Array.getD_eq_getD_getElem?]
  refine ⟨_, hrun, ?_⟩
  by_cases hl : us.length = 1
  · obtain ⟨u, rfl⟩ := List.length_eq_one_iff.1 hl
    have hvl : vs.length = 1 := h2.1.symm
    obtain ⟨v, rfl⟩ := List.length_eq_one_iff.1 hvl
    have := h2.2 0 (by simp) (by simp)
    simpa [oneA] using this
  · have hvl : vs.length ≠ 1 := by rw [← h2.1]; exact hl
    have e1 : oneA vs = .tup vs := by
      unfold oneA
      split
      · simp at hvl
      · rfl
    rw [e1, dif_neg (by simpa using hl)]
    exact .tup _ _ h2.1 h2.2
end
end Go.Proofs.YtngphebjmmencaaDoor
namespace Go.Proofs.YtngphebjmmencaaDoor
set_option linter.unusedSimpArgs false
set_option linter.unusedVariables false
open Go Go.RowKit

section
variable {P : Program} {t τ : List AV} {h h' : AH} {o : Oper} {all : Array Oper} {M : Array Nat}

theorem evA_congr {x : Operand} (hx : ∀ d, x = .tmp d → t.getD d .junk = τ.getD d .junk) : evA t x = evA τ x := by
  cases x with
  | tmp d => exact hx d rfl
  | _ => rfl

theorem looks_op (hl : ∀ d ∈ o.looksAt all, t.getD d .junk = τ.getD d .junk) : ∀ x ∈ o.op.operands, evA t x = evA τ x := by
  intro x hx
  refine evA_congr fun d hd => hl d ?_
  subst hd
  exact List.mem_append_left _ (List.mem_filterMap.2 ⟨.tmp d, by simpa using hx, rfl⟩)

theorem wantedA_congr (hl : ∀ d ∈ o.looksAt all, t.getD d .junk = τ.getD d .junk) : wantedA all t o = wantedA all τ o := by
  unfold wantedA
  split
  · rfl
  · rename_i j want hg
    split
    · rename_i d hd
      rw [hl d (List.mem_append_right _ (by simp [hg, hd]))]
    · rfl

theorem calleeA_congr (hl : ∀ d ∈ o.looksAt all, t.getD d .junk = τ.getD d .junk) : calleeA t o = calleeA τ o := by
  have hE := looks_op hl
  unfold calleeA
  split
  · rename_i fo ao aty ho
    rw [ho] at hE
    have h1 : evA t fo = evA τ fo := hE _ (by simp [Op.operands, Call.operands])
    have h2 : ao.toList.map (evA t) = ao.toList.map (evA τ) := List.map_congr_left fun x hx => hE _ (by
      simp [Op.operands, Call.operands]
      exact .inr (by simpa using hx))
    rw [h1, h2]
  · rfl

theorem panA_congr (hl : ∀ d ∈ o.looksAt all, t.getD d .junk = τ.getD d .junk) : panA t o = panA τ o := by
  have hE := looks_op hl
  unfold panA
  split
  · rename_i x ho
    rw [hE x (by simp [ho, Op.operands])]
  · rfl
theorem pairs_congr (ps : List (Nat × Operand)) (hp : ∀ x ∈ ps.map (·.2), evA t x = evA τ x) : (ps.map fun q => (q.1, evA t q.2)) = ps.map fun q => (q.1, evA τ q.2) :=
  List.map_congr_left fun p hm => by rw [hp p.2 (List.mem_map.2 ⟨p, hm, rfl⟩)]
theorem ops_congr (xs : Array Operand) (hp : ∀ x ∈ xs, evA t x = evA τ x) : xs.toList.map (evA t) = xs.toList.map (evA τ) := List.map_congr_left fun x hx => hp x (by simpa using hx)

theorem pureOp_congr (hE : ∀ x ∈ o.op.operands, evA t x = evA τ x) : pureOp P t o = pureOp P τ o := by
  unfold pureOp
  split
  · rename_i x ho
    rw [hE x (by simp [ho, Op.operands])]
  · rename_i x ho
    rw [hE x (by simp [ho, Op.operands])]
  · rename_i c x y ho
    rw [hE c (by simp [ho, Op.operands]), hE x (by simp [ho, Op.operands]), hE y (by simp [ho, Op.operands])]
  · rename_i ty parts ho
    rw [pairs_congr parts.toList fun x hx => hE x (by rw [ho]; simp only [Op.operands]; simpa using hx)]
  · rename_i x ho
    rw [hE x (by simp [ho, Op.operands])]
  · rename_i op ty x y yt ho
    rw [hE x (by simp [ho, Op.operands]), hE y (by simp [ho, Op.operands])]
  · rename_i op ty x ho
    rw [hE x (by simp [ho, Op.operands])]
  · rename_i src dst x ho
    rw [hE x (by simp [ho, Op.operands])]
  · rename_i ty x ho
    rw [hE x (by simp [ho, Op.operands])]
  · rename_i f first captured ho
    rw [ops_congr first fun x hx => hE x (by simp [ho, Op.operands, hx]), ops_congr captured fun x hx => hE x (by simp [ho, Op.operands, hx])]
  · rename_i ty x lo hi mx ho
    have h1 : evA t x = evA τ x := hE x (by simp [ho, Op.operands])
    have h2 : lo.map (evA t) = lo.map (evA τ) := by
      cases lo with
      | none => rfl
      | some l => simp only [Option.map_some]; rw [hE l (by simp [ho, Op.operands])]
    have h3 : hi.map (evA t) = hi.map (evA τ) := by
      cases hi with
      | none => rfl
      | some l => simp only [Option.map_some]; rw [hE l (by simp [ho, Op.operands])]
    rw [h1, h2, h3]
  · rename_i s x f ho
    rw [hE x (by simp [ho, Op.operands])]
  · rename_i s x f ho
    rw [hE x (by simp [ho, Op.operands])]
  · rename_i ty x ix ho
    rw [hE x (by simp [ho, Op.operands]), hE ix (by simp [ho, Op.operands])]
  · rename_i ty x ix ho
    rw [hE x (by simp [ho, Op.operands]), hE ix (by simp [ho, Op.operands])]
  · rename_i x xt as ok ho
    rw [hE x (by simp [ho, Op.operands])]
  · rename_i x i ho
    rw [hE x (by simp [ho, Op.operands])]
  · rename_i args argTypes ho
    have hA : ∀ x ∈ args.toList, evA t x = evA τ x := fun x hx => hE x (by rw [ho]; simp [Op.operands, Call.operands]; simpa using hx)
    split
    · rename_i x ty tys ha hty
      rw [hA x (by rw [ha]; simp)]
    · rfl
  · rename_i args argTypes ho
    have hA : ∀ x ∈ args.toList, evA t x = evA τ x := fun x hx => hE x (by rw [ho]; simp [Op.operands, Call.operands]; simpa using hx)
    split
    · rename_i x y ha
      rw [hA x (by rw [ha]; simp), hA y (by rw [ha]; simp)]
    · rfl
  · rename_i args argTypes ho
    have hA : ∀ x ∈ args.toList, evA t x = evA τ x := fun x hx => hE x (by rw [ho]; simp [Op.operands, Call.operands]; simpa using hx)
    split
    · rename_i x y ha
      rw [hA x (by rw [ha]; simp), hA y (by rw [ha]; simp)]
    · rfl
  · rfl

theorem evalOp_congr (mu : TypeId → Bool) (hl : ∀ d ∈ o.looksAt all, t.getD d .junk = τ.getD d .junk) : evalOp P mu t h o = evalOp P mu τ h o := by
  have hE := looks_op hl
  have hp := pureOp_congr (P := P) hE
  clear hl
  unfold evalOp
  split
  · rfl
  · rename_i e x ho
    rw [hE x (by simp [ho, Op.operands])]
  · rename_i ty len parts ho
    rw [pairs_congr parts.toList fun x hx => hE x (by rw [ho]; simp only [Op.operands]; simpa using hx)]
  · rename_i ty x ho
    rw [hE x (by simp [ho, Op.operands])]
  · rename_i ty x y ho
    rw [hE x (by simp [ho, Op.operands]), hE y (by simp [ho, Op.operands])]
  · rename_i ty x y ho
    rw [hE x (by simp [ho, Op.operands]), hE y (by simp [ho, Op.operands])]
  · rename_i args argTypes ho
    have hA : ∀ x ∈ args.toList, evA t x = evA τ x := fun x hx => hE x (by rw [ho]; simp [Op.operands, Call.operands]; simpa using hx)
    split
    · rename_i x y ty ty' ha hty
      rw [hA x (by rw [ha]; simp), hA y (by rw [ha]; simp)]
    · rfl
  · rw [hp]

theorem still_pure (mu : TypeId → Bool) (hs : stillA o = true) (hn : isLoad o = false) (h : AH) : evalOp P mu t h o = (pureOp P t o).map fun v => (v, h) := by
  unfold evalOp
  split
  all_goals first
    | rfl
    | (rename_i ho; simp [stillA, ho] at hs; done)
    | (rename_i ho; simp [isLoad, ho] at hn; done)

theorem still_same (mu : TypeId → Bool) (hs : stillA o = true) {v : AV} (he : evalOp P mu t h o = some (v, h')) : h' = h := by
  by_cases hn : isLoad o = true
  · unfold isLoad at hn
    split at hn
    · rename_i ty a ho
      unfold evalOp at he
      rw [ho] at he
      simp only at he
      split at he
      · cases he
      · obtain ⟨u, _, he⟩ := Option.map_eq_some_iff.1 he
        injection he with h1 h2
        exact h2.symm
    · cases hn
  · rw [still_pure mu hs (by simpa using hn)] at he
    obtain ⟨u, _, he⟩ := Option.map_eq_some_iff.1 he
    injection he with h1 h2
    exact h2.symm
theorem still_any (mu : TypeId → Bool) (hs : stillA o = true) (hn : isLoad o = false) {v : AV} (he : evalOp P mu t h o = some (v, h)) (h2 : AH) : evalOp P mu t h2 o = some (v, h2) := by
  rw [still_pure mu hs hn] at he ⊢
  obtain ⟨u, hu, he⟩ := Option.map_eq_some_iff.1 he
  injection he with h1 _
  rw [hu, ← h1]
  rfl
end
end Go.Proofs.YtngphebjmmencaaDoor
namespace Go.Proofs.YtngphebjmmencaaDoor
set_option linter.unusedSimpArgs false
set_option linter.unusedVariables false
open Go Go.RowKit

/-- what an operation comes to -/
def OpF (P : Program) (po : Pol) (f : FuncId) (t : List AV) (h : AH) (o : Oper) (v : AV) (h' : AH) : Prop :=
  (calleeA t o = none ∧ evalOp P (po.mu f) t h o = some (v, h')) ∨ ∃ g args fn, calleeA t o = some (g, args) ∧ P.funcs[g]? = some fn ∧ (fn.body.isNone = false ∧ (fn.name == "runtime.NumGoroutine") = false) ∧ AC P g args h (.inl v, h')
def StepF (P : Program) (po : Pol) (f : FuncId) (all : Array Oper) (q : Oper × List Oper) (t : List AV) (h : AH) (t' : List AV) (h' : AH) : Prop :=
  (wantedA all t q.1 = some false ∧ t' = putA t q.1.dst (.tup []) ∧ h' = h) ∨
  (wantedA all t q.1 = some true ∧ ∃ v, OpF P po f t h q.1 v h' ∧ t' = putA t q.1.dst v ∧ chkA P all t' h' q.2)
def StopF (P : Program) (all : Array Oper) (o : Oper) (t : List AV) (h : AH) (v : AV) (h' : AH) : Prop :=
  wantedA all t o = some true ∧ ((panA t o = some v ∧ h' = h) ∨ ∃ g args fn, calleeA t o = some (g, args) ∧ P.funcs[g]? = some fn ∧ (fn.body.isNone = false ∧ (fn.name == "runtime.NumGoroutine") = false) ∧ AC P g args h (.inr v, h'))

inductive PRun (P : Program) (po : Pol) (f : FuncId) (all : Array Oper) : List (Oper × List Oper) → List AV → AH → Option AV → List AV → AH → Prop
  | nil (t : List AV) (h : AH) : PRun P po f all [] t h none t h
  | step (q : Oper × List Oper) (l : List (Oper × List Oper)) (t : List AV) (h : AH) (t1 : List AV) (h1 : AH) (e : Option AV) (t' : List AV) (h' : AH) :
      StepF P po f all q t h t1 h1 → PRun P po f all l t1 h1 e t' h' → PRun P po f all (q :: l) t h e t' h'
  | stop (q : Oper × List Oper) (l : List (Oper × List Oper)) (t : List AV) (h : AH) (v : AV) (h' : AH) : StopF P all q.1 t h v h' → PRun P po f all (q :: l) t h (some v) t h'

theorem PRun.trace {P : Program} {po : Pol} {f : FuncId} {all : Array Oper} {l : List (Oper × List Oper)} {t : List AV} {h : AH} {e : Option AV} {t' : List AV} {h' : AH} (hp : PRun P po f all l t h e t' h') :
    ∃ (N : Nat) (ts : Nat → List AV) (hs : Nat → AH), N ≤ l.length ∧ ts 0 = t ∧ hs 0 = h ∧ ts N = t' ∧ (∀ i q, i < N → l[i]? = some q → StepF P po f all q (ts i) (hs i) (ts (i + 1)) (hs (i + 1))) ∧
      (match e with | none => N = l.length ∧ hs N = h' | some v => ∃ q, l[N]? = some q ∧ StopF P all q.1 (ts N) (hs N) v h') := by
  induction hp with
  | nil t h => exact ⟨0, fun _ => t, fun _ => h, Nat.le_refl _, rfl, rfl, rfl, fun i q hi => by omega, rfl, rfl⟩
  | step q l t h t1 h1 e t' h' hst _ ih =>
    obtain ⟨N, ts, hs, h1', h2, h3, h4, h5, h6⟩ := ih
    refine ⟨N + 1, fun | 0 => t | i + 1 => ts i, fun | 0 => h | i + 1 => hs i, by simpa using h1', rfl, rfl, h4, fun i q' hi hq => ?_, ?_⟩
    · cases i with
      | zero =>
        simp only [List.getElem?_cons_zero, Option.some.injEq] at hq
        subst hq
        show StepF P po f all q t h (ts 0) (hs 0)
        rw [h2, h3]
        exact hst
      | succ i =>
        simp only [List.getElem?_cons_succ] at hq
        exact h5 i q' (by omega) hq
    · cases e with
      | none => exact ⟨by simp [h6.1], h6.2⟩
      | some v =>
        obtain ⟨q', hq, hs'⟩ := h6
        exact ⟨q', by simpa using hq, hs'⟩
  | stop q l t h v h' hst => exact ⟨0, fun _ => t, fun _ => h, Nat.zero_le _, rfl, rfl, rfl, fun i q hi => by omega, q, rfl, hst⟩

section
variable (all : Array Oper) (pl : List (Nat × List Nat))
def opI (i : Nat) : Oper := all.getD i default
def ixP (k : Nat) : Nat := (pl.getD k default).1
def ckP (k : Nat) : List Nat := (pl.getD k default).2
def opP (k : Nat) : Oper := opI all (ixP pl k)

/-- must it come ahead, or does it, in this order? -/
def preE (all : Array Oper) (E : Nat → Nat → Prop) (i j : Nat) : Prop := preA (Region.before all) i j = true ∨ E i j
structure PlanP (E : Nat → Nat → Prop) : Prop where
  cover : ∀ i, i < all.size → ∃ k, k < pl.length ∧ ixP pl k = i
  lt : ∀ k, k < pl.length → ixP pl k < all.size
  self : ∀ k d, k < pl.length → (opP all pl k).dst = some d → d ∉ (opP all pl k).looksAt all
  edges : ∀ j, j < all.size → ∀ e ∈ (opI all j).after, Region.binds .any e = true → e.on < j
  mask : ∀ j i, j < all.size → i < all.size → preA (Region.before all) i j = true → ∃ e ∈ (opI all j).after, Region.binds .any e = true ∧ (e.on = i ∨ preA (Region.before all) i e.on = true)
  ne : ∀ i j, i < j → j < pl.length → ixP pl i ≠ ixP pl j
  still : ∀ i j, i < j → j < pl.length → stillA (opP all pl i) = true ∨ preE all E (ixP pl i) (ixP pl j)
  load : ∀ i j, i < j → j < pl.length → stillA (opP all pl j) = true ∨ isLoad (opP all pl i) = false ∨ preE all E (ixP pl i) (ixP pl j) ∨ ixP pl i ∈ ckP pl j
  dst : ∀ i j d, i < j → j < pl.length → (opP all pl j).dst = some d → d ∉ (opP all pl i).looksAt all ∧ (opP all pl i).dst ≠ some d
  data : ∀ i j d, i < j → j < pl.length → (opP all pl i).dst = some d → d ∈ (opP all pl j).looksAt all → preE all E (ixP pl i) (ixP pl j)
end

theorem pairs_get (all : Array Oper) (M : Array Nat) : ∀ (pl : List (Nat × List Nat)), pairsOK all M pl = true → ∀ i j, i < j → j < pl.length → pairOK all M (pl.getD i default) (pl.getD j default) = true
  | [], _, i, j, _, hj => by simp at hj
  | x :: r, hp, i, j, hij, hj => by
    simp only [pairsOK, Bool.and_eq_true, List.all_eq_true] at hp
    obtain ⟨j, rfl⟩ : ∃ j', j = j' + 1 := ⟨j - 1, by omega⟩
    have hj' : j < r.length := by simpa using hj
    cases i with
    | zero =>
      have : r[j] ∈ r := List.getElem_mem hj'
      have := hp.1 _ this
      simpa [List.getD, hj'] using this
    | succ i =>
      have := pairs_get all M r hp.2 i j (by omega) hj'
      simpa [List.getD] using this

theorem plan_spec {all : Array Oper} {pl : List (Nat × List Nat)} (hp : planOK all pl = true) : PlanP all pl fun _ _ => False := by
  unfold planOK at hp
  simp only [Bool.and_eq_true] at hp
  obtain ⟨⟨⟨⟨h1, h2⟩, h3⟩, h4⟩, h5⟩ := hp
  rw [List.all_eq_true] at h1 h2 h3
  have hmem : ∀ k, k < pl.length → pl.getD k default ∈ pl := fun k hk => by
    simp only [List.getD, List.getElem?_eq_getElem hk, Option.getD_some]
    exact List.getElem_mem hk
  have hpair : ∀ i j, i < j → j < pl.length → _ := fun i j hij hj => pairs_get all (Region.before all) pl h5 i j hij hj
  unfold pairOK at hpair
  simp only [Bool.and_eq_true, bne_iff_ne, ne_eq] at hpair
  refine ⟨fun i hi => ?_, fun k hk => ?_, fun k d hk hd hin => ?_, fun j hj e he hb => ?_, fun j i hj hi hpre => ?_, fun i j hij hj => ?_, fun i j hij hj => ?_, fun i j hij hj => ?_, fun i j d hij hj hd => ?_, fun i j d hij hj hd hin => ?_⟩
  · have := h1 i (List.mem_range.2 hi)
    rw [List.any_eq_true] at this
    obtain ⟨q, hq, h⟩ := this
    obtain ⟨k, hk, rfl⟩ := List.getElem_of_mem hq
    exact ⟨k, hk, by simpa [ixP, List.getD, hk] using h⟩
  · have := h2 _ (hmem k hk)
    simp only [Bool.and_eq_true, decide_eq_true_eq] at this
    exact this.1
  · have := h2 _ (hmem k hk)
    simp only [Bool.and_eq_true, decide_eq_true_eq] at this
    have := this.2
    unfold opP opI ixP at hd hin
    rw [hd] at this
    simp only [Array.getD_eq_getD_getElem?, List.getD_eq_getElem?_getD] at hin this
    simp [List.contains_eq_mem, hin] at this
  · have := h3 j (List.mem_range.2 hj)
    rw [Array.all_eq_true'] at this
    have := this e he
    simpa [hb] using this
  · unfold maskOK at h4
    rw [List.all_eq_true] at h4
    have := h4 j (List.mem_range.2 hj)
    rw [List.all_eq_true] at this
    have := this i (List.mem_range.2 hi)
    rw [hpre] at this
    simp only [Bool.not_true, Bool.false_or] at this
    rw [Option.any_eq_true] at this
    obtain ⟨o, ho, h6⟩ := this
    rw [Array.any_eq_true'] at h6
    obtain ⟨e, he, h7⟩ := h6
    simp only [Bool.and_eq_true, decide_eq_true_eq, Bool.or_eq_true, beq_iff_eq] at h7
    refine ⟨e, ?_, h7.1.1, h7.2⟩
    have : opI all j = o := by simp [opI, Array.getD_eq_getD_getElem?, ho]
    rw [this]
    exact he
  · exact (hpair i j hij hj).1.1.1.1.1.1
  · have := (hpair i j hij hj).1.1.1.2
    have : stillA (opP all pl i) = true ∨ preA (Region.before all) (ixP pl i) (ixP pl j) = true := by simpa [opP, opI, ixP] using this
    exact this.imp id .inl
  · have := (hpair i j hij hj).1.1.2
    simp only [Bool.or_eq_true, Bool.not_eq_true', List.contains_eq_mem, decide_eq_true_eq] at this
    unfold opP opI ixP ckP
    rcases this with ((h | h) | h) | h
    · exact .inl h
    · exact .inr (.inl h)
    · exact .inr (.inr (.inl (.inl h)))
    · exact .inr (.inr (.inr h))
  · have := (hpair i j hij hj).1.2
    unfold opP opI ixP at hd ⊢
    rw [hd] at this
    simpa [List.contains_eq_mem] using this
  · have := (hpair i j hij hj).2
    unfold opP opI ixP at hd hin
    rw [hd] at this
    simp only [Array.getD_eq_getD_getElem?, List.getD_eq_getElem?_getD] at hin this
    exact .inl (by simpa [List.contains_eq_mem, hin, ixP] using this)
end Go.Proofs.YtngphebjmmencaaDoor
namespace Go.Proofs.YtngphebjmmencaaDoor
set_option linter.unusedSimpArgs false
set_option linter.unusedVariables false
open Go Go.RowKit

/-- the slot that an operation writes holds this at the end -/
def ResP (τ : List AV) (o : Oper) (v : AV) : Prop := ∀ d, o.dst = some d → d < τ.length → τ.getD d .junk = v
/-- what was put off comes to the same now -/
def LateP (P : Program) (po : Pol) (f : FuncId) (all : Array Oper) (τ : List AV) (o : Oper) (h : AH) : Prop :=
  stillA o = true ∧ ((wantedA all τ o = some false ∧ ResP τ o (.tup [])) ∨ (wantedA all τ o = some true ∧ ∃ v, evalOp P (po.mu f) τ h o = some (v, h) ∧ ResP τ o v))

theorem putA_len {t : List AV} {d : Option Tmp} {v : AV} : (putA t d v).length = t.length := by cases d <;> simp [putA]
theorem putA_ne {t : List AV} {d : Option Tmp} {v : AV} {j : Nat} (h : d ≠ some j) : (putA t d v).getD j .junk = t.getD j .junk := by
  cases d with
  | none => rfl
  | some d =>
    have : d ≠ j := fun e => h (by rw [e])
    simp [putA, List.getD, List.getElem?_set_ne this]
theorem putA_eq {t : List AV} {d : Option Tmp} {v : AV} {j : Nat} (h : d = some j) (hj : j < t.length) : (putA t d v).getD j .junk = v := by
  subst h
  simp [putA, List.getD, hj]

section
variable {P : Program} {po : Pol} {f : FuncId} {all : Array Oper} {pl : List (Nat × List Nat)} {E : Nat → Nat → Prop} {N : Nat} {ts : Nat → List AV} {hs : Nat → AH}

structure Tra (P : Program) (po : Pol) (f : FuncId) (all : Array Oper) (pl : List (Nat × List Nat)) (E : Nat → Nat → Prop) (N : Nat) (ts : Nat → List AV) (hs : Nat → AH) : Prop where
  plan : PlanP all pl E
  le : N ≤ pl.length
  step : ∀ k, k < N → StepF P po f all (opP all pl k, (ckP pl k).map (opI all)) (ts k) (hs k) (ts (k + 1)) (hs (k + 1))

theorem StepF.put {q : Oper × List Oper} {t t' : List AV} {h h' : AH} (hs : StepF P po f all q t h t' h') : ∃ v, t' = putA t q.1.dst v := by
  rcases hs with ⟨_, h1, _⟩ | ⟨_, v, _, h1, _⟩
  · exact ⟨_, h1⟩
  · exact ⟨_, h1⟩

theorem Tra.len (T : Tra P po f all pl E N ts hs) : ∀ k, k ≤ N → (ts k).length = (ts N).length := by
  have : ∀ d k, k + d = N → (ts k).length = (ts N).length := by
    intro d
    induction d with
    | zero => intro k hk; rw [← hk]; rfl
    | succ d ih =>
      intro k hk
      rw [← ih (k + 1) (by omega)]
      obtain ⟨v, hv⟩ := (T.step k (by omega)).put
      rw [hv, putA_len]
  exact fun k hk => this (N - k) k (by omega)
theorem Tra.keep (T : Tra P po f all pl E N ts hs) (d : Nat) : ∀ k1 n, k1 + n ≤ N → (∀ j, k1 ≤ j → j < k1 + n → (opP all pl j).dst ≠ some d) → (ts (k1 + n)).getD d .junk = (ts k1).getD d .junk := by
  intro k1 n
  induction n with
  | zero => intro _ _; rfl
  | succ n ih =>
    intro hle hno
    rw [← ih (by omega) (fun j h1 h2 => hno j h1 (by omega))]
    obtain ⟨v, hv⟩ := (T.step (k1 + n) (by omega)).put
    rw [← Nat.add_assoc, hv]
    exact putA_ne (hno (k1 + n) (by omega) (by omega))

/-- nobody at or behind an operation writes what it looks at -/
theorem PlanP.after (pp : PlanP all pl E) {k d : Nat} (hk : k < pl.length) (hd : d ∈ (opP all pl k).looksAt all) {j : Nat} (h1 : k ≤ j) (h2 : j < pl.length) : (opP all pl j).dst ≠ some d := by
  intro he
  rcases Nat.lt_or_ge k j with h | h
  · exact (pp.dst k j d h h2 he).1 hd
  · obtain rfl : k = j := by omega
    exact pp.self k d hk he hd
theorem Tra.look (T : Tra P po f all pl E N ts hs) {k : Nat} (hk : k ≤ N) (hkl : k < pl.length) {i : Nat} (hki : k ≤ i) (hi : i ≤ N) : ∀ d ∈ (opP all pl k).looksAt all, (ts i).getD d .junk = (ts N).getD d .junk := by
  intro d hd
  have := T.keep d i (N - i) (by omega) (fun j h1 h2 => T.plan.after hkl hd (by omega) (by have := T.le; omega))
  rw [show i + (N - i) = N by omega] at this
  exact this.symm
theorem Tra.res (T : Tra P po f all pl E N ts hs) {k : Nat} (hk : k < N) {v : AV} (hv : ts (k + 1) = putA (ts k) (opP all pl k).dst v) : ResP (ts N) (opP all pl k) v := by
  intro d hd hlt
  have hl := T.le
  have := T.keep d (k + 1) (N - (k + 1)) (by omega) (fun j h1 h2 he => (T.plan.dst k j d (by omega) (by omega) he).2 hd)
  rw [show k + 1 + (N - (k + 1)) = N by omega] at this
  rw [this, hv]
  exact putA_eq hd (by rw [T.len k (by omega)]; exact hlt)

/-- an operation of the plan, seen from the end -/
theorem Tra.at (T : Tra P po f all pl E N ts hs) {k : Nat} (hk : k < N) :
    (wantedA all (ts N) (opP all pl k) = some false ∧ ResP (ts N) (opP all pl k) (.tup []) ∧ hs (k + 1) = hs k) ∨
    (wantedA all (ts N) (opP all pl k) = some true ∧ ∃ v, OpF P po f (ts N) (hs k) (opP all pl k) v (hs (k + 1)) ∧ ResP (ts N) (opP all pl k) v ∧ chkA P all (ts (k + 1)) (hs (k + 1)) ((ckP pl k).map (opI all))) := by
  have hl := T.le
  have hlook := T.look (k := k) (by omega) (by omega) (Nat.le_refl k) (by omega)
  rcases T.step k hk with ⟨h1, h2, h3⟩ | ⟨h1, v, h2, h3, h4⟩
  · exact .inl ⟨by rw [← wantedA_congr hlook]; exact h1, T.res hk h2, h3⟩
  · refine .inr ⟨by rw [← wantedA_congr hlook]; exact h1, v, ?_, T.res hk h3, h4⟩
    rcases h2 with ⟨c1, c2⟩ | ⟨g, args, fn, c1, c2⟩
    · exact .inl ⟨by rw [← calleeA_congr hlook]; exact c1, by rw [← evalOp_congr (po.mu f) hlook]; exact c2⟩
    · exact .inr ⟨g, args, fn, by rw [← calleeA_congr hlook]; exact c1, c2⟩

theorem still_callee {t : List AV} {o : Oper} (hs : stillA o = true) : calleeA t o = none := by
  unfold calleeA
  split
  · rename_i ho
    simp [stillA, ho] at hs
  · rfl
theorem OpF.still {t : List AV} {h h' : AH} {o : Oper} {v : AV} (ho : OpF P po f t h o v h') (hs : stillA o = true) : evalOp P (po.mu f) t h o = some (v, h) ∧ h' = h := by
  rcases ho with ⟨_, h2⟩ | ⟨g, args, fn, h1, _⟩
  · have := still_same (po.mu f) hs h2
    subst this
    exact ⟨h2, rfl⟩
  · rw [still_callee hs] at h1
    cases h1

theorem Tra.same (T : Tra P po f all pl E N ts hs) {k : Nat} (hk : k < N) (hst : stillA (opP all pl k) = true) : hs (k + 1) = hs k := by
  rcases T.at hk with ⟨_, _, h⟩ | ⟨_, v, h, _⟩
  · exact h
  · exact (h.still hst).2
theorem Tra.late (T : Tra P po f all pl E N ts hs) {k : Nat} (hk : k < N) (hst : stillA (opP all pl k) = true) : LateP P po f all (ts N) (opP all pl k) (hs k) := by
  refine ⟨hst, ?_⟩
  rcases T.at hk with ⟨h1, h2, _⟩ | ⟨h1, v, h2, h3, _⟩
  · exact .inl ⟨h1, h2⟩
  · exact .inr ⟨h1, v, (h2.still hst).1, h3⟩

theorem chkA_mem {t : List AV} {h : AH} {o : Oper} : ∀ {l : List Oper}, chkA P all t h l → o ∈ l → wantedA all t o = some true → ∃ ty a d, o.op = .load ty a ∧ o.dst = some d ∧ loadA (aggA P ty) (szA P ty) h (evA t a) = some (t.getD d .junk)
  | x :: l, hc, hm, hw => by
    unfold chkA at hc
    rcases List.mem_cons.1 hm with rfl | hm
    · have := hc.1
      rw [hw] at this
      simp only at this
      split at this
      · rename_i ty a d h1 h2
        exact ⟨ty, a, d, h1, h2, this⟩
      · exact this.elim
    · exact chkA_mem hc.2 hm hw

/-- behind an operation that turns the memory, what was put off comes to the same still -/
theorem Tra.turn (T : Tra P po f all pl E N ts hs) {i k : Nat} (hik : i < k) (hk : k < N) (hp : ¬ preE all E (ixP pl i) (ixP pl k)) (hl : LateP P po f all (ts N) (opP all pl i) (hs k)) : LateP P po f all (ts N) (opP all pl i) (hs (k + 1)) := by
  have hle := T.le
  by_cases hst : stillA (opP all pl k) = true
  · rw [T.same hk hst]; exact hl
  obtain ⟨l1, l2⟩ := hl
  refine ⟨l1, ?_⟩
  rcases l2 with l2 | ⟨l2, v, l3, l4⟩
  · exact .inl l2
  refine .inr ⟨l2, ?_⟩
  rcases T.plan.load i k hik (by omega) with h | h | h | h
  · exact absurd h hst
  · exact ⟨v, still_any (po.mu f) l1 h l3 _, l4⟩
  · exact absurd h hp
  · rcases T.at hk with ⟨_, _, h3⟩ | ⟨_, v', _, _, hck⟩
    · rw [h3]; exact ⟨v, l3, l4⟩
    · have hlook := T.look (k := i) (i := k + 1) (by omega) (by omega) (by omega) (by omega)
      obtain ⟨ty, a, d, e1, e2, e3⟩ := chkA_mem hck (o := opP all pl i) (List.mem_map.2 ⟨_, h, rfl⟩) (by rw [wantedA_congr hlook]; exact l2)
      have hda : evA (ts (k + 1)) a = evA (ts N) a := looks_op hlook a (by simp [e1, Op.operands])
      have hdd : (ts (k + 1)).getD d .junk = (ts N).getD d .junk := by
        have := T.keep d (k + 1) (N - (k + 1)) (by omega) (fun j h1 h2 he => (T.plan.dst i j d (by omega) (by omega) he).2 e2)
        rw [show k + 1 + (N - (k + 1)) = N by omega] at this
        exact this.symm
      refine ⟨(ts N).getD d .junk, ?_, fun d' hd' _ => ?_⟩
      · unfold evalOp at l3 ⊢
        simp only [e1] at l3 ⊢
        split at l3
        · cases l3
        · rename_i hn
          rw [if_neg hn, ← hda, e3, hdd]
          rfl
      · rw [e2] at hd'
        injection hd' with hd'
        rw [hd']
end
end Go.Proofs.YtngphebjmmencaaDoor
namespace Go.Proofs.YtngphebjmmencaaDoor
set_option linter.unusedSimpArgs false
set_option linter.unusedVariables false
open Go Go.RowKit

section
variable {P : Program} {po : Pol} {f : FuncId} {all : Array Oper} {pl : List (Nat × List Nat)} {E : Nat → Nat → Prop} {N : Nat} {ts : Nat → List AV} {hs : Nat → AH}
  {m m' : Mm} {h h' : AH} {w w' : World} {t τ : List AV} {a : Act} {b : Frame} {cs : List Frame} {K : List Item} {r : AEx × List AV × AH}

/-- is all listed that writes a slot? -/
def ReadyS (all : Array Oper) (pl : List (Nat × List Nat)) (li : Array Bool) (d : Nat) : Prop := ∀ k, k < pl.length → (opP all pl k).dst = some d → li.getD (ixP pl k) false = true
open Classical in
noncomputable def mixT (all : Array Oper) (pl : List (Nat × List Nat)) (li : Array Bool) (τ : List AV) : List AV := (List.range τ.length).map fun d => if ReadyS all pl li d then τ.getD d .junk else .junk

theorem mixT_len {li : Array Bool} : (mixT all pl li τ).length = τ.length := by simp [mixT]
theorem mixT_get {li : Array Bool} {d : Nat} (hr : ReadyS all pl li d) : (mixT all pl li τ).getD d .junk = τ.getD d .junk := by
  by_cases hd : d < τ.length
  · simp [mixT, List.getD, hd, hr]
  · simp [mixT, List.getD, hd]

theorem set_get {li : Array Bool} {i j : Nat} (hi : i < li.size) : (li.setIfInBounds i true).getD j false = if j = i then true else li.getD j false := by
  by_cases hj : j = i
  · subst hj
    simp [Array.getD_eq_getD_getElem?, hi]
  · simp [Array.getD_eq_getD_getElem?, hj, Array.getElem?_setIfInBounds_ne (Ne.symm hj)]

theorem mix_put (pp : PlanP all pl E) {li : Array Bool} {k : Nat} (hk : k < pl.length) (hli : ixP pl k < li.size) (x : Ext m h m' h') (ht : TR P m h (mixT all pl li τ) a.tmps) {v : AV} {u : Value} (hv : VR P m' h' v u) (hres : ResP τ (opP all pl k) v) :
    TR P m' h' (mixT all pl (li.setIfInBounds (ixP pl k) true) τ) (a.put (opP all pl k).dst u).tmps := by
  have h1 := (ht.ext x).put (a := a) hv (opP all pl k).dst
  refine ⟨by rw [h1.1, putA_len, mixT_len, mixT_len], fun d hd => ?_⟩
  have hd' : d < τ.length := by rw [mixT_len] at hd; exact hd
  have hd2 : d < (putA (mixT all pl li τ) (opP all pl k).dst v).length := by rw [putA_len, mixT_len]; exact hd'
  have h2 := h1.2 d hd2
  have e1 : (mixT all pl (li.setIfInBounds (ixP pl k) true) τ)[d] = (mixT all pl (li.setIfInBounds (ixP pl k) true) τ).getD d .junk := by simp [List.getD, hd]
  have e2 : (putA (mixT all pl li τ) (opP all pl k).dst v)[d] = (putA (mixT all pl li τ) (opP all pl k).dst v).getD d .junk := by simp only [List.getD, List.getElem?_eq_getElem hd2, Option.getD_some]
  by_cases hr : ReadyS all pl (li.setIfInBounds (ixP pl k) true) d
  · rw [e1, mixT_get hr]
    rw [e2] at h2
    by_cases he : (opP all pl k).dst = some d
    · rw [putA_eq he (by rw [mixT_len]; exact hd')] at h2
      rw [hres d he hd']
      exact h2
    · rw [putA_ne he, mixT_get (fun j hj hdj => ?_)] at h2
      · exact h2
      · have := hr j hj hdj
        rw [set_get hli] at this
        have hne : ixP pl j ≠ ixP pl k := by
          intro e
          rcases Nat.lt_trichotomy j k with h | h | h
          · exact pp.ne j k h hk e
          · subst h; exact he hdj
          · exact pp.ne k j h hj e.symm
        rwa [if_neg hne] at this
  · have e3 : (mixT all pl (li.setIfInBounds (ixP pl k) true) τ)[d] = .junk := by simp [mixT, hr]
    rw [e3]
    exact .junk _

/-- what must come ahead is listed -/
theorem pre_listed (pp : PlanP all pl E) {li : Array Bool} (hcl : ∀ j, j < all.size → li.getD j false = true → ∀ e ∈ (opI all j).after, Region.binds .any e = true → li.getD e.on false = true) :
    ∀ j, j < all.size → (∀ e ∈ (opI all j).after, Region.binds .any e = true → li.getD e.on false = true) → ∀ i, i < all.size → preA (Region.before all) i j = true → li.getD i false = true := by
  intro j
  induction j using Nat.strongRecOn with
  | ind j ih =>
    intro hj he i hi hp
    obtain ⟨e, e1, e2, e3⟩ := pp.mask j i hj hi hp
    have hlt := pp.edges j hj e e1 e2
    rcases e3 with e3 | e3
    · rw [← e3]; exact he e e1 e2
    · exact ih e.on hlt (by omega) (hcl e.on (by omega) (he e e1 e2)) i hi e3

theorem opI_get {i : Nat} (hi : i < all.size) : all[i]? = some (opI all i) := by
  simp [opI, hi]

theorem Act.put_defers' (a : Act) (x : Option Tmp) (v : Value) : (a.put x v).defers = a.defers := by cases x <;> rfl
theorem look_mix (pp : PlanP all pl E) {li : Array Bool} {k : Nat} (hk : k < pl.length) (hpre : ∀ j, j < pl.length → preE all E (ixP pl j) (ixP pl k) → li.getD (ixP pl j) false = true) :
    ∀ d ∈ (opP all pl k).looksAt all, (mixT all pl li τ).getD d .junk = τ.getD d .junk := by
  intro d hd
  refine mixT_get fun j hj hdj => ?_
  rcases Nat.lt_or_ge j k with h | h
  · exact hpre j hj (pp.data j k d h hk hdj hd)
  · exact absurd hdj (pp.after hk hd h hj)

/-- an order of what is not listed yet -/
inductive OrdL (all : Array Oper) (E : Nat → Nat → Prop) : Array Bool → List Nat → Prop
  | nil (li : Array Bool) : (∀ i, i < all.size → li.getD i false = true) → OrdL all E li []
  | cons (li : Array Bool) (i : Nat) (L : List Nat) : i < all.size → li.getD i false = false → (∀ e ∈ (opI all i).after, Region.binds .any e = true → li.getD e.on false = true) → (∀ j, E j i → li.getD j false = true) →
      OrdL all E (li.setIfInBounds i true) L → OrdL all E li (i :: L)
theorem ord_of (hedge : ∀ j, j < all.size → ∀ e ∈ (opI all j).after, Region.binds .any e = true → e.on < j) : ∀ (fuel u : Nat) (li : Array Bool), li.size = all.size → li.toList.countP (fun x => !x) ≤ fuel →
    OrdL all (fun _ _ => False) li (Region.linearise.go .any all fuel u li []) := by
  intro fuel
  induction fuel with
  | zero =>
    intro u li hsz hf
    simp only [Region.linearise.go, List.reverse_nil]
    refine .nil _ fun i hi => ?_
    have := List.countP_eq_zero.1 (Nat.le_zero.1 hf) (li[i]'(by omega)) (by simp)
    have hil : i < li.size := by omega
    simpa [Array.getD_eq_getD_getElem?, hil] using this
  | succ fuel ih =>
    intro u li hsz hf
    simp only [Region.linearise.go]
    change OrdL all _ li (match (Region.ready .any all li)[u % (Region.ready .any all li).length]? with
      | some i => Region.linearise.go .any all fuel (u / (Region.ready .any all li).length) (li.setIfInBounds i true) [i]
      | none => [].reverse)
    cases hi : (Region.ready .any all li)[u % (Region.ready .any all li).length]? with
    | none =>
      have hnil : Region.ready .any all li = [] := by
        cases hr : Region.ready .any all li with
        | nil => rfl
        | cons x xs =>
          rw [hr] at hi
          have hlt : u % (x :: xs).length < (x :: xs).length := Nat.mod_lt _ (by simp)
          simp at hi
          simp at hlt
          omega
      simp only [List.reverse_nil]
      refine .nil _ ?_
      intro i
      induction i using Nat.strongRecOn with
      | ind i ihi =>
        intro hi'
        rcases hx : li.getD i false with _ | _
        · have hin : i ∈ Region.ready .any all li := by
            rw [mem_ready]
            have hil : i < li.size := by omega
            exact ⟨by simpa [Array.getD_eq_getD_getElem?, hil] using hx, opI all i, opI_get hi', fun e he hb => ihi e.on (hedge i hi' e he hb) (by have := hedge i hi' e he hb; omega)⟩
          rw [hnil] at hin
          cases hin
        · rfl
    | some i =>
      simp only []
      rw [linearise_go_acc, List.reverse_singleton, List.singleton_append]
      have hin := List.mem_of_getElem? hi
      rw [mem_ready] at hin
      obtain ⟨hnl, o, ho, hed⟩ := hin
      have hi' : i < all.size := (Array.getElem?_eq_some_iff.1 ho).1
      have ho' : opI all i = o := by simp [opI, Array.getD_eq_getD_getElem?, ho]
      have hil : i < li.size := by omega
      have hnf : li.getD i false = false := by simpa [Array.getD_eq_getD_getElem?, hil] using hnl
      refine .cons _ _ _ hi' hnf (by rw [ho']; exact hed) (fun _ h => h.elim) (ih _ _ (by simpa using hsz) ?_)
      have hz : (li.toList)[i]'(by simpa using hil) = false := by
        simpa [Array.getD_eq_getD_getElem?, hil] using hnf
      have := List.countP_set (p := fun x => !x) (l := li.toList) (i := i) (a := true) (by simpa using hil)
      simp only [hz, Bool.not_false, Bool.not_true, if_true, Bool.false_eq_true, if_false, Nat.add_zero] at this
      simp only [Array.toList_setIfInBounds]
      omega
theorem any_list {S : Nat → Bool} (hS : ∀ d, S d = true → ∀ k, k < pl.length → (opP all pl k).dst ≠ some d) (pok : POK P po) (T : Tra P po f all pl E N ts hs) (hall : N = pl.length ∨ ∃ v h', N < pl.length ∧ StopF P all (opP all pl N) (ts N) (hs N) v h' ∧ r = (.panic v, ts N, h'))
    (hdone : N = pl.length → ∀ m1 w1 a1, WR P m1 (hs N) w1 → TR P m1 (hs N) (ts N) a1.tmps → a1.defers = b.defers → OutR P S m1 (hs N) w1 b cs (lone (b.at a1 K) cs w1) r) :
    ∀ (L : List Nat) (li : Array Bool) (p : Nat) (m : Mm) (a : Act) (w : World), OrdL all E li L → p ≤ N → li.size = all.size →
      (∀ j, j < all.size → li.getD j false = true → ∀ e ∈ (opI all j).after, Region.binds .any e = true → li.getD e.on false = true) →
      (∀ k, k < pl.length → li.getD (ixP pl k) false = true → k < p) →
      (∀ k, k < p → li.getD (ixP pl k) false = false → LateP P po f all (ts N) (opP all pl k) (hs p)) →
      WR P m (hs p) w → TR P m (hs p) (mixT all pl li (ts N)) a.tmps → a.defers = b.defers →
      OutR P S m (hs p) w b cs (lone (b.at a (.inRegion all L :: K)) cs w) r := by
  have pp := T.plan
  have hle := T.le
  intro L
  induction L with
  | nil =>
    intro li p m a w hord hp hsz hcl h1 h2 hw ht hd
    have hall' : ∀ i, i < all.size → li.getD i false = true := by
      cases hord with
      | nil _ h => exact h
    have hpn : p = pl.length := by
      rcases Nat.lt_or_ge p pl.length with h | h
      · have := h1 p h (hall' _ (pp.lt p h))
        omega
      · omega
    have hpN : p = N := by omega
    subst hpN
    have hmx : mixT all pl li (ts p) = ts p := by
      apply List.ext_getElem (by rw [mixT_len])
      intro d h3 h4
      have := mixT_get (all := all) (pl := pl) (li := li) (τ := ts p) (d := d) (fun k hk _ => hall' _ (pp.lt k hk))
      simpa [List.getD, h3, h4] using this
    rw [hmx] at ht
    exact OutR.steps (.one step_region_end) (hdone hpn m w a hw ht hd)
  | cons i L ih =>
      intro li p m a w hord hp hsz hcl h1 h2 hw ht hd
      cases hord with
      | cons _ _ _ hi' hnf hed hE hrest =>
      obtain ⟨o, ho'⟩ : ∃ o, opI all i = o := ⟨_, rfl⟩
      have ho : all[i]? = some o := by rw [← ho']; exact opI_get hi'
      rw [ho'] at hed
      obtain ⟨k, hk, rfl⟩ := pp.cover i hi'
      have hok : opP all pl k = o := ho'
      have hil : ixP pl k < li.size := by omega
      have hpre := pre_listed pp hcl (ixP pl k) hi' (by rw [ho']; exact hed)
      have hpre' : ∀ j, j < pl.length → preE all E (ixP pl j) (ixP pl k) → li.getD (ixP pl j) false = true := fun j hj h => h.elim (hpre _ (pp.lt j hj)) (hE _)
      have hlook := look_mix (τ := ts N) pp hk hpre'
      have hkN : k ≤ N := by
        rcases hall with h | ⟨v, h', h3, h4, h5⟩
        · omega
        · rcases Nat.lt_or_ge N k with hlt | hge
          · have hns : stillA (opP all pl N) ≠ true := by
              intro hst
              obtain ⟨_, ⟨hc, _⟩ | ⟨g, args, fn, hc, _⟩⟩ := h4
              · unfold panA at hc
                split at hc
                · rename_i x ho2
                  simp [stillA, ho2] at hst
                · cases hc
              · rw [still_callee hst] at hc
                cases hc
            have := h1 N h3 (hpre' N h3 ((pp.still N k hlt hk).resolve_left hns))
            omega
          · exact hge
      -- what is put off
      have hput : ∀ n, p + n ≤ k → hs (p + n) = hs p ∧ ∀ j, j < p + n → li.getD (ixP pl j) false = false → LateP P po f all (ts N) (opP all pl j) (hs p) := by
        intro n
        induction n with
        | zero => intro _; exact ⟨rfl, h2⟩
        | succ n ihn =>
          intro hle2
          obtain ⟨e1, e2⟩ := ihn (by omega)
          have hnl2 : li.getD (ixP pl (p + n)) false = false := by
            rcases hx : li.getD (ixP pl (p + n)) false with _ | _
            · rfl
            · have := h1 (p + n) (by omega) hx
              omega
          have hst : stillA (opP all pl (p + n)) = true := by
            rcases pp.still (p + n) k (by omega) hk with h | h
            · exact h
            · have := hpre' (p + n) (by omega) h
              rw [hnl2] at this
              cases this
          have hsame := T.same (k := p + n) (by omega) hst
          refine ⟨by rw [← Nat.add_assoc, hsame, e1], fun j hj hjn => ?_⟩
          rcases Nat.lt_or_ge j (p + n) with h | h
          · exact e2 j h hjn
          · obtain rfl : j = p + n := by omega
            have := T.late (k := p + n) (by omega) hst
            rwa [e1] at this
      -- on it goes
      have hfin : ∀ (p' : Nat) (m' : Mm) (w' : World) (v : AV) (u' : Value), k < p' → p ≤ p' → p' ≤ N → Ext m (hs p) m' (hs p') → WR P m' (hs p') w' → Below m.base w w' → VR P m' (hs p') v u' → ResP (ts N) (opP all pl k) v →
          (∀ j, j < p' → j ≠ k → li.getD (ixP pl j) false = false → LateP P po f all (ts N) (opP all pl j) (hs p')) →
          Steps P (lone (b.at a (.inRegion all (ixP pl k :: L) :: K)) cs w)
            (lone (b.at (a.put o.dst u') (.inRegion all (L) :: K)) cs w') →
          OutR P S m (hs p) w b cs (lone (b.at a (.inRegion all (ixP pl k :: L) :: K)) cs w) r := by
        intro p' m' w' v u' hkp hpp hpN hx hw' hbl hv hres hlate hst
        refine OutR.steps hst (OutR.after hx hbl ?_)
        have hne : ∀ j, j < pl.length → j ≠ k → ixP pl j ≠ ixP pl k := by
          intro j hj hjk e
          rcases Nat.lt_or_ge j k with h | h
          · exact pp.ne j k h hk e
          · exact pp.ne k j (by omega) hj e.symm
        refine ih _ p' m' _ w' hrest hpN (by simpa using hsz) ?_ ?_ ?_ hw' ?_ ?_
        · intro j hj hjl e he hb
          rw [set_get hil] at hjl
          by_cases hji : j = ixP pl k
          · subst hji
            exact getD_set_true (hed e (by rw [← ho']; exact he) hb)
          · rw [if_neg hji] at hjl
            exact getD_set_true (hcl j hj hjl e he hb)
        · intro j hj hjl
          by_cases hjk : j = k
          · omega
          · rw [set_get hil, if_neg (hne j hj hjk)] at hjl
            have := h1 j hj hjl
            omega
        · intro j hj hjl
          rw [set_get hil] at hjl
          by_cases hjk : j = k
          · subst hjk
            simp at hjl
          · rw [if_neg (hne j (by omega) hjk)] at hjl
            exact hlate j hj hjk hjl
        · rw [← hok]
          exact mix_put pp hk hil hx ht hv hres
        · rw [Act.put_defers']
          exact hd
      have hread : ∀ {x : Bool}, wantedA all (ts N) (opP all pl k) = some x → Region.wanted o (yielded all a.tmps) = x := fun hwa => by
        have := wanted_sound ht all (opP all pl k) (by rw [wantedA_congr hlook]; exact hwa)
        rwa [hok] at this
      -- an operation that only computes
      have hdo : ∀ {h' : AH} {v : AV}, wantedA all (ts N) (opP all pl k) = some true → evalOp P (po.mu f) (ts N) (hs p) (opP all pl k) = some (v, h') →
          ∀ (p' : Nat), hs p' = h' → k < p' → p ≤ p' → p' ≤ N → ResP (ts N) (opP all pl k) v → (∀ j, j < p' → j ≠ k → li.getD (ixP pl j) false = false → LateP P po f all (ts N) (opP all pl j) (hs p')) →
          OutR P S m (hs p) w b cs (lone (b.at a (.inRegion all (ixP pl k :: L) :: K)) cs w) r := by
        intro h' v hwa hev p' hp' q1 q2 q3 q4 q5
        subst hp'
        have hev' := hev
        rw [← evalOp_congr (po.mu f) hlook] at hev'
        rw [hok] at hev'
        obtain ⟨m', w', u', d1, d2, d3, d4, d5⟩ := evalOp_sound pok.ty hw ht (po.mu f) hev'
        exact hfin p' m' w' v u' q1 q2 q3 d2 d3 d5 d4 q4 q5 (step_value ho (hread hwa) d1)
      have hskip : ∀ (p' : Nat), hs p' = hs p → wantedA all (ts N) (opP all pl k) = some false → k < p' → p ≤ p' → p' ≤ N → ResP (ts N) (opP all pl k) (.tup []) → (∀ j, j < p' → j ≠ k → li.getD (ixP pl j) false = false → LateP P po f all (ts N) (opP all pl j) (hs p')) →
          OutR P S m (hs p) w b cs (lone (b.at a (.inRegion all (ixP pl k :: L) :: K)) cs w) r := by
        intro p' hp' hwa q1 q2 q3 q4 q5
        exact hfin p' m w (.tup []) undef q1 q2 q3 (by rw [hp']; exact Ext.refl _ _) (by rw [hp']; exact hw) (Below.refl _ _) VR.und q4 q5 (step_skip_op ho (hread hwa))
      rcases Nat.lt_or_ge k p with hkp | hkp
      · obtain ⟨_, l2⟩ := h2 k hkp hnf
        rcases l2 with ⟨l2, l3⟩ | ⟨l2, v, l3, l4⟩
        · exact hskip p rfl l2 hkp (Nat.le_refl _) hp l3 (fun j hj _ hn => h2 j hj hn)
        · exact hdo l2 l3 p rfl hkp (Nat.le_refl _) hp l4 (fun j hj _ hn => h2 j hj hn)
      · obtain ⟨e1, e2⟩ := hput (k - p) (by omega)
        rw [show p + (k - p) = k by omega] at e1 e2
        have hcall : ∀ {g args fn x h'}, calleeA (ts N) (opP all pl k) = some (g, args) → P.funcs[g]? = some fn → (fn.body.isNone = false ∧ (fn.name == "runtime.NumGoroutine") = false) → AC P g args (hs k) (x, h') → wantedA all (ts N) (opP all pl k) = some true →
            ∃ vs : List Value, VRs P m (hs p) args vs ∧ (execOp a.eval o).run P w = .ok (.enter g vs.toArray) w := by
          intro g args fn x h' c1 c2 c3 c4 c5
          have c1' := c1
          rw [← calleeA_congr hlook, hok] at c1'
          exact callee_sound ht c1' c2 c3.2 c3.1
        rcases Nat.lt_or_ge k N with hkN2 | hkN2
        · have hlt : ∀ j, j < k + 1 → j ≠ k → li.getD (ixP pl j) false = false → LateP P po f all (ts N) (opP all pl j) (hs (k + 1)) := by
            intro j hj hjk hn
            refine T.turn (by omega) hkN2 ?_ (by rw [e1]; exact e2 j (by omega) hn)
            intro hx
            have := hpre' j (by omega) hx
            rw [hn] at this
            cases this
          rcases T.at hkN2 with ⟨a1, a2, a3⟩ | ⟨a1, v, a2, a3, a4⟩
          · exact hskip (k + 1) (by rw [a3, e1]) a1 (by omega) (by omega) hkN2 a2 hlt
          · rcases a2 with ⟨_, a2⟩ | ⟨g, args, fn, c1, c2, c3, c4⟩
            · rw [e1] at a2
              exact hdo a1 a2 (k + 1) rfl (by omega) (by omega) hkN2 a3 hlt
            · obtain ⟨vs, v1, v2⟩ := hcall c1 c2 c3 c4 a1
              have hac := c4 m w vs (by rw [e1]; exact hw) (by rw [e1]; exact v1)
              rw [e1] at hac
              obtain ⟨e, w', hR, hst⟩ := step_call (b := b) (cs := cs) (k := K) (rest := L) ho (hread a1) v2 hac (by rintro w' ⟨m', _, _, _, u', h, _⟩; cases h)
              obtain ⟨m', x1, x2, x3, u', x4, x5⟩ := hR
              subst x4
              rcases hst with ⟨v', h3, h4⟩ | ⟨ch, h3, _⟩
              · injection h3 with h3
                subst h3
                exact hfin (k + 1) m' w' v u' (by omega) (by omega) hkN2 x1 x2 x3 x5 a3 hlt h4
              · cases h3
        · obtain rfl : k = N := by omega
          have hkeep : ∀ d, S d = true → (mixT all pl li (ts k)).getD d .junk = (ts k).getD d .junk := fun d hd => mixT_get fun j hj hdj => absurd hdj (hS d hd j hj)
          rcases hall with h | ⟨v, h', h3, ⟨h4, ⟨c1, c2⟩ | ⟨g, args, fn, c1, c2, c3, c4⟩⟩, h5⟩
          · omega
          · rw [← panA_congr hlook, hok] at c1
            obtain ⟨u', x1, x2⟩ := pan_sound (w := w) ht c1
            rw [h5, c2, e1]
            exact ⟨m, w, Ext.refl _ _, hw, Below.refl _ _, a, _, u', ⟨_, ht, hkeep⟩, hd, x1, step_pan ho (hread h4) x2⟩
          · obtain ⟨vs, v1, v2⟩ := hcall c1 c2 c3 c4 h4
            have hac := c4 m w vs (by rw [e1]; exact hw) (by rw [e1]; exact v1)
            rw [e1] at hac
            obtain ⟨e, w', hR, hst⟩ := step_call (b := b) (cs := cs) (k := K) (rest := L) ho (hread h4) v2 hac (by rintro w' ⟨m', _, _, _, u', h, _⟩; cases h)
            obtain ⟨m', x1, x2, x3, u', x4, x5⟩ := hR
            subst x4
            rcases hst with ⟨v', h6, _⟩ | ⟨ch, h6, todo, h7⟩
            · cases h6
            · injection h6 with h6
              subst h6
              rw [h5]
              exact ⟨m', w', x1, x2, x3, a, todo, u', ⟨_, ht.ext x1, hkeep⟩, hd, x5, h7⟩
end
end Go.Proofs.YtngphebjmmencaaDoor
namespace Go.Proofs.YtngphebjmmencaaDoor
set_option linter.unusedSimpArgs false
set_option linter.unusedVariables false
open Go Go.RowKit

section
variable {P : Program} {m m' : Mm} {h h' : AH} {w w' : World}

theorem GrewA.refl (h : AH) : GrewA h h := ⟨Nat.le_refl _, Nat.le_refl _, fun _ _ => rfl, fun _ _ => rfl⟩
theorem GrewA.trans {h1 h2 h3 : AH} (a : GrewA h1 h2) (b : GrewA h2 h3) : GrewA h1 h3 :=
  ⟨Nat.le_trans a.n b.n, Nat.le_trans a.ids b.ids, fun k hk => (b.cell k (Nat.lt_of_lt_of_le hk a.n)).trans (a.cell k hk), fun k hk => (b.hw k (Nat.lt_of_lt_of_le hk a.ids)).trans (a.hw k hk)⟩
theorem GrewA.push (h : AH) (es : List (List AV)) : GrewA h (h.push es) := ⟨by simp [AH.push], by simp [AH.push], fun b hb => by simp [AH.push, show b ≠ h.n by omega], fun _ _ => rfl⟩
theorem GrewA.fresh (h : AH) (n : Nat) : GrewA h (h.fresh n) := ⟨by simp [AH.fresh], by simp [AH.fresh], fun b hb => rfl, fun k hk => by simp [AH.fresh, show k ≠ h.ids by omega]⟩
theorem GrewA.grow {h0 h : AH} (g : GrewA h0 h) {id n : Nat} (hi : h0.ids ≤ id) : GrewA h0 (h.grow id n) := ⟨g.n, g.ids, g.cell, fun k hk => by simpa [AH.grow, show k ≠ id by omega] using g.hw k hk⟩
theorem GrewA.set {h0 h : AH} (g : GrewA h0 h) {b : Nat} {es : Option (List (List AV))} (hb : h0.n ≤ b) : GrewA h0 (h.set b es) := ⟨g.n, g.ids, fun k hk => by simpa [AH.set, show k ≠ b by omega] using g.cell k hk, g.hw⟩

/-- what spoke of the old memory speaks of it still -/
theorem VR.back (x : Ext m h m' h') (g : GrewA h h') {v : AV} {u : Value} (r : VR P m' h' v u) : ∀ {u0 : Value}, VR P m h v u0 → VR P m' h v u := by
  induction r with
  | junk v => intro _ _; exact .junk v
  | bool b => intro _ _; exact .bool b
  | int k n => intro _ _; exact .int k n
  | str l => intro _ _; exact .str l
  | nilp => intro _ _; exact .nilp
  | ptr b i off hb =>
    intro u0 r0
    cases r0 with
    | ptr _ _ _ hb0 => exact .ptr b i off hb0
  | tptr t b hb ht =>
    intro u0 r0
    cases r0 with
    | tptr _ _ hb0 _ => exact .tptr t b hb0 ht
  | ip e off g o F hi hv ih =>
    intro u0 r0
    cases r0 with
    | ip _ _ g0 o0 F0 hi0 hv0 => exact .ip e off g o F hi (fun j hj => ih j hj (hv0 j hj))
  | nils => intro _ _; exact .nils
  | isl id e es gg o cap F hl hi hv hc ht ih =>
    intro u0 r0
    cases r0 with
    | isl _ _ _ g0 o0 cap0 F0 hl0 hi0 hv0 hc0 ht0 =>
      refine .isl id e es gg o cap F hl hi (fun i hi' j hj => ih i hi' j hj (hv0 i hi' j hj)) hc (fun k hk => ?_)
      obtain ⟨a1, a2, a3, a4⟩ := ht k hk
      obtain ⟨b1, b2, b3, b4⟩ := ht0 k hk
      have := g.hw k b1
      exact ⟨b1, a2, b3, fun e' => a4 (by omega)⟩
    | isl0 _ _ _ => exact .isl none e [] gg o cap F (by simp) (fun i hi => absurd hi (Nat.not_lt_zero _)) (fun i hi => absurd hi (Nat.not_lt_zero _)) hc (fun k hk => by cases hk)
  | isl0 e a cap => intro _ _; exact .isl0 e a cap
  | msl b o n e cap hb he hcap hn hmx =>
    intro u0 r0
    cases r0 with
    | msl _ _ _ _ _ hb0 _ _ _ _ => exact .msl b o n e cap hb0 he hcap hn hmx
  | fn g l c l' c' h1 h2 h3 h4 ih1 ih2 =>
    intro u0 r0
    cases r0 with
    | fn _ _ _ l0 c0 a1 a2 a3 a4 => exact .fn g l c l' c' h1 h2 (fun j hj hj' => ih1 j hj hj' (a3 j hj (by omega))) (fun j hj hj' => ih2 j hj hj' (a4 j hj (by omega)))
  | nilf => intro _ _; exact .nilf
  | nili => intro _ _; exact .nili
  | iface t v v' h1 ih =>
    intro u0 r0
    cases r0 with
    | iface _ _ _ a1 => exact .iface t v v' (ih a1)
  | agg l l' h1 h3 ih =>
    intro u0 r0
    cases r0 with
    | agg _ l0 a1 a3 => exact .agg l l' h1 (fun j hj hj' => ih j hj hj' (a3 j hj (by omega)))
  | tup l l' h1 h3 ih =>
    intro u0 r0
    cases r0 with
    | tup _ l0 a1 a3 => exact .tup l l' h1 (fun j hj hj' => ih j hj hj' (a3 j hj (by omega)))

theorem WR.back (hw : WR P m h w) (x : Ext m h m' h') (g : GrewA h h') (hw' : WR P m' h' w') : Ext m h m' h ∧ WR P m' h w' := by
  refine ⟨⟨x.base, Nat.le_refl _, Nat.le_refl _, x.blk, x.imm, fun k hk => ?_⟩, ?_⟩
  · obtain ⟨a1, a2, a3⟩ := x.te k hk
    exact ⟨a1, Nat.le_refl _, fun _ => a3 (g.hw k hk)⟩
  have up : ∀ b es, h.cell b = some es → h'.cell b = some es := fun b es hb => by rw [g.cell b (hw.lt b es hb).1]; exact hb
  refine ⟨hw'.size, fun b es hb => ⟨(hw.lt b es hb).1, (hw'.lt b es (up b es hb)).2⟩, fun b es hb => ?_, fun b b' es es' hb hb' => hw'.inj b b' es es' (up _ _ hb) (up _ _ hb'), hw'.imm, fun b es hb => hw'.sep b es (up _ _ hb), fun k hk => ?_, fun k hk => ?_, fun k hk b es hb => ?_, fun k k' hk hk' => ?_, hw'.good⟩
  · obtain ⟨cs, h1, h2, h3, h4, h5⟩ := hw'.live b es (up _ _ hb)
    obtain ⟨cs0, _, _, _, _, k5⟩ := hw.live b es hb
    refine ⟨cs, h1, h2, h3, h4, fun i hi j hj => ?_⟩
    obtain ⟨v, h6, h7⟩ := h5 i hi j hj
    obtain ⟨v0, _, k7⟩ := k5 i hi j hj
    exact ⟨v, h6, h7.back x g k7⟩
  · have := hw'.tip k (Nat.lt_of_lt_of_le hk g.ids)
    rwa [g.hw k hk] at this
  · have := hw'.tfree k (Nat.lt_of_lt_of_le hk g.ids)
    rwa [g.hw k hk] at this
  · exact hw'.tblk k (Nat.lt_of_lt_of_le hk g.ids) b es (up _ _ hb)
  · exact hw'.tinj k k' (Nat.lt_of_lt_of_le hk g.ids) (Nat.lt_of_lt_of_le hk' g.ids)

theorem wkL_spec : ∀ {l l2 : List AV}, wkL l = some l2 → l2.length = l.length ∧ ∀ j (hj : j < l.length) (hj2 : j < l2.length), wkA l[j] = some l2[j]
  | [], l2, he => by simp [wkL] at he; subst he; exact ⟨rfl, fun j hj => by simp at hj⟩
  | v :: l, l2, he => by
    simp only [wkL] at he
    split at he
    · rename_i v' l' h1 h2
      injection he with he
      subst he
      obtain ⟨a1, a2⟩ := wkL_spec h2
      refine ⟨by simp [a1], fun j hj hj2 => ?_⟩
      cases j with
      | zero => exact h1
      | succ j => exact a2 j (by simpa using hj) (by simpa using hj2)
    · cases he
theorem wkR_spec : ∀ {l l2 : List (List AV)}, wkR l = some l2 → l2.length = l.length ∧ ∀ j (hj : j < l.length) (hj2 : j < l2.length), wkL l[j] = some l2[j]
  | [], l2, he => by simp [wkR] at he; subst he; exact ⟨rfl, fun j hj => by simp at hj⟩
  | v :: l, l2, he => by
    simp only [wkR] at he
    split at he
    · rename_i v' l' h1 h2
      injection he with he
      subst he
      obtain ⟨a1, a2⟩ := wkR_spec h2
      refine ⟨by simp [a1], fun j hj hj2 => ?_⟩
      cases j with
      | zero => exact h1
      | succ j => exact a2 j (by simpa using hj) (by simpa using hj2)
    · cases he

theorem VR.weak {h0 : AH} {v : AV} {u : Value} (r : VR P m h v u) : ∀ {v2 : AV}, wkA v = some v2 → VR P m h0 v2 u := by
  induction r with
  | junk v => intro v2 he; simp [wkA] at he; subst he; exact .junk v
  | bool b => intro v2 he; simp [wkA] at he; subst he; exact .bool b
  | int k n => intro v2 he; simp [wkA] at he; subst he; exact .int k n
  | str l => intro v2 he; simp [wkA] at he; subst he; exact .str l
  | nilp => intro v2 he; simp [wkA] at he; subst he; exact .nilp
  | ptr b i off hb => intro v2 he; simp [wkA] at he
  | tptr t b hb ht => intro v2 he; simp [wkA] at he
  | ip e off g o F hi hv ih => intro v2 he; simp [wkA] at he
  | nils => intro v2 he; simp [wkA] at he; subst he; exact .nils
  | isl id e es gg o cap F hl hi hv hc ht ih =>
    intro v2 he
    simp only [wkA] at he
    obtain ⟨es2, h1, rfl⟩ := Option.map_eq_some_iff.1 he
    obtain ⟨a1, a2⟩ := wkR_spec h1
    have hrow : ∀ i (hi : i < es.length) (hi2 : i < es2.length), es2[i].length = es[i].length := fun i hi hi2 => (wkL_spec (a2 i hi hi2)).1
    have : es2.length = es.length := a1
    rw [← this]
    refine .isl none e es2 gg o cap F (fun r hr => ?_) (fun i hi' j hj => hi i (by omega) j hj) (fun i hi' j hj => ?_) (by omega) (fun k hk => by cases hk)
    · obtain ⟨i, hi2, rfl⟩ := List.getElem_of_mem hr
      rw [hrow i (by omega) hi2]
      exact hl _ (List.getElem_mem _)
    · have hi0 : i < es.length := by omega
      have hj0 : j < es[i].length := by rw [← hrow i hi0 hi']; exact hj
      exact ih i hi0 j hj0 ((wkL_spec (a2 i hi0 hi')).2 j hj0 hj)
  | isl0 e a cap => intro v2 he; simp [wkA, wkR] at he; subst he; exact .isl0 e a cap
  | msl b o n e cap hb he hcap hn hmx => intro v2 he; simp [wkA] at he
  | fn g l c l' c' h1 h2 h3 h4 ih1 ih2 => intro v2 he; simp [wkA] at he
  | nilf => intro v2 he; simp [wkA] at he; subst he; exact .nilf
  | nili => intro v2 he; simp [wkA] at he; subst he; exact .nili
  | iface t v v' h1 ih =>
    intro v2 he
    simp only [wkA] at he
    obtain ⟨v3, h1, rfl⟩ := Option.map_eq_some_iff.1 he
    exact .iface t v3 v' (ih h1)
  | agg l l' h1 h3 ih =>
    intro v2 he
    simp only [wkA] at he
    obtain ⟨l2, h2, rfl⟩ := Option.map_eq_some_iff.1 he
    obtain ⟨a1, a2⟩ := wkL_spec h2
    exact .agg l2 l' (by omega) (fun j hj hj' => ih j (by omega) hj' (a2 j (by omega) hj))
  | tup l l' h1 h3 ih =>
    intro v2 he
    simp only [wkA] at he
    obtain ⟨l2, h2, rfl⟩ := Option.map_eq_some_iff.1 he
    obtain ⟨a1, a2⟩ := wkL_spec h2
    exact .tup l2 l' (by omega) (fun j hj hj' => ih j (by omega) hj' (a2 j (by omega) hj))

theorem AC.forget {g : FuncId} {args : List AV} {p : Bool} {q q' : (AV ⊕ AV) × AH} (hac : AC P g args h q) (hq : fgA p h q = some q') : AC P g args h q' := by
  unfold fgA at hq
  split at hq
  · split at hq
    · rename_i hg
      obtain ⟨x, h2⟩ := q
      intro m w vs hw hv
      refine (hac m w vs hw hv).mono fun e w' ⟨m', x1, x2, x3, x4⟩ => ?_
      obtain ⟨y1, y2⟩ := hw.back x1 hg x2
      cases x with
      | inl v =>
        obtain ⟨v2, e1, rfl⟩ := Option.map_eq_some_iff.1 hq
        obtain ⟨u, e2, e3⟩ := x4
        exact ⟨m', y1, y2, x3, u, e2, e3.weak e1⟩
      | inr v =>
        obtain ⟨v2, e1, rfl⟩ := Option.map_eq_some_iff.1 hq
        obtain ⟨u, e2, e3⟩ := x4
        exact ⟨m', y1, y2, x3, u, e2, e3.weak e1⟩
    · cases hq
  · injection hq with hq
    subst hq
    exact hac
end
end Go.Proofs.YtngphebjmmencaaDoor
namespace Go.Proofs.YtngphebjmmencaaDoor
set_option linter.unusedSimpArgs false
set_option linter.unusedVariables false
open Go Go.RowKit

inductive KR (pl : Nat → List (Nat × List Nat)) (S : Nat → Bool) : List AItem → List Item → Prop
  | nil : KR pl S [] []
  | code (c : Code) (k : List AItem) (K : List Item) : regOK pl S c = true → KR pl S k K → KR pl S (.code c :: k) (.code c :: K)
  | inBlock (id : Nat) (k : List AItem) (K : List Item) : KR pl S k K → KR pl S (.inBlock id :: k) (.inBlock id :: K)
  | inLoop (c : Code) (k : List AItem) (K : List Item) : regOK pl S c = true → KR pl S k K → KR pl S (.inLoop c :: k) (.inLoop c :: K)
  | halt (K : List Item) (k : List AItem) : KR pl S (.halt K :: k) K

def GoodK (P : Program) (po : Pol) (f : FuncId) (k : List AItem) (t : List AV) (h : AH) (r : AEx × List AV × AH) : Prop :=
  ∀ K, KR (po.plan f) (po.kp f) k K → ∀ (b : Frame) (cs : List Frame) (m : Mm) (w : World) (a : Act), WR P m h w → TR P m h t a.tmps → a.defers = b.defers → OutR P (po.kp f) m h w b cs (lone (b.at a K) cs w) r

def MotK (P : Program) (po : Pol) (f : FuncId) : List AItem → List AV → AH → AEx × List AV × AH → Prop
  | .ops true all l :: k, t, h, r => ∃ e t' h', PRun P po f all l t h e t' h' ∧ (match e with | none => GoodK P po f k t' h' r | some v => r = (.panic v, t', h'))
  | .ops false all l :: k, t, h, r => ∀ is : List Nat, l = is.map (fun i => (opI all i, [])) → (∀ i ∈ is, i < all.size) → ∀ K, KR (po.plan f) (po.kp f) k K →
      ∀ (b : Frame) (cs : List Frame) (m : Mm) (w : World) (a : Act), WR P m h w → TR P m h t a.tmps → a.defers = b.defers → OutR P (po.kp f) m h w b cs (lone (b.at a (.inRegion all is :: K)) cs w) r
  | k, t, h, r => GoodK P po f k t h r

section
variable {P : Program} {po : Pol} {f : FuncId} {k : List AItem} {t : List AV} {h h' : AH} {r : AEx × List AV × AH}

theorem MotK.good (hm : MotK P po f k t h r) : GoodK P po f k t h r := by
  rcases k with _ | ⟨x, k⟩
  · exact hm
  · cases x with
    | ops d all l => intro K hK; cases hK
    | _ => exact hm

theorem exit_sound {pl : Nat → List (Nat × List Nat)} {S : Nat → Bool} {id : Nat} : ∀ {k k' : List AItem} {K : List Item}, KR pl S k K → exitA id k = some k' → ∃ K', exitTo id K = some K' ∧ KR pl S k' K' := by
  intro k k' K hk
  induction hk with
  | nil => intro he; simp [exitA] at he
  | code c k K _ _ ih => intro he; simp only [exitA] at he; simpa [exitTo] using ih he
  | inBlock i k K hk ih =>
    intro he
    simp only [exitA] at he
    by_cases hi : i = id
    · rw [if_pos hi] at he
      injection he with he
      subst he
      exact ⟨K, by simp [exitTo, hi], hk⟩
    · rw [if_neg hi] at he
      simpa [exitTo, hi] using ih he
  | inLoop c k K _ _ ih => intro he; simp only [exitA] at he; simpa [exitTo] using ih he
  | halt K k => intro he; simp [exitA] at he

theorem opF_steps (pok : POK P po) {o : Oper} {v : AV} {m : Mm} {w : World} {a : Act} {b : Frame} {cs : List Frame} {K : List Item} {all : Array Oper} {i : Nat} {rest : List Nat} (ho : all[i]? = some o) (hwa : wantedA all t o = some true)
    (hw : WR P m h w) (ht : TR P m h t a.tmps) (hf : OpF P po f t h o v h') :
    ∃ m' w' u, Ext m h m' h' ∧ WR P m' h' w' ∧ VR P m' h' v u ∧ Below m.base w w' ∧ Steps P (lone (b.at a (.inRegion all (i :: rest) :: K)) cs w) (lone (b.at (a.put o.dst u) (.inRegion all rest :: K)) cs w') := by
  have hwt := wanted_sound ht all o hwa
  rcases hf with ⟨_, h2⟩ | ⟨g, args, fn, c1, c2, c3, c4⟩
  · obtain ⟨m', w', u, d1, d2, d3, d4, d5⟩ := evalOp_sound pok.ty hw ht (po.mu f) h2
    exact ⟨m', w', u, d2, d3, d4, d5, step_value ho hwt d1⟩
  · obtain ⟨vs, v1, v2⟩ := callee_sound (w := w) ht c1 c2 c3.2 c3.1
    obtain ⟨e, w', hR, hst⟩ := step_call (b := b) (cs := cs) (k := K) (rest := rest) ho hwt v2 (c4 m w vs hw v1) (by rintro w' ⟨m', _, _, _, u', h, _⟩; cases h)
    obtain ⟨m', x1, x2, x3, u', x4, x5⟩ := hR
    subst x4
    rcases hst with ⟨v', h3, h4⟩ | ⟨ch, h3, _⟩
    · injection h3 with h3
      subst h3
      exact ⟨m', w', u', x1, x2, x5, x3, h4⟩
    · cases h3
theorem stopF_steps {S : Nat → Bool} (pok : POK P po) {o : Oper} {v : AV} {m : Mm} {w : World} {a : Act} {b : Frame} {cs : List Frame} {K : List Item} {all : Array Oper} {i : Nat} {rest : List Nat} (ho : all[i]? = some o)
    (hw : WR P m h w) (ht : TR P m h t a.tmps) (hd : a.defers = b.defers) (hf : StopF P all o t h v h') : OutR P S m h w b cs (lone (b.at a (.inRegion all (i :: rest) :: K)) cs w) (.panic v, t, h') := by
  obtain ⟨hwa, ⟨c1, c2⟩ | ⟨g, args, fn, c1, c2, c3, c4⟩⟩ := hf
  · have hwt := wanted_sound ht all o hwa
    obtain ⟨u', x1, x2⟩ := pan_sound (w := w) ht c1
    subst c2
    exact ⟨m, w, Ext.refl _ _, hw, Below.refl _ _, a, _, u', ⟨t, ht, fun _ _ => rfl⟩, hd, x1, step_pan ho hwt x2⟩
  have hwt := wanted_sound ht all o hwa
  obtain ⟨vs, v1, v2⟩ := callee_sound (w := w) ht c1 c2 c3.2 c3.1
  obtain ⟨e, w', hR, hst⟩ := step_call (b := b) (cs := cs) (k := K) (rest := rest) ho hwt v2 (c4 m w vs hw v1) (by rintro w' ⟨m', _, _, _, u', h, _⟩; cases h)
  obtain ⟨m', x1, x2, x3, u', x4, x5⟩ := hR
  subst x4
  rcases hst with ⟨v', h3, _⟩ | ⟨ch, h3, todo, h4⟩
  · cases h3
  · injection h3 with h3
    subst h3
    exact ⟨m', w', x1, x2, x3, a, todo, u', ⟨t, ht.ext x1, fun _ _ => rfl⟩, hd, x5, h4⟩

/-- a call of a function of the program -/
theorem good_call (pok : POK P po) {g : FuncId} {fn : Func} {c : Code} {args : List AV} (hf : P.funcs[g]? = some fn) (hb : fn.body = some c) (huse : po.use g = true) (hg : GoodK P po g [.code c] (args ++ List.replicate (fn.ntmps - args.length) .junk) h r) :
    ∀ q, outA P fn r = some q → AC P g args h q := by
  have key : ∀ (m : Mm) (w : World) (vs : List Value), WR P m h w → VRs P m h args vs → ∀ cs, ∃ b : Frame, b.fn = g ∧ b.kind = .normal ∧ b.defers = [] ∧ OutR P (po.kp g) m h w b cs (lone (Frame.enter P g vs.toArray .normal) cs w) r := by
    intro m w vs hw hv cs
    refine ⟨Frame.enter P g vs.toArray .normal, rfl, rfl, rfl, ?_⟩
    have := hg [.code c] (.code c _ _ (pok.plan g fn c hf hb huse) .nil) (Frame.enter P g vs.toArray .normal) cs m w { tmps := (vs ++ List.replicate (fn.ntmps - vs.length) undef).toArray, defers := [] } hw ?_ rfl
    · have e : (Frame.enter P g vs.toArray .normal).at { tmps := (vs ++ List.replicate (fn.ntmps - vs.length) undef).toArray, defers := [] } [.code c] = Frame.enter P g vs.toArray .normal := by
        simp [Frame.enter, Frame.at, hf, hb]
      rwa [e] at this
    · have hl := hv.1
      have h2 : VRs P m h (args ++ List.replicate (fn.ntmps - args.length) .junk) (vs ++ List.replicate (fn.ntmps - vs.length) undef) := by
        rw [hl]
        exact VRs.append hv ⟨by simp, fun j hj hj' => by simp only [List.getElem_replicate]; exact .junk _⟩
      refine ⟨by simpa using h2.1, fun i hi => ?_⟩
      have hi2 : i < (vs ++ List.replicate (fn.ntmps - vs.length) undef).length := by rw [h2.1]; exact hi
      have := h2.2 i hi hi2
      simp only [Array.getD_eq_getD_getElem?, List.getElem?_toArray, List.getElem?_eq_getElem hi2, Option.getD_some]
      exact this
  obtain ⟨x, t', h'⟩ := r
  cases x with
  | ret =>
    intro q hq
    obtain ⟨v, hv, rfl⟩ := Option.map_eq_some_iff.1 hq
    intro m w vs hw hvs cs
    obtain ⟨b, hb1, hb2, hb3, m', w', h1, h2, h3, a', todo, h4, h5, h6⟩ := key m w vs hw hvs cs
    rw [hb3] at h5
    obtain ⟨u, h7, h8⟩ := res_sound h2 h4 hv
    exact ⟨.returned u, w', _, ⟨m', h1, h2, h3, u, rfl, h8⟩, h6, hb1, rfl, h5, hb2, fn, by simpa [Frame.at, hb1] using hf, h7⟩
  | halt K => intro q hq; cases hq
  | panic v =>
    intro q hq
    injection hq with hq
    subst hq
    intro m w vs hw hvs cs
    obtain ⟨b, hb1, hb2, hb3, m', w', h1, h2, h3, a', todo, u, _, h4, h5, h6⟩ := key m w vs hw hvs cs
    rw [hb3] at h4
    exact ⟨.panicked _, w', _, ⟨m', h1, h2, h3, u, rfl, h5⟩, h6, hb1, rfl, h4, fn, by simpa [Frame.at, hb1] using hf⟩

theorem MotK.ops_nil {dr : Bool} {all : Array Oper} (hm : MotK P po f k t h r) : MotK P po f (.ops dr all [] :: k) t h r := by
  cases dr with
  | true => exact ⟨none, t, h, .nil t h, hm.good⟩
  | false =>
    intro is his hlt K hK b cs m w a hw ht hd
    cases is with
    | cons i is => simp at his
    | nil => exact OutR.steps (.one step_region_end) (hm.good K hK b cs m w a hw ht hd)
theorem MotK.ops_step (pok : POK P po) {dr : Bool} {all : Array Oper} {q : Oper × List Oper} {l : List (Oper × List Oper)} {t1 : List AV} {h1 : AH} (hs : StepF P po f all q t h t1 h1) (hm : MotK P po f (.ops dr all l :: k) t1 h1 r) : MotK P po f (.ops dr all (q :: l) :: k) t h r := by
  cases dr with
  | true =>
    obtain ⟨e, t', h', h2, h3⟩ := hm
    exact ⟨e, t', h', .step _ _ _ _ _ _ _ _ _ hs h2, h3⟩
  | false =>
    intro is his hlt K hK b cs m w a hw ht hd
    cases is with
    | nil => simp at his
    | cons i is =>
      simp only [List.map_cons, List.cons.injEq] at his
      obtain ⟨rfl, his⟩ := his
      have ho := opI_get (all := all) (hlt i (by simp))
      rcases hs with ⟨s1, rfl, rfl⟩ | ⟨s1, v, s2, rfl, _⟩
      · exact OutR.steps (step_skip_op ho (wanted_sound ht all _ s1)) (hm is his (fun j hj => hlt j (by simp [hj])) K hK b cs m w _ hw (ht.put VR.und _) (by rw [Act.put_defers']; exact hd))
      · obtain ⟨m', w', u, d1, d2, d3, d4, d5⟩ := opF_steps (b := b) (cs := cs) (K := K) (rest := is) pok ho s1 hw ht s2
        exact OutR.steps d5 (OutR.after d1 d4 (hm is his (fun j hj => hlt j (by simp [hj])) K hK b cs m' w' _ d2 ((ht.ext d1).put d3 _) (by rw [Act.put_defers']; exact hd)))
theorem MotK.ops_stop (pok : POK P po) {dr : Bool} {all : Array Oper} {q : Oper × List Oper} {l : List (Oper × List Oper)} {v : AV} (hs : StopF P all q.1 t h v h') : MotK P po f (.ops dr all (q :: l) :: k) t h (.panic v, t, h') := by
  cases dr with
  | true => exact ⟨some v, t, h', .stop _ _ _ _ _ _ hs, rfl⟩
  | false =>
    intro is his hlt K hK b cs m w a hw ht hd
    cases is with
    | nil => simp at his
    | cons i is =>
      simp only [List.map_cons, List.cons.injEq] at his
      obtain ⟨rfl, his⟩ := his
      exact stopF_steps pok (opI_get (hlt i (by simp))) hw ht hd hs

theorem region_good (pok : POK P po) {id : Nat} {all : Array Oper} {d : Bool} (hm : MotK P po f (.ops d all (planA d all (po.plan f id)) :: k) t h r) : GoodK P po f (.code (.region id all d) :: k) t h r := by
  intro K hK b cs m w a hw ht hd
  cases hK with
  | code _ _ K hr hK =>
  cases d with
  | false =>
    refine OutR.steps (.one step_region) (hm (List.range all.size) ?_ (fun i hi => List.mem_range.1 hi) K hK b cs m w a hw ht hd)
    simp only [planA, Bool.false_eq_true, if_false]
    apply List.ext_getElem (by simp)
    intro i h1 h2
    have hi : i < all.size := by simpa using h1
    simp [opI, hi]
  | true =>
    simp only [regOK, Bool.not_true, Bool.false_or] at hr
    rw [Bool.and_eq_true] at hr
    obtain ⟨hr, hkp⟩ := hr
    have pp := plan_spec hr
    have hS : ∀ d, po.kp f d = true → ∀ k, k < (po.plan f id).length → (opP all (po.plan f id) k).dst ≠ some d := fun d hd k hk e => by
      have hlt := pp.lt k hk
      have hm := List.all_eq_true.1 hkp (opP all (po.plan f id) k) (Array.mem_toList_iff.2 (Array.mem_of_getElem? (opI_get hlt)))
      rw [e] at hm
      simp [hd] at hm
    obtain ⟨e, t', h', hp, he⟩ := hm
    obtain ⟨N, ts, hs, h1, h2, h3, h4, h5, h6⟩ := hp.trace
    generalize hpl : po.plan f id = pl at *
    have hlen : (planA true all pl).length = pl.length := by simp [planA]
    have hget : ∀ i, i < pl.length → (planA true all pl)[i]? = some (opP all pl i, (ckP pl i).map (opI all)) := by
      intro i hi
      simp only [planA, if_true, List.getElem?_map, List.getElem?_eq_getElem hi, Option.map_some, Option.some.injEq]
      have e1 : pl.getD i default = pl[i] := by simp [List.getD, hi]
      simp only [opP, opI, ixP, ckP, e1]
      rfl
    have T : Tra P po f all pl (fun _ _ => False) N ts hs := ⟨pp, by omega, fun i hi => h5 i _ hi (hget i (by omega))⟩
    subst h2; subst h3; subst h4
    refine OutR.steps (.one step_region_draw) (OutR.after (Ext.refl _ _) (Below.refl _ _).drew ?_)
    simp only [Region.schedule, pok.mixed, Bool.true_or, if_true, Region.linearise]
    refine any_list (S := po.kp f) hS (r := r) (K := K) (b := b) (cs := cs) pok T ?_ ?_ _ (Array.replicate all.size false) 0 m a _ (ord_of pp.edges _ _ _ (by simp) ?_) (Nat.zero_le _) (by simp) ?_ ?_ ?_ hw.drew ?_ hd
    · cases e with
      | none => exact .inl (by omega)
      | some v =>
        obtain ⟨q, hq, hst⟩ := h6
        have hN : N < pl.length := by
          have := (List.getElem?_eq_some_iff.1 hq).1
          omega
        rw [hget N hN] at hq
        injection hq with hq
        subst hq
        exact .inr ⟨v, h', hN, hst, he⟩
    · intro hN m1 w1 a1 q1 q2 q3
      cases e with
      | none =>
        obtain ⟨_, h6⟩ := h6
        subst h6
        exact he K hK b cs m1 w1 a1 q1 q2 q3
      | some v =>
        obtain ⟨q, hq, hst⟩ := h6
        have := (List.getElem?_eq_some_iff.1 hq).1
        omega
    · simp [List.countP_replicate]
    · intro j hj hjl
      simp [Array.getD_eq_getD_getElem?, hj] at hjl
    · intro j hj hjl
      have := pp.lt j hj
      simp [Array.getD_eq_getD_getElem?, this] at hjl
    · intro j hj
      omega
    · have hl := T.len 0 (Nat.zero_le _)
      refine ⟨by rw [mixT_len, ← hl]; exact ht.1, fun d hdl => ?_⟩
      have hdl' : d < (ts 0).length := by rw [mixT_len] at hdl; omega
      by_cases hrd : ReadyS all pl (Array.replicate all.size false) d
      · have e1 := mixT_get (τ := ts N) hrd
        have e2 : (mixT all pl (Array.replicate all.size false) (ts N))[d] = (ts N).getD d .junk := by
          rw [← e1]
          simp [List.getD, hdl]
        have e3 := T.keep d 0 N (by omega) (fun j _ hj he => by
          have hjl : j < pl.length := by omega
          have := hrd j hjl he
          have h3 := pp.lt j hjl
          simp [Array.getD_eq_getD_getElem?, h3] at this)
        rw [Nat.zero_add] at e3
        rw [e2, e3]
        have := ht.2 d hdl'
        simpa [List.getD, hdl'] using this
      · have e3 : (mixT all pl (Array.replicate all.size false) (ts N))[d] = .junk := by simp [mixT, hrd]
        rw [e3]
        exact .junk _
end

theorem runK_motive {P : Program} {po : Pol} (pok : POK P po) : ∀ (f : FuncId) (k : List AItem) (t : List AV) (h : AH) (r : AEx × List AV × AH), runK P po f k t h = some r → MotK P po f k t h r := by
  refine runK.partial_correctness P po (MotK P po) fun run ih f k t h r hr => ?_
  split at hr
  · injection hr with hr
    subst hr
    intro K hK b cs m w a hw ht hd
    cases hK
    exact ⟨m, w, Ext.refl _ _, hw, Below.refl _ _, a, [], ht, hd, .one step_end⟩
  · rename_i id k
    intro K hK b cs m w a hw ht hd
    cases hK with
    | inBlock _ _ K hK => exact OutR.steps (.one step_inBlock) ((ih _ _ _ _ _ hr).good K hK b cs m w a hw ht hd)
  · rename_i KH k
    injection hr with hr
    subst hr
    intro K hK b cs m w a hw ht hd
    cases hK
    exact ⟨m, w, Ext.refl _ _, hw, Below.refl _ _, a, ht, hd, Steps.refl _ _⟩
  · rename_i c k
    intro K hK b cs m w a hw ht hd
    cases hK with
    | inLoop _ _ K hc hK => exact OutR.steps (.one step_inLoop) ((ih _ _ _ _ _ hr).good _ (.code c _ _ hc (.inLoop c _ _ hc hK)) b cs m w a hw (ht.clear _) hd)
  · exact (ih _ _ _ _ _ hr).ops_nil
  · rename_i dr all o ck l k
    split at hr
    · cases hr
    · rename_i hwa
      exact MotK.ops_step pok (.inl ⟨hwa, rfl, rfl⟩) (ih _ _ _ _ _ hr)
    · rename_i hwa
      split at hr
      · rename_i v hpa
        injection hr with hr
        subst hr
        exact MotK.ops_stop (q := (o, ck)) pok ⟨hwa, .inl ⟨hpa, rfl⟩⟩
      split at hr
      · rename_i g args hca
        split at hr
        · rename_i F hF
          obtain ⟨⟨x, h1⟩, hx, hr⟩ := Option.bind_eq_some_iff.1 hr
          obtain ⟨fn, hfn, hbn, hac⟩ := pok.ext g F hF
          cases x with
          | inl v =>
            simp only at hr
            split at hr
            · rename_i hck
              exact MotK.ops_step (q := (o, ck)) pok (.inr ⟨hwa, v, .inr ⟨g, args, fn, hca, hfn, hbn, hac args h _ hx⟩, rfl, hck⟩) (ih _ _ _ _ _ hr)
            · cases hr
          | inr v =>
            simp only at hr
            injection hr with hr
            subst hr
            exact MotK.ops_stop pok ⟨hwa, .inr ⟨g, args, fn, hca, hfn, hbn, hac args h _ hx⟩⟩
        · split at hr
          · cases hr
          · rename_i fn hfn
            split at hr
            · cases hr
            · rename_i c hc
              split at hr
              · cases hr
              · rename_i hu
                have huse : po.use g = true := by simpa using hu
                obtain ⟨r1, hx, hr⟩ := Option.bind_eq_some_iff.1 hr
                obtain ⟨q1, hq1, hr⟩ := Option.bind_eq_some_iff.1 hr
                obtain ⟨⟨x, h1⟩, hq2, hr⟩ := Option.bind_eq_some_iff.1 hr
                have hac := (good_call pok hfn hc huse (ih _ _ _ _ _ hx).good q1 hq1).forget hq2
                have hok : fn.body.isNone = false ∧ (fn.name == "runtime.NumGoroutine") = false := ⟨by simp [hc], pok.name g fn hfn huse⟩
                cases x with
                | inl v =>
                  simp only at hr
                  split at hr
                  · rename_i hck
                    exact MotK.ops_step (q := (o, ck)) pok (.inr ⟨hwa, v, .inr ⟨g, args, fn, hca, hfn, hok, hac⟩, rfl, hck⟩) (ih _ _ _ _ _ hr)
                  · cases hr
                | inr v =>
                  simp only at hr
                  injection hr with hr
                  subst hr
                  exact MotK.ops_stop pok ⟨hwa, .inr ⟨g, args, fn, hca, hfn, hok, hac⟩⟩
      · rename_i hca
        obtain ⟨⟨v, h1⟩, hx, hr⟩ := Option.bind_eq_some_iff.1 hr
        simp only at hr
        split at hr
        · rename_i hck
          exact MotK.ops_step (q := (o, ck)) pok (.inr ⟨hwa, v, .inl ⟨hca, hx⟩, rfl, hck⟩) (ih _ _ _ _ _ hr)
        · cases hr
  · rename_i c k
    split at hr
    · intro K hK b cs m w a hw ht hd
      cases hK with
      | code _ _ K hc hK => exact OutR.steps (.one step_skip) ((ih _ _ _ _ _ hr).good K hK b cs m w a hw ht hd)
    · intro K hK b cs m w a hw ht hd
      cases hK with
      | code _ _ K hc hK => exact OutR.steps (.one step_label) ((ih _ _ _ _ _ hr).good K hK b cs m w a hw ht hd)
    · intro K hK b cs m w a hw ht hd
      cases hK with
      | code _ _ K hc hK =>
        simp only [regOK, Bool.and_eq_true] at hc
        exact OutR.steps (.one step_seq) ((ih _ _ _ _ _ hr).good _ (.code _ _ _ hc.1 (.code _ _ _ hc.2 hK)) b cs m w a hw ht hd)
    · rename_i c x y
      split at hr
      · rename_i bb hev
        intro K hK b cs m w a hw ht hd
        cases hK with
        | code _ _ K hc hK =>
          simp only [regOK, Bool.and_eq_true] at hc
          have hv := evA_sound ht c
          rw [hev] at hv
          have hbool : a.eval c = .bool bb := by
            revert hv
            generalize a.eval c = q
            intro hv
            cases hv
            rfl
          refine OutR.steps (.one (step_cond hbool)) ?_
          cases bb with
          | true => exact (ih _ _ _ _ _ (by simpa using hr)).good _ (.code _ _ _ hc.1 hK) b cs m w a hw ht hd
          | false => exact (ih _ _ _ _ _ (by simpa using hr)).good _ (.code _ _ _ hc.2 hK) b cs m w a hw ht hd
      · cases hr
    · intro K hK b cs m w a hw ht hd
      cases hK with
      | code _ _ K hc hK =>
        exact OutR.steps (.one step_block) ((ih _ _ _ _ _ hr).good _ (.code _ _ _ (by simpa [regOK] using hc) (.inBlock _ _ _ hK)) b cs m w a hw ht hd)
    · intro K hK b cs m w a hw ht hd
      cases hK with
      | code _ _ K hc hK =>
        have hc' := hc
        simp only [regOK] at hc'
        exact OutR.steps (.one step_loop) ((ih _ _ _ _ _ hr).good _ (.code _ _ _ hc' (.inLoop _ _ _ hc' hK)) b cs m w a hw (ht.clear _) hd)
    · obtain ⟨k', hk', hr⟩ := Option.bind_eq_some_iff.1 hr
      intro K hK b cs m w a hw ht hd
      cases hK with
      | code _ _ K hc hK =>
        obtain ⟨K', h1, h2⟩ := exit_sound hK hk'
        exact OutR.steps (.one (step_exit h1)) ((ih _ _ _ _ _ hr).good K' h2 b cs m w a hw ht hd)
    · injection hr with hr
      subst hr
      intro K hK b cs m w a hw ht hd
      cases hK with
      | code _ _ K hc hK => exact ⟨m, w, Ext.refl _ _, hw, Below.refl _ _, a, _, ht, hd, .one step_ret⟩
    · exact region_good pok (ih _ _ _ _ _ hr)
    · cases hr

theorem runF_sound {P : Program} {po : Pol} (pok : POK P po) {g : FuncId} {args : List AV} {h : AH} {r : (AV ⊕ AV) × AH} (hr : runF P po g args h = some r) : AC P g args h r := by
  unfold runF at hr
  split at hr
  · rename_i F hF
    obtain ⟨fn, _, _, hac⟩ := pok.ext g F hF
    exact hac args h r hr
  · split at hr
    · cases hr
    · rename_i fn hfn
      split at hr
      · cases hr
      · rename_i c hc
        split at hr
        · cases hr
        · rename_i hu
          have huse : po.use g = true := by simpa using hu
          obtain ⟨r1, hx, hr⟩ := Option.bind_eq_some_iff.1 hr
          obtain ⟨q1, hq1, hr⟩ := Option.bind_eq_some_iff.1 hr
          exact (good_call pok hfn hc huse (runK_motive pok _ _ _ _ _ hx).good q1 hq1).forget hr
end Go.Proofs.YtngphebjmmencaaDoor
