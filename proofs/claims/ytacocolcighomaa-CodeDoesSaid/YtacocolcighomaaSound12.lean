/- A call does in memory what the plain model says: what is to be shown, and the steps of the machine. -/
import Derived.Test.YtacocolcighomaaSound11
import Derived.Orders
namespace Go.Proofs.Ytacocolcighomaa
set_option linter.unusedSimpArgs false
set_option linter.unusedVariables false
open Go Go.RowKit

/-- what is shown of a call: whatever the memory that the model speaks of -/
def AC (P : Program) (g : FuncId) (args : List AV) (h : AH) (r : (AV ⊕ AV) × AH) : Prop :=
  ∀ (m : Mm) (w : World) (vs : List Value), WR P m h w → VRs P m h args vs → Calls P g vs.toArray w fun e w' => ∃ m', Ext m h m' r.2 ∧ WR P m' r.2 w' ∧ Below m.base w w' ∧
    match r.1 with
    | .inl v => ∃ u, e = .returned u ∧ VR P m' r.2 v u
    | .inr v => ∃ u, e = .panicked [{ v := u, recovered := false }] ∧ VR P m' r.2 v u

structure POK (P : Program) (po : Pol) : Prop where
  ty : TyOK P
  name : ∀ (g : Nat) (fn : Func), P.funcs[g]? = some fn → po.use g = true → (fn.name == "runtime.NumGoroutine") = false
  ext : ∀ g F, po.ext g = some F → ∃ fn, P.funcs[g]? = some fn ∧ (fn.body.isNone = false ∧ (fn.name == "runtime.NumGoroutine") = false) ∧ ∀ args h r, F args h = some r → AC P g args h r
  plan : ∀ (g : Nat) (fn : Func) (c : Code), P.funcs[g]? = some fn → fn.body = some c → po.use g = true → regOK (po.plan g) c = true
  mixed : P.follows .mixedOrders = true

def OutR (P : Program) (m : Mm) (h : AH) (w : World) (b : Frame) (cs : List Frame) (mach : Machine) (r : AEx × List AV × AH) : Prop :=
  ∃ m' w', Ext m h m' r.2.2 ∧ WR P m' r.2.2 w' ∧ Below m.base w w' ∧
    match r.1 with
    | .ret => ∃ (a' : Act) (todo : List Item), TR P m' r.2.2 r.2.1 a'.tmps ∧ a'.defers = [] ∧ Steps P mach (lone { b.at a' todo with mode := .returning } cs w')
    | .panic v => ∃ (a' : Act) (todo : List Item) (u : Value), a'.defers = [] ∧ VR P m' r.2.2 v u ∧ Steps P mach (lone { b.at a' todo with mode := .panicking [{ v := u, recovered := false }] } cs w')

section
variable {P : Program} {m m1 m' : Mm} {h h1 h' : AH} {w w1 w' : World} {t : List AV} {a : Act} {o : Oper} {b : Frame} {cs : List Frame} {mach mach' : Machine} {r : AEx × List AV × AH}

theorem OutR.steps (hs : Steps P mach mach') (ho : OutR P m h w b cs mach' r) : OutR P m h w b cs mach r := by
  obtain ⟨m', w', h1, h2, h3, h4⟩ := ho
  refine ⟨m', w', h1, h2, h3, ?_⟩
  split at h4
  · rename_i hr
    obtain ⟨a', todo, k1, k2, k3⟩ := h4
    exact ⟨a', todo, k1, k2, hs.trans k3⟩
  · rename_i v hr
    obtain ⟨a', todo, u, k1, k2, k3⟩ := h4
    exact ⟨a', todo, u, k1, k2, hs.trans k3⟩
theorem OutR.after (hx : Ext m h m1 h1) (hb : Below m.base w w1) (ho : OutR P m1 h1 w1 b cs mach r) : OutR P m h w b cs mach r := by
  obtain ⟨m', w', k1, k2, k3, k4⟩ := ho
  exact ⟨m', w', hx.trans k1, k2, hb.trans (by rw [← hx.base]; exact k3), k4⟩

theorem TR.clear (ht : TR P m h t a.tmps) (n : Nat) : TR P m h (clearA n t) a.tmps := by
  refine ⟨by rw [ht.1, clearA]; simp; omega, fun i hi => ?_⟩
  unfold clearA at hi ⊢
  by_cases hin : i < (t.take n).length
  · rw [List.getElem_append_left hin, List.getElem_take]
    exact ht.2 i _
  · rw [List.getElem_append_right (by omega)]
    simp only [List.getElem_replicate]
    exact .junk _

/-- one operation is carried out -/
theorem step_value {all : Array Oper} {i : Nat} {rest : List Nat} {k : List Item} {u : Value} (ho : all[i]? = some o) (hwa : Region.wanted o (yielded all a.tmps) = true)
    (hr : (execOp a.eval o).run P w = .ok (.value u) w' ∨ ((execOp a.eval o).run P w = .ok .skip w' ∧ u = undef)) :
    Steps P (lone (b.at a (.inRegion all (i :: rest) :: k)) cs w) (lone (b.at (a.put o.dst u) (.inRegion all rest :: k)) cs w') := by
  have hg := stepG_op (P := P) (b := b) (k := k) (cs := cs) (w := w) (rest := rest) ho hwa
  have hfin : ∀ v, (b.at a (.inRegion all (i :: rest) :: k)).finish v = b.at (a.put o.dst v) (.inRegion all rest :: k) := by
    intro v; rw [Frame.finish_at, ho]; rfl
  refine .one (step_lone_go ?_)
  rcases hr with hr | ⟨hr, rfl⟩
  · rw [hg, ← hfin]; simp [stepG.apply, hr]
  · rw [hg, ← hfin]; simp [stepG.apply, hr]
theorem step_skip_op {all : Array Oper} {i : Nat} {rest : List Nat} {k : List Item} (ho : all[i]? = some o) (hwa : Region.wanted o (yielded all a.tmps) = false) :
    Steps P (lone (b.at a (.inRegion all (i :: rest) :: k)) cs w) (lone (b.at (a.put o.dst undef) (.inRegion all rest :: k)) cs w) := by
  have hs := step_op_skip (P := P) (b := b) (a := a) (k := k) (cs := cs) (w := w) (ops := all) (i := i) (rest := rest) (by simp [ho]; simpa using hwa)
  simp only [ho, Option.bind_some] at hs
  exact .one hs
/-- a call -/
theorem step_call {all : Array Oper} {i : Nat} {rest : List Nat} {k : List Item} {f : FuncId} {args : Array Value} {R : Ending → World → Prop} (ho : all[i]? = some o) (hwa : Region.wanted o (yielded all a.tmps) = true)
    (hr : (execOp a.eval o).run P w = .ok (.enter f args) w) (hc : Calls P f args w R) (hno : ∀ w', ¬ R .outgrown w') :
    ∃ e w', R e w' ∧ ((∃ v, e = .returned v ∧ Steps P (lone (b.at a (.inRegion all (i :: rest) :: k)) cs w) (lone (b.at (a.put o.dst v) (.inRegion all rest :: k)) cs w')) ∨
      (∃ ch, e = .panicked ch ∧ ∃ todo, Steps P (lone (b.at a (.inRegion all (i :: rest) :: k)) cs w) (lone { b.at a todo with mode := .panicking ch } cs w'))) := by
  have hg := stepG_op (P := P) (b := b) (k := k) (cs := cs) (w := w) (rest := rest) ho hwa
  have hfin : ∀ v, (b.at a (.inRegion all (i :: rest) :: k)).finish v = b.at (a.put o.dst v) (.inRegion all rest :: k) := by
    intro v; rw [Frame.finish_at, ho]; rfl
  obtain ⟨e, w'', fr, hR, hsteps, _, hleave⟩ := hc (b.at a (.inRegion all (i :: rest) :: k) :: cs)
  have henter : step P (lone (b.at a (.inRegion all (i :: rest) :: k)) cs w) = .next (lone (Frame.enter P f args .normal) (b.at a (.inRegion all (i :: rest) :: k) :: cs) w) :=
    step_lone_go (by rw [hg]; simp [stepG.apply, hr, Frame.at])
  refine ⟨e, w'', hR, ?_⟩
  cases e with
  | returned v =>
    left
    refine ⟨v, rfl, .head henter (Steps.trans hsteps (.one ?_))⟩
    rw [← hfin]; exact step_leave_returned hleave
  | panicked chain =>
    right
    refine ⟨chain, rfl, .inRegion all (i :: rest) :: k, .head henter (Steps.trans hsteps (.one ?_))⟩
    rw [← Frame.raise_at]; exact step_leave_panicked hleave
  | outgrown => exact absurd hR (hno _)

theorem wanted_sound (ht : TR P m h t a.tmps) (all : Array Oper) (o : Oper) {x : Bool} (hw : wantedA all t o = some x) : Region.wanted o (yielded all a.tmps) = x := by
  unfold wantedA at hw
  unfold Region.wanted
  split at hw
  · rename_i hg
    rw [hg]
    injection hw
  · rename_i j want hg
    rw [hg]
    simp only
    split at hw
    · rename_i d hd
      have hlt : t.getD d .junk ≠ .junk → d < t.length := by
        intro hb
        rcases Nat.lt_or_ge d t.length with h1 | h1
        · exact h1
        · rw [List.getD, List.getElem?_eq_none h1] at hb
          exact absurd rfl hb
      have hv := ht.get d
      split at hw
      · rename_i bb hb
        injection hw with hw
        rw [hb] at hv
        have hts : d < a.tmps.size := by rw [ht.1]; exact hlt (by rw [hb]; simp)
        have hval : a.tmps.getD d undef = .bool bb := by
          revert hv
          generalize a.tmps.getD d undef = q
          intro hv
          cases hv
          rfl
        have e1 : a.tmps[d]? = some (.bool bb) := by
          rw [← hval]
          simp [Array.getD, hts]
        simp only [yielded, hd, Option.bind_some, e1]
        rw [← hw]
        cases want <;> cases bb <;> rfl
      · rename_i vs hb
        injection hw with hw
        rw [hb] at hv
        have hts : d < a.tmps.size := by rw [ht.1]; exact hlt (by rw [hb]; simp)
        obtain ⟨us, hval⟩ : ∃ us, a.tmps.getD d undef = .tuple us := by
          revert hv
          generalize a.tmps.getD d undef = q
          intro hv
          cases hv
          exact ⟨_, rfl⟩
        have e1 : a.tmps[d]? = some (.tuple us) := by
          rw [← hval]
          simp [Array.getD, hts]
        simp only [yielded, hd, Option.bind_some, e1]
        rw [← hw]
        cases want <;> rfl
      · cases hw
    · cases hw

theorem callee_sound (ht : TR P m h t a.tmps) {g : FuncId} {args : List AV} (hc : calleeA t o = some (g, args)) {fn : Func} (hf : P.funcs[g]? = some fn) (hn : (fn.name == "runtime.NumGoroutine") = false) (hb : fn.body.isNone = false) :
    ∃ vs : List Value, VRs P m h args vs ∧ (execOp a.eval o).run P w = .ok (.enter g vs.toArray) w := by
  unfold calleeA at hc
  split at hc
  · rename_i fo ao aty ho
    split at hc
    · rename_i g' first captured hev
      injection hc with hc
      injection hc with h1 h2
      subst h1
      subst h2
      have hv := evA_sound ht fo
      rw [hev] at hv
      obtain ⟨u, hu⟩ : ∃ u, a.eval fo = u := ⟨_, rfl⟩
      rw [hu] at hv
      cases hv with
      | fn _ l c l' c' e1 e2 e3 e4 =>
        refine ⟨l' ++ ao.toList.map a.eval ++ c', VRs.append (VRs.append ⟨e1, e3⟩ (VRs.map fun x _ => evA_sound ht x)) ⟨e2, e4⟩, ?_⟩
        have e5 : (l'.toArray ++ ao.map a.eval) ++ c'.toArray = (l' ++ ao.toList.map a.eval ++ c').toArray := by
          apply Array.ext'
          simp
        simp only [execOp, ho, hu, resolve, Deferred.ofValue, Sem.run_bind, Sem.run_pure, Result.andThen_ok, invoke, callFunc, run_program, hf, hn, hb, Bool.false_eq_true, if_false, e5]
    · cases hc
  · cases hc

theorem res_sound (hw : WR P m h w) (ht : TR P m h t a.tmps) {fn : Func} {v : AV} (hv : resA fn t h P = some v) : ∃ u, (results fn a.tmps).run P w = .ok u w ∧ VR P m h v u := by
  unfold resA at hv
  obtain ⟨vs, hvs, rfl⟩ := Option.map_eq_some_iff.1 hv
  have key : ∀ (rs : List ResultVar) (vs : List AV), resL P t h rs = some vs → ∃ us : List Value, (rs.mapM fun (x : ResultVar) => (match x with
      | .tmp t => pure (a.tmps.getD t undef)
      | .cell c t => do loadVar t (← asAddr (a.tmps.getD c undef)) : Sem Value)).run P w = .ok us w ∧ VRs P m h vs us := by
    intro rs
    induction rs with
    | nil =>
      intro vs hvs
      simp [resL] at hvs
      subst hvs
      exact ⟨[], by simp, VRs.nil⟩
    | cons x rs ih =>
      intro vs hvs
      cases x with
      | tmp i =>
        simp only [resL] at hvs
        obtain ⟨l, hl, rfl⟩ := Option.map_eq_some_iff.1 hvs
        obtain ⟨us, h1, h2⟩ := ih l hl
        exact ⟨_, by simp only [List.mapM_cons, Sem.run_bind, Sem.run_pure, Result.andThen_ok, h1], VRs.cons (ht.get i) h2⟩
      | cell i ty =>
        simp only [resL] at hvs
        split at hvs
        · cases hvs
        · rename_i hn
          obtain ⟨v, hv, hvs⟩ := Option.bind_eq_some_iff.1 hvs
          obtain ⟨l, hl, rfl⟩ := Option.map_eq_some_iff.1 hvs
          obtain ⟨us, h1, h2⟩ := ih l hl
          have hx := ht.get i
          obtain ⟨d, hd⟩ := Option.isSome_iff_exists.1 (by cases hu2 : P.underlying ty <;> simp_all : (P.underlying ty).isSome = true)
          obtain ⟨i0, hi0⟩ := under_info hd
          have hld : ∃ u, (do loadVar ty (← asAddr (a.tmps.getD i undef)) : Sem Value).run P w = .ok u w ∧ VR P m h v u := by
            revert hx hv
            generalize a.tmps.getD i undef = ax
            generalize t.getD i .junk = ex
            intro hv hx
            cases hx with
            | ptr b i off hb =>
              simp only [loadA] at hv
              rcases hr : h.row b i with _ | e
              · simp [hr] at hv
              · simp only [hr, Option.bind_some] at hv
                obtain ⟨F, hF⟩ := row_ptr hw hr
                obtain ⟨u, h1, h2⟩ := ld_sound (w := w) ty hd (by rw [hi0]; simp) (m.blk b) (i * P.cellsOf (m.bt b)) off e F hF hv
                exact ⟨u, by simp [asAddr, h1], h2⟩
            | ip e off g o' F hi' hv' =>
              simp only [loadA] at hv
              obtain ⟨u, h1, h2⟩ := ld_sound (w := w) (h := h) (m := m) ty hd (by rw [hi0]; simp) g o' off e F (fun j hj => ⟨hw.imm _ _ _ (hi' j hj), hv' j hj⟩) hv
              exact ⟨u, by simp [asAddr, h1], h2⟩
            | _ => simp [loadA] at hv
          obtain ⟨u, hu1, hu2⟩ := hld
          exact ⟨_, by simp only [List.mapM_cons, Sem.run_bind, Result.andThen_ok, hu1, h1, Sem.run_pure], VRs.cons hu2 h2⟩
  obtain ⟨us, h1, h2⟩ := key _ _ hvs
  unfold results
  rw [Array.mapM_eq_mapM_toList]
  have hrun : (do
      let vs ← (List.toArray <$> (fn.results.toList.mapM fun (x : ResultVar) => (match x with
        | .tmp t => pure (a.tmps.getD t undef)
        | .cell c t => do loadVar t (← asAddr (a.tmps.getD c undef)) : Sem Value)))
      pure (if h : vs.size = 1 then vs[0] else .tuple vs) : Sem Value).run P w = .ok (if h : us.toArray.size = 1 then us.toArray[0] else .tuple us.toArray) w := by
    simp [h1, -Array.getD_eq_getD_getElem?]
  refine ⟨_, hrun, ?_⟩
  by_cases hl : us.length = 1
  · obtain ⟨u, rfl⟩ := List.length_eq_one_iff.1 hl
    have hvl : vs.length = 1 := h2.1.symm
    obtain ⟨v, rfl⟩ := List.length_eq_one_iff.1 hvl
    have := h2.2 0 (by simp) (by simp)
    simpa [oneA] using this
  · have hvl : vs.length ≠ 1 := by rw [← h2.1]; exact hl
    have e1 : oneA vs = .tup vs := by
      unfold oneA
      split
      · simp at hvl
      · rfl
    rw [e1, dif_neg (by simpa using hl)]
    exact .tup _ _ h2.1 h2.2
end
end Go.Proofs.Ytacocolcighomaa
