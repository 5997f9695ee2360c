/- The steps of 'runK', one equation each: for 'simp only'. What is computed first stands as the last argument of a function of its own ('c..'), so that nothing is gone into ahead of its time. -/
import Derived.Test.YtngphebjmmencaaDoorSim
namespace Go.Proofs.YtngphebjmmencaaDoor
set_option linter.unusedSimpArgs false
set_option linter.unusedVariables false
open Go

abbrev ARun := Option (AEx × List AV × AH)
/-- a call of a function, by its body or by another road -/
noncomputable def runF (P : Program) (po : Pol) (g : FuncId) (args : List AV) (h : AH) : Option ((AV ⊕ AV) × AH) :=
  match po.ext g with
  | some F => F args h
  | none => match P.funcs[g]? with
    | none => none
    | some fn => match fn.body with
      | none => none
      | some c => if po.use g = false then none else (runK P po g [.code c] (args ++ List.replicate (fn.ntmps - args.length) .junk) h).bind fun r => (outA P fn r).bind fun q => fgA (po.pure g) h q

section
variable (P : Program) (po : Pol) (f : FuncId)
open Classical in
noncomputable def cChk (dr : Bool) (all : Array Oper) (l : List (Oper × List Oper)) (k : List AItem) (t : List AV) (h : AH) (ck : List Oper) : ARun := if chkA P all t h ck then runK P po f (.ops dr all l :: k) t h else none
noncomputable def cOp (dr : Bool) (all : Array Oper) (d : Option Tmp) (ck : List Oper) (l : List (Oper × List Oper)) (k : List AItem) (t : List AV) : Option (AV × AH) → ARun
  | some (v, h) => cChk P po f dr all l k (putA t d v) h ck
  | none => none
noncomputable def cCall (dr : Bool) (all : Array Oper) (d : Option Tmp) (ck : List Oper) (l : List (Oper × List Oper)) (k : List AItem) (t : List AV) : Option ((AV ⊕ AV) × AH) → ARun
  | some (.inl v, h) => cChk P po f dr all l k (putA t d v) h ck
  | some (.inr v, h) => some (.panic v, t, h)
  | none => none
noncomputable def cCallee (dr : Bool) (all : Array Oper) (o : Oper) (ck : List Oper) (l : List (Oper × List Oper)) (k : List AItem) (t : List AV) (h : AH) : Option (FuncId × List AV) → ARun
  | some (g, args) => cCall P po f dr all o.dst ck l k t (runF P po g args h)
  | none => cOp P po f dr all o.dst ck l k t (evalOp P (po.mu f) t h o)
noncomputable def cPan (dr : Bool) (all : Array Oper) (o : Oper) (ck : List Oper) (l : List (Oper × List Oper)) (k : List AItem) (t : List AV) (h : AH) : Option AV → ARun
  | some v => some (.panic v, t, h)
  | none => cCallee P po f dr all o ck l k t h (calleeA t o)
noncomputable def cWanted (dr : Bool) (all : Array Oper) (o : Oper) (ck : List Oper) (l : List (Oper × List Oper)) (k : List AItem) (t : List AV) (h : AH) : Option Bool → ARun
  | some true => cPan P po f dr all o ck l k t h (panA t o)
  | some false => runK P po f (.ops dr all l :: k) (putA t o.dst (.tup [])) h
  | none => none
noncomputable def cCond (x y : Code) (k : List AItem) (t : List AV) (h : AH) : AV → ARun
  | .bool b => if b then runK P po f (.code x :: k) t h else runK P po f (.code y :: k) t h
  | _ => none
noncomputable def cExit (t : List AV) (h : AH) : Option (List AItem) → ARun
  | some k => runK P po f k t h
  | none => none
/-- the end of a call -/
noncomputable def cF (p : Bool) (fn : Func) (h0 : AH) : ARun → Option ((AV ⊕ AV) × AH)
  | some (.ret, t, h) => cR p h0 h (resA fn t h P)
  | some (.panic v, _, h) => fgA p h0 (.inr v, h)
  | some (.halt _, _, _) => none
  | none => none
where cR (p : Bool) (h0 h : AH) : Option AV → Option ((AV ⊕ AV) × AH)
  | some v => fgA p h0 (.inl v, h)
  | none => none
end
section
variable {P : Program} {po : Pol} {f : FuncId} {k : List AItem} {t : List AV} {h : AH}
theorem runK_nil : runK P po f [] t h = some (.ret, t, h) := by rw [runK]
theorem runK_halt {K : List Item} : runK P po f (.halt K :: k) t h = some (.halt K, t, h) := by rw [runK]
theorem runK_inBlock {id : Nat} : runK P po f (.inBlock id :: k) t h = runK P po f k t h := by rw [runK]
theorem runK_inLoop {c : Code} : runK P po f (.inLoop c :: k) t h = runK P po f (.code c :: .inLoop c :: k) (clearA (po.nv f) t) h := by rw [runK]
theorem runK_ops_nil {dr : Bool} {all : Array Oper} : runK P po f (.ops dr all [] :: k) t h = runK P po f k t h := by rw [runK]
theorem runK_skip : runK P po f (.code .skip :: k) t h = runK P po f k t h := by rw [runK]
theorem runK_label {l : Nat} : runK P po f (.code (.label l) :: k) t h = runK P po f k t h := by rw [runK]
theorem runK_seq {a b : Code} : runK P po f (.code (.seq a b) :: k) t h = runK P po f (.code a :: .code b :: k) t h := by rw [runK]
theorem runK_block {id : Nat} {b : Code} : runK P po f (.code (.block id b) :: k) t h = runK P po f (.code b :: .inBlock id :: k) t h := by rw [runK]
theorem runK_loop {b : Code} : runK P po f (.code (.loop b) :: k) t h = runK P po f (.inLoop b :: k) t h := by
  conv => lhs; rw [runK]
  conv => rhs; rw [runK]
theorem runK_ret : runK P po f (.code .ret :: k) t h = some (.ret, t, h) := by rw [runK]
theorem runK_region {id : Nat} {ops : Array Oper} {d : Bool} : runK P po f (.code (.region id ops d) :: k) t h = runK P po f (.ops d ops (planA d ops (po.plan f id)) :: k) t h := by rw [runK]
theorem runK_exit {id : Nat} : runK P po f (.code (.exit id) :: k) t h = cExit P po f t h (exitA id k) := by
  rw [runK]
  cases exitA id k <;> rfl
theorem runK_cond {c : Operand} {x y : Code} : runK P po f (.code (.cond c x y) :: k) t h = cCond P po f x y k t h (evA t c) := by
  rw [runK]
  cases evA t c <;> rfl
theorem runK_cons {dr : Bool} {all : Array Oper} {o : Oper} {ck : List Oper} {l : List (Oper × List Oper)} : runK P po f (.ops dr all ((o, ck) :: l) :: k) t h = cWanted P po f dr all o ck l k t h (wantedA all t o) := by
  rw [runK]
  rcases wantedA all t o with _ | ⟨_ | _⟩
  · rfl
  · rfl
  · simp only [cWanted]
    rcases hp : panA t o with _ | v
    case some => rfl
    simp only [cPan]
    rcases hc : calleeA t o with _ | ⟨g, args⟩
    · simp only [cCallee]
      rcases evalOp P (po.mu f) t h o with _ | ⟨v, h'⟩ <;> rfl
    · simp only [cCallee, runF]
      cases hx : po.ext g with
      | some F =>
        simp only
        rcases F args h with _ | ⟨_ | _, h'⟩ <;> rfl
      | none =>
        simp only
        cases hf : P.funcs[g]? with
        | none => rfl
        | some fn =>
          simp only
          cases hb : fn.body with
          | none => rfl
          | some c =>
            by_cases hu : po.use g = false
            · simp only [hu, if_true]
              rfl
            · simp only [hu, if_false, Bool.false_eq_true]
              generalize runK P po g [.code c] (args ++ List.replicate (fn.ntmps - args.length) .junk) h = r
              rcases r with _ | r
              · rfl
              · simp only [Option.bind_some, Option.bind_eq_bind]
                rcases outA P fn r with _ | q
                · rfl
                · simp only [Option.bind_some]
                  rcases fgA (po.pure g) h q with _ | ⟨_ | _, h'⟩ <;> rfl
theorem cW_true {dr : Bool} {all : Array Oper} {o : Oper} {ck : List Oper} {l : List (Oper × List Oper)} : cWanted P po f dr all o ck l k t h (some true) = cPan P po f dr all o ck l k t h (panA t o) := rfl
theorem cP_none {dr : Bool} {all : Array Oper} {o : Oper} {ck : List Oper} {l : List (Oper × List Oper)} : cPan P po f dr all o ck l k t h none = cCallee P po f dr all o ck l k t h (calleeA t o) := rfl
theorem cP_some {dr : Bool} {all : Array Oper} {o : Oper} {ck : List Oper} {l : List (Oper × List Oper)} {v : AV} : cPan P po f dr all o ck l k t h (some v) = some (.panic v, t, h) := rfl
theorem cW_false {dr : Bool} {all : Array Oper} {o : Oper} {ck : List Oper} {l : List (Oper × List Oper)} : cWanted P po f dr all o ck l k t h (some false) = runK P po f (.ops dr all l :: k) (putA t o.dst (.tup [])) h := rfl
theorem cC_some {dr : Bool} {all : Array Oper} {o : Oper} {ck : List Oper} {l : List (Oper × List Oper)} {g : FuncId} {args : List AV} : cCallee P po f dr all o ck l k t h (some (g, args)) = cCall P po f dr all o.dst ck l k t (runF P po g args h) := rfl
theorem cC_none {dr : Bool} {all : Array Oper} {o : Oper} {ck : List Oper} {l : List (Oper × List Oper)} : cCallee P po f dr all o ck l k t h none = cOp P po f dr all o.dst ck l k t (evalOp P (po.mu f) t h o) := rfl
theorem cO_some {dr : Bool} {all : Array Oper} {d : Option Tmp} {ck : List Oper} {l : List (Oper × List Oper)} {v : AV} : cOp P po f dr all d ck l k t (some (v, h)) = cChk P po f dr all l k (putA t d v) h ck := rfl
theorem cCl_ret {dr : Bool} {all : Array Oper} {d : Option Tmp} {ck : List Oper} {l : List (Oper × List Oper)} {v : AV} : cCall P po f dr all d ck l k t (some (.inl v, h)) = cChk P po f dr all l k (putA t d v) h ck := rfl
theorem cCl_panic {dr : Bool} {all : Array Oper} {d : Option Tmp} {ck : List Oper} {l : List (Oper × List Oper)} {v : AV} : cCall P po f dr all d ck l k t (some (.inr v, h)) = some (.panic v, t, h) := rfl
theorem cCd_true {x y : Code} : cCond P po f x y k t h (.bool true) = runK P po f (.code x :: k) t h := rfl
theorem cCd_false {x y : Code} : cCond P po f x y k t h (.bool false) = runK P po f (.code y :: k) t h := rfl
theorem cK_nil {dr : Bool} {all : Array Oper} {l : List (Oper × List Oper)} : cChk P po f dr all l k t h [] = runK P po f (.ops dr all l :: k) t h := by simp [cChk, chkA]
theorem cK_yes {dr : Bool} {all : Array Oper} {l : List (Oper × List Oper)} {ck : List Oper} (hc : chkA P all t h ck) : cChk P po f dr all l k t h ck = runK P po f (.ops dr all l :: k) t h := by simp [cChk, hc]
theorem cE_some {k : List AItem} : cExit P po f t h (some k) = runK P po f k t h := rfl
theorem cF_ret {fn : Func} {p : Bool} {h0 : AH} : cF P p fn h0 (some (.ret, t, h)) = cF.cR p h0 h (resA fn t h P) := rfl
theorem cF_panic {fn : Func} {p : Bool} {h0 : AH} {v : AV} : cF P p fn h0 (some (.panic v, t, h)) = fgA p h0 (.inr v, h) := rfl
theorem cR_some {p : Bool} {h0 : AH} {v : AV} : cF.cR p h0 h (some v) = fgA p h0 (.inl v, h) := rfl
theorem fg_not {h0 : AH} {q : (AV ⊕ AV) × AH} : fgA false h0 q = some q := by simp [fgA]
theorem fg_yes {h0 : AH} {v v' : AV} (hg : GrewA h0 h) (hv : wkA v = some v') : fgA true h0 (.inl v, h) = some (.inl v', h0) := by simp [fgA, hg, hv]
theorem fg_yesP {h0 : AH} {v v' : AV} (hg : GrewA h0 h) (hv : wkA v = some v') : fgA true h0 (.inr v, h) = some (.inr v', h0) := by simp [fgA, hg, hv]
theorem runF_body {g : FuncId} {fn : Func} {c : Code} {args : List AV} {p : Bool} (hx : po.ext g = none) (hf : P.funcs[g]? = some fn) (hb : fn.body = some c) (hu : po.use g = true) (hp : po.pure g = p) :
    runF P po g args h = cF P p fn h (runK P po g [.code c] (args ++ List.replicate (fn.ntmps - args.length) .junk) h) := by
  unfold runF
  simp only [hx, hf, hb, hu, hp]
  generalize runK P po g [.code c] (args ++ List.replicate (fn.ntmps - args.length) .junk) h = r
  rcases r with _ | ⟨_ | _ | _, t', h'⟩
  · rfl
  · simp only [Bool.true_eq_false, if_false, Option.bind_some, outA, cF]
    rcases resA fn t' h' P with _ | v <;> rfl
  · rfl
  · rfl
end
end Go.Proofs.YtngphebjmmencaaDoor
