/- What a short list of steps does the function does. -/
import Derived.Test.YtacocolcighomaaRc
namespace Go.Proofs.Ytacocolcighomaa
set_option linter.unusedSimpArgs false
set_option linter.unusedVariables false
open Go

structure RV (n : Nat) (vm lm : List Nat) (t V L : List AV) : Prop where
  len : t.length = n
  lv : V.length = vm.length
  ll : L.length = lm.length
  v : ∀ j s, vm[j]? = some s → s < n ∧ t.getD s .junk = V.getD j .junk
  l : ∀ j s, lm[j]? = some s → s < n ∧ t.getD s .junk = L.getD j .junk

section
variable {P : Program} {po : Pol} {f : FuncId} {n : Nat} {vm lm : List Nat} {t V L : List AV} {h : AH} {mu : TypeId → Bool}

theorem findI_go {i : Nat} : ∀ (l : List Nat) (m k : Nat), findI.go i l m = some k → m ≤ k ∧ l[k - m]? = some i
  | [], m, k, he => by simp [findI.go] at he
  | x :: l, m, k, he => by
    simp only [findI.go] at he
    split at he
    · rename_i hx
      injection he with he
      subst he
      exact ⟨Nat.le_refl _, by simp [hx]⟩
    · obtain ⟨h1, h2⟩ := findI_go l (m + 1) k he
      refine ⟨by omega, ?_⟩
      rw [show k - m = (k - (m + 1)) + 1 by omega, List.getElem?_cons_succ]
      exact h2
theorem findI_get {l : List Nat} {i k : Nat} (he : findI l i = some k) : l[k]? = some i := by simpa using (findI_go l 0 k he).2
theorem findI_none {i : Nat} : ∀ (l : List Nat) (m : Nat), findI.go i l m = none → i ∉ l
  | [], m, _ => by simp
  | x :: l, m, he => by
    simp only [findI.go] at he
    split at he
    · cases he
    · rename_i hx
      have := findI_none l (m + 1) he
      simp only [List.mem_cons, not_or]
      exact ⟨fun e => hx e.symm, this⟩

theorem trArg_sound (r : RV n vm lm t V L) {x : Operand} {a : Arg} (he : trArg vm lm x = some a) : evA t x = arg V L a := by
  cases x with
  | tmp i =>
    simp only [trArg] at he
    split at he
    · rename_i k hk
      injection he with he
      subst he
      exact (r.l k i (findI_get hk)).2
    · obtain ⟨j, hj, rfl⟩ := Option.map_eq_some_iff.1 he
      exact (r.v j i (findI_get hj)).2
  | const v => simp only [trArg, Option.some.injEq] at he; subst he; rfl
  | func g => simp only [trArg, Option.some.injEq] at he; subst he; rfl
  | global g => simp [trArg] at he
theorem trArgs_sound (r : RV n vm lm t V L) : ∀ {xs : List Operand} {as : List Arg}, trArgs vm lm xs = some as → xs.map (evA t) = as.map (arg V L)
  | [], as, he => by simp [trArgs] at he; subst he; rfl
  | x :: xs, as, he => by
    simp only [trArgs] at he
    obtain ⟨a, ha, he⟩ := Option.bind_eq_some_iff.1 he
    obtain ⟨as', has, rfl⟩ := Option.map_eq_some_iff.1 he
    simp [trArg_sound r ha, trArgs_sound r has]
theorem trParts_sound (r : RV n vm lm t V L) : ∀ {xs : List (Nat × Operand)} {as : List (Nat × Arg)}, trParts vm lm xs = some as → (xs.map fun q => (q.1, evA t q.2)) = as.map fun q => (q.1, arg V L q.2)
  | [], as, he => by simp [trParts] at he; subst he; rfl
  | x :: xs, as, he => by
    simp only [trParts] at he
    obtain ⟨a, ha, he⟩ := Option.bind_eq_some_iff.1 he
    obtain ⟨as', has, rfl⟩ := Option.map_eq_some_iff.1 he
    simp [trArg_sound r ha, trParts_sound r has]
theorem trOpt_sound (r : RV n vm lm t V L) {x : Option Operand} {a : Option Arg} (he : trOpt vm lm x = some a) : x.map (evA t) = a.map (arg V L) := by
  cases x with
  | none => simp [trOpt] at he; subst he; rfl
  | some x =>
    simp only [trOpt] at he
    obtain ⟨a, ha, rfl⟩ := Option.map_eq_some_iff.1 he
    simp [trArg_sound r ha]

theorem fits_eq (P : Program) (ty : TypeId) (x : AV) : fitsT P ty x = fitsR (isStrT P ty) (elemA P ty) x := by
  cases x <;> rfl
theorem ixa_eq (P : Program) (ty : TypeId) (x k : AV) : ixAddrA P ty x k = ixaR (elemA P ty) ((arrA P ty).map fun q => (q.1, szA P q.2)) x k := by
  cases x <;> cases k <;> first | rfl | (simp only [ixAddrA, ixaR]; cases arrA P ty <;> rfl)
theorem ix_eq (P : Program) (ty : TypeId) (x k : AV) : ixA P ty x k = ixR (isStrT P ty) ((arrA P ty).bind fun q => if (P.underlying q.2).isSome then some (q.1, szA P q.2, aggA P q.2) else none) x k := by
  cases x <;> cases k <;> first | rfl | skip
  simp only [ixA, ixR]
  cases arrA P ty with
  | none => rfl
  | some q => cases hu : (P.underlying q.2).isSome <;> simp [hu]
theorem binA_nil (kd : Kd) (op : BinOp) : binA kd op .nili .nili = none := by
  unfold binA
  simp only
  split <;> (cases kd <;> rfl)
theorem binA_agg (kd : Kd) (op : BinOp) (xs ys : List AV) : binA kd op (.agg xs) (.agg ys) = none := by
  unfold binA
  simp only
  split <;> (cases kd <;> rfl)

theorem trOp_sound (r : RV n vm lm t V L) {o : Oper} {ro : RO} (he : trOp P mu vm lm o = some ro) : evalOp P mu t h o = evalR V L h ro ∧ calleeA t o = calleeR V L ro := by
  unfold trOp at he
  simp only at he
  split at he
  case h_1 x ho =>
    obtain ⟨a, ha, rfl⟩ := Option.map_eq_some_iff.1 he
    exact ⟨by simp [evalOp, pureOp, ho, evalR, trArg_sound r ha], by simp [calleeA, calleeR, ho]⟩
  case h_2 x ho =>
    obtain ⟨a, ha, rfl⟩ := Option.map_eq_some_iff.1 he
    exact ⟨by simp [evalOp, pureOp, ho, evalR, trArg_sound r ha], by simp [calleeA, calleeR, ho]⟩
  case h_3 c x y ho =>
    obtain ⟨c', hc, he⟩ := Option.bind_eq_some_iff.1 he
    obtain ⟨x', hx, he⟩ := Option.bind_eq_some_iff.1 he
    obtain ⟨y', hy, rfl⟩ := Option.map_eq_some_iff.1 he
    refine ⟨?_, by simp [calleeA, calleeR, ho]⟩
    simp only [evalOp, pureOp, ho, evalR, trArg_sound r hc, trArg_sound r hx, trArg_sound r hy]
    rfl
  case h_4 ty parts ho =>
    obtain ⟨z, hz, he⟩ := Option.bind_eq_some_iff.1 he
    obtain ⟨ps, hps, he⟩ := Option.bind_eq_some_iff.1 he
    have hp := trParts_sound r hps
    split at he
    · rename_i pl hpl
      split at he
      · rename_i hall
        injection he with he
        subst he
        exact ⟨by simp only [evalOp, pureOp, ho, evalR, hz, hpl, Option.bind_some, hall, if_true, hp, Option.map_map]; rfl, by simp [calleeA, calleeR, ho]⟩
      · cases he
    · rename_i hpl
      obtain ⟨q, hq, he⟩ := Option.bind_eq_some_iff.1 he
      split at he
      · cases he
      · rename_i hnz
        injection he with he
        subst he
        exact ⟨by simp only [evalOp, pureOp, ho, evalR, hz, hpl, hq, Option.bind_some, hnz, if_false, hp, Option.map_map]; rfl, by simp [calleeA, calleeR, ho]⟩
  case h_5 x ho =>
    obtain ⟨a, ha, rfl⟩ := Option.map_eq_some_iff.1 he
    exact ⟨by simp only [evalOp, pureOp, ho, evalR, trArg_sound r ha]; rfl, by simp [calleeA, calleeR, ho]⟩
  case h_6 op ty x y yt ho =>
    obtain ⟨x', hx, he⟩ := Option.bind_eq_some_iff.1 he
    obtain ⟨y', hy, rfl⟩ := Option.map_eq_some_iff.1 he
    refine ⟨?_, by split <;> simp [calleeA, calleeR, ho]⟩
    have e1 : evalR V L h (if simpleK (kindA P ty) then .bin (kindA P ty) op x' y' else .binG (kindA P ty) (flatK P ty) (isC y) op x' y') =
        (if simpleK (kindA P ty) then binA (kindA P ty) op (arg V L x') (arg V L y') else binR (kindA P ty) (flatK P ty) (isC y) op (arg V L x') (arg V L y')).map fun v => (v, h) := by
      split <;> rfl
    rw [e1]
    have hfl : simpleK (kindA P ty) = true → flatK P ty = none := by
      intro hk
      unfold flatK
      split
      · rename_i fs hfs
        simp [kindA, hfs, simpleK] at hk
      · rfl
    have e2 : pureOp P t o = if simpleK (kindA P ty) then binA (kindA P ty) op (arg V L x') (arg V L y') else binR (kindA P ty) (flatK P ty) (isC y) op (arg V L x') (arg V L y') := by
      simp only [pureOp, ho, trArg_sound r hx, trArg_sound r hy]
      generalize arg V L x' = X
      generalize arg V L y' = Y
      generalize kindA P ty = kd at *
      generalize flatK P ty = ks at *
      cases hs : simpleK kd
      · simp only [Bool.false_eq_true, if_false]
        cases X <;> first | rfl | skip
        · cases Y <;> first | rfl | (cases kd <;> cases y <;> cases op <;> rfl)
        · cases Y <;> rfl
      · simp only [if_true]
        have h0 := hfl hs
        subst h0
        cases X <;> first | rfl | skip
        · cases Y <;> first | rfl | skip
          rw [binA_nil]
          cases kd <;> first | rfl | cases hs
        · cases Y <;> first | rfl | skip
          rw [binA_agg]
          rfl
    simp only [evalOp, ho]
    rw [e2]
  case h_7 op ty x ho =>
    obtain ⟨a, ha, rfl⟩ := Option.map_eq_some_iff.1 he
    exact ⟨by simp only [evalOp, pureOp, ho, evalR, trArg_sound r ha], by simp [calleeA, calleeR, ho]⟩
  case h_8 src dst x ho =>
    split at he
    · cases he
    · rename_i hn
      obtain ⟨a, ha, rfl⟩ := Option.map_eq_some_iff.1 he
      exact ⟨by simp only [evalOp, pureOp, ho, evalR, trArg_sound r ha, hn]; rfl, by simp [calleeA, calleeR, ho]⟩
  case h_9 ty x ho =>
    split at he
    · cases he
    · rename_i hn
      obtain ⟨a, ha, rfl⟩ := Option.map_eq_some_iff.1 he
      exact ⟨by simp only [evalOp, pureOp, ho, evalR, trArg_sound r ha, hn, if_false]; rfl, by simp [calleeA, calleeR, ho]⟩
  case h_10 g first captured ho =>
    split at he
    · obtain ⟨a, ha, he⟩ := Option.bind_eq_some_iff.1 he
      obtain ⟨c, hc, rfl⟩ := Option.map_eq_some_iff.1 he
      exact ⟨by simp [evalOp, pureOp, ho, evalR, trArgs_sound r ha, trArgs_sound r hc], by simp [calleeA, calleeR, ho]⟩
    · cases he
  case h_11 ty x lo hi mx ho =>
    split at he
    · cases he
    · rename_i hmx
      obtain ⟨a, ha, he⟩ := Option.bind_eq_some_iff.1 he
      obtain ⟨lo', hlo, he⟩ := Option.bind_eq_some_iff.1 he
      obtain ⟨hi', hhi, rfl⟩ := Option.map_eq_some_iff.1 he
      refine ⟨?_, by simp [calleeA, calleeR, ho]⟩
      simp only [evalOp, pureOp, ho, evalR, trArg_sound r ha, trOpt_sound r hlo, trOpt_sound r hhi, fits_eq]
      cases hf : fitsR (isStrT P ty) (elemA P ty) (arg V L a) <;> simp [hmx]
  case h_12 s x fi ho =>
    obtain ⟨q, hq, he⟩ := Option.bind_eq_some_iff.1 he
    split at he
    · cases he
    · rename_i hn
      obtain ⟨a, ha, rfl⟩ := Option.map_eq_some_iff.1 he
      exact ⟨by simp only [evalOp, pureOp, ho, evalR, trArg_sound r ha, hq, Option.bind_some, hn, if_false], by simp [calleeA, calleeR, ho]⟩
  case h_13 s x fi ho =>
    obtain ⟨q, hq, he⟩ := Option.bind_eq_some_iff.1 he
    split at he
    · cases he
    · rename_i hn
      obtain ⟨a, ha, rfl⟩ := Option.map_eq_some_iff.1 he
      exact ⟨by simp only [evalOp, pureOp, ho, evalR, trArg_sound r ha, hq, Option.bind_some, hn, if_false]; rfl, by simp [calleeA, calleeR, ho]⟩
  case h_14 ty x ix ho =>
    obtain ⟨a, ha, he⟩ := Option.bind_eq_some_iff.1 he
    obtain ⟨k, hk, rfl⟩ := Option.map_eq_some_iff.1 he
    exact ⟨by simp only [evalOp, pureOp, ho, evalR, trArg_sound r ha, trArg_sound r hk, ixa_eq], by simp [calleeA, calleeR, ho]⟩
  case h_15 ty x ix ho =>
    obtain ⟨a, ha, he⟩ := Option.bind_eq_some_iff.1 he
    obtain ⟨k, hk, rfl⟩ := Option.map_eq_some_iff.1 he
    exact ⟨by simp only [evalOp, pureOp, ho, evalR, trArg_sound r ha, trArg_sound r hk, ix_eq], by simp [calleeA, calleeR, ho]⟩
  case h_16 x xt as ok ho =>
    split at he
    · rename_i hp
      obtain ⟨a, ha, rfl⟩ := Option.map_eq_some_iff.1 he
      refine ⟨?_, by simp [calleeA, calleeR, ho]⟩
      simp only [evalOp, pureOp, ho, evalR, trArg_sound r ha, hp, true_and]
      rfl
    · cases he
  case h_17 x i ho =>
    obtain ⟨a, ha, rfl⟩ := Option.map_eq_some_iff.1 he
    exact ⟨by simp only [evalOp, pureOp, ho, evalR, trArg_sound r ha]; rfl, by simp [calleeA, calleeR, ho]⟩
  case h_18 args argTypes ho =>
    split at he
    · rename_i x ty tys e1 e2
      obtain ⟨a, ha, rfl⟩ := Option.map_eq_some_iff.1 he
      refine ⟨?_, by simp [calleeA, calleeR, ho]⟩
      simp only [evalOp, pureOp, ho, evalR, e1, e2, trArg_sound r ha, fits_eq]
      split <;> simp [Option.map_map, Function.comp_def]
    · cases he
  case h_19 e ho =>
    obtain ⟨z, hz, rfl⟩ := Option.map_eq_some_iff.1 he
    exact ⟨by simp [evalOp, ho, evalR, hz], by simp [calleeA, calleeR, ho]⟩
  case h_20 e x ho =>
    obtain ⟨a, ha, rfl⟩ := Option.map_eq_some_iff.1 he
    exact ⟨by simp only [evalOp, ho, evalR, trArg_sound r ha], by simp [calleeA, calleeR, ho]⟩
  case h_21 ty len parts ho =>
    obtain ⟨e, he1, he⟩ := Option.bind_eq_some_iff.1 he
    obtain ⟨z, hz, he⟩ := Option.bind_eq_some_iff.1 he
    split at he
    · rename_i hc
      obtain ⟨ps, hps, rfl⟩ := Option.map_eq_some_iff.1 he
      exact ⟨by simp only [evalOp, ho, evalR, he1, hz, Option.bind_some, if_pos hc, trParts_sound r hps], by simp [calleeA, calleeR, ho]⟩
    · cases he
  case h_22 ty a ho =>
    split at he
    · cases he
    · rename_i hn
      obtain ⟨a, ha, rfl⟩ := Option.map_eq_some_iff.1 he
      exact ⟨by simp only [evalOp, ho, evalR, trArg_sound r ha, hn, if_false]; rfl, by simp [calleeA, calleeR, ho]⟩
  case h_23 ty a x ho =>
    split at he
    · cases he
    · rename_i hn
      obtain ⟨a, ha, he⟩ := Option.bind_eq_some_iff.1 he
      obtain ⟨x, hx, rfl⟩ := Option.map_eq_some_iff.1 he
      exact ⟨by simp only [evalOp, ho, evalR, trArg_sound r ha, trArg_sound r hx, hn, if_false], by simp [calleeA, calleeR, ho]⟩
  case h_24 ty l c ho =>
    obtain ⟨e, he1, he⟩ := Option.bind_eq_some_iff.1 he
    obtain ⟨z, hz, he⟩ := Option.bind_eq_some_iff.1 he
    obtain ⟨a, ha, he⟩ := Option.bind_eq_some_iff.1 he
    obtain ⟨k, hk, rfl⟩ := Option.map_eq_some_iff.1 he
    exact ⟨by simp only [evalOp, ho, evalR, trArg_sound r ha, trArg_sound r hk, he1, hz, Option.bind_some]; rfl, by simp [calleeA, calleeR, ho]⟩
  case h_25 args argTypes ho =>
    split at he
    · rename_i x y ty ty' e1 e2
      split at he
      · rename_i ht
        obtain ⟨e, he1, he⟩ := Option.bind_eq_some_iff.1 he
        split at he
        · rename_i hz
          obtain ⟨a, ha, he⟩ := Option.bind_eq_some_iff.1 he
          obtain ⟨k, hk, rfl⟩ := Option.map_eq_some_iff.1 he
          exact ⟨by simp only [evalOp, ho, evalR, e1, e2, trArg_sound r ha, trArg_sound r hk, if_pos ht, he1, Option.bind_some, if_pos hz], by simp [calleeA, calleeR, ho]⟩
        · cases he
      · cases he
    · cases he
  case h_26 fo args aty ho =>
    obtain ⟨a, ha, he⟩ := Option.bind_eq_some_iff.1 he
    obtain ⟨as, has, rfl⟩ := Option.map_eq_some_iff.1 he
    refine ⟨by simp [evalOp, pureOp, ho, evalR], ?_⟩
    simp only [calleeA, calleeR, ho, trArg_sound r ha, trArgs_sound r has]
    rfl
  case h_27 => cases he
end
end Go.Proofs.Ytacocolcighomaa
