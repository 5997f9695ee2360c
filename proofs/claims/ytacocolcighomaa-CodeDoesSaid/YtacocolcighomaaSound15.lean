/- The run of a plan seen from its end: what each operation looks at stays. -/
import Derived.Test.YtacocolcighomaaSound14
namespace Go.Proofs.Ytacocolcighomaa
set_option linter.unusedSimpArgs false
set_option linter.unusedVariables false
open Go Go.RowKit

/-- the slot that an operation writes holds this at the end -/
def ResP (τ : List AV) (o : Oper) (v : AV) : Prop := ∀ d, o.dst = some d → d < τ.length → τ.getD d .junk = v
/-- what was put off comes to the same now -/
def LateP (P : Program) (po : Pol) (f : FuncId) (all : Array Oper) (τ : List AV) (o : Oper) (h : AH) : Prop :=
  stillA o = true ∧ ((wantedA all τ o = some false ∧ ResP τ o (.tup [])) ∨ (wantedA all τ o = some true ∧ ∃ v, evalOp P (po.mu f) τ h o = some (v, h) ∧ ResP τ o v))

theorem putA_len {t : List AV} {d : Option Tmp} {v : AV} : (putA t d v).length = t.length := by cases d <;> simp [putA]
theorem putA_ne {t : List AV} {d : Option Tmp} {v : AV} {j : Nat} (h : d ≠ some j) : (putA t d v).getD j .junk = t.getD j .junk := by
  cases d with
  | none => rfl
  | some d =>
    have : d ≠ j := fun e => h (by rw [e])
    simp [putA, List.getD, List.getElem?_set_ne this]
theorem putA_eq {t : List AV} {d : Option Tmp} {v : AV} {j : Nat} (h : d = some j) (hj : j < t.length) : (putA t d v).getD j .junk = v := by
  subst h
  simp [putA, List.getD, hj]

section
variable {P : Program} {po : Pol} {f : FuncId} {all : Array Oper} {pl : List (Nat × List Nat)} {N : Nat} {ts : Nat → List AV} {hs : Nat → AH}

structure Tra (P : Program) (po : Pol) (f : FuncId) (all : Array Oper) (pl : List (Nat × List Nat)) (N : Nat) (ts : Nat → List AV) (hs : Nat → AH) : Prop where
  plan : PlanP all pl
  le : N ≤ pl.length
  step : ∀ k, k < N → StepF P po f all (opP all pl k, (ckP pl k).map (opI all)) (ts k) (hs k) (ts (k + 1)) (hs (k + 1))

theorem StepF.put {q : Oper × List Oper} {t t' : List AV} {h h' : AH} (hs : StepF P po f all q t h t' h') : ∃ v, t' = putA t q.1.dst v := by
  rcases hs with ⟨_, h1, _⟩ | ⟨_, v, _, h1, _⟩
  · exact ⟨_, h1⟩
  · exact ⟨_, h1⟩

theorem Tra.len (T : Tra P po f all pl N ts hs) : ∀ k, k ≤ N → (ts k).length = (ts N).length := by
  have : ∀ d k, k + d = N → (ts k).length = (ts N).length := by
    intro d
    induction d with
    | zero => intro k hk; rw [← hk]; rfl
    | succ d ih =>
      intro k hk
      rw [← ih (k + 1) (by omega)]
      obtain ⟨v, hv⟩ := (T.step k (by omega)).put
      rw [hv, putA_len]
  exact fun k hk => this (N - k) k (by omega)
theorem Tra.keep (T : Tra P po f all pl N ts hs) (d : Nat) : ∀ k1 n, k1 + n ≤ N → (∀ j, k1 ≤ j → j < k1 + n → (opP all pl j).dst ≠ some d) → (ts (k1 + n)).getD d .junk = (ts k1).getD d .junk := by
  intro k1 n
  induction n with
  | zero => intro _ _; rfl
  | succ n ih =>
    intro hle hno
    rw [← ih (by omega) (fun j h1 h2 => hno j h1 (by omega))]
    obtain ⟨v, hv⟩ := (T.step (k1 + n) (by omega)).put
    rw [← Nat.add_assoc, hv]
    exact putA_ne (hno (k1 + n) (by omega) (by omega))

/-- nobody at or behind an operation writes what it looks at -/
theorem PlanP.after (pp : PlanP all pl) {k d : Nat} (hk : k < pl.length) (hd : d ∈ (opP all pl k).looksAt all) {j : Nat} (h1 : k ≤ j) (h2 : j < pl.length) : (opP all pl j).dst ≠ some d := by
  intro he
  rcases Nat.lt_or_ge k j with h | h
  · exact (pp.dst k j d h h2 he).1 hd
  · obtain rfl : k = j := by omega
    exact pp.self k d hk he hd
theorem Tra.look (T : Tra P po f all pl N ts hs) {k : Nat} (hk : k ≤ N) (hkl : k < pl.length) {i : Nat} (hki : k ≤ i) (hi : i ≤ N) : ∀ d ∈ (opP all pl k).looksAt all, (ts i).getD d .junk = (ts N).getD d .junk := by
  intro d hd
  have := T.keep d i (N - i) (by omega) (fun j h1 h2 => T.plan.after hkl hd (by omega) (by have := T.le; omega))
  rw [show i + (N - i) = N by omega] at this
  exact this.symm
theorem Tra.res (T : Tra P po f all pl N ts hs) {k : Nat} (hk : k < N) {v : AV} (hv : ts (k + 1) = putA (ts k) (opP all pl k).dst v) : ResP (ts N) (opP all pl k) v := by
  intro d hd hlt
  have hl := T.le
  have := T.keep d (k + 1) (N - (k + 1)) (by omega) (fun j h1 h2 he => (T.plan.dst k j d (by omega) (by omega) he).2 hd)
  rw [show k + 1 + (N - (k + 1)) = N by omega] at this
  rw [this, hv]
  exact putA_eq hd (by rw [T.len k (by omega)]; exact hlt)

/-- an operation of the plan, seen from the end -/
theorem Tra.at (T : Tra P po f all pl N ts hs) {k : Nat} (hk : k < N) :
    (wantedA all (ts N) (opP all pl k) = some false ∧ ResP (ts N) (opP all pl k) (.tup []) ∧ hs (k + 1) = hs k) ∨
    (wantedA all (ts N) (opP all pl k) = some true ∧ ∃ v, OpF P po f (ts N) (hs k) (opP all pl k) v (hs (k + 1)) ∧ ResP (ts N) (opP all pl k) v ∧ chkA P all (ts (k + 1)) (hs (k + 1)) ((ckP pl k).map (opI all))) := by
  have hl := T.le
  have hlook := T.look (k := k) (by omega) (by omega) (Nat.le_refl k) (by omega)
  rcases T.step k hk with ⟨h1, h2, h3⟩ | ⟨h1, v, h2, h3, h4⟩
  · exact .inl ⟨by rw [← wantedA_congr hlook]; exact h1, T.res hk h2, h3⟩
  · refine .inr ⟨by rw [← wantedA_congr hlook]; exact h1, v, ?_, T.res hk h3, h4⟩
    rcases h2 with ⟨c1, c2⟩ | ⟨g, args, fn, c1, c2⟩
    · exact .inl ⟨by rw [← calleeA_congr hlook]; exact c1, by rw [← evalOp_congr (po.mu f) hlook]; exact c2⟩
    · exact .inr ⟨g, args, fn, by rw [← calleeA_congr hlook]; exact c1, c2⟩

theorem still_callee {t : List AV} {o : Oper} (hs : stillA o = true) : calleeA t o = none := by
  unfold calleeA
  split
  · rename_i ho
    simp [stillA, ho] at hs
  · rfl
theorem OpF.still {t : List AV} {h h' : AH} {o : Oper} {v : AV} (ho : OpF P po f t h o v h') (hs : stillA o = true) : evalOp P (po.mu f) t h o = some (v, h) ∧ h' = h := by
  rcases ho with ⟨_, h2⟩ | ⟨g, args, fn, h1, _⟩
  · have := still_same (po.mu f) hs h2
    subst this
    exact ⟨h2, rfl⟩
  · rw [still_callee hs] at h1
    cases h1

theorem Tra.same (T : Tra P po f all pl N ts hs) {k : Nat} (hk : k < N) (hst : stillA (opP all pl k) = true) : hs (k + 1) = hs k := by
  rcases T.at hk with ⟨_, _, h⟩ | ⟨_, v, h, _⟩
  · exact h
  · exact (h.still hst).2
theorem Tra.late (T : Tra P po f all pl N ts hs) {k : Nat} (hk : k < N) (hst : stillA (opP all pl k) = true) : LateP P po f all (ts N) (opP all pl k) (hs k) := by
  refine ⟨hst, ?_⟩
  rcases T.at hk with ⟨h1, h2, _⟩ | ⟨h1, v, h2, h3, _⟩
  · exact .inl ⟨h1, h2⟩
  · exact .inr ⟨h1, v, (h2.still hst).1, h3⟩

theorem chkA_mem {t : List AV} {h : AH} {o : Oper} : ∀ {l : List Oper}, chkA P all t h l → o ∈ l → wantedA all t o = some true → ∃ ty a d, o.op = .load ty a ∧ o.dst = some d ∧ loadA (aggA P ty) (szA P ty) h (evA t a) = some (t.getD d .junk)
  | x :: l, hc, hm, hw => by
    unfold chkA at hc
    rcases List.mem_cons.1 hm with rfl | hm
    · have := hc.1
      rw [hw] at this
      simp only at this
      split at this
      · rename_i ty a d h1 h2
        exact ⟨ty, a, d, h1, h2, this⟩
      · exact this.elim
    · exact chkA_mem hc.2 hm hw

/-- behind an operation that turns the memory, what was put off comes to the same still -/
theorem Tra.turn (T : Tra P po f all pl N ts hs) {i k : Nat} (hik : i < k) (hk : k < N) (hp : preA (Region.before all) (ixP pl i) (ixP pl k) = false) (hl : LateP P po f all (ts N) (opP all pl i) (hs k)) : LateP P po f all (ts N) (opP all pl i) (hs (k + 1)) := by
  have hle := T.le
  by_cases hst : stillA (opP all pl k) = true
  · rw [T.same hk hst]; exact hl
  obtain ⟨l1, l2⟩ := hl
  refine ⟨l1, ?_⟩
  rcases l2 with l2 | ⟨l2, v, l3, l4⟩
  · exact .inl l2
  refine .inr ⟨l2, ?_⟩
  rcases T.plan.load i k hik (by omega) with h | h | h | h
  · exact absurd h hst
  · exact ⟨v, still_any (po.mu f) l1 h l3 _, l4⟩
  · rw [hp] at h; cases h
  · rcases T.at hk with ⟨_, _, h3⟩ | ⟨_, v', _, _, hck⟩
    · rw [h3]; exact ⟨v, l3, l4⟩
    · have hlook := T.look (k := i) (i := k + 1) (by omega) (by omega) (by omega) (by omega)
      obtain ⟨ty, a, d, e1, e2, e3⟩ := chkA_mem hck (o := opP all pl i) (List.mem_map.2 ⟨_, h, rfl⟩) (by rw [wantedA_congr hlook]; exact l2)
      have hda : evA (ts (k + 1)) a = evA (ts N) a := looks_op hlook a (by simp [e1, Op.operands])
      have hdd : (ts (k + 1)).getD d .junk = (ts N).getD d .junk := by
        have := T.keep d (k + 1) (N - (k + 1)) (by omega) (fun j h1 h2 he => (T.plan.dst i j d (by omega) (by omega) he).2 e2)
        rw [show k + 1 + (N - (k + 1)) = N by omega] at this
        exact this.symm
      refine ⟨(ts N).getD d .junk, ?_, fun d' hd' _ => ?_⟩
      · unfold evalOp at l3 ⊢
        simp only [e1] at l3 ⊢
        split at l3
        · cases l3
        · rename_i hn
          rw [if_neg hn, ← hda, e3, hdd]
          rfl
      · rw [e2] at hd'
        injection hd' with hd'
        rw [hd']
end
end Go.Proofs.Ytacocolcighomaa
