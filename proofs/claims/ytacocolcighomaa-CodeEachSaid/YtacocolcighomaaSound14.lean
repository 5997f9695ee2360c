/- Statements whose order Go leaves open: the run of a plan, step by step, and what of it is true in every order. -/
import Derived.Test.YtacocolcighomaaSound13
namespace Go.Proofs.Ytacocolcighomaa
set_option linter.unusedSimpArgs false
set_option linter.unusedVariables false
open Go Go.RowKit

/-- what an operation comes to -/
def OpF (P : Program) (po : Pol) (f : FuncId) (t : List AV) (h : AH) (o : Oper) (v : AV) (h' : AH) : Prop :=
  (calleeA t o = none ∧ evalOp P (po.mu f) t h o = some (v, h')) ∨ ∃ g args fn, calleeA t o = some (g, args) ∧ P.funcs[g]? = some fn ∧ (fn.body.isNone = false ∧ (fn.name == "runtime.NumGoroutine") = false) ∧ AC P g args h (.inl v, h')
def StepF (P : Program) (po : Pol) (f : FuncId) (all : Array Oper) (q : Oper × List Oper) (t : List AV) (h : AH) (t' : List AV) (h' : AH) : Prop :=
  (wantedA all t q.1 = some false ∧ t' = putA t q.1.dst (.tup []) ∧ h' = h) ∨
  (wantedA all t q.1 = some true ∧ ∃ v, OpF P po f t h q.1 v h' ∧ t' = putA t q.1.dst v ∧ chkA P all t' h' q.2)
def StopF (P : Program) (all : Array Oper) (o : Oper) (t : List AV) (h : AH) (v : AV) (h' : AH) : Prop :=
  wantedA all t o = some true ∧ ∃ g args fn, calleeA t o = some (g, args) ∧ P.funcs[g]? = some fn ∧ (fn.body.isNone = false ∧ (fn.name == "runtime.NumGoroutine") = false) ∧ AC P g args h (.inr v, h')

inductive PRun (P : Program) (po : Pol) (f : FuncId) (all : Array Oper) : List (Oper × List Oper) → List AV → AH → Option AV → List AV → AH → Prop
  | nil (t : List AV) (h : AH) : PRun P po f all [] t h none t h
  | step (q : Oper × List Oper) (l : List (Oper × List Oper)) (t : List AV) (h : AH) (t1 : List AV) (h1 : AH) (e : Option AV) (t' : List AV) (h' : AH) :
      StepF P po f all q t h t1 h1 → PRun P po f all l t1 h1 e t' h' → PRun P po f all (q :: l) t h e t' h'
  | stop (q : Oper × List Oper) (l : List (Oper × List Oper)) (t : List AV) (h : AH) (v : AV) (h' : AH) : StopF P all q.1 t h v h' → PRun P po f all (q :: l) t h (some v) t h'

theorem PRun.trace {P : Program} {po : Pol} {f : FuncId} {all : Array Oper} {l : List (Oper × List Oper)} {t : List AV} {h : AH} {e : Option AV} {t' : List AV} {h' : AH} (hp : PRun P po f all l t h e t' h') :
    ∃ (N : Nat) (ts : Nat → List AV) (hs : Nat → AH), N ≤ l.length ∧ ts 0 = t ∧ hs 0 = h ∧ ts N = t' ∧ (∀ i q, i < N → l[i]? = some q → StepF P po f all q (ts i) (hs i) (ts (i + 1)) (hs (i + 1))) ∧
      (match e with | none => N = l.length ∧ hs N = h' | some v => ∃ q, l[N]? = some q ∧ StopF P all q.1 (ts N) (hs N) v h') := by
  induction hp with
  | nil t h => exact ⟨0, fun _ => t, fun _ => h, Nat.le_refl _, rfl, rfl, rfl, fun i q hi => by omega, rfl, rfl⟩
  | step q l t h t1 h1 e t' h' hst _ ih =>
    obtain ⟨N, ts, hs, h1', h2, h3, h4, h5, h6⟩ := ih
    refine ⟨N + 1, fun | 0 => t | i + 1 => ts i, fun | 0 => h | i + 1 => hs i, by simpa using h1', rfl, rfl, h4, fun i q' hi hq => ?_, ?_⟩
    · cases i with
      | zero =>
        simp only [List.getElem?_cons_zero, Option.some.injEq] at hq
        subst hq
        show StepF P po f all q t h (ts 0) (hs 0)
        rw [h2, h3]
        exact hst
      | succ i =>
        simp only [List.getElem?_cons_succ] at hq
        exact h5 i q' (by omega) hq
    · cases e with
      | none => exact ⟨by simp [h6.1], h6.2⟩
      | some v =>
        obtain ⟨q', hq, hs'⟩ := h6
        exact ⟨q', by simpa using hq, hs'⟩
  | stop q l t h v h' hst => exact ⟨0, fun _ => t, fun _ => h, Nat.zero_le _, rfl, rfl, rfl, fun i q hi => by omega, q, rfl, hst⟩

section
variable (all : Array Oper) (pl : List (Nat × List Nat))
def opI (i : Nat) : Oper := all.getD i default
def ixP (k : Nat) : Nat := (pl.getD k default).1
def ckP (k : Nat) : List Nat := (pl.getD k default).2
def opP (k : Nat) : Oper := opI all (ixP pl k)

structure PlanP : Prop where
  cover : ∀ i, i < all.size → ∃ k, k < pl.length ∧ ixP pl k = i
  lt : ∀ k, k < pl.length → ixP pl k < all.size
  self : ∀ k d, k < pl.length → (opP all pl k).dst = some d → d ∉ (opP all pl k).looksAt all
  edges : ∀ j, j < all.size → ∀ e ∈ (opI all j).after, Region.binds .any e = true → e.on < j
  mask : ∀ j i, j < all.size → i < all.size → preA (Region.before all) i j = true → ∃ e ∈ (opI all j).after, Region.binds .any e = true ∧ (e.on = i ∨ preA (Region.before all) i e.on = true)
  ne : ∀ i j, i < j → j < pl.length → ixP pl i ≠ ixP pl j
  still : ∀ i j, i < j → j < pl.length → stillA (opP all pl i) = true ∨ preA (Region.before all) (ixP pl i) (ixP pl j) = true
  load : ∀ i j, i < j → j < pl.length → stillA (opP all pl j) = true ∨ isLoad (opP all pl i) = false ∨ preA (Region.before all) (ixP pl i) (ixP pl j) = true ∨ ixP pl i ∈ ckP pl j
  dst : ∀ i j d, i < j → j < pl.length → (opP all pl j).dst = some d → d ∉ (opP all pl i).looksAt all ∧ (opP all pl i).dst ≠ some d
  data : ∀ i j d, i < j → j < pl.length → (opP all pl i).dst = some d → d ∈ (opP all pl j).looksAt all → preA (Region.before all) (ixP pl i) (ixP pl j) = true
end

theorem pairs_get (all : Array Oper) (M : Array Nat) : ∀ (pl : List (Nat × List Nat)), pairsOK all M pl = true → ∀ i j, i < j → j < pl.length → pairOK all M (pl.getD i default) (pl.getD j default) = true
  | [], _, i, j, _, hj => by simp at hj
  | x :: r, hp, i, j, hij, hj => by
    simp only [pairsOK, Bool.and_eq_true, List.all_eq_true] at hp
    obtain ⟨j, rfl⟩ : ∃ j', j = j' + 1 := ⟨j - 1, by omega⟩
    have hj' : j < r.length := by simpa using hj
    cases i with
    | zero =>
      have : r[j] ∈ r := List.getElem_mem hj'
      have := hp.1 _ this
      simpa [List.getD, hj'] using this
    | succ i =>
      have := pairs_get all M r hp.2 i j (by omega) hj'
      simpa [List.getD] using this

theorem plan_spec {all : Array Oper} {pl : List (Nat × List Nat)} (hp : planOK all pl = true) : PlanP all pl := by
  unfold planOK at hp
  simp only [Bool.and_eq_true] at hp
  obtain ⟨⟨⟨⟨h1, h2⟩, h3⟩, h4⟩, h5⟩ := hp
  rw [List.all_eq_true] at h1 h2 h3
  have hmem : ∀ k, k < pl.length → pl.getD k default ∈ pl := fun k hk => by
    simp only [List.getD, List.getElem?_eq_getElem hk, Option.getD_some]
    exact List.getElem_mem hk
  have hpair : ∀ i j, i < j → j < pl.length → _ := fun i j hij hj => pairs_get all (Region.before all) pl h5 i j hij hj
  unfold pairOK at hpair
  simp only [Bool.and_eq_true, bne_iff_ne, ne_eq] at hpair
  refine ⟨fun i hi => ?_, fun k hk => ?_, fun k d hk hd hin => ?_, fun j hj e he hb => ?_, fun j i hj hi hpre => ?_, fun i j hij hj => ?_, fun i j hij hj => ?_, fun i j hij hj => ?_, fun i j d hij hj hd => ?_, fun i j d hij hj hd hin => ?_⟩
  · have := h1 i (List.mem_range.2 hi)
    rw [List.any_eq_true] at this
    obtain ⟨q, hq, h⟩ := this
    obtain ⟨k, hk, rfl⟩ := List.getElem_of_mem hq
    exact ⟨k, hk, by simpa [ixP, List.getD, hk] using h⟩
  · have := h2 _ (hmem k hk)
    simp only [Bool.and_eq_true, decide_eq_true_eq] at this
    exact this.1
  · have := h2 _ (hmem k hk)
    simp only [Bool.and_eq_true, decide_eq_true_eq] at this
    have := this.2
    unfold opP opI ixP at hd hin
    rw [hd] at this
    simp only [Array.getD_eq_getD_getElem?, List.getD_eq_getElem?_getD] at hin this
    simp [List.contains_eq_mem, hin] at this
  · have := h3 j (List.mem_range.2 hj)
    rw [Array.all_eq_true'] at this
    have := this e he
    simpa [hb] using this
  · unfold maskOK at h4
    rw [List.all_eq_true] at h4
    have := h4 j (List.mem_range.2 hj)
    rw [List.all_eq_true] at this
    have := this i (List.mem_range.2 hi)
    rw [hpre] at this
    simp only [Bool.not_true, Bool.false_or] at this
    rw [Option.any_eq_true] at this
    obtain ⟨o, ho, h6⟩ := this
    rw [Array.any_eq_true'] at h6
    obtain ⟨e, he, h7⟩ := h6
    simp only [Bool.and_eq_true, decide_eq_true_eq, Bool.or_eq_true, beq_iff_eq] at h7
    refine ⟨e, ?_, h7.1.1, h7.2⟩
    have : opI all j = o := by simp [opI, Array.getD_eq_getD_getElem?, ho]
    rw [this]
    exact he
  · exact (hpair i j hij hj).1.1.1.1.1.1
  · have := (hpair i j hij hj).1.1.1.2
    simpa [opP, opI, ixP] using this
  · have := (hpair i j hij hj).1.1.2
    simp only [Bool.or_eq_true, Bool.not_eq_true', List.contains_eq_mem, decide_eq_true_eq] at this
    unfold opP opI ixP ckP
    rcases this with ((h | h) | h) | h
    · exact .inl h
    · exact .inr (.inl h)
    · exact .inr (.inr (.inl h))
    · exact .inr (.inr (.inr h))
  · have := (hpair i j hij hj).1.2
    unfold opP opI ixP at hd ⊢
    rw [hd] at this
    simpa [List.contains_eq_mem] using this
  · have := (hpair i j hij hj).2
    unfold opP opI ixP at hd hin
    rw [hd] at this
    simp only [Array.getD_eq_getD_getElem?, List.getD_eq_getElem?_getD] at hin this
    simpa [List.contains_eq_mem, hin, ixP] using this
end Go.Proofs.Ytacocolcighomaa
