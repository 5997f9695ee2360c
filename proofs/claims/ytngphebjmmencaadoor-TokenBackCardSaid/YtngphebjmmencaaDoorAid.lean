/- Calls and loops in the plain model, told by what must hold behind them; small steps of memory. -/
import Derived.Test.YtngphebjmmencaaDoorHeapS
import Derived.Test.YtngphebjmmencaaDoorLawS
namespace Go.Proofs.YtngphebjmmencaaDoor
set_option linter.unusedSimpArgs false
set_option linter.unusedVariables false
open Go

section
variable {P : Program} {po : Pol} {g : FuncId} {a nv : Nat} {vm : List Nat} {ss : List RS} {rs : List RRes} {args : List AV} {h : AH}
/-- a call: what holds of its end -/
theorem runF_Q {p : Bool} {Post : (AV ⊕ AV) × AH → Prop} (hf : FnR P po g a nv vm ss rs p) (ha : args.length = a)
    (H : ∀ Q : RRun → Prop, (∀ r q, cFR p rs h r = some q → Post q → Q r) → Q (runR (runF P po) nv [.ss ss] (args ++ List.replicate (vm.length - args.length) .junk) [] h)) :
    ∃ q, runF P po g args h = some q ∧ Post q := by
  obtain ⟨q, h1, h2⟩ := H (fun r => ∃ q, cFR p rs h r = some q ∧ Post q) (fun r q h1 h2 => ⟨q, h1, h2⟩)
  exact ⟨q, runF_R hf ha h1, h2⟩
/-- .. of one whose memory stays -/
theorem runF_I {v : AV} {R : AH → Prop} (hf : FnR P po g a nv vm ss rs false) (ha : args.length = a)
    (H : ∀ Q : RRun → Prop, (∀ V h', (resR V h' rs).map oneA = some v → R h' → Q (some (.ret, V, h'))) → Q (runR (runF P po) nv [.ss ss] (args ++ List.replicate (vm.length - args.length) .junk) [] h)) :
    ∃ h', runF P po g args h = some (.inl v, h') ∧ R h' := by
  obtain ⟨q, h1, h', rfl, h2⟩ := runF_Q (Post := fun q => ∃ h', q = (.inl v, h') ∧ R h') hf ha fun Q hQ => H Q fun V h' e r => hQ _ (.inl v, h') (by simp only [cFR_ret, e, cR_some, fg_not]) ⟨h', rfl, r⟩
  exact ⟨h', h1, h2⟩
/-- .. with some value -/
theorem runF_J {R : AV → AH → Prop} (hf : FnR P po g a nv vm ss rs false) (ha : args.length = a)
    (H : ∀ Q : RRun → Prop, (∀ V h' v, (resR V h' rs).map oneA = some v → R v h' → Q (some (.ret, V, h'))) → Q (runR (runF P po) nv [.ss ss] (args ++ List.replicate (vm.length - args.length) .junk) [] h)) :
    ∃ v h', runF P po g args h = some (.inl v, h') ∧ R v h' := by
  obtain ⟨q, h1, v, h', rfl, h2⟩ := runF_Q (Post := fun q => ∃ v h', q = (.inl v, h') ∧ R v h') hf ha fun Q hQ => H Q fun V h' v e r => hQ _ (.inl v, h') (by simp only [cFR_ret, e, cR_some, fg_not]) ⟨v, h', rfl, r⟩
  exact ⟨v, h', h1, h2⟩
/-- .. of one whose memory is forgotten -/
theorem runF_V {R : AV → Prop} (hf : FnR P po g a nv vm ss rs true) (ha : args.length = a)
    (H : ∀ Q : RRun → Prop, (∀ V h' v v', (resR V h' rs).map oneA = some v → GrewA h h' → wkA v = some v' → R v' → Q (some (.ret, V, h'))) → Q (runR (runF P po) nv [.ss ss] (args ++ List.replicate (vm.length - args.length) .junk) [] h)) :
    ∃ v, runF P po g args h = some (.inl v, h) ∧ R v := by
  obtain ⟨q, h1, v, rfl, h2⟩ := runF_Q (Post := fun q => ∃ v, q = (.inl v, h) ∧ R v) hf ha fun Q hQ => H Q fun V h' v v' e hg w r => hQ _ (.inl v', h) (by simp only [cFR_ret, e, cR_some]; exact fg_yes hg w) ⟨v', rfl, r⟩
  exact ⟨v, h1, h2⟩
theorem runF_E {v' : AV} (hf : FnR P po g a nv vm ss rs true) (ha : args.length = a)
    (H : ∀ Q : RRun → Prop, (∀ V h' v, (resR V h' rs).map oneA = some v → GrewA h h' → wkA v = some v' → Q (some (.ret, V, h'))) → Q (runR (runF P po) nv [.ss ss] (args ++ List.replicate (vm.length - args.length) .junk) [] h)) :
    runF P po g args h = some (.inl v', h) := by
  obtain ⟨v, h1, rfl⟩ := runF_V (R := fun v => v = v') hf ha fun Q hQ => H Q fun V h' v e hg w => hQ V h' v v' e hg w rfl
  exact h1
end

/-- a loop: what holds at the round i; in the end, or in the middle of it, what is asked holds -/
theorem loop_Q {C : CallR} {nv : Nat} {b : List RS} {K : List RK} {V : List AV} {h : AH} {Q : RRun → Prop} (I : Nat → List AV → AH → Prop) (n : Nat) (h0 : I 0 V h)
    (step : ∀ i V h, i < n → I i V h → (∀ V' h', I (i + 1) V' h' → Q (runR C nv (.lp b :: K) V' [] h')) → Q (runR C nv (.lp b :: K) V [] h))
    (stop : ∀ V h, I n V h → Q (runR C nv (.lp b :: K) V [] h)) : Q (runR C nv (.lp b :: K) V [] h) := by
  have key : ∀ (d i : Nat) (V : List AV) (h : AH), i + d = n → I i V h → Q (runR C nv (.lp b :: K) V [] h) := by
    intro d
    induction d with
    | zero =>
      intro i V h hi hI
      obtain rfl : i = n := by omega
      exact stop V h hI
    | succ d ih => exact fun i V h hi hI => step i V h (by omega) hI fun V' h' hI' => ih (i + 1) V' h' (by omega) hI'
  exact key n 0 V h (by omega) h0
/-- .. with a measure -/
theorem loop_M {C : CallR} {nv : Nat} {b : List RS} {K : List RK} {V : List AV} {h : AH} {Q : RRun → Prop} (I : Nat → List AV → AH → Prop) (n : Nat) (h0 : I n V h)
    (step : ∀ n V h, I n V h → (∀ n' V' h', n' < n → I n' V' h' → Q (runR C nv (.lp b :: K) V' [] h')) → Q (runR C nv (.lp b :: K) V [] h)) : Q (runR C nv (.lp b :: K) V [] h) := by
  induction n using Nat.strongRecOn generalizing V h with
  | ind n ih => exact step n V h h0 fun n' V' h' hlt hI => ih n' hlt hI

theorem lt_s {a n : Nat} (h : a < n) : (a < n + 1) = True := by simp; omega
theorem lt_self {n : Nat} : (n < n + 1) = True := by simp
theorem set_mid {α : Type} (A B : List α) (x y : α) {n : Nat} (hn : n = A.length) : (A ++ x :: B).set n y = A ++ y :: B := by subst hn; simp
theorem get_mid {α : Type} (A B : List α) (x : α) {n : Nat} (hn : n = A.length) : (A ++ x :: B)[n]? = some x := by subst hn; simp
theorem decI {p : Prop} [Decidable p] (h : p) : decide p = true := decide_eq_true h
theorem decN {p : Prop} [Decidable p] (h : ¬ p) : decide p = false := decide_eq_false h
theorem take_get {α : Type} {l : List α} {i : Nat} {y : α} (h : l[i]? = some y) : l.take (i + 1) = l.take i ++ [y] := by
  rw [List.take_add_one, h]
  rfl
theorem w64' {n m : Int} (e : n = m) (h1 : -9223372036854775808 ≤ n) (h2 : n ≤ 9223372036854775807) : IntKind.wrap .i64 n = m := by rw [← e]; exact w64 h1 h2
theorem acc_apps {h0 h : AH} {e : TypeId} {v : AV} {acc : List (List AV)} (ha : Acc h0 h e v acc) (g : GrewA h0 h) {x : AV} {rows : List (List AV)} (hx : (x = .nils ∧ rows = []) ∨ ∃ id, x = .isl id e rows) (h1 : ∀ r ∈ rows, r.all AV.one = true) (hl : acc.length ≤ 1000000) (hr : rows.length ≤ 1000000) :
    ∃ v' h', appendA false e v x h = some (v', h') ∧ Acc h0 h' e v' (acc ++ rows) ∧ GrewA h0 h' ∧ h'.cell = h.cell ∧ h'.n = h.n := by
  have h1' : rows.all (·.all AV.one) = true := by rw [List.all_eq_true]; exact h1
  by_cases hz : rows.length = 0
  · have hz' := List.length_eq_zero_iff.1 hz
    subst hz'
    refine ⟨v, h, ?_, by simpa using ha, g, rfl, rfl⟩
    have hs : sameA e v h = some (v, h) := by
      rcases ha with ⟨_, rfl⟩ | ⟨id, _, _, _, _, rfl⟩ <;> simp [sameA]
    rcases hx with ⟨rfl, _⟩ | ⟨id, rfl⟩
    · exact hs
    · simp [appendA, elemsA, hs]
  · obtain ⟨id2, rfl⟩ : ∃ id, x = .isl id e rows := by
      rcases hx with ⟨_, rfl⟩ | hx
      · simp at hz
      · exact hx
    have e1 : appendA false e v (.isl id2 e rows) h = moreA false e v rows h := by
      simp only [appendA, elemsA, if_true, Option.bind_some]
      rw [if_neg hz]
    rw [e1]
    unfold moreA
    rw [if_pos ⟨by omega, by omega, h1'⟩]
    have hne : rows ≠ [] := fun e => hz (by rw [e]; rfl)
    rcases ha with ⟨rfl, rfl⟩ | ⟨id, a0, a1, a2, a3, rfl⟩
    · refine ⟨_, _, rfl, .inr ⟨h.ids, by simpa using hne, g.ids, by simp [AH.fresh], by simp [AH.fresh], by simp⟩, g.trans (GrewA.fresh _ _), rfl, rfl⟩
    · refine ⟨.isl (some id) e (acc ++ rows), h.grow id (acc.length + rows.length), ?_, .inr ⟨id, by simp [a0], a1, a2, by simp [AH.grow], rfl⟩, g.grow a1, rfl, rfl⟩
      simp [a3, hl]
theorem lst_app (e : TypeId) (rows : List (List AV)) : (lstA e rows = .nils ∧ rows = []) ∨ ∃ id, lstA e rows = .isl id e rows := by
  unfold lstA
  by_cases hz : rows = []
  · exact .inl ⟨by rw [if_pos hz], hz⟩
  · exact .inr ⟨none, by rw [if_neg hz]⟩

theorem ints_one (l : List Int) : ∀ r ∈ intsA l, r.all AV.one = true := by
  intro r hr
  obtain ⟨n, _, rfl⟩ := List.mem_map.1 hr
  rfl

/-- a function that is a value -/
def calF (f : AV) (xs : List AV) : Option (FuncId × List AV) := match f with
  | .fn g a c => some (g, a ++ xs ++ c)
  | _ => none
section
variable {C : CallR} {nv : Nat} {k : List RK} {V L : List AV} {h : AH} {d : RD} {is : List RI}
theorem callee_eq {f : Arg} {args : List Arg} : calleeR V L (.call f args) = calF (arg V L f) (args.map (arg V L)) := by
  simp only [calleeR]
  cases arg V L f <;> rfl
theorem calF_fn {g : FuncId} {a c xs : List AV} : calF (.fn g a c) xs = some (g, a ++ xs ++ c) := rfl
theorem rF_some {g : FuncId} {xs : List AV} : rF C nv d is k V L h (some (g, xs)) = rC C nv d is k V L (C g xs h) := rfl
theorem calls : (type_of% @r_call) ∧ (type_of% @callee_eq) ∧ (type_of% @calF_fn) ∧ (type_of% @rF_some) := ⟨@r_call, @callee_eq, @calF_fn, @rF_some⟩
end
end Go.Proofs.YtngphebjmmencaaDoor
