/- Each operation that is no call does in memory what it does in the plain model: those that only compute. -/
import Derived.Test.YtacocolcighomaaSound3
import Derived.Lib.SliceRun
import Derived.Laws.Pointers
import Derived.WideLaws
namespace Go.Proofs.Ytacocolcighomaa
set_option linter.unusedSimpArgs false
set_option linter.unusedVariables false
open Go Go.RowKit

section
variable {P : Program} {m m' : Mm} {h h' : AH} {w w' : World} {t : List AV} {a : Act} {o : Oper}

theorem op_move (hw : WR P m h w) (ht : TR P m h t a.tmps) (x : Operand) (ho : o.op = .move x ∨ o.op = .assign x) : OpR P m h a w o (evA t x) h := by
  refine OpR.pure hw (u := a.eval x) ?_ (evA_sound ht x)
  rcases ho with ho | ho <;> simp [execOp, ho]

theorem op_pick (hw : WR P m h w) (ht : TR P m h t a.tmps) (c x y : Operand) (ho : o.op = .pick c x y) {b : Bool} (hb : evA t c = .bool b) : OpR P m h a w o (if b then evA t x else evA t y) h := by
  have hc := evA_sound ht c
  rw [hb] at hc
  obtain ⟨u, hu⟩ : ∃ u, a.eval c = u := ⟨_, rfl⟩
  rw [hu] at hc
  cases hc
  cases b
  · exact OpR.pure hw (u := a.eval y) (by simp [execOp, ho, hu, asBool]) (by simpa using evA_sound ht y)
  · exact OpR.pure hw (u := a.eval x) (by simp [execOp, ho, hu, asBool]) (by simpa using evA_sound ht x)

theorem op_nilCheck (hw : WR P m h w) (ht : TR P m h t a.tmps) (x : Operand) (ho : o.op = .nilCheck x) {v : AV} (hv : evA t x = v)
    (hk : (match v with | .ptr .. | .ip .. | .fn .. | .iface .. => true | _ => false) = true) : OpR P m h a w o v h := by
  have hc := evA_sound ht x
  rw [hv] at hc
  obtain ⟨u, hu⟩ : ∃ u, a.eval x = u := ⟨_, rfl⟩
  rw [hu] at hc
  refine OpR.pure hw (u := u) ?_ hc
  cases hc <;> simp at hk <;> simp [execOp, ho, hu]

theorem op_unOp (hw : WR P m h w) (ht : TR P m h t a.tmps) (op : UnOp) (ty : TypeId) (x : Operand) (ho : o.op = .unOp op ty x) {v : AV}
    (hv : unA op (evA t x) = some v) : OpR P m h a w o v h := by
  have hc := evA_sound ht x
  revert hv hc
  obtain ⟨u, hu⟩ : ∃ u, a.eval x = u := ⟨_, rfl⟩
  rw [hu]
  generalize evA t x = ex
  intro hv hc
  cases op <;> cases hc <;> simp [unA] at hv
  · subst hv
    exact OpR.pure hw (u := .int _ _) (by simp [execOp, ho, hu, Op.unary, Op.intArith]) (.int _ _)
  · subst hv
    exact OpR.pure hw (u := .bool _) (by simp [execOp, ho, hu, Op.unary]) (.bool _)

theorem op_convert (hw : WR P m h w) (ht : TR P m h t a.tmps) (src dst : TypeId) (x : Operand) (ho : o.op = .convert src dst x) {v : AV} (hs : (P.underlying src).isNone = false)
    (hv : cvA (kindA P dst) (evA t x) = some v) : OpR P m h a w o v h := by
  have hc := evA_sound ht x
  revert hv hc
  obtain ⟨u, hu⟩ : ∃ u, a.eval x = u := ⟨_, rfl⟩
  rw [hu]
  generalize evA t x = ex
  intro hv hc
  obtain ⟨ds, hds⟩ : ∃ ds, P.underlying src = some ds := Option.isSome_iff_exists.1 (by simpa [← Option.not_isSome] using hs)
  unfold kindA at hv
  rcases hd : P.underlying dst with _ | dd
  · simp [hd, cvA] at hv
  · rw [hd] at hv
    cases dd <;> cases hc <;> simp [cvA] at hv
    · subst hv
      exact OpR.pure hw (u := .int _ _) (by
        simp only [execOp, ho, hu, convert, Sem.run_bind, run_underlying hds, run_underlying hd, Result.andThen_ok]
        cases ds <;> simp [Conv.intToInt] <;> rfl) (.int _ _)
    · subst hv
      exact OpR.pure hw (u := .string _) (by
        simp only [execOp, ho, hu, convert, Sem.run_bind, run_underlying hds, run_underlying hd, Result.andThen_ok]
        cases ds <;> simp <;> rfl) (.str _)

theorem op_makeInterface (hw : WR P m h w) (ht : TR P m h t a.tmps) (ty : TypeId) (x : Operand) (ho : o.op = .makeInterface ty x) (hp : plainT P ty = true) : OpR P m h a w o (.iface ty (evA t x)) h := by
  unfold plainT at hp
  rcases hd : P.underlying ty with _ | d
  · simp [hd] at hp
  · refine OpR.pure hw (u := .iface ty (a.eval x)) ?_ (.iface _ _ _ (evA_sound ht x))
    rw [hd] at hp
    simp only [execOp, ho, Instr.makeInterface, Sem.run_bind, run_underlying hd, Result.andThen_ok]
    cases d <;> simp at hp ⊢

theorem op_makeFunc (hw : WR P m h w) (ht : TR P m h t a.tmps) (g : FuncId) (first captured : Array Operand) (ho : o.op = .makeFunc (.func g) first captured) :
    OpR P m h a w o (.fn g (first.toList.map (evA t)) (captured.toList.map (evA t))) h := by
  have h1 := VRs.map (P := P) (m := m) (h := h) (f := evA t) (g := a.eval) (l := first.toList) (fun x _ => evA_sound ht x)
  have h2 := VRs.map (P := P) (m := m) (h := h) (f := evA t) (g := a.eval) (l := captured.toList) (fun x _ => evA_sound ht x)
  refine OpR.pure hw (u := .func (.func g) (first.toList.map a.eval).toArray (captured.toList.map a.eval).toArray) ?_ (.fn _ _ _ _ _ h1.1 h2.1 h1.2 h2.2)
  simp only [execOp, ho, Instr.makeFunc, Sem.run_bind, Sem.run_pure, Result.andThen_ok]
  have e : ∀ xs : Array Operand, (xs.toList.map a.eval).toArray = xs.map a.eval := fun xs => by apply Array.ext'; simp
  rw [e, e]

theorem op_extract (hw : WR P m h w) (ht : TR P m h t a.tmps) (x : Operand) (i : Nat) (ho : o.op = .extract x i) {vs : List AV} {v : AV} (hv : evA t x = .tup vs) (hi : vs[i]? = some v) : OpR P m h a w o v h := by
  have hc := evA_sound ht x
  rw [hv] at hc
  obtain ⟨u, hu⟩ : ∃ u, a.eval x = u := ⟨_, rfl⟩
  rw [hu] at hc
  cases hc with
  | tup _ l' h1 h3 =>
    obtain ⟨y, hy1, hy2⟩ := VRs.get? (l := vs) (l' := l') ⟨h1, h3⟩ hi
    exact OpR.pure hw (u := y) (by simp [execOp, ho, hu, Instr.extract, hy1]) hy2

theorem op_typeAssert (hw : WR P m h w) (ht : TR P m h t a.tmps) (x : Operand) (xt as : TypeId) (ok : Bool) (ho : o.op = .typeAssert x xt as ok) {v : AV} (hv : evA t x = .iface as v) (hp : plainT P as = true) :
    OpR P m h a w o (if ok then .tup [v, .bool true] else v) h := by
  have hc := evA_sound ht x
  rw [hv] at hc
  obtain ⟨u, hu⟩ : ∃ u, a.eval x = u := ⟨_, rfl⟩
  rw [hu] at hc
  unfold plainT at hp
  rcases hd : P.underlying as with _ | d
  · simp [hd] at hp
  · rw [hd] at hp
    cases hc with
    | iface _ _ v' h1 =>
      cases ok
      · refine OpR.pure hw (u := v') ?_ h1
        simp only [execOp, ho, hu, Instr.typeAssert, Sem.run_bind, run_underlying hd, Result.andThen_ok]
        cases d <;> simp at hp ⊢
      · refine OpR.pure hw (u := .tuple [v', .bool true].toArray) ?_ ?_
        · simp only [execOp, ho, hu, Instr.typeAssert, Sem.run_bind, run_underlying hd, Result.andThen_ok]
          cases d <;> simp at hp ⊢
        · have := VRs.cons h1 (VRs.cons (VR.bool true) VRs.nil)
          exact .tup _ _ this.1 this.2

theorem size_info {q : TypeId} (hq : szA P q ≠ 0) : ∃ i, P.info? q = some i ∧ i.size = szA P q := by
  unfold szA Program.cellsOf at *
  rcases hi : P.info? q with _ | i
  · simp [hi] at hq
  · exact ⟨i, rfl, by simp⟩
theorem under_info {q : TypeId} {d : TypeDesc} (hd : P.underlying q = some d) : ∃ i, P.info? q = some i := by
  unfold Program.underlying at hd
  rcases hi : P.info? q with _ | i
  · simp [hi] at hd
  · exact ⟨i, rfl⟩

theorem field_run {s : TypeId} {f : Nat} {q : Nat × TypeId} (hq : ((fieldsA P s).bind (·[f]?)) = some q) : ∃ fs fd, P.underlying s = some (.struct fs) ∧ fs[f]? = some fd ∧ fd.offset = q.1 ∧ fd.type = q.2 := by
  unfold fieldsA at hq
  split at hq
  · rename_i fs hfs
    simp at hq
    obtain ⟨fd, h1, h2⟩ := hq
    exact ⟨fs, fd, hfs, h1, by rw [← h2], by rw [← h2]⟩
  · simp at hq

theorem op_fieldAddr (hw : WR P m h w) (ht : TR P m h t a.tmps) (s : TypeId) (x : Operand) (f : Nat) (ho : o.op = .fieldAddr s x f) {q : Nat × TypeId} (hq : ((fieldsA P s).bind (·[f]?)) = some q) (hz : szA P q.2 ≠ 0) {v : AV}
    (hv : fldA q.1 (evA t x) = some v) : OpR P m h a w o v h := by
  obtain ⟨fs, fd, h1, h2, h3, h4⟩ := field_run hq
  obtain ⟨i0, hi0, hi1⟩ := size_info hz
  have hc := evA_sound ht x
  revert hv hc
  obtain ⟨u, hu⟩ : ∃ u, a.eval x = u := ⟨_, rfl⟩
  rw [hu]
  generalize evA t x = ex
  intro hv hc
  have run : ∀ g off, (execOp a.eval o).run P w = .ok (.value (.pointer (some ⟨g, off + q.1, none⟩))) w ∨ u ≠ .pointer (some ⟨g, off, none⟩) := by
    intro g off
    by_cases hug : u = .pointer (some ⟨g, off, none⟩)
    · left
      subst hug
      simp only [execOp, ho, hu, Instr.fieldAt, Sem.run_bind, run_underlying h1, Result.andThen_ok, h2, Instr.sureAddr, Sem.run_pure, fieldPlace, h4, sizeOf, typeInfo, run_program, hi0, hi1, hz, if_false, h3, Addr.add_lit]
    · exact .inr hug
  cases hc <;> simp [fldA] at hv
  · rename_i b i off hb
    subst hv
    refine OpR.pure hw (u := .pointer (some ⟨m.blk b, i * P.cellsOf (m.bt b) + (off + q.1), none⟩)) ?_ (.ptr b i _ hb)
    have := (run (m.blk b) (i * P.cellsOf (m.bt b) + off)).resolve_right (by simp)
    rwa [Nat.add_assoc] at this
  · rename_i e off g o' F hi hv'
    subst hv
    refine OpR.pure hw (u := .pointer (some ⟨g, o' + (off + q.1), none⟩)) ?_ (.ip e _ g o' F hi hv')
    have := (run g (o' + off)).resolve_right (by simp)
    rwa [Nat.add_assoc] at this
end
end Go.Proofs.Ytacocolcighomaa
