/- Each operation that is no call does in memory what it does in the plain model: lengths, parts of slices, comparisons, arithmetic. -/
import Derived.Test.YtngphebjmmencaaDoorSound5
import Derived.Great.FillDense
namespace Go.Proofs.YtngphebjmmencaaDoor
set_option linter.unusedSimpArgs false
set_option linter.unusedVariables false
open Go Go.RowKit

section
variable {P : Program} {m m' : Mm} {h h' : AH} {w w' : World} {t : List AV} {a : Act} {o : Oper}

theorem ba_size (l : List UInt8) : (⟨l.toArray⟩ : ByteArray).size = l.length := by
  show l.toArray.size = _
  simp

theorem op_mm (hw : WR P m h w) (ht : TR P m h t a.tmps) (mx : Bool) (x y : Operand) (c : Call) (ho : o.op = .call c) (hc : c.callee = .builtin (if mx then .max else .min)) (ha : c.args = #[x, y]) {v : AV} (hn : mmA mx (evA t x) (evA t y) = some v) : OpR P m h a w o v h := by
  have vx := evA_sound ht x
  have vy := evA_sound ht y
  revert hn vx vy
  obtain ⟨u, hu⟩ : ∃ u, a.eval x = u := ⟨_, rfl⟩
  obtain ⟨u', hu'⟩ : ∃ u, a.eval y = u := ⟨_, rfl⟩
  rw [hu, hu']
  generalize evA t x = ex
  generalize evA t y = ey
  intro hn vx vy
  unfold mmA at hn
  split at hn
  · injection hn with hn
    subst hn
    cases vx
    cases vy
    obtain ⟨callee, args, argTypes⟩ := c
    simp only at hc ha
    subst hc ha
    cases mx
    · refine OpR.pure hw (u := .int _ _) ?_ (.int _ _)
      simp [execOp, ho, hu, hu', resolve, invoke, builtin, Builtin.min_, Builtin.min2]
    · refine OpR.pure hw (u := .int _ _) ?_ (.int _ _)
      simp [execOp, ho, hu, hu', resolve, invoke, builtin, Builtin.max_, Builtin.max2]
  · cases hn
theorem op_len (hw : WR P m h w) (ht : TR P m h t a.tmps) (x : Operand) (ty : TypeId) (tys : List TypeId) (ho : o.op = .call { callee := .builtin .len, args := #[x], argTypes := (ty :: tys).toArray }) {n : Nat} (hf : fitsT P ty (evA t x) = true) (hn : lenA (evA t x) = some n) :
    OpR P m h a w o (i64 n) h := by
  have hc := evA_sound ht x
  revert hf hn hc
  obtain ⟨u, hu⟩ : ∃ u, a.eval x = u := ⟨_, rfl⟩
  rw [hu]
  generalize evA t x = ex
  intro hf hn hc
  refine OpR.pure hw (u := .int .i64 n) ?_ (.int _ _)
  have pre : (execOp a.eval o).run P w = ((Builtin.len_ (ty :: tys).toArray o.type #[u]).run P w).andThen fun v w' => .ok (.value v) w' := by
    simp [execOp, ho, resolve, invoke, builtin, hu]
  rw [pre]
  cases hc <;> simp [lenA, fitsT] at hf hn
  · subst hn
    unfold isStrT at hf
    split at hf
    · rename_i hd
      simp [Builtin.len_, run_underlying hd, goInt, ba_size]
    · cases hf
  · subst hn
    unfold isSlcT at hf
    obtain ⟨e, he⟩ := Option.isSome_iff_exists.1 hf
    simp [Builtin.len_, run_underlying (elem_run he), goInt]
  all_goals
    subst hn
    simp [Builtin.len_, run_underlying (elem_run hf), goInt]

/-- not both nil of an interface, not both rows -/
def noPair : Value → Value → Bool
  | .nilIface, .nilIface => false
  | .agg _, .agg _ => false
  | _, _ => true
theorem eqGuard_plain (op : BinOp) (ty : TypeId) (x y : Operand) (u v : Value) (hne : noPair u v = true) : (eqGuard op ty x y u v).run P w = .ok () w := by
  cases op <;> first | rfl | (cases u <;> first | rfl | (cases v <;> first | rfl | simp [noPair] at hne))

theorem bin_run (op : BinOp) (ty yt : TypeId) (x y : Operand) (ho : o.op = .binOp op ty x y yt) {u v r : Value} (hu : a.eval x = u) (hv : a.eval y = v) (hne : noPair u v = true)
    (hr : (binOp op ty u v).run P w = .ok r w) : (execOp a.eval o).run P w = .ok (.value r) w := by
  simp only [execOp, ho, hu, hv, Sem.run_bind, eqGuard_plain op ty x y u v hne, Result.andThen_ok, hr, Sem.run_pure]

theorem int_run (op : BinOp) (ty : TypeId) (k k' : IntKind) (x y : Int) {v : AV} (kd : Kd) (hv : binA kd op (.int k x) (.int k' y) = some v) : ∃ r, (binOp op ty (.int k x) (.int k' y)).run P w = .ok r w ∧ VR P m h v r := by
  cases op
  case shl =>
    simp only [binA] at hv
    split at hv
    · cases hv
    · rename_i h0
      injection hv with hv
      subst hv
      exact ⟨_, by simp [binOp, Op.shift, h0], .int _ _⟩
  case shr =>
    simp only [binA] at hv
    split at hv
    · cases hv
    · rename_i h0
      injection hv with hv
      subst hv
      exact ⟨_, by simp [binOp, Op.shift, h0], .int _ _⟩
  case rem =>
    simp only [binA] at hv
    split at hv
    · rename_i hk
      subst hk
      simp only [intA] at hv
      split at hv
      · cases hv
      · rename_i h0
        injection hv with hv
        subst hv
        exact ⟨_, by simp [binOp, Op.intDiv, h0], .int _ _⟩
    · cases hv
  all_goals
    simp only [binA] at hv
    split at hv
    · rename_i hk
      subst hk
      first
      | (simp only [intA] at hv; injection hv with hv; subst hv; first
          | (refine ⟨_, ?_, .int _ _⟩; simp [binOp, Op.intArith]; done)
          | (refine ⟨_, ?_, .int _ _⟩; simp [binOp, Op.intBits]; done)
          | (refine ⟨_, ?_, .bool _⟩; simp [binOp, Op.intCmp]; done))
      | (simp [intA] at hv)
    · cases hv

theorem str_run (op : BinOp) (ty : TypeId) (x y : List UInt8) {v : AV} (kd : Kd) (hv : binA kd op (.str x) (.str y) = some v) : ∃ r, (binOp op ty (.string ⟨x.toArray⟩) (.string ⟨y.toArray⟩)).run P w = .ok r w ∧ VR P m h v r := by
  cases op <;> simp only [binA] at hv <;> try (cases hv; done)
  · split at hv
    · rename_i hle
      injection hv with hv
      subst hv
      refine ⟨.string ⟨(x ++ y).toArray⟩, ?_, .str _⟩
      have h1 : ¬ (IntKind.i64.max < (x.length : Int) + (y.length : Int)) := by
        simp [IntKind.max, IntKind.bits, IntKind.signed]
        omega
      have e : (⟨x.toArray⟩ : ByteArray) ++ ⟨y.toArray⟩ = ⟨(x ++ y).toArray⟩ := by
        apply ByteArray.ext
        simp
      simp [binOp, Op.stringOp, ba_size, h1, e]
      omega
    · cases hv
  · injection hv with hv
    subst hv
    exact ⟨_, by simp [binOp, Op.stringOp, bne], .bool _⟩
  · injection hv with hv
    subst hv
    exact ⟨_, by simp [binOp, Op.stringOp, bne], .bool _⟩

set_option maxHeartbeats 1000000 in
theorem eq_run (ty : TypeId) {x y : AV} {u v : Value} {b : Bool} (hb : eqA (kindA P ty) x y = some b) (hx : VR P m h x u) (hy : VR P m h y v) :
    noPair u v = true ∧ (binOp .eql ty u v).run P w = .ok (.bool b) w ∧ (binOp .neq ty u v).run P w = .ok (.bool !b) w := by
  have hk : (kindA P ty = .bool ∨ kindA P ty = .ptr ∨ kindA P ty = .slice) ∨ (kindA P ty = .func ∨ kindA P ty = .iface) := by
    revert hb
    generalize kindA P ty = kd
    intro hb
    unfold eqA at hb
    split at hb <;> simp_all
  rcases hk with (hk | hk | hk) | (hk | hk)
  all_goals
    have hd := hk
    unfold kindA at hd
    rw [hk] at hb
    split at hd <;> simp at hd
  all_goals
    rename_i hd'
    have fin : ∀ {u v : Value}, noPair u v = true → (∀ d, (Op.equalIn (d + 1) ty u v).run P w = .ok b w) → (∀ op, op = BinOp.eql ∨ op = BinOp.neq → binOp op ty u v = (match op with | .eql => (do pure (.bool (← Op.equal ty u v))) | _ => (do pure (.bool (!(← Op.equal ty u v)))) : Sem Value)) →
        noPair u v = true ∧ (binOp .eql ty u v).run P w = .ok (.bool b) w ∧ (binOp .neq ty u v).run P w = .ok (.bool !b) w := by
      intro u v h1 h2 h3
      have h4 : (Op.equal ty u v).run P w = .ok b w := h2 9999
      refine ⟨h1, ?_, ?_⟩
      · rw [h3 _ (.inl rfl)]
        simp [h4]
      · rw [h3 _ (.inr rfl)]
        simp [h4]
    cases hx <;> simp [eqA] at hb <;> cases hy <;> simp [eqA] at hb <;> (try subst hb) <;> refine fin rfl (fun d => ?_) (fun op ho => by rcases ho with rfl | rfl <;> rfl) <;> simp [Op.equalIn, run_underlying hd']
end
end Go.Proofs.YtngphebjmmencaaDoor
