/- Every operation that is no call does in memory what it does in the plain model. -/
import Derived.Test.YtacocolcighomaaSound10
namespace Go.Proofs.Ytacocolcighomaa
set_option linter.unusedSimpArgs false
set_option linter.unusedVariables false
open Go Go.RowKit

section
variable {P : Program} {m m' : Mm} {h h' : AH} {w w' : World} {t : List AV} {a : Act} {o : Oper}

theorem pureOp_sound (hT : TyOK P) (hw : WR P m h w) (ht : TR P m h t a.tmps) {v : AV} (he : pureOp P t o = some v) : OpR P m h a w o v h := by
  unfold pureOp at he
  split at he
  · rename_i x ho
    injection he with h1
    subst h1
    exact op_move hw ht x (.inl ho)
  · rename_i x ho
    injection he with h1
    subst h1
    exact op_move hw ht x (.inr ho)
  · rename_i c x y ho
    split at he
    · rename_i b hb
      injection he with h1
      subst h1
      exact op_pick hw ht c x y ho hb
    · cases he
  · rename_i ty parts ho
    obtain ⟨z, hz, he⟩ := Option.bind_eq_some_iff.1 he
    split at he
    · rename_i pl hpl
      split at he
      · rename_i hall
        obtain ⟨cs, hcs, h1⟩ := Option.map_eq_some_iff.1 he
        subst h1
        exact op_build hT hw ht ty parts ho hz (.inl ⟨pl, hpl, by simpa using hall, hcs⟩)
      · cases he
    · obtain ⟨q, hq, he⟩ := Option.bind_eq_some_iff.1 he
      split at he
      · cases he
      · rename_i hnz
        obtain ⟨cs, hcs, h1⟩ := Option.map_eq_some_iff.1 he
        subst h1
        exact op_build hT hw ht ty parts ho hz (.inr ⟨q.1, q.2, hq, hnz, hcs⟩)
  · rename_i x ho
    split at he <;> first | (cases he; done) | skip
    all_goals
      rename_i hx
      injection he with h1
      subst h1
      exact op_nilCheck hw ht x ho hx rfl
  · rename_i op ty x y yt ho
    have hx := evA_sound ht x
    have hy := evA_sound ht y
    split at he
    · rename_i ex ey
      rw [ex] at hx
      rw [ey] at hy
      obtain ⟨u1, hu1⟩ : ∃ u, a.eval x = u := ⟨_, rfl⟩
      obtain ⟨u2, hu2⟩ : ∃ u, a.eval y = u := ⟨_, rfl⟩
      rw [hu1] at hx
      rw [hu2] at hy
      cases hx
      cases hy
      have key : ∀ c, y = .const c → kindA P ty = .iface → ∀ b, (op = .eql ∧ b = true) ∨ (op = .neq ∧ b = false) → (execOp a.eval o).run P w = .ok (.value (.bool b)) w := by
        intro c hyc hk b hop
        subst hyc
        have hd := hk
        unfold kindA at hd
        split at hd <;> simp at hd
        rename_i ms hun
        have heq : (Op.equal ty .nilIface .nilIface).run P w = .ok true w := by
          have h0 : ∀ d, (Op.equalIn (d + 1) ty .nilIface .nilIface).run P w = .ok true w := fun d => by simp [Op.equalIn, run_underlying hun]
          exact h0 9999
        have hg : (eqGuard op ty x (.const c) .nilIface .nilIface).run P w = .ok () w := by
          rcases hop with ⟨rfl, _⟩ | ⟨rfl, _⟩ <;> cases x <;> rfl
        rcases hop with ⟨rfl, rfl⟩ | ⟨rfl, rfl⟩
        · have e1 : binOp .eql ty .nilIface .nilIface = (do pure (.bool (← Op.equal ty .nilIface .nilIface)) : Sem Value) := rfl
          simp only [execOp, ho, hu1, hu2, Sem.run_bind, hg, Result.andThen_ok, e1, heq, Sem.run_pure]
        · have e1 : binOp .neq ty .nilIface .nilIface = (do pure (.bool (!(← Op.equal ty .nilIface .nilIface))) : Sem Value) := rfl
          simp only [execOp, ho, hu1, hu2, Sem.run_bind, hg, Result.andThen_ok, e1, heq, Sem.run_pure]
          rfl
      split at he
      · rename_i c hk
        injection he with h1
        subst h1
        exact OpR.pure hw (key _ rfl hk true (.inl ⟨rfl, rfl⟩)) (.bool _)
      · rename_i c hk
        injection he with h1
        subst h1
        exact OpR.pure hw (key _ rfl hk false (.inr ⟨rfl, rfl⟩)) (.bool _)
      · cases he
    · rename_i xs ys ex ey
      obtain ⟨ks, hks, he⟩ := Option.bind_eq_some_iff.1 he
      split at he
      · obtain ⟨b, hb, h1⟩ := Option.map_eq_some_iff.1 he
        subst h1
        exact op_eqAgg hw ht _ ty yt x y ho ex ey hks hb (.inl ⟨rfl, rfl⟩)
      · obtain ⟨b, hb, h1⟩ := Option.map_eq_some_iff.1 he
        subst h1
        exact op_eqAgg hw ht _ ty yt x y ho ex ey hks hb (.inr ⟨rfl, rfl⟩)
      · cases he
    · rename_i hno1 hno2
      have hr := he
      clear he
      obtain ⟨u1, hu1⟩ : ∃ u, a.eval x = u := ⟨_, rfl⟩
      obtain ⟨u2, hu2⟩ : ∃ u, a.eval y = u := ⟨_, rfl⟩
      rw [hu1] at hx
      rw [hu2] at hy
      generalize evA t x = ex at *
      generalize evA t y = ey at *
      unfold binA at hr
      split at hr
      · rename_i k a' k' b'
        cases hx
        cases hy
        obtain ⟨u, r1, r2⟩ := int_run (P := P) (m := m) (h := h) (w := w) op ty k k' a' b' (kindA P ty) hr
        exact OpR.pure hw (bin_run op ty yt x y ho hu1 hu2 rfl r1) r2
      · rename_i a' b'
        cases hx
        cases hy
        obtain ⟨u, r1, r2⟩ := str_run (P := P) (m := m) (h := h) (w := w) op ty a' b' (kindA P ty) hr
        exact OpR.pure hw (bin_run op ty yt x y ho hu1 hu2 rfl r1) r2
      · split at hr
        · obtain ⟨b, hb, hr⟩ := Option.map_eq_some_iff.1 hr
          subst hr
          obtain ⟨e1, e2, e3⟩ := eq_run (w := w) ty hb hx hy
          exact OpR.pure hw (bin_run _ ty yt x y ho hu1 hu2 e1 e2) (.bool _)
        · obtain ⟨b, hb, hr⟩ := Option.map_eq_some_iff.1 hr
          subst hr
          obtain ⟨e1, e2, e3⟩ := eq_run (w := w) ty hb hx hy
          exact OpR.pure hw (bin_run _ ty yt x y ho hu1 hu2 e1 e3) (.bool _)
        · cases hr
  · rename_i op ty x ho
    have hu := he
    exact op_unOp hw ht op ty x ho hu
  · rename_i src dst x ho
    split at he
    · cases he
    · rename_i hn
      have hu := he
      exact op_convert hw ht src dst x ho (by cases hs : P.underlying src <;> simp_all) hu
  · rename_i ty x ho
    split at he
    · cases he
    · rename_i hp
      have hp' : plainT P ty = true := by simpa using hp
      split at he
      · injection he with h1
        subst h1
        exact op_makeInterface hw ht ty x ho hp'
      · split at he
        · rename_i cs hcs
          injection he with h1
          subst h1
          rw [← hcs]
          exact op_makeInterface hw ht ty x ho hp'
        · cases he
  · rename_i f first captured ho
    split at he
    · rename_i g
      injection he with h1
      subst h1
      exact op_makeFunc hw ht g first captured ho
    · cases he
  · rename_i ty x lo hi mx ho
    split at he
    · cases he
    · rename_i hcond
      have hu := he
      simp only [Bool.or_eq_true, Bool.not_eq_true', not_or, Bool.not_eq_true, Bool.not_eq_false] at hcond
      obtain ⟨c1, c2⟩ := hcond
      cases mx with
      | some mx => simp at c1
      | none => exact op_slice hT hw ht ty x lo hi ho c2 hu
  · rename_i s x f ho
    obtain ⟨q, hq, he⟩ := Option.bind_eq_some_iff.1 he
    split at he
    · cases he
    · rename_i hnz
      have hu := he
      exact op_fieldAddr hw ht s x f ho hq hnz hu
  · rename_i s x f ho
    obtain ⟨q, hq, he⟩ := Option.bind_eq_some_iff.1 he
    split at he
    · rename_i cs hcs
      split at he
      · cases he
      · rename_i hcond
        have hu := he
        exact op_field hw ht s x f ho hq (fun h => hcond (.inl h)) (by
          intro hn
          exact hcond (.inr (by simp [hn]))) hcs hu
    · cases he
  · rename_i ty x ix ho
    have hu := he
    exact op_indexAddr hT hw ht ty x ix ho hu
  · rename_i ty x ix ho
    have hu := he
    exact op_index hw ht ty x ix ho hu
  · rename_i x xt as ok ho
    split at he
    · rename_i q v' hx
      split at he
      · rename_i hc
        obtain ⟨c1, c2⟩ := hc
        subst c2
        injection he with h1
        subst h1
        exact op_typeAssert hw ht x xt q ok ho hx c1
      · cases he
    · cases he
  · rename_i x i ho
    split at he
    · rename_i vs hx
      have hu := he
      exact op_extract hw ht x i ho hx hu
    · cases he
  · rename_i args argTypes ho
    have eA : ∀ (l : List Operand), args.toList = l → args = l.toArray := fun l hl => by rw [← hl]
    have eT : ∀ (l : List TypeId), argTypes.toList = l → argTypes = l.toArray := fun l hl => by rw [← hl]
    split at he
    · rename_i x ty tys ha hty
      obtain rfl := eA _ ha
      obtain rfl := eT _ hty
      split at he
      · rename_i hf
        obtain ⟨n, hn, h1⟩ := Option.map_eq_some_iff.1 he
        subst h1
        exact op_len hw ht x ty tys ho hf hn
      · cases he
    · cases he
  · cases he

theorem evalOp_sound (hT : TyOK P) (hw : WR P m h w) (ht : TR P m h t a.tmps) (mu : TypeId → Bool) {v : AV} (he : evalOp P mu t h o = some (v, h')) : OpR P m h a w o v h' := by
  unfold evalOp at he
  split at he
  · rename_i e ho
    obtain ⟨z, hz, he⟩ := Option.map_eq_some_iff.1 he
    injection he with h1 h2
    subst h1; subst h2
    exact op_alloc hT hw e ho hz
  · rename_i e x ho
    split at he
    · rename_i hc
      injection he with he
      injection he with h1 h2
      subst h1; subst h2
      exact op_box hw ht e x ho hc.1 hc.2
    · cases he
  · rename_i ty len parts ho
    obtain ⟨e, he1, he⟩ := Option.bind_eq_some_iff.1 he
    obtain ⟨z, hz, he⟩ := Option.bind_eq_some_iff.1 he
    split at he
    · rename_i hc
      obtain ⟨es, hes, he⟩ := Option.map_eq_some_iff.1 he
      have := op_buildSlice hT hw ht ty len parts ho he1 hz hes hc
      split at he
      · injection he with h1 h2
        subst h1; subst h2
        exact this.1
      · injection he with h1 h2
        subst h1; subst h2
        exact this.2
    · cases he
  · rename_i ty x ho
    split at he
    · cases he
    · rename_i hn
      obtain ⟨u, hu, he⟩ := Option.map_eq_some_iff.1 he
      injection he with h1 h2
      subst h1; subst h2
      obtain ⟨d, hd⟩ := Option.isSome_iff_exists.1 (by cases hu2 : P.underlying ty <;> simp_all : (P.underlying ty).isSome = true)
      obtain ⟨i, hi⟩ := under_info hd
      exact op_load hw ht ty x ho hd (by rw [hi]; simp) hu
  · rename_i ty x y ho
    split at he
    · cases he
    · rename_i hn
      obtain ⟨h2, hst, he⟩ := Option.map_eq_some_iff.1 he
      injection he with e1 e2
      subst e1; subst e2
      obtain ⟨i, hi, _⟩ := size_info hn
      exact op_store hw ht ty x y ho (by rw [hi]; simp) hst
  · rename_i ty l c ho
    split at he
    · rename_i k1 n k2 n2 hl hc
      obtain ⟨e, he1, he⟩ := Option.bind_eq_some_iff.1 he
      obtain ⟨z, hz, he⟩ := Option.bind_eq_some_iff.1 he
      split at he
      · rename_i hcond
        obtain ⟨c1, c2, c3⟩ := hcond
        have hc' : evA t c = .int k2 n := by rw [hc, ← c2]
        injection he with he
        injection he with h1 h2
        subst h1; subst h2
        exact op_makeSlice hT hw ht ty l c ho he1 hz hl hc' c1 c3
      · cases he
    · cases he
  · rename_i args argTypes ho
    have eA : ∀ (l : List Operand), args.toList = l → args = l.toArray := fun l hl => by rw [← hl]
    have eT : ∀ (l : List TypeId), argTypes.toList = l → argTypes = l.toArray := fun l hl => by rw [← hl]
    split at he
    · rename_i x y ty ty' ha hty
      obtain rfl := eA _ ha
      obtain rfl := eT _ hty
      split at he
      · rename_i hte
        subst hte
        obtain ⟨e, he1, he⟩ := Option.bind_eq_some_iff.1 he
        split at he
        · rename_i hz
          exact op_append hT hw ht ty x y ho he1 hz (mu ty) he
        · cases he
      · cases he
    · cases he
  · obtain ⟨u, hu, he⟩ := Option.map_eq_some_iff.1 he
    injection he with h1 h2
    subst h1; subst h2
    exact pureOp_sound hT hw ht hu
end
end Go.Proofs.Ytacocolcighomaa
