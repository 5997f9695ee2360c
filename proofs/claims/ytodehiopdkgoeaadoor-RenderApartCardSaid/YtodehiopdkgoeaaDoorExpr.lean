/- Expressions in the plain model. -/
import Derived.Test.YtodehiopdkgoeaaDoorSlA
import Derived.Test.YtodehiopdkgoeaaDoorCodeLaw
namespace Go.Proofs.YtodehiopdkgoeaaDoor
set_option linter.unusedSimpArgs false
set_option linter.unusedVariables false
open Go

abbrev tE : TypeId := 62
mutual
def ExA : XD → List AV → Prop
  | .mk op k n l, r => ∃ v es, r = [.int .i64 op, .int .i64 k, .int .i64 n, v] ∧ SlA tE v es ∧ ExL l es
def ExL : List XD → List (List AV) → Prop
  | [], es => es = []
  | x :: l, es => ∃ r rs, es = r :: rs ∧ ExA x r ∧ ExL l rs
end
theorem ExL.len : ∀ {l : List XD} {es : List (List AV)}, ExL l es → es.length = l.length
  | [], es, h => by
    simp only [ExL] at h
    subst h
    rfl
  | x :: l, es, h => by
    simp only [ExL] at h
    obtain ⟨r, rs, rfl, _, h2⟩ := h
    simp [ExL.len h2]
theorem ExL.get : ∀ {l : List XD} {es : List (List AV)} {i : Nat} {x : XD}, ExL l es → l[i]? = some x → ∃ r, es[i]? = some r ∧ ExA x r
  | [], es, i, x, h, hx => by simp at hx
  | y :: l, es, i, x, h, hx => by
    simp only [ExL] at h
    obtain ⟨r, rs, rfl, h1, h2⟩ := h
    cases i with
    | zero =>
      obtain rfl : y = x := by simpa using hx
      exact ⟨r, rfl, h1⟩
    | succ i => simpa using ExL.get h2 (by simpa using hx)
theorem ExL.mk : ∀ {l : List XD} {es : List (List AV)}, es.length = l.length → (∀ (i : Nat) (x : XD) (r : List AV), l[i]? = some x → es[i]? = some r → ExA x r) → ExL l es
  | [], es, h, _ => by simp only [ExL]; exact List.length_eq_zero_iff.1 (by simpa using h)
  | x :: l, [], h, _ => by simp at h
  | x :: l, r :: rs, h, hx => by
    simp only [ExL]
    exact ⟨r, rs, rfl, hx 0 x r rfl rfl, ExL.mk (by simpa using h) fun i y q h1 h2 => hx (i + 1) y q (by simpa using h1) (by simpa using h2)⟩
theorem ExL.append {l : List XD} {es : List (List AV)} {x : XD} {r : List AV} (h : ExL l es) (hx : ExA x r) : ExL (l ++ [x]) (es ++ [r]) := by
  induction l generalizing es with
  | nil =>
    simp only [ExL] at h
    subst h
    simp [ExL, hx]
  | cons y l ih =>
    simp only [ExL] at h
    obtain ⟨q, rs, rfl, h1, h2⟩ := h
    exact ⟨q, rs ++ [r], rfl, h1, ih h2⟩
theorem ExA.row {x : XD} {r : List AV} (h : ExA x r) : ∃ v es, r = [.int .i64 x.op, .int .i64 x.k, .int .i64 x.n, v] ∧ SlA tE v es ∧ ExL x.l es := by
  cases x with
  | mk op k n l => simp only [ExA] at h; exact h
theorem ExA.one {x : XD} {r : List AV} (h : ExA x r) : r.all AV.one = true ∧ r.length = 4 := by
  obtain ⟨v, es, rfl, hv, _⟩ := h.row
  rcases hv with ⟨_, rfl⟩ | ⟨id, rfl⟩ <;> exact ⟨rfl, rfl⟩

/-- what a walk asks of an expression's cells -/
theorem ExA.facts {x : XD} {r : List AV} (h : ExA x r) : ∃ v es, r = [.int .i64 x.op, .int .i64 x.k, .int .i64 x.n, v] ∧ IsL tE v es ∧ v.one = true ∧ es.length = x.l.length ∧
    ∀ (i : Nat) (y : XD), x.l[i]? = some y → ∃ q, ixaR (some tE) none v (.int .i64 (i : Int)) = some (.ip q 0) ∧ ldA true 4 q 0 = some (.agg q) ∧ ExA y q := by
  obtain ⟨v, es, rfl, hv, hl⟩ := h.row
  refine ⟨v, es, rfl, hv.isL, ?_, hl.len, fun i y hy => ?_⟩
  · rcases hv with ⟨_, rfl⟩ | ⟨id, rfl⟩ <;> rfl
  · obtain ⟨q, h1, h2⟩ := hl.get hy
    exact ⟨q, hv.isL.ix .i64 i q h1, ld_all h2.one.2, h2⟩

mutual
/-- .. and it is one still when it is forgotten where it came from -/
theorem ex_wk : ∀ {x : XD} {r : List AV}, ExA x r → ∃ r', wkL r = some r' ∧ ExA x r'
  | .mk op k n l, r, h => by
    simp only [ExA] at h
    obtain ⟨v, es, rfl, hv, hl⟩ := h
    obtain ⟨es', h1, h2⟩ := exs_wk hl
    rcases hv with ⟨rfl, rfl⟩ | ⟨id, rfl⟩
    · exact ⟨_, rfl, by simp only [ExA]; exact ⟨_, [], rfl, .inl ⟨rfl, rfl⟩, hl⟩⟩
    · refine ⟨[.int .i64 op, .int .i64 k, .int .i64 n, .isl none tE es'], ?_, ?_⟩
      · simp only [wkL, wkA, h1, Option.map_some]
      · simp only [ExA]
        exact ⟨_, es', rfl, .inr ⟨_, rfl⟩, h2⟩
theorem exs_wk : ∀ {l : List XD} {es : List (List AV)}, ExL l es → ∃ es', wkR es = some es' ∧ ExL l es'
  | [], es, h => by
    simp only [ExL] at h
    subst h
    exact ⟨[], rfl, rfl⟩
  | x :: l, es, h => by
    simp only [ExL] at h
    obtain ⟨r, rs, rfl, h1, h2⟩ := h
    obtain ⟨r', q1, q2⟩ := ex_wk h1
    obtain ⟨rs', q3, q4⟩ := exs_wk h2
    exact ⟨r' :: rs', by simp only [wkR, q1, q3], by simp only [ExL]; exact ⟨r', rs', rfl, q2, q4⟩⟩
end

theorem exprTs : fieldTs Tryd.prog tE = some [3, 3, 2, 34] := by kernel_rfl
theorem intT : (Tryd.prog).underlying 3 = some (.int .i64) := by kernel_rfl
theorem int64T : (Tryd.prog).underlying 2 = some (.int .i64) := by kernel_rfl
theorem exprsT : (Tryd.prog).underlying 34 = some (.slice tE) := by kernel_rfl
theorem ex_of : ∀ (n : Nat) (r : List AV), TyA Tryd.prog n tE r → ∃ x, ExA x r := by
  intro n
  induction n using Nat.strongRecOn with
  | ind n ih =>
    intro r h
    obtain ⟨m, rfl, parts, rfl, hl, hf⟩ := ty_struct exprTs h
    obtain ⟨p0, a0, _, b0⟩ := hf 0 _ rfl
    obtain ⟨p1, a1, _, b1⟩ := hf 1 _ rfl
    obtain ⟨p2, a2, _, b2⟩ := hf 2 _ rfl
    obtain ⟨p3, a3, _, b3⟩ := hf 3 _ rfl
    obtain ⟨op, rfl, _⟩ := ty_int intT b0
    obtain ⟨k, rfl, _⟩ := ty_int intT b1
    obtain ⟨z, rfl, _⟩ := ty_int int64T b2
    obtain ⟨m', v, es, rfl, rfl, hv, _, hr⟩ := ty_slc exprsT b3
    obtain ⟨c0, c1, c2, c3, rfl⟩ := list4 hl
    simp only [List.getElem?_cons_zero, List.getElem?_cons_succ, Option.some.injEq] at a0 a1 a2 a3
    subst a0 a1 a2 a3
    have key : ∀ es : List (List AV), (∀ r ∈ es, ∃ x, ExA x r) → ∃ l, ExL l es := by
      intro es
      induction es with
      | nil => intro _; exact ⟨[], rfl⟩
      | cons r es ih2 =>
        intro hh
        obtain ⟨x, hx⟩ := hh r (by simp)
        obtain ⟨l, hl⟩ := ih2 fun q hq => hh q (by simp [hq])
        exact ⟨x :: l, by simp only [ExL]; exact ⟨r, es, rfl, hx, hl⟩⟩
    obtain ⟨l, hl⟩ := key es fun r hr' => ih m' (by omega) r (hr r hr').2
    exact ⟨.mk op k z l, by simp only [ExA]; exact ⟨v, es, rfl, hv.sla, hl⟩⟩

/-- a module, as cells: its functions -/
def ModA (l : List XD) (r : List AV) : Prop := ∃ v es, r = [v] ∧ SlA tE v es ∧ ExL l es
theorem modTs : fieldTs Tryd.prog 36 = some [34] := by kernel_rfl
theorem mod_of {n : Nat} {r : List AV} (h : TyA Tryd.prog n 36 r) : ∃ l, ModA l r := by
  obtain ⟨m, rfl, parts, rfl, hl, hf⟩ := ty_struct modTs h
  obtain ⟨p0, a0, _, b0⟩ := hf 0 _ rfl
  obtain ⟨m', v, es, rfl, rfl, hv, _, hr⟩ := ty_slc exprsT b0
  obtain ⟨c0, rfl⟩ := list1 hl
  simp only [List.getElem?_cons_zero, Option.some.injEq] at a0
  subst a0
  have key : ∀ es : List (List AV), (∀ r ∈ es, ∃ x, ExA x r) → ∃ l, ExL l es := by
    intro es
    induction es with
    | nil => intro _; exact ⟨[], rfl⟩
    | cons r es ih2 =>
      intro hh
      obtain ⟨x, hx⟩ := hh r (by simp)
      obtain ⟨l, hl⟩ := ih2 fun q hq => hh q (by simp [hq])
      exact ⟨x :: l, by simp only [ExL]; exact ⟨r, es, rfl, hx, hl⟩⟩
  obtain ⟨l, hl⟩ := key es fun r hr' => ex_of m' r (hr r hr').2
  exact ⟨l, v, es, rfl, hv.sla, hl⟩
/-- the types of a module's parts -/
def modS : List TypeId := [3, 2, 62, 34, 36]
theorem modS_ok : closedT Tryd.prog modS = true := by kernel_rfl
end Go.Proofs.YtodehiopdkgoeaaDoor
