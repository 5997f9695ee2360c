/- Values in the plain model. -/
import Derived.Test.YtodehiopdkgoeaaDoorHeapV
import Derived.Test.YtodehiopdkgoeaaDoorSlA
import Derived.Test.YtodehiopdkgoeaaDoorValLaw
namespace Go.Proofs.YtodehiopdkgoeaaDoor
set_option linter.unusedSimpArgs false
set_option linter.unusedVariables false
open Go

theorem VaL.len : ∀ {l : List VD} {es : List (List AV)}, VaL l es → es.length = l.length
  | [], es, h => by
    simp only [VaL] at h
    subst h
    rfl
  | x :: l, es, h => by
    simp only [VaL] at h
    obtain ⟨r, rs, rfl, _, h2⟩ := h
    simp [VaL.len h2]
theorem VaL.get : ∀ {l : List VD} {es : List (List AV)} {i : Nat} {x : VD}, VaL l es → l[i]? = some x → ∃ r, es[i]? = some r ∧ VaA x r
  | [], es, i, x, h, hx => by simp at hx
  | y :: l, es, i, x, h, hx => by
    simp only [VaL] at h
    obtain ⟨r, rs, rfl, h1, h2⟩ := h
    cases i with
    | zero =>
      obtain rfl : y = x := by simpa using hx
      exact ⟨r, rfl, h1⟩
    | succ i => simpa using VaL.get h2 (by simpa using hx)
theorem VaL.append {l : List VD} {es : List (List AV)} {x : VD} {r : List AV} (h : VaL l es) (hx : VaA x r) : VaL (l ++ [x]) (es ++ [r]) := by
  induction l generalizing es with
  | nil =>
    simp only [VaL] at h
    subst h
    simp [VaL, hx]
  | cons y l ih =>
    simp only [VaL] at h
    obtain ⟨q, rs, rfl, h1, h2⟩ := h
    exact ⟨q, rs ++ [r], rfl, h1, ih h2⟩
theorem VaA.row {x : VD} {r : List AV} (h : VaA x r) : ∃ v es, r = [.int .i64 x.kind, .int .i64 x.n, v] ∧ SlA tV v es ∧ VaL x.l es := by
  cases x with
  | mk kind n l => simp only [VaA] at h; exact h
theorem VaA.one {x : VD} {r : List AV} (h : VaA x r) : r.all AV.one = true ∧ r.length = 3 := by
  obtain ⟨v, es, rfl, hv, _⟩ := h.row
  rcases hv with ⟨_, rfl⟩ | ⟨id, rfl⟩ <;> exact ⟨rfl, rfl⟩
mutual
/-- .. and it is one still when it is forgotten where it came from -/
theorem va_wk : ∀ {x : VD} {r : List AV}, VaA x r → ∃ r', wkL r = some r' ∧ VaA x r'
  | .mk kind n l, r, h => by
    simp only [VaA] at h
    obtain ⟨v, es, rfl, hv, hl⟩ := h
    obtain ⟨es', h1, h2⟩ := vas_wk hl
    rcases hv with ⟨rfl, rfl⟩ | ⟨id, rfl⟩
    · exact ⟨_, rfl, by simp only [VaA]; exact ⟨_, [], rfl, .inl ⟨rfl, rfl⟩, hl⟩⟩
    · refine ⟨[.int .i64 kind, .int .i64 n, .isl none tV es'], ?_, ?_⟩
      · simp only [wkL, wkA, h1, Option.map_some]
      · simp only [VaA]
        exact ⟨_, es', rfl, .inr ⟨_, rfl⟩, h2⟩
theorem vas_wk : ∀ {l : List VD} {es : List (List AV)}, VaL l es → ∃ es', wkR es = some es' ∧ VaL l es'
  | [], es, h => by
    simp only [VaL] at h
    subst h
    exact ⟨[], rfl, rfl⟩
  | x :: l, es, h => by
    simp only [VaL] at h
    obtain ⟨r, rs, rfl, h1, h2⟩ := h
    obtain ⟨r', q1, q2⟩ := va_wk h1
    obtain ⟨rs', q3, q4⟩ := vas_wk h2
    exact ⟨r' :: rs', by simp only [wkR, q1, q3], by simp only [VaL]; exact ⟨r', rs', rfl, q2, q4⟩⟩
end
/-- a slice of values that a walk reads -/
structure ValV (h : AH) (v : AV) (l : List VD) : Prop where
  len : lenA v = some l.length
  fits : ∀ s, fitsR s (some tV) v = true
  one : v.one = true
  ix : ∀ (i : Nat) (y : VD), l[i]? = some y → ∃ a q, ixaR (some tV) none v (.int .i64 (i : Int)) = some a ∧ (∀ h', GrewA h h' → loadA true 3 h' a = some (.agg q)) ∧ VaA y q
theorem ValV.grew {h h' : AH} {v : AV} {l : List VD} (m : ValV h v l) (g : GrewA h h') : ValV h' v l :=
  ⟨m.len, m.fits, m.one, fun i y hy => by
    obtain ⟨a, q, h1, h2, h3⟩ := m.ix i y hy
    exact ⟨a, q, h1, fun h'' g' => h2 h'' (g.trans g'), h3⟩⟩
theorem ValV.of {h : AH} {v : AV} {es : List (List AV)} {l : List VD} (hv : SlA tV v es) (hl : VaL l es) : ValV h v l := by
  refine ⟨?_, hv.isL.fits, ?_, fun i y hy => ?_⟩
  · rw [← hl.len]; exact hv.isL.len
  · rcases hv with ⟨_, rfl⟩ | ⟨id, rfl⟩ <;> rfl
  · obtain ⟨q, h1, h2⟩ := hl.get hy
    exact ⟨.ip q 0, q, hv.isL.ix .i64 i q h1, fun h' _ => ld_all h2.one.2, h2⟩
theorem VaA.mk {x : VD} {v : AV} {es : List (List AV)} (hv : SlA tV v es) (hl : VaL x.l es) : VaA x [.int .i64 x.kind, .int .i64 x.n, v] := by
  rw [x.eta]
  simp only [VaA]
  exact ⟨v, es, rfl, hv, by simpa [VD.l] using hl⟩

theorem VaA.facts {x : VD} {r : List AV} (h : VaA x r) : ∃ v es, r = [.int .i64 x.kind, .int .i64 x.n, v] ∧ IsL tV v es ∧ v.one = true ∧ es.length = x.l.length ∧
    ∀ (i : Nat) (y : VD), x.l[i]? = some y → ∃ q, ixaR (some tV) none v (.int .i64 (i : Int)) = some (.ip q 0) ∧ ldA true 3 q 0 = some (.agg q) ∧ VaA y q := by
  obtain ⟨v, es, rfl, hv, hl⟩ := h.row
  refine ⟨v, es, rfl, hv.isL, ?_, hl.len, fun i y hy => ?_⟩
  · rcases hv with ⟨_, rfl⟩ | ⟨id, rfl⟩ <;> rfl
  · obtain ⟨q, h1, h2⟩ := hl.get hy
    exact ⟨q, hv.isL.ix .i64 i q h1, ld_all h2.one.2, h2⟩

theorem valTs : fieldTs Tryd.prog tV = some [3, 2, 22] := by kernel_rfl
theorem intTv : (Tryd.prog).underlying 3 = some (.int .i64) := by kernel_rfl
theorem int64Tv : (Tryd.prog).underlying 2 = some (.int .i64) := by kernel_rfl
theorem valsTv : (Tryd.prog).underlying 22 = some (.slice tV) := by kernel_rfl
mutual
/-- all numbers in it are of 64 bits -/
def VD.wf : VD → Prop
  | .mk kind n l => isI64 kind ∧ isI64 n ∧ wfVs l
def wfVs : List VD → Prop
  | [] => True
  | x :: l => x.wf ∧ wfVs l
end
theorem wf_of {z : Int} (w : (Lit.int .i64 z).wf = true) : isI64 z := by simpa [isI64, Lit.wf, IntKind.min, IntKind.max, IntKind.signed, IntKind.bits] using w
theorem va_of : ∀ (n : Nat) (r : List AV), TyA Tryd.prog n tV r → ∃ x : VD, VaA x r ∧ x.wf := by
  intro n
  induction n using Nat.strongRecOn with
  | ind n ih =>
    intro r h
    obtain ⟨m, rfl, parts, rfl, hl, hf⟩ := ty_struct valTs h
    obtain ⟨p0, a0, _, b0⟩ := hf 0 _ rfl
    obtain ⟨p1, a1, _, b1⟩ := hf 1 _ rfl
    obtain ⟨p2, a2, _, b2⟩ := hf 2 _ rfl
    obtain ⟨k, rfl, w0⟩ := ty_int intTv b0
    obtain ⟨z, rfl, w1⟩ := ty_int int64Tv b1
    obtain ⟨m', v, es, rfl, rfl, hv, _, hr⟩ := ty_slc valsTv b2
    obtain ⟨c0, c1, c2, rfl⟩ := list3 hl
    simp only [List.getElem?_cons_zero, List.getElem?_cons_succ, Option.some.injEq] at a0 a1 a2
    subst a0 a1 a2
    have key : ∀ es : List (List AV), (∀ r ∈ es, ∃ x : VD, VaA x r ∧ x.wf) → ∃ l, VaL l es ∧ wfVs l := by
      intro es
      induction es with
      | nil => intro _; exact ⟨[], rfl, trivial⟩
      | cons r es ih2 =>
        intro hh
        obtain ⟨x, hx, hw⟩ := hh r (by simp)
        obtain ⟨l, hl, hw2⟩ := ih2 fun q hq => hh q (by simp [hq])
        exact ⟨x :: l, by simp only [VaL]; exact ⟨r, es, rfl, hx, hl⟩, hw, hw2⟩
    obtain ⟨l, hl, hw⟩ := key es fun r hr' => ih m' (by omega) r (hr r hr').2
    exact ⟨.mk k z l, by simp only [VaA]; exact ⟨v, es, rfl, hv.sla, hl⟩, wf_of w0, wf_of w1, hw⟩
theorem great_size {x : VD} (h : x.great = false) : x.size ≤ 500 := by
  unfold VD.great at h
  have := of_decide_eq_false h
  omega
/-- the types of a value's parts -/
def valTS : List TypeId := [3, 2, 24, 22]
theorem valTS_ok : closedT Tryd.prog valTS = true := by kernel_rfl
end Go.Proofs.YtodehiopdkgoeaaDoor
