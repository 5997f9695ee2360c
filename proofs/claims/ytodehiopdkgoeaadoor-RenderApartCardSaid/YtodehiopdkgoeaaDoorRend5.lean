/- render: the laws' walks. -/
import Derived.Test.YtodehiopdkgoeaaDoorRend4
import Derived.Test.YtodehiopdkgoeaaDoorLaid
namespace Go.Proofs.YtodehiopdkgoeaaDoor
set_option linter.unusedSimpArgs false
set_option linter.unusedVariables false
open Go Go.RowKit

theorem wf64 {z : Int} (w : (Lit.int .i64 z).wf = true) : isI64 z := by simpa [isI64, Lit.wf, IntKind.min, IntKind.max, IntKind.signed, IntKind.bits] using w
theorem exw_of : ∀ (n : Nat) (r : List AV), TyA Tryd.prog n tE r → ∃ x : XD, ExA x r ∧ x.wf := by
  intro n
  induction n using Nat.strongRecOn with
  | ind n ih =>
    intro r h
    obtain ⟨m, rfl, parts, rfl, hl, hf⟩ := ty_struct exprTs h
    obtain ⟨p0, a0, _, b0⟩ := hf 0 _ rfl
    obtain ⟨p1, a1, _, b1⟩ := hf 1 _ rfl
    obtain ⟨p2, a2, _, b2⟩ := hf 2 _ rfl
    obtain ⟨p3, a3, _, b3⟩ := hf 3 _ rfl
    obtain ⟨op, rfl, w0⟩ := ty_int intT b0
    obtain ⟨k, rfl, w1⟩ := ty_int intT b1
    obtain ⟨z, rfl, w2⟩ := ty_int int64T b2
    obtain ⟨m', v, es, rfl, rfl, hv, _, hr⟩ := ty_slc exprsT b3
    obtain ⟨c0, c1, c2, c3, rfl⟩ := list4 hl
    simp only [List.getElem?_cons_zero, List.getElem?_cons_succ, Option.some.injEq] at a0 a1 a2 a3
    subst a0 a1 a2 a3
    have key : ∀ es : List (List AV), (∀ r ∈ es, ∃ x : XD, ExA x r ∧ x.wf) → ∃ l, ExL l es ∧ wfXs l := by
      intro es
      induction es with
      | nil => intro _; exact ⟨[], rfl, trivial⟩
      | cons r es ih2 =>
        intro hh
        obtain ⟨x, hx, hw⟩ := hh r (by simp)
        obtain ⟨l, hl, hw2⟩ := ih2 fun q hq => hh q (by simp [hq])
        exact ⟨x :: l, by simp only [ExL]; exact ⟨r, es, rfl, hx, hl⟩, hw, hw2⟩
    obtain ⟨l, hl, hw⟩ := key es fun r hr' => ih m' (by omega) r (hr r hr').2
    exact ⟨.mk op k z l, by simp only [ExA]; exact ⟨v, es, rfl, hv.sla, hl⟩, wf64 w0, wf64 w1, wf64 w2, hw⟩
theorem modw_of {n : Nat} {r : List AV} (h : TyA Tryd.prog n 36 r) : ∃ v l, r = [v] ∧ (∀ h, ModV h v l) ∧ ∀ x ∈ l, x.wf := by
  obtain ⟨m, rfl, parts, rfl, hl, hf⟩ := ty_struct modTs h
  obtain ⟨p0, a0, _, b0⟩ := hf 0 _ rfl
  obtain ⟨m', v, es, rfl, rfl, hv, _, hr⟩ := ty_slc exprsT b0
  obtain ⟨c0, rfl⟩ := list1 hl
  simp only [List.getElem?_cons_zero, Option.some.injEq] at a0
  subst a0
  have key : ∀ es : List (List AV), (∀ r ∈ es, ∃ x : XD, ExA x r ∧ x.wf) → ∃ l, ExL l es ∧ ∀ x ∈ l, x.wf := by
    intro es
    induction es with
    | nil => intro _; exact ⟨[], rfl, fun x hx => by cases hx⟩
    | cons r es ih2 =>
      intro hh
      obtain ⟨x, hx, hw⟩ := hh r (by simp)
      obtain ⟨l, hl, hw2⟩ := ih2 fun q hq => hh q (by simp [hq])
      refine ⟨x :: l, by simp only [ExL]; exact ⟨r, es, rfl, hx, hl⟩, fun y hy => ?_⟩
      rcases List.mem_cons.1 hy with rfl | hy
      · exact hw
      · exact hw2 y hy
  obtain ⟨l, hl, hw⟩ := key es fun r hr' => exw_of m' r (hr r hr').2
  exact ⟨v, l, rfl, fun h => ModV.of hv.sla hl, hw⟩
theorem renderPrints_walk {n0 : Nat} {r0 : List AV} {x0 : Value} (W : World) (t0 : TyA Tryd.prog n0 36 r0) (u0 : VR Tryd.prog (m0A W) h0A (.agg r0) x0) (hg : GoodW Tryd.prog W.heap.size W) :
    Law Tryd.prog 6 #[x0] W := by
  obtain ⟨v, l, rfl, m, w⟩ := modw_of t0
  exact law_of (vs := [x0]) (RenderPrints_run v l m w) (VRs.cons u0 VRs.nil) hg
theorem renderApart_walk {n0 n1 : Nat} {r0 r1 : List AV} {x0 x1 : Value} (W : World) (t0 : TyA Tryd.prog n0 36 r0) (u0 : VR Tryd.prog (m0A W) h0A (.agg r0) x0) (t1 : TyA Tryd.prog n1 36 r1) (u1 : VR Tryd.prog (m0A W) h0A (.agg r1) x1) (hg : GoodW Tryd.prog W.heap.size W) :
    Law Tryd.prog 7 #[x0, x1] W := by
  obtain ⟨v, l, rfl, m, w⟩ := modw_of t0
  obtain ⟨v', l', rfl, m', w'⟩ := modw_of t1
  exact law_of (vs := [x0, x1]) (RenderApart_run v v' l l' m m' w w') (VRs.cons u0 (VRs.cons u1 VRs.nil)) hg
end Go.Proofs.YtodehiopdkgoeaaDoor
