/- GraphCuts: for every input the law returns true, and each argument reads as it did. No condition. -/
import Derived.Test.YtacocolcighomaaGraphS13
namespace Go.Proofs.Ytacocolcighomaa.graphCuts
set_option linter.unusedSimpArgs false
set_option linter.unusedVariables false
open Go.ChangeShapes Go.WideShapes Go.ChangeAt Go.RowKit Go.Deep
open Go.ChangeMaps (open_string)

set_option maxRecDepth 100000 in
theorem lifted (os : Os) (started : os.Started) (H : Type) (enc : TypeId × Value → H) :
    ReturnsInHanded {} Try.checked os 11 .any (Rows.graphCutsSpec.pre6 enc Try.prog Try.f11 Rows.graphCutsRow.domain false) (Rows.graphCutsSpec.post enc Try.prog Try.f11 false true false false) := by
  refine returnsInHanded_of_change (C := Try.checked) own started (by kernel_rfl) Try.func11
    (ChangeSpec.witness6 (enc := enc) (C := Try.checked) false ⟨#[], #[.slice none 0 0, .slice none 0 0, .int .i64 0], []⟩ 8 (by kernel_rfl) (by kernel_rfl) (by kernel_rfl) (by kernel_rfl)) ?_
  intro W base args ds gs before hval0 hW _ _
  have hval : ∀ (j : Nat) t v, Try.f11.params[j]? = some t → args[j]? = some v → Value.okWide Try.prog W .any base t v := hval0
  have hW' := hW
  obtain ⟨p, q, hA0, _, _, _, _⟩ := hW
  have hA : DataW.TrodAll enc Try.prog W 0 (fun _ => true) true Try.f11.params.toList args.toList ds p := hA0
  rw [Try.params11] at hA hval
  obtain ⟨v0, vs0, d0, ds0, p0, q0, hargs, _, hp0, h0, r0⟩ := trodAll_cons hA
  obtain ⟨v1, vs1, d1, ds1, p1, q1, rfl, hd1, hp1, h1, r1⟩ := trodAll_cons r0
  obtain ⟨v2, vs2, d2, ds2, p2, q2, rfl, hd2, hp2, h2, r2⟩ := trodAll_cons r1
  obtain ⟨rfl, _, _⟩ := trodAll_nil r2
  obtain rfl : args = #[v0, v1, v2] := by cases args; simp_all
  obtain ⟨A0, n0, c0, x0, rfl, hn0, hm0, hr0, hs0⟩ := open_rows Try.underlying51 Try.underlying62 (by kernel_rfl) (hint_of (by kernel_rfl)) (by kernel_rfl) (by decide) (hval 0 51 _ rfl rfl) h0
  obtain ⟨A1, n1, c1, x1, rfl, hn1, hm1, hr1, hs1⟩ := open_rows Try.underlying51 Try.underlying62 (by kernel_rfl) (hint_of (by kernel_rfl)) (by kernel_rfl) (by decide) (hval 1 51 _ rfl rfl) h1
  obtain ⟨a2, rfl, rfl, rfl, w2⟩ := open_int Try.underlying3 (hval 2 3 _ rfl rfl) h2
  have hw2 : isI64 a2 := by simpa [isI64, Lit.wf, IntKind.min, IntKind.max, IntKind.signed, IntKind.bits] using w2
  refine (graphCuts_walk A0 n0 c0 x0 A1 n1 c1 x1 a2 W hn0 (fun x hx => (hr0 x hx).1) hs0 (by unfold maxLen at hm0; omega) hn1 (fun x hx => (hr1 x hx).1) hs1 (by unfold maxLen at hm1; omega) hw2).mono fun e W' ⟨he, hb⟩ => ?_
  subst he
  exact ⟨_, rfl, law_post laidOut Try.underlying4 rfl rfl (by decide +kernel) (fun ds hl => by
    match ds, hl with
    | [d0, d1, d2], _ => rfl) hW' hb⟩

theorem over : Rows.graphCutsRow.holds Try.pinned (OpenSpec.ofChange Rows.graphCutsSpec) :=
  OpenClaim.holds_of_wide 11 Try.f11 rfl rfl rfl rfl rfl rfl rfl ⟨rfl, rfl, rfl, rfl, rfl⟩ rfl rfl rfl rfl rfl (by kernel_rfl) Try.func11 (by kernel_rfl)
    (of_decide_eq_true (by kernel_rfl)) (by unfold Func.isWrapper; first | (rw [if_pos (by decide +kernel)]; kernel_rfl) | (rw [if_neg (by decide +kernel)]; exact ⟨rfl, rfl⟩))
    (fun os started H enc _ => lifted os started H enc)

theorem proved : Rows.GraphCutsSaid := over
#print axioms proved
end Go.Proofs.Ytacocolcighomaa.graphCuts
