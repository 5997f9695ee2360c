/- WorldAlone: for every input the law returns true, and each argument reads as it did. No condition. -/
import Derived.Test.YtacocolcighomaaWorldAlone
namespace Go.Proofs.Ytacocolcighomaa.worldAlone
open Go.ChangeShapes Go.WideShapes Go.ChangeAt Go.RowKit Go.Deep
open Go.ChangeMaps (open_string)

set_option maxRecDepth 100000 in
theorem lifted (os : Os) (started : os.Started) (H : Type) (enc : TypeId × Value → H) :
    ReturnsInHanded {} Try.checked os 4 .any (Rows.worldAloneSpec.pre6 enc Try.prog Try.f4 Rows.worldAloneRow.domain false) (Rows.worldAloneSpec.post enc Try.prog Try.f4 false true false false) := by
  refine returnsInHanded_of_change (C := Try.checked) own started (by kernel_rfl) Try.func4
    (ChangeSpec.witness6 (enc := enc) (C := Try.checked) false ⟨#[], #[.slice none 0 0, .agg #[.int .i64 0, .int .i64 0, .int .i64 0, .int .i64 0, .int .i64 0]], []⟩ 8 (by kernel_rfl) (by kernel_rfl) (by kernel_rfl) (by kernel_rfl)) ?_
  intro W base args ds gs before hval0 hW _ _
  have hval : ∀ (j : Nat) t v, Try.f4.params[j]? = some t → args[j]? = some v → Value.okWide Try.prog W .any base t v := hval0
  have hW' := hW
  obtain ⟨p, q, hA0, _, _, _, _⟩ := hW
  have hA : DataW.TrodAll enc Try.prog W 0 (fun _ => true) true Try.f4.params.toList args.toList ds p := hA0
  rw [Try.params4] at hA hval
  obtain ⟨v0, vs0, d0, ds0, p0, q0, hargs, _, hp0, h0, r0⟩ := trodAll_cons hA
  obtain ⟨v1, vs1, d1, ds1, p1, q1, rfl, hd1, hp1, h1, r1⟩ := trodAll_cons r0
  obtain ⟨rfl, _, _⟩ := trodAll_nil r1
  obtain rfl : args = #[v0, v1] := by cases args; simp_all
  obtain ⟨A0, n0, c0, x0, rfl, hn0, hm0, hr0, hs0⟩ := open_rows Try.underlying22 Try.underlying29 (by kernel_rfl) (hint_of (by kernel_rfl)) (by kernel_rfl) (by decide) (hval 0 22 _ rfl rfl) h0
  obtain ⟨x1, rfl, hl1, hr1⟩ := open_row Try.underlying29 (by kernel_rfl) (hint_of (by kernel_rfl)) (by kernel_rfl) 5 rfl (hval 1 29 _ rfl rfl) h1
  obtain ⟨z1_0, z1_1, z1_2, z1_3, z1_4, rfl⟩ := list_of_5 hl1
  refine (worldAlone_walk A0 n0 c0 x0 z1_0 z1_1 z1_2 z1_3 z1_4 W hn0 (fun x hx => (hr0 x hx).1) hs0 (by unfold maxLen at hm0; omega)).mono fun e W' ⟨he, hb⟩ => ?_
  subst he
  exact ⟨_, rfl, law_post laidOut Try.underlying4 rfl rfl (by decide +kernel) (fun ds hl => by
    match ds, hl with
    | [d0, d1], _ => rfl) hW' hb⟩

theorem over : Rows.worldAloneRow.holds Try.pinned (OpenSpec.ofChange Rows.worldAloneSpec) :=
  OpenClaim.holds_of_wide 4 Try.f4 rfl rfl rfl rfl rfl rfl rfl ⟨rfl, rfl, rfl, rfl, rfl⟩ rfl rfl rfl rfl rfl (by kernel_rfl) Try.func4 (by kernel_rfl)
    (of_decide_eq_true (by kernel_rfl)) (by unfold Func.isWrapper; first | (rw [if_pos (by decide +kernel)]; kernel_rfl) | (rw [if_neg (by decide +kernel)]; exact ⟨rfl, rfl⟩))
    (fun os started H enc _ => lifted os started H enc)

theorem proved : Rows.WorldAloneSaid := over
#print axioms proved
end Go.Proofs.Ytacocolcighomaa.worldAlone
