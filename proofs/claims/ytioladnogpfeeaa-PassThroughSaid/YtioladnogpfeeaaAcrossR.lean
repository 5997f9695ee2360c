/- Across in the plain model: what becomes of the graph, and of the value. -/
import Derived.Test.YtioladnogpfeeaaAcross
namespace Go.Proofs.Ytioladnogpfeeaa
set_option linter.unusedSimpArgs false
set_option linter.unusedVariables false
open Go

section
variable {h : AH} {F J : Nat → Prop} {b : Nat} {G : GraphD}
theorem acH_mv (g : IsG h F J b G) (r : List AV) : Mv h F J b (acH h r) G [h.n + 1 + 1, h.n + 1, h.n] [] := (((Mv.start g).push [r]).push [zR]).push [[.int .i64 0]]
theorem inst_may (g : IsG h F J b G) (hW : G.Wf) {x : VD} {r : List AV} (hx : VaA x r) : runF Try.prog po 29 [.ptr b 0 0, .agg r] (acH h r) = some (.inl (.int .i64 (mayG G x)), acH h r) := by
  obtain ⟨F2, J2, g2⟩ := (acH_mv g r).isG
  exact pMay_run g2 hW hx
theorem may_size {x : VD} (hz : mayG G x = 0) : x.size ≤ 100000 := by
  have : x.code = 0 := by
    unfold mayG at hz
    split at hz
    · exact hz
    · rename_i hc
      simpa using hc
  have := code_few this
  omega
theorem inst_val (g : IsG h F J b G) (hW : G.Wf) {x : VD} {r : List AV} {gv : AV} {ks : List Int} (hx : VaA x r) (hg : SlA 3 gv (intsA ks)) (hk : ks.length ≤ 1000000) (hz : mayG G x = 0) :
    ∃ h4, (∃ q, runF Try.prog po 49 [.ptr (acH h r).n 0 0, .agg r] ((acH h r).push [[.ptr b 0 0, gv]]) = some (q, h4) ∧ ValR ks G x q) ∧ Mv h F J b h4 (valG ks x G).1 [(acH h r).n, h.n + 1 + 1, h.n + 1, h.n] [] ∧ h4.cell (h.n + 1) = some [zR] ∧ h4.cell (h.n + 1 + 1) = some [[.int .i64 0]] := by
  have m1 := (acH_mv g r).push [[.ptr b 0 0, gv]]
  obtain ⟨h4, e, m2, k, -, -⟩ := m1.callF (R := fun h4 => ∃ q, runF Try.prog po 49 [.ptr (acH h r).n 0 0, .agg r] ((acH h r).push [[.ptr b 0 0, gv]]) = some (q, h4) ∧ ValR ks G x q) (G' := (valG ks x G).1) fun F2 J2 g2 _ hC => by
    obtain ⟨q, h4, e, r2, d⟩ := pval_run hg.isL hk _ x (Nat.le_refl _) (may_size hz) r ((acH h r).push [[.ptr b 0 0, gv]]) F2 J2 G g2 hW (by simp only [push_n]; omega) (hC _ (by simp)) push_same hx
    exact ⟨h4, ⟨q, e, r2⟩, d⟩
  refine ⟨h4, e, m2, (k _ (by simp)).trans ?_, (k _ (by simp)).trans ?_⟩
  · exact (push_lt (by simp only [acH, push_n]; omega)).trans push3_1
  · exact (push_lt (by simp only [acH, push_n]; omega)).trans push3_same
theorem sla_is {gv : AV} {e : TypeId} {rows : List (List AV)} (hg : SlA e gv rows) : gv = .nils ∨ ∃ id e rows, gv = .isl id e rows := by
  rcases hg with ⟨_, h⟩ | ⟨id, h⟩
  · exact .inl h
  · exact .inr ⟨_, _, _, h⟩
theorem Across_ex (g : IsG h F J b G) (hW : G.Wf) {x : VD} {r : List AV} {gv : AV} {ks : List Int} (hx : VaA x r) (hg : SlA 3 gv (intsA ks)) (hk : ks.length ≤ 1000000) :
    ∃ q, AC Try.prog fAc [.ptr b 0 0, .agg r, gv] h q ∧ acrossGood [.ptr b 0 0, .agg r, gv] h q := by
  obtain ⟨o1, o2⟩ := hx.one
  have eM := inst_may g hW hx
  by_cases hz : mayG G x = 0
  · rw [hz] at eM
    obtain ⟨h4, ⟨q, eV, rV⟩, mv, k6, k7⟩ := inst_val g hW hx hg hk hz
    rcases rV with ⟨hz2, r', rfl, x2⟩ | ⟨hz2, rfl⟩
    · obtain ⟨o3, o4⟩ := x2.one
      refine ⟨_, ac_ok o1 o2 o3 o4 (sla_is hg) eM eV k6 k7, ?_⟩
      rintro F2 J2 b2 G2 x3 r3 gv3 ks3 e g3 hW3 hx3 hg3 hk3
      simp only [List.cons.injEq, AV.ptr.injEq, AV.agg.injEq, and_true] at e
      obtain ⟨rfl, rfl, rfl⟩ := e
      have eM3 := inst_may g3 hW3 hx3
      rw [eM] at eM3
      simp only [Option.some.injEq, Prod.mk.injEq, Sum.inl.injEq, AV.int.injEq, true_and, and_true] at eM3
      obtain ⟨h5, ⟨q, eV3, rV3⟩, mv3, -, -⟩ := inst_val g3 hW3 hx3 hg3 hk3 eM3.symm
      rw [eV] at eV3
      simp only [Option.some.injEq, Prod.mk.injEq] at eV3
      obtain ⟨rfl, rfl⟩ := eV3
      have ha : acrossG ks3 G2 x3 = valG ks3 x3 G2 := by rw [acrossG, if_neg (by simp [← eM3])]
      rcases rV3 with ⟨hz3, r4, e4, x4⟩ | ⟨_, e4⟩
      · simp only [Sum.inl.injEq, AV.agg.injEq] at e4
        subst e4
        rw [ha]
        exact ⟨r', _, by rw [hz3], x4, ((mv3.set (by simp) _).set (by simp) _).did⟩
      · cases e4
    · refine ⟨_, ac_gone o1 o2 (sla_is hg) eM eV k6 k7, ?_⟩
      rintro F2 J2 b2 G2 x3 r3 gv3 ks3 e g3 hW3 hx3 hg3 hk3
      simp only [List.cons.injEq, AV.ptr.injEq, AV.agg.injEq, and_true] at e
      obtain ⟨rfl, rfl, rfl⟩ := e
      have eM3 := inst_may g3 hW3 hx3
      rw [eM] at eM3
      simp only [Option.some.injEq, Prod.mk.injEq, Sum.inl.injEq, AV.int.injEq, true_and, and_true] at eM3
      obtain ⟨h5, ⟨q, eV3, rV3⟩, mv3, -, -⟩ := inst_val g3 hW3 hx3 hg3 hk3 eM3.symm
      rw [eV] at eV3
      simp only [Option.some.injEq, Prod.mk.injEq] at eV3
      obtain ⟨rfl, rfl⟩ := eV3
      have ha : acrossG ks3 G2 x3 = valG ks3 x3 G2 := by rw [acrossG, if_neg (by simp [← eM3])]
      rcases rV3 with ⟨_, r4, e4, _⟩ | ⟨hz3, e4⟩
      · cases e4
      · simp only [Sum.inr.injEq, AV.iface.injEq, AV.int.injEq, true_and] at e4
        have hv : (valG ks3 x3 G2).2.1 = zeroV := by
          rw [valG_eq] at hz3 ⊢
          split
          · rfl
          · rename_i h1
            rw [if_neg h1] at hz3
            split
            · rfl
            · rename_i h2
              rw [if_neg h2] at hz3
              exact absurd rfl hz3
        rw [ha, hv]
        exact ⟨zR, _, by rw [e4], zero_va, ((mv3.set (by simp) _).set (by simp) _).did⟩
  · refine ⟨_, ac_refused o1 o2 hz eM, ?_⟩
    rintro F2 J2 b2 G2 x3 r3 gv3 ks3 e g3 hW3 hx3 hg3 hk3
    simp only [List.cons.injEq, AV.ptr.injEq, AV.agg.injEq, and_true] at e
    obtain ⟨rfl, rfl, rfl⟩ := e
    have eM3 := inst_may g3 hW3 hx3
    rw [eM] at eM3
    simp only [Option.some.injEq, Prod.mk.injEq, Sum.inl.injEq, AV.int.injEq, true_and, and_true] at eM3
    have ha : acrossG ks3 G2 x3 = (G2, zeroV, mayG G2 x3) := by rw [acrossG, if_pos (by rw [← eM3]; exact hz)]
    rw [ha]
    exact ⟨zR, _, by rw [eM3], zero_va, ((acH_mv g3 r).set (by simp) _).did⟩
theorem ext_across : po.ext fAc = some acrossF := by
  show extF fAc = _
  unfold extF
  exact if_pos rfl
theorem Across_run (g : IsG h F J b G) (hW : G.Wf) {x : VD} {r : List AV} {gv : AV} {ks : List Int} (hx : VaA x r) (hg : SlA 3 gv (intsA ks)) (hk : ks.length ≤ 1000000) :
    ∃ h', (∃ r', runF Try.prog po 19 [.ptr b 0 0, .agg r, gv] h = some (.inl (.tup [.agg r', .int .i64 (acrossG ks G x).2.2]), h') ∧ VaA (acrossG ks G x).2.1 r') ∧ DidG h F J b h' (acrossG ks G x).1 := by
  have H := Across_ex g hW hx hg hk
  have e : runF Try.prog po fAc [.ptr b 0 0, .agg r, gv] h = some (Classical.choose H) := by
    unfold runF
    rw [ext_across]
    show acrossF _ _ = _
    unfold acrossF
    rw [dif_pos H]
  obtain ⟨r', h', h1, h2, h3⟩ := (Classical.choose_spec H).2 F J b G x r gv ks rfl g hW hx hg hk
  rw [h1] at e
  exact ⟨h', ⟨r', e, h2⟩, h3⟩
end
end Go.Proofs.Ytioladnogpfeeaa
