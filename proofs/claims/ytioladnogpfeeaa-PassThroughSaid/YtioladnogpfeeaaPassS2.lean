/- pass in the plain model: the mover of values; what the document says is handed on. -/
import Derived.Test.YtioladnogpfeeaaPassS
namespace Go.Proofs.Ytioladnogpfeeaa
set_option linter.unusedSimpArgs false
set_option linter.unusedVariables false
open Go

section
variable {h : AH} {F J : Nat → Prop} {b : Nat} {G : GraphD}
/-- what the mover of a value comes to -/
def ValR (ks : List Int) (G : GraphD) (x : VD) (q : AV ⊕ AV) : Prop :=
  ((valG ks x G).2.2 = 0 ∧ ∃ r', q = .inl (.agg r') ∧ VaA (valG ks x G).2.1 r') ∨ ((valG ks x G).2.2 ≠ 0 ∧ q = .inr (.iface tGone (.int .i64 (valG ks x G).2.2)))
theorem valsG_cons (ks : List Int) (x : VD) (l : List VD) (G : GraphD) : valsG ks (x :: l) G =
    if (valG ks x G).2.2 ≠ 0 then ((valG ks x G).1, [], (valG ks x G).2.2)
    else ((valsG ks l (valG ks x G).1).1, (valG ks x G).2.1 :: (valsG ks l (valG ks x G).1).2.1, (valsG ks l (valG ks x G).1).2.2) := rfl
theorem drop_at {l : List VD} {i : Nat} {y : VD} (h : l[i]? = some y) : l.drop i = y :: l.drop (i + 1) := by
  obtain ⟨hi, rfl⟩ := List.getElem?_eq_some_iff.1 h
  exact List.drop_eq_getElem_cons hi

set_option maxHeartbeats 2000000 in
theorem pval_run {m : Nat} {gv : AV} {ks : List Int} (hg : IsL 3 gv (intsA ks)) (hk : ks.length ≤ 1000000) : ∀ (N : Nat) (x : VD), SizeOf.sizeOf x ≤ N → x.size ≤ 100000 → ∀ (r : List AV) (h : AH) (F J : Nat → Prop) (G : GraphD), IsG h F J b G → G.Wf → m < h.n → ¬ F m → h.cell m = some [[.ptr b 0 0, gv]] → VaA x r →
    ∃ q h', runF Try.prog po 49 [.ptr m 0 0, .agg r] h = some (q, h') ∧ (ValR ks G x q ∧ DidG h F J b h' (valG ks x G).1) := by
  intro N
  induction N with
  | zero => intro x hx; have := x.so_pos; omega
  | succ N ih =>
    intro x hx hsz r h F J G g hW hm hF hc he
    obtain ⟨v, es, rfl, hsl, hv, hn, hix⟩ := he.facts
    have hlen := x.len_size
    have hve := valG_eq ks x G
    -- the loop over the parts
    have rest : ∀ (Q : RRun → Prop) (h1 : AH) (G1 : GraphD) (n1 : Int) (I : List Nat) (v6 : AV), G1.Wf → Mv h F J b h1 G1 [h.n + 1 + 1, h.n + 1, h.n] I → h1.cell h.n = some [[.int .i64 x.kind, .int .i64 x.n, v]] → h1.cell (h.n + 1) = some [[.int .i64 0, .int .i64 0, .nils]] → h1.cell (h.n + 1 + 1) = some [[.int .i64 x.kind, .int .i64 n1, .nils]] →
        (∀ V h' v, (resR V h' [.cell true 3 3]).map oneA = some v → (valsG ks x.l G1).2.2 = 0 → (∃ r', v = .agg r' ∧ VaA (.mk x.kind n1 (valsG ks x.l G1).2.1) r') → DidG h F J b h' (valsG ks x.l G1).1 → Q (some (.ret, V, h'))) →
        (∀ V h', (valsG ks x.l G1).2.2 ≠ 0 → DidG h F J b h' (valsG ks x.l G1).1 → Q (some (.panic (.iface tGone (.int .i64 (valsG ks x.l G1).2.2)), V, h'))) →
        Q (runR (runF Try.prog po) 11 (.lp rc_pval_b1 :: .ss [] :: .blk 0 :: [.ss [.ops [(.i .l (.load true 3 (.v 4))), (.i .n (.store 3 (.v 3) (.l 0)))], .ret]])
          [.ptr m 0 0, .agg [.int .i64 x.kind, .int .i64 x.n, v], .ptr h.n 0 0, .ptr (h.n + 1) 0 0, .ptr (h.n + 1 + 1) 0 0, .junk, v6, v, .int .i64 es.length, .int .i64 0, .junk] [] h1) := by
      intro Q h1 G1 n1 I v6 hW1 mv1 d1 d2 d3 hR hP
      refine loop_Q (fun i V h' => ∃ v5 v10 acc rows C I G' ys, V = [.ptr m 0 0, .agg [.int .i64 x.kind, .int .i64 x.n, v], .ptr h.n 0 0, .ptr (h.n + 1) 0 0, .ptr (h.n + 1 + 1) 0 0, v5, v6, v, .int .i64 es.length, .int .i64 (i : Nat), v10] ∧
        G'.Wf ∧ (Mv h F J b h' G' C I ∧ h.n + 1 + 1 ∈ C ∧ h.n + 1 ∈ C ∧ h.n ∈ C) ∧ h'.cell (h.n + 1) = some [[.int .i64 0, .int .i64 0, .nils]] ∧ h'.cell (h.n + 1 + 1) = some [[.int .i64 x.kind, .int .i64 n1, acc]] ∧
        AccM tV I h' acc rows ∧ VaL ys rows ∧ rows.length = i ∧ valsG ks x.l G1 = ((valsG ks (x.l.drop i) G').1, ys ++ (valsG ks (x.l.drop i) G').2.1, (valsG ks (x.l.drop i) G').2.2)) x.l.length
        ⟨_, _, _, [], _, I, G1, [], rfl, hW1, ⟨mv1, by simp, by simp, by simp⟩, d2, d3, .inl ⟨rfl, rfl⟩, rfl, rfl, rfl⟩ ?_ ?_
      · rintro i V h' hi ⟨v5, v10, acc, rows, C, I, G', ys, rfl, hW', ⟨mv, m1, m2, m3⟩, c2, c3, ha, hr, hri, hq⟩ next
        have hlt : (i : Int) < (es.length : Int) := by rw [hn]; omega
        obtain ⟨y, hy⟩ := at_get hi
        obtain ⟨q, i1, j1, x1⟩ := hix i y hy
        obtain ⟨o1, o2⟩ := x1.one
        have hw := w64 (n := (i : Int) + 1) (by omega) (by omega)
        have mvp := mv.push [q]
        have hc' : (h'.push [q]).cell m = some [[.ptr b 0 0, gv]] := (mvp.old hm hF).trans hc
        have p2 : (h'.push [q]).cell (h.n + 1) = some [[.int .i64 0, .int .i64 0, .nils]] := (push_lt (mv.lt m2)).trans c2
        have p3 : (h'.push [q]).cell (h.n + 1 + 1) = some [[.int .i64 x.kind, .int .i64 n1, acc]] := (push_lt (mv.lt m1)).trans c3
        have hap : AccM tV I (h'.push [q]) acc rows := ha
        obtain ⟨h2, ⟨q2, e2, r2⟩, mv2, k1, k2, k3⟩ := mvp.callF (R := fun h2 => ∃ q2, runF Try.prog po 49 [.ptr m 0 0, .agg q] (h'.push [q]) = some (q2, h2) ∧ ValR ks G' y q2) (G' := (valG ks y G').1) fun F2 J2 g2 hF2 _ => by
          obtain ⟨q2, h2, e2, r2, d2⟩ := ih y (by have := VD.lt_mem (at_mem hy); omega) (by have := VD.size_mem (at_mem hy); omega) q (h'.push [q]) F2 J2 G' g2 hW' (by have := mv.n; simp only [push_n]; omega) (hF2 m hm hF) hc' x1
          exact ⟨h2, ⟨q2, e2, r2⟩, d2⟩
        rw [drop_at hy, valsG_cons] at hq
        have f2 : h2.cell (h.n + 1) = some [[.int .i64 0, .int .i64 0, .nils]] := (k1 _ (by simp [m2])).trans p2
        have f3 : h2.cell (h.n + 1 + 1) = some [[.int .i64 x.kind, .int .i64 n1, acc]] := (k1 _ (by simp [m1])).trans p3
        rcases r2 with ⟨hz, r', rfl, x2⟩ | ⟨hz, rfl⟩
        · rw [if_neg (by simp [hz])] at hq
          obtain ⟨o3, o4⟩ := x2.one
          obtain ⟨acc2, h3, I3, e3, a1, mv3, a3, a4⟩ := mv_app (e := tV) mv2 (hap.keep k3) (row := r') o3 (by rw [hri]; omega)
          obtain ⟨oA, cA⟩ := a1.cell
          rw [r_lpb rc_pval_b1.eq_1]
          simp only [sim, List.length_cons, List.length_nil, Nat.reduceAdd, Nat.reduceSub, List.replicate, List.cons_append, List.nil_append, List.map_cons, List.map_nil, Option.bind_some, Option.map_some, Option.bind_none, Option.map_none, if_true, if_false, decide_true, decide_false, Bool.false_eq_true, Bool.true_eq_false, Bool.not_true, Bool.not_false, reduceCtorEq, Bool.and_true, Bool.true_and, Bool.and_false, Bool.false_and, Bool.or_true, Bool.true_or, Bool.or_false, Bool.false_or, true_and, and_true, false_and, and_false, List.take_zero, List.take_succ_cons, List.drop_zero, List.drop_succ_cons, List.take_nil, List.drop_nil, List.set_cons_zero, List.set_cons_succ, Nat.reduceLeDiff, Nat.reduceLT, Nat.zero_add, Nat.lt_add_one, Nat.le_refl, clearA, Int.toNat_natCast, hlt, i1, j1, o1, o2, ld_all o2, p3, e2, f3, o3, o4, e3, a3, oA, cA, hw]
          refine next _ _ ⟨_, _, _, _, _, I3, _, ys ++ [(valG ks y G').2.1], rfl, valG_wf ks y G' hW', ⟨mv3.set (by simp [m1]) _, by simp [m1], by simp [m2], by simp [m3]⟩, ?_, set_same, a1.keep fun _ _ => rfl, hr.append x2, by simp [hri], ?_⟩
          · rw [set_ne (by omega), a3]
            exact f2
          · rw [hq]
            simp
        · rw [if_pos hz] at hq
          rw [r_lpb rc_pval_b1.eq_1]
          simp only [sim, List.length_cons, List.length_nil, Nat.reduceAdd, Nat.reduceSub, List.replicate, List.cons_append, List.nil_append, List.map_cons, List.map_nil, Option.bind_some, Option.map_some, Option.bind_none, Option.map_none, if_true, if_false, decide_true, decide_false, Bool.false_eq_true, Bool.true_eq_false, Bool.not_true, Bool.not_false, reduceCtorEq, Bool.and_true, Bool.true_and, Bool.and_false, Bool.false_and, Bool.or_true, Bool.true_or, Bool.or_false, Bool.false_or, true_and, and_true, false_and, and_false, List.take_zero, List.take_succ_cons, List.drop_zero, List.drop_succ_cons, List.take_nil, List.drop_nil, List.set_cons_zero, List.set_cons_succ, Nat.reduceLeDiff, Nat.reduceLT, Nat.zero_add, Nat.lt_add_one, Nat.le_refl, clearA, Int.toNat_natCast, hlt, i1, j1, o1, o2, ld_all o2, p3, e2]
          have q1 : (valsG ks x.l G1).2.2 = (valG ks y G').2.2 := by rw [hq]
          have q2 : (valsG ks x.l G1).1 = (valG ks y G').1 := by rw [hq]
          rw [← q1] at hz ⊢
          exact hP _ _ hz (by rw [q2]; exact mv2.did)
      · rintro V h' ⟨v5, v10, acc, rows, C, I, G', ys, rfl, hW', ⟨mv, m1, m2, m3⟩, c2, c3, ha, hr, hri, hq⟩
        have hlt : ¬ ((x.l.length : Int) < (es.length : Int)) := by rw [hn]; omega
        rw [List.drop_length] at hq
        simp only [valsG, List.append_nil] at hq
        obtain ⟨oA, cA⟩ := ha.cell
        rw [r_lpb rc_pval_b1.eq_1]
        simp only [sim, List.length_cons, List.length_nil, Nat.reduceAdd, Nat.reduceSub, List.replicate, List.cons_append, List.nil_append, List.map_cons, List.map_nil, Option.bind_some, Option.map_some, Option.bind_none, Option.map_none, if_true, if_false, decide_true, decide_false, Bool.false_eq_true, Bool.true_eq_false, Bool.not_true, Bool.not_false, reduceCtorEq, Bool.and_true, Bool.true_and, Bool.and_false, Bool.false_and, Bool.or_true, Bool.true_or, Bool.or_false, Bool.false_or, true_and, and_true, false_and, and_false, List.take_zero, List.take_succ_cons, List.drop_zero, List.drop_succ_cons, List.take_nil, List.drop_nil, List.set_cons_zero, List.set_cons_succ, Nat.reduceLeDiff, Nat.reduceLT, Nat.zero_add, Nat.lt_add_one, Nat.le_refl, clearA, Int.toNat_natCast, hlt, c3, c2, oA, cA]
        refine hR _ _ (.agg [.int .i64 x.kind, .int .i64 n1, acc]) (by simp only [sim, oA, List.all_cons, List.all_nil, List.length_cons, List.length_nil, Option.map_some, Option.bind_some, List.getD_cons_zero, List.getD_cons_succ, List.take_succ_cons, List.take_zero, List.drop_zero]) ?_ ⟨_, rfl, ?_⟩ ?_
        · rw [hq]
        · rw [hq]
          exact VaA.mk (x := .mk x.kind n1 ys) ha.sla hr
        · rw [hq]
          exact (mv.set m2 _).did
    have m0 := ((Mv.start g).push [[.int .i64 x.kind, .int .i64 x.n, v]]).push [[.int .i64 0, .int .i64 0, .nils]]
    have m1 := m0.push [[.int .i64 x.kind, .int .i64 x.n, .nils]]
    have q0 : (((h.push [[.int .i64 x.kind, .int .i64 x.n, v]]).push [[.int .i64 0, .int .i64 0, .nils]]).push [[.int .i64 x.kind, .int .i64 x.n, .nils]]).cell m = some [[.ptr b 0 0, gv]] := (m1.old hm hF).trans hc
    refine runF_W (Post := fun q h' => ValR ks G x q ∧ DidG h F J b h' (valG ks x G).1) fn_pval rfl fun Q hR hP => ?_; unfold rc_pval
    by_cases h4 : x.kind = 4
    · have hh : headG ks G x.kind x.n = capG ks G x.n := by rw [headG, if_pos h4]
      rw [hh] at hve
      rw [h4] at m1 q0 rest
      obtain ⟨h2, ⟨q2, e2, r2⟩, mv2, k1, k2, k3⟩ := m1.callF (R := fun h2 => ∃ q2, runF Try.prog po 79 [.ptr m 0 0, .int .i64 x.n] _ = some (q2, h2) ∧ CapR ks G x.n q2) (G' := (capG ks G x.n).1) fun F2 J2 g2 hF2 _ => by
        obtain ⟨q2, h2, e2, r2, d2⟩ := pcap_run g2 hW (by simp only [push_n]; omega) (hF2 m hm hF) q0 hg hk x.n
        exact ⟨h2, ⟨q2, e2, r2⟩, d2⟩
      have f1 : h2.cell h.n = some [[.int .i64 4, .int .i64 x.n, v]] := (k1 _ (by simp [push_n])).trans push3_0
      have f2 : h2.cell (h.n + 1) = some [[.int .i64 0, .int .i64 0, .nils]] := (k1 _ (by simp [push_n])).trans push3_1
      have f3 : h2.cell (h.n + 1 + 1) = some [[.int .i64 4, .int .i64 x.n, .nils]] := (k1 _ (by simp [push_n])).trans push3_same
      rw [h4] at hve
      rcases r2 with ⟨hz, rfl⟩ | ⟨hz, rfl⟩
      · rw [if_neg (by simp [hz])] at hve
        simp only [sim, List.length_cons, List.length_nil, Nat.reduceAdd, Nat.reduceSub, List.replicate, List.cons_append, List.nil_append, List.map_cons, List.map_nil, Option.bind_some, Option.map_some, Option.bind_none, Option.map_none, if_true, if_false, decide_true, decide_false, Bool.false_eq_true, Bool.true_eq_false, Bool.not_true, Bool.not_false, reduceCtorEq, Bool.and_true, Bool.true_and, Bool.and_false, Bool.false_and, Bool.or_true, Bool.true_or, Bool.or_false, Bool.false_or, true_and, and_true, false_and, and_false, List.take_zero, List.take_succ_cons, List.drop_zero, List.drop_succ_cons, List.take_nil, List.drop_nil, List.set_cons_zero, List.set_cons_succ, Nat.reduceLeDiff, Nat.reduceLT, Nat.zero_add, Nat.lt_add_one, Nat.le_refl, clearA, Int.toNat_natCast, hv, h4, e2, f1, f3, set_ne (show h.n ≠ h.n + 1 + 1 by omega), hsl.len, hsl.fits]
        refine rest Q _ (capG ks G x.n).1 (capG ks G x.n).2.1 _ _ (capG_wf ks G x.n hW) (mv2.set (by simp [push_n]) _) ?_ ?_ set_same (fun V h' v' e hz2 hr hd => ?_) (fun V h' hz2 hd => ?_)
        · rw [set_ne (by omega)]; exact f1
        · rw [set_ne (by omega)]; exact f2
        · obtain ⟨r', rfl, hr⟩ := hr
          rw [if_neg (by simp [hz2])] at hve
          refine hR _ _ _ e ⟨.inl ⟨by rw [hve], r', rfl, by rw [hve]; exact hr⟩, by rw [hve]; exact hd⟩
        · rw [if_pos hz2] at hve
          refine hP _ _ _ ⟨.inr ⟨by rw [hve]; exact hz2, by rw [hve]⟩, by rw [hve]; exact hd⟩
      · rw [if_pos hz] at hve
        simp only [sim, List.length_cons, List.length_nil, Nat.reduceAdd, Nat.reduceSub, List.replicate, List.cons_append, List.nil_append, List.map_cons, List.map_nil, Option.bind_some, Option.map_some, Option.bind_none, Option.map_none, if_true, if_false, decide_true, decide_false, Bool.false_eq_true, Bool.true_eq_false, Bool.not_true, Bool.not_false, reduceCtorEq, Bool.and_true, Bool.true_and, Bool.and_false, Bool.false_and, Bool.or_true, Bool.true_or, Bool.or_false, Bool.false_or, true_and, and_true, false_and, and_false, List.take_zero, List.take_succ_cons, List.drop_zero, List.drop_succ_cons, List.take_nil, List.drop_nil, List.set_cons_zero, List.set_cons_succ, Nat.reduceLeDiff, Nat.reduceLT, Nat.zero_add, Nat.lt_add_one, Nat.le_refl, clearA, Int.toNat_natCast, hv, h4, e2]
        refine hP _ _ _ ⟨.inr ⟨by rw [hve]; exact hz, by rw [hve]⟩, by rw [hve]; exact mv2.did⟩
    · have hh : headG ks G x.kind x.n = (G, x.n, 0) := by rw [headG, if_neg h4]
      rw [hh] at hve
      rw [if_neg (by simp)] at hve
      simp only [sim, List.length_cons, List.length_nil, Nat.reduceAdd, Nat.reduceSub, List.replicate, List.cons_append, List.nil_append, List.map_cons, List.map_nil, Option.bind_some, Option.map_some, Option.bind_none, Option.map_none, if_true, if_false, decide_true, decide_false, Bool.false_eq_true, Bool.true_eq_false, Bool.not_true, Bool.not_false, reduceCtorEq, Bool.and_true, Bool.true_and, Bool.and_false, Bool.false_and, Bool.or_true, Bool.true_or, Bool.or_false, Bool.false_or, true_and, and_true, false_and, and_false, List.take_zero, List.take_succ_cons, List.drop_zero, List.drop_succ_cons, List.take_nil, List.drop_nil, List.set_cons_zero, List.set_cons_succ, Nat.reduceLeDiff, Nat.reduceLT, Nat.zero_add, Nat.lt_add_one, Nat.le_refl, clearA, Int.toNat_natCast, hv, h4, hsl.len, hsl.fits]
      refine rest Q _ G x.n _ _ hW m1 push3_0 push3_1 push3_same (fun V h' v' e hz2 hr hd => ?_) (fun V h' hz2 hd => ?_)
      · obtain ⟨r', rfl, hr⟩ := hr
        rw [if_neg (by simp [hz2])] at hve
        refine hR _ _ _ e ⟨.inl ⟨by rw [hve], r', rfl, by rw [hve]; exact hr⟩, by rw [hve]; exact hd⟩
      · rw [if_pos hz2] at hve
        refine hP _ _ _ ⟨.inr ⟨by rw [hve]; exact hz2, by rw [hve]⟩, by rw [hve]; exact hd⟩

theorem zero_va : VaA zeroV [.int .i64 0, .int .i64 0, .nils] := by
  simp only [zeroV, VaA]
  exact ⟨_, [], rfl, .inl ⟨rfl, rfl⟩, rfl⟩
set_option maxHeartbeats 2000000 in
theorem handed_run {gv : AV} {ks : List Int} (hg : IsL 3 gv (intsA ks)) (hk : ks.length ≤ 1000000) : ∀ (N : Nat) (x : VD), SizeOf.sizeOf x ≤ N → x.size ≤ 100000 → ∀ (r : List AV) (h : AH) (F J : Nat → Prop) (G : GraphD), IsG h F J b G → G.Wf → VaA x r →
    ∃ v h', runF Try.prog po 61 [.ptr b 0 0, .agg r, gv] h = some (.inl v, h') ∧ ((∃ r', v = .tup [.agg r', .int .i64 (valG ks x G).2.2] ∧ VaA (valG ks x G).2.1 r') ∧ DidG h F J b h' (valG ks x G).1) := by
  intro N
  induction N with
  | zero => intro x hx; have := x.so_pos; omega
  | succ N ih =>
    intro x hx hsz r h F J G g hW he
    obtain ⟨v, es, rfl, hsl, hv, hn, hix⟩ := he.facts
    have hlen := x.len_size
    have hve := valG_eq ks x G
    have gl := hg.len
    have gf := hg.fits
    rw [List.length_map] at gl
    have rest : ∀ (Q : RRun → Prop) (h1 : AH) (G1 : GraphD) (n1 : Int) (I : List Nat) (v7 v8 v9 v10 v14 v15 v16 : AV), G1.Wf → Mv h F J b h1 G1 [h.n + 1 + 1, h.n + 1, h.n] I → h1.cell h.n = some [[.int .i64 x.kind, .int .i64 x.n, v]] → h1.cell (h.n + 1) = some [[.int .i64 0, .int .i64 0, .nils]] → h1.cell (h.n + 1 + 1) = some [[.int .i64 x.kind, .int .i64 n1, .nils]] →
        (∀ V h' v, (resR V h' [.cell true 3 4, .v 5]).map oneA = some v → (∃ r', v = .tup [.agg r', .int .i64 (valsG ks x.l G1).2.2] ∧ VaA (if (valsG ks x.l G1).2.2 ≠ 0 then zeroV else .mk x.kind n1 (valsG ks x.l G1).2.1) r') → DidG h F J b h' (valsG ks x.l G1).1 → Q (some (.ret, V, h'))) →
        Q (runR (runF Try.prog po) 19 (.lp rc_handed_b1 :: .ss [] :: .blk 2 :: [.ss [.ops [(.i .l (.load true 3 (.v 6))), (.i .n (.store 3 (.v 4) (.l 0))), (.i (.v 5) (.mv (.c (.int .i64 0))))], .ret]])
          [.ptr b 0 0, .agg [.int .i64 x.kind, .int .i64 x.n, v], gv, .ptr h.n 0 0, .ptr (h.n + 1) 0 0, .int .i64 0, .ptr (h.n + 1 + 1) 0 0, v7, v8, v9, v10, .int .i64 0, .junk, .junk, v14, v15, v16, .junk, .junk] [] h1) := by
      intro Q h1 G1 n1 I v7 v8 v9 v10 v14 v15 v16 hW1 mv1 d1 d2 d3 hR
      refine loop_Q (fun i V h' => ∃ v12 v13 v17 v18 acc rows C I G' ys, V = [.ptr b 0 0, .agg [.int .i64 x.kind, .int .i64 x.n, v], gv, .ptr h.n 0 0, .ptr (h.n + 1) 0 0, .int .i64 0, .ptr (h.n + 1 + 1) 0 0, v7, v8, v9, v10, .int .i64 (i : Nat), v12, v13, v14, v15, v16, v17, v18] ∧
        G'.Wf ∧ (Mv h F J b h' G' C I ∧ h.n + 1 + 1 ∈ C ∧ h.n + 1 ∈ C ∧ h.n ∈ C) ∧ (h'.cell h.n = some [[.int .i64 x.kind, .int .i64 x.n, v]] ∧ h'.cell (h.n + 1) = some [[.int .i64 0, .int .i64 0, .nils]]) ∧ h'.cell (h.n + 1 + 1) = some [[.int .i64 x.kind, .int .i64 n1, acc]] ∧
        AccM tV I h' acc rows ∧ VaL ys rows ∧ rows.length = i ∧ valsG ks x.l G1 = ((valsG ks (x.l.drop i) G').1, ys ++ (valsG ks (x.l.drop i) G').2.1, (valsG ks (x.l.drop i) G').2.2)) x.l.length
        ⟨_, _, _, _, _, [], _, I, G1, [], rfl, hW1, ⟨mv1, by simp, by simp, by simp⟩, ⟨d1, d2⟩, d3, .inl ⟨rfl, rfl⟩, rfl, rfl, rfl⟩ ?_ ?_
      · rintro i V h' hi ⟨v12, v13, v17, v18, acc, rows, C, I, G', ys, rfl, hW', ⟨mv, m1, m2, m3⟩, ⟨c1, c2⟩, c3, ha, hr, hri, hq⟩ next
        have hlt : (i : Int) < (es.length : Int) := by rw [hn]; omega
        obtain ⟨y, hy⟩ := at_get hi
        obtain ⟨q, i1, j1, x1⟩ := hix i y hy
        have hw := w64 (n := (i : Int) + 1) (by omega) (by omega)
        obtain ⟨h2, ⟨v2, e2, r', rfl, x2⟩, mv2, k1, k2, k3⟩ := mv.call (R := fun h2 => ∃ v2, runF Try.prog po 61 [.ptr b 0 0, .agg q, gv] h' = some (.inl v2, h2) ∧ ∃ r', v2 = .tup [.agg r', .int .i64 (valG ks y G').2.2] ∧ VaA (valG ks y G').2.1 r') (G' := (valG ks y G').1) fun F2 J2 g2 => by
          obtain ⟨v2, h2, e2, r2, d2⟩ := ih y (by have := VD.lt_mem (at_mem hy); omega) (by have := VD.size_mem (at_mem hy); omega) q h' F2 J2 G' g2 hW' x1
          exact ⟨h2, ⟨v2, e2, r2⟩, d2⟩
        rw [drop_at hy, valsG_cons] at hq
        obtain ⟨o3, o4⟩ := x2.one
        have f1 : h2.cell h.n = some [[.int .i64 x.kind, .int .i64 x.n, v]] := (k1 _ m3).trans c1
        have f2 : h2.cell (h.n + 1) = some [[.int .i64 0, .int .i64 0, .nils]] := (k1 _ m2).trans c2
        have f3 : h2.cell (h.n + 1 + 1) = some [[.int .i64 x.kind, .int .i64 n1, acc]] := (k1 _ m1).trans c3
        have mvp := mv2.push [r']
        have p1 : (h2.push [r']).cell h.n = some [[.int .i64 x.kind, .int .i64 x.n, v]] := (push_lt (mv2.lt m3)).trans f1
        have p2 : (h2.push [r']).cell (h.n + 1) = some [[.int .i64 0, .int .i64 0, .nils]] := (push_lt (mv2.lt m2)).trans f2
        have p3 : (h2.push [r']).cell (h.n + 1 + 1) = some [[.int .i64 x.kind, .int .i64 n1, acc]] := (push_lt (mv2.lt m1)).trans f3
        by_cases hz : (valG ks y G').2.2 = 0
        · rw [if_neg (by simp [hz])] at hq
          have hap : AccM tV I (h2.push [r']) acc rows := ha.keep k3
          obtain ⟨acc2, h3, I3, e3, a1, mv3, a3, a4⟩ := mv_app (e := tV) mvp hap (row := r') o3 (by rw [hri]; omega)
          simp only [push_ids] at e3
          obtain ⟨oA, cA⟩ := a1.cell
          rw [hz] at e2
          rw [r_lpb rc_handed_b1.eq_1]
          simp only [sim, List.length_cons, List.length_nil, Nat.reduceAdd, Nat.reduceSub, List.replicate, List.cons_append, List.nil_append, List.map_cons, List.map_nil, Option.bind_some, Option.map_some, Option.bind_none, Option.map_none, if_true, if_false, decide_true, decide_false, Bool.false_eq_true, Bool.true_eq_false, Bool.not_true, Bool.not_false, reduceCtorEq, Bool.and_true, Bool.true_and, Bool.and_false, Bool.false_and, Bool.or_true, Bool.true_or, Bool.or_false, Bool.false_or, true_and, and_true, false_and, and_false, List.take_zero, List.take_succ_cons, List.drop_zero, List.drop_succ_cons, List.take_nil, List.drop_nil, List.set_cons_zero, List.set_cons_succ, Nat.reduceLeDiff, Nat.reduceLT, Nat.zero_add, Nat.lt_add_one, Nat.le_refl, clearA, Int.toNat_natCast, c1, hsl.len, hsl.fits, hlt, i1, j1, e2, o3, o4, ld_all o4, p3, e3, a3, oA, cA, hw]
          refine next _ _ ⟨_, _, _, _, _, _, _, I3, _, ys ++ [(valG ks y G').2.1], rfl, valG_wf ks y G' hW', ⟨mv3.set (by simp [m1]) _, by simp [m1], by simp [m2], by simp [m3]⟩, ⟨?_, ?_⟩, set_same, a1.keep fun _ _ => rfl, hr.append x2, by simp [hri], ?_⟩
          · rw [set_ne (by omega), a3]
            exact p1
          · rw [set_ne (by omega), a3]
            exact p2
          · rw [hq]
            simp
        · rw [if_pos hz] at hq
          have q1 : (valsG ks x.l G1).2.2 = (valG ks y G').2.2 := by rw [hq]
          have q2 : (valsG ks x.l G1).1 = (valG ks y G').1 := by rw [hq]
          rw [r_lpb rc_handed_b1.eq_1]
          simp only [sim, List.length_cons, List.length_nil, Nat.reduceAdd, Nat.reduceSub, List.replicate, List.cons_append, List.nil_append, List.map_cons, List.map_nil, Option.bind_some, Option.map_some, Option.bind_none, Option.map_none, if_true, if_false, decide_true, decide_false, Bool.false_eq_true, Bool.true_eq_false, Bool.not_true, Bool.not_false, reduceCtorEq, Bool.and_true, Bool.true_and, Bool.and_false, Bool.false_and, Bool.or_true, Bool.true_or, Bool.or_false, Bool.false_or, true_and, and_true, false_and, and_false, List.take_zero, List.take_succ_cons, List.drop_zero, List.drop_succ_cons, List.take_nil, List.drop_nil, List.set_cons_zero, List.set_cons_succ, Nat.reduceLeDiff, Nat.reduceLT, Nat.zero_add, Nat.lt_add_one, Nat.le_refl, clearA, Int.toNat_natCast, c1, hsl.len, hsl.fits, hlt, i1, j1, e2, o3, o4, hz, p2]
          refine hR _ _ (.tup [.agg [.int .i64 0, .int .i64 0, .nils], .int .i64 (valG ks y G').2.2]) (by simp only [sim, List.length_cons, List.length_nil, Nat.reduceAdd, Nat.reduceSub, List.replicate, List.cons_append, List.nil_append, List.map_cons, List.map_nil, Option.bind_some, Option.map_some, Option.bind_none, Option.map_none, if_true, if_false, decide_true, decide_false, Bool.false_eq_true, Bool.true_eq_false, Bool.not_true, Bool.not_false, reduceCtorEq, Bool.and_true, Bool.true_and, Bool.and_false, Bool.false_and, Bool.or_true, Bool.true_or, Bool.or_false, Bool.false_or, true_and, and_true, false_and, and_false, List.take_zero, List.take_succ_cons, List.drop_zero, List.drop_succ_cons, List.take_nil, List.drop_nil, List.set_cons_zero, List.set_cons_succ, Nat.reduceLeDiff, Nat.reduceLT, Nat.zero_add, Nat.lt_add_one, Nat.le_refl, clearA, Int.toNat_natCast]) ⟨_, by rw [q1], ?_⟩ ?_
          · rw [if_pos (by rw [q1]; exact hz)]
            exact zero_va
          · rw [q2]
            exact (mvp.set (by simp [m2]) _).did
      · rintro V h' ⟨v12, v13, v17, v18, acc, rows, C, I, G', ys, rfl, hW', ⟨mv, m1, m2, m3⟩, ⟨c1, c2⟩, c3, ha, hr, hri, hq⟩
        have hlt : ¬ ((x.l.length : Int) < (es.length : Int)) := by rw [hn]; omega
        rw [List.drop_length] at hq
        simp only [valsG, List.append_nil] at hq
        obtain ⟨oA, cA⟩ := ha.cell
        rw [r_lpb rc_handed_b1.eq_1]
        simp only [sim, List.length_cons, List.length_nil, Nat.reduceAdd, Nat.reduceSub, List.replicate, List.cons_append, List.nil_append, List.map_cons, List.map_nil, Option.bind_some, Option.map_some, Option.bind_none, Option.map_none, if_true, if_false, decide_true, decide_false, Bool.false_eq_true, Bool.true_eq_false, Bool.not_true, Bool.not_false, reduceCtorEq, Bool.and_true, Bool.true_and, Bool.and_false, Bool.false_and, Bool.or_true, Bool.true_or, Bool.or_false, Bool.false_or, true_and, and_true, false_and, and_false, List.take_zero, List.take_succ_cons, List.drop_zero, List.drop_succ_cons, List.take_nil, List.drop_nil, List.set_cons_zero, List.set_cons_succ, Nat.reduceLeDiff, Nat.reduceLT, Nat.zero_add, Nat.lt_add_one, Nat.le_refl, clearA, Int.toNat_natCast, c1, hsl.len, hsl.fits, hlt, c3, c2, oA, cA]
        refine hR _ _ (.tup [.agg [.int .i64 x.kind, .int .i64 n1, acc], .int .i64 0]) (by simp only [sim, List.length_cons, List.length_nil, Nat.reduceAdd, Nat.reduceSub, List.replicate, List.cons_append, List.nil_append, List.map_cons, List.map_nil, Option.bind_some, Option.map_some, Option.bind_none, Option.map_none, if_true, if_false, decide_true, decide_false, Bool.false_eq_true, Bool.true_eq_false, Bool.not_true, Bool.not_false, reduceCtorEq, Bool.and_true, Bool.true_and, Bool.and_false, Bool.false_and, Bool.or_true, Bool.true_or, Bool.or_false, Bool.false_or, true_and, and_true, false_and, and_false, List.take_zero, List.take_succ_cons, List.drop_zero, List.drop_succ_cons, List.take_nil, List.drop_nil, List.set_cons_zero, List.set_cons_succ, Nat.reduceLeDiff, Nat.reduceLT, Nat.zero_add, Nat.lt_add_one, Nat.le_refl, clearA, Int.toNat_natCast, oA]) ⟨_, by rw [hq], ?_⟩ ?_
        · rw [hq]
          exact VaA.mk (x := .mk x.kind n1 ys) ha.sla hr
        · rw [hq]
          exact (mv.set m2 _).did
    have m1 := (((Mv.start g).push [[.int .i64 x.kind, .int .i64 x.n, v]]).push [[.int .i64 0, .int .i64 0, .nils]]).push [[.int .i64 x.kind, .int .i64 x.n, .nils]]
    refine runF_J (R := fun v h' => (∃ r', v = .tup [.agg r', .int .i64 (valG ks x G).2.2] ∧ VaA (valG ks x G).2.1 r') ∧ DidG h F J b h' (valG ks x G).1) fn_handed rfl fun Q hR => ?_; unfold rc_handed
    by_cases h4 : x.kind = 4
    · have hh : headG ks G x.kind x.n = capG ks G x.n := by rw [headG, if_pos h4]
      rw [hh] at hve
      rw [h4] at m1 rest hve
      simp only [sim, List.length_cons, List.length_nil, Nat.reduceAdd, Nat.reduceSub, List.replicate, List.cons_append, List.nil_append, List.map_cons, List.map_nil, Option.bind_some, Option.map_some, Option.bind_none, Option.map_none, if_true, if_false, decide_true, decide_false, Bool.false_eq_true, Bool.true_eq_false, Bool.not_true, Bool.not_false, reduceCtorEq, Bool.and_true, Bool.true_and, Bool.and_false, Bool.false_and, Bool.or_true, Bool.true_or, Bool.or_false, Bool.false_or, true_and, and_true, false_and, and_false, List.take_zero, List.take_succ_cons, List.drop_zero, List.drop_succ_cons, List.take_nil, List.drop_nil, List.set_cons_zero, List.set_cons_succ, Nat.reduceLeDiff, Nat.reduceLT, Nat.zero_add, Nat.lt_add_one, Nat.le_refl, clearA, Int.toNat_natCast, hv, h4, gl, gf]
      refine loop_Q (fun i V h' => ∃ v9 v10 v15 v16 G' n', V = [.ptr b 0 0, .agg [.int .i64 4, .int .i64 x.n, v], gv, .ptr h.n 0 0, .ptr (h.n + 1) 0 0, .int .i64 0, .ptr (h.n + 1 + 1) 0 0, .int .i64 n', .int .i64 (i : Nat), v9, v10, .junk, .junk, .junk, .bool true, v15, v16, .junk, .junk] ∧ G'.Wf ∧ Mv h F J b h' G' [h.n + 1 + 1, h.n + 1, h.n] [] ∧
        (h'.cell h.n = some [[.int .i64 4, .int .i64 x.n, v]] ∧ h'.cell (h.n + 1) = some [[.int .i64 0, .int .i64 0, .nils]] ∧ h'.cell (h.n + 1 + 1) = some [[.int .i64 4, .int .i64 x.n, .nils]]) ∧ capG (ks.drop i) G' n' = capG ks G x.n) ks.length ⟨_, _, _, _, G, x.n, rfl, hW, m1, ⟨push3_0, push3_1, push3_same⟩, rfl⟩ ?_ ?_
      · rintro i V h' hi ⟨v9, v10, v15, v16, G', n', rfl, hW', mv, ⟨c1, c2, c3⟩, hq⟩ next
        have hlt : (i : Int) < (ks.length : Int) := by omega
        have hw := w64 (n := (i : Int) + 1) (by omega) (by omega)
        obtain ⟨k, hk'⟩ : ∃ k, ks[i]? = some k := ⟨_, List.getElem?_eq_getElem hi⟩
        have i1 := hg.ix .i64 i [.int .i64 k] (by simp [hk'])
        have hd : ks.drop i = k :: ks.drop (i + 1) := by
          obtain ⟨hi', rfl⟩ := List.getElem?_eq_some_iff.1 hk'
          exact List.drop_eq_getElem_cons hi'
        obtain ⟨h2, e2, mv2, k1, -, -⟩ := mv.call fun F J g => n_Derive g hW' n' 15 k
        rw [hd, capG_cons] at hq
        have f1 : h2.cell h.n = some [[.int .i64 4, .int .i64 x.n, v]] := (k1 _ (by simp)).trans c1
        have f2 : h2.cell (h.n + 1) = some [[.int .i64 0, .int .i64 0, .nils]] := (k1 _ (by simp)).trans c2
        have f3 : h2.cell (h.n + 1 + 1) = some [[.int .i64 4, .int .i64 x.n, .nils]] := (k1 _ (by simp)).trans c3
        by_cases hz : (G'.derive n' 15 k).2.2 = 0
        · rw [if_neg (by simp [hz])] at hq
          rw [hz] at e2
          rw [r_lpb rc_handed_b2.eq_1]
          simp only [sim, List.length_cons, List.length_nil, Nat.reduceAdd, Nat.reduceSub, List.replicate, List.cons_append, List.nil_append, List.map_cons, List.map_nil, Option.bind_some, Option.map_some, Option.bind_none, Option.map_none, if_true, if_false, decide_true, decide_false, Bool.false_eq_true, Bool.true_eq_false, Bool.not_true, Bool.not_false, reduceCtorEq, Bool.and_true, Bool.true_and, Bool.and_false, Bool.false_and, Bool.or_true, Bool.true_or, Bool.or_false, Bool.false_or, true_and, and_true, false_and, and_false, List.take_zero, List.take_succ_cons, List.drop_zero, List.drop_succ_cons, List.take_nil, List.drop_nil, List.set_cons_zero, List.set_cons_succ, Nat.reduceLeDiff, Nat.reduceLT, Nat.zero_add, Nat.lt_add_one, Nat.le_refl, clearA, Int.toNat_natCast, gl, gf, hlt, i1, e2, hw]
          exact next _ _ ⟨_, _, _, _, _, _, rfl, hW'.derive _ _ _, mv2, ⟨f1, f2, f3⟩, hq⟩
        · rw [if_pos hz] at hq
          have hz2 : (capG ks G x.n).2.2 ≠ 0 := by rw [← hq]; exact hz
          rw [if_pos hz2] at hve
          rw [r_lpb rc_handed_b2.eq_1]
          simp only [sim, List.length_cons, List.length_nil, Nat.reduceAdd, Nat.reduceSub, List.replicate, List.cons_append, List.nil_append, List.map_cons, List.map_nil, Option.bind_some, Option.map_some, Option.bind_none, Option.map_none, if_true, if_false, decide_true, decide_false, Bool.false_eq_true, Bool.true_eq_false, Bool.not_true, Bool.not_false, reduceCtorEq, Bool.and_true, Bool.true_and, Bool.and_false, Bool.false_and, Bool.or_true, Bool.true_or, Bool.or_false, Bool.false_or, true_and, and_true, false_and, and_false, List.take_zero, List.take_succ_cons, List.drop_zero, List.drop_succ_cons, List.take_nil, List.drop_nil, List.set_cons_zero, List.set_cons_succ, Nat.reduceLeDiff, Nat.reduceLT, Nat.zero_add, Nat.lt_add_one, Nat.le_refl, clearA, Int.toNat_natCast, gl, gf, hlt, i1, e2, hz, f2]
          refine hR _ _ (.tup [.agg [.int .i64 0, .int .i64 0, .nils], .int .i64 (G'.derive n' 15 k).2.2]) (by simp only [sim, List.length_cons, List.length_nil, Nat.reduceAdd, Nat.reduceSub, List.replicate, List.cons_append, List.nil_append, List.map_cons, List.map_nil, Option.bind_some, Option.map_some, Option.bind_none, Option.map_none, if_true, if_false, decide_true, decide_false, Bool.false_eq_true, Bool.true_eq_false, Bool.not_true, Bool.not_false, reduceCtorEq, Bool.and_true, Bool.true_and, Bool.and_false, Bool.false_and, Bool.or_true, Bool.true_or, Bool.or_false, Bool.false_or, true_and, and_true, false_and, and_false, List.take_zero, List.take_succ_cons, List.drop_zero, List.drop_succ_cons, List.take_nil, List.drop_nil, List.set_cons_zero, List.set_cons_succ, Nat.reduceLeDiff, Nat.reduceLT, Nat.zero_add, Nat.lt_add_one, Nat.le_refl, clearA, Int.toNat_natCast]) ⟨⟨_, by rw [hve, ← hq], ?_⟩, ?_⟩
          · rw [hve]
            exact zero_va
          · rw [hve, ← hq]
            exact (mv2.set (by simp) _).did
      · rintro V h' ⟨v9, v10, v15, v16, G', n', rfl, hW', mv, ⟨c1, c2, c3⟩, hq⟩
        have hlt : ¬ (ks.length : Int) < (ks.length : Int) := by omega
        rw [List.drop_length] at hq
        have hz : (capG ks G x.n).2.2 = 0 := by rw [← hq]; rfl
        have hn' : (capG ks G x.n).2.1 = n' := by rw [← hq]; rfl
        have hG' : (capG ks G x.n).1 = G' := by rw [← hq]; rfl
        rw [if_neg (by simp [hz]), hG', hn'] at hve
        rw [r_lpb rc_handed_b2.eq_1]
        simp only [sim, List.length_cons, List.length_nil, Nat.reduceAdd, Nat.reduceSub, List.replicate, List.cons_append, List.nil_append, List.map_cons, List.map_nil, Option.bind_some, Option.map_some, Option.bind_none, Option.map_none, if_true, if_false, decide_true, decide_false, Bool.false_eq_true, Bool.true_eq_false, Bool.not_true, Bool.not_false, reduceCtorEq, Bool.and_true, Bool.true_and, Bool.and_false, Bool.false_and, Bool.or_true, Bool.true_or, Bool.or_false, Bool.false_or, true_and, and_true, false_and, and_false, List.take_zero, List.take_succ_cons, List.drop_zero, List.drop_succ_cons, List.take_nil, List.drop_nil, List.set_cons_zero, List.set_cons_succ, Nat.reduceLeDiff, Nat.reduceLT, Nat.zero_add, Nat.lt_add_one, Nat.le_refl, clearA, Int.toNat_natCast, gl, gf, hlt, c3]
        refine rest Q _ G' n' _ _ _ _ _ _ _ _ hW' (mv.set (by simp) _) ?_ ?_ set_same (fun V h'' v' e hr hd => ?_)
        · rw [set_ne (by omega)]; exact c1
        · rw [set_ne (by omega)]; exact c2
        · obtain ⟨r', rfl, hr⟩ := hr
          by_cases hz2 : (valsG ks x.l G').2.2 = 0
          · rw [if_neg (by simp [hz2])] at hr hve
            exact hR _ _ _ e ⟨⟨r', by rw [hve, hz2], by rw [hve]; exact hr⟩, by rw [hve]; exact hd⟩
          · rw [if_pos hz2] at hr hve
            exact hR _ _ _ e ⟨⟨r', by rw [hve], by rw [hve]; exact hr⟩, by rw [hve]; exact hd⟩
    · have hh : headG ks G x.kind x.n = (G, x.n, 0) := by rw [headG, if_neg h4]
      rw [hh] at hve
      rw [if_neg (by simp)] at hve
      simp only [sim, List.length_cons, List.length_nil, Nat.reduceAdd, Nat.reduceSub, List.replicate, List.cons_append, List.nil_append, List.map_cons, List.map_nil, Option.bind_some, Option.map_some, Option.bind_none, Option.map_none, if_true, if_false, decide_true, decide_false, Bool.false_eq_true, Bool.true_eq_false, Bool.not_true, Bool.not_false, reduceCtorEq, Bool.and_true, Bool.true_and, Bool.and_false, Bool.false_and, Bool.or_true, Bool.true_or, Bool.or_false, Bool.false_or, true_and, and_true, false_and, and_false, List.take_zero, List.take_succ_cons, List.drop_zero, List.drop_succ_cons, List.take_nil, List.drop_nil, List.set_cons_zero, List.set_cons_succ, Nat.reduceLeDiff, Nat.reduceLT, Nat.zero_add, Nat.lt_add_one, Nat.le_refl, clearA, Int.toNat_natCast, hv, h4]
      refine rest Q _ G x.n _ _ _ _ _ _ _ _ hW m1 push3_0 push3_1 push3_same (fun V h'' v' e hr hd => ?_)
      obtain ⟨r', rfl, hr⟩ := hr
      by_cases hz2 : (valsG ks x.l G).2.2 = 0
      · rw [if_neg (by simp [hz2])] at hr hve
        exact hR _ _ _ e ⟨⟨r', by rw [hve, hz2], by rw [hve]; exact hr⟩, by rw [hve]; exact hd⟩
      · rw [if_pos hz2] at hr hve
        exact hR _ _ _ e ⟨⟨r', by rw [hve], by rw [hve]; exact hr⟩, by rw [hve]; exact hd⟩
theorem Passed_run {gv : AV} {ks : List Int} (hg : IsL 3 gv (intsA ks)) (hk : ks.length ≤ 1000000) {x : VD} {r : List AV} (g : IsG h F J b G) (hW : G.Wf) (hx : VaA x r) :
    ∃ h', (∃ r', runF Try.prog po 31 [.ptr b 0 0, .agg r, gv] h = some (.inl (.tup [.agg r', .int .i64 (acrossG ks G x).2.2]), h') ∧ VaA (acrossG ks G x).2.1 r') ∧ DidG h F J b h' (acrossG ks G x).1 := by
  obtain ⟨o1, o2⟩ := hx.one
  have m1 := ((Mv.start g).push [r]).push [[.int .i64 0, .int .i64 0, .nils]]
  obtain ⟨F2, J2, g2⟩ := m1.isG
  have e1 := n_MayPass g2 hW hx
  suffices key : ∃ v h', runF Try.prog po 31 [.ptr b 0 0, .agg r, gv] h = some (.inl v, h') ∧ ((∃ r', v = .tup [.agg r', .int .i64 (acrossG ks G x).2.2] ∧ VaA (acrossG ks G x).2.1 r') ∧ DidG h F J b h' (acrossG ks G x).1) by
    obtain ⟨_, h', e, ⟨r', rfl, h2⟩, h3⟩ := key
    exact ⟨h', ⟨r', e, h2⟩, h3⟩
  refine runF_J (R := fun v h' => (∃ r', v = .tup [.agg r', .int .i64 (acrossG ks G x).2.2] ∧ VaA (acrossG ks G x).2.1 r') ∧ DidG h F J b h' (acrossG ks G x).1) fn_Passed rfl fun Q hR => ?_; unfold rc_Passed
  by_cases hz : mayG G x = 0
  · have ha : acrossG ks G x = valG ks x G := by rw [acrossG, if_neg (by simp [hz])]
    rw [ha] at hR
    rw [hz] at e1
    have hs : x.size ≤ 100000 := by
      have : x.code = 0 := by
        unfold mayG at hz
        split at hz
        · exact hz
        · rename_i hc
          simpa using hc
      have := code_few this
      omega
    obtain ⟨h2, ⟨v2, e2, r', rfl, x2⟩, mv2, k1, k2, k3⟩ := m1.call (R := fun h2 => ∃ v2, runF Try.prog po 61 [.ptr b 0 0, .agg r, gv] _ = some (.inl v2, h2) ∧ ∃ r', v2 = .tup [.agg r', .int .i64 (valG ks x G).2.2] ∧ VaA (valG ks x G).2.1 r') (G' := (valG ks x G).1) fun F2 J2 g2 => by
      obtain ⟨v2, h2, e2, r2, d2⟩ := handed_run hg hk _ x (Nat.le_refl _) hs r _ F2 J2 G g2 hW hx
      exact ⟨h2, ⟨v2, e2, r2⟩, d2⟩
    have f2 : h2.cell (h.n + 1) = some [[.int .i64 0, .int .i64 0, .nils]] := (k1 _ (by simp [push_n])).trans push2_same
    obtain ⟨o3, o4⟩ := x2.one
    simp only [sim, List.length_cons, List.length_nil, Nat.reduceAdd, Nat.reduceSub, List.replicate, List.cons_append, List.nil_append, List.map_cons, List.map_nil, Option.bind_some, Option.map_some, Option.bind_none, Option.map_none, if_true, if_false, decide_true, decide_false, Bool.false_eq_true, Bool.true_eq_false, Bool.not_true, Bool.not_false, reduceCtorEq, Bool.and_true, Bool.true_and, Bool.and_false, Bool.false_and, Bool.or_true, Bool.true_or, Bool.or_false, Bool.false_or, true_and, and_true, false_and, and_false, List.take_zero, List.take_succ_cons, List.drop_zero, List.drop_succ_cons, List.take_nil, List.drop_nil, List.set_cons_zero, List.set_cons_succ, Nat.reduceLeDiff, Nat.reduceLT, Nat.zero_add, Nat.lt_add_one, Nat.le_refl, clearA, Int.toNat_natCast, o1, o2, ld_all o2, push2_old, e1, e2, o3, o4, f2]
    exact hR _ _ (.tup [.agg r', .int .i64 (valG ks x G).2.2]) (by simp only [sim, List.length_cons, List.length_nil, Nat.reduceAdd, Nat.reduceSub, List.replicate, List.cons_append, List.nil_append, List.map_cons, List.map_nil, Option.bind_some, Option.map_some, Option.bind_none, Option.map_none, if_true, if_false, decide_true, decide_false, Bool.false_eq_true, Bool.true_eq_false, Bool.not_true, Bool.not_false, reduceCtorEq, Bool.and_true, Bool.true_and, Bool.and_false, Bool.false_and, Bool.or_true, Bool.true_or, Bool.or_false, Bool.false_or, true_and, and_true, false_and, and_false, List.take_zero, List.take_succ_cons, List.drop_zero, List.drop_succ_cons, List.take_nil, List.drop_nil, List.set_cons_zero, List.set_cons_succ, Nat.reduceLeDiff, Nat.reduceLT, Nat.zero_add, Nat.lt_add_one, Nat.le_refl, clearA, Int.toNat_natCast, o3, o4, ld_all o4]) ⟨⟨_, rfl, x2⟩, (mv2.set (by simp [push_n]) _).did⟩
  · have ha : acrossG ks G x = (G, zeroV, mayG G x) := by rw [acrossG, if_pos hz]
    rw [ha] at hR
    simp only [sim, List.length_cons, List.length_nil, Nat.reduceAdd, Nat.reduceSub, List.replicate, List.cons_append, List.nil_append, List.map_cons, List.map_nil, Option.bind_some, Option.map_some, Option.bind_none, Option.map_none, if_true, if_false, decide_true, decide_false, Bool.false_eq_true, Bool.true_eq_false, Bool.not_true, Bool.not_false, reduceCtorEq, Bool.and_true, Bool.true_and, Bool.and_false, Bool.false_and, Bool.or_true, Bool.true_or, Bool.or_false, Bool.false_or, true_and, and_true, false_and, and_false, List.take_zero, List.take_succ_cons, List.drop_zero, List.drop_succ_cons, List.take_nil, List.drop_nil, List.set_cons_zero, List.set_cons_succ, Nat.reduceLeDiff, Nat.reduceLT, Nat.zero_add, Nat.lt_add_one, Nat.le_refl, clearA, Int.toNat_natCast, o1, o2, ld_all o2, push2_old, e1, hz]
    exact hR _ _ (.tup [.agg [.int .i64 0, .int .i64 0, .nils], .int .i64 (mayG G x)]) (by simp only [sim, List.length_cons, List.length_nil, Nat.reduceAdd, Nat.reduceSub, List.replicate, List.cons_append, List.nil_append, List.map_cons, List.map_nil, Option.bind_some, Option.map_some, Option.bind_none, Option.map_none, if_true, if_false, decide_true, decide_false, Bool.false_eq_true, Bool.true_eq_false, Bool.not_true, Bool.not_false, reduceCtorEq, Bool.and_true, Bool.true_and, Bool.and_false, Bool.false_and, Bool.or_true, Bool.true_or, Bool.or_false, Bool.false_or, true_and, and_true, false_and, and_false, List.take_zero, List.take_succ_cons, List.drop_zero, List.drop_succ_cons, List.take_nil, List.drop_nil, List.set_cons_zero, List.set_cons_succ, Nat.reduceLeDiff, Nat.reduceLT, Nat.zero_add, Nat.lt_add_one, Nat.le_refl, clearA, Int.toNat_natCast]) ⟨⟨_, rfl, zero_va⟩, m1.did⟩
end
end Go.Proofs.Ytioladnogpfeeaa
