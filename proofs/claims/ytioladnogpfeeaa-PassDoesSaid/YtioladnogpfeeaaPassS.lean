/- pass in the plain model: may it be handed on; the mover. -/
import Derived.Test.YtioladnogpfeeaaCPass
import Derived.Test.YtioladnogpfeeaaMvG
import Derived.Test.YtioladnogpfeeaaGraphLaw3
namespace Go.Proofs.Ytioladnogpfeeaa
set_option linter.unusedSimpArgs false
set_option linter.unusedVariables false
open Go

theorem has_four {x : BitVec 64} : hasI x.toInt 4 = bitI x.toInt 2 := by
  have h4 : (4 : Int) = (4#64).toInt := by decide
  rw [h4, hasI_vec, bit_vec x (by omega)]
  have e : (4#64) = BitVec.twoPow 64 2 := by decide
  cases hb : x.getLsbD 2
  · refine decide_eq_false fun h => ?_
    have := congrArg (fun v : BitVec 64 => v.getLsbD 2) h
    simp only [BitVec.getLsbD_and, hb, Bool.false_and] at this
    exact absurd this (by decide)
  · refine decide_eq_true (BitVec.eq_of_getLsbD_eq fun i hi => ?_)
    rw [BitVec.getLsbD_and, e, BitVec.getLsbD_twoPow]
    by_cases h2 : 2 = i
    · subst h2
      simp [hb]
    · simp [h2]

section
variable {h : AH} {F J : Nat → Prop} {b : Nat} {G : GraphD}
abbrev tGone : TypeId := 94
theorem pan_l0 {C : CallR} {nv : Nat} {d : RD} {is : List RI} {k : List RK} {V L : List AV} {q : TypeId} {v : AV} : runR C nv (.ops (.i d (.pan (.l 0)) :: is) :: k) V (.iface q v :: L) h = some (.panic (.iface q v), V, h) := r_pan rfl
theorem pfail_yes (c : Int) : runF Try.prog po 95 [.bool true, .int .i64 c] h = some (.inr (.iface tGone (.int .i64 c)), h) := by
  refine runF_R fn_pfail rfl ?_; unfold rc_pfail
  simp only [sim, List.length_cons, List.length_nil, Nat.reduceAdd, Nat.reduceSub, List.replicate, List.cons_append, List.nil_append, List.map_cons, List.map_nil, Option.bind_some, Option.map_some, Option.bind_none, Option.map_none, if_true, if_false, decide_true, decide_false, Bool.false_eq_true, Bool.true_eq_false, Bool.not_true, Bool.not_false, reduceCtorEq, Bool.and_true, Bool.true_and, Bool.and_false, Bool.false_and, Bool.or_true, Bool.true_or, Bool.or_false, Bool.false_or, true_and, and_true, false_and, and_false, List.take_zero, List.take_succ_cons, List.drop_zero, List.drop_succ_cons, List.take_nil, List.drop_nil, List.set_cons_zero, List.set_cons_succ, Nat.reduceLeDiff, Nat.reduceLT, Nat.zero_add, Nat.lt_add_one, Nat.le_refl, clearA, Int.toNat_natCast, mkiR, pan_l0, fg_yesP (GrewA.refl h) (rfl : wkA (.iface tGone (.int .i64 c)) = _)]
theorem pfail_no (c : Int) : runF Try.prog po 95 [.bool false, .int .i64 c] h = some (.inl (.tup []), h) := by
  refine runF_R fn_pfail rfl ?_; unfold rc_pfail
  simp only [sim, List.length_cons, List.length_nil, Nat.reduceAdd, Nat.reduceSub, List.replicate, List.cons_append, List.nil_append, List.map_cons, List.map_nil, Option.bind_some, Option.map_some, Option.bind_none, Option.map_none, if_true, if_false, decide_true, decide_false, Bool.false_eq_true, Bool.true_eq_false, Bool.not_true, Bool.not_false, reduceCtorEq, Bool.and_true, Bool.true_and, Bool.and_false, Bool.false_and, Bool.or_true, Bool.true_or, Bool.or_false, Bool.false_or, true_and, and_true, false_and, and_false, List.take_zero, List.take_succ_cons, List.drop_zero, List.drop_succ_cons, List.take_nil, List.drop_nil, List.set_cons_zero, List.set_cons_succ, Nat.reduceLeDiff, Nat.reduceLT, Nat.zero_add, Nat.lt_add_one, Nat.le_refl, clearA, Int.toNat_natCast, fg_yes (GrewA.refl h) (rfl : wkA (.tup []) = _)]
theorem r_Has4 (g : GraphD) (hW : g.Wf) (i : Int) : runF Try.prog po 57 [.int .i64 (g.rights i), .int .i64 4] h = some (.inl (.bool (bitI (g.rights i) 2)), h) := by
  obtain ⟨x, hx⟩ := rights_vec hW i
  have e : hasI (g.rights i) 4 = bitI (g.rights i) 2 := by rw [hx]; exact has_four
  rw [← e]
  refine runF_R fn_rHas rfl ?_; unfold rc_rHas
  simp only [sim, List.length_cons, List.length_nil, Nat.reduceAdd, Nat.reduceSub, List.replicate, List.cons_append, List.nil_append, List.map_cons, List.map_nil, Option.bind_some, Option.map_some, Option.bind_none, Option.map_none, if_true, if_false, decide_true, decide_false, Bool.false_eq_true, Bool.true_eq_false, Bool.not_true, Bool.not_false, reduceCtorEq, Bool.and_true, Bool.true_and, Bool.and_false, Bool.false_and, Bool.or_true, Bool.true_or, Bool.or_false, Bool.false_or, true_and, and_true, false_and, and_false, List.take_zero, List.take_succ_cons, List.drop_zero, List.drop_succ_cons, List.take_nil, List.drop_nil, List.set_cons_zero, List.set_cons_succ, Nat.reduceLeDiff, Nat.reduceLT, Nat.zero_add, Nat.lt_add_one, Nat.le_refl, clearA, Int.toNat_natCast]
  rfl

/-- what the mover of a capability comes to -/
def CapR (ks : List Int) (G : GraphD) (n : Int) (q : AV ⊕ AV) : Prop :=
  ((capG ks G n).2.2 = 0 ∧ q = .inl (.int .i64 (capG ks G n).2.1)) ∨ ((capG ks G n).2.2 ≠ 0 ∧ q = .inr (.iface tGone (.int .i64 (capG ks G n).2.2)))
theorem capG_cons (k : Int) (l : List Int) (G : GraphD) (n : Int) : capG (k :: l) G n = if (G.derive n 15 k).2.2 ≠ 0 then ((G.derive n 15 k).1, 0, (G.derive n 15 k).2.2) else capG l (G.derive n 15 k).1 (G.derive n 15 k).2.1 := rfl
theorem pcap_run {m : Nat} {gv : AV} {ks : List Int} (g : IsG h F J b G) (hW : G.Wf) (hm : m < h.n) (hF : ¬ F m) (hc : h.cell m = some [[.ptr b 0 0, gv]]) (hg : IsL 3 gv (intsA ks)) (hk : ks.length ≤ 1000000) (n : Int) :
    ∃ q h', runF Try.prog po 79 [.ptr m 0 0, .int .i64 n] h = some (q, h') ∧ (CapR ks G n q ∧ DidG h F J b h' (capG ks G n).1) := by
  have hl := hg.len
  have hf := hg.fits
  rw [List.length_map] at hl
  refine runF_W (Post := fun q h' => CapR ks G n q ∧ DidG h F J b h' (capG ks G n).1) fn_pcap rfl fun Q hR hP => ?_; unfold rc_pcap
  simp only [sim, List.length_cons, List.length_nil, Nat.reduceAdd, Nat.reduceSub, List.replicate, List.cons_append, List.nil_append, List.map_cons, List.map_nil, Option.bind_some, Option.map_some, Option.bind_none, Option.map_none, if_true, if_false, decide_true, decide_false, Bool.false_eq_true, Bool.true_eq_false, Bool.not_true, Bool.not_false, reduceCtorEq, Bool.and_true, Bool.true_and, Bool.and_false, Bool.false_and, Bool.or_true, Bool.true_or, Bool.or_false, Bool.false_or, true_and, and_true, false_and, and_false, List.take_zero, List.take_succ_cons, List.drop_zero, List.drop_succ_cons, List.take_nil, List.drop_nil, List.set_cons_zero, List.set_cons_succ, Nat.reduceLeDiff, Nat.reduceLT, Nat.zero_add, Nat.lt_add_one, Nat.le_refl, clearA, Int.toNat_natCast, hc, hl, hf]
  refine loop_Q (fun i V h' => ∃ v3 v4 v5 v9 G' n', V = [.ptr m 0 0, .int .i64 n', .int .i64 0, v3, v4, v5, gv, .int .i64 ks.length, .int .i64 (i : Nat), v9] ∧ G'.Wf ∧ Mv h F J b h' G' [] [] ∧ capG (ks.drop i) G' n' = capG ks G n) ks.length ⟨_, _, _, _, G, n, rfl, hW, Mv.start g, rfl⟩ ?_ ?_
  · rintro i V h' hi ⟨v3, v4, v5, v9, G', n', rfl, hW', mv, he⟩ next
    have hlt : (i : Int) < (ks.length : Int) := by omega
    have hw := w64 (n := (i : Int) + 1) (by omega) (by omega)
    obtain ⟨k, hk'⟩ : ∃ k, ks[i]? = some k := ⟨_, List.getElem?_eq_getElem hi⟩
    have i1 := hg.ix .i64 i [.int .i64 k] (by simp [hk'])
    have hd : ks.drop i = k :: ks.drop (i + 1) := by
      obtain ⟨hi', rfl⟩ := List.getElem?_eq_some_iff.1 hk'
      exact List.drop_eq_getElem_cons hi'
    have hc' : h'.cell m = some [[.ptr b 0 0, gv]] := (mv.old hm hF).trans hc
    obtain ⟨h2, e2, mv2, -, -, -⟩ := mv.call fun F J g => g_Derive g hW' n' 15 k
    rw [hd, capG_cons] at he
    by_cases hz : (G'.derive n' 15 k).2.2 = 0
    · rw [if_neg (by simp [hz])] at he
      have ef := fun h => pfail_no (h := h) 0
      rw [hz] at e2
      rw [r_lpb rc_pcap_b1.eq_1]
      simp only [sim, List.length_cons, List.length_nil, Nat.reduceAdd, Nat.reduceSub, List.replicate, List.cons_append, List.nil_append, List.map_cons, List.map_nil, Option.bind_some, Option.map_some, Option.bind_none, Option.map_none, if_true, if_false, decide_true, decide_false, Bool.false_eq_true, Bool.true_eq_false, Bool.not_true, Bool.not_false, reduceCtorEq, Bool.and_true, Bool.true_and, Bool.and_false, Bool.false_and, Bool.or_true, Bool.true_or, Bool.or_false, Bool.false_or, true_and, and_true, false_and, and_false, List.take_zero, List.take_succ_cons, List.drop_zero, List.drop_succ_cons, List.take_nil, List.drop_nil, List.set_cons_zero, List.set_cons_succ, Nat.reduceLeDiff, Nat.reduceLT, Nat.zero_add, Nat.lt_add_one, Nat.le_refl, clearA, Int.toNat_natCast, hlt, i1, hc', e2, ef, hw]
      exact next _ _ ⟨_, _, _, _, _, _, rfl, hW'.derive _ _ _, mv2, he⟩
    · rw [if_pos hz] at he
      have ef := fun h => pfail_yes (h := h) (G'.derive n' 15 k).2.2
      rw [r_lpb rc_pcap_b1.eq_1]
      simp only [sim, List.length_cons, List.length_nil, Nat.reduceAdd, Nat.reduceSub, List.replicate, List.cons_append, List.nil_append, List.map_cons, List.map_nil, Option.bind_some, Option.map_some, Option.bind_none, Option.map_none, if_true, if_false, decide_true, decide_false, Bool.false_eq_true, Bool.true_eq_false, Bool.not_true, Bool.not_false, reduceCtorEq, Bool.and_true, Bool.true_and, Bool.and_false, Bool.false_and, Bool.or_true, Bool.true_or, Bool.or_false, Bool.false_or, true_and, and_true, false_and, and_false, List.take_zero, List.take_succ_cons, List.drop_zero, List.drop_succ_cons, List.take_nil, List.drop_nil, List.set_cons_zero, List.set_cons_succ, Nat.reduceLeDiff, Nat.reduceLT, Nat.zero_add, Nat.lt_add_one, Nat.le_refl, clearA, Int.toNat_natCast, hlt, i1, hc', e2, hz, ef]
      refine hP _ _ _ ⟨.inr ?_, ?_⟩
      · rw [← he]
        exact ⟨hz, rfl⟩
      · rw [← he]
        exact mv2.did
  · rintro V h' ⟨v3, v4, v5, v9, G', n', rfl, hW', mv, he⟩
    have hlt : ¬ (ks.length : Int) < (ks.length : Int) := by omega
    rw [List.drop_length] at he
    rw [r_lpb rc_pcap_b1.eq_1]
    simp only [sim, List.length_cons, List.length_nil, Nat.reduceAdd, Nat.reduceSub, List.replicate, List.cons_append, List.nil_append, List.map_cons, List.map_nil, Option.bind_some, Option.map_some, Option.bind_none, Option.map_none, if_true, if_false, decide_true, decide_false, Bool.false_eq_true, Bool.true_eq_false, Bool.not_true, Bool.not_false, reduceCtorEq, Bool.and_true, Bool.true_and, Bool.and_false, Bool.false_and, Bool.or_true, Bool.true_or, Bool.or_false, Bool.false_or, true_and, and_true, false_and, and_false, List.take_zero, List.take_succ_cons, List.drop_zero, List.drop_succ_cons, List.take_nil, List.drop_nil, List.set_cons_zero, List.set_cons_succ, Nat.reduceLeDiff, Nat.reduceLT, Nat.zero_add, Nat.lt_add_one, Nat.le_refl, clearA, Int.toNat_natCast, hlt]
    refine hR _ _ _ rfl ⟨.inl ?_, ?_⟩
    · rw [← he]
      exact ⟨rfl, rfl⟩
    · rw [← he]
      exact mv.did

theorem may_loop {G : GraphD} (hW : G.Wf) (l : List Int) : ∀ (i : Nat) (n : Int), l[i]? = some n → (l.drop i).any (fun n => !bitI (G.rights n) 2) = (!bitI (G.rights n) 2 || (l.drop (i + 1)).any fun n => !bitI (G.rights n) 2) := by
  intro i n hn
  obtain ⟨hi, rfl⟩ := List.getElem?_eq_some_iff.1 hn
  rw [List.drop_eq_getElem_cons hi, List.any_cons]
theorem code_few {x : VD} (h : x.code = 0) : x.size ≤ 40 := by
  unfold VD.code at h
  split at h
  · cases h
  · omega
theorem pMay_run (g : IsG h F J b G) (hW : G.Wf) {x : VD} {r : List AV} (hx : VaA x r) : runF Try.prog po 29 [.ptr b 0 0, .agg r] h = some (.inl (.int .i64 (mayG G x)), h) := by
  obtain ⟨o1, o2⟩ := hx.one
  have e1 := fun h => vCheck_run (h := h) hx
  unfold mayG
  by_cases hc : x.code = 0
  · have hs := code_few hc
    have e2 := fun h => vGates_run _ x (Nat.le_refl _) (by omega) r h hx
    rw [if_neg (by simp [hc])]
    cases hgt : x.gate
    · have e3 := fun h => vCaps_run _ x (Nat.le_refl _) (by omega) r h hx
      have il := isL_lst 3 (intsA x.caps)
      have hl := il.len
      have hf := il.fits
      rw [List.length_map] at hl
      have cf := x.caps_few
      simp only [hgt] at e2
      simp only [Bool.false_eq_true, if_false]
      refine runF_E fn_pMay rfl fun Q hQ => ?_; unfold rc_pMay
      simp only [sim, List.length_cons, List.length_nil, Nat.reduceAdd, Nat.reduceSub, List.replicate, List.cons_append, List.nil_append, List.map_cons, List.map_nil, Option.bind_some, Option.map_some, Option.bind_none, Option.map_none, if_true, if_false, decide_true, decide_false, Bool.false_eq_true, Bool.true_eq_false, Bool.not_true, Bool.not_false, reduceCtorEq, Bool.and_true, Bool.true_and, Bool.and_false, Bool.false_and, Bool.or_true, Bool.true_or, Bool.or_false, Bool.false_or, true_and, and_true, false_and, and_false, List.take_zero, List.take_succ_cons, List.drop_zero, List.drop_succ_cons, List.take_nil, List.drop_nil, List.set_cons_zero, List.set_cons_succ, Nat.reduceLeDiff, Nat.reduceLT, Nat.zero_add, Nat.lt_add_one, Nat.le_refl, clearA, Int.toNat_natCast, o1, o2, ld_all o2, e1, hc, e2, e3, hl, hf]
      refine loop_Q (fun i V h' => ∃ v5 v11 v12, V = [.ptr b 0 0, .agg r, .ptr h.n 0 0, .int .i64 0, .int .i64 0, v5, .bool false, .bool false, lstA 3 (intsA x.caps), .int .i64 x.caps.length, .int .i64 (i : Nat), v11, v12] ∧ GrewA h h' ∧ (x.caps.drop i).any (fun n => !bitI (G.rights n) 2) = x.caps.any fun n => !bitI (G.rights n) 2) x.caps.length ⟨_, _, _, rfl, (by repeat (first | exact GrewA.refl _ | refine GrewA.trans ?_ (GrewA.push _ _) | refine GrewA.trans ?_ (GrewA.fresh _ _))), rfl⟩ ?_ ?_
      · rintro i V h' hi ⟨v5, v11, v12, rfl, gr, he⟩ next
        have hlt : (i : Int) < (x.caps.length : Int) := by omega
        have hw := w64 (n := (i : Int) + 1) (by omega) (by omega)
        obtain ⟨n, hn⟩ : ∃ n, x.caps[i]? = some n := ⟨_, List.getElem?_eq_getElem hi⟩
        have i1 := il.ix .i64 i [.int .i64 n] (by simp [hn])
        have e4 := g_Rights (g.grew gr) hW n
        have e5 := fun h => r_Has4 (h := h) G hW n
        rw [may_loop hW _ _ _ hn] at he
        cases hb : bitI (G.rights n) 2
        · rw [hb] at he
          simp only [hb] at e5
          rw [r_lpb rc_pMay_b1.eq_1]
          simp only [sim, List.length_cons, List.length_nil, Nat.reduceAdd, Nat.reduceSub, List.replicate, List.cons_append, List.nil_append, List.map_cons, List.map_nil, Option.bind_some, Option.map_some, Option.bind_none, Option.map_none, if_true, if_false, decide_true, decide_false, Bool.false_eq_true, Bool.true_eq_false, Bool.not_true, Bool.not_false, reduceCtorEq, Bool.and_true, Bool.true_and, Bool.and_false, Bool.false_and, Bool.or_true, Bool.true_or, Bool.or_false, Bool.false_or, true_and, and_true, false_and, and_false, List.take_zero, List.take_succ_cons, List.drop_zero, List.drop_succ_cons, List.take_nil, List.drop_nil, List.set_cons_zero, List.set_cons_succ, Nat.reduceLeDiff, Nat.reduceLT, Nat.zero_add, Nat.lt_add_one, Nat.le_refl, clearA, Int.toNat_natCast, hlt, i1, e4, e5]
          refine hQ _ _ _ rfl gr ?_
          rw [← he]
          rfl
        · rw [hb] at he
          simp only [hb] at e5
          rw [r_lpb rc_pMay_b1.eq_1]
          simp only [sim, List.length_cons, List.length_nil, Nat.reduceAdd, Nat.reduceSub, List.replicate, List.cons_append, List.nil_append, List.map_cons, List.map_nil, Option.bind_some, Option.map_some, Option.bind_none, Option.map_none, if_true, if_false, decide_true, decide_false, Bool.false_eq_true, Bool.true_eq_false, Bool.not_true, Bool.not_false, reduceCtorEq, Bool.and_true, Bool.true_and, Bool.and_false, Bool.false_and, Bool.or_true, Bool.true_or, Bool.or_false, Bool.false_or, true_and, and_true, false_and, and_false, List.take_zero, List.take_succ_cons, List.drop_zero, List.drop_succ_cons, List.take_nil, List.drop_nil, List.set_cons_zero, List.set_cons_succ, Nat.reduceLeDiff, Nat.reduceLT, Nat.zero_add, Nat.lt_add_one, Nat.le_refl, clearA, Int.toNat_natCast, hlt, i1, e4, e5, hw]
          exact next _ _ ⟨_, _, _, rfl, gr, he⟩
      · rintro V h' ⟨v5, v11, v12, rfl, gr, he⟩
        have hlt : ¬ (x.caps.length : Int) < (x.caps.length : Int) := by omega
        rw [List.drop_length] at he
        rw [r_lpb rc_pMay_b1.eq_1]
        simp only [sim, List.length_cons, List.length_nil, Nat.reduceAdd, Nat.reduceSub, List.replicate, List.cons_append, List.nil_append, List.map_cons, List.map_nil, Option.bind_some, Option.map_some, Option.bind_none, Option.map_none, if_true, if_false, decide_true, decide_false, Bool.false_eq_true, Bool.true_eq_false, Bool.not_true, Bool.not_false, reduceCtorEq, Bool.and_true, Bool.true_and, Bool.and_false, Bool.false_and, Bool.or_true, Bool.true_or, Bool.or_false, Bool.false_or, true_and, and_true, false_and, and_false, List.take_zero, List.take_succ_cons, List.drop_zero, List.drop_succ_cons, List.take_nil, List.drop_nil, List.set_cons_zero, List.set_cons_succ, Nat.reduceLeDiff, Nat.reduceLT, Nat.zero_add, Nat.lt_add_one, Nat.le_refl, clearA, Int.toNat_natCast, hlt]
        refine hQ _ _ _ rfl gr ?_
        rw [← he]
        rfl
    · simp only [hgt] at e2
      simp only [if_true]
      refine runF_E fn_pMay rfl fun Q hQ => ?_; unfold rc_pMay
      simp only [sim, List.length_cons, List.length_nil, Nat.reduceAdd, Nat.reduceSub, List.replicate, List.cons_append, List.nil_append, List.map_cons, List.map_nil, Option.bind_some, Option.map_some, Option.bind_none, Option.map_none, if_true, if_false, decide_true, decide_false, Bool.false_eq_true, Bool.true_eq_false, Bool.not_true, Bool.not_false, reduceCtorEq, Bool.and_true, Bool.true_and, Bool.and_false, Bool.false_and, Bool.or_true, Bool.true_or, Bool.or_false, Bool.false_or, true_and, and_true, false_and, and_false, List.take_zero, List.take_succ_cons, List.drop_zero, List.drop_succ_cons, List.take_nil, List.drop_nil, List.set_cons_zero, List.set_cons_succ, Nat.reduceLeDiff, Nat.reduceLT, Nat.zero_add, Nat.lt_add_one, Nat.le_refl, clearA, Int.toNat_natCast, o1, o2, ld_all o2, e1, hc, e2]
      exact hQ _ _ _ rfl (by repeat (first | exact GrewA.refl _ | refine GrewA.trans ?_ (GrewA.push _ _) | refine GrewA.trans ?_ (GrewA.fresh _ _))) rfl
  · rw [if_pos hc]
    refine runF_E fn_pMay rfl fun Q hQ => ?_; unfold rc_pMay
    simp only [sim, List.length_cons, List.length_nil, Nat.reduceAdd, Nat.reduceSub, List.replicate, List.cons_append, List.nil_append, List.map_cons, List.map_nil, Option.bind_some, Option.map_some, Option.bind_none, Option.map_none, if_true, if_false, decide_true, decide_false, Bool.false_eq_true, Bool.true_eq_false, Bool.not_true, Bool.not_false, reduceCtorEq, Bool.and_true, Bool.true_and, Bool.and_false, Bool.false_and, Bool.or_true, Bool.true_or, Bool.or_false, Bool.false_or, true_and, and_true, false_and, and_false, List.take_zero, List.take_succ_cons, List.drop_zero, List.drop_succ_cons, List.take_nil, List.drop_nil, List.set_cons_zero, List.set_cons_succ, Nat.reduceLeDiff, Nat.reduceLT, Nat.zero_add, Nat.lt_add_one, Nat.le_refl, clearA, Int.toNat_natCast, o1, o2, ld_all o2, e1, hc]
    exact hQ _ _ _ rfl (by repeat (first | exact GrewA.refl _ | refine GrewA.trans ?_ (GrewA.push _ _) | refine GrewA.trans ?_ (GrewA.fresh _ _))) rfl
theorem n_MayPass (g : IsG h F J b G) (hW : G.Wf) {x : VD} {r : List AV} (hx : VaA x r) : runF Try.prog po 30 [.ptr b 0 0, .agg r] h = some (.inl (.int .i64 (mayG G x)), h) := by
  obtain ⟨o1, o2⟩ := hx.one
  have e1 := fun h => ValFault_run (h := h) hx
  unfold mayG
  by_cases hc : x.code = 0
  · have hs := code_few hc
    have e2 := fun h => GateIn_run _ x (Nat.le_refl _) (by omega) r h hx
    rw [if_neg (by simp [hc])]
    cases hgt : x.gate
    · have e3 := fun h => CapsOf_run _ x (Nat.le_refl _) (by omega) r h hx
      have il := isL_lst 3 (intsA x.caps)
      have hl := il.len
      have hf := il.fits
      rw [List.length_map] at hl
      have cf := x.caps_few
      simp only [hgt] at e2
      simp only [Bool.false_eq_true, if_false]
      refine runF_E fn_MayPass rfl fun Q hQ => ?_; unfold rc_MayPass
      simp only [sim, List.length_cons, List.length_nil, Nat.reduceAdd, Nat.reduceSub, List.replicate, List.cons_append, List.nil_append, List.map_cons, List.map_nil, Option.bind_some, Option.map_some, Option.bind_none, Option.map_none, if_true, if_false, decide_true, decide_false, Bool.false_eq_true, Bool.true_eq_false, Bool.not_true, Bool.not_false, reduceCtorEq, Bool.and_true, Bool.true_and, Bool.and_false, Bool.false_and, Bool.or_true, Bool.true_or, Bool.or_false, Bool.false_or, true_and, and_true, false_and, and_false, List.take_zero, List.take_succ_cons, List.drop_zero, List.drop_succ_cons, List.take_nil, List.drop_nil, List.set_cons_zero, List.set_cons_succ, Nat.reduceLeDiff, Nat.reduceLT, Nat.zero_add, Nat.lt_add_one, Nat.le_refl, clearA, Int.toNat_natCast, o1, o2, ld_all o2, e1, hc, e2, e3]
      refine loop_Q (fun i V h' => ∃ v9 v10, V = [.ptr b 0 0, .agg r, .ptr h.n 0 0, .int .i64 0, .int .i64 0, lstA 3 (intsA x.caps), .int .i64 (i : Nat), .bool false, .bool false, v9, v10] ∧ GrewA h h' ∧ (x.caps.drop i).any (fun n => !bitI (G.rights n) 2) = x.caps.any fun n => !bitI (G.rights n) 2) x.caps.length ⟨_, _, rfl, (by repeat (first | exact GrewA.refl _ | refine GrewA.trans ?_ (GrewA.push _ _) | refine GrewA.trans ?_ (GrewA.fresh _ _))), rfl⟩ ?_ ?_
      · rintro i V h' hi ⟨v9, v10, rfl, gr, he⟩ next
        have hlt : (i : Int) < (x.caps.length : Int) := by omega
        have hw := w64 (n := (i : Int) + 1) (by omega) (by omega)
        obtain ⟨n, hn⟩ : ∃ n, x.caps[i]? = some n := ⟨_, List.getElem?_eq_getElem hi⟩
        have i1 := il.ix .i64 i [.int .i64 n] (by simp [hn])
        have e4 := n_Rights (g.grew gr) hW n
        have e5 : ∀ h, runF Try.prog po 59 [.int .i64 (G.rights n), .int .i64 2] h = some (.inl (.bool (bitI (G.rights n) 2)), h) := fun h => r_Bit (G.rights n) 2 (by omega)
        rw [may_loop hW _ _ _ hn] at he
        cases hb : bitI (G.rights n) 2
        · rw [hb] at he
          simp only [hb] at e5
          rw [r_lpb rc_MayPass_b1.eq_1]
          simp only [sim, List.length_cons, List.length_nil, Nat.reduceAdd, Nat.reduceSub, List.replicate, List.cons_append, List.nil_append, List.map_cons, List.map_nil, Option.bind_some, Option.map_some, Option.bind_none, Option.map_none, if_true, if_false, decide_true, decide_false, Bool.false_eq_true, Bool.true_eq_false, Bool.not_true, Bool.not_false, reduceCtorEq, Bool.and_true, Bool.true_and, Bool.and_false, Bool.false_and, Bool.or_true, Bool.true_or, Bool.or_false, Bool.false_or, true_and, and_true, false_and, and_false, List.take_zero, List.take_succ_cons, List.drop_zero, List.drop_succ_cons, List.take_nil, List.drop_nil, List.set_cons_zero, List.set_cons_succ, Nat.reduceLeDiff, Nat.reduceLT, Nat.zero_add, Nat.lt_add_one, Nat.le_refl, clearA, Int.toNat_natCast, hl, hf, hlt, i1, e4, e5]
          refine hQ _ _ _ rfl gr ?_
          rw [← he]
          rfl
        · rw [hb] at he
          simp only [hb] at e5
          rw [r_lpb rc_MayPass_b1.eq_1]
          simp only [sim, List.length_cons, List.length_nil, Nat.reduceAdd, Nat.reduceSub, List.replicate, List.cons_append, List.nil_append, List.map_cons, List.map_nil, Option.bind_some, Option.map_some, Option.bind_none, Option.map_none, if_true, if_false, decide_true, decide_false, Bool.false_eq_true, Bool.true_eq_false, Bool.not_true, Bool.not_false, reduceCtorEq, Bool.and_true, Bool.true_and, Bool.and_false, Bool.false_and, Bool.or_true, Bool.true_or, Bool.or_false, Bool.false_or, true_and, and_true, false_and, and_false, List.take_zero, List.take_succ_cons, List.drop_zero, List.drop_succ_cons, List.take_nil, List.drop_nil, List.set_cons_zero, List.set_cons_succ, Nat.reduceLeDiff, Nat.reduceLT, Nat.zero_add, Nat.lt_add_one, Nat.le_refl, clearA, Int.toNat_natCast, hl, hf, hlt, i1, e4, e5, hw]
          exact next _ _ ⟨_, _, rfl, gr, he⟩
      · rintro V h' ⟨v9, v10, rfl, gr, he⟩
        have hlt : ¬ (x.caps.length : Int) < (x.caps.length : Int) := by omega
        rw [List.drop_length] at he
        rw [r_lpb rc_MayPass_b1.eq_1]
        simp only [sim, List.length_cons, List.length_nil, Nat.reduceAdd, Nat.reduceSub, List.replicate, List.cons_append, List.nil_append, List.map_cons, List.map_nil, Option.bind_some, Option.map_some, Option.bind_none, Option.map_none, if_true, if_false, decide_true, decide_false, Bool.false_eq_true, Bool.true_eq_false, Bool.not_true, Bool.not_false, reduceCtorEq, Bool.and_true, Bool.true_and, Bool.and_false, Bool.false_and, Bool.or_true, Bool.true_or, Bool.or_false, Bool.false_or, true_and, and_true, false_and, and_false, List.take_zero, List.take_succ_cons, List.drop_zero, List.drop_succ_cons, List.take_nil, List.drop_nil, List.set_cons_zero, List.set_cons_succ, Nat.reduceLeDiff, Nat.reduceLT, Nat.zero_add, Nat.lt_add_one, Nat.le_refl, clearA, Int.toNat_natCast, hl, hf, hlt]
        refine hQ _ _ _ rfl gr ?_
        rw [← he]
        rfl
    · simp only [hgt] at e2
      simp only [if_true]
      refine runF_E fn_MayPass rfl fun Q hQ => ?_; unfold rc_MayPass
      simp only [sim, List.length_cons, List.length_nil, Nat.reduceAdd, Nat.reduceSub, List.replicate, List.cons_append, List.nil_append, List.map_cons, List.map_nil, Option.bind_some, Option.map_some, Option.bind_none, Option.map_none, if_true, if_false, decide_true, decide_false, Bool.false_eq_true, Bool.true_eq_false, Bool.not_true, Bool.not_false, reduceCtorEq, Bool.and_true, Bool.true_and, Bool.and_false, Bool.false_and, Bool.or_true, Bool.true_or, Bool.or_false, Bool.false_or, true_and, and_true, false_and, and_false, List.take_zero, List.take_succ_cons, List.drop_zero, List.drop_succ_cons, List.take_nil, List.drop_nil, List.set_cons_zero, List.set_cons_succ, Nat.reduceLeDiff, Nat.reduceLT, Nat.zero_add, Nat.lt_add_one, Nat.le_refl, clearA, Int.toNat_natCast, o1, o2, ld_all o2, e1, hc, e2]
      exact hQ _ _ _ rfl (by repeat (first | exact GrewA.refl _ | refine GrewA.trans ?_ (GrewA.push _ _) | refine GrewA.trans ?_ (GrewA.fresh _ _))) rfl
  · rw [if_pos hc]
    refine runF_E fn_MayPass rfl fun Q hQ => ?_; unfold rc_MayPass
    simp only [sim, List.length_cons, List.length_nil, Nat.reduceAdd, Nat.reduceSub, List.replicate, List.cons_append, List.nil_append, List.map_cons, List.map_nil, Option.bind_some, Option.map_some, Option.bind_none, Option.map_none, if_true, if_false, decide_true, decide_false, Bool.false_eq_true, Bool.true_eq_false, Bool.not_true, Bool.not_false, reduceCtorEq, Bool.and_true, Bool.true_and, Bool.and_false, Bool.false_and, Bool.or_true, Bool.true_or, Bool.or_false, Bool.false_or, true_and, and_true, false_and, and_false, List.take_zero, List.take_succ_cons, List.drop_zero, List.drop_succ_cons, List.take_nil, List.drop_nil, List.set_cons_zero, List.set_cons_succ, Nat.reduceLeDiff, Nat.reduceLT, Nat.zero_add, Nat.lt_add_one, Nat.le_refl, clearA, Int.toNat_natCast, o1, o2, ld_all o2, e1, hc]
    exact hQ _ _ _ rfl (by repeat (first | exact GrewA.refl _ | refine GrewA.trans ?_ (GrewA.push _ _) | refine GrewA.trans ?_ (GrewA.fresh _ _))) rfl
end
end Go.Proofs.Ytioladnogpfeeaa
