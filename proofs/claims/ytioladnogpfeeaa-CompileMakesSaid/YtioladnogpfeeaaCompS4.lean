/- compile in the plain model: the instructions of a module. -/
import Derived.Test.YtioladnogpfeeaaCompS3
namespace Go.Proofs.Ytioladnogpfeeaa
set_option linter.unusedSimpArgs false
set_option linter.unusedVariables false
open Go

def fullC (x : XD) : List InsD := codeI x 0 ++ [⟨105, 0, 0⟩]
/-- functions' instructions that lie in memory -/
structure MakesV (h : AH) (v : AV) (L : List XD) : Prop where
  len : lenA v = some L.length
  fits : ∀ s, fitsR s (some tIs) v = true
  ix : ∀ (i : Nat) (x : XD), L[i]? = some x → ∃ q, ixaR (some tIs) none v (.int .i64 (i : Int)) = some (.ip [.msl q 0 (fullC x).length tI] 0) ∧ q < h.n ∧ h.cell q = some ((fullC x).map insR)
theorem MakesV.grew {h h' : AH} {v : AV} {L : List XD} (m : MakesV h v L) (g : GrewA h h') : MakesV h' v L :=
  ⟨m.len, m.fits, fun i x hx => by
    obtain ⟨q, h1, h2, h3⟩ := m.ix i x hx
    exact ⟨q, h1, Nat.lt_of_lt_of_le h2 g.n, (g.cell q h2).trans h3⟩⟩
structure Outs (h0 h : AH) (v : AV) (rows : List (List AV)) (L : List XD) : Prop where
  acc : Acc h0 h tIs v rows
  g : GrewA h0 h
  len : rows.length = L.length
  ix : ∀ (i : Nat) (x : XD), L[i]? = some x → ∃ q, rows[i]? = some [.msl q 0 (fullC x).length tI] ∧ q < h.n ∧ h.cell q = some ((fullC x).map insR)
theorem MkT.grew {b : Nat} {h0 h h' : AH} (g : GrewA h0 h) (hb : h0.n ≤ b) (hc : ∀ k, k < h0.n → ∀ m, h.cell b ≠ some [[.msl k 0 m tI]]) (x : MkT b h h') : GrewA h0 h' :=
  ⟨Nat.le_trans g.n x.n, Nat.le_trans g.ids x.ids, fun k hk => (x.old k (Nat.lt_of_lt_of_le hk g.n) (by omega) (hc k hk)).trans (g.cell k hk), fun k hk => (x.hw k (Nat.lt_of_lt_of_le hk g.ids)).trans (g.hw k hk)⟩
theorem Acc.on {h0 h h' : AH} {e : TypeId} {v : AV} {acc : List (List AV)} (a : Acc h0 h e v acc) (h1 : h.ids ≤ h'.ids) (h2 : ∀ k, k < h.ids → h'.hw k = h.hw k) : Acc h0 h' e v acc := by
  rcases a with a | ⟨id, a0, a1, a2, a3, a4⟩
  · exact .inl a
  · exact .inr ⟨id, a0, a1, Nat.lt_of_lt_of_le a2 h1, (h2 id a2).trans a3, a4⟩

theorem firstX_ok {nf : Int} : ∀ {L : List XD} {i : Nat}, (firstX nf i L).1 = 0 → firstX nf i L = (0, 0) ∧ ∀ x ∈ L, funcX nf x = 0
  | [], i, _ => ⟨rfl, by simp⟩
  | x :: L, i, h => by
    rw [firstX_cons] at h ⊢
    by_cases hf : funcX nf x = 0
    · rw [if_neg (by simp [hf])] at h ⊢
      obtain ⟨a, b⟩ := firstX_ok h
      refine ⟨a, fun y hy => ?_⟩
      rcases List.mem_cons.1 hy with e | hy
      · rw [e]
        exact hf
      · exact b y hy
    · rw [if_pos hf] at h
      exact absurd h hf
theorem check_ok {L : List XD} (h : (checkX L).1 = 0) : checkX L = (0, 0) ∧ L.length ≤ 6 ∧ ∀ x ∈ L, x.fault L.length 0 = 0 ∧ x.size ≤ 120 := by
  unfold checkX at h ⊢
  split at h
  · cases h
  · rename_i hl
    rw [if_neg hl]
    obtain ⟨a, b⟩ := firstX_ok h
    refine ⟨a, by omega, fun x hx => ?_⟩
    have := b x hx
    unfold funcX at this
    split at this
    · cases this
    · split at this
      · cases this
      · exact ⟨this, by omega⟩

section
variable {h : AH}
set_option maxHeartbeats 1000000 in
theorem kMake_run (v : AV) (L : List XD) (m : ∀ h, ModV h v L) (hL : L.length ≤ 100000) (hs : ∀ x ∈ L, x.size ≤ 100000) :
    ∃ r h', runF Try.prog po 11 [.agg [v]] h = some (.inl r, h') ∧ (∃ r0, r = .tup [r0, .agg [.int .i64 (checkX L).1, .int .i64 (checkX L).2]] ∧ GrewA h h' ∧ if (checkX L).1 = 0 then MakesV h' r0 L else r0 = .nils) := by
  have o1 := (m h).one
  have l1 := (m h).len
  have f1 := (m h).fits
  have ck := fun h => Check_run (h := h) v L (m h) hL hs
  by_cases h0 : (checkX L).1 = 0
  · obtain ⟨e, hl6, hx⟩ := check_ok h0
    rw [e] at ck ⊢
    simp only [if_true]
    refine runF_J fn_kMake rfl fun Q hQ => ?_; unfold rc_kMake
    simp only [sim, List.length_cons, List.length_nil, Nat.reduceAdd, Nat.reduceSub, List.replicate, List.cons_append, List.nil_append, List.map_cons, List.map_nil, Option.bind_some, Option.map_some, Option.bind_none, Option.map_none, if_true, if_false, decide_true, decide_false, Bool.false_eq_true, Bool.true_eq_false, Bool.not_true, Bool.not_false, reduceCtorEq, Bool.and_true, Bool.true_and, Bool.and_false, Bool.false_and, Bool.or_true, Bool.true_or, Bool.or_false, Bool.false_or, true_and, and_true, false_and, and_false, List.take_zero, List.take_succ_cons, List.drop_zero, List.drop_succ_cons, List.take_nil, List.drop_nil, List.set_cons_zero, List.set_cons_succ, Nat.reduceLeDiff, Nat.reduceLT, Nat.zero_add, Nat.lt_add_one, Nat.le_refl, clearA, Int.toNat_natCast, o1, l1, f1, ck, eq_self]
    refine loop_Q (fun i V h' => ∃ v5 v6 v7 v12 rows, V = [.agg [v], .ptr h.n 0 0, .nils, .ptr (h.n + 1) 0 0, .ptr (h.n + 1 + 1) 0 0, v5, v6, v7, .bool false, v, .int .i64 L.length, .int .i64 (i : Nat), v12] ∧
      Outs h h' v5 rows (L.take i) ∧ h.n + 1 < h'.n ∧ h'.cell (h.n + 1) = some [[.int .i64 0, .int .i64 0]]) L.length ⟨_, _, _, _, [], rfl, ⟨acc_nil _ _ _, (by repeat (first | exact GrewA.refl _ | refine GrewA.trans ?_ (GrewA.push _ _) | refine GrewA.trans ?_ (GrewA.fresh _ _))), by simp, fun i x hx => by simp at hx⟩, by simp only [push_n, set_n]; omega, ?_⟩ ?_ ?_
    · simp only [sim, push_lt, lt_s, lt_self]
    · rintro i V h' hi ⟨v5, v6, v7, v12, rows, rfl, ou, hn, c1⟩ next
      obtain ⟨y, hy⟩ : ∃ y, L[i]? = some y := ⟨_, List.getElem?_eq_getElem hi⟩
      have hym : y ∈ L := List.mem_of_getElem? hy
      obtain ⟨fy, sy⟩ := hx y hym
      obtain ⟨a, q, i1, i2, i3⟩ := (m h').ix i y hy
      have i2' := i2 _ (GrewA.refl h')
      obtain ⟨p1, p2⟩ := i3.one
      have hlt : (i : Int) < (L.length : Int) := by omega
      have hw := w64 (n := (i : Int) + 1) (by omega) (by omega)
      have m0 : MkH (h'.n + 1) [] ((h'.push [q]).push [[.nils]]) := ⟨by simp [AH.push], .nils, push2_same, .inl ⟨rfl, rfl⟩⟩
      have nc : ∀ k m, ((h'.push [q]).push [[.nils]]).cell (h'.n + 1) ≠ some [[.msl k 0 m tI]] := fun k m e => by
        rw [push2_same] at e
        simp at e
      obtain ⟨h4, e4, m4, t4⟩ := kexpr_run L.length _ y (Nat.le_refl _) 0 fy q _ _ _ i3 m0 (by simp only [List.length_nil]; omega)
      have lc := codeI_len _ y (Nat.le_refl _) 0
      obtain ⟨h5, e5, m5, t5⟩ := kput_run m4 (by simp only [List.length_append, List.length_nil]; omega) 105 0 0
      have t := t4.trans t5
      have ef : ([] : List InsD) ++ codeI y ([] : List InsD).length ++ [⟨105, 0, 0⟩] = fullC y := rfl
      rw [ef] at m5
      obtain ⟨hb5, w, c5, s5⟩ := m5
      obtain ⟨q', -, hq', rfl, cq⟩ : ∃ q', fullC y ≠ [] ∧ q' < h5.n ∧ w = .msl q' 0 (fullC y).length tI ∧ h5.cell q' = some ((fullC y).map insR) := by
        rcases s5 with ⟨e, _⟩ | s5
        · simp [fullC] at e
        · exact s5
      have g0 : GrewA h' ((h'.push [q]).push [[.nils]]) := (by repeat (first | exact GrewA.refl _ | refine GrewA.trans ?_ (GrewA.push _ _) | refine GrewA.trans ?_ (GrewA.fresh _ _)))
      have g5 : GrewA h' h5 := MkT.grew g0 (by omega) (fun k _ m => nc k m) t
      have a5 := ou.acc.on g5.ids g5.hw
      have hrl : rows.length ≤ 1000000 := by rw [ou.len, List.length_take]; omega
      obtain ⟨v5', h6, e6, a6, g6, k6, n6⟩ := acc_app a5 (ou.g.trans g5) (row := [.msl q' 0 (fullC y).length tI]) rfl hrl
      have c6 : h6.cell (h.n + 1) = some [[.int .i64 0, .int .i64 0]] := by rw [k6, g5.cell _ hn]; exact c1
      rw [r_lpb rc_kMake_b1.eq_1]
      simp only [sim, List.length_cons, List.length_nil, Nat.reduceAdd, Nat.reduceSub, List.replicate, List.cons_append, List.nil_append, List.map_cons, List.map_nil, Option.bind_some, Option.map_some, Option.bind_none, Option.map_none, if_true, if_false, decide_true, decide_false, Bool.false_eq_true, Bool.true_eq_false, Bool.not_true, Bool.not_false, reduceCtorEq, Bool.and_true, Bool.true_and, Bool.and_false, Bool.false_and, Bool.or_true, Bool.true_or, Bool.or_false, Bool.false_or, true_and, and_true, false_and, and_false, List.take_zero, List.take_succ_cons, List.drop_zero, List.drop_succ_cons, List.take_nil, List.drop_nil, List.set_cons_zero, List.set_cons_succ, Nat.reduceLeDiff, Nat.reduceLT, Nat.zero_add, Nat.lt_add_one, Nat.le_refl, clearA, Int.toNat_natCast, hlt, i1, i2', p1, p2, e4, e5, c5, e6, hw]
      refine next _ _ ⟨_, _, _, _, _, rfl, ⟨a6, g6, ?_, fun j x hj => ?_⟩, by have := g5.n; omega, c6⟩
      · rw [take_get hy, List.length_append, List.length_append, ou.len]; rfl
      · rw [take_get hy] at hj
        by_cases hji : j < (L.take i).length
        · rw [List.getElem?_append_left hji] at hj
          obtain ⟨p, z1, z2, z3⟩ := ou.ix j x hj
          exact ⟨p, by rw [List.getElem?_append_left (by rw [ou.len]; exact hji)]; exact z1, by have := g5.n; omega, by rw [k6, g5.cell _ z2]; exact z3⟩
        · rw [List.getElem?_append_right (by omega)] at hj
          have hj0 : j - (L.take i).length = 0 := by
            have := (List.getElem?_eq_some_iff.1 hj).1
            simp at this
            simp
            omega
          rw [hj0] at hj
          obtain rfl : y = x := by simpa using hj
          exact ⟨q', by rw [List.getElem?_append_right (by rw [ou.len]; omega), ou.len, hj0]; rfl, by omega, by rw [k6]; exact cq⟩
    · rintro V h' ⟨v5, v6, v7, v12, rows, rfl, ou, hn, c1⟩
      have hlt : ¬ ((L.length : Int) < (L.length : Int)) := by omega
      rw [List.take_length] at ou
      have il := isL_acc ou.acc
      rw [r_lpb rc_kMake_b1.eq_1]
      simp only [sim, List.length_cons, List.length_nil, Nat.reduceAdd, Nat.reduceSub, List.replicate, List.cons_append, List.nil_append, List.map_cons, List.map_nil, Option.bind_some, Option.map_some, Option.bind_none, Option.map_none, if_true, if_false, decide_true, decide_false, Bool.false_eq_true, Bool.true_eq_false, Bool.not_true, Bool.not_false, reduceCtorEq, Bool.and_true, Bool.true_and, Bool.and_false, Bool.false_and, Bool.or_true, Bool.true_or, Bool.or_false, Bool.false_or, true_and, and_true, false_and, and_false, List.take_zero, List.take_succ_cons, List.drop_zero, List.drop_succ_cons, List.take_nil, List.drop_nil, List.set_cons_zero, List.set_cons_succ, Nat.reduceLeDiff, Nat.reduceLT, Nat.zero_add, Nat.lt_add_one, Nat.le_refl, clearA, Int.toNat_natCast, hlt, c1]
      refine hQ _ _ (.tup [v5, .agg [.int .i64 0, .int .i64 0]]) (by simp only [sim, Option.map_some, Option.bind_some, List.set_cons_zero, List.length_cons, List.length_nil]) ⟨_, rfl, ou.g.set (by omega), ?_⟩
      refine ⟨by rw [il.len, ou.len], il.fits, fun i x hx => ?_⟩
      obtain ⟨q, z1, z2, z3⟩ := ou.ix i x hx
      have zn : q ≠ h.n + 1 := by
        rintro rfl
        rw [c1] at z3
        unfold fullC at z3
        cases hc : codeI x 0 with
        | nil => rw [hc] at z3; simp [insR] at z3
        | cons y l => rw [hc] at z3; simp [insR] at z3
      exact ⟨q, il.ix .i64 i _ z1, z2, (set_ne zn).trans z3⟩
  · simp only [h0, if_false]
    refine runF_J fn_kMake rfl fun Q hQ => ?_; unfold rc_kMake
    simp only [sim, List.length_cons, List.length_nil, Nat.reduceAdd, Nat.reduceSub, List.replicate, List.cons_append, List.nil_append, List.map_cons, List.map_nil, Option.bind_some, Option.map_some, Option.bind_none, Option.map_none, if_true, if_false, decide_true, decide_false, Bool.false_eq_true, Bool.true_eq_false, Bool.not_true, Bool.not_false, reduceCtorEq, Bool.and_true, Bool.true_and, Bool.and_false, Bool.false_and, Bool.or_true, Bool.true_or, Bool.or_false, Bool.false_or, true_and, and_true, false_and, and_false, List.take_zero, List.take_succ_cons, List.drop_zero, List.drop_succ_cons, List.take_nil, List.drop_nil, List.set_cons_zero, List.set_cons_succ, Nat.reduceLeDiff, Nat.reduceLT, Nat.zero_add, Nat.lt_add_one, Nat.le_refl, clearA, Int.toNat_natCast, o1, l1, f1, ck, h0]
    exact hQ _ _ _ (by simp only [sim, push_lt, lt_s, lt_self, Option.map_some, Option.bind_some, List.set_cons_zero, List.length_cons, List.length_nil]) ⟨_, rfl, by refine GrewA.set ?_ (by omega); exact (by repeat (first | exact GrewA.refl _ | refine GrewA.trans ?_ (GrewA.push _ _) | refine GrewA.trans ?_ (GrewA.fresh _ _))), rfl⟩
end
end Go.Proofs.Ytioladnogpfeeaa
