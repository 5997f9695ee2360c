/- code in the plain model: the laws. -/
import Derived.Test.YtacocolcighomaaCodeS12
namespace Go.Proofs.Ytacocolcighomaa
set_option linter.unusedSimpArgs false
set_option linter.unusedVariables false
open Go

section
variable {h : AH}
theorem rep_set {α : Type} (a b : α) (n k : Nat) (hk : k < n) : (List.replicate n a).set k b = List.replicate k a ++ b :: List.replicate (n - k - 1) a := by
  apply List.ext_getElem
  · simp; omega
  · intro i h1 h2
    simp only [List.length_set, List.length_replicate] at h1
    rw [List.getElem_set]
    by_cases hik : k = i
    · subst hik
      simp
    · rw [if_neg hik, List.getElem_replicate]
      by_cases hlt : i < k
      · rw [List.getElem_append_left (by simpa using hlt), List.getElem_replicate]
      · rw [List.getElem_append_right (by simp; omega)]
        simp only [List.length_replicate]
        rw [List.getElem_cons, dif_neg (by omega), List.getElem_replicate]
theorem exl_rep : ∀ n : Nat, ExL (List.replicate n num0) (List.replicate n num0R)
  | 0 => rfl
  | n + 1 => by
    rw [List.replicate_succ, List.replicate_succ]
    simp only [ExL]
    exact ⟨_, _, rfl, num0_ex, exl_rep n⟩
theorem exl_app : ∀ {l1 l2 : List XD} {e1 e2 : List (List AV)}, ExL l1 e1 → ExL l2 e2 → ExL (l1 ++ l2) (e1 ++ e2)
  | [], l2, e1, e2, h1, h2 => by
    simp only [ExL] at h1
    subst h1
    exact h2
  | x :: l1, l2, e1, e2, h1, h2 => by
    simp only [ExL] at h1
    obtain ⟨r, rs, rfl, a, b⟩ := h1
    exact ⟨r, rs ++ e2, rfl, a, exl_app b h2⟩
theorem exl_ones {y : XD} {q : List AV} (hq : ExA y q) (a b : Nat) : ExL (List.replicate a num0 ++ y :: List.replicate b num0) (List.replicate a num0R ++ q :: List.replicate b num0R) :=
  exl_app (exl_rep a) (by simp only [ExL]; exact ⟨_, _, rfl, hq, exl_rep b⟩)

theorem each_loop (v : AV) (L : List XD) (m : ∀ h, ModV h v L) (hL : 0 < L.length ∧ L.length ≤ 6) (hs : ∀ x ∈ L, x.size ≤ 100000) (v0 v8 v9 : AV) : ∀ (l pre : List XD) (h' : AH) (F1 F2 : Int) (v5 v6 v7 v10 v11 v12 : AV), L = pre ++ l → firstX L.length pre.length l = (F1, F2) →
    GrewA h h' → h.n + 1 < h'.n → h'.cell h.n = some [[v]] → h'.cell (h.n + 1) = some [[.int .i64 F1, .int .i64 F2]] →
    cFR true [.v 2] h (runR (runF Try.prog po) 13 [.lp rc_CodeEach_b2, .ss [], .blk 0, .ss [(.ops [(.i .l (.fad 0 (.v 3))), (.i .l (.load false 1 (.l 0))), (.i .l (.bin (.int .i64) .eql (.l 0) (.c (.int .i64 0)))), (.i (.v 2) (.mv (.l 0)))]), .ret]] [v0, .ptr h.n 0 0, .bool false, .ptr (h.n + 1) 0 0, .int .i64 pre.length, v5, v6, v7, v8, v9, v10, v11, v12] [] h') = some (.inl (.bool true), h) := by
  intro l
  induction l with
  | nil =>
    intro pre h' F1 F2 v5 v6 v7 v10 v11 v12 e hF g hn c1 c2
    have e' : L = pre := by simpa using e
    have hlt : ¬ ((pre.length : Int) < (L.length : Int)) := by rw [e']; omega
    simp only [firstX, Prod.mk.injEq] at hF
    obtain ⟨rfl, rfl⟩ := hF
    rw [r_lpb rc_CodeEach_b2.eq_1]
    simp only [sim, List.length_cons, List.length_nil, Nat.reduceAdd, Nat.reduceSub, List.replicate, List.cons_append, List.nil_append, List.map_cons, List.map_nil, Option.bind_some, Option.map_some, Option.bind_none, Option.map_none, if_true, if_false, decide_true, decide_false, Bool.false_eq_true, Bool.true_eq_false, Bool.not_true, Bool.not_false, reduceCtorEq, Bool.and_true, Bool.true_and, Bool.and_false, Bool.false_and, Bool.or_true, Bool.true_or, Bool.or_false, Bool.false_or, true_and, and_true, false_and, and_false, List.take_zero, List.take_succ_cons, List.drop_zero, List.drop_succ_cons, List.take_nil, List.drop_nil, List.set_cons_zero, List.set_cons_succ, Nat.reduceLeDiff, Nat.reduceLT, Nat.zero_add, Nat.lt_add_one, Nat.le_refl, clearA, Int.toNat_natCast, c1, c2, (m h').len, (m h').fits, hlt, eq_self, fg_yes g (rfl : wkA (.bool true) = _)]
  | cons y l ih =>
    intro pre h' F1 F2 v5 v6 v7 v10 v11 v12 e hF g hn c1 c2
    have hlt : (pre.length : Int) < (L.length : Int) := by rw [e]; simp; omega
    have hkl : pre.length < L.length := by omega
    have hw := w64 (n := (pre.length : Int) + 1) (by omega) (by omega)
    have e3 : ((pre ++ [y]).length : Int) = (pre.length : Int) + 1 := by simp
    have e4 : (pre ++ [y]).length = pre.length + 1 := by simp
    have hmk : mksR tE zeroR (.int .i64 (L.length : Int)) (.int .i64 (L.length : Int)) h' = some (.msl h'.n 0 L.length tE, h'.push (List.replicate L.length zeroR)) := by
      have h1 : (0 : Int) ≤ (L.length : Int) := by omega
      have h2 : (L.length : Int) ≤ 100000 := by omega
      simp [mksR, h1, h2]
    obtain ⟨w6, w11, r1⟩ := each_fill (h := h') L.length (by omega) v0 (.ptr h.n 0 0) (.bool false) (.ptr (h.n + 1) 0 0) (.int .i64 pre.length) v7 v8 v9 (.bool true) v12 [.ss [(.ops [(.i .l (.mv (.v 5))), (.i .l (.mv (.v 4))), (.i .l (.fad 0 (.v 1))), (.i .l (.load false 1 (.l 0))), (.i .l (.mv (.v 4))), (.i .l (.ixa (some 83) none (.l 1) (.l 0))), (.i .l (.load true 4 (.l 0))), (.i .l (.ixa (some 83) none (.l 6) (.l 5))), (.i .n (.store 4 (.l 0) (.l 1)))]), (.ops [(.i .l (.mv (.v 5))), (.i .l (.build [.nils] [(0, 1)] [(0, (.l 0))])), (.i .l (.call (.c (.fn 52 [] [])) [(.l 0)])), (.i (.v 7) (.alloc [(.int .i64 0), (.int .i64 0)])), (.i .n (.store 2 (.v 7) (.l 0)))]), (.ops [(.i .l (.fad 0 (.v 7))), (.i .l (.load false 1 (.l 0))), (.i (.v 12) (.bin (.int .i64) .neq (.l 0) (.c (.int .i64 0))))]), (.cond (.v 12) [(.ops [(.i .l (.load true 2 (.v 3))), (.i .l (.load true 2 (.v 7))), (.i .l (.binG .agg (some [(.int .i64), (.int .i64)]) false .eql (.l 1) (.l 0))), (.i .l (.mv (.l 0))), (.g (.l 0) true .l (.fad 1 (.v 7))), (.g (.l 1) true .l (.load false 1 (.l 0))), (.g (.l 2) true .l (.mv (.v 4))), (.g (.l 3) true .l (.bin (.int .i64) .eql (.l 1) (.l 0))), (.i .l (.pick (.l 4) (.l 0) (.c (.bool false)))), (.i (.v 2) (.mv (.l 0)))]), .ret] [])], .blk 1, .ss [(.ops [(.i .l (.mv (.v 4))), (.i .l (.bin (.int .i64) .add (.l 0) (.c (.int .i64 1)))), (.i (.v 4) (.mv (.l 0)))])], .lp rc_CodeEach_b2, .ss [], .blk 0, .ss [(.ops [(.i .l (.fad 0 (.v 3))), (.i .l (.load false 1 (.l 0))), (.i .l (.bin (.int .i64) .eql (.l 0) (.c (.int .i64 0)))), (.i (.v 2) (.mv (.l 0)))]), .ret]] L.length 0 v11 (by omega)
    simp only [List.replicate_zero, List.nil_append, Int.natCast_zero] at r1
    have d1 : (h'.push (List.replicate L.length zeroR)).cell h.n = some [[v]] := (push_lt (by omega)).trans c1
    have d1' : (h'.push (List.replicate L.length num0R)).cell h.n = some [[v]] := (push_lt (by omega)).trans c1
    obtain ⟨a, q, i1, i2, i3⟩ := (m (h'.push (List.replicate L.length num0R))).ix pre.length y (by rw [e]; simp)
    have i2' := i2 _ (GrewA.refl _)
    obtain ⟨o1, o2⟩ := i3.one
    have hix : ixaR (some tE) none (.msl h'.n 0 L.length tE) (.int .i64 (pre.length : Int)) = some (.ptr h'.n pre.length 0) := by
      rw [ix_msl rfl hkl, Nat.zero_add]
    have hrow : (List.replicate L.length num0R)[pre.length]? = some num0R := by simp [hkl]
    have hset := rep_set num0R q L.length pre.length hkl
    have hones := exl_ones i3 pre.length (L.length - pre.length - 1)
    have hlen1 : (List.replicate pre.length num0 ++ y :: List.replicate (L.length - pre.length - 1) num0).length = L.length := by simp; omega
    have mm : ModV (h'.push (List.replicate pre.length num0R ++ q :: List.replicate (L.length - pre.length - 1) num0R)) (.msl h'.n 0 L.length tE) (List.replicate pre.length num0 ++ y :: List.replicate (L.length - pre.length - 1) num0) :=
      ModV.msl (by simp only [push_n]; omega) push_same (by rw [hones.len, hlen1]) hones
    have ck := Check_run _ _ mm (by omega) (fun x hx => by
      rcases List.mem_append.1 hx with hx | hx
      · rw [(List.mem_replicate.1 hx).2]; decide +kernel
      · rcases List.mem_cons.1 hx with rfl | hx
        · exact hs _ (by rw [e]; simp)
        · rw [(List.mem_replicate.1 hx).2]; decide +kernel)
    have hchk : checkX (List.replicate pre.length num0 ++ y :: List.replicate (L.length - pre.length - 1) num0) = if funcX L.length y ≠ 0 then (funcX L.length y, (pre.length : Int)) else (0, 0) := by
      have h0 : ¬ L.length = 0 := by omega
      have h6 : ¬ 6 < L.length := by omega
      simp only [checkX, hlen1, h0, h6, or_self, if_false, first_ones, Nat.zero_add]
    rw [hchk] at ck
    have e1 : (h'.push (List.replicate pre.length num0R ++ q :: List.replicate (L.length - pre.length - 1) num0R)).push [[.int .i64 0, .int .i64 0]] = (h'.push (List.replicate pre.length num0R ++ q :: List.replicate (L.length - pre.length - 1) num0R)).push [[.int .i64 0, .int .i64 0]] := rfl
    have k2 : ∀ x : List (List AV), ((h'.push (List.replicate pre.length num0R ++ q :: List.replicate (L.length - pre.length - 1) num0R)).push x).cell (h.n + 1) = some [[.int .i64 F1, .int .i64 F2]] := fun x => (push_lt (by simp only [push_n]; omega)).trans ((push_lt hn).trans c2)
    have k1 : ∀ x : List (List AV), ((h'.push (List.replicate pre.length num0R ++ q :: List.replicate (L.length - pre.length - 1) num0R)).push x).cell h.n = some [[v]] := fun x => (push_lt (by simp only [push_n]; omega)).trans ((push_lt (by omega)).trans c1)
    have gg : ∀ x : List (List AV), GrewA h ((h'.push (List.replicate pre.length num0R ++ q :: List.replicate (L.length - pre.length - 1) num0R)).push x) := fun x => (g.trans (GrewA.push _ _)).trans (GrewA.push _ _)
    rw [firstX_cons] at hF
    by_cases hf : funcX L.length y = 0
    · rw [if_neg (by simp [hf])] at hF ck
      have r2 := ih (pre ++ [y]) ((h'.push (List.replicate pre.length num0R ++ q :: List.replicate (L.length - pre.length - 1) num0R)).push [[.int .i64 0, .int .i64 0]]) F1 F2 (.msl h'.n 0 L.length tE) w6 (.ptr (h'.n + 1) 0 0) (.bool true) w11 (.bool false) (by simp [e]) (by rw [e4]; exact hF) (gg _) (by simp only [push_n]; omega) (k1 _) (k2 _)
      rw [e3] at r2
      rw [r_lpb rc_CodeEach_b2.eq_1]
      simp only [sim, List.length_cons, List.length_nil, Nat.reduceAdd, Nat.reduceSub, List.replicate, List.cons_append, List.nil_append, List.map_cons, List.map_nil, Option.bind_some, Option.map_some, Option.bind_none, Option.map_none, if_true, if_false, decide_true, decide_false, Bool.false_eq_true, Bool.true_eq_false, Bool.not_true, Bool.not_false, reduceCtorEq, Bool.and_true, Bool.true_and, Bool.and_false, Bool.false_and, Bool.or_true, Bool.true_or, Bool.or_false, Bool.false_or, true_and, and_true, false_and, and_false, List.take_zero, List.take_succ_cons, List.drop_zero, List.drop_succ_cons, List.take_nil, List.drop_nil, List.set_cons_zero, List.set_cons_succ, Nat.reduceLeDiff, Nat.reduceLT, Nat.zero_add, Nat.lt_add_one, Nat.le_refl, clearA, Int.toNat_natCast, c1, (m h').len, (m h').fits, hlt, hmk, r1, d1', i1, i2', o1, o2, hix, hrow, hset, ck, eq_self, hw]
      exact r2
    · rw [if_pos hf] at hF ck
      simp only [Prod.mk.injEq] at hF
      obtain ⟨rfl, rfl⟩ := hF
      rw [r_lpb rc_CodeEach_b2.eq_1]
      simp only [sim, List.length_cons, List.length_nil, Nat.reduceAdd, Nat.reduceSub, List.replicate, List.cons_append, List.nil_append, List.map_cons, List.map_nil, Option.bind_some, Option.map_some, Option.bind_none, Option.map_none, if_true, if_false, decide_true, decide_false, Bool.false_eq_true, Bool.true_eq_false, Bool.not_true, Bool.not_false, reduceCtorEq, Bool.and_true, Bool.true_and, Bool.and_false, Bool.false_and, Bool.or_true, Bool.true_or, Bool.or_false, Bool.false_or, true_and, and_true, false_and, and_false, List.take_zero, List.take_succ_cons, List.drop_zero, List.drop_succ_cons, List.take_nil, List.drop_nil, List.set_cons_zero, List.set_cons_succ, Nat.reduceLeDiff, Nat.reduceLT, Nat.zero_add, Nat.lt_add_one, Nat.le_refl, clearA, Int.toNat_natCast, c1, (m h').len, (m h').fits, hlt, hmk, r1, d1', i1, i2', o1, o2, hix, hrow, hset, ck, hf, k2, fault_eql, eq_self, fg_yes (gg _) (rfl : wkA (.bool true) = _)]
theorem CodeEach_run (v : AV) (L : List XD) (m : ∀ h, ModV h v L) : runF Try.prog po 12 [.agg [v]] h = some (.inl (.bool true), h) := by
  have o1 := (m h).one
  have l1 := (m h).len
  have f1 := (m h).fits
  have q1 := fun h => Great_run (h := h) v L (m h)
  have g1 : GrewA h (h.push [[v]]) := (by repeat (first | exact GrewA.refl _ | refine GrewA.trans ?_ (GrewA.push _ _) | refine GrewA.trans ?_ (GrewA.fresh _ _)))
  refine runF_R fn_CodeEach rfl ?_; unfold rc_CodeEach
  cases hg : greatX L
  · obtain ⟨hl1, hs1⟩ := great_no hg
    by_cases h0 : L.length = 0
    · have h0' : decide ((L.length : Int) = 0) = true := by simp [h0]
      simp only [sim, List.length_cons, List.length_nil, Nat.reduceAdd, Nat.reduceSub, List.replicate, List.cons_append, List.nil_append, List.map_cons, List.map_nil, Option.bind_some, Option.map_some, Option.bind_none, Option.map_none, if_true, if_false, decide_true, decide_false, Bool.false_eq_true, Bool.true_eq_false, Bool.not_true, Bool.not_false, reduceCtorEq, Bool.and_true, Bool.true_and, Bool.and_false, Bool.false_and, Bool.or_true, Bool.true_or, Bool.or_false, Bool.false_or, true_and, and_true, false_and, and_false, List.take_zero, List.take_succ_cons, List.drop_zero, List.drop_succ_cons, List.take_nil, List.drop_nil, List.set_cons_zero, List.set_cons_succ, Nat.reduceLeDiff, Nat.reduceLT, Nat.zero_add, Nat.lt_add_one, Nat.le_refl, clearA, Int.toNat_natCast, codeBegun_run, o1, l1, f1, q1, hg, h0', fg_yes g1 (rfl : wkA (.bool true) = _)]
    · have h0' : decide ((L.length : Int) = 0) = false := by rw [decide_eq_false_iff_not]; omega
      by_cases h6 : 6 < L.length
      · have h6' : (6 : Int) < (L.length : Int) := by omega
        simp only [sim, List.length_cons, List.length_nil, Nat.reduceAdd, Nat.reduceSub, List.replicate, List.cons_append, List.nil_append, List.map_cons, List.map_nil, Option.bind_some, Option.map_some, Option.bind_none, Option.map_none, if_true, if_false, decide_true, decide_false, Bool.false_eq_true, Bool.true_eq_false, Bool.not_true, Bool.not_false, reduceCtorEq, Bool.and_true, Bool.true_and, Bool.and_false, Bool.false_and, Bool.or_true, Bool.true_or, Bool.or_false, Bool.false_or, true_and, and_true, false_and, and_false, List.take_zero, List.take_succ_cons, List.drop_zero, List.drop_succ_cons, List.take_nil, List.drop_nil, List.set_cons_zero, List.set_cons_succ, Nat.reduceLeDiff, Nat.reduceLT, Nat.zero_add, Nat.lt_add_one, Nat.le_refl, clearA, Int.toNat_natCast, codeBegun_run, o1, l1, f1, q1, hg, h0', h6', fg_yes g1 (rfl : wkA (.bool true) = _)]
      · have h6' : ¬ (6 : Int) < (L.length : Int) := by omega
        have hs : ∀ x ∈ L, x.size ≤ 100000 := fun x hx => by have := hs1 x hx; omega
        have ck := fun h => Check_run (h := h) v L (m h) (by omega) hs
        have e : checkX L = firstX L.length 0 L := by simp only [checkX, h0, h6, or_self, if_false]
        have r1 := each_loop (h := h) v L m ⟨by omega, by omega⟩ hs (.agg [v]) (.bool false) (.bool false) L [] ((h.push [[v]]).push [[.int .i64 (checkX L).1, .int .i64 (checkX L).2]]) (checkX L).1 (checkX L).2 .junk .junk .junk .junk .junk .junk rfl e.symm (by repeat (first | exact GrewA.refl _ | refine GrewA.trans ?_ (GrewA.push _ _) | refine GrewA.trans ?_ (GrewA.fresh _ _))) (by simp only [push_n]; omega) push2_old push2_same
        simp only [List.length_nil, Int.natCast_zero] at r1
        simp only [sim, List.length_cons, List.length_nil, Nat.reduceAdd, Nat.reduceSub, List.replicate, List.cons_append, List.nil_append, List.map_cons, List.map_nil, Option.bind_some, Option.map_some, Option.bind_none, Option.map_none, if_true, if_false, decide_true, decide_false, Bool.false_eq_true, Bool.true_eq_false, Bool.not_true, Bool.not_false, reduceCtorEq, Bool.and_true, Bool.true_and, Bool.and_false, Bool.false_and, Bool.or_true, Bool.true_or, Bool.or_false, Bool.false_or, true_and, and_true, false_and, and_false, List.take_zero, List.take_succ_cons, List.drop_zero, List.drop_succ_cons, List.take_nil, List.drop_nil, List.set_cons_zero, List.set_cons_succ, Nat.reduceLeDiff, Nat.reduceLT, Nat.zero_add, Nat.lt_add_one, Nat.le_refl, clearA, Int.toNat_natCast, codeBegun_run, o1, l1, f1, q1, hg, h0', h6', ck]
        exact r1
  · simp only [sim, List.length_cons, List.length_nil, Nat.reduceAdd, Nat.reduceSub, List.replicate, List.cons_append, List.nil_append, List.map_cons, List.map_nil, Option.bind_some, Option.map_some, Option.bind_none, Option.map_none, if_true, if_false, decide_true, decide_false, Bool.false_eq_true, Bool.true_eq_false, Bool.not_true, Bool.not_false, reduceCtorEq, Bool.and_true, Bool.true_and, Bool.and_false, Bool.false_and, Bool.or_true, Bool.true_or, Bool.or_false, Bool.false_or, true_and, and_true, false_and, and_false, List.take_zero, List.take_succ_cons, List.drop_zero, List.drop_succ_cons, List.take_nil, List.drop_nil, List.set_cons_zero, List.set_cons_succ, Nat.reduceLeDiff, Nat.reduceLT, Nat.zero_add, Nat.lt_add_one, Nat.le_refl, clearA, Int.toNat_natCast, codeBegun_run, o1, l1, f1, q1, hg, fg_yes g1 (rfl : wkA (.bool true) = _)]
end

theorem mod_arg {n : Nat} {r : List AV} (t : TyA Try.prog n 77 r) : ∃ v L, r = [v] ∧ ∀ h, ModV h v L := by
  obtain ⟨L, v, es, rfl, hv, hl⟩ := mod_of t
  exact ⟨v, L, rfl, fun h => ModV.of hv hl⟩
theorem codeEach_walk {n0 : Nat} {r0 : List AV} {x0 : Value} (W : World) (t0 : TyA Try.prog n0 77 r0) (u0 : VR Try.prog (m0A W) h0A (.agg r0) x0) :
    Law Try.prog 12 #[x0] W := by
  obtain ⟨v, L, rfl, m⟩ := mod_arg t0
  exact law_of (vs := [x0]) (CodeEach_run v L m) (VRs.cons u0 VRs.nil)
theorem codeDoes_walk {n0 n1 : Nat} {r0 r1 : List AV} {x0 x1 : Value} (a2 : Int) (W : World) (t0 : TyA Try.prog n0 77 r0) (u0 : VR Try.prog (m0A W) h0A (.agg r0) x0) (t1 : TyA Try.prog n1 77 r1) (u1 : VR Try.prog (m0A W) h0A (.agg r1) x1) (hw : isI64 a2) :
    Law Try.prog 13 #[x0, x1, .int .i64 a2] W := by
  obtain ⟨v, L, rfl, m⟩ := mod_arg t0
  obtain ⟨v', L', rfl, m'⟩ := mod_arg t1
  exact law_of (vs := [x0, x1, .int .i64 a2]) (CodeDoes_run v v' L L' m m' a2) (VRs.cons u0 (VRs.cons u1 (VRs.cons (vr_int a2) VRs.nil)))
/-- the types of a module -/
def modS : List TypeId := [3, 2, 83, 75, 77]
theorem modS_ok : closedT Try.prog modS = true := by kernel_rfl
end Go.Proofs.Ytacocolcighomaa
