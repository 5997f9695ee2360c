/- What Across defers: it takes back a panic of the mover's own. -/
import Derived.Test.YtioladnogpfeeaaPiece
import Derived.Test.YtioladnogpfeeaaCAcross
import Derived.Test.YtioladnogpfeeaaPassS2
namespace Go.Proofs.Ytioladnogpfeeaa
set_option linter.unusedSimpArgs false
set_option linter.unusedVariables false
open Go Go.RowKit

abbrev fAc : FuncId := 19
abbrev fCl : FuncId := 48
noncomputable def cAc : Code := Try.f19.body.getD .skip
noncomputable def cCl : Code := Try.f48.body.getD .skip
theorem cl_fn : (Try.prog).funcs[fCl]? = some Try.f48 := Try.func48
theorem cl_body : Try.f48.body = some cCl := rfl
theorem cl_seq : cCl = .seq (cL cCl) (cR cCl) := rfl
theorem cl_n : Try.f48.ntmps = 18 := rfl
noncomputable def clA : Oper := { dst := some 5, op := .call { callee := .builtin .recover, args := #[], argTypes := #[] }, type := ((opsOf (cL cCl)).getD 0 default).type, pos := ((opsOf (cL cCl)).getD 0 default).pos, after := #[], guard := none }
noncomputable def clB : Oper := { dst := some 2, op := .assign (.tmp 5), type := ((opsOf (cL cCl)).getD 1 default).type, pos := ((opsOf (cL cCl)).getD 1 default).pos, after := ((opsOf (cL cCl)).getD 1 default).after, guard := none }
theorem cl_first : cL cCl = .region 0 #[clA, clB] false := rfl
theorem cl_tr : trCode Try.prog (po.mu fCl) (po.plan fCl) 18 [0, 1, 2, 3, 4, 7, 14] (cR cCl) [] = some rc_acc1 := by kernel_rfl
theorem cl_ord : regOK (po.plan fCl) (cR cCl) = true := by kernel_rfl
theorem cl_vm : okVm 2 18 (po.nv fCl) 7 [0, 1, 2, 3, 4, 7, 14] = true := by kernel_rfl

theorem addr_ptr {m : Mm} {h : AH} {b i off : Nat} {u : Value} (v : VR Try.prog m h (.ptr b i off) u) : b < h.n := by cases v; assumption
/-- what was deferred, behind recover -/
theorem cl_rest {h h' : AH} {e : AV} {c6 c7 : Nat} {V' : List AV} (hr : runR (runF Try.prog po) 7 [.ss rc_acc1, .halt []] [.ptr c6 0 0, .ptr c7 0 0, e, .junk, .junk, .junk, .junk] [] h = some (.halt [], V', h'))
    {m : Mm} {w : World} {p6 p7 v : Value} (hw : WR Try.prog m h w) (v6 : VR Try.prog m h (.ptr c6 0 0) p6) (v7 : VR Try.prog m h (.ptr c7 0 0) p7) (ve : VR Try.prog m h e v) {u : FrameMode} (u' : FrameMode)
    (hrec : ∀ c : Frame, c.mode = u → ∀ cs, (recoverD (c :: cs) = some (v, { c with mode := u' } :: cs)) ∨ (recoverD (c :: cs) = none ∧ v = .nilIface ∧ u' = u)) :
    CallsD Try.prog fCl #[p6, p7] u w fun e u'' w' => (∃ v, e = .returned v) ∧ u'' = u' ∧ ∃ m', Ext m h m' h' ∧ WR Try.prog m' h' w' ∧ Below m.base w w' := by
  intro c cs hu
  have hvs : VRs Try.prog m h [.ptr c6 0 0, .ptr c7 0 0] [p6, p7] := ⟨rfl, fun j hj hj' => by
    match j, hj with
    | 0, _ => exact v6
    | 1, _ => exact v7⟩
  have he := enter_at cl_fn cl_body [p6, p7] .deferred
  have ht := enter_tr (P := Try.prog) (h := h) (k := 18) hvs
  generalize hb : Frame.enter Try.prog fCl #[p6, p7] .deferred = b at he
  have hbk : b.kind = .deferred := by rw [← hb]; simp [Frame.enter]
  have hbf : b.fn = fCl := by rw [← hb]; simp [Frame.enter]
  have hbr : b.roundOf = none := by rw [← hb]; simp [Frame.enter]
  rw [cl_n] at he
  generalize ha : ([p6, p7] ++ List.replicate (18 - [p6, p7].length) undef).toArray = ts at he ht
  have h1 : Steps Try.prog (lone b (c :: cs) w) (lone (b.at { tmps := ts, defers := [] } [.code (cL cCl), .code (cR cCl)]) (c :: cs) w) := by
    rw [← he]
    conv => lhs; rw [cl_seq]
    exact .one step_seq
  have hsz : ts.size = 18 := by rw [ht.1]; rfl
  have hreg : (cL cCl).wpS Try.prog (fun e a' cs' w' => e = .normal ∧ cs' = { c with mode := u' } :: cs ∧ w' = w ∧ a' = (({ tmps := ts, defers := [] } : Act).put (some 5) v).put (some 2) v) { tmps := ts, defers := [] } (c :: cs) w := by
    rw [cl_first]
    apply wpS_region
    rcases hrec c hu cs with h1 | ⟨h1, h2, h3⟩
    · simp [wpOpsS, go_sem, clA, clB, h1, Act.put, Act.eval, hsz]
    · have h4 : ({ c with mode := u' } : Frame) = c := by rw [h3, ← hu]
      simp [wpOpsS, go_sem, clA, clB, h1, Act.put, Act.eval, hsz, h2, h4]
  obtain ⟨e1, a1, cs1, w1, ⟨rfl, rfl, rfl, rfl⟩, harr⟩ := hreg b [.code (cR cCl)] hbk hbr
  have ht1 := (ht.put (a := { tmps := ts, defers := [] }) ve (some 5)).put ve (some 2)
  have rv : RV 18 [0, 1, 2, 3, 4, 7, 14] [] (putA (putA ([AV.ptr c6 0 0, .ptr c7 0 0] ++ List.replicate (18 - [AV.ptr c6 0 0, .ptr c7 0 0].length) .junk) (some 5) e) (some 2) e) [.ptr c6 0 0, .ptr c7 0 0, e, .junk, .junk, .junk, .junk] [] := by
    refine ⟨by simp [putA], rfl, rfl, fun j s hj => ?_, fun j s hj => by simp at hj⟩
    match j, hj with
    | 0, hj | 1, hj | 2, hj | 3, hj | 4, hj | 5, hj | 6, hj => obtain rfl := Option.some.inj hj; exact ⟨by decide, rfl⟩
    | j + 7, hj => simp at hj
  obtain ⟨t', hp, hrv⟩ := piece pok (okVm_use cl_vm) cl_tr cl_ord hr rv
  have hrv := hrv (fun v => by simp)
  obtain ⟨m', w', x1, x2, x3, a', x4, x5, x6⟩ := hp m w1 _ { b with defers := [] } ({ c with mode := u' } :: cs) hw ht1 rfl
  have hfin : Steps Try.prog (lone b (c :: cs) w1) (lone { b.at a' [] with mode := .returning } ({ c with mode := u' } :: cs) w') := h1.trans (harr.trans (x6.trans (.one step_end)))
  refine ⟨.returned (.tuple #[]), u', w', _, ⟨⟨_, rfl⟩, rfl, m', x1, x2, x3⟩, hfin, hbk, rfl, x5, Try.f48, ?_, ?_⟩
  · show (Try.prog).funcs[b.fn]? = _
    rw [hbf]
    exact cl_fn
  · simp [results, Try.results48]
theorem recover_no (c : Frame) (h : c.mode = .returning) (cs : List Frame) : recoverD (c :: cs) = none := by simp [recoverD, h]
theorem recover_yes {v : Value} (c : Frame) (h : c.mode = .panicking [{ v := v, recovered := false }]) (cs : List Frame) : recoverD (c :: cs) = some (v, { c with mode := .panicking [{ v := v, recovered := true }] } :: cs) := by simp [recoverD, h]
theorem if_no : binR .iface none true .neq .nili .nili = some (.bool false) := rfl
theorem if_yes {q : TypeId} {v : AV} : binR .iface none true .neq (.iface q v) .nili = some (.bool true) := rfl
theorem tas_yes {q : TypeId} {v : AV} : tasR q true (.iface q v) = some (.tup [v, .bool true]) := by simp [tasR]
/-- where nothing panics, it does nothing -/
theorem cl_returns {h : AH} {c6 c7 : Nat} {m : Mm} {w : World} {p6 p7 : Value} (hw : WR Try.prog m h w) (v6 : VR Try.prog m h (.ptr c6 0 0) p6) (v7 : VR Try.prog m h (.ptr c7 0 0) p7) :
    CallsD Try.prog fCl #[p6, p7] .returning w fun e u'' w' => (∃ v, e = .returned v) ∧ u'' = .returning ∧ ∃ m', Ext m h m' h ∧ WR Try.prog m' h w' ∧ Below m.base w w' := by
  refine cl_rest (V' := [.ptr c6 0 0, .ptr c7 0 0, .nili, .junk, .junk, .bool false, .junk]) (e := .nili) ?_ hw v6 v7 .nili .returning fun c hc cs => .inr ⟨recover_no c hc cs, rfl, rfl⟩
  unfold rc_acc1
  simp only [sim, List.length_cons, List.length_nil, Nat.reduceAdd, Nat.reduceSub, List.replicate, List.cons_append, List.nil_append, List.map_cons, List.map_nil, Option.bind_some, Option.map_some, Option.bind_none, Option.map_none, if_true, if_false, decide_true, decide_false, Bool.false_eq_true, Bool.true_eq_false, Bool.not_true, Bool.not_false, reduceCtorEq, Bool.and_true, Bool.true_and, Bool.and_false, Bool.false_and, Bool.or_true, Bool.true_or, Bool.or_false, Bool.false_or, true_and, and_true, false_and, and_false, List.take_zero, List.take_succ_cons, List.drop_zero, List.drop_succ_cons, List.take_nil, List.drop_nil, List.set_cons_zero, List.set_cons_succ, Nat.reduceLeDiff, Nat.reduceLT, Nat.zero_add, Nat.lt_add_one, Nat.le_refl, clearA, Int.toNat_natCast, if_no]
/-- where the mover gave up, it lays the code, and nothing else -/
theorem cl_panics {h : AH} {c6 c7 : Nat} {m : Mm} {w : World} {p6 p7 u : Value} {code x y : Int} {l z : AV} (hw : WR Try.prog m h w) (v6 : VR Try.prog m h (.ptr c6 0 0) p6) (v7 : VR Try.prog m h (.ptr c7 0 0) p7) (vu : VR Try.prog m h (.iface tGone (.int .i64 code)) u)
    (h6 : h.cell c6 = some [[.int .i64 x, .int .i64 y, l]]) (h7 : h.cell c7 = some [[z]]) (hne : c7 ≠ c6) (hl : l.one = true) :
    CallsD Try.prog fCl #[p6, p7] (.panicking [{ v := u, recovered := false }]) w fun e u'' w' => (∃ v, e = .returned v) ∧ u'' = .panicking [{ v := u, recovered := true }] ∧
      ∃ m', Ext m h m' ((h.set c6 (some [[.int .i64 0, .int .i64 0, .nils]])).set c7 (some [[.int .i64 code]])) ∧ WR Try.prog m' ((h.set c6 (some [[.int .i64 0, .int .i64 0, .nils]])).set c7 (some [[.int .i64 code]])) w' ∧ Below m.base w w' := by
  refine cl_rest (V' := [.ptr c6 0 0, .ptr c7 0 0, .iface tGone (.int .i64 code), .int .i64 code, .bool true, .bool true, .bool false]) (e := .iface tGone (.int .i64 code)) ?_ hw v6 v7 vu (.panicking [{ v := u, recovered := true }]) fun c hc cs => .inl (recover_yes c hc cs)
  have h7' : (h.set c6 (some [[.int .i64 0, .int .i64 0, .nils]])).cell c7 = some [[z]] := (set_ne hne).trans h7
  unfold rc_acc1
  simp only [sim, List.length_cons, List.length_nil, Nat.reduceAdd, Nat.reduceSub, List.replicate, List.cons_append, List.nil_append, List.map_cons, List.map_nil, Option.bind_some, Option.map_some, Option.bind_none, Option.map_none, if_true, if_false, decide_true, decide_false, Bool.false_eq_true, Bool.true_eq_false, Bool.not_true, Bool.not_false, reduceCtorEq, Bool.and_true, Bool.true_and, Bool.and_false, Bool.false_and, Bool.or_true, Bool.true_or, Bool.or_false, Bool.false_or, true_and, and_true, false_and, and_false, List.take_zero, List.take_succ_cons, List.drop_zero, List.drop_succ_cons, List.take_nil, List.drop_nil, List.set_cons_zero, List.set_cons_succ, Nat.reduceLeDiff, Nat.reduceLT, Nat.zero_add, Nat.lt_add_one, Nat.le_refl, clearA, Int.toNat_natCast, if_yes, tas_yes, h6, h7']
end Go.Proofs.Ytioladnogpfeeaa
