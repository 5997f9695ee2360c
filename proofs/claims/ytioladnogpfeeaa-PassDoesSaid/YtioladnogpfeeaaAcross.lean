/- Across: what it does is what its pieces say; a panic of the mover's own is taken back. -/
import Derived.Test.YtioladnogpfeeaaAcrossD
namespace Go.Proofs.Ytioladnogpfeeaa
set_option linter.unusedSimpArgs false
set_option linter.unusedVariables false
open Go Go.RowKit

theorem ac_fn : (Try.prog).funcs[fAc]? = some Try.f19 := Try.func19
theorem ac_body : Try.f19.body = some cAc := rfl
theorem ac_n : Try.f19.ntmps = 25 := rfl
noncomputable abbrev cY : Code := cL (cR cAc)
noncomputable abbrev cZ : Code := cR (cR cAc)
noncomputable abbrev cW : Code := cR cZ
theorem ac_seq : cAc = .seq (cL cAc) (cR cAc) := rfl
theorem ac_seq2 : cR cAc = .seq cY cZ := rfl
theorem ac_seq3 : cZ = .seq (cL cZ) cW := rfl
theorem ac_seq4 : cW = .seq (cL cW) (cR cW) := rfl
theorem ac_seq5 : cR cW = .seq (cL (cR cW)) .ret := rfl
abbrev vA : List Nat := [0, 1, 2, 4, 6, 7, 8, 9, 14]
theorem ac_vm : okVm 3 25 (po.nv fAc) 9 vA = true := by kernel_rfl
theorem ac_tr0 : trCode Try.prog (po.mu fAc) (po.plan fAc) 25 vA (cL cAc) [] = some rc_acr0 := by kernel_rfl
theorem ac_tr1 : trCode Try.prog (po.mu fAc) (po.plan fAc) 25 vA cY [] = some rc_acr1 := by kernel_rfl
theorem ac_tr2 : trCode Try.prog (po.mu fAc) (po.plan fAc) 25 vA cW [] = some rc_acr2 := by kernel_rfl
theorem ac_tr3 : trCode Try.prog (po.mu fAc) (po.plan fAc) 25 vA (cL cW) [] = some rc_acr3 := by kernel_rfl
theorem ac_ord0 : regOK (po.plan fAc) (cL cAc) = true := by kernel_rfl
theorem ac_ord1 : regOK (po.plan fAc) cY = true := by kernel_rfl
theorem ac_ord2 : regOK (po.plan fAc) cW = true := by kernel_rfl
theorem ac_ord3 : regOK (po.plan fAc) (cL cW) = true := by kernel_rfl
theorem ac_res : trRes Try.prog vA Try.f19.results.toList = some [.cell true 3 4, .cell false 1 5] := by kernel_rfl
noncomputable def acA : Oper := { dst := some 17, op := .makeFunc (.func fCl) #[] #[.tmp 6, .tmp 7], type := ((opsOf (cL cZ)).getD 0 default).type, pos := ((opsOf (cL cZ)).getD 0 default).pos, after := #[], guard := none }
noncomputable def acB : Oper := { dst := none, op := .defer { callee := .value (.tmp 17), args := #[], argTypes := #[] }, type := ((opsOf (cL cZ)).getD 1 default).type, pos := ((opsOf (cL cZ)).getD 1 default).pos, after := ((opsOf (cL cZ)).getD 1 default).after, guard := none }
theorem ac_four : cL cZ = .region 4 #[acA, acB] false := rfl

section
variable {h : AH} {m : Mm} {w : World}
abbrev zR : List AV := [.int .i64 0, .int .i64 0, .nils]
/-- the memory of the call's own -/
def acH (h : AH) (r : List AV) : AH := ((h.push [r]).push [zR]).push [[.int .i64 0]]
theorem ac_run0 {b : Nat} {r : List AV} {gv : AV} {K : List Item} (o1 : r.all AV.one = true) (o2 : r.length = 3) : runR (runF Try.prog po) 9 [.ss rc_acr0, .halt K] [.ptr b 0 0, .agg r, gv, .junk, .junk, .junk, .junk, .junk, .junk] [] h =
    some (.halt K, [.ptr b 0 0, .agg r, gv, .ptr h.n 0 0, .ptr (h.n + 1) 0 0, .ptr (h.n + 1 + 1) 0 0, .junk, .junk, .junk], acH h r) := by
  unfold rc_acr0
  simp only [sim, List.length_cons, List.length_nil, Nat.reduceAdd, Nat.reduceSub, List.replicate, List.cons_append, List.nil_append, List.map_cons, List.map_nil, Option.bind_some, Option.map_some, Option.bind_none, Option.map_none, if_true, if_false, decide_true, decide_false, Bool.false_eq_true, Bool.true_eq_false, Bool.not_true, Bool.not_false, reduceCtorEq, Bool.and_true, Bool.true_and, Bool.and_false, Bool.false_and, Bool.or_true, Bool.true_or, Bool.or_false, Bool.false_or, true_and, and_true, false_and, and_false, List.take_zero, List.take_succ_cons, List.drop_zero, List.drop_succ_cons, List.take_nil, List.drop_nil, List.set_cons_zero, List.set_cons_succ, Nat.reduceLeDiff, Nat.reduceLT, Nat.zero_add, Nat.lt_add_one, Nat.le_refl, clearA, Int.toNat_natCast, o1, o2, acH]
theorem rv_init (x y z : AV) : RV 25 vA [] ([x, y, z] ++ List.replicate (25 - [x, y, z].length) .junk) [x, y, z, .junk, .junk, .junk, .junk, .junk, .junk] [] := by
  refine ⟨by simp, rfl, rfl, fun j s hj => ?_, fun j s hj => by simp at hj⟩
  match j, hj with
  | 0, hj | 1, hj | 2, hj | 3, hj | 4, hj | 5, hj | 6, hj | 7, hj | 8, hj => obtain rfl := Option.some.inj hj; exact ⟨by decide, rfl⟩
  | j + 9, hj => simp at hj
/-- as far as what is deferred -/
theorem ac_pre {b : Nat} {r : List AV} {gv : AV} {x : AEx} {V2 : List AV} {h2 : AH} (o1 : r.all AV.one = true) (o2 : r.length = 3)
    (hr : runR (runF Try.prog po) 9 [.ss rc_acr1, .halt [.code cZ]] [.ptr b 0 0, .agg r, gv, .ptr h.n 0 0, .ptr (h.n + 1) 0 0, .ptr (h.n + 1 + 1) 0 0, .junk, .junk, .junk] [] (acH h r) = some (x, V2, h2)) (hx : ∀ v, x ≠ .panic v)
    {vs : List Value} (hw : WR Try.prog m h w) (hvs : VRs Try.prog m h [.ptr b 0 0, .agg r, gv] vs) (cs : List Frame) :
    ∃ (bf : Frame) (t2 : List AV), bf.fn = fAc ∧ bf.kind = .normal ∧ bf.defers = [] ∧ RV 25 vA [] t2 V2 [] ∧ OutR Try.prog m h w bf cs (lone (Frame.enter Try.prog fAc vs.toArray .normal) cs w) (x, t2, h2) := by
  have he := enter_at ac_fn ac_body vs .normal
  have ht := enter_tr (P := Try.prog) (h := h) (k := 25) hvs
  rw [ac_n] at he
  obtain ⟨t1, hp1, rv1⟩ := piece pok (okVm_use ac_vm) ac_tr0 ac_ord0 (ac_run0 (K := [.code (cR cAc)]) (h := h) (gv := gv) (b := b) o1 o2) (rv_init _ _ _)
  obtain ⟨t2, hp2, rv2⟩ := piece pok (okVm_use ac_vm) ac_tr1 ac_ord1 hr (rv1 (fun v => by simp))
  refine ⟨Frame.enter Try.prog fAc vs.toArray .normal, t2, by simp [Frame.enter], by simp [Frame.enter], by simp [Frame.enter], rv2 hx, ?_⟩
  generalize Frame.enter Try.prog fAc vs.toArray .normal = bf at he ⊢
  obtain ⟨m1, w1, x1, x2, x3, a1, x4, x5, x6⟩ := hp1 m w { tmps := _, defers := [] } { bf with defers := [] } cs hw ht rfl
  have x5 : a1.defers = [] := x5
  have s0 : Steps Try.prog (lone bf cs w) (lone (bf.at a1 [.code cY, .code cZ]) cs w1) := by
    conv => lhs; rw [← he, ac_seq]
    refine .head step_seq (x6.trans ?_)
    conv => lhs; rw [ac_seq2]
    exact .one step_seq
  obtain ⟨m2, w2, y1, y2, y3, y4⟩ := hp2 m1 w1 a1 { bf with defers := [] } cs x2 x4 x5
  have y5 : OutR Try.prog m1 (acH h r) w1 { bf with defers := [] } cs (lone (bf.at a1 [.code cY, .code cZ]) cs w1) (x, t2, h2) := ⟨m2, w2, y1, y2, y3, y4⟩
  have y6 := OutR.steps s0 (OutR.after x1 x3 y5)
  have hd : bf.defers = [] := by rw [← he]; rfl
  have hbf : ({ bf with defers := [] } : Frame) = bf := by rw [← hd]
  rwa [hbf] at y6

theorem ac_resA {t V : List AV} {h : AH} {v : AV} (rv : RV 25 vA [] t V []) (hv : (resR V h [.cell true 3 4, .cell false 1 5]).map oneA = some v) : resA Try.f19 t h Try.prog = some v := by
  unfold resA
  rw [resR_sound (h := h) rv ac_res]
  exact hv
theorem set_id {h : AH} {b : Nat} {es : Option (List (List AV))} (hc : h.cell b = es) : h.set b es = h := by
  cases h with
  | mk =>
    simp only [AH.set, AH.mk.injEq, and_true, true_and]
    funext k
    by_cases hk : k = b
    · subst hk
      simpa using hc.symm
    · simp [hk]
/-- what may not be handed on -/
theorem ac_refused {b : Nat} {r : List AV} {gv : AV} {c : Int} (o1 : r.all AV.one = true) (o2 : r.length = 3) (hc : c ≠ 0)
    (eM : runF Try.prog po 29 [.ptr b 0 0, .agg r] (acH h r) = some (.inl (.int .i64 c), acH h r)) :
    AC Try.prog fAc [.ptr b 0 0, .agg r, gv] h (.inl (.tup [.agg zR, .int .i64 c]), (acH h r).set (h.n + 1 + 1) (some [[.int .i64 c]])) := by
  intro m w vs hw hvs cs
  have c4 : (acH h r).cell h.n = some [r] := push3_0
  have c6 : (acH h r).cell (h.n + 1) = some [zR] := push3_1
  have c7 : (acH h r).cell (h.n + 1 + 1) = some [[.int .i64 0]] := push3_same
  have hs6 : (acH h r).set (h.n + 1) (some [zR]) = acH h r := set_id c6
  have hr : runR (runF Try.prog po) 9 [.ss rc_acr1, .halt [.code cZ]] [.ptr b 0 0, .agg r, gv, .ptr h.n 0 0, .ptr (h.n + 1) 0 0, .ptr (h.n + 1 + 1) 0 0, .junk, .junk, .junk] [] (acH h r) =
      some (.ret, [.ptr b 0 0, .agg r, gv, .ptr h.n 0 0, .ptr (h.n + 1) 0 0, .ptr (h.n + 1 + 1) 0 0, .int .i64 c, .junk, .bool true], (acH h r).set (h.n + 1 + 1) (some [[.int .i64 c]])) := by
    unfold rc_acr1
    simp only [sim, List.length_cons, List.length_nil, Nat.reduceAdd, Nat.reduceSub, List.replicate, List.cons_append, List.nil_append, List.map_cons, List.map_nil, Option.bind_some, Option.map_some, Option.bind_none, Option.map_none, if_true, if_false, decide_true, decide_false, Bool.false_eq_true, Bool.true_eq_false, Bool.not_true, Bool.not_false, reduceCtorEq, Bool.and_true, Bool.true_and, Bool.and_false, Bool.false_and, Bool.or_true, Bool.true_or, Bool.or_false, Bool.false_or, true_and, and_true, false_and, and_false, List.take_zero, List.take_succ_cons, List.drop_zero, List.drop_succ_cons, List.take_nil, List.drop_nil, List.set_cons_zero, List.set_cons_succ, Nat.reduceLeDiff, Nat.reduceLT, Nat.zero_add, Nat.lt_add_one, Nat.le_refl, clearA, Int.toNat_natCast, c4, ld_all o2, eM, hc, c6, hs6, c7]
  obtain ⟨bf, t2, b1, b2, b3, rv, m', w', x1, x2, x3, a', todo, x4, x5, x6⟩ := ac_pre o1 o2 hr (fun v => by simp) hw hvs cs
  rw [b3] at x5
  have hres := ac_resA (h := (acH h r).set (h.n + 1 + 1) (some [[.int .i64 c]])) (v := .tup [.agg zR, .int .i64 c]) rv (by
    have q6 : ((acH h r).set (h.n + 1 + 1) (some [[.int .i64 c]])).cell (h.n + 1) = some [zR] := (set_ne (by omega)).trans c6
    simp only [sim, List.length_cons, List.length_nil, Nat.reduceAdd, Nat.reduceSub, List.replicate, List.cons_append, List.nil_append, List.map_cons, List.map_nil, Option.bind_some, Option.map_some, Option.bind_none, Option.map_none, if_true, if_false, decide_true, decide_false, Bool.false_eq_true, Bool.true_eq_false, Bool.not_true, Bool.not_false, reduceCtorEq, Bool.and_true, Bool.true_and, Bool.and_false, Bool.false_and, Bool.or_true, Bool.true_or, Bool.or_false, Bool.false_or, true_and, and_true, false_and, and_false, List.take_zero, List.take_succ_cons, List.drop_zero, List.drop_succ_cons, List.take_nil, List.drop_nil, List.set_cons_zero, List.set_cons_succ, Nat.reduceLeDiff, Nat.reduceLT, Nat.zero_add, Nat.lt_add_one, Nat.le_refl, clearA, Int.toNat_natCast, q6])
  obtain ⟨u, h7, h8⟩ := res_sound x2 x4 hres
  exact ⟨.returned u, w', _, ⟨m', x1, x2, x3, u, rfl, h8⟩, x6, b1, rfl, x5, b2, _, by simp [Frame.at, b1], h7⟩

theorem rv_out {n : Nat} {vm : List Nat} {t V : List AV} {i : Nat} {v : AV} (rv : RV n vm [] t V []) (hi : i ∉ vm) : RV n vm [] (putA t (some i) v) V [] := by
  refine ⟨by simpa [putA] using rv.len, rv.lv, rv.ll, fun j s hj => ?_, fun j s hj => by simp at hj⟩
  obtain ⟨h1, h2⟩ := rv.v j s hj
  refine ⟨h1, ?_⟩
  rw [← h2]
  have hne : i ≠ s := fun e => hi (by rw [e]; exact List.mem_of_getElem? hj)
  simp [putA, List.getD, List.getElem?_set, hne]
theorem rv_at {n : Nat} {vm : List Nat} {t V : List AV} (rv : RV n vm [] t V []) {j s : Nat} (hj : vm[j]? = some s) : s < t.length ∧ t.getD s .junk = V.getD j .junk := by
  obtain ⟨h1, h2⟩ := rv.v j s hj
  exact ⟨by rw [rv.len]; exact h1, h2⟩

/-- the deferred call is laid by -/
theorem ac_lay {bf : Frame} {a2 : Act} {cs : List Frame} {p6 p7 : Value} (hsz : a2.tmps.size = 25) (h6 : a2.tmps.getD 6 undef = p6) (h7 : a2.tmps.getD 7 undef = p7) :
    Steps Try.prog (lone (bf.at a2 [.code cZ]) cs w) (lone (bf.at { a2.put (some 17) (.func (.func fCl) #[] #[p6, p7]) with defers := { target := .fn (.func fCl) #[p6, p7], args := #[] } :: a2.defers } [.code cW]) cs w) := by
  have hw : (cL cZ).wp Try.prog (fun e a' w' => e = .normal ∧ w' = w ∧ a' = { a2.put (some 17) (.func (.func fCl) #[] #[p6, p7]) with defers := { target := .fn (.func fCl) #[p6, p7], args := #[] } :: a2.defers }) a2 w := by
    have hmf : ∀ (fn : Fn) (first cap : Array Value) (w : World), (Instr.makeFunc fn first cap).run Try.prog w = .ok (.func fn first cap) w := fun _ _ _ _ => rfl
    subst h6 h7
    rw [ac_four]
    apply wp_region
    simp [wpOps, go_sem, acA, acB, hmf, Act.put, Act.eval, hsz]
  obtain ⟨e, a', w', ⟨rfl, rfl, rfl⟩, harr⟩ := hw bf [.code cW] cs
  conv => lhs; rw [ac_seq3]
  exact .head step_seq harr

theorem ac_run1 {b : Nat} {r : List AV} {gv : AV} (o2 : r.length = 3) (eM : runF Try.prog po 29 [.ptr b 0 0, .agg r] (acH h r) = some (.inl (.int .i64 0), acH h r)) :
    runR (runF Try.prog po) 9 [.ss rc_acr1, .halt [.code cZ]] [.ptr b 0 0, .agg r, gv, .ptr h.n 0 0, .ptr (h.n + 1) 0 0, .ptr (h.n + 1 + 1) 0 0, .junk, .junk, .junk] [] (acH h r) =
      some (.halt [.code cZ], [.ptr b 0 0, .agg r, gv, .ptr h.n 0 0, .ptr (h.n + 1) 0 0, .ptr (h.n + 1 + 1) 0 0, .int .i64 0, .junk, .bool false], acH h r) := by
  have c4 : (acH h r).cell h.n = some [r] := push3_0
  unfold rc_acr1
  simp only [sim, List.length_cons, List.length_nil, Nat.reduceAdd, Nat.reduceSub, List.replicate, List.cons_append, List.nil_append, List.map_cons, List.map_nil, Option.bind_some, Option.map_some, Option.bind_none, Option.map_none, if_true, if_false, decide_true, decide_false, Bool.false_eq_true, Bool.true_eq_false, Bool.not_true, Bool.not_false, reduceCtorEq, Bool.and_true, Bool.true_and, Bool.and_false, Bool.false_and, Bool.or_true, Bool.true_or, Bool.or_false, Bool.false_or, true_and, and_true, false_and, and_false, List.take_zero, List.take_succ_cons, List.drop_zero, List.drop_succ_cons, List.take_nil, List.drop_nil, List.set_cons_zero, List.set_cons_succ, Nat.reduceLeDiff, Nat.reduceLT, Nat.zero_add, Nat.lt_add_one, Nat.le_refl, clearA, Int.toNat_natCast, c4, ld_all o2, eM]
theorem tmp_at {h2 : AH} {m2 : Mm} {t2 V2 : List AV} {a2 : Act} (rv : RV 25 vA [] t2 V2 []) (ht : TR Try.prog m2 h2 t2 a2.tmps) {j s : Nat} (hj : vA[j]? = some s) : VR Try.prog m2 h2 (V2.getD j .junk) (a2.tmps.getD s undef) := by
  obtain ⟨h1, e1⟩ := rv_at rv hj
  rw [← e1]
  exact tr_at ht h1
/-- what is behind the deferred call, where nothing gave up -/
theorem ac_ok {b : Nat} {r r' : List AV} {gv : AV} {h4 : AH} (o1 : r.all AV.one = true) (o2 : r.length = 3) (o3 : r'.all AV.one = true) (o4 : r'.length = 3) (og : gv = .nils ∨ ∃ id e rows, gv = .isl id e rows)
    (eM : runF Try.prog po 29 [.ptr b 0 0, .agg r] (acH h r) = some (.inl (.int .i64 0), acH h r))
    (eV : runF Try.prog po 49 [.ptr (acH h r).n 0 0, .agg r] ((acH h r).push [[.ptr b 0 0, gv]]) = some (.inl (.agg r'), h4)) (k6 : h4.cell (h.n + 1) = some [zR]) (k7 : h4.cell (h.n + 1 + 1) = some [[.int .i64 0]]) :
    AC Try.prog fAc [.ptr b 0 0, .agg r, gv] h (.inl (.tup [.agg r', .int .i64 0]), (h4.set (h.n + 1) (some [r'])).set (h.n + 1 + 1) (some [[.int .i64 0]])) := by
  intro m w vs hw hvs cs
  have c4 : ((acH h r).push [[.ptr b 0 0, gv]]).cell h.n = some [r] := (push_lt (by simp only [acH, push_n]; omega)).trans push3_0
  have k7' : (h4.set (h.n + 1) (some [r'])).cell (h.n + 1 + 1) = some [[.int .i64 0]] := (set_ne (by omega)).trans k7
  have hr2 : runR (runF Try.prog po) 9 [.ss rc_acr2, .halt []] [.ptr b 0 0, .agg r, gv, .ptr h.n 0 0, .ptr (h.n + 1) 0 0, .ptr (h.n + 1 + 1) 0 0, .int .i64 0, .junk, .bool false] [] (acH h r) =
      some (.ret, [.ptr b 0 0, .agg r, gv, .ptr h.n 0 0, .ptr (h.n + 1) 0 0, .ptr (h.n + 1 + 1) 0 0, .int .i64 0, .ptr (acH h r).n 0 0, .bool false], (h4.set (h.n + 1) (some [r'])).set (h.n + 1 + 1) (some [[.int .i64 0]])) := by
    unfold rc_acr2
    rcases og with rfl | ⟨id, e, rows, rfl⟩
    · simp only [sim, List.length_cons, List.length_nil, Nat.reduceAdd, Nat.reduceSub, List.replicate, List.cons_append, List.nil_append, List.map_cons, List.map_nil, Option.bind_some, Option.map_some, Option.bind_none, Option.map_none, if_true, if_false, decide_true, decide_false, Bool.false_eq_true, Bool.true_eq_false, Bool.not_true, Bool.not_false, reduceCtorEq, Bool.and_true, Bool.true_and, Bool.and_false, Bool.false_and, Bool.or_true, Bool.true_or, Bool.or_false, Bool.false_or, true_and, and_true, false_and, and_false, List.take_zero, List.take_succ_cons, List.drop_zero, List.drop_succ_cons, List.take_nil, List.drop_nil, List.set_cons_zero, List.set_cons_succ, Nat.reduceLeDiff, Nat.reduceLT, Nat.zero_add, Nat.lt_add_one, Nat.le_refl, clearA, Int.toNat_natCast, c4, ld_all o2, eV, k6, o3, o4, k7']
    · simp only [sim, List.length_cons, List.length_nil, Nat.reduceAdd, Nat.reduceSub, List.replicate, List.cons_append, List.nil_append, List.map_cons, List.map_nil, Option.bind_some, Option.map_some, Option.bind_none, Option.map_none, if_true, if_false, decide_true, decide_false, Bool.false_eq_true, Bool.true_eq_false, Bool.not_true, Bool.not_false, reduceCtorEq, Bool.and_true, Bool.true_and, Bool.and_false, Bool.false_and, Bool.or_true, Bool.true_or, Bool.or_false, Bool.false_or, true_and, and_true, false_and, and_false, List.take_zero, List.take_succ_cons, List.drop_zero, List.drop_succ_cons, List.take_nil, List.drop_nil, List.set_cons_zero, List.set_cons_succ, Nat.reduceLeDiff, Nat.reduceLT, Nat.zero_add, Nat.lt_add_one, Nat.le_refl, clearA, Int.toNat_natCast, c4, ld_all o2, eV, k6, o3, o4, k7']
  obtain ⟨bf, t2, b1, b2, b3, rv, m2, w2, x1, x2, x3, a2, x4, x5, x6⟩ := ac_pre o1 o2 (ac_run1 (gv := gv) o2 eM) (fun v => by simp) hw hvs cs
  rw [b3] at x5
  have v6 := tmp_at rv x4 (j := 4) (s := 6) rfl
  have v7 := tmp_at rv x4 (j := 5) (s := 7) rfl
  have hsz : a2.tmps.size = 25 := by rw [x4.1, rv.len]
  have lay := ac_lay (w := w2) (bf := bf) (a2 := a2) (cs := cs) hsz rfl rfl
  generalize hp6 : a2.tmps.getD 6 undef = p6 at v6 lay
  generalize hp7 : a2.tmps.getD 7 undef = p7 at v7 lay
  rw [x5] at lay
  have ht3 := x4.put (VR.junk (.func (.func fCl) #[] #[p6, p7])) (some 17)
  have rv3 := rv_out (i := 17) (v := .junk) rv (by decide)
  obtain ⟨t5, hp, rv5⟩ := piece pok (okVm_use ac_vm) ac_tr2 ac_ord2 hr2 rv3
  have rv5 := rv5 (fun v => by simp)
  obtain ⟨m3, w3, y1, y2, y3, a5, todo, y4, y5, y6⟩ := hp m2 w2 { a2.put (some 17) (.func (.func fCl) #[] #[p6, p7]) with defers := [{ target := .fn (.func fCl) #[p6, p7], args := #[] }] } { bf with defers := [{ target := .fn (.func fCl) #[p6, p7], args := #[] }] } cs x2 ht3 rfl
  have hlv : Leaves Try.prog Try.f19 a5.tmps (fun e w' => ∃ m', Ext m h m' ((h4.set (h.n + 1) (some [r'])).set (h.n + 1 + 1) (some [[.int .i64 0]])) ∧ WR Try.prog m' ((h4.set (h.n + 1) (some [r'])).set (h.n + 1 + 1) (some [[.int .i64 0]])) w' ∧ Below m.base w w' ∧ ∃ u, e = .returned u ∧ VR Try.prog m' ((h4.set (h.n + 1) (some [r'])).set (h.n + 1 + 1) (some [[.int .i64 0]])) (.tup [.agg r', .int .i64 0]) u) [{ target := .fn (.func fCl) #[p6, p7], args := #[] }] .returning w3 := by
    refine leaves_cons (f := fCl) (args := #[p6, p7]) (by simp) (by simp [go_sem]) ?_
    refine (cl_returns y2 (v6.ext y1) (v7.ext y1)).mono ?_
    rintro e u'' w' ⟨⟨v, rfl⟩, rfl, m4, z1, z2, z3⟩
    have hres := ac_resA (h := (h4.set (h.n + 1) (some [r'])).set (h.n + 1 + 1) (some [[.int .i64 0]])) (v := .tup [.agg r', .int .i64 0]) rv5 (by
      have q6 : ((h4.set (h.n + 1) (some [r'])).set (h.n + 1 + 1) (some [[.int .i64 0]])).cell (h.n + 1) = some [r'] := (set_ne (by omega)).trans set_same
      simp only [sim, List.length_cons, List.length_nil, Nat.reduceAdd, Nat.reduceSub, List.replicate, List.cons_append, List.nil_append, List.map_cons, List.map_nil, Option.bind_some, Option.map_some, Option.bind_none, Option.map_none, if_true, if_false, decide_true, decide_false, Bool.false_eq_true, Bool.true_eq_false, Bool.not_true, Bool.not_false, reduceCtorEq, Bool.and_true, Bool.true_and, Bool.and_false, Bool.false_and, Bool.or_true, Bool.true_or, Bool.or_false, Bool.false_or, true_and, and_true, false_and, and_false, List.take_zero, List.take_succ_cons, List.drop_zero, List.drop_succ_cons, List.take_nil, List.drop_nil, List.set_cons_zero, List.set_cons_succ, Nat.reduceLeDiff, Nat.reduceLT, Nat.zero_add, Nat.lt_add_one, Nat.le_refl, clearA, Int.toNat_natCast, q6, ld_all o4])
    obtain ⟨u, h7, h8⟩ := res_sound z2 (y4.ext z1) hres
    refine ⟨u, h7, m4, (x1.trans y1).trans z1, z2, ?_, u, rfl, h8⟩
    have q1 : m2.base = m.base := x1.base
    have q2 : m3.base = m2.base := y1.base
    rw [q2, q1] at z3
    rw [q1] at y3
    exact (x3.trans y3).trans z3
  obtain ⟨e, w4, fr', hR, hs, hfn, hl⟩ := leaves_steps [{ target := .fn (.func fCl) #[p6, p7], args := #[] }] .returning w3 { (({ bf with defers := [{ target := .fn (.func fCl) #[p6, p7], args := #[] }] } : Frame).at a5 todo) with mode := .returning } cs rfl y5 rfl (by simp [Frame.at, b1]) (by simpa [Frame.at] using b2) hlv
  exact ⟨e, w4, fr', hR, Comes.of_steps (x6.trans (lay.trans y6)) hs, hfn.trans b1, hl⟩

noncomputable abbrev ops6 : Array Oper := opsOf (cL (cR cW))
noncomputable abbrev o6 (i : Nat) : Oper := ops6.getD i default
theorem ac_six : cL (cR cW) = .region 6 ops6 false := rfl
theorem six_n : ops6.size = 5 := rfl
theorem tV_u : ((Try.prog).underlying tV).isNone = false := by kernel_rfl
theorem tV_a : aggA Try.prog tV = true := by kernel_rfl
theorem tV_s : szA Try.prog tV = 3 := by kernel_rfl
theorem o6_0 (t : List AV) (h : AH) : OpF Try.prog po fAc t h (o6 0) (t.getD 9 .junk) h := .inl ⟨rfl, rfl⟩
theorem o6_1 {t : List AV} {h : AH} {v : AV} (hl : loadA true 3 h (t.getD 4 .junk) = some v) : OpF Try.prog po fAc t h (o6 1) v h := by
  refine .inl ⟨rfl, ?_⟩
  show (if ((Try.prog).underlying tV).isNone then none else (loadA (aggA Try.prog tV) (szA Try.prog tV) h (t.getD 4 .junk)).map fun v => (v, h)) = _
  rw [tV_u, tV_a, tV_s, hl]
  rfl
theorem o6_2 (t : List AV) : calleeA t (o6 2) = some (49, [t.getD 22 .junk, t.getD 23 .junk]) := rfl
theorem val_fn : ∃ fn, (Try.prog).funcs[(49 : Nat)]? = some fn ∧ (fn.body.isNone = false ∧ (fn.name == "runtime.NumGoroutine") = false) := ⟨_, Try.func49, by kernel_rfl, by kernel_rfl⟩
/-- what is behind the deferred call, where the mover gave up -/
theorem ac_gone {b : Nat} {r : List AV} {gv : AV} {h4 : AH} {c : Int} (o1 : r.all AV.one = true) (o2 : r.length = 3) (og : gv = .nils ∨ ∃ id e rows, gv = .isl id e rows)
    (eM : runF Try.prog po 29 [.ptr b 0 0, .agg r] (acH h r) = some (.inl (.int .i64 0), acH h r))
    (eV : runF Try.prog po 49 [.ptr (acH h r).n 0 0, .agg r] ((acH h r).push [[.ptr b 0 0, gv]]) = some (.inr (.iface tGone (.int .i64 c)), h4)) (k6 : h4.cell (h.n + 1) = some [zR]) (k7 : h4.cell (h.n + 1 + 1) = some [[.int .i64 0]]) :
    AC Try.prog fAc [.ptr b 0 0, .agg r, gv] h (.inl (.tup [.agg zR, .int .i64 c]), (h4.set (h.n + 1) (some [zR])).set (h.n + 1 + 1) (some [[.int .i64 c]])) := by
  intro m w vs hw hvs cs
  have c4 : ((acH h r).push [[.ptr b 0 0, gv]]).cell h.n = some [r] := (push_lt (by simp only [acH, push_n]; omega)).trans push3_0
  have hr3 : runR (runF Try.prog po) 9 [.ss rc_acr3, .halt [.code (cR cW)]] [.ptr b 0 0, .agg r, gv, .ptr h.n 0 0, .ptr (h.n + 1) 0 0, .ptr (h.n + 1 + 1) 0 0, .int .i64 0, .junk, .bool false] [] (acH h r) =
      some (.halt [.code (cR cW)], [.ptr b 0 0, .agg r, gv, .ptr h.n 0 0, .ptr (h.n + 1) 0 0, .ptr (h.n + 1 + 1) 0 0, .int .i64 0, .ptr (acH h r).n 0 0, .bool false], (acH h r).push [[.ptr b 0 0, gv]]) := by
    unfold rc_acr3
    rcases og with rfl | ⟨id, e, rows, rfl⟩
    · simp only [sim, List.length_cons, List.length_nil, Nat.reduceAdd, Nat.reduceSub, List.replicate, List.cons_append, List.nil_append, List.map_cons, List.map_nil, Option.bind_some, Option.map_some, Option.bind_none, Option.map_none, if_true, if_false, decide_true, decide_false, Bool.false_eq_true, Bool.true_eq_false, Bool.not_true, Bool.not_false, reduceCtorEq, Bool.and_true, Bool.true_and, Bool.and_false, Bool.false_and, Bool.or_true, Bool.true_or, Bool.or_false, Bool.false_or, true_and, and_true, false_and, and_false, List.take_zero, List.take_succ_cons, List.drop_zero, List.drop_succ_cons, List.take_nil, List.drop_nil, List.set_cons_zero, List.set_cons_succ, Nat.reduceLeDiff, Nat.reduceLT, Nat.zero_add, Nat.lt_add_one, Nat.le_refl, clearA, Int.toNat_natCast]
    · simp only [sim, List.length_cons, List.length_nil, Nat.reduceAdd, Nat.reduceSub, List.replicate, List.cons_append, List.nil_append, List.map_cons, List.map_nil, Option.bind_some, Option.map_some, Option.bind_none, Option.map_none, if_true, if_false, decide_true, decide_false, Bool.false_eq_true, Bool.true_eq_false, Bool.not_true, Bool.not_false, reduceCtorEq, Bool.and_true, Bool.true_and, Bool.and_false, Bool.false_and, Bool.or_true, Bool.true_or, Bool.or_false, Bool.false_or, true_and, and_true, false_and, and_false, List.take_zero, List.take_succ_cons, List.drop_zero, List.drop_succ_cons, List.take_nil, List.drop_nil, List.set_cons_zero, List.set_cons_succ, Nat.reduceLeDiff, Nat.reduceLT, Nat.zero_add, Nat.lt_add_one, Nat.le_refl, clearA, Int.toNat_natCast]
  obtain ⟨bf, t2, b1, b2, b3, rv, m2, w2, x1, x2, x3, a2, x4, x5, x6⟩ := ac_pre o1 o2 (ac_run1 (gv := gv) o2 eM) (fun v => by simp) hw hvs cs
  rw [b3] at x5
  have v6 := tmp_at rv x4 (j := 4) (s := 6) rfl
  have v7 := tmp_at rv x4 (j := 5) (s := 7) rfl
  have hsz : a2.tmps.size = 25 := by rw [x4.1, rv.len]
  have lay := ac_lay (w := w2) (bf := bf) (a2 := a2) (cs := cs) hsz rfl rfl
  generalize hp6 : a2.tmps.getD 6 undef = p6 at v6 lay
  generalize hp7 : a2.tmps.getD 7 undef = p7 at v7 lay
  rw [x5] at lay
  have ht3 := x4.put (VR.junk (.func (.func fCl) #[] #[p6, p7])) (some 17)
  have rv3 := rv_out (i := 17) (v := .junk) rv (by decide)
  obtain ⟨t5, hp, rv5⟩ := piece pok (okVm_use ac_vm) ac_tr3 ac_ord3 hr3 rv3
  have rv5 := rv5 (fun v => by simp)
  obtain ⟨m3, w3, y1, y2, y3, a5, y4, y5, y6⟩ := hp m2 w2 { a2.put (some 17) (.func (.func fCl) #[] #[p6, p7]) with defers := [{ target := .fn (.func fCl) #[p6, p7], args := #[] }] } { bf with defers := [{ target := .fn (.func fCl) #[p6, p7], args := #[] }] } cs x2 ht3 rfl
  have s1 : Steps Try.prog (lone (bf.at { a2.put (some 17) (.func (.func fCl) #[] #[p6, p7]) with defers := [{ target := .fn (.func fCl) #[p6, p7], args := #[] }] } [.code cW]) cs w2) (lone (bf.at a5 [.inRegion ops6 [0, 1, 2, 3, 4], .code .ret]) cs w3) := by
    conv => lhs; rw [ac_seq4]
    refine .head step_seq (y6.trans ?_)
    conv => lhs; rw [ac_seq5]
    refine .head step_seq ?_
    conv => lhs; rw [ac_six]
    exact .one step_region
  -- the first two operations of the last statement
  obtain ⟨q9, e9⟩ := rv_at rv5 (j := 7) (s := 9) rfl
  obtain ⟨q4, e4⟩ := rv_at rv5 (j := 3) (s := 4) rfl
  obtain ⟨m6, w6, u6, d1, d2, d3, d4, d5⟩ := opF_steps (b := bf) (cs := cs) (K := [.code .ret]) (all := ops6) (i := 0) (rest := [1, 2, 3, 4]) pok rfl (rfl : wantedA ops6 t5 (o6 0) = some true) y2 y4 (o6_0 t5 _)
  have ht6 := (y4.ext d1).put d3 (some 22)
  have rv6 := rv_out (i := 22) (v := t5.getD 9 .junk) rv5 (by decide)
  obtain ⟨q4', e4'⟩ := rv_at rv6 (j := 3) (s := 4) rfl
  obtain ⟨m7, w7, u7, f1, f2, f3, f4, f5⟩ := opF_steps (b := bf) (cs := cs) (K := [.code .ret]) (all := ops6) (i := 1) (rest := [2, 3, 4]) (o := o6 1) (a := a5.put (some 22) u6) (v := .agg r) pok rfl (rfl : wantedA ops6 _ (o6 1) = some true) d2 ht6 (o6_1 (by
    rw [e4']
    simp [loadA, AH.row, c4, ld_all o2]))
  have ht7 := (ht6.ext f1).put f3 (some 23)
  have rv7 := rv_out (i := 23) (v := .agg r) rv6 (by decide)
  -- the call that gives up
  obtain ⟨fn, g1, g2, g3⟩ := val_fn
  have hl7 : (putA (putA t5 (some 22) (t5.getD 9 .junk)) (some 23) (.agg r)).length = 25 := rv7.len
  have hl5 : t5.length = 25 := rv5.len
  have ecl := o6_2 (putA (putA t5 (some 22) (t5.getD 9 .junk)) (some 23) (.agg r))
  have ea : (putA (putA t5 (some 22) (t5.getD 9 .junk)) (some 23) (.agg r)).getD 22 .junk = .ptr (acH h r).n 0 0 := by
    have : (putA (putA t5 (some 22) (t5.getD 9 .junk)) (some 23) (.agg r)).getD 22 .junk = t5.getD 9 .junk := by simp [putA, List.getD, List.getElem?_set, hl5]
    rw [this, e9]
    rfl
  have eb : (putA (putA t5 (some 22) (t5.getD 9 .junk)) (some 23) (.agg r)).getD 23 .junk = .agg r := by simp [putA, List.getD, List.getElem?_set, hl5]
  rw [ea, eb] at ecl
  have hac := runF_sound pok eV
  obtain ⟨vs7, v1, v2⟩ := callee_sound (w := w7) ht7 ecl g1 g3 g2
  obtain ⟨e, w8, hR, hst⟩ := step_call (b := bf) (cs := cs) (k := [.code .ret]) (rest := [3, 4]) (all := ops6) (i := 2) rfl (wanted_sound ht7 ops6 (o6 2) (rfl : wantedA ops6 _ (o6 2) = some true)) v2 (hac m7 w7 vs7 f2 v1) (by rintro w' ⟨m', _, _, _, u', h, _⟩; cases h)
  obtain ⟨m8, z1, z2, z3, u8, rfl, z5⟩ := hR
  rcases hst with ⟨v', h3, _⟩ | ⟨ch, h3, todo, z6⟩
  · cases h3
  injection h3 with h3
  subst h3
  have hlv : Leaves Try.prog Try.f19 ((a5.put (some 22) u6).put (some 23) u7).tmps (fun e w' => ∃ m', Ext m h m' ((h4.set (h.n + 1) (some [zR])).set (h.n + 1 + 1) (some [[.int .i64 c]])) ∧ WR Try.prog m' ((h4.set (h.n + 1) (some [zR])).set (h.n + 1 + 1) (some [[.int .i64 c]])) w' ∧ Below m.base w w' ∧ ∃ u, e = .returned u ∧ VR Try.prog m' ((h4.set (h.n + 1) (some [zR])).set (h.n + 1 + 1) (some [[.int .i64 c]])) (.tup [.agg zR, .int .i64 c]) u) [{ target := .fn (.func fCl) #[p6, p7], args := #[] }] (.panicking [{ v := u8, recovered := false }]) w8 := by
    refine leaves_cons (f := fCl) (args := #[p6, p7]) (by simp) (by simp [go_sem]) ?_
    refine (cl_panics (code := c) z2 (((((v6.ext y1).ext d1).ext f1).ext z1)) (((((v7.ext y1).ext d1).ext f1).ext z1)) z5 k6 k7 (by omega) rfl).mono ?_
    rintro e u'' w' ⟨⟨v, rfl⟩, rfl, m9, n1, n2, n3⟩
    have hres := ac_resA (h := (h4.set (h.n + 1) (some [zR])).set (h.n + 1 + 1) (some [[.int .i64 c]])) (v := .tup [.agg zR, .int .i64 c]) rv7 (by
      have q6 : ((h4.set (h.n + 1) (some [zR])).set (h.n + 1 + 1) (some [[.int .i64 c]])).cell (h.n + 1) = some [zR] := (set_ne (by omega)).trans set_same
      simp only [sim, List.length_cons, List.length_nil, Nat.reduceAdd, Nat.reduceSub, List.replicate, List.cons_append, List.nil_append, List.map_cons, List.map_nil, Option.bind_some, Option.map_some, Option.bind_none, Option.map_none, if_true, if_false, decide_true, decide_false, Bool.false_eq_true, Bool.true_eq_false, Bool.not_true, Bool.not_false, reduceCtorEq, Bool.and_true, Bool.true_and, Bool.and_false, Bool.false_and, Bool.or_true, Bool.true_or, Bool.or_false, Bool.false_or, true_and, and_true, false_and, and_false, List.take_zero, List.take_succ_cons, List.drop_zero, List.drop_succ_cons, List.take_nil, List.drop_nil, List.set_cons_zero, List.set_cons_succ, Nat.reduceLeDiff, Nat.reduceLT, Nat.zero_add, Nat.lt_add_one, Nat.le_refl, clearA, Int.toNat_natCast, q6])
    obtain ⟨u, h7, h8⟩ := res_sound n2 ((ht7.ext z1).ext n1) hres
    refine ⟨u, h7, m9, ((((x1.trans y1).trans d1).trans f1).trans z1).trans n1, n2, ?_, u, rfl, h8⟩
    have q1 : m2.base = m.base := x1.base
    have q2 : m3.base = m2.base := y1.base
    have q3 : m6.base = m3.base := d1.base
    have q5 : m7.base = m6.base := f1.base
    have q6 : m8.base = m7.base := z1.base
    rw [q6, q5, q3, q2, q1] at n3
    rw [q5, q3, q2, q1] at z3
    rw [q3, q2, q1] at f4
    rw [q2, q1] at d4
    rw [q1] at y3
    exact ((((x3.trans y3).trans d4).trans f4).trans z3).trans n3
  have hdf : ((a5.put (some 22) u6).put (some 23) u7).defers = [{ target := .fn (.func fCl) #[p6, p7], args := #[] }] := y5
  obtain ⟨e, w9, fr', hR, hs, hfn, hl⟩ := leaves_steps [{ target := .fn (.func fCl) #[p6, p7], args := #[] }] (.panicking [{ v := u8, recovered := false }]) w8 { (bf.at ((a5.put (some 22) u6).put (some 23) u7) todo) with mode := .panicking [{ v := u8, recovered := false }] } cs rfl hdf rfl (by simp [Frame.at, b1]) (by simpa [Frame.at] using b2) hlv
  exact ⟨e, w9, fr', hR, Comes.of_steps (x6.trans (lay.trans (s1.trans (d5.trans (f5.trans z6))))) hs, hfn.trans b1, hl⟩
end
end Go.Proofs.Ytioladnogpfeeaa
