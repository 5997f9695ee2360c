/- What a list of steps comes to the function comes to: the proof. -/
import Derived.Test.YtacocolcighomaaRc3
namespace Go.Proofs.Ytacocolcighomaa
set_option linter.unusedSimpArgs false
set_option linter.unusedVariables false
open Go

/-- the end of a call, of a list of steps -/
noncomputable def cFR (p : Bool) (rs : List RRes) (h0 : AH) : Option (AEx × List AV × AH) → Option ((AV ⊕ AV) × AH)
  | some (.ret, V, h) => cF.cR p h0 h ((resR V h rs).map oneA)
  | some (.panic v, _, h) => fgA p h0 (.inr v, h)
  | none => none

section
variable {P : Program} {po : Pol} {f : FuncId} {n nv : Nat} {vm lm : List Nat} {t V L : List AV} {h : AH}

theorem motR_ops {d : RD} {is : List RI} {k' : List RK} {o : Oper} {c : List RCk} {ck : List Oper} {l : List (Oper × List Oper)} {all : Array Oper} {lm2 : List Nat} {dr : Bool} {ak : List AItem} {v : AV} {h' : AH} {r : AEx × List AV × AH}
    (hnd : vm.Nodup) (hd : trDst n vm lm o.dst = some (d, lm2)) (hc : trCks P vm lm2 all ck = some c) (his : trOps P (po.mu f) n vm all lm2 l = some is) (hk : KC P (po.mu f) (po.plan f) n vm ak k') (rv : RV n vm lm t V L)
    (hm : MotR P po f n vm (.ops (addCk c is) :: k') (putV V v d) (putL L v d) h' r) :
    chkA P all (putA t o.dst v) h' ck ∧ ToK P po f n vm (.ops dr all l :: ak) (putA t o.dst v) h' r := by
  have rv' := trDst_sound rv hnd hd v
  cases c with
  | nil =>
    refine ⟨trCks_sound rv' hc trivial, hm.2.1 dr all l is ak _ _ k' rfl his hk rv'⟩
  | cons q c => exact hm.2.2 dr all l is (q :: c) ck ak _ _ k' rfl hc his hk rv'

theorem trOps_cons {mu : TypeId → Bool} {all : Array Oper} {lm : List Nat} {l : List (Oper × List Oper)} {x : RI} {is : List RI} (he : trOps P mu n vm all lm l = some (x :: is)) :
    ∃ o ck l' ro g d lm2 c is', l = (o, ck) :: l' ∧ trOp P mu vm lm o = some ro ∧ trGuard vm lm all o = some g ∧ trDst n vm lm o.dst = some (d, lm2) ∧ trCks P vm lm2 all ck = some c ∧ trOps P mu n vm all lm2 l' = some is' ∧
      x = mkRI g d ro ∧ is = addCk c is' := by
  cases l with
  | nil => simp [trOps] at he
  | cons q l' =>
    obtain ⟨o, ck⟩ := q
    simp only [trOps] at he
    obtain ⟨ro, h1, he⟩ := Option.bind_eq_some_iff.1 he
    obtain ⟨g, h2, he⟩ := Option.bind_eq_some_iff.1 he
    obtain ⟨⟨d, lm2⟩, h3, he⟩ := Option.bind_eq_some_iff.1 he
    obtain ⟨c, h4, he⟩ := Option.bind_eq_some_iff.1 he
    obtain ⟨is', h5, he⟩ := Option.map_eq_some_iff.1 he
    simp only [List.cons.injEq] at he
    exact ⟨o, ck, l', ro, g, d, lm2, c, is', rfl, h1, h2, h3, h4, h5, he.1.symm, he.2.symm⟩

theorem run_op {dr : Bool} {all : Array Oper} {o : Oper} {ck : List Oper} {l : List (Oper × List Oper)} {ak : List AItem} {v : AV} {h' : AH} (hw : wantedA all t o = some true) (hc : calleeA t o = none) (he : evalOp P (po.mu f) t h o = some (v, h')) (hck : chkA P all (putA t o.dst v) h' ck) :
    runK P po f (.ops dr all ((o, ck) :: l) :: ak) t h = runK P po f (.ops dr all l :: ak) (putA t o.dst v) h' := by
  rw [runK_cons, hw, cW_true, hc, cC_none, he, cO_some, cK_yes hck]
theorem run_call {dr : Bool} {all : Array Oper} {o : Oper} {ck : List Oper} {l : List (Oper × List Oper)} {ak : List AItem} {g : FuncId} {args : List AV} {v : AV} {h' : AH} (hw : wantedA all t o = some true) (hc : calleeA t o = some (g, args)) (he : runF P po g args h = some (.inl v, h')) (hck : chkA P all (putA t o.dst v) h' ck) :
    runK P po f (.ops dr all ((o, ck) :: l) :: ak) t h = runK P po f (.ops dr all l :: ak) (putA t o.dst v) h' := by
  rw [runK_cons, hw, cW_true, hc, cC_some, he, cCl_ret, cK_yes hck]
theorem run_stop {dr : Bool} {all : Array Oper} {o : Oper} {ck : List Oper} {l : List (Oper × List Oper)} {ak : List AItem} {g : FuncId} {args : List AV} {v : AV} {h' : AH} (hw : wantedA all t o = some true) (hc : calleeA t o = some (g, args)) (he : runF P po g args h = some (.inr v, h')) :
    runK P po f (.ops dr all ((o, ck) :: l) :: ak) t h = some (.panic v, t, h') := by
  rw [runK_cons, hw, cW_true, hc, cC_some, he, cCl_panic]
theorem run_skip {dr : Bool} {all : Array Oper} {o : Oper} {ck : List Oper} {l : List (Oper × List Oper)} {ak : List AItem} (hw : wantedA all t o = some false) :
    runK P po f (.ops dr all ((o, ck) :: l) :: ak) t h = runK P po f (.ops dr all l :: ak) (putA t o.dst (.tup [])) h := by
  rw [runK_cons, hw, cW_false]

theorem runR_mot (hnd : vm.Nodup) (hcl : ∀ j s, vm[j]? = some s → (j < nv ↔ s < po.nv f)) :
    ∀ (k : List RK) (V L : List AV) (h : AH) (r : AEx × List AV × AH), runR (runF P po) nv k V L h = some r → MotR P po f n vm k V L h r := by
  refine runR.partial_correctness (runF P po) nv (MotR P po f n vm) fun run ih k V L h r hr => ?_
  have wanted : ∀ {d : RD} {ro : RO} {is : List RI} {k' : List RK}, (match calleeR V L ro with
      | some (g, args) => runF P po g args h >>= fun r => match r.1 with
        | .inl v => run (.ops is :: k') (putV V v d) (putL L v d) r.2
        | .inr v => some (.panic v, V, r.2)
      | none => evalR V L h ro >>= fun r => run (.ops is :: k') (putV V r.1 d) (putL L r.1 d) r.2) = some r →
      ∀ {all o ck l lm lm2 c is' ak t dr}, trOp P (po.mu f) vm lm o = some ro → trDst n vm lm o.dst = some (d, lm2) → trCks P vm lm2 all ck = some c → trOps P (po.mu f) n vm all lm2 l = some is' → is = addCk c is' →
      KC P (po.mu f) (po.plan f) n vm ak k' → RV n vm lm t V L → wantedA all t o = some true → ToK P po f n vm (.ops dr all ((o, ck) :: l) :: ak) t h r := by
    intro d ro is k' hr all o ck l lm lm2 c is' ak t dr h1 h2 h3 h4 h5 hk rv hw
    obtain ⟨e1, e2⟩ := trOp_sound (h := h) rv h1
    split at hr
    · rename_i g args hcl'
      obtain ⟨⟨x, h'⟩, hx, hr⟩ := Option.bind_eq_some_iff.1 hr
      cases x with
      | inl v =>
        simp only at hr
        subst h5
        have hm := ih _ _ _ _ _ hr
        obtain ⟨m1, m2⟩ := motR_ops (dr := dr) hnd h2 h3 h4 hk rv hm
        exact m2.eq (run_call hw (e2.trans hcl') hx m1)
      | inr v =>
        simp only at hr
        injection hr with hr
        subst hr
        exact ⟨t, run_stop hw (e2.trans hcl') hx, fun e => by cases e⟩
    · rename_i hcl'
      obtain ⟨⟨v, h'⟩, hx, hr⟩ := Option.bind_eq_some_iff.1 hr
      simp only at hr
      subst h5
      have hm := ih _ _ _ _ _ hr
      obtain ⟨m1, m2⟩ := motR_ops (dr := dr) hnd h2 h3 h4 hk rv hm
      exact m2.eq (run_op hw (e2.trans hcl') (e1.trans hx) m1)
  split at hr
  · injection hr with hr
    subst hr
    refine MotR.not_ops (by simp) fun ak t hk rv => ?_
    cases hk
    exact ⟨t, runK_nil, fun _ => rv⟩
  · rename_i k
    refine MotR.not_ops (by simp) fun ak t hk rv => ?_
    cases hk with
    | ss cs _ k0 _ htr hk =>
      rcases head_list (po := po) (f := f) cs [] htr with ⟨_, e2⟩ | ⟨s, l', c1, cs', e1, _⟩
      · exact ((ih _ _ _ _ _ hr).1 _ _ hk rv.drop).eq (e2 _ _ _)
      · cases e1
  · rename_i s l k
    refine MotR.not_ops (by simp) fun ak t hk rv => ?_
    cases hk with
    | ss cs _ k0 _ htr hk =>
      rcases head_list (po := po) (f := f) cs (s :: l) htr with ⟨e1, _⟩ | ⟨s', l', c1, cs', e1, e2, e3, e4⟩
      · cases e1
      · injection e1 with e1 e1'
        subst e1; subst e1'
        refine ToK.eq (e4 _ _ _) ?_
        have hkc : KC P (po.mu f) (po.plan f) n vm (cs'.map .code ++ k0) (.ss l :: k) := .ss cs' l k0 k e2 hk
        cases e3 with
        | region id all d is hreg =>
          exact ((ih _ _ _ _ _ hr).2.1 d all _ is _ [] t _ rfl hreg hkc rv).eq runK_region
        | cond c x y a xs ys ha hx hy =>
          simp only at hr
          have hev := trArg_sound rv ha
          split at hr
          · rename_i b hb
            have hev2 : evA t c = .bool b := hev.trans hb
            cases b with
            | true =>
              simp only [if_true] at hr
              refine ToK.eq (by rw [runK_cond, hev2, cCd_true]) ((ih _ _ _ _ _ hr).1 (.code x :: (cs'.map .code ++ k0)) t ?_ rv)
              exact .ss [x] xs _ _ (by simp [trL, hx]) hkc
            | false =>
              simp only [Bool.false_eq_true, if_false] at hr
              refine ToK.eq (by rw [runK_cond, hev2, cCd_false]) ((ih _ _ _ _ _ hr).1 (.code y :: (cs'.map .code ++ k0)) t ?_ rv)
              exact .ss [y] ys _ _ (by simp [trL, hy]) hkc
          · cases hr
        | block id b bs hb =>
          refine ToK.eq runK_block ((ih _ _ _ _ _ hr).1 (.code b :: .inBlock id :: (cs'.map .code ++ k0)) t ?_ rv)
          exact .ss [b] bs _ _ (by simp [trL, hb]) (.blk id _ _ hkc)
        | loop b bs hb =>
          exact ToK.eq runK_loop ((ih _ _ _ _ _ hr).1 (.inLoop b :: (cs'.map .code ++ k0)) t (.lp b bs _ _ hb hkc) rv)
        | exit id =>
          obtain ⟨rk', h1, hr⟩ := Option.bind_eq_some_iff.1 hr
          obtain ⟨k', h2, h3⟩ := exit_rel hkc (by simpa [exitR] using h1 : exitR id (.ss l :: k) = some rk')
          exact ToK.eq (by rw [runK_exit, h2, cE_some]) ((ih _ _ _ _ _ hr).1 k' t h3 rv)
        | ret =>
          injection hr with hr
          subst hr
          exact ⟨t, runK_ret, fun _ => rv⟩
  · rename_i id k
    refine MotR.not_ops (by simp) fun ak t hk rv => ?_
    cases hk with
    | blk _ k0 _ hk => exact ToK.eq runK_inBlock ((ih _ _ _ _ _ hr).1 _ _ hk rv)
  · rename_i b k
    refine MotR.not_ops (by simp) fun ak t hk rv => ?_
    cases hk with
    | lp c _ k0 _ hb hk =>
      refine ToK.eq runK_inLoop ((ih _ _ _ _ _ hr).1 (.code c :: .inLoop c :: k0) _ ?_ (rv.clear hcl))
      exact .ss [c] b _ _ (by simp [trL, hb]) (.lp c b _ _ hb hk)
  · rename_i k
    refine ⟨fun ak t hk rv => (by cases hk), fun dr all l is ak lm t k' he htr hk rv => ?_, fun dr all l is c ck ak lm t k' he => (by cases he)⟩
    injection he with he1 he2
    injection he1 with he1
    subst he1; subst he2
    cases l with
    | nil => exact ToK.eq runK_ops_nil ((ih _ _ _ _ _ hr).1 _ _ hk rv.drop)
    | cons q l =>
      obtain ⟨o, ck⟩ := q
      simp only [trOps] at htr
      obtain ⟨ro, h1, htr⟩ := Option.bind_eq_some_iff.1 htr
      obtain ⟨g, h2, htr⟩ := Option.bind_eq_some_iff.1 htr
      obtain ⟨⟨d, lm2⟩, h3, htr⟩ := Option.bind_eq_some_iff.1 htr
      obtain ⟨c, h4, htr⟩ := Option.bind_eq_some_iff.1 htr
      obtain ⟨is', h5, htr⟩ := Option.map_eq_some_iff.1 htr
      cases htr
  · rename_i l is k
    split at hr
    · rename_i hck
      refine ⟨fun ak t hk rv => (by cases hk), fun dr all l2 is2 ak lm t k' he htr hk rv => ?_, fun dr all l2 is2 c ck ak lm t k' he hc htr hk rv => ?_⟩
      · injection he with he1 he2
        injection he1 with he1
        subst he1; subst he2
        obtain ⟨o, ck, l', ro, g, d, lm2, c, is', _, _, _, _, _, _, hx, _⟩ := trOps_cons htr
        cases g <;> cases hx
      · injection he with he1 he2
        injection he1 with he1
        injection he1 with he0 he1
        injection he0 with he0
        subst he0; subst he1; subst he2
        exact ⟨trCks_sound rv hc hck, (ih _ _ _ _ _ hr).2.1 dr all l2 is ak lm t _ rfl htr hk rv⟩
    · cases hr
  · rename_i d ro is k
    refine ⟨fun ak t hk rv => (by cases hk), fun dr all l is2 ak lm t k' he htr hk rv => ?_, fun dr all l is2 c ck ak lm t k' he => (by cases he)⟩
    injection he with he1 he2
    injection he1 with he1
    subst he1; subst he2
    obtain ⟨o, ck, l', ro', g, d', lm2, c, is', rfl, h1, h2, h3, h4, h5, hx, h6⟩ := trOps_cons htr
    cases g with
    | some g => cases hx
    | none =>
      injection hx with hx1 hx2
      subst hx1; subst hx2
      exact wanted hr h1 h3 h4 h5 h6 hk rv (by rw [trGuard_sound rv h2]; rfl)
  · rename_i a w d ro is k
    refine ⟨fun ak t hk rv => (by cases hk), fun dr all l is2 ak lm t k' he htr hk rv => ?_, fun dr all l is2 c ck ak lm t k' he => (by cases he)⟩
    injection he with he1 he2
    injection he1 with he1
    subst he1; subst he2
    obtain ⟨o, ck, l', ro', g, d', lm2, c, is', rfl, h1, h2, h3, h4, h5, hx, h6⟩ := trOps_cons htr
    cases g with
    | none => cases hx
    | some g =>
      injection hx with hx1 hx2 hx3 hx4
      obtain ⟨ga, gw⟩ := g
      simp only at hx1 hx2
      subst hx1; subst hx2; subst hx3; subst hx4
      have hg := trGuard_sound rv h2
      simp only [guardO] at hg
      split at hr
      · cases hr
      · rename_i hgf
        subst h6
        obtain ⟨_, m2⟩ := motR_ops (dr := dr) hnd h3 h4 h5 hk rv (ih _ _ _ _ _ hr)
        exact m2.eq (run_skip (hg.trans hgf))
      · rename_i hgt
        exact wanted hr h1 h3 h4 h5 h6 hk rv (hg.trans hgt)

theorem resR_sound (rv : RV n vm [] t V []) : ∀ {l : List ResultVar} {rs : List RRes}, trRes P vm l = some rs → resL P t h l = resR V h rs
  | [], rs, he => by simp only [trRes, Option.some.injEq] at he; subst he; rfl
  | .tmp i :: l, rs, he => by
    simp only [trRes] at he
    obtain ⟨j, hj, he⟩ := Option.bind_eq_some_iff.1 he
    obtain ⟨rs', hrs, rfl⟩ := Option.map_eq_some_iff.1 he
    simp only [resL, resR, resR_sound rv hrs, (rv.v j i (findI_get hj)).2]
  | .cell i ty :: l, rs, he => by
    simp only [trRes] at he
    split at he
    · cases he
    · rename_i hn
      obtain ⟨j, hj, he⟩ := Option.bind_eq_some_iff.1 he
      obtain ⟨rs', hrs, rfl⟩ := Option.map_eq_some_iff.1 he
      simp only [resL, resR, resR_sound rv hrs, (rv.v j i (findI_get hj)).2, if_neg hn]

/-- variables: the arguments first; those that stay over a loop's round ahead of the others -/
def okVm (a n nk nv : Nat) (vm : List Nat) : Bool :=
  decide (a ≤ vm.length ∧ a ≤ n) && (List.range vm.length).all fun j => let s := vm.getD j 0
    decide (s < n) && (decide (j < nv) == decide (s < nk)) && (if j < a ∨ s < a then s == j else true) && (List.range j).all fun i => vm.getD i 0 != s

/-- a function is a list of steps -/
def FnR (P : Program) (po : Pol) (g : FuncId) (a nv : Nat) (vm : List Nat) (ss : List RS) (rs : List RRes) (p : Bool) : Prop :=
  ∃ fn c, P.funcs[g]? = some fn ∧ fn.body = some c ∧ po.ext g = none ∧ po.use g = true ∧ po.pure g = p ∧ trCode P (po.mu g) (po.plan g) fn.ntmps vm c [] = some ss ∧ okVm a fn.ntmps (po.nv g) nv vm = true ∧ trRes P vm fn.results.toList = some rs

theorem runF_R {g : FuncId} {a : Nat} {ss : List RS} {rs : List RRes} {p : Bool} {args : List AV} {q : (AV ⊕ AV) × AH} (hf : FnR P po g a nv vm ss rs p) (ha : args.length = a)
    (hr : cFR p rs h (runR (runF P po) nv [.ss ss] (args ++ List.replicate (vm.length - args.length) .junk) [] h) = some q) : runF P po g args h = some q := by
  obtain ⟨fn, c, h1, h2, h3, h4, h5, h6, h7, h8⟩ := hf
  rw [runF_body h3 h1 h2 h4 h5]
  unfold okVm at h7
  simp only [Bool.and_eq_true, decide_eq_true_eq, List.all_eq_true, List.mem_range, beq_iff_eq, bne_iff_ne, ne_eq] at h7
  obtain ⟨⟨a1, a2⟩, a3⟩ := h7
  have get : ∀ j s, vm[j]? = some s → j < vm.length ∧ vm.getD j 0 = s := fun j s hj => ⟨(List.getElem?_eq_some_iff.1 hj).1, by simp [List.getD, hj]⟩
  have hnd : vm.Nodup := by
    rw [List.nodup_iff_pairwise_ne, List.pairwise_iff_getElem]
    intro i j hi hj hij e
    have := (a3 j hj).2 i hij
    apply this
    simp [List.getD, hi, hj, e]
  have hcl : ∀ j s, vm[j]? = some s → (j < nv ↔ s < po.nv g) := by
    intro j s hj
    obtain ⟨g1, g2⟩ := get j s hj
    have := (a3 j g1).1.1.2
    rw [g2] at this
    exact decide_eq_decide.1 this
  have rv : RV fn.ntmps vm [] (args ++ List.replicate (fn.ntmps - args.length) .junk) (args ++ List.replicate (vm.length - args.length) .junk) [] := by
    refine ⟨by simp; omega, by simp; omega, rfl, fun j s hj => ?_, fun j s hj => by simp at hj⟩
    obtain ⟨g1, g2⟩ := get j s hj
    obtain ⟨⟨⟨b1, _⟩, b2⟩, _⟩ := a3 j g1
    rw [g2] at b1 b2
    refine ⟨b1, ?_⟩
    by_cases hc : j < a ∨ s < a
    · rw [if_pos hc] at b2
      have : s = j := by simpa using b2
      subst this
      have hlt : s < args.length := by omega
      simp [List.getD, List.getElem?_append_left hlt]
    · have c1 : ¬ j < args.length := by omega
      have c2 : ¬ s < args.length := by omega
      simp only [List.getD, List.getElem?_append_right (Nat.not_lt.1 c1), List.getElem?_append_right (Nat.not_lt.1 c2), List.getElem?_replicate]
      split <;> split <;> rfl
  generalize hrun : runR (runF P po) nv [.ss ss] (args ++ List.replicate (vm.length - args.length) .junk) [] h = x at hr
  cases x with
  | none => cases hr
  | some r =>
    have hm := (runR_mot (n := fn.ntmps) (f := g) hnd hcl _ _ _ _ _ hrun).1 [.code c] _ (.ss [c] ss [] [] (by simp [trL, h6]) .nil) rv
    obtain ⟨t', e1, e2⟩ := hm
    rw [e1]
    obtain ⟨x, V', h'⟩ := r
    cases x with
    | panic v => exact hr
    | ret =>
      rw [cF_ret]
      have := resR_sound (h := h') (e2 rfl) h8
      unfold resA
      rw [this]
      exact hr
end
end Go.Proofs.Ytacocolcighomaa
