/- What the plain model says of a call is what the machine does. -/
import Derived.Test.YtacocolcighomaaSoundF
namespace Go.Proofs.Ytacocolcighomaa
set_option linter.unusedSimpArgs false
set_option linter.unusedVariables false
open Go Go.RowKit

inductive KR (pl : Nat → List (Nat × List Nat)) : List AItem → List Item → Prop
  | nil : KR pl [] []
  | code (c : Code) (k : List AItem) (K : List Item) : regOK pl c = true → KR pl k K → KR pl (.code c :: k) (.code c :: K)
  | inBlock (id : Nat) (k : List AItem) (K : List Item) : KR pl k K → KR pl (.inBlock id :: k) (.inBlock id :: K)
  | inLoop (c : Code) (k : List AItem) (K : List Item) : regOK pl c = true → KR pl k K → KR pl (.inLoop c :: k) (.inLoop c :: K)

def GoodK (P : Program) (po : Pol) (f : FuncId) (k : List AItem) (t : List AV) (h : AH) (r : AEx × List AV × AH) : Prop :=
  ∀ K, KR (po.plan f) k K → ∀ (b : Frame) (cs : List Frame) (m : Mm) (w : World) (a : Act), WR P m h w → TR P m h t a.tmps → a.defers = [] → OutR P m h w b cs (lone (b.at a K) cs w) r

def MotK (P : Program) (po : Pol) (f : FuncId) : List AItem → List AV → AH → AEx × List AV × AH → Prop
  | .ops true all l :: k, t, h, r => ∃ e t' h', PRun P po f all l t h e t' h' ∧ (match e with | none => GoodK P po f k t' h' r | some v => r = (.panic v, t', h'))
  | .ops false all l :: k, t, h, r => ∀ is : List Nat, l = is.map (fun i => (opI all i, [])) → (∀ i ∈ is, i < all.size) → ∀ K, KR (po.plan f) k K →
      ∀ (b : Frame) (cs : List Frame) (m : Mm) (w : World) (a : Act), WR P m h w → TR P m h t a.tmps → a.defers = [] → OutR P m h w b cs (lone (b.at a (.inRegion all is :: K)) cs w) r
  | k, t, h, r => GoodK P po f k t h r

section
variable {P : Program} {po : Pol} {f : FuncId} {k : List AItem} {t : List AV} {h h' : AH} {r : AEx × List AV × AH}

theorem MotK.good (hm : MotK P po f k t h r) : GoodK P po f k t h r := by
  rcases k with _ | ⟨x, k⟩
  · exact hm
  · cases x with
    | ops d all l => intro K hK; cases hK
    | _ => exact hm

theorem exit_sound {pl : Nat → List (Nat × List Nat)} {id : Nat} : ∀ {k k' : List AItem} {K : List Item}, KR pl k K → exitA id k = some k' → ∃ K', exitTo id K = some K' ∧ KR pl k' K' := by
  intro k k' K hk
  induction hk with
  | nil => intro he; simp [exitA] at he
  | code c k K _ _ ih => intro he; simp only [exitA] at he; simpa [exitTo] using ih he
  | inBlock i k K hk ih =>
    intro he
    simp only [exitA] at he
    by_cases hi : i = id
    · rw [if_pos hi] at he
      injection he with he
      subst he
      exact ⟨K, by simp [exitTo, hi], hk⟩
    · rw [if_neg hi] at he
      simpa [exitTo, hi] using ih he
  | inLoop c k K _ _ ih => intro he; simp only [exitA] at he; simpa [exitTo] using ih he

theorem opF_steps (pok : POK P po) {o : Oper} {v : AV} {m : Mm} {w : World} {a : Act} {b : Frame} {cs : List Frame} {K : List Item} {all : Array Oper} {i : Nat} {rest : List Nat} (ho : all[i]? = some o) (hwa : wantedA all t o = some true)
    (hw : WR P m h w) (ht : TR P m h t a.tmps) (hf : OpF P po f t h o v h') :
    ∃ m' w' u, Ext m h m' h' ∧ WR P m' h' w' ∧ VR P m' h' v u ∧ Below m.base w w' ∧ Steps P (lone (b.at a (.inRegion all (i :: rest) :: K)) cs w) (lone (b.at (a.put o.dst u) (.inRegion all rest :: K)) cs w') := by
  have hwt := wanted_sound ht all o hwa
  rcases hf with ⟨_, h2⟩ | ⟨g, args, fn, c1, c2, c3, c4⟩
  · obtain ⟨m', w', u, d1, d2, d3, d4, d5⟩ := evalOp_sound pok.ty hw ht (po.mu f) h2
    exact ⟨m', w', u, d2, d3, d4, d5, step_value ho hwt d1⟩
  · obtain ⟨vs, v1, v2⟩ := callee_sound (w := w) ht c1 c2 c3.2 c3.1
    obtain ⟨e, w', hR, hst⟩ := step_call (b := b) (cs := cs) (k := K) (rest := rest) ho hwt v2 (c4 m w vs hw v1) (by rintro w' ⟨m', _, _, _, u', h, _⟩; cases h)
    obtain ⟨m', x1, x2, x3, u', x4, x5⟩ := hR
    subst x4
    rcases hst with ⟨v', h3, h4⟩ | ⟨ch, h3, _⟩
    · injection h3 with h3
      subst h3
      exact ⟨m', w', u', x1, x2, x5, x3, h4⟩
    · cases h3
theorem stopF_steps (pok : POK P po) {o : Oper} {v : AV} {m : Mm} {w : World} {a : Act} {b : Frame} {cs : List Frame} {K : List Item} {all : Array Oper} {i : Nat} {rest : List Nat} (ho : all[i]? = some o)
    (hw : WR P m h w) (ht : TR P m h t a.tmps) (hd : a.defers = []) (hf : StopF P all o t h v h') : OutR P m h w b cs (lone (b.at a (.inRegion all (i :: rest) :: K)) cs w) (.panic v, t, h') := by
  obtain ⟨hwa, g, args, fn, c1, c2, c3, c4⟩ := hf
  have hwt := wanted_sound ht all o hwa
  obtain ⟨vs, v1, v2⟩ := callee_sound (w := w) ht c1 c2 c3.2 c3.1
  obtain ⟨e, w', hR, hst⟩ := step_call (b := b) (cs := cs) (k := K) (rest := rest) ho hwt v2 (c4 m w vs hw v1) (by rintro w' ⟨m', _, _, _, u', h, _⟩; cases h)
  obtain ⟨m', x1, x2, x3, u', x4, x5⟩ := hR
  subst x4
  rcases hst with ⟨v', h3, _⟩ | ⟨ch, h3, todo, h4⟩
  · cases h3
  · injection h3 with h3
    subst h3
    exact ⟨m', w', x1, x2, x3, a, todo, u', hd, x5, h4⟩

theorem steps_tail {mach mach1 mach2 mach' : Machine} (h1 : step P mach = .next mach1) (h2 : step P mach2 = .next mach1) (hne : mach' ≠ mach) (hs : Steps P mach mach') : Steps P mach2 mach' := by
  obtain ⟨n, hn⟩ := hs
  cases n with
  | zero =>
    simp only [runN, Stepped.next.injEq] at hn
    exact absurd hn.symm hne
  | succ n =>
    simp only [runN, h1] at hn
    exact .head h2 ⟨n, hn⟩
theorem OutR.loop {m : Mm} {w : World} {b : Frame} {cs : List Frame} {a : Act} {K : List Item} {c : Code} (ho : OutR P m h w b cs (lone (b.at a (.inLoop c :: K)) cs w) r) : OutR P m h w b cs (lone (b.at a (.code (.loop c) :: K)) cs w) r := by
  obtain ⟨m', w', h1, h2, h3, h4⟩ := ho
  refine ⟨m', w', h1, h2, h3, ?_⟩
  split at h4
  · obtain ⟨a', todo, h5, h6, h7⟩ := h4
    refine ⟨a', todo, h5, h6, steps_tail step_inLoop step_loop (fun e => ?_) h7⟩
    simp [lone, Frame.at] at e
  · obtain ⟨a', todo, u, h5, h6, h7⟩ := h4
    refine ⟨a', todo, u, h5, h6, steps_tail step_inLoop step_loop (fun e => ?_) h7⟩
    simp [lone, Frame.at] at e

/-- a call of a function of the program -/
theorem good_call (pok : POK P po) {g : FuncId} {fn : Func} {c : Code} {args : List AV} (hf : P.funcs[g]? = some fn) (hb : fn.body = some c) (huse : po.use g = true) (hg : GoodK P po g [.code c] (args ++ List.replicate (fn.ntmps - args.length) .junk) h r) :
    ∀ q, outA P fn r = some q → AC P g args h q := by
  have key : ∀ (m : Mm) (w : World) (vs : List Value), WR P m h w → VRs P m h args vs → ∀ cs, ∃ b : Frame, b.fn = g ∧ b.kind = .normal ∧ OutR P m h w b cs (lone (Frame.enter P g vs.toArray .normal) cs w) r := by
    intro m w vs hw hv cs
    refine ⟨Frame.enter P g vs.toArray .normal, rfl, rfl, ?_⟩
    have := hg [.code c] (.code c _ _ (pok.plan g fn c hf hb huse) .nil) (Frame.enter P g vs.toArray .normal) cs m w { tmps := (vs ++ List.replicate (fn.ntmps - vs.length) undef).toArray, defers := [] } hw ?_ rfl
    · have e : (Frame.enter P g vs.toArray .normal).at { tmps := (vs ++ List.replicate (fn.ntmps - vs.length) undef).toArray, defers := [] } [.code c] = Frame.enter P g vs.toArray .normal := by
        simp [Frame.enter, Frame.at, hf, hb]
      rwa [e] at this
    · have hl := hv.1
      have h2 : VRs P m h (args ++ List.replicate (fn.ntmps - args.length) .junk) (vs ++ List.replicate (fn.ntmps - vs.length) undef) := by
        rw [hl]
        exact VRs.append hv ⟨by simp, fun j hj hj' => by simp only [List.getElem_replicate]; exact .junk _⟩
      refine ⟨by simpa using h2.1, fun i hi => ?_⟩
      have hi2 : i < (vs ++ List.replicate (fn.ntmps - vs.length) undef).length := by rw [h2.1]; exact hi
      have := h2.2 i hi hi2
      simp only [Array.getD_eq_getD_getElem?, List.getElem?_toArray, List.getElem?_eq_getElem hi2, Option.getD_some]
      exact this
  obtain ⟨x, t', h'⟩ := r
  cases x with
  | ret =>
    intro q hq
    obtain ⟨v, hv, rfl⟩ := Option.map_eq_some_iff.1 hq
    intro m w vs hw hvs cs
    obtain ⟨b, hb1, hb2, m', w', h1, h2, h3, a', todo, h4, h5, h6⟩ := key m w vs hw hvs cs
    obtain ⟨u, h7, h8⟩ := res_sound h2 h4 hv
    exact ⟨.returned u, w', _, ⟨m', h1, h2, h3, u, rfl, h8⟩, h6, hb1, rfl, h5, hb2, fn, by simpa [Frame.at, hb1] using hf, h7⟩
  | panic v =>
    intro q hq
    injection hq with hq
    subst hq
    intro m w vs hw hvs cs
    obtain ⟨b, hb1, hb2, m', w', h1, h2, h3, a', todo, u, h4, h5, h6⟩ := key m w vs hw hvs cs
    exact ⟨.panicked _, w', _, ⟨m', h1, h2, h3, u, rfl, h5⟩, h6, hb1, rfl, h4, fn, by simpa [Frame.at, hb1] using hf⟩

theorem MotK.ops_nil {dr : Bool} {all : Array Oper} (hm : MotK P po f k t h r) : MotK P po f (.ops dr all [] :: k) t h r := by
  cases dr with
  | true => exact ⟨none, t, h, .nil t h, hm.good⟩
  | false =>
    intro is his hlt K hK b cs m w a hw ht hd
    cases is with
    | cons i is => simp at his
    | nil => exact OutR.steps (.one step_region_end) (hm.good K hK b cs m w a hw ht hd)
theorem MotK.ops_step (pok : POK P po) {dr : Bool} {all : Array Oper} {q : Oper × List Oper} {l : List (Oper × List Oper)} {t1 : List AV} {h1 : AH} (hs : StepF P po f all q t h t1 h1) (hm : MotK P po f (.ops dr all l :: k) t1 h1 r) : MotK P po f (.ops dr all (q :: l) :: k) t h r := by
  cases dr with
  | true =>
    obtain ⟨e, t', h', h2, h3⟩ := hm
    exact ⟨e, t', h', .step _ _ _ _ _ _ _ _ _ hs h2, h3⟩
  | false =>
    intro is his hlt K hK b cs m w a hw ht hd
    cases is with
    | nil => simp at his
    | cons i is =>
      simp only [List.map_cons, List.cons.injEq] at his
      obtain ⟨rfl, his⟩ := his
      have ho := opI_get (all := all) (hlt i (by simp))
      rcases hs with ⟨s1, rfl, rfl⟩ | ⟨s1, v, s2, rfl, _⟩
      · exact OutR.steps (step_skip_op ho (wanted_sound ht all _ s1)) (hm is his (fun j hj => hlt j (by simp [hj])) K hK b cs m w _ hw (ht.put VR.und _) (by rw [Act.put_defers']; exact hd))
      · obtain ⟨m', w', u, d1, d2, d3, d4, d5⟩ := opF_steps (b := b) (cs := cs) (K := K) (rest := is) pok ho s1 hw ht s2
        exact OutR.steps d5 (OutR.after d1 d4 (hm is his (fun j hj => hlt j (by simp [hj])) K hK b cs m' w' _ d2 ((ht.ext d1).put d3 _) (by rw [Act.put_defers']; exact hd)))
theorem MotK.ops_stop (pok : POK P po) {dr : Bool} {all : Array Oper} {q : Oper × List Oper} {l : List (Oper × List Oper)} {v : AV} (hs : StopF P all q.1 t h v h') : MotK P po f (.ops dr all (q :: l) :: k) t h (.panic v, t, h') := by
  cases dr with
  | true => exact ⟨some v, t, h', .stop _ _ _ _ _ _ hs, rfl⟩
  | false =>
    intro is his hlt K hK b cs m w a hw ht hd
    cases is with
    | nil => simp at his
    | cons i is =>
      simp only [List.map_cons, List.cons.injEq] at his
      obtain ⟨rfl, his⟩ := his
      exact stopF_steps pok (opI_get (hlt i (by simp))) hw ht hd hs

theorem region_good (pok : POK P po) {id : Nat} {all : Array Oper} {d : Bool} (hm : MotK P po f (.ops d all (planA d all (po.plan f id)) :: k) t h r) : GoodK P po f (.code (.region id all d) :: k) t h r := by
  intro K hK b cs m w a hw ht hd
  cases hK with
  | code _ _ K hr hK =>
  cases d with
  | false =>
    refine OutR.steps (.one step_region) (hm (List.range all.size) ?_ (fun i hi => List.mem_range.1 hi) K hK b cs m w a hw ht hd)
    simp only [planA, Bool.false_eq_true, if_false]
    apply List.ext_getElem (by simp)
    intro i h1 h2
    have hi : i < all.size := by simpa using h1
    simp [opI, hi]
  | true =>
    simp only [regOK, Bool.not_true, Bool.false_or] at hr
    have pp := plan_spec hr
    obtain ⟨e, t', h', hp, he⟩ := hm
    obtain ⟨N, ts, hs, h1, h2, h3, h4, h5, h6⟩ := hp.trace
    generalize hpl : po.plan f id = pl at *
    have hlen : (planA true all pl).length = pl.length := by simp [planA]
    have hget : ∀ i, i < pl.length → (planA true all pl)[i]? = some (opP all pl i, (ckP pl i).map (opI all)) := by
      intro i hi
      simp only [planA, if_true, List.getElem?_map, List.getElem?_eq_getElem hi, Option.map_some, Option.some.injEq]
      have e1 : pl.getD i default = pl[i] := by simp [List.getD, hi]
      simp only [opP, opI, ixP, ckP, e1]
      rfl
    have T : Tra P po f all pl N ts hs := ⟨pp, by omega, fun i hi => h5 i _ hi (hget i (by omega))⟩
    subst h2; subst h3; subst h4
    refine OutR.steps (.one step_region_draw) (OutR.after (Ext.refl _ _) (Below.refl _ _).drew ?_)
    simp only [Region.schedule, pok.mixed, Bool.true_or, if_true, Region.linearise]
    refine any_order (r := r) (K := K) (b := b) (cs := cs) pok T ?_ ?_ all.size _ _ 0 m a _ (Nat.zero_le _) (by simp) ?_ ?_ ?_ hw.drew ?_ hd ?_
    · cases e with
      | none => exact .inl (by omega)
      | some v =>
        obtain ⟨q, hq, hst⟩ := h6
        have hN : N < pl.length := by
          have := (List.getElem?_eq_some_iff.1 hq).1
          omega
        rw [hget N hN] at hq
        injection hq with hq
        subst hq
        exact .inr ⟨v, h', hN, hst, he⟩
    · intro hN m1 w1 a1 q1 q2 q3
      cases e with
      | none =>
        obtain ⟨_, h6⟩ := h6
        subst h6
        exact he K hK b cs m1 w1 a1 q1 q2 q3
      | some v =>
        obtain ⟨q, hq, hst⟩ := h6
        have := (List.getElem?_eq_some_iff.1 hq).1
        omega
    · intro j hj hjl
      simp [Array.getD_eq_getD_getElem?, hj] at hjl
    · intro j hj hjl
      have := pp.lt j hj
      simp [Array.getD_eq_getD_getElem?, this] at hjl
    · intro j hj
      omega
    · have hl := T.len 0 (Nat.zero_le _)
      refine ⟨by rw [mixT_len, ← hl]; exact ht.1, fun d hdl => ?_⟩
      have hdl' : d < (ts 0).length := by rw [mixT_len] at hdl; omega
      by_cases hrd : ReadyS all pl (Array.replicate all.size false) d
      · have e1 := mixT_get (τ := ts N) hrd
        have e2 : (mixT all pl (Array.replicate all.size false) (ts N))[d] = (ts N).getD d .junk := by
          rw [← e1]
          simp [List.getD, hdl]
        have e3 := T.keep d 0 N (by omega) (fun j _ hj he => by
          have hjl : j < pl.length := by omega
          have := hrd j hjl he
          have h3 := pp.lt j hjl
          simp [Array.getD_eq_getD_getElem?, h3] at this)
        rw [Nat.zero_add] at e3
        rw [e2, e3]
        have := ht.2 d hdl'
        simpa [List.getD, hdl'] using this
      · have e3 : (mixT all pl (Array.replicate all.size false) (ts N))[d] = .junk := by simp [mixT, hrd]
        rw [e3]
        exact .junk _
    · simp [List.countP_replicate]
end

theorem runK_motive {P : Program} {po : Pol} (pok : POK P po) : ∀ (f : FuncId) (k : List AItem) (t : List AV) (h : AH) (r : AEx × List AV × AH), runK P po f k t h = some r → MotK P po f k t h r := by
  refine runK.partial_correctness P po (MotK P po) fun run ih f k t h r hr => ?_
  split at hr
  · injection hr with hr
    subst hr
    intro K hK b cs m w a hw ht hd
    cases hK
    exact ⟨m, w, Ext.refl _ _, hw, Below.refl _ _, a, [], ht, hd, .one step_end⟩
  · rename_i id k
    intro K hK b cs m w a hw ht hd
    cases hK with
    | inBlock _ _ K hK => exact OutR.steps (.one step_inBlock) ((ih _ _ _ _ _ hr).good K hK b cs m w a hw ht hd)
  · rename_i c k
    intro K hK b cs m w a hw ht hd
    cases hK with
    | inLoop _ _ K hc hK => exact OutR.steps (.one step_inLoop) ((ih _ _ _ _ _ hr).good _ (.code c _ _ hc (.inLoop c _ _ hc hK)) b cs m w a hw (ht.clear _) hd)
  · exact (ih _ _ _ _ _ hr).ops_nil
  · rename_i dr all o ck l k
    split at hr
    · cases hr
    · rename_i hwa
      exact MotK.ops_step pok (.inl ⟨hwa, rfl, rfl⟩) (ih _ _ _ _ _ hr)
    · rename_i hwa
      split at hr
      · rename_i g args hca
        split at hr
        · rename_i F hF
          obtain ⟨⟨x, h1⟩, hx, hr⟩ := Option.bind_eq_some_iff.1 hr
          obtain ⟨fn, hfn, hbn, hac⟩ := pok.ext g F hF
          cases x with
          | inl v =>
            simp only at hr
            split at hr
            · rename_i hck
              exact MotK.ops_step (q := (o, ck)) pok (.inr ⟨hwa, v, .inr ⟨g, args, fn, hca, hfn, hbn, hac args h _ hx⟩, rfl, hck⟩) (ih _ _ _ _ _ hr)
            · cases hr
          | inr v =>
            simp only at hr
            injection hr with hr
            subst hr
            exact MotK.ops_stop pok ⟨hwa, g, args, fn, hca, hfn, hbn, hac args h _ hx⟩
        · split at hr
          · cases hr
          · rename_i fn hfn
            split at hr
            · cases hr
            · rename_i c hc
              split at hr
              · cases hr
              · rename_i hu
                have huse : po.use g = true := by simpa using hu
                obtain ⟨r1, hx, hr⟩ := Option.bind_eq_some_iff.1 hr
                obtain ⟨q1, hq1, hr⟩ := Option.bind_eq_some_iff.1 hr
                obtain ⟨⟨x, h1⟩, hq2, hr⟩ := Option.bind_eq_some_iff.1 hr
                have hac := (good_call pok hfn hc huse (ih _ _ _ _ _ hx).good q1 hq1).forget hq2
                have hok : fn.body.isNone = false ∧ (fn.name == "runtime.NumGoroutine") = false := ⟨by simp [hc], pok.name g fn hfn huse⟩
                cases x with
                | inl v =>
                  simp only at hr
                  split at hr
                  · rename_i hck
                    exact MotK.ops_step (q := (o, ck)) pok (.inr ⟨hwa, v, .inr ⟨g, args, fn, hca, hfn, hok, hac⟩, rfl, hck⟩) (ih _ _ _ _ _ hr)
                  · cases hr
                | inr v =>
                  simp only at hr
                  injection hr with hr
                  subst hr
                  exact MotK.ops_stop pok ⟨hwa, g, args, fn, hca, hfn, hok, hac⟩
      · rename_i hca
        obtain ⟨⟨v, h1⟩, hx, hr⟩ := Option.bind_eq_some_iff.1 hr
        simp only at hr
        split at hr
        · rename_i hck
          exact MotK.ops_step (q := (o, ck)) pok (.inr ⟨hwa, v, .inl ⟨hca, hx⟩, rfl, hck⟩) (ih _ _ _ _ _ hr)
        · cases hr
  · rename_i c k
    split at hr
    · intro K hK b cs m w a hw ht hd
      cases hK with
      | code _ _ K hc hK => exact OutR.steps (.one step_skip) ((ih _ _ _ _ _ hr).good K hK b cs m w a hw ht hd)
    · intro K hK b cs m w a hw ht hd
      cases hK with
      | code _ _ K hc hK => exact OutR.steps (.one step_label) ((ih _ _ _ _ _ hr).good K hK b cs m w a hw ht hd)
    · intro K hK b cs m w a hw ht hd
      cases hK with
      | code _ _ K hc hK =>
        simp only [regOK, Bool.and_eq_true] at hc
        exact OutR.steps (.one step_seq) ((ih _ _ _ _ _ hr).good _ (.code _ _ _ hc.1 (.code _ _ _ hc.2 hK)) b cs m w a hw ht hd)
    · rename_i c x y
      split at hr
      · rename_i bb hev
        intro K hK b cs m w a hw ht hd
        cases hK with
        | code _ _ K hc hK =>
          simp only [regOK, Bool.and_eq_true] at hc
          have hv := evA_sound ht c
          rw [hev] at hv
          have hbool : a.eval c = .bool bb := by
            revert hv
            generalize a.eval c = q
            intro hv
            cases hv
            rfl
          refine OutR.steps (.one (step_cond hbool)) ?_
          cases bb with
          | true => exact (ih _ _ _ _ _ (by simpa using hr)).good _ (.code _ _ _ hc.1 hK) b cs m w a hw ht hd
          | false => exact (ih _ _ _ _ _ (by simpa using hr)).good _ (.code _ _ _ hc.2 hK) b cs m w a hw ht hd
      · cases hr
    · intro K hK b cs m w a hw ht hd
      cases hK with
      | code _ _ K hc hK =>
        exact OutR.steps (.one step_block) ((ih _ _ _ _ _ hr).good _ (.code _ _ _ (by simpa [regOK] using hc) (.inBlock _ _ _ hK)) b cs m w a hw ht hd)
    · intro K hK b cs m w a hw ht hd
      cases hK with
      | code _ _ K hc hK =>
        have hc' := hc
        simp only [regOK] at hc'
        exact ((ih _ _ _ _ _ hr).good _ (.inLoop _ _ _ hc' hK) b cs m w a hw ht hd).loop
    · obtain ⟨k', hk', hr⟩ := Option.bind_eq_some_iff.1 hr
      intro K hK b cs m w a hw ht hd
      cases hK with
      | code _ _ K hc hK =>
        obtain ⟨K', h1, h2⟩ := exit_sound hK hk'
        exact OutR.steps (.one (step_exit h1)) ((ih _ _ _ _ _ hr).good K' h2 b cs m w a hw ht hd)
    · injection hr with hr
      subst hr
      intro K hK b cs m w a hw ht hd
      cases hK with
      | code _ _ K hc hK => exact ⟨m, w, Ext.refl _ _, hw, Below.refl _ _, a, _, ht, hd, .one step_ret⟩
    · exact region_good pok (ih _ _ _ _ _ hr)
    · cases hr

theorem runF_sound {P : Program} {po : Pol} (pok : POK P po) {g : FuncId} {args : List AV} {h : AH} {r : (AV ⊕ AV) × AH} (hr : runF P po g args h = some r) : AC P g args h r := by
  unfold runF at hr
  split at hr
  · rename_i F hF
    obtain ⟨fn, _, _, hac⟩ := pok.ext g F hF
    exact hac args h r hr
  · split at hr
    · cases hr
    · rename_i fn hfn
      split at hr
      · cases hr
      · rename_i c hc
        split at hr
        · cases hr
        · rename_i hu
          have huse : po.use g = true := by simpa using hu
          obtain ⟨r1, hx, hr⟩ := Option.bind_eq_some_iff.1 hr
          obtain ⟨q1, hq1, hr⟩ := Option.bind_eq_some_iff.1 hr
          exact (good_call pok hfn hc huse (runK_motive pok _ _ _ _ _ hx).good q1 hq1).forget hr
end Go.Proofs.Ytacocolcighomaa
