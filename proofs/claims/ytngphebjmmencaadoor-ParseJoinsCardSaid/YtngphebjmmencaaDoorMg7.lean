/- A piece of a function's code in the plain model, behind which the walk goes on by hand. A function that defers one call of its own, which may take back a panic: pieces ahead, the deferred call laid by, the rest; what it comes to is what these come to. A statement whose order Go leaves open, gone through by hand: each order is one of a few kinds. A function's body, where the function is known by another road: what its steps come to is what a call does. And slices that turned and will turn no more. A function gone through statement by statement, where what it comes to differs from run to run: what holds of all of them. The pieces of Parse, and of what it defers, as lists of steps. The functions of the part 'parse' as lists of steps. -/
import Derived.Test.YtngphebjmmencaaDoorMg6
import Derived.Recover
namespace Go.Proofs.YtngphebjmmencaaDoor
set_option linter.unusedSimpArgs false
set_option linter.unusedVariables false
open Go

def cL : Code → Code
  | .seq a _ => a
  | c => c
def cR : Code → Code
  | .seq _ b => b
  | c => c
def opsOf : Code → Array Oper
  | .region _ ops _ => ops
  | _ => #[]

section
variable {P : Program} {po : Pol} {f : FuncId} {n nv : Nat} {vm : List Nat} {h h' : AH} {t V V' : List AV}
theorem okVm_use {a : Nat} (h7 : okVm a n (po.nv f) nv vm = true) : vm.Nodup ∧ ∀ j s, vm[j]? = some s → (j < nv ↔ s < po.nv f) := by
  unfold okVm at h7
  simp only [Bool.and_eq_true, decide_eq_true_eq, List.all_eq_true, List.mem_range, beq_iff_eq, bne_iff_ne, ne_eq] at h7
  obtain ⟨⟨a1, a2⟩, a3⟩ := h7
  have get : ∀ j s, vm[j]? = some s → j < vm.length ∧ vm.getD j 0 = s := fun j s hj => ⟨(List.getElem?_eq_some_iff.1 hj).1, by simp [List.getD, hj]⟩
  refine ⟨?_, fun j s hj => ?_⟩
  · rw [List.nodup_iff_pairwise_ne, List.pairwise_iff_getElem]
    intro i j hi hj hij e
    have := (a3 j hj).2 i hij
    apply this
    simp [List.getD, hi, hj, e]
  · obtain ⟨g1, g2⟩ := get j s hj
    have := (a3 j g1).1.1.2
    rw [g2] at this
    exact decide_eq_decide.1 this
theorem piece (pok : POK P po) {c : Code} {l : List RS} {K : List Item} {x : AEx} (hvm : vm.Nodup ∧ ∀ j s, vm[j]? = some s → (j < nv ↔ s < po.nv f)) (htr : trCode P (po.mu f) (po.plan f) n vm c [] = some l) (hrg : regOK (po.plan f) (po.kp f) c = true)
    (hr : runR (runF P po) nv [.ss l, .halt K] V [] h = some (x, V', h')) (rv : RV n vm [] t V []) :
    ∃ t', (∀ (m : Mm) (w : World) (a : Act) (b : Frame) (cs : List Frame), WR P m h w → TR P m h t a.tmps → a.defers = b.defers → OutR P (po.kp f) m h w b cs (lone (b.at a (.code c :: K)) cs w) (x, t', h')) ∧ RV n vm [] t' V' [] := by
  obtain ⟨t', e, rv'⟩ := (runR_mot (n := n) (f := f) hvm.1 hvm.2 _ _ _ _ _ hr).1 [.code c, .halt K] t (.ss [c] l [.halt K] [.halt K] (by simp [trL, htr]) (.halt K [] [])) rv
  refine ⟨t', fun m w a b cs hw ht hd => ?_, rv'⟩
  exact (runK_motive pok f _ t h _ e).good (.code c :: K) (.code c _ _ hrg (.halt K [])) b cs m w a hw ht hd
theorem enter_at {g : FuncId} {fn : Func} {c : Code} (hf : P.funcs[g]? = some fn) (hb : fn.body = some c) (vs : List Value) (kd : CallKind) :
    (Frame.enter P g vs.toArray kd).at { tmps := (vs ++ List.replicate (fn.ntmps - vs.length) undef).toArray, defers := [] } [.code c] = Frame.enter P g vs.toArray kd := by
  simp [Frame.enter, Frame.at, hf, hb]
theorem enter_tr {m : Mm} {k : Nat} {args : List AV} {vs : List Value} (hv : VRs P m h args vs) :
    TR P m h (args ++ List.replicate (k - args.length) .junk) (vs ++ List.replicate (k - vs.length) undef).toArray := by
  have hl := hv.1
  have h2 : VRs P m h (args ++ List.replicate (k - args.length) .junk) (vs ++ List.replicate (k - vs.length) undef) := by
    rw [hl]
    exact VRs.append hv ⟨by simp, fun j hj hj' => by simp only [List.getElem_replicate]; exact .junk _⟩
  refine ⟨by simpa using h2.1, fun i hi => ?_⟩
  have hi2 : i < (vs ++ List.replicate (k - vs.length) undef).length := by rw [h2.1]; exact hi
  have := h2.2 i hi hi2
  simp only [Array.getD_eq_getD_getElem?, List.getElem?_toArray, List.getElem?_eq_getElem hi2, Option.getD_some]
  exact this
theorem tr_at {m : Mm} {ts : Array Value} (ht : TR P m h t ts) {i : Nat} (hi : i < t.length) : VR P m h (t.getD i .junk) (ts.getD i undef) := by
  have := ht.2 i hi
  simpa [List.getD, hi] using this
end
end Go.Proofs.YtngphebjmmencaaDoor
namespace Go.Proofs.YtngphebjmmencaaDoor
set_option linter.unusedSimpArgs false
set_option linter.unusedVariables false
open Go Go.RowKit

section
variable {P : Program} {po : Pol} {f : FuncId} {n nv : Nat} {vm : List Nat} {h : AH}

/-- as far as here: what a call did -/
def PreR (P : Program) (po : Pol) (f : FuncId) (n : Nat) (vm : List Nat) (args : List AV) (h : AH) (x : AEx) (V : List AV) (h2 : AH) : Prop :=
  ∀ (m : Mm) (w : World) (vs : List Value), WR P m h w → VRs P m h args vs → ∀ cs : List Frame, ∃ (bf : Frame) (t2 : List AV), bf.fn = f ∧ bf.kind = .normal ∧ bf.defers = [] ∧ RV n vm [] t2 V [] ∧
    OutR P (po.kp f) m h w bf cs (lone (Frame.enter P f vs.toArray .normal) cs w) (x, t2, h2)
theorem PreR.start {fn : Func} {c : Code} {args : List AV} (hf : P.funcs[f]? = some fn) (hb : fn.body = some c) (hn : fn.ntmps = n)
    (rv : RV n vm [] (args ++ List.replicate (n - args.length) .junk) (args ++ List.replicate (vm.length - args.length) .junk) []) : PreR P po f n vm args h (.halt [.code c]) (args ++ List.replicate (vm.length - args.length) .junk) h := by
  intro m w vs hw hvs cs
  have he := enter_at hf hb vs .normal
  have ht := enter_tr (P := P) (h := h) (k := n) hvs
  rw [hn] at he
  refine ⟨Frame.enter P f vs.toArray .normal, _, by simp [Frame.enter], by simp [Frame.enter], by simp [Frame.enter], rv, m, w, Ext.refl _ _, hw, Below.refl _ _, { tmps := _, defers := [] }, ht, ?_, ?_⟩
  · simp [Frame.enter]
  · conv => lhs; rw [← he]
    exact .refl _ _
theorem PreR.next (pok : POK P po) {c A B : Code} {l : List RS} {args V V' : List AV} {h2 h3 : AH} {x : AEx} (p : PreR P po f n vm args h (.halt [.code c]) V h2) (hc : c = .seq A B)
    (hvm : vm.Nodup ∧ ∀ j s, vm[j]? = some s → (j < nv ↔ s < po.nv f)) (htr : trCode P (po.mu f) (po.plan f) n vm A [] = some l) (hrg : regOK (po.plan f) (po.kp f) A = true)
    (hr : runR (runF P po) nv [.ss l, .halt [.code B]] V [] h2 = some (x, V', h3)) : PreR P po f n vm args h x V' h3 := by
  intro m w vs hw hvs cs
  obtain ⟨bf, t2, b1, b2, b3, rv, m1, w1, x1, x2, x3, a1, x4, x5, x6⟩ := p m w vs hw hvs cs
  obtain ⟨t3, hp, rv3⟩ := piece pok hvm htr hrg hr rv
  have y5 := hp m1 w1 a1 bf cs x2 x4 x5
  have s0 : Steps P (lone (Frame.enter P f vs.toArray .normal) cs w) (lone (bf.at a1 [.code A, .code B]) cs w1) := by
    refine x6.trans ?_
    conv => lhs; rw [hc]
    exact .one step_seq
  exact ⟨bf, t3, b1, b2, b3, rv3, OutR.steps s0 (OutR.after x1 x3 y5)⟩
theorem pre_resA {fn : Func} {rs : List RRes} {t V : List AV} {h : AH} {v : AV} (hres : trRes P vm fn.results.toList = some rs) (rv : RV n vm [] t V []) (hv : (resR V h rs).map oneA = some v) : resA fn t h P = some v := by
  unfold resA
  rw [resR_sound (h := h) rv hres]
  exact hv
/-- where it ends ahead of what is deferred -/
theorem PreR.ret {fn : Func} {rs : List RRes} {args V : List AV} {h2 : AH} {v : AV} (p : PreR P po f n vm args h .ret V h2) (hf : P.funcs[f]? = some fn) (hres : trRes P vm fn.results.toList = some rs) (hv : (resR V h2 rs).map oneA = some v) : AC P f args h (.inl v, h2) := by
  intro m w vs hw hvs cs
  obtain ⟨bf, t2, b1, b2, b3, rv, m', w', x1, x2, x3, a', todo, x4, x5, x6⟩ := p m w vs hw hvs cs
  rw [b3] at x5
  obtain ⟨u, h7, h8⟩ := res_sound x2 x4 (pre_resA (h := h2) hres rv hv)
  exact ⟨.returned u, w', _, ⟨m', x1, x2, x3, u, rfl, h8⟩, x6, b1, rfl, x5, b2, _, by simp [Frame.at, b1, hf], h7⟩

theorem rv_outG {t V : List AV} {i : Nat} {v : AV} (rv : RV n vm [] t V []) (hi : i ∉ vm) : RV n vm [] (putA t (some i) v) V [] := by
  refine ⟨by simpa [putA] using rv.len, rv.lv, rv.ll, fun j s hj => ?_, fun j s hj => by simp at hj⟩
  obtain ⟨h1, h2⟩ := rv.v j s hj
  refine ⟨h1, ?_⟩
  rw [← h2]
  have hne : i ≠ s := fun e => hi (by rw [e]; exact List.mem_of_getElem? hj)
  simp [putA, List.getD, List.getElem?_set, hne]
/-- the values of some slots -/
def capV (t : List AV) (caps : List Nat) : List AV := caps.map fun i => t.getD i .junk
def capU (a : Act) (caps : List Nat) : List Value := caps.map fun i => a.tmps.getD i undef
theorem cap_vr {m : Mm} {h2 : AH} {t V : List AV} {a : Act} {caps js : List Nat} (rv : RV n vm [] t V []) (ht : TR P m h2 t a.tmps) (hc : caps = js.map fun j => vm.getD j 0) (hj : ∀ j ∈ js, j < vm.length) :
    VRs P m h2 (js.map fun j => V.getD j .junk) (capU a caps) := by
  subst hc
  refine ⟨by simp [capU], fun i h1 h2 => ?_⟩
  simp only [List.length_map] at h1
  have hlt := hj _ (List.getElem_mem h1)
  have hs : vm[js[i]]? = some (vm.getD js[i] 0) := by simp [List.getD, hlt]
  obtain ⟨q1, q2⟩ := rv.v _ _ hs
  have := tr_at ht (i := vm.getD js[i] 0) (by rw [rv.len]; exact q1)
  rw [q2] at this
  simpa [capU] using this
theorem VRs.extG {m m' : Mm} {h h' : AH} {l : List AV} {us : List Value} (v : VRs P m h l us) (x : Ext m h m' h') : VRs P m' h' l us := ⟨v.1, fun j h1 h2 => (v.2 j h1 h2).ext x⟩
theorem resL_kp {P : Program} {t t' : List AV} {h : AH} : ∀ {l : List ResultVar}, (∀ r ∈ l, ∃ i ty, r = .cell i ty ∧ t.getD i .junk = t'.getD i .junk) → resL P t h l = resL P t' h l
  | [], _ => rfl
  | r :: l, hl => by
    obtain ⟨i, ty, rfl, e⟩ := hl r (List.mem_cons_self ..)
    have ih : resL P t h l = resL P t' h l := resL_kp fun q hq => hl q (List.mem_cons_of_mem _ hq)
    simp only [resL, e, ih]
/-- the deferred closure, with what it has captured -/
def cloV (fCl : FuncId) (us : List Value) : Value := .func (.func fCl) #[] us.toArray
def cloD (fCl : FuncId) (us : List Value) : Deferred := { target := .fn (.func fCl) us.toArray, args := #[] }
/-- a panic that was taken back, and the others -/
inductive Ends (P : Program) (fCl : FuncId) (capA : List AV) (h3 h4 : AH) : AEx → Prop
  | ret (cl : ∀ (m : Mm) (w : World) (ps : List Value), WR P m h3 w → VRs P m h3 capA ps → CallsD P fCl ps.toArray .returning w fun e u'' w' => (∃ v, e = .returned v) ∧ u'' = .returning ∧ ∃ m', Ext m h3 m' h4 ∧ WR P m' h4 w' ∧ Below m.base w w') : Ends P fCl capA h3 h4 .ret
  | panic (v : AV) (cl : ∀ (m : Mm) (w : World) (ps : List Value) (u : Value), WR P m h3 w → VRs P m h3 capA ps → VR P m h3 v u → CallsD P fCl ps.toArray (.panicking [{ v := u, recovered := false }]) w fun e u'' w' => (∃ v, e = .returned v) ∧ u'' = .panicking [{ v := u, recovered := true }] ∧ ∃ m', Ext m h3 m' h4 ∧ WR P m' h4 w' ∧ Below m.base w w') : Ends P fCl capA h3 h4 (.panic v)
theorem defer_AC (pok : POK P po) {fn : Func} {rs : List RRes} {args V V' : List AV} {h2 h3 h4 : AH} {cZ cW : Code} {fCl : FuncId} {k : Nat} {caps js : List Nat} {l : List RS} {x : AEx} {r : AV} (p : PreR P po f n vm args h (.halt [.code cZ]) V h2) (hf : P.funcs[f]? = some fn) (hcf : ∃ fnC, P.funcs[(fCl : Nat)]? = some fnC ∧ (fnC.body.isNone = false ∧ (fnC.name == "runtime.NumGoroutine") = false))
    (hk : k ∉ vm) (hc : caps = js.map fun j => vm.getD j 0) (hj : ∀ j ∈ js, j < vm.length)
    (lay : ∀ (bf : Frame) (a : Act) (cs : List Frame) (w : World), a.tmps.size = n → Steps P (lone (bf.at a [.code cZ]) cs w) (lone (bf.at { a.put (some k) (cloV fCl (capU a caps)) with defers := cloD fCl (capU a caps) :: a.defers } [.code cW]) cs w))
    (hvm : vm.Nodup ∧ ∀ j s, vm[j]? = some s → (j < nv ↔ s < po.nv f)) (htr : trCode P (po.mu f) (po.plan f) n vm cW [] = some l) (hrg : regOK (po.plan f) (po.kp f) cW = true)
    (hr : runR (runF P po) nv [.ss l, .halt []] V [] h2 = some (x, V', h3)) (hkp : ∀ r ∈ fn.results.toList, ∃ i ty, r = .cell i ty ∧ po.kp f i = true)
    (he : Ends P fCl (js.map fun j => V.getD j .junk) h3 h4 x) (hres : trRes P vm fn.results.toList = some rs) (hv : (resR V' h4 rs).map oneA = some r) : AC P f args h (.inl r, h4) := by
  intro m w vs hw hvs cs
  obtain ⟨bf, t2, b1, b2, b3, rv, m2, w2, x1, x2, x3, a2, x4, x5, x6⟩ := p m w vs hw hvs cs
  rw [b3] at x5
  have hsz : a2.tmps.size = n := by rw [x4.1, rv.len]
  have lay := lay bf a2 cs w2 hsz
  have vc := cap_vr rv x4 hc hj
  generalize capU a2 caps = us at lay vc
  rw [x5] at lay
  have ht3 := x4.put (VR.junk (cloV fCl us)) (some k)
  have rv3 := rv_outG (i := k) (v := .junk) rv hk
  obtain ⟨t5, hp, rv5⟩ := piece pok hvm htr hrg hr rv3
  obtain ⟨m3, w3, y1, y2, y3, y4⟩ := hp m2 w2 { a2.put (some k) (cloV fCl us) with defers := [cloD fCl us] } { bf with defers := [cloD fCl us] } cs x2 ht3 rfl
  have vc3 := VRs.extG vc y1
  have ra : resA fn t5 h4 P = some r := pre_resA hres rv5 hv
  have inv : (invoke (.fn (.func fCl) us.toArray) #[]).run P w3 = .ok (.enter fCl us.toArray) w3 := by
    obtain ⟨fnC, g1, g2, g3⟩ := hcf
    have g3' : ¬ fnC.name = "runtime.NumGoroutine" := by simpa using g3
    have g2' : ¬ fnC.body = none := by cases hb : fnC.body with | none => rw [hb] at g2; cases g2 | some c => simp
    simp [go_sem, callFunc, g1, g2', g3']
  have bel : ∀ {m4 : Mm} {w' : World}, Below m3.base w3 w' → Below m.base w w' := by
    intro m4 w' z3
    have q1 : m2.base = m.base := x1.base
    have q2 : m3.base = m2.base := y1.base
    rw [q2, q1] at z3
    rw [q1] at y3
    exact (x3.trans y3).trans z3
  cases he with
  | ret cl =>
    obtain ⟨a5, todo, z1, z2, z3⟩ := y4
    have hlv : Leaves P fn a5.tmps (fun e w' => ∃ m', Ext m h m' h4 ∧ WR P m' h4 w' ∧ Below m.base w w' ∧ ∃ u, e = .returned u ∧ VR P m' h4 r u) [cloD fCl us] .returning w3 := by
      refine leaves_cons (f := fCl) (args := us.toArray) (by simp) inv ?_
      refine (cl m3 w3 us y2 vc3).mono ?_
      rintro e u'' w' ⟨⟨v, rfl⟩, rfl, m4, n1, n2, n3⟩
      obtain ⟨u, h7, h8⟩ := res_sound n2 (z1.ext n1) ra
      exact ⟨u, h7, m4, (x1.trans y1).trans n1, n2, bel (m4 := m4) n3, u, rfl, h8⟩
    obtain ⟨e, w4, fr', hR, hs, hfn, hl⟩ := leaves_steps [cloD fCl us] .returning w3 { (({ bf with defers := [cloD fCl us] } : Frame).at a5 todo) with mode := .returning } cs rfl z2 rfl (by simp [Frame.at, b1, hf]) (by simpa [Frame.at] using b2) hlv
    exact ⟨e, w4, fr', hR, Comes.of_steps (x6.trans (lay.trans z3)) hs, hfn.trans b1, hl⟩
  | panic v cl =>
    obtain ⟨a5, todo, u, ⟨tm, z0, z1⟩, z2, z4, z3⟩ := y4
    have rm : resA fn tm h4 P = some r := by
      rw [← ra]
      unfold resA
      rw [resL_kp fun q hq => by obtain ⟨i, ty, e, hi⟩ := hkp q hq; exact ⟨i, ty, e, z1 i hi⟩]
    have hlv : Leaves P fn a5.tmps (fun e w' => ∃ m', Ext m h m' h4 ∧ WR P m' h4 w' ∧ Below m.base w w' ∧ ∃ u, e = .returned u ∧ VR P m' h4 r u) [cloD fCl us] (.panicking [{ v := u, recovered := false }]) w3 := by
      refine leaves_cons (f := fCl) (args := us.toArray) (by simp) inv ?_
      refine (cl m3 w3 us u y2 vc3 z4).mono ?_
      rintro e u'' w' ⟨⟨v, rfl⟩, rfl, m4, n1, n2, n3⟩
      obtain ⟨u2, h7, h8⟩ := res_sound n2 (z0.ext n1) rm
      exact ⟨u2, h7, m4, (x1.trans y1).trans n1, n2, bel (m4 := m4) n3, u2, rfl, h8⟩
    obtain ⟨e, w4, fr', hR, hs, hfn, hl⟩ := leaves_steps [cloD fCl us] (.panicking [{ v := u, recovered := false }]) w3 { (({ bf with defers := [cloD fCl us] } : Frame).at a5 todo) with mode := .panicking [{ v := u, recovered := false }] } cs rfl z2 rfl (by simp [Frame.at, b1, hf]) (by simpa [Frame.at] using b2) hlv
    exact ⟨e, w4, fr', hR, Comes.of_steps (x6.trans (lay.trans z3)) hs, hfn.trans b1, hl⟩

/-! ### the deferred closure: a recover, then a piece -/
theorem recovG_no (c : Frame) (h : c.mode = .returning) (cs : List Frame) : recoverD (c :: cs) = none := by simp [recoverD, h]
theorem recovG_yes {v : Value} (c : Frame) (h : c.mode = .panicking [{ v := v, recovered := false }]) (cs : List Frame) : recoverD (c :: cs) = some (v, { c with mode := .panicking [{ v := v, recovered := true }] } :: cs) := by simp [recoverD, h]
/-- how the recover goes -/
def RecovR (P : Program) (c : Code) (n s1 s2 : Nat) : Prop := ∀ (ts : Array Value) (v : Value) (cs cs' : List Frame) (w : World), ts.size = n → (recoverD cs = some (v, cs') ∨ (recoverD cs = none ∧ v = .nilIface ∧ cs' = cs)) →
  c.wpS P (fun e a' cs2 w' => e = .normal ∧ cs2 = cs' ∧ w' = w ∧ a' = (({ tmps := ts, defers := [] } : Act).put (some s1) v).put (some s2) v) { tmps := ts, defers := [] } cs w
theorem clG {fnC : Func} {cC : Code} {s1 s2 : Nat} (pok : POK P po) {l : List RS} {caps V V' : List AV} {h' : AH} {e : AV} (hf : P.funcs[f]? = some fnC) (hb : fnC.body = some cC) (hseq : cC = .seq (cL cC) (cR cC)) (hn : fnC.ntmps = n) (hr0 : ∀ (a : Array Value) (w : World), ∃ v, (results fnC a).run P w = .ok v w)
    (hrec : RecovR P (cL cC) n s1 s2) (hvm : vm.Nodup ∧ ∀ j s, vm[j]? = some s → (j < nv ↔ s < po.nv f)) (htr : trCode P (po.mu f) (po.plan f) n vm (cR cC) [] = some l) (hrg : regOK (po.plan f) (po.kp f) (cR cC) = true)
    (hr : runR (runF P po) nv [.ss l, .halt []] V [] h = some (.halt [], V', h')) (rv : RV n vm [] (putA (putA (caps ++ List.replicate (n - caps.length) .junk) (some s1) e) (some s2) e) V [])
    {m : Mm} {w : World} {ps : List Value} {v : Value} (hw : WR P m h w) (hvs : VRs P m h caps ps) (hcl : caps.length ≤ n) (ve : VR P m h e v) {u : FrameMode} (u' : FrameMode)
    (hu' : ∀ c : Frame, c.mode = u → ∀ cs, (recoverD (c :: cs) = some (v, { c with mode := u' } :: cs)) ∨ (recoverD (c :: cs) = none ∧ v = .nilIface ∧ u' = u)) :
    CallsD P f ps.toArray u w fun e u'' w' => (∃ v, e = .returned v) ∧ u'' = u' ∧ ∃ m', Ext m h m' h' ∧ WR P m' h' w' ∧ Below m.base w w' := by
  intro c cs hu
  have he := enter_at hf hb ps .deferred
  have ht := enter_tr (P := P) (h := h) (k := n) hvs
  generalize hbb : Frame.enter P f ps.toArray .deferred = b at he
  have hbk : b.kind = .deferred := by rw [← hbb]; simp [Frame.enter]
  have hbf : b.fn = f := by rw [← hbb]; simp [Frame.enter]
  have hbr : b.roundOf = none := by rw [← hbb]; simp [Frame.enter]
  rw [hn] at he
  generalize ha : (ps ++ List.replicate (n - ps.length) undef).toArray = ts at he ht
  have h1 : Steps P (lone b (c :: cs) w) (lone (b.at { tmps := ts, defers := [] } [.code (cL cC), .code (cR cC)]) (c :: cs) w) := by
    rw [← he]
    conv => lhs; rw [hseq]
    exact .one step_seq
  have hsz : ts.size = n := by
    rw [ht.1]
    simp only [List.length_append, List.length_replicate]
    omega
  have hcs : recoverD (c :: cs) = some (v, { c with mode := u' } :: cs) ∨ (recoverD (c :: cs) = none ∧ v = .nilIface ∧ ({ c with mode := u' } : Frame) :: cs = c :: cs) := by
    rcases hu' c hu cs with h1 | ⟨h1, h2, h3⟩
    · exact .inl h1
    · have h4 : ({ c with mode := u' } : Frame) = c := by rw [h3, ← hu]
      exact .inr ⟨h1, h2, by rw [h4]⟩
  obtain ⟨e1, a1, cs1, w1, ⟨rfl, rfl, rfl, rfl⟩, harr⟩ := hrec ts v _ _ w hsz hcs b [.code (cR cC)] hbk hbr
  have ht1 := (ht.put (a := { tmps := ts, defers := [] }) ve (some s1)).put ve (some s2)
  obtain ⟨t', hp, hrv⟩ := piece pok hvm htr hrg hr rv
  obtain ⟨m', w', x1, x2, x3, a', x4, x5, x6⟩ := hp m w1 _ { b with defers := [] } ({ c with mode := u' } :: cs) hw ht1 rfl
  have hfin : Steps P (lone b (c :: cs) w1) (lone { b.at a' [] with mode := .returning } ({ c with mode := u' } :: cs) w') := h1.trans (harr.trans (x6.trans (.one step_end)))
  obtain ⟨v0, hv0⟩ := hr0 a'.tmps w'
  refine ⟨.returned v0, u', w', _, ⟨⟨_, rfl⟩, rfl, m', x1, x2, x3⟩, hfin, hbk, rfl, x5, fnC, ?_, hv0⟩
  show P.funcs[b.fn]? = _
  rw [hbf]
  exact hf
end
end Go.Proofs.YtngphebjmmencaaDoor
namespace Go.Proofs.YtngphebjmmencaaDoor
set_option linter.unusedSimpArgs false
set_option linter.unusedVariables false
open Go Go.RowKit

section
variable {P : Program} {po : Pol} {f : FuncId} {n nv : Nat} {vm : List Nat} {h h' : AH} {t V V' : List AV} {all : Array Oper} {pl : List (Nat × List Nat)} {E : Nat → Nat → Prop}
abbrev noLi (all : Array Oper) : Array Bool := Array.replicate all.size false
theorem list_good (pok : POK P po) (pp : PlanP all pl E) (hkp : keepOK (po.kp f) all = true) {e : Option AV} {t' : List AV} (hp : PRun P po f all (planA true all pl) t h e t' h') {b : Frame} {cs : List Frame} {K : List Item} {r : AEx × List AV × AH}
    (he : match e with | none => ∀ (m1 : Mm) (w1 : World) (a1 : Act), WR P m1 h' w1 → TR P m1 h' t' a1.tmps → a1.defers = b.defers → OutR P (po.kp f) m1 h' w1 b cs (lone (b.at a1 K) cs w1) r | some v => r = (.panic v, t', h'))
    {L : List Nat} (hL : OrdL all E (noLi all) L) {m : Mm} {w : World} {a : Act} (hw : WR P m h w) (ht : TR P m h t a.tmps) (hd : a.defers = b.defers) :
    OutR P (po.kp f) m h w b cs (lone (b.at a (.inRegion all L :: K)) cs w) r := by
  have hS : ∀ d, po.kp f d = true → ∀ k, k < pl.length → (opP all pl k).dst ≠ some d := fun d hd k hk e => by
    have hlt := pp.lt k hk
    have hm := List.all_eq_true.1 hkp (opP all pl k) (Array.mem_toList_iff.2 (Array.mem_of_getElem? (opI_get hlt)))
    rw [e] at hm
    simp [hd] at hm
  obtain ⟨N, ts, hs, h1, h2, h3, h4, h5, h6⟩ := hp.trace
  have hlen : (planA true all pl).length = pl.length := by simp [planA]
  have hget : ∀ i, i < pl.length → (planA true all pl)[i]? = some (opP all pl i, (ckP pl i).map (opI all)) := by
    intro i hi
    simp only [planA, if_true, List.getElem?_map, List.getElem?_eq_getElem hi, Option.map_some, Option.some.injEq]
    have e1 : pl.getD i default = pl[i] := by simp [List.getD, hi]
    simp only [opP, opI, ixP, ckP, e1]
    rfl
  have T : Tra P po f all pl E N ts hs := ⟨pp, by omega, fun i hi => h5 i _ hi (hget i (by omega))⟩
  subst h2; subst h3; subst h4
  refine any_list (S := po.kp f) hS (r := r) (K := K) (b := b) (cs := cs) pok T ?_ ?_ _ (noLi all) 0 m a _ hL (Nat.zero_le _) (by simp) ?_ ?_ ?_ hw ?_ hd
  · cases e with
    | none => exact .inl (by omega)
    | some v =>
      obtain ⟨q, hq, hst⟩ := h6
      have hN : N < pl.length := by
        have := (List.getElem?_eq_some_iff.1 hq).1
        omega
      rw [hget N hN] at hq
      injection hq with hq
      subst hq
      exact .inr ⟨v, h', hN, hst, he⟩
  · intro hN m1 w1 a1 q1 q2 q3
    cases e with
    | none =>
      obtain ⟨_, h6⟩ := h6
      subst h6
      exact he m1 w1 a1 q1 q2 q3
    | some v =>
      obtain ⟨q, hq, hst⟩ := h6
      have := (List.getElem?_eq_some_iff.1 hq).1
      omega
  · intro j hj hjl
    simp [Array.getD_eq_getD_getElem?, hj] at hjl
  · intro j hj hjl
    have := pp.lt j hj
    simp [Array.getD_eq_getD_getElem?, this] at hjl
  · intro j hj
    omega
  · have hl := T.len 0 (Nat.zero_le _)
    refine ⟨by rw [mixT_len, ← hl]; exact ht.1, fun d hdl => ?_⟩
    have hdl' : d < (ts 0).length := by rw [mixT_len] at hdl; omega
    by_cases hrd : ReadyS all pl (noLi all) d
    · have e1 := mixT_get (τ := ts N) hrd
      have e2 : (mixT all pl (noLi all) (ts N))[d] = (ts N).getD d .junk := by
        rw [← e1]
        simp [List.getD, hdl]
      have e3 := T.keep d 0 N (by omega) (fun j _ hj he => by
        have hjl : j < pl.length := by omega
        have := hrd j hjl he
        have h3 := pp.lt j hjl
        simp [Array.getD_eq_getD_getElem?, h3] at this)
      rw [Nat.zero_add] at e3
      rw [e2, e3]
      have := ht.2 d hdl'
      simpa [List.getD, hdl'] using this
    · have e3 : (mixT all pl (noLi all) (ts N))[d] = .junk := by simp [mixT, hrd]
      rw [e3]
      exact .junk _
/-- the statement's operations, in an order of this kind -/
theorem piece_ops (pok : POK P po) {is : List RI} {K : List Item} {x : AEx} (pp : PlanP all pl E) (hkp : keepOK (po.kp f) all = true) (hvm : vm.Nodup ∧ ∀ j s, vm[j]? = some s → (j < nv ↔ s < po.nv f))
    (htr : trOps P (po.mu f) n vm all [] (planA true all pl) = some is) (hr : runR (runF P po) nv [.ops is, .halt K] V [] h = some (x, V', h')) (rv : RV n vm [] t V []) :
    ∃ t', (∀ (m : Mm) (w : World) (a : Act) (b : Frame) (cs : List Frame) (L : List Nat), OrdL all E (noLi all) L → WR P m h w → TR P m h t a.tmps → a.defers = b.defers → OutR P (po.kp f) m h w b cs (lone (b.at a (.inRegion all L :: K)) cs w) (x, t', h')) ∧ RV n vm [] t' V' [] := by
  obtain ⟨t', e, rv'⟩ := (runR_mot (n := n) (f := f) hvm.1 hvm.2 _ _ _ _ _ hr).2.1 true all (planA true all pl) is [.halt K] [] t [.halt K] rfl htr (.halt K [] []) rv
  refine ⟨t', fun m w a b cs L hL hw ht hd => ?_, rv'⟩
  obtain ⟨e2, t2, h2, hp, he⟩ := runK_motive pok f _ t h _ e
  refine list_good pok pp hkp hp ?_ hL hw ht hd
  cases e2 with
  | none => exact fun m1 w1 a1 q1 q2 q3 => he K (.halt K []) b cs m1 w1 a1 q1 q2 q3
  | some v => exact he
/-- an order is drawn -/
theorem region_draw (pok : POK P po) (hedge : ∀ j, j < all.size → ∀ e ∈ (opI all j).after, Region.binds .any e = true → e.on < j) {id : Nat} {b : Frame} {a : Act} {K : List Item} {cs : List Frame} {w : World} :
    ∃ L w', OrdL all (fun _ _ => False) (noLi all) L ∧ Steps P (lone (b.at a (.code (.region id all true) :: K)) cs w) (lone (b.at a (.inRegion all L :: K)) cs w') ∧ (∀ (m : Mm) (h : AH), WR P m h w → WR P m h w') ∧ ∀ base, Below base w w' := by
  refine ⟨_, _, ?_, .one step_region_draw, fun m h hw => hw.drew, fun base => (Below.refl _ _).drew⟩
  simp only [Region.schedule, pok.mixed, Bool.true_or, if_true, Region.linearise]
  exact ord_of hedge _ _ _ (by simp) (by simp [List.countP_replicate])

/-- with one more thing that is known of the order -/
abbrev andE (E : Nat → Nat → Prop) (x y : Nat) : Nat → Nat → Prop := fun i j => E i j ∨ (i = x ∧ j = y)
theorem ord_in {x y : Nat} {li : Array Bool} {L : List Nat} (ho : OrdL all E li L) (hs : li.size = all.size) (hx : li.getD x false = true) : OrdL all (andE E x y) li L := by
  induction ho with
  | nil li h => exact .nil _ h
  | cons li i L h1 h2 h3 h4 _ ih =>
    refine .cons _ _ _ h1 h2 h3 (fun j hj => hj.elim (h4 j) fun e => by rw [e.1]; exact hx) (ih (by simpa using hs) ?_)
    rw [set_get (by omega)]
    split
    · rfl
    · exact hx
theorem ord_split {x y : Nat} (hne : x ≠ y) (hxs : x < all.size) {li : Array Bool} {L : List Nat} (ho : OrdL all E li L) (hs : li.size = all.size) (hx : li.getD x false = false) (hy : li.getD y false = false) : OrdL all (andE E x y) li L ∨ OrdL all (andE E y x) li L := by
  induction ho with
  | nil li h =>
    have := h x hxs
    rw [hx] at this
    cases this
  | cons li i L h1 h2 h3 h4 hr ih =>
    have hil : i < li.size := by omega
    by_cases hix : i = x
    · subst hix
      refine .inl (.cons _ _ _ h1 h2 h3 (fun j hj => hj.elim (h4 j) fun e => absurd e.2 hne) (ord_in hr (by simpa using hs) ?_))
      rw [set_get hil, if_pos rfl]
    · by_cases hiy : i = y
      · subst hiy
        refine .inr (.cons _ _ _ h1 h2 h3 (fun j hj => hj.elim (h4 j) fun e => absurd e.2.symm hne) (ord_in hr (by simpa using hs) ?_))
        rw [set_get hil, if_pos rfl]
      · rcases ih (by simpa using hs) (by rw [set_get hil, if_neg (Ne.symm hix)]; exact hx) (by rw [set_get hil, if_neg (Ne.symm hiy)]; exact hy) with h | h
        · exact .inl (.cons _ _ _ h1 h2 h3 (fun j hj => hj.elim (h4 j) fun e => absurd e.2 hiy) h)
        · exact .inr (.cons _ _ _ h1 h2 h3 (fun j hj => hj.elim (h4 j) fun e => absurd e.2 hix) h)
theorem noLi_get (i : Nat) : (noLi all).getD i false = false := by
  simp only [Array.getD_eq_getD_getElem?, noLi]
  by_cases hi : i < all.size
  · simp [hi]
  · simp [hi]

/-! ### is it an order, with these pairs? -/
def pairOKE (E : List (Nat × Nat)) (ops : Array Oper) (M : Array Nat) (x y : Nat × List Nat) : Bool :=
  let ox := ops.getD x.1 default
  let oy := ops.getD y.1 default
  let p := preA M x.1 y.1 || E.contains (x.1, y.1)
  x.1 != y.1 && (stillA ox || p) && (stillA oy || !isLoad ox || p || y.2.contains x.1) &&
  (match oy.dst with | some d => !(ox.looksAt ops).contains d && ox.dst != some d | none => true) &&
  (match ox.dst with | some d => !(oy.looksAt ops).contains d || p | none => true)
def planOKE (E : List (Nat × Nat)) (ops : Array Oper) (pl : List (Nat × List Nat)) : Bool :=
  let M := Region.before ops
  (List.range ops.size).all (fun i => pl.any fun q => q.1 == i) && pl.all (fun q => decide (q.1 < ops.size)) && pl.all (fun q => let o := ops.getD q.1 default
    (match o.dst with | some d => !(o.looksAt ops).contains d | none => true)) &&
  ((List.range ops.size).all fun j => (ops.getD j default).after.all fun e => !Region.binds .any e || decide (e.on < j)) &&
  maskOK ops M && ((List.range pl.length).all fun j => (List.range j).all fun i => pairOKE E ops M (pl.getD i default) (pl.getD j default))
theorem plan_specE {El : List (Nat × Nat)} (hp : planOKE El all pl = true) : PlanP all pl fun i j => (i, j) ∈ El := by
  unfold planOKE at hp
  simp only [Bool.and_eq_true] at hp
  obtain ⟨⟨⟨⟨⟨h1, h2⟩, h2'⟩, h3⟩, h4⟩, h5⟩ := hp
  rw [List.all_eq_true] at h1 h2 h2' h3 h5
  have hmem : ∀ k, k < pl.length → pl.getD k default ∈ pl := fun k hk => by
    simp only [List.getD, List.getElem?_eq_getElem hk, Option.getD_some]
    exact List.getElem_mem hk
  have hpair : ∀ i j, i < j → j < pl.length → pairOKE El all (Region.before all) (pl.getD i default) (pl.getD j default) = true := fun i j hij hj => by
    have := h5 j (List.mem_range.2 hj)
    rw [List.all_eq_true] at this
    exact this i (List.mem_range.2 hij)
  have hpre : ∀ i j, (preA (Region.before all) i j || El.contains (i, j)) = true → preE all (fun i j => (i, j) ∈ El) i j := fun i j h => by
    rw [Bool.or_eq_true] at h
    exact h.imp id fun h => by simpa using h
  unfold pairOKE at hpair
  simp only [Bool.and_eq_true, bne_iff_ne, ne_eq] at hpair
  refine ⟨fun i hi => ?_, fun k hk => ?_, fun k d hk hd hin => ?_, fun j hj e he hb => ?_, fun j i hj hi hpre => ?_, fun i j hij hj => ?_, fun i j hij hj => ?_, fun i j hij hj => ?_, fun i j d hij hj hd => ?_, fun i j d hij hj hd hin => ?_⟩
  · have := h1 i (List.mem_range.2 hi)
    rw [List.any_eq_true] at this
    obtain ⟨q, hq, h⟩ := this
    obtain ⟨k, hk, rfl⟩ := List.getElem_of_mem hq
    exact ⟨k, hk, by simpa [ixP, List.getD, hk] using h⟩
  · have := h2 _ (hmem k hk)
    exact of_decide_eq_true this
  · have := h2' _ (hmem k hk)
    unfold opP opI ixP at hd hin
    rw [hd] at this
    simp only [Array.getD_eq_getD_getElem?, List.getD_eq_getElem?_getD] at hin this
    simp [List.contains_eq_mem, hin] at this
  · have := h3 j (List.mem_range.2 hj)
    rw [Array.all_eq_true'] at this
    have := this e he
    simpa [hb] using this
  · unfold maskOK at h4
    rw [List.all_eq_true] at h4
    have := h4 j (List.mem_range.2 hj)
    rw [List.all_eq_true] at this
    have := this i (List.mem_range.2 hi)
    rw [hpre] at this
    simp only [Bool.not_true, Bool.false_or] at this
    rw [Option.any_eq_true] at this
    obtain ⟨o, ho, h6⟩ := this
    rw [Array.any_eq_true'] at h6
    obtain ⟨e, he, h7⟩ := h6
    simp only [Bool.and_eq_true, decide_eq_true_eq, Bool.or_eq_true, beq_iff_eq] at h7
    refine ⟨e, ?_, h7.1.1, h7.2⟩
    have : opI all j = o := by simp [opI, Array.getD_eq_getD_getElem?, ho]
    rw [this]
    exact he
  · exact (hpair i j hij hj).1.1.1.1
  · have := (hpair i j hij hj).1.1.1.2
    rw [Bool.or_eq_true] at this
    exact this.imp id (hpre _ _)
  · have := (hpair i j hij hj).1.1.2
    rw [Bool.or_eq_true, Bool.or_eq_true, Bool.or_eq_true] at this
    rcases this with ((h | h) | h) | h
    · exact .inl h
    · exact .inr (.inl (by rw [Bool.not_eq_true'] at h; exact h))
    · exact .inr (.inr (.inl (hpre _ _ h)))
    · exact .inr (.inr (.inr (List.contains_iff_mem.1 h)))
  · have := (hpair i j hij hj).1.2
    unfold opP opI ixP at hd ⊢
    rw [hd] at this
    simpa [List.contains_eq_mem] using this
  · have := (hpair i j hij hj).2
    unfold opP opI ixP at hd hin
    rw [hd] at this
    rw [Bool.or_eq_true] at this
    rcases this with h | h
    · simp only [Array.getD_eq_getD_getElem?, List.getD_eq_getElem?_getD] at hin h
      simp [List.contains_eq_mem, hin] at h
    · exact hpre _ _ h
end
end Go.Proofs.YtngphebjmmencaaDoor
namespace Go.Proofs.YtngphebjmmencaaDoor
set_option linter.unusedSimpArgs false
set_option linter.unusedVariables false
open Go

/-- a function's steps, however it is known -/
def FnB (P : Program) (po : Pol) (g : FuncId) (a nv : Nat) (vm : List Nat) (ss : List RS) (rs : List RRes) : Prop :=
  ∃ fn c, P.funcs[g]? = some fn ∧ fn.body = some c ∧ po.use g = true ∧ trCode P (po.mu g) (po.plan g) fn.ntmps vm c [] = some ss ∧ okVm a fn.ntmps (po.nv g) nv vm = true ∧ trRes P vm fn.results.toList = some rs
section
variable {P : Program} {po : Pol} {nv : Nat} {vm : List Nat} {h : AH}
theorem body_AC (pok : POK P po) {g : FuncId} {a : Nat} {ss : List RS} {rs : List RRes} {args : List AV} {q : (AV ⊕ AV) × AH} (hf : FnB P po g a nv vm ss rs) (ha : args.length = a)
    (hr : cFR false rs h (runR (runF P po) nv [.ss ss] (args ++ List.replicate (vm.length - args.length) .junk) [] h) = some q) : AC P g args h q := by
  obtain ⟨fn, c, h1, h2, h5, h6, h7, h8⟩ := hf
  unfold okVm at h7
  simp only [Bool.and_eq_true, decide_eq_true_eq, List.all_eq_true, List.mem_range, beq_iff_eq, bne_iff_ne, ne_eq] at h7
  obtain ⟨⟨a1, a2⟩, a3⟩ := h7
  have get : ∀ j s, vm[j]? = some s → j < vm.length ∧ vm.getD j 0 = s := fun j s hj => ⟨(List.getElem?_eq_some_iff.1 hj).1, by simp [List.getD, hj]⟩
  have hnd : vm.Nodup := by
    rw [List.nodup_iff_pairwise_ne, List.pairwise_iff_getElem]
    intro i j hi hj hij e
    have := (a3 j hj).2 i hij
    apply this
    simp [List.getD, hi, hj, e]
  have hcl : ∀ j s, vm[j]? = some s → (j < nv ↔ s < po.nv g) := by
    intro j s hj
    obtain ⟨g1, g2⟩ := get j s hj
    have := (a3 j g1).1.1.2
    rw [g2] at this
    exact decide_eq_decide.1 this
  have rv : RV fn.ntmps vm [] (args ++ List.replicate (fn.ntmps - args.length) .junk) (args ++ List.replicate (vm.length - args.length) .junk) [] := by
    refine ⟨by simp; omega, by simp; omega, rfl, fun j s hj => ?_, fun j s hj => by simp at hj⟩
    obtain ⟨g1, g2⟩ := get j s hj
    obtain ⟨⟨⟨b1, _⟩, b2⟩, _⟩ := a3 j g1
    rw [g2] at b1 b2
    refine ⟨b1, ?_⟩
    by_cases hc : j < a ∨ s < a
    · rw [if_pos hc] at b2
      have : s = j := by simpa using b2
      subst this
      have hlt : s < args.length := by omega
      simp [List.getD, List.getElem?_append_left hlt]
    · have c1 : ¬ j < args.length := by omega
      have c2 : ¬ s < args.length := by omega
      simp only [List.getD, List.getElem?_append_right (Nat.not_lt.1 c1), List.getElem?_append_right (Nat.not_lt.1 c2), List.getElem?_replicate]
      split <;> split <;> rfl
  generalize hrun : runR (runF P po) nv [.ss ss] (args ++ List.replicate (vm.length - args.length) .junk) [] h = x at hr
  cases x with
  | none => cases hr
  | some r =>
    have hm := (runR_mot (n := fn.ntmps) (f := g) hnd hcl _ _ _ _ _ hrun).1 [.code c] _ (.ss [c] ss [] [] (by simp [trL, h6]) .nil) rv
    obtain ⟨t', e1, e2⟩ := hm
    have hg := good_call pok h1 h2 h5 (runK_motive pok _ _ _ _ _ e1).good
    obtain ⟨x, V', h'⟩ := r
    cases x with
    | panic v =>
      have hr : fgA false h (.inr v, h') = some q := hr
      rw [fg_not] at hr
      injection hr with hr
      subst hr
      exact hg _ rfl
    | halt K => cases hr
    | ret =>
      rw [cFR_ret] at hr
      cases hv : (resR V' h' rs).map oneA with
      | none => rw [hv] at hr; cases hr
      | some v =>
        rw [hv, cR_some, fg_not] at hr
        injection hr with hr
        subst hr
        refine hg _ ?_
        have := resR_sound (h := h') e2 h8
        simp only [outA, resA, this, hv, Option.map_some]
end

/-! ### slices that turn no more -/
mutual
/-- blocks that a value speaks of are laid still; so deep at most -/
def frzA : Nat → AH → AV → Option (AV × AH)
  | 0, _, _ => none
  | N + 1, h, .msl b o n e => if o = 0 then (h.cell b).bind fun rows => if n ≤ rows.length ∧ n ≠ 0 then (frzR N (h.set b none) (rows.take n)).map fun q => (.isl none e q.1, q.2) else none else none
  | N + 1, h, .agg cs => (frzL N h cs).map fun q => (.agg q.1, q.2)
  | N + 1, h, .tup cs => (frzL N h cs).map fun q => (.tup q.1, q.2)
  | _ + 1, h, v => some (v, h)
def frzL : Nat → AH → List AV → Option (List AV × AH)
  | 0, _, _ => none
  | _ + 1, h, [] => some ([], h)
  | N + 1, h, v :: l => (frzA N h v).bind fun q => (frzL N q.2 l).map fun r => (q.1 :: r.1, r.2)
def frzR : Nat → AH → List (List AV) → Option (List (List AV) × AH)
  | 0, _, _ => none
  | _ + 1, h, [] => some ([], h)
  | N + 1, h, v :: l => (frzL N h v).bind fun q => (frzR N q.2 l).map fun r => (q.1 :: r.1, r.2)
end
section
variable {P : Program} {m : Mm} {h : AH} {w : World}
/-- one block is laid still -/
theorem WR.still (hw : WR P m h w) {b : Nat} {es : List (List AV)} {cs : Array Value} (hb : h.cell b = some es) (hc : Blk w (m.blk b) (m.bt b) cs) :
    ∃ m', Ext m h m' (h.set b none) ∧ WR P m' (h.set b none) w ∧ (∀ o v, cs[o]? = some v → m'.imm (m.blk b) o = some v) ∧ m'.blk = m.blk ∧ m'.bt = m.bt := by
  have hx : Ext m h { m with imm := fun g o => if g = m.blk b then cs[o]? else m.imm g o } (h.set b none) := by
    refine ⟨rfl, Nat.le_refl _, Nat.le_refl _, fun _ _ => ⟨rfl, rfl, rfl⟩, fun g o v hi => ?_, fun _ _ => ⟨rfl, Nat.le_refl _, fun _ => ⟨rfl, rfl⟩⟩⟩
    show (if g = m.blk b then cs[o]? else m.imm g o) = some v
    by_cases e : g = m.blk b
    · rw [e, hw.sep b es hb o] at hi
      cases hi
    · rw [if_neg e]
      exact hi
  refine ⟨_, hx, ?_, fun o v hv => by simp [hv], rfl, rfl⟩
  have up : ∀ q x, (h.set b none).cell q = some x → q ≠ b ∧ h.cell q = some x := by
    intro q x hq
    by_cases e : q = b
    · subst e
      simp [AH.set] at hq
    · exact ⟨e, by simpa [AH.set, e] using hq⟩
  refine ⟨hw.size, fun q x hq => hw.lt q x (up q x hq).2, fun q x hq => ?_, fun q q' x x' hq hq' => hw.inj q q' x x' (up q x hq).2 (up q' x' hq').2, fun g o v hi => ?_, fun q x hq o => ?_, hw.tip, fun k hk o ho => ?_, fun k hk q x hq => hw.tblk k hk q x (up q x hq).2, hw.tinj, hw.good⟩
  · obtain ⟨ds, c1, c2, c3, c4, c5⟩ := hw.live q x (up q x hq).2
    refine ⟨ds, c1, c2, c3, c4, fun i hi j hj => ?_⟩
    obtain ⟨v, v1, v2⟩ := c5 i hi j hj
    exact ⟨v, v1, v2.ext hx⟩
  · have hi : (if g = m.blk b then cs[o]? else m.imm g o) = some v := hi
    by_cases e : g = m.blk b
    · rw [if_pos e] at hi
      rw [e, hc.cell]
      exact hi
    · rw [if_neg e] at hi
      exact hw.imm g o v hi
  · obtain ⟨hne, hq⟩ := up q x hq
    show (if m.blk q = m.blk b then cs[o]? else m.imm (m.blk q) o) = none
    rw [if_neg fun e => hne (hw.inj q b x es hq hb e)]
    exact hw.sep q x hq o
  · show (if m.tg k = m.blk b then cs[o]? else m.imm (m.tg k) o) = none
    rw [if_neg fun e => hw.tblk k hk b es hb e.symm]
    exact hw.tfree k hk o ho
/-- values of a list, laid still one after the other -/
theorem frz_sound : ∀ N : Nat,
    (∀ (m : Mm) (h : AH) (w : World) (v : AV) (u : Value) (v' : AV) (h2 : AH), WR P m h w → VR P m h v u → frzA N h v = some (v', h2) → ∃ m2, Ext m h m2 h2 ∧ WR P m2 h2 w ∧ VR P m2 h2 v' u) ∧
    (∀ (m : Mm) (h : AH) (w : World) (l : List AV) (F : Nat → Value) (q : List AV) (h2 : AH), WR P m h w → (∀ j (hj : j < l.length), VR P m h l[j] (F j)) → frzL N h l = some (q, h2) →
      ∃ m2, Ext m h m2 h2 ∧ WR P m2 h2 w ∧ q.length = l.length ∧ ∀ j (hj : j < q.length), VR P m2 h2 q[j] (F j)) ∧
    (∀ (m : Mm) (h : AH) (w : World) (l : List (List AV)) (F : Nat → Nat → Value) (q : List (List AV)) (h2 : AH), WR P m h w → (∀ i (hi : i < l.length) j (hj : j < l[i].length), VR P m h l[i][j] (F i j)) → frzR N h l = some (q, h2) →
      ∃ m2, Ext m h m2 h2 ∧ WR P m2 h2 w ∧ q.length = l.length ∧ (∀ i (hi : i < q.length) (hi' : i < l.length), q[i].length = l[i].length) ∧ ∀ i (hi : i < q.length) j (hj : j < q[i].length), VR P m2 h2 q[i][j] (F i j)) := by
  intro N
  induction N with
  | zero => exact ⟨fun _ _ _ _ _ _ _ _ _ e => by simp [frzA] at e, fun _ _ _ _ _ _ _ _ _ e => by simp [frzL] at e, fun _ _ _ _ _ _ _ _ _ e => by simp [frzR] at e⟩
  | succ N ih =>
    obtain ⟨ihA, ihL, ihR⟩ := ih
    refine ⟨?_, ?_, ?_⟩
    · intro m h w v u v' h2 hw hv e
      have same : frzA (N + 1) h v = some (v, h) → ∃ m2, Ext m h m2 h2 ∧ WR P m2 h2 w ∧ VR P m2 h2 v' u := by
        intro e2
        rw [e2] at e
        simp only [Option.some.injEq, Prod.mk.injEq] at e
        obtain ⟨rfl, rfl⟩ := e
        exact ⟨m, Ext.refl _ _, hw, hv⟩
      cases hv with
      | msl b o n t cap hb he hcap hn hmx =>
        simp only [frzA] at e
        split at e
        · rename_i ho
          subst ho
          obtain ⟨rows, hrs, e⟩ := Option.bind_eq_some_iff.1 e
          split at e
          · rename_i hnl
            obtain ⟨⟨q, h3⟩, hq, e⟩ := Option.map_eq_some_iff.1 e
            simp only [Prod.mk.injEq] at e
            obtain ⟨rfl, rfl⟩ := e
            obtain ⟨cs, c1, c2, c3, c4, c5⟩ := hw.live b rows hrs
            obtain ⟨m1, x1, w1, i1, b1, t1⟩ := hw.still hrs c1
            have hl : (rows.take n).length = n := by rw [List.length_take]; omega
            obtain ⟨m2, x2, w2, l2, r2, v2⟩ := ihR m1 (h.set b none) w (rows.take n) (fun i j => cs.getD (i * P.cellsOf (m.bt b) + j) undef) q h3 w1 (fun i hi j hj => by
              rw [hl] at hi
              have hi' : i < rows.length := by omega
              simp only [List.getElem_take] at hj ⊢
              obtain ⟨v, k1, k2⟩ := c5 i hi' j hj
              have : cs.getD (i * P.cellsOf (m.bt b) + j) undef = v := by simp [Array.getD_eq_getD_getElem?, k1]
              rw [this]
              exact k2.ext x1) hq
            refine ⟨m2, x1.trans x2, w2, ?_⟩
            have hql : q.length = n := by rw [l2, hl]
            have hrow : ∀ i (hi : i < q.length), q[i].length = P.cellsOf t := by
              intro i hi
              rw [r2 i hi (by omega), List.getElem_take, ← he]
              exact c3 _ (List.getElem_mem _)
            have key := VR.isl (P := P) (m := m2) (h := h3) none t q (m.blk b) 0 cap (fun i j => cs.getD (i * P.cellsOf (m.bt b) + j) undef) (fun r hr => by
              obtain ⟨i, hi, rfl⟩ := List.getElem_of_mem hr
              exact hrow i hi) (fun i hi j hj => by
              have hi' : i < rows.length := by omega
              have hj' : j < rows[i].length := by rw [c3 _ (List.getElem_mem _), he]; exact hj
              obtain ⟨v, k1, k2⟩ := c5 i hi' j hj'
              have e1 : cs.getD (i * P.cellsOf (m.bt b) + j) undef = v := by simp [Array.getD_eq_getD_getElem?, k1]
              show m2.imm (m.blk b) (0 + (i * P.cellsOf t + j)) = some (cs.getD (i * P.cellsOf (m.bt b) + j) undef)
              rw [e1, Nat.zero_add, ← he]
              exact x2.imm _ _ _ (i1 _ _ k1)) v2 (by omega) (fun k hk => by cases hk)
            rw [hql] at key
            simpa using key
          · cases e
        · cases e
      | agg l l' h1 h3 =>
        simp only [frzA] at e
        obtain ⟨⟨q, h4⟩, hq, e⟩ := Option.map_eq_some_iff.1 e
        simp only [Prod.mk.injEq] at e
        obtain ⟨rfl, rfl⟩ := e
        obtain ⟨m2, x2, w2, l2, v2⟩ := ihL m h w l (fun j => l'.getD j undef) q h4 hw (fun j hj => by
          have hj' : j < l'.length := by omega
          have := h3 j hj hj'
          simpa [List.getD, hj'] using this) hq
        exact ⟨m2, x2, w2, .agg q l' (by omega) fun j hj hj' => by
          have := v2 j hj
          simpa [List.getD, hj'] using this⟩
      | tup l l' h1 h3 =>
        simp only [frzA] at e
        obtain ⟨⟨q, h4⟩, hq, e⟩ := Option.map_eq_some_iff.1 e
        simp only [Prod.mk.injEq] at e
        obtain ⟨rfl, rfl⟩ := e
        obtain ⟨m2, x2, w2, l2, v2⟩ := ihL m h w l (fun j => l'.getD j undef) q h4 hw (fun j hj => by
          have hj' : j < l'.length := by omega
          have := h3 j hj hj'
          simpa [List.getD, hj'] using this) hq
        exact ⟨m2, x2, w2, .tup q l' (by omega) fun j hj hj' => by
          have := v2 j hj
          simpa [List.getD, hj'] using this⟩
      | _ => exact same rfl
    · intro m h w l F q h2 hw hv e
      cases l with
      | nil =>
        simp only [frzL, Option.some.injEq, Prod.mk.injEq] at e
        obtain ⟨rfl, rfl⟩ := e
        exact ⟨m, Ext.refl _ _, hw, rfl, fun j hj => by simp at hj⟩
      | cons v l =>
        simp only [frzL] at e
        obtain ⟨⟨v1, h3⟩, e1, e⟩ := Option.bind_eq_some_iff.1 e
        obtain ⟨⟨q2, h4⟩, e2, e⟩ := Option.map_eq_some_iff.1 e
        simp only [Prod.mk.injEq] at e
        obtain ⟨rfl, rfl⟩ := e
        obtain ⟨m1, x1, w1, r1⟩ := ihA m h w v (F 0) v1 h3 hw (hv 0 (by simp)) e1
        obtain ⟨m2, x2, w2, l2, r2⟩ := ihL m1 h3 w l (fun j => F (j + 1)) q2 h4 w1 (fun j hj => (hv (j + 1) (by simpa using hj)).ext x1) e2
        refine ⟨m2, x1.trans x2, w2, by simp [l2], fun j hj => ?_⟩
        cases j with
        | zero => exact r1.ext x2
        | succ j => exact r2 j (by simpa using hj)
    · intro m h w l F q h2 hw hv e
      cases l with
      | nil =>
        simp only [frzR, Option.some.injEq, Prod.mk.injEq] at e
        obtain ⟨rfl, rfl⟩ := e
        exact ⟨m, Ext.refl _ _, hw, rfl, fun i hi => by simp at hi, fun i hi => by simp at hi⟩
      | cons v l =>
        simp only [frzR] at e
        obtain ⟨⟨v1, h3⟩, e1, e⟩ := Option.bind_eq_some_iff.1 e
        obtain ⟨⟨q2, h4⟩, e2, e⟩ := Option.map_eq_some_iff.1 e
        simp only [Prod.mk.injEq] at e
        obtain ⟨rfl, rfl⟩ := e
        obtain ⟨m1, x1, w1, k1, r1⟩ := ihL m h w v (F 0) v1 h3 hw (hv 0 (by simp)) e1
        obtain ⟨m2, x2, w2, l2, k2, r2⟩ := ihR m1 h3 w l (fun i => F (i + 1)) q2 h4 w1 (fun i hi j hj => (hv (i + 1) (by simpa using hi) j hj).ext x1) e2
        refine ⟨m2, x1.trans x2, w2, by simp [l2], fun i hi hi' => ?_, fun i hi j hj => ?_⟩
        · cases i with
          | zero => exact k1
          | succ i => exact k2 i (by simpa using hi) (by simpa using hi')
        · cases i with
          | zero => exact (r1 j hj).ext x2
          | succ i => exact r2 i (by simpa using hi) j hj
theorem AC.freeze {g : FuncId} {args : List AV} {v v' : AV} {h' h2 : AH} {N : Nat} (hac : AC P g args h (.inl v, h')) (hf : frzA N h' v = some (v', h2)) : AC P g args h (.inl v', h2) := by
  intro m w vs hw hvs
  refine (hac m w vs hw hvs).mono fun e w' ⟨m', x1, x2, x3, u, he, hu⟩ => ?_
  obtain ⟨m2, y1, y2, y3⟩ := (frz_sound N).1 m' h' w' v u v' h2 x2 hu hf
  exact ⟨m2, x1.trans y1, y2, x3, u, he, y3⟩
end
end Go.Proofs.YtngphebjmmencaaDoor
namespace Go.Proofs.YtngphebjmmencaaDoor
set_option linter.unusedSimpArgs false
set_option linter.unusedVariables false
open Go Go.RowKit

def cB : Code → Code
  | .block _ b => b
  | c => c
def cO : Code → Code
  | .loop b => b
  | c => c

section
variable {P : Program} {po : Pol} {f : FuncId} {n nv : Nat} {vm : List Nat} {h : AH} {V : List AV} {K : List Item} {D : List Deferred} {Post : AEx → List AV → AH → Prop}

/-- some end of which something holds -/
def OutP (P : Program) (po : Pol) (f : FuncId) (n : Nat) (vm : List Nat) (m : Mm) (h : AH) (w : World) (b : Frame) (cs : List Frame) (Post : AEx → List AV → AH → Prop) (mach : Machine) : Prop :=
  ∃ x t' V' h', RV n vm [] t' V' [] ∧ Post x V' h' ∧ OutR P (po.kp f) m h w b cs mach (x, t', h')
theorem OutP.steps {m : Mm} {w : World} {b : Frame} {cs : List Frame} {mach mach' : Machine} (s : Steps P mach mach') (o : OutP P po f n vm m h w b cs Post mach') : OutP P po f n vm m h w b cs Post mach := by
  obtain ⟨x, t', V', h', h1, h2, h3⟩ := o
  exact ⟨x, t', V', h', h1, h2, h3.steps s⟩
theorem OutP.after {m m1 : Mm} {h1 : AH} {w w1 : World} {b : Frame} {cs : List Frame} {mach : Machine} (x : Ext m h m1 h1) (bl : Below m.base w w1) (o : OutP P po f n vm m1 h1 w1 b cs Post mach) : OutP P po f n vm m h w b cs Post mach := by
  obtain ⟨x', t', V', h', q1, q2, q3⟩ := o
  exact ⟨x', t', V', h', q1, q2, q3.after x bl⟩
/-- from here on, with these deferred calls -/
def AtP (P : Program) (po : Pol) (f : FuncId) (n : Nat) (vm : List Nat) (D : List Deferred) (Post : AEx → List AV → AH → Prop) (K : List Item) (V : List AV) (h : AH) : Prop :=
  ∀ (m : Mm) (w : World) (a : Act) (t : List AV) (b : Frame) (cs : List Frame), WR P m h w → TR P m h t a.tmps → RV n vm [] t V [] → a.defers = b.defers → b.defers = D → OutP P po f n vm m h w b cs Post (lone (b.at a K) cs w)
theorem AtP.step {K' : List Item} (s : ∀ (b : Frame) (a : Act) (cs : List Frame) (w : World), Steps P (lone (b.at a K) cs w) (lone (b.at a K') cs w)) (h1 : AtP P po f n vm D Post K' V h) : AtP P po f n vm D Post K V h :=
  fun m w a t b cs hw ht rv hd hD => OutP.steps (s b a cs w) (h1 m w a t b cs hw ht rv hd hD)
theorem AtP.seq {A B : Code} (h1 : AtP P po f n vm D Post (.code A :: .code B :: K) V h) : AtP P po f n vm D Post (.code (.seq A B) :: K) V h := h1.step fun _ _ _ _ => .one step_seq
theorem AtP.block {id : Nat} {A : Code} (h1 : AtP P po f n vm D Post (.code A :: .inBlock id :: K) V h) : AtP P po f n vm D Post (.code (.block id A) :: K) V h := h1.step fun _ _ _ _ => .one step_block
theorem AtP.inBlock {id : Nat} (h1 : AtP P po f n vm D Post K V h) : AtP P po f n vm D Post (.inBlock id :: K) V h := h1.step fun _ _ _ _ => .one step_inBlock
theorem AtP.loop {A : Code} (h1 : AtP P po f n vm D Post (.code A :: .inLoop A :: K) V h) : AtP P po f n vm D Post (.code (.loop A) :: K) V h := h1.step fun _ _ _ _ => .one step_loop
theorem AtP.inLoop {A : Code} (h1 : AtP P po f n vm D Post (.code A :: .inLoop A :: K) V h) : AtP P po f n vm D Post (.inLoop A :: K) V h := h1.step fun _ _ _ _ => .one step_inLoop
theorem AtP.skip (h1 : AtP P po f n vm D Post K V h) : AtP P po f n vm D Post (.code .skip :: K) V h := h1.step fun _ _ _ _ => .one step_skip
theorem AtP.exit {id : Nat} {K' : List Item} (he : exitTo id K = some K') (h1 : AtP P po f n vm D Post K' V h) : AtP P po f n vm D Post (.code (.exit id) :: K) V h := h1.step fun _ _ _ _ => .one (step_exit he)
theorem AtP.cond {s j : Nat} {x y : Code} {c : Bool} (hs : vm[j]? = some s) (hv : V.getD j .junk = .bool c) (h1 : AtP P po f n vm D Post (.code (if c then x else y) :: K) V h) : AtP P po f n vm D Post (.code (.cond (.tmp s) x y) :: K) V h := by
  intro m w a t b cs hw ht rv hd hD
  refine OutP.steps (.one (step_cond (t := c) ?_)) (h1 m w a t b cs hw ht rv hd hD)
  obtain ⟨q1, q2⟩ := rv.v j s hs
  have v1 := tr_at ht (i := s) (by rw [rv.len]; exact q1)
  rw [q2, hv] at v1
  show a.tmps.getD s undef = _
  generalize a.tmps.getD s undef = u at v1
  cases v1
  rfl
/-- what is left where a piece ends -/
def EndP (P : Program) (po : Pol) (f : FuncId) (n : Nat) (vm : List Nat) (D : List Deferred) (Post : AEx → List AV → AH → Prop) : AEx → List AV → AH → Prop
  | .halt K', V', h' => AtP P po f n vm D Post K' V' h'
  | x, V', h' => Post x V' h'
/-- a piece -/
theorem AtP.piece (pok : POK P po) {c : Code} {l : List RS} {x : AEx} {V' : List AV} {h' : AH} (hvm : vm.Nodup ∧ ∀ j s, vm[j]? = some s → (j < nv ↔ s < po.nv f)) (htr : trCode P (po.mu f) (po.plan f) n vm c [] = some l) (hrg : regOK (po.plan f) (po.kp f) c = true)
    (hr : runR (runF P po) nv [.ss l, .halt K] V [] h = some (x, V', h')) (hx : EndP P po f n vm D Post x V' h') : AtP P po f n vm D Post (.code c :: K) V h := by
  intro m w a t b cs hw ht rv hd hD
  obtain ⟨t', hp, rv'⟩ := Go.Proofs.YtngphebjmmencaaDoor.piece pok hvm htr hrg hr rv
  have o := hp m w a b cs hw ht hd
  cases x with
  | halt K' =>
    obtain ⟨m1, w1, x1, x2, x3, a1, x4, x5, x6⟩ := o
    exact OutP.steps x6 (OutP.after x1 x3 (hx m1 w1 a1 t' b cs x2 x4 rv' x5 hD))
  | ret => exact ⟨_, t', V', h', rv', hx, o⟩
  | panic v => exact ⟨_, t', V', h', rv', hx, o⟩
/-- .. told by what holds of its end -/
theorem AtP.pieceQ (pok : POK P po) {c : Code} {l : List RS} (hvm : vm.Nodup ∧ ∀ j s, vm[j]? = some s → (j < nv ↔ s < po.nv f)) (htr : trCode P (po.mu f) (po.plan f) n vm c [] = some l) (hrg : regOK (po.plan f) (po.kp f) c = true)
    (hq : ∀ Q : RRun → Prop, (∀ V' h', AtP P po f n vm D Post K V' h' → Q (some (.halt K, V', h'))) → (∀ V' h', Post .ret V' h' → Q (some (.ret, V', h'))) → (∀ v V' h', Post (.panic v) V' h' → Q (some (.panic v, V', h'))) → Q (runR (runF P po) nv [.ss l, .halt K] V [] h)) : AtP P po f n vm D Post (.code c :: K) V h := by
  have := hq (fun r => ∃ x V' h', r = some (x, V', h') ∧ EndP P po f n vm D Post x V' h') (fun V' h' q => ⟨_, V', h', rfl, q⟩) (fun V' h' q => ⟨_, V', h', rfl, q⟩) (fun v V' h' q => ⟨_, V', h', rfl, q⟩)
  obtain ⟨x, V', h', e, q⟩ := this
  exact AtP.piece pok hvm htr hrg e q
/-- a statement whose order is open -/
theorem AtP.draw (pok : POK P po) {all : Array Oper} {id : Nat} (hedge : ((List.range all.size).all fun j => (all.getD j default).after.all fun e => !Region.binds .any e || decide (e.on < j)) = true)
    (h1 : ∀ L, OrdL all (fun _ _ => False) (noLi all) L → AtP P po f n vm D Post (.inRegion all L :: K) V h) : AtP P po f n vm D Post (.code (.region id all true) :: K) V h := by
  intro m w a t b cs hw ht rv hd hD
  obtain ⟨L, w', q1, q2, q3, q4⟩ := region_draw (P := P) (all := all) (id := id) (b := b) (a := a) (K := K) (cs := cs) (w := w) pok (fun j hj e he hb => by
    rw [List.all_eq_true] at hedge
    have := hedge j (List.mem_range.2 hj)
    rw [Array.all_eq_true'] at this
    have := this e he
    simpa [hb] using this)
  exact OutP.steps q2 (OutP.after (Ext.refl _ _) (q4 _) (h1 L q1 m w' a t b cs (q3 _ _ hw) ht rv hd hD))
theorem AtP.opsQ (pok : POK P po) {all : Array Oper} {pl : List (Nat × List Nat)} {E : Nat → Nat → Prop} {is : List RI} {L : List Nat} (hL : OrdL all E (noLi all) L) (pp : PlanP all pl E) (hkp : keepOK (po.kp f) all = true) (hvm : vm.Nodup ∧ ∀ j s, vm[j]? = some s → (j < nv ↔ s < po.nv f))
    (htr : trOps P (po.mu f) n vm all [] (planA true all pl) = some is)
    (hq : ∀ Q : RRun → Prop, (∀ V' h', AtP P po f n vm D Post K V' h' → Q (some (.halt K, V', h'))) → (∀ V' h', Post .ret V' h' → Q (some (.ret, V', h'))) → (∀ v V' h', Post (.panic v) V' h' → Q (some (.panic v, V', h'))) → Q (runR (runF P po) nv [.ops is, .halt K] V [] h)) : AtP P po f n vm D Post (.inRegion all L :: K) V h := by
  have := hq (fun r => ∃ x V' h', r = some (x, V', h') ∧ EndP P po f n vm D Post x V' h') (fun V' h' q => ⟨_, V', h', rfl, q⟩) (fun V' h' q => ⟨_, V', h', rfl, q⟩) (fun v V' h' q => ⟨_, V', h', rfl, q⟩)
  obtain ⟨x, V', h', e, hx⟩ := this
  intro m w a t b cs hw ht rv hd hD
  obtain ⟨t', hp, rv'⟩ := piece_ops pok pp hkp hvm htr e rv
  have o := hp m w a b cs L hL hw ht hd
  cases x with
  | halt K' =>
    obtain ⟨m1, w1, x1, x2, x3, a1, x4, x5, x6⟩ := o
    exact OutP.steps x6 (OutP.after x1 x3 (hx m1 w1 a1 t' b cs x2 x4 rv' x5 hD))
  | ret => exact ⟨_, t', V', h', rv', hx, o⟩
  | panic v => exact ⟨_, t', V', h', rv', hx, o⟩
/-- with a deferred call: of whatever it came to, what is left in the end is this -/
theorem defer_ACx (pok : POK P po) {fn : Func} {rs : List RRes} {args : List AV} {h2 : AH} {cZ cW : Code} {fCl : FuncId} {k : Nat} {caps js : List Nat} {r : AV} (p : PreR P po f n vm args h (.halt [.code cZ]) V h2) (hf : P.funcs[f]? = some fn) (hcf : ∃ fnC, P.funcs[(fCl : Nat)]? = some fnC ∧ (fnC.body.isNone = false ∧ (fnC.name == "runtime.NumGoroutine") = false))
    (hk : k ∉ vm) (hc : caps = js.map fun j => vm.getD j 0) (hj : ∀ j ∈ js, j < vm.length)
    (lay : ∀ (bf : Frame) (a : Act) (cs : List Frame) (w : World), a.tmps.size = n → Steps P (lone (bf.at a [.code cZ]) cs w) (lone (bf.at { a.put (some k) (cloV fCl (capU a caps)) with defers := cloD fCl (capU a caps) :: a.defers } [.code cW]) cs w))
    (hr : ∀ D, AtP P po f n vm D Post [.code cW] V h2) (hkp : ∀ r ∈ fn.results.toList, ∃ i ty, r = .cell i ty ∧ po.kp f i = true) (hres : trRes P vm fn.results.toList = some rs)
    (hpost : ∀ x V' h3, Post x V' h3 → ∃ h4 r4 N r5 h5, Ends P fCl (js.map fun j => V.getD j .junk) h3 h4 x ∧ (resR V' h4 rs).map oneA = some r4 ∧ frzA N h4 r4 = some (r5, h5) ∧ GrewA h h5 ∧ wkA r5 = some r) : AC P f args h (.inl r, h) := by
  intro m w vs hw hvs cs
  obtain ⟨bf, t2, b1, b2, b3, rv, m2, w2, x1, x2, x3, a2, x4, x5, x6⟩ := p m w vs hw hvs cs
  rw [b3] at x5
  have hsz : a2.tmps.size = n := by rw [x4.1, rv.len]
  have lay := lay bf a2 cs w2 hsz
  have vc := cap_vr rv x4 hc hj
  generalize capU a2 caps = us at lay vc
  rw [x5] at lay
  have ht3 := x4.put (VR.junk (cloV fCl us)) (some k)
  have rv3 := rv_outG (i := k) (v := .junk) rv hk
  obtain ⟨x, t5, V', h3, rv5, hpo, m3, w3, y1, y2, y3, y4⟩ := hr [cloD fCl us] m2 w2 { a2.put (some k) (cloV fCl us) with defers := [cloD fCl us] } _ { bf with defers := [cloD fCl us] } cs x2 ht3 rv3 rfl rfl
  obtain ⟨h4, r4, N, r5, h5, he, hv, hfz, hg, hwk⟩ := hpost x V' h3 hpo
  have vc3 := VRs.extG vc y1
  have ra : resA fn t5 h4 P = some r4 := pre_resA hres rv5 hv
  have inv : (invoke (.fn (.func fCl) us.toArray) #[]).run P w3 = .ok (.enter fCl us.toArray) w3 := by
    obtain ⟨fnC, g1, g2, g3⟩ := hcf
    have g3' : ¬ fnC.name = "runtime.NumGoroutine" := by simpa using g3
    have g2' : ¬ fnC.body = none := by cases hb : fnC.body with | none => rw [hb] at g2; cases g2 | some c => simp
    simp [go_sem, callFunc, g1, g2', g3']
  have bel : ∀ {w' : World}, Below m3.base w3 w' → Below m.base w w' := by
    intro w' z3
    have q1 : m2.base = m.base := x1.base
    have q2 : m3.base = m2.base := y1.base
    rw [q2, q1] at z3
    rw [q1] at y3
    exact (x3.trans y3).trans z3
  have fin : ∀ {m4 : Mm} {w' : World} {u : Value}, Ext m3 h3 m4 h4 → WR P m4 h4 w' → Below m3.base w3 w' → VR P m4 h4 r4 u → ∃ m', Ext m h m' h ∧ WR P m' h w' ∧ Below m.base w w' ∧ ∃ u', Ending.returned u = .returned u' ∧ VR P m' h r u' := by
    intro m4 w' u n1 n2 n3 n4
    obtain ⟨m5, z1, z2, z3⟩ := (frz_sound N).1 m4 h4 w' r4 u r5 h5 n2 n4 hfz
    obtain ⟨v1, v2⟩ := hw.back (((x1.trans y1).trans n1).trans z1) hg z2
    exact ⟨m5, v1, v2, bel n3, u, rfl, z3.weak hwk⟩
  cases he with
  | ret cl =>
    obtain ⟨a5, todo, z1, z2, z3⟩ := y4
    have hlv : Leaves P fn a5.tmps (fun e w' => ∃ m', Ext m h m' h ∧ WR P m' h w' ∧ Below m.base w w' ∧ ∃ u, e = .returned u ∧ VR P m' h r u) [cloD fCl us] .returning w3 := by
      refine leaves_cons (f := fCl) (args := us.toArray) (by simp) inv ?_
      refine (cl m3 w3 us y2 vc3).mono ?_
      rintro e u'' w' ⟨⟨v, rfl⟩, rfl, m4, n1, n2, n3⟩
      obtain ⟨u, h7, h8⟩ := res_sound n2 (z1.ext n1) ra
      exact ⟨u, h7, fin n1 n2 n3 h8⟩
    obtain ⟨e, w4, fr', hR, hs, hfn, hl⟩ := leaves_steps [cloD fCl us] .returning w3 { (({ bf with defers := [cloD fCl us] } : Frame).at a5 todo) with mode := .returning } cs rfl z2 rfl (by simp [Frame.at, b1, hf]) (by simpa [Frame.at] using b2) hlv
    exact ⟨e, w4, fr', hR, Comes.of_steps (x6.trans (lay.trans z3)) hs, hfn.trans b1, hl⟩
  | panic v cl =>
    obtain ⟨a5, todo, u, ⟨tm, z0, z1⟩, z2, z4, z3⟩ := y4
    have rm : resA fn tm h4 P = some r4 := by
      rw [← ra]
      unfold resA
      rw [resL_kp fun q hq => by obtain ⟨i, ty, e, hi⟩ := hkp q hq; exact ⟨i, ty, e, z1 i hi⟩]
    have hlv : Leaves P fn a5.tmps (fun e w' => ∃ m', Ext m h m' h ∧ WR P m' h w' ∧ Below m.base w w' ∧ ∃ u, e = .returned u ∧ VR P m' h r u) [cloD fCl us] (.panicking [{ v := u, recovered := false }]) w3 := by
      refine leaves_cons (f := fCl) (args := us.toArray) (by simp) inv ?_
      refine (cl m3 w3 us u y2 vc3 z4).mono ?_
      rintro e u'' w' ⟨⟨v, rfl⟩, rfl, m4, n1, n2, n3⟩
      obtain ⟨u2, h7, h8⟩ := res_sound n2 (z0.ext n1) rm
      exact ⟨u2, h7, fin n1 n2 n3 h8⟩
    obtain ⟨e, w4, fr', hR, hs, hfn, hl⟩ := leaves_steps [cloD fCl us] (.panicking [{ v := u, recovered := false }]) w3 { (({ bf with defers := [cloD fCl us] } : Frame).at a5 todo) with mode := .panicking [{ v := u, recovered := false }] } cs rfl z2 rfl (by simp [Frame.at, b1, hf]) (by simpa [Frame.at] using b2) hlv
    exact ⟨e, w4, fr', hR, Comes.of_steps (x6.trans (lay.trans z3)) hs, hfn.trans b1, hl⟩
end
end Go.Proofs.YtngphebjmmencaaDoor
namespace Go.Proofs.YtngphebjmmencaaDoor
set_option linter.unusedSimpArgs false
set_option linter.unusedVariables false
open Go

def rc_par0 : List RS := [(.ops [(.i (.v 1) (.alloc [.nils])), (.i (.v 2) (.alloc [(.int .i64 0), (.int .i64 0)]))])]
def rc_par1 : List RS := [(.ops [(.i .l (.mv (.v 0))), (.i .l (.call (.c (.fn 10 [] [])) [(.l 0)])), (.i .l (.mv (.l 0))), (.i .l (.ext (.l 0) 0)), (.i .l (.ext (.l 1) 1)), (.i (.v 3) (.mv (.l 1))), (.i .n (.store 2 (.v 2) (.l 0)))])]
def rc_par2 : List RS := [(.ops [(.i .l (.fad 0 (.v 2))), (.i .l (.load false 1 (.l 0))), (.i (.v 6) (.bin (.int .i64) .neq (.l 0) (.c (.int .i64 0))))]), (.cond (.v 6) [(.ops [(.i .l (.load true 1 (.v 1))), (.i .l (.load true 2 (.v 2))), (.i .n (.store 1 (.v 1) (.l 1))), (.ck [⟨none, true, 2, (.v 2), (.l 0)⟩]), (.i .n (.store 2 (.v 2) (.l 0)))]), .ret] [])]
def rc_par5 : List RS := [(.ops [(.i .l (.mv (.v 3))), (.i .l (.mv (.v 0))), (.i .l (.len true none (.l 0))), (.i .l (.build [.nils, (.int .i64 0)] [(0, 1), (1, 1)] [(0, (.l 2)), (1, (.l 0))])), (.i .l (.box 2 (.l 0))), (.i (.v 4) (.mv (.l 0)))])]
def rc_par6 : List RS := [(.ops [(.i .l (.mv (.v 4))), (.i .l (.nilc (.l 0))), (.i .l (.fad 0 (.l 0))), (.i .l (.load false 1 (.l 0))), (.i .l (.len false (some 32) (.l 0))), (.i (.v 7) (.bin (.int .i64) .gtr (.l 0) (.c (.int .i64 0))))])]
def rc_par7 : List RS := [(.ops [(.i .l (.mv (.v 4))), (.i .l (.call (.c (.fn 32 [] [])) [(.l 0), (.c (.str [102, 117, 110]))]))])]
def rc_parA : List RI := [(.i .l (.fad 0 (.v 1))), (.i .l (.load false 1 (.l 0))), (.i .l (.mv (.v 4))), (.i .l (.len false (some 56) (.l 1))), (.i .l (.call (.c (.fn 33 [] [])) [(.l 1), (.c (.int .i64 0))])), (.ck [⟨none, false, 1, (.l 4), (.l 3)⟩]), (.i .l (.bsl true 56 [(.int .i64 0), (.int .i64 0), (.int .i64 0), .nils] 4 1 [(0, (.c (.agg [(.int .i64 0), (.int .i64 0), (.int .i64 0), .nils])))])), (.ck [⟨none, false, 1, (.l 5), (.l 4)⟩]), (.i .l (.app true 56 (.l 4) (.l 0))), (.i .l (.ixa (some 56) none (.l 0) (.l 3))), (.i .l (.fad 0 (.v 1))), (.i .n (.store 4 (.l 1) (.l 4))), (.i .n (.store 1 (.l 0) (.l 2)))]
def rc_parB : List RI := [(.i .l (.fad 0 (.v 1))), (.i .l (.load false 1 (.l 0))), (.i .l (.mv (.v 4))), (.i .l (.len false (some 56) (.l 1))), (.i .l (.bsl true 56 [(.int .i64 0), (.int .i64 0), (.int .i64 0), .nils] 4 1 [(0, (.c (.agg [(.int .i64 0), (.int .i64 0), (.int .i64 0), .nils])))])), (.ck [⟨none, false, 1, (.l 4), (.l 3)⟩]), (.i .l (.call (.c (.fn 33 [] [])) [(.l 2), (.c (.int .i64 0))])), (.ck [⟨none, false, 1, (.l 5), (.l 4)⟩]), (.i .l (.app true 56 (.l 4) (.l 1))), (.i .l (.ixa (some 56) none (.l 0) (.l 3))), (.i .l (.fad 0 (.v 1))), (.i .n (.store 4 (.l 1) (.l 3))), (.i .n (.store 1 (.l 0) (.l 2)))]
def rc_parC : List RI := [(.i .l (.fad 0 (.v 1))), (.i .l (.load false 1 (.l 0))), (.i .l (.mv (.v 4))), (.i .l (.len false (some 56) (.l 1))), (.i .l (.call (.c (.fn 33 [] [])) [(.l 1), (.c (.int .i64 0))])), (.ck [⟨none, false, 1, (.l 4), (.l 3)⟩]), (.i .l (.bsl true 56 [(.int .i64 0), (.int .i64 0), (.int .i64 0), .nils] 4 1 [(0, (.c (.agg [(.int .i64 0), (.int .i64 0), (.int .i64 0), .nils])))])), (.ck [⟨none, false, 1, (.l 5), (.l 4)⟩]), (.i .l (.app true 56 (.l 4) (.l 0))), (.i .l (.ixa (some 56) none (.l 0) (.l 3))), (.i .l (.fad 0 (.v 1))), (.i .n (.store 1 (.l 0) (.l 2))), (.i .n (.store 4 (.l 1) (.l 4)))]
def rc_parD : List RI := [(.i .l (.fad 0 (.v 1))), (.i .l (.load false 1 (.l 0))), (.i .l (.mv (.v 4))), (.i .l (.len false (some 56) (.l 1))), (.i .l (.bsl true 56 [(.int .i64 0), (.int .i64 0), (.int .i64 0), .nils] 4 1 [(0, (.c (.agg [(.int .i64 0), (.int .i64 0), (.int .i64 0), .nils])))])), (.ck [⟨none, false, 1, (.l 4), (.l 3)⟩]), (.i .l (.call (.c (.fn 33 [] [])) [(.l 2), (.c (.int .i64 0))])), (.ck [⟨none, false, 1, (.l 5), (.l 4)⟩]), (.i .l (.app true 56 (.l 4) (.l 1))), (.i .l (.ixa (some 56) none (.l 0) (.l 3))), (.i .l (.fad 0 (.v 1))), (.i .n (.store 1 (.l 0) (.l 2))), (.i .n (.store 4 (.l 1) (.l 3)))]
def rc_parR : List RS := [(.ops [(.i .l (.load true 1 (.v 1))), (.i .l (.call (.c (.fn 34 [] [])) [(.l 0)])), (.i (.v 5) (.alloc [(.int .i64 0), (.int .i64 0)])), (.i .n (.store 2 (.v 5) (.l 0)))]), (.ops [(.i .l (.fad 0 (.v 5))), (.i .l (.load false 1 (.l 0))), (.i (.v 8) (.bin (.int .i64) .neq (.l 0) (.c (.int .i64 0))))]), (.cond (.v 8) [(.ops [(.i .l (.build [.nils] [(0, 1)] [])), (.i .l (.load true 2 (.v 5))), (.i .n (.store 1 (.v 1) (.l 1))), (.ck [⟨none, true, 2, (.v 5), (.l 0)⟩]), (.i .n (.store 2 (.v 2) (.l 0)))]), .ret] []), (.ops [(.i .l (.load true 1 (.v 1))), (.i .l (.build [(.int .i64 0), (.int .i64 0)] [(0, 1), (1, 1)] [])), (.i .n (.store 1 (.v 1) (.l 1))), (.i .n (.store 2 (.v 2) (.l 0)))]), .ret]
def rc_pac1 : List RS := [(.ops [(.i .l (.mv (.v 2))), (.i (.v 5) (.binG .iface none true .neq (.l 0) (.c .nili)))]), (.cond (.v 5) [(.ops [(.i .l (.mv (.v 2))), (.i .l (.tas 57 true (.l 0))), (.i .l (.mv (.l 0))), (.i .l (.ext (.l 0) 0)), (.i .l (.ext (.l 1) 1)), (.i (.v 3) (.alloc [(.int .i64 0), (.int .i64 0)])), (.i .n (.store 2 (.v 3) (.l 1))), (.i (.v 4) (.mv (.l 0)))]), (.ops [(.i .l (.mv (.v 4))), (.i (.v 6) (.un .not (.l 0)))]), (.cond (.v 6) [(.ops [(.i .l (.mv (.v 2))), (.i .n (.pan (.l 0)))])] []), (.ops [(.i .l (.build [.nils] [(0, 1)] [])), (.i .l (.load true 2 (.v 3))), (.i .n (.store 1 (.v 0) (.l 1))), (.ck [⟨none, true, 2, (.v 3), (.l 0)⟩]), (.i .n (.store 2 (.v 1) (.l 0)))])] [])]
end Go.Proofs.YtngphebjmmencaaDoor
namespace Go.Proofs.YtngphebjmmencaaDoor
set_option linter.unusedSimpArgs false
set_option linter.unusedVariables false
open Go

def rc_pfail : List RS := [(.ops [(.i .l (.mv (.v 0))), (.i .l (.nilc (.l 0))), (.i .l (.fad 1 (.l 0))), (.i .l (.load false 1 (.l 0))), (.i (.v 2) (.mv (.l 0)))]), (.ops [(.i .l (.mv (.v 0))), (.i .l (.nilc (.l 0))), (.i .l (.fad 0 (.l 0))), (.i .l (.load false 1 (.l 0))), (.i .l (.len false (some 32) (.l 0))), (.i (.v 3) (.bin (.int .i64) .gtr (.l 0) (.c (.int .i64 0))))]), (.cond (.v 3) [(.ops [(.i .l (.mv (.v 0))), (.i .l (.nilc (.l 0))), (.i .l (.fad 0 (.l 0))), (.i .l (.load false 1 (.l 0))), (.i .l (.ixa (some 32) none (.l 0) (.c (.int .i64 0)))), (.i .l (.fad 0 (.l 0))), (.i .l (.load false 1 (.l 0))), (.i (.v 2) (.mv (.l 0)))])] [(.ops [(.i .l (.mv (.v 1))), (.i (.v 4) (.bin (.int .i64) .eql (.l 0) (.c (.int .i64 5))))]), (.cond (.v 4) [(.ops [(.i (.v 1) (.mv (.c (.int .i64 6))))])] [])]), (.ops [(.i .l (.mv (.v 1))), (.i .l (.mv (.v 2))), (.i .l (.build [(.int .i64 0), (.int .i64 0)] [(0, 1), (1, 1)] [(0, (.l 1)), (1, (.l 0))])), (.i .l (.mki 57 (.l 0))), (.i .n (.pan (.l 0)))])]
theorem fn_pfail : FnR Tryd.prog po 52 2 5 [0, 1, 4, 14, 23] rc_pfail [] true := ⟨_, _, Tryd.func52, rfl, rfl, by kernel_rfl, by kernel_rfl, by kernel_rfl, by kernel_rfl, by kernel_rfl⟩
def rc_pis : List RS := [(.ops [(.i (.v 2) (.mv (.c (.bool false))))]), (.ops [(.i .l (.mv (.v 0))), (.i .l (.nilc (.l 0))), (.i .l (.fad 0 (.l 0))), (.i .l (.load false 1 (.l 0))), (.i .l (.len false (some 32) (.l 0))), (.i .l (.bin (.int .i64) .gtr (.l 0) (.c (.int .i64 0)))), (.i .l (.mv (.l 0))), (.g (.l 0) true .l (.mv (.v 0))), (.g (.l 1) true .l (.nilc (.l 0))), (.g (.l 2) true .l (.fad 0 (.l 0))), (.g (.l 3) true .l (.load false 1 (.l 0))), (.g (.l 4) true .l (.ixa (some 32) none (.l 0) (.c (.int .i64 0)))), (.g (.l 5) true .l (.fad 2 (.l 0))), (.g (.l 6) true .l (.load false 1 (.l 0))), (.g (.l 7) true .l (.un .not (.l 0))), (.i .l (.pick (.l 8) (.l 0) (.c (.bool false)))), (.i .l (.mv (.l 0))), (.g (.l 0) true .l (.mv (.v 0))), (.g (.l 1) true .l (.nilc (.l 0))), (.g (.l 2) true .l (.fad 0 (.l 0))), (.g (.l 3) true .l (.load false 1 (.l 0))), (.g (.l 4) true .l (.ixa (some 32) none (.l 0) (.c (.int .i64 0)))), (.g (.l 5) true .l (.fad 1 (.l 0))), (.g (.l 6) true .l (.load false 1 (.l 0))), (.g (.l 7) true .l (.mv (.v 1))), (.g (.l 8) true .l (.bin .str .eql (.l 1) (.l 0))), (.i .l (.pick (.l 9) (.l 0) (.c (.bool false)))), (.i (.v 3) (.mv (.l 0)))]), (.ops [(.i (.v 4) (.mv (.v 3)))]), (.cond (.v 4) [(.ops [(.i .l (.mv (.v 0))), (.i .l (.mv (.v 0))), (.i .l (.nilc (.l 0))), (.i .l (.fad 0 (.l 0))), (.i .l (.load false 1 (.l 0))), (.i .l (.slc false (some 32) (.l 0) (some (.c (.int .i64 1))) none)), (.i .l (.nilc (.l 5))), (.i .l (.fad 0 (.l 0))), (.i .n (.store 1 (.l 0) (.l 2)))])] []), (.ops [(.i .l (.mv (.v 3))), (.i (.v 2) (.mv (.l 0)))]), .ret]
theorem fn_pis : FnR Tryd.prog po 51 2 5 [0, 1, 4, 5, 33] rc_pis [(.v 2)] false := ⟨_, _, Tryd.func51, rfl, rfl, by kernel_rfl, by kernel_rfl, by kernel_rfl, by kernel_rfl, by kernel_rfl⟩
def rc_pwant : List RS := [(.ops [(.i .l (.mv (.v 0))), (.i .l (.mv (.v 1))), (.i .l (.call (.c (.fn 51 [] [])) [(.l 1), (.l 0)])), (.i (.v 2) (.un .not (.l 0)))]), (.cond (.v 2) [(.ops [(.i .l (.mv (.v 0))), (.i .l (.call (.c (.fn 52 [] [])) [(.l 0), (.c (.int .i64 5))]))])] [])]
theorem fn_pwant : FnR Tryd.prog po 32 2 3 [0, 1, 7] rc_pwant [] false := ⟨_, _, Tryd.func32, rfl, rfl, by kernel_rfl, by kernel_rfl, by kernel_rfl, by kernel_rfl, by kernel_rfl⟩
def rc_pnum : List RS := [(.ops [(.i (.v 1) (.mv (.c (.int .i64 0))))]), (.ops [(.i .l (.mv (.v 0))), (.i .l (.nilc (.l 0))), (.i .l (.fad 0 (.l 0))), (.i .l (.load false 1 (.l 0))), (.i .l (.len false (some 32) (.l 0))), (.i .l (.bin (.int .i64) .eql (.l 0) (.c (.int .i64 0)))), (.i .l (.mv (.l 0))), (.g (.l 0) false .l (.mv (.v 0))), (.g (.l 1) false .l (.nilc (.l 0))), (.g (.l 2) false .l (.fad 0 (.l 0))), (.g (.l 3) false .l (.load false 1 (.l 0))), (.g (.l 4) false .l (.ixa (some 32) none (.l 0) (.c (.int .i64 0)))), (.g (.l 5) false .l (.fad 2 (.l 0))), (.g (.l 6) false .l (.load false 1 (.l 0))), (.g (.l 7) false .l (.un .not (.l 0))), (.i (.v 3) (.pick (.l 8) (.c (.bool true)) (.l 0)))]), (.cond (.v 3) [(.ops [(.i .l (.mv (.v 0))), (.i .l (.call (.c (.fn 52 [] [])) [(.l 0), (.c (.int .i64 5))]))])] []), (.ops [(.i .l (.mv (.v 0))), (.i .l (.nilc (.l 0))), (.i .l (.fad 0 (.l 0))), (.i .l (.load false 1 (.l 0))), (.i .l (.ixa (some 32) none (.l 0) (.c (.int .i64 0)))), (.i .l (.fad 3 (.l 0))), (.i .l (.load false 1 (.l 0))), (.i (.v 2) (.mv (.l 0)))]), (.ops [(.i .l (.mv (.v 0))), (.i .l (.mv (.v 0))), (.i .l (.nilc (.l 0))), (.i .l (.fad 0 (.l 0))), (.i .l (.load false 1 (.l 0))), (.i .l (.slc false (some 32) (.l 0) (some (.c (.int .i64 1))) none)), (.i .l (.nilc (.l 5))), (.i .l (.fad 0 (.l 0))), (.i .n (.store 1 (.l 0) (.l 2)))]), (.ops [(.i .l (.mv (.v 2))), (.i (.v 1) (.mv (.l 0)))]), .ret]
theorem fn_pnum : FnR Tryd.prog po 54 1 4 [0, 2, 3, 19] rc_pnum [(.v 1)] false := ⟨_, _, Tryd.func54, rfl, rfl, by kernel_rfl, by kernel_rfl, by kernel_rfl, by kernel_rfl, by kernel_rfl⟩
def rc_pfew : List RS := [(.ops [(.i (.v 1) (.mv (.c (.int .i64 0))))]), (.ops [(.i .l (.mv (.v 0))), (.i .l (.nilc (.l 0))), (.i .l (.fad 0 (.l 0))), (.i .l (.load false 1 (.l 0))), (.i .l (.len false (some 32) (.l 0))), (.i .l (.bin (.int .i64) .gtr (.l 0) (.c (.int .i64 0)))), (.i .l (.mv (.l 0))), (.g (.l 0) true .l (.mv (.v 0))), (.g (.l 1) true .l (.nilc (.l 0))), (.g (.l 2) true .l (.fad 0 (.l 0))), (.g (.l 3) true .l (.load false 1 (.l 0))), (.g (.l 4) true .l (.ixa (some 32) none (.l 0) (.c (.int .i64 0)))), (.g (.l 5) true .l (.fad 2 (.l 0))), (.g (.l 6) true .l (.load false 1 (.l 0))), (.i .l (.pick (.l 7) (.l 0) (.c (.bool false)))), (.i .l (.mv (.l 0))), (.g (.l 0) true .l (.mv (.v 0))), (.g (.l 1) true .l (.nilc (.l 0))), (.g (.l 2) true .l (.fad 0 (.l 0))), (.g (.l 3) true .l (.load false 1 (.l 0))), (.g (.l 4) true .l (.ixa (some 32) none (.l 0) (.c (.int .i64 0)))), (.g (.l 5) true .l (.fad 3 (.l 0))), (.g (.l 6) true .l (.load false 1 (.l 0))), (.g (.l 7) true .l (.bin (.int .i64) .lss (.l 0) (.c (.int .i64 0)))), (.g (.l 8) true .l (.mv (.l 0))), (.g (.l 0) false .l (.mv (.v 0))), (.g (.l 1) false .l (.nilc (.l 0))), (.g (.l 2) false .l (.fad 0 (.l 0))), (.g (.l 3) false .l (.load false 1 (.l 0))), (.g (.l 4) false .l (.ixa (some 32) none (.l 0) (.c (.int .i64 0)))), (.g (.l 5) false .l (.fad 3 (.l 0))), (.g (.l 6) false .l (.load false 1 (.l 0))), (.g (.l 7) false .l (.bin (.int .i64) .gtr (.l 0) (.c (.int .i64 999)))), (.g (.l 17) true .l (.pick (.l 8) (.c (.bool true)) (.l 0))), (.i (.v 2) (.pick (.l 18) (.l 0) (.c (.bool false))))]), (.cond (.v 2) [(.ops [(.i .l (.mv (.v 0))), (.i .l (.call (.c (.fn 52 [] [])) [(.l 0), (.c (.int .i64 1))]))])] []), (.ops [(.i .l (.mv (.v 0))), (.i .l (.call (.c (.fn 54 [] [])) [(.l 0)])), (.i (.v 1) (.mv (.l 0)))]), .ret]
theorem fn_pfew : FnR Tryd.prog po 55 1 3 [0, 2, 37] rc_pfew [(.v 1)] false := ⟨_, _, Tryd.func55, rfl, rfl, by kernel_rfl, by kernel_rfl, by kernel_rfl, by kernel_rfl, by kernel_rfl⟩
def rc_ppick_b1 : List RS := [(.ops [(.i .l (.mv (.v 4))), (.i .l (.mv (.v 1))), (.i (.v 5) (.bin (.int .i64) .leq (.l 1) (.l 0)))]), (.cond (.v 5) [] [(.exit 0)]), (.block 1 [(.ops [(.i .l (.mv (.v 0))), (.i .l (.mv (.v 2))), (.i .l (.mv (.v 4))), (.i .l (.call (.l 1) [(.l 0)])), (.i (.v 6) (.call (.c (.fn 51 [] [])) [(.l 3), (.l 0)]))]), (.cond (.v 6) [(.ops [(.i .l (.mv (.v 4))), (.i (.v 3) (.mv (.l 0)))]), .ret] [])]), (.ops [(.i .l (.mv (.v 4))), (.i .l (.bin (.int .i64) .add (.l 0) (.c (.int .i64 1)))), (.i (.v 4) (.mv (.l 0)))])]
def rc_ppick : List RS := [(.ops [(.i (.v 3) (.mv (.c (.int .i64 0))))]), (.ops [(.i (.v 4) (.mv (.c (.int .i64 1))))]), (.block 0 [(.loop rc_ppick_b1)]), (.ops [(.i .l (.mv (.v 0))), (.i .l (.call (.c (.fn 52 [] [])) [(.l 0), (.c (.int .i64 5))]))]), (.ops [(.i (.v 3) (.mv (.c (.int .i64 0))))]), .ret]
theorem fn_ppick : FnR Tryd.prog po 53 3 7 [0, 1, 2, 6, 7, 10, 17] rc_ppick [(.v 3)] false := ⟨_, _, Tryd.func53, rfl, rfl, by kernel_rfl, by kernel_rfl, by kernel_rfl, by kernel_rfl, by kernel_rfl⟩
def rc_pexpr_b1 : List RS := [(.ops [(.i (.v 11) (.bin (.int .i64) .lss (.v 10) (.v 9)))]), (.cond (.v 11) [] [(.exit 1)]), (.block 2 [(.ops [(.i .l (.fad 3 (.v 3))), (.i .l (.load false 1 (.l 0))), (.i .l (.mv (.v 0))), (.i .l (.mv (.v 1))), (.i .l (.bin (.int .i64) .add (.l 0) (.c (.int .i64 1)))), (.i .l (.call (.c (.fn 33 [] [])) [(.l 2), (.l 0)])), (.ck [⟨none, false, 1, (.l 5), (.l 4)⟩]), (.i .l (.bsl false 56 [(.int .i64 0), (.int .i64 0), (.int .i64 0), .nils] 4 1 [(0, (.l 0))])), (.ck [⟨none, false, 1, (.l 6), (.l 5)⟩]), (.i .l (.app false 56 (.l 5) (.l 0))), (.i .l (.fad 3 (.v 3))), (.i .n (.store 1 (.l 0) (.l 1)))])]), (.ops [(.i .l (.bin (.int .i64) .add (.v 10) (.c (.int .i64 1)))), (.i (.v 10) (.mv (.l 0)))])]
def rc_pexpr : List RS := [(.ops [(.i (.v 2) (.alloc [(.int .i64 0), (.int .i64 0), (.int .i64 0), .nils]))]), (.ops [(.i .l (.mv (.v 1))), (.i (.v 4) (.bin (.int .i64) .gtr (.l 0) (.c (.int .i64 30))))]), (.cond (.v 4) [(.ops [(.i .l (.mv (.v 0))), (.i .l (.call (.c (.fn 52 [] [])) [(.l 0), (.c (.int .i64 4))]))])] []), (.ops [(.i .l (.mv (.v 0))), (.i .l (.call (.c (.fn 32 [] [])) [(.l 0), (.c (.str [40]))]))]), (.ops [(.i .l (.mv (.v 0))), (.i .l (.call (.c (.fn 53 [] [])) [(.l 0), (.c (.int .i64 21)), (.c (.fn 16 [] []))])), (.i .l (.build [(.int .i64 0), (.int .i64 0), (.int .i64 0), .nils] [(0, 1), (1, 1), (2, 1), (3, 1)] [(0, (.l 0))])), (.i (.v 3) (.alloc [(.int .i64 0), (.int .i64 0), (.int .i64 0), .nils])), (.i .n (.store 4 (.v 3) (.l 0)))]), (.ops [(.i .l (.fad 0 (.v 3))), (.i (.v 5) (.load false 1 (.l 0)))]), (.block 0 [(.ops [(.i .l (.bin (.int .i64) .eql (.v 5) (.c (.int .i64 2)))), (.i (.v 6) (.mv (.l 0)))]), (.cond (.v 6) [(.ops [(.i .l (.mv (.v 0))), (.i .l (.call (.c (.fn 54 [] [])) [(.l 0)])), (.i .l (.fad 2 (.v 3))), (.i .n (.store 1 (.l 0) (.l 1)))])] [(.ops [(.i .l (.bin (.int .i64) .eql (.v 5) (.c (.int .i64 4)))), (.i (.v 7) (.mv (.l 0)))]), (.cond (.v 7) [] [(.ops [(.i .l (.bin (.int .i64) .eql (.v 5) (.c (.int .i64 18)))), (.i (.v 7) (.mv (.l 0)))]), (.cond (.v 7) [] [(.ops [(.i .l (.bin (.int .i64) .eql (.v 5) (.c (.int .i64 15)))), (.i (.v 7) (.mv (.l 0)))])])]), (.cond (.v 7) [(.ops [(.i .l (.mv (.v 0))), (.i .l (.call (.c (.fn 55 [] [])) [(.l 0)])), (.i .l (.fad 1 (.v 3))), (.i .n (.store 1 (.l 0) (.l 1)))])] [(.ops [(.i .l (.bin (.int .i64) .eql (.v 5) (.c (.int .i64 6)))), (.i (.v 8) (.mv (.l 0)))]), (.cond (.v 8) [(.ops [(.i .l (.mv (.v 0))), (.i .l (.call (.c (.fn 53 [] [])) [(.l 0), (.c (.int .i64 5)), (.c (.fn 18 [] []))])), (.i .l (.fad 1 (.v 3))), (.i .n (.store 1 (.l 0) (.l 1)))])] [])])])]), (.ops [(.i .l (.fad 0 (.v 3))), (.i .l (.load false 1 (.l 0))), (.i (.v 9) (.call (.c (.fn 39 [] [])) [(.l 0)])), (.i (.v 10) (.mv (.c (.int .i64 0))))]), (.block 1 [(.loop rc_pexpr_b1)]), (.ops [(.i .l (.mv (.v 0))), (.i .l (.call (.c (.fn 32 [] [])) [(.l 0), (.c (.str [41]))]))]), (.ops [(.i .l (.load true 4 (.v 3))), (.i .n (.store 4 (.v 2) (.l 0)))]), .ret]
theorem fn_pexpr : FnR Tryd.prog po 33 2 12 [0, 1, 4, 5, 7, 16, 17, 22, 29, 36, 37, 38] rc_pexpr [(.cell true 4 2)] false := ⟨_, _, Tryd.func33, rfl, rfl, by kernel_rfl, by kernel_rfl, by kernel_rfl, by kernel_rfl, by kernel_rfl⟩
def rc_rdok : List RS := [(.ops [(.i (.v 1) (.mv (.c (.bool false))))]), (.ops [(.i .l (.mv (.v 0))), (.i .l (.nilc (.l 0))), (.i .l (.fad 3 (.l 0))), (.i .l (.fad 0 (.l 0))), (.i .l (.load false 1 (.l 0))), (.i .l (.bin (.int .i64) .eql (.l 0) (.c (.int .i64 0)))), (.i (.v 1) (.mv (.l 0)))]), .ret]
theorem fn_rdok : FnR Tryd.prog po 35 1 2 [0, 2] rc_rdok [(.v 1)] true := ⟨_, _, Tryd.func35, rfl, rfl, by kernel_rfl, by kernel_rfl, by kernel_rfl, by kernel_rfl, by kernel_rfl⟩
def rc_rdwrong : List RS := [(.ops [(.i .l (.mv (.v 0))), (.i .l (.call (.c (.fn 35 [] [])) [(.l 0)])), (.i (.v 2) (.un .not (.l 0)))]), (.cond (.v 2) [.ret] []), (.ops [(.i .l (.mv (.v 0))), (.i .l (.nilc (.l 0))), (.i .l (.fad 2 (.l 0))), (.i .l (.load false 1 (.l 0))), (.i .l (.mv (.v 0))), (.i .l (.nilc (.l 0))), (.i .l (.fad 0 (.l 0))), (.i .l (.load false 1 (.l 0))), (.i .l (.len false (some 33) (.l 0))), (.i (.v 3) (.bin (.int .i64) .lss (.l 5) (.l 0)))]), (.cond (.v 3) [(.ops [(.i .l (.mv (.v 0))), (.i .l (.mv (.v 1))), (.i .l (.mv (.v 0))), (.i .l (.nilc (.l 0))), (.i .l (.fad 0 (.l 0))), (.i .l (.load false 1 (.l 0))), (.i .l (.mv (.v 0))), (.i .l (.nilc (.l 0))), (.i .l (.fad 2 (.l 0))), (.i .l (.load false 1 (.l 0))), (.i .l (.ixa (some 33) none (.l 4) (.l 0))), (.i .l (.fad 0 (.l 0))), (.i .l (.load false 1 (.l 0))), (.i .l (.call (.c (.fn 27 [] [])) [(.l 11), (.l 0)])), (.i .l (.nilc (.l 13))), (.i .l (.fad 3 (.l 0))), (.i .n (.store 2 (.l 0) (.l 2)))])] [(.ops [(.i .l (.mv (.v 1))), (.i (.v 4) (.bin (.int .i64) .eql (.l 0) (.c (.int .i64 5))))]), (.cond (.v 4) [(.ops [(.i .l (.mv (.v 0))), (.i .l (.mv (.v 0))), (.i .l (.nilc (.l 0))), (.i .l (.fad 1 (.l 0))), (.i .l (.load false 1 (.l 0))), (.i .l (.call (.c (.fn 27 [] [])) [(.c (.int .i64 6)), (.l 0)])), (.i .l (.nilc (.l 5))), (.i .l (.fad 3 (.l 0))), (.i .n (.store 2 (.l 0) (.l 2)))])] [(.ops [(.i .l (.mv (.v 0))), (.i .l (.mv (.v 1))), (.i .l (.mv (.v 0))), (.i .l (.nilc (.l 0))), (.i .l (.fad 1 (.l 0))), (.i .l (.load false 1 (.l 0))), (.i .l (.call (.c (.fn 27 [] [])) [(.l 4), (.l 0)])), (.i .l (.nilc (.l 6))), (.i .l (.fad 3 (.l 0))), (.i .n (.store 2 (.l 0) (.l 2)))])])])]
theorem fn_rdwrong : FnR Tryd.prog po 61 2 5 [0, 1, 6, 16, 34] rc_rdwrong [] false := ⟨_, _, Tryd.func61, rfl, rfl, by kernel_rfl, by kernel_rfl, by kernel_rfl, by kernel_rfl, by kernel_rfl⟩
def rc_rdis : List RS := [(.ops [(.i (.v 2) (.mv (.c (.bool false))))]), (.ops [(.i .l (.mv (.v 0))), (.i .l (.call (.c (.fn 35 [] [])) [(.l 0)])), (.i .l (.mv (.l 0))), (.g (.l 0) true .l (.mv (.v 0))), (.g (.l 1) true .l (.nilc (.l 0))), (.g (.l 2) true .l (.fad 2 (.l 0))), (.g (.l 3) true .l (.load false 1 (.l 0))), (.g (.l 4) true .l (.mv (.v 0))), (.g (.l 5) true .l (.nilc (.l 0))), (.g (.l 6) true .l (.fad 0 (.l 0))), (.g (.l 7) true .l (.load false 1 (.l 0))), (.g (.l 8) true .l (.len false (some 33) (.l 0))), (.g (.l 9) true .l (.bin (.int .i64) .lss (.l 5) (.l 0))), (.i .l (.pick (.l 10) (.l 0) (.c (.bool false)))), (.i .l (.mv (.l 0))), (.g (.l 0) true .l (.mv (.v 0))), (.g (.l 1) true .l (.nilc (.l 0))), (.g (.l 2) true .l (.fad 0 (.l 0))), (.g (.l 3) true .l (.load false 1 (.l 0))), (.g (.l 4) true .l (.mv (.v 0))), (.g (.l 5) true .l (.nilc (.l 0))), (.g (.l 6) true .l (.fad 2 (.l 0))), (.g (.l 7) true .l (.load false 1 (.l 0))), (.g (.l 8) true .l (.ixa (some 33) none (.l 4) (.l 0))), (.g (.l 9) true .l (.fad 2 (.l 0))), (.g (.l 10) true .l (.load false 1 (.l 0))), (.g (.l 11) true .l (.un .not (.l 0))), (.i .l (.pick (.l 12) (.l 0) (.c (.bool false)))), (.i .l (.mv (.l 0))), (.g (.l 0) true .l (.mv (.v 0))), (.g (.l 1) true .l (.nilc (.l 0))), (.g (.l 2) true .l (.fad 0 (.l 0))), (.g (.l 3) true .l (.load false 1 (.l 0))), (.g (.l 4) true .l (.mv (.v 0))), (.g (.l 5) true .l (.nilc (.l 0))), (.g (.l 6) true .l (.fad 2 (.l 0))), (.g (.l 7) true .l (.load false 1 (.l 0))), (.g (.l 8) true .l (.ixa (some 33) none (.l 4) (.l 0))), (.g (.l 9) true .l (.fad 1 (.l 0))), (.g (.l 10) true .l (.load false 1 (.l 0))), (.g (.l 11) true .l (.mv (.v 1))), (.g (.l 12) true .l (.bin .str .eql (.l 1) (.l 0))), (.i .l (.pick (.l 13) (.l 0) (.c (.bool false)))), (.i (.v 2) (.mv (.l 0)))]), .ret]
theorem fn_rdis : FnR Tryd.prog po 60 2 3 [0, 1, 4] rc_rdis [(.v 2)] true := ⟨_, _, Tryd.func60, rfl, rfl, by kernel_rfl, by kernel_rfl, by kernel_rfl, by kernel_rfl, by kernel_rfl⟩
def rc_rdmust : List RS := [(.ops [(.i .l (.mv (.v 0))), (.i .l (.mv (.v 1))), (.i (.v 2) (.call (.c (.fn 60 [] [])) [(.l 1), (.l 0)]))]), (.cond (.v 2) [(.ops [(.i .l (.mv (.v 0))), (.i .l (.nilc (.l 0))), (.i .l (.fad 2 (.l 0))), (.i .l (.load false 1 (.l 0))), (.i .l (.bin (.int .i64) .add (.l 0) (.c (.int .i64 1)))), (.i .l (.nilc (.l 4))), (.i .l (.fad 2 (.l 0))), (.i .n (.store 1 (.l 0) (.l 2)))])] [(.ops [(.i .l (.mv (.v 0))), (.i .l (.call (.c (.fn 61 [] [])) [(.l 0), (.c (.int .i64 5))]))])])]
theorem fn_rdmust : FnR Tryd.prog po 36 2 3 [0, 1, 6] rc_rdmust [] false := ⟨_, _, Tryd.func36, rfl, rfl, by kernel_rfl, by kernel_rfl, by kernel_rfl, by kernel_rfl, by kernel_rfl⟩
def rc_rdnumber : List RS := [(.ops [(.i (.v 1) (.mv (.c (.int .i64 0))))]), (.ops [(.i .l (.mv (.v 0))), (.i .l (.call (.c (.fn 35 [] [])) [(.l 0)])), (.i (.v 2) (.un .not (.l 0)))]), (.cond (.v 2) [(.ops [(.i (.v 1) (.mv (.c (.int .i64 0))))]), .ret] []), (.ops [(.i .l (.mv (.v 0))), (.i .l (.nilc (.l 0))), (.i .l (.fad 2 (.l 0))), (.i .l (.load false 1 (.l 0))), (.i .l (.mv (.v 0))), (.i .l (.nilc (.l 0))), (.i .l (.fad 0 (.l 0))), (.i .l (.load false 1 (.l 0))), (.i .l (.len false (some 33) (.l 0))), (.i .l (.bin (.int .i64) .geq (.l 5) (.l 0))), (.i .l (.mv (.l 0))), (.g (.l 0) false .l (.mv (.v 0))), (.g (.l 1) false .l (.nilc (.l 0))), (.g (.l 2) false .l (.fad 0 (.l 0))), (.g (.l 3) false .l (.load false 1 (.l 0))), (.g (.l 4) false .l (.mv (.v 0))), (.g (.l 5) false .l (.nilc (.l 0))), (.g (.l 6) false .l (.fad 2 (.l 0))), (.g (.l 7) false .l (.load false 1 (.l 0))), (.g (.l 8) false .l (.ixa (some 33) none (.l 4) (.l 0))), (.g (.l 9) false .l (.fad 2 (.l 0))), (.g (.l 10) false .l (.load false 1 (.l 0))), (.g (.l 11) false .l (.un .not (.l 0))), (.i (.v 3) (.pick (.l 12) (.c (.bool true)) (.l 0)))]), (.cond (.v 3) [(.ops [(.i .l (.mv (.v 0))), (.i .l (.call (.c (.fn 61 [] [])) [(.l 0), (.c (.int .i64 5))]))]), (.ops [(.i (.v 1) (.mv (.c (.int .i64 0))))]), .ret] []), (.ops [(.i .l (.mv (.v 0))), (.i .l (.nilc (.l 0))), (.i .l (.fad 2 (.l 0))), (.i .l (.load false 1 (.l 0))), (.i .l (.bin (.int .i64) .add (.l 0) (.c (.int .i64 1)))), (.i .l (.nilc (.l 4))), (.i .l (.fad 2 (.l 0))), (.i .n (.store 1 (.l 0) (.l 2)))]), (.ops [(.i .l (.mv (.v 0))), (.i .l (.nilc (.l 0))), (.i .l (.fad 0 (.l 0))), (.i .l (.load false 1 (.l 0))), (.i .l (.mv (.v 0))), (.i .l (.nilc (.l 0))), (.i .l (.fad 2 (.l 0))), (.i .l (.load false 1 (.l 0))), (.i .l (.bin (.int .i64) .sub (.l 0) (.c (.int .i64 1)))), (.i .l (.ixa (some 33) none (.l 5) (.l 0))), (.i .l (.fad 3 (.l 0))), (.i .l (.load false 1 (.l 0))), (.i (.v 1) (.mv (.l 0)))]), .ret]
theorem fn_rdnumber : FnR Tryd.prog po 62 1 4 [0, 2, 5, 29] rc_rdnumber [(.v 1)] false := ⟨_, _, Tryd.func62, rfl, rfl, by kernel_rfl, by kernel_rfl, by kernel_rfl, by kernel_rfl, by kernel_rfl⟩
def rc_rdfew : List RS := [(.ops [(.i (.v 1) (.mv (.c (.int .i64 0))))]), (.ops [(.i .l (.mv (.v 0))), (.i .l (.call (.c (.fn 35 [] [])) [(.l 0)])), (.i .l (.mv (.l 0))), (.g (.l 0) true .l (.mv (.v 0))), (.g (.l 1) true .l (.nilc (.l 0))), (.g (.l 2) true .l (.fad 2 (.l 0))), (.g (.l 3) true .l (.load false 1 (.l 0))), (.g (.l 4) true .l (.mv (.v 0))), (.g (.l 5) true .l (.nilc (.l 0))), (.g (.l 6) true .l (.fad 0 (.l 0))), (.g (.l 7) true .l (.load false 1 (.l 0))), (.g (.l 8) true .l (.len false (some 33) (.l 0))), (.g (.l 9) true .l (.bin (.int .i64) .lss (.l 5) (.l 0))), (.i .l (.pick (.l 10) (.l 0) (.c (.bool false)))), (.i .l (.mv (.l 0))), (.g (.l 0) true .l (.mv (.v 0))), (.g (.l 1) true .l (.nilc (.l 0))), (.g (.l 2) true .l (.fad 0 (.l 0))), (.g (.l 3) true .l (.load false 1 (.l 0))), (.g (.l 4) true .l (.mv (.v 0))), (.g (.l 5) true .l (.nilc (.l 0))), (.g (.l 6) true .l (.fad 2 (.l 0))), (.g (.l 7) true .l (.load false 1 (.l 0))), (.g (.l 8) true .l (.ixa (some 33) none (.l 4) (.l 0))), (.g (.l 9) true .l (.fad 2 (.l 0))), (.g (.l 10) true .l (.load false 1 (.l 0))), (.i .l (.pick (.l 11) (.l 0) (.c (.bool false)))), (.i .l (.mv (.l 0))), (.g (.l 0) true .l (.mv (.v 0))), (.g (.l 1) true .l (.nilc (.l 0))), (.g (.l 2) true .l (.fad 0 (.l 0))), (.g (.l 3) true .l (.load false 1 (.l 0))), (.g (.l 4) true .l (.mv (.v 0))), (.g (.l 5) true .l (.nilc (.l 0))), (.g (.l 6) true .l (.fad 2 (.l 0))), (.g (.l 7) true .l (.load false 1 (.l 0))), (.g (.l 8) true .l (.ixa (some 33) none (.l 4) (.l 0))), (.g (.l 9) true .l (.fad 3 (.l 0))), (.g (.l 10) true .l (.load false 1 (.l 0))), (.g (.l 11) true .l (.bin (.int .i64) .lss (.l 0) (.c (.int .i64 0)))), (.g (.l 12) true .l (.mv (.l 0))), (.g (.l 0) false .l (.mv (.v 0))), (.g (.l 1) false .l (.nilc (.l 0))), (.g (.l 2) false .l (.fad 0 (.l 0))), (.g (.l 3) false .l (.load false 1 (.l 0))), (.g (.l 4) false .l (.mv (.v 0))), (.g (.l 5) false .l (.nilc (.l 0))), (.g (.l 6) false .l (.fad 2 (.l 0))), (.g (.l 7) false .l (.load false 1 (.l 0))), (.g (.l 8) false .l (.ixa (some 33) none (.l 4) (.l 0))), (.g (.l 9) false .l (.fad 3 (.l 0))), (.g (.l 10) false .l (.load false 1 (.l 0))), (.g (.l 11) false .l (.bin (.int .i64) .gtr (.l 0) (.c (.int .i64 999)))), (.g (.l 25) true .l (.pick (.l 12) (.c (.bool true)) (.l 0))), (.i (.v 2) (.pick (.l 26) (.l 0) (.c (.bool false))))]), (.cond (.v 2) [(.ops [(.i .l (.mv (.v 0))), (.i .l (.call (.c (.fn 61 [] [])) [(.l 0), (.c (.int .i64 1))]))])] []), (.ops [(.i .l (.mv (.v 0))), (.i .l (.call (.c (.fn 62 [] [])) [(.l 0)])), (.i (.v 1) (.mv (.l 0)))]), .ret]
theorem fn_rdfew : FnR Tryd.prog po 63 1 3 [0, 2, 57] rc_rdfew [(.v 1)] false := ⟨_, _, Tryd.func63, rfl, rfl, by kernel_rfl, by kernel_rfl, by kernel_rfl, by kernel_rfl, by kernel_rfl⟩
def rc_rdexpr_b1 : List RS := [(.ops [(.i .l (.mv (.v 6))), (.i .l (.fad 0 (.v 3))), (.i .l (.load false 1 (.l 0))), (.i .l (.call (.c (.fn 64 [] [])) [(.l 0)])), (.i .l (.bin (.int .i64) .lss (.l 3) (.l 0))), (.i .l (.mv (.l 0))), (.g (.l 0) true .l (.mv (.v 0))), (.g (.l 1) true .l (.call (.c (.fn 35 [] [])) [(.l 0)])), (.i (.v 18) (.pick (.l 2) (.l 0) (.c (.bool false))))]), (.cond (.v 18) [] [(.exit 5)]), (.block 6 [(.ops [(.i .l (.fad 3 (.v 3))), (.i .l (.load false 1 (.l 0))), (.i .l (.mv (.v 0))), (.i .l (.mv (.v 1))), (.i .l (.bin (.int .i64) .add (.l 0) (.c (.int .i64 1)))), (.i .l (.call (.c (.fn 37 [] [])) [(.l 2), (.l 0)])), (.ck [⟨none, false, 1, (.l 5), (.l 4)⟩]), (.i .l (.bsl false 56 [(.int .i64 0), (.int .i64 0), (.int .i64 0), .nils] 4 1 [(0, (.l 0))])), (.ck [⟨none, false, 1, (.l 6), (.l 5)⟩]), (.i .l (.app false 56 (.l 5) (.l 0))), (.i .l (.fad 3 (.v 3))), (.i .n (.store 1 (.l 0) (.l 1)))])]), (.ops [(.i .l (.mv (.v 6))), (.i .l (.bin (.int .i64) .add (.l 0) (.c (.int .i64 1)))), (.i (.v 6) (.mv (.l 0)))])]
def rc_rdexpr_b2 : List RS := [(.ops [(.i .l (.mv (.v 5))), (.i (.v 15) (.bin (.int .i64) .leq (.l 0) (.c (.int .i64 5))))]), (.cond (.v 15) [] [(.exit 3)]), (.block 4 [(.ops [(.i .l (.mv (.v 0))), (.i .l (.mv (.v 5))), (.i .l (.call (.c (.fn 19 [] [])) [(.l 0)])), (.i (.v 16) (.call (.c (.fn 60 [] [])) [(.l 2), (.l 0)]))]), (.cond (.v 16) [(.ops [(.i .l (.mv (.v 5))), (.i .l (.fad 1 (.v 3))), (.i .n (.store 1 (.l 0) (.l 1)))])] [])]), (.ops [(.i .l (.mv (.v 5))), (.i .l (.bin (.int .i64) .add (.l 0) (.c (.int .i64 1)))), (.i (.v 5) (.mv (.l 0)))])]
def rc_rdexpr_b3 : List RS := [(.ops [(.i .l (.mv (.v 4))), (.i (.v 8) (.bin (.int .i64) .leq (.l 0) (.c (.int .i64 21))))]), (.cond (.v 8) [] [(.exit 0)]), (.block 1 [(.ops [(.i .l (.mv (.v 0))), (.i .l (.mv (.v 4))), (.i .l (.call (.c (.fn 17 [] [])) [(.l 0)])), (.i (.v 9) (.call (.c (.fn 60 [] [])) [(.l 2), (.l 0)]))]), (.cond (.v 9) [(.ops [(.i .l (.mv (.v 4))), (.i .l (.fad 0 (.v 3))), (.i .n (.store 1 (.l 0) (.l 1)))])] [])]), (.ops [(.i .l (.mv (.v 4))), (.i .l (.bin (.int .i64) .add (.l 0) (.c (.int .i64 1)))), (.i (.v 4) (.mv (.l 0)))])]
def rc_rdexpr : List RS := [(.ops [(.i (.v 2) (.alloc [(.int .i64 0), (.int .i64 0), (.int .i64 0), .nils]))]), (.ops [(.i (.v 3) (.alloc [(.int .i64 0), (.int .i64 0), (.int .i64 0), .nils]))]), (.ops [(.i .l (.mv (.v 1))), (.i (.v 7) (.bin (.int .i64) .gtr (.l 0) (.c (.int .i64 30))))]), (.cond (.v 7) [(.ops [(.i .l (.mv (.v 0))), (.i .l (.call (.c (.fn 61 [] [])) [(.l 0), (.c (.int .i64 4))]))])] []), (.ops [(.i .l (.mv (.v 0))), (.i .l (.call (.c (.fn 36 [] [])) [(.l 0), (.c (.str [40]))]))]), (.ops [(.i (.v 4) (.mv (.c (.int .i64 1))))]), (.block 0 [(.loop rc_rdexpr_b3)]), (.ops [(.i .l (.fad 0 (.v 3))), (.i .l (.load false 1 (.l 0))), (.i (.v 10) (.bin (.int .i64) .eql (.l 0) (.c (.int .i64 0))))]), (.cond (.v 10) [(.ops [(.i .l (.mv (.v 0))), (.i .l (.call (.c (.fn 61 [] [])) [(.l 0), (.c (.int .i64 5))]))]), (.ops [(.i .l (.load true 4 (.v 3))), (.i .n (.store 4 (.v 2) (.l 0)))]), .ret] []), (.ops [(.i .l (.mv (.v 0))), (.i .l (.nilc (.l 0))), (.i .l (.fad 2 (.l 0))), (.i .l (.load false 1 (.l 0))), (.i .l (.bin (.int .i64) .add (.l 0) (.c (.int .i64 1)))), (.i .l (.nilc (.l 4))), (.i .l (.fad 2 (.l 0))), (.i .n (.store 1 (.l 0) (.l 2)))]), (.ops [(.i .l (.fad 0 (.v 3))), (.i (.v 11) (.load false 1 (.l 0)))]), (.block 2 [(.ops [(.i .l (.bin (.int .i64) .eql (.v 11) (.c (.int .i64 2)))), (.i (.v 12) (.mv (.l 0)))]), (.cond (.v 12) [(.ops [(.i .l (.mv (.v 0))), (.i .l (.call (.c (.fn 62 [] [])) [(.l 0)])), (.i .l (.fad 2 (.v 3))), (.i .n (.store 1 (.l 0) (.l 1)))])] [(.ops [(.i .l (.bin (.int .i64) .eql (.v 11) (.c (.int .i64 4)))), (.i (.v 13) (.mv (.l 0)))]), (.cond (.v 13) [] [(.ops [(.i .l (.bin (.int .i64) .eql (.v 11) (.c (.int .i64 18)))), (.i (.v 13) (.mv (.l 0)))]), (.cond (.v 13) [] [(.ops [(.i .l (.bin (.int .i64) .eql (.v 11) (.c (.int .i64 15)))), (.i (.v 13) (.mv (.l 0)))])])]), (.cond (.v 13) [(.ops [(.i .l (.mv (.v 0))), (.i .l (.call (.c (.fn 63 [] [])) [(.l 0)])), (.i .l (.fad 1 (.v 3))), (.i .n (.store 1 (.l 0) (.l 1)))])] [(.ops [(.i .l (.bin (.int .i64) .eql (.v 11) (.c (.int .i64 6)))), (.i (.v 14) (.mv (.l 0)))]), (.cond (.v 14) [(.ops [(.i (.v 5) (.mv (.c (.int .i64 1))))]), (.block 3 [(.loop rc_rdexpr_b2)]), (.ops [(.i .l (.fad 1 (.v 3))), (.i .l (.load false 1 (.l 0))), (.i (.v 17) (.bin (.int .i64) .eql (.l 0) (.c (.int .i64 0))))]), (.cond (.v 17) [(.ops [(.i .l (.mv (.v 0))), (.i .l (.call (.c (.fn 61 [] [])) [(.l 0), (.c (.int .i64 5))]))])] []), (.ops [(.i .l (.mv (.v 0))), (.i .l (.nilc (.l 0))), (.i .l (.fad 2 (.l 0))), (.i .l (.load false 1 (.l 0))), (.i .l (.bin (.int .i64) .add (.l 0) (.c (.int .i64 1)))), (.i .l (.nilc (.l 4))), (.i .l (.fad 2 (.l 0))), (.i .n (.store 1 (.l 0) (.l 2)))])] [])])])]), (.ops [(.i (.v 6) (.mv (.c (.int .i64 0))))]), (.block 5 [(.loop rc_rdexpr_b1)]), (.ops [(.i .l (.mv (.v 0))), (.i .l (.call (.c (.fn 36 [] [])) [(.l 0), (.c (.str [41]))]))]), (.ops [(.i .l (.load true 4 (.v 3))), (.i .n (.store 4 (.v 2) (.l 0)))]), .ret]
theorem fn_rdexpr : FnR Tryd.prog po 37 2 19 [0, 1, 4, 5, 6, 7, 8, 10, 16, 22, 27, 39, 40, 45, 52, 55, 61, 66, 84] rc_rdexpr [(.cell true 4 2)] false := ⟨_, _, Tryd.func37, rfl, rfl, by kernel_rfl, by kernel_rfl, by kernel_rfl, by kernel_rfl, by kernel_rfl⟩
def rc_rParse_b1 : List RS := [(.ops [(.i .l (.mv (.v 5))), (.i .l (.call (.c (.fn 35 [] [])) [(.l 0)])), (.i .l (.mv (.l 0))), (.g (.l 0) true .l (.mv (.v 5))), (.g (.l 1) true .l (.nilc (.l 0))), (.g (.l 2) true .l (.fad 2 (.l 0))), (.g (.l 3) true .l (.load false 1 (.l 0))), (.g (.l 4) true .l (.mv (.v 3))), (.g (.l 5) true .l (.len false (some 33) (.l 0))), (.g (.l 6) true .l (.bin (.int .i64) .lss (.l 2) (.l 0))), (.i (.v 9) (.pick (.l 7) (.l 0) (.c (.bool false))))]), (.cond (.v 9) [] [(.exit 0)]), (.block 1 [(.ops [(.i .l (.mv (.v 5))), (.i .l (.call (.c (.fn 36 [] [])) [(.l 0), (.c (.str [102, 117, 110]))]))]), (.ops [(.i .l (.fad 0 (.v 6))), (.i .l (.load false 1 (.l 0))), (.i .l (.mv (.v 5))), (.i .l (.call (.c (.fn 37 [] [])) [(.l 0), (.c (.int .i64 0))])), (.ck [⟨none, false, 1, (.l 3), (.l 2)⟩]), (.i .l (.bsl false 56 [(.int .i64 0), (.int .i64 0), (.int .i64 0), .nils] 4 1 [(0, (.l 0))])), (.ck [⟨none, false, 1, (.l 4), (.l 3)⟩]), (.i .l (.app false 56 (.l 3) (.l 0))), (.i .l (.fad 0 (.v 6))), (.i .n (.store 1 (.l 0) (.l 1)))])])]
def rc_rParse : List RS := [(.ops [(.i (.v 1) (.alloc [.nils])), (.i (.v 2) (.alloc [(.int .i64 0), (.int .i64 0)]))]), (.ops [(.i .l (.mv (.v 0))), (.i .l (.call (.c (.fn 11 [] [])) [(.l 0)])), (.i .l (.mv (.l 0))), (.i .l (.ext (.l 0) 0)), (.i .l (.ext (.l 1) 1)), (.i (.v 4) (.alloc [(.int .i64 0), (.int .i64 0)])), (.i (.v 3) (.mv (.l 1))), (.i .n (.store 2 (.v 4) (.l 0)))]), (.ops [(.i .l (.fad 0 (.v 4))), (.i .l (.load false 1 (.l 0))), (.i (.v 8) (.bin (.int .i64) .neq (.l 0) (.c (.int .i64 0))))]), (.cond (.v 8) [(.ops [(.i .l (.build [.nils] [(0, 1)] [])), (.i .l (.load true 2 (.v 4))), (.i .n (.store 1 (.v 1) (.l 1))), (.ck [⟨none, true, 2, (.v 4), (.l 0)⟩]), (.i .n (.store 2 (.v 2) (.l 0)))]), .ret] []), (.ops [(.i .l (.mv (.v 3))), (.i .l (.mv (.v 0))), (.i .l (.len true none (.l 0))), (.i .l (.build [.nils, (.int .i64 0), (.int .i64 0), (.int .i64 0), (.int .i64 0)] [(0, 1), (1, 1), (2, 1), (3, 2)] [(0, (.l 2)), (1, (.l 0))])), (.i .l (.box 5 (.l 0))), (.i (.v 5) (.mv (.l 0)))]), (.ops [(.i (.v 6) (.alloc [.nils]))]), (.block 0 [(.loop rc_rParse_b1)]), (.ops [(.i .l (.mv (.v 5))), (.i .l (.call (.c (.fn 35 [] [])) [(.l 0)])), (.i (.v 10) (.un .not (.l 0)))]), (.cond (.v 10) [(.ops [(.i .l (.build [.nils] [(0, 1)] [])), (.i .l (.mv (.v 5))), (.i .l (.nilc (.l 0))), (.i .l (.fad 3 (.l 0))), (.i .l (.load true 2 (.l 0))), (.i .n (.store 1 (.v 1) (.l 4))), (.ck [⟨none, true, 2, (.l 1), (.l 0)⟩]), (.i .n (.store 2 (.v 2) (.l 0)))]), .ret] []), (.ops [(.i .l (.load true 1 (.v 6))), (.i .l (.call (.c (.fn 20 [] [])) [(.l 0)])), (.i (.v 7) (.alloc [(.int .i64 0), (.int .i64 0)])), (.i .n (.store 2 (.v 7) (.l 0)))]), (.ops [(.i .l (.fad 0 (.v 7))), (.i .l (.load false 1 (.l 0))), (.i (.v 11) (.bin (.int .i64) .neq (.l 0) (.c (.int .i64 0))))]), (.cond (.v 11) [(.ops [(.i .l (.build [.nils] [(0, 1)] [])), (.i .l (.load true 2 (.v 7))), (.i .n (.store 1 (.v 1) (.l 1))), (.ck [⟨none, true, 2, (.v 7), (.l 0)⟩]), (.i .n (.store 2 (.v 2) (.l 0)))]), .ret] []), (.ops [(.i .l (.load true 1 (.v 6))), (.i .l (.build [(.int .i64 0), (.int .i64 0)] [(0, 1), (1, 1)] [])), (.i .n (.store 1 (.v 1) (.l 1))), (.i .n (.store 2 (.v 2) (.l 0)))]), .ret]
theorem fn_rParse : FnR Tryd.prog po 14 1 12 [0, 2, 3, 4, 5, 6, 7, 8, 16, 34, 46, 56] rc_rParse [(.cell true 1 1), (.cell true 2 2)] true := ⟨_, _, Tryd.func14, rfl, rfl, by kernel_rfl, by kernel_rfl, by kernel_rfl, by kernel_rfl, by kernel_rfl⟩
def rc_parseBegun : List RS := [(.ops [(.i (.v 0) (.mv (.c (.bool false))))]), (.ops [(.i .l (.call (.c (.fn 13 [] [])) [(.c (.str [102, 117, 110, 32, 40, 98, 105, 110, 32, 97, 100, 100, 32, 40, 110, 117, 109, 32, 49, 41, 32, 40, 97, 114, 103, 41, 41]))])), (.i .l (.mv (.l 0))), (.i .l (.ext (.l 0) 0)), (.i .l (.ext (.l 1) 1)), (.i (.v 1) (.alloc [.nils])), (.i (.v 2) (.alloc [(.int .i64 0), (.int .i64 0)])), (.i .n (.store 1 (.v 1) (.l 1))), (.i .n (.store 2 (.v 2) (.l 0)))]), (.ops [(.i .l (.fad 0 (.v 2))), (.i .l (.load false 1 (.l 0))), (.i .l (.bin (.int .i64) .eql (.l 0) (.c (.int .i64 0)))), (.i .l (.mv (.l 0))), (.g (.l 0) true .l (.fad 0 (.v 1))), (.g (.l 1) true .l (.load false 1 (.l 0))), (.g (.l 2) true .l (.len false (some 56) (.l 0))), (.g (.l 3) true .l (.bin (.int .i64) .eql (.l 0) (.c (.int .i64 1)))), (.i .l (.pick (.l 4) (.l 0) (.c (.bool false)))), (.i .l (.mv (.l 0))), (.g (.l 0) true .l (.fad 0 (.v 1))), (.g (.l 1) true .l (.load false 1 (.l 0))), (.g (.l 2) true .l (.ixa (some 56) none (.l 0) (.c (.int .i64 0)))), (.g (.l 3) true .l (.fad 0 (.l 0))), (.g (.l 4) true .l (.load false 1 (.l 0))), (.g (.l 5) true .l (.bin (.int .i64) .eql (.l 0) (.c (.int .i64 6)))), (.i .l (.pick (.l 6) (.l 0) (.c (.bool false)))), (.i .l (.mv (.l 0))), (.g (.l 0) true .l (.fad 0 (.v 1))), (.g (.l 1) true .l (.load false 1 (.l 0))), (.g (.l 2) true .l (.ixa (some 56) none (.l 0) (.c (.int .i64 0)))), (.g (.l 3) true .l (.fad 1 (.l 0))), (.g (.l 4) true .l (.load false 1 (.l 0))), (.g (.l 5) true .l (.bin (.int .i64) .eql (.l 0) (.c (.int .i64 1)))), (.i .l (.pick (.l 6) (.l 0) (.c (.bool false)))), (.i .l (.mv (.l 0))), (.g (.l 0) true .l (.fad 0 (.v 1))), (.g (.l 1) true .l (.load false 1 (.l 0))), (.g (.l 2) true .l (.ixa (some 56) none (.l 0) (.c (.int .i64 0)))), (.g (.l 3) true .l (.fad 3 (.l 0))), (.g (.l 4) true .l (.load false 1 (.l 0))), (.g (.l 5) true .l (.len false (some 56) (.l 0))), (.g (.l 6) true .l (.bin (.int .i64) .eql (.l 0) (.c (.int .i64 2)))), (.i .l (.pick (.l 7) (.l 0) (.c (.bool false)))), (.i .l (.mv (.l 0))), (.g (.l 0) true .l (.call (.c (.fn 16 [] [])) [(.c (.int .i64 21))])), (.g (.l 1) true .l (.bin .str .eql (.l 0) (.c (.str [107, 101, 112, 116])))), (.i .l (.pick (.l 2) (.l 0) (.c (.bool false)))), (.i .l (.mv (.l 0))), (.g (.l 0) true .l (.call (.c (.fn 18 [] [])) [(.c (.int .i64 0))])), (.g (.l 1) true .l (.bin .str .eql (.l 0) (.c (.str [])))), (.i .l (.pick (.l 2) (.l 0) (.c (.bool false)))), (.i (.v 0) (.mv (.l 0)))]), .ret]
theorem fn_parseBegun : FnR Tryd.prog po 12 0 3 [0, 1, 2] rc_parseBegun [(.v 0)] true := ⟨_, _, Tryd.func12, rfl, rfl, by kernel_rfl, by kernel_rfl, by kernel_rfl, by kernel_rfl, by kernel_rfl⟩
def rc_ParseReads : List RS := [(.ops [(.i (.v 2) (.mv (.c (.bool false))))]), (.ops [(.i .l (.call (.c (.fn 12 [] [])) [])), (.i (.v 7) (.un .not (.l 0)))]), (.cond (.v 7) [(.ops [(.i (.v 2) (.mv (.c (.bool false))))]), .ret] []), (.ops [(.i .l (.mv (.v 0))), (.i .l (.len true none (.l 0))), (.i (.v 8) (.bin (.int .i64) .gtr (.l 0) (.c (.int .i64 9000))))]), (.cond (.v 8) [(.ops [(.i (.v 2) (.mv (.c (.bool true))))]), .ret] []), (.ops [(.i .l (.mv (.v 0))), (.i .l (.call (.c (.fn 13 [] [])) [(.l 0)])), (.i .l (.mv (.l 0))), (.i .l (.ext (.l 0) 0)), (.i .l (.ext (.l 1) 1)), (.i (.v 3) (.alloc [.nils])), (.i (.v 4) (.alloc [(.int .i64 0), (.int .i64 0)])), (.i .n (.store 1 (.v 3) (.l 1))), (.i .n (.store 2 (.v 4) (.l 0)))]), (.ops [(.i .l (.mv (.v 0))), (.i .l (.call (.c (.fn 14 [] [])) [(.l 0)])), (.i .l (.mv (.l 0))), (.i .l (.ext (.l 0) 0)), (.i .l (.ext (.l 1) 1)), (.i (.v 5) (.alloc [.nils])), (.i (.v 6) (.alloc [(.int .i64 0), (.int .i64 0)])), (.i .n (.store 1 (.v 5) (.l 1))), (.i .n (.store 2 (.v 6) (.l 0)))]), (.ops [(.i .l (.load true 2 (.v 4))), (.i .l (.load true 2 (.v 6))), (.i .l (.binG .agg (some [(.int .i64), (.int .i64)]) false .eql (.l 1) (.l 0))), (.i .l (.mv (.l 0))), (.g (.l 0) true .l (.load true 1 (.v 3))), (.g (.l 1) true .l (.load true 1 (.v 5))), (.g (.l 2) true .l (.call (.c (.fn 15 [] [])) [(.l 1), (.l 0)])), (.i .l (.pick (.l 3) (.l 0) (.c (.bool false)))), (.i .l (.mv (.l 0))), (.g (.l 0) true .l (.mv (.v 1))), (.g (.l 1) true .l (.call (.c (.fn 16 [] [])) [(.l 0)])), (.g (.l 2) true .l (.mv (.v 1))), (.g (.l 3) true .l (.call (.c (.fn 17 [] [])) [(.l 0)])), (.g (.l 4) true .l (.bin .str .eql (.l 2) (.l 0))), (.i .l (.pick (.l 5) (.l 0) (.c (.bool false)))), (.i .l (.mv (.l 0))), (.g (.l 0) true .l (.mv (.v 1))), (.g (.l 1) true .l (.call (.c (.fn 18 [] [])) [(.l 0)])), (.g (.l 2) true .l (.mv (.v 1))), (.g (.l 3) true .l (.call (.c (.fn 19 [] [])) [(.l 0)])), (.g (.l 4) true .l (.bin .str .eql (.l 2) (.l 0))), (.i .l (.pick (.l 5) (.l 0) (.c (.bool false)))), (.i (.v 2) (.mv (.l 0)))]), .ret]
theorem fn_ParseReads : FnR Tryd.prog po 5 2 9 [0, 1, 4, 5, 6, 7, 8, 10, 13] rc_ParseReads [(.v 2)] true := ⟨_, _, Tryd.func5, rfl, rfl, by kernel_rfl, by kernel_rfl, by kernel_rfl, by kernel_rfl, by kernel_rfl⟩
def rc_ParseJoins : List RS := [(.ops [(.i (.v 2) (.mv (.c (.bool false))))]), (.ops [(.i .l (.call (.c (.fn 12 [] [])) [])), (.i (.v 11) (.un .not (.l 0)))]), (.cond (.v 11) [(.ops [(.i (.v 2) (.mv (.c (.bool false))))]), .ret] []), (.ops [(.i .l (.mv (.v 0))), (.i .l (.len true none (.l 0))), (.i .l (.mv (.v 1))), (.i .l (.len true none (.l 0))), (.i .l (.bin (.int .i64) .add (.l 2) (.l 0))), (.i (.v 12) (.bin (.int .i64) .gtr (.l 0) (.c (.int .i64 5900))))]), (.cond (.v 12) [(.ops [(.i (.v 2) (.mv (.c (.bool true))))]), .ret] []), (.ops [(.i .l (.mv (.v 0))), (.i .l (.call (.c (.fn 13 [] [])) [(.l 0)])), (.i .l (.mv (.l 0))), (.i .l (.ext (.l 0) 0)), (.i .l (.ext (.l 1) 1)), (.i (.v 3) (.alloc [.nils])), (.i (.v 4) (.alloc [(.int .i64 0), (.int .i64 0)])), (.i .n (.store 1 (.v 3) (.l 1))), (.i .n (.store 2 (.v 4) (.l 0)))]), (.ops [(.i .l (.mv (.v 1))), (.i .l (.call (.c (.fn 13 [] [])) [(.l 0)])), (.i .l (.mv (.l 0))), (.i .l (.ext (.l 0) 0)), (.i .l (.ext (.l 1) 1)), (.i (.v 5) (.alloc [.nils])), (.i (.v 6) (.alloc [(.int .i64 0), (.int .i64 0)])), (.i .n (.store 1 (.v 5) (.l 1))), (.i .n (.store 2 (.v 6) (.l 0)))]), (.ops [(.i .l (.fad 0 (.v 4))), (.i .l (.load false 1 (.l 0))), (.i .l (.bin (.int .i64) .neq (.l 0) (.c (.int .i64 0)))), (.i .l (.mv (.l 0))), (.g (.l 0) false .l (.fad 0 (.v 6))), (.g (.l 1) false .l (.load false 1 (.l 0))), (.g (.l 2) false .l (.bin (.int .i64) .neq (.l 0) (.c (.int .i64 0)))), (.i (.v 13) (.pick (.l 3) (.c (.bool true)) (.l 0)))]), (.cond (.v 13) [(.ops [(.i (.v 2) (.mv (.c (.bool true))))]), .ret] []), (.ops [(.i .l (.mv (.v 0))), (.i .l (.bin .str .add (.l 0) (.c (.str [10])))), (.i .l (.mv (.v 1))), (.i .l (.bin .str .add (.l 1) (.l 0))), (.i .l (.call (.c (.fn 13 [] [])) [(.l 0)])), (.i .l (.mv (.l 0))), (.i .l (.ext (.l 0) 0)), (.i .l (.ext (.l 1) 1)), (.i (.v 7) (.alloc [.nils])), (.i (.v 8) (.alloc [(.int .i64 0), (.int .i64 0)])), (.i .n (.store 1 (.v 7) (.l 1))), (.i .n (.store 2 (.v 8) (.l 0)))]), (.ops [(.i (.v 9) (.alloc [.nils]))]), (.ops [(.i .l (.fad 0 (.v 9))), (.i .l (.load false 1 (.l 0))), (.i .l (.fad 0 (.v 3))), (.i .l (.load false 1 (.l 0))), (.i .l (.fad 0 (.v 5))), (.i .l (.load false 1 (.l 0))), (.i .l (.app false 56 (.l 4) (.l 2))), (.ck [⟨none, false, 1, (.l 2), (.l 1)⟩]), (.i .l (.app false 56 (.l 0) (.l 1))), (.i .l (.fad 0 (.v 9))), (.i .n (.store 1 (.l 0) (.l 1)))]), (.ops [(.i .l (.load true 1 (.v 9))), (.i .l (.call (.c (.fn 20 [] [])) [(.l 0)])), (.i (.v 10) (.alloc [(.int .i64 0), (.int .i64 0)])), (.i .n (.store 2 (.v 10) (.l 0)))]), (.ops [(.i .l (.load true 2 (.v 8))), (.i .l (.load true 2 (.v 10))), (.i .l (.binG .agg (some [(.int .i64), (.int .i64)]) false .eql (.l 1) (.l 0))), (.i .l (.mv (.l 0))), (.g (.l 0) true .l (.fad 0 (.v 10))), (.g (.l 1) true .l (.load false 1 (.l 0))), (.g (.l 2) true .l (.bin (.int .i64) .neq (.l 0) (.c (.int .i64 0)))), (.g (.l 3) true .l (.mv (.l 0))), (.g (.l 0) false .l (.load true 1 (.v 7))), (.g (.l 1) false .l (.load true 1 (.v 9))), (.g (.l 2) false .l (.call (.c (.fn 15 [] [])) [(.l 1), (.l 0)])), (.g (.l 7) true .l (.pick (.l 3) (.c (.bool true)) (.l 0))), (.i .l (.pick (.l 8) (.l 0) (.c (.bool false)))), (.i (.v 2) (.mv (.l 0)))]), .ret]
theorem fn_ParseJoins : FnR Tryd.prog po 6 2 14 [0, 1, 4, 5, 6, 7, 8, 9, 10, 11, 12, 14, 20, 38] rc_ParseJoins [(.v 2)] true := ⟨_, _, Tryd.func6, rfl, rfl, by kernel_rfl, by kernel_rfl, by kernel_rfl, by kernel_rfl, by kernel_rfl⟩
def rc_ParseBlanks_b1 : List RS := [(.ops [(.i .l (.mv (.v 7))), (.i .l (.mv (.v 4))), (.i .l (.len false (some 33) (.l 0))), (.i (.v 15) (.bin (.int .i64) .lss (.l 2) (.l 0)))]), (.cond (.v 15) [] [(.exit 0)]), (.block 1 [(.ops [(.i .l (.mv (.v 5))), (.i .l (.mv (.v 4))), (.i .l (.mv (.v 7))), (.i .l (.ixa (some 33) none (.l 1) (.l 0))), (.i .l (.fad 1 (.l 0))), (.i .l (.load false 1 (.l 0))), (.i .l (.bin .str .add (.l 0) (.c (.str [32, 10])))), (.i .l (.bin .str .add (.l 6) (.l 0))), (.i (.v 5) (.mv (.l 0)))]), (.ops [(.i .l (.mv (.v 6))), (.i .l (.mv (.v 4))), (.i .l (.mv (.v 7))), (.i .l (.ixa (some 33) none (.l 1) (.l 0))), (.i .l (.fad 1 (.l 0))), (.i .l (.load false 1 (.l 0))), (.i .l (.bin .str .add (.l 0) (.c (.str [13])))), (.i .l (.bin .str .add (.l 6) (.l 0))), (.i (.v 6) (.mv (.l 0)))])]), (.ops [(.i .l (.mv (.v 7))), (.i .l (.bin (.int .i64) .add (.l 0) (.c (.int .i64 1)))), (.i (.v 7) (.mv (.l 0)))])]
def rc_ParseBlanks : List RS := [(.ops [(.i (.v 1) (.mv (.c (.bool false))))]), (.ops [(.i .l (.call (.c (.fn 12 [] [])) [])), (.i (.v 12) (.un .not (.l 0)))]), (.cond (.v 12) [(.ops [(.i (.v 1) (.mv (.c (.bool false))))]), .ret] []), (.ops [(.i .l (.mv (.v 0))), (.i .l (.len true none (.l 0))), (.i (.v 13) (.bin (.int .i64) .gtr (.l 0) (.c (.int .i64 1900))))]), (.cond (.v 13) [(.ops [(.i (.v 1) (.mv (.c (.bool true))))]), .ret] []), (.ops [(.i .l (.mv (.v 0))), (.i .l (.call (.c (.fn 13 [] [])) [(.l 0)])), (.i .l (.mv (.l 0))), (.i .l (.ext (.l 0) 0)), (.i .l (.ext (.l 1) 1)), (.i (.v 2) (.alloc [.nils])), (.i (.v 3) (.alloc [(.int .i64 0), (.int .i64 0)])), (.i .n (.store 1 (.v 2) (.l 1))), (.i .n (.store 2 (.v 3) (.l 0)))]), (.ops [(.i .l (.fad 0 (.v 3))), (.i .l (.load false 1 (.l 0))), (.i (.v 14) (.bin (.int .i64) .neq (.l 0) (.c (.int .i64 0))))]), (.cond (.v 14) [(.ops [(.i .l (.fad 0 (.v 2))), (.i .l (.load false 1 (.l 0))), (.i .l (.len false (some 56) (.l 0))), (.i .l (.bin (.int .i64) .eql (.l 0) (.c (.int .i64 0)))), (.i (.v 1) (.mv (.l 0)))]), .ret] []), (.ops [(.i .l (.mv (.v 0))), (.i .l (.call (.c (.fn 11 [] [])) [(.l 0)])), (.i .l (.mv (.l 0))), (.i .l (.ext (.l 0) 0)), (.i .l (.ext (.l 1) 1)), (.i .l (.alloc [(.int .i64 0), (.int .i64 0)])), (.i (.v 4) (.mv (.l 2))), (.i .n (.store 2 (.l 0) (.l 1)))]), (.ops [(.i (.v 5) (.mv (.c (.str [9])))), (.i (.v 6) (.mv (.c (.str []))))]), (.ops [(.i (.v 7) (.mv (.c (.int .i64 0))))]), (.block 0 [(.loop rc_ParseBlanks_b1)]), (.ops [(.i .l (.mv (.v 5))), (.i .l (.call (.c (.fn 13 [] [])) [(.l 0)])), (.i .l (.mv (.l 0))), (.i .l (.ext (.l 0) 0)), (.i .l (.ext (.l 1) 1)), (.i (.v 8) (.alloc [.nils])), (.i (.v 9) (.alloc [(.int .i64 0), (.int .i64 0)])), (.i .n (.store 1 (.v 8) (.l 1))), (.i .n (.store 2 (.v 9) (.l 0)))]), (.ops [(.i .l (.mv (.v 6))), (.i .l (.call (.c (.fn 13 [] [])) [(.l 0)])), (.i .l (.mv (.l 0))), (.i .l (.ext (.l 0) 0)), (.i .l (.ext (.l 1) 1)), (.i (.v 10) (.alloc [.nils])), (.i (.v 11) (.alloc [(.int .i64 0), (.int .i64 0)])), (.i .n (.store 1 (.v 10) (.l 1))), (.i .n (.store 2 (.v 11) (.l 0)))]), (.ops [(.i .l (.fad 0 (.v 9))), (.i .l (.load false 1 (.l 0))), (.i .l (.bin (.int .i64) .eql (.l 0) (.c (.int .i64 0)))), (.i .l (.mv (.l 0))), (.g (.l 0) true .l (.fad 0 (.v 11))), (.g (.l 1) true .l (.load false 1 (.l 0))), (.g (.l 2) true .l (.bin (.int .i64) .eql (.l 0) (.c (.int .i64 0)))), (.i .l (.pick (.l 3) (.l 0) (.c (.bool false)))), (.i .l (.mv (.l 0))), (.g (.l 0) true .l (.load true 1 (.v 2))), (.g (.l 1) true .l (.load true 1 (.v 8))), (.g (.l 2) true .l (.call (.c (.fn 15 [] [])) [(.l 1), (.l 0)])), (.i .l (.pick (.l 3) (.l 0) (.c (.bool false)))), (.i .l (.mv (.l 0))), (.g (.l 0) true .l (.load true 1 (.v 2))), (.g (.l 1) true .l (.load true 1 (.v 10))), (.g (.l 2) true .l (.call (.c (.fn 15 [] [])) [(.l 1), (.l 0)])), (.i .l (.pick (.l 3) (.l 0) (.c (.bool false)))), (.i (.v 1) (.mv (.l 0)))]), .ret]
theorem fn_ParseBlanks : FnR Tryd.prog po 7 1 16 [0, 2, 3, 4, 5, 7, 8, 9, 10, 11, 12, 13, 15, 18, 26, 39] rc_ParseBlanks [(.v 1)] true := ⟨_, _, Tryd.func7, rfl, rfl, by kernel_rfl, by kernel_rfl, by kernel_rfl, by kernel_rfl, by kernel_rfl⟩
end Go.Proofs.YtngphebjmmencaaDoor
