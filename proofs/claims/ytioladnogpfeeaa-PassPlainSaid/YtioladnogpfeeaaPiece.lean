/- A piece of a function's code in the plain model, behind which the walk goes on by hand. -/
import Derived.Test.YtioladnogpfeeaaPolK
import Derived.Test.YtioladnogpfeeaaSimLib
import Derived.Recover
namespace Go.Proofs.Ytioladnogpfeeaa
set_option linter.unusedSimpArgs false
set_option linter.unusedVariables false
open Go

def cL : Code → Code
  | .seq a _ => a
  | c => c
def cR : Code → Code
  | .seq _ b => b
  | c => c
def opsOf : Code → Array Oper
  | .region _ ops _ => ops
  | _ => #[]

section
variable {P : Program} {po : Pol} {f : FuncId} {n nv : Nat} {vm : List Nat} {h h' : AH} {t V V' : List AV}
theorem okVm_use {a : Nat} (h7 : okVm a n (po.nv f) nv vm = true) : vm.Nodup ∧ ∀ j s, vm[j]? = some s → (j < nv ↔ s < po.nv f) := by
  unfold okVm at h7
  simp only [Bool.and_eq_true, decide_eq_true_eq, List.all_eq_true, List.mem_range, beq_iff_eq, bne_iff_ne, ne_eq] at h7
  obtain ⟨⟨a1, a2⟩, a3⟩ := h7
  have get : ∀ j s, vm[j]? = some s → j < vm.length ∧ vm.getD j 0 = s := fun j s hj => ⟨(List.getElem?_eq_some_iff.1 hj).1, by simp [List.getD, hj]⟩
  refine ⟨?_, fun j s hj => ?_⟩
  · rw [List.nodup_iff_pairwise_ne, List.pairwise_iff_getElem]
    intro i j hi hj hij e
    have := (a3 j hj).2 i hij
    apply this
    simp [List.getD, hi, hj, e]
  · obtain ⟨g1, g2⟩ := get j s hj
    have := (a3 j g1).1.1.2
    rw [g2] at this
    exact decide_eq_decide.1 this
theorem piece (pok : POK P po) {c : Code} {l : List RS} {K : List Item} {x : AEx} (hvm : vm.Nodup ∧ ∀ j s, vm[j]? = some s → (j < nv ↔ s < po.nv f)) (htr : trCode P (po.mu f) (po.plan f) n vm c [] = some l) (hrg : regOK (po.plan f) c = true)
    (hr : runR (runF P po) nv [.ss l, .halt K] V [] h = some (x, V', h')) (rv : RV n vm [] t V []) :
    ∃ t', (∀ (m : Mm) (w : World) (a : Act) (b : Frame) (cs : List Frame), WR P m h w → TR P m h t a.tmps → a.defers = b.defers → OutR P m h w b cs (lone (b.at a (.code c :: K)) cs w) (x, t', h')) ∧ ((∀ v, x ≠ .panic v) → RV n vm [] t' V' []) := by
  obtain ⟨t', e, rv'⟩ := (runR_mot (n := n) (f := f) hvm.1 hvm.2 _ _ _ _ _ hr).1 [.code c, .halt K] t (.ss [c] l [.halt K] [.halt K] (by simp [trL, htr]) (.halt K [] [])) rv
  refine ⟨t', fun m w a b cs hw ht hd => ?_, rv'⟩
  exact (runK_motive pok f _ t h _ e).good (.code c :: K) (.code c _ _ hrg (.halt K [])) b cs m w a hw ht hd
theorem enter_at {g : FuncId} {fn : Func} {c : Code} (hf : P.funcs[g]? = some fn) (hb : fn.body = some c) (vs : List Value) (kd : CallKind) :
    (Frame.enter P g vs.toArray kd).at { tmps := (vs ++ List.replicate (fn.ntmps - vs.length) undef).toArray, defers := [] } [.code c] = Frame.enter P g vs.toArray kd := by
  simp [Frame.enter, Frame.at, hf, hb]
theorem enter_tr {m : Mm} {k : Nat} {args : List AV} {vs : List Value} (hv : VRs P m h args vs) :
    TR P m h (args ++ List.replicate (k - args.length) .junk) (vs ++ List.replicate (k - vs.length) undef).toArray := by
  have hl := hv.1
  have h2 : VRs P m h (args ++ List.replicate (k - args.length) .junk) (vs ++ List.replicate (k - vs.length) undef) := by
    rw [hl]
    exact VRs.append hv ⟨by simp, fun j hj hj' => by simp only [List.getElem_replicate]; exact .junk _⟩
  refine ⟨by simpa using h2.1, fun i hi => ?_⟩
  have hi2 : i < (vs ++ List.replicate (k - vs.length) undef).length := by rw [h2.1]; exact hi
  have := h2.2 i hi hi2
  simp only [Array.getD_eq_getD_getElem?, List.getElem?_toArray, List.getElem?_eq_getElem hi2, Option.getD_some]
  exact this
theorem tr_at {m : Mm} {ts : Array Value} (ht : TR P m h t ts) {i : Nat} (hi : i < t.length) : VR P m h (t.getD i .junk) (ts.getD i undef) := by
  have := ht.2 i hi
  simpa [List.getD, hi] using this
end
end Go.Proofs.Ytioladnogpfeeaa
