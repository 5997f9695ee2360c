/- From the row's condition on the library's tables to what the plain model asks of a world; a world that meets it. -/
import Derived.Test.YtngphebjmmencaaDoorLawS
import Derived.Test.YtngphebjmmencaaDoorExtS
import Derived.LaidSub
import Derived.Lay
import Derived.Stop.LaidErr
import Derived.Test.YtngphebjmmencaaDoorExtP
namespace Go.Proofs.YtngphebjmmencaaDoor
set_option linter.unusedSimpArgs false
set_option linter.unusedVariables false
open Go Go.RowKit

theorem pow_type : ((Tryd.prog).globals[(2 : Nat)]?).map (·.type) = some 128 := by kernel_rfl
theorem pow_named : (Tryd.prog).globalNamed ("internal" ++ String.singleton (Char.ofNat 47) ++ "strconv.uint64pow10") = some 2 := by kernel_rfl
theorem laid_plain {P : Program} {laid : List (String × DataW Unit)} {w : World} (h : (laid.all fun x => x.2.handleName?.isNone) = true) : laidMetH P laid w = laidMet P laid w := by
  have e : (laid.filter fun x => x.2.handleName?.isSome) = [] := by
    rw [List.filter_eq_nil_iff]
    intro x hx hs
    have := List.all_eq_true.1 h x hx
    cases hn : x.2.handleName? with
    | none => rw [hn] at hs; cases hs
    | some s => rw [hn] at this; cases this
  unfold laidMetH
  rw [e]
/-- an error of the library's -/
def starN : String := String.singleton (Char.ofNat 42) ++ "errors.errorString"
def errD (text : List UInt8) : DataW Unit := .iface starN (.ptr (.agg [.lit (.string text)]))
def synB : List UInt8 := [105, 110, 118, 97, 108, 105, 100, 32, 115, 121, 110, 116, 97, 120]
def ranB : List UInt8 := [118, 97, 108, 117, 101, 32, 111, 117, 116, 32, 111, 102, 32, 114, 97, 110, 103, 101]
theorem star_eq : String.singleton (Char.ofNat 42) = "*" := by decide
theorem err_row (u : TypeId) (h : (Tryd.prog).typeName? 3 u = some starN) : u = 132 := by
  unfold starN at h
  rw [star_eq] at h
  exact typeName_ptr_named (nm := "errors.errorString") (by rw [← star_eq]; kernel_rfl) (by kernel_rfl) (by decide) u h
theorem lt_of_var {P : Program} {W : World} {n : String} {cs : Array Value} (h : W.var? P n = some cs) (g : Nat) (hg : P.globalNamed n = some g) : g < W.heap.size := by
  simp only [World.var?, hg, Option.bind_some] at h
  have hs : (W.heap[g]?).isSome := by
    cases hh : W.heap[g]? with
    | none => rw [hh] at h; simp at h
    | some o => rfl
  obtain ⟨o, ho⟩ := Option.isSome_iff_exists.1 hs
  exact (Array.getElem?_eq_some_iff.1 ho).1
theorem err_laid {n : String} {g : Nat} {text : List UInt8} {laid : List (String × DataW Unit)} {W : World} (h : laidMet Tryd.prog laid W) (hf : (laid.filter fun x => x.1 == n) = [(n, errD text)])
    (hn : (Tryd.prog).globalNamed n = some g) (ht : ((Tryd.prog).globals[g]?).map (·.type) = some 82) : (∃ tp p, W.var? Tryd.prog n = some #[.iface tp p]) ∧ ∀ k, (Tryd.prog).globalNamed n = some k → k < W.heap.size := by
  have h2 := h.filter fun x => x.1 == n
  rw [hf] at h2
  obtain ⟨a, s, hv, _⟩ := laid_sentinel h2 hn ht Tryd.underlying82 err_row Tryd.underlying132 Tryd.underlying134 rfl rfl Tryd.underlying9 (by kernel_rfl) (by kernel_rfl)
  exact ⟨⟨_, _, hv⟩, fun k hk => lt_of_var hv k hk⟩
theorem good_laid {laid : List (String × DataW Unit)} {W : World} (h : laidMetH Tryd.prog laid W) (hp : (laid.all fun x => x.2.handleName?.isNone) = true)
    (hf : (laid.filter fun x => x.1 == "internal" ++ String.singleton (Char.ofNat 47) ++ "strconv.uint64pow10") = [("internal" ++ String.singleton (Char.ofNat 47) ++ "strconv.uint64pow10", Lib.tabData .u64 Lib.pow10Tab)])
    (hs : (laid.filter fun x => x.1 == "strconv.ErrSyntax") = [("strconv.ErrSyntax", errD synB)]) (hr : (laid.filter fun x => x.1 == "strconv.ErrRange") = [("strconv.ErrRange", errD ranB)]) : GoodW Tryd.prog W.heap.size W := by
  rw [laid_plain hp] at h
  refine ⟨fun q hq => ?_, fun n hn => ?_⟩
  · have h2 := h.filter fun x => x.1 == "internal" ++ String.singleton (Char.ofNat 47) ++ "strconv.uint64pow10"
    rw [hf] at h2
    rw [kept_eq] at hq
    obtain rfl := List.mem_singleton.1 hq
    have ht := Lib.tabIs_of_head (rest := []) pow_named pow_type Tryd.underlying128 Tryd.underlying108 (by kernel_rfl) (by kernel_rfl) h2
    exact ⟨ht, fun g hg => lt_of_var ht g hg⟩
  · rw [errs_eq] at hn
    rcases List.mem_cons.1 hn with rfl | hn
    · exact err_laid h hs (g := 0) (by kernel_rfl) (by kernel_rfl)
    · obtain rfl := List.mem_singleton.1 hn
      exact err_laid h hr (g := 1) (by kernel_rfl) (by kernel_rfl)
end Go.Proofs.YtngphebjmmencaaDoor
