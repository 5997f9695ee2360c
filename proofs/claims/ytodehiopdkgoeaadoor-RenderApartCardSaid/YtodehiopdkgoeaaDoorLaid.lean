/- From the row's condition on the library's tables to what the plain model asks of a world; a world that meets it. -/
import Derived.Test.YtodehiopdkgoeaaDoorLawS
import Derived.Test.YtodehiopdkgoeaaDoorExtS
import Derived.LaidSub
import Derived.Lay
namespace Go.Proofs.YtodehiopdkgoeaaDoor
set_option linter.unusedSimpArgs false
set_option linter.unusedVariables false
open Go Go.RowKit

theorem pow_type : ((Tryd.prog).globals[(0 : Nat)]?).map (·.type) = some 117 := by kernel_rfl
theorem pow_named : (Tryd.prog).globalNamed ("internal" ++ String.singleton (Char.ofNat 47) ++ "strconv.uint64pow10") = some 0 := by kernel_rfl
theorem laid_plain {P : Program} {laid : List (String × DataW Unit)} {w : World} (h : (laid.all fun x => x.2.handleName?.isNone) = true) : laidMetH P laid w = laidMet P laid w := by
  have e : (laid.filter fun x => x.2.handleName?.isSome) = [] := by
    rw [List.filter_eq_nil_iff]
    intro x hx hs
    have := List.all_eq_true.1 h x hx
    cases hn : x.2.handleName? with
    | none => rw [hn] at hs; cases hs
    | some s => rw [hn] at this; cases this
  unfold laidMetH
  rw [e]
theorem good_laid {laid : List (String × DataW Unit)} {W : World} (h : laidMetH Tryd.prog laid W) (hp : (laid.all fun x => x.2.handleName?.isNone) = true)
    (hf : (laid.filter fun x => x.1 == "internal" ++ String.singleton (Char.ofNat 47) ++ "strconv.uint64pow10") = [("internal" ++ String.singleton (Char.ofNat 47) ++ "strconv.uint64pow10", Lib.tabData .u64 Lib.pow10Tab)]) : GoodW Tryd.prog W.heap.size W := by
  rw [laid_plain hp] at h
  have h2 := h.filter fun x => x.1 == "internal" ++ String.singleton (Char.ofNat 47) ++ "strconv.uint64pow10"
  rw [hf] at h2
  intro q hq
  rw [kept_eq] at hq
  obtain rfl := List.mem_singleton.1 hq
  have ht := Lib.tabIs_of_head (rest := []) pow_named pow_type Tryd.underlying117 Tryd.underlying103 (by kernel_rfl) (by kernel_rfl) h2
  refine ⟨ht, fun g hg => ?_⟩
  simp only [Lib.TabIs, World.var?, hg, Option.bind_some] at ht
  have hs : (W.heap[g]?).isSome := by
    cases hh : W.heap[g]? with
    | none => rw [hh] at ht; simp at ht
    | some o => rfl
  obtain ⟨o, ho⟩ := Option.isSome_iff_exists.1 hs
  exact (Array.getElem?_eq_some_iff.1 ho).1
end Go.Proofs.YtodehiopdkgoeaaDoor
