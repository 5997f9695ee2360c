/- What the library's FormatInt and Join do, in the plain model: a numeral; two texts with one sign between them. -/
import Derived.Test.YtngphebjmmencaaDoorShelf
import Derived.Test.YtngphebjmmencaaDoorPol
import Derived.Lib.Hide
import Derived.Test.YtngphebjmmencaaDoorSound17
namespace Go.Proofs.YtngphebjmmencaaDoor
set_option linter.unusedSimpArgs false
set_option linter.unusedVariables false
open Go Go.Proofs Go.RowKit

theorem below_growD (B : Nat) (w : World) (hB : B ≤ w.heap.size) (k : Nat) (os : Array Obj) : Below B w (Go.Sort.grow (w.drewN k) os) := by
  refine ⟨rfl, rfl, rfl, by simp [Go.Sort.grow, World.drewN], fun i hi => ?_⟩
  simp only [Go.Sort.grow, World.drewN]
  rw [Array.getElem?_append_left (by omega)]

theorem itoaC (n : Int) (h0 : -9223372036854775808 ≤ n) (h1 : n ≤ 9223372036854775807) (w : World) (htab : Lib.TabIs Tryd.prog w ("internal" ++ String.singleton (Char.ofNat 47) ++ "strconv.uint64pow10") .u64 Lib.pow10Tab) :
    Calls Tryd.prog 69 #[.int .i64 n, .int .i64 10] w fun e w' => e = .returned (.string ⟨(Lib.itoa n).toArray⟩) ∧ New w w' := by
  have := Any.internal_strconv_FormatInt_10 laysM246 n h0 h1 w htab
  refine this.mono fun e w' ⟨h1, k, os, h2⟩ => ⟨h1, ?_⟩
  subst h2
  exact New.of_below (below_growD _ _ (Nat.le_refl _) k os)

theorem fmtC (n : Int) (h0 : -9223372036854775808 ≤ n) (h1 : n ≤ 9223372036854775807) (w : World) (htab : Lib.TabIs Tryd.prog w ("internal" ++ String.singleton (Char.ofNat 47) ++ "strconv.uint64pow10") .u64 Lib.pow10Tab) :
    Calls Tryd.prog 50 #[.int .i64 n, .int .i64 10] w fun e w' => e = .returned (.string ⟨(Lib.itoa n).toArray⟩) ∧ New w w' := by
  go_enter Tryd.func50, Tryd.ntmps50
  go_wp2_with (go_at_call 69; go_must (refine (itoaC n h0 h1 _ htab).mono ?_; rintro e w' ⟨rfl, ho⟩))
  go_ret
  exact ⟨rfl, ho⟩

theorem kept_eq : keptA Tryd.prog = [("internal" ++ String.singleton (Char.ofNat 47) ++ "strconv.uint64pow10", .u64, Lib.pow10Tab)] := by
  unfold keptA
  rw [if_pos (by kernel_rfl)]
/-- a call that leaves what the model speaks of as it was, and hands back a value -/
theorem ac_new {P : Program} {g : FuncId} {args : List AV} {h : AH} {v : AV} (k : ∀ (m : Mm) (w : World) (vs : List Value), WR P m h w → VRs P m h args vs → ∃ u, VR P m h v u ∧ Calls P g vs.toArray w fun e w' => e = .returned u ∧ New w w') : AC P g args h (.inl v, h) := by
  intro m w vs hw hv
  obtain ⟨u, hu, hc⟩ := k m w vs hw hv
  refine hc.mono fun e w' ⟨he, ho⟩ => ⟨m, Ext.refl m h, hw.new ho, Only.below ho (fun _ h => h.elim) hw.size, u, he, hu⟩

theorem vrs_two {P : Program} {m : Mm} {h : AH} {a b : AV} {vs : List Value} (hv : VRs P m h [a, b] vs) : ∃ u v, vs = [u, v] ∧ VR P m h a u ∧ VR P m h b v := by
  obtain ⟨h1, h2⟩ := hv
  match vs, h1 with
  | [u, v], _ => exact ⟨u, v, rfl, h2 0 (by simp) (by simp), h2 1 (by simp) (by simp)⟩

set_option maxRecDepth 100000 in
theorem fmt_ac {args : List AV} {h : AH} {r : (AV ⊕ AV) × AH} (hr : fmtF args h = some r) : AC Tryd.prog 50 args h r := by
  unfold fmtF at hr
  split at hr
  · rename_i n b
    split at hr
    · rename_i hh
      obtain ⟨hb, h0, h1⟩ := hh
      subst hb
      injection hr with hr
      subst hr
      refine ac_new fun m w vs hw hv => ?_
      obtain ⟨u, v, rfl, hu, hz⟩ := vrs_two hv
      cases hu
      cases hz
      refine ⟨_, .str _, fmtC n h0 h1 w ?_⟩
      exact (hw.good.tabs _ (by rw [kept_eq]; exact List.mem_singleton.2 rfl)).1
    · cases hr
  · cases hr

end Go.Proofs.YtngphebjmmencaaDoor
