/- What the library's ParseInt does, in the plain model: a decimal text's number, or that there is none. -/
import Derived.Test.YtngphebjmmencaaDoorExtS
import Derived.Lib.ParseIntBTie
import Derived.Lib.AtoiErrMem
namespace Go.Proofs.YtngphebjmmencaaDoor
set_option linter.unusedSimpArgs false
set_option linter.unusedVariables false
open Go Go.Proofs Go.RowKit

theorem errs_eq : errsA Tryd.prog = ["strconv.ErrSyntax", "strconv.ErrRange"] := by kernel_rfl
theorem num_error : ren.t 168 = 112 := rfl
/-- a call that leaves what the model speaks of as it was, and hands back some value -/
theorem ac_some {P : Program} {g : FuncId} {args : List AV} {h : AH} {v : AV} (k : ∀ (m : Mm) (w : World) (vs : List Value), WR P m h w → VRs P m h args vs → Calls P g vs.toArray w fun e w' => ∃ u, e = .returned u ∧ VR P m h v u ∧ New w w') : AC P g args h (.inl v, h) := by
  intro m w vs hw hv
  refine (k m w vs hw hv).mono fun e w' ⟨u, he, hu, ho⟩ => ⟨m, Ext.refl m h, hw.new ho, Only.below ho (fun _ h => h.elim) hw.size, u, he, hu⟩
theorem vrs_three {P : Program} {m : Mm} {h : AH} {a b c : AV} {vs : List Value} (hv : VRs P m h [a, b, c] vs) : ∃ u v x, vs = [u, v, x] ∧ VR P m h a u ∧ VR P m h b v ∧ VR P m h c x := by
  obtain ⟨h1, h2⟩ := hv
  match vs, h1 with
  | [u, v, x], _ => exact ⟨u, v, x, rfl, h2 0 (by simp) (by simp), h2 1 (by simp) (by simp), h2 2 (by simp) (by simp)⟩
theorem vr_pair {P : Program} {m : Mm} {h : AH} {a b : AV} {u v : Value} (h1 : VR P m h a u) (h2 : VR P m h b v) : VR P m h (.tup [a, b]) (.tuple #[u, v]) := by
  refine VR.tup [a, b] [u, v] rfl fun j hj hj' => ?_
  match j, hj with
  | 0, _ => exact h1
  | 1, _ => exact h2
theorem pintOK (s : ByteArray) (hs : s.size ≤ 1000000000) (w : World) (n : Int) (hp : Lib.parseIntB 64 s.data.toList = .ok n) :
    Calls Tryd.prog 49 #[.string s, .int .i64 10, .int .i64 64] w fun e w' => e = .returned (.tuple #[.int .i64 n, .nilIface]) ∧ New w w' := by
  refine (Any.strconv_ParseInt_10_at64_ok laysC174 s (by omega) n hp w).mono fun e w' ⟨he, hw⟩ => ⟨he, ?_⟩
  rcases hw with rfl | ⟨t, rfl⟩
  · exact Only.refl _ _
  · exact New.of_below (Lib.bytesWorld_below _ _ _)
theorem pintNo (s : ByteArray) (hs : s.size ≤ 1000000000) (w : World) (he1 : ∃ tp p, w.var? Tryd.prog "strconv.ErrSyntax" = some #[.iface tp p]) (he2 : ∃ tp p, w.var? Tryd.prog "strconv.ErrRange" = some #[.iface tp p]) (hp : ∀ n, Lib.parseIntB 64 s.data.toList ≠ .ok n) :
    Calls Tryd.prog 49 #[.string s, .int .i64 10, .int .i64 64] w fun e w' => ∃ u v, e = .returned (.tuple #[u, .iface 112 v]) ∧ New w w' := by
  obtain ⟨t1, p1, e1⟩ := he1
  obtain ⟨t2, p2, e2⟩ := he2
  rcases hq : Lib.parseIntB 64 s.data.toList with n | _ | _
  · exact absurd hq (hp n)
  · refine (Any.strconv_ParseInt_10_at64_syntax_var laysC174 s (by omega) hq t1 p1 w e1).mono fun e w' ⟨N, he, _, _, hb⟩ => ?_
    exact ⟨_, _, he, New.of_below hb⟩
  · refine (Any.strconv_ParseInt_10_at64_range_var laysC174 s (by omega) hq t2 p2 w e2).mono fun e w' ⟨N, he, _, _, hb⟩ => ?_
    exact ⟨_, _, he, New.of_below hb⟩

set_option maxRecDepth 100000 in
theorem pint_ac {args : List AV} {h : AH} {r : (AV ⊕ AV) × AH} (hr : pintF args h = some r) : AC Tryd.prog 49 args h r := by
  unfold pintF at hr
  split at hr
  · rename_i s b z
    split at hr
    · rename_i hh
      obtain ⟨rfl, rfl, hl⟩ := hh
      injection hr with hr
      subst hr
      refine ac_some fun m w vs hw hv => ?_
      obtain ⟨u, v, x, rfl, hu, hb, hz⟩ := vrs_three hv
      have hg := hw.good.errs
      rw [errs_eq] at hg
      have g1 := (hg "strconv.ErrSyntax" (by simp)).1
      have g2 := (hg "strconv.ErrRange" (by simp)).1
      cases hu
      cases hb
      cases hz
      have hsz : (ByteArray.mk s.toArray).size ≤ 1000000000 := by
        show s.toArray.size ≤ _
        simpa using hl
      rcases hq : Lib.parseIntB 64 s with n | _ | _
      · refine (pintOK ⟨s.toArray⟩ hsz w n (by simpa using hq)).mono fun e w' ⟨he, ho⟩ => ⟨_, he, vr_pair (.int _ _) .nili, ho⟩
      · refine (pintNo ⟨s.toArray⟩ hsz w g1 g2 (by intro n hn; simp [hq] at hn)).mono fun e w' ⟨u, v, he, ho⟩ => ⟨_, he, vr_pair (.junk _) (.iface _ _ _ (.junk _)), ho⟩
      · refine (pintNo ⟨s.toArray⟩ hsz w g1 g2 (by intro n hn; simp [hq] at hn)).mono fun e w' ⟨u, v, he, ho⟩ => ⟨_, he, vr_pair (.junk _) (.iface _ _ _ (.junk _)), ho⟩
    · cases hr
  · cases hr
end Go.Proofs.YtngphebjmmencaaDoor
