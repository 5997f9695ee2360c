/- The walks of the laws on rights: their beginning; RightsMeet. -/
import Derived.Test.YtacocolcighomaaRights2
namespace Go.Proofs.Ytacocolcighomaa
open Go.RowKit

set_option maxHeartbeats 1000000 in
theorem rightsBegun_any (w : World) : Calls Try.prog 23 #[] w fun e w' => e = .returned (.bool true) ∧ New w w' := by
  have hp : parseI [114, 112] = (5, true) := by decide +kernel
  have hp1 : (parseI [114, 112]).1 = 5 := by rw [hp]
  have hp2 : (parseI [114, 112]).2 = true := by rw [hp]
  have ht1 : textI 10 = [119, 97] := by decide +kernel
  have ht2 : textI 0 = [45] := by decide +kernel
  have h1 : hasI 7 5 = true := by decide +kernel
  have h2 : hasI 5 7 = false := by decide +kernel
  have h3 : meetI 6 3 = 2 := by decide +kernel
  have tok1 : True := trivial
  go_enter Try.func23, Try.ntmps23
  go_wp2_with (first
    | (go_at_call 27; go_must (refine (parse_any [114, 112] _ (by simp)).mono ?_; rintro e w' ⟨rfl, rfl⟩))
    | (go_at_call 30; have _t := tok1; refine (text_any _ _).mono ?_; rintro e w1 ⟨rfl, ho1⟩; clear tok1)
    | (go_at_call 30; refine (text_any _ _).mono ?_; rintro e w2 ⟨rfl, ho2⟩)
    | (go_at_call 25; refine (rhas_any _ _ _).mono ?_; rintro e w' ⟨rfl, rfl⟩)
    | (go_at_call 24; refine (rmeet_any _ _ _).mono ?_; rintro e w' ⟨rfl, rfl⟩))
  go_ret
  exact ⟨rfl, ho1.trans ho2⟩

set_option maxHeartbeats 1000000 in
theorem rightsMeet_walk (a b c : Int) (w : World) (ha : isI64 a) (hb : isI64 b) (hc : isI64 c) : Law Try.prog 5 #[.int .i64 a, .int .i64 b, .int .i64 c] w := by
  unfold Law
  have va := vec_of ha.1 ha.2
  have vb := vec_of hb.1 hb.2
  have vc := vec_of hc.1 hc.2
  have e1 := has_left va vb
  have e2 := has_right va vb
  have e3 := has_meet va vb vc
  have e4 := meet_comm vb va
  have e5 := meet_assoc va vb vc
  have e6 := meet_self va
  clear ha hb hc va vb vc
  cases h1 : hasI a c <;> cases h2 : hasI b c <;> rw [h1, h2] at e3 <;> simp only [Bool.and_true, Bool.and_false, Bool.true_and, Bool.false_and] at e3
  all_goals
    go_enter Try.func5, Try.ntmps5
    go_wp2_with (first
      | (go_at_call 23; go_must (refine (rightsBegun_any _).mono ?_; rintro e w1 ⟨rfl, ho1⟩))
      | (go_at_call 25; refine (rhas_any _ _ _).mono ?_; rintro e w' ⟨rfl, rfl⟩)
      | (go_at_call 24; refine (rmeet_any _ _ _).mono ?_; rintro e w' ⟨rfl, rfl⟩))
    go_ret
    exact ⟨rfl, ho1.below⟩

end Go.Proofs.Ytacocolcighomaa
