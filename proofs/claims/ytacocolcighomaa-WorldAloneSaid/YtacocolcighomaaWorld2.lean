/- Package world, further: Cells, Log; and the law's own beginning. -/
import Derived.Test.YtacocolcighomaaWorld
import Derived.Test.YtacocolcighomaaSame
namespace Go.Proofs.Ytacocolcighomaa
open Go.RowKit

theorem ints_one (k : IntKind) (zs : List Int) : ∀ u ∈ zs.map (Value.int k), u.oneCell' = true := ints_oneCell k zs

theorem cells_any (b base : Nat) (cs : List Int) (lv : Value) (m : Nat) (xs : List Value) (w : World) (hw : IsWorld w base b cs lv m xs) :
    Calls Try.prog 20 #[.pointer (some ⟨b, 0, none⟩)] w fun e w' => ∃ A' cap', e = .returned (.slice A' 12 cap') ∧ w'.ownsRow w.heap.size 2 1 (.slice A' 12 cap') 12 (cs.map (.int .i64)) ∧ New w w' := by
  have hr : Sl w 1 (some ⟨b, 0, none⟩) 12 12 (cs.map (.int .i64)) := Sl.of_blk hw.blk (Nat.le_refl _) (by simp [hw.len]) (fun j u hu => by
    simp at hu
    obtain ⟨z, hz, rfl⟩ := hu
    have hj := (List.getElem?_eq_some_iff.1 hz).1
    simp [wcells, List.getElem?_append, hj]
    exact (List.getElem?_eq_some_iff.1 hz).2)
  go_enter Try.func20, Try.ntmps20
  go_wp2_with (go_at_call 61; refine (cloneLongs _ 12 12 _ _ hr (ints_one _ _) (by omega)).mono ?_; rintro e w' ⟨A', cap', rfl, hown, ho⟩)
  go_ret
  exact ⟨_, _, rfl, hown, ho⟩

theorem log_any (b base : Nat) (cs : List Int) (lv : Value) (m : Nat) (xs : List Value) (w : World) (hw : IsWorld w base b cs lv m xs) (h1 : ∀ u ∈ xs, u.oneCell' = true) (hm : m ≤ 100000) :
    Calls Try.prog 22 #[.pointer (some ⟨b, 0, none⟩)] w fun e w' => ∃ A' cap', e = .returned (.slice A' m cap') ∧ w'.ownsRow w.heap.size 34 4 (.slice A' m cap') m xs ∧ New w w' := by
  obtain ⟨A, cap, rfl, hr⟩ := own_form hw.own
  have hc12 := (hw.blk.cell 12).trans (wcells_log hw.len _)
  go_enter Try.func22, Try.ntmps22
  go_wp2_with (go_at_call 62; refine (cloneEntries _ m cap _ _ hr h1 (by omega)).mono ?_; rintro e w' ⟨A', cap', rfl, hown, ho⟩)
  go_ret
  exact ⟨_, _, rfl, hown, ho⟩

set_option maxHeartbeats 800000 in
theorem worldBegun_any (w : World) :
    Calls Try.prog 14 #[] w fun e w' => e = .returned (.bool true) ∧ New w w' := by
  go_enter Try.func14, Try.ntmps14
  go_wp2_with (go_at_call 15; refine (new_any _).mono ?_; rintro e w1 ⟨rfl, hw1, ho1⟩)
  refine (write_yes (c := 2) (by omega) (by omega) _ _ 1 3 4 _ _ _ _ _ hw1 (by omega)).mono ?_
  rintro e w2 ⟨rfl, lv2, hw2, ho2, hl2⟩
  go_wp2_with fail
  refine (read_yes (c := 2) (by omega) (by omega) _ _ 5 6 _ _ _ _ _ hw2 (by omega)).mono ?_
  rintro e w3 ⟨rfl, lv3, hw3, ho3, hl3⟩
  go_wp2_with fail
  refine (read_no (c := 12) (by omega) _ 5 6 _).mono ?_
  rintro e w4 ⟨rfl, rfl⟩
  go_wp2_with fail
  refine (log_any _ _ _ _ _ _ _ hw3 ?_ (by omega)).mono ?_
  · simp [Value.oneCell']
  rintro e w5 ⟨A5, cap5, rfl, hown5, ho5⟩
  obtain ⟨b5, o5, rfl⟩ := (Sl.of_own hown5).some_ (by omega)
  have hs := Sl.of_own hown5
  have c0 : w5.cell? ⟨b5, o5, none⟩ = _ := hs.at0 (p := 0) rfl
  have c1 := hs.at0 (p := 1) rfl
  have c2 := hs.at0 (p := 2) rfl
  have c3 := hs.at0 (p := 3) rfl
  have hw5 : IsWorld w5 _ _ _ _ _ _ := hw3.only ho5 (fun h => h) (fun _ _ h => h)
  go_wp2_with fail
  refine (cells_any _ _ _ _ _ _ _ hw5).mono ?_
  rintro e w6 ⟨A6, cap6, rfl, hown6, ho6⟩
  go_wp2
  go_ret
  refine ⟨rfl, ?_⟩
  have h1 := ho1.size
  have h2 := ho2.size
  refine ((((ho1.step ho2 ?_).step ho3 ?_).step ho5 ?_).step ho6 ?_)
  · rintro k hk (rfl | h)
    · omega
    · simp at h
  · rintro k hk (rfl | h)
    · omega
    · rcases hl2 with h' | ⟨g, h', hg⟩
      · rw [h'] at h; simp at h
      · rw [h'] at h; simp at h; omega
  · exact fun _ _ h => h
  · exact fun _ _ h => h

end Go.Proofs.Ytacocolcighomaa
