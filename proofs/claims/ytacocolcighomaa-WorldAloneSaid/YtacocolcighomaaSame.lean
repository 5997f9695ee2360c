/- Slices cloned, slices compared. Written by gen_same.py. -/
import Derived.Test.YtacocolcighomaaRows
import Derived.Test.YtacocolcighomaaMem
import Derived.Deep.QuietTactic
import Derived.BigQuiet
import Derived.Lib.SliceRun
import Derived.WalkLawsBesides
namespace Go.Proofs.Ytacocolcighomaa
open Go.RowKit

theorem info_Longs : (Try.prog.info? 2).map (fun i => (i.zero, i.size, i.bytes)) = some (some (.int .i64 0), 1, 8) := by kernel_rfl

theorem cloneLongs (A : Option Addr) (n cap : Nat) (xs : List Value) (w : World) (hr : Sl w 1 A n cap xs) (h1 : ∀ u ∈ xs, u.oneCell' = true) (hn : n ≤ 1000000) :
    Calls Try.prog 61 #[.slice A n cap] w fun e w' => ∃ A' cap', e = .returned (.slice A' n cap') ∧ w'.ownsRow w.heap.size 2 1 (.slice A' n cap') n xs ∧ New w w' := by
  obtain ⟨i0, hi, hz0, hz1, hz2⟩ := info_parts info_Longs
  have hq : ∀ (w : World) (a : Option Addr) (l c : Nat), (binOp .eql 26 (.slice a l c) (.slice none 0 0)).run Try.prog w = .ok (.bool a.isNone) w := fun w a l c => Lib.run_eql_slice_nil w _ _ a l c 0 0 Try.underlying26
  rcases A with _ | a
  · have hc := hr.2.2.1 rfl
    have hle := hr.2.1
    obtain rfl : n = 0 := by omega
    subst hc
    obtain rfl : xs = [] := List.eq_nil_of_length_eq_zero (by simpa using hr.1)
    go_enter Try.func61, Try.ntmps61
    go_wp2
    go_ret
    exact ⟨_, _, rfl, World.ownsRow_nil _ _ _ _, Only.refl _ _⟩
  · have hown0 : (w.alloc (.cells #[] 2)).ownsRow w.heap.size 2 1 (.slice (some ⟨w.heap.size, 0, none⟩) 0 0) 0 [] := World.ownsRow_lit w #[] 0 (Nat.le_refl _) (by unfold maxLen; omega) (by simp)
    have hr0 : Sl (w.alloc (.cells #[] 2)) 1 (some a) n cap xs := hr.new ((Only.refl _ _).alloc _)
    go_enter Try.func61, Try.ntmps61
    go_wp2_with (at_builtin; refine wpList_appends rfl (.tmp 5) (.tmp 6) 26 rfl w.heap.size 2 i0 _ 1 8 Try.underlying26 hi hz0 hz1 hz2 rfl (by decide) _ 0 [] _ rfl hown0 (some a) n cap xs rfl hr0 h1 (by unfold maxLen; omega) (by omega) (by simp) ?_)
    intro v w1 hown1 ho1 hv hform
    have ho : New w w1 := ((Only.refl _ w).alloc (.cells #[] 2)).step ho1 (by intro k hk; simp; omega)
    try simp only [Nat.zero_add, List.nil_append] at hown1
    obtain ⟨A', cap', rfl⟩ : ∃ A' cap', v = .slice A' n cap' := by
      rcases hown1.2 with ⟨rfl, rfl⟩ | ⟨g, cap', _, rfl, _⟩
      · exact ⟨_, _, rfl⟩
      · exact ⟨_, _, rfl⟩
    clear hform hv
    go_wp2
    go_ret
    exact ⟨_, _, rfl, hown1, ho⟩

theorem info_Entries : (Try.prog.info? 34).map (fun i => (i.zero, i.size, i.bytes)) = some (some (.agg #[.int .i64 0, .int .i64 0, .int .i64 0, .int .i64 0]), 4, 32) := by kernel_rfl

theorem cloneEntries (A : Option Addr) (n cap : Nat) (xs : List Value) (w : World) (hr : Sl w 4 A n cap xs) (h1 : ∀ u ∈ xs, u.oneCell' = true) (hn : n ≤ 1000000) :
    Calls Try.prog 62 #[.slice A n cap] w fun e w' => ∃ A' cap', e = .returned (.slice A' n cap') ∧ w'.ownsRow w.heap.size 34 4 (.slice A' n cap') n xs ∧ New w w' := by
  obtain ⟨i0, hi, hz0, hz1, hz2⟩ := info_parts info_Entries
  have hq : ∀ (w : World) (a : Option Addr) (l c : Nat), (binOp .eql 27 (.slice a l c) (.slice none 0 0)).run Try.prog w = .ok (.bool a.isNone) w := fun w a l c => Lib.run_eql_slice_nil w _ _ a l c 0 0 Try.underlying27
  rcases A with _ | a
  · have hc := hr.2.2.1 rfl
    have hle := hr.2.1
    obtain rfl : n = 0 := by omega
    subst hc
    obtain rfl : xs = [] := List.eq_nil_of_length_eq_zero (by simpa using hr.1)
    go_enter Try.func62, Try.ntmps62
    go_wp2
    go_ret
    exact ⟨_, _, rfl, World.ownsRow_nil _ _ _ _, Only.refl _ _⟩
  · have hown0 : (w.alloc (.cells #[] 34)).ownsRow w.heap.size 34 4 (.slice (some ⟨w.heap.size, 0, none⟩) 0 0) 0 [] := World.ownsRow_lit w #[] 0 (Nat.le_refl _) (by unfold maxLen; omega) (by simp)
    have hr0 : Sl (w.alloc (.cells #[] 34)) 4 (some a) n cap xs := hr.new ((Only.refl _ _).alloc _)
    go_enter Try.func62, Try.ntmps62
    go_wp2_with (at_builtin; refine wpList_appends rfl (.tmp 5) (.tmp 6) 27 rfl w.heap.size 34 i0 _ 4 32 Try.underlying27 hi hz0 hz1 hz2 rfl (by decide) _ 0 [] _ rfl hown0 (some a) n cap xs rfl hr0 h1 (by unfold maxLen; omega) (by omega) (by simp) ?_)
    intro v w1 hown1 ho1 hv hform
    have ho : New w w1 := ((Only.refl _ w).alloc (.cells #[] 34)).step ho1 (by intro k hk; simp; omega)
    try simp only [Nat.zero_add, List.nil_append] at hown1
    obtain ⟨A', cap', rfl⟩ : ∃ A' cap', v = .slice A' n cap' := by
      rcases hown1.2 with ⟨rfl, rfl⟩ | ⟨g, cap', _, rfl, _⟩
      · exact ⟨_, _, rfl⟩
      · exact ⟨_, _, rfl⟩
    clear hform hv
    go_wp2
    go_ret
    exact ⟨_, _, rfl, hown1, ho⟩

theorem info_Nodes : (Try.prog.info? 65).map (fun i => (i.zero, i.size, i.bytes)) = some (some (.agg #[.int .i64 0, .int .i64 0, .int .i64 0, .int .i64 0, .int .i64 0, .int .i64 0]), 6, 48) := by kernel_rfl

theorem cloneNodes (A : Option Addr) (n cap : Nat) (xs : List Value) (w : World) (hr : Sl w 6 A n cap xs) (h1 : ∀ u ∈ xs, u.oneCell' = true) (hn : n ≤ 1000000) :
    Calls Try.prog 67 #[.slice A n cap] w fun e w' => ∃ A' cap', e = .returned (.slice A' n cap') ∧ w'.ownsRow w.heap.size 65 6 (.slice A' n cap') n xs ∧ New w w' := by
  obtain ⟨i0, hi, hz0, hz1, hz2⟩ := info_parts info_Nodes
  have hq : ∀ (w : World) (a : Option Addr) (l c : Nat), (binOp .eql 54 (.slice a l c) (.slice none 0 0)).run Try.prog w = .ok (.bool a.isNone) w := fun w a l c => Lib.run_eql_slice_nil w _ _ a l c 0 0 Try.underlying54
  rcases A with _ | a
  · have hc := hr.2.2.1 rfl
    have hle := hr.2.1
    obtain rfl : n = 0 := by omega
    subst hc
    obtain rfl : xs = [] := List.eq_nil_of_length_eq_zero (by simpa using hr.1)
    go_enter Try.func67, Try.ntmps67
    go_wp2
    go_ret
    exact ⟨_, _, rfl, World.ownsRow_nil _ _ _ _, Only.refl _ _⟩
  · have hown0 : (w.alloc (.cells #[] 65)).ownsRow w.heap.size 65 6 (.slice (some ⟨w.heap.size, 0, none⟩) 0 0) 0 [] := World.ownsRow_lit w #[] 0 (Nat.le_refl _) (by unfold maxLen; omega) (by simp)
    have hr0 : Sl (w.alloc (.cells #[] 65)) 6 (some a) n cap xs := hr.new ((Only.refl _ _).alloc _)
    go_enter Try.func67, Try.ntmps67
    go_wp2_with (at_builtin; refine wpList_appends rfl (.tmp 5) (.tmp 6) 54 rfl w.heap.size 65 i0 _ 6 48 Try.underlying54 hi hz0 hz1 hz2 rfl (by decide) _ 0 [] _ rfl hown0 (some a) n cap xs rfl hr0 h1 (by unfold maxLen; omega) (by omega) (by simp) ?_)
    intro v w1 hown1 ho1 hv hform
    have ho : New w w1 := ((Only.refl _ w).alloc (.cells #[] 65)).step ho1 (by intro k hk; simp; omega)
    try simp only [Nat.zero_add, List.nil_append] at hown1
    obtain ⟨A', cap', rfl⟩ : ∃ A' cap', v = .slice A' n cap' := by
      rcases hown1.2 with ⟨rfl, rfl⟩ | ⟨g, cap', _, rfl, _⟩
      · exact ⟨_, _, rfl⟩
      · exact ⟨_, _, rfl⟩
    clear hform hv
    go_wp2
    go_ret
    exact ⟨_, _, rfl, hown1, ho⟩

theorem info_Ints : (Try.prog.info? 3).map (fun i => (i.zero, i.size, i.bytes)) = some (some (.int .i64 0), 1, 8) := by kernel_rfl

theorem sameLongs_refl (A1 A2 : Option Addr) (n c1 c2 : Nat) (zs : List Int) (w : World) (hzn : zs.length = n) (h1 : Sl w 1 A1 n c1 (zs.map (.int .i64))) (h2 : Sl w 1 A2 n c2 (zs.map (.int .i64))) (hn : n ≤ 1000000) :
    Calls Try.prog 19 #[.slice A1 n c1, .slice A2 n c2] w fun e w' => e = .returned (.bool true) ∧ ∃ nq, w' = w.drewN nq := by
  subst hzn
  go_enter Try.func19, Try.ntmps19
  go_wp2
  go_loopw [5] (fun i wr => ∃ k nq : Nat, k ≤ zs.length ∧ i = .int .i64 k ∧ wr = w.drewN nq) (fun i _ => zs.length - (intOf i).toNat)
  case atStart => exact ⟨0, 0, by omega, rfl, rfl⟩
  case round =>
    obtain ⟨k, nq, hk, rfl, rfl⟩ := hrel
    by_cases hlt : k < zs.length
    · obtain ⟨b1, o1, rfl⟩ := h1.some_ (by omega)
      obtain ⟨b2, o2, rfl⟩ := h2.some_ (by omega)
      have hc1 := h1.cell (j := k) (u := .int .i64 zs[k]) (by simp [hlt])
      have hc2 := h2.cell (j := k) (u := .int .i64 zs[k]) (by simp [hlt])
      go_wp2
      go_quiet (fail)
      go_wp2
      go_roundw
      case rel => exact ⟨k + 1, _, by omega, by go_num, rfl⟩
      case measure => simp [intOf]; omega
    · go_wp2
      go_ret
      exact ⟨rfl, _, rfl⟩

structure Ent where
  (p c r n : Int)
abbrev Ent.cells (e : Ent) : List Value := [.int .i64 e.p, .int .i64 e.c, .int .i64 e.r, .int .i64 e.n]
theorem Ent.len (e : Ent) : e.cells.length = 4 := rfl
theorem Ent.one (e : Ent) : ∀ u ∈ e.cells, u.oneCell' = true := by simp [Value.oneCell']

theorem sameEntries_refl (A1 A2 : Option Addr) (n c1 c2 : Nat) (zs : List Ent) (w : World) (hzn : zs.length = n) (h1 : Sl w 4 A1 n c1 (zs.flatMap Ent.cells)) (h2 : Sl w 4 A2 n c2 (zs.flatMap Ent.cells)) (hn : n ≤ 1000000) :
    Calls Try.prog 21 #[.slice A1 n c1, .slice A2 n c2] w fun e w' => e = .returned (.bool true) ∧ ∃ nq, w' = w.drewN nq := by
  subst hzn
  go_enter Try.func21, Try.ntmps21
  go_wp2
  go_loopw [5] (fun i wr => ∃ k nq : Nat, k ≤ zs.length ∧ i = .int .i64 k ∧ wr = w.drewN nq) (fun i _ => zs.length - (intOf i).toNat)
  case atStart => exact ⟨0, 0, by omega, rfl, rfl⟩
  case round =>
    obtain ⟨k, nq, hk, rfl, rfl⟩ := hrel
    by_cases hlt : k < zs.length
    · obtain ⟨b1, o1, rfl⟩ := h1.some_ (by omega)
      obtain ⟨b2, o2, rfl⟩ := h2.some_ (by omega)
      have p0 := h1.at0 (flat_get0 Ent.len zs hlt (by omega))
      have p1 := h1.at_ (flat_get Ent.len zs hlt (j := 1) (by omega))
      have p2 := h1.at_ (flat_get Ent.len zs hlt (j := 2) (by omega))
      have p3 := h1.at_ (flat_get Ent.len zs hlt (j := 3) (by omega))
      have q0 := h2.at0 (flat_get0 Ent.len zs hlt (by omega))
      have q1 := h2.at_ (flat_get Ent.len zs hlt (j := 1) (by omega))
      have q2 := h2.at_ (flat_get Ent.len zs hlt (j := 2) (by omega))
      have q3 := h2.at_ (flat_get Ent.len zs hlt (j := 3) (by omega))
      go_wp2
      go_quiet (fail)
      go_wp2
      go_roundw
      case rel => exact ⟨k + 1, _, by omega, by go_num, rfl⟩
      case measure => simp [intOf]; omega
    · go_wp2
      go_ret
      exact ⟨rfl, _, rfl⟩

end Go.Proofs.Ytacocolcighomaa
