/- The walks of package world: what New, Has, Read, Write, Cells, Log do to memory. -/
import Derived.Test.YtacocolcighomaaRows
import Derived.Test.YtacocolcighomaaMem
namespace Go.Proofs.Ytacocolcighomaa
open Go.RowKit

def hasB (c : Int) : Bool := decide (0 ≤ c ∧ c < 12)

theorem has_any (c : Int) (w : World) :
    Calls Try.prog 16 #[.int .i64 c] w fun e w' => e = .returned (.bool (hasB c)) ∧ w = w' := by
  by_cases h0 : 0 ≤ c
  · by_cases h1 : c < 12
    · go_enter Try.func16, Try.ntmps16
      go_wp2
      go_ret
      exact ⟨by simp [hasB, h0, h1], rfl⟩
    · go_enter Try.func16, Try.ntmps16
      go_wp2
      go_ret
      exact ⟨by simp [hasB, h0, h1], rfl⟩
  · go_enter Try.func16, Try.ntmps16
    go_wp2
    go_ret
    exact ⟨by simp [hasB]; omega, rfl⟩

theorem has_yes {c : Int} (h0 : 0 ≤ c) (h1 : c < 12) (w : World) :
    Calls Try.prog 16 #[.int .i64 c] w fun e w' => e = .returned (.bool true) ∧ w = w' := by
  refine (has_any c w).mono ?_
  rintro e w' ⟨rfl, rfl⟩
  exact ⟨by simp [hasB, h0, h1], rfl⟩
theorem has_no {c : Int} (h : ¬ (0 ≤ c ∧ c < 12)) (w : World) :
    Calls Try.prog 16 #[.int .i64 c] w fun e w' => e = .returned (.bool false) ∧ w = w' := by
  refine (has_any c w).mono ?_
  rintro e w' ⟨rfl, rfl⟩
  exact ⟨by simp [hasB, h], rfl⟩

theorem entry_info : (Try.prog.info? 34).map (fun i => (i.zero, i.size, i.bytes)) = some (some (.agg #[.int .i64 0, .int .i64 0, .int .i64 0, .int .i64 0]), 4, 32) := by kernel_rfl

/-- the cells of an object World: its twelve numbers, and its log -/
def wcells (cs : List Int) (lv : Value) : Array Value := (cs.map (Value.int .i64) ++ [lv]).toArray

theorem read_no {c : Int} (h : ¬ (0 ≤ c ∧ c < 12)) (b : Nat) (p n : Int) (w : World) :
    Calls Try.prog 17 #[.pointer (some ⟨b, 0, none⟩), .int .i64 p, .int .i64 c, .int .i64 n] w fun e w' => e = .returned (.tuple #[.int .i64 0, .bool false]) ∧ w = w' := by
  go_enter Try.func17, Try.ntmps17
  go_wp2_with (go_at_call 16; refine (has_no h _).mono ?_; rintro e w' ⟨rfl, rfl⟩)
  go_ret2
  exact ⟨rfl, rfl⟩

theorem wcells_size {cs : List Int} (h : cs.length = 12) (lv : Value) : (wcells cs lv).size = 13 := by simp [wcells, h]
theorem wcells_num {cs : List Int} (h : cs.length = 12) (lv : Value) {i : Nat} (hi : i < 12) : (wcells cs lv)[i]? = some (.int .i64 (cs.getD i 0)) := by
  simp [wcells, List.getElem?_append, h, hi, List.getD]
theorem wcells_log {cs : List Int} (h : cs.length = 12) (lv : Value) : (wcells cs lv)[12]? = some lv := by
  simp [wcells, List.getElem?_append, h]

abbrev entry (p c r n : Int) : List Value := [.int .i64 p, .int .i64 c, .int .i64 r, .int .i64 n]
theorem entry_one (p c r n : Int) : ∀ u ∈ entry p c r n, u.oneCell' = true := by simp [entry, Value.oneCell']

/-- an object World at block b: its cells, its log (m entries, the cells xs), both among the blocks from base on -/
structure IsWorld (w : World) (base b : Nat) (cs : List Int) (lv : Value) (m : Nat) (xs : List Value) : Prop where
  len : cs.length = 12
  blk : Blk w b 90 (wcells cs lv)
  own : w.ownsRow base 34 4 lv m xs
  base : base ≤ b

theorem IsWorld.only {F : Nat → Prop} {w w' : World} {base b : Nat} {cs : List Int} {lv : Value} {m : Nat} {xs : List Value} (h : IsWorld w base b cs lv m xs) (ho : Only F w w') (hb : ¬ F b) (hl : ∀ g, lv.ownBlock = some g → ¬ F g) : IsWorld w' base b cs lv m xs :=
  ⟨h.len, h.blk.only ho hb, own_only h.own ho hl, h.base⟩
theorem IsWorld.ne {w : World} {base b : Nat} {cs : List Int} {lv : Value} {m : Nat} {xs : List Value} (h : IsWorld w base b cs lv m xs) : lv.ownBlock ≠ some b := own_blk_ne h.own h.blk (by decide)

theorem new_any (w : World) :
    Calls Try.prog 15 #[] w fun e w' => e = .returned (.pointer (some ⟨w.heap.size, 0, none⟩)) ∧ IsWorld w' w.heap.size w.heap.size (List.replicate 12 0) (.slice none 0 0) 0 [] ∧ New w w' := by
  go_enter Try.func15, Try.ntmps15
  go_wp2
  go_ret
  exact ⟨rfl, ⟨rfl, Blk.new _ _ _, World.ownsRow_nil _ _ _ _, Nat.le_refl _⟩, (Only.refl _ _).alloc _⟩

set_option maxHeartbeats 800000 in
theorem read_yes {c : Int} (h0 : 0 ≤ c) (h1 : c < 12) (b base : Nat) (p n : Int) (cs : List Int) (lv : Value) (m : Nat) (xs : List Value) (w : World)
    (hw : IsWorld w base b cs lv m xs) (hm : m ≤ 100000) :
    Calls Try.prog 17 #[.pointer (some ⟨b, 0, none⟩), .int .i64 p, .int .i64 c, .int .i64 n] w fun e w' => e = .returned (.tuple #[.int .i64 (cs.getD c.toNat 0), .bool true]) ∧
      ∃ lv', IsWorld w' base b cs lv' (m + 1) (xs ++ entry p c 1 n) ∧ Only (fun k => k = b ∨ some k = lv.ownBlock) w w' ∧ (lv'.ownBlock = lv.ownBlock ∨ ∃ g, lv'.ownBlock = some g ∧ w.heap.size ≤ g) := by
  obtain ⟨i0, hi, hz0, hz1, hz2⟩ := info_parts entry_info
  have hne := hw.ne
  obtain ⟨hcs, hb, hown, hbb⟩ := hw
  have hlt := hb.lt
  have hc12 := (hb.cell 12).trans (wcells_log hcs lv)
  obtain ⟨j, rfl⟩ := Int.eq_ofNat_of_zero_le h0
  go_enter Try.func17, Try.ntmps17
  go_wp2_with (first
    | (go_at_call 16; refine (has_yes h0 h1 _).mono ?_; rintro e w' ⟨rfl, rfl⟩)
    | (at_builtin; refine wpList_append1 rfl (.tmp 17) (.tmp 22) 27 rfl base 34 i0 _ 4 32 Try.underlying27 hi hz0 hz1 hz2 rfl (by decide) lv m xs w rfl hown (entry p j 1 n) _ (by simp) rfl rfl (entry_one _ _ _ _) (by omega) (by omega) (by omega) ?_))
  intro g cap w1 hown1 ho1 hg
  have hb1 : Blk w1 b 90 (wcells cs lv) := hb.only ho1 (fun e => hne e.symm)
  have hc12' := (hb1.cell 12).trans (wcells_log hcs lv)
  have hf12 := hb1.frozen 12
  have hb2 := hb1.set_ 12 (.slice (some ⟨g, 0, none⟩) (m + 1) cap)
  have e2 : (wcells cs lv).setIfInBounds 12 (.slice (some ⟨g, 0, none⟩) (m + 1) cap) = wcells cs (.slice (some ⟨g, 0, none⟩) (m + 1) cap) := by
    unfold wcells
    simp [List.setIfInBounds_toArray, List.set_append, hcs]
  rw [e2] at hb2
  have hj := (hb2.cell j).trans (wcells_num hcs _ (by omega))
  clear e2
  go_wp2
  go_ret2
  have hgb : g ≠ b := fun e => by
    subst e
    rcases hg with hg | hg
    · exact hne hg.symm
    · omega
  refine ⟨by simp, _, ⟨hcs, hb2, own_only hown1 (only_set _ _ _) (by simpa using hgb), hbb⟩, ?_, ?_⟩
  · exact (ho1.mono (fun _ _ h => .inr h)).trans ((only_set _ _ _).mono (fun _ _ h => .inl h))
  · rcases hg with hg | hg
    · exact .inl hg
    · exact .inr ⟨g, rfl, hg⟩

theorem write_no {c : Int} (h : ¬ (0 ≤ c ∧ c < 12)) (b : Nat) (p n x : Int) (w : World) :
    Calls Try.prog 18 #[.pointer (some ⟨b, 0, none⟩), .int .i64 p, .int .i64 c, .int .i64 n, .int .i64 x] w fun e w' => e = .returned (.bool false) ∧ w = w' := by
  go_enter Try.func18, Try.ntmps18
  go_wp2_with (go_at_call 16; refine (has_no h _).mono ?_; rintro e w' ⟨rfl, rfl⟩)
  go_ret
  exact ⟨rfl, rfl⟩

set_option maxHeartbeats 800000 in
theorem write_yes {c : Int} (h0 : 0 ≤ c) (h1 : c < 12) (b base : Nat) (p n x : Int) (cs : List Int) (lv : Value) (m : Nat) (xs : List Value) (w : World)
    (hw : IsWorld w base b cs lv m xs) (hm : m ≤ 100000) :
    Calls Try.prog 18 #[.pointer (some ⟨b, 0, none⟩), .int .i64 p, .int .i64 c, .int .i64 n, .int .i64 x] w fun e w' => e = .returned (.bool true) ∧
      ∃ lv', IsWorld w' base b (cs.set c.toNat x) lv' (m + 1) (xs ++ entry p c 2 n) ∧ Only (fun k => k = b ∨ some k = lv.ownBlock) w w' ∧ (lv'.ownBlock = lv.ownBlock ∨ ∃ g, lv'.ownBlock = some g ∧ w.heap.size ≤ g) := by
  obtain ⟨i0, hi, hz0, hz1, hz2⟩ := info_parts entry_info
  have hne := hw.ne
  obtain ⟨hcs, hb, hown, hbb⟩ := hw
  have hlt := hb.lt
  have hc12 := (hb.cell 12).trans (wcells_log hcs lv)
  obtain ⟨j, rfl⟩ := Int.eq_ofNat_of_zero_le h0
  go_enter Try.func18, Try.ntmps18
  go_wp2_with (first
    | (go_at_call 16; refine (has_yes h0 h1 _).mono ?_; rintro e w' ⟨rfl, rfl⟩)
    | (at_builtin; refine wpList_append1 rfl (.tmp 18) (.tmp 23) 27 rfl base 34 i0 _ 4 32 Try.underlying27 hi hz0 hz1 hz2 rfl (by decide) lv m xs w rfl hown (entry p j 2 n) _ (by simp) rfl rfl (entry_one _ _ _ _) (by omega) (by omega) (by omega) ?_))
  intro g cap w1 hown1 ho1 hg
  have hb1 : Blk w1 b 90 (wcells cs lv) := hb.only ho1 (fun e => hne e.symm)
  have hc12' := (hb1.cell 12).trans (wcells_log hcs lv)
  have hf12 := hb1.frozen 12
  have hb2 := hb1.set_ 12 (.slice (some ⟨g, 0, none⟩) (m + 1) cap)
  have e2 : (wcells cs lv).setIfInBounds 12 (.slice (some ⟨g, 0, none⟩) (m + 1) cap) = wcells cs (.slice (some ⟨g, 0, none⟩) (m + 1) cap) := by
    unfold wcells
    simp [List.setIfInBounds_toArray, List.set_append, hcs]
  rw [e2] at hb2
  have hj := (hb2.cell j).trans (wcells_num hcs _ (by omega))
  have hfj := hb2.frozen j
  have hb3 := hb2.set_ j (.int .i64 x)
  have e3 : (wcells cs (.slice (some ⟨g, 0, none⟩) (m + 1) cap)).setIfInBounds j (.int .i64 x) = wcells (cs.set j x) (.slice (some ⟨g, 0, none⟩) (m + 1) cap) := by
    unfold wcells
    have hj12 : j < cs.length := by omega
    simp [List.setIfInBounds_toArray, List.set_append, hj12, List.map_set]
  rw [e3] at hb3
  clear e2 e3
  go_wp2
  go_ret
  have hgb : g ≠ b := fun e => by
    subst e
    rcases hg with hg | hg
    · exact hne hg.symm
    · omega
  refine ⟨rfl, _, ⟨by simpa using hcs, hb3, own_only (own_only hown1 (only_set _ _ _) (by simpa using hgb)) (only_set _ _ _) (by simpa using hgb), hbb⟩, ?_, ?_⟩
  · exact (ho1.mono (fun _ _ h => .inr h)).trans (((only_set _ _ _).mono (fun _ _ h => .inl h)).trans ((only_set _ _ _).mono (fun _ _ h => .inl h)))
  · rcases hg with hg | hg
    · exact .inl hg
    · exact .inr ⟨g, rfl, hg⟩

end Go.Proofs.Ytacocolcighomaa
