/- The walks of package rights (Check, Has, Meet, Text, Parse), and of the law RightsMeet. -/
import Derived.Test.YtacocolcighomaaRows
import Derived.Test.YtacocolcighomaaMem
import Derived.Test.YtacocolcighomaaOpen
import Derived.Test.YtacocolcighomaaBits
import Derived.Lib.Bytealg
import Derived.Laws.IdiomStrings
namespace Go.Proofs.Ytacocolcighomaa
set_option linter.unusedSimpArgs false
set_option linter.unusedVariables false
open Go.RowKit

theorem rmeet_any (a b : Int) (w : World) : Calls Try.prog 24 #[.int .i64 a, .int .i64 b] w fun e w' => e = .returned (.int .i64 (meetI a b)) ∧ w = w' := by
  go_enter Try.func24, Try.ntmps24
  go_wp2
  go_ret
  exact ⟨rfl, rfl⟩

theorem rhas_any (a b : Int) (w : World) : Calls Try.prog 25 #[.int .i64 a, .int .i64 b] w fun e w' => e = .returned (.bool (hasI a b)) ∧ w = w' := by
  go_enter Try.func25, Try.ntmps25
  go_wp2
  go_ret
  exact ⟨rfl, rfl⟩

def checkI (a : Int) : Bool := decide (0 ≤ a ∧ a ≤ 15)
theorem rcheck_any (a : Int) (w : World) : Calls Try.prog 29 #[.int .i64 a] w fun e w' => e = .returned (.bool (checkI a)) ∧ w = w' := by
  by_cases h0 : 0 ≤ a
  · by_cases h1 : a ≤ 15
    · go_enter Try.func29, Try.ntmps29
      go_wp2
      go_ret
      exact ⟨by simp [checkI]; omega, rfl⟩
    · go_enter Try.func29, Try.ntmps29
      go_wp2
      go_ret
      exact ⟨by simp [checkI]; omega, rfl⟩
  · go_enter Try.func29, Try.ntmps29
    go_wp2
    go_ret
    exact ⟨by simp [checkI]; omega, rfl⟩

/-- bit i of a number -/
def bitI (a : Int) (i : Nat) : Bool := bits .and .i64 (a / 2 ^ i) 1 == 1

/-- the letters of rights, in their order -/
def lettersI (a : Int) (k : Nat) : List UInt8 := ((List.range k).filter (bitI a)).map fun i => [(114 : UInt8), 119, 112, 97].getD i 0
def textI (a : Int) : List UInt8 := if lettersI a 4 = [] then [45] else lettersI a 4

theorem letters_le (a : Int) (k : Nat) : (lettersI a k).length ≤ k := by
  unfold lettersI
  rw [List.length_map]
  exact Nat.le_trans (List.length_filter_le _ _) (by simp)

theorem letters_yes {a : Int} {k : Nat} (h : bitI a k = true) : lettersI a (k + 1) = lettersI a k ++ [[(114 : UInt8), 119, 112, 97].getD k 0] := by
  unfold lettersI
  rw [List.range_succ, List.filter_append, List.map_append]
  simp [h]
theorem letters_no {a : Int} {k : Nat} (h : bitI a k = false) : lettersI a (k + 1) = lettersI a k := by
  unfold lettersI
  rw [List.range_succ, List.filter_append, List.map_append]
  simp [h]

theorem ba_append (xs ys : List UInt8) : (⟨xs.toArray⟩ : ByteArray) ++ ⟨ys.toArray⟩ = ⟨(xs ++ ys).toArray⟩ := by
  apply ByteArray.ext
  simp

theorem byte_info : (Try.prog.info? 5).map (fun i => (i.zero, i.size, i.bytes)) = some (some (.int .u8 0), 1, 1) := by kernel_rfl

set_option maxRecDepth 100000 in
set_option maxHeartbeats 1000000 in
theorem text_any (a : Int) (w : World) : Calls Try.prog 30 #[.int .i64 a] w fun e w' => e = .returned (.string ⟨(textI a).toArray⟩) ∧ New w w' := by
  obtain ⟨i0, hi, hz0, hz1, hz2⟩ := info_parts byte_info
  go_enter Try.func30, Try.ntmps30
  go_wp2
  go_loopw [3, 5] (fun v i wr => ∃ k : Nat, k ≤ 4 ∧ i = .int .i64 k ∧ wr.ownsRow w.heap.size 5 1 v (lettersI a k).length ((lettersI a k).map fun c => .int .u8 c.toNat) ∧ New w wr) (fun _ i _ => 4 - (intOf i).toNat)
  case atStart => exact ⟨0, by omega, rfl, World.ownsRow_nil _ _ _ _, Only.refl _ _⟩
  case round =>
    obtain ⟨k, hk, rfl, hown, ho⟩ := hrel
    match k, hk with
    | 0, _ =>
      by_cases hb : bitI a 0 = true
      · have hL : lettersI a 1 = lettersI a 0 ++ [114] := letters_yes hb
        have hle : (lettersI a 0).length ≤ 0 := letters_le a 0
        have hb' : (bits .and .i64 a 1 == 1) = true := by simpa [bitI] using hb
        clear hb
        go_wp2_with (at_builtin; go_must (refine wpList_append1 rfl (.tmp 13) (.tmp 16) 94 rfl w.heap.size 5 i0 _ 1 1 Try.underlying94 hi hz0 hz1 hz2 rfl (by decide) u3 _ _ wr rfl hown _ _ (by simp) rfl rfl (by simp [Value.oneCell']) (by omega) (by omega) ho.size ?_))
        intro g cap w1 hown1 ho1 hg
        go_wp2
        go_roundw
        case rel => exact ⟨1, by omega, by go_num, by rw [hL, List.map_append, List.length_append]; exact hown1, ho.step ho1 (fun i hi h => by have := (hown.lt i h.symm).1; omega)⟩
        case measure => simp [intOf]
      · have hL : lettersI a 1 = lettersI a 0 := letters_no (by simpa using hb)
        have hb' : (bits .and .i64 a 1 == 1) = false := by simpa [bitI] using hb
        clear hb
        go_wp2
        go_roundw
        case rel => exact ⟨1, by omega, by go_num, by rw [hL]; exact hown, ho⟩
        case measure => simp [intOf]
    | 1, _ =>
      by_cases hb : bitI a 1 = true
      · have hL : lettersI a 2 = lettersI a 1 ++ [119] := letters_yes hb
        have hle : (lettersI a 1).length ≤ 1 := letters_le a 1
        have hb' : (bits .and .i64 (a / 2) 1 == 1) = true := by simpa [bitI] using hb
        clear hb
        go_wp2_with (at_builtin; go_must (refine wpList_append1 rfl (.tmp 13) (.tmp 16) 94 rfl w.heap.size 5 i0 _ 1 1 Try.underlying94 hi hz0 hz1 hz2 rfl (by decide) u3 _ _ wr rfl hown _ _ (by simp) rfl rfl (by simp [Value.oneCell']) (by omega) (by omega) ho.size ?_))
        intro g cap w1 hown1 ho1 hg
        go_wp2
        go_roundw
        case rel => exact ⟨2, by omega, by go_num, by rw [hL, List.map_append, List.length_append]; exact hown1, ho.step ho1 (fun i hi h => by have := (hown.lt i h.symm).1; omega)⟩
        case measure => simp [intOf]
      · have hL : lettersI a 2 = lettersI a 1 := letters_no (by simpa using hb)
        have hb' : (bits .and .i64 (a / 2) 1 == 1) = false := by simpa [bitI] using hb
        clear hb
        go_wp2
        go_roundw
        case rel => exact ⟨2, by omega, by go_num, by rw [hL]; exact hown, ho⟩
        case measure => simp [intOf]
    | 2, _ =>
      by_cases hb : bitI a 2 = true
      · have hL : lettersI a 3 = lettersI a 2 ++ [112] := letters_yes hb
        have hle : (lettersI a 2).length ≤ 2 := letters_le a 2
        have hb' : (bits .and .i64 (a / 4) 1 == 1) = true := by simpa [bitI] using hb
        clear hb
        go_wp2_with (at_builtin; go_must (refine wpList_append1 rfl (.tmp 13) (.tmp 16) 94 rfl w.heap.size 5 i0 _ 1 1 Try.underlying94 hi hz0 hz1 hz2 rfl (by decide) u3 _ _ wr rfl hown _ _ (by simp) rfl rfl (by simp [Value.oneCell']) (by omega) (by omega) ho.size ?_))
        intro g cap w1 hown1 ho1 hg
        go_wp2
        go_roundw
        case rel => exact ⟨3, by omega, by go_num, by rw [hL, List.map_append, List.length_append]; exact hown1, ho.step ho1 (fun i hi h => by have := (hown.lt i h.symm).1; omega)⟩
        case measure => simp [intOf]
      · have hL : lettersI a 3 = lettersI a 2 := letters_no (by simpa using hb)
        have hb' : (bits .and .i64 (a / 4) 1 == 1) = false := by simpa [bitI] using hb
        clear hb
        go_wp2
        go_roundw
        case rel => exact ⟨3, by omega, by go_num, by rw [hL]; exact hown, ho⟩
        case measure => simp [intOf]
    | 3, _ =>
      by_cases hb : bitI a 3 = true
      · have hL : lettersI a 4 = lettersI a 3 ++ [97] := letters_yes hb
        have hle : (lettersI a 3).length ≤ 3 := letters_le a 3
        have hb' : (bits .and .i64 (a / 8) 1 == 1) = true := by simpa [bitI] using hb
        clear hb
        go_wp2_with (at_builtin; go_must (refine wpList_append1 rfl (.tmp 13) (.tmp 16) 94 rfl w.heap.size 5 i0 _ 1 1 Try.underlying94 hi hz0 hz1 hz2 rfl (by decide) u3 _ _ wr rfl hown _ _ (by simp) rfl rfl (by simp [Value.oneCell']) (by omega) (by omega) ho.size ?_))
        intro g cap w1 hown1 ho1 hg
        go_wp2
        go_roundw
        case rel => exact ⟨4, by omega, by go_num, by rw [hL, List.map_append, List.length_append]; exact hown1, ho.step ho1 (fun i hi h => by have := (hown.lt i h.symm).1; omega)⟩
        case measure => simp [intOf]
      · have hL : lettersI a 4 = lettersI a 3 := letters_no (by simpa using hb)
        have hb' : (bits .and .i64 (a / 8) 1 == 1) = false := by simpa [bitI] using hb
        clear hb
        go_wp2
        go_roundw
        case rel => exact ⟨4, by omega, by go_num, by rw [hL]; exact hown, ho⟩
        case measure => simp [intOf]
    | 4, _ =>
      by_cases hnil : lettersI a 4 = []
      · have hT : textI a = [45] := by simp [textI, hnil]
        rw [hnil] at hown
        obtain ⟨A, cap, rfl, hs⟩ := own_form hown
        go_wp2
        go_ret
        exact ⟨by rw [hT]; rfl, ho⟩
      · have hT : textI a = lettersI a 4 := by simp [textI, hnil]
        obtain ⟨A, cap, rfl, hs⟩ := own_form hown
        have hpos : 0 < (lettersI a 4).length := List.length_pos_iff.2 hnil
        have hz : (((lettersI a 4).length : Int) == 0) = false := by simp; exact hnil
        obtain ⟨b, o, rfl⟩ := hs.some_ hpos
        have hcv := run_convert_bytes_back (P := Try.prog) wr 94 9 5 ⟨b, o, none⟩ cap (lettersI a 4) Try.underlying94 Try.underlying5 Try.underlying9 (fun j hj => by
          rw [Addr.add_lit]
          exact hs.at0 (by simp [hj]))
        go_wp2
        go_ret
        exact ⟨by rw [hT]; rfl, ho⟩

theorem bit_any (a : Int) (k : Nat) (hk : k < 64) (w : World) : Calls Try.prog 26 #[.int .i64 a, .int .i64 (k : Int)] w fun e w' => e = .returned (.bool (bitI a k)) ∧ w = w' := by
  have h0 : (0 : Int) ≤ k := by omega
  have h1 : min k 64 = k := by omega
  go_enter Try.func26, Try.ntmps26
  go_wp2
  go_ret
  refine ⟨?_, rfl⟩
  simp [bitI, h1]

set_option maxRecDepth 100000 in
set_option maxHeartbeats 1000000 in
theorem refText_any (a : Int) (w : World) : Calls Try.prog 31 #[.int .i64 a] w fun e w' => e = .returned (.string ⟨(textI a).toArray⟩) ∧ New w w' := by
  go_enter Try.func31, Try.ntmps31
  go_wp2
  go_loopw [3, 4] (fun v i wr => ∃ k : Nat, k ≤ 4 ∧ i = .int .i64 k ∧ v = .string ⟨(lettersI a k).toArray⟩ ∧ New w wr) (fun _ i _ => 4 - (intOf i).toNat)
  case atStart => exact ⟨0, by omega, rfl, rfl, Only.refl _ _⟩
  case round =>
    obtain ⟨k, hk, rfl, rfl, ho⟩ := hrel
    match k, hk with
    | 0, _ =>
      have hle := letters_le a 0
      by_cases hb : bitI a 0 = true
      · have hL := letters_yes hb
        go_wp2_with (go_at_call 26; go_must (refine (bit_any a 0 (by omega) _).mono ?_; rintro e w' ⟨rfl, rfl⟩))
        go_roundw
        case rel => exact ⟨1, by omega, by go_num, by rw [hL, ← ba_append]; rfl, ho.alloc _⟩
        case measure => simp [intOf]
      · have hb' : bitI a 0 = false := by simpa using hb
        have hL := letters_no hb'
        clear hb
        go_wp2_with (go_at_call 26; go_must (refine (bit_any a 0 (by omega) _).mono ?_; rintro e w' ⟨rfl, rfl⟩))
        go_roundw
        case rel => exact ⟨1, by omega, by go_num, by rw [hL], ho⟩
        case measure => simp [intOf]
    | 1, _ =>
      have hle := letters_le a 1
      by_cases hb : bitI a 1 = true
      · have hL := letters_yes hb
        go_wp2_with (go_at_call 26; go_must (refine (bit_any a 1 (by omega) _).mono ?_; rintro e w' ⟨rfl, rfl⟩))
        go_roundw
        case rel => exact ⟨2, by omega, by go_num, by rw [hL, ← ba_append]; rfl, ho.alloc _⟩
        case measure => simp [intOf]
      · have hb' : bitI a 1 = false := by simpa using hb
        have hL := letters_no hb'
        clear hb
        go_wp2_with (go_at_call 26; go_must (refine (bit_any a 1 (by omega) _).mono ?_; rintro e w' ⟨rfl, rfl⟩))
        go_roundw
        case rel => exact ⟨2, by omega, by go_num, by rw [hL], ho⟩
        case measure => simp [intOf]
    | 2, _ =>
      have hle := letters_le a 2
      by_cases hb : bitI a 2 = true
      · have hL := letters_yes hb
        go_wp2_with (go_at_call 26; go_must (refine (bit_any a 2 (by omega) _).mono ?_; rintro e w' ⟨rfl, rfl⟩))
        go_roundw
        case rel => exact ⟨3, by omega, by go_num, by rw [hL, ← ba_append]; rfl, ho.alloc _⟩
        case measure => simp [intOf]
      · have hb' : bitI a 2 = false := by simpa using hb
        have hL := letters_no hb'
        clear hb
        go_wp2_with (go_at_call 26; go_must (refine (bit_any a 2 (by omega) _).mono ?_; rintro e w' ⟨rfl, rfl⟩))
        go_roundw
        case rel => exact ⟨3, by omega, by go_num, by rw [hL], ho⟩
        case measure => simp [intOf]
    | 3, _ =>
      have hle := letters_le a 3
      by_cases hb : bitI a 3 = true
      · have hL := letters_yes hb
        go_wp2_with (go_at_call 26; go_must (refine (bit_any a 3 (by omega) _).mono ?_; rintro e w' ⟨rfl, rfl⟩))
        go_roundw
        case rel => exact ⟨4, by omega, by go_num, by rw [hL, ← ba_append]; rfl, ho.alloc _⟩
        case measure => simp [intOf]
      · have hb' : bitI a 3 = false := by simpa using hb
        have hL := letters_no hb'
        clear hb
        go_wp2_with (go_at_call 26; go_must (refine (bit_any a 3 (by omega) _).mono ?_; rintro e w' ⟨rfl, rfl⟩))
        go_roundw
        case rel => exact ⟨4, by omega, by go_num, by rw [hL], ho⟩
        case measure => simp [intOf]
    | 4, _ =>
      by_cases hnil : lettersI a 4 = []
      · have hT : textI a = [45] := by simp [textI, hnil]
        rw [hnil]
        go_wp2
        go_ret
        exact ⟨by rw [hT]; rfl, ho⟩
      · have hT : textI a = lettersI a 4 := by simp [textI, hnil]
        have hz : (lettersI a 4).isEmpty = false := by simpa using hnil
        go_wp2
        go_ret
        exact ⟨by rw [hT]; rfl, ho⟩

end Go.Proofs.Ytacocolcighomaa
