/- Package rights, further: Parse, and the reference's own (RightsOf). -/
import Derived.Test.YtacocolcighomaaRights
namespace Go.Proofs.Ytacocolcighomaa
set_option linter.unusedSimpArgs false
set_option linter.unusedVariables false
open Go.RowKit

def rightsOf (l : List UInt8) : Int × Bool := match (List.range 16).find? (fun r => textI (r : Nat) == l) with
  | some r => ((r : Nat), true)
  | none => (0, false)

theorem rightsOf_any (l : List UInt8) (w : World) : Calls Try.prog 28 #[.string ⟨l.toArray⟩] w fun e w' => e = .returned (.tuple #[.int .i64 (rightsOf l).1, .bool (rightsOf l).2]) ∧ New w w' := by
  go_enter Try.func28, Try.ntmps28
  go_wp2
  go_loopw [4] (fun i wr => ∃ k : Nat, k ≤ 16 ∧ i = .int .i64 k ∧ Hid (∀ r, r < k → textI (r : Nat) ≠ l) ∧ New w wr) (fun i _ => 16 - (intOf i).toNat)
  case atStart => exact ⟨0, by omega, rfl, fun r hr => by omega, Only.refl _ _⟩
  case round =>
    obtain ⟨k, hk, rfl, hno, ho⟩ := hrel
    by_cases hlt : k < 16
    · go_wp2_with (go_at_call 31; go_must (refine (refText_any k _).mono ?_; rintro e w1 ⟨rfl, ho1⟩))
      · go_ret2
        have he : textI (k : Nat) = l := by simpa using (by assumption : (textI (k : Nat) == l) = true)
        have hf : rightsOf l = (((k : Nat) : Int), true) := by
          unfold rightsOf
          rw [(List.find?_range_eq_some (i := k)).2 ⟨by simp [he], by simpa using hlt, fun j hj => by simpa using hno.out j hj⟩]
        exact ⟨by rw [hf]; rfl, ho.trans ho1⟩
      · go_roundw
        case rel =>
          refine ⟨k + 1, by omega, by go_num, fun r hr => ?_, ho.trans ho1⟩
          have he : textI (k : Nat) ≠ l := by simpa using (by assumption : (textI (k : Nat) == l) = false)
          by_cases e : r = k
          · subst e; exact he
          · exact hno.out r (by omega)
        case measure => simp [intOf]; omega
    · go_wp2
      go_ret2
      have hf : rightsOf l = (0, false) := by
        unfold rightsOf
        rw [List.find?_range_eq_none.2 (fun j hj => by simpa using hno.out j (by omega))]
      exact ⟨by rw [hf]; rfl, ho⟩

/-- the place of a letter; -1: it is none -/
def idx (c : UInt8) : Int := if c = 114 then 0 else if c = 119 then 1 else if c = 112 then 2 else if c = 97 then 3 else -1

theorem idx_eq (c : UInt8) : Lib.indexByte [114, 119, 112, 97] c = idx c := by
  unfold idx
  by_cases h0 : c = 114
  · subst h0; rfl
  by_cases h1 : c = 119
  · subst h1; rfl
  by_cases h2 : c = 112
  · subst h2; rfl
  by_cases h3 : c = 97
  · subst h3; rfl
  have e0 : ((114 : UInt8) == c) = false := by simpa using fun h => h0 h.symm
  have e1 : ((119 : UInt8) == c) = false := by simpa using fun h => h1 h.symm
  have e2 : ((112 : UInt8) == c) = false := by simpa using fun h => h2 h.symm
  have e3 : ((97 : UInt8) == c) = false := by simpa using fun h => h3 h.symm
  simp [Lib.indexByte, h0, h1, h2, h3, e0, e1, e2, e3]

theorem indexByte_any (c : UInt8) (w : World) : Calls Try.prog 63 #[.string ⟨#[114, 119, 112, 97]⟩, .int .u8 c.toNat] w fun e w' => e = .returned (.int .i64 (idx c)) ∧ w = w' := by
  have hx : ∀ W : World, (callFunc 96 #[.string ⟨#[114, 119, 112, 97]⟩, .int .u8 c.toNat]).run Try.prog W = .ok (.value (.int .i64 (idx c))) W := by
    intro W
    rw [run_callFunc_extern (e := Extern.BytealgIndexByte.indexByte) Try.func96 (by kernel_rfl) (by kernel_rfl) (by kernel_rfl) (by kernel_rfl)]
    rw [Lib.run_indexByteString]
    simp only [Result.andThen]
    congr
    rw [← idx_eq]
    simp
  go_enter Try.func63, Try.ntmps63
  go_wp2
  go_ret
  exact ⟨rfl, rfl⟩

theorem indexByte_is {c : UInt8} {i : Int} (h : idx c = i) (w : World) : Calls Try.prog 63 #[.string ⟨#[114, 119, 112, 97]⟩, .int .u8 c.toNat] w fun e w' => e = .returned (.int .i64 i) ∧ w = w' := by
  subst h
  exact indexByte_any c w

theorem idx_cases (c : UInt8) : idx c = -1 ∨ idx c = 0 ∨ idx c = 1 ∨ idx c = 2 ∨ idx c = 3 := by
  unfold idx
  split
  · simp
  · split
    · simp
    · split
      · simp
      · split <;> simp

def pstep : Option (Int × Int) → UInt8 → Option (Int × Int)
  | none, _ => none
  | some (r, last), c => if idx c ≤ last then none else some (bits .or .i64 r (2 ^ (idx c).toNat), idx c)
theorem pstep_no {r last : Int} {c : UInt8} (h : idx c ≤ last) : pstep (some (r, last)) c = none := if_pos h
theorem pstep_yes {r last : Int} {c : UInt8} (h : ¬ idx c ≤ last) : pstep (some (r, last)) c = some (bits .or .i64 r (2 ^ (idx c).toNat), idx c) := if_neg h
def parseSt (l : List UInt8) : Option (Int × Int) := l.foldl pstep (some (0, -1))
def parseI (l : List UInt8) : Int × Bool := if l = [45] then (0, true) else match parseSt l with
  | none => (0, false)
  | some (r, _) => (r, !l.isEmpty)
theorem parse_snoc (l : List UInt8) (k : Nat) (hk : k < l.length) : parseSt (l.take (k + 1)) = pstep (parseSt (l.take k)) l[k] := by
  unfold parseSt
  rw [List.take_succ_eq_append_getElem hk, List.foldl_append]
  rfl
theorem parse_none (l : List UInt8) (k : Nat) (h : parseSt (l.take k) = none) : parseSt l = none := by
  have hn : ∀ m : List UInt8, m.foldl pstep none = none := by
    intro m
    induction m with
    | nil => rfl
    | cons a m ih => exact ih
  rw [← List.take_append_drop k l]
  unfold parseSt at h ⊢
  rw [List.foldl_append, h]
  exact hn _

theorem parse_fail {l : List UInt8} (hd : ¬ l = [45]) (h : parseSt l = none) : parseI l = (0, false) := by
  unfold parseI
  rw [if_neg hd, h]

set_option maxHeartbeats 1000000 in
theorem parse_any (l : List UInt8) (w : World) (hl : l.length ≤ 1000000) : Calls Try.prog 27 #[.string ⟨l.toArray⟩] w fun e w' => e = .returned (.tuple #[.int .i64 (parseI l).1, .bool (parseI l).2]) ∧ w = w' := by
  by_cases hd : l = [45]
  · subst hd
    go_enter Try.func27, Try.ntmps27
    go_wp2
    go_ret2
    exact ⟨rfl, rfl⟩
  · have hd' : (l == [45]) = false := by simpa using hd
    go_enter Try.func27, Try.ntmps27
    go_wp2
    go_loop [4, 5, 12] (fun r last i => ∃ (k : Nat) (r' last' : Int), k ≤ l.length ∧ i = .int .i64 k ∧ r = .int .i64 r' ∧ last = .int .i64 last' ∧ Hid (parseSt (l.take k) = some (r', last')) ∧ -1 ≤ last' ∧ last' ≤ 3) (fun _ _ i => l.length - (intOf i).toNat)
    case atStart => exact ⟨0, 0, -1, by omega, rfl, rfl, rfl, rfl, by omega, by omega⟩
    case round =>
      obtain ⟨k, r', last', hk, rfl, rfl, rfl, hst, hl0, hl1⟩ := hrel
      by_cases hlt : k < l.length
      · have hsn : Hid (parseSt (l.take (k + 1)) = pstep (some (r', last')) l[k]) := by rw [← hst.out]; exact parse_snoc l k hlt
        rcases idx_cases l[k] with h | h | h | h | h
        · go_wp2_with (go_at_call 63; go_must (refine (indexByte_is h _).mono ?_; rintro e w' ⟨rfl, rfl⟩))
          go_ret2
          have hp : parseI l = (0, false) := parse_fail hd (parse_none l (k + 1) (by rw [hsn.out]; exact pstep_no (by rw [h]; omega)))
          exact ⟨by rw [hp]; rfl, rfl⟩
        · by_cases hle : 0 ≤ last'
          · go_wp2_with (go_at_call 63; go_must (refine (indexByte_is h _).mono ?_; rintro e w' ⟨rfl, rfl⟩))
            go_ret2
            have hp : parseI l = (0, false) := parse_fail hd (parse_none l (k + 1) (by rw [hsn.out]; exact pstep_no (by rw [h]; omega)))
            exact ⟨by rw [hp]; rfl, rfl⟩
          · go_wp2_with (go_at_call 63; go_must (refine (indexByte_is h _).mono ?_; rintro e w' ⟨rfl, rfl⟩))
            go_round
            case rel => exact ⟨k + 1, _, _, by omega, by go_num, rfl, rfl, by rw [hsn.out, pstep_yes (by rw [h]; omega), h]; rfl, by omega, by omega⟩
            case measure => simp [intOf]; omega
        · by_cases hle : 1 ≤ last'
          · go_wp2_with (go_at_call 63; go_must (refine (indexByte_is h _).mono ?_; rintro e w' ⟨rfl, rfl⟩))
            go_ret2
            have hp : parseI l = (0, false) := parse_fail hd (parse_none l (k + 1) (by rw [hsn.out]; exact pstep_no (by rw [h]; omega)))
            exact ⟨by rw [hp]; rfl, rfl⟩
          · go_wp2_with (go_at_call 63; go_must (refine (indexByte_is h _).mono ?_; rintro e w' ⟨rfl, rfl⟩))
            go_round
            case rel => exact ⟨k + 1, _, _, by omega, by go_num, rfl, rfl, by rw [hsn.out, pstep_yes (by rw [h]; omega), h]; rfl, by omega, by omega⟩
            case measure => simp [intOf]; omega
        · by_cases hle : 2 ≤ last'
          · go_wp2_with (go_at_call 63; go_must (refine (indexByte_is h _).mono ?_; rintro e w' ⟨rfl, rfl⟩))
            go_ret2
            have hp : parseI l = (0, false) := parse_fail hd (parse_none l (k + 1) (by rw [hsn.out]; exact pstep_no (by rw [h]; omega)))
            exact ⟨by rw [hp]; rfl, rfl⟩
          · go_wp2_with (go_at_call 63; go_must (refine (indexByte_is h _).mono ?_; rintro e w' ⟨rfl, rfl⟩))
            go_round
            case rel => exact ⟨k + 1, _, _, by omega, by go_num, rfl, rfl, by rw [hsn.out, pstep_yes (by rw [h]; omega), h]; rfl, by omega, by omega⟩
            case measure => simp [intOf]; omega
        · by_cases hle : 3 ≤ last'
          · go_wp2_with (go_at_call 63; go_must (refine (indexByte_is h _).mono ?_; rintro e w' ⟨rfl, rfl⟩))
            go_ret2
            have hp : parseI l = (0, false) := parse_fail hd (parse_none l (k + 1) (by rw [hsn.out]; exact pstep_no (by rw [h]; omega)))
            exact ⟨by rw [hp]; rfl, rfl⟩
          · go_wp2_with (go_at_call 63; go_must (refine (indexByte_is h _).mono ?_; rintro e w' ⟨rfl, rfl⟩))
            go_round
            case rel => exact ⟨k + 1, _, _, by omega, by go_num, rfl, rfl, by rw [hsn.out, pstep_yes (by rw [h]; omega), h]; rfl, by omega, by omega⟩
            case measure => simp [intOf]; omega
      · have hke : k = l.length := by omega
        subst hke
        have hp : parseI l = (r', !l.isEmpty) := by
          unfold parseI
          rw [if_neg hd, show parseSt l = some (r', last') from by have := hst.out; rwa [List.take_length] at this]
        go_wp2
        go_ret2
        exact ⟨rfl, rfl⟩

end Go.Proofs.Ytacocolcighomaa
