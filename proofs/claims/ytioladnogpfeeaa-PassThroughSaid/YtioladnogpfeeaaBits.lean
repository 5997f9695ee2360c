/- Plain laws on '&', '|' of 64-bit integers, by bit vectors. No program in sight. -/
import Derived.WalkKit
namespace Go.Proofs.Ytioladnogpfeeaa
set_option linter.unusedSimpArgs false
set_option linter.unusedVariables false
open Go.RowKit

theorem wrap_toInt (x : BitVec 64) : IntKind.i64.wrap (x.toNat : Int) = x.toInt := by
  have h := x.isLt
  rw [BitVec.toInt_eq_toNat_cond, IntKind.wrap_i64]
  split <;> omega
theorem bits_and (a b : Int) : bits .and .i64 a b = (BitVec.ofInt 64 a &&& BitVec.ofInt 64 b).toInt := wrap_toInt _
theorem bits_or (a b : Int) : bits .or .i64 a b = (BitVec.ofInt 64 a ||| BitVec.ofInt 64 b).toInt := wrap_toInt _
theorem of_toInt (x : BitVec 64) : BitVec.ofInt 64 x.toInt = x := BitVec.ofInt_toInt

/-- a 64-bit integer is a bit vector's -/
theorem vec_of {a : Int} (h0 : -9223372036854775808 ≤ a) (h1 : a ≤ 9223372036854775807) : ∃ x : BitVec 64, a = x.toInt := by
  refine ⟨BitVec.ofInt 64 a, ?_⟩
  rw [BitVec.toInt_ofInt, Int.bmod_def]
  split <;> omega

def meetI (a b : Int) : Int := bits .and .i64 a b
def hasI (a b : Int) : Bool := meetI a b == b

theorem meetI_vec (x y : BitVec 64) : meetI x.toInt y.toInt = (x &&& y).toInt := by
  unfold meetI
  rw [bits_and, of_toInt, of_toInt]
theorem hasI_vec (x y : BitVec 64) : hasI x.toInt y.toInt = decide (x &&& y = y) := by
  unfold hasI
  rw [meetI_vec, Bool.eq_iff_iff, beq_iff_eq, BitVec.toInt_inj, decide_eq_true_eq]

theorem meet_comm {a b : Int} (ha : ∃ x : BitVec 64, a = x.toInt) (hb : ∃ x : BitVec 64, b = x.toInt) : meetI a b = meetI b a := by
  obtain ⟨x, rfl⟩ := ha
  obtain ⟨y, rfl⟩ := hb
  rw [meetI_vec, meetI_vec, BitVec.and_comm]
theorem meet_self {a : Int} (ha : ∃ x : BitVec 64, a = x.toInt) : meetI a a = a := by
  obtain ⟨x, rfl⟩ := ha
  rw [meetI_vec, BitVec.and_self]
theorem meet_assoc {a b c : Int} (ha : ∃ x : BitVec 64, a = x.toInt) (hb : ∃ x : BitVec 64, b = x.toInt) (hc : ∃ x : BitVec 64, c = x.toInt) : meetI (meetI a b) c = meetI a (meetI b c) := by
  obtain ⟨x, rfl⟩ := ha
  obtain ⟨y, rfl⟩ := hb
  obtain ⟨z, rfl⟩ := hc
  rw [meetI_vec, meetI_vec, meetI_vec, meetI_vec, BitVec.and_assoc]
theorem meet_ex (a b : Int) : ∃ x : BitVec 64, meetI a b = x.toInt := ⟨_, bits_and a b⟩
theorem has_left {a b : Int} (ha : ∃ x : BitVec 64, a = x.toInt) (hb : ∃ x : BitVec 64, b = x.toInt) : hasI a (meetI a b) = true := by
  obtain ⟨x, rfl⟩ := ha
  obtain ⟨y, rfl⟩ := hb
  rw [meetI_vec, hasI_vec, ← BitVec.and_assoc, BitVec.and_self]
  simp
theorem has_right {a b : Int} (ha : ∃ x : BitVec 64, a = x.toInt) (hb : ∃ x : BitVec 64, b = x.toInt) : hasI b (meetI a b) = true := by
  rw [meet_comm ha hb]
  exact has_left hb ha
theorem has_meet {a b c : Int} (ha : ∃ x : BitVec 64, a = x.toInt) (hb : ∃ x : BitVec 64, b = x.toInt) (hc : ∃ x : BitVec 64, c = x.toInt) : hasI (meetI a b) c = (hasI a c && hasI b c) := by
  obtain ⟨x, rfl⟩ := ha
  obtain ⟨y, rfl⟩ := hb
  obtain ⟨z, rfl⟩ := hc
  rw [meetI_vec, hasI_vec, hasI_vec, hasI_vec, Bool.eq_iff_iff]
  simp only [decide_eq_true_eq, Bool.and_eq_true]
  constructor
  · intro h
    constructor
    · have : x &&& z = z := by
        rw [← h, BitVec.and_assoc, ← BitVec.and_assoc x x, BitVec.and_self]
      exact this
    · have : y &&& z = z := by
        rw [← h, BitVec.and_comm x y, BitVec.and_assoc, ← BitVec.and_assoc y y, BitVec.and_self]
      exact this
  · rintro ⟨h1, h2⟩
    rw [BitVec.and_assoc, h2, h1]

def checkI (a : Int) : Bool := decide (0 ≤ a ∧ a ≤ 15)
/-- bit i of a number -/
def bitI (a : Int) (i : Nat) : Bool := bits .and .i64 (a / 2 ^ i) 1 == 1
end Go.Proofs.Ytioladnogpfeeaa
