/- The plain law of RightsDoes: what is reckoned bit by bit is what '&' answers. No walk. -/
import Derived.Test.YtioladnogpfeeaaBits
namespace Go.Proofs.Ytioladnogpfeeaa
set_option linter.unusedSimpArgs false
set_option linter.unusedVariables false
open Go.RowKit

theorem and_one (y : BitVec 64) : ((y &&& 1#64).toInt == 1) = y.getLsbD 0 := by
  have h : (y &&& 1#64).toNat = y.toNat % 2 := by
    rw [BitVec.toNat_and]
    exact Nat.and_one_is_mod _
  have hb : y.getLsbD 0 = decide (y.toNat % 2 = 1) := by
    rw [BitVec.getLsbD, Nat.testBit_zero]
  rw [hb, Bool.eq_iff_iff, beq_iff_eq, decide_eq_true_eq, BitVec.toInt_eq_toNat_cond, h]
  split <;> omega
theorem bit_vec (x : BitVec 64) {k : Nat} (hk : k < 64) : bitI x.toInt k = x.getLsbD k := by
  unfold bitI
  have e : x.toInt / 2 ^ k = (x.sshiftRight k).toInt := by
    rw [BitVec.toInt_sshiftRight, Int.shiftRight_eq_div_pow]
    simp
  rw [e, bits_and, of_toInt]
  show ((_ &&& 1#64).toInt == 1) = _
  rw [and_one, BitVec.getLsbD_sshiftRight]
  simp
  omega

/-- the bits of both, of the first k -/
def meetV (x y : BitVec 64) : Nat → BitVec 64
  | 0 => 0#64
  | k + 1 => if x.getLsbD k && y.getLsbD k then meetV x y k ||| (1#64 <<< k) else meetV x y k
def hasV (x y : BitVec 64) : Nat → Bool
  | 0 => true
  | k + 1 => hasV x y k && !(y.getLsbD k && !x.getLsbD k)
theorem meetV_bit (x y : BitVec 64) (k j : Nat) (hk : k ≤ 64) : (meetV x y k).getLsbD j = (decide (j < k) && (x.getLsbD j && y.getLsbD j)) := by
  induction k with
  | zero => simp [meetV]
  | succ k ih =>
    unfold meetV
    by_cases h : (x.getLsbD k && y.getLsbD k) = true
    · rw [if_pos h, BitVec.getLsbD_or, ih (by omega), BitVec.getLsbD_shiftLeft]
      by_cases hj : j = k
      · subst hj
        simp at h
        simp [h.1, h.2]
        try omega
      · by_cases h1 : j < k
        · simp [h1, show j < k + 1 by omega]
          try (intro h2; omega)
        · have h2 : ¬ j < k + 1 := by omega
          have h3 : ¬ (j - k = 0) := by omega
          simp [h1, h2, h3]
    · rw [if_neg h, ih (by omega)]
      by_cases hj : j = k
      · subst hj
        simp at h
        cases hx : x.getLsbD j
        · simp
        · simp [h hx]
      · by_cases h1 : j < k
        · simp [h1, show j < k + 1 by omega]
        · simp [h1, show ¬ j < k + 1 by omega]
theorem hasV_iff (x y : BitVec 64) (k : Nat) : hasV x y k = true ↔ ∀ j, j < k → y.getLsbD j = true → x.getLsbD j = true := by
  induction k with
  | zero => simp [hasV]
  | succ k ih =>
    unfold hasV
    rw [Bool.and_eq_true, ih]
    constructor
    · rintro ⟨h1, h2⟩ j hj hy
      by_cases e : j = k
      · subst e
        simpa [hy] using h2
      · exact h1 j (by omega) hy
    · intro h
      refine ⟨fun j hj => h j (by omega), ?_⟩
      cases hy : y.getLsbD k
      · simp
      · simp [h k (by omega) hy]
theorem msb_lt (x : BitVec 64) : x.getLsbD 63 = decide (x.toInt < 0) := by
  have h : x.msb = x.getLsbD 63 := by rw [BitVec.msb_eq_getLsbD_last]
  rw [← h, BitVec.msb_eq_toInt]
/-- all 64 -/
theorem meetV_all (x y : BitVec 64) : meetV x y 64 = x &&& y := by
  apply BitVec.eq_of_getLsbD_eq
  intro i hi
  rw [meetV_bit x y 64 i (by omega), BitVec.getLsbD_and]
  simp [hi]
theorem hasV_all (x y : BitVec 64) : hasV x y 64 = decide (x &&& y = y) := by
  rw [Bool.eq_iff_iff, hasV_iff, decide_eq_true_eq]
  constructor
  · intro h
    apply BitVec.eq_of_getLsbD_eq
    intro i hi
    rw [BitVec.getLsbD_and]
    cases hy : y.getLsbD i
    · simp
    · simp [h i hi hy]
  · intro h j _ hy
    have := congrArg (fun z => z.getLsbD j) h
    simp only [BitVec.getLsbD_and, hy, Bool.and_true] at this
    exact this

theorem ofInt_wrap (n : Int) : BitVec.ofInt 64 (wrap64 n) = BitVec.ofInt 64 n := by
  apply BitVec.eq_of_toNat_eq
  rw [BitVec.toNat_ofInt, BitVec.toNat_ofInt]
  congr 1
  unfold wrap64
  omega
theorem ofInt_pow {k : Nat} (hk : k < 64) : BitVec.ofInt 64 (2 ^ k) = 1#64 <<< k := by
  apply BitVec.eq_of_toNat_eq
  rw [BitVec.toNat_ofInt, BitVec.toNat_shiftLeft, Nat.shiftLeft_eq]
  have h1 : (2 : Int) ^ k = ((2 ^ k : Nat) : Int) := by simp
  rw [h1]
  show (((2 ^ k : Nat) : Int) % ((2 ^ 64 : Nat) : Int)).toNat = _
  rw [← Int.natCast_emod, Int.toNat_natCast]
  simp
theorem or_pow (m : BitVec 64) {k : Nat} (hk : k < 64) : bits .or .i64 m.toInt (wrap64 (2 ^ k)) = (m ||| (1#64 <<< k)).toInt := by
  rw [bits_or, of_toInt, ofInt_wrap, ofInt_pow hk]
theorem or_top (m : BitVec 64) : bits .or .i64 m.toInt (-9223372036854775808) = (m ||| (1#64 <<< 63)).toInt := by
  rw [bits_or, of_toInt]
  rfl
theorem meetV_yes {x y : BitVec 64} {k : Nat} (h1 : x.getLsbD k = true) (h2 : y.getLsbD k = true) : meetV x y (k + 1) = meetV x y k ||| (1#64 <<< k) := by
  rw [meetV, h1, h2]
  rfl
theorem meetV_no {x y : BitVec 64} {k : Nat} (h : (x.getLsbD k && y.getLsbD k) = false) : meetV x y (k + 1) = meetV x y k := by
  rw [meetV, h]
  rfl
theorem hasV_succ (x y : BitVec 64) (k : Nat) : hasV x y (k + 1) = (hasV x y k && !(y.getLsbD k && !x.getLsbD k)) := rfl

end Go.Proofs.Ytioladnogpfeeaa
