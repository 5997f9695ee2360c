/- The reference's own way of rights, in plain Lean, and that it comes to the same. No walk. -/
import Derived.Test.YtioladnogpfeeaaGraphLaw
import Derived.Test.YtioladnogpfeeaaRightsLaw2
namespace Go.Proofs.Ytioladnogpfeeaa
set_option linter.unusedSimpArgs false
set_option linter.unusedVariables false
open Go.RowKit

def GraphD.wayF (G : GraphD) : Nat → Int → List Int
  | 0, _ => []
  | f + 1, i => if G.has i then i :: G.wayF f (G.nodes.getD i.toNat zeroN).parent else []
def GraphD.way (G : GraphD) (i : Int) : List Int := G.wayF (i.toNat + 1) i
def GraphD.at_ (G : GraphD) (i : Int) : NodeD := G.nodes.getD i.toNat zeroN

theorem GraphD.wayF_more {G : GraphD} (h : G.Wf) : ∀ (f : Nat) (i : Int), i.toNat < f → G.wayF f i = G.way i := by
  intro f
  induction f using Nat.strongRecOn with
  | _ f ih =>
    intro i hi
    cases f with
    | zero => omega
    | succ f =>
      unfold GraphD.way
      by_cases hh : G.has i = true
      · have ok := h.get hh
        have hp := ok.p0
        have hp1 := ok.p1
        have hi0 : 0 ≤ i := by simp [GraphD.has] at hh; exact hh.1
        unfold GraphD.wayF
        rw [if_pos hh, if_pos hh]
        congr 1
        generalize (G.nodes.getD i.toNat zeroN).parent = p at *
        by_cases hpn : p < 0
        · have hno : G.has p = false := by simp [GraphD.has]; omega
          cases f with
          | zero => cases hn : i.toNat <;> simp [GraphD.wayF, hno]
          | succ f => cases hn : i.toNat <;> simp [GraphD.wayF, hno]
        · have e1 := ih f (by omega) p (by omega)
          rw [e1]
          rcases Nat.lt_or_ge i.toNat (f + 1) with h2 | h2
          · have e2 := ih i.toNat (by omega) p (by omega)
            rw [e2]
          · omega
      · cases f <;> simp [GraphD.wayF, hh]
theorem GraphD.way_yes {G : GraphD} (h : G.Wf) {i : Int} (hi : G.has i = true) : G.way i = i :: G.way (G.nodes.getD i.toNat zeroN).parent := by
  have ok := h.get hi
  have hp1 := ok.p1
  have hp0 := ok.p0
  have hi0 : 0 ≤ i := by simp [GraphD.has] at hi; exact hi.1
  rw [GraphD.way, GraphD.wayF, if_pos hi]
  congr 1
  generalize (G.nodes.getD i.toNat zeroN).parent = p at *
  by_cases hpn : p < 0
  · have hno : G.has p = false := by simp [GraphD.has]; omega
    unfold GraphD.way
    cases i.toNat <;> simp [GraphD.wayF, hno]
  · exact GraphD.wayF_more h _ _ (by omega)
theorem GraphD.way_no {G : GraphD} {i : Int} (hi : G.has i = false) : G.way i = [] := by
  rw [GraphD.way, GraphD.wayF, hi]
  rfl
theorem GraphD.wayF_path {G : GraphD} : ∀ (f : Nat) (i : Int), (G.wayF f i).map G.at_ = G.pathF f i := by
  intro f
  induction f with
  | zero => intro i; rfl
  | succ f ih =>
    intro i
    unfold GraphD.wayF GraphD.pathF
    split
    · rw [List.map_cons, ih]
      rfl
    · rfl
theorem GraphD.way_path {G : GraphD} (i : Int) : (G.way i).map G.at_ = G.path i := GraphD.wayF_path _ _
theorem GraphD.way_length {G : GraphD} (i : Int) : (G.way i).length = (G.path i).length := by rw [← GraphD.way_path, List.length_map]
theorem GraphD.wayF_has {G : GraphD} : ∀ (f : Nat) (i : Int), ∀ k ∈ G.wayF f i, G.has k = true := by
  intro f
  induction f with
  | zero => intro i k hk; simp [GraphD.wayF] at hk
  | succ f ih =>
    intro i k hk
    unfold GraphD.wayF at hk
    split at hk
    · rcases List.mem_cons.1 hk with rfl | hk
      · assumption
      · exact ih _ k hk
    · simp at hk
theorem GraphD.way_has {G : GraphD} (i : Int) : ∀ k ∈ G.way i, G.has k = true := GraphD.wayF_has _ _

/-- a right is on the whole way -/
def allOn (G : GraphD) (P : List NodeD) (k : Nat) : Bool := P.all fun n => bitI n.rights k && !closedOn G n
def netRights (G : GraphD) (i : Int) (k : Nat) : Int := if G.path i = [] then 0 else ((List.range k).map fun j => if allOn G (G.path i) j then (2 : Int) ^ j else 0).sum

def foldV (P : List NodeD) : BitVec 64 := P.foldl (fun v n => v &&& BitVec.ofInt 64 n.rights) 15#64
theorem fold_toInt (P : List NodeD) (hP : ∀ n ∈ P, checkI n.rights = true) (v : BitVec 64) : P.foldl (fun r n => meetI r n.rights) v.toInt = (P.foldl (fun v n => v &&& BitVec.ofInt 64 n.rights) v).toInt := by
  induction P generalizing v with
  | nil => rfl
  | cons n P ih =>
    rw [List.foldl_cons, List.foldl_cons]
    have e : meetI v.toInt n.rights = (v &&& BitVec.ofInt 64 n.rights).toInt := by
      unfold meetI
      rw [bits_and, of_toInt]
    rw [e, ih (fun m hm => hP m (by simp [hm]))]
theorem fold_bit (P : List NodeD) (v : BitVec 64) (k : Nat) : (P.foldl (fun v n => v &&& BitVec.ofInt 64 n.rights) v).getLsbD k = (v.getLsbD k && P.all fun n => (BitVec.ofInt 64 n.rights).getLsbD k) := by
  induction P generalizing v with
  | nil => simp
  | cons n P ih =>
    rw [List.foldl_cons, ih, BitVec.getLsbD_and, List.all_cons, Bool.and_assoc]
theorem low_sum : ∀ n : Nat, n < 16 → ((n : Nat) : Int) = ((List.range 4).map fun j => if n.testBit j then (2 : Int) ^ j else 0).sum := by decide
theorem small_of {a : Int} (h : checkI a = true) : a = (BitVec.ofInt 64 a).toInt := by
  have h' : 0 ≤ a ∧ a ≤ 15 := by simpa [checkI] using h
  rw [BitVec.toInt_ofInt, Int.bmod_def]
  split <;> omega
theorem net_rights {G : GraphD} (h : G.Wf) (i : Int) : netRights G i 4 = G.rights i := by
  unfold netRights GraphD.rights
  by_cases hp : G.path i = []
  · rw [if_pos hp, if_pos (.inl hp)]
  · rw [if_neg hp]
    cases hc : (G.path i).any (closedOn G)
    · rw [if_neg (by simp [hp])]
      have hin : ∀ (f : Nat) (k : Int), ∀ n ∈ G.pathF f k, checkI n.rights = true := by
        intro f
        induction f with
        | zero => intro k n hn; simp [GraphD.pathF] at hn
        | succ f ih =>
          intro k n hn
          unfold GraphD.pathF at hn
          split at hn
          · rename_i hk
            rcases List.mem_cons.1 hn with rfl | hn
            · exact (h.get hk).r
            · exact ih _ n hn
          · simp at hn
      have hP : ∀ n ∈ G.path i, checkI n.rights = true := hin _ i
      have e15 : (15 : Int) = (15#64).toInt := rfl
      rw [e15, fold_toInt _ hP]
      have hv : ∀ k, (foldV (G.path i)).getLsbD k = ((15#64).getLsbD k && (G.path i).all fun n => (BitVec.ofInt 64 n.rights).getLsbD k) := fold_bit _ _
      show _ = (foldV (G.path i)).toInt
      have hlt : (foldV (G.path i)).toNat < 16 := by
        have : (foldV (G.path i)) = (foldV (G.path i)) &&& 15#64 := by
          apply BitVec.eq_of_getLsbD_eq
          intro k hk
          rw [BitVec.getLsbD_and, hv k]
          cases (15#64).getLsbD k <;> simp
        rw [this, BitVec.toNat_and]
        have h2 : (15#64).toNat = 2 ^ 4 - 1 := rfl
        rw [h2, Nat.and_two_pow_sub_one_eq_mod]
        omega
      have hti : (foldV (G.path i)).toInt = ((foldV (G.path i)).toNat : Int) := by
        rw [BitVec.toInt_eq_toNat_cond]
        split <;> omega
      rw [hti, low_sum _ hlt]
      congr 1
      apply List.map_congr_left
      intro j hj
      have hj4 : j < 4 := List.mem_range.1 hj
      have hb : allOn G (G.path i) j = (foldV (G.path i)).toNat.testBit j := by
        have h1 := hv j
        rw [BitVec.getLsbD] at h1
        rw [h1]
        have h15 : (15#64).getLsbD j = true := by
          have : j = 0 ∨ j = 1 ∨ j = 2 ∨ j = 3 := by omega
          rcases this with rfl | rfl | rfl | rfl <;> rfl
        rw [h15, Bool.true_and]
        unfold allOn
        rw [List.any_eq_false] at hc
        rw [Bool.eq_iff_iff, List.all_eq_true, List.all_eq_true]
        constructor
        · intro hh n hn
          have := hh n hn
          rw [Bool.and_eq_true] at this
          rw [← bit_vec _ (by omega), ← small_of (hP n hn)]
          exact this.1
        · intro hh n hn
          have h2 := hh n hn
          rw [← bit_vec _ (by omega), ← small_of (hP n hn)] at h2
          rw [h2]
          simpa using hc n hn
      rw [hb]
    · rw [if_pos (.inr rfl)]
      have hz : ∀ j, allOn G (G.path i) j = false := by
        intro j
        obtain ⟨n, hn, hcn⟩ := List.any_eq_true.1 hc
        unfold allOn
        rw [List.all_eq_false]
        exact ⟨n, hn, by simp [hcn]⟩
      simp [hz, List.range_succ]

end Go.Proofs.Ytioladnogpfeeaa
