/- The graph in plain Lean: what a step leaves as it was, where ways end, that rights never grow. No walk. -/
import Derived.Test.YtioladnogpfeeaaGraphLaw2
namespace Go.Proofs.Ytioladnogpfeeaa
set_option linter.unusedSimpArgs false
set_option linter.unusedVariables false
open Go.RowKit

structure StepD where
  (d a b c e : Int)
def GraphD.step (G : GraphD) (x : StepD) : GraphD × Int × Int :=
  if x.d = 0 then G.gate else if x.d = 1 then ((G.cut x.a).1, 0, (G.cut x.a).2) else if x.d = 2 then G.cellC x.a x.b x.c else if x.d = 3 then G.funcC x.a x.e x.b x.c else if x.d = 4 then G.derive x.a x.b x.c else (G, 0, 0)
theorem GraphD.Wf.step {G : GraphD} (h : G.Wf) (x : StepD) : (G.step x).1.Wf := by
  unfold GraphD.step
  split
  · exact h.gate
  split
  · exact h.cut _
  split
  · exact h.cellC _ _ _
  split
  · exact h.funcC _ _ _ _
  split
  · exact h.derive _ _ _
  · exact h

/-- one graph behind another: nodes come, gates come or are cut, nothing else -/
structure GraphD.Later (G G' : GraphD) : Prop where
  nodes : ∃ ext, G'.nodes = G.nodes ++ ext
  shut : G.shut.length ≤ G'.shut.length ∧ ∀ k : Nat, G.shut.getD k false = true → G'.shut.getD k false = true
theorem GraphD.Later.refl (G : GraphD) : G.Later G := ⟨⟨[], by simp⟩, Nat.le_refl _, fun _ => id⟩
theorem GraphD.Later.trans {A B C : GraphD} (x : A.Later B) (y : B.Later C) : A.Later C := by
  obtain ⟨e1, h1⟩ := x.nodes
  obtain ⟨e2, h2⟩ := y.nodes
  exact ⟨⟨e1 ++ e2, by rw [h2, h1, List.append_assoc]⟩, Nat.le_trans x.shut.1 y.shut.1, fun k hk => y.shut.2 k (x.shut.2 k hk)⟩
theorem add_later (G : GraphD) (n : NodeD) : (∃ ext : List NodeD, (G.add n).1.nodes = G.nodes ++ ext ∧ ext.length ≤ 1) ∧ (G.add n).1.shut = G.shut := by
  unfold GraphD.add
  split
  · exact ⟨⟨[], by simp, by simp⟩, rfl⟩
  split
  · exact ⟨⟨[], by simp, by simp⟩, rfl⟩
  split
  · exact ⟨⟨[], by simp, by simp⟩, rfl⟩
  · exact ⟨⟨[n], rfl, by simp⟩, rfl⟩
theorem gate_later (G : GraphD) : G.gate.1.nodes = G.nodes ∧ G.shut.length ≤ G.gate.1.shut.length ∧ ∀ k : Nat, G.shut.getD k false = true → G.gate.1.shut.getD k false = true := by
  unfold GraphD.gate
  split
  · exact ⟨rfl, Nat.le_refl _, fun _ => id⟩
  · refine ⟨rfl, by simp, fun k hk => ?_⟩
    have hlt : k < G.shut.length := by
      rcases Nat.lt_or_ge k G.shut.length with h | h
      · exact h
      · rw [List.getD, List.getElem?_eq_none h] at hk; cases hk
    simpa [List.getD, List.getElem?_append_left hlt] using hk
theorem cut_later (G : GraphD) (k : Int) : (G.cut k).1.nodes = G.nodes ∧ (G.cut k).1.shut.length = G.shut.length ∧ ∀ j : Nat, G.shut.getD j false = true → (G.cut k).1.shut.getD j false = true := by
  unfold GraphD.cut
  split
  · refine ⟨rfl, by simp, fun j hj => ?_⟩
    have hlt : j < G.shut.length := by
      rcases Nat.lt_or_ge j G.shut.length with h | h
      · exact h
      · rw [List.getD, List.getElem?_eq_none h] at hj; cases hj
    simp only [List.getD, List.getElem?_set]
    by_cases e : k.toNat = j
    · simp [e, hlt]
    · simpa [e, List.getD] using hj
  · exact ⟨rfl, rfl, fun _ => id⟩
theorem GraphD.step_nodes (G : GraphD) (x : StepD) : (∃ ext : List NodeD, (G.step x).1.nodes = G.nodes ++ ext ∧ ext.length ≤ 1) ∧ G.shut.length ≤ (G.step x).1.shut.length ∧ ∀ k : Nat, G.shut.getD k false = true → (G.step x).1.shut.getD k false = true := by
  have keep : ∀ n, (∃ ext : List NodeD, (G.add n).1.nodes = G.nodes ++ ext ∧ ext.length ≤ 1) ∧ G.shut.length ≤ (G.add n).1.shut.length ∧ ∀ k : Nat, G.shut.getD k false = true → (G.add n).1.shut.getD k false = true := fun n => by
    obtain ⟨h1, h2⟩ := add_later G n
    rw [h2]
    exact ⟨h1, Nat.le_refl _, fun _ => id⟩
  have same : (∃ ext : List NodeD, G.nodes = G.nodes ++ ext ∧ ext.length ≤ 1) ∧ G.shut.length ≤ G.shut.length ∧ ∀ k : Nat, G.shut.getD k false = true → G.shut.getD k false = true := ⟨⟨[], by simp, by simp⟩, Nat.le_refl _, fun _ => id⟩
  unfold GraphD.step
  split
  · obtain ⟨h1, h2, h3⟩ := gate_later G
    exact ⟨⟨[], by simp [h1], by simp⟩, h2, h3⟩
  split
  · obtain ⟨h1, h2, h3⟩ := cut_later G x.a
    exact ⟨⟨[], by simp [h1], by simp⟩, by simp only [h2]; exact Nat.le_refl _, h3⟩
  split
  · unfold GraphD.cellC
    split
    · exact keep _
    · exact same
  split
  · unfold GraphD.funcC
    split
    · exact keep _
    · exact same
  split
  · unfold GraphD.derive
    split
    · exact keep _
    · exact same
  · exact same
theorem GraphD.step_later (G : GraphD) (x : StepD) : G.Later (G.step x).1 := by
  obtain ⟨⟨e, h1, _⟩, h2, h3⟩ := G.step_nodes x
  exact ⟨⟨e, h1⟩, h2, h3⟩

/-- where ways end -/
theorem GraphD.path_last {G : GraphD} (hW : G.Wf) : ∀ (f : Nat) (i : Int), i.toNat < f → G.has i = true → ∃ pre t, G.path i = pre ++ [t] ∧ t.parent = -1 ∧ ∃ k : Nat, G.nodes[k]? = some t := by
  intro f
  induction f with
  | zero => intro i hi; omega
  | succ f ih =>
    intro i hi hh
    have ok := hW.get hh
    have hget : G.nodes[i.toNat]? = some (G.nodes.getD i.toNat zeroN) := by
      simp [GraphD.has] at hh
      have : i.toNat < G.nodes.length := by omega
      simp [List.getD, this]
    rw [GraphD.path_yes hW hh]
    by_cases hp : G.has (G.nodes.getD i.toNat zeroN).parent = true
    · have hp0 : 0 ≤ (G.nodes.getD i.toNat zeroN).parent := by simp only [GraphD.has, decide_eq_true_eq] at hp; exact hp.1
      have hp1 := ok.p1
      obtain ⟨pre, t, h1, h2, h3⟩ := ih (G.nodes.getD i.toNat zeroN).parent (by omega) hp
      exact ⟨_ :: pre, t, by rw [h1]; rfl, h2, h3⟩
    · refine ⟨[], _, by rw [GraphD.path_no (by simpa using hp)]; rfl, ?_, _, hget⟩
      have h0 := ok.p0
      have h1 := ok.p1
      have hi2 : i.toNat < G.nodes.length := (List.getElem?_eq_some_iff.1 hget).1
      simp only [GraphD.has, decide_eq_true_eq, not_and] at hp
      rcases Int.lt_or_le (G.nodes.getD i.toNat zeroN).parent 0 with h | h
      · omega
      · have := hp h; omega
theorem GraphD.target_ok {G : GraphD} (hW : G.Wf) {i : Int} (hh : G.has i = true) : (G.target i).2 = true ∧ (G.target i).1.parent = -1 ∧ ((G.target i).1.plugin = -1 ∧ 0 ≤ (G.target i).1.cell ∧ (G.target i).1.cell < 12 ∧ (G.target i).1.func = 0 ∨ 0 ≤ (G.target i).1.plugin ∧ (G.target i).1.plugin < 4 ∧ 0 ≤ (G.target i).1.func ∧ (G.target i).1.func < 6 ∧ (G.target i).1.cell = 0) := by
  obtain ⟨pre, t, h1, h2, k, hk⟩ := GraphD.path_last hW (i.toNat + 1) i (by omega) hh
  have ht : G.target i = (t, true) := by
    unfold GraphD.target
    rw [h1]
    simp [List.getLastD_eq_getLast?]
  rw [ht]
  exact ⟨rfl, h2, (hW.node k t hk).t h2⟩

/-- old ways stay -/
theorem GraphD.Later.has {G G' : GraphD} (l : G.Later G') {i : Int} (h : G.has i = true) : G'.has i = true ∧ G'.nodes.getD i.toNat zeroN = G.nodes.getD i.toNat zeroN := by
  obtain ⟨e, he⟩ := l.nodes
  simp [GraphD.has] at h
  have hlt : i.toNat < G.nodes.length := by omega
  refine ⟨by simp [GraphD.has, he]; omega, ?_⟩
  rw [he]
  simp [List.getD, List.getElem?_append_left hlt]
theorem GraphD.Later.path {G G' : GraphD} (l : G.Later G') (hW : G.Wf) (hW' : G'.Wf) : ∀ (f : Nat) (i : Int), i.toNat < f → G.has i = true → G'.path i = G.path i := by
  intro f
  induction f with
  | zero => intro i hi; omega
  | succ f ih =>
    intro i hi hh
    obtain ⟨hh', hn⟩ := l.has hh
    have ok := hW.get hh
    rw [GraphD.path_yes hW hh, GraphD.path_yes hW' hh', hn]
    congr 1
    by_cases hp : G.has (G.nodes.getD i.toNat zeroN).parent = true
    · have hp0 : 0 ≤ (G.nodes.getD i.toNat zeroN).parent := by simp only [GraphD.has, decide_eq_true_eq] at hp; exact hp.1
      have hp1 := ok.p1
      exact ih _ (by omega) hp
    · have h0 := ok.p0
      have h1 := ok.p1
      have hi2 : i.toNat < G.nodes.length := by simp [GraphD.has] at hh; omega
      have hneg : (G.nodes.getD i.toNat zeroN).parent < 0 := by
        simp only [GraphD.has, decide_eq_true_eq, not_and] at hp
        rcases Int.lt_or_le (G.nodes.getD i.toNat zeroN).parent 0 with h | h
        · exact h
        · have := hp h; omega
      rw [GraphD.path_no (G := G) (by simpa using hp), GraphD.path_no (G := G') (by simp only [GraphD.has, decide_eq_false_iff_not, not_and]; intro h; omega)]
theorem GraphD.Later.closed {G G' : GraphD} (l : G.Later G') {n : NodeD} (hg : n.gate = -1 ∨ 0 ≤ n.gate ∧ n.gate < G.shut.length) (h : closedOn G n = true) : closedOn G' n = true := by
  simp only [closedOn, GraphD.isOpen, GraphD.hasGate, Bool.and_eq_true, decide_eq_true_eq, Bool.not_eq_true', Bool.and_eq_false_iff, decide_eq_false_iff_not, Bool.not_eq_false'] at h ⊢
  obtain ⟨h0, h1⟩ := h
  refine ⟨h0, ?_⟩
  rcases hg with hg | hg
  · omega
  · rcases h1 with h1 | h1
    · exact absurd hg h1
    · exact .inr (l.shut.2 _ h1)
theorem GraphD.path_ok {G : GraphD} (hW : G.Wf) : ∀ (f : Nat) (i : Int), ∀ n ∈ G.pathF f i, checkI n.rights = true ∧ (n.gate = -1 ∨ 0 ≤ n.gate ∧ n.gate < G.shut.length) := by
  intro f
  induction f with
  | zero => intro i n hn; simp [GraphD.pathF] at hn
  | succ f ih =>
    intro i n hn
    unfold GraphD.pathF at hn
    split at hn
    · rename_i hk
      rcases List.mem_cons.1 hn with rfl | hn
      · exact ⟨(hW.get hk).r, (hW.get hk).g⟩
      · exact ih _ n hn
    · simp at hn
/-- an old capability has what it had, or nothing -/
theorem GraphD.Later.rights {G G' : GraphD} (l : G.Later G') (hW : G.Wf) (hW' : G'.Wf) {i : Int} (h : G.has i = true) : G'.rights i = G.rights i ∨ G'.rights i = 0 := by
  have hp := l.path hW hW' (i.toNat + 1) i (by omega) h
  unfold GraphD.rights
  rw [hp]
  by_cases hc : G.path i = [] ∨ (G.path i).any (closedOn G) = true
  · rw [if_pos hc]
    by_cases hc' : G.path i = [] ∨ (G.path i).any (closedOn G') = true
    · rw [if_pos hc']; exact .inl rfl
    · exfalso
      apply hc'
      rcases hc with hc | hc
      · exact .inl hc
      · right
        obtain ⟨n, hn, hcn⟩ := List.any_eq_true.1 hc
        exact List.any_eq_true.2 ⟨n, hn, l.closed (GraphD.path_ok hW _ i n hn).2 hcn⟩
  · rw [if_neg hc]
    by_cases hc' : G.path i = [] ∨ (G.path i).any (closedOn G') = true
    · rw [if_pos hc']; exact .inr rfl
    · rw [if_neg hc']; exact .inl rfl

/-- rights without others -/
def andNotI (a b : Int) : Int := IntKind.wrap .i64 ((BitVec.ofInt 64 a &&& ~~~(BitVec.ofInt 64 b)).toNat : Int)
theorem andNot_vec (x y : BitVec 64) : andNotI x.toInt y.toInt = (x &&& ~~~y).toInt := by
  unfold andNotI
  rw [BitVec.ofInt_toInt, BitVec.ofInt_toInt]
  exact wrap_toInt _
theorem andNot_zero (b : Int) : andNotI 0 b = 0 := by
  have e : (0 : Int) = (0#64).toInt := rfl
  unfold andNotI
  rw [e, BitVec.ofInt_toInt, BitVec.zero_and]
  rfl
theorem andNot_self {a : Int} (h : ∃ x : BitVec 64, a = x.toInt) : andNotI a a = 0 := by
  obtain ⟨x, rfl⟩ := h
  rw [andNot_vec]
  have : x &&& ~~~x = 0#64 := by
    apply BitVec.eq_of_getLsbD_eq
    intro k hk
    simp [hk]
  rw [this]
  rfl
theorem rights_vec {G : GraphD} (hW : G.Wf) (i : Int) : ∃ x : BitVec 64, G.rights i = x.toInt := by
  unfold GraphD.rights
  split
  · exact ⟨0#64, rfl⟩
  · exact ⟨_, fold_toInt _ (fun n hn => (GraphD.path_ok hW _ i n hn).1) 15#64⟩
theorem rights_own {G : GraphD} (hW : G.Wf) {i : Int} (h : G.has i = true) : andNotI (G.rights i) (G.nodes.getD i.toNat zeroN).rights = 0 := by
  have hr := (hW.get h).r
  have hpth := GraphD.path_yes hW h
  unfold GraphD.rights
  split
  · exact andNot_zero _
  · have hP : ∀ n ∈ G.path i, checkI n.rights = true := fun n hn => (GraphD.path_ok hW _ i n hn).1
    have e15 : (15 : Int) = (15#64).toInt := rfl
    rw [e15, fold_toInt _ hP, small_of hr, andNot_vec]
    have : (G.path i).foldl (fun v n => v &&& BitVec.ofInt 64 n.rights) 15#64 &&& ~~~(BitVec.ofInt 64 (G.nodes.getD i.toNat zeroN).rights) = 0#64 := by
      apply BitVec.eq_of_getLsbD_eq
      intro k hk
      rw [BitVec.getLsbD_and, fold_bit, hpth, List.all_cons, BitVec.getLsbD_not]
      generalize (BitVec.ofInt 64 (G.nodes.getD i.toNat zeroN).rights).getLsbD k = q
      cases q <;> simp
    rw [this]
    rfl
theorem rights_parent {G : GraphD} (hW : G.Wf) {i : Int} (h : G.has i = true) : andNotI (G.rights i) (G.rights (G.nodes.getD i.toNat zeroN).parent) = 0 ∨ G.has (G.nodes.getD i.toNat zeroN).parent = false := by
  cases hp : G.has (G.nodes.getD i.toNat zeroN).parent
  · exact .inr rfl
  · left
    have hpth := GraphD.path_yes hW h
    generalize (G.nodes.getD i.toNat zeroN).parent = p at *
    have hne : G.path p ≠ [] := by rw [GraphD.path_yes hW hp]; simp
    have hcl : (G.path p).any (closedOn G) = true → (G.path i).any (closedOn G) = true := by
      intro hc
      rw [hpth, List.any_cons, hc, Bool.or_true]
    have ri : G.rights i = if G.path i = [] ∨ (G.path i).any (closedOn G) then 0 else (G.path i).foldl (fun r n => meetI r n.rights) 15 := rfl
    have rp : G.rights p = if G.path p = [] ∨ (G.path p).any (closedOn G) then 0 else (G.path p).foldl (fun r n => meetI r n.rights) 15 := rfl
    by_cases hci : G.path i = [] ∨ (G.path i).any (closedOn G) = true
    · rw [ri, if_pos hci]; exact andNot_zero _
    · have hcp : ¬ (G.path p = [] ∨ (G.path p).any (closedOn G) = true) := by
        rintro (h1 | h1)
        · exact hne h1
        · exact hci (.inr (hcl h1))
      rw [ri, rp, if_neg hci, if_neg hcp]
      have hP : ∀ n ∈ G.path i, checkI n.rights = true := fun n hn => (GraphD.path_ok hW _ i n hn).1
      have hQ : ∀ n ∈ G.path p, checkI n.rights = true := fun n hn => (GraphD.path_ok hW _ p n hn).1
      have e15 : (15 : Int) = (15#64).toInt := rfl
      rw [e15, fold_toInt _ hP, fold_toInt _ hQ, andNot_vec]
      have : (G.path i).foldl (fun v n => v &&& BitVec.ofInt 64 n.rights) 15#64 &&& ~~~((G.path p).foldl (fun v n => v &&& BitVec.ofInt 64 n.rights) 15#64) = 0#64 := by
        apply BitVec.eq_of_getLsbD_eq
        intro k hk
        rw [BitVec.getLsbD_and, BitVec.getLsbD_not, fold_bit, fold_bit, hpth, List.all_cons]
        generalize ((G.path p).all fun n => (BitVec.ofInt 64 n.rights).getLsbD k) = q
        generalize (BitVec.ofInt 64 (G.nodes.getD i.toNat zeroN).rights).getLsbD k = q2
        generalize (15#64).getLsbD k = q3
        cases q <;> cases q2 <;> cases q3 <;> simp [hk]
      rw [this]
      rfl
theorem target_parent {G : GraphD} (hW : G.Wf) {i : Int} (h : G.has i = true) (hp : G.has (G.nodes.getD i.toNat zeroN).parent = true) : G.target i = G.target (G.nodes.getD i.toNat zeroN).parent := by
  have hpth := GraphD.path_yes hW h
  have hp2 := GraphD.path_yes hW hp
  unfold GraphD.target
  rw [hpth, hp2]
  simp [List.getLastD_cons]
theorem gates_parent {G : GraphD} (hW : G.Wf) {i : Int} (h : G.has i = true) : ∃ pre, G.gatesC i = pre ++ G.gatesC (G.nodes.getD i.toNat zeroN).parent := by
  unfold GraphD.gatesC
  rw [GraphD.path_yes hW h]
  generalize G.path (G.nodes.getD i.toNat zeroN).parent = P
  refine ⟨gatesOf [G.nodes.getD i.toNat zeroN], ?_⟩
  unfold gatesOf
  rw [← List.map_append, ← List.filter_append]
  rfl

/-- behind a gate that was cut -/
theorem shut_closed {G : GraphD} {g : Int} (h0 : 0 ≤ g) (hs : G.shut.getD g.toNat false = true) (n : NodeD) (hn : n.gate = g) : closedOn G n = true := by
  simp only [closedOn, GraphD.isOpen, hn, Bool.and_eq_true, decide_eq_true_eq, Bool.not_eq_true', Bool.and_eq_false_iff, Bool.not_eq_false']
  exact ⟨h0, .inr hs⟩
theorem through_none {G : GraphD} {g : Int} (h0 : 0 ≤ g) (hs : G.shut.getD g.toNat false = true) {i : Int} (ht : (G.gatesC i).contains g = true) : G.rights i = 0 := by
  unfold GraphD.rights
  rw [if_pos]
  right
  have hm : g ∈ G.gatesC i := by simpa using ht
  unfold GraphD.gatesC gatesOf at hm
  obtain ⟨n, hn, rfl⟩ := List.mem_map.1 hm
  have hn' := (List.mem_filter.1 hn).1
  exact List.any_eq_true.2 ⟨n, hn', shut_closed h0 hs n rfl⟩
theorem cut_shut {G : GraphD} {g : Int} (h : G.hasGate g = true) : (G.cut g).1.shut.getD g.toNat false = true ∧ (G.cut g).1.nodes = G.nodes ∧ (G.cut g).2 = 0 ∧ 0 ≤ g := by
  unfold GraphD.cut
  rw [if_pos h]
  simp [GraphD.hasGate] at h
  have hl : g.toNat < G.shut.length := by omega
  exact ⟨by simp [List.getD, hl], rfl, rfl, h.1⟩
theorem path_same {G G' : GraphD} (hn : G'.nodes = G.nodes) (i : Int) : G'.path i = G.path i := by
  have hh : ∀ k, G'.has k = G.has k := fun k => by simp [GraphD.has, hn]
  have key : ∀ (f : Nat) (i : Int), G'.pathF f i = G.pathF f i := by
    intro f
    induction f with
    | zero => intro i; rfl
    | succ f ih => intro i; unfold GraphD.pathF; rw [hh, hn]; simp only [ih]
  exact key _ i
theorem not_through {G : GraphD} {g : Int} (h : G.hasGate g = true) {i : Int} (ht : (G.gatesC i).contains g = false) : (G.cut g).1.rights i = G.rights i := by
  obtain ⟨_, hn, _, h0⟩ := cut_shut h
  have hp := path_same hn i
  have hc : ∀ n ∈ G.path i, closedOn (G.cut g).1 n = closedOn G n := by
    intro n hnm
    by_cases hg : 0 ≤ n.gate
    · have hne : n.gate ≠ g := by
        intro e
        have : g ∈ G.gatesC i := by
          unfold GraphD.gatesC gatesOf
          exact List.mem_map.2 ⟨n, List.mem_filter.2 ⟨hnm, by simp [hg]⟩, e⟩
        have h2 : (G.gatesC i).contains g = true := by simpa using this
        rw [h2] at ht
        cases ht
      have hne2 : g.toNat ≠ n.gate.toNat := by omega
      unfold closedOn GraphD.isOpen GraphD.hasGate GraphD.cut
      rw [if_pos h]
      simp [List.getD, List.getElem?_set_ne hne2]
    · simp [closedOn, hg]
  have hany : ∀ l : List NodeD, (∀ n ∈ l, closedOn (G.cut g).1 n = closedOn G n) → l.any (closedOn (G.cut g).1) = l.any (closedOn G) := by
    intro l
    induction l with
    | nil => intro _; rfl
    | cons a l ih => intro hl; rw [List.any_cons, List.any_cons, hl a (by simp), ih (fun n hn => hl n (by simp [hn]))]
  unfold GraphD.rights
  rw [hp, hany _ hc]
end Go.Proofs.Ytioladnogpfeeaa
