/- The graph in plain Lean: what each method answers, and what becomes of the graph. No walk, no program. -/
import Derived.Test.YtioladnogpfeeaaBits
namespace Go.Proofs.Ytioladnogpfeeaa
set_option linter.unusedSimpArgs false
set_option linter.unusedVariables false
open Go.RowKit

structure NodeD where
  (parent gate rights cell plugin func : Int)
abbrev NodeD.cells (n : NodeD) : List Value := [.int .i64 n.parent, .int .i64 n.gate, .int .i64 n.rights, .int .i64 n.cell, .int .i64 n.plugin, .int .i64 n.func]
theorem NodeD.len (n : NodeD) : n.cells.length = 6 := rfl
theorem NodeD.one (n : NodeD) : ∀ u ∈ n.cells, u.oneCell' = true := by simp [Value.oneCell']
def zeroN : NodeD := ⟨0, 0, 0, 0, 0, 0⟩

structure GraphD where
  nodes : List NodeD
  shut : List Bool

def GraphD.has (G : GraphD) (n : Int) : Bool := decide (0 ≤ n ∧ n < G.nodes.length)
def GraphD.hasGate (G : GraphD) (k : Int) : Bool := decide (0 ≤ k ∧ k < G.shut.length)
def GraphD.isOpen (G : GraphD) (k : Int) : Bool := G.hasGate k && !(G.shut.getD k.toNat false)
def GraphD.gate (G : GraphD) : GraphD × Int × Int := if G.shut.length = 20 then (G, 0, 11) else (⟨G.nodes, G.shut ++ [false]⟩, G.shut.length, 0)
def GraphD.cut (G : GraphD) (k : Int) : GraphD × Int := if G.hasGate k then (⟨G.nodes, G.shut.set k.toNat true⟩, 0) else (G, 8)
def GraphD.add (G : GraphD) (n : NodeD) : GraphD × Int × Int :=
  if checkI n.rights = false then (G, 0, 1)
  else if n.gate ≠ -1 ∧ G.hasGate n.gate = false then (G, 0, 8)
  else if G.nodes.length = 80 then (G, 0, 11)
  else (⟨G.nodes ++ [n], G.shut⟩, G.nodes.length, 0)
def isCell (c : Int) : Bool := decide (0 ≤ c ∧ c < 12)
def isFunc (p f : Int) : Bool := decide (0 ≤ p ∧ p < 4 ∧ 0 ≤ f ∧ f < 6)
def GraphD.cellC (G : GraphD) (c r g : Int) : GraphD × Int × Int := if isCell c then G.add ⟨-1, g, r, c, -1, 0⟩ else (G, 0, 1)
def GraphD.funcC (G : GraphD) (p f r g : Int) : GraphD × Int × Int := if isFunc p f then G.add ⟨-1, g, r, 0, p, f⟩ else (G, 0, 1)
def GraphD.derive (G : GraphD) (p r g : Int) : GraphD × Int × Int := if G.has p then G.add ⟨p, g, r, 0, -1, 0⟩ else (G, 0, 8)

/-- what stands at place i -/
structure OkN (s : Nat) (i : Nat) (n : NodeD) : Prop where
  p0 : -1 ≤ n.parent
  p1 : n.parent < i
  r : checkI n.rights = true
  g : n.gate = -1 ∨ 0 ≤ n.gate ∧ n.gate < s
  t : n.parent = -1 → n.plugin = -1 ∧ 0 ≤ n.cell ∧ n.cell < 12 ∧ n.func = 0 ∨ 0 ≤ n.plugin ∧ n.plugin < 4 ∧ 0 ≤ n.func ∧ n.func < 6 ∧ n.cell = 0
structure GraphD.Wf (G : GraphD) : Prop where
  few : G.nodes.length ≤ 80
  gates : G.shut.length ≤ 20
  node : ∀ (i : Nat) (n : NodeD), G.nodes[i]? = some n → OkN G.shut.length i n

theorem OkN.more {s s' i : Nat} {n : NodeD} (h : OkN s i n) (hs : s ≤ s') : OkN s' i n :=
  ⟨h.p0, h.p1, h.r, h.g.imp id (fun ⟨a, b⟩ => ⟨a, by omega⟩), h.t⟩

theorem wf_nil : GraphD.Wf ⟨[], []⟩ := ⟨by simp, by simp, fun i n h => by simp at h⟩
theorem GraphD.Wf.gate {G : GraphD} (h : G.Wf) : G.gate.1.Wf := by
  unfold GraphD.gate
  split
  · exact h
  · have := h.gates
    exact ⟨h.few, by simp; omega, fun i n hn => (h.node i n hn).more (by simp)⟩
theorem GraphD.Wf.cut {G : GraphD} (h : G.Wf) (k : Int) : (G.cut k).1.Wf := by
  unfold GraphD.cut
  split
  · exact ⟨h.few, by simpa using h.gates, fun i n hn => by simpa using h.node i n hn⟩
  · exact h
theorem GraphD.Wf.add {G : GraphD} (h : G.Wf) {n : NodeD} (h0 : -1 ≤ n.parent) (h1 : n.parent < G.nodes.length)
    (ht : n.parent = -1 → n.plugin = -1 ∧ 0 ≤ n.cell ∧ n.cell < 12 ∧ n.func = 0 ∨ 0 ≤ n.plugin ∧ n.plugin < 4 ∧ 0 ≤ n.func ∧ n.func < 6 ∧ n.cell = 0) : (G.add n).1.Wf := by
  unfold GraphD.add
  split
  · exact h
  · rename_i hr
    split
    · exact h
    · rename_i hg
      split
      · exact h
      · have := h.few
        refine ⟨by simp; omega, h.gates, fun i m hm => ?_⟩
        show OkN G.shut.length i m
        simp only at hm
        by_cases hi : i < G.nodes.length
        · rw [List.getElem?_append_left hi] at hm
          exact h.node i m hm
        · rw [List.getElem?_append_right (by omega)] at hm
          have hi0 : i - G.nodes.length = 0 := by
            have := (List.getElem?_eq_some_iff.1 hm).1
            simpa using this
          rw [hi0] at hm
          simp at hm
          subst hm
          refine ⟨h0, by omega, by simpa using hr, ?_, ht⟩
          by_cases e : n.gate = -1
          · exact .inl e
          · right
            have hgt : G.hasGate n.gate = true := by
              cases hh : G.hasGate n.gate
              · exact absurd ⟨e, hh⟩ hg
              · rfl
            simpa [GraphD.hasGate] using hgt
theorem GraphD.Wf.cellC {G : GraphD} (h : G.Wf) (c r g : Int) : (G.cellC c r g).1.Wf := by
  unfold GraphD.cellC
  split
  · rename_i hc
    simp [isCell] at hc
    exact h.add (by simp) (by simp; omega) (fun _ => .inl ⟨rfl, hc.1, hc.2, rfl⟩)
  · exact h
theorem GraphD.Wf.funcC {G : GraphD} (h : G.Wf) (p f r g : Int) : (G.funcC p f r g).1.Wf := by
  unfold GraphD.funcC
  split
  · rename_i hc
    simp [isFunc] at hc
    exact h.add (by simp) (by simp; omega) (fun _ => .inr ⟨hc.1, hc.2.1, hc.2.2.1, hc.2.2.2, rfl⟩)
  · exact h
theorem GraphD.Wf.derive {G : GraphD} (h : G.Wf) (p r g : Int) : (G.derive p r g).1.Wf := by
  unfold GraphD.derive
  split
  · rename_i hc
    simp [GraphD.has] at hc
    exact h.add (by simp; omega) (by simp; omega) (fun e => by simp at e; omega)
  · exact h

/-- a capability, that from which it comes, and so on -/
def GraphD.pathF (G : GraphD) : Nat → Int → List NodeD
  | 0, _ => []
  | f + 1, i => if G.has i then (G.nodes.getD i.toNat zeroN) :: G.pathF f (G.nodes.getD i.toNat zeroN).parent else []
def GraphD.path (G : GraphD) (i : Int) : List NodeD := G.pathF (i.toNat + 1) i

theorem GraphD.Wf.get {G : GraphD} (h : G.Wf) {i : Int} (hi : G.has i = true) : OkN G.shut.length i.toNat (G.nodes.getD i.toNat zeroN) := by
  simp [GraphD.has] at hi
  have hl : i.toNat < G.nodes.length := by omega
  have e : G.nodes[i.toNat]? = some (G.nodes.getD i.toNat zeroN) := by simp [List.getD, hl]
  exact h.node _ _ e
theorem GraphD.pathF_more {G : GraphD} (h : G.Wf) : ∀ (f : Nat) (i : Int), i.toNat < f → G.pathF f i = G.path i := by
  intro f
  induction f using Nat.strongRecOn with
  | _ f ih =>
    intro i hi
    cases f with
    | zero => omega
    | succ f =>
      unfold GraphD.path
      by_cases hh : G.has i = true
      · have ok := h.get hh
        have hp := ok.p0
        have hp1 := ok.p1
        have hi0 : 0 ≤ i := by simp [GraphD.has] at hh; exact hh.1
        unfold GraphD.pathF
        rw [if_pos hh, if_pos hh]
        congr 1
        generalize (G.nodes.getD i.toNat zeroN).parent = p at *
        by_cases hpn : p < 0
        · have hno : G.has p = false := by simp [GraphD.has]; omega
          cases f with
          | zero => cases hn : i.toNat <;> simp [GraphD.pathF, hno]
          | succ f => cases hn : i.toNat <;> simp [GraphD.pathF, hno]
        · have e1 := ih f (by omega) p (by omega)
          rw [e1]
          rcases Nat.lt_or_ge i.toNat (f + 1) with h2 | h2
          · have e2 := ih i.toNat (by omega) p (by omega)
            rw [e2]
          · omega
      · cases f <;> simp [GraphD.pathF, hh]
theorem GraphD.path_yes {G : GraphD} (h : G.Wf) {i : Int} (hi : G.has i = true) : G.path i = (G.nodes.getD i.toNat zeroN) :: G.path (G.nodes.getD i.toNat zeroN).parent := by
  have ok := h.get hi
  have hp1 := ok.p1
  have hp0 := ok.p0
  have hi0 : 0 ≤ i := by simp [GraphD.has] at hi; exact hi.1
  rw [GraphD.path, GraphD.pathF, if_pos hi]
  congr 1
  generalize (G.nodes.getD i.toNat zeroN).parent = p at *
  by_cases hpn : p < 0
  · have hno : G.has p = false := by simp [GraphD.has]; omega
    unfold GraphD.path
    cases i.toNat <;> simp [GraphD.pathF, hno]
  · exact GraphD.pathF_more h _ _ (by omega)
theorem GraphD.path_no {G : GraphD} {i : Int} (hi : G.has i = false) : G.path i = [] := by
  rw [GraphD.path, GraphD.pathF, hi]
  rfl

def closedOn (G : GraphD) (n : NodeD) : Bool := decide (0 ≤ n.gate) && !G.isOpen n.gate
def GraphD.rights (G : GraphD) (i : Int) : Int := if G.path i = [] ∨ (G.path i).any (closedOn G) then 0 else (G.path i).foldl (fun r n => meetI r n.rights) 15
def GraphD.target (G : GraphD) (i : Int) : NodeD × Bool := ((G.path i).getLastD zeroN, !(G.path i).isEmpty)
def gatesOf (l : List NodeD) : List Int := (l.filter fun n => decide (0 ≤ n.gate)).map (·.gate)
def GraphD.gatesC (G : GraphD) (i : Int) : List Int := gatesOf (G.path i)

end Go.Proofs.Ytioladnogpfeeaa
