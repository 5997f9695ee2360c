/- What is handed on, in plain Lean: each capability through gates. No program here. -/
import Derived.Test.YtioladnogpfeeaaGraphLaw
import Derived.Test.YtioladnogpfeeaaValLaw
namespace Go.Proofs.Ytioladnogpfeeaa
set_option linter.unusedSimpArgs false
set_option linter.unusedVariables false
open Go

/-- a capability through each of these gates -/
def capG : List Int → GraphD → Int → GraphD × Int × Int
  | [], G, n => (G, n, 0)
  | k :: l, G, n => if (G.derive n 15 k).2.2 ≠ 0 then ((G.derive n 15 k).1, 0, (G.derive n 15 k).2.2) else capG l (G.derive n 15 k).1 (G.derive n 15 k).2.1
def zeroV : VD := .mk 0 0 []
def headG (ks : List Int) (G : GraphD) (kind n : Int) : GraphD × Int × Int := if kind = 4 then capG ks G n else (G, n, 0)
mutual
def valG (ks : List Int) : VD → GraphD → GraphD × VD × Int
  | .mk kind n l, G =>
    if (headG ks G kind n).2.2 ≠ 0 then ((headG ks G kind n).1, zeroV, (headG ks G kind n).2.2)
    else if (valsG ks l (headG ks G kind n).1).2.2 ≠ 0 then ((valsG ks l (headG ks G kind n).1).1, zeroV, (valsG ks l (headG ks G kind n).1).2.2)
    else ((valsG ks l (headG ks G kind n).1).1, .mk kind (headG ks G kind n).2.1 (valsG ks l (headG ks G kind n).1).2.1, 0)
def valsG (ks : List Int) : List VD → GraphD → GraphD × List VD × Int
  | [], G => (G, [], 0)
  | x :: l, G =>
    if (valG ks x G).2.2 ≠ 0 then ((valG ks x G).1, [], (valG ks x G).2.2)
    else ((valsG ks l (valG ks x G).1).1, (valG ks x G).2.1 :: (valsG ks l (valG ks x G).1).2.1, (valsG ks l (valG ks x G).1).2.2)
end
theorem valG_eq (ks : List Int) (x : VD) (G : GraphD) : valG ks x G =
    if (headG ks G x.kind x.n).2.2 ≠ 0 then ((headG ks G x.kind x.n).1, zeroV, (headG ks G x.kind x.n).2.2)
    else if (valsG ks x.l (headG ks G x.kind x.n).1).2.2 ≠ 0 then ((valsG ks x.l (headG ks G x.kind x.n).1).1, zeroV, (valsG ks x.l (headG ks G x.kind x.n).1).2.2)
    else ((valsG ks x.l (headG ks G x.kind x.n).1).1, .mk x.kind (headG ks G x.kind x.n).2.1 (valsG ks x.l (headG ks G x.kind x.n).1).2.1, 0) := by
  cases x
  rfl
def mayG (G : GraphD) (x : VD) : Int :=
  if x.code ≠ 0 then x.code else if x.gate then 9 else if x.caps.any fun n => !bitI (G.rights n) 2 then 9 else 0
/-- what is handed on -/
def acrossG (ks : List Int) (G : GraphD) (x : VD) : GraphD × VD × Int := if mayG G x ≠ 0 then (G, zeroV, mayG G x) else valG ks x G

theorem capG_wf (ks : List Int) : ∀ (G : GraphD) (n : Int), G.Wf → (capG ks G n).1.Wf := by
  induction ks with
  | nil => intro G n h; exact h
  | cons k l ih =>
    intro G n h
    simp only [capG]
    split
    · exact h.derive _ _ _
    · exact ih _ _ (h.derive _ _ _)
theorem headG_wf {ks : List Int} {G : GraphD} {kind n : Int} (h : G.Wf) : (headG ks G kind n).1.Wf := by
  unfold headG
  split
  · exact capG_wf ks G n h
  · exact h
mutual
theorem valG_wf (ks : List Int) : ∀ (x : VD) (G : GraphD), G.Wf → (valG ks x G).1.Wf
  | .mk kind n l, G, h => by
    simp only [valG]
    split
    · exact headG_wf h
    · split
      · exact valsG_wf ks l _ (headG_wf h)
      · exact valsG_wf ks l _ (headG_wf h)
theorem valsG_wf (ks : List Int) : ∀ (l : List VD) (G : GraphD), G.Wf → (valsG ks l G).1.Wf
  | [], G, h => h
  | x :: l, G, h => by
    simp only [valsG]
    split
    · exact valG_wf ks x G h
    · exact valsG_wf ks l _ (valG_wf ks x G h)
end
theorem acrossG_wf {ks : List Int} {G : GraphD} {x : VD} (h : G.Wf) : (acrossG ks G x).1.Wf := by
  unfold acrossG
  split
  · exact h
  · exact valG_wf ks x G h
end Go.Proofs.Ytioladnogpfeeaa
