/- From a run in the plain model to what a law asks. -/
import Derived.Test.YtngphebjmmencaaDoorSimLib
import Derived.Test.YtngphebjmmencaaDoorPolK
import Derived.Test.YtngphebjmmencaaDoorOpen
namespace Go.Proofs.YtngphebjmmencaaDoor
set_option linter.unusedSimpArgs false
set_option linter.unusedVariables false
open Go Go.RowKit

/-- nothing of its own yet; what lies there stays -/
def h0A : AH := { n := 0, cell := fun _ => none, ids := 0, hw := fun _ => 0 }
def m0A (W : World) : Mm := { base := W.heap.size, blk := fun _ => 0, bt := fun _ => 0, bsz := fun _ => 0, imm := fun g o => W.cell? ⟨g, o, none⟩, tg := fun _ => 0, tc := fun _ => 0, te := fun _ => 0 }
theorem good_none {P : Program} {b : Nat} {w : World} (h : keptA P = [] ∧ errsA P = []) : GoodW P b w := by
  refine ⟨fun q hq => ?_, fun n hn => ?_⟩
  · rw [h.1] at hq
    cases hq
  · rw [h.2] at hn
    cases hn
theorem wr0 (P : Program) (W : World) (hg : GoodW P W.heap.size W) : WR P (m0A W) h0A W where
  good := hg
  size := Nat.le_refl _
  lt := fun b es hb => by simp [h0A] at hb
  live := fun b es hb => by simp [h0A] at hb
  inj := fun b b' es es' hb => by simp [h0A] at hb
  imm := fun g o v h => h
  sep := fun b es hb => by simp [h0A] at hb
  tip := fun k hk => absurd hk (Nat.not_lt_zero _)
  tfree := fun k hk => absurd hk (Nat.not_lt_zero _)
  tblk := fun k hk => absurd hk (Nat.not_lt_zero _)
  tinj := fun k k' hk => absurd hk (Nat.not_lt_zero _)

theorem law_of {f : FuncId} {avs : List AV} {vs : List Value} {W : World} {h' : AH} (hr : runF Tryd.prog po f avs h0A = some (.inl (.bool true), h')) (hv : VRs Tryd.prog (m0A W) h0A avs vs) (hg : GoodW Tryd.prog W.heap.size W := by exact good_none ⟨by kernel_rfl, by kernel_rfl⟩) : Law Tryd.prog f vs.toArray W := by
  refine (runF_sound pok hr (m0A W) W vs (wr0 _ W hg) hv).mono fun e W' ⟨m', _, _, hb, hx⟩ => ?_
  obtain ⟨u, rfl, hu⟩ := hx
  cases hu
  exact ⟨rfl, hb⟩

theorem vr_int {P : Program} {m : Mm} {h : AH} (n : Int) : VR P m h (.int .i64 n) (.int .i64 n) := .int _ _
theorem vr_str {P : Program} {m : Mm} {h : AH} (s : ByteArray) : VR P m h (.str s.data.toList) (.string s) := by
  have := VR.str (P := P) (m := m) (h := h) s.data.toList
  simpa using this
abbrev i64r (l : List Int) : List AV := l.map (.int .i64)
/-- rows of numbers that were handed in -/
def inA (e : TypeId) (A : Option Addr) (rows : List (List Int)) : AV := match A with
  | none => .nils
  | some _ => .isl none e (rows.map i64r)
theorem vr_rows {P : Program} {W : World} {e : TypeId} {k : Nat} (he : P.cellsOf e = k) {A : Option Addr} {n cap : Nat} {rows : List (List Int)} (hn : rows.length = n) (hk : ∀ x ∈ rows, x.length = k) (hs : Sl W k A n cap (rows.flatMap icells)) :
    VR P (m0A W) h0A (inA e A rows) (.slice A n cap) ∧ IsL e (inA e A rows) (rows.map i64r) := by
  subst hn
  obtain ⟨h1, h2, h3, h4⟩ := hs
  cases A with
  | none =>
    have h6 := h3 rfl
    have hr : rows = [] := List.length_eq_zero_iff.1 (by omega)
    subst hr
    subst h6
    exact ⟨.nils, isL_nils e⟩
  | some a =>
    obtain ⟨h5, h6⟩ := h4 a rfl
    refine ⟨?_, isL_isl _ _ _⟩
    have hl : ∀ r ∈ rows.map i64r, r.length = P.cellsOf e := by
      intro r hr
      obtain ⟨x, hx, rfl⟩ := List.mem_map.1 hr
      rw [he, List.length_map]
      exact hk x hx
    by_cases hz : rows = []
    · subst hz
      exact .isl0 e a cap
    · have hpos : 0 < rows.length := List.length_pos_iff.2 hz
      have hsp := h5 hpos
      have hlen : (rows.map i64r).length = rows.length := by simp
      have ha : a = ⟨a.block, a.off, none⟩ := by
        obtain ⟨b, o, sp⟩ := a
        simp at hsp
        subst hsp
        rfl
      have hflat : ∀ i (hi : i < rows.length) j, j < k → (rows.flatMap icells)[i * k + j]? = some (.int .i64 ((rows[i].getD j 0))) := by
        intro i hi j hj
        have hx : ∀ x ∈ rows, (icells x).length = k := fun x hx => by simp [hk x hx]
        have hr := hk _ (List.getElem_mem hi)
        rw [flat_get' rows hx hi hj]
        simp [List.getD, hr, hj]
      have := VR.isl (P := P) (m := m0A W) (h := h0A) none e (rows.map i64r) a.block a.off cap (fun i j => .int .i64 ((rows.getD i []).getD j 0)) hl (fun i hi j hj => ?_) (fun i hi j hj => ?_) (by rw [hlen]; exact h2) (fun q hq => by cases hq)
      · rw [hlen, ← ha] at this
        exact this
      · rw [hlen] at hi
        rw [he] at hj ⊢
        have h7 := h6 _ _ (hflat i hi j hj)
        show W.cell? _ = _
        rw [h7]
        simp [List.getD, hi]
      · rw [hlen] at hi
        simp only [List.getElem_map] at hj ⊢
        simp only [List.length_map] at hj
        have hr : (rows.getD i []).getD j 0 = rows[i][j] := by simp [List.getD, hi, hj]
        rw [hr]
        exact .int _ _
end Go.Proofs.YtngphebjmmencaaDoor
