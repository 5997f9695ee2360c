/- Each operation that is no call does in memory what it does in the plain model. -/
import Derived.Test.YtacocolcighomaaSound
import Derived.Laws.StructEq
import Derived.WalkSpells
import Derived.Laws.CopyRow
namespace Go.Proofs.Ytacocolcighomaa
set_option linter.unusedSimpArgs false
set_option linter.unusedVariables false
open Go Go.RowKit

structure TyOK (P : Program) : Prop where
  zero : ∀ t i v, t < P.types.size → P.info? t = some i → i.zero = some v → v.cells.size = i.size
  small : ∀ t i, t < P.types.size → P.info? t = some i → i.bytes ≤ 100000
  pos : ∀ t e, t < P.types.size → P.underlying t = some (.slice e) → 0 < P.cellsOf e

def TR (P : Program) (m : Mm) (h : AH) (t : List AV) (a : Array Value) : Prop := a.size = t.length ∧ ∀ i (hi : i < t.length), VR P m h t[i] (a.getD i undef)

/-- what an operation does -/
def OpR (P : Program) (m : Mm) (h : AH) (a : Act) (w : World) (o : Oper) (v : AV) (h' : AH) : Prop :=
  ∃ m' w' u, ((execOp a.eval o).run P w = .ok (.value u) w' ∨ ((execOp a.eval o).run P w = .ok .skip w' ∧ u = undef)) ∧ Ext m h m' h' ∧ WR P m' h' w' ∧ VR P m' h' v u ∧ Below m.base w w'

section
variable {P : Program} {m m' : Mm} {h h' : AH} {w w' : World} {t : List AV} {a : Act} {o : Oper}

theorem TR.ext (x : Ext m h m' h') {tm : Array Value} (r : TR P m h t tm) : TR P m' h' t tm := ⟨r.1, fun i hi => (r.2 i hi).ext x⟩
theorem TR.put (r : TR P m h t a.tmps) {v : AV} {u : Value} (hv : VR P m h v u) (d : Option Tmp) : TR P m h (putA t d v) (a.put d u).tmps := by
  cases d with
  | none => exact r
  | some d =>
    refine ⟨by simp [putA, Act.put, r.1], fun i hi => ?_⟩
    have hi' : i < t.length := by simpa [putA] using hi
    have e1 : (putA t (some d) v)[i] = if d = i then v else t[i] := by simp [putA, List.getElem_set]
    have e2 : (a.put (some d) u).tmps.getD i undef = if d = i then u else a.tmps.getD i undef := by
      have hs : i < a.tmps.size := by rw [r.1]; exact hi'
      simp [Act.put, Array.getD, hs, Array.getElem_setIfInBounds]
    rw [e1, e2]
    by_cases e : d = i
    · rw [if_pos e, if_pos e]
      exact hv
    · rw [if_neg e, if_neg e]
      exact r.2 i hi'
theorem TR.get (r : TR P m h t a.tmps) (i : Nat) : VR P m h (t.getD i .junk) (a.tmps.getD i undef) := by
  by_cases hi : i < t.length
  · have := r.2 i hi
    simpa [List.getD, hi] using this
  · rw [List.getD, List.getElem?_eq_none (by omega)]
    exact .junk _

theorem scalarA_sound (v : Value) : VR P m h (scalarA v) v := by
  unfold scalarA
  split
  · exact .bool _
  · exact .int _ _
  · rename_i s
    have := VR.str (P := P) (m := m) (h := h) s.data.toList
    simpa using this
  · exact .nilp
  · exact .nils
  · exact .nilf
  · exact .nili
  · exact .junk _
theorem constA_sound (v : Value) : VR P m h (constA v) v := by
  unfold constA
  split
  · rename_i cs
    have := VR.agg (P := P) (m := m) (h := h) (cs.toList.map scalarA) cs.toList (by simp) (fun j hj hj' => by simpa using scalarA_sound _)
    simpa using this
  · exact scalarA_sound v
theorem evA_sound (r : TR P m h t a.tmps) (x : Operand) : VR P m h (evA t x) (a.eval x) := by
  cases x with
  | tmp i => exact r.get i
  | const v => exact constA_sound v
  | global g => exact .junk _
  | func f => exact .fn f [] [] [] [] rfl rfl (fun j hj => by simp at hj) (fun j hj => by simp at hj)

theorem VR.one {v : AV} {u : Value} (r : VR P m h v u) (h1 : v.one = true) : u.oneCell' = true := by
  cases r <;> simp_all [AV.one, Value.oneCell']
theorem VR.cells {v : AV} {u : Value} (r : VR P m h v u) (h1 : v.cells.all AV.one = true) : VRs P m h v.cells u.cells.toList ∧ ∀ c ∈ u.cells.toList, c.oneCell' = true := by
  have key : v.one = true → u.cells = #[u] → v.cells = [v] → VRs P m h v.cells u.cells.toList ∧ ∀ c ∈ u.cells.toList, c.oneCell' = true := by
    intro hv hu hc
    rw [hu, hc]
    refine ⟨VRs.cons r VRs.nil, fun c hc => ?_⟩
    simp at hc
    subst hc
    exact r.one hv
  cases r with
  | junk v => simp [AV.cells, AV.one] at h1
  | tup l l' h2 h3 => simp [AV.cells, AV.one] at h1
  | agg l l' h2 h3 =>
    refine ⟨⟨by simpa [AV.cells, Value.cells] using h2, fun j hj hj' => h3 j hj (by simpa [Value.cells] using hj')⟩, fun c hc => ?_⟩
    simp [Value.cells] at hc
    obtain ⟨j, hj, rfl⟩ := List.getElem_of_mem hc
    have hjl : j < l.length := by omega
    simp only [AV.cells, List.all_eq_true] at h1
    exact (h3 j hjl hj).one (h1 _ (List.getElem_mem hjl))
  | _ => exact key rfl rfl rfl

theorem OpR.pure (hw : WR P m h w) {v : AV} {u : Value} (hr : (execOp a.eval o).run P w = .ok (.value u) w) (hv : VR P m h v u) : OpR P m h a w o v h :=
  ⟨m, w, u, .inl hr, Ext.refl _ _, hw, hv, Below.refl _ _⟩

theorem zeroA_sound (hT : TyOK P) {e : TypeId} {z : List AV} (hz : zeroA P e = some z) : ∃ i v, P.info? e = some i ∧ i.zero = some v ∧ z.length = P.cellsOf e ∧ v.cells.size = P.cellsOf e ∧ VRs P m h z v.cells.toList ∧ (zeroValue e).run P w = .ok v w := by
  unfold zeroA at hz
  split at hz
  case isFalse => cases hz
  rename_i hlt
  rcases hi : P.info? e with _ | i
  · simp [hi] at hz
  · rcases hv : i.zero with _ | v
    · simp [hi, hv] at hz
    · simp only [hi, hv, Option.bind_some, Option.map_some, Option.some.injEq] at hz
      have hs := hT.zero e i v hlt hi hv
      have hc : P.cellsOf e = i.size := by simp [Program.cellsOf, hi]
      have hr : VRs P m h (constA v).cells v.cells.toList := by
        unfold constA
        split
        · rename_i cs
          exact ⟨by simp [AV.cells, Value.cells], fun j hj hj' => by simpa [AV.cells, Value.cells] using scalarA_sound _⟩
        · rename_i hne
          have hs1 := scalarA_sound (P := P) (m := m) (h := h) v
          have e1 : (scalarA v).cells = [scalarA v] := by
            unfold scalarA
            split <;> rfl
          have e2 : v.cells = #[v] := by
            unfold Value.cells
            split
            · rename_i cs
              exact absurd rfl (hne cs)
            · rfl
          rw [e1, e2]
          exact VRs.cons hs1 VRs.nil
      rw [hz] at hr
      refine ⟨i, v, rfl, hv, ?_, by rw [hs, hc], hr, by simp [zeroValue, typeInfo, hi, hv]⟩
      have := hr.1
      rw [Array.length_toList, hs] at this
      rw [hc]
      exact this.symm

/-- a new row of cells, of the call's own -/
theorem push_row (hw : WR P m h w) (e : TypeId) {z : List AV} {u : Array Value} (hz : VRs P m h z u.toList) (hs : z.length = P.cellsOf e) :
    ∃ m', Ext m h m' (h.push [z]) ∧ WR P m' (h.push [z]) (w.alloc (.cells u e)) ∧ VR P m' (h.push [z]) (.ptr h.n 0 0) (.pointer (some ⟨w.heap.size, 0, none⟩)) := by
  have hu : u.size = z.length := by simpa using hz.1
  obtain ⟨m', h1, h2, h3, h4, h5⟩ := hw.push (w.alloc (.cells u e)) e [z] u ((Only.refl _ w).alloc _) (Blk.new w _ _) (by simp; omega) (by simp [hs]) (by
    intro i hi j hj
    have hi0 : i = 0 := by simpa using hi
    subst hi0
    have hj' : j < z.length := by simpa using hj
    refine ⟨u[j]'(by omega), by simp, ?_⟩
    have := hz.2 j hj' (by simp; omega)
    simpa using this)
  refine ⟨m', h1, h2, ?_⟩
  have := VR.ptr (P := P) (m := m') (h := h.push [z]) h.n 0 0 (by simp [AH.push])
  rw [h3] at this
  simpa using this

theorem op_alloc (hT : TyOK P) (hw : WR P m h w) (e : TypeId) (ho : o.op = .alloc e) {z : List AV} (hz : zeroA P e = some z) : OpR P m h a w o (.ptr h.n 0 0) (h.push [z]) := by
  obtain ⟨i, v, hi, hv, hl, hs, hr, hrun⟩ := zeroA_sound (m := m) (h := h) (w := w) hT hz
  obtain ⟨m', h1, h2, h3⟩ := push_row hw e hr hl
  refine ⟨m', _, _, .inl ?_, h1, h2, h3, (Below.refl _ _).alloc hw.size _⟩
  simp [execOp, ho, Instr.alloc, hrun, newVar, newRow]
theorem op_box (hw : WR P m h w) (ht : TR P m h t a.tmps) (e : TypeId) (x : Operand) (ho : o.op = .box e x) (h1 : (evA t x).cells.all AV.one = true) (h2 : (evA t x).cells.length = szA P e) :
    OpR P m h a w o (.ptr h.n 0 0) (h.push [(evA t x).cells]) := by
  obtain ⟨h3, h4⟩ := (evA_sound ht x).cells h1
  obtain ⟨m', h5, h6, h7⟩ := push_row hw e h3 h2
  refine ⟨m', _, _, .inl ?_, h5, h6, h7, (Below.refl _ _).alloc hw.size _⟩
  simp [execOp, ho, Instr.box, newVar, newRow]

theorem aggA_run (ty : TypeId) {d : TypeDesc} (hd : P.underlying ty = some d) : (isAgg ty).run P w = .ok (aggA P ty) w := by
  unfold isAgg aggA
  simp only [Sem.run_bind, run_underlying hd, Result.andThen_ok, hd]
  cases d <;> simp

/-- the cells that an address leads to -/
theorem row_ptr (hw : WR P m h w) {b i : Nat} {e : List AV} (hr : h.row b i = some e) : ∃ F : Nat → Value, ∀ j (hj : j < e.length), w.cell? ⟨m.blk b, i * P.cellsOf (m.bt b) + j, none⟩ = some (F j) ∧ VR P m h e[j] (F j) := by
  unfold AH.row at hr
  rcases hc : h.cell b with _ | es
  · simp [hc] at hr
  · simp only [hc, Option.bind_some] at hr
    obtain ⟨hi, rfl⟩ := List.getElem?_eq_some_iff.1 hr
    obtain ⟨cs, h1, h2, h3, h4, h5⟩ := hw.live b es hc
    refine ⟨fun j => (cs[i * P.cellsOf (m.bt b) + j]?).getD undef, fun j hj => ?_⟩
    obtain ⟨v, h6, h7⟩ := h5 i hi j hj
    exact ⟨by rw [h1.cell]; simp [h6], by simpa [h6] using h7⟩

theorem ld_sound (ty : TypeId) {d : TypeDesc} (hd : P.underlying ty = some d) (hi : P.info? ty ≠ none) (g o : Nat) (off : Nat) (e : List AV) (F : Nat → Value)
    (hF : ∀ j (hj : j < e.length), w.cell? ⟨g, o + j, none⟩ = some (F j) ∧ VR P m h e[j] (F j)) {v : AV} (hv : ldA (aggA P ty) (szA P ty) e off = some v) :
    ∃ u, (loadVar ty ⟨g, o + off, none⟩).run P w = .ok u w ∧ VR P m h v u := by
  unfold ldA at hv
  unfold loadVar
  simp only [Sem.run_bind, aggA_run ty hd, Result.andThen_ok]
  cases hag : aggA P ty
  · simp only [hag, Bool.false_eq_true, if_false] at hv ⊢
    obtain ⟨hj, rfl⟩ := List.getElem?_eq_some_iff.1 hv
    obtain ⟨h1, h2⟩ := hF off hj
    exact ⟨F off, by simp [h1], h2⟩
  · simp only [hag, if_true] at hv ⊢
    split at hv
    · rename_i hle
      injection hv with hv
      subst hv
      obtain ⟨i, hi⟩ := Option.ne_none_iff_exists'.1 hi
      have hsz : i.size = szA P ty := by simp [szA, Program.cellsOf, hi]
      have hl := run_loadCells (P := P) w ⟨g, o + off, none⟩ (szA P ty) (fun j => F (off + j)) (fun j hj => by
        rw [Addr.add_lit]
        have := (hF (off + j) (by omega)).1
        rwa [Nat.add_assoc])
      refine ⟨.agg ((List.range (szA P ty)).map fun j => F (off + j)).toArray, ?_, ?_⟩
      · simp [sizeOf, typeInfo, hi, hsz, hl]
      · refine .agg _ _ (by simp; omega) (fun j hj hj' => ?_)
        simp only [List.getElem_map, List.getElem_range]
        have hj2 : j < szA P ty := by simpa using hj'
        have := (hF (off + j) (by omega)).2
        simpa [List.getElem_take, List.getElem_drop] using this
    · cases hv

theorem op_load (hw : WR P m h w) (ht : TR P m h t a.tmps) (ty : TypeId) (x : Operand) (ho : o.op = .load ty x) {d : TypeDesc} (hd : P.underlying ty = some d) (hi : P.info? ty ≠ none) {v : AV}
    (hv : loadA (aggA P ty) (szA P ty) h (evA t x) = some v) : OpR P m h a w o v h := by
  have hx := evA_sound ht x
  have key : ∃ u, (Instr.loadAt ty (a.eval x)).run P w = .ok u w ∧ VR P m h v u := by
    revert hx hv
    generalize a.eval x = ax
    generalize evA t x = ex
    intro hv hx
    cases hx with
    | ptr b i off hb =>
      simp only [loadA] at hv
      rcases hr : h.row b i with _ | e
      · simp [hr] at hv
      · simp only [hr, Option.bind_some] at hv
        obtain ⟨F, hF⟩ := row_ptr hw hr
        obtain ⟨u, h1, h2⟩ := ld_sound (w := w) ty hd hi (m.blk b) (i * P.cellsOf (m.bt b)) off e F hF hv
        exact ⟨u, by simp [Instr.loadAt, Instr.sureAddr, h1], h2⟩
    | ip e off g o' F hi' hv' =>
      simp only [loadA] at hv
      obtain ⟨u, h1, h2⟩ := ld_sound (w := w) (h := h) (m := m) ty hd hi g o' off e F (fun j hj => ⟨hw.imm _ _ _ (hi' j hj), hv' j hj⟩) hv
      exact ⟨u, by simp [Instr.loadAt, Instr.sureAddr, h1], h2⟩
    | _ => simp [loadA] at hv
  obtain ⟨u, h1, h2⟩ := key
  exact OpR.pure hw (by simp [execOp, ho, h1]) h2
end
end Go.Proofs.Ytacocolcighomaa
