/- Rows are built: struct literals, slice literals, make, append. -/
import Derived.Test.YtacocolcighomaaSound7
import Derived.Great.BuildSlice
import Derived.Laws.MakeOwn
import Derived.Laws.OwnMore
namespace Go.Proofs.Ytacocolcighomaa
set_option linter.unusedSimpArgs false
set_option linter.unusedVariables false
open Go Go.RowKit

section
variable {P : Program} {m m' : Mm} {h h' : AH} {w w' : World} {t : List AV} {a : Act} {o : Oper}

theorem fold_get (off : Nat) (v : Value) (cells : Array Value) : (v.cells.zipIdx.foldl (fun cs (x : Value × Nat) => cs.setIfInBounds (off + x.2) x.1) cells).size = cells.size ∧
    ∀ k, (v.cells.zipIdx.foldl (fun cs (x : Value × Nat) => cs.setIfInBounds (off + x.2) x.1) cells)[k]? = if off ≤ k ∧ k < off + v.cells.size ∧ k < cells.size then v.cells[k - off]? else cells[k]? := by
  have := Go.Great.foldl_set off v.cells.toList 0 cells
  rw [← Array.foldl_toList, Array.toList_zipIdx]
  simpa using this

theorem fill_sound (ht : TR P m h t a.tmps) (place : Nat → Option (Nat × Nat)) (pl : List (Nat × Nat)) (hp : ∀ i q, pl[i]? = some q → place i = some q) : ∀ (L : List (Nat × Operand)) (cs : List AV) (cells : Array Value) (cs' : List AV), VRs P m h cs cells.toList →
    fillA pl cs (L.map fun q => (q.1, evA t q.2)) = some cs' → ∃ cells', Instr.fill place cells (L.map fun q => (q.1, a.eval q.2)) = some cells' ∧ VRs P m h cs' cells'.toList
  | [], cs, cells, cs', hr, hf => by
    simp [fillA] at hf
    subst hf
    exact ⟨cells, by simp [Instr.fill], hr⟩
  | (i, x) :: L, cs, cells, cs', hr, hf => by
    simp only [List.map_cons, fillA] at hf
    rcases hpi : pl[i]? with _ | ⟨off, size⟩
    · simp [hpi] at hf
    · simp only [hpi] at hf
      split at hf
      · rename_i hc
        obtain ⟨c1, c2, c3⟩ := hc
        obtain ⟨v1, v2⟩ := (evA_sound ht x).cells c3
        have hl1 := v1.1
        have hl2 := hr.1
        simp only [Array.length_toList] at hl1 hl2
        obtain ⟨f1, f2⟩ := fold_get off (a.eval x) cells
        have hr' : VRs P m h (stA cs off (evA t x).cells) ((a.eval x).cells.zipIdx.foldl (fun cs (y : Value × Nat) => cs.setIfInBounds (off + y.2) y.1) cells).toList := by
          refine ⟨by rw [Array.length_toList, f1, stA]; simp; omega, fun j hj hj' => ?_⟩
          have hg : (cs.take off ++ (evA t x).cells ++ cs.drop (off + (evA t x).cells.length))[j]? = some (stA cs off (evA t x).cells)[j] := List.getElem?_eq_getElem hj
          rw [seg_get _ _ _ (by omega)] at hg
          have hg' : ((a.eval x).cells.zipIdx.foldl (fun cs (y : Value × Nat) => cs.setIfInBounds (off + y.2) y.1) cells)[j]? = some (((a.eval x).cells.zipIdx.foldl (fun cs (y : Value × Nat) => cs.setIfInBounds (off + y.2) y.1) cells).toList[j]) := by
            rw [← Array.getElem?_toList]
            exact List.getElem?_eq_getElem hj'
          rw [f2 j] at hg'
          by_cases hin : off ≤ j ∧ j < off + (evA t x).cells.length
          · rw [if_pos hin] at hg
            rw [if_pos ⟨hin.1, by omega, by omega⟩] at hg'
            obtain ⟨u, u1, u2⟩ := v1.get? hg
            rw [Array.getElem?_toList] at u1
            rw [u1] at hg'
            injection hg' with hg'
            rw [← hg']
            exact u2
          · rw [if_neg hin] at hg
            rw [if_neg (by omega)] at hg'
            obtain ⟨u, u1, u2⟩ := hr.get? hg
            rw [Array.getElem?_toList] at u1
            rw [u1] at hg'
            injection hg' with hg'
            rw [← hg']
            exact u2
        obtain ⟨cells', g1, g2⟩ := fill_sound ht place pl hp L _ _ cs' hr' hf
        refine ⟨cells', ?_, g2⟩
        simp only [List.map_cons, Instr.fill, hp i _ hpi]
        rw [if_neg (by simp; omega)]
        exact g1
      · cases hf

theorem op_build (hT : TyOK P) (hw : WR P m h w) (ht : TR P m h t a.tmps) (ty : TypeId) (parts : Array (Nat × Operand)) (ho : o.op = .build ty parts) {z : List AV} (hz : zeroA P ty = some z) {cs : List AV}
    (hv : (∃ pl, fieldsA P ty = some pl ∧ (∀ q ∈ pl, szA P q.2 ≠ 0) ∧ fillA (pl.map fun q => (q.1, szA P q.2)) z (parts.toList.map fun q => (q.1, evA t q.2)) = some cs) ∨
      (∃ n e, arrA P ty = some (n, e) ∧ szA P e ≠ 0 ∧ fillA ((List.range n).map fun i => (i * szA P e, szA P e)) z (parts.toList.map fun q => (q.1, evA t q.2)) = some cs)) : OpR P m h a w o (.agg cs) h := by
  obtain ⟨i, v, hi, hvz, hl, hs, hr, hrun⟩ := zeroA_sound (m := m) (h := h) (w := w) hT hz
  have key : ∃ cells, P.built ty (parts.map fun (i, x) => (i, a.eval x)).toList = some cells ∧ VRs P m h cs cells.toList := by
    have hpt : (parts.map fun (i, x) => (i, a.eval x)).toList = parts.toList.map fun q => (q.1, a.eval q.2) := by simp
    rw [hpt]
    unfold Program.built
    rcases hv with ⟨pl, h1, h2, h3⟩ | ⟨n, e, h1, h2, h3⟩
    · unfold fieldsA at h1
      split at h1
      · rename_i fs hfs
        injection h1 with h1
        subst h1
        have hpl : fs.toList.mapM (fun f => (P.info? f.type).map fun i => (f.offset, i.size)) = some (fs.toList.map fun f => (f.offset, szA P f.type)) := by
          have : ∀ l : List Field, (∀ f ∈ l, szA P f.type ≠ 0) → l.mapM (fun f => (P.info? f.type).map fun i => (f.offset, i.size)) = some (l.map fun f => (f.offset, szA P f.type)) := by
            intro l
            induction l with
            | nil => intro _; rfl
            | cons f l ih =>
              intro hl
              obtain ⟨i0, hi0, hi1⟩ := size_info (hl f (by simp))
              simp [List.mapM_cons, hi0, ih (fun g hg => hl g (by simp [hg])), hi1]
          exact this _ (fun f hf => h2 (f.offset, f.type) (List.mem_map.2 ⟨f, hf, rfl⟩))
        simp only [List.map_map] at h3
        obtain ⟨cells, g1, g2⟩ := fill_sound ht (fun x => (fs.toList.map fun f => (f.offset, szA P f.type)).toArray[x]?) (fs.toList.map ((fun q : Nat × TypeId => (q.1, szA P q.2)) ∘ fun f => (f.offset, f.type))) (fun i q hq => by simpa using hq) parts.toList z v.cells cs hr h3
        refine ⟨cells, ?_, g2⟩
        simp only [hi, hfs, hvz, hpl]
        exact g1
      · cases h1
    · have har := arr_run h1
      obtain ⟨i0, hi0, hi1⟩ := size_info h2
      obtain ⟨cells, g1, g2⟩ := fill_sound ht (fun i => some (i * i0.size, i0.size)) ((List.range n).map fun i => (i * szA P e, szA P e)) (fun i q hq => by
        simp only [List.getElem?_map, Option.map_eq_some_iff] at hq
        obtain ⟨j, hj, rfl⟩ := hq
        have := List.getElem?_eq_some_iff.1 hj
        obtain ⟨hlt, hjj⟩ := this
        simp at hjj
        subst hjj
        rw [hi1]) parts.toList z v.cells cs hr h3
      refine ⟨cells, ?_, g2⟩
      simp only [hi, har, hvz, hi0]
      exact g1
  obtain ⟨cells, h1, h2⟩ := key
  refine OpR.pure hw (u := .agg cells) ?_ ?_
  · have e := run_build (P := P) w ty (parts.map fun (i, x) => (i, a.eval x)) cells h1
    simp only [execOp, ho, Sem.run_bind, e, Result.andThen_ok, Sem.run_pure]
  · have := VR.agg (P := P) (m := m) (h := h) cs cells.toList h2.1 h2.2
    simpa using this

/-- rows of a block -/
def RowsR (P : Program) (m : Mm) (h : AH) (sz : Nat) (es : List (List AV)) (cs : Array Value) : Prop :=
  cs.size = es.length * sz ∧ (∀ r ∈ es, r.length = sz) ∧ ∀ i (hi : i < es.length) j (hj : j < es[i].length), ∃ v, cs[i * sz + j]? = some v ∧ VR P m h es[i][j] v

theorem fillE_sound (ht : TR P m h t a.tmps) (sz : Nat) : ∀ (L : List (Nat × Operand)) (es : List (List AV)) (cells : Array Value) (es' : List (List AV)), RowsR P m h sz es cells →
    fillE sz es (L.map fun q => (q.1, evA t q.2)) = some es' → ∃ cells', Instr.fill (fun i => some (i * sz, sz)) cells (L.map fun q => (q.1, a.eval q.2)) = some cells' ∧ RowsR P m h sz es' cells' ∧ es'.length = es.length
  | [], es, cells, es', hr, hf => by
    simp [fillE] at hf
    subst hf
    exact ⟨cells, by simp [Instr.fill], hr, rfl⟩
  | (i, x) :: L, es, cells, es', hr, hf => by
    simp only [List.map_cons, fillE] at hf
    split at hf
    · rename_i hc
      obtain ⟨c1, c2, c3⟩ := hc
      obtain ⟨v1, v2⟩ := (evA_sound ht x).cells c3
      have hl1 := v1.1
      simp only [Array.length_toList] at hl1
      obtain ⟨r1, r2, r3⟩ := hr
      have hin := le_mul_of (s := sz) c2
      obtain ⟨f1, f2⟩ := fold_get (i * sz) (a.eval x) cells
      have hr' : RowsR P m h sz (es.set i (evA t x).cells) ((a.eval x).cells.zipIdx.foldl (fun cs (y : Value × Nat) => cs.setIfInBounds (i * sz + y.2) y.1) cells) := by
        refine ⟨by rw [f1, r1, List.length_set], fun r hr => ?_, fun i' hi' j hj => ?_⟩
        · rcases List.mem_or_eq_of_mem_set hr with hq | hq
          · exact r2 r hq
          · rw [hq, c1]
        · rw [f2]
          have hi2 : i' < es.length := by simpa using hi'
          by_cases e1 : i' = i
          · subst e1
            have hrow : (es.set i' (evA t x).cells)[i'] = (evA t x).cells := by simp
            have hj' : j < (evA t x).cells.length := by rw [hrow] at hj; exact hj
            rw [if_pos ⟨by omega, by omega, by omega⟩]
            obtain ⟨u, u1, u2⟩ := v1.get? (List.getElem?_eq_getElem hj')
            refine ⟨u, by rw [← u1, Array.getElem?_toList]; congr 1; omega, ?_⟩
            simpa only [hrow] using u2
          · have hrow : (es.set i (evA t x).cells)[i'] = es[i'] := by simp [Ne.symm e1]
            have hj' : j < es[i'].length := by rw [hrow] at hj; exact hj
            have hjs : j < sz := by rw [r2 _ (List.getElem_mem hi2)] at hj'; exact hj'
            rw [if_neg (by
              rcases Nat.lt_or_gt_of_ne e1 with hq | hq
              · have := le_mul_of (s := sz) hq
                omega
              · have := le_mul_of (s := sz) hq
                omega)]
            obtain ⟨v, hv1, hv2⟩ := r3 i' hi2 j hj'
            exact ⟨v, hv1, by simpa only [hrow] using hv2⟩
      obtain ⟨cells', g1, g2, g3⟩ := fillE_sound ht sz L _ _ es' hr' hf
      refine ⟨cells', ?_, g2, by rw [g3, List.length_set]⟩
      simp only [List.map_cons, Instr.fill]
      rw [if_neg (by simp; omega)]
      exact g1
    · cases hf

/-- a new row that never turns, but at its end -/
theorem WR.fresh (hw : WR P m h w) (w' : World) (e : TypeId) (es : List (List AV)) (cs : Array Value) (cap : Nat) (hn : New w w') (hbk : Blk w' w.heap.size e cs) (hs : cs.size = cap * P.cellsOf e) (hc : es.length ≤ cap) (hmx : cap ≤ maxLen) (hl : ∀ r ∈ es, r.length = P.cellsOf e)
    (hv : ∀ i (hi : i < es.length) j (hj : j < es[i].length), ∃ v, cs[i * P.cellsOf e + j]? = some v ∧ VR P m h es[i][j] v) :
    ∃ m', Ext m h m' (h.fresh es.length) ∧ WR P m' (h.fresh es.length) w' ∧ VR P m' (h.fresh es.length) (.isl (some h.ids) e es) (.slice (some ⟨w.heap.size, 0, none⟩) es.length cap) := by
  have hnoimm : ∀ o, m.imm w.heap.size o = none := fun o => by
    rcases hi : m.imm w.heap.size o with _ | v
    · rfl
    · have := hw.imm_lt hi
      omega
  have hx : Ext m h { m with imm := fun g o => if g = w.heap.size then (if o < es.length * P.cellsOf e then cs[o]? else none) else m.imm g o, tg := fun k => if k = h.ids then w.heap.size else m.tg k, tc := fun k => if k = h.ids then cap else m.tc k, te := fun k => if k = h.ids then e else m.te k } (h.fresh es.length) := by
    refine ⟨rfl, Nat.le_refl _, by simp [AH.fresh], fun b hb => ⟨rfl, rfl, rfl⟩, fun g o v hi => ?_, fun k hk => ?_⟩
    · have : g ≠ w.heap.size := fun e => by rw [e, hnoimm] at hi; cases hi
      simpa [this] using hi
    · have : k ≠ h.ids := by omega
      simp [AH.fresh, this]
  have hw1 := hw.new hn
  have hle : es.length * P.cellsOf e ≤ cs.size := by rw [hs]; exact Nat.mul_le_mul_right _ hc
  refine ⟨_, hx, ?_, ?_⟩
  · refine ⟨hw1.size, fun b x hb => hw1.lt b x hb, fun b x hb => ?_, fun b b' x x' h1 h2 he => hw1.inj b b' x x' h1 h2 he, fun g o v hi => ?_, fun b x hb o => ?_, fun k hk => ?_, fun k hk o ho' => ?_, fun k hk b x hb => ?_, fun k k' hk hk' he => ?_⟩
    · obtain ⟨c2, h1, h2, h3, h4, h5⟩ := hw1.live b x hb
      refine ⟨c2, h1, h2, h3, h4, fun i hi j hj => ?_⟩
      obtain ⟨v, h6, h7⟩ := h5 i hi j hj
      exact ⟨v, h6, h7.ext hx⟩
    · by_cases hg : g = w.heap.size
      · subst hg
        simp only [if_true] at hi
        split at hi
        · rw [hbk.cell]
          exact hi
        · cases hi
      · simp only [hg, if_false] at hi
        exact hw1.imm g o v hi
    · have := hw.below hb
      have hne : m.blk b ≠ w.heap.size := by omega
      simp only [hne, if_false]
      exact hw1.sep b x hb o
    · by_cases hk0 : k = h.ids
      · subst hk0
        simp only [if_true, AH.fresh]
        refine ⟨cs.toList.take (es.length * P.cellsOf e), ?_, .inr ⟨w.heap.size, cap, cs, rfl, hw.size, hbk, hc, hmx, hs, rfl⟩⟩
        simp
        omega
      · have hk1 : k < h.ids := by simp [AH.fresh] at hk; omega
        simp only [hk0, if_false, AH.fresh]
        exact hw1.tip k hk1
    · by_cases hk0 : k = h.ids
      · subst hk0
        simp only [if_true, AH.fresh] at ho' ⊢
        rw [if_neg (by omega)]
      · have hk1 : k < h.ids := by simp [AH.fresh] at hk; omega
        simp only [hk0, if_false, AH.fresh] at ho' ⊢
        have := (hw.tip_lt hk1).2
        rw [if_neg (by omega)]
        exact hw1.tfree k hk1 o ho'
    · have hbl := hw.below hb
      by_cases hk0 : k = h.ids
      · simp only [hk0, if_true]
        omega
      · have hk1 : k < h.ids := by simp [AH.fresh] at hk; omega
        simp only [hk0, if_false]
        exact hw1.tblk k hk1 b x hb
    · by_cases h1 : k = h.ids <;> by_cases h2 : k' = h.ids
      · omega
      · have := (hw.tip_lt (k := k') (by simp [AH.fresh] at hk'; omega)).2
        simp [h1, h2] at he
        omega
      · have := (hw.tip_lt (k := k) (by simp [AH.fresh] at hk; omega)).2
        simp [h1, h2] at he
        omega
      · simp [h1, h2] at he
        exact hw.tinj k k' (by simp [AH.fresh] at hk; omega) (by simp [AH.fresh] at hk'; omega) he
  · refine .isl (some h.ids) e es w.heap.size 0 cap (fun i j => (cs[i * P.cellsOf e + j]?).getD undef) hl (fun i hi j hj => ?_) (fun i hi j hj => ?_) hc (fun k hk => ?_)
    · have := le_mul_of (s := P.cellsOf e) hi
      simp only [if_true, Nat.zero_add]
      rw [if_pos (by omega)]
      obtain ⟨v, h1, _⟩ := hv i hi j (by rw [hl _ (List.getElem_mem hi)]; exact hj)
      simp [h1]
    · obtain ⟨v, h1, h2⟩ := hv i hi j hj
      simp only [h1, Option.getD_some]
      exact h2.ext hx
    · injection hk with hk
      subst hk
      simp [AH.fresh]

theorem zero_row (len sz : Nat) (z : List AV) (v : Array Value) (hz : VRs P m h z v.toList) (hl : z.length = sz) (hp : 0 < sz) : RowsR P m h sz (List.replicate len z) ((Array.range (len * sz)).map (v[· % v.size]!)) := by
  have hvs : v.size = sz := by have := hz.1; simp at this; omega
  refine ⟨by simp, fun r hr => by rw [(List.mem_replicate.1 hr).2]; exact hl, fun i hi j hj => ?_⟩
  simp only [List.getElem_replicate] at hj ⊢
  have hi' : i < len := by simpa using hi
  have := le_mul_of (s := sz) hi'
  obtain ⟨u, u1, u2⟩ := hz.get? (List.getElem?_eq_getElem hj)
  refine ⟨u, ?_, u2⟩
  have hmod : (i * sz + j) % sz = j := by
    rw [Nat.mul_comm, Nat.mul_add_mod]
    exact Nat.mod_eq_of_lt (by omega)
  rw [Array.getElem?_toList] at u1
  have hlt : i * sz + j < len * sz := by omega
  simp only [Array.getElem?_map, hvs]
  rw [Array.getElem?_eq_getElem (by simpa using hlt)]
  simp only [Array.getElem_range, Option.map_some, hmod]
  rw [getElem!_def, u1]

theorem op_buildSlice (hT : TyOK P) (hw : WR P m h w) (ht : TR P m h t a.tmps) (ty : TypeId) (len : Nat) (parts : Array (Nat × Operand)) (ho : o.op = .buildSlice ty len parts) {e : TypeId} (he : elemA P ty = some e) {z : List AV} (hz : zeroA P e = some z)
    {es : List (List AV)} (hv : fillE (szA P e) (List.replicate len z) (parts.toList.map fun q => (q.1, evA t q.2)) = some es) (hsm : len * szA P e ≤ 16777216) :
    OpR P m h a w o (.msl h.n 0 len e) (h.push es) ∧ OpR P m h a w o (.isl (some h.ids) e es) (h.fresh len) := by
  have hes := elem_run he
  have hpos := elem_pos hT he
  obtain ⟨i, v, hi, hvz, hl, hs, hr, hrun⟩ := zeroA_sound (m := m) (h := h) (w := w) hT hz
  have hi1 : i.size = P.cellsOf e := by simp [Program.cellsOf, hi]
  have hz0 := zero_row (P := P) (m := m) (h := h) len (P.cellsOf e) z v.cells hr hl hpos
  obtain ⟨cells, g1, g2, g3⟩ := fillE_sound ht (P.cellsOf e) parts.toList _ _ es hz0 hv
  simp only [List.length_replicate] at g3
  have hparts : (parts.map fun (i, x) => (i, a.eval x)).toList = parts.toList.map fun q => (q.1, a.eval q.2) := by simp
  have hb : (Instr.buildSlice ty len (parts.map fun (i, x) => (i, a.eval x))).run P w = .ok (.slice (some ⟨w.heap.size, 0, none⟩) len len) (w.alloc (.cells cells e)) := by
    by_cases hlen : len = 0
    · subst hlen
      have hr0 : Array.range 0 = #[] := rfl
      have g1' : Instr.fill (fun i => some (i * P.cellsOf e, P.cellsOf e)) #[] (parts.toList.map fun q => (q.1, a.eval q.2)) = some cells := by
        rw [Nat.zero_mul, hr0, Array.map_empty] at g1
        exact g1
      simp only [Instr.buildSlice, Sem.run_bind, run_underlying hes, Result.andThen_ok, sizeOf, typeInfo, run_program, hi, Sem.run_pure, hi1, hparts, Nat.zero_mul, hr0, Nat.not_lt_zero, gt_iff_lt, if_false, if_true]
      simp [Array.map_empty, g1', newRow]
    · have hmul : 0 < len * P.cellsOf e := Nat.mul_pos (by omega) hpos
      have hb0 := run_buildSlice (P := P) w ty e len (parts.map fun (i, x) => (i, a.eval x)) cells i v hes hi hvz (by rw [hi1]; unfold szA at hsm; omega) (by rw [hi1]; omega) (by
        rw [hi1, hparts]
        exact g1)
      rw [hb0]
  have hrun2 : (execOp a.eval o).run P w = .ok (.value (.slice (some ⟨w.heap.size, 0, none⟩) len len)) (w.alloc (.cells cells e)) := by
    simp only [execOp, ho, Sem.run_bind, hb, Result.andThen_ok, Sem.run_pure]
  obtain ⟨g21, g22, g23⟩ := g2
  have hmx : len ≤ maxLen := by
    have : len * 1 ≤ len * P.cellsOf e := Nat.mul_le_mul_left _ hpos
    unfold maxLen szA at *
    omega
  constructor
  · obtain ⟨m', h1, h2, h3, h4, h5⟩ := hw.push (w.alloc (.cells cells e)) e es cells ((Only.refl _ w).alloc _) (Blk.new w _ _) (Nat.le_of_eq g21.symm) g22 g23
    refine ⟨m', _, _, .inl hrun2, h1, h2, ?_, (Below.refl _ _).alloc hw.size _⟩
    have := VR.msl (P := P) (m := m') (h := h.push es) h.n 0 len e len (by simp [AH.push]) h4 (by rw [h5, g21, g3, Nat.zero_add]) (Nat.le_refl _) hmx
    rw [h3] at this
    simpa using this
  · obtain ⟨m', h1, h2, h3⟩ := hw.fresh (w.alloc (.cells cells e)) e es cells len ((Only.refl _ w).alloc _) (Blk.new w _ _) (by rw [g21, g3]) (by rw [g3]; exact Nat.le_refl _) hmx g22 g23
    rw [g3] at h1 h2 h3
    exact ⟨m', _, _, .inl hrun2, h1, h2, h3, (Below.refl _ _).alloc hw.size _⟩

theorem op_makeSlice (hT : TyOK P) (hw : WR P m h w) (ht : TR P m h t a.tmps) (ty : TypeId) (l c : Operand) (ho : o.op = .makeSlice ty l c) {e : TypeId} (he : elemA P ty = some e) {z : List AV} (hz : zeroA P e = some z) {k1 k2 : IntKind} {n : Int}
    (hl : evA t l = .int k1 n) (hc : evA t c = .int k2 n) (h0 : 0 ≤ n) (hsm : n ≤ 100000) : OpR P m h a w o (.msl h.n 0 n.toNat e) (h.push (List.replicate n.toNat z)) := by
  have hes := elem_run he
  have hpos := elem_pos hT he
  obtain ⟨i, v, hi, hvz, hl', hs, hr, hrun⟩ := zeroA_sound (m := m) (h := h) (w := w) hT hz
  have hi1 : i.size = P.cellsOf e := by simp [Program.cellsOf, hi]
  have v1 := evA_sound ht l
  have v2 := evA_sound ht c
  rw [hl] at v1
  rw [hc] at v2
  obtain ⟨u1, hu1⟩ : ∃ u, a.eval l = u := ⟨_, rfl⟩
  obtain ⟨u2, hu2⟩ : ∃ u, a.eval c = u := ⟨_, rfl⟩
  rw [hu1] at v1
  rw [hu2] at v2
  cases v1
  cases v2
  have hby := hT.small e i (zero_lt hz) hi
  have hb : (i.bytes : Int) * n ≤ 281474976710656 := by
    have h1 : (i.bytes : Int) * n ≤ 100000 * 100000 := Int.mul_le_mul (by omega) hsm h0 (by omega)
    omega
  have hz0 := zero_row (P := P) (m := m) (h := h) n.toNat (P.cellsOf e) z v.cells hr hl' hpos
  obtain ⟨r1, r2, r3⟩ := hz0
  have hmk := run_make (P := P) w ty e i v hes hi hvz k1 k2 n n h0 (Int.le_refl _) hb (by omega)
  have e1 : madeCells v.cells (n.toNat * i.size) = (Array.range (n.toNat * P.cellsOf e)).map (v.cells[· % v.cells.size]!) := by rw [hi1]; rfl
  rw [e1] at hmk
  obtain ⟨m', h1, h2, h3, h4, h5⟩ := hw.push (w.alloc (.cells ((Array.range (n.toNat * P.cellsOf e)).map (v.cells[· % v.cells.size]!)) e)) e (List.replicate n.toNat z) _ ((Only.refl _ w).alloc _) (Blk.new w _ _) (Nat.le_of_eq r1.symm) r2 r3
  refine ⟨m', _, .slice (some ⟨w.heap.size, 0, none⟩) n.toNat n.toNat, .inl ?_, h1, h2, ?_, (Below.refl _ _).alloc hw.size _⟩
  · simp only [execOp, ho, hu1, hu2, Sem.run_bind, hmk, Result.andThen_ok, Sem.run_pure]
  · have := VR.msl (P := P) (m := m') (h := h.push (List.replicate n.toNat z)) h.n 0 n.toNat e n.toNat (by simp [AH.push]) h4 (by rw [h5, r1, List.length_replicate, Nat.zero_add]) (Nat.le_refl _) (by unfold maxLen; omega)
    rw [h3] at this
    simpa using this
end
end Go.Proofs.Ytacocolcighomaa
