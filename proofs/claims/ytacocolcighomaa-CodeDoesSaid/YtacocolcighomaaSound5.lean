/- Each operation that is no call does in memory what it does in the plain model: indices, slices, comparisons. -/
import Derived.Test.YtacocolcighomaaSound4
namespace Go.Proofs.Ytacocolcighomaa
set_option linter.unusedSimpArgs false
set_option linter.unusedVariables false
open Go Go.RowKit

section
variable {P : Program} {m m' : Mm} {h h' : AH} {w w' : World} {t : List AV} {a : Act} {o : Oper}

/-- a part of a row by value -/
theorem part_sound (ty : TypeId) {d : TypeDesc} (hd : P.underlying ty = some d) (hz : szA P ty ≠ 0) {cs : List AV} {cs' : List Value} (hr : VRs P m h cs cs') (off : Nat) {v : AV} (hv : ldA (aggA P ty) (szA P ty) cs off = some v) :
    ∃ u, (part ty cs'.toArray off).run P w = .ok u w ∧ VR P m h v u := by
  obtain ⟨i0, hi0, hi1⟩ := size_info hz
  unfold ldA at hv
  unfold part
  simp only [Sem.run_bind, aggA_run ty hd, Result.andThen_ok]
  cases hag : aggA P ty
  · simp only [hag, Bool.false_eq_true, if_false] at hv ⊢
    obtain ⟨u, h1, h2⟩ := hr.get? hv
    exact ⟨u, by simp [h1], h2⟩
  · simp only [hag, if_true] at hv ⊢
    split at hv
    · rename_i hle
      injection hv with hv
      subst hv
      refine ⟨.agg ((cs'.drop off).take (szA P ty)).toArray, ?_, ?_⟩
      · simp [sizeOf, typeInfo, hi0, hi1]
      · refine .agg _ _ (by simp [hr.1]) (fun j hj hj' => ?_)
        simp only [List.getElem_take, List.getElem_drop]
        exact hr.2 _ _ _
    · cases hv

theorem op_field (hw : WR P m h w) (ht : TR P m h t a.tmps) (s : TypeId) (x : Operand) (f : Nat) (ho : o.op = .field s x f) {q : Nat × TypeId} (hq : ((fieldsA P s).bind (·[f]?)) = some q) (hz : szA P q.2 ≠ 0) (hu2 : P.underlying q.2 ≠ none) {cs : List AV} {v : AV}
    (hx : evA t x = .agg cs) (hv : ldA (aggA P q.2) (szA P q.2) cs q.1 = some v) : OpR P m h a w o v h := by
  obtain ⟨fs, fd, h1, h2, h3, h4⟩ := field_run hq
  have hc := evA_sound ht x
  rw [hx] at hc
  obtain ⟨u, hu⟩ : ∃ u, a.eval x = u := ⟨_, rfl⟩
  rw [hu] at hc
  obtain ⟨d, hd⟩ := Option.ne_none_iff_exists'.1 hu2
  cases hc with
  | agg _ l' g1 g3 =>
    obtain ⟨u', r1, r2⟩ := part_sound (w := w) q.2 hd hz (cs := cs) (cs' := l') ⟨g1, g3⟩ q.1 hv
    refine OpR.pure hw (u := u') ?_ r2
    simp [execOp, ho, hu, Instr.field, run_underlying h1, h2, asAgg, h3, h4, r1]

theorem elem_run {ty e : TypeId} (he : elemA P ty = some e) : P.underlying ty = some (.slice e) := by
  unfold elemA at he
  split at he
  case isFalse => cases he
  split at he
  · rename_i e' h1
    injection he with he
    rw [h1, he]
  · cases he
theorem elem_pos (hT : TyOK P) {ty e : TypeId} (he : elemA P ty = some e) : 0 < P.cellsOf e := by
  have h := he
  unfold elemA at h
  split at h
  · rename_i hlt
    exact hT.pos ty e hlt (elem_run he)
  · cases h
theorem zero_lt {e : TypeId} {z : List AV} (hz : zeroA P e = some z) : e < P.types.size := by
  unfold zeroA at hz
  split at hz
  · assumption
  · cases hz
theorem arr_run {ty : TypeId} {q : Nat × TypeId} (he : arrA P ty = some q) : P.underlying ty = some (.array q.1 q.2) := by
  unfold arrA at he
  split at he
  · rename_i n e h1
    injection he with he
    rw [h1, ← he]
  · cases he

theorem op_indexAddr (hT : TyOK P) (hw : WR P m h w) (ht : TR P m h t a.tmps) (ty : TypeId) (x ix : Operand) (ho : o.op = .indexAddr ty x ix) {v : AV}
    (hv : ixAddrA P ty (evA t x) (evA t ix) = some v) : OpR P m h a w o v h := by
  have hc := evA_sound ht x
  have hk := evA_sound ht ix
  revert hv hc hk
  obtain ⟨u, hu⟩ : ∃ u, a.eval x = u := ⟨_, rfl⟩
  obtain ⟨ku, hku⟩ : ∃ ku, a.eval ix = ku := ⟨_, rfl⟩
  rw [hu, hku]
  generalize evA t x = ex
  generalize evA t ix = ek
  intro hv hc hk
  cases hc with
  | isl0 e a' cap =>
    cases hk with
    | int kk k =>
      simp only [ixAddrA] at hv
      split at hv
      · simp at hv
      · cases hv
    | _ => simp [ixAddrA] at hv
  | isl id e es g o' cap F hl hi hvv hcap htt =>
    cases hk with
    | int kk k =>
      simp only [ixAddrA] at hv
      split at hv
      · rename_i hcond
        obtain ⟨he, hk0⟩ := hcond
        have hes := elem_run he
        have hpos := elem_pos hT he
        obtain ⟨r, hr, hv⟩ := Option.map_eq_some_iff.1 hv
        obtain ⟨hlt, hr2⟩ := List.getElem?_eq_some_iff.1 hr
        obtain ⟨i0, hi0, hi1⟩ := size_info (P := P) (q := e) (by unfold szA; omega)
        have hlen : r.length = P.cellsOf e := hl r (hr2 ▸ List.getElem_mem hlt)
        subst hv
        refine OpR.pure hw (u := .pointer (some ⟨g, o' + k.toNat * P.cellsOf e + 0, none⟩)) ?_ (.ip r 0 g (o' + k.toNat * P.cellsOf e) (F k.toNat) ?_ ?_)
        · have hki : k < (es.length : Int) := by omega
          have h1 : i0.size = P.cellsOf e := hi1
          simp only [execOp, ho, hu, hku, Instr.indexAt, asIntOf, Sem.run_bind, Sem.run_pure, Result.andThen_ok, run_underlying hes, hk0, hki, and_self, if_true, sizeOf, typeInfo, run_program, hi0, h1, Addr.add_lit, Nat.add_zero]
        · intro j hj
          rw [Nat.add_assoc]
          exact hi k.toNat hlt j (by omega)
        · intro j hj
          have := hvv k.toNat hlt j (by rw [hr2]; exact hj)
          simpa only [hr2] using this
      · cases hv
    | _ => simp [ixAddrA] at hv
  | msl b o' n e cap hb he' hcap hn hmx =>
    cases hk with
    | int kk k =>
      simp only [ixAddrA] at hv
      split at hv
      · rename_i hcond
        obtain ⟨he, hk0, hkn⟩ := hcond
        have hes := elem_run he
        have hpos := elem_pos hT he
        obtain ⟨i0, hi0, hi1⟩ := size_info (P := P) (q := e) (by unfold szA; omega)
        injection hv with hv
        subst hv
        have hp := VR.ptr (P := P) (m := m) (h := h) b (o' + k.toNat) 0 hb
        rw [he'] at hp
        refine OpR.pure hw (u := .pointer (some ⟨m.blk b, (o' + k.toNat) * P.cellsOf e + 0, none⟩)) ?_ hp
        have h1 : i0.size = P.cellsOf e := hi1
        simp only [execOp, ho, hu, hku, Instr.indexAt, asIntOf, Sem.run_bind, Sem.run_pure, Result.andThen_ok, run_underlying hes, hk0, hkn, and_self, if_true, sizeOf, typeInfo, run_program, hi0, h1, Addr.add_lit, Nat.add_zero, Nat.add_mul]
      · cases hv
    | _ => simp [ixAddrA] at hv
  | ptr b i off hb =>
    cases hk with
    | int kk k =>
      simp only [ixAddrA] at hv
      obtain ⟨q, hq, hv⟩ := Option.bind_eq_some_iff.1 hv
      split at hv
      · rename_i hcond
        obtain ⟨hz, hk0, hkn⟩ := hcond
        have har := arr_run hq
        obtain ⟨i0, hi0, hi1⟩ := size_info hz
        injection hv with hv
        subst hv
        have hp := VR.ptr (P := P) (m := m) (h := h) b i (off + k.toNat * szA P q.2) hb
        refine OpR.pure hw (u := _) ?_ hp
        simp only [execOp, ho, hu, hku, Instr.indexAt, asIntOf, Instr.sureAddr, Sem.run_bind, Sem.run_pure, Result.andThen_ok, run_underlying har, hk0, hkn, and_self, if_true, sizeOf, typeInfo, run_program, hi0, hi1, Addr.add_lit, Nat.add_assoc]
      · cases hv
    | _ => simp [ixAddrA] at hv
  | ip e off g o' F hi hvv =>
    cases hk with
    | int kk k =>
      simp only [ixAddrA] at hv
      obtain ⟨q, hq, hv⟩ := Option.bind_eq_some_iff.1 hv
      split at hv
      · rename_i hcond
        obtain ⟨hz, hk0, hkn⟩ := hcond
        have har := arr_run hq
        obtain ⟨i0, hi0, hi1⟩ := size_info hz
        injection hv with hv
        subst hv
        have hp := VR.ip (P := P) (m := m) (h := h) e (off + k.toNat * szA P q.2) g o' F hi hvv
        refine OpR.pure hw (u := _) ?_ hp
        simp only [execOp, ho, hu, hku, Instr.indexAt, asIntOf, Instr.sureAddr, Sem.run_bind, Sem.run_pure, Result.andThen_ok, run_underlying har, hk0, hkn, and_self, if_true, sizeOf, typeInfo, run_program, hi0, hi1, Addr.add_lit, Nat.add_assoc]
      · cases hv
    | _ => simp [ixAddrA] at hv
  | _ => simp [ixAddrA] at hv

theorem ba_get (l : List UInt8) (n : Nat) : (⟨l.toArray⟩ : ByteArray)[n]? = l[n]? := by
  by_cases hn : n < l.length
  · rw [ByteArray.getElem?_lt' _ _ (by simpa [ByteArray.size] using hn), List.getElem?_eq_getElem hn]
    rfl
  · rw [ByteArray.getElem?_ge' _ _ (by simpa [ByteArray.size] using hn), List.getElem?_eq_none (by omega)]

theorem op_index (hw : WR P m h w) (ht : TR P m h t a.tmps) (ty : TypeId) (x ix : Operand) (ho : o.op = .index ty x ix) {v : AV}
    (hv : ixA P ty (evA t x) (evA t ix) = some v) : OpR P m h a w o v h := by
  have hc := evA_sound ht x
  have hk := evA_sound ht ix
  revert hv hc hk
  obtain ⟨u, hu⟩ : ∃ u, a.eval x = u := ⟨_, rfl⟩
  obtain ⟨ku, hku⟩ : ∃ ku, a.eval ix = ku := ⟨_, rfl⟩
  rw [hu, hku]
  generalize evA t x = ex
  generalize evA t ix = ek
  intro hv hc hk
  cases hc with
  | str l =>
    cases hk with
    | int kk k =>
      simp only [ixA] at hv
      split at hv
      · rename_i hcond
        obtain ⟨hs, hk0⟩ := hcond
        obtain ⟨c, hcc, hv⟩ := Option.map_eq_some_iff.1 hv
        subst hv
        unfold isStrT at hs
        split at hs
        · rename_i hun
          refine OpR.pure hw (u := .int .u8 c.toNat) ?_ (.int _ _)
          simp only [execOp, ho, hu, hku, Instr.index, asIntOf, Sem.run_bind, Sem.run_pure, Result.andThen_ok, run_underlying hun, hk0, if_true, ba_get, hcc]
        · cases hs
      · cases hv
    | _ => simp [ixA] at hv
  | agg cs l' g1 g3 =>
    cases hk with
    | int kk k =>
      simp only [ixA] at hv
      obtain ⟨q, hq, hv⟩ := Option.bind_eq_some_iff.1 hv
      split at hv
      · rename_i hcond
        obtain ⟨hqs, hz, hk0, hkn⟩ := hcond
        have har := arr_run hq
        obtain ⟨i0, hi0, hi1⟩ := size_info hz
        obtain ⟨d, hd⟩ := Option.isSome_iff_exists.1 hqs
        obtain ⟨u', r1, r2⟩ := part_sound (w := w) q.2 hd hz (cs := cs) (cs' := l') ⟨g1, g3⟩ _ hv
        refine OpR.pure hw (u := u') ?_ r2
        simp only [execOp, ho, hu, hku, Instr.index, asIntOf, Sem.run_bind, Sem.run_pure, Result.andThen_ok, run_underlying har, hk0, hkn, and_self, if_true, sizeOf, typeInfo, run_program, hi0, hi1, r1]
      · cases hv
    | _ => simp [ixA] at hv
  | _ => simp [ixA] at hv
end
end Go.Proofs.Ytacocolcighomaa
