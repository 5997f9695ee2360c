/- append does in memory what it does in the plain model. -/
import Derived.Test.YtacocolcighomaaSound8
import Derived.Maps.AppendAt
namespace Go.Proofs.Ytacocolcighomaa
set_option linter.unusedSimpArgs false
set_option linter.unusedVariables false
open Go Go.RowKit

section
variable {P : Program} {m m' : Mm} {h h' : AH} {w w' : World} {t : List AV} {a : Act} {o : Oper}

/-- what 'append(s, x...)' leaves: in the row that was there (nothing else turns), or in a new one (nothing at all turns) -/
theorem run_append2 (base : Nat) (t ty e : TypeId) (i : TypeInfo) (z : Value) (size bytes : Nat) (ht : P.underlying t = some (.slice e)) (hi : P.info? e = some i) (hz : i.zero = some z)
    (hsize : i.size = size) (hby : i.bytes = bytes) (hzs : z.cells.size = size) (hsz : 0 < size)
    (v : Value) (n : Nat) (xs : List Value) (hown : w.ownsRow base e size v n xs)
    (a : Addr) (m c : Nat) (hm0 : 0 < m) (news : List Value) (hl : news.length = m * size) (hnews : ∀ j u, news[j]? = some u → w.cell? (a.add j) = some u) (h1 : ∀ u ∈ news, u.oneCell' = true)
    (h63 : n + m ≤ maxLen) (hbytes : (n + m) * bytes ≤ 140737488355328) (hbase : base ≤ w.heap.size) :
    ∃ g cap w', (Builtin.append_ #[t, t] ty #[v, .slice (some a) m c]).run P w = .ok (.slice (some ⟨g, 0, none⟩) (n + m) cap) w' ∧ w'.ownsRow base e size (.slice (some ⟨g, 0, none⟩) (n + m) cap) (n + m) (xs ++ news) ∧
      ((v.ownBlock = some g ∧ Only (fun k => k = g) w w' ∧ ∃ k, v = .slice (some ⟨g, 0, none⟩) n k) ∨ (g = w.heap.size ∧ New w w')) := by
  subst hsize
  subst hby
  have hsmall : n + m ≤ 9223372036854775807 := by simp only [maxLen] at h63; omega
  have hlen : (xs ++ news).length = (n + m) * i.size := by rw [List.length_append, hown.1, hl, Nat.add_mul]
  have grown : ∀ (old : Nat), old < n + m →
      (w.drew.alloc (.cells (xs.toArray ++ news.toArray ++ Builtin.zeroCells z.cells (grownCap w (n + m) old e - (n + m))) e)).ownsRow base e i.size
        (.slice (some ⟨w.heap.size, 0, none⟩) (n + m) (grownCap w (n + m) old e)) (n + m) (xs ++ news) ∧
      New w (w.drew.alloc (.cells (xs.toArray ++ news.toArray ++ Builtin.zeroCells z.cells (grownCap w (n + m) old e - (n + m))) e)) := by
    intro old ho
    have hge := grownCap_ge w (n + m) old e
    have hcm : grownCap w (n + m) old e ≤ maxLen := grownCap_le_maxLen w (n + m) old e h63
    refine ⟨⟨hlen, .inr ⟨w.heap.size, _, _, rfl, hbase, heap_alloc_new w.drew _, hge, hcm, ?_, ?_⟩⟩, ⟨rfl, rfl, rfl, by simp, fun k hk _ => heap_alloc_old w.drew _ hk⟩⟩
    · simp only [Array.size_append, List.size_toArray, size_zeroCells, hzs, hown.1, hl, ← Nat.add_mul]
      congr 1
      omega
    · simp only [Array.toList_append, List.append_assoc]
      rw [← List.append_assoc, ← hlen]
      exact List.take_left
  rcases hown.2 with ⟨rfl, rfl⟩ | ⟨g, cap, cur, rfl, hbg, hg, hnc, hcm, hcs, htake⟩
  · have hx : xs = [] := List.eq_nil_of_length_eq_zero (by simpa using hown.1)
    subst hx
    have hr := run_append_nil (P := P) w t ty e i z ht hi hz a m c news hl hnews (by omega) (by omega) (by have hb := hbytes; simp only [Nat.zero_add] at hb; omega)
    have hgr := grown 0 (by omega)
    simp only [Nat.zero_add, List.nil_append, Array.empty_append] at hgr ⊢
    exact ⟨_, _, _, hr, hgr.1, .inr ⟨rfl, hgr.2⟩⟩
  · by_cases hroom : n + m ≤ cap
    · have hfit : n * i.size + news.length ≤ cur.size := by rw [hl, hcs, ← Nat.add_mul]; exact Nat.mul_le_mul_right _ hroom
      have hr := run_append_room (P := P) w t ty e i ht hi g n cap cur hg a m c news hl hnews h1 hroom hfit
      refine ⟨_, _, _, hr, ⟨hlen, .inr ⟨g, cap, _, rfl, hbg, setRow_heap w g cur _ e _ hg, hroom, hcm, ?_, ?_⟩⟩, .inl ⟨rfl, ⟨rfl, rfl, rfl, by simp, fun k _ hk => setRow_other w g k _ hk⟩, ⟨_, rfl⟩⟩⟩
      · simp only [List.size_toArray, List.length_append, List.length_take, List.length_drop, Array.length_toList]
        omega
      · rw [htake, ← hlen]
        exact List.take_left
    · have holds : ∀ j u, xs[j]? = some u → w.cell? ((⟨g, 0, none⟩ : Addr).add j) = some u := hown.cells (g := g) rfl
      have hr := run_append_grow (P := P) w t ty e i z ht hi hz ⟨g, 0, none⟩ n cap xs hown.1 holds a m c news hl hnews (by omega) (by omega) (growslice_fits (by omega) hbytes)
      have hgr := grown cap (by omega)
      exact ⟨_, _, _, hr, hgr.1, .inr ⟨rfl, hgr.2⟩⟩

/-- rows that are appended -/
def RowsL (P : Program) (m : Mm) (h : AH) (sz : Nat) (es : List (List AV)) (l : List Value) : Prop :=
  l.length = es.length * sz ∧ (∀ r ∈ es, r.length = sz) ∧ ∀ i (hi : i < es.length) j (hj : j < es[i].length), ∃ v, l[i * sz + j]? = some v ∧ VR P m h es[i][j] v

theorem RowsL.one {sz : Nat} {es : List (List AV)} {l : List Value} (hr : RowsL P m h sz es l) (hp : 0 < sz) (h1 : es.all (·.all AV.one) = true) : ∀ u ∈ l, u.oneCell' = true := by
  intro u hu
  obtain ⟨k, hk, rfl⟩ := List.getElem_of_mem hu
  obtain ⟨r1, r2, r3⟩ := hr
  have hi : k / sz < es.length := Nat.div_lt_of_lt_mul (by rw [Nat.mul_comm, ← r1]; exact hk)
  have hj : k % sz < es[k / sz].length := by rw [r2 _ (List.getElem_mem hi)]; exact Nat.mod_lt _ hp
  obtain ⟨v, h2, h3⟩ := r3 _ hi _ hj
  have e : k / sz * sz + k % sz = k := by rw [Nat.mul_comm]; exact Nat.div_add_mod k sz
  rw [e, List.getElem?_eq_getElem hk] at h2
  injection h2 with h2
  rw [h2]
  simp only [List.all_eq_true] at h1
  exact h3.one (h1 _ (List.getElem_mem hi) _ (List.getElem_mem hj))

theorem elems_sound (hw : WR P m h w) {e : TypeId} {x : AV} {u : Value} (hx : VR P m h x u) (hnn : x ≠ .nils) {new : List (List AV)} (hn : elemsA h e x = some new) :
    ∃ ad n c news, u = .slice (some ad) n c ∧ n = new.length ∧ RowsL P m h (P.cellsOf e) new news ∧ ∀ j v, news[j]? = some v → w.cell? (ad.add j) = some v := by
  cases hx with
  | nils => exact absurd rfl hnn
  | isl0 e' a' cap =>
    simp only [elemsA] at hn
    split at hn
    · injection hn with hn
      subst hn
      exact ⟨a', 0, cap, [], rfl, rfl, ⟨by simp, by simp, fun i hi => by simp at hi⟩, fun j v hj => by simp at hj⟩
    · cases hn
  | isl id e' es g o' cap F hle hi' hvv hcap htt =>
    simp only [elemsA] at hn
    split at hn
    · rename_i he
      subst he
      injection hn with hn
      subst hn
      have hpz : 0 < P.cellsOf e' ∨ P.cellsOf e' = 0 := by omega
      refine ⟨⟨g, o', none⟩, es.length, cap, (List.range (es.length * P.cellsOf e')).map fun k => F (k / P.cellsOf e') (k % P.cellsOf e'), rfl, rfl, ⟨by simp, hle, fun i hi j hj => ?_⟩, fun j v hj => ?_⟩
      · have hjs : j < P.cellsOf e' := by rw [← hle _ (List.getElem_mem hi)]; exact hj
        have := le_mul_of (s := P.cellsOf e') hi
        have hd : (i * P.cellsOf e' + j) / P.cellsOf e' = i := by
          rw [Nat.mul_comm, Nat.mul_add_div (by omega), Nat.div_eq_of_lt hjs, Nat.add_zero]
        have hm : (i * P.cellsOf e' + j) % P.cellsOf e' = j := by
          rw [Nat.mul_comm, Nat.mul_add_mod]
          exact Nat.mod_eq_of_lt hjs
        refine ⟨F i j, ?_, hvv i hi j hj⟩
        rw [List.getElem?_map, List.getElem?_range (by omega)]
        simp only [Option.map_some, hd, hm]
      · simp only [List.getElem?_map, Option.map_eq_some_iff] at hj
        obtain ⟨k, hk, rfl⟩ := hj
        obtain ⟨hlt, hkk⟩ := List.getElem?_eq_some_iff.1 hk
        simp at hlt hkk
        subst hkk
        have hp : 0 < P.cellsOf e' := by
          rcases hpz with h1 | h1
          · exact h1
          · rw [h1] at hlt
            omega
        have hd : j / P.cellsOf e' < es.length := Nat.div_lt_of_lt_mul (by rw [Nat.mul_comm]; exact hlt)
        have hm := Nat.mod_lt j hp
        have := hw.imm _ _ _ (hi' _ hd _ hm)
        rw [Addr.add_lit]
        have e2 : j / P.cellsOf e' * P.cellsOf e' + j % P.cellsOf e' = j := by rw [Nat.mul_comm]; exact Nat.div_add_mod j _
        rwa [e2] at this
    · cases hn
  | msl b o' n' e' cap hb he' hcap hnn hmx =>
    simp only [elemsA] at hn
    split at hn
    · rename_i he
      subst he
      obtain ⟨es, hes, hn⟩ := Option.bind_eq_some_iff.1 hn
      split at hn
      · rename_i hle
        injection hn with hn
        subst hn
        obtain ⟨cs, h1, h2, h3, h4, h5⟩ := hw.live b es hes
        rw [he'] at h1 h3 h4 h5
        have hm : (o' + n') * P.cellsOf e' ≤ es.length * P.cellsOf e' := Nat.mul_le_mul_right _ hle
        rw [Nat.add_mul] at hm
        have hlen : ((es.drop o').take n').length = n' := by simp; omega
        refine ⟨_, n', cap, (cs.toList.drop (o' * P.cellsOf e')).take (n' * P.cellsOf e'), rfl, hlen.symm, ⟨by rw [hlen]; simp; omega, fun r hr => h3 r (List.mem_of_mem_drop (List.mem_of_mem_take hr)), fun i hi j hj => ?_⟩, fun j v hj => ?_⟩
        · have hi1 : i < n' ∧ o' + i < es.length := by simp at hi; omega
          have e1 : ((es.drop o').take n')[i] = es[o' + i]'hi1.2 := by simp
          have hj' : j < es[o' + i].length := by rw [← e1]; exact hj
          have hjs : j < P.cellsOf e' := by rw [← h3 _ (List.getElem_mem hi1.2)]; exact hj'
          obtain ⟨v, v1, v2⟩ := h5 (o' + i) hi1.2 j hj'
          have hle2 := le_mul_of (s := P.cellsOf e') hi1.1
          refine ⟨v, ?_, by simpa using v2⟩
          rw [List.getElem?_take_of_lt (by omega), List.getElem?_drop, Array.getElem?_toList]
          rw [show o' * P.cellsOf e' + (i * P.cellsOf e' + j) = (o' + i) * P.cellsOf e' + j by rw [Nat.add_mul]; omega]
          exact v1
        · have hlt : j < n' * P.cellsOf e' := by
            have := (List.getElem?_eq_some_iff.1 hj).1
            simp at this
            omega
          rw [List.getElem?_take_of_lt hlt, List.getElem?_drop, Array.getElem?_toList] at hj
          rw [Addr.add_lit, h1.cell]
          exact hj
      · cases hn
    · cases hn
  | _ => simp [elemsA] at hn

/-- the operation, in two parts -/
theorem append_op (ty : TypeId) (tys : List TypeId) (x y : Operand) (ho : o.op = .call { callee := .builtin .append, args := #[x, y], argTypes := (ty :: tys).toArray }) {u v r : Value} (hu : a.eval x = u) (hv : a.eval y = v)
    (hr : (Builtin.append_ (ty :: tys).toArray o.type #[u, v]).run P w = .ok r w') : (execOp a.eval o).run P w = .ok (.value r) w' := by
  simp only [execOp, ho, resolve, invoke, builtin, Sem.run_bind, Sem.run_pure, Result.andThen_ok, List.map_toArray, List.map_cons, List.map_nil, hu, hv, hr]

theorem append_nothing (ty e : TypeId) (tys : List TypeId) (hty : P.underlying ty = some (.slice e)) (hi : P.info? e ≠ none) (htys : tys = [ty]) (rt : TypeId) (A : Option Addr) (n c : Nat) (hnc : n ≤ c) :
    (Builtin.append_ (ty :: tys).toArray rt #[.slice A n c, .slice none 0 0]).run P w = .ok (.slice A n c) w := by
  subst htys
  obtain ⟨i, hi⟩ := Option.ne_none_iff_exists'.1 hi
  cases A <;> simp [Builtin.append_, run_underlying hty, sizeOf, typeInfo, hi, Builtin.lenOf, Builtin.firstCells, hnc, storeCells]

theorem append_nothing2 (ty e : TypeId) (tys : List TypeId) (hty : P.underlying ty = some (.slice e)) (hi : P.info? e ≠ none) (htys : tys = [ty]) (rt : TypeId) (A : Option Addr) (n c : Nat) (hnc : n ≤ c) (ad : Addr) (c2 : Nat) :
    (Builtin.append_ (ty :: tys).toArray rt #[.slice A n c, .slice (some ad) 0 c2]).run P w = .ok (.slice A n c) w := by
  subst htys
  obtain ⟨i, hi⟩ := Option.ne_none_iff_exists'.1 hi
  cases A <;> simp [Builtin.append_, run_underlying hty, sizeOf, typeInfo, hi, Builtin.lenOf, Builtin.firstCells, hnc, storeCells, loadCells, loadCellsFrom]

/-- rows as a list of cells -/
theorem own_rows (hw : WR P m h w) {e : TypeId} {es : List (List AV)} {xs : List Value} {g cap : Nat} (hown : w.ownsRow m.base e (P.cellsOf e) (.slice (some ⟨g, 0, none⟩) es.length cap) es.length xs) (hl : ∀ r ∈ es, r.length = P.cellsOf e)
    (hv : ∀ i (hi : i < es.length) j (hj : j < es[i].length), ∃ v, w.cell? ⟨g, i * P.cellsOf e + j, none⟩ = some v ∧ VR P m h es[i][j] v) : RowsL P m h (P.cellsOf e) es xs := by
  refine ⟨hown.1, hl, fun i hi j hj => ?_⟩
  have hjs : j < P.cellsOf e := by rw [← hl _ (List.getElem_mem hi)]; exact hj
  have := le_mul_of (s := P.cellsOf e) hi
  have hlt : i * P.cellsOf e + j < xs.length := by rw [hown.1]; omega
  obtain ⟨v, h1, h2⟩ := hv i hi j hj
  have h3 := hown.cells (g := g) rfl (i * P.cellsOf e + j) xs[i * P.cellsOf e + j] (List.getElem?_eq_getElem hlt)
  rw [Addr.add_lit, Nat.zero_add, h1] at h3
  injection h3 with h3
  exact ⟨v, by rw [List.getElem?_eq_getElem hlt, h3], h2⟩
theorem RowsL.append {sz : Nat} {es fs : List (List AV)} {l k : List Value} (h1 : RowsL P m h sz es l) (h2 : RowsL P m h sz fs k) : RowsL P m h sz (es ++ fs) (l ++ k) := by
  obtain ⟨a1, a2, a3⟩ := h1
  obtain ⟨b1, b2, b3⟩ := h2
  refine ⟨by simp [a1, b1, Nat.add_mul], fun r hr => ?_, fun i hi j hj => ?_⟩
  · rcases List.mem_append.1 hr with h | h
    · exact a2 r h
    · exact b2 r h
  · by_cases hlt : i < es.length
    · have e1 : (es ++ fs)[i] = es[i] := List.getElem_append_left hlt
      have hj' : j < es[i].length := by rw [e1] at hj; exact hj
      have hjs : j < sz := by rw [← a2 _ (List.getElem_mem hlt)]; exact hj'
      have := le_mul_of (s := sz) hlt
      obtain ⟨v, v1, v2⟩ := a3 i hlt j hj'
      exact ⟨v, by rw [List.getElem?_append_left (by omega)]; exact v1, by simpa only [e1] using v2⟩
    · have hi2 : i - es.length < fs.length := by simp at hi; omega
      have e1 : (es ++ fs)[i] = fs[i - es.length] := List.getElem_append_right (by omega)
      have hj' : j < fs[i - es.length].length := by rw [e1] at hj; exact hj
      have hle : es.length * sz ≤ i * sz := Nat.mul_le_mul_right _ (by omega)
      obtain ⟨v, v1, v2⟩ := b3 _ hi2 j hj'
      refine ⟨v, ?_, by simpa only [e1] using v2⟩
      rw [List.getElem?_append_right (by omega), ← v1]
      congr 1
      rw [Nat.sub_mul]
      omega
theorem RowsL.take {sz : Nat} {es : List (List AV)} {l : List Value} (h1 : RowsL P m h sz es l) (n : Nat) (hn : n ≤ es.length) : RowsL P m h sz (es.take n) (l.take (n * sz)) := by
  obtain ⟨a1, a2, a3⟩ := h1
  have hle : n * sz ≤ es.length * sz := Nat.mul_le_mul_right _ hn
  refine ⟨by simp [a1, Nat.min_eq_left hle, Nat.min_eq_left hn], fun r hr => a2 r (List.mem_of_mem_take hr), fun i hi j hj => ?_⟩
  have hi' : i < n ∧ i < es.length := by simp at hi; omega
  have e1 : (es.take n)[i] = es[i]'hi'.2 := by simp
  have hj' : j < (es[i]'hi'.2).length := by rw [e1] at hj; exact hj
  have hjs : j < sz := by rw [← a2 _ (List.getElem_mem hi'.2)]; exact hj'
  have := le_mul_of (s := sz) hi'.1
  obtain ⟨v, v1, v2⟩ := a3 i hi'.2 j hj'
  exact ⟨v, by rw [List.getElem?_take_of_lt (by omega)]; exact v1, by simpa only [e1] using v2⟩
end
end Go.Proofs.Ytacocolcighomaa
