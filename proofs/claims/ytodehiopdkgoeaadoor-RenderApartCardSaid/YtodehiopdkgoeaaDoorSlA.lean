/- Any argument of numbers, bools, strings, structs and slices of these: from 'it reads as data' to a value of the plain model, and what its type says of it. Slices that nobody turns. -/
import Derived.Test.YtodehiopdkgoeaaDoorHeapV
import Derived.Test.YtodehiopdkgoeaaDoorLawS
namespace Go.Proofs.YtodehiopdkgoeaaDoor
set_option linter.unusedSimpArgs false
set_option linter.unusedVariables false
open Go Go.ChangeShapes Go.WideShapes Go.ChangeAt Go.RowKit Go.Deep

/-- cells of a type, as deep as so -/
def TyA (P : Program) : Nat → TypeId → List AV → Prop
  | 0, _, _ => False
  | n + 1, t, cs => match P.underlying t with
    | some .bool => ∃ b, cs = [.bool b]
    | some (.int k) => ∃ z, cs = [.int k z] ∧ (Lit.int k z).wf = true
    | some .string => ∃ s, cs = [.str s] ∧ s.length ≤ maxLen
    | some (.slice e) => cs = [.nils] ∨ ∃ es, cs = [.isl none e es] ∧ es.length ≤ maxLen ∧ ∀ r ∈ es, r.length = P.cellsOf e ∧ TyA P n e r
    | some (.struct fs) => ∃ parts : List (List AV), cs = parts.flatten ∧ parts.length = fs.size ∧ ∀ (i : Nat) (f : Field), fs[i]? = some f → ∃ p, parts[i]? = some p ∧ p.length = P.cellsOf f.type ∧ TyA P n f.type p
    | _ => False

def consecF (P : Program) : Nat → List Field → Nat → Bool
  | o, [], m => o == m
  | o, f :: r, m => f.offset == o && consecF P (o + P.cellsOf f.type) r m
/-- types of numbers, bools, strings, structs and slices of these -/
def closedT (P : Program) (S : List TypeId) : Bool := S.all fun t => match P.underlying t with
  | some .bool | some (.int _) | some .string => true
  | some (.slice e) => S.contains e && P.cellsOf e != 0
  | some (.struct fs) => consecF P 0 fs.toList (P.cellsOf t) && fs.toList.all fun f => S.contains f.type
  | _ => false

theorem consecF_le {P : Program} : ∀ {l : List Field} {o m : Nat}, consecF P o l m = true → o ≤ m
  | [], o, m, h => by simp [consecF] at h; omega
  | f :: r, o, m, h => by
    simp only [consecF, Bool.and_eq_true] at h
    have := consecF_le h.2
    omega

section
variable {H : Type} {enc : TypeId × Value → H} {P : Program} {W : World} {S : List TypeId}

theorem open_fields {n : Nat} (ih : ∀ t cs x, t ∈ S → DataW.trod enc P W 0 (fun _ => true) true n t cs = some x → ∃ avs, TyA P n t avs ∧ VRs P (m0A W) h0A avs cs) :
    ∀ (fl : List Field) (o m : Nat) (cs : List Value), consecF P o fl m = true → cs.length = m → (∀ f ∈ fl, f.type ∈ S ∧ ∃ x, DataW.trod enc P W 0 (fun _ => true) true n f.type ((cs.drop f.offset).take (P.cellsOf f.type)) = some x) →
    ∃ parts : List (List AV), parts.length = fl.length ∧ (∀ (i : Nat) (f : Field), fl[i]? = some f → ∃ p, parts[i]? = some p ∧ p.length = P.cellsOf f.type ∧ TyA P n f.type p) ∧ VRs P (m0A W) h0A parts.flatten (cs.drop o)
  | [], o, m, cs, h, hc, hf => by
    simp only [consecF, beq_iff_eq] at h
    refine ⟨[], rfl, fun i f hi => by simp at hi, ?_⟩
    rw [List.drop_eq_nil_of_le (by omega)]
    exact VRs.nil
  | f :: fl, o, m, cs, h, hc, hf => by
    simp only [consecF, Bool.and_eq_true, beq_iff_eq] at h
    obtain ⟨h1, h2⟩ := h
    have hle := consecF_le h2
    obtain ⟨hs, x, hx⟩ := hf f (by simp)
    obtain ⟨p, hp1, hp2⟩ := ih _ _ _ hs hx
    obtain ⟨parts, q1, q2, q3⟩ := open_fields ih fl (o + P.cellsOf f.type) m cs h2 hc (fun g hg => hf g (by simp [hg]))
    rw [h1] at hp2
    have hl : p.length = P.cellsOf f.type := by
      have := hp2.1
      rw [List.length_take, List.length_drop] at this
      omega
    refine ⟨p :: parts, by simp [q1], ?_, ?_⟩
    · intro i g hi
      cases i with
      | zero =>
        obtain rfl : f = g := by simpa using hi
        exact ⟨p, rfl, hl, hp1⟩
      | succ i => exact q2 i g (by simpa using hi)
    · have e : cs.drop o = (cs.drop o).take (P.cellsOf f.type) ++ cs.drop (o + P.cellsOf f.type) := by
        rw [← List.drop_drop, List.take_append_drop]
      rw [e, List.flatten_cons]
      exact VRs.append hp2 q3

theorem open_ty (hS : closedT P S = true) : ∀ (fuel : Nat) (t : TypeId) (cs : List Value) (x : DataW H × List MemPlace), t ∈ S → DataW.trod enc P W 0 (fun _ => true) true fuel t cs = some x →
    ∃ avs, TyA P fuel t avs ∧ VRs P (m0A W) h0A avs cs
  | 0, t, cs, x, _, h => by simp [DataW.trod] at h
  | n + 1, t, cs, x, ht, h => by
    have hS' := hS
    have hc := List.all_eq_true.1 hS t ht
    simp only [TyA]
    split at hc
    · rename_i hu
      obtain ⟨b, rfl, -⟩ := DataW.trod_bool hu h
      exact ⟨_, ⟨b, rfl⟩, VRs.cons (.bool b) VRs.nil⟩
    · rename_i k hu
      obtain ⟨z, rfl, -, hw⟩ := DataW.trod_int hu h
      exact ⟨_, ⟨z, rfl, hw⟩, VRs.cons (.int k z) VRs.nil⟩
    · rename_i hu
      obtain ⟨s, rfl, -, hw⟩ := DataW.trod_string hu h
      exact ⟨_, ⟨s.data.toList, rfl, by simpa using hw⟩, VRs.cons (vr_str s) VRs.nil⟩
    · rename_i e hu
      simp only [Bool.and_eq_true, bne_iff_ne, ne_eq, List.contains_iff_mem] at hc
      rcases DataW.trod_slice hu h with ⟨rfl, -⟩ | ⟨a, len, cap, elems, rest, n', hn, rfl, -, hb, hl, hm, hlen, hel, -, -⟩
      · exact ⟨_, Or.inl rfl, VRs.cons .nils VRs.nil⟩
      · obtain rfl : n = n' := by omega
        have key : ∀ i, i < len → ∃ q : List AV × List Value, W.cells? 0 (a.add (i * P.cellsOf e)) (P.cellsOf e) = some q.2 ∧ TyA P n e q.1 ∧ VRs P (m0A W) h0A q.1 q.2 := by
          intro i hi
          have h1 := hel i hi
          rw [List.getElem?_eq_getElem (by omega)] at h1
          obtain ⟨cs', h2, h3⟩ := Option.bind_eq_some_iff.1 h1
          obtain ⟨avs, h4, h5⟩ := open_ty hS' n e cs' _ hc.1 h3
          exact ⟨(avs, cs'), h2, h4, h5⟩
        obtain ⟨V, hV⟩ := choose_lt key
        have hlen2 : ∀ i, i < len → (V i).1.length = P.cellsOf e ∧ (V i).2.length = P.cellsOf e := fun i hi => by
          obtain ⟨h1, h2, h3⟩ := hV i hi
          have := (World.cells?_some h1).2.1
          exact ⟨by rw [← this, h3.1], this⟩
        refine ⟨_, Or.inr ⟨(List.range len).map fun i => (V i).1, rfl, by simp; omega, ?_⟩, VRs.cons ?_ VRs.nil⟩
        · intro r hr
          obtain ⟨i, hi, rfl⟩ := List.mem_map.1 hr
          have hi := List.mem_range.1 hi
          exact ⟨(hlen2 i hi).1, (hV i hi).2.1⟩
        · by_cases hz : len = 0
          · subst hz
            exact .isl0 e a cap
          · have ha : a = ⟨a.block, a.off, none⟩ := by
              obtain ⟨h1, h2, h3⟩ := hV 0 (by omega)
              have := (World.cells?_some h1).2.2 0 (by omega)
              rw [List.getElem?_eq_getElem (by rw [(hlen2 0 (by omega)).2]; omega)] at this
              have hsp := World.cell?_spot this
              obtain ⟨b, o, sp⟩ := a
              simp [Addr.add] at hsp
              subst hsp
              rfl
            have := VR.isl (P := P) (m := m0A W) (h := h0A) none e ((List.range len).map fun i => (V i).1) a.block a.off cap (fun i j => (V i).2.getD j default) (fun r hr => ?_) (fun i hi j hj => ?_) (fun i hi j hj => ?_) (by simpa using hl) (fun q hq => by cases hq)
            · rw [← ha] at this
              simpa using this
            · obtain ⟨i, hi, rfl⟩ := List.mem_map.1 hr
              exact (hlen2 i (List.mem_range.1 hi)).1
            · simp only [List.length_map, List.length_range] at hi
              obtain ⟨h1, h2, h3⟩ := hV i hi
              have h4 := (World.cells?_some h1).2.2 j hj
              rw [Go.Deep.add_add, ha, Addr.add_lit] at h4
              have h5 : j < (V i).2.length := by rw [(hlen2 i hi).2]; exact hj
              rw [List.getElem?_eq_getElem h5] at h4
              show W.cell? _ = _
              rw [h4]
              simp [List.getD, h5]
            · simp only [List.length_map, List.length_range] at hi
              obtain ⟨h1, h2, h3⟩ := hV i hi
              simp only [List.getElem_map, List.getElem_range] at hj ⊢
              have h5 : j < (V i).2.length := by rw [h3.1]; exact hj
              have := h3.2 j hj h5
              simpa [List.getD, h5] using this
    · rename_i fs hu
      simp only [Bool.and_eq_true, List.all_eq_true, List.contains_iff_mem] at hc
      obtain ⟨xs, n', hn, -, hl, hxl, hf⟩ := DataW.trod_struct hu h
      obtain rfl : n = n' := by omega
      obtain ⟨parts, q1, q2, q3⟩ := open_fields (S := S) (n := n) (fun t cs x ht h => open_ty hS' n t cs x ht h) fs.toList 0 (P.cellsOf t) cs hc.1 hl (fun f hm => ⟨hc.2 f hm, by
        obtain ⟨i, hi⟩ := List.mem_iff_getElem?.1 hm
        rw [Array.getElem?_toList] at hi
        have h1 := hf i f hi
        have h2 := (Array.getElem?_eq_some_iff.1 hi).1
        rw [List.getElem?_eq_getElem (by omega)] at h1
        exact ⟨_, h1⟩⟩)
      exact ⟨_, ⟨parts, rfl, by simpa using q1, fun i f hi => q2 i f (by rw [Array.getElem?_toList]; exact hi)⟩, by simpa using q3⟩
    · cases hc

/-- a struct, by value -/
theorem open_struct {t : TypeId} {fs : Array Field} (hS : closedT P S = true) (hm : t ∈ S) (hu : P.underlying t = some (.struct fs)) {v : Value} {d : DataW H} {p : List MemPlace} {r : Reach} {b0 : Nat} (hok : Value.okWide P W r b0 t v) (h : DataW.Trod enc P W 0 (fun _ => true) true t v d p) :
    ∃ n avs, TyA P n t avs ∧ VR P (m0A W) h0A (.agg avs) v := by
  obtain ⟨cs, rfl, hsz⟩ := okWide_struct hu hok
  obtain ⟨fuel, hf⟩ := h
  obtain ⟨avs, h1, h2⟩ := open_ty hS fuel t _ _ hm hf
  refine ⟨fuel, avs, h1, ?_⟩
  have := VR.agg avs cs.toList (m := m0A W) (h := h0A) (P := P) h2.1 h2.2
  simpa using this
/-- a slice -/
theorem open_slc {t e : TypeId} (hS : closedT P S = true) (hm : t ∈ S) (hu : P.underlying t = some (.slice e)) {v : Value} {d : DataW H} {p : List MemPlace} {r : Reach} {b0 : Nat} (hok : Value.okWide P W r b0 t v) (h : DataW.Trod enc P W 0 (fun _ => true) true t v d p) :
    ∃ n av, TyA P n t [av] ∧ VR P (m0A W) h0A av v := by
  obtain ⟨a, len, cap, rfl⟩ := okWide_slice hu hok
  obtain ⟨fuel, hf⟩ := h
  obtain ⟨avs, h1, h2⟩ := open_ty hS fuel t _ _ hm hf
  have hl := h2.1
  match avs, hl with
  | [av], _ => exact ⟨fuel, av, h1, h2.2 0 (by simp) (by simp [Value.cells])⟩
end

/-! ### what a type says -/
section
variable {P : Program} {t e : TypeId} {cs : List AV}
theorem ty_int {n : Nat} {k : IntKind} (hu : P.underlying t = some (.int k)) (h : TyA P n t cs) : ∃ z, cs = [.int k z] ∧ (Lit.int k z).wf = true := by
  cases n with
  | zero => exact h.elim
  | succ n => simpa only [TyA, hu] using h
theorem ty_bool {n : Nat} (hu : P.underlying t = some .bool) (h : TyA P n t cs) : ∃ b, cs = [.bool b] := by
  cases n with
  | zero => exact h.elim
  | succ n => simpa only [TyA, hu] using h
theorem ty_str {n : Nat} (hu : P.underlying t = some .string) (h : TyA P n t cs) : ∃ s, cs = [.str s] ∧ s.length ≤ maxLen := by
  cases n with
  | zero => exact h.elim
  | succ n => simpa only [TyA, hu] using h
/-- a slice that was handed in -/
def InS (e : TypeId) (v : AV) (es : List (List AV)) : Prop := (es = [] ∧ v = .nils) ∨ v = .isl none e es
theorem InS.isL {v : AV} {es : List (List AV)} (h : InS e v es) : IsL e v es := by
  rcases h with ⟨rfl, rfl⟩ | rfl
  · exact isL_nils e
  · exact isL_isl _ _ _
theorem ty_slc {n : Nat} (hu : P.underlying t = some (.slice e)) (h : TyA P n t cs) : ∃ m v es, n = m + 1 ∧ cs = [v] ∧ InS e v es ∧ es.length ≤ maxLen ∧ ∀ r ∈ es, r.length = P.cellsOf e ∧ TyA P m e r := by
  cases n with
  | zero => exact h.elim
  | succ n =>
    simp only [TyA, hu] at h
    rcases h with rfl | ⟨es, rfl, h1, h2⟩
    · exact ⟨n, .nils, [], rfl, rfl, .inl ⟨rfl, rfl⟩, by simp, fun r hr => by simp at hr⟩
    · exact ⟨n, _, es, rfl, rfl, .inr rfl, h1, h2⟩
/-- the types of a struct's fields (for the kernel) -/
def fieldTs (P : Program) (t : TypeId) : Option (List TypeId) := match P.underlying t with
  | some (.struct fs) => some (fs.toList.map (·.type))
  | _ => none
theorem ty_struct {n : Nat} {ts : List TypeId} (hu : fieldTs P t = some ts) (h : TyA P n t cs) : ∃ m, n = m + 1 ∧ ∃ parts : List (List AV), cs = parts.flatten ∧ parts.length = ts.length ∧ ∀ (i : Nat) (t' : TypeId), ts[i]? = some t' → ∃ p, parts[i]? = some p ∧ p.length = P.cellsOf t' ∧ TyA P m t' p := by
  cases n with
  | zero => exact h.elim
  | succ n =>
    unfold fieldTs at hu
    simp only [TyA] at h
    split at hu
    · rename_i fs hf
      cases hu
      rw [hf] at h
      obtain ⟨parts, h1, h2, h3⟩ := h
      refine ⟨n, rfl, parts, h1, by simpa using h2, fun i t' hi => ?_⟩
      rw [List.getElem?_map] at hi
      obtain ⟨f, h4, h5⟩ := Option.map_eq_some_iff.1 hi
      subst h5
      exact h3 i f (by rw [← Array.getElem?_toList]; exact h4)
    · cases hu
theorem list1 {α : Type} {l : List α} (h : l.length = 1) : ∃ a, l = [a] := by
  match l, h with
  | [a], _ => exact ⟨a, rfl⟩
theorem list2 {α : Type} {l : List α} (h : l.length = 2) : ∃ a b, l = [a, b] := by
  match l, h with
  | [a, b], _ => exact ⟨a, b, rfl⟩
theorem list3 {α : Type} {l : List α} (h : l.length = 3) : ∃ a b c, l = [a, b, c] := by
  match l, h with
  | [a, b, c], _ => exact ⟨a, b, c, rfl⟩
theorem list4 {α : Type} {l : List α} (h : l.length = 4) : ∃ a b c d, l = [a, b, c, d] := by
  match l, h with
  | [a, b, c, d], _ => exact ⟨a, b, c, d, rfl⟩
end
end Go.Proofs.YtodehiopdkgoeaaDoor
namespace Go.Proofs.YtodehiopdkgoeaaDoor
set_option linter.unusedSimpArgs false
set_option linter.unusedVariables false
open Go

theorem SlA.isL {e : TypeId} {v : AV} {es : List (List AV)} (h : SlA e v es) : IsL e v es := by
  rcases h with ⟨rfl, rfl⟩ | ⟨id, rfl⟩
  · exact isL_nils e
  · exact isL_isl _ _ _
theorem InS.sla {e : TypeId} {v : AV} {es : List (List AV)} (h : InS e v es) : SlA e v es := by
  rcases h with h | h
  · exact .inl h
  · exact .inr ⟨_, h⟩

end Go.Proofs.YtodehiopdkgoeaaDoor
