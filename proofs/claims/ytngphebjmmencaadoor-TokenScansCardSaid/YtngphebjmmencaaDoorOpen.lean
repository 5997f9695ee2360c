/- From what a statement says of its arguments ('they read as data') to what the walks ask; and back. No walk here. -/
import Derived.Test.YtngphebjmmencaaDoorRows
import Derived.Test.YtngphebjmmencaaDoorMem
import Derived.ProofKit
import Derived.OpenShut
import Derived.ShutString
import Derived.ChangeOld
import Derived.Deep.Slices
import Derived.Deep.Fields
import Derived.Lib.SmallJoins
namespace Go.Proofs.YtngphebjmmencaaDoor
set_option linter.unusedSimpArgs false
set_option linter.unusedVariables false
open Go.ChangeShapes Go.WideShapes Go.ChangeAt Go.RowKit Go.Deep Go.Joins
open Go.ChangeMaps (open_string shut_string)

theorem own : ownKnob Tryd.prog.godebug = none := by kernel_rfl
theorem laidOut : laidOutB Tryd.prog = true := by kernel_rfl

section
variable {H : Type} {enc : TypeId × Value → H} {P : Program} {W W' : World}

theorem trodAll_below (hl : laidOutB P = true) : ∀ {ts : List TypeId} {vs : List Value} {ds : List (DataW H)} {p : List MemPlace},
    DataW.TrodAll enc P W 0 (fun _ => true) true ts vs ds p → (∀ t ∈ ts, P.readableRec t = true ∧ t < P.types.size) → Below W.heap.size W W' → (∀ x ∈ p, x.block < W.heap.size) →
    DataW.TrodAll enc P W' 0 (fun b => decide (b < W.heap.size)) true ts vs ds p
  | [], [], [], p, h, _, _, _ => h
  | t :: ts, v :: vs, d :: ds, p, h, ht, hb, hp => by
    obtain ⟨p1, q1, h1, h2, rfl⟩ := h
    obtain ⟨hr, hs⟩ := ht t (by simp)
    exact ⟨p1, q1, Below.trod hl hr hs h1 hb (fun x hx => hp x (by simp [hx])), trodAll_below hl h2 (fun t' h' => ht t' (by simp [h'])) hb (fun x hx => hp x (by simp [hx])), rfl⟩
  | [], _ :: _, _, _, h, _, _, _ => by simp [DataW.TrodAll] at h
  | _ :: _, [], _, _, h, _, _, _ => by simp [DataW.TrodAll] at h
  | _ :: _, _ :: _, [], _, h, _, _, _ => by simp [DataW.TrodAll] at h
  | [], [], _ :: _, _, h, _, _, _ => by simp [DataW.TrodAll] at h

theorem trodAll_lt : ∀ {ts : List TypeId} {vs : List Value} {ds : List (DataW H)} {p : List MemPlace},
    DataW.TrodAll enc P W 0 (fun _ => true) true ts vs ds p → ∀ x ∈ p, x.block < W.heap.size
  | [], [], [], p, h, x, hx => by
    have : p = [] := h
    subst this
    simp at hx
  | t :: ts, v :: vs, d :: ds, p, h, x, hx => by
    obtain ⟨p1, q1, ⟨n, h1⟩, h2, rfl⟩ := h
    rcases List.mem_append.1 hx with hx | hx
    · exact DataW.trod_lt n _ _ _ h1 x hx
    · exact trodAll_lt h2 x hx
  | [], _ :: _, _, _, h, _, _ => by simp [DataW.TrodAll] at h
  | _ :: _, [], _, _, h, _, _ => by simp [DataW.TrodAll] at h
  | _ :: _, _ :: _, [], _, h, _, _ => by simp [DataW.TrodAll] at h
  | [], [], _ :: _, _, h, _, _ => by simp [DataW.TrodAll] at h

/-- what a walk must show of a law: it returns true, and nothing that was there has turned -/
def Law (P : Program) (f : FuncId) (args : Array Value) (W : World) : Prop :=
  Calls P f args W fun e W' => e = .returned (.bool true) ∧ Below W.heap.size W W'

theorem law_post {f : Func} {s : ChangeSpec} {args : Array Value} {ds gs : List (DataW H)} {before : List MemPlace} {tb : TypeId} (hl : laidOutB P = true) (htb : P.underlying tb = some .bool) (hres : f.resultTypes = #[tb])
    (hv : s.vars = []) (hparams : ∀ t ∈ f.params.toList, P.readableRec t = true ∧ t < P.types.size)
    (hs : ∀ ds : List (DataW H), ds.length = f.params.size → s.fn H ds = { results := [.lit (.bool true)], args := ds })
    (hW : DataW.Whole enc P f.params.toList s.vars false W args.toList ds gs before) (hb : Below W.heap.size W W') :
    s.post enc P f false true false false W args (.bool true) W' := by
  have hW0 := hW
  obtain ⟨p, q, hA, hV, rfl, hfz, hnd⟩ := hW
  rw [hv] at hV
  obtain ⟨rfl, rfl⟩ := trodVars_none hV
  have hlen : ds.length = f.params.size := by
    have : ∀ {ts : List TypeId} {vs : List Value} {ds : List (DataW H)} {p : List MemPlace}, DataW.TrodAll enc P W 0 (fun _ => true) true ts vs ds p → ds.length = ts.length := by
      intro ts
      induction ts with
      | nil =>
        intro vs ds p h
        cases vs <;> cases ds <;> simp [DataW.TrodAll] at h ⊢
      | cons t ts ih =>
        intro vs ds p h
        cases vs <;> cases ds <;> simp [DataW.TrodAll] at h ⊢
        obtain ⟨_, _, _, h2, _⟩ := h
        exact ih h2
    simpa using this hA
  have e := hs (ds ++ []) (by simpa using hlen)
  refine ⟨ds, [], _, [], p, [], hW0, ?_, ?_, ?_, hb.frame _, fun h => by cases h⟩
  · rw [e, hres]
    exact trodAll_mk1 (shut_bool htb _)
  · rw [e]
    simp only [List.append_nil]
    exact trodAll_below hl hA hparams hb (trodAll_lt hA)
  · rw [e, hv]
    rfl

/-- are all fields 64-bit integers? (for the kernel) -/
def allI64 (P : Program) (fs : Array Field) : Bool := fs.toList.all fun f => match P.underlying f.type with
  | some (.int .i64) => true
  | _ => false
theorem hint_of {fs : Array Field} (h : allI64 P fs = true) : ∀ (j : Nat) (f : Field), fs[j]? = some f → P.underlying f.type = some (.int .i64) := by
  intro j f hj
  have hm : f ∈ fs.toList := by
    rw [← Array.getElem?_toList] at hj
    exact List.mem_of_getElem? hj
  have := List.all_eq_true.1 h f hm
  split at this
  · assumption
  · cases this

/-- the numbers that lie at a place: rows of k -/
def rowsAt (w : World) (b o k n : Nat) : List (List Int) := (List.range n).map fun i => (List.range k).map fun j => match w.cell? ⟨b, o + (i * k + j), none⟩ with
  | some (.int _ z) => z
  | _ => 0

abbrev icells (r : List Int) : List Value := r.map (.int .i64)
def isI64 (z : Int) : Prop := -9223372036854775808 ≤ z ∧ z ≤ 9223372036854775807

theorem open_rows {t e : TypeId} {fs : Array Field} {v : Value} {d : DataW H} {p : List MemPlace} {r : Reach} {b0 : Nat} (ht : P.underlying t = some (.slice e)) (he : P.underlying e = some (.struct fs))
    (hone : oneCellFields P fs = true) (hint : ∀ (j : Nat) (f : Field), fs[j]? = some f → P.underlying f.type = some (.int .i64)) (hC : P.cellsOf e = fs.size) (hpos : 0 < fs.size)
    (hok : Value.okWide P W r b0 t v) (h : DataW.Trod enc P W 0 (fun _ => true) true t v d p) :
    ∃ (A : Option Addr) (n cap : Nat) (rows : List (List Int)), v = .slice A n cap ∧ rows.length = n ∧ n ≤ maxLen ∧ (∀ x ∈ rows, x.length = fs.size ∧ ∀ z ∈ x, isI64 z) ∧ Sl W fs.size A n cap (rows.flatMap icells) := by
  obtain ⟨A, n, cap, rfl⟩ := okWide_slice ht hok
  obtain ⟨fuel, hf⟩ := h
  rcases open_slice ht hf with ⟨hcs, _⟩ | ⟨a, len, cap', m, n', D, Pl, hcs, hb, hl, hm, hmm, hx, hi⟩
  · simp [Value.cells] at hcs
    obtain ⟨rfl, rfl, rfl⟩ := hcs
    exact ⟨_, _, _, [], rfl, rfl, by omega, by simp, Sl.none_ _ _⟩
  · simp [Value.cells] at hcs
    obtain ⟨rfl, rfl, rfl⟩ := hcs
    simp at hmm
    subst hmm
    have key : ∀ i, i < n → ∀ j, j < fs.size → a.spot = none ∧ ∃ z, W.cell? ⟨a.block, a.off + (i * fs.size + j), none⟩ = some (.int .i64 z) ∧ isI64 z := by
      intro i hin j hj
      obtain ⟨cs', hc, ht'⟩ := hi i (by omega)
      rw [hC] at hc
      obtain ⟨ys, n'', hn', hy, hlen, hyl, hff⟩ := DataW.trod_struct he ht'
      obtain ⟨_, hcl, hat⟩ := World.cells?_some hc
      have hjf : fs[j]? = some fs[j] := Array.getElem?_eq_getElem hj
      obtain ⟨ho, hk⟩ := hone_of hone j _ hjf
      have hcell := hat j hj
      have h1 := hff j _ hjf
      rw [ho, hk] at h1
      have hone' : (cs'.drop j).take 1 = [cs'[j]'(by omega)] := by
        rw [List.drop_eq_getElem_cons (by omega)]
        rfl
      rw [hone', List.getElem?_eq_getElem (by omega)] at h1
      obtain ⟨z, hz, _, hwf⟩ := DataW.trod_int (hint j _ hjf) h1
      have hz' : cs'[j]'(by omega) = .int .i64 z := by simpa using hz
      rw [List.getElem?_eq_getElem (by omega), hz', Go.Deep.add_add] at hcell
      have hsp : a.spot = none := by
        obtain ⟨b, o, sp⟩ := a
        have hc0 := (hat 0 (by omega))
        rcases hi 0 (by omega) with ⟨cs0, hc00, _⟩
        obtain ⟨_, _, hat0⟩ := World.cells?_some hc00
        have := hat0 0 (by rw [hC]; omega)
        rw [hC] at hc00
        obtain ⟨_, hl0, _⟩ := World.cells?_some hc00
        rw [List.getElem?_eq_getElem (by omega)] at this
        simpa [Addr.add] using World.cell?_spot this
      refine ⟨hsp, z, ?_, by simpa [isI64, Lit.wf, IntKind.min, IntKind.max, IntKind.signed, IntKind.bits] using hwf⟩
      obtain ⟨b, o, sp⟩ := a
      simp at hsp
      subst hsp
      rw [Addr.add_lit] at hcell
      exact hcell
    refine ⟨some a, n, m, rowsAt W a.block a.off fs.size n, rfl, by simp [rowsAt], by omega, ?_, ?_, hl, (fun h => by cases h), ?_⟩
    · intro x hx
      simp only [rowsAt, List.mem_map, List.mem_range] at hx
      obtain ⟨i, hi', rfl⟩ := hx
      refine ⟨by simp, fun z hz => ?_⟩
      simp only [List.mem_map, List.mem_range] at hz
      obtain ⟨j, hj, rfl⟩ := hz
      obtain ⟨_, z, hz, hz2⟩ := key i hi' j hj
      rw [hz]
      exact hz2
    · rw [flat_length' (s := fs.size) _ (by simp [rowsAt])]
      simp [rowsAt]
    · intro a' ha'
      obtain rfl := Option.some.inj ha'
      refine ⟨fun hn => (key 0 hn 0 hpos).1, fun q u hu => ?_⟩
      have hlen : ∀ x ∈ rowsAt W a.block a.off fs.size n, (icells x).length = fs.size := by simp [rowsAt]
      have hln : (rowsAt W a.block a.off fs.size n).length = n := by simp [rowsAt]
      have hq : q < n * fs.size := by
        have := (List.getElem?_eq_some_iff.1 hu).1
        rwa [flat_length' _ hlen, hln] at this
      have hqd : q / fs.size < n := Nat.div_lt_of_lt_mul (by rw [Nat.mul_comm]; exact hq)
      have hqm : q % fs.size < fs.size := Nat.mod_lt _ hpos
      have hqe : q / fs.size * fs.size + q % fs.size = q := by rw [Nat.mul_comm]; exact Nat.div_add_mod q fs.size
      have hg := flat_get' (rowsAt W a.block a.off fs.size n) hlen (k := q / fs.size) (by omega) hqm
      rw [hqe, hu] at hg
      obtain ⟨_, z, hz, _⟩ := key _ hqd _ hqm
      rw [hqe] at hz
      rw [hz, hg]
      simp only [rowsAt, List.getElem_map, List.getElem_range]
      simp [hqm, hqe, hz]


theorem list_of_2 {l : List Int} (h : l.length = 2) : ∃ z0 z1, l = [z0, z1] := by
  match l, h with
  | [z0, z1], _ => exact ⟨z0, z1, rfl⟩
theorem list_of_3 {l : List Int} (h : l.length = 3) : ∃ z0 z1 z2, l = [z0, z1, z2] := by
  match l, h with
  | [z0, z1, z2], _ => exact ⟨z0, z1, z2, rfl⟩
theorem list_of_4 {l : List Int} (h : l.length = 4) : ∃ z0 z1 z2 z3, l = [z0, z1, z2, z3] := by
  match l, h with
  | [z0, z1, z2, z3], _ => exact ⟨z0, z1, z2, z3, rfl⟩
theorem list_of_5 {l : List Int} (h : l.length = 5) : ∃ z0 z1 z2 z3 z4, l = [z0, z1, z2, z3, z4] := by
  match l, h with
  | [z0, z1, z2, z3, z4], _ => exact ⟨z0, z1, z2, z3, z4, rfl⟩
theorem list_of_6 {l : List Int} (h : l.length = 6) : ∃ z0 z1 z2 z3 z4 z5, l = [z0, z1, z2, z3, z4, z5] := by
  match l, h with
  | [z0, z1, z2, z3, z4, z5], _ => exact ⟨z0, z1, z2, z3, z4, z5, rfl⟩
theorem list_of_7 {l : List Int} (h : l.length = 7) : ∃ z0 z1 z2 z3 z4 z5 z6, l = [z0, z1, z2, z3, z4, z5, z6] := by
  match l, h with
  | [z0, z1, z2, z3, z4, z5, z6], _ => exact ⟨z0, z1, z2, z3, z4, z5, z6, rfl⟩
theorem list_of_8 {l : List Int} (h : l.length = 8) : ∃ z0 z1 z2 z3 z4 z5 z6 z7, l = [z0, z1, z2, z3, z4, z5, z6, z7] := by
  match l, h with
  | [z0, z1, z2, z3, z4, z5, z6, z7], _ => exact ⟨z0, z1, z2, z3, z4, z5, z6, z7, rfl⟩

/-- a struct of numbers, by value -/
theorem open_row {t : TypeId} {fs : Array Field} {v : Value} {d : DataW H} {p : List MemPlace} {r : Reach} {b0 : Nat} (hs : P.underlying t = some (.struct fs))
    (hone : oneCellFields P fs = true) (hint : ∀ (j : Nat) (f : Field), fs[j]? = some f → P.underlying f.type = some (.int .i64)) (hC : P.cellsOf t = fs.size) (k : Nat) (hk : fs.size = k)
    (hok : Value.okWide P W r b0 t v) (h : DataW.Trod enc P W 0 (fun _ => true) true t v d p) :
    ∃ row : List Int, v = .agg (icells row).toArray ∧ row.length = k ∧ ∀ z ∈ row, isI64 z := by
  subst hk
  obtain ⟨cs, rfl, hsz⟩ := okWide_struct hs hok
  obtain ⟨fuel, hf⟩ := h
  obtain ⟨xs, n, _, hx, hlen, hyl, hg⟩ := DataW.trod_struct hs hf
  have hsz' : cs.size = fs.size := hsz.trans hC
  have key : ∀ j, j < fs.size → ∃ z, cs[j]? = some (.int .i64 z) ∧ isI64 z := by
    intro j hj
    have hjf : fs[j]? = some fs[j] := Array.getElem?_eq_getElem hj
    obtain ⟨ho, hk⟩ := hone_of hone j _ hjf
    have h1 := hg j _ hjf
    rw [ho, hk] at h1
    have hl : j < cs.toList.length := by simp; omega
    have h2 : ((Value.agg cs).cells.toList.drop j).take 1 = [cs[j]'(by omega)] := by
      show (cs.toList.drop j).take 1 = _
      rw [List.drop_eq_getElem_cons hl]
      simp
    rw [h2, List.getElem?_eq_getElem (by omega)] at h1
    obtain ⟨z, hz, _, hwf⟩ := DataW.trod_int (hint j _ hjf) h1
    have hz' : cs[j]'(by omega) = .int .i64 z := by simpa using hz
    exact ⟨z, by rw [Array.getElem?_eq_getElem (by omega), hz'], by simpa [isI64, Lit.wf, IntKind.min, IntKind.max, IntKind.signed, IntKind.bits] using hwf⟩
  refine ⟨cs.toList.map fun u => match u with | .int _ z => z | _ => 0, ?_, by simpa using hsz', ?_⟩
  · congr 1
    apply Array.ext_getElem?
    intro j
    by_cases hj : j < fs.size
    · obtain ⟨z, hz, _⟩ := key j hj
      rw [hz]
      simp [hz]
    · rw [Array.getElem?_eq_none (by omega), Array.getElem?_eq_none (by simp; omega)]
  · intro z hz
    obtain ⟨u, hu, rfl⟩ := List.mem_map.1 hz
    obtain ⟨j, hj⟩ := List.mem_iff_getElem?.1 hu
    have hjl := (List.getElem?_eq_some_iff.1 hj).1
    obtain ⟨z', hz', hb⟩ := key j (by simp at hjl; omega)
    rw [Array.getElem?_toList] at hj
    rw [hz'] at hj
    cases hj
    exact hb

end
end Go.Proofs.YtngphebjmmencaaDoor
