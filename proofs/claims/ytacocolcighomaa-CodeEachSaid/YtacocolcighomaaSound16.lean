/- In every order that Go leaves open a statement comes to what its plan comes to. -/
import Derived.Test.YtacocolcighomaaSound15
namespace Go.Proofs.Ytacocolcighomaa
set_option linter.unusedSimpArgs false
set_option linter.unusedVariables false
open Go Go.RowKit

section
variable {P : Program} {po : Pol} {f : FuncId} {all : Array Oper} {pl : List (Nat × List Nat)} {N : Nat} {ts : Nat → List AV} {hs : Nat → AH}
  {m m' : Mm} {h h' : AH} {w w' : World} {t τ : List AV} {a : Act} {b : Frame} {cs : List Frame} {K : List Item} {r : AEx × List AV × AH}

/-- is all listed that writes a slot? -/
def ReadyS (all : Array Oper) (pl : List (Nat × List Nat)) (li : Array Bool) (d : Nat) : Prop := ∀ k, k < pl.length → (opP all pl k).dst = some d → li.getD (ixP pl k) false = true
open Classical in
noncomputable def mixT (all : Array Oper) (pl : List (Nat × List Nat)) (li : Array Bool) (τ : List AV) : List AV := (List.range τ.length).map fun d => if ReadyS all pl li d then τ.getD d .junk else .junk

theorem mixT_len {li : Array Bool} : (mixT all pl li τ).length = τ.length := by simp [mixT]
theorem mixT_get {li : Array Bool} {d : Nat} (hr : ReadyS all pl li d) : (mixT all pl li τ).getD d .junk = τ.getD d .junk := by
  by_cases hd : d < τ.length
  · simp [mixT, List.getD, hd, hr]
  · simp [mixT, List.getD, hd]

theorem set_get {li : Array Bool} {i j : Nat} (hi : i < li.size) : (li.setIfInBounds i true).getD j false = if j = i then true else li.getD j false := by
  by_cases hj : j = i
  · subst hj
    simp [Array.getD_eq_getD_getElem?, hi]
  · simp [Array.getD_eq_getD_getElem?, hj, Array.getElem?_setIfInBounds_ne (Ne.symm hj)]

theorem mix_put (pp : PlanP all pl) {li : Array Bool} {k : Nat} (hk : k < pl.length) (hli : ixP pl k < li.size) (x : Ext m h m' h') (ht : TR P m h (mixT all pl li τ) a.tmps) {v : AV} {u : Value} (hv : VR P m' h' v u) (hres : ResP τ (opP all pl k) v) :
    TR P m' h' (mixT all pl (li.setIfInBounds (ixP pl k) true) τ) (a.put (opP all pl k).dst u).tmps := by
  have h1 := (ht.ext x).put (a := a) hv (opP all pl k).dst
  refine ⟨by rw [h1.1, putA_len, mixT_len, mixT_len], fun d hd => ?_⟩
  have hd' : d < τ.length := by rw [mixT_len] at hd; exact hd
  have hd2 : d < (putA (mixT all pl li τ) (opP all pl k).dst v).length := by rw [putA_len, mixT_len]; exact hd'
  have h2 := h1.2 d hd2
  have e1 : (mixT all pl (li.setIfInBounds (ixP pl k) true) τ)[d] = (mixT all pl (li.setIfInBounds (ixP pl k) true) τ).getD d .junk := by simp [List.getD, hd]
  have e2 : (putA (mixT all pl li τ) (opP all pl k).dst v)[d] = (putA (mixT all pl li τ) (opP all pl k).dst v).getD d .junk := by simp only [List.getD, List.getElem?_eq_getElem hd2, Option.getD_some]
  by_cases hr : ReadyS all pl (li.setIfInBounds (ixP pl k) true) d
  · rw [e1, mixT_get hr]
    rw [e2] at h2
    by_cases he : (opP all pl k).dst = some d
    · rw [putA_eq he (by rw [mixT_len]; exact hd')] at h2
      rw [hres d he hd']
      exact h2
    · rw [putA_ne he, mixT_get (fun j hj hdj => ?_)] at h2
      · exact h2
      · have := hr j hj hdj
        rw [set_get hli] at this
        have hne : ixP pl j ≠ ixP pl k := by
          intro e
          rcases Nat.lt_trichotomy j k with h | h | h
          · exact pp.ne j k h hk e
          · subst h; exact he hdj
          · exact pp.ne k j h hj e.symm
        rwa [if_neg hne] at this
  · have e3 : (mixT all pl (li.setIfInBounds (ixP pl k) true) τ)[d] = .junk := by simp [mixT, hr]
    rw [e3]
    exact .junk _

/-- what must come ahead is listed -/
theorem pre_listed (pp : PlanP all pl) {li : Array Bool} (hcl : ∀ j, j < all.size → li.getD j false = true → ∀ e ∈ (opI all j).after, Region.binds .any e = true → li.getD e.on false = true) :
    ∀ j, j < all.size → (∀ e ∈ (opI all j).after, Region.binds .any e = true → li.getD e.on false = true) → ∀ i, i < all.size → preA (Region.before all) i j = true → li.getD i false = true := by
  intro j
  induction j using Nat.strongRecOn with
  | ind j ih =>
    intro hj he i hi hp
    obtain ⟨e, e1, e2, e3⟩ := pp.mask j i hj hi hp
    have hlt := pp.edges j hj e e1 e2
    rcases e3 with e3 | e3
    · rw [← e3]; exact he e e1 e2
    · exact ih e.on hlt (by omega) (hcl e.on (by omega) (he e e1 e2)) i hi e3

theorem opI_get {i : Nat} (hi : i < all.size) : all[i]? = some (opI all i) := by
  simp [opI, hi]

theorem Act.put_defers' (a : Act) (x : Option Tmp) (v : Value) : (a.put x v).defers = a.defers := by cases x <;> rfl
theorem look_mix (pp : PlanP all pl) {li : Array Bool} {k : Nat} (hk : k < pl.length) (hpre : ∀ j, j < pl.length → preA (Region.before all) (ixP pl j) (ixP pl k) = true → li.getD (ixP pl j) false = true) :
    ∀ d ∈ (opP all pl k).looksAt all, (mixT all pl li τ).getD d .junk = τ.getD d .junk := by
  intro d hd
  refine mixT_get fun j hj hdj => ?_
  rcases Nat.lt_or_ge j k with h | h
  · exact hpre j hj (pp.data j k d h hk hdj hd)
  · exact absurd hdj (pp.after hk hd h hj)

theorem any_order (pok : POK P po) (T : Tra P po f all pl N ts hs) (hall : N = pl.length ∨ ∃ v h', N < pl.length ∧ StopF P all (opP all pl N) (ts N) (hs N) v h' ∧ r = (.panic v, ts N, h'))
    (hdone : N = pl.length → ∀ m1 w1 a1, WR P m1 (hs N) w1 → TR P m1 (hs N) (ts N) a1.tmps → a1.defers = [] → OutR P m1 (hs N) w1 b cs (lone (b.at a1 K) cs w1) r) :
    ∀ (fuel u : Nat) (li : Array Bool) (p : Nat) (m : Mm) (a : Act) (w : World), p ≤ N → li.size = all.size →
      (∀ j, j < all.size → li.getD j false = true → ∀ e ∈ (opI all j).after, Region.binds .any e = true → li.getD e.on false = true) →
      (∀ k, k < pl.length → li.getD (ixP pl k) false = true → k < p) →
      (∀ k, k < p → li.getD (ixP pl k) false = false → LateP P po f all (ts N) (opP all pl k) (hs p)) →
      WR P m (hs p) w → TR P m (hs p) (mixT all pl li (ts N)) a.tmps → a.defers = [] → li.toList.countP (fun x => !x) ≤ fuel →
      OutR P m (hs p) w b cs (lone (b.at a (.inRegion all (Region.linearise.go .any all fuel u li []) :: K)) cs w) r := by
  have pp := T.plan
  have hle := T.le
  intro fuel
  induction fuel with
  | zero =>
    intro u li p m a w hp hsz hcl h1 h2 hw ht hd hf
    have hall' : ∀ i, i < all.size → li.getD i false = true := by
      intro i hi
      have := List.countP_eq_zero.1 (Nat.le_zero.1 hf) (li[i]'(by omega)) (by simp)
      have hil : i < li.size := by omega
      simpa [Array.getD_eq_getD_getElem?, hil] using this
    have hpn : p = pl.length := by
      rcases Nat.lt_or_ge p pl.length with h | h
      · have := h1 p h (hall' _ (pp.lt p h))
        omega
      · omega
    have hpN : p = N := by omega
    subst hpN
    have hmx : mixT all pl li (ts p) = ts p := by
      apply List.ext_getElem (by rw [mixT_len])
      intro d h3 h4
      have := mixT_get (all := all) (pl := pl) (li := li) (τ := ts p) (d := d) (fun k hk _ => hall' _ (pp.lt k hk))
      simpa [List.getD, h3, h4] using this
    rw [hmx] at ht
    simp only [Region.linearise.go, List.reverse_nil]
    exact OutR.steps (.one step_region_end) (hdone hpn m w a hw ht hd)
  | succ fuel ih =>
    intro u li p m a w hp hsz hcl h1 h2 hw ht hd hf
    simp only [Region.linearise.go]
    change OutR P m (hs p) w b cs (lone (b.at a (.inRegion all (match (Region.ready .any all li)[u % (Region.ready .any all li).length]? with
      | some i => Region.linearise.go .any all fuel (u / (Region.ready .any all li).length) (li.setIfInBounds i true) [i]
      | none => [].reverse) :: K)) cs w) r
    cases hi : (Region.ready .any all li)[u % (Region.ready .any all li).length]? with
    | none =>
      have hnil : Region.ready .any all li = [] := by
        cases hr : Region.ready .any all li with
        | nil => rfl
        | cons x xs =>
          rw [hr] at hi
          have hlt : u % (x :: xs).length < (x :: xs).length := Nat.mod_lt _ (by simp)
          simp at hi
          simp at hlt
          omega
      have hall' : ∀ i, i < all.size → li.getD i false = true := by
        intro i
        induction i using Nat.strongRecOn with
        | ind i ihi =>
          intro hi'
          rcases hx : li.getD i false with _ | _
          · have hin : i ∈ Region.ready .any all li := by
              rw [mem_ready]
              have hil : i < li.size := by omega
              exact ⟨by simpa [Array.getD_eq_getD_getElem?, hil] using hx, opI all i, opI_get hi', fun e he hb => ihi e.on (pp.edges i hi' e he hb) (by have := pp.edges i hi' e he hb; omega)⟩
            rw [hnil] at hin
            cases hin
          · rfl
      have hpn : p = pl.length := by
        rcases Nat.lt_or_ge p pl.length with h | h
        · have := h1 p h (hall' _ (pp.lt p h))
          omega
        · omega
      have hpN : p = N := by omega
      subst hpN
      have hmx : mixT all pl li (ts p) = ts p := by
        apply List.ext_getElem (by rw [mixT_len])
        intro d h3 h4
        have := mixT_get (all := all) (pl := pl) (li := li) (τ := ts p) (d := d) (fun k hk _ => hall' _ (pp.lt k hk))
        simpa [List.getD, h3, h4] using this
      rw [hmx] at ht
      exact OutR.steps (.one step_region_end) (hdone hpn m w a hw ht hd)
    | some i =>
      simp only []
      rw [linearise_go_acc, List.reverse_singleton, List.singleton_append]
      have hin := List.mem_of_getElem? hi
      rw [mem_ready] at hin
      obtain ⟨hnl, o, ho, hed⟩ := hin
      have hi' : i < all.size := (Array.getElem?_eq_some_iff.1 ho).1
      have ho' : opI all i = o := by simp [opI, Array.getD_eq_getD_getElem?, ho]
      obtain ⟨k, hk, rfl⟩ := pp.cover i hi'
      have hok : opP all pl k = o := ho'
      have hil : ixP pl k < li.size := by omega
      have hnf : li.getD (ixP pl k) false = false := by simpa [Array.getD_eq_getD_getElem?, hil] using hnl
      have hpre := pre_listed pp hcl (ixP pl k) hi' (by rw [ho']; exact hed)
      have hpre' : ∀ j, j < pl.length → preA (Region.before all) (ixP pl j) (ixP pl k) = true → li.getD (ixP pl j) false = true := fun j hj h => hpre _ (pp.lt j hj) h
      have hlook := look_mix (τ := ts N) pp hk hpre'
      have hkN : k ≤ N := by
        rcases hall with h | ⟨v, h', h3, h4, h5⟩
        · omega
        · rcases Nat.lt_or_ge N k with hlt | hge
          · have hns : stillA (opP all pl N) ≠ true := by
              intro hst
              obtain ⟨_, g, args, fn, hc, _⟩ := h4
              rw [still_callee hst] at hc
              cases hc
            have := h1 N h3 (hpre' N h3 ((pp.still N k hlt hk).resolve_left hns))
            omega
          · exact hge
      -- what is put off
      have hput : ∀ n, p + n ≤ k → hs (p + n) = hs p ∧ ∀ j, j < p + n → li.getD (ixP pl j) false = false → LateP P po f all (ts N) (opP all pl j) (hs p) := by
        intro n
        induction n with
        | zero => intro _; exact ⟨rfl, h2⟩
        | succ n ihn =>
          intro hle2
          obtain ⟨e1, e2⟩ := ihn (by omega)
          have hnl2 : li.getD (ixP pl (p + n)) false = false := by
            rcases hx : li.getD (ixP pl (p + n)) false with _ | _
            · rfl
            · have := h1 (p + n) (by omega) hx
              omega
          have hst : stillA (opP all pl (p + n)) = true := by
            rcases pp.still (p + n) k (by omega) hk with h | h
            · exact h
            · have := hpre' (p + n) (by omega) h
              rw [hnl2] at this
              cases this
          have hsame := T.same (k := p + n) (by omega) hst
          refine ⟨by rw [← Nat.add_assoc, hsame, e1], fun j hj hjn => ?_⟩
          rcases Nat.lt_or_ge j (p + n) with h | h
          · exact e2 j h hjn
          · obtain rfl : j = p + n := by omega
            have := T.late (k := p + n) (by omega) hst
            rwa [e1] at this
      -- on it goes
      have hfin : ∀ (p' : Nat) (m' : Mm) (w' : World) (v : AV) (u' : Value), k < p' → p ≤ p' → p' ≤ N → Ext m (hs p) m' (hs p') → WR P m' (hs p') w' → Below m.base w w' → VR P m' (hs p') v u' → ResP (ts N) (opP all pl k) v →
          (∀ j, j < p' → j ≠ k → li.getD (ixP pl j) false = false → LateP P po f all (ts N) (opP all pl j) (hs p')) →
          Steps P (lone (b.at a (.inRegion all (ixP pl k :: Region.linearise.go .any all fuel (u / (Region.ready .any all li).length) (li.setIfInBounds (ixP pl k) true) []) :: K)) cs w)
            (lone (b.at (a.put o.dst u') (.inRegion all (Region.linearise.go .any all fuel (u / (Region.ready .any all li).length) (li.setIfInBounds (ixP pl k) true) []) :: K)) cs w') →
          OutR P m (hs p) w b cs (lone (b.at a (.inRegion all (ixP pl k :: Region.linearise.go .any all fuel (u / (Region.ready .any all li).length) (li.setIfInBounds (ixP pl k) true) []) :: K)) cs w) r := by
        intro p' m' w' v u' hkp hpp hpN hx hw' hbl hv hres hlate hst
        refine OutR.steps hst (OutR.after hx hbl ?_)
        have hne : ∀ j, j < pl.length → j ≠ k → ixP pl j ≠ ixP pl k := by
          intro j hj hjk e
          rcases Nat.lt_or_ge j k with h | h
          · exact pp.ne j k h hk e
          · exact pp.ne k j (by omega) hj e.symm
        refine ih _ _ p' m' _ w' hpN (by simpa using hsz) ?_ ?_ ?_ hw' ?_ ?_ ?_
        · intro j hj hjl e he hb
          rw [set_get hil] at hjl
          by_cases hji : j = ixP pl k
          · subst hji
            exact getD_set_true (hed e (by rw [← ho']; exact he) hb)
          · rw [if_neg hji] at hjl
            exact getD_set_true (hcl j hj hjl e he hb)
        · intro j hj hjl
          by_cases hjk : j = k
          · omega
          · rw [set_get hil, if_neg (hne j hj hjk)] at hjl
            have := h1 j hj hjl
            omega
        · intro j hj hjl
          rw [set_get hil] at hjl
          by_cases hjk : j = k
          · subst hjk
            simp at hjl
          · rw [if_neg (hne j (by omega) hjk)] at hjl
            exact hlate j hj hjk hjl
        · rw [← hok]
          exact mix_put pp hk hil hx ht hv hres
        · rw [Act.put_defers']
          exact hd
        · have hz : (li.toList)[ixP pl k]'(by simpa using hil) = false := by
            simpa [Array.getD_eq_getD_getElem?, hil] using hnf
          have := List.countP_set (p := fun x => !x) (l := li.toList) (i := ixP pl k) (a := true) (by simpa using hil)
          simp only [hz, Bool.not_false, Bool.not_true, if_true, Bool.false_eq_true, if_false, Nat.add_zero] at this
          simp only [Array.toList_setIfInBounds]
          omega
      have hread : ∀ {x : Bool}, wantedA all (ts N) (opP all pl k) = some x → Region.wanted o (yielded all a.tmps) = x := fun hwa => by
        have := wanted_sound ht all (opP all pl k) (by rw [wantedA_congr hlook]; exact hwa)
        rwa [hok] at this
      -- an operation that only computes
      have hdo : ∀ {h' : AH} {v : AV}, wantedA all (ts N) (opP all pl k) = some true → evalOp P (po.mu f) (ts N) (hs p) (opP all pl k) = some (v, h') →
          ∀ (p' : Nat), hs p' = h' → k < p' → p ≤ p' → p' ≤ N → ResP (ts N) (opP all pl k) v → (∀ j, j < p' → j ≠ k → li.getD (ixP pl j) false = false → LateP P po f all (ts N) (opP all pl j) (hs p')) →
          OutR P m (hs p) w b cs (lone (b.at a (.inRegion all (ixP pl k :: Region.linearise.go .any all fuel (u / (Region.ready .any all li).length) (li.setIfInBounds (ixP pl k) true) []) :: K)) cs w) r := by
        intro h' v hwa hev p' hp' q1 q2 q3 q4 q5
        subst hp'
        have hev' := hev
        rw [← evalOp_congr (po.mu f) hlook] at hev'
        rw [hok] at hev'
        obtain ⟨m', w', u', d1, d2, d3, d4, d5⟩ := evalOp_sound pok.ty hw ht (po.mu f) hev'
        exact hfin p' m' w' v u' q1 q2 q3 d2 d3 d5 d4 q4 q5 (step_value ho (hread hwa) d1)
      have hskip : ∀ (p' : Nat), hs p' = hs p → wantedA all (ts N) (opP all pl k) = some false → k < p' → p ≤ p' → p' ≤ N → ResP (ts N) (opP all pl k) (.tup []) → (∀ j, j < p' → j ≠ k → li.getD (ixP pl j) false = false → LateP P po f all (ts N) (opP all pl j) (hs p')) →
          OutR P m (hs p) w b cs (lone (b.at a (.inRegion all (ixP pl k :: Region.linearise.go .any all fuel (u / (Region.ready .any all li).length) (li.setIfInBounds (ixP pl k) true) []) :: K)) cs w) r := by
        intro p' hp' hwa q1 q2 q3 q4 q5
        exact hfin p' m w (.tup []) undef q1 q2 q3 (by rw [hp']; exact Ext.refl _ _) (by rw [hp']; exact hw) (Below.refl _ _) VR.und q4 q5 (step_skip_op ho (hread hwa))
      rcases Nat.lt_or_ge k p with hkp | hkp
      · obtain ⟨_, l2⟩ := h2 k hkp hnf
        rcases l2 with ⟨l2, l3⟩ | ⟨l2, v, l3, l4⟩
        · exact hskip p rfl l2 hkp (Nat.le_refl _) hp l3 (fun j hj _ hn => h2 j hj hn)
        · exact hdo l2 l3 p rfl hkp (Nat.le_refl _) hp l4 (fun j hj _ hn => h2 j hj hn)
      · obtain ⟨e1, e2⟩ := hput (k - p) (by omega)
        rw [show p + (k - p) = k by omega] at e1 e2
        have hcall : ∀ {g args fn x h'}, calleeA (ts N) (opP all pl k) = some (g, args) → P.funcs[g]? = some fn → (fn.body.isNone = false ∧ (fn.name == "runtime.NumGoroutine") = false) → AC P g args (hs k) (x, h') → wantedA all (ts N) (opP all pl k) = some true →
            ∃ vs : List Value, VRs P m (hs p) args vs ∧ (execOp a.eval o).run P w = .ok (.enter g vs.toArray) w := by
          intro g args fn x h' c1 c2 c3 c4 c5
          have c1' := c1
          rw [← calleeA_congr hlook, hok] at c1'
          exact callee_sound ht c1' c2 c3.2 c3.1
        rcases Nat.lt_or_ge k N with hkN2 | hkN2
        · have hlt : ∀ j, j < k + 1 → j ≠ k → li.getD (ixP pl j) false = false → LateP P po f all (ts N) (opP all pl j) (hs (k + 1)) := by
            intro j hj hjk hn
            refine T.turn (by omega) hkN2 ?_ (by rw [e1]; exact e2 j (by omega) hn)
            rcases hx : preA (Region.before all) (ixP pl j) (ixP pl k) with _ | _
            · rfl
            · have := hpre' j (by omega) hx
              rw [hn] at this
              cases this
          rcases T.at hkN2 with ⟨a1, a2, a3⟩ | ⟨a1, v, a2, a3, a4⟩
          · exact hskip (k + 1) (by rw [a3, e1]) a1 (by omega) (by omega) hkN2 a2 hlt
          · rcases a2 with ⟨_, a2⟩ | ⟨g, args, fn, c1, c2, c3, c4⟩
            · rw [e1] at a2
              exact hdo a1 a2 (k + 1) rfl (by omega) (by omega) hkN2 a3 hlt
            · obtain ⟨vs, v1, v2⟩ := hcall c1 c2 c3 c4 a1
              have hac := c4 m w vs (by rw [e1]; exact hw) (by rw [e1]; exact v1)
              rw [e1] at hac
              obtain ⟨e, w', hR, hst⟩ := step_call (b := b) (cs := cs) (k := K) (rest := Region.linearise.go .any all fuel (u / (Region.ready .any all li).length) (li.setIfInBounds (ixP pl k) true) []) ho (hread a1) v2 hac (by rintro w' ⟨m', _, _, _, u', h, _⟩; cases h)
              obtain ⟨m', x1, x2, x3, u', x4, x5⟩ := hR
              subst x4
              rcases hst with ⟨v', h3, h4⟩ | ⟨ch, h3, _⟩
              · injection h3 with h3
                subst h3
                exact hfin (k + 1) m' w' v u' (by omega) (by omega) hkN2 x1 x2 x3 x5 a3 hlt h4
              · cases h3
        · obtain rfl : k = N := by omega
          rcases hall with h | ⟨v, h', h3, ⟨h4, g, args, fn, c1, c2, c3, c4⟩, h5⟩
          · omega
          · obtain ⟨vs, v1, v2⟩ := hcall c1 c2 c3 c4 h4
            have hac := c4 m w vs (by rw [e1]; exact hw) (by rw [e1]; exact v1)
            rw [e1] at hac
            obtain ⟨e, w', hR, hst⟩ := step_call (b := b) (cs := cs) (k := K) (rest := Region.linearise.go .any all fuel (u / (Region.ready .any all li).length) (li.setIfInBounds (ixP pl k) true) []) ho (hread h4) v2 hac (by rintro w' ⟨m', _, _, _, u', h, _⟩; cases h)
            obtain ⟨m', x1, x2, x3, u', x4, x5⟩ := hR
            subst x4
            rcases hst with ⟨v', h6, _⟩ | ⟨ch, h6, todo, h7⟩
            · cases h6
            · injection h6 with h6
              subst h6
              rw [h5]
              exact ⟨m', w', x1, x2, x3, a, todo, u', hd, x5, h7⟩
end
end Go.Proofs.Ytacocolcighomaa
