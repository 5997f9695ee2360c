/- append does in memory what it does in the plain model: whole. -/
import Derived.Test.YtacocolcighomaaSound9
namespace Go.Proofs.Ytacocolcighomaa
set_option linter.unusedSimpArgs false
set_option linter.unusedVariables false
open Go Go.RowKit

section
variable {P : Program} {m m' : Mm} {h h' : AH} {w w' : World} {t : List AV} {a : Act} {o : Oper}

/-- at the end of a row that may grow -/
theorem WR.grown (hw : WR P m h w) {k : Nat} (hk : k < h.ids) {xs news : List Value} {n mm g cap : Nat} (hn : n = h.hw k) (hm0 : 0 < mm)
    (hold : w.ownsRow m.base (m.te k) (P.cellsOf (m.te k)) (.slice (some ⟨m.tg k, 0, none⟩) n (m.tc k)) n xs) (hsz : 0 < P.cellsOf (m.te k))
    (hown : w'.ownsRow m.base (m.te k) (P.cellsOf (m.te k)) (.slice (some ⟨g, 0, none⟩) (n + mm) cap) (n + mm) (xs ++ news))
    (hg : (g = m.tg k ∧ Only (fun q => q = g) w w') ∨ (g = w.heap.size ∧ New w w')) (es : List (List AV)) (hrows : RowsL P m h (P.cellsOf (m.te k)) es (xs ++ news)) (hes : es.length = n + mm) :
    ∃ m', Ext m h m' (h.grow k (n + mm)) ∧ WR P m' (h.grow k (n + mm)) w' ∧ VR P m' (h.grow k (n + mm)) (.isl (some k) (m.te k) es) (.slice (some ⟨g, 0, none⟩) (n + mm) cap) ∧ Below m.base w w' := by
  subst hn
  generalize hE : m.te k = e at *
  generalize hS : P.cellsOf e = S at *
  have htl := hw.tip_lt hk
  have hcells : ∀ o v, (xs ++ news)[o]? = some v → w'.cell? ⟨g, o, none⟩ = some v := by
    intro o v ho
    have := hown.cells (g := g) rfl o v ho
    rwa [Addr.add_lit, Nat.zero_add] at this
  have hocells : ∀ o v, xs[o]? = some v → w.cell? ⟨m.tg k, o, none⟩ = some v := by
    intro o v ho
    have := hold.cells (g := m.tg k) rfl o v ho
    rwa [Addr.add_lit, Nat.zero_add] at this
  have hxl : xs.length = h.hw k * S := hold.1
  have hol : (xs ++ news).length = (h.hw k + mm) * S := hown.1
  have hlt : h.hw k * S < (h.hw k + mm) * S := by
    rw [Nat.add_mul]
    have := Nat.mul_pos hm0 hsz
    omega
  -- cells that never turned stay
  have himm : ∀ g' o v, m.imm g' o = some v → (if g' = g ∧ o < (h.hw k + mm) * S then (xs ++ news)[o]? else m.imm g' o) = some v ∧ w'.cell? ⟨g', o, none⟩ = some v := by
    intro g' o v hi
    have hc := hw.imm _ _ _ hi
    by_cases e1 : g' = g
    · subst e1
      rcases hg with ⟨hgt, hO⟩ | ⟨hgt, hN⟩
      · have ho : o < h.hw k * S := by
          rcases Nat.lt_or_ge o (h.hw k * S) with h1 | h1
          · exact h1
          · have := hw.tfree k hk o (by rw [hE, hS]; exact h1)
            rw [← hgt, hi] at this
            cases this
        have hx : xs[o]? = some v := by
          have h1 := List.getElem?_eq_getElem (l := xs) (i := o) (by omega)
          have h2 := hocells o _ h1
          rw [← hgt, hc] at h2
          injection h2 with h2
          rw [h1, h2]
        have hx2 : (xs ++ news)[o]? = some v := by rw [List.getElem?_append_left (by omega)]; exact hx
        exact ⟨by rw [if_pos ⟨rfl, by omega⟩]; exact hx2, hcells o v hx2⟩
      · have := hw.imm_lt hi
        omega
    · refine ⟨by rw [if_neg (fun hh => e1 hh.1)]; exact hi, ?_⟩
      rcases hg with ⟨hgt, hO⟩ | ⟨hgt, hN⟩
      · rw [World.cell?_of_block (w := w) (hO.block _ (hw.imm_lt hi) e1)]
        exact hc
      · rw [World.cell?_of_block (w := w) (hN.block _ (hw.imm_lt hi) id)]
        exact hc
  have hx : Ext m h { m with imm := fun g' o => if g' = g ∧ o < (h.hw k + mm) * S then (xs ++ news)[o]? else m.imm g' o, tg := fun q => if q = k then g else m.tg q, tc := fun q => if q = k then cap else m.tc q } (h.grow k (h.hw k + mm)) := by
    refine ⟨rfl, Nat.le_refl _, Nat.le_refl _, fun b hb => ⟨rfl, rfl, rfl⟩, fun g' o v hi => (himm g' o v hi).1, fun q hq => ⟨rfl, ?_, fun he => ?_⟩⟩
    · by_cases e1 : q = k
      · subst e1
        simp [AH.grow]
      · simp [AH.grow, e1]
    · by_cases e1 : q = k
      · subst e1
        simp [AH.grow] at he
        omega
      · simp [e1]
  have hsize : w.heap.size ≤ w'.heap.size := by
    rcases hg with ⟨_, hO⟩ | ⟨_, hN⟩
    · exact hO.size
    · exact hN.size
  have hoth : ∀ q, q < w.heap.size → q ≠ m.tg k → w'.heap[q]? = w.heap[q]? := by
    intro q hq hne
    rcases hg with ⟨hgt, hO⟩ | ⟨hgt, hN⟩
    · exact hO.block q hq (fun e => hne (e.trans hgt))
    · exact hN.block q hq id
  have hgb : m.base ≤ g := by
    rcases hg with ⟨hgt, _⟩ | ⟨hgt, _⟩
    · rw [hgt]; exact htl.1
    · rw [hgt]; exact hw.size
  have hfresh : ∀ b x, h.cell b = some x → m.blk b ≠ g := by
    intro b x hb
    rcases hg with ⟨hgt, _⟩ | ⟨hgt, _⟩
    · rw [hgt]; exact hw.tblk k hk b x hb
    · have := hw.below hb
      omega
  refine ⟨_, hx, ?_, ?_, ?_⟩
  · refine ⟨Nat.le_trans hw.size hsize, hw.lt, fun b x hb => ?_, hw.inj, fun g' o v hi => ?_, fun b x hb o => ?_, fun q hq => ?_, fun q hq o ho => ?_, fun q hq b x hb => ?_, fun q q' hq hq' he => ?_⟩
    · obtain ⟨cs, c1, c2, c3, c4, c5⟩ := hw.live b x hb
      refine ⟨cs, (hoth _ c1.lt (hw.tblk k hk b x hb)).trans c1, c2, c3, c4, fun i hi j hj => ?_⟩
      obtain ⟨v, v1, v2⟩ := c5 i hi j hj
      exact ⟨v, v1, v2.ext hx⟩
    · simp only at hi
      split at hi
      · rename_i hc
        rw [hc.1]
        exact hcells o v hi
      · exact (himm g' o v hi).2
    · simp only
      rw [if_neg (fun hh => hfresh b x hb hh.1)]
      exact hw.sep b x hb o
    · by_cases e1 : q = k
      · subst e1
        refine ⟨xs ++ news, ?_⟩
        simp only [if_true, AH.grow, hE, hS]
        exact hown
      · obtain ⟨ys, hy⟩ := hw.tip q hq
        refine ⟨ys, ?_⟩
        simp only [e1, if_false, AH.grow]
        have hne : m.tg q ≠ m.tg k := fun e => e1 (hw.tinj q k hq hk e)
        refine ⟨hy.1, ?_⟩
        rcases hy.2 with h1 | ⟨g2, cap2, cur, e2, hg2, hh2, r⟩
        · exact .inl h1
        · refine .inr ⟨g2, cap2, cur, e2, hg2, ?_, r⟩
          simp at e2
          obtain ⟨rfl, rfl⟩ := e2
          exact (hoth _ (hw.tip_lt hq).2 hne).trans hh2
    · by_cases e1 : q = k
      · subst e1
        simp only [if_true, AH.grow, hE, hS] at ho ⊢
        rw [if_neg (by omega)]
        rcases hg with ⟨hgt, _⟩ | ⟨hgt, _⟩
        · rw [hgt]
          exact hw.tfree q hk o (by rw [hE, hS]; omega)
        · rcases hi : m.imm g o with _ | v
          · rfl
          · have := hw.imm_lt hi
            omega
      · simp only [e1, if_false, AH.grow] at ho ⊢
        have hne : m.tg q ≠ g := by
          rcases hg with ⟨hgt, _⟩ | ⟨hgt, _⟩
          · rw [hgt]; exact fun e => e1 (hw.tinj q k hq hk e)
          · have := (hw.tip_lt hq).2
            omega
        rw [if_neg (fun hh => hne hh.1)]
        exact hw.tfree q hq o ho
    · by_cases e1 : q = k
      · simp only [e1, if_true]
        exact hfresh b x hb
      · simp only [e1, if_false]
        exact hw.tblk q hq b x hb
    · have hne : ∀ q, q < h.ids → q ≠ k → m.tg q ≠ g := by
        intro q hq e1
        rcases hg with ⟨hgt, _⟩ | ⟨hgt, _⟩
        · rw [hgt]; exact fun e => e1 (hw.tinj q k hq hk e)
        · have := (hw.tip_lt hq).2
          omega
      by_cases h1 : q = k <;> by_cases h2 : q' = k
      · omega
      · simp [h1, h2] at he
        exact absurd he.symm (hne q' hq' h2)
      · simp [h1, h2] at he
        exact absurd he (hne q hq h1)
      · simp [h1, h2] at he
        exact hw.tinj q q' hq hq' he
  · obtain ⟨r1, r2, r3⟩ := hrows
    have := VR.isl (P := P) (m := { m with imm := fun g' o => if g' = g ∧ o < (h.hw k + mm) * S then (xs ++ news)[o]? else m.imm g' o, tg := fun q => if q = k then g else m.tg q, tc := fun q => if q = k then cap else m.tc q }) (h := h.grow k (h.hw k + mm))
      (some k) e es g 0 cap (fun i j => ((xs ++ news)[i * S + j]?).getD undef) (by rw [hS]; exact r2) (fun i hi j hj => by
        rw [hS] at hj ⊢
        have := le_mul_of (s := S) hi
        rw [hes] at this
        simp only [Nat.zero_add]
        rw [if_pos ⟨trivial, by omega⟩, List.getElem?_eq_getElem (by omega)]
        simp) (fun i hi j hj => by
        obtain ⟨v, v1, v2⟩ := r3 i hi j hj
        rw [v1, Option.getD_some]
        exact v2.ext hx) (by
        rw [hes]
        rcases hown.2 with ⟨h1, h2⟩ | ⟨_, _, _, h1, _, _, h2, _⟩
        · simp at h1
        · simp at h1
          obtain ⟨rfl, rfl⟩ := h1
          exact h2) (fun q hq => by
        injection hq with hq
        subst hq
        exact ⟨hk, hE, by simp [AH.grow, hes], fun _ => by simp⟩)
    rw [hes] at this
    exact this
  · have hb : ∀ q, q < m.base → w'.heap[q]? = w.heap[q]? := fun q hq => hoth q (by have := hw.size; omega) (by have := htl.1; omega)
    rcases hg with ⟨_, hO⟩ | ⟨_, hN⟩
    · exact ⟨hO.os, hO.tape, hO.output, hO.size, hb⟩
    · exact ⟨hN.os, hN.tape, hN.output, hN.size, hb⟩

/-- a row that turns, grown: the old one is given up -/
theorem WR.grownM (hw : WR P m h w) {b : Nat} {es : List (List AV)} (hb : h.cell b = some es) (e : TypeId) (he : m.bt b = e) {xs : List Value} {n g cap : Nat}
    (hown : w'.ownsRow m.base e (P.cellsOf e) (.slice (some ⟨g, 0, none⟩) n cap) n xs)
    (hg : (g = m.blk b ∧ Only (fun q => q = g) w w') ∨ (g = w.heap.size ∧ New w w')) (fs : List (List AV)) (hrows : RowsL P m h (P.cellsOf e) fs xs) (hfs : fs.length = n) :
    ∃ m', Ext m h m' ((h.set b none).push fs) ∧ WR P m' ((h.set b none).push fs) w' ∧ VR P m' ((h.set b none).push fs) (.msl h.n 0 n e) (.slice (some ⟨g, 0, none⟩) n cap) ∧ Below m.base w w' := by
  have hx : Ext m h { m with blk := fun q => if q = h.n then g else m.blk q, bt := fun q => if q = h.n then e else m.bt q, bsz := fun q => if q = h.n then cap * P.cellsOf e else m.bsz q } ((h.set b none).push fs) :=
    ⟨rfl, by simp [AH.push, AH.set], by simp [AH.push, AH.set], fun q hq => by simp [show q ≠ h.n by omega], fun _ _ _ h => h, fun k hk => ⟨rfl, Nat.le_refl _, fun _ => ⟨rfl, rfl⟩⟩⟩
  have hsize : w.heap.size ≤ w'.heap.size := by
    rcases hg with ⟨_, hO⟩ | ⟨_, hN⟩
    · exact hO.size
    · exact hN.size
  have hoth : ∀ q, q < w.heap.size → q ≠ m.blk b → w'.heap[q]? = w.heap[q]? := by
    intro q hq hne
    rcases hg with ⟨hgt, hO⟩ | ⟨hgt, hN⟩
    · exact hO.block q hq (fun e => hne (e.trans hgt))
    · exact hN.block q hq id
  have hbn := (hw.lt b es hb).1
  have hblt := hw.below hb
  have cases_ : ∀ q x, ((h.set b none).push fs).cell q = some x → (q = h.n ∧ x = fs) ∨ (q ≠ h.n ∧ q ≠ b ∧ h.cell q = some x) := by
    intro q x hq
    by_cases e1 : q = h.n
    · left
      subst e1
      simp [AH.push, AH.set] at hq
      exact ⟨rfl, hq.symm⟩
    · right
      by_cases e2 : q = b
      · simp [AH.push, AH.set, e1, e2] at hq
        subst e2
        simp [e1] at hq
      · simp [AH.push, AH.set, e1, e2] at hq
        exact ⟨e1, e2, hq⟩
  have hblk : ∃ cur, Blk w' g e cur ∧ cur.size = cap * P.cellsOf e ∧ n ≤ cap ∧ cap ≤ maxLen ∧ cur.toList.take (n * P.cellsOf e) = xs ∧ m.base ≤ g := by
    rcases hown.2 with ⟨h1, h2⟩ | ⟨g2, cap2, cur, h1, h2, h3, h4, h5, h6, h7⟩
    · simp at h1
    · simp at h1
      obtain ⟨rfl, rfl⟩ := h1
      exact ⟨cur, h3, h6, h4, h5, h7, h2⟩
  obtain ⟨cur, hcur, hcs, hncap, hmx, htake, hgb⟩ := hblk
  have hne : ∀ q x, q ≠ b → h.cell q = some x → m.blk q ≠ g := by
    intro q x hqb hq
    rcases hg with ⟨hgt, _⟩ | ⟨hgt, _⟩
    · rw [hgt]; exact fun e => hqb (hw.inj _ _ _ _ hq hb e)
    · have := hw.below hq
      omega
  have hgimm : ∀ o, m.imm g o = none := by
    intro o
    rcases hg with ⟨hgt, _⟩ | ⟨hgt, _⟩
    · rw [hgt]; exact hw.sep b es hb o
    · rcases hi : m.imm g o with _ | v
      · rfl
      · have := hw.imm_lt hi
        omega
  obtain ⟨r1, r2, r3⟩ := hrows
  refine ⟨_, hx, ?_, ?_, ?_⟩
  · refine ⟨Nat.le_trans hw.size hsize, fun q x hq => ?_, fun q x hq => ?_, fun q q' x x' hq hq' he => ?_, fun g' o v hi => ?_, fun q x hq o => ?_, fun k hk => ?_, fun k hk => hw.tfree k hk, fun k hk q x hq => ?_, fun k k' hk hk' => hw.tinj k k' hk hk'⟩
    · rcases cases_ q x hq with ⟨rfl, rfl⟩ | ⟨e1, e2, h3⟩
      · simp [AH.push, AH.set, hgb]
      · have := hw.lt q x h3
        simp [AH.push, AH.set, e1]
        omega
    · rcases cases_ q x hq with ⟨rfl, rfl⟩ | ⟨e1, e2, h3⟩
      · refine ⟨cur, by simpa using hcur, by simp [hcs], by simpa using r2, ?_, fun i hi j hj => ?_⟩
        · simp only [if_true]
          rw [hfs, hcs]
          exact Nat.mul_le_mul_right _ hncap
        · obtain ⟨v, v1, v2⟩ := r3 i hi j hj
          refine ⟨v, ?_, v2.ext hx⟩
          simp only [if_true]
          rw [← htake] at v1
          have hlt := (List.getElem?_eq_some_iff.1 v1).1
          simp at hlt
          rw [List.getElem?_take_of_lt (by omega)] at v1
          rw [← Array.getElem?_toList]
          exact v1
      · obtain ⟨cs, c1, c2, c3, c4, c5⟩ := hw.live q x h3
        refine ⟨cs, ?_, by simpa [e1] using c2, by simpa [e1] using c3, by simpa [e1] using c4, fun i hi j hj => ?_⟩
        · simp only [e1, if_false]
          exact (hoth _ c1.lt (fun e => e2 (hw.inj _ _ _ _ h3 hb e))).trans c1
        · obtain ⟨v, v1, v2⟩ := c5 i hi j hj
          exact ⟨v, by simpa [e1] using v1, v2.ext hx⟩
    · rcases cases_ q x hq with ⟨rfl, rfl⟩ | ⟨e1, e2, h3⟩ <;> rcases cases_ q' x' hq' with ⟨rfl, rfl⟩ | ⟨f1, f2, f3⟩
      · rfl
      · simp [f1] at he
        exact absurd he.symm (hne _ _ f2 f3)
      · simp [e1] at he
        exact absurd he (hne _ _ e2 h3)
      · simp [e1, f1] at he
        exact hw.inj _ _ _ _ h3 f3 he
    · have hg' : g' ≠ m.blk b := fun e => by
        simp only at hi
        rw [e, hw.sep b es hb o] at hi
        cases hi
      rw [World.cell?_of_block (w := w) (hoth _ (hw.imm_lt hi) hg')]
      exact hw.imm g' o v hi
    · rcases cases_ q x hq with ⟨rfl, rfl⟩ | ⟨e1, e2, h3⟩
      · simp only [if_true]
        exact hgimm o
      · simp only [e1, if_false]
        exact hw.sep q x h3 o
    · obtain ⟨ys, hy⟩ := hw.tip k hk
      refine ⟨ys, hy.1, ?_⟩
      rcases hy.2 with h1 | ⟨g2, cap2, cur2, e2, hg2, hh2, r⟩
      · exact .inl h1
      · refine .inr ⟨g2, cap2, cur2, e2, hg2, ?_, r⟩
        simp [AH.push, AH.set] at e2
        obtain ⟨rfl, rfl⟩ := e2
        exact (hoth _ (hw.tip_lt hk).2 (fun e => hw.tblk k hk b es hb e.symm)).trans hh2
    · have hne2 : g ≠ m.tg k := by
        rcases hg with ⟨hgt, _⟩ | ⟨hgt, _⟩
        · rw [hgt]; exact hw.tblk k hk b es hb
        · have := (hw.tip_lt hk).2
          omega
      rcases cases_ q x hq with ⟨rfl, rfl⟩ | ⟨e1, e2, h3⟩
      · simpa using hne2
      · simp only [e1, if_false]
        exact hw.tblk k hk q x h3
  · have := VR.msl (P := P) (m := { m with blk := fun q => if q = h.n then g else m.blk q, bt := fun q => if q = h.n then e else m.bt q, bsz := fun q => if q = h.n then cap * P.cellsOf e else m.bsz q }) (h := (h.set b none).push fs) h.n 0 n e cap (by simp [AH.push, AH.set]) (by simp) (by simp) hncap hmx
    simpa using this
  · have hb' : ∀ q, q < m.base → w'.heap[q]? = w.heap[q]? := fun q hq => hoth q (by have := hw.size; omega) (by have := (hw.lt b es hb).2; omega)
    rcases hg with ⟨_, hO⟩ | ⟨_, hN⟩
    · exact ⟨hO.os, hO.tape, hO.output, hO.size, hb'⟩
    · exact ⟨hN.os, hN.tape, hN.output, hN.size, hb'⟩

theorem op_append (hT : TyOK P) (hw : WR P m h w) (ht : TR P m h t a.tmps) (ty : TypeId) (x y : Operand) (ho : o.op = .call { callee := .builtin .append, args := #[x, y], argTypes := [ty, ty].toArray }) {e : TypeId} (he : elemA P ty = some e) (hz : (zeroA P e).isSome = true) (mu : Bool) {v : AV}
    (hv : appendA mu e (evA t x) (evA t y) h = some (v, h')) : OpR P m h a w o v h' := by
  have hes := elem_run he
  have hpos := elem_pos hT he
  obtain ⟨z, hz⟩ := Option.isSome_iff_exists.1 hz
  obtain ⟨i, zv, hi, hvz, hl', hs, hr, hrun⟩ := zeroA_sound (m := m) (h := h) (w := w) hT hz
  have hi1 : i.size = P.cellsOf e := by simp [Program.cellsOf, hi]
  have hby := hT.small e i (zero_lt hz) hi
  have vx := evA_sound ht x
  have vy := evA_sound ht y
  obtain ⟨ux, hux⟩ : ∃ u, a.eval x = u := ⟨_, rfl⟩
  obtain ⟨uy, huy⟩ : ∃ u, a.eval y = u := ⟨_, rfl⟩
  rw [hux] at vx
  rw [huy] at vy
  by_cases hyn : evA t y = .nils
  · rw [hyn] at vy hv
    cases vy
    have fin : ∀ {A n c}, ux = .slice A n c → n ≤ c → VR P m h v (.slice A n c) → h' = h → OpR P m h a w o v h' := by
      intro A n c h1 h2 h3 h4
      subst h1
      subst h4
      exact OpR.pure hw (append_op ty [ty] x y ho hux huy (append_nothing ty e [ty] hes (by rw [hi]; simp) rfl _ A n c h2)) h3
    simp only [appendA, sameA] at hv
    cases hex : evA t x <;> rw [hex] at hv vx <;> simp only at hv <;> try (cases hv; done)
    · injection hv with hv
      injection hv with h1 h2
      subst h1
      cases vx
      exact fin rfl (Nat.le_refl _) .nils h2.symm
    · split at hv
      · injection hv with hv
        injection hv with h1 h2
        subst h1
        have vx0 := vx
        cases vx with
        | isl0 e' a' cap => exact fin rfl (Nat.zero_le _) vx0 h2.symm
        | isl id e' es g o' cap F hle hi' hvv hcap htt => exact fin rfl hcap vx0 h2.symm
      · cases hv
    · split at hv
      · injection hv with hv
        injection hv with h1 h2
        subst h1
        have vx0 := vx
        cases vx with
        | msl b o' n' e' cap hb he' hcap hnn hmx => exact fin rfl hnn vx0 h2.symm
      · cases hv
  · have hv2 : ((elemsA h e (evA t y)).bind fun new => if new.length = 0 then sameA e (evA t x) h else moreA mu e (evA t x) new h) = some (v, h') := by
      rw [← hv]
      unfold appendA
      cases hey : evA t y <;> first | rfl | exact absurd hey hyn
    clear hv
    obtain ⟨new, hnew, hv⟩ := Option.bind_eq_some_iff.1 hv2
    by_cases hz0 : new.length = 0
    · rw [if_pos hz0] at hv
      obtain ⟨ad, n, c, news, rfl, rfl, hrl, hcell⟩ := elems_sound hw vy hyn hnew
      rw [hz0] at huy vy
      have fin : ∀ {A n c'}, ux = .slice A n c' → n ≤ c' → VR P m h v (.slice A n c') → h' = h → OpR P m h a w o v h' := by
        intro A n c' h1 h2 h3 h4
        subst h1
        subst h4
        exact OpR.pure hw (append_op ty [ty] x y ho hux huy (append_nothing2 ty e [ty] hes (by rw [hi]; simp) rfl _ A n c' h2 ad c)) h3
      simp only [sameA] at hv
      cases hex : evA t x <;> rw [hex] at hv vx <;> simp only at hv <;> try (cases hv; done)
      · injection hv with hv
        injection hv with h1 h2
        subst h1
        cases vx
        exact fin rfl (Nat.le_refl _) .nils h2.symm
      · split at hv
        · injection hv with hv
          injection hv with h1 h2
          subst h1
          have vx0 := vx
          cases vx with
          | isl0 e' a' cap => exact fin rfl (Nat.zero_le _) vx0 h2.symm
          | isl id e' es g o' cap F hle hi' hvv hcap htt => exact fin rfl hcap vx0 h2.symm
        · cases hv
      · split at hv
        · injection hv with hv
          injection hv with h1 h2
          subst h1
          have vx0 := vx
          cases vx with
          | msl b o' n' e' cap hb he' hcap hnn hmx => exact fin rfl hnn vx0 h2.symm
        · cases hv
    rw [if_neg hz0] at hv
    unfold moreA at hv
    split at hv
    · rename_i hc
      obtain ⟨c1, c2, c3⟩ := hc
      obtain ⟨ad, n, c, news, rfl, rfl, hrl, hcell⟩ := elems_sound hw vy hyn hnew
      have hone := hrl.one hpos c3
      have hbd : ∀ k, k ≤ 1000000 → (k + new.length) * i.bytes ≤ 140737488355328 := by
        intro k hk
        have : (k + new.length) * i.bytes ≤ 2000000 * 100000 := Nat.mul_le_mul (by omega) hby
        omega
      have hmxx : ∀ k, k ≤ 1000000 → k + new.length ≤ maxLen := by
        intro k hk
        unfold maxLen
        omega
      have hx_nil : evA t x = .nils → OpR P m h a w o v h' := by
        intro hex
        rw [hex] at hv vx
        simp only at hv
        cases vx
        obtain ⟨g, cap, w', r1, r2, r3⟩ := run_append2 (P := P) (w := w) m.base ty o.type e i zv (P.cellsOf e) i.bytes hes hi hvz hi1 rfl (by rw [hs]) hpos (.slice none 0 0) 0 [] (World.ownsRow_nil _ _ _ _) ad new.length c (by omega) news hrl.1 hcell hone (hmxx 0 (by omega)) (hbd 0 (by omega)) hw.size
        simp only [Nat.zero_add, List.nil_append] at r1 r2
        rcases r3 with ⟨h1, _⟩ | ⟨hg, hN⟩
        · simp at h1
        · have hop := append_op (w' := w') ty [ty] x y ho hux huy r1
          obtain ⟨q1, q2⟩ := r2
          rcases q2 with ⟨h1, _⟩ | ⟨g2, cap2, cur, h1, h2, h3, h4, h5, h6, h7⟩
          · simp at h1
          · simp at h1
            obtain ⟨rfl, rfl⟩ := h1
            have hk7 : cur.toList.take (new.length * P.cellsOf e) = news := h7
            have hv3 : ∀ i (hi : i < new.length) j (hj : j < new[i].length), ∃ v, cur[i * P.cellsOf e + j]? = some v ∧ VR P m h new[i][j] v := by
              intro i hi j hj
              obtain ⟨v, v1, v2⟩ := hrl.2.2 i hi j hj
              rw [← hk7] at v1
              have hlt := (List.getElem?_eq_some_iff.1 v1).1
              simp at hlt
              rw [List.getElem?_take_of_lt (by omega)] at v1
              exact ⟨v, by rw [← Array.getElem?_toList]; exact v1, v2⟩
            subst hg
            cases mu
            · simp only [Bool.false_eq_true, if_false, Option.some.injEq, Prod.mk.injEq] at hv
              obtain ⟨rfl, rfl⟩ := hv
              obtain ⟨m', k1, k2, k3⟩ := hw.fresh w' e new cur cap hN h3 h6 h4 h5 hrl.2.1 hv3
              exact ⟨m', w', _, .inl hop, k1, k2, k3, (New.below hN).mono hw.size⟩
            · simp only [if_true, Option.some.injEq, Prod.mk.injEq] at hv
              obtain ⟨rfl, rfl⟩ := hv
              obtain ⟨m', k1, k2, k3, k4, k5⟩ := hw.push w' e new cur hN h3 (by rw [h6]; exact Nat.mul_le_mul_right _ h4) hrl.2.1 hv3
              have k6 := VR.msl (P := P) (m := m') (h := h.push new) h.n 0 new.length e cap (by simp [AH.push]) k4 (by rw [k5, h6, Nat.zero_add]) h4 h5
              rw [k3, Nat.zero_mul] at k6
              exact ⟨m', w', _, .inl hop, k1, k2, k6, (New.below hN).mono hw.size⟩
      have hx_isl : ∀ k z es, evA t x = .isl (some k) z es → OpR P m h a w o v h' := by
        intro k z es hex
        rw [hex] at hv vx
        simp only at hv
        split at hv
        · rename_i hcond
          obtain ⟨rfl, hhw, hles⟩ := hcond
          injection hv with hv
          injection hv with g1 g2
          subst g1
          subst g2
          cases vx with
          | isl id e' es g o' cap F hle hi' hvv hcap htt =>
            obtain ⟨hk, hte, _, htip⟩ := htt k rfl
            obtain ⟨rfl, rfl, rfl⟩ := htip hhw.symm
            obtain ⟨xs, hxs⟩ := hw.tip k hk
            rw [hte, hhw] at hxs
            have hrx : RowsL P m h (P.cellsOf z) es xs := own_rows hw hxs hle (fun i hi j hj => ⟨F i j, by
              have := hw.imm _ _ _ (hi' i hi j (by rw [← hle _ (List.getElem_mem hi)]; exact hj))
              rwa [Nat.zero_add] at this, hvv i hi j hj⟩)
            obtain ⟨g, cap2, w', r1, r2, r3⟩ := run_append2 (P := P) (w := w) m.base ty o.type z i zv (P.cellsOf z) i.bytes hes hi hvz hi1 rfl (by rw [hs]) hpos _ es.length xs hxs ad new.length c (by omega) news hrl.1 hcell hone (hmxx _ hles) (hbd _ hles) hw.size
            have hop := append_op (w' := w') ty [ty] x y ho hux huy r1
            obtain ⟨m', k1, k2, k3, k4⟩ := WR.grown hw hk (n := es.length) (mm := new.length) (xs := xs) (news := news) (g := g) (cap := cap2) (w' := w') hhw.symm c1 (by rw [hte]; exact hxs) (by rw [hte]; exact hpos) (by rw [hte]; exact r2) (by
              rcases r3 with ⟨q1, q2, _⟩ | q
              · left
                simp at q1
                exact ⟨q1.symm, q2⟩
              · exact .inr q) (es ++ new) (by rw [hte]; exact hrx.append hrl) (by simp)
            rw [hte] at k3
            exact ⟨m', w', _, .inl hop, k1, k2, k3, k4⟩
        · cases hv
      have hx_msl : ∀ b o' n' z, evA t x = .msl b o' n' z → OpR P m h a w o v h' := by
        intro b o' n' z hex
        rw [hex] at hv vx
        simp only at hv
        split at hv
        · rename_i hcond
          obtain ⟨rfl, rfl, hles⟩ := hcond
          obtain ⟨es, hb, hv⟩ := Option.bind_eq_some_iff.1 hv
          split at hv
          · rename_i hn'
            injection hv with hv
            injection hv with g1 g2
            subst g1
            subst g2
            cases vx with
            | msl b o' n' e' cap hb' he' hcap hnn hmx =>
              obtain ⟨cs, l1, l2, l3, l4, l5⟩ := hw.live b es hb
              rw [he'] at l1 l3 l4 l5
              have hcsz : cs.size = cap * P.cellsOf z := by rw [l2, ← hcap, Nat.zero_add]
              have hnl : n' * P.cellsOf z ≤ es.length * P.cellsOf z := Nat.mul_le_mul_right _ hn'
              have hown : w.ownsRow m.base z (P.cellsOf z) (.slice (some ⟨m.blk b, 0, none⟩) n' cap) n' (cs.toList.take (n' * P.cellsOf z)) :=
                ⟨by simp; omega, .inr ⟨m.blk b, cap, cs, rfl, (hw.lt b es hb).2, l1, hnn, hmx, hcsz, rfl⟩⟩
              have hrw : RowsL P m h (P.cellsOf z) (es.take n') (cs.toList.take (n' * P.cellsOf z)) := by
                have h1 : RowsL P m h (P.cellsOf z) es (cs.toList.take (es.length * P.cellsOf z)) := by
                  refine ⟨by simp; omega, l3, fun i hi j hj => ?_⟩
                  obtain ⟨v, v1, v2⟩ := l5 i hi j hj
                  have := le_mul_of (s := P.cellsOf z) hi
                  have hjs : j < P.cellsOf z := by rw [← l3 _ (List.getElem_mem hi)]; exact hj
                  exact ⟨v, by rw [List.getElem?_take_of_lt (by omega), Array.getElem?_toList]; exact v1, v2⟩
                have h2 := h1.take n' hn'
                rwa [List.take_take, Nat.min_eq_left hnl] at h2
              obtain ⟨g, cap2, w', r1, r2, r3⟩ := run_append2 (P := P) (w := w) m.base ty o.type z i zv (P.cellsOf z) i.bytes hes hi hvz hi1 rfl (by rw [hs]) hpos _ n' _ hown ad new.length c (by omega) news hrl.1 hcell hone (hmxx _ hles) (hbd _ hles) hw.size
              have hux' : a.eval x = .slice (some ⟨m.blk b, 0, none⟩) n' cap := by rw [hux]; simp
              have hop := append_op (w' := w') ty [ty] x y ho hux' huy r1
              obtain ⟨m', k1, k2, k3, k4⟩ := WR.grownM hw hb z he' (w' := w') (g := g) (cap := cap2) r2 (by
                rcases r3 with ⟨q1, q2, _⟩ | q
                · left
                  simp at q1
                  exact ⟨q1.symm, q2⟩
                · exact .inr q) (es.take n' ++ new) (hrw.append hrl) (by simp; omega)
              exact ⟨m', w', _, .inl hop, k1, k2, k3, k4⟩
          · cases hv
        · cases hv
      cases hex : evA t x with
      | nils => exact hx_nil hex
      | isl id z es =>
        cases id with
        | some k => exact hx_isl k z es hex
        | none => rw [hex] at hv; cases hv
      | msl b o' n' z => exact hx_msl b o' n' z hex
      | _ => rw [hex] at hv; cases hv
    · cases hv
end
end Go.Proofs.Ytacocolcighomaa
