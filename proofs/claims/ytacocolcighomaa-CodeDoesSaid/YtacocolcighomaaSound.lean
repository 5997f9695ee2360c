/- What ties the plain model to the machine's memory: 'VR' (a value), 'WR' (a world). No walk here. -/
import Derived.Test.YtacocolcighomaaSimEq
import Derived.Test.YtacocolcighomaaMem
namespace Go.Proofs.Ytacocolcighomaa
set_option linter.unusedSimpArgs false
set_option linter.unusedVariables false
open Go Go.RowKit

/-- where the model's blocks lie; which cells never turn again; where a slice may grow -/
structure Mm where
  base : Nat
  blk : Nat → Nat
  bt : Nat → TypeId
  bsz : Nat → Nat
  imm : Nat → Nat → Option Value
  tg : Nat → Nat
  tc : Nat → Nat
  te : Nat → TypeId

inductive VR (P : Program) (m : Mm) (h : AH) : AV → Value → Prop
  | junk (v : Value) : VR P m h .junk v
  | bool (b : Bool) : VR P m h (.bool b) (.bool b)
  | int (k : IntKind) (n : Int) : VR P m h (.int k n) (.int k n)
  | str (l : List UInt8) : VR P m h (.str l) (.string ⟨l.toArray⟩)
  | nilp : VR P m h .nilp (.pointer none)
  | ptr (b i off : Nat) (hb : b < h.n) : VR P m h (.ptr b i off) (.pointer (some ⟨m.blk b, i * P.cellsOf (m.bt b) + off, none⟩))
  | ip (e : List AV) (off g o : Nat) (F : Nat → Value) (hi : ∀ j, j < e.length → m.imm g (o + j) = some (F j)) (hv : ∀ j (hj : j < e.length), VR P m h e[j] (F j)) : VR P m h (.ip e off) (.pointer (some ⟨g, o + off, none⟩))
  | nils : VR P m h .nils (.slice none 0 0)
  | isl (id : Option Nat) (e : TypeId) (es : List (List AV)) (g o cap : Nat) (F : Nat → Nat → Value) (hl : ∀ r ∈ es, r.length = P.cellsOf e)
      (hi : ∀ i, i < es.length → ∀ j, j < P.cellsOf e → m.imm g (o + (i * P.cellsOf e + j)) = some (F i j)) (hv : ∀ i (hi : i < es.length) j (hj : j < es[i].length), VR P m h es[i][j] (F i j)) (hc : es.length ≤ cap)
      (ht : ∀ k, id = some k → k < h.ids ∧ m.te k = e ∧ es.length ≤ h.hw k ∧ (es.length = h.hw k → g = m.tg k ∧ o = 0 ∧ cap = m.tc k)) : VR P m h (.isl id e es) (.slice (some ⟨g, o, none⟩) es.length cap)
  | isl0 (e : TypeId) (a : Addr) (cap : Nat) : VR P m h (.isl none e []) (.slice (some a) 0 cap)
  | msl (b o n : Nat) (e : TypeId) (cap : Nat) (hb : b < h.n) (he : m.bt b = e) (hcap : (o + cap) * P.cellsOf e = m.bsz b) (hn : n ≤ cap) (hmx : cap ≤ maxLen) : VR P m h (.msl b o n e) (.slice (some ⟨m.blk b, o * P.cellsOf e, none⟩) n cap)
  | fn (g : FuncId) (l c : List AV) (l' c' : List Value) (h1 : l'.length = l.length) (h2 : c'.length = c.length) (h3 : ∀ j (hj : j < l.length) (hj' : j < l'.length), VR P m h l[j] l'[j]) (h4 : ∀ j (hj : j < c.length) (hj' : j < c'.length), VR P m h c[j] c'[j]) :
      VR P m h (.fn g l c) (.func (.func g) l'.toArray c'.toArray)
  | nilf : VR P m h .nilf .nilFunc
  | nili : VR P m h .nili .nilIface
  | iface (t : TypeId) (v : AV) (v' : Value) (h1 : VR P m h v v') : VR P m h (.iface t v) (.iface t v')
  | agg (l : List AV) (l' : List Value) (h1 : l'.length = l.length) (h3 : ∀ j (hj : j < l.length) (hj' : j < l'.length), VR P m h l[j] l'[j]) : VR P m h (.agg l) (.agg l'.toArray)
  | tup (l : List AV) (l' : List Value) (h1 : l'.length = l.length) (h3 : ∀ j (hj : j < l.length) (hj' : j < l'.length), VR P m h l[j] l'[j]) : VR P m h (.tup l) (.tuple l'.toArray)

def VRs (P : Program) (m : Mm) (h : AH) (l : List AV) (l' : List Value) : Prop := l'.length = l.length ∧ ∀ j (hj : j < l.length) (hj' : j < l'.length), VR P m h l[j] l'[j]

structure WR (P : Program) (m : Mm) (h : AH) (w : World) : Prop where
  size : m.base ≤ w.heap.size
  lt : ∀ b es, h.cell b = some es → b < h.n ∧ m.base ≤ m.blk b
  live : ∀ b es, h.cell b = some es → ∃ cs, Blk w (m.blk b) (m.bt b) cs ∧ cs.size = m.bsz b ∧ (∀ r ∈ es, r.length = P.cellsOf (m.bt b)) ∧ es.length * P.cellsOf (m.bt b) ≤ cs.size ∧
    ∀ i (hi : i < es.length) j (hj : j < es[i].length), ∃ v, cs[i * P.cellsOf (m.bt b) + j]? = some v ∧ VR P m h es[i][j] v
  inj : ∀ b b' es es', h.cell b = some es → h.cell b' = some es' → m.blk b = m.blk b' → b = b'
  imm : ∀ g o v, m.imm g o = some v → w.cell? ⟨g, o, none⟩ = some v
  sep : ∀ b es, h.cell b = some es → ∀ o, m.imm (m.blk b) o = none
  tip : ∀ k, k < h.ids → ∃ xs, w.ownsRow m.base (m.te k) (P.cellsOf (m.te k)) (.slice (some ⟨m.tg k, 0, none⟩) (h.hw k) (m.tc k)) (h.hw k) xs
  tfree : ∀ k, k < h.ids → ∀ o, h.hw k * P.cellsOf (m.te k) ≤ o → m.imm (m.tg k) o = none
  tblk : ∀ k, k < h.ids → ∀ b es, h.cell b = some es → m.blk b ≠ m.tg k
  tinj : ∀ k k', k < h.ids → k' < h.ids → m.tg k = m.tg k' → k = k'

structure Ext (m : Mm) (h : AH) (m' : Mm) (h' : AH) : Prop where
  base : m'.base = m.base
  n : h.n ≤ h'.n
  ids : h.ids ≤ h'.ids
  blk : ∀ b, b < h.n → m'.blk b = m.blk b ∧ m'.bt b = m.bt b ∧ m'.bsz b = m.bsz b
  imm : ∀ g o v, m.imm g o = some v → m'.imm g o = some v
  te : ∀ k, k < h.ids → m'.te k = m.te k ∧ h.hw k ≤ h'.hw k ∧ (h'.hw k = h.hw k → m'.tg k = m.tg k ∧ m'.tc k = m.tc k)

theorem Ext.refl (m : Mm) (h : AH) : Ext m h m h := ⟨rfl, Nat.le_refl _, Nat.le_refl _, fun _ _ => ⟨rfl, rfl, rfl⟩, fun _ _ _ h => h, fun _ _ => ⟨rfl, Nat.le_refl _, fun _ => ⟨rfl, rfl⟩⟩⟩
theorem Ext.trans {m1 m2 m3 : Mm} {h1 h2 h3 : AH} (x : Ext m1 h1 m2 h2) (y : Ext m2 h2 m3 h3) : Ext m1 h1 m3 h3 := by
  refine ⟨y.base.trans x.base, Nat.le_trans x.n y.n, Nat.le_trans x.ids y.ids, fun b hb => ?_, fun g o v h => y.imm g o v (x.imm g o v h), fun k hk => ?_⟩
  · obtain ⟨a1, a2, a3⟩ := x.blk b hb
    obtain ⟨b1, b2, b3⟩ := y.blk b (Nat.lt_of_lt_of_le hb x.n)
    exact ⟨b1.trans a1, b2.trans a2, b3.trans a3⟩
  · obtain ⟨a1, a2, a3⟩ := x.te k hk
    obtain ⟨b1, b2, b3⟩ := y.te k (Nat.lt_of_lt_of_le hk x.ids)
    refine ⟨b1.trans a1, Nat.le_trans a2 b2, fun e => ?_⟩
    obtain ⟨c1, c2⟩ := a3 (by omega)
    obtain ⟨d1, d2⟩ := b3 (by omega)
    exact ⟨d1.trans c1, d2.trans c2⟩

section
variable {P : Program} {m m' : Mm} {h h' : AH} {w w' : World}
theorem VR.ext (x : Ext m h m' h') {v : AV} {u : Value} (r : VR P m h v u) : VR P m' h' v u := by
  induction r with
  | junk v => exact .junk v
  | bool b => exact .bool b
  | int k n => exact .int k n
  | str l => exact .str l
  | nilp => exact .nilp
  | ptr b i off hb =>
    obtain ⟨a1, a2, a3⟩ := x.blk b hb
    have := VR.ptr (P := P) (m := m') (h := h') b i off (Nat.lt_of_lt_of_le hb x.n)
    rwa [a1, a2] at this
  | ip e off g o F hi hv ih => exact .ip e off g o F (fun j hj => x.imm _ _ _ (hi j hj)) ih
  | nils => exact .nils
  | isl id e es g o cap F hl hi hv hc ht ih =>
    refine .isl id e es g o cap F hl (fun i hi' j hj => x.imm _ _ _ (hi i hi' j hj)) ih hc (fun k hk => ?_)
    obtain ⟨h1, h2, h3, h4⟩ := ht k hk
    obtain ⟨t1, t2, t3⟩ := x.te k h1
    refine ⟨Nat.lt_of_lt_of_le h1 x.ids, t1.trans h2, Nat.le_trans h3 t2, fun e' => ?_⟩
    obtain ⟨c1, c2, c3⟩ := h4 (by omega)
    obtain ⟨d1, d2⟩ := t3 (by omega)
    exact ⟨c1.trans d1.symm, c2, c3.trans d2.symm⟩
  | isl0 e a cap => exact .isl0 e a cap
  | msl b o n e cap hb he hcap hn hmx =>
    obtain ⟨a1, a2, a3⟩ := x.blk b hb
    have := VR.msl (P := P) (m := m') (h := h') b o n e cap (Nat.lt_of_lt_of_le hb x.n) (a2.trans he) (hcap.trans a3.symm) hn hmx
    rwa [a1] at this
  | fn g l c l' c' h1 h2 h3 h4 ih1 ih2 => exact .fn g l c l' c' h1 h2 ih1 ih2
  | nilf => exact .nilf
  | nili => exact .nili
  | iface t v v' h1 ih => exact .iface t v v' ih
  | agg l l' h1 h3 ih => exact .agg l l' h1 ih
  | tup l l' h1 h3 ih => exact .tup l l' h1 ih
theorem VRs.ext (x : Ext m h m' h') {l : List AV} {l' : List Value} (r : VRs P m h l l') : VRs P m' h' l l' := ⟨r.1, fun j hj hj' => (r.2 j hj hj').ext x⟩
theorem VR.und : VR P m h (.tup []) undef := VR.tup [] [] rfl (fun j hj => by simp at hj)
theorem VRs.nil : VRs P m h [] [] := ⟨rfl, fun j hj => by simp at hj⟩
theorem VRs.cons {a : AV} {b : Value} {l : List AV} {l' : List Value} (h1 : VR P m h a b) (h2 : VRs P m h l l') : VRs P m h (a :: l) (b :: l') := by
  refine ⟨by simp [h2.1], fun j hj hj' => ?_⟩
  cases j with
  | zero => exact h1
  | succ j => exact h2.2 j (by simpa using hj) (by simpa using hj')
theorem VRs.append {l1 l2 : List AV} {r1 r2 : List Value} (h1 : VRs P m h l1 r1) (h2 : VRs P m h l2 r2) : VRs P m h (l1 ++ l2) (r1 ++ r2) := by
  refine ⟨by simp [h1.1, h2.1], fun j hj hj' => ?_⟩
  by_cases hlt : j < l1.length
  · rw [List.getElem_append_left hlt, List.getElem_append_left (by rw [h1.1]; exact hlt)]
    exact h1.2 j hlt _
  · rw [List.getElem_append_right (by omega), List.getElem_append_right (by rw [h1.1]; omega)]
    have e := h1.1
    simp only [e]
    exact h2.2 _ _ _
theorem VRs.map {α : Type} {f : α → AV} {g : α → Value} {l : List α} (hf : ∀ x ∈ l, VR P m h (f x) (g x)) : VRs P m h (l.map f) (l.map g) := by
  refine ⟨by simp, fun j hj hj' => ?_⟩
  simp only [List.getElem_map]
  exact hf _ (List.getElem_mem _)
theorem VRs.get? {l : List AV} {l' : List Value} (r : VRs P m h l l') {j : Nat} {v : AV} (hv : l[j]? = some v) : ∃ u, l'[j]? = some u ∧ VR P m h v u := by
  obtain ⟨hj, rfl⟩ := List.getElem?_eq_some_iff.1 hv
  have hj' : j < l'.length := by rw [r.1]; exact hj
  exact ⟨l'[j], List.getElem?_eq_getElem hj', r.2 j hj hj'⟩

theorem WR.below (hw : WR P m h w) {b : Nat} {es : List (List AV)} (hb : h.cell b = some es) : m.blk b < w.heap.size := by
  obtain ⟨cs, hc, _⟩ := hw.live b es hb
  exact hc.lt
theorem WR.imm_lt (hw : WR P m h w) {g o : Nat} {v : Value} (hi : m.imm g o = some v) : g < w.heap.size := by
  have := hw.imm g o v hi
  exact lt_of_cell (w := w) (p := ⟨g, o, none⟩) (by rw [this]; simp)
theorem WR.tip_lt (hw : WR P m h w) {k : Nat} (hk : k < h.ids) : m.base ≤ m.tg k ∧ m.tg k < w.heap.size := by
  obtain ⟨xs, hx⟩ := hw.tip k hk
  exact hx.lt _ rfl

/-- blocks that nothing here speaks of may turn, and new ones come -/
theorem WR.only {S : Nat → Prop} (hw : WR P m h w) (ho : Only S w w') (h1 : ∀ b es, h.cell b = some es → ¬ S (m.blk b)) (h2 : ∀ g o v, m.imm g o = some v → ¬ S g) (h3 : ∀ k, k < h.ids → ¬ S (m.tg k)) : WR P m h w' := by
  refine ⟨Nat.le_trans hw.size ho.size, hw.lt, fun b es hb => ?_, hw.inj, fun g o v hi => ?_, hw.sep, fun k hk => ?_, hw.tfree, hw.tblk, hw.tinj⟩
  · obtain ⟨cs, hc, hr⟩ := hw.live b es hb
    exact ⟨cs, hc.only ho (h1 b es hb), hr⟩
  · rw [World.cell?_of_block (w := w) (ho.block _ (hw.imm_lt hi) (h2 g o v hi))]
    exact hw.imm g o v hi
  · obtain ⟨xs, hx⟩ := hw.tip k hk
    exact ⟨xs, own_only hx ho (fun g hg => by
      simp at hg
      subst hg
      exact h3 k hk)⟩
theorem WR.new (hw : WR P m h w) (ho : New w w') : WR P m h w' := hw.only ho (fun _ _ _ => id) (fun _ _ _ _ => id) (fun _ _ => id)
theorem WR.drew (hw : WR P m h w) : WR P m h w.drew := hw.new (Only.refl _ _).drew

/-- the model's cells turn, the world does not: only what is asked -/
theorem WR.push (hw : WR P m h w) (w' : World) (e : TypeId) (es : List (List AV)) (cs : Array Value) (hn : New w w') (hbk : Blk w' w.heap.size e cs) (hs : es.length * P.cellsOf e ≤ cs.size) (hl : ∀ r ∈ es, r.length = P.cellsOf e)
    (hv : ∀ i (hi : i < es.length) j (hj : j < es[i].length), ∃ v, cs[i * P.cellsOf e + j]? = some v ∧ VR P m h es[i][j] v) :
    ∃ m', Ext m h m' (h.push es) ∧ WR P m' (h.push es) w' ∧ m'.blk h.n = w.heap.size ∧ m'.bt h.n = e ∧ m'.bsz h.n = cs.size := by
  refine ⟨{ m with blk := fun b => if b = h.n then w.heap.size else m.blk b, bt := fun b => if b = h.n then e else m.bt b, bsz := fun b => if b = h.n then cs.size else m.bsz b }, ?_, ?_, by simp, by simp, by simp⟩
  · exact ⟨rfl, by simp [AH.push], by simp [AH.push], fun b hb => by simp [show b ≠ h.n by omega], fun _ _ _ h => h, fun k hk => ⟨rfl, Nat.le_refl _, fun _ => ⟨rfl, rfl⟩⟩⟩
  · have hx : Ext m h { m with blk := fun b => if b = h.n then w.heap.size else m.blk b, bt := fun b => if b = h.n then e else m.bt b, bsz := fun b => if b = h.n then cs.size else m.bsz b } (h.push es) :=
      ⟨rfl, by simp [AH.push], by simp [AH.push], fun b hb => by simp [show b ≠ h.n by omega], fun _ _ _ h => h, fun k hk => ⟨rfl, Nat.le_refl _, fun _ => ⟨rfl, rfl⟩⟩⟩
    have hw1 := hw.new hn
    have old : ∀ b x, (h.push es).cell b = some x → b ≠ h.n → h.cell b = some x := by
      intro b x hb hne
      simpa [AH.push, hne] using hb
    have new : ∀ b x, (h.push es).cell b = some x → b = h.n → x = es := by
      intro b x hb he
      subst he
      simp [AH.push] at hb
      exact hb.symm
    refine ⟨hw1.size, fun b x hb => ?_, fun b x hb => ?_, fun b b' x x' hb hb' he => ?_, hw1.imm, fun b x hb o => ?_, hw1.tip, hw1.tfree, fun k hk b x hb => ?_, hw1.tinj⟩
    · by_cases hbn : b = h.n
      · subst hbn
        exact ⟨by simp [AH.push], by simpa using hw.size⟩
      · have := hw.lt b x (old b x hb hbn)
        exact ⟨by simp [AH.push]; omega, by simpa [hbn] using this.2⟩
    · by_cases hbn : b = h.n
      · subst hbn
        have := new _ _ hb rfl
        subst this
        refine ⟨cs, by simpa using hbk, by simp, by simpa using hl, by simpa using hs, fun i hi j hj => ?_⟩
        obtain ⟨v, h1, h2⟩ := hv i hi j hj
        exact ⟨v, by simpa using h1, h2.ext hx⟩
      · obtain ⟨cs', h1, h2, h3, h4, h5⟩ := hw1.live b x (old b x hb hbn)
        refine ⟨cs', by simpa [hbn] using h1, by simpa [hbn] using h2, by simpa [hbn] using h3, by simpa [hbn] using h4, fun i hi j hj => ?_⟩
        obtain ⟨v, h6, h7⟩ := h5 i hi j hj
        exact ⟨v, by simpa [hbn] using h6, h7.ext hx⟩
    · by_cases h1 : b = h.n <;> by_cases h2 : b' = h.n
      · omega
      · have := hw.below (old _ _ hb' h2)
        simp [h1, h2] at he
        omega
      · have := hw.below (old _ _ hb h1)
        simp [h1, h2] at he
        omega
      · simp [h1, h2] at he
        exact hw.inj b b' x x' (old _ _ hb h1) (old _ _ hb' h2) he
    · by_cases h1 : b = h.n
      · simp only [h1, if_true]
        rcases hi : m.imm w.heap.size o with _ | v
        · rfl
        · have := hw.imm_lt hi
          omega
      · simp only [h1, if_false]
        exact hw.sep b x (old _ _ hb h1) o
    · by_cases h1 : b = h.n
      · have := hw.tip_lt hk
        simp [h1]
        omega
      · simp only [h1, if_false]
        exact hw.tblk k hk b x (old _ _ hb h1)

/-- a block turns, the others do not -/
theorem WR.turn (hw : WR P m h w) {b : Nat} {es es' : List (List AV)} (hb : h.cell b = some es) (ho : Only (fun k => k = m.blk b) w w') (cs' : Array Value) (hc : Blk w' (m.blk b) (m.bt b) cs') (hs : cs'.size = m.bsz b)
    (hl : ∀ r ∈ es', r.length = P.cellsOf (m.bt b)) (hle : es'.length * P.cellsOf (m.bt b) ≤ cs'.size)
    (hv : ∀ i (hi : i < es'.length) j (hj : j < es'[i].length), ∃ v, cs'[i * P.cellsOf (m.bt b) + j]? = some v ∧ VR P m h es'[i][j] v) :
    Ext m h m (h.set b (some es')) ∧ WR P m (h.set b (some es')) w' := by
  have hx : Ext m h m (h.set b (some es')) := ⟨rfl, Nat.le_refl _, Nat.le_refl _, fun _ _ => ⟨rfl, rfl, rfl⟩, fun _ _ _ h => h, fun _ _ => ⟨rfl, Nat.le_refl _, fun _ => ⟨rfl, rfl⟩⟩⟩
  refine ⟨hx, ?_⟩
  have some_ : ∀ b' x, (h.set b (some es')).cell b' = some x → ∃ y, h.cell b' = some y := by
    intro b' x hb'
    by_cases e : b' = b
    · subst e; exact ⟨_, hb⟩
    · exact ⟨x, by simpa [AH.set, e] using hb'⟩
  refine ⟨Nat.le_trans hw.size ho.size, fun b' x hb' => ?_, fun b' x hb' => ?_, fun b1 b2 x1 x2 h1 h2 he => ?_, fun g o v hi => ?_, fun b' x hb' o => ?_, fun k hk => ?_, hw.tfree, fun k hk b' x hb' => ?_, hw.tinj⟩
  · obtain ⟨y, hy⟩ := some_ _ _ hb'
    exact hw.lt _ _ hy
  · by_cases e : b' = b
    · subst e
      have : x = es' := by simpa [AH.set, eq_comm] using hb'
      subst this
      refine ⟨cs', hc, hs, hl, hle, fun i hi j hj => ?_⟩
      obtain ⟨v, h1, h2⟩ := hv i hi j hj
      exact ⟨v, h1, h2.ext hx⟩
    · have hb2 : h.cell b' = some x := by simpa [AH.set, e] using hb'
      obtain ⟨c2, h1, h2, h3, h4, h5⟩ := hw.live b' x hb2
      refine ⟨c2, h1.only ho (fun e' => e (hw.inj _ _ _ _ hb2 hb e')), h2, h3, h4, fun i hi j hj => ?_⟩
      obtain ⟨v, h6, h7⟩ := h5 i hi j hj
      exact ⟨v, h6, h7.ext hx⟩
  · obtain ⟨y1, hy1⟩ := some_ _ _ h1
    obtain ⟨y2, hy2⟩ := some_ _ _ h2
    exact hw.inj _ _ _ _ hy1 hy2 he
  · have hne : g ≠ m.blk b := fun e => by
      subst e
      have := hw.sep b es hb o
      rw [this] at hi
      cases hi
    rw [World.cell?_of_block (w := w) (ho.block _ (hw.imm_lt hi) hne)]
    exact hw.imm g o v hi
  · obtain ⟨y, hy⟩ := some_ _ _ hb'
    exact hw.sep _ _ hy o
  · obtain ⟨xs, hxs⟩ := hw.tip k hk
    exact ⟨xs, own_only hxs ho (fun g hg e => by
      simp at hg
      exact hw.tblk k hk b es hb (by rw [hg]; exact e.symm))⟩
  · obtain ⟨y, hy⟩ := some_ _ _ hb'
    exact hw.tblk k hk _ _ hy
end
end Go.Proofs.Ytacocolcighomaa
