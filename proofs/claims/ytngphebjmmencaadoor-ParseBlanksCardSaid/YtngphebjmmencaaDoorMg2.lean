/- What ties the plain model to the machine's memory: 'VR' (a value), 'WR' (a world). No walk here. Each operation that is no call does in memory what it does in the plain model. Each operation that is no call does in memory what it does in the plain model (further). Each operation that is no call does in memory what it does in the plain model: those that only compute. Each operation that is no call does in memory what it does in the plain model: indices, slices, comparisons. Each operation that is no call does in memory what it does in the plain model: lengths, parts of slices, comparisons, arithmetic. -/
import Derived.Test.YtngphebjmmencaaDoorMg1
import Derived.Lib.LaidTab
import Derived.Lib.ItoaNum
import Derived.Laws.StructEq
import Derived.WalkSpells
import Derived.Laws.CopyRow
import Derived.Lib.SliceRun
import Derived.Laws.Pointers
import Derived.WideLaws
import Derived.Great.FillDense
namespace Go.Proofs.YtngphebjmmencaaDoor
set_option linter.unusedSimpArgs false
set_option linter.unusedVariables false
open Go Go.RowKit

/-- where the model's blocks lie; which cells never turn again; where a slice may grow -/
structure Mm where
  base : Nat
  blk : Nat → Nat
  bt : Nat → TypeId
  bsz : Nat → Nat
  imm : Nat → Nat → Option Value
  tg : Nat → Nat
  tc : Nat → Nat
  te : Nat → TypeId

inductive VR (P : Program) (m : Mm) (h : AH) : AV → Value → Prop
  | junk (v : Value) : VR P m h .junk v
  | bool (b : Bool) : VR P m h (.bool b) (.bool b)
  | int (k : IntKind) (n : Int) : VR P m h (.int k n) (.int k n)
  | str (l : List UInt8) : VR P m h (.str l) (.string ⟨l.toArray⟩)
  | nilp : VR P m h .nilp (.pointer none)
  | ptr (b i off : Nat) (hb : b < h.n) : VR P m h (.ptr b i off) (.pointer (some ⟨m.blk b, i * P.cellsOf (m.bt b) + off, none⟩))
  | tptr (t : TypeId) (b : Nat) (hb : b < h.n) (ht : m.bt b = t) : VR P m h (.tptr t b) (.pointer (some ⟨m.blk b, 0, none⟩))
  | ip (e : List AV) (off g o : Nat) (F : Nat → Value) (hi : ∀ j, j < e.length → m.imm g (o + j) = some (F j)) (hv : ∀ j (hj : j < e.length), VR P m h e[j] (F j)) : VR P m h (.ip e off) (.pointer (some ⟨g, o + off, none⟩))
  | nils : VR P m h .nils (.slice none 0 0)
  | isl (id : Option Nat) (e : TypeId) (es : List (List AV)) (g o cap : Nat) (F : Nat → Nat → Value) (hl : ∀ r ∈ es, r.length = P.cellsOf e)
      (hi : ∀ i, i < es.length → ∀ j, j < P.cellsOf e → m.imm g (o + (i * P.cellsOf e + j)) = some (F i j)) (hv : ∀ i (hi : i < es.length) j (hj : j < es[i].length), VR P m h es[i][j] (F i j)) (hc : es.length ≤ cap)
      (ht : ∀ k, id = some k → k < h.ids ∧ m.te k = e ∧ es.length ≤ h.hw k ∧ (es.length = h.hw k → g = m.tg k ∧ o = 0 ∧ cap = m.tc k)) : VR P m h (.isl id e es) (.slice (some ⟨g, o, none⟩) es.length cap)
  | isl0 (e : TypeId) (a : Addr) (cap : Nat) : VR P m h (.isl none e []) (.slice (some a) 0 cap)
  | msl (b o n : Nat) (e : TypeId) (cap : Nat) (hb : b < h.n) (he : m.bt b = e) (hcap : (o + cap) * P.cellsOf e = m.bsz b) (hn : n ≤ cap) (hmx : cap ≤ maxLen) : VR P m h (.msl b o n e) (.slice (some ⟨m.blk b, o * P.cellsOf e, none⟩) n cap)
  | fn (g : FuncId) (l c : List AV) (l' c' : List Value) (h1 : l'.length = l.length) (h2 : c'.length = c.length) (h3 : ∀ j (hj : j < l.length) (hj' : j < l'.length), VR P m h l[j] l'[j]) (h4 : ∀ j (hj : j < c.length) (hj' : j < c'.length), VR P m h c[j] c'[j]) :
      VR P m h (.fn g l c) (.func (.func g) l'.toArray c'.toArray)
  | nilf : VR P m h .nilf .nilFunc
  | nili : VR P m h .nili .nilIface
  | iface (t : TypeId) (v : AV) (v' : Value) (h1 : VR P m h v v') : VR P m h (.iface t v) (.iface t v')
  | agg (l : List AV) (l' : List Value) (h1 : l'.length = l.length) (h3 : ∀ j (hj : j < l.length) (hj' : j < l'.length), VR P m h l[j] l'[j]) : VR P m h (.agg l) (.agg l'.toArray)
  | tup (l : List AV) (l' : List Value) (h1 : l'.length = l.length) (h3 : ∀ j (hj : j < l.length) (hj' : j < l'.length), VR P m h l[j] l'[j]) : VR P m h (.tup l) (.tuple l'.toArray)

def VRs (P : Program) (m : Mm) (h : AH) (l : List AV) (l' : List Value) : Prop := l'.length = l.length ∧ ∀ j (hj : j < l.length) (hj' : j < l'.length), VR P m h l[j] l'[j]

/-- tables of the library's that a program has, and that nobody turns -/
def keptA (P : Program) : List (String × IntKind × List Int) :=
  if (P.globalNamed ("internal" ++ String.singleton (Char.ofNat 47) ++ "strconv.uint64pow10")).isSome then [("internal" ++ String.singleton (Char.ofNat 47) ++ "strconv.uint64pow10", .u64, Lib.pow10Tab)] else []
/-- errors of the library's that a program has, and that nobody turns -/
def errsA (P : Program) : List String := ["strconv.ErrSyntax", "strconv.ErrRange"].filter fun n => (P.globalNamed n).isSome
structure GoodW (P : Program) (b : Nat) (w : World) : Prop where
  tabs : ∀ q ∈ keptA P, Lib.TabIs P w q.1 q.2.1 q.2.2 ∧ ∀ g, P.globalNamed q.1 = some g → g < b
  errs : ∀ n ∈ errsA P, (∃ tp p, w.var? P n = some #[.iface tp p]) ∧ ∀ g, P.globalNamed n = some g → g < b
theorem var_keep {P : Program} {n : String} {b : Nat} {w w' : World} (h2 : ∀ g, P.globalNamed n = some g → g < b) (hb : b ≤ w.heap.size) (h : ∀ g, g < w.heap.size → g < b → w'.heap[g]? = w.heap[g]?) : w'.var? P n = w.var? P n := by
  unfold World.var?
  rcases hn : P.globalNamed n with _ | g
  · rfl
  · have hlt := h2 g hn
    simp only [Option.bind_some]
    rw [h g (by omega) hlt]
theorem GoodW.keep {P : Program} {b : Nat} {w w' : World} (hg : GoodW P b w) (hb : b ≤ w.heap.size) (h : ∀ g, g < w.heap.size → g < b → w'.heap[g]? = w.heap[g]?) : GoodW P b w' := by
  refine ⟨fun q hq => ?_, fun n hn => ?_⟩
  · obtain ⟨h1, h2⟩ := hg.tabs q hq
    refine ⟨?_, h2⟩
    unfold Lib.TabIs at h1 ⊢
    rw [var_keep h2 hb h]
    exact h1
  · obtain ⟨h1, h2⟩ := hg.errs n hn
    refine ⟨?_, h2⟩
    rw [var_keep h2 hb h]
    exact h1
structure WR (P : Program) (m : Mm) (h : AH) (w : World) : Prop where
  size : m.base ≤ w.heap.size
  lt : ∀ b es, h.cell b = some es → b < h.n ∧ m.base ≤ m.blk b
  live : ∀ b es, h.cell b = some es → ∃ cs, Blk w (m.blk b) (m.bt b) cs ∧ cs.size = m.bsz b ∧ (∀ r ∈ es, r.length = P.cellsOf (m.bt b)) ∧ es.length * P.cellsOf (m.bt b) ≤ cs.size ∧
    ∀ i (hi : i < es.length) j (hj : j < es[i].length), ∃ v, cs[i * P.cellsOf (m.bt b) + j]? = some v ∧ VR P m h es[i][j] v
  inj : ∀ b b' es es', h.cell b = some es → h.cell b' = some es' → m.blk b = m.blk b' → b = b'
  imm : ∀ g o v, m.imm g o = some v → w.cell? ⟨g, o, none⟩ = some v
  sep : ∀ b es, h.cell b = some es → ∀ o, m.imm (m.blk b) o = none
  tip : ∀ k, k < h.ids → ∃ xs, w.ownsRow m.base (m.te k) (P.cellsOf (m.te k)) (.slice (some ⟨m.tg k, 0, none⟩) (h.hw k) (m.tc k)) (h.hw k) xs
  tfree : ∀ k, k < h.ids → ∀ o, h.hw k * P.cellsOf (m.te k) ≤ o → m.imm (m.tg k) o = none
  tblk : ∀ k, k < h.ids → ∀ b es, h.cell b = some es → m.blk b ≠ m.tg k
  tinj : ∀ k k', k < h.ids → k' < h.ids → m.tg k = m.tg k' → k = k'
  good : GoodW P m.base w

structure Ext (m : Mm) (h : AH) (m' : Mm) (h' : AH) : Prop where
  base : m'.base = m.base
  n : h.n ≤ h'.n
  ids : h.ids ≤ h'.ids
  blk : ∀ b, b < h.n → m'.blk b = m.blk b ∧ m'.bt b = m.bt b ∧ m'.bsz b = m.bsz b
  imm : ∀ g o v, m.imm g o = some v → m'.imm g o = some v
  te : ∀ k, k < h.ids → m'.te k = m.te k ∧ h.hw k ≤ h'.hw k ∧ (h'.hw k = h.hw k → m'.tg k = m.tg k ∧ m'.tc k = m.tc k)

theorem Ext.refl (m : Mm) (h : AH) : Ext m h m h := ⟨rfl, Nat.le_refl _, Nat.le_refl _, fun _ _ => ⟨rfl, rfl, rfl⟩, fun _ _ _ h => h, fun _ _ => ⟨rfl, Nat.le_refl _, fun _ => ⟨rfl, rfl⟩⟩⟩
theorem Ext.trans {m1 m2 m3 : Mm} {h1 h2 h3 : AH} (x : Ext m1 h1 m2 h2) (y : Ext m2 h2 m3 h3) : Ext m1 h1 m3 h3 := by
  refine ⟨y.base.trans x.base, Nat.le_trans x.n y.n, Nat.le_trans x.ids y.ids, fun b hb => ?_, fun g o v h => y.imm g o v (x.imm g o v h), fun k hk => ?_⟩
  · obtain ⟨a1, a2, a3⟩ := x.blk b hb
    obtain ⟨b1, b2, b3⟩ := y.blk b (Nat.lt_of_lt_of_le hb x.n)
    exact ⟨b1.trans a1, b2.trans a2, b3.trans a3⟩
  · obtain ⟨a1, a2, a3⟩ := x.te k hk
    obtain ⟨b1, b2, b3⟩ := y.te k (Nat.lt_of_lt_of_le hk x.ids)
    refine ⟨b1.trans a1, Nat.le_trans a2 b2, fun e => ?_⟩
    obtain ⟨c1, c2⟩ := a3 (by omega)
    obtain ⟨d1, d2⟩ := b3 (by omega)
    exact ⟨d1.trans c1, d2.trans c2⟩

section
variable {P : Program} {m m' : Mm} {h h' : AH} {w w' : World}
theorem VR.ext (x : Ext m h m' h') {v : AV} {u : Value} (r : VR P m h v u) : VR P m' h' v u := by
  induction r with
  | junk v => exact .junk v
  | bool b => exact .bool b
  | int k n => exact .int k n
  | str l => exact .str l
  | nilp => exact .nilp
  | ptr b i off hb =>
    obtain ⟨a1, a2, a3⟩ := x.blk b hb
    have := VR.ptr (P := P) (m := m') (h := h') b i off (Nat.lt_of_lt_of_le hb x.n)
    rwa [a1, a2] at this
  | tptr t b hb ht =>
    obtain ⟨a1, a2, a3⟩ := x.blk b hb
    have := VR.tptr (P := P) (m := m') (h := h') t b (Nat.lt_of_lt_of_le hb x.n) (a2.trans ht)
    rwa [a1] at this
  | ip e off g o F hi hv ih => exact .ip e off g o F (fun j hj => x.imm _ _ _ (hi j hj)) ih
  | nils => exact .nils
  | isl id e es g o cap F hl hi hv hc ht ih =>
    refine .isl id e es g o cap F hl (fun i hi' j hj => x.imm _ _ _ (hi i hi' j hj)) ih hc (fun k hk => ?_)
    obtain ⟨h1, h2, h3, h4⟩ := ht k hk
    obtain ⟨t1, t2, t3⟩ := x.te k h1
    refine ⟨Nat.lt_of_lt_of_le h1 x.ids, t1.trans h2, Nat.le_trans h3 t2, fun e' => ?_⟩
    obtain ⟨c1, c2, c3⟩ := h4 (by omega)
    obtain ⟨d1, d2⟩ := t3 (by omega)
    exact ⟨c1.trans d1.symm, c2, c3.trans d2.symm⟩
  | isl0 e a cap => exact .isl0 e a cap
  | msl b o n e cap hb he hcap hn hmx =>
    obtain ⟨a1, a2, a3⟩ := x.blk b hb
    have := VR.msl (P := P) (m := m') (h := h') b o n e cap (Nat.lt_of_lt_of_le hb x.n) (a2.trans he) (hcap.trans a3.symm) hn hmx
    rwa [a1] at this
  | fn g l c l' c' h1 h2 h3 h4 ih1 ih2 => exact .fn g l c l' c' h1 h2 ih1 ih2
  | nilf => exact .nilf
  | nili => exact .nili
  | iface t v v' h1 ih => exact .iface t v v' ih
  | agg l l' h1 h3 ih => exact .agg l l' h1 ih
  | tup l l' h1 h3 ih => exact .tup l l' h1 ih
theorem VRs.ext (x : Ext m h m' h') {l : List AV} {l' : List Value} (r : VRs P m h l l') : VRs P m' h' l l' := ⟨r.1, fun j hj hj' => (r.2 j hj hj').ext x⟩
theorem VR.untag {v : AV} {u : Value} (r : VR P m h v u) : ∃ v', VR P m h v' u ∧ (∀ t b, v' ≠ .tptr t b) ∧ (∀ agg n, loadA agg n h v' = loadA agg n h v) ∧ ∀ n x, storeA n h v' x = storeA n h v x := by
  by_cases hv : ∃ t b, v = .tptr t b
  · obtain ⟨t, b, rfl⟩ := hv
    cases r with
    | tptr _ _ hb ht =>
      refine ⟨.ptr b 0 0, ?_, (fun _ _ e => nomatch e), fun _ _ => rfl, fun _ _ => rfl⟩
      have := VR.ptr (P := P) (m := m) (h := h) b 0 0 hb
      simpa using this
  · exact ⟨v, r, fun t b e => hv ⟨t, b, e⟩, fun _ _ => rfl, fun _ _ => rfl⟩
theorem VR.und : VR P m h (.tup []) undef := VR.tup [] [] rfl (fun j hj => by simp at hj)
theorem VRs.nil : VRs P m h [] [] := ⟨rfl, fun j hj => by simp at hj⟩
theorem VRs.cons {a : AV} {b : Value} {l : List AV} {l' : List Value} (h1 : VR P m h a b) (h2 : VRs P m h l l') : VRs P m h (a :: l) (b :: l') := by
  refine ⟨by simp [h2.1], fun j hj hj' => ?_⟩
  cases j with
  | zero => exact h1
  | succ j => exact h2.2 j (by simpa using hj) (by simpa using hj')
theorem VRs.append {l1 l2 : List AV} {r1 r2 : List Value} (h1 : VRs P m h l1 r1) (h2 : VRs P m h l2 r2) : VRs P m h (l1 ++ l2) (r1 ++ r2) := by
  refine ⟨by simp [h1.1, h2.1], fun j hj hj' => ?_⟩
  by_cases hlt : j < l1.length
  · rw [List.getElem_append_left hlt, List.getElem_append_left (by rw [h1.1]; exact hlt)]
    exact h1.2 j hlt _
  · rw [List.getElem_append_right (by omega), List.getElem_append_right (by rw [h1.1]; omega)]
    have e := h1.1
    simp only [e]
    exact h2.2 _ _ _
theorem VRs.map {α : Type} {f : α → AV} {g : α → Value} {l : List α} (hf : ∀ x ∈ l, VR P m h (f x) (g x)) : VRs P m h (l.map f) (l.map g) := by
  refine ⟨by simp, fun j hj hj' => ?_⟩
  simp only [List.getElem_map]
  exact hf _ (List.getElem_mem _)
theorem VRs.get? {l : List AV} {l' : List Value} (r : VRs P m h l l') {j : Nat} {v : AV} (hv : l[j]? = some v) : ∃ u, l'[j]? = some u ∧ VR P m h v u := by
  obtain ⟨hj, rfl⟩ := List.getElem?_eq_some_iff.1 hv
  have hj' : j < l'.length := by rw [r.1]; exact hj
  exact ⟨l'[j], List.getElem?_eq_getElem hj', r.2 j hj hj'⟩

theorem WR.below (hw : WR P m h w) {b : Nat} {es : List (List AV)} (hb : h.cell b = some es) : m.blk b < w.heap.size := by
  obtain ⟨cs, hc, _⟩ := hw.live b es hb
  exact hc.lt
theorem WR.imm_lt (hw : WR P m h w) {g o : Nat} {v : Value} (hi : m.imm g o = some v) : g < w.heap.size := by
  have := hw.imm g o v hi
  exact lt_of_cell (w := w) (p := ⟨g, o, none⟩) (by rw [this]; simp)
theorem WR.tip_lt (hw : WR P m h w) {k : Nat} (hk : k < h.ids) : m.base ≤ m.tg k ∧ m.tg k < w.heap.size := by
  obtain ⟨xs, hx⟩ := hw.tip k hk
  exact hx.lt _ rfl

/-- blocks that nothing here speaks of may turn, and new ones come -/
theorem WR.only {S : Nat → Prop} (hw : WR P m h w) (ho : Only S w w') (h1 : ∀ b es, h.cell b = some es → ¬ S (m.blk b)) (h2 : ∀ g o v, m.imm g o = some v → ¬ S g) (h3 : ∀ k, k < h.ids → ¬ S (m.tg k)) (h4 : ∀ g, g < m.base → ¬ S g) : WR P m h w' := by
  refine ⟨Nat.le_trans hw.size ho.size, hw.lt, fun b es hb => ?_, hw.inj, fun g o v hi => ?_, hw.sep, fun k hk => ?_, hw.tfree, hw.tblk, hw.tinj, hw.good.keep hw.size fun g hg hb => ho.block g hg (h4 g hb)⟩
  · obtain ⟨cs, hc, hr⟩ := hw.live b es hb
    exact ⟨cs, hc.only ho (h1 b es hb), hr⟩
  · rw [World.cell?_of_block (w := w) (ho.block _ (hw.imm_lt hi) (h2 g o v hi))]
    exact hw.imm g o v hi
  · obtain ⟨xs, hx⟩ := hw.tip k hk
    exact ⟨xs, own_only hx ho (fun g hg => by
      simp at hg
      subst hg
      exact h3 k hk)⟩
theorem WR.new (hw : WR P m h w) (ho : New w w') : WR P m h w' := hw.only ho (fun _ _ _ => id) (fun _ _ _ _ => id) (fun _ _ => id) (fun _ _ => id)
theorem WR.drew (hw : WR P m h w) : WR P m h w.drew := hw.new (Only.refl _ _).drew

/-- the model's cells turn, the world does not: only what is asked -/
theorem WR.push (hw : WR P m h w) (w' : World) (e : TypeId) (es : List (List AV)) (cs : Array Value) (hn : New w w') (hbk : Blk w' w.heap.size e cs) (hs : es.length * P.cellsOf e ≤ cs.size) (hl : ∀ r ∈ es, r.length = P.cellsOf e)
    (hv : ∀ i (hi : i < es.length) j (hj : j < es[i].length), ∃ v, cs[i * P.cellsOf e + j]? = some v ∧ VR P m h es[i][j] v) :
    ∃ m', Ext m h m' (h.push es) ∧ WR P m' (h.push es) w' ∧ m'.blk h.n = w.heap.size ∧ m'.bt h.n = e ∧ m'.bsz h.n = cs.size := by
  refine ⟨{ m with blk := fun b => if b = h.n then w.heap.size else m.blk b, bt := fun b => if b = h.n then e else m.bt b, bsz := fun b => if b = h.n then cs.size else m.bsz b }, ?_, ?_, by simp, by simp, by simp⟩
  · exact ⟨rfl, by simp [AH.push], by simp [AH.push], fun b hb => by simp [show b ≠ h.n by omega], fun _ _ _ h => h, fun k hk => ⟨rfl, Nat.le_refl _, fun _ => ⟨rfl, rfl⟩⟩⟩
  · have hx : Ext m h { m with blk := fun b => if b = h.n then w.heap.size else m.blk b, bt := fun b => if b = h.n then e else m.bt b, bsz := fun b => if b = h.n then cs.size else m.bsz b } (h.push es) :=
      ⟨rfl, by simp [AH.push], by simp [AH.push], fun b hb => by simp [show b ≠ h.n by omega], fun _ _ _ h => h, fun k hk => ⟨rfl, Nat.le_refl _, fun _ => ⟨rfl, rfl⟩⟩⟩
    have hw1 := hw.new hn
    have old : ∀ b x, (h.push es).cell b = some x → b ≠ h.n → h.cell b = some x := by
      intro b x hb hne
      simpa [AH.push, hne] using hb
    have new : ∀ b x, (h.push es).cell b = some x → b = h.n → x = es := by
      intro b x hb he
      subst he
      simp [AH.push] at hb
      exact hb.symm
    refine ⟨hw1.size, fun b x hb => ?_, fun b x hb => ?_, fun b b' x x' hb hb' he => ?_, hw1.imm, fun b x hb o => ?_, hw1.tip, hw1.tfree, fun k hk b x hb => ?_, hw1.tinj, hw1.good⟩
    · by_cases hbn : b = h.n
      · subst hbn
        exact ⟨by simp [AH.push], by simpa using hw.size⟩
      · have := hw.lt b x (old b x hb hbn)
        exact ⟨by simp [AH.push]; omega, by simpa [hbn] using this.2⟩
    · by_cases hbn : b = h.n
      · subst hbn
        have := new _ _ hb rfl
        subst this
        refine ⟨cs, by simpa using hbk, by simp, by simpa using hl, by simpa using hs, fun i hi j hj => ?_⟩
        obtain ⟨v, h1, h2⟩ := hv i hi j hj
        exact ⟨v, by simpa using h1, h2.ext hx⟩
      · obtain ⟨cs', h1, h2, h3, h4, h5⟩ := hw1.live b x (old b x hb hbn)
        refine ⟨cs', by simpa [hbn] using h1, by simpa [hbn] using h2, by simpa [hbn] using h3, by simpa [hbn] using h4, fun i hi j hj => ?_⟩
        obtain ⟨v, h6, h7⟩ := h5 i hi j hj
        exact ⟨v, by simpa [hbn] using h6, h7.ext hx⟩
    · by_cases h1 : b = h.n <;> by_cases h2 : b' = h.n
      · omega
      · have := hw.below (old _ _ hb' h2)
        simp [h1, h2] at he
        omega
      · have := hw.below (old _ _ hb h1)
        simp [h1, h2] at he
        omega
      · simp [h1, h2] at he
        exact hw.inj b b' x x' (old _ _ hb h1) (old _ _ hb' h2) he
    · by_cases h1 : b = h.n
      · simp only [h1, if_true]
        rcases hi : m.imm w.heap.size o with _ | v
        · rfl
        · have := hw.imm_lt hi
          omega
      · simp only [h1, if_false]
        exact hw.sep b x (old _ _ hb h1) o
    · by_cases h1 : b = h.n
      · have := hw.tip_lt hk
        simp [h1]
        omega
      · simp only [h1, if_false]
        exact hw.tblk k hk b x (old _ _ hb h1)

/-- a block turns, the others do not -/
theorem WR.turn (hw : WR P m h w) {b : Nat} {es es' : List (List AV)} (hb : h.cell b = some es) (ho : Only (fun k => k = m.blk b) w w') (cs' : Array Value) (hc : Blk w' (m.blk b) (m.bt b) cs') (hs : cs'.size = m.bsz b)
    (hl : ∀ r ∈ es', r.length = P.cellsOf (m.bt b)) (hle : es'.length * P.cellsOf (m.bt b) ≤ cs'.size)
    (hv : ∀ i (hi : i < es'.length) j (hj : j < es'[i].length), ∃ v, cs'[i * P.cellsOf (m.bt b) + j]? = some v ∧ VR P m h es'[i][j] v) :
    Ext m h m (h.set b (some es')) ∧ WR P m (h.set b (some es')) w' := by
  have hx : Ext m h m (h.set b (some es')) := ⟨rfl, Nat.le_refl _, Nat.le_refl _, fun _ _ => ⟨rfl, rfl, rfl⟩, fun _ _ _ h => h, fun _ _ => ⟨rfl, Nat.le_refl _, fun _ => ⟨rfl, rfl⟩⟩⟩
  refine ⟨hx, ?_⟩
  have some_ : ∀ b' x, (h.set b (some es')).cell b' = some x → ∃ y, h.cell b' = some y := by
    intro b' x hb'
    by_cases e : b' = b
    · subst e; exact ⟨_, hb⟩
    · exact ⟨x, by simpa [AH.set, e] using hb'⟩
  refine ⟨Nat.le_trans hw.size ho.size, fun b' x hb' => ?_, fun b' x hb' => ?_, fun b1 b2 x1 x2 h1 h2 he => ?_, fun g o v hi => ?_, fun b' x hb' o => ?_, fun k hk => ?_, hw.tfree, fun k hk b' x hb' => ?_, hw.tinj, hw.good.keep hw.size fun g hg hlt => ho.block g hg (fun e => by have := (hw.lt b es hb).2; omega)⟩
  · obtain ⟨y, hy⟩ := some_ _ _ hb'
    exact hw.lt _ _ hy
  · by_cases e : b' = b
    · subst e
      have : x = es' := by simpa [AH.set, eq_comm] using hb'
      subst this
      refine ⟨cs', hc, hs, hl, hle, fun i hi j hj => ?_⟩
      obtain ⟨v, h1, h2⟩ := hv i hi j hj
      exact ⟨v, h1, h2.ext hx⟩
    · have hb2 : h.cell b' = some x := by simpa [AH.set, e] using hb'
      obtain ⟨c2, h1, h2, h3, h4, h5⟩ := hw.live b' x hb2
      refine ⟨c2, h1.only ho (fun e' => e (hw.inj _ _ _ _ hb2 hb e')), h2, h3, h4, fun i hi j hj => ?_⟩
      obtain ⟨v, h6, h7⟩ := h5 i hi j hj
      exact ⟨v, h6, h7.ext hx⟩
  · obtain ⟨y1, hy1⟩ := some_ _ _ h1
    obtain ⟨y2, hy2⟩ := some_ _ _ h2
    exact hw.inj _ _ _ _ hy1 hy2 he
  · have hne : g ≠ m.blk b := fun e => by
      subst e
      have := hw.sep b es hb o
      rw [this] at hi
      cases hi
    rw [World.cell?_of_block (w := w) (ho.block _ (hw.imm_lt hi) hne)]
    exact hw.imm g o v hi
  · obtain ⟨y, hy⟩ := some_ _ _ hb'
    exact hw.sep _ _ hy o
  · obtain ⟨xs, hxs⟩ := hw.tip k hk
    exact ⟨xs, own_only hxs ho (fun g hg e => by
      simp at hg
      exact hw.tblk k hk b es hb (by rw [hg]; exact e.symm))⟩
  · obtain ⟨y, hy⟩ := some_ _ _ hb'
    exact hw.tblk k hk _ _ hy
end
end Go.Proofs.YtngphebjmmencaaDoor
namespace Go.Proofs.YtngphebjmmencaaDoor
set_option linter.unusedSimpArgs false
set_option linter.unusedVariables false
open Go Go.RowKit

structure TyOK (P : Program) : Prop where
  zero : ∀ t i v, t < P.types.size → P.info? t = some i → i.zero = some v → v.cells.size = i.size
  small : ∀ t i, t < P.types.size → P.info? t = some i → i.bytes ≤ 100000
  pos : ∀ t e, t < P.types.size → P.underlying t = some (.slice e) → 0 < P.cellsOf e

def TR (P : Program) (m : Mm) (h : AH) (t : List AV) (a : Array Value) : Prop := a.size = t.length ∧ ∀ i (hi : i < t.length), VR P m h t[i] (a.getD i undef)

/-- what an operation does -/
def OpR (P : Program) (m : Mm) (h : AH) (a : Act) (w : World) (o : Oper) (v : AV) (h' : AH) : Prop :=
  ∃ m' w' u, ((execOp a.eval o).run P w = .ok (.value u) w' ∨ ((execOp a.eval o).run P w = .ok .skip w' ∧ u = undef)) ∧ Ext m h m' h' ∧ WR P m' h' w' ∧ VR P m' h' v u ∧ Below m.base w w'

section
variable {P : Program} {m m' : Mm} {h h' : AH} {w w' : World} {t : List AV} {a : Act} {o : Oper}

theorem TR.ext (x : Ext m h m' h') {tm : Array Value} (r : TR P m h t tm) : TR P m' h' t tm := ⟨r.1, fun i hi => (r.2 i hi).ext x⟩
theorem TR.put (r : TR P m h t a.tmps) {v : AV} {u : Value} (hv : VR P m h v u) (d : Option Tmp) : TR P m h (putA t d v) (a.put d u).tmps := by
  cases d with
  | none => exact r
  | some d =>
    refine ⟨by simp [putA, Act.put, r.1], fun i hi => ?_⟩
    have hi' : i < t.length := by simpa [putA] using hi
    have e1 : (putA t (some d) v)[i] = if d = i then v else t[i] := by simp [putA, List.getElem_set]
    have e2 : (a.put (some d) u).tmps.getD i undef = if d = i then u else a.tmps.getD i undef := by
      have hs : i < a.tmps.size := by rw [r.1]; exact hi'
      simp [Act.put, Array.getD, hs, Array.getElem_setIfInBounds]
    rw [e1, e2]
    by_cases e : d = i
    · rw [if_pos e, if_pos e]
      exact hv
    · rw [if_neg e, if_neg e]
      exact r.2 i hi'
theorem TR.get (r : TR P m h t a.tmps) (i : Nat) : VR P m h (t.getD i .junk) (a.tmps.getD i undef) := by
  by_cases hi : i < t.length
  · have := r.2 i hi
    simpa [List.getD, hi] using this
  · rw [List.getD, List.getElem?_eq_none (by omega)]
    exact .junk _

theorem scalarA_sound (v : Value) : VR P m h (scalarA v) v := by
  unfold scalarA
  split
  · exact .bool _
  · exact .int _ _
  · rename_i s
    have := VR.str (P := P) (m := m) (h := h) s.data.toList
    simpa using this
  · exact .nilp
  · exact .nils
  · exact .nilf
  · exact .nili
  · exact .junk _
theorem constA_sound (v : Value) : VR P m h (constA v) v := by
  unfold constA
  split
  · rename_i cs
    have := VR.agg (P := P) (m := m) (h := h) (cs.toList.map scalarA) cs.toList (by simp) (fun j hj hj' => by simpa using scalarA_sound _)
    simpa using this
  · exact scalarA_sound v
theorem evA_sound (r : TR P m h t a.tmps) (x : Operand) : VR P m h (evA t x) (a.eval x) := by
  cases x with
  | tmp i => exact r.get i
  | const v => exact constA_sound v
  | global g => exact .junk _
  | func f => exact .fn f [] [] [] [] rfl rfl (fun j hj => by simp at hj) (fun j hj => by simp at hj)

theorem VR.one {v : AV} {u : Value} (r : VR P m h v u) (h1 : v.one = true) : u.oneCell' = true := by
  cases r <;> simp_all [AV.one, Value.oneCell']
theorem VR.cells {v : AV} {u : Value} (r : VR P m h v u) (h1 : v.cells.all AV.one = true) : VRs P m h v.cells u.cells.toList ∧ ∀ c ∈ u.cells.toList, c.oneCell' = true := by
  have key : v.one = true → u.cells = #[u] → v.cells = [v] → VRs P m h v.cells u.cells.toList ∧ ∀ c ∈ u.cells.toList, c.oneCell' = true := by
    intro hv hu hc
    rw [hu, hc]
    refine ⟨VRs.cons r VRs.nil, fun c hc => ?_⟩
    simp at hc
    subst hc
    exact r.one hv
  cases r with
  | junk v => simp [AV.cells, AV.one] at h1
  | tup l l' h2 h3 => simp [AV.cells, AV.one] at h1
  | agg l l' h2 h3 =>
    refine ⟨⟨by simpa [AV.cells, Value.cells] using h2, fun j hj hj' => h3 j hj (by simpa [Value.cells] using hj')⟩, fun c hc => ?_⟩
    simp [Value.cells] at hc
    obtain ⟨j, hj, rfl⟩ := List.getElem_of_mem hc
    have hjl : j < l.length := by omega
    simp only [AV.cells, List.all_eq_true] at h1
    exact (h3 j hjl hj).one (h1 _ (List.getElem_mem hjl))
  | _ => exact key rfl rfl rfl

theorem OpR.pure (hw : WR P m h w) {v : AV} {u : Value} (hr : (execOp a.eval o).run P w = .ok (.value u) w) (hv : VR P m h v u) : OpR P m h a w o v h :=
  ⟨m, w, u, .inl hr, Ext.refl _ _, hw, hv, Below.refl _ _⟩

theorem zeroA_sound (hT : TyOK P) {e : TypeId} {z : List AV} (hz : zeroA P e = some z) : ∃ i v, P.info? e = some i ∧ i.zero = some v ∧ z.length = P.cellsOf e ∧ v.cells.size = P.cellsOf e ∧ VRs P m h z v.cells.toList ∧ (zeroValue e).run P w = .ok v w := by
  unfold zeroA at hz
  split at hz
  case isFalse => cases hz
  rename_i hlt
  rcases hi : P.info? e with _ | i
  · simp [hi] at hz
  · rcases hv : i.zero with _ | v
    · simp [hi, hv] at hz
    · simp only [hi, hv, Option.bind_some, Option.map_some, Option.some.injEq] at hz
      have hs := hT.zero e i v hlt hi hv
      have hc : P.cellsOf e = i.size := by simp [Program.cellsOf, hi]
      have hr : VRs P m h (constA v).cells v.cells.toList := by
        unfold constA
        split
        · rename_i cs
          exact ⟨by simp [AV.cells, Value.cells], fun j hj hj' => by simpa [AV.cells, Value.cells] using scalarA_sound _⟩
        · rename_i hne
          have hs1 := scalarA_sound (P := P) (m := m) (h := h) v
          have e1 : (scalarA v).cells = [scalarA v] := by
            unfold scalarA
            split <;> rfl
          have e2 : v.cells = #[v] := by
            unfold Value.cells
            split
            · rename_i cs
              exact absurd rfl (hne cs)
            · rfl
          rw [e1, e2]
          exact VRs.cons hs1 VRs.nil
      rw [hz] at hr
      refine ⟨i, v, rfl, hv, ?_, by rw [hs, hc], hr, by simp [zeroValue, typeInfo, hi, hv]⟩
      have := hr.1
      rw [Array.length_toList, hs] at this
      rw [hc]
      exact this.symm

/-- a new row of cells, of the call's own -/
theorem push_row (hw : WR P m h w) (e : TypeId) {z : List AV} {u : Array Value} (hz : VRs P m h z u.toList) (hs : z.length = P.cellsOf e) :
    ∃ m', Ext m h m' (h.push [z]) ∧ WR P m' (h.push [z]) (w.alloc (.cells u e)) ∧ VR P m' (h.push [z]) (.ptr h.n 0 0) (.pointer (some ⟨w.heap.size, 0, none⟩)) := by
  have hu : u.size = z.length := by simpa using hz.1
  obtain ⟨m', h1, h2, h3, h4, h5⟩ := hw.push (w.alloc (.cells u e)) e [z] u ((Only.refl _ w).alloc _) (Blk.new w _ _) (by simp; omega) (by simp [hs]) (by
    intro i hi j hj
    have hi0 : i = 0 := by simpa using hi
    subst hi0
    have hj' : j < z.length := by simpa using hj
    refine ⟨u[j]'(by omega), by simp, ?_⟩
    have := hz.2 j hj' (by simp; omega)
    simpa using this)
  refine ⟨m', h1, h2, ?_⟩
  have := VR.ptr (P := P) (m := m') (h := h.push [z]) h.n 0 0 (by simp [AH.push])
  rw [h3] at this
  simpa using this

theorem op_alloc (hT : TyOK P) (hw : WR P m h w) (e : TypeId) (ho : o.op = .alloc e) {z : List AV} (hz : zeroA P e = some z) : OpR P m h a w o (.ptr h.n 0 0) (h.push [z]) := by
  obtain ⟨i, v, hi, hv, hl, hs, hr, hrun⟩ := zeroA_sound (m := m) (h := h) (w := w) hT hz
  obtain ⟨m', h1, h2, h3⟩ := push_row hw e hr hl
  refine ⟨m', _, _, .inl ?_, h1, h2, h3, (Below.refl _ _).alloc hw.size _⟩
  simp [execOp, ho, Instr.alloc, hrun, newVar, newRow]
theorem op_allocT (hT : TyOK P) (hw : WR P m h w) (e : TypeId) (ho : o.op = .alloc e) {z : List AV} (hz : zeroA P e = some z) : OpR P m h a w o (.tptr e h.n) (h.push [z]) := by
  obtain ⟨i, v, hi, hv, hl, hs, hr, hrun⟩ := zeroA_sound (m := m) (h := h) (w := w) hT hz
  have hu : v.cells.size = z.length := by simpa using hr.1
  obtain ⟨m', h1, h2, h3, h4, h5⟩ := hw.push (w.alloc (.cells v.cells e)) e [z] v.cells ((Only.refl _ w).alloc _) (Blk.new w _ _) (by simp; omega) (by simp [hl]) (by
    intro i hi j hj
    have hi0 : i = 0 := by simpa using hi
    subst hi0
    have hj' : j < z.length := by simpa using hj
    refine ⟨v.cells[j]'(by omega), by simp, ?_⟩
    have := hr.2 j hj' (by simp; omega)
    simpa using this)
  have hp := VR.tptr (P := P) (m := m') (h := h.push [z]) e h.n (by simp [AH.push]) h4
  rw [h3] at hp
  refine ⟨m', _, _, .inl ?_, h1, h2, hp, (Below.refl _ _).alloc hw.size _⟩
  simp [execOp, ho, Instr.alloc, hrun, newVar, newRow]
theorem op_box (hw : WR P m h w) (ht : TR P m h t a.tmps) (e : TypeId) (x : Operand) (ho : o.op = .box e x) (h1 : (evA t x).cells.all AV.one = true) (h2 : (evA t x).cells.length = szA P e) :
    OpR P m h a w o (.ptr h.n 0 0) (h.push [(evA t x).cells]) := by
  obtain ⟨h3, h4⟩ := (evA_sound ht x).cells h1
  obtain ⟨m', h5, h6, h7⟩ := push_row hw e h3 h2
  refine ⟨m', _, _, .inl ?_, h5, h6, h7, (Below.refl _ _).alloc hw.size _⟩
  simp [execOp, ho, Instr.box, newVar, newRow]

theorem op_boxT (hw : WR P m h w) (ht : TR P m h t a.tmps) (e : TypeId) (x : Operand) (ho : o.op = .box e x) (h1 : (evA t x).cells.all AV.one = true) (h2 : (evA t x).cells.length = szA P e) :
    OpR P m h a w o (.tptr e h.n) (h.push [(evA t x).cells]) := by
  obtain ⟨h3, h4⟩ := (evA_sound ht x).cells h1
  have hu : (a.eval x).cells.size = (evA t x).cells.length := by simpa using h3.1
  have h2 : (evA t x).cells.length = P.cellsOf e := h2
  obtain ⟨m', k1, k2, k3, k4, k5⟩ := hw.push (w.alloc (.cells (a.eval x).cells e)) e [(evA t x).cells] (a.eval x).cells ((Only.refl _ w).alloc _) (Blk.new w _ _) (by simp; omega) (by simp [h2]) (by
    intro i hi j hj
    have hi0 : i = 0 := by simpa using hi
    subst hi0
    have hj' : j < (evA t x).cells.length := by simpa using hj
    refine ⟨(a.eval x).cells[j]'(by omega), by simp, ?_⟩
    have := h3.2 j hj' (by simp; omega)
    simpa using this)
  have hp := VR.tptr (P := P) (m := m') (h := h.push [(evA t x).cells]) e h.n (by simp [AH.push]) k4
  rw [k3] at hp
  refine ⟨m', _, _, .inl ?_, k1, k2, hp, (Below.refl _ _).alloc hw.size _⟩
  simp [execOp, ho, Instr.box, newVar, newRow]

theorem aggA_run (ty : TypeId) {d : TypeDesc} (hd : P.underlying ty = some d) : (isAgg ty).run P w = .ok (aggA P ty) w := by
  unfold isAgg aggA
  simp only [Sem.run_bind, run_underlying hd, Result.andThen_ok, hd]
  cases d <;> simp

/-- the cells that an address leads to -/
theorem row_ptr (hw : WR P m h w) {b i : Nat} {e : List AV} (hr : h.row b i = some e) : ∃ F : Nat → Value, ∀ j (hj : j < e.length), w.cell? ⟨m.blk b, i * P.cellsOf (m.bt b) + j, none⟩ = some (F j) ∧ VR P m h e[j] (F j) := by
  unfold AH.row at hr
  rcases hc : h.cell b with _ | es
  · simp [hc] at hr
  · simp only [hc, Option.bind_some] at hr
    obtain ⟨hi, rfl⟩ := List.getElem?_eq_some_iff.1 hr
    obtain ⟨cs, h1, h2, h3, h4, h5⟩ := hw.live b es hc
    refine ⟨fun j => (cs[i * P.cellsOf (m.bt b) + j]?).getD undef, fun j hj => ?_⟩
    obtain ⟨v, h6, h7⟩ := h5 i hi j hj
    exact ⟨by rw [h1.cell]; simp [h6], by simpa [h6] using h7⟩

theorem ld_sound (ty : TypeId) {d : TypeDesc} (hd : P.underlying ty = some d) (hi : P.info? ty ≠ none) (g o : Nat) (off : Nat) (e : List AV) (F : Nat → Value)
    (hF : ∀ j (hj : j < e.length), w.cell? ⟨g, o + j, none⟩ = some (F j) ∧ VR P m h e[j] (F j)) {v : AV} (hv : ldA (aggA P ty) (szA P ty) e off = some v) :
    ∃ u, (loadVar ty ⟨g, o + off, none⟩).run P w = .ok u w ∧ VR P m h v u := by
  unfold ldA at hv
  unfold loadVar
  simp only [Sem.run_bind, aggA_run ty hd, Result.andThen_ok]
  cases hag : aggA P ty
  · simp only [hag, Bool.false_eq_true, if_false] at hv ⊢
    obtain ⟨hj, rfl⟩ := List.getElem?_eq_some_iff.1 hv
    obtain ⟨h1, h2⟩ := hF off hj
    exact ⟨F off, by simp [h1], h2⟩
  · simp only [hag, if_true] at hv ⊢
    split at hv
    · rename_i hle
      injection hv with hv
      subst hv
      obtain ⟨i, hi⟩ := Option.ne_none_iff_exists'.1 hi
      have hsz : i.size = szA P ty := by simp [szA, Program.cellsOf, hi]
      have hl := run_loadCells (P := P) w ⟨g, o + off, none⟩ (szA P ty) (fun j => F (off + j)) (fun j hj => by
        rw [Addr.add_lit]
        have := (hF (off + j) (by omega)).1
        rwa [Nat.add_assoc])
      refine ⟨.agg ((List.range (szA P ty)).map fun j => F (off + j)).toArray, ?_, ?_⟩
      · simp [sizeOf, typeInfo, hi, hsz, hl]
      · refine .agg _ _ (by simp; omega) (fun j hj hj' => ?_)
        simp only [List.getElem_map, List.getElem_range]
        have hj2 : j < szA P ty := by simpa using hj'
        have := (hF (off + j) (by omega)).2
        simpa [List.getElem_take, List.getElem_drop] using this
    · cases hv

theorem op_load (hw : WR P m h w) (ht : TR P m h t a.tmps) (ty : TypeId) (x : Operand) (ho : o.op = .load ty x) {d : TypeDesc} (hd : P.underlying ty = some d) (hi : P.info? ty ≠ none) {v : AV}
    (hv : loadA (aggA P ty) (szA P ty) h (evA t x) = some v) : OpR P m h a w o v h := by
  have hx := evA_sound ht x
  have key : ∃ u, (Instr.loadAt ty (a.eval x)).run P w = .ok u w ∧ VR P m h v u := by
    revert hx hv
    generalize a.eval x = ax
    generalize evA t x = ex
    intro hv hx
    obtain ⟨ex', hx', hne, hl, _⟩ := hx.untag
    rw [← hl] at hv
    cases hx' with
    | tptr t b _ _ => exact absurd rfl (hne t b)
    | ptr b i off hb =>
      simp only [loadA] at hv
      rcases hr : h.row b i with _ | e
      · simp [hr] at hv
      · simp only [hr, Option.bind_some] at hv
        obtain ⟨F, hF⟩ := row_ptr hw hr
        obtain ⟨u, h1, h2⟩ := ld_sound (w := w) ty hd hi (m.blk b) (i * P.cellsOf (m.bt b)) off e F hF hv
        exact ⟨u, by simp [Instr.loadAt, Instr.sureAddr, h1], h2⟩
    | ip e off g o' F hi' hv' =>
      simp only [loadA] at hv
      obtain ⟨u, h1, h2⟩ := ld_sound (w := w) (h := h) (m := m) ty hd hi g o' off e F (fun j hj => ⟨hw.imm _ _ _ (hi' j hj), hv' j hj⟩) hv
      exact ⟨u, by simp [Instr.loadAt, Instr.sureAddr, h1], h2⟩
    | _ => simp [loadA] at hv
  obtain ⟨u, h1, h2⟩ := key
  exact OpR.pure hw (by simp [execOp, ho, h1]) h2
end
end Go.Proofs.YtngphebjmmencaaDoor
namespace Go.Proofs.YtngphebjmmencaaDoor
set_option linter.unusedSimpArgs false
set_option linter.unusedVariables false
open Go Go.RowKit

theorem seg_get {α : Type} (l cs : List α) (o : Nat) (h : o + cs.length ≤ l.length) (j : Nat) :
    (l.take o ++ cs ++ l.drop (o + cs.length))[j]? = if o ≤ j ∧ j < o + cs.length then cs[j - o]? else l[j]? := by
  by_cases h1 : j < o
  · rw [if_neg (by omega), List.append_assoc, List.getElem?_append_left (by simp; omega)]
    simp [h1]
  · by_cases h2 : j < o + cs.length
    · rw [if_pos (by omega), List.append_assoc, List.getElem?_append_right (by simp; omega), List.getElem?_append_left (by simp; omega)]
      congr 1
      simp
      omega
    · rw [if_neg (by omega), List.getElem?_append_right (by simp; omega)]
      rw [List.getElem?_drop]
      congr 1
      simp
      omega

theorem le_mul_of {i n s : Nat} (h : i < n) : i * s + s ≤ n * s := by
  have : (i + 1) * s ≤ n * s := Nat.mul_le_mul_right s h
  rw [Nat.add_mul] at this
  omega

section
variable {P : Program} {m m' : Mm} {h h' : AH} {w w' : World} {t : List AV} {a : Act} {o : Oper}

theorem op_store (hw : WR P m h w) (ht : TR P m h t a.tmps) (ty : TypeId) (x y : Operand) (ho : o.op = .store ty x y) (hi : P.info? ty ≠ none)
    (hv : storeA (szA P ty) h (evA t x) (evA t y) = some h') : OpR P m h a w o .junk h' := by
  have hx := evA_sound ht x
  have hy := evA_sound ht y
  obtain ⟨i0, hi⟩ := Option.ne_none_iff_exists'.1 hi
  have hsz : i0.size = szA P ty := by simp [szA, Program.cellsOf, hi]
  have key : ∃ w', (Instr.storeAt ty (a.eval x) (a.eval y)).run P w = .ok () w' ∧ Ext m h m h' ∧ WR P m h' w' ∧ Below m.base w w' := by
    revert hx hv
    generalize a.eval x = ax
    generalize evA t x = ex
    intro hv hx
    obtain ⟨ex', hx', hne, _, hl⟩ := hx.untag
    rw [← hl] at hv
    cases hx' with
    | tptr t b _ _ => exact absurd rfl (hne t b)
    | ptr b i off hb =>
      simp only [storeA] at hv
      rcases hc : h.cell b with _ | es
      · simp [hc] at hv
      · rcases hr : es[i]? with _ | e
        · simp [hc, hr] at hv
        · simp only [hc, hr, Option.bind_some] at hv
          split at hv
          · rename_i hcond
            obtain ⟨h1, h2, h3⟩ := hcond
            injection hv with hv
            subst hv
            obtain ⟨hc1, hc2⟩ := hy.cells h1
            obtain ⟨cs, hb1, hb2, hb3, hb4, hb5⟩ := hw.live b es hc
            obtain ⟨hie, hre⟩ := List.getElem?_eq_some_iff.1 hr
            have hes : e.length = P.cellsOf (m.bt b) := by rw [← hre]; exact hb3 _ (List.getElem_mem hie)
            generalize hS : P.cellsOf (m.bt b) = S at *
            have hul : (a.eval y).cells.toList.length = szA P ty := by rw [hc1.1, h2]
            have hus : (a.eval y).cells.size = szA P ty := by simpa using hul
            have hiS := le_mul_of (s := S) hie
            have hrun := run_storeCells_at (P := P) (m.blk b) (i * S + off) (m.bt b) (a.eval y).cells.toList 0 cs w hb1 (by rw [hul]; omega) hc2
            have hO : Only (fun k => k = m.blk b) w (w.setRow (m.blk b) (cs.toList.take (i * S + off + 0) ++ (a.eval y).cells.toList ++ cs.toList.drop (i * S + off + 0 + (a.eval y).cells.toList.length)).toArray) :=
              ⟨rfl, rfl, rfl, by simp [World.setRow], fun k _ hk => setRow_other w _ k _ hk⟩
            have hlen : ((cs.toList.take (i * S + off + 0) ++ (a.eval y).cells.toList ++ cs.toList.drop (i * S + off + 0 + (a.eval y).cells.toList.length)).toArray).size = cs.size := by
              simp only [List.size_toArray, List.length_append, List.length_take, List.length_drop, Array.length_toList, hus]
              omega
            have hBk := setRow_heap w _ cs (cs.toList.take (i * S + off + 0) ++ (a.eval y).cells.toList ++ cs.toList.drop (i * S + off + 0 + (a.eval y).cells.toList.length)).toArray _ _ hb1
            have hBl : ∀ k, k < m.base → (w.setRow (m.blk b) (cs.toList.take (i * S + off + 0) ++ (a.eval y).cells.toList ++ cs.toList.drop (i * S + off + 0 + (a.eval y).cells.toList.length)).toArray).heap[k]? = w.heap[k]? := fun k hk => setRow_other w _ k _ (fun e => by
              have := (hw.lt b es hc).2
              omega)
            generalize w.setRow (m.blk b) (cs.toList.take (i * S + off + 0) ++ (a.eval y).cells.toList ++ cs.toList.drop (i * S + off + 0 + (a.eval y).cells.toList.length)).toArray = w1 at *
            refine ⟨w1, by simp [Instr.storeAt, Instr.sureAddr, storeVar, sizeOf, typeInfo, hi, hsz, hus, hrun], ?_⟩
            obtain ⟨hX, hW⟩ := hw.turn hc (es' := es.set i (stA e off (evA t y).cells)) hO _ hBk (by rw [hlen, hb2]) (by
              intro r hr'
              rw [hS]
              rcases List.mem_or_eq_of_mem_set hr' with hq | hq
              · exact hb3 r hq
              · rw [hq, stA]
                simp only [List.length_append, List.length_take, List.length_drop]
                omega) (by rw [hlen, hS, List.length_set]; exact hb4) (by
              intro i' hi' j hj
              rw [hS]
              have hi2 : i' < es.length := by simpa using hi'
              simp only [List.getElem?_toArray]
              rw [seg_get _ _ _ (by rw [hul]; simp; omega)]
              by_cases e1 : i' = i
              · subst e1
                have hrow : (es.set i' (stA e off (evA t y).cells))[i'] = stA e off (evA t y).cells := by simp
                have hj' : j < (stA e off (evA t y).cells).length := by rw [hrow] at hj; exact hj
                have hg : (stA e off (evA t y).cells)[j]? = some (stA e off (evA t y).cells)[j] := List.getElem?_eq_getElem hj'
                have hg2 : (e.take off ++ (evA t y).cells ++ e.drop (off + (evA t y).cells.length))[j]? = some (stA e off (evA t y).cells)[j] := hg
                rw [seg_get _ _ _ (by omega)] at hg2
                have goal' : ∀ v, VR P m h (stA e off (evA t y).cells)[j] v → VR P m h (es.set i' (stA e off (evA t y).cells))[i'][j] v := by
                  intro v hv
                  simpa only [hrow] using hv
                by_cases e2 : off ≤ j ∧ j < off + (evA t y).cells.length
                · rw [if_pos e2] at hg2
                  rw [if_pos (by rw [hul]; omega)]
                  obtain ⟨u, hu1, hu2⟩ := hc1.get? hg2
                  refine ⟨u, ?_, goal' u hu2⟩
                  rw [← hu1]
                  congr 1
                  omega
                · rw [if_neg e2] at hg2
                  rw [if_neg (by rw [hul]; omega)]
                  obtain ⟨hje, hge⟩ := List.getElem?_eq_some_iff.1 hg2
                  obtain ⟨v, hv1, hv2⟩ := hb5 i' hi2 j (by rw [hre]; exact hje)
                  refine ⟨v, by simpa using hv1, goal' v ?_⟩
                  rw [← hge]
                  simpa only [hre] using hv2
              · have hrow : (es.set i (stA e off (evA t y).cells))[i'] = es[i'] := by simp [Ne.symm e1]
                have hj' : j < es[i'].length := by rw [hrow] at hj; exact hj
                have hjS : j < S := by rw [hb3 _ (List.getElem_mem hi2)] at hj'; exact hj'
                rw [if_neg (by
                  rw [hul]
                  rcases Nat.lt_or_gt_of_ne e1 with hq | hq
                  · have := le_mul_of (s := S) hq
                    omega
                  · have := le_mul_of (s := S) hq
                    omega)]
                obtain ⟨v, hv1, hv2⟩ := hb5 i' hi2 j hj'
                exact ⟨v, by simpa using hv1, by simpa only [hrow] using hv2⟩)
            exact ⟨hX, hW, ⟨hO.os, hO.tape, hO.output, hO.size, hBl⟩⟩
          · cases hv
    | _ => simp [storeA] at hv
  obtain ⟨w', h1, h2, h3, h4⟩ := key
  exact ⟨m, w', undef, .inr ⟨by simp [execOp, ho, h1], rfl⟩, h2, h3, .junk _, h4⟩
end
end Go.Proofs.YtngphebjmmencaaDoor
namespace Go.Proofs.YtngphebjmmencaaDoor
set_option linter.unusedSimpArgs false
set_option linter.unusedVariables false
open Go Go.RowKit

section
variable {P : Program} {m m' : Mm} {h h' : AH} {w w' : World} {t : List AV} {a : Act} {o : Oper}

theorem op_move (hw : WR P m h w) (ht : TR P m h t a.tmps) (x : Operand) (ho : o.op = .move x ∨ o.op = .assign x) : OpR P m h a w o (evA t x) h := by
  refine OpR.pure hw (u := a.eval x) ?_ (evA_sound ht x)
  rcases ho with ho | ho <;> simp [execOp, ho]

theorem op_pick (hw : WR P m h w) (ht : TR P m h t a.tmps) (c x y : Operand) (ho : o.op = .pick c x y) {b : Bool} (hb : evA t c = .bool b) : OpR P m h a w o (if b then evA t x else evA t y) h := by
  have hc := evA_sound ht c
  rw [hb] at hc
  obtain ⟨u, hu⟩ : ∃ u, a.eval c = u := ⟨_, rfl⟩
  rw [hu] at hc
  cases hc
  cases b
  · exact OpR.pure hw (u := a.eval y) (by simp [execOp, ho, hu, asBool]) (by simpa using evA_sound ht y)
  · exact OpR.pure hw (u := a.eval x) (by simp [execOp, ho, hu, asBool]) (by simpa using evA_sound ht x)

theorem op_nilCheck (hw : WR P m h w) (ht : TR P m h t a.tmps) (x : Operand) (ho : o.op = .nilCheck x) {v : AV} (hv : evA t x = v)
    (hk : (match v with | .ptr .. | .tptr .. | .ip .. | .fn .. | .iface .. => true | _ => false) = true) : OpR P m h a w o v h := by
  have hc := evA_sound ht x
  rw [hv] at hc
  obtain ⟨u, hu⟩ : ∃ u, a.eval x = u := ⟨_, rfl⟩
  rw [hu] at hc
  refine OpR.pure hw (u := u) ?_ hc
  cases hc <;> simp at hk <;> simp [execOp, ho, hu]

theorem op_unOp (hw : WR P m h w) (ht : TR P m h t a.tmps) (op : UnOp) (ty : TypeId) (x : Operand) (ho : o.op = .unOp op ty x) {v : AV}
    (hv : unA op (evA t x) = some v) : OpR P m h a w o v h := by
  have hc := evA_sound ht x
  revert hv hc
  obtain ⟨u, hu⟩ : ∃ u, a.eval x = u := ⟨_, rfl⟩
  rw [hu]
  generalize evA t x = ex
  intro hv hc
  cases op <;> cases hc <;> simp [unA] at hv
  · subst hv
    exact OpR.pure hw (u := .int _ _) (by simp [execOp, ho, hu, Op.unary, Op.intArith]) (.int _ _)
  · subst hv
    exact OpR.pure hw (u := .bool _) (by simp [execOp, ho, hu, Op.unary]) (.bool _)

theorem op_convert (hw : WR P m h w) (ht : TR P m h t a.tmps) (src dst : TypeId) (x : Operand) (ho : o.op = .convert src dst x) {v : AV} (hs : (P.underlying src).isNone = false)
    (hv : cvA (kindA P dst) (evA t x) = some v) : OpR P m h a w o v h := by
  have hc := evA_sound ht x
  revert hv hc
  obtain ⟨u, hu⟩ : ∃ u, a.eval x = u := ⟨_, rfl⟩
  rw [hu]
  generalize evA t x = ex
  intro hv hc
  obtain ⟨ds, hds⟩ : ∃ ds, P.underlying src = some ds := Option.isSome_iff_exists.1 (by simpa [← Option.not_isSome] using hs)
  unfold kindA at hv
  rcases hd : P.underlying dst with _ | dd
  · simp [hd, cvA] at hv
  · rw [hd] at hv
    cases dd <;> cases hc <;> simp [cvA] at hv
    · subst hv
      exact OpR.pure hw (u := .int _ _) (by
        simp only [execOp, ho, hu, convert, Sem.run_bind, run_underlying hds, run_underlying hd, Result.andThen_ok]
        cases ds <;> simp [Conv.intToInt] <;> rfl) (.int _ _)
    · subst hv
      exact OpR.pure hw (u := .string _) (by
        simp only [execOp, ho, hu, convert, Sem.run_bind, run_underlying hds, run_underlying hd, Result.andThen_ok]
        cases ds <;> simp <;> rfl) (.str _)

theorem op_makeInterface (hw : WR P m h w) (ht : TR P m h t a.tmps) (ty : TypeId) (x : Operand) (ho : o.op = .makeInterface ty x) (hp : plainT P ty = true) : OpR P m h a w o (.iface ty (evA t x)) h := by
  unfold plainT at hp
  rcases hd : P.underlying ty with _ | d
  · simp [hd] at hp
  · refine OpR.pure hw (u := .iface ty (a.eval x)) ?_ (.iface _ _ _ (evA_sound ht x))
    rw [hd] at hp
    simp only [execOp, ho, Instr.makeInterface, Sem.run_bind, run_underlying hd, Result.andThen_ok]
    cases d <;> simp at hp ⊢

theorem op_makeFunc (hw : WR P m h w) (ht : TR P m h t a.tmps) (g : FuncId) (first captured : Array Operand) (ho : o.op = .makeFunc (.func g) first captured) :
    OpR P m h a w o (.fn g (first.toList.map (evA t)) (captured.toList.map (evA t))) h := by
  have h1 := VRs.map (P := P) (m := m) (h := h) (f := evA t) (g := a.eval) (l := first.toList) (fun x _ => evA_sound ht x)
  have h2 := VRs.map (P := P) (m := m) (h := h) (f := evA t) (g := a.eval) (l := captured.toList) (fun x _ => evA_sound ht x)
  refine OpR.pure hw (u := .func (.func g) (first.toList.map a.eval).toArray (captured.toList.map a.eval).toArray) ?_ (.fn _ _ _ _ _ h1.1 h2.1 h1.2 h2.2)
  simp only [execOp, ho, Instr.makeFunc, Sem.run_bind, Sem.run_pure, Result.andThen_ok]
  have e : ∀ xs : Array Operand, (xs.toList.map a.eval).toArray = xs.map a.eval := fun xs => by apply Array.ext'; simp
  rw [e, e]

theorem op_extract (hw : WR P m h w) (ht : TR P m h t a.tmps) (x : Operand) (i : Nat) (ho : o.op = .extract x i) {vs : List AV} {v : AV} (hv : evA t x = .tup vs) (hi : vs[i]? = some v) : OpR P m h a w o v h := by
  have hc := evA_sound ht x
  rw [hv] at hc
  obtain ⟨u, hu⟩ : ∃ u, a.eval x = u := ⟨_, rfl⟩
  rw [hu] at hc
  cases hc with
  | tup _ l' h1 h3 =>
    obtain ⟨y, hy1, hy2⟩ := VRs.get? (l := vs) (l' := l') ⟨h1, h3⟩ hi
    exact OpR.pure hw (u := y) (by simp [execOp, ho, hu, Instr.extract, hy1]) hy2

theorem op_typeAssert (hw : WR P m h w) (ht : TR P m h t a.tmps) (x : Operand) (xt as : TypeId) (ok : Bool) (ho : o.op = .typeAssert x xt as ok) {v : AV} (hv : evA t x = .iface as v) (hp : plainT P as = true) :
    OpR P m h a w o (if ok then .tup [v, .bool true] else v) h := by
  have hc := evA_sound ht x
  rw [hv] at hc
  obtain ⟨u, hu⟩ : ∃ u, a.eval x = u := ⟨_, rfl⟩
  rw [hu] at hc
  unfold plainT at hp
  rcases hd : P.underlying as with _ | d
  · simp [hd] at hp
  · rw [hd] at hp
    cases hc with
    | iface _ _ v' h1 =>
      cases ok
      · refine OpR.pure hw (u := v') ?_ h1
        simp only [execOp, ho, hu, Instr.typeAssert, Sem.run_bind, run_underlying hd, Result.andThen_ok]
        cases d <;> simp at hp ⊢
      · refine OpR.pure hw (u := .tuple [v', .bool true].toArray) ?_ ?_
        · simp only [execOp, ho, hu, Instr.typeAssert, Sem.run_bind, run_underlying hd, Result.andThen_ok]
          cases d <;> simp at hp ⊢
        · have := VRs.cons h1 (VRs.cons (VR.bool true) VRs.nil)
          exact .tup _ _ this.1 this.2

theorem size_info {q : TypeId} (hq : szA P q ≠ 0) : ∃ i, P.info? q = some i ∧ i.size = szA P q := by
  unfold szA Program.cellsOf at *
  rcases hi : P.info? q with _ | i
  · simp [hi] at hq
  · exact ⟨i, rfl, by simp⟩
theorem under_info {q : TypeId} {d : TypeDesc} (hd : P.underlying q = some d) : ∃ i, P.info? q = some i := by
  unfold Program.underlying at hd
  rcases hi : P.info? q with _ | i
  · simp [hi] at hd
  · exact ⟨i, rfl⟩

theorem field_run {s : TypeId} {f : Nat} {q : Nat × TypeId} (hq : ((fieldsA P s).bind (·[f]?)) = some q) : ∃ fs fd, P.underlying s = some (.struct fs) ∧ fs[f]? = some fd ∧ fd.offset = q.1 ∧ fd.type = q.2 := by
  unfold fieldsA at hq
  split at hq
  · rename_i fs hfs
    simp at hq
    obtain ⟨fd, h1, h2⟩ := hq
    exact ⟨fs, fd, hfs, h1, by rw [← h2], by rw [← h2]⟩
  · simp at hq

theorem op_fieldAddr (hw : WR P m h w) (ht : TR P m h t a.tmps) (s : TypeId) (x : Operand) (f : Nat) (ho : o.op = .fieldAddr s x f) {q : Nat × TypeId} (hq : ((fieldsA P s).bind (·[f]?)) = some q) (hz : szA P q.2 ≠ 0) {v : AV}
    (hv : fldA q.1 (evA t x) = some v) : OpR P m h a w o v h := by
  obtain ⟨fs, fd, h1, h2, h3, h4⟩ := field_run hq
  obtain ⟨i0, hi0, hi1⟩ := size_info hz
  have hc := evA_sound ht x
  revert hv hc
  obtain ⟨u, hu⟩ : ∃ u, a.eval x = u := ⟨_, rfl⟩
  rw [hu]
  generalize evA t x = ex
  intro hv hc
  have run : ∀ g off, (execOp a.eval o).run P w = .ok (.value (.pointer (some ⟨g, off + q.1, none⟩))) w ∨ u ≠ .pointer (some ⟨g, off, none⟩) := by
    intro g off
    by_cases hug : u = .pointer (some ⟨g, off, none⟩)
    · left
      subst hug
      simp only [execOp, ho, hu, Instr.fieldAt, Sem.run_bind, run_underlying h1, Result.andThen_ok, h2, Instr.sureAddr, Sem.run_pure, fieldPlace, h4, sizeOf, typeInfo, run_program, hi0, hi1, hz, if_false, h3, Addr.add_lit]
    · exact .inr hug
  cases hc <;> simp [fldA] at hv
  · rename_i b i off hb
    subst hv
    refine OpR.pure hw (u := .pointer (some ⟨m.blk b, i * P.cellsOf (m.bt b) + (off + q.1), none⟩)) ?_ (.ptr b i _ hb)
    have := (run (m.blk b) (i * P.cellsOf (m.bt b) + off)).resolve_right (by simp)
    rwa [Nat.add_assoc] at this
  · rename_i t' b hb ht'
    have := (run (m.blk b) 0).resolve_right (by simp)
    rw [Nat.zero_add] at this
    by_cases hz0 : q.1 = 0
    · rw [if_pos hz0] at hv
      subst hv
      rw [hz0] at this
      exact OpR.pure hw this (.tptr _ b hb ht')
    · rw [if_neg hz0] at hv
      subst hv
      have hp := VR.ptr (P := P) (m := m) (h := h) b 0 q.1 hb
      rw [Nat.zero_mul, Nat.zero_add] at hp
      exact OpR.pure hw this hp
  · rename_i e off g o' F hi hv'
    subst hv
    refine OpR.pure hw (u := .pointer (some ⟨g, o' + (off + q.1), none⟩)) ?_ (.ip e _ g o' F hi hv')
    have := (run g (o' + off)).resolve_right (by simp)
    rwa [Nat.add_assoc] at this
end
end Go.Proofs.YtngphebjmmencaaDoor
namespace Go.Proofs.YtngphebjmmencaaDoor
set_option linter.unusedSimpArgs false
set_option linter.unusedVariables false
open Go Go.RowKit

section
variable {P : Program} {m m' : Mm} {h h' : AH} {w w' : World} {t : List AV} {a : Act} {o : Oper}

/-- a part of a row by value -/
theorem part_sound (ty : TypeId) {d : TypeDesc} (hd : P.underlying ty = some d) (hz : szA P ty ≠ 0) {cs : List AV} {cs' : List Value} (hr : VRs P m h cs cs') (off : Nat) {v : AV} (hv : ldA (aggA P ty) (szA P ty) cs off = some v) :
    ∃ u, (part ty cs'.toArray off).run P w = .ok u w ∧ VR P m h v u := by
  obtain ⟨i0, hi0, hi1⟩ := size_info hz
  unfold ldA at hv
  unfold part
  simp only [Sem.run_bind, aggA_run ty hd, Result.andThen_ok]
  cases hag : aggA P ty
  · simp only [hag, Bool.false_eq_true, if_false] at hv ⊢
    obtain ⟨u, h1, h2⟩ := hr.get? hv
    exact ⟨u, by simp [h1], h2⟩
  · simp only [hag, if_true] at hv ⊢
    split at hv
    · rename_i hle
      injection hv with hv
      subst hv
      refine ⟨.agg ((cs'.drop off).take (szA P ty)).toArray, ?_, ?_⟩
      · simp [sizeOf, typeInfo, hi0, hi1]
      · refine .agg _ _ (by simp [hr.1]) (fun j hj hj' => ?_)
        simp only [List.getElem_take, List.getElem_drop]
        exact hr.2 _ _ _
    · cases hv

theorem op_field (hw : WR P m h w) (ht : TR P m h t a.tmps) (s : TypeId) (x : Operand) (f : Nat) (ho : o.op = .field s x f) {q : Nat × TypeId} (hq : ((fieldsA P s).bind (·[f]?)) = some q) (hz : szA P q.2 ≠ 0) (hu2 : P.underlying q.2 ≠ none) {cs : List AV} {v : AV}
    (hx : evA t x = .agg cs) (hv : ldA (aggA P q.2) (szA P q.2) cs q.1 = some v) : OpR P m h a w o v h := by
  obtain ⟨fs, fd, h1, h2, h3, h4⟩ := field_run hq
  have hc := evA_sound ht x
  rw [hx] at hc
  obtain ⟨u, hu⟩ : ∃ u, a.eval x = u := ⟨_, rfl⟩
  rw [hu] at hc
  obtain ⟨d, hd⟩ := Option.ne_none_iff_exists'.1 hu2
  cases hc with
  | agg _ l' g1 g3 =>
    obtain ⟨u', r1, r2⟩ := part_sound (w := w) q.2 hd hz (cs := cs) (cs' := l') ⟨g1, g3⟩ q.1 hv
    refine OpR.pure hw (u := u') ?_ r2
    simp [execOp, ho, hu, Instr.field, run_underlying h1, h2, asAgg, h3, h4, r1]

theorem elem_run {ty e : TypeId} (he : elemA P ty = some e) : P.underlying ty = some (.slice e) := by
  unfold elemA at he
  split at he
  case isFalse => cases he
  split at he
  · rename_i e' h1
    injection he with he
    rw [h1, he]
  · cases he
theorem elem_pos (hT : TyOK P) {ty e : TypeId} (he : elemA P ty = some e) : 0 < P.cellsOf e := by
  have h := he
  unfold elemA at h
  split at h
  · rename_i hlt
    exact hT.pos ty e hlt (elem_run he)
  · cases h
theorem zero_lt {e : TypeId} {z : List AV} (hz : zeroA P e = some z) : e < P.types.size := by
  unfold zeroA at hz
  split at hz
  · assumption
  · cases hz
theorem arr_run {ty : TypeId} {q : Nat × TypeId} (he : arrA P ty = some q) : P.underlying ty = some (.array q.1 q.2) := by
  unfold arrA at he
  split at he
  · rename_i n e h1
    injection he with he
    rw [h1, ← he]
  · cases he

theorem op_indexAddr (hT : TyOK P) (hw : WR P m h w) (ht : TR P m h t a.tmps) (ty : TypeId) (x ix : Operand) (ho : o.op = .indexAddr ty x ix) {v : AV}
    (hv : ixAddrA P ty (evA t x) (evA t ix) = some v) : OpR P m h a w o v h := by
  have hc := evA_sound ht x
  have hk := evA_sound ht ix
  revert hv hc hk
  obtain ⟨u, hu⟩ : ∃ u, a.eval x = u := ⟨_, rfl⟩
  obtain ⟨ku, hku⟩ : ∃ ku, a.eval ix = ku := ⟨_, rfl⟩
  rw [hu, hku]
  generalize evA t x = ex
  generalize evA t ix = ek
  intro hv hc hk
  cases hc with
  | isl0 e a' cap =>
    cases hk with
    | int kk k =>
      simp only [ixAddrA] at hv
      split at hv
      · simp at hv
      · cases hv
    | _ => simp [ixAddrA] at hv
  | isl id e es g o' cap F hl hi hvv hcap htt =>
    cases hk with
    | int kk k =>
      simp only [ixAddrA] at hv
      split at hv
      · rename_i hcond
        obtain ⟨he, hk0⟩ := hcond
        have hes := elem_run he
        have hpos := elem_pos hT he
        obtain ⟨r, hr, hv⟩ := Option.map_eq_some_iff.1 hv
        obtain ⟨hlt, hr2⟩ := List.getElem?_eq_some_iff.1 hr
        obtain ⟨i0, hi0, hi1⟩ := size_info (P := P) (q := e) (by unfold szA; omega)
        have hlen : r.length = P.cellsOf e := hl r (hr2 ▸ List.getElem_mem hlt)
        subst hv
        refine OpR.pure hw (u := .pointer (some ⟨g, o' + k.toNat * P.cellsOf e + 0, none⟩)) ?_ (.ip r 0 g (o' + k.toNat * P.cellsOf e) (F k.toNat) ?_ ?_)
        · have hki : k < (es.length : Int) := by omega
          have h1 : i0.size = P.cellsOf e := hi1
          simp only [execOp, ho, hu, hku, Instr.indexAt, asIntOf, Sem.run_bind, Sem.run_pure, Result.andThen_ok, run_underlying hes, hk0, hki, and_self, if_true, sizeOf, typeInfo, run_program, hi0, h1, Addr.add_lit, Nat.add_zero]
        · intro j hj
          rw [Nat.add_assoc]
          exact hi k.toNat hlt j (by omega)
        · intro j hj
          have := hvv k.toNat hlt j (by rw [hr2]; exact hj)
          simpa only [hr2] using this
      · cases hv
    | _ => simp [ixAddrA] at hv
  | msl b o' n e cap hb he' hcap hn hmx =>
    cases hk with
    | int kk k =>
      simp only [ixAddrA] at hv
      split at hv
      · rename_i hcond
        obtain ⟨he, hk0, hkn⟩ := hcond
        have hes := elem_run he
        have hpos := elem_pos hT he
        obtain ⟨i0, hi0, hi1⟩ := size_info (P := P) (q := e) (by unfold szA; omega)
        injection hv with hv
        subst hv
        have hp := VR.ptr (P := P) (m := m) (h := h) b (o' + k.toNat) 0 hb
        rw [he'] at hp
        refine OpR.pure hw (u := .pointer (some ⟨m.blk b, (o' + k.toNat) * P.cellsOf e + 0, none⟩)) ?_ hp
        have h1 : i0.size = P.cellsOf e := hi1
        simp only [execOp, ho, hu, hku, Instr.indexAt, asIntOf, Sem.run_bind, Sem.run_pure, Result.andThen_ok, run_underlying hes, hk0, hkn, and_self, if_true, sizeOf, typeInfo, run_program, hi0, h1, Addr.add_lit, Nat.add_zero, Nat.add_mul]
      · cases hv
    | _ => simp [ixAddrA] at hv
  | ptr b i off hb =>
    cases hk with
    | int kk k =>
      simp only [ixAddrA] at hv
      obtain ⟨q, hq, hv⟩ := Option.bind_eq_some_iff.1 hv
      split at hv
      · rename_i hcond
        obtain ⟨hz, hk0, hkn⟩ := hcond
        have har := arr_run hq
        obtain ⟨i0, hi0, hi1⟩ := size_info hz
        injection hv with hv
        subst hv
        have hp := VR.ptr (P := P) (m := m) (h := h) b i (off + k.toNat * szA P q.2) hb
        refine OpR.pure hw (u := _) ?_ hp
        simp only [execOp, ho, hu, hku, Instr.indexAt, asIntOf, Instr.sureAddr, Sem.run_bind, Sem.run_pure, Result.andThen_ok, run_underlying har, hk0, hkn, and_self, if_true, sizeOf, typeInfo, run_program, hi0, hi1, Addr.add_lit, Nat.add_assoc]
      · cases hv
    | _ => simp [ixAddrA] at hv
  | ip e off g o' F hi hvv =>
    cases hk with
    | int kk k =>
      simp only [ixAddrA] at hv
      obtain ⟨q, hq, hv⟩ := Option.bind_eq_some_iff.1 hv
      split at hv
      · rename_i hcond
        obtain ⟨hz, hk0, hkn⟩ := hcond
        have har := arr_run hq
        obtain ⟨i0, hi0, hi1⟩ := size_info hz
        injection hv with hv
        subst hv
        have hp := VR.ip (P := P) (m := m) (h := h) e (off + k.toNat * szA P q.2) g o' F hi hvv
        refine OpR.pure hw (u := _) ?_ hp
        simp only [execOp, ho, hu, hku, Instr.indexAt, asIntOf, Instr.sureAddr, Sem.run_bind, Sem.run_pure, Result.andThen_ok, run_underlying har, hk0, hkn, and_self, if_true, sizeOf, typeInfo, run_program, hi0, hi1, Addr.add_lit, Nat.add_assoc]
      · cases hv
    | _ => simp [ixAddrA] at hv
  | _ => simp [ixAddrA] at hv

theorem ba_get (l : List UInt8) (n : Nat) : (⟨l.toArray⟩ : ByteArray)[n]? = l[n]? := by
  by_cases hn : n < l.length
  · rw [ByteArray.getElem?_lt' _ _ (by simpa [ByteArray.size] using hn), List.getElem?_eq_getElem hn]
    rfl
  · rw [ByteArray.getElem?_ge' _ _ (by simpa [ByteArray.size] using hn), List.getElem?_eq_none (by omega)]

theorem op_index (hw : WR P m h w) (ht : TR P m h t a.tmps) (ty : TypeId) (x ix : Operand) (ho : o.op = .index ty x ix) {v : AV}
    (hv : ixA P ty (evA t x) (evA t ix) = some v) : OpR P m h a w o v h := by
  have hc := evA_sound ht x
  have hk := evA_sound ht ix
  revert hv hc hk
  obtain ⟨u, hu⟩ : ∃ u, a.eval x = u := ⟨_, rfl⟩
  obtain ⟨ku, hku⟩ : ∃ ku, a.eval ix = ku := ⟨_, rfl⟩
  rw [hu, hku]
  generalize evA t x = ex
  generalize evA t ix = ek
  intro hv hc hk
  cases hc with
  | str l =>
    cases hk with
    | int kk k =>
      simp only [ixA] at hv
      split at hv
      · rename_i hcond
        obtain ⟨hs, hk0⟩ := hcond
        obtain ⟨c, hcc, hv⟩ := Option.map_eq_some_iff.1 hv
        subst hv
        unfold isStrT at hs
        split at hs
        · rename_i hun
          refine OpR.pure hw (u := .int .u8 c.toNat) ?_ (.int _ _)
          simp only [execOp, ho, hu, hku, Instr.index, asIntOf, Sem.run_bind, Sem.run_pure, Result.andThen_ok, run_underlying hun, hk0, if_true, ba_get, hcc]
        · cases hs
      · cases hv
    | _ => simp [ixA] at hv
  | agg cs l' g1 g3 =>
    cases hk with
    | int kk k =>
      simp only [ixA] at hv
      obtain ⟨q, hq, hv⟩ := Option.bind_eq_some_iff.1 hv
      split at hv
      · rename_i hcond
        obtain ⟨hqs, hz, hk0, hkn⟩ := hcond
        have har := arr_run hq
        obtain ⟨i0, hi0, hi1⟩ := size_info hz
        obtain ⟨d, hd⟩ := Option.isSome_iff_exists.1 hqs
        obtain ⟨u', r1, r2⟩ := part_sound (w := w) q.2 hd hz (cs := cs) (cs' := l') ⟨g1, g3⟩ _ hv
        refine OpR.pure hw (u := u') ?_ r2
        simp only [execOp, ho, hu, hku, Instr.index, asIntOf, Sem.run_bind, Sem.run_pure, Result.andThen_ok, run_underlying har, hk0, hkn, and_self, if_true, sizeOf, typeInfo, run_program, hi0, hi1, r1]
      · cases hv
    | _ => simp [ixA] at hv
  | _ => simp [ixA] at hv
end
end Go.Proofs.YtngphebjmmencaaDoor
namespace Go.Proofs.YtngphebjmmencaaDoor
set_option linter.unusedSimpArgs false
set_option linter.unusedVariables false
open Go Go.RowKit

section
variable {P : Program} {m m' : Mm} {h h' : AH} {w w' : World} {t : List AV} {a : Act} {o : Oper}

theorem ba_size (l : List UInt8) : (⟨l.toArray⟩ : ByteArray).size = l.length := by
  show l.toArray.size = _
  simp

theorem op_mm (hw : WR P m h w) (ht : TR P m h t a.tmps) (mx : Bool) (x y : Operand) (c : Call) (ho : o.op = .call c) (hc : c.callee = .builtin (if mx then .max else .min)) (ha : c.args = #[x, y]) {v : AV} (hn : mmA mx (evA t x) (evA t y) = some v) : OpR P m h a w o v h := by
  have vx := evA_sound ht x
  have vy := evA_sound ht y
  revert hn vx vy
  obtain ⟨u, hu⟩ : ∃ u, a.eval x = u := ⟨_, rfl⟩
  obtain ⟨u', hu'⟩ : ∃ u, a.eval y = u := ⟨_, rfl⟩
  rw [hu, hu']
  generalize evA t x = ex
  generalize evA t y = ey
  intro hn vx vy
  unfold mmA at hn
  split at hn
  · injection hn with hn
    subst hn
    cases vx
    cases vy
    obtain ⟨callee, args, argTypes⟩ := c
    simp only at hc ha
    subst hc ha
    cases mx
    · refine OpR.pure hw (u := .int _ _) ?_ (.int _ _)
      simp [execOp, ho, hu, hu', resolve, invoke, builtin, Builtin.min_, Builtin.min2]
    · refine OpR.pure hw (u := .int _ _) ?_ (.int _ _)
      simp [execOp, ho, hu, hu', resolve, invoke, builtin, Builtin.max_, Builtin.max2]
  · cases hn
theorem op_len (hw : WR P m h w) (ht : TR P m h t a.tmps) (x : Operand) (ty : TypeId) (tys : List TypeId) (ho : o.op = .call { callee := .builtin .len, args := #[x], argTypes := (ty :: tys).toArray }) {n : Nat} (hf : fitsT P ty (evA t x) = true) (hn : lenA (evA t x) = some n) :
    OpR P m h a w o (i64 n) h := by
  have hc := evA_sound ht x
  revert hf hn hc
  obtain ⟨u, hu⟩ : ∃ u, a.eval x = u := ⟨_, rfl⟩
  rw [hu]
  generalize evA t x = ex
  intro hf hn hc
  refine OpR.pure hw (u := .int .i64 n) ?_ (.int _ _)
  have pre : (execOp a.eval o).run P w = ((Builtin.len_ (ty :: tys).toArray o.type #[u]).run P w).andThen fun v w' => .ok (.value v) w' := by
    simp [execOp, ho, resolve, invoke, builtin, hu]
  rw [pre]
  cases hc <;> simp [lenA, fitsT] at hf hn
  · subst hn
    unfold isStrT at hf
    split at hf
    · rename_i hd
      simp [Builtin.len_, run_underlying hd, goInt, ba_size]
    · cases hf
  · subst hn
    unfold isSlcT at hf
    obtain ⟨e, he⟩ := Option.isSome_iff_exists.1 hf
    simp [Builtin.len_, run_underlying (elem_run he), goInt]
  all_goals
    subst hn
    simp [Builtin.len_, run_underlying (elem_run hf), goInt]

/-- not both nil of an interface, not both rows -/
def noPair : Value → Value → Bool
  | .nilIface, .nilIface => false
  | .agg _, .agg _ => false
  | _, _ => true
theorem eqGuard_plain (op : BinOp) (ty : TypeId) (x y : Operand) (u v : Value) (hne : noPair u v = true) : (eqGuard op ty x y u v).run P w = .ok () w := by
  cases op <;> first | rfl | (cases u <;> first | rfl | (cases v <;> first | rfl | simp [noPair] at hne))

theorem bin_run (op : BinOp) (ty yt : TypeId) (x y : Operand) (ho : o.op = .binOp op ty x y yt) {u v r : Value} (hu : a.eval x = u) (hv : a.eval y = v) (hne : noPair u v = true)
    (hr : (binOp op ty u v).run P w = .ok r w) : (execOp a.eval o).run P w = .ok (.value r) w := by
  simp only [execOp, ho, hu, hv, Sem.run_bind, eqGuard_plain op ty x y u v hne, Result.andThen_ok, hr, Sem.run_pure]

theorem int_run (op : BinOp) (ty : TypeId) (k k' : IntKind) (x y : Int) {v : AV} (kd : Kd) (hv : binA kd op (.int k x) (.int k' y) = some v) : ∃ r, (binOp op ty (.int k x) (.int k' y)).run P w = .ok r w ∧ VR P m h v r := by
  cases op
  case shl =>
    simp only [binA] at hv
    split at hv
    · cases hv
    · rename_i h0
      injection hv with hv
      subst hv
      exact ⟨_, by simp [binOp, Op.shift, h0], .int _ _⟩
  case shr =>
    simp only [binA] at hv
    split at hv
    · cases hv
    · rename_i h0
      injection hv with hv
      subst hv
      exact ⟨_, by simp [binOp, Op.shift, h0], .int _ _⟩
  case rem =>
    simp only [binA] at hv
    split at hv
    · rename_i hk
      subst hk
      simp only [intA] at hv
      split at hv
      · cases hv
      · rename_i h0
        injection hv with hv
        subst hv
        exact ⟨_, by simp [binOp, Op.intDiv, h0], .int _ _⟩
    · cases hv
  all_goals
    simp only [binA] at hv
    split at hv
    · rename_i hk
      subst hk
      first
      | (simp only [intA] at hv; injection hv with hv; subst hv; first
          | (refine ⟨_, ?_, .int _ _⟩; simp [binOp, Op.intArith]; done)
          | (refine ⟨_, ?_, .int _ _⟩; simp [binOp, Op.intBits]; done)
          | (refine ⟨_, ?_, .bool _⟩; simp [binOp, Op.intCmp]; done))
      | (simp [intA] at hv)
    · cases hv

theorem str_run (op : BinOp) (ty : TypeId) (x y : List UInt8) {v : AV} (kd : Kd) (hv : binA kd op (.str x) (.str y) = some v) : ∃ r, (binOp op ty (.string ⟨x.toArray⟩) (.string ⟨y.toArray⟩)).run P w = .ok r w ∧ VR P m h v r := by
  cases op <;> simp only [binA] at hv <;> try (cases hv; done)
  · split at hv
    · rename_i hle
      injection hv with hv
      subst hv
      refine ⟨.string ⟨(x ++ y).toArray⟩, ?_, .str _⟩
      have h1 : ¬ (IntKind.i64.max < (x.length : Int) + (y.length : Int)) := by
        simp [IntKind.max, IntKind.bits, IntKind.signed]
        omega
      have e : (⟨x.toArray⟩ : ByteArray) ++ ⟨y.toArray⟩ = ⟨(x ++ y).toArray⟩ := by
        apply ByteArray.ext
        simp
      simp [binOp, Op.stringOp, ba_size, h1, e]
      omega
    · cases hv
  · injection hv with hv
    subst hv
    exact ⟨_, by simp [binOp, Op.stringOp, bne], .bool _⟩
  · injection hv with hv
    subst hv
    exact ⟨_, by simp [binOp, Op.stringOp, bne], .bool _⟩

set_option maxHeartbeats 1000000 in
theorem eq_run (ty : TypeId) {x y : AV} {u v : Value} {b : Bool} (hb : eqA (kindA P ty) x y = some b) (hx : VR P m h x u) (hy : VR P m h y v) :
    noPair u v = true ∧ (binOp .eql ty u v).run P w = .ok (.bool b) w ∧ (binOp .neq ty u v).run P w = .ok (.bool !b) w := by
  have hk : (kindA P ty = .bool ∨ kindA P ty = .ptr ∨ kindA P ty = .slice) ∨ (kindA P ty = .func ∨ kindA P ty = .iface) := by
    revert hb
    generalize kindA P ty = kd
    intro hb
    unfold eqA at hb
    split at hb <;> simp_all
  rcases hk with (hk | hk | hk) | (hk | hk)
  all_goals
    have hd := hk
    unfold kindA at hd
    rw [hk] at hb
    split at hd <;> simp at hd
  all_goals
    rename_i hd'
    have fin : ∀ {u v : Value}, noPair u v = true → (∀ d, (Op.equalIn (d + 1) ty u v).run P w = .ok b w) → (∀ op, op = BinOp.eql ∨ op = BinOp.neq → binOp op ty u v = (match op with | .eql => (do pure (.bool (← Op.equal ty u v))) | _ => (do pure (.bool (!(← Op.equal ty u v)))) : Sem Value)) →
        noPair u v = true ∧ (binOp .eql ty u v).run P w = .ok (.bool b) w ∧ (binOp .neq ty u v).run P w = .ok (.bool !b) w := by
      intro u v h1 h2 h3
      have h4 : (Op.equal ty u v).run P w = .ok b w := h2 9999
      refine ⟨h1, ?_, ?_⟩
      · rw [h3 _ (.inl rfl)]
        simp [h4]
      · rw [h3 _ (.inr rfl)]
        simp [h4]
    cases hx <;> simp [eqA] at hb <;> cases hy <;> simp [eqA] at hb <;> (try subst hb) <;> refine fin rfl (fun d => ?_) (fun op ho => by rcases ho with rfl | rfl <;> rfl) <;> simp [Op.equalIn, run_underlying hd']
end
end Go.Proofs.YtngphebjmmencaaDoor
