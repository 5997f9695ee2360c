/- Plain laws of memory, used by all walks of this seat: what changed between two worlds ('Only'), a block known whole ('Blk'). No program in sight. -/
import Derived.WalkKit
import Derived.WalkSpells
import Derived.Deep.Draws
import Derived.Laws.Rows
import Derived.Maps.AppendAt
import Derived.Deep.AppendLies
import Derived.Laws.ResultCell
namespace Go.Proofs.YtngphebjmmencaaDoor
set_option linter.unusedSimpArgs false
set_option linter.unusedVariables false
open Go.RowKit

/-- Between w and w' only blocks in F, and new ones, may have turned. -/
structure Only (F : Nat → Prop) (w w' : World) : Prop where
  os : w'.os = w.os
  tape : w'.tape = w.tape
  output : w'.output = w.output
  size : w.heap.size ≤ w'.heap.size
  block : ∀ k, k < w.heap.size → ¬ F k → w'.heap[k]? = w.heap[k]?

theorem Only.refl (F : Nat → Prop) (w : World) : Only F w w := ⟨rfl, rfl, rfl, Nat.le_refl _, fun _ _ _ => rfl⟩
theorem Only.trans {F : Nat → Prop} {a b c : World} (h : Only F a b) (k : Only F b c) : Only F a c :=
  ⟨k.os.trans h.os, k.tape.trans h.tape, k.output.trans h.output, Nat.le_trans h.size k.size, fun i hi hn => (k.block i (Nat.lt_of_lt_of_le hi h.size) hn).trans (h.block i hi hn)⟩
theorem Only.mono {F G : Nat → Prop} {w w' : World} (h : Only F w w') (hFG : ∀ k, k < w.heap.size → F k → G k) : Only G w w' :=
  ⟨h.os, h.tape, h.output, h.size, fun k hk hn => h.block k hk fun hf => hn (hFG k hk hf)⟩
theorem Only.step {F G : Nat → Prop} {a b c : World} (h : Only F a b) (k : Only G b c) (hG : ∀ i, i < a.heap.size → G i → F i) : Only F a c :=
  ⟨k.os.trans h.os, k.tape.trans h.tape, k.output.trans h.output, Nat.le_trans h.size k.size, fun i hi hn => (k.block i (Nat.lt_of_lt_of_le hi h.size) (fun hg => hn (hG i hi hg))).trans (h.block i hi hn)⟩
theorem Only.drew {F : Nat → Prop} {a w : World} (h : Only F a w) : Only F a w.drew := ⟨h.os, h.tape, h.output, h.size, h.block⟩
theorem Only.drewN {F : Nat → Prop} {a w : World} (h : Only F a w) (n : Nat) : Only F a (w.drewN n) := ⟨h.os, h.tape, h.output, h.size, h.block⟩
theorem Only.alloc {F : Nat → Prop} {a w : World} (h : Only F a w) (o : Obj) : Only F a (w.alloc o) :=
  ⟨h.os, h.tape, h.output, Nat.le_trans h.size (by simp), fun k hk hn => (Below.heap_alloc w o k (Nat.lt_of_lt_of_le hk h.size)).trans (h.block k hk hn)⟩
theorem Only.setCell {F : Nat → Prop} {a w : World} (h : Only F a w) {p : Addr} (hp : F p.block ∨ a.heap.size ≤ p.block) (u : Value) : Only F a (w.setCell p u) :=
  ⟨h.os, h.tape, h.output, by simpa [World.setCell] using h.size, fun k hk hn => (Below.heap_setCell w p u k (by
    rintro rfl
    rcases hp with hp | hp
    · exact hn hp
    · omega)).trans (h.block k hk hn)⟩
theorem Only.grown {F : Nat → Prop} {a w w' : World} {row : Option Nat} (h : Only F a w) (hg : w.grownBy w' row) (hr : ∀ k, row = some k → F k ∨ a.heap.size ≤ k) : Only F a w' :=
  ⟨hg.os.trans h.os, hg.tape.trans h.tape, hg.output.trans h.output, Nat.le_trans h.size hg.size, fun k hk hn => (hg.block k (Nat.lt_of_lt_of_le hk h.size) (fun e => by
    rcases hr k e.symm with hf | hf
    · exact hn hf
    · omega)).trans (h.block k hk hn)⟩
end Go.Proofs.YtngphebjmmencaaDoor
namespace Go.RowKit
open Go.Proofs.YtngphebjmmencaaDoor
theorem Below.drewN_ {B : Nat} {a w : World} (h : Below B a w) (n : Nat) : Below B a (w.drewN n) := ⟨h.os, h.tape, h.output, h.size, h.block⟩
end Go.RowKit
namespace Go.Proofs.YtngphebjmmencaaDoor
set_option linter.unusedSimpArgs false
set_option linter.unusedVariables false
open Go.RowKit
/-- Nothing that was there has turned. -/
abbrev New (w w' : World) : Prop := Only (fun _ => False) w w'
theorem New.only {F : Nat → Prop} {w w' : World} (h : New w w') : Only F w w' := h.mono fun _ _ hf => hf.elim
theorem New.below {w w' : World} (h : New w w') : Below w.heap.size w w' := ⟨h.os, h.tape, h.output, h.size, fun k hk => h.block k hk id⟩
theorem New.of_below {w w' : World} (h : Below w.heap.size w w') : New w w' := ⟨h.os, h.tape, h.output, h.size, fun k hk _ => h.block k hk⟩
theorem Only.below {F : Nat → Prop} {B : Nat} {w w' : World} (h : Only F w w') (hF : ∀ k, F k → B ≤ k) (hB : B ≤ w.heap.size) : Below B w w' :=
  ⟨h.os, h.tape, h.output, h.size, fun k hk => h.block k (by omega) (fun hf => by have := hF k hf; omega)⟩
end Go.Proofs.YtngphebjmmencaaDoor
namespace Go.RowKit
open Go.Proofs.YtngphebjmmencaaDoor
theorem Below.new {a w w' : World} (h : Below a.heap.size a w) (k : New w w') : Below a.heap.size a w' := h.trans (Only.below k (fun _ h => h.elim) h.size)
end Go.RowKit
namespace Go.Proofs.YtngphebjmmencaaDoor
set_option linter.unusedSimpArgs false
set_option linter.unusedVariables false
open Go.RowKit
end Go.Proofs.YtngphebjmmencaaDoor
namespace Go.RowKit
open Go.Proofs.YtngphebjmmencaaDoor
theorem Below.only {F : Nat → Prop} {a w w' : World} (h : Below a.heap.size a w) (k : Only F w w') (hF : ∀ i, F i → a.heap.size ≤ i) : Below a.heap.size a w' := h.trans (Only.below k hF h.size)
end Go.RowKit
namespace Go.Proofs.YtngphebjmmencaaDoor
set_option linter.unusedSimpArgs false
set_option linter.unusedVariables false
open Go.RowKit
theorem Only.cell {F : Nat → Prop} {w w' : World} (h : Only F w w') {p : Addr} (hp : p.block < w.heap.size) (hn : ¬ F p.block) : w'.cell? p = w.cell? p := World.cell?_of_block (w := w) (h.block p.block hp hn)

/-- Block g is just the cells cs of element type t, none frozen. -/
def Blk (w : World) (g : Nat) (t : TypeId) (cs : Array Value) : Prop := w.heap[g]? = some (.cells cs t (0, 0))

section
variable {w w' : World} {g : Nat} {t : TypeId} {cs : Array Value}
theorem Blk.lt (h : Blk w g t cs) : g < w.heap.size := by
  rcases Nat.lt_or_ge g w.heap.size with hlt | hge
  · exact hlt
  · unfold Blk at h; rw [Array.getElem?_eq_none hge] at h; cases h
theorem Blk.cell (h : Blk w g t cs) (i : Nat) : w.cell? ⟨g, i, none⟩ = cs[i]? := cell_of_row w g i cs t (0, 0) h
theorem Blk.frozen (h : Blk w g t cs) (i : Nat) : w.frozen? ⟨g, i, none⟩ = false := by
  unfold Blk at h
  simp [World.frozen?, h]
theorem Blk.new (w : World) (t : TypeId) (cs : Array Value) : Blk (w.alloc (.cells cs t)) w.heap.size t cs := heap_alloc_new w _
theorem Blk.drew (h : Blk w g t cs) : Blk w.drew g t cs := h
theorem Blk.drewN (h : Blk w g t cs) (n : Nat) : Blk (w.drewN n) g t cs := h
theorem Blk.alloc (h : Blk w g t cs) (o : Obj) : Blk (w.alloc o) g t cs := (Below.heap_alloc w o g h.lt).trans h
theorem Blk.set_ (h : Blk w g t cs) (i : Nat) (u : Value) : Blk (w.setCell ⟨g, i, none⟩ u) g t (cs.setIfInBounds i u) := by
  unfold Blk at h ⊢
  simp [World.setCell, Array.getElem?_modify, h]
theorem Blk.far (h : Blk w g t cs) {p : Addr} (hp : g ≠ p.block) (u : Value) : Blk (w.setCell p u) g t cs := (Below.heap_setCell w p u g hp).trans h
theorem Blk.below {B : Nat} (h : Blk w g t cs) (hb : Below B w w') (hg : g < B) : Blk w' g t cs := (hb.block g hg).trans h
theorem Blk.only {F : Nat → Prop} (h : Blk w g t cs) (hb : Only F w w') (hg : ¬ F g) : Blk w' g t cs := (hb.block g h.lt hg).trans h
theorem Blk.grown {row : Option Nat} (h : Blk w g t cs) (hb : w.grownBy w' row) (hg : some g ≠ row) : Blk w' g t cs := (hb.block g h.lt hg).trans h
theorem Blk.ne_ {g' : Nat} {t' : TypeId} {cs' : Array Value} (h : Blk w g t cs) (h' : Blk w g' t' cs') (hne : t ≠ t') : g ≠ g' := by
  rintro rfl
  unfold Blk at h h'
  rw [h] at h'
  injection h' with h'
  injection h' with _ ht
  exact hne ht
theorem own_blk_ne {base : Nat} {e : TypeId} {size n : Nat} {v : Value} {xs : List Value} (h : w.ownsRow base e size v n xs) (hg : Blk w g t cs) (hne : e ≠ t) : v.ownBlock ≠ some g := by
  rcases h.2 with ⟨rfl, _⟩ | ⟨g', cap, cur, rfl, _, hh, _⟩
  · simp [Value.ownBlock]
  · intro he
    have : g' = g := by simpa [Value.ownBlock] using he
    subst this
    exact Blk.ne_ (t := e) hh hg hne rfl
end
/-- what 'append(s, x)' leaves, s owned by the call: the elements and the new one are owned, in the old row or a new one -/
theorem run_append1 {P : Program} (base : Nat) (t ty e : TypeId) (i : TypeInfo) (z : Value) (size bytes : Nat) (ht : P.underlying t = some (.slice e)) (hi : P.info? e = some i) (hz : i.zero = some z)
    (hsize : i.size = size) (hby : i.bytes = bytes) (hzs : z.cells.size = size) (hsz : 0 < size)
    (v : Value) (n : Nat) (xs : List Value) (w : World) (hown : w.ownsRow base e size v n xs) (news : List Value) (hl : news.length = size) (h1 : ∀ u ∈ news, u.oneCell' = true)
    (hn : n ≤ 1000000) (hb : bytes ≤ 100000) (hbase : base ≤ w.heap.size) :
    ∃ g cap w', (Builtin.append_ #[t, t] ty #[v, .slice (some ⟨w.heap.size, 0, none⟩) 1 1]).run P (w.alloc (.cells news.toArray e)) = .ok (.slice (some ⟨g, 0, none⟩) (n + 1) cap) w' ∧
      w'.ownsRow base e size (.slice (some ⟨g, 0, none⟩) (n + 1) cap) (n + 1) (xs ++ news) ∧ Only (fun k => some k = v.ownBlock) w w' ∧ (some g = v.ownBlock ∨ w.heap.size ≤ g) := by
  have hcells : ∀ j u, news[j]? = some u → (w.alloc (.cells news.toArray e)).cell? ((⟨w.heap.size, 0, none⟩ : Addr).add j) = some u := by
    intro j u hu
    rw [Addr.add_lit, cell_of_row _ _ _ _ _ _ (heap_alloc_new w _)]
    simpa using hu
  obtain ⟨v', w', hrun, h2, h3, h4, h5⟩ := run_append_own_at (P := P) (w.alloc (.cells news.toArray e)) base t ty e i z size bytes ht hi hz hsize hby hzs hsz v n xs (hown.alloc _) ⟨w.heap.size, 0, none⟩ 1 1 news (by omega) hcells h1
    (by unfold maxLen; omega) (by have : (n + 1) * bytes ≤ 1000001 * 100000 := Nat.mul_le_mul (by omega) hb; omega) (by simp; omega)
  rcases h2.2 with ⟨_, h⟩ | ⟨g, cap, cur, rfl, hg, _⟩
  · omega
  · refine ⟨g, cap, w', hrun, h2, ⟨h3.os, h3.tape, h3.output, Nat.le_trans (by simp) h3.size, fun k hk hn' => (h3.block k (by simp; omega) hn').trans (Below.heap_alloc w _ k hk)⟩, ?_⟩
    rcases h5 with h5 | h5
    · exact .inl (by simpa [Value.ownBlock] using h5)
    · exact .inr (by simp [Value.ownBlock] at h5; omega)

theorem wpList_append1 {P : Program} {ops : Array Oper} {rest : List Oper} {o : Oper} {a : Act} {Q : Exit → Act → World → Prop} (hgd : o.guard = none) (s x : Operand) (t : TypeId)
    (ho : o.op = .call { callee := .builtin .append, args := #[s, x], argTypes := #[t, t] })
    (base : Nat) (e : TypeId) (i : TypeInfo) (z : Value) (size bytes : Nat) (ht : P.underlying t = some (.slice e)) (hi : P.info? e = some i) (hz : i.zero = some z)
    (hsize : i.size = size) (hby : i.bytes = bytes) (hzs : z.cells.size = size) (hsz : 0 < size)
    (v : Value) (n : Nat) (xs : List Value) (w : World) (hs : a.eval s = v) (hown : w.ownsRow base e size v n xs) (news : List Value) (gz : Nat) (hgz : gz = w.heap.size) (hx : a.eval x = .slice (some ⟨gz, 0, none⟩) 1 1) (hl : news.length = size) (h1 : ∀ u ∈ news, u.oneCell' = true)
    (hn : n ≤ 1000000) (hb : bytes ≤ 100000) (hbase : base ≤ w.heap.size)
    (h : ∀ g cap w', w'.ownsRow base e size (.slice (some ⟨g, 0, none⟩) (n + 1) cap) (n + 1) (xs ++ news) → Only (fun k => some k = v.ownBlock) w w' → (some g = v.ownBlock ∨ w.heap.size ≤ g) →
      wpList P ops Q rest (a.put o.dst (.slice (some ⟨g, 0, none⟩) (n + 1) cap)) w') : wpList P ops Q (o :: rest) a (w.alloc (.cells news.toArray e)) := by
  subst hgz
  refine wpList_plain hgd fun _ hK => ?_
  obtain ⟨g, cap, w', hrun, h2, h3, h4⟩ := run_append1 (P := P) base t o.type e i z size bytes ht hi hz hsize hby hzs hsz v n xs w hown news hl h1 hn hb hbase
  unfold Oper.wp execOp
  simp only [ho, resolve, invoke, builtin, Sem.run_bind, Sem.run_pure, Result.andThen_ok, List.map_toArray, List.map_cons, List.map_nil, hs, hx, hrun]
  exact hK _ _ (h g cap w' h2 h3 h4)

theorem step_append1 {P : Program} {ops : Array Oper} {o : Oper} {a : Act} {K : Act → World → Prop} {Q : Exit → Act → World → Prop} {E : Prop} (hgd : o.guard = none) (s x : Operand) (t : TypeId)
    (ho : o.op = .call { callee := .builtin .append, args := #[s, x], argTypes := #[t, t] })
    (base : Nat) (e : TypeId) (i : TypeInfo) (z : Value) (size bytes : Nat) (ht : P.underlying t = some (.slice e)) (hi : P.info? e = some i) (hz : i.zero = some z)
    (hsize : i.size = size) (hby : i.bytes = bytes) (hzs : z.cells.size = size) (hsz : 0 < size)
    (v : Value) (n : Nat) (xs : List Value) (w : World) (hs : a.eval s = v) (hown : w.ownsRow base e size v n xs) (news : List Value) (gz : Nat) (hgz : gz = w.heap.size) (hx : a.eval x = .slice (some ⟨gz, 0, none⟩) 1 1) (hl : news.length = size) (h1 : ∀ u ∈ news, u.oneCell' = true)
    (hn : n ≤ 1000000) (hb : bytes ≤ 100000) (hbase : base ≤ w.heap.size)
    (h : ∀ g cap w', w'.ownsRow base e size (.slice (some ⟨g, 0, none⟩) (n + 1) cap) (n + 1) (xs ++ news) → Only (fun k => some k = v.ownBlock) w w' → (some g = v.ownBlock ∨ w.heap.size ≤ g) →
      K (a.put o.dst (.slice (some ⟨g, 0, none⟩) (n + 1) cap)) w') : if Region.wanted o (yielded ops a.tmps) = true then Oper.wp P o a (w.alloc (.cells news.toArray e)) K Q else E := by
  have hw : Region.wanted o (yielded ops a.tmps) = true := by simp [Region.wanted, hgd]
  rw [if_pos hw]
  subst hgz
  obtain ⟨g, cap, w', hrun, h2, h3, h4⟩ := run_append1 (P := P) base t o.type e i z size bytes ht hi hz hsize hby hzs hsz v n xs w hown news hl h1 hn hb hbase
  unfold Oper.wp execOp
  simp only [ho, resolve, invoke, builtin, Sem.run_bind, Sem.run_pure, Result.andThen_ok, List.map_toArray, List.map_cons, List.map_nil, hs, hx, hrun]
  exact h g cap w' h2 h3 h4

/-- a slice value that reads as n elements, the cells xs; of an empty one nothing is asked -/
def Sl (w : World) (size : Nat) (A : Option Addr) (n cap : Nat) (xs : List Value) : Prop :=
  xs.length = n * size ∧ n ≤ cap ∧ (A = none → cap = 0) ∧ ∀ a, A = some a → (0 < n → a.spot = none) ∧ ∀ j u, xs[j]? = some u → w.cell? ⟨a.block, a.off + j, none⟩ = some u

section
variable {w w' : World} {size n cap : Nat} {A : Option Addr} {xs : List Value}
theorem Sl.none_ (w : World) (size : Nat) : Sl w size none 0 0 [] := ⟨by simp, Nat.le_refl _, fun _ => rfl, (fun a h => by cases h)⟩
theorem Sl.some_ (h : Sl w size A n cap xs) (hn : 0 < n) : ∃ b o, A = some ⟨b, o, none⟩ := by
  obtain ⟨_, hc, h0, h1⟩ := h
  rcases A with _ | a
  · have := h0 rfl; omega
  · obtain ⟨b, o, s⟩ := a
    have := (h1 _ rfl).1 hn
    simp at this
    subst this
    exact ⟨b, o, rfl⟩
theorem Sl.cell {b o : Nat} (h : Sl w size (some ⟨b, o, none⟩) n cap xs) {j : Nat} {u : Value} (hj : xs[j]? = some u) : w.cell? ⟨b, o + j, none⟩ = some u := (h.2.2.2 _ rfl).2 j u hj
theorem Sl.at0 {b o : Nat} (h : Sl w size (some ⟨b, o, none⟩) n cap xs) {p : Nat} {u : Value} (hj : xs[p]? = some u) : w.cell? ⟨b, o + p, none⟩ = some u := (h.2.2.2 _ rfl).2 p u hj
theorem Sl.at_ {b o : Nat} (h : Sl w size (some ⟨b, o, none⟩) n cap xs) {p j : Nat} {u : Value} (hj : xs[p + j]? = some u) : w.cell? ⟨b, o + p + j, none⟩ = some u := by rw [Nat.add_assoc]; exact (h.2.2.2 _ rfl).2 (p + j) u hj
theorem Sl.of_own {base : Nat} {e : TypeId} (h : w.ownsRow base e size (.slice A n cap) n xs) : Sl w size A n cap xs := by
  refine ⟨h.1, ?_⟩
  rcases h.2 with ⟨hv, h0⟩ | ⟨g, cap', cur, hv, _, hh, hnc, _, hcs, htake⟩
  · simp at hv
    obtain ⟨rfl, rfl, rfl⟩ := hv
    exact ⟨Nat.le_refl _, fun _ => rfl, (fun a h => by cases h)⟩
  · simp at hv
    obtain ⟨rfl, rfl⟩ := hv
    refine ⟨hnc, (fun h => by cases h), fun a ha => ?_⟩
    obtain rfl := Option.some.inj ha
    refine ⟨fun _ => rfl, fun j u hu => ?_⟩
    have := h.cells (g := g) rfl j u hu
    rwa [Addr.add_lit] at this
theorem Sl.keep (h : Sl w size A n cap xs) (hk : ∀ p : Addr, A.map (·.block) = some p.block → w.cell? p ≠ none → w'.cell? p = w.cell? p) : Sl w' size A n cap xs := by
  refine ⟨h.1, h.2.1, h.2.2.1, fun a ha => ⟨(h.2.2.2 a ha).1, fun j u hu => ?_⟩⟩
  have hc := (h.2.2.2 a ha).2 j u hu
  rw [hk _ (by simp [ha]) (by rw [hc]; simp)]
  exact hc
theorem lt_of_cell {p : Addr} (h : w.cell? p ≠ none) : p.block < w.heap.size := by
  rcases hc : w.cell? p with _ | u
  · exact absurd hc h
  · exact World.block_lt_of_cell? w p hc
theorem Sl.only {F : Nat → Prop} (h : Sl w size A n cap xs) (ho : Only F w w') (hF : ∀ k, A.map (·.block) = some k → ¬ F k) : Sl w' size A n cap xs :=
  h.keep fun p hp hc => World.cell?_of_block (ho.block _ (lt_of_cell hc) (hF _ hp))
theorem Sl.new (h : Sl w size A n cap xs) (ho : New w w') : Sl w' size A n cap xs := h.only ho (fun _ _ => id)
theorem Sl.below {B : Nat} (h : Sl w size A n cap xs) (ho : Below B w w') (hF : ∀ k, A.map (·.block) = some k → k < B) : Sl w' size A n cap xs :=
  h.keep fun p hp hc => World.cell?_of_block (ho.block _ (hF _ hp))
theorem Sl.below_ (h : Sl w size A n cap xs) (ho : Below w.heap.size w w') : Sl w' size A n cap xs :=
  h.keep fun p _ hc => World.cell?_of_block (ho.block _ (lt_of_cell hc))
theorem Sl.of_blk {g : Nat} {t : TypeId} {cs : Array Value} {o : Nat} (h : Blk w g t cs) (hn : n ≤ cap) (hx : xs.length = n * size) (hc : ∀ j u, xs[j]? = some u → cs[o + j]? = some u) : Sl w size (some ⟨g, o, none⟩) n cap xs :=
  by
  refine ⟨hx, hn, (fun h => by cases h), fun a ha => ?_⟩
  obtain rfl := Option.some.inj ha
  exact ⟨fun _ => rfl, fun j u hu => (h.cell (o + j)).trans (hc j u hu)⟩
end

theorem Sl.of_list {w : World} {size n cap g : Nat} {t : TypeId} {xs : List Value} (h : Blk w g t xs.toArray) (hn : n ≤ cap) (hx : xs.length = n * size) : Sl w size (some ⟨g, 0, none⟩) n cap xs :=
  Sl.of_blk h hn hx (fun j u hu => by rw [Nat.zero_add, List.getElem?_toArray]; exact hu)

/-- 'append(s, x...)', s owned by the call, x any slice that reads -/
theorem run_appends {P : Program} (base : Nat) (t ty e : TypeId) (i : TypeInfo) (z : Value) (size bytes : Nat) (ht : P.underlying t = some (.slice e)) (hi : P.info? e = some i) (hz : i.zero = some z)
    (hsize : i.size = size) (hby : i.bytes = bytes) (hzs : z.cells.size = size) (hsz : 0 < size)
    (v : Value) (n : Nat) (xs : List Value) (w : World) (hown : w.ownsRow base e size v n xs) (A : Option Addr) (m c : Nat) (ys : List Value) (hr : Sl w size A m c ys) (h1 : ∀ u ∈ ys, u.oneCell' = true)
    (h63 : n + m ≤ maxLen) (hbytes : (n + m) * bytes ≤ 140737488355328) (hbase : base ≤ w.heap.size) :
    ∃ v' w', (Builtin.append_ #[t, t] ty #[v, .slice A m c]).run P w = .ok v' w' ∧ w'.ownsRow base e size v' (n + m) (xs ++ ys) ∧ Only (fun k => some k = v.ownBlock) w w' ∧
      (v'.ownBlock = v.ownBlock ∨ v'.ownBlock = some w.heap.size) ∧ (0 < n + m → ∃ g cap, v' = .slice (some ⟨g, 0, none⟩) (n + m) cap) := by
  rcases A with _ | ad
  · have hc0 := hr.2.2.1 rfl
    have hmc := hr.2.1
    obtain rfl : m = 0 := by omega
    subst hc0
    have hn : ys = [] := List.eq_nil_of_length_eq_zero (by simpa using hr.1)
    subst hn
    refine ⟨v, w, run_append_owned_none (P := P) w base t ty e i size ht hi v n xs hown, by simpa using hown, Only.refl _ _, .inl rfl, fun h0 => ?_⟩
    rcases hown.2 with ⟨rfl, h⟩ | ⟨g, cap, cur, rfl, _⟩
    · omega
    · exact ⟨g, cap, rfl⟩
  · have hcells : ∀ j u, ys[j]? = some u → w.cell? (ad.add j) = some u := by
      intro j u hu
      obtain ⟨hs, hcell⟩ := hr.2.2.2 ad rfl
      have := hcell j u hu
      obtain ⟨b, o, sp⟩ := ad
      have hm : 0 < m := by
        rcases Nat.eq_zero_or_pos m with h0 | h0
        · subst h0
          have hn : ys = [] := List.eq_nil_of_length_eq_zero (by simpa using hr.1)
          subst hn
          simp at hu
        · exact h0
      have hs := hs hm
      simp at hs
      subst hs
      rw [Addr.add_lit]
      exact this
    obtain ⟨v', w', hrun, h2, h3, h4, h5⟩ := run_append_own_at (P := P) w base t ty e i z size bytes ht hi hz hsize hby hzs hsz v n xs hown ad m c ys hr.1 hcells h1 h63 hbytes hbase
    refine ⟨v', w', hrun, h2, ⟨h3.os, h3.tape, h3.output, h3.size, h3.block⟩, h5, fun h0 => ?_⟩
    rcases h2.2 with ⟨_, h⟩ | ⟨g, cap, cur, rfl, _⟩
    · omega
    · exact ⟨g, cap, rfl⟩

theorem wpList_appends {P : Program} {ops : Array Oper} {rest : List Oper} {o : Oper} {a : Act} {Q : Exit → Act → World → Prop} (hgd : o.guard = none) (s x : Operand) (t : TypeId)
    (ho : o.op = .call { callee := .builtin .append, args := #[s, x], argTypes := #[t, t] })
    (base : Nat) (e : TypeId) (i : TypeInfo) (z : Value) (size bytes : Nat) (ht : P.underlying t = some (.slice e)) (hi : P.info? e = some i) (hz : i.zero = some z)
    (hsize : i.size = size) (hby : i.bytes = bytes) (hzs : z.cells.size = size) (hsz : 0 < size)
    (v : Value) (n : Nat) (xs : List Value) (w : World) (hs : a.eval s = v) (hown : w.ownsRow base e size v n xs) (A : Option Addr) (m c : Nat) (ys : List Value) (hx : a.eval x = .slice A m c) (hr : Sl w size A m c ys) (h1 : ∀ u ∈ ys, u.oneCell' = true)
    (h63 : n + m ≤ maxLen) (hbytes : (n + m) * bytes ≤ 140737488355328) (hbase : base ≤ w.heap.size)
    (h : ∀ v' w', w'.ownsRow base e size v' (n + m) (xs ++ ys) → Only (fun k => some k = v.ownBlock) w w' → (v'.ownBlock = v.ownBlock ∨ v'.ownBlock = some w.heap.size) → (0 < n + m → ∃ g cap, v' = .slice (some ⟨g, 0, none⟩) (n + m) cap) →
      wpList P ops Q rest (a.put o.dst v') w') : wpList P ops Q (o :: rest) a w := by
  refine wpList_plain hgd fun _ hK => ?_
  obtain ⟨v', w', hrun, h2, h3, h4, h5⟩ := run_appends (P := P) base t o.type e i z size bytes ht hi hz hsize hby hzs hsz v n xs w hown A m c ys hr h1 h63 hbytes hbase
  unfold Oper.wp execOp
  simp only [ho, resolve, invoke, builtin, Sem.run_bind, Sem.run_pure, Result.andThen_ok, List.map_toArray, List.map_cons, List.map_nil, hs, hx, hrun]
  exact hK _ _ (h v' w' h2 h3 h4 h5)

theorem own_only {F : Nat → Prop} {w w' : World} {base : Nat} {e : TypeId} {size : Nat} {v : Value} {n : Nat} {xs : List Value} (h : w.ownsRow base e size v n xs) (ho : Only F w w') (hl : ∀ g, v.ownBlock = some g → ¬ F g) : w'.ownsRow base e size v n xs := by
  refine ⟨h.1, ?_⟩
  rcases h.2 with h1 | ⟨g, cap, cur, rfl, hg, hh, r⟩
  · exact .inl h1
  · exact .inr ⟨g, cap, cur, rfl, hg, (Blk.only (t := e) hh ho (hl g rfl)), r⟩
theorem own_lt {w : World} {base : Nat} {e : TypeId} {size : Nat} {v : Value} {n : Nat} {xs : List Value} (h : w.ownsRow base e size v n xs) {g : Nat} (hg : v.ownBlock = some g) : g < w.heap.size := (h.lt g hg).2
theorem own_ne {w : World} {base e e' : Nat} {size size' n n' : Nat} {v v' : Value} {xs xs' : List Value} (h : w.ownsRow base e size v n xs) (h' : w.ownsRow base e' size' v' n' xs') (hne : e ≠ e') {g : Nat} (hg : v.ownBlock = some g) (hg' : v'.ownBlock = some g) : False := by
  rcases h.2 with ⟨rfl, _⟩ | ⟨g1, _, _, rfl, _, hh, _⟩
  · simp [Value.ownBlock] at hg
  · rcases h'.2 with ⟨rfl, _⟩ | ⟨g2, _, _, rfl, _, hh', _⟩
    · simp [Value.ownBlock] at hg'
    · simp [Value.ownBlock] at hg hg'
      subst hg
      subst hg'
      exact Blk.ne_ (t := e) (t' := e') hh hh' hne rfl
theorem only_set (w : World) (p : Addr) (u : Value) : Only (fun k => k = p.block) w (w.setCell p u) := (Only.refl (fun k => k = p.block) w).setCell (p := p) (.inl rfl) u
@[simp] theorem ownBlock_some (g n cap : Nat) : (Value.slice (some ⟨g, 0, none⟩) n cap).ownBlock = some g := rfl
@[simp] theorem ownBlock_none (n cap : Nat) : (Value.slice none n cap).ownBlock = none := rfl

/-- elements of s cells each, one behind the other -/
theorem flat_length {α : Type} {f : α → List Value} {s : Nat} (hf : ∀ a, (f a).length = s) (l : List α) : (l.flatMap f).length = l.length * s := by
  induction l with
  | nil => simp
  | cons a l ih => simp [List.flatMap_cons, ih, hf, Nat.add_mul]; omega
theorem flat_get {α : Type} {f : α → List Value} {s : Nat} (hf : ∀ a, (f a).length = s) (l : List α) {k : Nat} (hk : k < l.length) {j : Nat} (hj : j < s) : (l.flatMap f)[k * s + j]? = (f l[k])[j]? := by
  induction l generalizing k with
  | nil => simp at hk
  | cons a l ih =>
    rw [List.flatMap_cons]
    cases k with
    | zero => simp [List.getElem?_append, hf, hj]
    | succ k =>
      have hk' : k < l.length := by simpa using hk
      rw [List.getElem?_append_right (by rw [hf, Nat.add_mul]; omega), hf]
      have : (k + 1) * s + j - s = k * s + j := by rw [Nat.add_mul]; omega
      rw [this, ih hk']
      simp
theorem flat_one {α : Type} {f : α → List Value} (hf : ∀ a, ∀ u ∈ f a, u.oneCell' = true) (l : List α) : ∀ u ∈ l.flatMap f, u.oneCell' = true := by
  intro u hu
  obtain ⟨a, _, h⟩ := List.mem_flatMap.1 hu
  exact hf a u h

theorem flat_get0 {α : Type} {f : α → List Value} {s : Nat} (hf : ∀ a, (f a).length = s) (l : List α) {k : Nat} (hk : k < l.length) (hs : 0 < s) : (l.flatMap f)[k * s]? = (f l[k])[0]? := flat_get hf l hk (j := 0) hs

theorem own_form {w : World} {base : Nat} {e : TypeId} {size : Nat} {v : Value} {n : Nat} {xs : List Value} (h : w.ownsRow base e size v n xs) : ∃ A cap, v = .slice A n cap ∧ Sl w size A n cap xs := by
  have h' := h
  rcases h.2 with ⟨rfl, rfl⟩ | ⟨g, cap, cur, rfl, _⟩
  · exact ⟨_, _, rfl, Sl.of_own h'⟩
  · exact ⟨_, _, rfl, Sl.of_own h'⟩

theorem flat_get' {α : Type} {f : α → List Value} {s : Nat} (l : List α) (hf : ∀ a ∈ l, (f a).length = s) {k : Nat} (hk : k < l.length) {j : Nat} (hj : j < s) : (l.flatMap f)[k * s + j]? = (f l[k])[j]? := by
  induction l generalizing k with
  | nil => simp at hk
  | cons a l ih =>
    rw [List.flatMap_cons]
    have ha := hf a (by simp)
    cases k with
    | zero => simp [List.getElem?_append, ha, hj]
    | succ k =>
      have hk' : k < l.length := by simpa using hk
      rw [List.getElem?_append_right (by rw [ha, Nat.add_mul]; omega), ha]
      have : (k + 1) * s + j - s = k * s + j := by rw [Nat.add_mul]; omega
      rw [this, ih (fun b hb => hf b (by simp [hb])) hk']
      simp
theorem flat_length' {α : Type} {f : α → List Value} {s : Nat} (l : List α) (hf : ∀ a ∈ l, (f a).length = s) : (l.flatMap f).length = l.length * s := by
  induction l with
  | nil => simp
  | cons a l ih =>
    rw [List.flatMap_cons, List.length_append, ih (fun b hb => hf b (by simp [hb])), hf a (by simp), List.length_cons, Nat.add_mul]
    omega

/-- the results of a function that answers a struct and one thing more -/
theorem results_pair {P : Program} {fn : Func} {p u : Tmp} {ty : TypeId} (h : fn.results = #[.cell p ty, .tmp u]) (tmps : Array Value) (w : World) (g : Nat) (t : TypeId) (cs : Array Value) (d : TypeDesc)
    (hp : tmps.getD p undef = .pointer (some ⟨g, 0, none⟩)) (hg : Blk w g t cs)
    (hu : P.underlying ty = some d) (hd : (match d with | .struct _ | .array _ _ => true | _ => false) = true) (hi : (P.info? ty).map (·.size) = some cs.size) :
    (results fn tmps).run P w = .ok (.tuple #[.agg cs, tmps.getD u undef]) w := by
  rw [results_cell_tmp h, hp]
  simp [asAddr, run_loadVar_row w g t ty cs (0, 0) d hg hu hd hi, Result.andThen]

end Go.Proofs.YtngphebjmmencaaDoor
