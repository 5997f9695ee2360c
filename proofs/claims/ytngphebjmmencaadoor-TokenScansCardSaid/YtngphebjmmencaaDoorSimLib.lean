/- What simple steps come to: for 'simp only'. -/
import Derived.Test.YtngphebjmmencaaDoorRcEq
namespace Go.Proofs.YtngphebjmmencaaDoor
set_option linter.unusedSimpArgs false
set_option linter.unusedVariables false
open Go

section
variable {C : CallR} {nv : Nat} {k : List RK} {V L : List AV} {h h0 : AH} {kd : Kd} {q : IntKind}
theorem b_add {a b : Int} : binA kd .add (.int q a) (.int q b) = some (.int q (q.wrap (a + b))) := by simp [binA, intA]
theorem b_sub {a b : Int} : binA kd .sub (.int q a) (.int q b) = some (.int q (q.wrap (a - b))) := by simp [binA, intA]
theorem b_mul {a b : Int} : binA kd .mul (.int q a) (.int q b) = some (.int q (q.wrap (a * b))) := by simp [binA, intA]
theorem b_eql {a b : Int} : binA kd .eql (.int q a) (.int q b) = some (.bool (decide (a = b))) := by simp [binA, intA]; rfl
theorem b_neq {a b : Int} : binA kd .neq (.int q a) (.int q b) = some (.bool (!decide (a = b))) := by simp [binA, intA]; rfl
theorem b_lss {a b : Int} : binA kd .lss (.int q a) (.int q b) = some (.bool (decide (a < b))) := by simp [binA, intA]
theorem b_leq {a b : Int} : binA kd .leq (.int q a) (.int q b) = some (.bool (decide (a ≤ b))) := by simp [binA, intA]
theorem b_gtr {a b : Int} : binA kd .gtr (.int q a) (.int q b) = some (.bool (decide (b < a))) := by simp [binA, intA]
theorem b_geq {a b : Int} : binA kd .geq (.int q a) (.int q b) = some (.bool (decide (b ≤ a))) := by simp [binA, intA]
theorem b_and {a b : Int} : binA kd .and (.int q a) (.int q b) = some (.int q (q.wrap (BitVec.ofInt q.bits a &&& BitVec.ofInt q.bits b).toNat)) := by simp [binA, intA]
theorem b_or {a b : Int} : binA kd .or (.int q a) (.int q b) = some (.int q (q.wrap (BitVec.ofInt q.bits a ||| BitVec.ofInt q.bits b).toNat)) := by simp [binA, intA]
theorem b_andNot {a b : Int} : binA kd .andNot (.int q a) (.int q b) = some (.int q (q.wrap (BitVec.ofInt q.bits a &&& ~~~(BitVec.ofInt q.bits b)).toNat)) := by simp [binA, intA]
theorem b_seql {a b : List UInt8} : binA kd .eql (.str a) (.str b) = some (.bool (decide (a = b))) := by by_cases hh : a = b <;> simp [binA, hh]
theorem b_sneq {a b : List UInt8} : binA kd .neq (.str a) (.str b) = some (.bool (!decide (a = b))) := by by_cases hh : a = b <;> simp [binA, hh]
theorem b_beql {a b : Bool} : binA .bool .eql (.bool a) (.bool b) = some (.bool (a == b)) := by simp [binA, eqA]
theorem b_bneq {a b : Bool} : binA .bool .neq (.bool a) (.bool b) = some (.bool (!(a == b))) := by simp [binA, eqA]
theorem b_snil {z : TypeId} {es : List (List AV)} {i : Option Nat} : binA .slice .eql (.isl i z es) .nils = some (.bool false) := by simp [binA, eqA]
theorem b_snilnil : binA .slice .eql .nils .nils = some (.bool true) := by simp [binA, eqA]
theorem b_snilM {b o n : Nat} {z : TypeId} : binA .slice .eql (.msl b o n z) .nils = some (.bool false) := by simp [binA, eqA]
theorem u_not {b : Bool} : unA .not (.bool b) = some (.bool !b) := rfl
theorem u_neg {a : Int} : unA .neg (.int q a) = some (.int q (q.wrap (0 - a))) := rfl
theorem c_int {p : IntKind} {a : Int} : cvA (.int q) (.int p a) = some (.int q (q.wrap a)) := rfl
theorem c_str {s : List UInt8} : cvA .str (.str s) = some (.str s) := rfl

theorem l_ptr {agg : Bool} {n b i off : Nat} : loadA agg n h (.ptr b i off) = ((h.cell b).bind (·[i]?)).bind fun e => ldA agg n e off := rfl
theorem l_ip {agg : Bool} {n off : Nat} {e : List AV} : loadA agg n h (.ip e off) = ldA agg n e off := rfl
theorem ld_one {n off : Nat} {e : List AV} : ldA false n e off = e[off]? := rfl
theorem ld_all {n : Nat} {e : List AV} (he : e.length = n) : ldA true n e 0 = some (.agg e) := by subst he; simp [ldA]
theorem s_ptr {n b i off : Nat} {x : AV} {es : List (List AV)} {e : List AV} (hb : h.cell b = some es) (hi : es[i]? = some e) (h1 : x.cells.all AV.one = true) (h2 : x.cells.length = n) (h3 : off + n ≤ e.length) :
    storeA n h (.ptr b i off) x = some (h.set b (some (es.set i (stA e off x.cells)))) := by simp [storeA, hb, hi, h1, h2, h3]
theorem ix_isl {e el : TypeId} {id : Option Nat} {es : List (List AV)} {i : Nat} {r : List AV} (he : e = el) (hi : es[i]? = some r) : ixaR (some e) none (.isl id el es) (.int q (i : Int)) = some (.ip r 0) := by simp [ixaR, he, hi]
theorem ix_msl {e el : TypeId} {b o n i : Nat} (he : e = el) (hi : i < n) : ixaR (some e) none (.msl b o n el) (.int q (i : Int)) = some (.ptr b (o + i) 0) := by simp [ixaR, he, hi]
theorem f_ptr {b i o off : Nat} : fldA off (.ptr b i o) = some (.ptr b i (o + off)) := rfl
theorem f_ip {e : List AV} {o off : Nat} : fldA off (.ip e o) = some (.ip e (o + off)) := rfl
theorem n_ptr {b i o : Nat} : nilcR (.ptr b i o) = some (.ptr b i o) := rfl
theorem n_ip {e : List AV} {o : Nat} : nilcR (.ip e o) = some (.ip e o) := rfl
theorem len_nils : lenA .nils = some 0 := rfl
theorem len_isl {id : Option Nat} {el : TypeId} {es : List (List AV)} : lenA (.isl id el es) = some es.length := rfl
theorem len_msl {b o n : Nat} {el : TypeId} : lenA (.msl b o n el) = some n := rfl
theorem len_str {s : List UInt8} : lenA (.str s) = some s.length := rfl
theorem fits_nils {s : Bool} {e : TypeId} : fitsR s (some e) .nils = true := rfl
theorem fits_isl {s : Bool} {e : TypeId} {id : Option Nat} {es : List (List AV)} : fitsR s (some e) (.isl id e es) = true := by simp [fitsR]
theorem fits_msl {s : Bool} {e : TypeId} {b o n : Nat} : fitsR s (some e) (.msl b o n e) = true := by simp [fitsR]
theorem fits_str {e : Option TypeId} {l : List UInt8} : fitsR true e (.str l) = true := rfl

theorem set_cell {b j : Nat} {es : Option (List (List AV))} : (h.set b es).cell j = if j = b then es else h.cell j := rfl
theorem set_same {b : Nat} {es : Option (List (List AV))} : (h.set b es).cell b = es := by simp [AH.set]
theorem set_ne {b j : Nat} {es : Option (List (List AV))} (hj : j ≠ b) : (h.set b es).cell j = h.cell j := by simp [AH.set, hj]
theorem set_n {b : Nat} {es : Option (List (List AV))} : (h.set b es).n = h.n := rfl
theorem set_ids {b : Nat} {es : Option (List (List AV))} : (h.set b es).ids = h.ids := rfl
theorem set_hw {b : Nat} {es : Option (List (List AV))} : (h.set b es).hw = h.hw := rfl
theorem push_same {es : List (List AV)} : (h.push es).cell h.n = some es := by simp [AH.push]
theorem push_ne {es : List (List AV)} {j : Nat} (hj : j ≠ h.n) : (h.push es).cell j = h.cell j := by simp [AH.push, hj]
theorem push_n {es : List (List AV)} : (h.push es).n = h.n + 1 := rfl
theorem push_ids {es : List (List AV)} : (h.push es).ids = h.ids := rfl
theorem push_hw {es : List (List AV)} : (h.push es).hw = h.hw := rfl
theorem fresh_cell {m : Nat} : (h.fresh m).cell = h.cell := rfl
theorem fresh_n {m : Nat} : (h.fresh m).n = h.n := rfl
theorem fresh_ids {m : Nat} : (h.fresh m).ids = h.ids + 1 := rfl
theorem fresh_hw {m : Nat} : (h.fresh m).hw h.ids = m := by simp [AH.fresh]
theorem fresh_hw_ne {m j : Nat} (hj : j ≠ h.ids) : (h.fresh m).hw j = h.hw j := by simp [AH.fresh, hj]
theorem grow_cell {i m : Nat} : (h.grow i m).cell = h.cell := rfl
theorem grow_n {i m : Nat} : (h.grow i m).n = h.n := rfl
theorem grow_ids {i m : Nat} : (h.grow i m).ids = h.ids := rfl
theorem grow_hw {i m : Nat} : (h.grow i m).hw i = m := by simp [AH.grow]
theorem grow_hw_ne {i m j : Nat} (hj : j ≠ i) : (h.grow i m).hw j = h.hw j := by simp [AH.grow, hj]

/-- a slice that the call builds, one behind the other -/
def Acc (h0 h : AH) (e : TypeId) (v : AV) (acc : List (List AV)) : Prop := (acc = [] ∧ v = .nils) ∨ ∃ id, acc ≠ [] ∧ h0.ids ≤ id ∧ id < h.ids ∧ h.hw id = acc.length ∧ v = .isl (some id) e acc
theorem acc_nil (h0 h : AH) (e : TypeId) : Acc h0 h e .nils [] := .inl ⟨rfl, rfl⟩
theorem acc_app {e : TypeId} {v : AV} {acc : List (List AV)} (ha : Acc h0 h e v acc) (g : GrewA h0 h) {row : List AV} (h1 : row.all AV.one = true) (hl : acc.length ≤ 1000000) :
    ∃ v' h', appendA false e v (.isl (some h.ids) e [row]) (h.fresh 1) = some (v', h') ∧ Acc h0 h' e v' (acc ++ [row]) ∧ GrewA h0 h' ∧ h'.cell = h.cell ∧ h'.n = h.n := by
  have g1 : GrewA h0 (h.fresh 1) := g.trans (GrewA.fresh h 1)
  have h1' : ∀ x, x ∈ row → x.one = true := by simpa using h1
  rcases ha with ⟨rfl, rfl⟩ | ⟨id, a0, a1, a2, a3, rfl⟩
  · refine ⟨.isl (some (h.ids + 1)) e [row], (h.fresh 1).fresh 1, ?_, .inr ⟨h.ids + 1, by simp, ?_, ?_, ?_, by simp⟩, g1.trans (GrewA.fresh _ 1), rfl, rfl⟩
    · simp only [appendA, elemsA, if_true, Option.bind_some, List.length_singleton, Nat.one_ne_zero, if_false, moreA]
      rw [if_pos ⟨by omega, by omega, by simpa using h1'⟩]
      rfl
    · have := g.ids; omega
    · simp [AH.fresh]
    · simp [AH.fresh]
  · have hne : id ≠ h.ids := by omega
    refine ⟨.isl (some id) e (acc ++ [row]), (h.fresh 1).grow id (acc.length + 1), ?_, .inr ⟨id, by simp, a1, ?_, ?_, rfl⟩, g1.grow a1, rfl, rfl⟩
    · simp only [appendA, elemsA, if_true, Option.bind_some, List.length_singleton, Nat.one_ne_zero, if_false, moreA]
      rw [if_pos ⟨by omega, by omega, by simpa using h1'⟩, fresh_hw_ne hne, a3]
      simp only [true_and, hl, if_true]
    · simp [AH.grow, AH.fresh]; omega
    · simp [AH.grow]
theorem acc_len {e : TypeId} {v : AV} {acc : List (List AV)} (ha : Acc h0 h e v acc) : lenA v = some acc.length ∧ ∀ s, fitsR s (some e) v = true := by
  rcases ha with ⟨rfl, rfl⟩ | ⟨id, _, _, _, _, rfl⟩
  · exact ⟨rfl, fun s => rfl⟩
  · exact ⟨rfl, fun s => by simp [fitsR]⟩

/-- a cell that speaks of no memory -/
def flatA : AV → Bool
  | .bool _ | .int _ _ | .str _ | .nilp | .nils | .nilf | .nili => true
  | _ => false
theorem flat_wk {v : AV} (h : flatA v = true) : wkA v = some v := by cases v <;> simp_all [flatA, wkA]
theorem flat_wkL : ∀ {l : List AV}, l.all flatA = true → wkL l = some l
  | [], _ => rfl
  | v :: l, h => by
    simp only [List.all_cons, Bool.and_eq_true] at h
    simp [wkL, flat_wk h.1, flat_wkL h.2]
theorem flat_wkR : ∀ {l : List (List AV)}, (∀ r ∈ l, r.all flatA = true) → wkR l = some l
  | [], _ => rfl
  | v :: l, h => by simp only [wkR, flat_wkL (h v (List.mem_cons_self ..)), flat_wkR fun r hr => h r (List.mem_cons_of_mem _ hr)]
/-- a slice that was built: nil, if nothing is in it -/
def lstA (e : TypeId) (es : List (List AV)) : AV := if es = [] then .nils else .isl none e es
theorem acc_wk {e : TypeId} {v : AV} {acc : List (List AV)} (ha : Acc h0 h e v acc) (hf : ∀ r ∈ acc, r.all flatA = true) : wkA v = some (lstA e acc) := by
  rcases ha with ⟨rfl, rfl⟩ | ⟨id, a0, _, a2, a3, rfl⟩
  · rfl
  · simp only [wkA, flat_wkR hf, Option.map_some, lstA, if_neg a0]

/-- it reads as these rows -/
structure IsL (e : TypeId) (v : AV) (rows : List (List AV)) : Prop where
  len : lenA v = some rows.length
  fits : ∀ s, fitsR s (some e) v = true
  ix : ∀ (q : IntKind) (i : Nat) row, rows[i]? = some row → ixaR (some e) none v (.int q (i : Int)) = some (.ip row 0)
theorem isL_isl (id : Option Nat) (e : TypeId) (rows : List (List AV)) : IsL e (.isl id e rows) rows := ⟨rfl, fun s => fits_isl, fun q i row h => ix_isl rfl h⟩
theorem isL_nils (e : TypeId) : IsL e .nils [] := ⟨rfl, fun s => rfl, fun q i row h => by simp at h⟩
theorem isL_lst (e : TypeId) (rows : List (List AV)) : IsL e (lstA e rows) rows := by
  unfold lstA
  split
  · rename_i h
    subst h
    exact isL_nils e
  · exact isL_isl _ _ _
theorem isL_acc {e : TypeId} {v : AV} {acc : List (List AV)} (ha : Acc h0 h e v acc) : IsL e v acc := by
  rcases ha with ⟨rfl, rfl⟩ | ⟨id, _, _, _, _, rfl⟩
  · exact isL_nils e
  · exact isL_isl _ _ _

def gB (w : Bool) : AV → Option Bool
  | .bool b => some (if w then b else !b)
  | .tup _ => some false
  | _ => none
theorem gB_tup {w : Bool} {vs : List AV} : gB w (.tup vs) = some false := rfl
theorem g_eq {a : Arg} {w : Bool} : guardR V L a w = gB w (arg V L a) := by unfold guardR gB; cases arg V L a <;> rfl
theorem gB_bool {b w : Bool} : gB w (.bool b) = some (if w = true then b else !b) := rfl
theorem e_blk {i id : Nat} : exitR id (.blk i :: k) = if i = id then some k else exitR id k := rfl
theorem e_ss {l : List RS} {id : Nat} : exitR id (.ss l :: k) = exitR id k := rfl
theorem e_lp {l : List RS} {id : Nat} : exitR id (.lp l :: k) = exitR id k := rfl
theorem e_ops {l : List RI} {id : Nat} : exitR id (.ops l :: k) = exitR id k := rfl
theorem res_nil : resR V h [] = some [] := rfl
theorem res_v {j : Nat} {rs : List RRes} : resR V h (.v j :: rs) = (resR V h rs).map fun l => V.getD j .junk :: l := rfl
theorem res_cell {agg : Bool} {n j : Nat} {rs : List RRes} : resR V h (.cell agg n j :: rs) = (loadA agg n h (V.getD j .junk)).bind fun v => (resR V h rs).map fun l => v :: l := rfl
theorem one_0 : oneA [] = .tup [] := rfl
theorem one_1 {a : AV} : oneA [a] = a := rfl
theorem one_2 {a b : AV} : oneA [a, b] = .tup [a, b] := rfl
theorem one_3 {a b c : AV} : oneA [a, b, c] = .tup [a, b, c] := rfl
theorem k_zero {a d : AV} {l : List AV} : (a :: l).getD 0 d = a := rfl
theorem k_succ {a d : AV} {l : List AV} {n : Nat} : (a :: l).getD (n + 1) d = l.getD n d := rfl
theorem k_nil {d : AV} {n : Nat} : ([] : List AV).getD n d = d := rfl
theorem k_set0 {a b : AV} {l : List AV} : (a :: l).set 0 b = b :: l := rfl
theorem k_set1 {a b : AV} {l : List AV} {n : Nat} : (a :: l).set (n + 1) b = a :: l.set n b := rfl
theorem x_zero {α : Type} {a : α} {l : List α} : (a :: l)[0]? = some a := rfl
theorem x_succ {α : Type} {a : α} {l : List α} {n : Nat} : (a :: l)[n + 1]? = l[n]? := rfl
theorem x_nil {α : Type} {n : Nat} : ([] : List α)[n]? = none := rfl
theorem cells_agg {cs : List AV} : (AV.agg cs).cells = cs := rfl
theorem cells_int {n : Int} : (AV.int q n).cells = [.int q n] := rfl
theorem cells_bool {b : Bool} : (AV.bool b).cells = [.bool b] := rfl
theorem cells_str {b : List UInt8} : (AV.str b).cells = [.str b] := rfl
theorem cells_nils : AV.nils.cells = [.nils] := rfl
theorem cells_nilp : AV.nilp.cells = [.nilp] := rfl
theorem cells_isl {i : Option Nat} {z : TypeId} {es : List (List AV)} : (AV.isl i z es).cells = [.isl i z es] := rfl
theorem cells_msl {b o n : Nat} {z : TypeId} : (AV.msl b o n z).cells = [.msl b o n z] := rfl
theorem cells_ptr {b o n : Nat} : (AV.ptr b o n).cells = [.ptr b o n] := rfl
theorem one_int {n : Int} : (AV.int q n).one = true := rfl
theorem one_bool {b : Bool} : (AV.bool b).one = true := rfl
theorem one_str {b : List UInt8} : (AV.str b).one = true := rfl
theorem one_nils : AV.nils.one = true := rfl
theorem one_nilp : AV.nilp.one = true := rfl
theorem one_isl {i : Option Nat} {z : TypeId} {es : List (List AV)} : (AV.isl i z es).one = true := rfl
theorem one_msl {b o n : Nat} {z : TypeId} : (AV.msl b o n z).one = true := rfl
theorem one_ptr {b o n : Nat} : (AV.ptr b o n).one = true := rfl
theorem one_iface {t : TypeId} {v : AV} : (AV.iface t v).one = true := rfl
theorem all_cons {p : AV → Bool} {a : AV} {l : List AV} : (a :: l).all p = (p a && l.all p) := rfl
theorem all_nil {p : AV → Bool} : ([] : List AV).all p = true := rfl
theorem ext_tup {vs : List AV} {i : Nat} : extR (.tup vs) i = vs[i]? := rfl
theorem fill_nil {pl : List (Nat × Nat)} {cs : List AV} : fillA pl cs [] = some cs := by cases pl <;> rfl
def f1A (pl : List (Nat × Nat)) (cs : List AV) (v : AV) (r : List (Nat × AV)) : Option (Nat × Nat) → Option (List AV)
  | some (off, size) => if v.cells.length = size ∧ off + size ≤ cs.length ∧ v.cells.all AV.one = true then fillA pl (stA cs off v.cells) r else none
  | none => none
theorem fill_cons {pl : List (Nat × Nat)} {cs : List AV} {i : Nat} {v : AV} {r : List (Nat × AV)} : fillA pl cs ((i, v) :: r) = f1A pl cs v r pl[i]? := by
  conv => lhs; unfold fillA
  cases pl[i]? with
  | none => rfl
  | some q => rfl
theorem fill_some {pl : List (Nat × Nat)} {cs : List AV} {off size : Nat} {v : AV} {r : List (Nat × AV)} (h1 : v.cells.length = size) (h2 : off + size ≤ cs.length) (h3 : v.cells.all AV.one = true) :
    f1A pl cs v r (some (off, size)) = fillA pl (stA cs off v.cells) r := by simp [f1A, h1, h2, h3]
def s1A (n : Nat) (h : AH) (b i off : Nat) (cs : List AV) : Option (List (List AV)) → Option AH
  | some es => (es[i]?).bind fun e => if cs.all AV.one = true ∧ cs.length = n ∧ off + n ≤ e.length then some (h.set b (some (es.set i (stA e off cs)))) else none
  | none => none
def s2A (n : Nat) (h : AH) (b i off : Nat) (cs : List AV) (es : List (List AV)) : Option (List AV) → Option AH
  | some e => if cs.all AV.one = true ∧ cs.length = n ∧ off + n ≤ e.length then some (h.set b (some (es.set i (stA e off cs)))) else none
  | none => none
theorem s_1 {n b i off : Nat} {x : AV} : storeA n h (.ptr b i off) x = s1A n h b i off x.cells (h.cell b) := by
  simp only [storeA]
  cases h.cell b <;> rfl
theorem s_2 {n b i off : Nat} {cs : List AV} {es : List (List AV)} : s1A n h b i off cs (some es) = s2A n h b i off cs es es[i]? := by
  simp only [s1A]
  cases es[i]? <;> rfl
theorem s_3 {n b i off : Nat} {cs : List AV} {es : List (List AV)} {e : List AV} (h1 : cs.all AV.one = true) (h2 : cs.length = n) (h3 : off + n ≤ e.length) : s2A n h b i off cs es (some e) = some (h.set b (some (es.set i (stA e off cs)))) := by simp [s2A, h1, h2, h3]
theorem fillE_nil {n : Nat} {es : List (List AV)} : fillE n es [] = some es := by cases es <;> rfl
theorem fillE_cons {n : Nat} {es : List (List AV)} {i : Nat} {v : AV} {r : List (Nat × AV)} (h1 : v.cells.length = n) (h2 : i < es.length) (h3 : v.cells.all AV.one = true) : fillE n es ((i, v) :: r) = fillE n (es.set i v.cells) r := by
  conv => lhs; unfold fillE
  simp [h1, h2, h3]
theorem stA_eq {e cs : List AV} {off : Nat} : stA e off cs = e.take off ++ cs ++ e.drop (off + cs.length) := rfl
theorem st_all {e cs : List AV} (he : e.length = cs.length) : stA e 0 cs = cs := by simp [stA, he]
theorem st_nil {e : List AV} : stA e 0 [] = e := by simp [stA]
theorem st_cons {a c : AV} {e cs : List AV} : stA (a :: e) 0 (c :: cs) = c :: stA e 0 cs := by simp [stA]
theorem st_succ {a : AV} {e cs : List AV} {n : Nat} : stA (a :: e) (n + 1) cs = a :: stA e n cs := by simp [stA, Nat.add_right_comm]
theorem set_set {b : Nat} {x y : Option (List (List AV))} : (h.set b x).set b y = h.set b y := by
  unfold AH.set
  congr 1
  funext j
  by_cases hj : j = b <;> simp [hj]
theorem set_push {x y : List (List AV)} : (h.push x).set h.n (some y) = h.push y := by
  unfold AH.push AH.set
  congr 1
  funext j
  by_cases hj : j = h.n <;> simp [hj]
theorem chk_nil : chkR V L h [] = True := rfl
theorem chk_none {agg : Bool} {n : Nat} {a d : Arg} {r : List RCk} : chkR V L h (⟨none, agg, n, a, d⟩ :: r) = (loadA agg n h (arg V L a) = some (arg V L d) ∧ chkR V L h r) := rfl
theorem chk_some {agg : Bool} {n : Nat} {g a d : Arg} {w : Bool} {r : List RCk} : chkR V L h (⟨some (g, w), agg, n, a, d⟩ :: r) = ((match gB w (arg V L g) with | some true => loadA agg n h (arg V L a) = some (arg V L d) | _ => True) ∧ chkR V L h r) := by
  simp only [chkR, guardO, g_eq]
  rfl
theorem map_nilA {α β : Type} {f : α → β} : [].map f = [] := rfl
theorem fg_bool {b : Bool} : fgA true h (.inl (.bool b), h) = some (.inl (.bool b), h) := fg_yes (GrewA.refl h) rfl
theorem fg_int {n : Int} : fgA true h (.inl (.int q n), h) = some (.inl (.int q n), h) := fg_yes (GrewA.refl h) rfl
theorem fg_str {n : List UInt8} : fgA true h (.inl (.str n), h) = some (.inl (.str n), h) := fg_yes (GrewA.refl h) rfl
theorem w64 {n : Int} (h1 : -9223372036854775808 ≤ n) (h2 : n ≤ 9223372036854775807) : IntKind.wrap .i64 n = n := by
  rw [IntKind.wrap_i64]
  omega
theorem push2_same {a b : List (List AV)} : ((h.push a).push b).cell (h.n + 1) = some b := by simp [AH.push]
theorem push2_old {a b : List (List AV)} : ((h.push a).push b).cell h.n = some a := by simp [AH.push]
theorem set_push2 {a x y : List (List AV)} : ((h.push a).push x).set (h.n + 1) (some y) = (h.push a).push y := set_push (h := h.push a)
theorem push3_same {a b c : List (List AV)} : (((h.push a).push b).push c).cell (h.n + 1 + 1) = some c := by simp [AH.push]
theorem push3_1 {a b c : List (List AV)} : (((h.push a).push b).push c).cell (h.n + 1) = some b := by simp [AH.push]
theorem push3_0 {a b c : List (List AV)} : (((h.push a).push b).push c).cell h.n = some a := by simp [AH.push, show ¬ h.n = h.n + 1 + 1 by omega]
theorem set_push3 {a b x y : List (List AV)} : (((h.push a).push b).push x).set (h.n + 1 + 1) (some y) = ((h.push a).push b).push y := set_push (h := (h.push a).push b)
theorem push_lt {es : List (List AV)} {j : Nat} (hj : j < h.n) : (h.push es).cell j = h.cell j := push_ne (by omega)
theorem r_lpb {b b' : List RS} (hb : b = b') : runR C nv (.lp b :: k) V L h = runR C nv (.ss b' :: .lp b :: k) (clearA nv V) L h := by subst hb; exact r_lp
theorem ld_part {n off : Nat} {e : List AV} (he : off + n ≤ e.length) : ldA true n e off = some (.agg ((e.drop off).take n)) := by simp [ldA, he]
theorem l_tptr {agg : Bool} {n b : Nat} {t : TypeId} : loadA agg n h (.tptr t b) = ((h.cell b).bind (·[0]?)).bind fun e => ldA agg n e 0 := rfl
theorem f_tptr0 {t : TypeId} {b : Nat} : fldA 0 (.tptr t b) = some (.tptr t b) := rfl
theorem f_tptr1 {t : TypeId} {b : Nat} : fldA 1 (.tptr t b) = some (.ptr b 0 1) := rfl
theorem f_tptr2 {t : TypeId} {b : Nat} : fldA 2 (.tptr t b) = some (.ptr b 0 2) := rfl
theorem f_tptr3 {t : TypeId} {b : Nat} : fldA 3 (.tptr t b) = some (.ptr b 0 3) := rfl
theorem n_tptr {t : TypeId} {b : Nat} : nilcR (.tptr t b) = some (.tptr t b) := rfl
theorem s_1T {n b : Nat} {t : TypeId} {x : AV} : storeA n h (.tptr t b) x = s1A n h b 0 0 x.cells (h.cell b) := by
  simp only [storeA]
  cases h.cell b <;> rfl
theorem cells_tptr {t : TypeId} {b : Nat} : (AV.tptr t b).cells = [.tptr t b] := rfl
theorem one_tptr {t : TypeId} {b : Nat} : (AV.tptr t b).one = true := rfl
theorem mm_min {a b : Int} : mmA false (.int q a) (.int q b) = some (.int q (if b < a then b else a)) := rfl
theorem mm_max {a b : Int} : mmA true (.int q a) (.int q b) = some (.int q (if b > a then b else a)) := rfl
theorem b_rem {a b : Int} : binA kd .rem (.int q a) (.int q b) = if b = 0 then none else some (.int q (a.tmod b)) := by simp [binA, intA]
theorem b_pnil {b i o : Nat} : binA .ptr .eql (.ptr b i o) .nilp = some (.bool false) := by simp [binA, eqA]
theorem b_pnilT {t : TypeId} {b : Nat} : binA .ptr .eql (.tptr t b) .nilp = some (.bool false) := by simp [binA, eqA]
theorem b_pnn : binA .ptr .eql .nilp .nilp = some (.bool true) := by simp [binA, eqA]
theorem b_pnilN {b i o : Nat} : binA .ptr .neq (.ptr b i o) .nilp = some (.bool true) := by simp [binA, eqA]
theorem b_pnilTN {t : TypeId} {b : Nat} : binA .ptr .neq (.tptr t b) .nilp = some (.bool true) := by simp [binA, eqA]
theorem b_pnnN : binA .ptr .neq .nilp .nilp = some (.bool false) := by simp [binA, eqA]
theorem b_inil {t : TypeId} {v : AV} {ks : Option (List Kd)} {cy : Bool} : binR .iface ks cy .neq (.iface t v) .nili = some (.bool true) := by simp [binR, binA, eqA]
theorem b_inn {ks : Option (List Kd)} : binR .iface ks true .neq .nili .nili = some (.bool false) := by simp [binR, isIf]
theorem b_inilE {t : TypeId} {v : AV} {ks : Option (List Kd)} {cy : Bool} : binR .iface ks cy .eql (.iface t v) .nili = some (.bool false) := by simp [binR, binA, eqA]
theorem b_innE {ks : Option (List Kd)} : binR .iface ks true .eql .nili .nili = some (.bool true) := by simp [binR, isIf]
theorem sim : (type_of% @r_nil) ∧ (type_of% @r_ss_nil) ∧ (type_of% @r_ops) ∧ (type_of% @r_cond) ∧ (type_of% @r_block) ∧ (type_of% @r_loop) ∧ (type_of% @r_exit) ∧ (type_of% @r_ret) ∧ (type_of% @r_blk) ∧ (type_of% @r_ops_nil) ∧ (type_of% @r_callf) ∧ (type_of% @r_g) ∧ (type_of% @r_pan) ∧ (type_of% @r_halt) ∧ (type_of% @r_mv) ∧ (type_of% @r_pick) ∧ (type_of% @r_build) ∧ (type_of% @r_nilc) ∧ (type_of% @r_bin) ∧ (type_of% @r_binG) ∧ (type_of% @r_un) ∧ (type_of% @r_conv) ∧ (type_of% @r_mki) ∧ (type_of% @r_mkf) ∧ (type_of% @r_slc) ∧ (type_of% @r_fad) ∧ (type_of% @r_fld) ∧ (type_of% @r_ixa) ∧ (type_of% @r_ix) ∧ (type_of% @r_tas) ∧ (type_of% @r_ext) ∧ (type_of% @r_len) ∧ (type_of% @r_alloc) ∧ (type_of% @r_bsl) ∧ (type_of% @r_bslM) ∧ (type_of% @r_load) ∧ (type_of% @r_store) ∧ (type_of% @r_mks) ∧ (type_of% @r_app) ∧ (type_of% @rV_some) ∧ (type_of% @rH_some) ∧ (type_of% @rS_some) ∧ (type_of% @rC_ret) ∧ (type_of% @rC_panic) ∧ (type_of% @rG_true) ∧ (type_of% @rG_false) ∧ (type_of% @rB_bool) ∧ (type_of% @rE_some) ∧ (type_of% @pick_bool) ∧ (type_of% @cFR_ret) ∧ (type_of% @cFR_panic) ∧ (type_of% @arg_v) ∧ (type_of% @arg_l) ∧ (type_of% @arg_c) ∧ (type_of% @putV_v) ∧ (type_of% @putV_l) ∧ (type_of% @putV_n) ∧ (type_of% @putL_v) ∧ (type_of% @putL_l) ∧ (type_of% @putL_n) ∧ (type_of% @g_eq) ∧ (type_of% @gB_bool) ∧ (type_of% @gB_tup) ∧ (type_of% @e_blk) ∧ (type_of% @e_ss) ∧ (type_of% @e_lp) ∧ (type_of% @e_ops) ∧ (type_of% @res_nil) ∧ (type_of% @res_v) ∧ (type_of% @res_cell) ∧ (type_of% @one_1) ∧ (type_of% @one_2) ∧ (type_of% @one_3) ∧ (type_of% @one_0) ∧ (type_of% @fg_not) ∧ (type_of% @cR_some) ∧ (type_of% @b_add) ∧ (type_of% @b_sub) ∧ (type_of% @b_mul) ∧ (type_of% @b_eql) ∧ (type_of% @b_neq) ∧ (type_of% @b_lss) ∧ (type_of% @b_leq) ∧ (type_of% @b_gtr) ∧ (type_of% @b_geq) ∧ (type_of% @b_and) ∧ (type_of% @b_or) ∧ (type_of% @b_andNot) ∧ (type_of% @b_seql) ∧ (type_of% @b_sneq) ∧ (type_of% @b_beql) ∧ (type_of% @b_bneq) ∧ (type_of% @b_snil) ∧ (type_of% @b_snilnil) ∧ (type_of% @b_snilM) ∧ (type_of% @u_not) ∧ (type_of% @u_neg) ∧ (type_of% @c_int) ∧ (type_of% @c_str) ∧ (type_of% @l_ptr) ∧ (type_of% @l_ip) ∧ (type_of% @ld_one) ∧ (type_of% @f_ptr) ∧ (type_of% @f_ip) ∧ (type_of% @n_ptr) ∧ (type_of% @n_ip) ∧ (type_of% @len_nils) ∧ (type_of% @len_isl) ∧ (type_of% @len_msl) ∧ (type_of% @len_str) ∧ (type_of% @fits_nils) ∧ (type_of% @fits_isl) ∧ (type_of% @fits_msl) ∧ (type_of% @fits_str) ∧ (type_of% @set_same) ∧ (type_of% @set_n) ∧ (type_of% @set_ids) ∧ (type_of% @set_hw) ∧ (type_of% @push_same) ∧ (type_of% @push_n) ∧ (type_of% @push_ids) ∧ (type_of% @push_hw) ∧ (type_of% @fresh_cell) ∧ (type_of% @fresh_n) ∧ (type_of% @fresh_ids) ∧ (type_of% @fresh_hw) ∧ (type_of% @grow_cell) ∧ (type_of% @grow_n) ∧ (type_of% @grow_ids) ∧ (type_of% @grow_hw) ∧ (type_of% @k_zero) ∧ (type_of% @k_succ) ∧ (type_of% @k_set0) ∧ (type_of% @k_set1) ∧ (type_of% @k_nil) ∧ (type_of% @x_zero) ∧ (type_of% @x_succ) ∧ (type_of% @x_nil) ∧ (type_of% @r_box) ∧ (type_of% @r_ck) ∧ (type_of% @s_1) ∧ (type_of% @s_2) ∧ (type_of% @s_3) ∧ (type_of% @cells_agg) ∧ (type_of% @cells_int) ∧ (type_of% @cells_bool) ∧ (type_of% @cells_str) ∧ (type_of% @cells_nils) ∧ (type_of% @cells_nilp) ∧ (type_of% @cells_isl) ∧ (type_of% @cells_msl) ∧ (type_of% @cells_ptr) ∧ (type_of% @one_int) ∧ (type_of% @one_bool) ∧ (type_of% @one_str) ∧ (type_of% @one_nils) ∧ (type_of% @one_nilp) ∧ (type_of% @one_isl) ∧ (type_of% @one_msl) ∧ (type_of% @one_ptr) ∧ (type_of% @one_iface) ∧ (type_of% @all_cons) ∧ (type_of% @all_nil) ∧ (type_of% @ext_tup) ∧ (type_of% @fill_nil) ∧ (type_of% @fill_cons) ∧ (type_of% @fill_some) ∧ (type_of% @fillE_nil) ∧ (type_of% @fillE_cons) ∧ (type_of% @st_all) ∧ (type_of% @st_nil) ∧ (type_of% @st_cons) ∧ (type_of% @st_succ) ∧ (type_of% @set_set) ∧ (type_of% @set_push) ∧ (type_of% @r_apps) ∧ (type_of% @r_tbox) ∧ (type_of% @r_talloc) ∧ (type_of% @r_mm) ∧ (type_of% @l_tptr) ∧ (type_of% @f_tptr0) ∧ (type_of% @f_tptr1) ∧ (type_of% @f_tptr2) ∧ (type_of% @f_tptr3) ∧ (type_of% @n_tptr) ∧ (type_of% @s_1T) ∧ (type_of% @cells_tptr) ∧ (type_of% @one_tptr) ∧ (type_of% @mm_min) ∧ (type_of% @mm_max) ∧ (type_of% @b_rem) ∧ (type_of% @b_pnil) ∧ (type_of% @b_pnilT) ∧ (type_of% @b_pnn) ∧ (type_of% @b_pnilN) ∧ (type_of% @b_pnilTN) ∧ (type_of% @b_pnnN) ∧ (type_of% @b_inil) ∧ (type_of% @b_inn) ∧ (type_of% @b_inilE) ∧ (type_of% @b_innE) ∧ (type_of% @chk_nil) ∧ (type_of% @chk_none) ∧ (type_of% @chk_some) ∧ (type_of% @fg_bool) ∧ (type_of% @fg_int) ∧ (type_of% @fg_str) ∧ (type_of% @ld_all) ∧ (type_of% @push2_same) ∧ (type_of% @push2_old) ∧ (type_of% @set_push2) ∧ (type_of% @push3_same) ∧ (type_of% @push3_1) ∧ (type_of% @push3_0) ∧ (type_of% @set_push3) :=
  ⟨@r_nil, @r_ss_nil, @r_ops, @r_cond, @r_block, @r_loop, @r_exit, @r_ret, @r_blk, @r_ops_nil, @r_callf, @r_g, @r_pan, @r_halt, @r_mv, @r_pick, @r_build, @r_nilc, @r_bin, @r_binG, @r_un, @r_conv, @r_mki, @r_mkf, @r_slc, @r_fad, @r_fld, @r_ixa, @r_ix, @r_tas, @r_ext, @r_len, @r_alloc, @r_bsl, @r_bslM, @r_load, @r_store, @r_mks, @r_app, @rV_some, @rH_some, @rS_some, @rC_ret, @rC_panic, @rG_true, @rG_false, @rB_bool, @rE_some, @pick_bool, @cFR_ret, @cFR_panic, @arg_v, @arg_l, @arg_c, @putV_v, @putV_l, @putV_n, @putL_v, @putL_l, @putL_n, @g_eq, @gB_bool, @gB_tup, @e_blk, @e_ss, @e_lp, @e_ops, @res_nil, @res_v, @res_cell, @one_1, @one_2, @one_3, @one_0, @fg_not, @cR_some, @b_add, @b_sub, @b_mul, @b_eql, @b_neq, @b_lss, @b_leq, @b_gtr, @b_geq, @b_and, @b_or, @b_andNot, @b_seql, @b_sneq, @b_beql, @b_bneq, @b_snil, @b_snilnil, @b_snilM, @u_not, @u_neg, @c_int, @c_str, @l_ptr, @l_ip, @ld_one, @f_ptr, @f_ip, @n_ptr, @n_ip, @len_nils, @len_isl, @len_msl, @len_str, @fits_nils, @fits_isl, @fits_msl, @fits_str, @set_same, @set_n, @set_ids, @set_hw, @push_same, @push_n, @push_ids, @push_hw, @fresh_cell, @fresh_n, @fresh_ids, @fresh_hw, @grow_cell, @grow_n, @grow_ids, @grow_hw, @k_zero, @k_succ, @k_set0, @k_set1, @k_nil, @x_zero, @x_succ, @x_nil, @r_box, @r_ck, @s_1, @s_2, @s_3, @cells_agg, @cells_int, @cells_bool, @cells_str, @cells_nils, @cells_nilp, @cells_isl, @cells_msl, @cells_ptr, @one_int, @one_bool, @one_str, @one_nils, @one_nilp, @one_isl, @one_msl, @one_ptr, @one_iface, @all_cons, @all_nil, @ext_tup, @fill_nil, @fill_cons, @fill_some, @fillE_nil, @fillE_cons, @st_all, @st_nil, @st_cons, @st_succ, @set_set, @set_push, @r_apps, @r_tbox, @r_talloc, @r_mm, @l_tptr, @f_tptr0, @f_tptr1, @f_tptr2, @f_tptr3, @n_tptr, @s_1T, @cells_tptr, @one_tptr, @mm_min, @mm_max, @b_rem, @b_pnil, @b_pnilT, @b_pnn, @b_pnilN, @b_pnilTN, @b_pnnN, @b_inil, @b_inn, @b_inilE, @b_innE, @chk_nil, @chk_none, @chk_some, @fg_bool, @fg_int, @fg_str, @ld_all, @push2_same, @push2_old, @set_push2, @push3_same, @push3_1, @push3_0, @set_push3⟩
end
end Go.Proofs.YtngphebjmmencaaDoor
