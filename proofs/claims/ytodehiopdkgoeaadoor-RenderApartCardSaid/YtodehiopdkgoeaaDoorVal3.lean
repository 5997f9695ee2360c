/- vals and the document's values in the plain model: texts; the same. -/
import Derived.Test.YtodehiopdkgoeaaDoorVal2
import Derived.Test.YtodehiopdkgoeaaDoorTextLaw
import Derived.Test.YtodehiopdkgoeaaDoorOpen
import Derived.Lib.ItoaLen
namespace Go.Proofs.YtodehiopdkgoeaaDoor
set_option linter.unusedSimpArgs false
set_option linter.unusedVariables false
open Go

theorem s_add {a b c : List UInt8} (e : a ++ b = c) (h : a.length + b.length ≤ 1000000000000) : binA .str .add (.str a) (.str b) = some (.str c) := by
  subst e
  exact if_pos h
theorem join_le {xs : List (List UInt8)} {B : Nat} (hl : xs.length ≤ 2) (h : ∀ x ∈ xs, x.length ≤ B) : (Lib.join xs [32]).length ≤ 2 * B + 1 := by
  match xs, hl, h with
  | [], _, _ => simp [Lib.join]
  | [x], _, h =>
    rw [Lib.join_one]
    have := h x (by simp)
    omega
  | [x, y], _, h =>
    rw [join_two]
    have := h x (by simp)
    have := h y (by simp)
    simp only [List.length_append, List.length_cons]
    omega
theorem ext_fmt : po.ext 41 = some fmtF := by
  show extF 41 = _
  unfold extF
  exact if_pos rfl
theorem ext_join : po.ext 42 = some joinF := by
  show extF 42 = _
  unfold extF
  rw [if_neg (by decide), if_pos rfl]
theorem fmt_run {n : Int} (hn : isI64 n) (h : AH) : runF Tryd.prog po 41 [.int .i64 n, .int .i64 10] h = some (.inl (.str (Lib.itoa n)), h) := by
  unfold runF
  rw [ext_fmt]
  show fmtF _ _ = _
  unfold fmtF
  exact if_pos ⟨rfl, hn.1, hn.2⟩
theorem strsA_of : ∀ xs : List (List UInt8), strsA (xs.map fun x => [.str x]) = some xs
  | [] => rfl
  | x :: xs => by
    simp only [List.map_cons, strsA, strsA_of xs, Option.map_some]
theorem join_run {h0 h : AH} {acc : AV} {xs : List (List UInt8)} (ha : Acc h0 h 9 acc (xs.map fun x => [.str x])) (hl : xs.length ≤ 2) (hs : ∀ x ∈ xs, x.length ≤ 1000000000000) :
    runF Tryd.prog po 42 [acc, .str [32]] h = some (.inl (.str (Lib.join xs [32])), h) := by
  unfold runF
  rw [ext_join]
  show joinF _ _ = _
  rcases ha with ⟨h1, rfl⟩ | ⟨id, h1, _, _, _, rfl⟩
  · obtain rfl : xs = [] := by simpa using h1
    rfl
  · unfold joinF
    simp only
    rw [if_pos (by kernel_rfl), strsA_of]
    simp only [Option.bind_some]
    match xs, h1, hl, hs with
    | [x], _, _, _ =>
      rw [Lib.join_one]
      rfl
    | [x, y], _, _, hs =>
      rw [join_two]
      unfold joinL
      simp only
      rw [if_pos ⟨hs x (by simp), hs y (by simp)⟩]
      rfl

theorem text_len : ∀ (N : Nat) (x : VD), SizeOf.sizeOf x ≤ N → x.fault = 0 → x.wf → x.text.length ≤ 30 * x.size := by
  intro N
  induction N with
  | zero => intro x hx; have := x.so_pos; omega
  | succ N ih =>
    intro x hx hf hw
    have hn : (Lib.itoa x.n).length ≤ 21 := by
      have : isI64 x.n := by cases x; exact hw.2.1
      exact Lib.itoa_length_le _ this.1 this.2
    have hm : ∀ y ∈ x.l, y.wf := by
      cases x with
      | mk k n l =>
        intro y hy
        have := hw.2.2
        clear hw hf hx hn
        induction l with
        | nil => cases hy
        | cons z l ihl =>
          rcases List.mem_cons.1 hy with rfl | hy
          · exact this.1
          · exact ihl hy this.2
    have hp := x.size_pos
    have e := x.text_eq
    have hz := x.size_eq
    rcases val_shape hf with ⟨k, _, _⟩ | ⟨k, _⟩ | ⟨k, n0, a, b, hl, ha, hb⟩ | ⟨k, a, hl, ha⟩ | ⟨k, _⟩ | ⟨k, _⟩
    · rw [e]
      simp [k]
      omega
    · rw [e]
      simp [k]
      omega
    · rw [hl] at hm hz
      have h1 := ih a (by have := VD.lt_mem (x := x) (y := a) (by rw [hl]; simp); omega) ha (hm a (by simp))
      have h2 := ih b (by have := VD.lt_mem (x := x) (y := b) (by rw [hl]; simp); omega) hb (hm b (by simp))
      simp only [sizesV] at hz
      rw [e, hl]
      simp [k, join_two]
      omega
    · rw [hl] at hm hz
      have h1 := ih a (by have := VD.lt_mem (x := x) (y := a) (by rw [hl]; simp); omega) ha (hm a (by simp))
      simp only [sizesV] at hz
      rw [e, hl]
      simp [k, Lib.join_one]
      omega
    · rw [e]
      simp [k]
      omega
    · rw [e]
      simp [k]
      omega
/-- the parts of a value are values -/
theorem val_parts {x : VD} (h : x.fault = 0) : x.l.length ≤ 2 ∧ ∀ y ∈ x.l, y.fault = 0 := by
  rcases val_shape h with ⟨_, _, e⟩ | ⟨_, e⟩ | ⟨_, _, a, b, e, ha, hb⟩ | ⟨_, a, e, ha⟩ | ⟨_, e⟩ | ⟨_, e⟩
  all_goals
    rw [e]
    simp_all
theorem wf_parts {x : VD} (h : x.wf) : isI64 x.n ∧ ∀ y ∈ x.l, y.wf := by
  cases x with
  | mk k n l =>
    refine ⟨h.2.1, ?_⟩
    have := h.2.2
    clear h
    intro y hy
    change y ∈ l at hy
    induction l with
    | nil => cases hy
    | cons z l ihl =>
      rcases List.mem_cons.1 hy with rfl | hy
      · exact this.1
      · exact ihl this.2 hy
theorem join_snoc {xs : List (List UInt8)} {t : List UInt8} (h : 0 < xs.length) (h2 : xs.length ≤ 1) : Lib.join (xs ++ [t]) [32] = Lib.join xs [32] ++ [32] ++ t := by
  match xs, h, h2 with
  | [x], _, _ =>
    rw [Lib.join_one]
    show Lib.join [x, t] [32] = _
    rw [join_two]
    simp
section
variable {h : AH}
set_option maxHeartbeats 1000000 in
theorem vText_run : ∀ (N : Nat) (x : VD), SizeOf.sizeOf x ≤ N → x.fault = 0 → x.wf → x.size ≤ 10000 → ∀ (r : List AV) (h : AH), VaA x r →
    runF Tryd.prog po 23 [.agg r] h = some (.inl (.str x.text), h) := by
  intro N
  induction N with
  | zero => intro x hx; have := x.so_pos; omega
  | succ N ih =>
    intro x hx hf hwf hsz r h he
    obtain ⟨v, es, rfl, hsl, hv, hn, hix⟩ := he.facts
    obtain ⟨hn64, hwp⟩ := wf_parts hwf
    obtain ⟨hl2, hfp⟩ := val_parts hf
    have ef := fmt_run hn64
    refine runF_E fn_vText rfl fun Q hQ => ?_; unfold rc_vText
    simp only [sim, List.length_cons, List.length_nil, Nat.reduceAdd, Nat.reduceSub, List.replicate, List.cons_append, List.nil_append, List.map_cons, List.map_nil, Option.bind_some, Option.map_some, Option.bind_none, Option.map_none, if_true, if_false, decide_true, decide_false, Bool.false_eq_true, Bool.true_eq_false, Bool.not_true, Bool.not_false, reduceCtorEq, Bool.and_true, Bool.true_and, Bool.and_false, Bool.false_and, Bool.or_true, Bool.true_or, Bool.or_false, Bool.false_or, true_and, and_true, false_and, and_false, List.take_zero, List.take_succ_cons, List.drop_zero, List.drop_succ_cons, List.take_nil, List.drop_nil, List.set_cons_zero, List.set_cons_succ, Nat.reduceLeDiff, Nat.reduceLT, Nat.zero_add, Nat.lt_add_one, Nat.le_refl, clearA, Int.toNat_natCast, hv, hsl.len, hsl.fits, ef]
    refine loop_Q (fun i V h' => ∃ v5 v10 acc, V = [.agg [.int .i64 x.kind, .int .i64 x.n, v], .ptr h.n 0 0, .str [], .str (Lib.itoa x.n), acc, v5, .junk, v, .int .i64 es.length, .int .i64 (i : Nat), v10, .junk, .junk, .junk, .junk, .junk, .junk] ∧
      GrewA h h' ∧ h.n < h'.n ∧ h'.cell h.n = some [[.int .i64 x.kind, .int .i64 x.n, v]] ∧ Acc h h' 9 acc (((x.l.take i).map VD.text).map fun t => [.str t])) x.l.length ⟨_, _, _, rfl, (by repeat (first | exact GrewA.refl _ | refine GrewA.trans ?_ (GrewA.push _ _) | refine GrewA.trans ?_ (GrewA.fresh _ _))), by simp only [push_n]; omega, push_same, acc_nil _ _ _⟩ ?_ ?_
    · rintro i V h' hi ⟨v5, v10, acc, rfl, g, hm, c1, ha⟩ next
      have hlt : (i : Int) < (es.length : Int) := by rw [hn]; omega
      obtain ⟨y, hy⟩ := at_get hi
      obtain ⟨q, i1, d1, x1⟩ := hix i y hy
      obtain ⟨p1, p2⟩ := x1.one
      have hw := w64 (n := (i : Int) + 1) (by omega) (by omega)
      have e1 := ih y (by have := VD.lt_mem (at_mem hy); omega) (hfp y (at_mem hy)) (hwp y (at_mem hy)) (by have := VD.size_mem (at_mem hy); omega) q (h'.push [q]) x1
      obtain ⟨acc2, h2, e2, a1, a2, a3, a4⟩ := acc_app (show Acc h (h'.push [q]) 9 acc _ from ha) (g.trans (GrewA.push _ _)) (row := [.str y.text]) rfl (by simp; omega)
      simp only [push_ids] at e2
      rw [r_lpb rc_vText_b1.eq_1]
      simp only [sim, List.length_cons, List.length_nil, Nat.reduceAdd, Nat.reduceSub, List.replicate, List.cons_append, List.nil_append, List.map_cons, List.map_nil, Option.bind_some, Option.map_some, Option.bind_none, Option.map_none, if_true, if_false, decide_true, decide_false, Bool.false_eq_true, Bool.true_eq_false, Bool.not_true, Bool.not_false, reduceCtorEq, Bool.and_true, Bool.true_and, Bool.and_false, Bool.false_and, Bool.or_true, Bool.true_or, Bool.or_false, Bool.false_or, true_and, and_true, false_and, and_false, List.take_zero, List.take_succ_cons, List.drop_zero, List.drop_succ_cons, List.take_nil, List.drop_nil, List.set_cons_zero, List.set_cons_succ, Nat.reduceLeDiff, Nat.reduceLT, Nat.zero_add, Nat.lt_add_one, Nat.le_refl, clearA, Int.toNat_natCast, hsl.len, hlt, i1, d1, p1, p2, ld_all p2, e1, e2, a3, a4, hw]
      refine next _ _ ⟨_, _, _, rfl, a2, by rw [a4]; show _ < h'.n + 1; omega, by rw [a3]; exact (push_lt hm).trans c1, ?_⟩
      rw [take_get hy, List.map_append, List.map_append]
      exact a1
    · rintro V h' ⟨v5, v10, acc, rfl, g, hm, c1, ha⟩
      have hlt : ¬ ((x.l.length : Int) < (es.length : Int)) := by rw [hn]; omega
      rw [List.take_length] at ha
      have ej := join_run ha (by simpa using hl2) (fun t ht => by
        obtain ⟨y, hy, rfl⟩ := List.mem_map.1 ht
        have := text_len _ y (Nat.le_refl _) (hfp y hy) (hwp y hy)
        have := VD.size_mem hy
        omega)
      have hJ := join_le (xs := x.l.map VD.text) (B := 300000) (by simpa using hl2) (fun t ht => by
        obtain ⟨y, hy, rfl⟩ := List.mem_map.1 ht
        have := text_len _ y (Nat.le_refl _) (hfp y hy) (hwp y hy)
        have := VD.size_mem hy
        omega)
      have hN : (Lib.itoa x.n).length ≤ 21 := Lib.itoa_length_le _ hn64.1 hn64.2
      have te := x.text_eq
      generalize Lib.join (x.l.map VD.text) [32] = J at *
      generalize Lib.itoa x.n = n at *
      have q1 : binA .str .add (.str [40]) (.str J) = some (.str (40 :: J)) := s_add rfl (by simp; omega)
      have q2 : binA .str .add (.str (40 :: J)) (.str [41]) = some (.str (40 :: (J ++ [41]))) := s_add rfl (by simp; omega)
      have q3 : binA .str .add (.str [91]) (.str n) = some (.str (91 :: n)) := s_add rfl (by simp; omega)
      have q4 : binA .str .add (.str (91 :: n)) (.str [32]) = some (.str (91 :: (n ++ [32]))) := s_add rfl (by simp; omega)
      have q5 : binA .str .add (.str (91 :: (n ++ [32]))) (.str J) = some (.str (91 :: (n ++ 32 :: J))) := s_add (by simp) (by simp; omega)
      have q6 : binA .str .add (.str (91 :: (n ++ 32 :: J))) (.str [93]) = some (.str (91 :: (n ++ (32 :: (J ++ [93]))))) := s_add (by simp) (by simp; omega)
      have q7 : binA .str .add (.str [35]) (.str n) = some (.str (35 :: n)) := s_add rfl (by simp; omega)
      have q8 : binA .str .add (.str [33]) (.str n) = some (.str (33 :: n)) := s_add rfl (by simp; omega)
      rw [r_lpb rc_vText_b1.eq_1]
      simp only [sim, List.length_cons, List.length_nil, Nat.reduceAdd, Nat.reduceSub, List.replicate, List.cons_append, List.nil_append, List.map_cons, List.map_nil, Option.bind_some, Option.map_some, Option.bind_none, Option.map_none, if_true, if_false, decide_true, decide_false, Bool.false_eq_true, Bool.true_eq_false, Bool.not_true, Bool.not_false, reduceCtorEq, Bool.and_true, Bool.true_and, Bool.and_false, Bool.false_and, Bool.or_true, Bool.true_or, Bool.or_false, Bool.false_or, true_and, and_true, false_and, and_false, List.take_zero, List.take_succ_cons, List.drop_zero, List.drop_succ_cons, List.take_nil, List.drop_nil, List.set_cons_zero, List.set_cons_succ, Nat.reduceLeDiff, Nat.reduceLT, Nat.zero_add, Nat.lt_add_one, Nat.le_refl, clearA, Int.toNat_natCast, hsl.len, hlt, ej, c1]
      rcases val_shape hf with ⟨k, _, _⟩ | ⟨k, _⟩ | ⟨k, _⟩ | ⟨k, _⟩ | ⟨k, _⟩ | ⟨k, _⟩
      all_goals
        simp only [sim, List.length_cons, List.length_nil, Nat.reduceAdd, Nat.reduceSub, List.replicate, List.cons_append, List.nil_append, List.map_cons, List.map_nil, Option.bind_some, Option.map_some, Option.bind_none, Option.map_none, if_true, if_false, decide_true, decide_false, Bool.false_eq_true, Bool.true_eq_false, Bool.not_true, Bool.not_false, reduceCtorEq, Bool.and_true, Bool.true_and, Bool.and_false, Bool.false_and, Bool.or_true, Bool.true_or, Bool.or_false, Bool.false_or, true_and, and_true, false_and, and_false, List.take_zero, List.take_succ_cons, List.drop_zero, List.drop_succ_cons, List.take_nil, List.drop_nil, List.set_cons_zero, List.set_cons_succ, Nat.reduceLeDiff, Nat.reduceLT, Nat.zero_add, Nat.lt_add_one, Nat.le_refl, clearA, Int.toNat_natCast, k, Int.reduceEq, q1, q2, q3, q4, q5, q6, q7, q8]
        refine hQ _ _ _ rfl g ?_
        rw [te]
        simp [k, wkA, oneA]
end
end Go.Proofs.YtodehiopdkgoeaaDoor
