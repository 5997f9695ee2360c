/- Modules as texts, in plain Lean: what is another module is printed otherwise. No program here. -/
import Derived.Test.YtodehiopdkgoeaaDoorItoaLaw
import Derived.Test.YtodehiopdkgoeaaDoorCodeLaw
import Derived.Test.YtodehiopdkgoeaaDoorOpen
import Derived.Lib.ItoaLen
namespace Go.Proofs.YtodehiopdkgoeaaDoor
set_option linter.unusedSimpArgs false
set_option linter.unusedVariables false
open Go Go.Lib

/-- the words of the kinds of expressions -/
def wordsL : List (List UInt8) := [[], [110, 105, 108], [110, 117, 109], [97, 114, 103], [118, 97, 114], [108, 101, 116], [98, 105, 110], [105, 102], [112, 97, 105, 114], [102, 115, 116], [115, 110, 100], [115, 101, 97, 108], [111, 112, 101, 110],
  [114, 101, 97, 100], [119, 114, 105, 116, 101], [110, 97, 114, 114, 111, 119], [119, 114, 97, 112], [99, 117, 116], [99, 97, 108, 108], [97, 115, 107], [107, 101, 101, 112], [107, 101, 112, 116]]
def binsL : List (List UInt8) := [[], [97, 100, 100], [115, 117, 98], [109, 117, 108], [108, 101, 115, 115], [101, 113]]
def wordX (op : Int) : List UInt8 := if op < 1 ∨ 21 < op then [] else wordsL.getD op.toNat []
def binX (k : Int) : List UInt8 := if k < 1 ∨ 5 < k then [] else binsL.getD k.toNat []
/-- the number, or the word, of an expression -/
def argX (op k n : Int) : List UInt8 := if op = 2 then 32 :: itoa n else if op = 4 ∨ op = 18 ∨ op = 15 then 32 :: itoa k else if op = 6 then 32 :: binX k else []
mutual
def XD.text : XD → List UInt8
  | .mk op k n l => 40 :: (wordX op ++ (argX op k n ++ (textsX l ++ [41])))
def textsX : List XD → List UInt8
  | [] => []
  | x :: l => 32 :: (x.text ++ textsX l)
end
theorem XD.text_eq (x : XD) : x.text = 40 :: (wordX x.op ++ (argX x.op x.k x.n ++ (textsX x.l ++ [41]))) := by
  cases x
  rfl
theorem textsX_append : ∀ (l l' : List XD), textsX (l ++ l') = textsX l ++ textsX l'
  | [], l' => rfl
  | x :: l, l' => by simp [textsX, textsX_append l l']
/-- a module's text -/
def modText : List XD → List UInt8
  | [] => []
  | x :: l => 102 :: 117 :: 110 :: 32 :: (x.text ++ 10 :: modText l)
theorem modText_append : ∀ (l l' : List XD), modText (l ++ l') = modText l ++ modText l'
  | [], l' => rfl
  | x :: l, l' => by simp [modText, modText_append l l']

mutual
/-- its numbers are of 64 bits -/
def XD.wf : XD → Prop
  | .mk op k n l => isI64 op ∧ isI64 k ∧ isI64 n ∧ wfXs l
def wfXs : List XD → Prop
  | [] => True
  | x :: l => x.wf ∧ wfXs l
end
theorem wfXs_mem : ∀ {l : List XD}, wfXs l → ∀ x ∈ l, x.wf
  | [], _, x, hx => by cases hx
  | y :: l, h, x, hx => by
    rcases List.mem_cons.1 hx with rfl | hx
    · exact h.1
    · exact wfXs_mem h.2 x hx
theorem XD.wf_parts {x : XD} (h : x.wf) : isI64 x.k ∧ isI64 x.n ∧ ∀ y ∈ x.l, y.wf := by
  cases x with
  | mk op k n l => exact ⟨h.2.1, h.2.2.1, wfXs_mem h.2.2.2⟩

mutual
/-- an expression whose text tells it -/
def XD.good : XD → Prop
  | .mk op k n l => (1 ≤ op ∧ op ≤ 21) ∧ (l.length : Int) = partsX op ∧ (op ≠ 2 → n = 0) ∧ (op ≠ 4 → op ≠ 6 → op ≠ 15 → op ≠ 18 → k = 0) ∧ (op = 6 → 1 ≤ k ∧ k ≤ 5) ∧ ((op = 4 ∨ op = 15 ∨ op = 18) → 0 ≤ k) ∧ goodXs l
def goodXs : List XD → Prop
  | [] => True
  | x :: l => x.good ∧ goodXs l
end
theorem XD.good_eq (x : XD) : x.good ↔ (1 ≤ x.op ∧ x.op ≤ 21) ∧ (x.l.length : Int) = partsX x.op ∧ (x.op ≠ 2 → x.n = 0) ∧ (x.op ≠ 4 → x.op ≠ 6 → x.op ≠ 15 → x.op ≠ 18 → x.k = 0) ∧ (x.op = 6 → 1 ≤ x.k ∧ x.k ≤ 5) ∧ ((x.op = 4 ∨ x.op = 15 ∨ x.op = 18) → 0 ≤ x.k) ∧ goodXs x.l := by
  cases x
  rfl
theorem goodXs_mem : ∀ {l : List XD}, goodXs l ↔ ∀ x ∈ l, x.good
  | [] => ⟨(fun _ x hx => by cases hx), fun _ => trivial⟩
  | y :: l => by
    have := goodXs_mem (l := l)
    simp only [goodXs, List.mem_cons, forall_eq_or_imp, this]
theorem parts_op {op : Int} (h : 0 ≤ partsX op) : 1 ≤ op ∧ op ≤ 21 := by
  unfold partsX at h
  split at h
  · omega
  · split at h
    · omega
    · split at h
      · omega
      · split at h
        · omega
        · omega
theorem parts_le (op : Int) : partsX op ≤ 3 := by
  unfold partsX
  repeat' split
  all_goals omega
mutual
theorem good_of (nf : Int) : ∀ (x : XD) (o : Int), x.fault nf o = 0 → x.good
  | .mk op k n l, o, h => by
    have hf : XD.fault nf (.mk op k n l) o = if headX nf op k n l.length o ≠ 0 then headX nf op k n l.length o else faultsX nf op 0 l o := by rw [XD.fault]
    rw [hf] at h
    by_cases h1 : headX nf op k n l.length o = 0
    · rw [if_neg (by simp [h1])] at h
      unfold headX at h1
      split at h1
      · cases h1
      · rename_i hp
        split at h1
        · cases h1
        · rename_i hl
          split at h1
          · rename_i hn
            exact absurd h1 hn
          · rename_i hn
            have hop := parts_op (op := op) (by omega)
            have hn : numsX nf op k n o = 0 := by omega
            unfold numsX at hn
            split at hn
            · cases hn
            · rename_i q1
              refine ⟨hop, by omega, fun e => ?_, fun e1 e2 e3 e4 => ?_, fun e => ?_, fun e => ?_, goods_of nf op l 0 o h⟩
              · by_cases hz : n = 0
                · exact hz
                · exact absurd ⟨hz, e⟩ q1
              · rw [if_neg e1, if_neg e2, if_neg e3, if_neg e4] at hn
                by_cases hz : k = 0
                · exact hz
                · rw [if_pos hz] at hn
                  cases hn
              · rw [if_neg (by omega), if_pos e] at hn
                split at hn
                · cases hn
                · omega
              · rcases e with e | e | e
                · rw [if_pos e] at hn
                  split at hn
                  · cases hn
                  · omega
                · rw [if_neg (by omega), if_neg (by omega), if_pos e] at hn
                  split at hn
                  · cases hn
                  · omega
                · rw [if_neg (by omega), if_neg (by omega), if_neg (by omega), if_pos e] at hn
                  split at hn
                  · cases hn
                  · omega
    · rw [if_pos h1] at h
      exact absurd h h1
theorem goods_of (nf op : Int) : ∀ (l : List XD) (i : Nat) (o : Int), faultsX nf op i l o = 0 → goodXs l
  | [], _, _, _ => trivial
  | x :: l, i, o, h => by
    have hf : faultsX nf op i (x :: l) o = if x.fault nf (if op = 5 ∧ i = 1 then o + 1 else o) ≠ 0 then x.fault nf (if op = 5 ∧ i = 1 then o + 1 else o) else faultsX nf op (i + 1) l o := by rw [faultsX]
    rw [hf] at h
    by_cases h1 : x.fault nf (if op = 5 ∧ i = 1 then o + 1 else o) = 0
    · rw [if_neg (by simp [h1])] at h
      exact ⟨good_of nf x _ h1, goods_of nf op l (i + 1) o h⟩
    · rw [if_pos h1] at h
      exact absurd h h1
end
theorem first_all (nf : Int) : ∀ (l : List XD) (i : Nat), (firstX nf i l).1 = 0 → ∀ x ∈ l, funcX nf x = 0
  | [], _, _, x, hx => by cases hx
  | y :: l, i, h, x, hx => by
    simp only [firstX] at h
    by_cases h1 : funcX nf y = 0
    · rw [if_neg (by simp [h1])] at h
      rcases List.mem_cons.1 hx with rfl | hx
      · exact h1
      · exact first_all nf l (i + 1) h x hx
    · rw [if_pos h1] at h
      exact absurd h h1
theorem func_ok {nf : Int} {x : XD} (h : funcX nf x = 0) : x.depth ≤ 30 ∧ x.size ≤ 120 ∧ x.fault nf 0 = 0 := by
  unfold funcX at h
  split at h
  · cases h
  · split at h
    · cases h
    · exact ⟨by omega, by omega, h⟩
theorem check_ok {l : List XD} (h : (checkX l).1 = 0) : 1 ≤ l.length ∧ l.length ≤ 6 ∧ ∀ x ∈ l, x.depth ≤ 30 ∧ x.size ≤ 120 ∧ x.fault l.length 0 = 0 ∧ x.good := by
  unfold checkX at h
  split at h
  · cases h
  · refine ⟨by omega, by omega, fun x hx => ?_⟩
    obtain ⟨a, b, c⟩ := func_ok (first_all _ l 0 h x hx)
    exact ⟨a, b, c, good_of _ x 0 c⟩
theorem check_two {l : List XD} (h : (checkX l).1 = 0) : checkX l = (0, 0) := by
  have h2 := h
  unfold checkX at h ⊢
  split at h
  · cases h
  · rename_i hc
    rw [if_neg hc]
    have key : ∀ (l : List XD) (i : Nat) (nf : Int), (firstX nf i l).1 = 0 → firstX nf i l = (0, 0) := by
      intro l
      induction l with
      | nil => intro i nf _; rfl
      | cons y l ih =>
        intro i nf h
        simp only [firstX] at h ⊢
        by_cases h1 : funcX nf y = 0
        · rw [if_neg (by simp [h1])] at h ⊢
          exact ih _ _ h
        · rw [if_pos h1] at h
          exact absurd h h1
    exact key l 0 l.length h

/-! ### words -/
def letB (c : UInt8) : Bool := 97 ≤ c && c ≤ 122
def endL (r : List UInt8) : Prop := ∀ c t, r = c :: t → letB c = false
theorem lets_cut : ∀ {a b r r' : List UInt8}, (∀ c ∈ a, letB c = true) → (∀ c ∈ b, letB c = true) → endL r → endL r' → a ++ r = b ++ r' → a = b ∧ r = r'
  | [], [], _, _, _, _, _, _, h => ⟨rfl, h⟩
  | [], c :: b, r, r', _, hb, he, _, h => by
    have := he c (b ++ r') (by simpa using h)
    rw [hb c (by simp)] at this
    cases this
  | c :: a, [], r, r', ha, _, _, he, h => by
    have := he c (a ++ r) (by simpa using h.symm)
    rw [ha c (by simp)] at this
    cases this
  | c :: a, d :: b, r, r', ha, hb, he, he', h => by
    simp only [List.cons_append, List.cons.injEq] at h
    obtain ⟨rfl, h⟩ := h
    obtain ⟨rfl, h2⟩ := lets_cut (fun x hx => ha x (by simp [hx])) (fun x hx => hb x (by simp [hx])) he he' h
    exact ⟨rfl, h2⟩
theorem endL_cons {c : UInt8} {t : List UInt8} (h : letB c = false) : endL (c :: t) := fun c' t' e => by
  simp only [List.cons.injEq] at e
  rw [← e.1]
  exact h
theorem endB_cons {c : UInt8} {t : List UInt8} (h : digB c = false) : endB (c :: t) := fun c' t' e => by
  simp only [List.cons.injEq] at e
  rw [← e.1]
  exact h
theorem op_nat {op : Int} (h : 1 ≤ op ∧ op ≤ 21) : ∃ i : Fin 22, 1 ≤ i.val ∧ op = i.val := ⟨⟨op.toNat, by omega⟩, by show 1 ≤ op.toNat; omega, by show op = op.toNat; omega⟩
theorem bin_nat {k : Int} (h : 1 ≤ k ∧ k ≤ 5) : ∃ i : Fin 6, 1 ≤ i.val ∧ k = i.val := ⟨⟨k.toNat, by omega⟩, by show 1 ≤ k.toNat; omega, by show k = k.toNat; omega⟩
theorem word_lets (op : Int) : ∀ c ∈ wordX op, letB c = true := by
  by_cases h : 1 ≤ op ∧ op ≤ 21
  · obtain ⟨i, _, rfl⟩ := op_nat h
    revert i
    decide
  · unfold wordX
    rw [if_pos (by omega)]
    intro c hc
    cases hc
theorem bin_lets (k : Int) : ∀ c ∈ binX k, letB c = true := by
  by_cases h : 1 ≤ k ∧ k ≤ 5
  · obtain ⟨i, _, rfl⟩ := bin_nat h
    revert i
    decide
  · unfold binX
    rw [if_pos (by omega)]
    intro c hc
    cases hc
theorem word_inj {op op' : Int} (h : 1 ≤ op ∧ op ≤ 21) (h' : 1 ≤ op' ∧ op' ≤ 21) (e : wordX op = wordX op') : op = op' := by
  obtain ⟨i, hi, rfl⟩ := op_nat h
  obtain ⟨j, hj, rfl⟩ := op_nat h'
  revert i j
  decide
theorem bin_inj {k k' : Int} (h : 1 ≤ k ∧ k ≤ 5) (h' : 1 ≤ k' ∧ k' ≤ 5) (e : binX k = binX k') : k = k' := by
  obtain ⟨i, hi, rfl⟩ := bin_nat h
  obtain ⟨j, hj, rfl⟩ := bin_nat h'
  revert i j
  decide
theorem word_len (op : Int) : (wordX op).length ≤ 6 := by
  by_cases h : 1 ≤ op ∧ op ≤ 21
  · obtain ⟨i, _, rfl⟩ := op_nat h
    revert i
    decide
  · unfold wordX
    rw [if_pos (by omega)]
    decide
theorem bin_len (k : Int) : (binX k).length ≤ 4 := by
  by_cases h : 1 ≤ k ∧ k ≤ 5
  · obtain ⟨i, _, rfl⟩ := bin_nat h
    revert i
    decide
  · unfold binX
    rw [if_pos (by omega)]
    decide
/-- what stands behind the word, and behind the number, begins so -/
theorem textsX_end (l : List XD) (r : List UInt8) : ∃ c t, textsX l ++ (41 :: r) = c :: t ∧ (c = 32 ∨ c = 41) := by
  cases l with
  | nil => exact ⟨41, r, rfl, .inr rfl⟩
  | cons x l => exact ⟨32, _, rfl, .inl rfl⟩
theorem argX_end (op k n : Int) (l : List XD) (r : List UInt8) : ∃ c t, argX op k n ++ (textsX l ++ (41 :: r)) = c :: t ∧ (c = 32 ∨ c = 41) := by
  unfold argX
  split
  · exact ⟨32, _, rfl, .inl rfl⟩
  · split
    · exact ⟨32, _, rfl, .inl rfl⟩
    · split
      · exact ⟨32, _, rfl, .inl rfl⟩
      · exact textsX_end l r
theorem end_of {s : List UInt8} (h : ∃ c t, s = c :: t ∧ (c = 32 ∨ c = 41)) : endL s ∧ endB s := by
  obtain ⟨c, t, rfl, rfl | rfl⟩ := h
  · exact ⟨endL_cons (by decide), endB_cons (by decide)⟩
  · exact ⟨endL_cons (by decide), endB_cons (by decide)⟩
theorem XD.ext' {x y : XD} (h1 : x.op = y.op) (h2 : x.k = y.k) (h3 : x.n = y.n) (h4 : x.l = y.l) : x = y := by
  rw [x.eta, y.eta, h1, h2, h3, h4]
theorem xtext_app (x : XD) (r : List UInt8) : x.text ++ r = 40 :: (wordX x.op ++ (argX x.op x.k x.n ++ (textsX x.l ++ (41 :: r)))) := by
  rw [x.text_eq]
  simp
theorem xtext_cut : ∀ (N : Nat) (x y : XD), SizeOf.sizeOf x ≤ N → x.good → y.good → ∀ (r r' : List UInt8), x.text ++ r = y.text ++ r' → x = y ∧ r = r' := by
  intro N
  induction N with
  | zero => intro x y hx; have := x.so_pos; omega
  | succ N ih =>
    intro x y hx gx gy r r' h
    rw [xtext_app, xtext_app] at h
    obtain ⟨a1, a2, a3, a4, a5, a6, a7⟩ := x.good_eq.1 gx
    obtain ⟨b1, b2, b3, b4, b5, b6, b7⟩ := y.good_eq.1 gy
    simp only [List.cons.injEq, true_and] at h
    obtain ⟨h1, h2⟩ := lets_cut (word_lets _) (word_lets _) (end_of (argX_end _ _ _ _ _)).1 (end_of (argX_end _ _ _ _ _)).1 h
    have hop := word_inj a1 b1 h1
    rw [hop] at h2 a2 a3 a4 a5 a6
    have lists : ∀ (l l' : List XD), (∀ z ∈ l, z ∈ x.l) → goodXs l → goodXs l' → l.length = l'.length → textsX l ++ (41 :: r) = textsX l' ++ (41 :: r') → l = l' ∧ r = r' := by
      intro l
      induction l with
      | nil =>
        intro l' _ _ _ hl h
        cases l' with
        | nil =>
          simp only [textsX, List.nil_append, List.cons.injEq, true_and] at h
          exact ⟨rfl, h⟩
        | cons z l' => simp at hl
      | cons z l ihl =>
        intro l' hm g1 g2 hl h
        cases l' with
        | nil => simp at hl
        | cons z' l' =>
          simp only [textsX, List.cons_append, List.append_assoc, List.cons.injEq, true_and] at h
          obtain ⟨e1, h3⟩ := ih z z' (by have := XD.lt_mem (hm z (by simp)); omega) g1.1 g2.1 _ _ h
          obtain ⟨e2, h4⟩ := ihl l' (fun q hq => hm q (by simp [hq])) g1.2 g2.2 (by simpa using hl) h3
          exact ⟨by rw [e1, e2], h4⟩
    have hlen : x.l.length = y.l.length := by omega
    have fin : ∀ {k k' n n' : Int}, x.k = k → y.k = k' → x.n = n → y.n = n' → k = k' → n = n' → textsX x.l ++ (41 :: r) = textsX y.l ++ (41 :: r') → x = y ∧ r = r' := by
      intro k k' n n' e1 e2 e3 e4 e5 e6 h3
      obtain ⟨q1, q2⟩ := lists x.l y.l (fun z hz => hz) a7 b7 hlen h3
      exact ⟨XD.ext' hop (by rw [e1, e2, e5]) (by rw [e3, e4, e6]) q1, q2⟩
    by_cases o2 : y.op = 2
    · rw [argX, argX, if_pos o2, if_pos o2] at h2
      simp only [List.cons_append, List.cons.injEq, true_and] at h2
      obtain ⟨e, h3⟩ := itoa_cut (end_of (textsX_end _ _)).2 (end_of (textsX_end _ _)).2 h2
      exact fin rfl rfl rfl rfl (by rw [a4 (by omega) (by omega) (by omega) (by omega), b4 (by omega) (by omega) (by omega) (by omega)]) e h3
    · have hn : x.n = y.n := by rw [a3 o2, b3 o2]
      by_cases o4 : y.op = 4 ∨ y.op = 18 ∨ y.op = 15
      · rw [argX, argX, if_neg o2, if_neg o2, if_pos o4, if_pos o4] at h2
        simp only [List.cons_append, List.cons.injEq, true_and] at h2
        obtain ⟨e, h3⟩ := itoa_cut (end_of (textsX_end _ _)).2 (end_of (textsX_end _ _)).2 h2
        exact fin rfl rfl rfl rfl e hn h3
      · by_cases o6 : y.op = 6
        · rw [argX, argX, if_neg o2, if_neg o2, if_neg o4, if_neg o4, if_pos o6, if_pos o6] at h2
          simp only [List.cons_append, List.cons.injEq, true_and] at h2
          obtain ⟨e, h3⟩ := lets_cut (bin_lets _) (bin_lets _) (end_of (textsX_end _ _)).1 (end_of (textsX_end _ _)).1 h2
          exact fin rfl rfl rfl rfl (bin_inj (a5 o6) (b5 o6) e) hn h3
        · rw [argX, argX, if_neg o2, if_neg o2, if_neg o4, if_neg o4, if_neg o6, if_neg o6] at h2
          exact fin rfl rfl rfl rfl (by rw [a4 (by omega) (by omega) (by omega) (by omega), b4 (by omega) (by omega) (by omega) (by omega)]) hn h2
theorem mod_cut : ∀ (l l' : List XD), (∀ x ∈ l, x.good) → (∀ x ∈ l', x.good) → modText l = modText l' → l = l'
  | [], [], _, _, _ => rfl
  | [], _ :: _, _, _, h => by simp [modText] at h
  | _ :: _, [], _, _, h => by simp [modText] at h
  | x :: l, y :: l', g, g', h => by
    simp only [modText, List.cons.injEq, true_and] at h
    obtain ⟨rfl, h2⟩ := xtext_cut _ x y (Nat.le_refl _) (g x (by simp)) (g' y (by simp)) _ _ h
    simp only [List.cons.injEq, true_and] at h2
    rw [mod_cut l l' (fun z hz => g z (by simp [hz])) (fun z hz => g' z (by simp [hz])) h2]
mutual
theorem sameX_iff : ∀ {x y : XD}, sameX x y = true → x = y
  | .mk op k n l, .mk op' k' n' l', h => by
    simp only [sameX, Bool.and_eq_true, decide_eq_true_eq] at h
    obtain ⟨rfl, rfl, rfl, h⟩ := h
    rw [sameXs_iff h]
theorem sameXs_iff : ∀ {l l' : List XD}, sameXs l l' = true → l = l'
  | [], [], _ => rfl
  | x :: l, y :: l', h => by
    simp only [sameXs, Bool.and_eq_true] at h
    rw [sameX_iff h.1, sameXs_iff h.2]
  | [], _ :: _, h => by simp [sameXs] at h
  | _ :: _, [], h => by simp [sameXs] at h
end
theorem mod_same {l l' : List XD} (h1 : (checkX l).1 = 0) (h2 : (checkX l').1 = 0) : decide (modText l = modText l') = sameXs l l' := by
  by_cases h : modText l = modText l'
  · rw [mod_cut l l' (fun x hx => ((check_ok h1).2.2 x hx).2.2.2) (fun x hx => ((check_ok h2).2.2 x hx).2.2.2) h, sameXs_refl]
    simp
  · rw [decide_eq_false h]
    cases hs : sameXs l l'
    · rfl
    · exact absurd (by rw [sameXs_iff hs]) h
/-- how long texts are -/
theorem argX_len {op k n : Int} (hk : isI64 k) (hn : isI64 n) : (argX op k n).length ≤ 22 := by
  have h1 := itoa_length_le _ hk.1 hk.2
  have h2 := itoa_length_le _ hn.1 hn.2
  have h3 := bin_len k
  unfold argX
  split
  · simp only [List.length_cons]; omega
  · split
    · simp only [List.length_cons]; omega
    · split
      · simp only [List.length_cons]; omega
      · simp
theorem xtext_len : ∀ (N : Nat) (x : XD), SizeOf.sizeOf x ≤ N → x.wf → x.text.length + 1 ≤ 32 * x.size := by
  intro N
  induction N with
  | zero => intro x hx; have := x.so_pos; omega
  | succ N ih =>
    intro x hx hw
    obtain ⟨wk, wn, wl⟩ := XD.wf_parts hw
    have h1 := word_len x.op
    have h2 := argX_len (op := x.op) wk wn
    have key : ∀ l : List XD, (∀ z ∈ l, z ∈ x.l) → (textsX l).length ≤ 32 * sizesX l := by
      intro l
      induction l with
      | nil => intro _; simp [textsX]
      | cons z l ihl =>
        intro hm
        have a := ih z (by have := XD.lt_mem (hm z (by simp)); omega) (wl z (hm z (by simp)))
        have b := ihl fun q hq => hm q (by simp [hq])
        simp only [textsX, List.length_cons, List.length_append, sizesX]
        omega
    have h3 := key x.l fun z hz => hz
    have h4 := x.size_eq
    rw [x.text_eq]
    simp only [List.length_cons, List.length_append, List.length_nil]
    omega
theorem modText_len {l : List XD} (h : ∀ x ∈ l, x.wf ∧ x.size ≤ 120) : (modText l).length ≤ 4000 * l.length := by
  induction l with
  | nil => simp [modText]
  | cons y l ih =>
    have a := xtext_len _ y (Nat.le_refl _) (h y (by simp)).1
    have b := ih fun x hx => h x (by simp [hx])
    have c := (h y (by simp)).2
    simp only [modText, List.length_cons, List.length_append]
    omega
end Go.Proofs.YtodehiopdkgoeaaDoor
