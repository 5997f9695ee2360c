/- What a list of steps comes to the function comes to. -/
import Derived.Test.YtacocolcighomaaRc2
namespace Go.Proofs.Ytacocolcighomaa
set_option linter.unusedSimpArgs false
set_option linter.unusedVariables false
open Go

section
variable {P : Program} {po : Pol} {f : FuncId} {n : Nat} {vm lm : List Nat} {t V L : List AV} {h : AH} {mu : TypeId → Bool} {plan : Nat → List (Nat × List Nat)}

theorem nodup_inj {l : List Nat} (h : l.Nodup) {i j s : Nat} (hi : l[i]? = some s) (hj : l[j]? = some s) : i = j := by
  obtain ⟨a1, a2⟩ := List.getElem?_eq_some_iff.1 hi
  obtain ⟨b1, b2⟩ := List.getElem?_eq_some_iff.1 hj
  have := List.pairwise_iff_getElem.1 h
  rcases Nat.lt_trichotomy i j with h | h | h
  · exact absurd (a2.trans b2.symm) (this i j a1 b1 h)
  · exact h
  · exact absurd (b2.trans a2.symm) (this j i b1 a1 h)
theorem trDst_sound (r : RV n vm lm t V L) (hnd : vm.Nodup) {dst : Option Tmp} {d : RD × List Nat} (he : trDst n vm lm dst = some d) (v : AV) : RV n vm d.2 (putA t dst v) (putV V v d.1) (putL L v d.1) := by
  cases dst with
  | none => simp only [trDst, Option.some.injEq] at he; subst he; exact r
  | some s =>
    simp only [trDst] at he
    split at he
    · cases he
    · rename_i hc
      simp only [not_or, Nat.not_le, Option.isSome_iff_ne_none, ne_eq, Classical.not_not] at hc
      obtain ⟨c1, c2⟩ := hc
      have hnl := findI_none lm 0 c2
      split at he
      · rename_i j hj
        injection he with he
        subst he
        have hj' := findI_get hj
        refine ⟨by simp [putA, r.len], by simp [putV, r.lv], r.ll, fun i q hq => ?_, fun i q hq => ?_⟩
        · obtain ⟨h1, h2⟩ := r.v i q hq
          refine ⟨h1, ?_⟩
          by_cases hij : i = j
          · subst hij
            rw [hj'] at hq
            injection hq with hq
            subst hq
            have hlt : i < V.length := by rw [r.lv]; exact (List.getElem?_eq_some_iff.1 hj').1
            rw [putA_eq rfl (by rw [r.len]; exact h1)]
            simp [putV, List.getD, hlt]
          · have hne : s ≠ q := by
              intro e
              subst e
              exact hij (nodup_inj hnd hq hj')
            rw [putA_ne (by simpa using hne), h2]
            simp [putV, List.getD, List.getElem?_set_ne (Ne.symm hij)]
        · obtain ⟨h1, h2⟩ := r.l i q hq
          refine ⟨h1, ?_⟩
          have hne : s ≠ q := fun e => hnl (by rw [e]; exact List.mem_of_getElem? hq)
          rw [putA_ne (by simpa using hne), h2]
          rfl
      · rename_i hj
        injection he with he
        subst he
        have hnv := findI_none vm 0 hj
        refine ⟨by simp [putA, r.len], r.lv, by simp [putL, r.ll], fun i q hq => ?_, fun i q hq => ?_⟩
        · obtain ⟨h1, h2⟩ := r.v i q hq
          have hne : s ≠ q := fun e => hnv (by rw [e]; exact List.mem_of_getElem? hq)
          exact ⟨h1, by rw [putA_ne (by simpa using hne), h2]; rfl⟩
        · cases i with
          | zero =>
            simp only [List.getElem?_cons_zero, Option.some.injEq] at hq
            subst hq
            exact ⟨c1, by rw [putA_eq rfl (by rw [r.len]; exact c1)]; rfl⟩
          | succ i =>
            simp only [List.getElem?_cons_succ] at hq
            obtain ⟨h1, h2⟩ := r.l i q hq
            have hne : s ≠ q := fun e => hnl (by rw [e]; exact List.mem_of_getElem? hq)
            exact ⟨h1, by rw [putA_ne (by simpa using hne), h2]; rfl⟩

theorem trGuard_sound (r : RV n vm lm t V L) {all : Array Oper} {o : Oper} {g : Option (Arg × Bool)} (he : trGuard vm lm all o = some g) : wantedA all t o = guardO V L g := by
  unfold trGuard at he
  split at he
  · rename_i hg
    injection he with he
    subst he
    simp [wantedA, hg, guardO]
  · rename_i j want hg
    obtain ⟨d, hd, he⟩ := Option.bind_eq_some_iff.1 he
    obtain ⟨a, ha, rfl⟩ := Option.map_eq_some_iff.1 he
    have := trArg_sound r ha
    simp only [evA] at this
    simp only [wantedA, hg, hd, this, guardO, guardR]
    rfl

theorem trCks_sound (r : RV n vm lm t V L) {all : Array Oper} : ∀ {l : List Oper} {c : List RCk}, trCks P vm lm all l = some c → chkR V L h c → chkA P all t h l
  | [], c, _, _ => trivial
  | o :: l, c, he, hc => by
    simp only [trCks] at he
    obtain ⟨q, hq, he⟩ := Option.bind_eq_some_iff.1 he
    obtain ⟨c', hc', rfl⟩ := Option.map_eq_some_iff.1 he
    obtain ⟨h1, h2⟩ := hc
    refine ⟨?_, trCks_sound r hc' h2⟩
    unfold trCk at hq
    split at hq
    · rename_i ty a d ho hd
      obtain ⟨g, hg, hq⟩ := Option.bind_eq_some_iff.1 hq
      obtain ⟨a', ha, hq⟩ := Option.bind_eq_some_iff.1 hq
      obtain ⟨d', hd', rfl⟩ := Option.map_eq_some_iff.1 hq
      rw [trGuard_sound r hg]
      have e1 := trArg_sound r ha
      have e2 := trArg_sound r hd'
      simp only [evA] at e2
      simp only at h1
      split at h1
      · rename_i hw
        rw [hw]
        simp only [ho, hd, e1, e2]
        exact h1
      · rename_i hw
        split
        · rename_i hw'
          exact absurd hw' hw
        · trivial
    · cases hq

def trL (P : Program) (mu : TypeId → Bool) (plan : Nat → List (Nat × List Nat)) (n : Nat) (vm : List Nat) : List Code → List RS → Option (List RS)
  | [], r => some r
  | c :: cs, r => (trL P mu plan n vm cs r).bind fun r => trCode P mu plan n vm c r

inductive HeadR (P : Program) (mu : TypeId → Bool) (plan : Nat → List (Nat × List Nat)) (n : Nat) (vm : List Nat) : Code → RS → Prop
  | cond (c : Operand) (x y : Code) (a : Arg) (xs ys : List RS) : trArg vm [] c = some a → trCode P mu plan n vm x [] = some xs → trCode P mu plan n vm y [] = some ys → HeadR P mu plan n vm (.cond c x y) (.cond a xs ys)
  | block (id : Nat) (b : Code) (bs : List RS) : trCode P mu plan n vm b [] = some bs → HeadR P mu plan n vm (.block id b) (.block id bs)
  | loop (b : Code) (bs : List RS) : trCode P mu plan n vm b [] = some bs → HeadR P mu plan n vm (.loop b) (.loop bs)
  | exit (id : Nat) : HeadR P mu plan n vm (.exit id) (.exit id)
  | ret : HeadR P mu plan n vm .ret .ret
  | region (id : Nat) (all : Array Oper) (d : Bool) (is : List RI) : trOps P mu n vm all [] (planA d all (plan id)) = some is → HeadR P mu plan n vm (.region id all d) (.ops is)

theorem trL_append (cs ds : List Code) (r : List RS) : trL P mu plan n vm (cs ++ ds) r = (trL P mu plan n vm ds r).bind fun r => trL P mu plan n vm cs r := by
  induction cs with
  | nil => simp only [List.nil_append, trL]; cases trL P mu plan n vm ds r <;> rfl
  | cons c cs ih => simp only [List.cons_append, trL, ih]; cases trL P mu plan n vm ds r <;> rfl

theorem head_code : ∀ (c : Code) (r l : List RS), trCode P mu plan n vm c r = some l →
    (l = r ∧ ∀ k t h, runK P po f (.code c :: k) t h = runK P po f k t h) ∨
    (∃ s l' c1 cs, l = s :: l' ∧ trL P mu plan n vm cs r = some l' ∧ HeadR P mu plan n vm c1 s ∧ ∀ k t h, runK P po f (.code c :: k) t h = runK P po f (.code c1 :: (cs.map .code ++ k)) t h) := by
  intro c
  induction c with
  | skip => intro r l he; simp only [trCode, Option.some.injEq] at he; exact .inl ⟨he.symm, fun k t h => runK_skip⟩
  | label i => intro r l he; simp only [trCode, Option.some.injEq] at he; exact .inl ⟨he.symm, fun k t h => runK_label⟩
  | seq a b iha ihb =>
    intro r l he
    simp only [trCode] at he
    obtain ⟨r1, h1, h2⟩ := Option.bind_eq_some_iff.1 he
    rcases iha r1 l h2 with ⟨e1, e2⟩ | ⟨s, l', c1, cs, e1, e2, e3, e4⟩
    · subst e1
      rcases ihb r l h1 with ⟨f1, f2⟩ | ⟨s, l', c1, cs, f1, f2, f3, f4⟩
      · exact .inl ⟨f1, fun k t h => by rw [runK_seq, e2, f2]⟩
      · exact .inr ⟨s, l', c1, cs, f1, f2, f3, fun k t h => by rw [runK_seq, e2, f4]⟩
    · refine .inr ⟨s, l', c1, cs ++ [b], e1, ?_, e3, fun k t h => ?_⟩
      · rw [trL_append]
        simp only [trL, Option.bind_some, h1, e2]
      · rw [runK_seq, e4]
        simp
  | cond c x y _ _ =>
    intro r l he
    simp only [trCode] at he
    obtain ⟨a, ha, he⟩ := Option.bind_eq_some_iff.1 he
    obtain ⟨xs, hx, he⟩ := Option.bind_eq_some_iff.1 he
    obtain ⟨ys, hy, rfl⟩ := Option.map_eq_some_iff.1 he
    exact .inr ⟨_, _, _, [], rfl, rfl, .cond _ _ _ _ _ _ ha hx hy, fun k t h => rfl⟩
  | block id b _ =>
    intro r l he
    simp only [trCode] at he
    obtain ⟨bs, hb, rfl⟩ := Option.map_eq_some_iff.1 he
    exact .inr ⟨_, _, _, [], rfl, rfl, .block _ _ _ hb, fun k t h => rfl⟩
  | loop b _ =>
    intro r l he
    simp only [trCode] at he
    obtain ⟨bs, hb, rfl⟩ := Option.map_eq_some_iff.1 he
    exact .inr ⟨_, _, _, [], rfl, rfl, .loop _ _ hb, fun k t h => rfl⟩
  | exit id => intro r l he; simp only [trCode, Option.some.injEq] at he; subst he; exact .inr ⟨_, _, _, [], rfl, rfl, .exit _, fun k t h => rfl⟩
  | ret => intro r l he; simp only [trCode, Option.some.injEq] at he; subst he; exact .inr ⟨_, _, _, [], rfl, rfl, .ret, fun k t h => rfl⟩
  | region id ops d =>
    intro r l he
    simp only [trCode] at he
    obtain ⟨is, his, rfl⟩ := Option.map_eq_some_iff.1 he
    exact .inr ⟨_, _, _, [], rfl, rfl, .region _ _ _ _ his, fun k t h => rfl⟩
  | _ => intro r l he; simp [trCode] at he

theorem head_list : ∀ (cs : List Code) (l : List RS), trL P mu plan n vm cs [] = some l →
    (l = [] ∧ ∀ k t h, runK P po f (cs.map .code ++ k) t h = runK P po f k t h) ∨
    (∃ s l' c1 cs', l = s :: l' ∧ trL P mu plan n vm cs' [] = some l' ∧ HeadR P mu plan n vm c1 s ∧ ∀ k t h, runK P po f (cs.map .code ++ k) t h = runK P po f (.code c1 :: (cs'.map .code ++ k)) t h) := by
  intro cs
  induction cs with
  | nil => intro l he; simp only [trL, Option.some.injEq] at he; exact .inl ⟨he.symm, fun k t h => rfl⟩
  | cons c cs ih =>
    intro l he
    simp only [trL] at he
    obtain ⟨r, h1, h2⟩ := Option.bind_eq_some_iff.1 he
    rcases head_code (po := po) (f := f) c r l h2 with ⟨e1, e2⟩ | ⟨s, l', c1, cs1, e1, e2, e3, e4⟩
    · subst e1
      rcases ih l h1 with ⟨f1, f2⟩ | ⟨s, l', c1, cs', f1, f2, f3, f4⟩
      · exact .inl ⟨f1, fun k t h => by simp only [List.map_cons, List.cons_append]; rw [e2, f2]⟩
      · exact .inr ⟨s, l', c1, cs', f1, f2, f3, fun k t h => by simp only [List.map_cons, List.cons_append]; rw [e2, f4]⟩
    · refine .inr ⟨s, l', c1, cs1 ++ cs, e1, ?_, e3, fun k t h => ?_⟩
      · rw [trL_append, h1]
        exact e2
      · simp only [List.map_cons, List.cons_append]
        rw [e4]
        simp

inductive KC (P : Program) (mu : TypeId → Bool) (plan : Nat → List (Nat × List Nat)) (n : Nat) (vm : List Nat) : List AItem → List RK → Prop
  | nil : KC P mu plan n vm [] []
  | ss (cs : List Code) (l : List RS) (k : List AItem) (rk : List RK) : trL P mu plan n vm cs [] = some l → KC P mu plan n vm k rk → KC P mu plan n vm (cs.map .code ++ k) (.ss l :: rk)
  | blk (id : Nat) (k : List AItem) (rk : List RK) : KC P mu plan n vm k rk → KC P mu plan n vm (.inBlock id :: k) (.blk id :: rk)
  | lp (c : Code) (b : List RS) (k : List AItem) (rk : List RK) : trCode P mu plan n vm c [] = some b → KC P mu plan n vm k rk → KC P mu plan n vm (.inLoop c :: k) (.lp b :: rk)

theorem exitA_codes {id : Nat} (cs : List Code) (k : List AItem) : exitA id (cs.map .code ++ k) = exitA id k := by
  induction cs with
  | nil => rfl
  | cons c cs ih => simp only [List.map_cons, List.cons_append, exitA]; exact ih
theorem exit_rel {id : Nat} {k : List AItem} {rk rk' : List RK} (hk : KC P mu plan n vm k rk) (he : exitR id rk = some rk') : ∃ k', exitA id k = some k' ∧ KC P mu plan n vm k' rk' := by
  induction hk with
  | nil => simp [exitR] at he
  | ss cs l k rk h1 h2 ih =>
    simp only [exitR] at he
    obtain ⟨k', e1, e2⟩ := ih he
    exact ⟨k', by rw [exitA_codes]; exact e1, e2⟩
  | blk i k rk h1 ih =>
    simp only [exitR] at he
    by_cases hi : i = id
    · rw [if_pos hi] at he
      injection he with he
      subst he
      exact ⟨k, by simp [exitA, hi], h1⟩
    · rw [if_neg hi] at he
      obtain ⟨k', e1, e2⟩ := ih he
      exact ⟨k', by simp [exitA, hi]; exact e1, e2⟩
  | lp c b k rk h1 h2 ih =>
    simp only [exitR] at he
    obtain ⟨k', e1, e2⟩ := ih he
    exact ⟨k', by simp only [exitA]; exact e1, e2⟩

/-- what is shown of a run of steps -/
def ToK (P : Program) (po : Pol) (f : FuncId) (n : Nat) (vm : List Nat) (ak : List AItem) (t : List AV) (h : AH) (r : AEx × List AV × AH) : Prop :=
  ∃ t', runK P po f ak t h = some (r.1, t', r.2.2) ∧ (r.1 = .ret → RV n vm [] t' r.2.1 [])

def MotR (P : Program) (po : Pol) (f : FuncId) (n : Nat) (vm : List Nat) (k : List RK) (V L : List AV) (h : AH) (r : AEx × List AV × AH) : Prop :=
  (∀ ak t, KC P (po.mu f) (po.plan f) n vm ak k → RV n vm [] t V [] → ToK P po f n vm ak t h r) ∧
  (∀ d all l is ak lm t k', k = .ops is :: k' → trOps P (po.mu f) n vm all lm l = some is → KC P (po.mu f) (po.plan f) n vm ak k' → RV n vm lm t V L → ToK P po f n vm (.ops d all l :: ak) t h r) ∧
  (∀ d all l is c ck ak lm t k', k = .ops (.ck c :: is) :: k' → trCks P vm lm all ck = some c → trOps P (po.mu f) n vm all lm l = some is → KC P (po.mu f) (po.plan f) n vm ak k' → RV n vm lm t V L →
    chkA P all t h ck ∧ ToK P po f n vm (.ops d all l :: ak) t h r)

theorem ToK.eq {ak ak' : List AItem} {t t' : List AV} {h h' : AH} {r : AEx × List AV × AH} (he : runK P po f ak t h = runK P po f ak' t' h') (hk : ToK P po f n vm ak' t' h' r) : ToK P po f n vm ak t h r := by
  obtain ⟨t2, h1, h2⟩ := hk
  exact ⟨t2, he.trans h1, h2⟩
theorem MotR.not_ops {k : List RK} {V L : List AV} {h : AH} {r : AEx × List AV × AH} (hno : ∀ is k', k ≠ .ops is :: k') (hk : ∀ ak t, KC P (po.mu f) (po.plan f) n vm ak k → RV n vm [] t V [] → ToK P po f n vm ak t h r) : MotR P po f n vm k V L h r :=
  ⟨hk, fun d all l is ak lm t k' he => absurd he (hno _ _), fun d all l is c ck ak lm t k' he => absurd he (hno _ _)⟩
theorem RV.drop {L : List AV} {lm : List Nat} (r : RV n vm lm t V L) : RV n vm [] t V [] := ⟨r.len, r.lv, rfl, r.v, fun j s hs => by simp at hs⟩
theorem RV.clear {nk nr : Nat} (r : RV n vm [] t V []) (h1 : ∀ j s, vm[j]? = some s → (j < nr ↔ s < nk)) : RV n vm [] (clearA nk t) (clearA nr V) [] := by
  refine ⟨by rw [← r.len, clearA]; simp; omega, by rw [← r.lv, clearA]; simp; omega, rfl, fun j s hs => ?_, fun j s hs => by simp at hs⟩
  obtain ⟨a1, a2⟩ := r.v j s hs
  refine ⟨a1, ?_⟩
  have hj : j < V.length := by rw [r.lv]; exact (List.getElem?_eq_some_iff.1 hs).1
  have hs' : s < t.length := by rw [r.len]; exact a1
  have get : ∀ (n : Nat) (x : List AV) (i : Nat), i < x.length → (clearA n x).getD i .junk = if i < n then x.getD i .junk else .junk := by
    intro n x i hi
    unfold clearA
    by_cases hin : i < n
    · have : i < (x.take n).length := by simp; omega
      rw [if_pos hin, List.getD, List.getElem?_append_left this, List.getElem?_take]
      simp [hin, List.getD]
    · rw [if_neg hin, List.getD, List.getElem?_append_right (by simp; omega)]
      simp only [List.getElem?_replicate]
      split <;> rfl
  rw [get _ _ _ hs', get _ _ _ hj]
  by_cases hlt : j < nr
  · rw [if_pos hlt, if_pos ((h1 j s hs).1 hlt), a2]
  · rw [if_neg hlt, if_neg (fun x => hlt ((h1 j s hs).2 x))]
end
end Go.Proofs.Ytacocolcighomaa
