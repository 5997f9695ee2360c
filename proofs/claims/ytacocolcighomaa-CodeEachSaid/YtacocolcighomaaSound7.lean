/- Each operation that is no call does in memory what it does in the plain model: structs compared, slices cut, rows built. -/
import Derived.Test.YtacocolcighomaaSound6
namespace Go.Proofs.Ytacocolcighomaa
set_option linter.unusedSimpArgs false
set_option linter.unusedVariables false
open Go Go.RowKit

section
variable {P : Program} {m m' : Mm} {h h' : AH} {w w' : World} {t : List AV} {a : Act} {o : Oper}

theorem kind_int {ty : TypeId} {k : IntKind} (hk : kindA P ty = .int k) : P.underlying ty = some (.int k) := by
  unfold kindA at hk
  split at hk <;> simp at hk
  rename_i h1
  rw [h1, hk]
theorem kind_bool {ty : TypeId} (hk : kindA P ty = .bool) : P.underlying ty = some .bool := by
  unfold kindA at hk
  split at hk <;> simp at hk
  assumption
theorem kind_str {ty : TypeId} (hk : kindA P ty = .str) : P.underlying ty = some .string := by
  unfold kindA at hk
  split at hk <;> simp at hk
  assumption

theorem part_plain (ty : TypeId) {d : TypeDesc} (hd : P.underlying ty = some d) (hag : aggA P ty = false) (cs : List Value) (off : Nat) {u : Value} (hu : cs[off]? = some u) : (part ty cs.toArray off).run P w = .ok u w := by
  unfold part
  simp only [Sem.run_bind, aggA_run ty hd, Result.andThen_ok, hag]
  simp [hu]

theorem eqFields_run : ∀ (fs : List Field) (i d : Nat) (X Y : List AV) (X' Y' : List Value) (r : Bool), VRs P m h X X' → VRs P m h Y Y' →
    (fs.zipIdx i).all (fun (f, i) => f.name != "_" && f.offset == i && P.cellsOf f.type == 1) = true → eqCells (fs.map fun f => kindA P f.type) (X.drop i) (Y.drop i) = some r →
    (Op.eqFields (d + 1) X'.toArray Y'.toArray fs).run P w = .ok r w
  | [], i, d, X, Y, X', Y', r, hX, hY, hf, he => by
    simp only [List.map_nil] at he
    unfold eqCells at he
    split at he <;> simp_all [Op.eqFields]
  | f :: fs, i, d, X, Y, X', Y', r, hX, hY, hf, he => by
    simp only [List.zipIdx_cons, List.all_cons, Bool.and_eq_true, bne_iff_ne, beq_iff_eq] at hf
    obtain ⟨⟨⟨hn, hoff⟩, _⟩, hrest⟩ := hf
    simp only [List.map_cons] at he
    have step : ∀ (x y : AV) (xs ys : List AV) (b r' : Bool), X.drop i = x :: xs → Y.drop i = y :: ys → eqCells (fs.map fun f => kindA P f.type) xs ys = some r' → r = (b && r') → aggA P f.type = false → (∃ dd, P.underlying f.type = some dd) →
        (∀ u v, VR P m h x u → VR P m h y v → (Op.equalIn (d + 1) f.type u v).run P w = .ok b w) → (Op.eqFields (d + 1) X'.toArray Y'.toArray (f :: fs)).run P w = .ok r w := by
      intro x y xs ys b r' ex ey er hr hag ⟨dd, hdd⟩ heq
      have hx : X[i]? = some x := by
        have := congrArg (·[0]?) ex
        simpa using this
      have hy : Y[i]? = some y := by
        have := congrArg (·[0]?) ey
        simpa using this
      obtain ⟨u, hu1, hu2⟩ := hX.get? hx
      obtain ⟨v, hv1, hv2⟩ := hY.get? hy
      have exs : X.drop (i + 1) = xs := by
        have := congrArg (List.drop 1) ex
        simpa using this
      have eys : Y.drop (i + 1) = ys := by
        have := congrArg (List.drop 1) ey
        simpa using this
      have ih := eqFields_run fs (i + 1) d X Y X' Y' r' hX hY hrest (by rw [exs, eys]; exact er)
      have p1 := part_plain (w := w) f.type hdd hag X' i hu1
      have p2 := part_plain (w := w) f.type hdd hag Y' i hv1
      simp only [Op.eqFields, hn, ne_eq, not_false_eq_true, if_true, hoff, Sem.run_bind, p1, p2, Result.andThen_ok, heq u v hu2 hv2]
      cases b
      · simp [hr]
      · simp [hr, ih]
    generalize hXd : X.drop i = Xd at he step
    generalize hYd : Y.drop i = Yd at he step
    unfold eqCells at he
    split at he
    · rename_i hq
      simp at hq
    · rename_i _ _ _ k0 ks k a' xs k' b' ys e1 
      injection e1 with e1 e2
      split at he
      · rename_i hkk
        subst hkk
        obtain ⟨r', h1, h2⟩ := Option.map_eq_some_iff.1 he
        have hun := kind_int e1
        refine step _ _ _ _ (a' == b') r' rfl rfl (by rw [e2]; exact h1) h2.symm (by simp [aggA, hun]) ⟨_, hun⟩ (fun u v hu hv => ?_)
        cases hu
        cases hv
        simp [Op.equalIn, run_underlying hun]
      · cases he
    · rename_i _ _ _ ks a' xs b' ys e1
      injection e1 with e1 e2
      obtain ⟨r', h1, h2⟩ := Option.map_eq_some_iff.1 he
      have hun := kind_bool e1
      refine step _ _ _ _ (a' == b') r' rfl rfl (by rw [e2]; exact h1) h2.symm (by simp [aggA, hun]) ⟨_, hun⟩ (fun u v hu hv => ?_)
      cases hu
      cases hv
      simp [Op.equalIn, run_underlying hun]
    · rename_i _ _ _ ks a' xs b' ys e1
      injection e1 with e1 e2
      obtain ⟨r', h1, h2⟩ := Option.map_eq_some_iff.1 he
      have hun := kind_str e1
      refine step _ _ _ _ (a' == b') r' rfl rfl (by rw [e2]; exact h1) h2.symm (by simp [aggA, hun]) ⟨_, hun⟩ (fun u v hu hv => ?_)
      cases hu
      cases hv
      simp [run_equalIn_string, hun]
    · cases he

theorem op_eqAgg (hw : WR P m h w) (ht : TR P m h t a.tmps) (op : BinOp) (ty yt : TypeId) (x y : Operand) (ho : o.op = .binOp op ty x y yt) {xs ys : List AV} {ks : List Kd} {b : Bool} {v : AV} (hx : evA t x = .agg xs) (hy : evA t y = .agg ys) (hk : flatK P ty = some ks)
    (hb : eqCells ks xs ys = some b) (hop : (op = .eql ∧ v = .bool b) ∨ (op = .neq ∧ v = .bool !b)) : OpR P m h a w o v h := by
  have h1 := evA_sound ht x
  have h2 := evA_sound ht y
  rw [hx] at h1
  rw [hy] at h2
  obtain ⟨u1, hu1⟩ : ∃ u, a.eval x = u := ⟨_, rfl⟩
  obtain ⟨u2, hu2⟩ : ∃ u, a.eval y = u := ⟨_, rfl⟩
  rw [hu1] at h1
  rw [hu2] at h2
  cases h1 with
  | agg _ l1 a1 a2 =>
  cases h2 with
  | agg _ l2 b1 b2 =>
  unfold flatK at hk
  split at hk
  · rename_i fs hfs
    split at hk
    · rename_i hc
      injection hk with hk
      subst hk
      simp only [Bool.and_eq_true, Bool.not_eq_true'] at hc
      obtain ⟨⟨c1, c2⟩, c3⟩ := hc
      have hfo : P.fieldsOf ty = fs := by simp [Program.fieldsOf, hfs]
      have hun : P.underlying ty = some (.struct (P.fieldsOf ty)) := by rw [hfo]; exact hfs
      have hE : (Op.equalIn 10000 ty (.agg l1.toArray) (.agg l2.toArray)).run P w = .ok b w := by
        rw [show (10000 : Nat) = 9999 + 1 from rfl, run_equalIn_agg w 9999 ty _ _ hun c1, hfo]
        exact eqFields_run fs.toList 0 9998 xs ys l1 l2 b ⟨a1, a2⟩ ⟨b1, b2⟩ c3 hb
      rcases hop with ⟨rfl, rfl⟩ | ⟨rfl, rfl⟩
      · refine OpR.pure hw (u := .bool b) ?_ (.bool _)
        simp only [execOp, ho, hu1, hu2, Sem.run_bind, run_eqGuard_agg w _ _ _ _ _ _ c2, Result.andThen_ok, run_eql_struct, hE, Sem.run_pure]
      · refine OpR.pure hw (u := .bool !b) ?_ (.bool _)
        simp only [execOp, ho, hu1, hu2, Sem.run_bind, run_eqGuard_agg w _ _ _ _ _ _ c2, Result.andThen_ok, run_neq_struct, hE, Sem.run_pure]
    · cases hk
  · cases hk

/-- bounds -/
theorem bound_run (x : Value) (k : IntKind) (i : Int) (y : Nat) (c : BoundsCode) (hx : x = .int k i) (h0 : 0 ≤ i) (h1 : i ≤ y) : (Instr.sliceBound x y c).run P w = .ok i.toNat w := by
  subst hx
  simp [Instr.sliceBound, asIntOf, h0, h1]

theorem bounds_run (isS : Bool) (n cap : Nat) (lo hi : Option Operand) (ht : TR P m h t a.tmps) {l r : Int} (hl : loA (lo.map (evA t)) = some l) (hr : hiA n (hi.map (evA t)) = some r) (h0 : 0 ≤ l) (h1 : l ≤ r) (h2 : r ≤ n) (h3 : n ≤ cap) :
    (Instr.sliceBounds isS n cap (lo.map a.eval) (hi.map a.eval) none).run P w = .ok (l.toNat, r.toNat, cap) w := by
  have hhi : ∀ x, hi = some x → ∀ (y : Nat) c, r ≤ (y : Int) → (Instr.sliceBound (a.eval x) y c).run P w = .ok r.toNat w := by
    intro x hx0 y c hy
    subst hx0
    have hx := evA_sound ht x
    simp only [Option.map_some] at hr
    generalize evA t x = ex at hr hx
    generalize a.eval x = ax at hx
    cases hx <;> simp [hiA] at hr
    subst hr
    exact bound_run _ _ _ _ _ rfl (by omega) (by omega)
  have hlo : ∀ x, lo = some x → ∀ (y : Nat) c, l ≤ (y : Int) → (Instr.sliceBound (a.eval x) y c).run P w = .ok l.toNat w := by
    intro x hx0 y c hy
    subst hx0
    have hx := evA_sound ht x
    simp only [Option.map_some] at hl
    generalize evA t x = ex at hl hx
    generalize a.eval x = ax at hx
    cases hx <;> simp [loA] at hl
    subst hl
    exact bound_run _ _ _ _ _ rfl (by omega) (by omega)
  cases hi with
  | none =>
    have hr' : r.toNat = n := by
      simp [hiA] at hr
      omega
    cases lo with
    | none =>
      have hl' : l.toNat = 0 := by
        simp [loA] at hl
        omega
      simp [Instr.sliceBounds, hr', hl']
    | some x => simp [Instr.sliceBounds, hr', hlo x rfl n _ (by omega)]
  | some y =>
    cases lo with
    | none =>
      have hl' : l.toNat = 0 := by
        simp [loA] at hl
        omega
      simp [Instr.sliceBounds, hl', hhi y rfl cap _ (by omega)]
    | some x => simp [Instr.sliceBounds, hhi y rfl cap _ (by omega), hlo x rfl r.toNat _ (by omega)]

theorem strT_run {ty : TypeId} (h1 : isStrT P ty = true) : P.underlying ty = some .string := by
  unfold isStrT at h1
  split at h1
  · assumption
  · cases h1
theorem slcT_run {ty : TypeId} (h1 : isSlcT P ty = true) : ∃ e, elemA P ty = some e := by
  unfold isSlcT at h1
  exact Option.isSome_iff_exists.1 h1

theorem op_slice (hT : TyOK P) (hw : WR P m h w) (ht : TR P m h t a.tmps) (ty : TypeId) (x : Operand) (lo hi : Option Operand) (ho : o.op = .slice ty x lo hi none) (hf : fitsT P ty (evA t x) = true) {v : AV} (hv : sliceA (evA t x) (lo.map (evA t)) (hi.map (evA t)) = some v) :
    OpR P m h a w o v h := by
  have hc := evA_sound ht x
  have key : ∃ l n r, loA (lo.map (evA t)) = some l ∧ lenA (evA t x) = some n ∧ hiA n (hi.map (evA t)) = some r ∧ (0 ≤ l ∧ l ≤ r ∧ r ≤ n) ∧ cutA (evA t x) l r = some v := by
    unfold sliceA at hv
    obtain ⟨l, hl, hv1⟩ := Option.bind_eq_some_iff.1 hv
    obtain ⟨n, hn, hv2⟩ := Option.bind_eq_some_iff.1 hv1
    obtain ⟨r, hr, hv3⟩ := Option.bind_eq_some_iff.1 hv2
    split at hv3
    · rename_i hcond
      exact ⟨l, n, r, hl, hn, hr, hcond, hv3⟩
    · cases hv3
  clear hv
  obtain ⟨l, n, r, hl, hn, hr, ⟨h0, h1, h2⟩, hv⟩ := key
  · revert hf hc hn hv
    obtain ⟨u, hu⟩ : ∃ u, a.eval x = u := ⟨_, rfl⟩
    rw [hu]
    generalize evA t x = ex
    intro hf hc hn hv
    have pre : ∀ {d : TypeDesc}, P.underlying ty = some d → (∀ k e, d ≠ .array k e) → (execOp a.eval o).run P w = ((Instr.slice ty u (lo.map a.eval) (hi.map a.eval) none).run P w).andThen fun v w' => .ok (.value v) w' := by
      intro d hd hne
      simp only [execOp, ho, hu, Instr.sliceAt, Sem.run_bind, run_underlying hd, Result.andThen_ok, Option.map_none]
      cases d <;> first | rfl | exact absurd rfl (hne _ _)
    cases hc with
    | str s =>
      simp only [lenA, Option.some.injEq] at hn
      simp only [cutA, Option.some.injEq] at hv
      subst hn
      subst hv
      · have hd := strT_run (P := P) (ty := ty) hf
        refine OpR.pure hw (u := .string ⟨((s.drop l.toNat).take (r.toNat - l.toNat)).toArray⟩) ?_ (.str _)
        rw [pre hd (by simp)]
        simp only [Instr.slice, Sem.run_bind, run_underlying hd, Result.andThen_ok, Option.isSome_none, Bool.false_eq_true, if_false, ba_size, Sem.run_pure]
        rw [bounds_run false s.length s.length lo hi ht hl hr h0 h1 h2 (Nat.le_refl _)]
        simp only [Result.andThen_ok]
        congr 3
        apply ByteArray.ext
        simp [ByteArray.data_extract]
    | nils =>
      simp only [lenA, Option.some.injEq] at hn
      simp only [cutA, Option.some.injEq] at hv
      subst hn
      subst hv
      · obtain ⟨e, hf'⟩ := slcT_run (P := P) (ty := ty) hf
        have hd := elem_run hf'
        have hpos := elem_pos hT hf'
        obtain ⟨i0, hi0, hi1⟩ := size_info (P := P) (q := e) (by unfold szA; omega)
        have hl0 : l = 0 := by omega
        have hr0 : r = 0 := by omega
        refine OpR.pure hw (u := .slice none 0 0) ?_ .nils
        rw [pre hd (by simp)]
        simp only [Instr.slice, Sem.run_bind, run_underlying hd, Result.andThen_ok]
        rw [bounds_run true 0 0 lo hi ht hl hr h0 h1 h2 (Nat.le_refl _)]
        simp [hl0, hr0, sizeOf, typeInfo, hi0]
    | isl0 e a' cap =>
      simp only [lenA, Option.some.injEq, List.length_nil] at hn
      simp only [cutA, Option.some.injEq, List.drop_nil, List.take_nil] at hv
      subst hn
      subst hv
      simp only [fitsT, beq_iff_eq] at hf
      have hd := elem_run hf
      have hpos := elem_pos hT hf
      obtain ⟨i0, hi0, hi1⟩ := size_info (P := P) (q := e) (by unfold szA; omega)
      have hl0 : l = 0 := by omega
      have hr0 : r = 0 := by omega
      refine OpR.pure hw (u := .slice (some a') 0 cap) ?_ (.isl0 e a' cap)
      rw [pre hd (by simp)]
      simp only [Instr.slice, Sem.run_bind, run_underlying hd, Result.andThen_ok]
      rw [bounds_run true 0 cap lo hi ht hl hr h0 h1 h2 (Nat.zero_le _)]
      simp [hl0, hr0, sizeOf, typeInfo, hi0, Addr.add]
    | isl id e es g o' cap F hle hi' hvv hcap htt =>
      simp only [lenA, Option.some.injEq] at hn
      simp only [cutA, Option.some.injEq] at hv
      subst hn
      subst hv
      simp only [fitsT, beq_iff_eq] at hf
      have hd := elem_run hf
      have hpos := elem_pos hT hf
      obtain ⟨i0, hi0, hi1⟩ := size_info (P := P) (q := e) (by unfold szA; omega)
      have hi2 : i0.size = P.cellsOf e := hi1
      have hlen : ((es.drop l.toNat).take (r.toNat - l.toNat)).length = r.toNat - l.toNat := by simp; omega
      have hrun : (execOp a.eval o).run P w = .ok (.value (.slice (some (if cap = l.toNat then ⟨g, o', none⟩ else ⟨g, o' + l.toNat * P.cellsOf e, none⟩)) (r.toNat - l.toNat) (cap - l.toNat))) w := by
        rw [pre hd (by simp)]
        simp only [Instr.slice, Sem.run_bind, run_underlying hd, Result.andThen_ok]
        rw [bounds_run true es.length cap lo hi ht hl hr h0 h1 h2 hcap]
        simp only [Result.andThen_ok, sizeOf, typeInfo, Sem.run_bind, run_program, hi0, Sem.run_pure, hi2]
        by_cases hcl : cap = l.toNat
        · simp [hcl]
        · simp [hcl, Addr.add_lit]
      obtain ⟨o2, ho2⟩ : ∃ o2, (if cap = l.toNat then (⟨g, o', none⟩ : Addr) else ⟨g, o' + l.toNat * P.cellsOf e, none⟩) = ⟨g, o2, none⟩ ∧ (cap ≠ l.toNat → o2 = o' + l.toNat * P.cellsOf e) := by
        by_cases hcl : cap = l.toNat
        · exact ⟨o', by simp [hcl], fun hne => absurd hcl hne⟩
        · exact ⟨_, by simp [hcl], fun _ => rfl⟩
      obtain ⟨ho2, ho3⟩ := ho2
      rw [ho2] at hrun
      refine OpR.pure hw hrun ?_
      have hres := VR.isl (P := P) (m := m) (h := h) none e ((es.drop l.toNat).take (r.toNat - l.toNat)) g o2 (cap - l.toNat) (fun i j => F (l.toNat + i) j) (fun q hq => hle q (List.mem_of_mem_drop (List.mem_of_mem_take hq))) (by
        intro i hi3 j hj
        rw [hlen] at hi3
        rw [ho3 (by omega)]
        have := hi' (l.toNat + i) (by omega) j hj
        rw [Nat.add_mul] at this
        rw [← this]
        congr 1
        omega) (by
        intro i hi3 j hj
        simp only [List.getElem_take, List.getElem_drop] at hj ⊢
        exact hvv _ _ j hj) (by rw [hlen]; omega) (fun k hk => by cases hk)
      rw [hlen] at hres
      exact hres
    | msl b o' n' e cap hb he' hcap hnn hmx =>
      simp only [lenA, Option.some.injEq] at hn
      simp only [cutA] at hv
      subst hn
      split at hv
      · rename_i hl0
        injection hv with hv
        subst hv
        subst hl0
        simp only [fitsT, beq_iff_eq] at hf
        have hd := elem_run hf
        have hpos := elem_pos hT hf
        obtain ⟨i0, hi0, hi1⟩ := size_info (P := P) (q := e) (by unfold szA; omega)
        refine OpR.pure hw (u := .slice (some ⟨m.blk b, o' * P.cellsOf e, none⟩) r.toNat cap) ?_ (.msl b o' r.toNat e cap hb he' hcap (by omega) hmx)
        rw [pre hd (by simp)]
        simp only [Instr.slice, Sem.run_bind, run_underlying hd, Result.andThen_ok]
        rw [bounds_run true n' cap lo hi ht hl hr h0 h1 h2 hnn]
        simp only [Result.andThen_ok, sizeOf, typeInfo, Sem.run_bind, run_program, hi0, Sem.run_pure]
        by_cases hcl : cap = 0
        · simp [hcl]
        · simp [Addr.add_lit]
      · cases hv
    | _ => simp [cutA] at hv
end
end Go.Proofs.Ytacocolcighomaa
