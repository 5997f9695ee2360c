/- Statements whose order Go leaves open: the plain facts. -/
import Derived.Test.YtacocolcighomaaSound12
namespace Go.Proofs.Ytacocolcighomaa
set_option linter.unusedSimpArgs false
set_option linter.unusedVariables false
open Go Go.RowKit

section
variable {P : Program} {t τ : List AV} {h h' : AH} {o : Oper} {all : Array Oper} {M : Array Nat}

theorem evA_congr {x : Operand} (hx : ∀ d, x = .tmp d → t.getD d .junk = τ.getD d .junk) : evA t x = evA τ x := by
  cases x with
  | tmp d => exact hx d rfl
  | _ => rfl

theorem looks_op (hl : ∀ d ∈ o.looksAt all, t.getD d .junk = τ.getD d .junk) : ∀ x ∈ o.op.operands, evA t x = evA τ x := by
  intro x hx
  refine evA_congr fun d hd => hl d ?_
  subst hd
  exact List.mem_append_left _ (List.mem_filterMap.2 ⟨.tmp d, by simpa using hx, rfl⟩)

theorem wantedA_congr (hl : ∀ d ∈ o.looksAt all, t.getD d .junk = τ.getD d .junk) : wantedA all t o = wantedA all τ o := by
  unfold wantedA
  split
  · rfl
  · rename_i j want hg
    split
    · rename_i d hd
      rw [hl d (List.mem_append_right _ (by simp [hg, hd]))]
    · rfl

theorem calleeA_congr (hl : ∀ d ∈ o.looksAt all, t.getD d .junk = τ.getD d .junk) : calleeA t o = calleeA τ o := by
  have hE := looks_op hl
  unfold calleeA
  split
  · rename_i fo ao aty ho
    rw [ho] at hE
    have h1 : evA t fo = evA τ fo := hE _ (by simp [Op.operands, Call.operands])
    have h2 : ao.toList.map (evA t) = ao.toList.map (evA τ) := List.map_congr_left fun x hx => hE _ (by
      simp [Op.operands, Call.operands]
      exact .inr (by simpa using hx))
    rw [h1, h2]
  · rfl

theorem pairs_congr (ps : List (Nat × Operand)) (hp : ∀ x ∈ ps.map (·.2), evA t x = evA τ x) : (ps.map fun q => (q.1, evA t q.2)) = ps.map fun q => (q.1, evA τ q.2) :=
  List.map_congr_left fun p hm => by rw [hp p.2 (List.mem_map.2 ⟨p, hm, rfl⟩)]
theorem ops_congr (xs : Array Operand) (hp : ∀ x ∈ xs, evA t x = evA τ x) : xs.toList.map (evA t) = xs.toList.map (evA τ) := List.map_congr_left fun x hx => hp x (by simpa using hx)

theorem pureOp_congr (hE : ∀ x ∈ o.op.operands, evA t x = evA τ x) : pureOp P t o = pureOp P τ o := by
  unfold pureOp
  split
  · rename_i x ho
    rw [hE x (by simp [ho, Op.operands])]
  · rename_i x ho
    rw [hE x (by simp [ho, Op.operands])]
  · rename_i c x y ho
    rw [hE c (by simp [ho, Op.operands]), hE x (by simp [ho, Op.operands]), hE y (by simp [ho, Op.operands])]
  · rename_i ty parts ho
    rw [pairs_congr parts.toList fun x hx => hE x (by rw [ho]; simp only [Op.operands]; simpa using hx)]
  · rename_i x ho
    rw [hE x (by simp [ho, Op.operands])]
  · rename_i op ty x y yt ho
    rw [hE x (by simp [ho, Op.operands]), hE y (by simp [ho, Op.operands])]
  · rename_i op ty x ho
    rw [hE x (by simp [ho, Op.operands])]
  · rename_i src dst x ho
    rw [hE x (by simp [ho, Op.operands])]
  · rename_i ty x ho
    rw [hE x (by simp [ho, Op.operands])]
  · rename_i f first captured ho
    rw [ops_congr first fun x hx => hE x (by simp [ho, Op.operands, hx]), ops_congr captured fun x hx => hE x (by simp [ho, Op.operands, hx])]
  · rename_i ty x lo hi mx ho
    have h1 : evA t x = evA τ x := hE x (by simp [ho, Op.operands])
    have h2 : lo.map (evA t) = lo.map (evA τ) := by
      cases lo with
      | none => rfl
      | some l => simp only [Option.map_some]; rw [hE l (by simp [ho, Op.operands])]
    have h3 : hi.map (evA t) = hi.map (evA τ) := by
      cases hi with
      | none => rfl
      | some l => simp only [Option.map_some]; rw [hE l (by simp [ho, Op.operands])]
    rw [h1, h2, h3]
  · rename_i s x f ho
    rw [hE x (by simp [ho, Op.operands])]
  · rename_i s x f ho
    rw [hE x (by simp [ho, Op.operands])]
  · rename_i ty x ix ho
    rw [hE x (by simp [ho, Op.operands]), hE ix (by simp [ho, Op.operands])]
  · rename_i ty x ix ho
    rw [hE x (by simp [ho, Op.operands]), hE ix (by simp [ho, Op.operands])]
  · rename_i x xt as ok ho
    rw [hE x (by simp [ho, Op.operands])]
  · rename_i x i ho
    rw [hE x (by simp [ho, Op.operands])]
  · rename_i args argTypes ho
    have hA : ∀ x ∈ args.toList, evA t x = evA τ x := fun x hx => hE x (by rw [ho]; simp [Op.operands, Call.operands]; simpa using hx)
    split
    · rename_i x ty tys ha hty
      rw [hA x (by rw [ha]; simp)]
    · rfl
  · rfl

theorem evalOp_congr (mu : TypeId → Bool) (hl : ∀ d ∈ o.looksAt all, t.getD d .junk = τ.getD d .junk) : evalOp P mu t h o = evalOp P mu τ h o := by
  have hE := looks_op hl
  have hp := pureOp_congr (P := P) hE
  clear hl
  unfold evalOp
  split
  · rfl
  · rename_i e x ho
    rw [hE x (by simp [ho, Op.operands])]
  · rename_i ty len parts ho
    rw [pairs_congr parts.toList fun x hx => hE x (by rw [ho]; simp only [Op.operands]; simpa using hx)]
  · rename_i ty x ho
    rw [hE x (by simp [ho, Op.operands])]
  · rename_i ty x y ho
    rw [hE x (by simp [ho, Op.operands]), hE y (by simp [ho, Op.operands])]
  · rename_i ty x y ho
    rw [hE x (by simp [ho, Op.operands]), hE y (by simp [ho, Op.operands])]
  · rename_i args argTypes ho
    have hA : ∀ x ∈ args.toList, evA t x = evA τ x := fun x hx => hE x (by rw [ho]; simp [Op.operands, Call.operands]; simpa using hx)
    split
    · rename_i x y ty ty' ha hty
      rw [hA x (by rw [ha]; simp), hA y (by rw [ha]; simp)]
    · rfl
  · rw [hp]

theorem still_pure (mu : TypeId → Bool) (hs : stillA o = true) (hn : isLoad o = false) (h : AH) : evalOp P mu t h o = (pureOp P t o).map fun v => (v, h) := by
  unfold evalOp
  split
  all_goals first
    | rfl
    | (rename_i ho; simp [stillA, ho] at hs; done)
    | (rename_i ho; simp [isLoad, ho] at hn; done)

theorem still_same (mu : TypeId → Bool) (hs : stillA o = true) {v : AV} (he : evalOp P mu t h o = some (v, h')) : h' = h := by
  by_cases hn : isLoad o = true
  · unfold isLoad at hn
    split at hn
    · rename_i ty a ho
      unfold evalOp at he
      rw [ho] at he
      simp only at he
      split at he
      · cases he
      · obtain ⟨u, _, he⟩ := Option.map_eq_some_iff.1 he
        injection he with h1 h2
        exact h2.symm
    · cases hn
  · rw [still_pure mu hs (by simpa using hn)] at he
    obtain ⟨u, _, he⟩ := Option.map_eq_some_iff.1 he
    injection he with h1 h2
    exact h2.symm
theorem still_any (mu : TypeId → Bool) (hs : stillA o = true) (hn : isLoad o = false) {v : AV} (he : evalOp P mu t h o = some (v, h)) (h2 : AH) : evalOp P mu t h2 o = some (v, h2) := by
  rw [still_pure mu hs hn] at he ⊢
  obtain ⟨u, hu, he⟩ := Option.map_eq_some_iff.1 he
  injection he with h1 _
  rw [hu, ← h1]
  rfl
end
end Go.Proofs.Ytacocolcighomaa
