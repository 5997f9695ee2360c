/- WatchGiven: for every input the law returns true, and each argument reads as it did. No condition. -/
import Derived.Test.YtkdbjfncchmmpaaMg9
namespace Go.Proofs.Ytkdbjfncchmmpaa.watchGiven
set_option linter.unusedSimpArgs false
set_option linter.unusedVariables false
open Go.ChangeShapes Go.WideShapes Go.ChangeAt Go.RowKit Go.Deep
open Go.ChangeMaps (open_string)
set_option maxRecDepth 100000 in
theorem lifted (os:Os) (started:os.Started) (H:Type) (enc:TypeId×Value→H):
  ReturnsInHanded {} Try.checked os 10 .any (Rows.watchGivenSpec.pre6 enc Try.prog Try.f10 Rows.watchGivenRow.domain false) (Rows.watchGivenSpec.post enc Try.prog Try.f10 false true false false):=by
 refine returnsInHanded_of_change (C:=Try.checked) own started (by kernel_rfl) Try.func10
  (ChangeSpec.witness6 (enc:=enc) (C:=Try.checked) false ⟨#[],#[.slice none 0 0],[]⟩ 8 (by kernel_rfl) (by kernel_rfl) (by kernel_rfl) (by kernel_rfl)) ?_
 intro W base args ds gs before hval0 hW _ _
 have hval:∀ (j:Nat) t v,Try.f10.params[j]? =some t→args[j]? =some v→Value.okWide Try.prog W .any base t v:=hval0
 have hW':=hW
 obtain⟨p,q,hA0,_,_,_,_⟩:=hW
 have hA:DataW.TrodAll enc Try.prog W 0 (fun _=>true) true Try.f10.params.toList args.toList ds p:=hA0
 rw[Try.params10]at hA hval
 obtain⟨v0,vs0,d0,ds0,p0,q0,hargs,_,hp0,h0,e0⟩:=trodAll_cons hA
 obtain⟨rfl,_,_⟩:=trodAll_nil e0
 obtain rfl:args= #[v0]:=by cases args;simp_all
 obtain⟨m0,r0,t0,u0⟩:=Hr (S:=L9) Gh (by decide) Try.underlying50 (hval 0 50 _ rfl rfl) h0
 refine(qJ W t0 u0).mono fun e W' ⟨he,hb⟩=> ?_
 subst he
 exact⟨_,rfl,Iq Lj Try.underlying4 rfl rfl (by decide+kernel) (fun ds hl=>by
  match ds,hl with
  | [d0],_=>rfl) hW' hb⟩
theorem over:Rows.watchGivenRow.holds Try.pinned (OpenSpec.ofChange Rows.watchGivenSpec):=
 OpenClaim.holds_of_wide 10 Try.f10 rfl rfl rfl rfl rfl rfl rfl ⟨rfl,rfl,rfl,rfl,rfl⟩ rfl rfl rfl rfl rfl (by kernel_rfl) Try.func10 (by kernel_rfl)
  (of_decide_eq_true (by kernel_rfl)) (by unfold Func.isWrapper;first | (rw[if_pos (by decide+kernel)];kernel_rfl) | (rw[if_neg (by decide+kernel)];exact⟨rfl,rfl⟩))
  (fun os started H enc _=>lifted os started H enc)
theorem proved:Rows.WatchGivenSaid:=over
#print axioms proved
end Go.Proofs.Ytkdbjfncchmmpaa.watchGiven
