/- HouseApart: for every input the law returns true, and each argument reads as it did. No condition. -/
import Derived.Test.YtkdbjfncchmmpaaMg6
set_option linter.unusedSimpArgs false
set_option linter.unusedVariables false
set_option maxHeartbeats 4000000
set_option maxRecDepth 1000000
open Option renaming some→j,none→ab
open Go.IntKind renaming i64→o
open Go.Proofs.Try renaming prog→ar
open Bool renaming false→T,true→Q
open Go renaming TypeId→aT,Value→bK
open Go.DataW renaming TrodAll→pA
namespace Go.Proofs.Ytkdbjfncchmmpaa.houseApart
open Go.ChangeShapes Go.WideShapes Go.ChangeAt Go.RowKit Go.Deep
open Go.ChangeMaps (open_string)
theorem lifted(os:Os)(started:os.Started)(H:Type)(enc:aT×bK->H):ReturnsInHanded {} Try.checked os 6 .any (Rows.houseApartSpec.pre6 enc ar Try.f6 Rows.houseApartRow.domain T) (Rows.houseApartSpec.post enc ar Try.f6 T Q T T):=by
 refine returnsInHanded_of_change (C:=Try.checked) own started (by kernel_rfl) Try.func6 (ChangeSpec.witness6 (enc:=enc) (C:=Try.checked) T ⟨#[],#[.slice ab 0 0,.int o 0],[]⟩ 8 (by kernel_rfl) (by kernel_rfl) (by kernel_rfl) (by kernel_rfl)) ?_;intro fw base args fN xB before al9 dl _ _;have w1:∀(D:Nat) t v,Try.f6.params[D]? =j t->args[D]? =j v->Value.okWide ar fw .any base t v:=al9;have oW:=dl;obtain⟨p,q,al',_,_,_,_⟩:=dl;have dD:pA enc ar fw 0 (λ_=>Q) Q Try.f6.params.toList args.toList fN p:=al';rw[Try.params6]at dD w1;obtain⟨mo,anO,d0,anP,gN,kU,anQ,_,xn,ae,gM⟩:=trodAll_cons dD;obtain⟨v1,anR,d1,anS,ed,bN,rfl,anT,rb,F,ao⟩:=trodAll_cons gM;obtain⟨rfl,_,_⟩:=trodAll_nil ao;obtain rfl:args= #[mo,v1]:=by cases args;simp_all
 obtain⟨lC,gv,t0,pm⟩:=ad3 (S:=VU) alv (by decide) Try.underlying50 (w1 0 50 _ rfl rfl) ae;obtain⟨aJ,rfl,rfl,rfl,dm⟩:=open_int Try.underlying3 (w1 1 3 _ rfl rfl) F;have fS:Id aJ:=by simpa[Id,Lit.wf,IntKind.min,IntKind.max,IntKind.signed,IntKind.bits]using dm
 refine(al8 aJ fw t0 pm fS).mono λe vZ ⟨he,ai⟩=>?_;subst he;exact⟨_,rfl,adE adD Try.underlying4 rfl rfl (by decide+kernel) (λfN al=>by
  match fN,al with
  |[d0,d1],_=>rfl) oW ai⟩
theorem over:Rows.houseApartRow.holds Try.pinned (OpenSpec.ofChange Rows.houseApartSpec):=OpenClaim.holds_of_wide 6 Try.f6 rfl rfl rfl rfl rfl rfl rfl ⟨rfl,rfl,rfl,rfl,rfl⟩ rfl rfl rfl rfl rfl (by kernel_rfl) Try.func6 (by kernel_rfl) (of_decide_eq_true (by kernel_rfl)) (by unfold Func.isWrapper;first|(rw[if_pos (by decide+kernel)];kernel_rfl)|(rw[if_neg (by decide+kernel)];exact⟨rfl,rfl⟩)) (λos started H enc _=>lifted os started H enc)
theorem proved:Rows.HouseApartSaid:=over
#print axioms proved
end Go.Proofs.Ytkdbjfncchmmpaa.houseApart
