/- HouseDoes: for every input the law returns true, and each argument reads as it did. No condition. -/
import Derived.Test.YtkdbjfncchmmpaaGreatMg7
set_option linter.unusedSimpArgs false
set_option linter.unusedVariables false
set_option maxHeartbeats 4000000
set_option maxRecDepth 1000000
open Option renaming some→o,none→ad
open Bool renaming false→T,true→O
open Go renaming TypeId→a6,Value→b1
open Go.Proofs.Tryz renaming prog→ap
open Go.DataW renaming TrodAll→rz
namespace Go.Proofs.YtkdbjfncchmmpaaGreat.houseDoes
open Go.ChangeShapes Go.WideShapes Go.ChangeAt Go.RowKit Go.Deep
open Go.ChangeMaps (open_string)
theorem lifted(os:Os)(started:os.Started)(H:Type)(enc:a6×b1->H):ReturnsInHanded {} Tryz.checked os 5 .any (Rows.houseDoesSpec.pre6 enc ap Tryz.f5 Rows.houseDoesRow.domain T) (Rows.houseDoesSpec.post enc ap Tryz.f5 T O T T):=by
 refine returnsInHanded_of_change (C:=Tryz.checked) own started (by kernel_rfl) Tryz.func5 (ChangeSpec.witness6 (enc:=enc) (C:=Tryz.checked) T ⟨#[],#[.slice ad 0 0],[]⟩ 8 (by kernel_rfl) (by kernel_rfl) (by kernel_rfl) (by kernel_rfl)) ?_;intro dC base args iJ yV before aws cH _ _;have BS:∀(D:Nat) t v,Tryz.f5.params[D]? =o t->args[D]? =o v->Value.okWide ap dC .any base t v:=aws;have oT:=cH;obtain⟨p,q,awt,_,_,_,_⟩:=cH;have fg:rz enc ap dC 0 (λ_=>O) O Tryz.f5.params.toList args.toList iJ p:=awt;rw[Tryz.params5]at fg BS;obtain⟨iq,ax4,d0,ax5,d',kC,ax6,_,rt,aj,dV⟩:=trodAll_cons fg;obtain⟨rfl,_,_⟩:=trodAll_nil dV;obtain rfl:args= #[iq]:=by cases args;simp_all
 obtain⟨mH,gD,t0,rm⟩:=amo (S:=aeY) av4 (by decide) Tryz.underlying72 (BS 0 72 _ rfl rfl) aj;refine(awr dC t0 rm).mono λe yU ⟨he,ab⟩=>?_;subst he;exact⟨_,rfl,al0 alZ Tryz.underlying4 rfl rfl (by decide+kernel) (λiJ am=>by
  match iJ,am with
  |[d0],_=>rfl) oT ab⟩
theorem over:Rows.houseDoesRow.holds Tryz.pinned (OpenSpec.ofChange Rows.houseDoesSpec):=OpenClaim.holds_of_wide 5 Tryz.f5 rfl rfl rfl rfl rfl rfl rfl ⟨rfl,rfl,rfl,rfl,rfl⟩ rfl rfl rfl rfl rfl (by kernel_rfl) Tryz.func5 (by kernel_rfl) (of_decide_eq_true (by kernel_rfl)) (by unfold Func.isWrapper;first|(rw[if_pos (by decide+kernel)];kernel_rfl)|(rw[if_neg (by decide+kernel)];exact⟨rfl,rfl⟩)) (λos started H enc _=>lifted os started H enc)
theorem proved:Rows.HouseDoesSaid:=over
#print axioms proved
end Go.Proofs.YtkdbjfncchmmpaaGreat.houseDoes
