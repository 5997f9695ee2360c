/- WatchDoes: for every input the law returns true, and each argument reads as it did. No condition. -/
import Derived.Test.YtkdbjfncchmmpaaGreatMw8
set_option linter.unusedSimpArgs false
set_option linter.unusedVariables false
set_option maxHeartbeats 4000000
set_option maxRecDepth 1000000
open Go.IntKind renaming i64→j
open Option renaming some→o,none→ag
open Go.Proofs.Tryz renaming prog→aq
open Bool renaming false→U,true→J
open Go renaming TypeId→a9,Value→b'
open Go.DataW renaming TrodAll→sM
namespace Go.Proofs.YtkdbjfncchmmpaaGreat.watchDoes
open Go.ChangeShapes Go.WideShapes Go.ChangeAt Go.RowKit Go.Deep
open Go.ChangeMaps (open_string)
theorem lifted(os:Os)(started:os.Started)(H:Type)(enc:a9×b'->H):ReturnsInHanded {} Tryz.checked os 6 .any (Rows.watchDoesSpec.pre6 enc aq Tryz.f6 Rows.watchDoesRow.domain U) (Rows.watchDoesSpec.post enc aq Tryz.f6 U J U U):=by
 refine returnsInHanded_of_change (C:=Tryz.checked) own started (by kernel_rfl) Tryz.func6 (ChangeSpec.witness6 (enc:=enc) (C:=Tryz.checked) U ⟨#[],#[.slice ag 0 0,.int j 0,.int j 0,.int j 0],[]⟩ 8 (by kernel_rfl) (by kernel_rfl) (by kernel_rfl) (by kernel_rfl)) ?_;intro W base args jm gW before aCS ck _ _;have yO:∀(D:Nat) t v,Tryz.f6.params[D]? =o t->args[D]? =o v->Value.okWide aq W .any base t v:=aCS;have kn:=ck;obtain⟨p,q,aCT,_,_,_,_⟩:=ck;have eA:sM enc aq W 0 (λ_=>J) J Tryz.f6.params.toList args.toList jm p:=aCT;rw[Tryz.params6]at eA yO;obtain⟨fJ,aEF,d0,aEG,en,lV,aEH,_,q8,ak,dj⟩:=trodAll_cons eA;obtain⟨cI,ak9,d1,aEI,dB,bR,rfl,JA,ox,I,aw⟩:=trodAll_cons dj;obtain⟨b6,aEJ,d2,aEK,gm,bQ,rfl,n6,Ez,R,ay⟩:=trodAll_cons aw;obtain⟨eY,aEL,d3,aEM,iu,da,rfl,aEN,aEO,aj,be⟩:=trodAll_cons ay;obtain⟨rfl,_,_⟩:=trodAll_nil be;obtain rfl:args= #[fJ,cI,b6,eY]:=by cases args;simp_all
 obtain⟨nD,hi,t0,sD⟩:=arw (S:=amm) aBL (by decide) Tryz.underlying72 (yO 0 72 _ rfl rfl) ak;obtain⟨aP,rfl,rfl,rfl,cx⟩:=open_int Tryz.underlying3 (yO 1 3 _ rfl rfl) I;have gT:zj aP:=by simpa[zj,Lit.wf,IntKind.min,IntKind.max,IntKind.signed,IntKind.bits]using cx
 obtain⟨a2,rfl,rfl,rfl,gn⟩:=open_int Tryz.underlying3 (yO 2 3 _ rfl rfl) R;have pO:zj a2:=by simpa[zj,Lit.wf,IntKind.min,IntKind.max,IntKind.signed,IntKind.bits]using gn
 obtain⟨bl,rfl,rfl,rfl,iz⟩:=open_int Tryz.underlying3 (yO 3 3 _ rfl rfl) aj;have tM:zj bl:=by simpa[zj,Lit.wf,IntKind.min,IntKind.max,IntKind.signed,IntKind.bits]using iz
 refine(aCR aP a2 bl W t0 sD gT pO tM).mono λe wx ⟨he,ad⟩=>?_;subst he;exact⟨_,rfl,aq9 aq8 Tryz.underlying4 rfl rfl (by decide+kernel) (λjm am=>by
  match jm,am with
  |[d0,d1,d2,d3],_=>rfl) kn ad⟩
theorem over:Rows.watchDoesRow.holds Tryz.pinned (OpenSpec.ofChange Rows.watchDoesSpec):=OpenClaim.holds_of_wide 6 Tryz.f6 rfl rfl rfl rfl rfl rfl rfl ⟨rfl,rfl,rfl,rfl,rfl⟩ rfl rfl rfl rfl rfl (by kernel_rfl) Tryz.func6 (by kernel_rfl) (of_decide_eq_true (by kernel_rfl)) (by unfold Func.isWrapper;first|(rw[if_pos (by decide+kernel)];kernel_rfl)|(rw[if_neg (by decide+kernel)];exact⟨rfl,rfl⟩)) (λos started H enc _=>lifted os started H enc)
theorem proved:Rows.WatchDoesSaid:=over
#print axioms proved
end Go.Proofs.YtkdbjfncchmmpaaGreat.watchDoes
