/- DeskJoins: for every input the law returns true, and each argument reads as it did; the library's tables hold what the program's text lays in them (tied). -/
import Derived.Test.YtaodiaofbeblbaaGreatDoorMg8
import Derived.Test.YtaodiaofbeblbaaGreatDoorCards
import Derived.Test.YtaodiaofbeblbaaGreatDoorTie
import Derived.SevenTiedAt
set_option linter.unusedSimpArgs false
set_option linter.unusedVariables false
set_option maxHeartbeats 4000000
set_option maxRecDepth 1000000
open List renaming all_eq_true→iC
open Option renaming some→j,none→Z
open Go.IntKind renaming i64→o
open Go.Proofs.Tryz renaming prog→ak
open Bool renaming false→R,true→Q
open Go renaming TypeId→aU,Value→bH
open Option.some renaming inj→tR
open Go.DataW renaming TrodAll→qZ
namespace Go.Proofs.YtaodiaofbeblbaaGreatDoor.deskJoins
open Go.ChangeShapes Go.WideShapes Go.ChangeAt Go.RowKit Go.Deep
open Go.ChangeMaps (open_string)
theorem lifted(os:Os)(started:os.Started)(H:Type)(enc:aU×bH->H):ReturnsInHanded {} Tryz.checked os 3 .any (λw args=>(Rows.deskJoinsSpec.pre enc ak Tryz.f3 [] R w args/\laidMetH ak Rows.deskJoinsRow.laid w)/\sizedMet enc ak Tryz.f3 (OpenSpec.ofChange Rows.deskJoinsSpec) R w args) (Rows.deskJoinsSpec.post enc ak Tryz.f3 R Q R R):=by
 refine returnsInHanded_of_change_and (C:=Tryz.checked) (X:=λw _=>laidMetH ak Rows.deskJoinsRow.laid w) (λ_ _ _ bz h=>h.of_heap bz) own started (by kernel_rfl) Tryz.func3 (ChangeSpec.witness_shaped (enc:=enc) (C:=Tryz.checked) (os:=os) (X:=λw _=>laidMetH ak Rows.deskJoinsRow.laid w) R (World.laidAll ak os Rows.deskJoinsRow.laid) #[.slice Z 0 0,.int o 0] 8 (World.laidAll_os _ _ _) (World.shaped_of_ZipB (by kernel_rfl) (by kernel_rfl)) (by kernel_rfl) (by kernel_rfl) (by kernel_rfl) (by rw[ajZ (by kernel_rfl)];exact laidMet_laidAll _ (by kernel_rfl) (by kernel_rfl))) ?_;intro W base args hP fK before azK d' _ yJ df _;have Ai:∀(D:Nat) t v,Tryz.f3.params[D]? =j t->args[D]? =j v->Value.okWide ak W .any base t v:=azK;have xQ:=d';obtain⟨p,q,azL,_,_,_,_⟩:=d';have e7:qZ enc ak W 0 (λ_=>Q) Q Tryz.f3.params.toList args.toList hP p:=azL;rw[Tryz.params3]at e7 Ai;obtain⟨v0,aBA,d0,aBB,hd,jU,aBC,azM,zR,am,gI⟩:=trodAll_cons e7;obtain⟨v1,aBD,d1,aBE,dU,bT,rfl,aiy,wM,F,av⟩:=trodAll_cons gI;obtain⟨rfl,_,_⟩:=trodAll_nil av;obtain rfl:args= #[v0,v1]:=by cases args;simp_all
 obtain⟨gL,aBF,a0,lf,u0⟩:=azo Tryz.underlying22 Tryz.underlying9 (by kernel_rfl) (Ai 0 22 _ rfl rfl) am;have gS:∀n∈d0.weights ak 22,n<=reachBytes:=λn aq=>by have:=iC.1 yJ n (@DataW.weights_mem_each _ _ _ _ 0 22 d0 (by rw[Tryz.params3];rfl) (by rw[azM];rfl) n aq);simpa using this
 obtain⟨aP,rfl,rfl,rfl,cg⟩:=open_int Tryz.underlying3 (Ai 1 3 _ rfl rfl) F;have ft:bL aP:=by simpa[bL,Lit.wf,IntKind.min,IntKind.max,IntKind.signed,IntKind.bits]using cg
 refine(azJ aP W a0 lf u0 gS ft (azu df (by kernel_rfl) (by kernel_rfl) (by kernel_rfl) (by kernel_rfl))).mono λe yR ⟨he,ag⟩=>?_;subst he;exact⟨_,rfl,am3 am2 Tryz.underlying4 rfl rfl (by decide+kernel) (λhP ai=>by
  match hP,ai with
  |[d0,d1],_=>rfl) xQ ag⟩
theorem over:Rows.deskJoinsRow.holds Tryz.pinned (OpenSpec.ofChange Rows.deskJoinsSpec):=OpenClaim.holds_of_wide 3 Tryz.f3 rfl rfl rfl rfl rfl rfl rfl ⟨rfl,rfl,rfl,rfl,rfl⟩ rfl rfl rfl rfl rfl (by kernel_rfl) Tryz.func3 (by kernel_rfl) (of_decide_eq_true (by kernel_rfl)) (by unfold Func.isWrapper;first|(rw[if_pos (by decide+kernel)];kernel_rfl)|(rw[if_neg (by decide+kernel)];exact⟨rfl,rfl⟩)) (λos started H enc _=>lifted os started H enc)
theorem proved:Rows.DeskJoinsCardSaid:=Claim7.holds_tied_plain_at .later [] [.data,.data,.data,.sentinel,.sentinel] Q Rows.deskJoinsCard.stood.harness Rows.deskJoinsCard.stood.looks over (λ_ h=>by cases h) (by kernel_rfl) (λ_ h=>by cases h) deskJoins_row_tie rfl ⟨rfl,rfl⟩ (by kernel_rfl) rfl (λf fn bn lu=>by
   obtain rfl:f=3:=tR ((show(ak).funcNamed Rows.deskJoinsRow.func=j 3 by kernel_rfl).symm.trans bn) |>.symm;obtain rfl:fn=Tryz.f3:=(tR (Tryz.func3.symm.trans lu)).symm;exact⟨by kernel_rfl,λD t aO=>by
    rw[Tryz.params3]at aO;have hm:t∈[22,3]:=by simpa using Array.mem_of_getElem? aO
    have mc:([22,3].all λu=> !(ak).wantsStandIn u)=Q:=by kernel_rfl
    exact(show(ak).wantsStandIn t=R by simpa using iC.1 mc t hm)⟩)
  (by kernel_rfl)
#print axioms proved
end Go.Proofs.YtaodiaofbeblbaaGreatDoor.deskJoins
