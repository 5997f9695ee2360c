/- VmRuns: for every input the law returns true, and each argument reads as it did. No condition. -/
import Derived.Test.YtkdbjfncchmmpaaGreatMg8
namespace Go.Proofs.YtkdbjfncchmmpaaGreat.vmRuns
set_option linter.unusedSimpArgs false
set_option linter.unusedVariables false
open Go.ChangeShapes Go.WideShapes Go.ChangeAt Go.RowKit Go.Deep
open Go.ChangeMaps (open_string)
set_option maxRecDepth 100000 in
theorem lifted (os:Os) (started:os.Started) (H:Type) (enc:TypeId×Value→H):
  ReturnsInHanded {} Tryz.checked os 4 .any (Rows.vmRunsSpec.pre6 enc Tryz.prog Tryz.f4 Rows.vmRunsRow.domain false) (Rows.vmRunsSpec.post enc Tryz.prog Tryz.f4 false true false false):=by
 refine returnsInHanded_of_change (C:=Tryz.checked) own started (by kernel_rfl) Tryz.func4
  (ChangeSpec.witness6 (enc:=enc) (C:=Tryz.checked) false ⟨#[],#[.slice none 0 0,.slice none 0 0,.slice none 0 0],[]⟩ 8 (by kernel_rfl) (by kernel_rfl) (by kernel_rfl) (by kernel_rfl)) ?_
 intro W base args ds gs before hval0 hW _ _
 have hval:∀ (j:Nat) t v,Tryz.f4.params[j]? =some t→args[j]? =some v→Value.okWide Tryz.prog W .any base t v:=hval0
 have hW':=hW
 obtain⟨p,q,hA0,_,_,_,_⟩:=hW
 have hA:DataW.TrodAll enc Tryz.prog W 0 (fun _=>true) true Tryz.f4.params.toList args.toList ds p:=hA0
 rw[Tryz.params4]at hA hval
 obtain⟨v0,vs0,d0,ds0,p0,q0,hargs,_,hp0,h0,e0⟩:=trodAll_cons hA
 obtain⟨v1,vs1,d1,ds1,p1,q1,rfl,hd1,hp1,h1,e1⟩:=trodAll_cons e0
 obtain⟨v2,vs2,d2,ds2,p2,q2,rfl,hd2,hp2,h2,e2⟩:=trodAll_cons e1
 obtain⟨rfl,_,_⟩:=trodAll_nil e2
 obtain rfl:args= #[v0,v1,v2]:=by cases args;simp_all
 obtain⟨m0,r0,t0,u0⟩:=xA (S:=Th) Me (by decide) Tryz.underlying22 (hval 0 22 _ rfl rfl) h0
 obtain⟨m1,r1,t1,u1⟩:=xA (S:=Pq) LK (by decide) Tryz.underlying23 (hval 1 23 _ rfl rfl) h1
 obtain⟨m2,r2,t2,u2⟩:=xA (S:=KM) H5 (by decide) Tryz.underlying24 (hval 2 24 _ rfl rfl) h2
 refine(Fk W t0 u0 t1 u1 t2 u2).mono fun e W' ⟨he,hb⟩=> ?_
 subst he
 exact⟨_,rfl,RF US Tryz.underlying4 rfl rfl (by decide+kernel) (fun ds hl=>by
  match ds,hl with
  | [d0,d1,d2],_=>rfl) hW' hb⟩
theorem over:Rows.vmRunsRow.holds Tryz.pinned (OpenSpec.ofChange Rows.vmRunsSpec):=
 OpenClaim.holds_of_wide 4 Tryz.f4 rfl rfl rfl rfl rfl rfl rfl ⟨rfl,rfl,rfl,rfl,rfl⟩ rfl rfl rfl rfl rfl (by kernel_rfl) Tryz.func4 (by kernel_rfl)
  (of_decide_eq_true (by kernel_rfl)) (by unfold Func.isWrapper;first | (rw[if_pos (by decide+kernel)];kernel_rfl) | (rw[if_neg (by decide+kernel)];exact⟨rfl,rfl⟩))
  (fun os started H enc _=>lifted os started H enc)
theorem proved:Rows.VmRunsSaid:=over
#print axioms proved
end Go.Proofs.YtkdbjfncchmmpaaGreat.vmRuns
