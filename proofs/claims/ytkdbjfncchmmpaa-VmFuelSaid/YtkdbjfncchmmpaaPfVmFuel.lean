/- VmFuel: for every input the law returns true, and each argument reads as it did. No condition. -/
import Derived.Test.YtkdbjfncchmmpaaPfVmArith
namespace Go.Proofs.Ytkdbjfncchmmpaa.vmFuel
set_option linter.unusedSimpArgs false
set_option linter.unusedVariables false
open Go.ChangeShapes Go.WideShapes Go.ChangeAt Go.RowKit Go.Deep
open Go.ChangeMaps (open_string)
set_option maxRecDepth 100000 in
theorem lifted (os:Os) (started:os.Started) (H:Type) (enc:TypeId×Value→H):
  ReturnsInHanded {} Try.checked os 4 .any (Rows.vmFuelSpec.pre6 enc Try.prog Try.f4 Rows.vmFuelRow.domain false) (Rows.vmFuelSpec.post enc Try.prog Try.f4 false true false false):=by
 refine returnsInHanded_of_change (C:=Try.checked) own started (by kernel_rfl) Try.func4
  (ChangeSpec.witness6 (enc:=enc) (C:=Try.checked) false ⟨#[],#[.slice none 0 0,.slice none 0 0,.agg #[.int .i64 0,.int .i64 0,.int .i64 0,.int .i64 0,.int .i64 0,.slice none 0 0],.int .i64 0],[]⟩ 8 (by kernel_rfl) (by kernel_rfl) (by kernel_rfl) (by kernel_rfl)) ?_
 intro W base args ds gs before hval0 hW _ _
 have hval:∀ (j:Nat) t v,Try.f4.params[j]? =some t→args[j]? =some v→Value.okWide Try.prog W .any base t v:=hval0
 have hW':=hW
 obtain⟨p,q,hA0,_,_,_,_⟩:=hW
 have hA:DataW.TrodAll enc Try.prog W 0 (fun _=>true) true Try.f4.params.toList args.toList ds p:=hA0
 rw[Try.params4]at hA hval
 obtain⟨v0,vs0,d0,ds0,p0,q0,hargs,_,hp0,h0,e0⟩:=trodAll_cons hA
 obtain⟨v1,vs1,d1,ds1,p1,q1,rfl,hd1,hp1,h1,e1⟩:=trodAll_cons e0
 obtain⟨v2,vs2,d2,ds2,p2,q2,rfl,hd2,hp2,h2,e2⟩:=trodAll_cons e1
 obtain⟨v3,vs3,d3,ds3,p3,q3,rfl,hd3,hp3,h3,e3⟩:=trodAll_cons e2
 obtain⟨rfl,_,_⟩:=trodAll_nil e3
 obtain rfl:args= #[v0,v1,v2,v3]:=by cases args;simp_all
 obtain⟨m0,r0,t0,u0⟩:=wn (S:=Fs) CN (by decide) Try.underlying25 (hval 0 25 _ rfl rfl) h0
 obtain⟨m1,r1,t1,u1⟩:=wn (S:=FL) CC (by decide) Try.underlying26 (hval 1 26 _ rfl rfl) h1
 obtain⟨m2,r2,t2,u2⟩:=oh (S:=E1) Cb (by decide) Try.underlying31 (hval 2 31 _ rfl rfl) h2
 obtain⟨a3,rfl,rfl,rfl,w3⟩:=open_int Try.underlying3 (hval 3 3 _ rfl rfl) h3
 have hw3:eh a3:=by simpa[eh,Lit.wf,IntKind.min,IntKind.max,IntKind.signed,IntKind.bits]using w3
 refine(vP a3 W t0 u0 t1 u1 t2 u2 hw3).mono fun e W' ⟨he,hb⟩=> ?_
 subst he
 exact⟨_,rfl,qN uF Try.underlying4 rfl rfl (by decide+kernel) (fun ds hl=>by
  match ds,hl with
  | [d0,d1,d2,d3],_=>rfl) hW' hb⟩
theorem over:Rows.vmFuelRow.holds Try.pinned (OpenSpec.ofChange Rows.vmFuelSpec):=
 OpenClaim.holds_of_wide 4 Try.f4 rfl rfl rfl rfl rfl rfl rfl ⟨rfl,rfl,rfl,rfl,rfl⟩ rfl rfl rfl rfl rfl (by kernel_rfl) Try.func4 (by kernel_rfl)
  (of_decide_eq_true (by kernel_rfl)) (by unfold Func.isWrapper;first | (rw[if_pos (by decide+kernel)];kernel_rfl) | (rw[if_neg (by decide+kernel)];exact⟨rfl,rfl⟩))
  (fun os started H enc _=>lifted os started H enc)
theorem proved:Rows.VmFuelSaid:=over
#print axioms proved
end Go.Proofs.Ytkdbjfncchmmpaa.vmFuel
