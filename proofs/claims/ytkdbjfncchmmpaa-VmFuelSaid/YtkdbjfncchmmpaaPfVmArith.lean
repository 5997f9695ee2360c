/- VmArith: for every input the law returns true, and each argument reads as it did. No condition. -/
import Derived.Test.YtkdbjfncchmmpaaMg8
namespace Go.Proofs.Ytkdbjfncchmmpaa.vmArith
set_option linter.unusedSimpArgs false
set_option linter.unusedVariables false
open Go.ChangeShapes Go.WideShapes Go.ChangeAt Go.RowKit Go.Deep
open Go.ChangeMaps (open_string)
set_option maxRecDepth 100000 in
theorem lifted (os:Os) (started:os.Started) (H:Type) (enc:TypeId×Value→H):
  ReturnsInHanded {} Try.checked os 3 .any (Rows.vmArithSpec.pre6 enc Try.prog Try.f3 Rows.vmArithRow.domain false) (Rows.vmArithSpec.post enc Try.prog Try.f3 false true false false):=by
 refine returnsInHanded_of_change (C:=Try.checked) own started (by kernel_rfl) Try.func3
  (ChangeSpec.witness6 (enc:=enc) (C:=Try.checked) false ⟨#[],#[.int .i64 0,.int .i64 0,.int .i64 0],[]⟩ 8 (by kernel_rfl) (by kernel_rfl) (by kernel_rfl) (by kernel_rfl)) ?_
 intro W base args ds gs before hval0 hW _ _
 have hval:∀ (j:Nat) t v,Try.f3.params[j]? =some t→args[j]? =some v→Value.okWide Try.prog W .any base t v:=hval0
 have hW':=hW
 obtain⟨p,q,hA0,_,_,_,_⟩:=hW
 have hA:DataW.TrodAll enc Try.prog W 0 (fun _=>true) true Try.f3.params.toList args.toList ds p:=hA0
 rw[Try.params3]at hA hval
 obtain⟨v0,vs0,d0,ds0,p0,q0,hargs,_,hp0,h0,e0⟩:=trodAll_cons hA
 obtain⟨v1,vs1,d1,ds1,p1,q1,rfl,hd1,hp1,h1,e1⟩:=trodAll_cons e0
 obtain⟨v2,vs2,d2,ds2,p2,q2,rfl,hd2,hp2,h2,e2⟩:=trodAll_cons e1
 obtain⟨rfl,_,_⟩:=trodAll_nil e2
 obtain rfl:args= #[v0,v1,v2]:=by cases args;simp_all
 obtain⟨a0,rfl,rfl,rfl,w0⟩:=open_int Try.underlying3 (hval 0 3 _ rfl rfl) h0
 have hw0:eh a0:=by simpa[eh,Lit.wf,IntKind.min,IntKind.max,IntKind.signed,IntKind.bits]using w0
 obtain⟨a1,rfl,rfl,rfl,w1⟩:=open_int Try.underlying2 (hval 1 2 _ rfl rfl) h1
 have hw1:eh a1:=by simpa[eh,Lit.wf,IntKind.min,IntKind.max,IntKind.signed,IntKind.bits]using w1
 obtain⟨a2,rfl,rfl,rfl,w2⟩:=open_int Try.underlying2 (hval 2 2 _ rfl rfl) h2
 have hw2:eh a2:=by simpa[eh,Lit.wf,IntKind.min,IntKind.max,IntKind.signed,IntKind.bits]using w2
 refine(uq a0 a1 a2 W hw0 hw1 hw2).mono fun e W' ⟨he,hb⟩=> ?_
 subst he
 exact⟨_,rfl,qN uF Try.underlying4 rfl rfl (by decide+kernel) (fun ds hl=>by
  match ds,hl with
  | [d0,d1,d2],_=>rfl) hW' hb⟩
theorem over:Rows.vmArithRow.holds Try.pinned (OpenSpec.ofChange Rows.vmArithSpec):=
 OpenClaim.holds_of_wide 3 Try.f3 rfl rfl rfl rfl rfl rfl rfl ⟨rfl,rfl,rfl,rfl,rfl⟩ rfl rfl rfl rfl rfl (by kernel_rfl) Try.func3 (by kernel_rfl)
  (of_decide_eq_true (by kernel_rfl)) (by unfold Func.isWrapper;first | (rw[if_pos (by decide+kernel)];kernel_rfl) | (rw[if_neg (by decide+kernel)];exact⟨rfl,rfl⟩))
  (fun os started H enc _=>lifted os started H enc)
theorem proved:Rows.VmArithSaid:=over
#print axioms proved
end Go.Proofs.Ytkdbjfncchmmpaa.vmArith
