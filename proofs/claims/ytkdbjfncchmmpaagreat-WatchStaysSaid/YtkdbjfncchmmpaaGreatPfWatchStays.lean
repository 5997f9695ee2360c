/- WatchStays: for every input the law returns true, and each argument reads as it did. No condition. -/
import Derived.Test.YtkdbjfncchmmpaaGreatMg8
namespace Go.Proofs.YtkdbjfncchmmpaaGreat.watchStays
set_option linter.unusedSimpArgs false
set_option linter.unusedVariables false
open Go.ChangeShapes Go.WideShapes Go.ChangeAt Go.RowKit Go.Deep
open Go.ChangeMaps (open_string)
set_option maxRecDepth 100000 in
theorem lifted (os:Os) (started:os.Started) (H:Type) (enc:TypeId×Value→H):
  ReturnsInHanded {} Tryz.checked os 7 .any (Rows.watchStaysSpec.pre6 enc Tryz.prog Tryz.f7 Rows.watchStaysRow.domain false) (Rows.watchStaysSpec.post enc Tryz.prog Tryz.f7 false true false false):=by
 refine returnsInHanded_of_change (C:=Tryz.checked) own started (by kernel_rfl) Tryz.func7
  (ChangeSpec.witness6 (enc:=enc) (C:=Tryz.checked) false ⟨#[],#[.slice none 0 0,.int .i64 0,.int .i64 0,.int .i64 0,.int .i64 0],[]⟩ 8 (by kernel_rfl) (by kernel_rfl) (by kernel_rfl) (by kernel_rfl)) ?_
 intro W base args ds gs before hval0 hW _ _
 have hval:∀ (j:Nat) t v,Tryz.f7.params[j]? =some t→args[j]? =some v→Value.okWide Tryz.prog W .any base t v:=hval0
 have hW':=hW
 obtain⟨p,q,hA0,_,_,_,_⟩:=hW
 have hA:DataW.TrodAll enc Tryz.prog W 0 (fun _=>true) true Tryz.f7.params.toList args.toList ds p:=hA0
 rw[Tryz.params7]at hA hval
 obtain⟨v0,vs0,d0,ds0,p0,q0,hargs,_,hp0,h0,e0⟩:=trodAll_cons hA
 obtain⟨v1,vs1,d1,ds1,p1,q1,rfl,hd1,hp1,h1,e1⟩:=trodAll_cons e0
 obtain⟨v2,vs2,d2,ds2,p2,q2,rfl,hd2,hp2,h2,e2⟩:=trodAll_cons e1
 obtain⟨v3,vs3,d3,ds3,p3,q3,rfl,hd3,hp3,h3,e3⟩:=trodAll_cons e2
 obtain⟨v4,vs4,d4,ds4,p4,q4,rfl,hd4,hp4,h4,e4⟩:=trodAll_cons e3
 obtain⟨rfl,_,_⟩:=trodAll_nil e4
 obtain rfl:args= #[v0,v1,v2,v3,v4]:=by cases args;simp_all
 obtain⟨m0,r0,t0,u0⟩:=Is (S:=MH) H5 (by decide) Tryz.underlying72 (hval 0 72 _ rfl rfl) h0
 obtain⟨a1,rfl,rfl,rfl,w1⟩:=open_int Tryz.underlying3 (hval 1 3 _ rfl rfl) h1
 have hw1:kQ a1:=by simpa[kQ,Lit.wf,IntKind.min,IntKind.max,IntKind.signed,IntKind.bits]using w1
 obtain⟨a2,rfl,rfl,rfl,w2⟩:=open_int Tryz.underlying3 (hval 2 3 _ rfl rfl) h2
 have hw2:kQ a2:=by simpa[kQ,Lit.wf,IntKind.min,IntKind.max,IntKind.signed,IntKind.bits]using w2
 obtain⟨a3,rfl,rfl,rfl,w3⟩:=open_int Tryz.underlying3 (hval 3 3 _ rfl rfl) h3
 have hw3:kQ a3:=by simpa[kQ,Lit.wf,IntKind.min,IntKind.max,IntKind.signed,IntKind.bits]using w3
 obtain⟨a4,rfl,rfl,rfl,w4⟩:=open_int Tryz.underlying3 (hval 4 3 _ rfl rfl) h4
 have hw4:kQ a4:=by simpa[kQ,Lit.wf,IntKind.min,IntKind.max,IntKind.signed,IntKind.bits]using w4
 refine(qp a1 a2 a3 a4 W t0 u0 hw1 hw2 hw3 hw4).mono fun e W' ⟨he,hb⟩=> ?_
 subst he
 exact⟨_,rfl,GT Ks Tryz.underlying4 rfl rfl (by decide+kernel) (fun ds hl=>by
  match ds,hl with
  | [d0,d1,d2,d3,d4],_=>rfl) hW' hb⟩
theorem over:Rows.watchStaysRow.holds Tryz.pinned (OpenSpec.ofChange Rows.watchStaysSpec):=
 OpenClaim.holds_of_wide 7 Tryz.f7 rfl rfl rfl rfl rfl rfl rfl ⟨rfl,rfl,rfl,rfl,rfl⟩ rfl rfl rfl rfl rfl (by kernel_rfl) Tryz.func7 (by kernel_rfl)
  (of_decide_eq_true (by kernel_rfl)) (by unfold Func.isWrapper;first | (rw[if_pos (by decide+kernel)];kernel_rfl) | (rw[if_neg (by decide+kernel)];exact⟨rfl,rfl⟩))
  (fun os started H enc _=>lifted os started H enc)
theorem proved:Rows.WatchStaysSaid:=over
#print axioms proved
end Go.Proofs.YtkdbjfncchmmpaaGreat.watchStays
