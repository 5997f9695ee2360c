/- Parse: its pieces; what it defers takes back a panic of the parser's own. Parse in the plain model: what it comes to. Parse in the plain model: its loop. Texts that are modules: one behind the other, and with other blanks. No program here. Texts that are modules: what Parse comes to, for one behind the other, and with other blanks. the laws of parse in the plain model. From the row's condition on the library's tables to what the plain model asks of a world; a world that meets it. the laws' walks of parse. render and the document's texts of modules, in the plain model: expressions. render and the document's texts of modules, in the plain model: the document's expressions; modules. -/
import Derived.Test.YtngphebjmmencaaDoorMg11
import Derived.LaidSub
import Derived.Lay
import Derived.Stop.LaidErr
namespace Go.Proofs.YtngphebjmmencaaDoor
set_option linter.unusedSimpArgs false
set_option linter.unusedVariables false
open Go Go.RowKit

abbrev fPa : FuncId := 13
abbrev fPc : FuncId := 31
noncomputable def cPa : Code := Tryd.f13.body.getD .skip
noncomputable def cPc : Code := Tryd.f31.body.getD .skip
theorem pc_fn : (Tryd.prog).funcs[fPc]? = some Tryd.f31 := Tryd.func31
theorem pc_body : Tryd.f31.body = some cPc := rfl
theorem pc_seq : cPc = .seq (cL cPc) (cR cPc) := rfl
theorem pc_n : Tryd.f31.ntmps = 18 := rfl
noncomputable def pcA : Oper := { dst := some 5, op := .call { callee := .builtin .recover, args := #[], argTypes := #[] }, type := ((opsOf (cL cPc)).getD 0 default).type, pos := ((opsOf (cL cPc)).getD 0 default).pos, after := #[], guard := none }
noncomputable def pcB : Oper := { dst := some 2, op := .assign (.tmp 5), type := ((opsOf (cL cPc)).getD 1 default).type, pos := ((opsOf (cL cPc)).getD 1 default).pos, after := ((opsOf (cL cPc)).getD 1 default).after, guard := none }
theorem pc_first : cL cPc = .region 0 #[pcA, pcB] false := rfl
abbrev vPc : List Nat := [0, 1, 2, 3, 4, 7, 14]
theorem pc_tr : trCode Tryd.prog (po.mu fPc) (po.plan fPc) 18 vPc (cR cPc) [] = some rc_pac1 := by kernel_rfl
theorem pc_ord : regOK (po.plan fPc) (po.kp fPc) (cR cPc) = true := by kernel_rfl
theorem pc_vm : okVm 2 18 (po.nv fPc) 7 vPc = true := by kernel_rfl
theorem pc_res (a : Array Value) (w : World) : ∃ v, (results Tryd.f31 a).run Tryd.prog w = .ok v w := ⟨.tuple #[], by simp [results, Tryd.results31]⟩
theorem pc_rec : RecovR Tryd.prog (cL cPc) 18 5 2 := by
  intro ts v cs cs' w hsz h
  rw [pc_first]
  apply wpS_region
  rcases h with h1 | ⟨h1, h2, h3⟩
  · simp [wpOpsS, go_sem, pcA, pcB, h1, Act.put, Act.eval, hsz]
  · simp [wpOpsS, go_sem, pcA, pcB, h1, Act.put, Act.eval, hsz, h2, h3]
theorem pc_rv (x y e : AV) : RV 18 vPc [] (putA (putA ([x, y] ++ List.replicate (18 - [x, y].length) .junk) (some 5) e) (some 2) e) [x, y, e, .junk, .junk, .junk, .junk] [] := by
  refine ⟨by simp [putA], rfl, rfl, fun j s hj => ?_, fun j s hj => by simp at hj⟩
  match j, hj with
  | 0, hj | 1, hj | 2, hj | 3, hj | 4, hj | 5, hj | 6, hj => obtain rfl := Option.some.inj hj; exact ⟨by decide, rfl⟩
  | j + 7, hj => simp at hj
theorem ifG_no : binR .iface none true .neq .nili .nili = some (.bool false) := rfl
theorem ifG_yes {q : TypeId} {v : AV} : binR .iface none true .neq (.iface q v) .nili = some (.bool true) := rfl
theorem tasG_yes {q : TypeId} {v : AV} : tasR q true (.iface q v) = some (.tup [v, .bool true]) := by simp [tasR]
/-- where nothing panics, it does nothing -/
theorem pc_returns {h : AH} {c6 c7 : Nat} {m : Mm} {w : World} {ps : List Value} (hw : WR Tryd.prog m h w) (hv : VRs Tryd.prog m h [.ptr c6 0 0, .ptr c7 0 0] ps) :
    CallsD Tryd.prog fPc ps.toArray .returning w fun e u'' w' => (∃ v, e = .returned v) ∧ u'' = .returning ∧ ∃ m', Ext m h m' h ∧ WR Tryd.prog m' h w' ∧ Below m.base w w' := by
  refine clG pok pc_fn pc_body pc_seq pc_n pc_res pc_rec (okVm_use pc_vm) pc_tr pc_ord (V' := [.ptr c6 0 0, .ptr c7 0 0, .nili, .junk, .junk, .bool false, .junk]) ?_ (pc_rv _ _ .nili) hw hv (by simp) .nili .returning fun c hc cs => .inr ⟨recovG_no c hc cs, rfl, rfl⟩
  unfold rc_pac1
  simp only [sim, simB, Nat.reduceAdd, Nat.reduceSub, List.replicate, reduceCtorEq, Nat.reduceLeDiff, Nat.reduceLT, clearA, ifG_no]
/-- where the parser gave up, it lays the fault, and no module -/
theorem pc_panics {h : AH} {c6 c7 : Nat} {m : Mm} {w : World} {ps : List Value} {u : Value} {f : Int × Int} {l : AV} {z : Int × Int} (hw : WR Tryd.prog m h w) (hv : VRs Tryd.prog m h [.ptr c6 0 0, .ptr c7 0 0] ps) (vu : VR Tryd.prog m h (.iface tPg (fltT f)) u)
    (h6 : h.cell c6 = some [[l]]) (h7 : h.cell c7 = some [[.int .i64 z.1, .int .i64 z.2]]) (hne : c7 ≠ c6) (hl6 : c6 < h.n) (hl7 : c7 < h.n) :
    CallsD Tryd.prog fPc ps.toArray (.panicking [{ v := u, recovered := false }]) w fun e u'' w' => (∃ v, e = .returned v) ∧ u'' = .panicking [{ v := u, recovered := true }] ∧
      ∃ m', Ext m h m' (((h.push [[.int .i64 f.1, .int .i64 f.2]]).set c6 (some [[.nils]])).set c7 (some [[.int .i64 f.1, .int .i64 f.2]])) ∧ WR Tryd.prog m' (((h.push [[.int .i64 f.1, .int .i64 f.2]]).set c6 (some [[.nils]])).set c7 (some [[.int .i64 f.1, .int .i64 f.2]])) w' ∧ Below m.base w w' := by
  have k6 : (h.push [[.int .i64 f.1, .int .i64 f.2]]).cell c6 = some [[l]] := (push_lt hl6).trans h6
  have k7 : ((h.push [[.int .i64 f.1, .int .i64 f.2]]).set c6 (some [[.nils]])).cell c7 = some [[.int .i64 z.1, .int .i64 z.2]] := (set_ne hne).trans ((push_lt hl7).trans h7)
  have k8 : ((h.push [[.int .i64 f.1, .int .i64 f.2]]).set c6 (some [[.nils]])).cell h.n = some [[.int .i64 f.1, .int .i64 f.2]] := (set_ne (by omega)).trans push_same
  refine clG pok pc_fn pc_body pc_seq pc_n pc_res pc_rec (okVm_use pc_vm) pc_tr pc_ord (V' := [.ptr c6 0 0, .ptr c7 0 0, .iface tPg (fltT f), .ptr h.n 0 0, .bool true, .bool true, .bool false]) ?_ (pc_rv _ _ (.iface tPg (fltT f))) hw hv (by simp) vu (.panicking [{ v := u, recovered := true }]) fun c hc cs => .inl (recovG_yes c hc cs)
  unfold rc_pac1
  simp only [sim, simB, Nat.reduceAdd, Nat.reduceSub, List.replicate, reduceCtorEq, Nat.reduceLeDiff, Nat.reduceLT, clearA, ifG_yes, tasG_yes, k6, k7, k8]

/-! ### Parse's own pieces -/
theorem pa_fn : (Tryd.prog).funcs[fPa]? = some Tryd.f13 := Tryd.func13
theorem pa_body : Tryd.f13.body = some cPa := rfl
theorem pa_n : Tryd.f13.ntmps = 49 := rfl
noncomputable abbrev cP1 : Code := cR cPa
noncomputable abbrev cP2 : Code := cR cP1
noncomputable abbrev cP3 : Code := cR cP2
noncomputable abbrev cP4 : Code := cR cP3
theorem pa_seq : cPa = .seq (cL cPa) cP1 := rfl
theorem pa_seq1 : cP1 = .seq (cL cP1) cP2 := rfl
theorem pa_seq2 : cP2 = .seq (cL cP2) cP3 := rfl
theorem pa_seq3 : cP3 = .seq (cL cP3) cP4 := rfl
abbrev vPa : List Nat := [0, 2, 3, 4, 5, 6, 14, 28, 44]
theorem pa_vm : okVm 1 49 (po.nv fPa) 9 vPa = true := by kernel_rfl
theorem pa_tr0 : trCode Tryd.prog (po.mu fPa) (po.plan fPa) 49 vPa (cL cPa) [] = some rc_par0 := by kernel_rfl
theorem pa_tr1 : trCode Tryd.prog (po.mu fPa) (po.plan fPa) 49 vPa (cL cP1) [] = some rc_par1 := by kernel_rfl
theorem pa_tr2 : trCode Tryd.prog (po.mu fPa) (po.plan fPa) 49 vPa (cL cP2) [] = some rc_par2 := by kernel_rfl
theorem pa_ord0 : regOK (po.plan fPa) (po.kp fPa) (cL cPa) = true := by kernel_rfl
theorem pa_ord1 : regOK (po.plan fPa) (po.kp fPa) (cL cP1) = true := by kernel_rfl
theorem pa_ord2 : regOK (po.plan fPa) (po.kp fPa) (cL cP2) = true := by kernel_rfl
noncomputable abbrev cP5 : Code := cR cP4
noncomputable abbrev cBd : Code := cO (cB (cL cP5))
theorem pa_seq4 : cP4 = .seq (cL cP4) cP5 := rfl
theorem pa_seq5 : cP5 = .seq (.block 0 (.loop cBd)) (cR cP5) := rfl
noncomputable abbrev ops8 : Array Oper := opsOf (cR (cB (cR cBd)))
theorem pa_bd : cBd = .seq (.seq (cL (cL cBd)) (.cond (.tmp 28) .skip (.exit 0))) (.block 1 (.seq (cL (cB (cR cBd))) (.region 8 ops8 true))) := rfl
theorem pa_tr5 : trCode Tryd.prog (po.mu fPa) (po.plan fPa) 49 vPa (cL cP4) [] = some rc_par5 := by kernel_rfl
theorem pa_tr6 : trCode Tryd.prog (po.mu fPa) (po.plan fPa) 49 vPa (cL (cL cBd)) [] = some rc_par6 := by kernel_rfl
theorem pa_tr7 : trCode Tryd.prog (po.mu fPa) (po.plan fPa) 49 vPa (cL (cB (cR cBd))) [] = some rc_par7 := by kernel_rfl
theorem pa_trR : trCode Tryd.prog (po.mu fPa) (po.plan fPa) 49 vPa (cR cP5) [] = some rc_parR := by kernel_rfl
theorem pa_ord5 : regOK (po.plan fPa) (po.kp fPa) (cL cP4) = true := by kernel_rfl
theorem pa_ord6 : regOK (po.plan fPa) (po.kp fPa) (cL (cL cBd)) = true := by kernel_rfl
theorem pa_ord7 : regOK (po.plan fPa) (po.kp fPa) (cL (cB (cR cBd))) = true := by kernel_rfl
theorem pa_ordR : regOK (po.plan fPa) (po.kp fPa) (cR cP5) = true := by kernel_rfl
abbrev pl8 (a b : List (Nat × List Nat)) : List (Nat × List Nat) := [(0, []), (1, []), (2, []), (4, [])] ++ a ++ [(6, []), (7, []), (9, [])] ++ b
abbrev pl8A : List (Nat × List Nat) := pl8 [(3, [1]), (5, [1])] [(8, []), (10, [])]
abbrev pl8B : List (Nat × List Nat) := pl8 [(5, [1]), (3, [1])] [(8, []), (10, [])]
abbrev pl8C : List (Nat × List Nat) := pl8 [(3, [1]), (5, [1])] [(10, []), (8, [])]
abbrev pl8D : List (Nat × List Nat) := pl8 [(5, [1]), (3, [1])] [(10, []), (8, [])]
theorem pa_okA : planOKE [(3, 5), (8, 10)] ops8 pl8A = true := by kernel_rfl
theorem pa_okB : planOKE [(5, 3), (8, 10)] ops8 pl8B = true := by kernel_rfl
theorem pa_okC : planOKE [(3, 5), (10, 8)] ops8 pl8C = true := by kernel_rfl
theorem pa_okD : planOKE [(5, 3), (10, 8)] ops8 pl8D = true := by kernel_rfl
theorem pa_trA : trOps Tryd.prog (po.mu fPa) 49 vPa ops8 [] (planA true ops8 pl8A) = some rc_parA := by kernel_rfl
theorem pa_trB : trOps Tryd.prog (po.mu fPa) 49 vPa ops8 [] (planA true ops8 pl8B) = some rc_parB := by kernel_rfl
theorem pa_trC : trOps Tryd.prog (po.mu fPa) 49 vPa ops8 [] (planA true ops8 pl8C) = some rc_parC := by kernel_rfl
theorem pa_trD : trOps Tryd.prog (po.mu fPa) 49 vPa ops8 [] (planA true ops8 pl8D) = some rc_parD := by kernel_rfl
theorem pa_keep8 : keepOK (po.kp fPa) ops8 = true := by kernel_rfl
theorem pa_edge8 : ((List.range ops8.size).all fun j => (ops8.getD j default).after.all fun e => !Region.binds .any e || decide (e.on < j)) = true := by kernel_rfl
theorem pa_size8 : ops8.size = 11 := rfl
theorem pa_res : trRes Tryd.prog vPa Tryd.f13.results.toList = some [.cell true 1 1, .cell true 2 2] := by kernel_rfl
theorem pa_rv (x : AV) : RV 49 vPa [] ([x] ++ List.replicate (49 - [x].length) .junk) ([x] ++ List.replicate (vPa.length - [x].length) .junk) [] := by
  refine ⟨by simp, rfl, rfl, fun j s hj => ?_, fun j s hj => by simp at hj⟩
  match j, hj with
  | 0, hj | 1, hj | 2, hj | 3, hj | 4, hj | 5, hj | 6, hj | 7, hj | 8, hj => obtain rfl := Option.some.inj hj; exact ⟨by decide, rfl⟩
  | j + 9, hj => simp at hj
noncomputable def paA : Oper := { dst := some 17, op := .makeFunc (.func fPc) #[] #[.tmp 2, .tmp 3], type := ((opsOf (cL cP3)).getD 0 default).type, pos := ((opsOf (cL cP3)).getD 0 default).pos, after := #[], guard := none }
noncomputable def paB : Oper := { dst := none, op := .defer { callee := .value (.tmp 17), args := #[], argTypes := #[] }, type := ((opsOf (cL cP3)).getD 1 default).type, pos := ((opsOf (cL cP3)).getD 1 default).pos, after := ((opsOf (cL cP3)).getD 1 default).after, guard := none }
theorem pa_four : cL cP3 = .region 4 #[paA, paB] false := rfl
theorem pa_lay (bf : Frame) (a : Act) (cs : List Frame) (w : World) (hsz : a.tmps.size = 49) :
    Steps Tryd.prog (lone (bf.at a [.code cP3]) cs w) (lone (bf.at { a.put (some 17) (cloV fPc (capU a [2, 3])) with defers := cloD fPc (capU a [2, 3]) :: a.defers } [.code cP4]) cs w) := by
  have hw : (cL cP3).wp Tryd.prog (fun e a' w' => e = .normal ∧ w' = w ∧ a' = { a.put (some 17) (cloV fPc (capU a [2, 3])) with defers := cloD fPc (capU a [2, 3]) :: a.defers }) a w := by
    have hmf : ∀ (fn : Fn) (first cap : Array Value) (w : World), (Instr.makeFunc fn first cap).run Tryd.prog w = .ok (.func fn first cap) w := fun _ _ _ _ => rfl
    rw [pa_four]
    apply wp_region
    simp [wpOps, go_sem, paA, paB, hmf, Act.put, Act.eval, hsz, cloV, cloD, capU]
  obtain ⟨e, a', w', ⟨rfl, rfl, rfl⟩, harr⟩ := hw bf [.code cP4] cs
  conv => lhs; rw [pa_seq3]
  exact .head step_seq harr
theorem pa_kp : ∀ r ∈ Tryd.f13.results.toList, ∃ i ty, r = .cell i ty ∧ po.kp fPa i = true := by
  have h : Tryd.f13.results.toList.all (fun r => match r with | .cell i _ => po.kp fPa i | _ => false) = true := by kernel_rfl
  rw [List.all_eq_true] at h
  intro r hr
  have := h r hr
  cases r with
  | tmp i => cases this
  | cell i ty => exact ⟨i, ty, rfl, this⟩
end Go.Proofs.YtngphebjmmencaaDoor
namespace Go.Proofs.YtngphebjmmencaaDoor
set_option linter.unusedSimpArgs false
set_option linter.unusedVariables false
open Go Go.RowKit

theorem ModV.mslP {h : AH} {b n : Nat} {rows : List (List AV)} {l : List XD} (hb : b < h.n) (hc : h.cell b = some rows) (hn : rows.length = n) (hl : ExL l rows) : ModV h (.msl b 0 n tE) l := by
  refine ⟨?_, fun s => fits_msl, rfl, fun i y hy => ?_⟩
  · rw [← hl.len, hn]; rfl
  · obtain ⟨q, h1, h2⟩ := hl.get hy
    have hi : i < n := by rw [← hn]; exact (List.getElem?_eq_some_iff.1 h1).1
    refine ⟨.ptr b (0 + i) 0, q, ix_msl rfl hi, fun h' g => ?_, h2⟩
    rw [l_ptr, g.cell b hb, hc, Nat.zero_add, Option.bind_some, h1, Option.bind_some]
    exact ld_all h2.one.2
/-- the functions so far -/
def MvP (h' : AH) (lo : Nat) (mv : AV) (xs : List XD) : Prop :=
  (xs = [] ∧ mv = .nils) ∨ ∃ b rows, mv = .msl b 0 xs.length tE ∧ xs ≠ [] ∧ lo < b ∧ b < h'.n ∧ h'.cell b = some rows ∧ ExL xs rows ∧ wkR rows = some (rowsX xs)
/-- what holds of an end -/
def PaPost (h : AH) (out : List XD × (Int × Int)) : AEx → List AV → AH → Prop
  | .ret, V, h3 => V.getD 1 .junk = .ptr h.n 0 0 ∧ V.getD 2 .junk = .ptr (h.n + 1) 0 0 ∧ GrewA h h3 ∧ h.n + 2 < h3.n ∧ ∃ mv, h3.cell h.n = some [[mv]] ∧ h3.cell (h.n + 1) = some [[.int .i64 out.2.1, .int .i64 out.2.2]] ∧ MvP h3 (h.n + 2) mv out.1
  | .panic v, V, h3 => V.getD 1 .junk = .ptr h.n 0 0 ∧ V.getD 2 .junk = .ptr (h.n + 1) 0 0 ∧ GrewA h h3 ∧ h.n + 2 < h3.n ∧ ∃ (f z : Int × Int) (l : AV), v = .iface tPg (fltT f) ∧ out = ([], f) ∧ h3.cell h.n = some [[l]] ∧ h3.cell (h.n + 1) = some [[.int .i64 z.1, .int .i64 z.2]]
  | .halt _, _, _ => False
section
variable {h : AH}
abbrev paH (h : AH) (F : Int × Int) : AH := (h.push [[.nils]]).push [[.int .i64 F.1, .int .i64 F.2]]
theorem pa_pre (s : List UInt8) :
    PreR Tryd.prog po fPa 49 vPa [.str s] h (.halt [.code cP2]) [.str s, .ptr h.n 0 0, .ptr (h.n + 1) 0 0, lstA tTk (rowsT (scanR s).1), .junk, .junk, .junk, .junk, .junk] (paH h (scanR s).2) := by
  have p0 := PreR.start (po := po) (h := h) pa_fn pa_body pa_n (pa_rv (.str s))
  have p1 := p0.next (nv := 9) (x := .halt [.code cP1]) (V' := [.str s, .ptr h.n 0 0, .ptr (h.n + 1) 0 0, .junk, .junk, .junk, .junk, .junk, .junk]) (h3 := paH h (0, 0)) pok pa_seq (okVm_use pa_vm) pa_tr0 pa_ord0 (by
    unfold rc_par0
    simp only [sim, simB, Nat.reduceAdd, Nat.reduceSub, List.replicate, reduceCtorEq, Nat.reduceLeDiff, Nat.reduceLT, clearA])
  refine p1.next (nv := 9) pok pa_seq1 (okVm_use pa_vm) pa_tr1 pa_ord1 ?_
  have e1 := fun h => tScan_any (h := h) s
  unfold rc_par1
  simp only [sim, simB, Nat.reduceAdd, Nat.reduceSub, List.replicate, reduceCtorEq, Nat.reduceLeDiff, Nat.reduceLT, clearA, e1]
theorem lst_facts (e : TypeId) (rows : List (List AV)) : (lstA e rows).one = true ∧ (lstA e rows).cells = [lstA e rows] := by
  unfold lstA
  split <;> exact ⟨rfl, rfl⟩
theorem pa_fault (s : List UInt8) (hF : (scanR s).2.1 ≠ 0) : AC Tryd.prog fPa [.str s] h (.inl (.tup [.agg [lstA tE (rowsX (parseR s).1)], fltT (parseR s).2]), h) := by
  have hP : parseR s = ([], (scanR s).2) := by unfold parseR; rw [if_pos hF]
  rw [hP]
  have p := pa_pre (h := h) s
  generalize (scanR s).2 = F at p hF
  generalize lstA tTk (rowsT (scanR s).1) = lv at p
  have dF : decide (F.1 = 0) = false := decide_eq_false hF
  have i0 : (paH h F).set h.n (some [[.nils]]) = paH h F := set_idT push2_old
  have i1 : (paH h F).set (h.n + 1) (some [[.int .i64 F.1, .int .i64 F.2]]) = paH h F := set_idT push2_same
  have k0 : (paH h F).cell h.n = some [[.nils]] := push2_old
  have k1 : (paH h F).cell (h.n + 1) = some [[.int .i64 F.1, .int .i64 F.2]] := push2_same
  have p3 := p.next (nv := 9) (x := .ret) (V' := [.str s, .ptr h.n 0 0, .ptr (h.n + 1) 0 0, lv, .junk, .junk, .bool true, .junk, .junk]) (h3 := paH h F) pok pa_seq2 (okVm_use pa_vm) pa_tr2 pa_ord2 (by
    unfold rc_par2
    generalize paH h F = h2 at i0 i1 k0 k1
    simp only [sim, simB, Nat.reduceAdd, Nat.reduceSub, List.replicate, reduceCtorEq, Nat.reduceLeDiff, Nat.reduceLT, clearA, k0, k1, dF, i0, i1])
  have r := p3.ret (rs := [.cell true 1 1, .cell true 2 2]) (v := .tup [.agg [.nils], fltT F]) pa_fn pa_res (by
    generalize paH h F = h2 at k0 k1
    simp only [sim, simB, Nat.reduceAdd, Nat.reduceSub, List.replicate, reduceCtorEq, Nat.reduceLeDiff, Nat.reduceLT, clearA, k0, k1])
  refine r.forget (p := true) (fg_yes (by repeat (first | exact GrewA.refl _ | refine GrewA.trans ?_ (GrewA.push _ _) | refine GrewA.trans ?_ (GrewA.fresh _ _))) rfl)
theorem frz_flat (N : Nat) (h' : AH) (v : AV) (hv : match v with | .msl .. | .agg _ | .tup _ => False | _ => True) : frzA (N + 1) h' v = some (v, h') := by
  cases v <;> first | rfl | exact hv.elim
theorem frzR_ex (h' : AH) : ∀ {xs : List XD} {rows : List (List AV)} (N : Nat), ExL xs rows → rows.length + 6 ≤ N → frzR N h' rows = some (rows, h')
  | [], rows, N, hx, hN => by
    simp only [ExL] at hx
    subst hx
    obtain ⟨N, rfl⟩ : ∃ N', N = N' + 1 := ⟨N - 1, by omega⟩
    rfl
  | x :: xs, rows, N, hx, hN => by
    simp only [ExL] at hx
    obtain ⟨r, rs, rfl, h1, h2⟩ := hx
    simp only [List.length_cons] at hN
    obtain ⟨N, rfl⟩ : ∃ N', N = N' + 6 := ⟨N - 6, by omega⟩
    have ih := frzR_ex h' (N + 5) h2 (by omega)
    obtain ⟨v, es, rfl, hv, _⟩ := h1.row
    rcases hv with ⟨_, rfl⟩ | ⟨id, rfl⟩ <;> simp only [frzR, frzL, frzA, ih, Option.bind_some, Option.map_some]
theorem grew_drop {h' h'' : AH} (g : GrewA h h') {b : Nat} (hb : h.n ≤ b) : GrewA h (h'.set b none) := g.set hb
theorem pa_post {s : List UInt8} {x : AEx} {V' : List AV} {h3 : AH} (hp : PaPost h (parseR s) x V' h3) : ∃ h4 r4 N r5 h5, Ends Tryd.prog fPc [.ptr h.n 0 0, .ptr (h.n + 1) 0 0] h3 h4 x ∧ (resR V' h4 [.cell true 1 1, .cell true 2 2]).map oneA = some r4 ∧ frzA N h4 r4 = some (r5, h5) ∧ GrewA h h5 ∧
    wkA r5 = some (.tup [.agg [lstA tE (rowsX (parseR s).1)], fltT (parseR s).2]) := by
  cases x with
  | halt K => exact hp.elim
  | ret =>
    obtain ⟨v1, v2, g, nn, mv, c0, c1, hm⟩ := hp
    generalize parseR s = out at c1 hm
    rcases hm with ⟨hx, rfl⟩ | ⟨b, rows, rfl, hx, hb, hb2, cb, xl, xw⟩
    · refine ⟨h3, .tup [.agg [.nils], fltT out.2], 9, .tup [.agg [.nils], fltT out.2], h3, .ret fun m w ps hw hv => pc_returns hw hv, ?_, rfl, g, ?_⟩
      · simp only [sim, simB, Nat.reduceAdd, Nat.reduceSub, List.replicate, reduceCtorEq, Nat.reduceLeDiff, Nat.reduceLT, clearA, v1, v2, c0, c1]
      · rw [hx]; rfl
    · refine ⟨h3, .tup [.agg [.msl b 0 out.1.length tE], fltT out.2], rows.length + 11, .tup [.agg [.isl none tE rows], fltT out.2], h3.set b none, .ret fun m w ps hw hv => pc_returns hw hv, ?_, ?_, g.set (by omega), ?_⟩
      · simp only [sim, simB, Nat.reduceAdd, Nat.reduceSub, List.replicate, reduceCtorEq, Nat.reduceLeDiff, Nat.reduceLT, clearA, v1, v2, c0, c1]
      · have hl := xl.len
        have hne : out.1.length ≠ 0 := fun e => hx (List.length_eq_zero_iff.1 e)
        have hfr := frzR_ex (h3.set b none) (rows.length + 6) xl (by omega)
        have htk : rows.take out.1.length = rows := List.take_of_length_le (by omega)
        simp only [frzA, frzL, cb, Option.bind_some, if_pos, htk]
        rw [if_pos ⟨by omega, hne⟩, hfr]
        rfl
      · have hne : rowsX out.1 ≠ [] := fun e => hx (List.length_eq_zero_iff.1 (by rw [← rowsX_len, e]; rfl))
        simp only [wkA, wkL, xw, Option.map_some, lstA, if_neg hne]
  | panic v =>
    obtain ⟨v1, v2, g, nn, f, z, l, rfl, ho, c0, c1⟩ := hp
    rw [ho]
    refine ⟨((h3.push [[.int .i64 f.1, .int .i64 f.2]]).set h.n (some [[.nils]])).set (h.n + 1) (some [[.int .i64 f.1, .int .i64 f.2]]), .tup [.agg [.nils], fltT f], 9, .tup [.agg [.nils], fltT f], _, .panic _ fun m w ps u hw hv vu => pc_panics hw hv vu c0 c1 (by omega) (by omega) (by omega), ?_, rfl, GrewA.set (b := h.n + 1) (GrewA.set (b := h.n) (g.trans (GrewA.push _ _)) (by omega)) (by omega), rfl⟩
    have k0 : ∀ x y z, (((h3.push [x]).set h.n (some y)).set (h.n + 1) z).cell h.n = some y := fun x y z => (set_ne (by omega)).trans set_same
    simp only [sim, simB, Nat.reduceAdd, Nat.reduceSub, List.replicate, reduceCtorEq, Nat.reduceLeDiff, Nat.reduceLT, clearA, v1, v2, k0]
end
end Go.Proofs.YtngphebjmmencaaDoor
namespace Go.Proofs.YtngphebjmmencaaDoor
set_option linter.unusedSimpArgs false
set_option linter.unusedVariables false
open Go Go.RowKit

section
variable {P : Program} {po : Pol} {f : FuncId} {n nv : Nat} {vm : List Nat} {h : AH} {V : List AV} {K : List Item} {D : List Deferred} {Post : AEx → List AV → AH → Prop}
theorem AtP.seqE {c A B : Code} (e : c = .seq A B) (h1 : AtP P po f n vm D Post (.code A :: .code B :: K) V h) : AtP P po f n vm D Post (.code c :: K) V h := by
  subst e
  exact h1.seq
theorem OrdL.mono {all : Array Oper} {E E' : Nat → Nat → Prop} (hE : ∀ i j, E' i j → E i j) {li : Array Bool} {L : List Nat} (ho : OrdL all E li L) : OrdL all E' li L := by
  induction ho with
  | nil li h => exact .nil _ h
  | cons li i L h1 h2 h3 h4 _ ih => exact .cons _ _ _ h1 h2 h3 (fun j hj => h4 j (hE _ _ hj)) ih
end
theorem set_comm' {h : AH} {a b : Nat} (hne : a ≠ b) (x y : Option (List (List AV))) : (h.set a x).set b y = (h.set b y).set a x := by
  simp only [AH.set, AH.mk.injEq, and_true, true_and]
  funext k
  by_cases h1 : k = a
  · subst h1
    simp [hne]
  · simp [h1]
/-- one more, nothing in it yet -/
theorem mv_app {hh : AH} {lo : Nat} {mv : AV} {xs : List XD} (hm : MvP hh lo mv xs) (hlo : lo < hh.n) (hl : xs.length ≤ 1000000) {bz : Nat} (hz : hh.cell bz = some [zE]) : ∃ rows hh', appendA true tE mv (.msl bz 0 1 tE) hh = some (.msl hh.n 0 (xs.length + 1) tE, hh') ∧ hh'.n = hh.n + 1 ∧
    hh'.cell hh.n = some (rows ++ [zE]) ∧ ExL xs rows ∧ wkR rows = some (rowsX xs) ∧ (∀ q, q ≤ lo → hh'.cell q = hh.cell q) ∧ hh'.ids = hh.ids ∧ hh'.hw = hh.hw := by
  have he : elemsA hh tE (.msl bz 0 1 tE) = some [zE] := by simp [elemsA, hz]
  have ha : ∀ s, appendA true tE s (.msl bz 0 1 tE) hh = moreA true tE s [zE] hh := fun s => by
    simp only [appendA, he, Option.bind_some, List.length_singleton]
    rw [if_neg (by decide)]
  rcases hm with ⟨rfl, rfl⟩ | ⟨b, rows, rfl, hx, hb, hb2, cb, xl, xw⟩
  · refine ⟨[], hh.push [zE], ?_, rfl, push_same, rfl, rfl, fun q hq => push_lt (by omega), rfl, rfl⟩
    rw [ha]
    rfl
  · have hrl := xl.len
    refine ⟨rows, (hh.set b none).push (rows ++ [zE]), ?_, rfl, by rw [← set_n (b := b) (es := none)]; exact push_same, xl, xw, fun q hq => ?_, rfl, rfl⟩
    · rw [ha]
      have htk : rows.take xs.length = rows := List.take_of_length_le (by omega)
      simp only [moreA, cb, Option.bind_some, htk]
      rw [if_pos ⟨by decide, by decide, rfl⟩, if_pos ⟨trivial, trivial, hl⟩, if_pos (by omega)]
      rfl
    · rw [push_lt (by rw [set_n]; omega), set_ne (by omega)]
theorem MvP.grow {h1 h2 : AH} {lo : Nat} {mv : AV} {xs : List XD} (hm : MvP h1 lo mv xs) (hn : h1.n ≤ h2.n) (hc : ∀ q, lo < q → q < h1.n → h2.cell q = h1.cell q) : MvP h2 lo mv xs := by
  rcases hm with h | ⟨b, rows, a1, a2, a3, a4, a5, a6⟩
  · exact .inl h
  · exact .inr ⟨b, rows, a1, a2, a3, by omega, (hc b a3 a4).trans a5, a6⟩
section
variable {h : AH}
noncomputable abbrev paK : List Item := .inLoop cBd :: .inBlock 0 :: [.code (cR cP5)]
abbrev paV (h : AH) (s : List UInt8) (lv w5 w7 w8 : AV) : List AV := [.str s, .ptr h.n 0 0, .ptr (h.n + 1) 0 0, lv, .ptr (h.n + 1 + 1) 0 0, w5, .bool false, w7, w8]
/-- the state at the loop's head -/
structure PaSt (h h' : AH) (s : List UInt8) (F : Int × Int) (l : List TD) (xs : List XD) (mv : AV) : Prop where
  g : GrewA h h'
  n : h.n + 2 < h'.n
  m : h'.cell h.n = some [[mv]]
  f : h'.cell (h.n + 1) = some [[.int .i64 F.1, .int .i64 F.2]]
  p : PH h' (h.n + 1 + 1) s.length l
  mv : MvP h' (h.n + 2) mv xs
theorem MvP.one {h' : AH} {lo : Nat} {mv : AV} {xs : List XD} (hm : MvP h' lo mv xs) : mv.one = true ∧ mv.cells = [mv] ∧ lenA mv = some xs.length ∧ (∀ s, fitsR s (some tE) mv = true) := by
  rcases hm with ⟨rfl, rfl⟩ | ⟨b, rows, rfl, _⟩
  · exact ⟨rfl, rfl, rfl, fun s => rfl⟩
  · exact ⟨rfl, rfl, rfl, fun s => fits_msl⟩
/-- behind the loop -/
theorem pa_rest {s : List UInt8} {D : List Deferred} {h' : AH} {F : Int × Int} {xs : List XD} {mv lv w7 w8 : AV} (st : PaSt h h' s F [] xs mv) (hx : sizesX xs ≤ 100000)
    (ho : parseR s = if (checkX xs).1 ≠ 0 then ([], checkX xs) else (xs, (0, 0))) : AtP Tryd.prog po fPa 49 vPa D (PaPost h (parseR s)) [.code (cR cP5)] (paV h s lv .junk w7 w8) h' := by
  obtain ⟨g, nn, c0, c1, _, hm⟩ := st
  obtain ⟨o1, o2, o3, o4⟩ := hm.one
  have hl3 := sizes_len xs
  have mm : ModV h' mv xs := by
    rcases hm with ⟨rfl, rfl⟩ | ⟨b, rows, rfl, a2, a3, a4, a5, a6, _⟩
    · exact ModV.of (es := []) (.inl ⟨rfl, rfl⟩) rfl
    · exact ModV.mslP a4 a5 a6.len a6
  have ck := Check_run mv xs mm (by omega) (fun x hx' => by have := sizes_mem hx'; omega)
  refine AtP.pieceQ pok (okVm_use pa_vm) pa_trR pa_ordR fun Q hK hR hP => ?_
  unfold rc_parR
  have q0 : ∀ x, (h'.push [x]).cell h.n = some [[mv]] := fun x => (push_lt (by omega)).trans c0
  have q1 : ∀ x, (h'.push [x]).cell (h.n + 1) = some [[.int .i64 F.1, .int .i64 F.2]] := fun x => (push_lt (by omega)).trans c1
  have s1 : ∀ x y, ((h'.push [x]).set h.n y).cell (h.n + 1) = some [[.int .i64 F.1, .int .i64 F.2]] := fun x y => (set_ne (by omega)).trans (q1 x)
  have s2 : ∀ x y, ((h'.push [x]).set h.n y).cell h'.n = some [x] := fun x y => (set_ne (by omega)).trans push_same
  have i0 : ∀ x, (h'.push [x]).set h.n (some [[mv]]) = h'.push [x] := fun x => set_idT (q0 x)
  by_cases hc : (checkX xs).1 = 0
  · have dc : decide ((checkX xs).1 = 0) = true := decide_eq_true hc
    rw [if_neg (by simpa using hc)] at ho
    simp only [sim, simB, Nat.reduceAdd, Nat.reduceSub, List.replicate, reduceCtorEq, Nat.reduceLeDiff, Nat.reduceLT, clearA, c0, ck, dc, q0, q1, o1, o2, s1, i0]
    refine hR _ _ ?_
    rw [ho]
    refine ⟨rfl, rfl, (g.trans (GrewA.push _ _)).set (by omega), by rw [set_n, push_n]; omega, mv, ?_, set_same, ?_⟩
    · rw [set_ne (by omega)]; exact q0 _
    · refine hm.grow (by rw [set_n, push_n]; omega) fun q h1 h2 => ?_
      rw [set_ne (by omega), push_lt h2]
  · have dc : decide ((checkX xs).1 = 0) = false := decide_eq_false hc
    rw [if_pos (by simpa using hc)] at ho
    simp only [sim, simB, Nat.reduceAdd, Nat.reduceSub, List.replicate, reduceCtorEq, Nat.reduceLeDiff, Nat.reduceLT, clearA, c0, ck, dc, q0, q1, o1, o2, s1, s2]
    refine hR _ _ ?_
    rw [ho]
    refine ⟨rfl, rfl, ((g.trans (GrewA.push _ _)).set (by omega)).set (by omega), by rw [set_n, set_n, push_n]; omega, .nils, ?_, set_same, .inl ⟨rfl, rfl⟩⟩
    rw [set_ne (by omega)]; exact set_same
/-- the loop -/
theorem pa_loop {s : List UInt8} (D : List Deferred) {F : Int × Int} {lv w8 : AV} {L : List TD} (hL6 : L.length ≤ 6000) (hF : F.1 = 0)
    (ho : ∀ r, pMod s.length L.length L = r → parseR s = match r with
      | .error f => ([], f)
      | .ok xs => if (checkX xs).1 ≠ 0 then ([], checkX xs) else (xs, (0, 0))) :
    ∀ (N : Nat) (l : List TD) (xs : List XD) (h' : AH) (mv w7 : AV), l.length < N → PaSt h h' s F l xs mv → xs.length + l.length ≤ L.length → pMod s.length L.length L = (match pMod s.length l.length l with
        | .error f => .error f
        | .ok ys => .ok (xs ++ ys)) →
      AtP Tryd.prog po fPa 49 vPa D (PaPost h (parseR s)) (.code cBd :: paK) (paV h s lv .junk w7 w8) h' := by
  intro N
  induction N with
  | zero => intro l xs h' mv w7 hl; omega
  | succ N ih =>
    intro l xs h' mv w7 hl st hxl hm
    have st' := st
    obtain ⟨g, nn, c0, c1, pp, mvp⟩ := st'
    obtain ⟨o1, o2, o3, o4⟩ := mvp.one
    refine AtP.seqE pa_bd (AtP.seq ?_)
    obtain ⟨pv, pc0, ps⟩ := pp
    have pl1 := ps.isL.len
    have pf1 := ps.isL.fits
    rw [List.length_map] at pl1
    refine AtP.pieceQ pok (okVm_use pa_vm) pa_tr6 pa_ord6 fun Q hK _ _ => ?_
    unfold rc_par6
    cases hle : l with
    | nil =>
      rw [hle] at pl1 st hm
      have hlt : ¬ (0 : Int) < (([] : List TD).length : Int) := by simp
      simp only [sim, simB, Nat.reduceAdd, Nat.reduceSub, List.replicate, reduceCtorEq, Nat.reduceLeDiff, Nat.reduceLT, clearA, pc0, pl1, pf1, hlt, gt_iff_lt]
      refine hK _ _ (AtP.cond (s := 28) (j := 7) rfl rfl (AtP.exit rfl ?_))
      simp only [pMod, List.append_nil] at hm
      have sz := mod_size hm
      exact pa_rest st (by omega) (ho _ hm)
    | cons t l0 =>
      rw [hle] at pl1 hl hxl hm
      have hlt : (0 : Int) < ((l0.length + 1 : Nat) : Int) := by omega
      simp only [sim, simB, Nat.reduceAdd, Nat.reduceSub, List.replicate, reduceCtorEq, Nat.reduceLeDiff, Nat.reduceLT, clearA, pc0, pl1, pf1, hlt, gt_iff_lt]
      refine hK _ _ (AtP.cond (s := 28) (j := 7) rfl rfl (AtP.skip (AtP.block (AtP.seq ?_))))
      rw [show (t :: l0).length = l0.length + 1 from rfl, pMod] at hm
      have pp : PH h' (h.n + 1 + 1) s.length (t :: l0) := ⟨pv, pc0, by rw [← hle]; exact ps⟩
      refine AtP.pieceQ pok (okVm_use pa_vm) pa_tr7 pa_ord7 fun Q hK _ hP => ?_
      unfold rc_par7
      cases hw : pWant s.length funB (t :: l0) with
      | error f =>
        have e1 := pwant_no pp hw
        rw [hw] at hm
        simp only at hm
        simp only [sim, simB, Nat.reduceAdd, Nat.reduceSub, List.replicate, reduceCtorEq, Nat.reduceLeDiff, Nat.reduceLT, clearA, e1]
        exact hP _ _ _ ⟨rfl, rfl, g, nn, f, F, mv, rfl, ho _ hm, c0, c1⟩
      | ok l1 =>
        have e1 := pwant_ok pp hw
        have len1 := is_len (want_ok hw)
        rw [hw] at hm
        simp only at hm
        simp only [sim, simB, Nat.reduceAdd, Nat.reduceSub, List.replicate, reduceCtorEq, Nat.reduceLeDiff, Nat.reduceLT, clearA, e1]
        refine hK _ _ (AtP.draw pok pa_edge8 fun Lo hLo => ?_)
        have p1 : PH (pc h' (h.n + 1 + 1) s.length l1) (h.n + 1 + 1) s.length l1 := PH.pc _ _ _ _
        have c0' : (pc h' (h.n + 1 + 1) s.length l1).cell h.n = some [[mv]] := (set_ne (by omega)).trans c0
        have c1' : (pc h' (h.n + 1 + 1) s.length l1).cell (h.n + 1) = some [[.int .i64 F.1, .int .i64 F.2]] := (set_ne (by omega)).trans c1
        have t1 : Tp h' (pc h' (h.n + 1 + 1) s.length l1) (h.n + 1 + 1) := Tp.pc _ _ _ _
        have m1 : MvP (pc h' (h.n + 1 + 1) s.length l1) (h.n + 2) mv xs := mvp.grow (Nat.le_refl _) fun q h1 h2 => set_ne (by omega)
        have nn1 : h.n + 2 < (pc h' (h.n + 1 + 1) s.length l1).n := nn
        generalize pc h' (h.n + 1 + 1) s.length l1 = h1 at p1 c0' c1' t1 m1 nn1
        -- behind the call, and the new element
        have fin : ∀ (hh : AH) (bz : Nat) (x : XD) (r : List TD) (row : List AV) (w7 : AV), pExpr s.length 31 l1 = .ok (x, r) → Tp h' hh (h.n + 1 + 1) → hh.cell h.n = some [[mv]] → hh.cell (h.n + 1) = some [[.int .i64 F.1, .int .i64 F.2]] → MvP hh (h.n + 2) mv xs → PH hh (h.n + 1 + 1) s.length r → ExA x row → wkL row = some (rowX x) → hh.cell bz = some [zE] →
            ∃ hh', appendA true tE mv (.msl bz 0 1 tE) hh = some (.msl hh.n 0 (xs.length + 1) tE, hh') ∧ (∃ rows, hh'.cell hh.n = some (rows ++ [zE]) ∧ rows.length = xs.length ∧ hh'.cell h.n = some [[mv]] ∧ h.n < hh.n ∧ AtP Tryd.prog po fPa 49 vPa D (PaPost h (parseR s)) (.inBlock 1 :: paK) (paV h s lv .junk w7 w8) ((hh'.set hh.n (some (rows ++ [row]))).set h.n (some [[.msl hh.n 0 (xs.length + 1) tE]]))) := by
          intro hh bz x r row w7 hx tp d0 d1 dm dp xr rw_ dz
          have gh := g.tp tp (by omega)
          have nh := tp.n
          have el := expr_len _ _ _ _ _ hx
          rw [hx] at hm
          simp only at hm
          obtain ⟨rows, hh', ea, n', cn, xl, xw, cq, i', w'⟩ := mv_app dm (by omega) (by omega) dz
          refine ⟨hh', ea, rows, cn, xl.len, (cq _ (by omega)).trans d0, by omega, AtP.inBlock (AtP.inLoop (ih r (xs ++ [x]) _ _ _ (by omega) ⟨?_, ?_, set_same, ?_, ?_, ?_⟩ (by rw [List.length_append, List.length_singleton]; omega) ?_))⟩
          · refine GrewA.set (GrewA.set (⟨?_, ?_, ?_, ?_⟩ : GrewA h hh') (by omega)) (by omega)
            · rw [n']; have := gh.n; omega
            · rw [i']; exact gh.ids
            · intro q hq
              rw [cq q (by omega)]; exact gh.cell q hq
            · intro k hk
              rw [w']; exact gh.hw k hk
          · rw [set_n, set_n, n']; omega
          · rw [set_ne (by omega), set_ne (by omega), cq _ (by omega)]; exact d1
          · refine dp.keep ?_
            rw [set_ne (by omega), set_ne (by omega), cq _ (by omega)]
          · refine .inr ⟨hh.n, rows ++ [row], by simp, by simp, by omega, by rw [set_n, set_n, n']; omega, (set_ne (by omega)).trans set_same, xl.append xr, ?_⟩
            rw [rowsX_app]
            exact wkR_app xw rw_
          · rw [hm, mod_room (N := r.length) (N' := l0.length) (Nat.le_refl _) (by simp only [List.length_cons] at len1; omega)]
            cases pMod s.length l0.length r with
            | error f => rfl
            | ok ys => simp
        have bad : ∀ f, pExpr s.length 31 l1 = .error f → parseR s = ([], f) := fun f hf => by
          rw [hf] at hm
          exact ho _ hm
        have ixm : ∀ b, ixaR (some tE) none (.msl b 0 (xs.length + 1) tE) (.int .i64 (xs.length : Int)) = some (.ptr b (0 + xs.length) 0) := fun b => ix_msl rfl (by omega)
        have gm : ∀ rows : List (List AV), rows.length = xs.length → (rows ++ [zE])[xs.length]? = some zE := fun rows hr => by exact get_mid rows [] zE hr.symm
        have sm : ∀ (rows : List (List AV)) (row : List AV), rows.length = xs.length → (rows ++ [zE]).set xs.length row = rows ++ [row] := fun rows row hr => by exact set_mid rows [] zE row hr.symm
        rcases ord_split (x := 3) (y := 5) (by decide) (by rw [pa_size8]; decide) hLo (by simp) (noLi_get _) (noLi_get _) with hL1 | hL1
        · -- the call comes first
          obtain ⟨q, h2, er, tq, oq⟩ := pexpr_run s.length 31 (by omega) h1 (h.n + 1 + 1) l1 (by omega) p1
          rw [show (31 : Int) - ((31 : Nat) : Int) = 0 from rfl] at er
          have d0 : h2.cell h.n = some [[mv]] := (tq.cell _ (by omega) (by omega)).trans c0'
          have d1 : h2.cell (h.n + 1) = some [[.int .i64 F.1, .int .i64 F.2]] := (tq.cell _ (by omega) (by omega)).trans c1'
          have tA : Tp h' h2 (h.n + 1 + 1) := t1.trans tq
          cases hx : pExpr s.length 31 l1 with
          | error f =>
            rw [hx] at oq
            obtain rfl : q = .inr (.iface tPg (fltT f)) := oq
            have hpo : ∀ w7 w8, PaPost h (parseR s) (.panic (.iface tPg (fltT f))) (paV h s lv .junk w7 w8) h2 := fun w7 w8 => ⟨rfl, rfl, g.tp tA (by omega), by have := tA.n; omega, f, F, mv, rfl, bad f hx, d0, d1⟩
            rcases ord_split (x := 8) (y := 10) (by decide) (by rw [pa_size8]; decide) hL1 (by simp) (noLi_get _) (noLi_get _) with hL2 | hL2
            · refine AtP.opsQ pok (OrdL.mono (fun i j h => by
                simp only [List.mem_cons, Prod.mk.injEq, List.not_mem_nil, or_false] at h
                exact h.imp .inr id) hL2) (plan_specE pa_okA) pa_keep8 (okVm_use pa_vm) pa_trA fun Q hK _ hP => ?_
              unfold rc_parA
              simp only [sim, simB, Nat.reduceAdd, Nat.reduceSub, List.replicate, reduceCtorEq, Nat.reduceLeDiff, Nat.reduceLT, clearA, c0', o3, o4, er]
              exact hP _ _ _ (hpo _ _)
            · refine AtP.opsQ pok (OrdL.mono (fun i j h => by
                simp only [List.mem_cons, Prod.mk.injEq, List.not_mem_nil, or_false] at h
                exact h.imp .inr id) hL2) (plan_specE pa_okC) pa_keep8 (okVm_use pa_vm) pa_trC fun Q hK _ hP => ?_
              unfold rc_parC
              simp only [sim, simB, Nat.reduceAdd, Nat.reduceSub, List.replicate, reduceCtorEq, Nat.reduceLeDiff, Nat.reduceLT, clearA, c0', o3, o4, er]
              exact hP _ _ _ (hpo _ _)
          | ok z =>
            obtain ⟨x, r⟩ := z
            rw [hx] at oq
            obtain ⟨⟨row, rfl, xr, rw_⟩, pr⟩ := oq
            obtain ⟨y1, y2⟩ := xr.one
            have nn2 : h1.n ≤ h2.n := tq.n
            have dm : MvP (h2.push [zE]) (h.n + 2) mv xs := m1.grow (by rw [push_n]; omega) fun q h3 h4 => (push_lt (by omega)).trans (tq.cell _ h4 (by omega))
            obtain ⟨hh', ea, rows, cn, rl, cm, hmn, done⟩ := fin (h2.push [zE]) h2.n x r row (.bool true) hx (tA.trans (Tp.push _ _ _)) ((push_lt (by omega)).trans d0) ((push_lt (by omega)).trans d1) dm (pr.keep (push_lt (by omega))) xr rw_ push_same
            have dk : (h2.push [zE]).cell h.n = some [[mv]] := (push_lt (by omega)).trans d0
            have ixm' := ixm (h2.push [zE]).n
            have gm' := gm rows rl
            have sm' := sm rows row rl
            simp only [zE, push_n] at ea cn gm' sm' cm hmn done dk ixm'
            rcases ord_split (x := 8) (y := 10) (by decide) (by rw [pa_size8]; decide) hL1 (by simp) (noLi_get _) (noLi_get _) with hL2 | hL2
            · refine AtP.opsQ pok (OrdL.mono (fun i j h => by
                simp only [List.mem_cons, Prod.mk.injEq, List.not_mem_nil, or_false] at h
                exact h.imp .inr id) hL2) (plan_specE pa_okA) pa_keep8 (okVm_use pa_vm) pa_trA fun Q hK _ hP => ?_
              have cm' : ∀ y, (hh'.set (h2.n + 1) y).cell h.n = some [[mv]] := fun y => (set_ne (by omega)).trans cm
              unfold rc_parA
              simp only [sim, simB, Nat.reduceAdd, Nat.reduceSub, List.replicate, reduceCtorEq, Nat.reduceLeDiff, Nat.reduceLT, clearA, c0', o3, o4, er, d0, dk, y1, y2, ea, ixm', cn, gm', sm', cm', o1, o2]
              exact hK _ _ done
            · refine AtP.opsQ pok (OrdL.mono (fun i j h => by
                simp only [List.mem_cons, Prod.mk.injEq, List.not_mem_nil, or_false] at h
                exact h.imp .inr id) hL2) (plan_specE pa_okC) pa_keep8 (okVm_use pa_vm) pa_trC fun Q hK _ hP => ?_
              have cn' : ∀ y, (hh'.set h.n y).cell (h2.n + 1) = _ := fun y => (set_ne (by omega)).trans cn
              unfold rc_parC
              simp only [sim, simB, Nat.reduceAdd, Nat.reduceSub, List.replicate, reduceCtorEq, Nat.reduceLeDiff, Nat.reduceLT, clearA, c0', o3, o4, er, d0, dk, y1, y2, ea, ixm', cm, gm', sm', cn', o1, o2]
              refine hK _ _ ?_
              rw [set_comm' (by omega)]
              exact done
        · -- the new element comes first
          have t1b : Tp h' (h1.push [zE]) (h.n + 1 + 1) := t1.trans (Tp.push _ _ _)
          have b0 : (h1.push [zE]).cell h.n = some [[mv]] := (push_lt (by omega)).trans c0'
          have b1 : (h1.push [zE]).cell (h.n + 1) = some [[.int .i64 F.1, .int .i64 F.2]] := (push_lt (by omega)).trans c1'
          have nnb : h.n + 2 < (h1.push [zE]).n := by rw [push_n]; omega
          obtain ⟨q, h2, er, tq, oq⟩ := pexpr_run s.length 31 (by omega) (h1.push [zE]) (h.n + 1 + 1) l1 (by omega) (p1.keep (push_lt (by omega)))
          rw [show (31 : Int) - ((31 : Nat) : Int) = 0 from rfl] at er
          have d0 : h2.cell h.n = some [[mv]] := (tq.cell _ (by omega) (by omega)).trans b0
          have d1 : h2.cell (h.n + 1) = some [[.int .i64 F.1, .int .i64 F.2]] := (tq.cell _ (by omega) (by omega)).trans b1
          have dz : h2.cell h1.n = some [zE] := (tq.cell _ (by rw [push_n]; omega) (by omega)).trans push_same
          have tA : Tp h' h2 (h.n + 1 + 1) := t1b.trans tq
          simp only [zE] at er b0
          cases hx : pExpr s.length 31 l1 with
          | error f =>
            rw [hx] at oq
            obtain rfl : q = .inr (.iface tPg (fltT f)) := oq
            have hpo : ∀ w7 w8, PaPost h (parseR s) (.panic (.iface tPg (fltT f))) (paV h s lv .junk w7 w8) h2 := fun w7 w8 => ⟨rfl, rfl, g.tp tA (by omega), by have := tA.n; omega, f, F, mv, rfl, bad f hx, d0, d1⟩
            rcases ord_split (x := 8) (y := 10) (by decide) (by rw [pa_size8]; decide) hL1 (by simp) (noLi_get _) (noLi_get _) with hL2 | hL2
            · refine AtP.opsQ pok (OrdL.mono (fun i j h => by
                simp only [List.mem_cons, Prod.mk.injEq, List.not_mem_nil, or_false] at h
                exact h.imp .inr id) hL2) (plan_specE pa_okB) pa_keep8 (okVm_use pa_vm) pa_trB fun Q hK _ hP => ?_
              unfold rc_parB
              simp only [sim, simB, Nat.reduceAdd, Nat.reduceSub, List.replicate, reduceCtorEq, Nat.reduceLeDiff, Nat.reduceLT, clearA, c0', o3, o4, b0, er]
              exact hP _ _ _ (hpo _ _)
            · refine AtP.opsQ pok (OrdL.mono (fun i j h => by
                simp only [List.mem_cons, Prod.mk.injEq, List.not_mem_nil, or_false] at h
                exact h.imp .inr id) hL2) (plan_specE pa_okD) pa_keep8 (okVm_use pa_vm) pa_trD fun Q hK _ hP => ?_
              unfold rc_parD
              simp only [sim, simB, Nat.reduceAdd, Nat.reduceSub, List.replicate, reduceCtorEq, Nat.reduceLeDiff, Nat.reduceLT, clearA, c0', o3, o4, b0, er]
              exact hP _ _ _ (hpo _ _)
          | ok z =>
            obtain ⟨x, r⟩ := z
            rw [hx] at oq
            obtain ⟨⟨row, rfl, xr, rw_⟩, pr⟩ := oq
            obtain ⟨y1, y2⟩ := xr.one
            have nn2 : (h1.push [zE]).n ≤ h2.n := tq.n
            have dm : MvP h2 (h.n + 2) mv xs := m1.grow (by rw [push_n] at nn2; omega) fun q h3 h4 => (tq.cell _ (by rw [push_n]; omega) (by omega)).trans (push_lt h4)
            obtain ⟨hh', ea, rows, cn, rl, cm, hmn, done⟩ := fin h2 h1.n x r row (.bool true) hx tA d0 d1 dm pr xr rw_ dz
            have ixm' := ixm h2.n
            have gm' := gm rows rl
            have sm' := sm rows row rl
            simp only [zE] at ea cn gm' sm' cm hmn done ixm'
            rcases ord_split (x := 8) (y := 10) (by decide) (by rw [pa_size8]; decide) hL1 (by simp) (noLi_get _) (noLi_get _) with hL2 | hL2
            · refine AtP.opsQ pok (OrdL.mono (fun i j h => by
                simp only [List.mem_cons, Prod.mk.injEq, List.not_mem_nil, or_false] at h
                exact h.imp .inr id) hL2) (plan_specE pa_okB) pa_keep8 (okVm_use pa_vm) pa_trB fun Q hK _ hP => ?_
              have cm' : ∀ y, (hh'.set h2.n y).cell h.n = some [[mv]] := fun y => (set_ne (by omega)).trans cm
              unfold rc_parB
              simp only [sim, simB, Nat.reduceAdd, Nat.reduceSub, List.replicate, reduceCtorEq, Nat.reduceLeDiff, Nat.reduceLT, clearA, c0', o3, o4, b0, er, d0, y1, y2, ea, ixm', cn, gm', sm', cm', o1, o2]
              exact hK _ _ done
            · refine AtP.opsQ pok (OrdL.mono (fun i j h => by
                simp only [List.mem_cons, Prod.mk.injEq, List.not_mem_nil, or_false] at h
                exact h.imp .inr id) hL2) (plan_specE pa_okD) pa_keep8 (okVm_use pa_vm) pa_trD fun Q hK _ hP => ?_
              have cn' : ∀ y, (hh'.set h.n y).cell h2.n = _ := fun y => (set_ne (by omega)).trans cn
              unfold rc_parD
              simp only [sim, simB, Nat.reduceAdd, Nat.reduceSub, List.replicate, reduceCtorEq, Nat.reduceLeDiff, Nat.reduceLT, clearA, c0', o3, o4, b0, er, d0, y1, y2, ea, ixm', cm, gm', sm', cn', o1, o2]
              refine hK _ _ ?_
              rw [set_comm' (by omega)]
              exact done
/-- Parse comes to parseR -/
theorem Parse_ac (s : List UInt8) : AC Tryd.prog fPa [.str s] h (.inl (.tup [.agg [lstA tE (rowsX (parseR s).1)], fltT (parseR s).2]), h) := by
  by_cases hF : (scanR s).2.1 = 0
  · have p := pa_pre (h := h) s
    obtain ⟨hl1, hl2⟩ := scan_lens s
    have hP : ∀ r, pMod s.length (scanR s).1.length (scanR s).1 = r → parseR s = match r with
        | .error f => ([], f)
        | .ok xs => if (checkX xs).1 ≠ 0 then ([], checkX xs) else (xs, (0, 0)) := by
      intro r hr
      unfold parseR
      rw [if_neg (by simpa using hF), hr]
      cases r <;> rfl
    have hsl : SlA tTk (lstA tTk (rowsT (scanR s).1)) (rowsT (scanR s).1) := lst_sla _ _
    obtain ⟨ov1, ov2⟩ := lst_facts tTk (rowsT (scanR s).1)
    generalize lstA tTk (rowsT (scanR s).1) = lv at p hsl ov1 ov2
    generalize (scanR s).2 = F at p hF
    generalize (scanR s).1 = L at hsl hl1 hl2 hP
    have dF : decide (F.1 = 0) = true := decide_eq_true hF
    have k0 : (paH h F).cell h.n = some [[.nils]] := push2_old
    have k1 : (paH h F).cell (h.n + 1) = some [[.int .i64 F.1, .int .i64 F.2]] := push2_same
    have gp : GrewA h (paH h F) := (by repeat (first | exact GrewA.refl _ | refine GrewA.trans ?_ (GrewA.push _ _) | refine GrewA.trans ?_ (GrewA.fresh _ _)))
    have pn : (paH h F).n = h.n + 1 + 1 := rfl
    have p3 := p.next (nv := 9) (x := .halt [.code cP3]) (V' := [.str s, .ptr h.n 0 0, .ptr (h.n + 1) 0 0, lv, .junk, .junk, .bool false, .junk, .junk]) (h3 := paH h F) pok pa_seq2 (okVm_use pa_vm) pa_tr2 pa_ord2 (by
      unfold rc_par2
      generalize paH h F = h2 at k0 k1
      simp only [sim, simB, Nat.reduceAdd, Nat.reduceSub, List.replicate, reduceCtorEq, Nat.reduceLeDiff, Nat.reduceLT, clearA, k0, k1, dF])
    generalize paH h F = h2 at k0 k1 p3 gp pn
    refine defer_ACx (Post := PaPost h (parseR s)) (caps := [2, 3]) (js := [1, 2]) pok p3 pa_fn ⟨_, pc_fn, by kernel_rfl, by kernel_rfl⟩ (by decide) rfl (by decide) pa_lay (fun D => ?_) pa_kp pa_res fun x V' h3 hp => pa_post hp
    refine AtP.seqE pa_seq4 (AtP.pieceQ pok (okVm_use pa_vm) pa_tr5 pa_ord5 fun Q hK _ _ => ?_)
    unfold rc_par5
    simp only [sim, simB, Nat.reduceAdd, Nat.reduceSub, List.replicate, reduceCtorEq, Nat.reduceLeDiff, Nat.reduceLT, clearA, ov1, ov2, pn]
    refine hK _ _ (AtP.seqE pa_seq5 (AtP.block (AtP.loop ?_)))
    have st : PaSt h (h2.push [[lv, .int .i64 (s.length : Int)]]) s F L [] .nils :=
      ⟨gp.trans (GrewA.push _ _), by rw [push_n]; omega, (push_lt (by omega)).trans k0, (push_lt (by omega)).trans k1, ⟨lv, by rw [← pn]; exact push_same, hsl⟩, .inl ⟨rfl, rfl⟩⟩
    exact pa_loop D hl2 hF hP (L.length + 1) L [] _ _ _ (Nat.lt_succ_self _) st (by simp) (by simp only [List.nil_append]; cases pMod s.length L.length L <;> rfl)
  · exact pa_fault s hF
theorem Parse_run (s : List UInt8) : runF Tryd.prog po 13 [.str s] h = some (.inl (.tup [.agg [lstA tE (rowsX (parseR s).1)], fltT (parseR s).2]), h) := by
  unfold runF
  rw [ext_parse]
  show parseF _ _ = _
  unfold parseF
  exact if_pos (Parse_ac s)
end
end Go.Proofs.YtngphebjmmencaaDoor
namespace Go.Proofs.YtngphebjmmencaaDoor
set_option linter.unusedSimpArgs false
set_option linter.unusedVariables false
open Go Go.Lib

/-! ### the same tokens in other places, with more behind them -/
abbrev sameT (l l' : List TD) : Prop := l'.map TD.bare = l.map TD.bare
theorem same_cons {t : TD} {r l' : List TD} (h : sameT (t :: r) l') : ∃ t' r', l' = t' :: r' ∧ t'.text = t.text ∧ t'.num = t.num ∧ t'.n = t.n ∧ sameT r r' := by
  cases l' with
  | nil => cases h
  | cons t' r' =>
    simp only [sameT, List.map_cons, List.cons.injEq] at h
    obtain ⟨h1, h2⟩ := h
    simp only [TD.bare, Prod.mk.injEq] at h1
    exact ⟨t', r', rfl, h1.1, h1.2.1, h1.2.2, h2⟩
theorem is_same {s : List UInt8} {l r l' q : List TD} (h : pIs s l = some r) (hs : sameT l l') : ∃ r', pIs s (l' ++ q) = some (r' ++ q) ∧ sameT r r' := by
  obtain ⟨t, rfl, h1, h2⟩ := is_some h
  obtain ⟨t', r', rfl, e1, e2, _, e4⟩ := same_cons hs
  refine ⟨r', ?_, e4⟩
  simp only [List.cons_append, pIs]
  rw [if_pos ⟨by rw [e2]; exact h1, by rw [e1]; exact h2⟩]
theorem want_same {e e' : Int} {s : List UInt8} {l r l' q : List TD} (h : pWant e s l = .ok r) (hs : sameT l l') : ∃ r', pWant e' s (l' ++ q) = .ok (r' ++ q) ∧ sameT r r' := by
  obtain ⟨r', h1, h2⟩ := is_same (q := q) (want_ok h) hs
  exact ⟨r', by simp only [pWant, h1], h2⟩
theorem num_same {e e' n : Int} {l r l' q : List TD} (h : pNum e l = .ok (n, r)) (hs : sameT l l') : ∃ r', pNum e' (l' ++ q) = .ok (n, r' ++ q) ∧ sameT r r' := by
  obtain ⟨t, rfl, h1, h2⟩ := num_ok h
  obtain ⟨t', r', rfl, e1, e2, e3, e4⟩ := same_cons hs
  refine ⟨r', ?_, e4⟩
  simp only [List.cons_append, pNum]
  rw [if_pos (by rw [e2]; exact h1), e3, h2]
theorem few_same {e e' n : Int} {l r l' q : List TD} (h : pFew e l = .ok (n, r)) (hs : sameT l l') : ∃ r', pFew e' (l' ++ q) = .ok (n, r' ++ q) ∧ sameT r r' := by
  obtain ⟨t, rfl, h1, h2, h3, h4⟩ := few_ok h
  have hn : pNum e (t :: r) = .ok (n, r) := by simp [pNum, h1, h2]
  obtain ⟨t', r', rfl, e1, e2, e3, e4⟩ := same_cons hs
  obtain ⟨r2, k1, k2⟩ := num_same (e' := e') (q := q) hn hs
  refine ⟨r2, ?_, k2⟩
  simp only [List.cons_append, pFew] at k1 ⊢
  rw [if_neg (by rw [e3]; omega)]
  exact k1
theorem pick_same {e e' : Int} {of : Int → List UInt8} {l r l' q : List TD} (hs : sameT l l') : ∀ {c k : Nat} {j : Int}, pPickFrom e of l c k = .ok (j, r) → ∃ r', pPickFrom e' of (l' ++ q) c k = .ok (j, r' ++ q) ∧ sameT r r'
  | 0, k, j, h => by cases h
  | c + 1, k, j, h => by
    have h0 := h
    rw [pPickFrom] at h
    cases hp : pIs (of k) l with
    | some r1 =>
      rw [hp] at h
      injection h with h
      injection h with h1 h2
      subst h2
      obtain ⟨r', k1, k2⟩ := is_same (q := q) hp hs
      refine ⟨r', ?_, k2⟩
      rw [pPickFrom, k1, h1]
    | none =>
      rw [hp] at h
      obtain ⟨r', k1, k2⟩ := pick_same (e' := e') (q := q) hs h
      obtain ⟨i, _, _, _, hi⟩ := pickFrom_ok h
      obtain ⟨t, rfl, _⟩ := is_some hi
      obtain ⟨t', r2, rfl, e1, e2, _, _⟩ := same_cons hs
      refine ⟨r', ?_, k2⟩
      rw [pPickFrom]
      have : pIs (of k) (t' :: r2 ++ q) = none := by
        simp only [pIs, List.cons_append] at hp ⊢
        rw [if_neg]
        intro hh
        rw [e1, e2] at hh
        rw [if_pos hh] at hp
        cases hp
      rw [this]
      exact k1
theorem arg_same {e e' op k n : Int} {l r l' q : List TD} (h : pArg e op l = .ok (k, n, r)) (hs : sameT l l') : ∃ r', pArg e' op (l' ++ q) = .ok (k, n, r' ++ q) ∧ sameT r r' := by
  unfold pArg at h ⊢
  split at h
  · rename_i h2
    rw [if_pos h2]
    split at h
    · rename_i n' r' hn
      injection h with h
      injection h with a1 h
      injection h with a2 h
      subst h
      obtain ⟨r2, k1, k2⟩ := num_same (e' := e') (q := q) hn hs
      exact ⟨r2, by rw [k1, a1, a2], k2⟩
    · cases h
  · rename_i h2
    rw [if_neg h2]
    split at h
    · rename_i h4
      rw [if_pos h4]
      split at h
      · rename_i n' r' hn
        injection h with h
        injection h with a1 h
        injection h with a2 h
        subst h
        obtain ⟨r2, k1, k2⟩ := few_same (e' := e') (q := q) hn hs
        exact ⟨r2, by rw [k1, a1, a2], k2⟩
      · cases h
    · rename_i h4
      rw [if_neg h4]
      split at h
      · rename_i h6
        rw [if_pos h6]
        split at h
        · rename_i n' r' hn
          injection h with h
          injection h with a1 h
          injection h with a2 h
          subst h
          obtain ⟨r2, k1, k2⟩ := pick_same (e' := e') (q := q) hs hn
          exact ⟨r2, by simp only [pPick, k1, a1, a2], k2⟩
        · cases h
      · rename_i h6
        rw [if_neg h6]
        injection h with h
        injection h with a1 h
        injection h with a2 h
        subst h
        subst a1 a2
        exact ⟨l', rfl, hs⟩
theorem parts_same {f g : List TD → Except (Int × Int) (XD × List TD)} {q : List TD} (hf : ∀ l x r l', f l = .ok (x, r) → sameT l l' → ∃ r', g (l' ++ q) = .ok (x, r' ++ q) ∧ sameT r r') : ∀ {n : Nat} {l r l' : List TD} {xs : List XD}, pParts f n l = .ok (xs, r) → sameT l l' →
    ∃ r', pParts g n (l' ++ q) = .ok (xs, r' ++ q) ∧ sameT r r'
  | 0, l, r, l', xs, h, hs => by
    injection h with h
    injection h with h1 h
    subst h h1
    exact ⟨l', rfl, hs⟩
  | n + 1, l, r, l', xs, h, hs => by
    simp only [pParts] at h
    split at h
    · cases h
    · rename_i x r1 hx
      obtain ⟨r1', k1, k2⟩ := hf _ _ _ _ hx hs
      split at h
      · cases h
      · rename_i ys z hy
        obtain ⟨z', k3, k4⟩ := parts_same hf hy k2
        injection h with h
        injection h with h3 h
        subst h h3
        exact ⟨z', by simp only [pParts, k1, k3], k4⟩
theorem expr_same (e e' : Int) (q : List TD) : ∀ (R : Nat) (l : List TD) (x : XD) (r l' : List TD), pExpr e R l = .ok (x, r) → sameT l l' → ∃ r', pExpr e' R (l' ++ q) = .ok (x, r' ++ q) ∧ sameT r r'
  | 0, l, x, r, l', h, hs => by cases h
  | R + 1, l, x, r, l', h, hs => by
    obtain ⟨op, k, n, xs, l1, l2, l3, l4, rfl, h1, h2, h3, h4, h5⟩ := expr_ok h
    obtain ⟨m1, a1, b1⟩ := want_same (e' := e') (q := q) h1 hs
    obtain ⟨m2, a2, b2⟩ := pick_same (e' := e') (q := q) b1 h2
    obtain ⟨m3, a3, b3⟩ := arg_same (e' := e') (q := q) h3 b2
    obtain ⟨m4, a4, b4⟩ := parts_same (q := q) (fun l x r l' => expr_same e e' q R l x r l') h4 b3
    obtain ⟨m5, a5, b5⟩ := want_same (e' := e') (q := q) h5 b4
    refine ⟨m5, ?_, b5⟩
    have a2' : pPick e' 21 wordX (m1 ++ q) = .ok (op, m2 ++ q) := a2
    simp only [pExpr, a1, a2', a3, a4, a5]
theorem pMod_same {e e' : Int} {q : List TD} : ∀ {N : Nat} {l l' : List TD} {xs : List XD}, l.length ≤ N → pMod e N l = .ok xs → sameT l l' → ∀ {N' : Nat}, (l' ++ q).length ≤ N' → pMod e' N' (l' ++ q) = match pMod e' q.length q with
    | .error f => .error f
    | .ok ys => .ok (xs ++ ys)
  | _, [], l', xs, _, h, hs, N', hN => by
    simp only [pMod] at h
    injection h with h
    subst h
    have : l' = [] := List.length_eq_zero_iff.1 (by have := congrArg List.length hs; simpa using this)
    subst this
    rw [List.nil_append] at hN ⊢
    rw [mod_room (N := N') (N' := q.length) hN (Nat.le_refl _)]
    cases pMod e' q.length q <;> rfl
  | 0, t :: l, l', xs, hl, h, hs, N', hN => by simp at hl
  | N + 1, t :: l, l', xs, hl, h, hs, N', hN => by
    obtain ⟨t', r', rfl, _⟩ := same_cons hs
    simp only [pMod] at h
    split at h
    · cases h
    · rename_i l1 hw
      have a1 := is_len (want_ok hw)
      split at h
      · cases h
      · rename_i x r hx
        have a2 := expr_len e 31 l1 x r hx
        split at h
        · cases h
        · rename_i ys hy
          injection h with h
          subst h
          obtain ⟨m1, c1, b1⟩ := want_same (e' := e') (q := q) hw hs
          obtain ⟨m2, c2, b2⟩ := expr_same e e' q 31 l1 x r m1 hx b1
          obtain ⟨N', rfl⟩ : ∃ n, N' = n + 1 := ⟨N' - 1, by simp at hN; omega⟩
          have d1 := is_len (want_ok c1)
          have d2 := expr_len e' 31 _ _ _ c2
          have ih := pMod_same (e' := e') (q := q) (by simp at hl a1; omega) hy b2 (N' := N') (by omega)
          rw [List.cons_append] at c1 ⊢
          simp only [pMod, c1, c2, ih]
          cases pMod e' q.length q <;> rfl

/-! ### one text behind another -/
theorem takeWhile_more {f : UInt8 → Bool} {c : UInt8} (hc : f c = false) (b : List UInt8) : ∀ l : List UInt8, (l ++ c :: b).takeWhile f = l.takeWhile f
  | [] => by simp [List.takeWhile_cons, hc]
  | x :: l => by
    rw [List.cons_append, List.takeWhile_cons, List.takeWhile_cons, takeWhile_more hc b l]
theorem one_more {a : Nat} {c : UInt8} {r b : List UInt8} : oneD a ((c :: r) ++ 10 :: b) = oneD a (c :: r) := by
  simp only [List.cons_append, oneD]
  rw [takeWhile_more (f := letB) (by decide), takeWhile_more (f := digB) (by decide)]
theorem scan_more (b : List UInt8) : ∀ (N p : Nat) (l : List UInt8), l.length ≤ N → ∀ ts, scanD 0 p l = .inl ts → scanD 0 p (l ++ 10 :: b) = match scanD 0 (p + l.length + 1) b with
    | .inl us => .inl (ts ++ us)
    | .inr e => .inr e
  | _, p, [], _, ts, h => by
    rw [scanD_nil] at h
    injection h with h
    subst h
    rw [List.nil_append, scanD_blank (by decide)]
    simp only [List.length_nil, Nat.add_zero, List.nil_append]
    cases scanD 0 (p + 1) b <;> rfl
  | 0, p, c :: r, hN, ts, h => by simp at hN
  | N + 1, p, c :: r, hN, ts, h => by
    cases hb : blankB c with
    | true =>
      rw [scanD_blank hb] at h
      rw [List.cons_append, scanD_blank hb, scan_more b N (p + 1) r (by simp at hN; omega) ts h]
      rw [show p + 1 + r.length + 1 = p + (c :: r).length + 1 by simp; omega]
    | false =>
      cases ho : oneD p (c :: r) with
      | none =>
        rw [scanD_none hb ho] at h
        cases h
      | some t =>
        rw [scanD_one hb ho] at h
        obtain ⟨o1, o2, o3⟩ := one_text ho
        have hlen : t.text.length ≤ (c :: r).length := by
          rw [o3, List.length_take]
          omega
        have hd : ((c :: r).drop t.text.length).length = (c :: r).length - t.text.length := List.length_drop
        have ho2 := one_more (a := p) (c := c) (r := r) (b := b)
        rw [ho] at ho2
        cases hs : scanD 0 (p + t.text.length) ((c :: r).drop t.text.length) with
        | inr e =>
          rw [hs] at h
          cases h
        | inl l =>
          rw [hs] at h
          injection h with h
          subst h
          have ih := scan_more b N _ _ (by rw [hd]; simp at hN ⊢; omega) l hs
          rw [show c :: r ++ 10 :: b = c :: (r ++ 10 :: b) from rfl] at ho2 ⊢
          rw [scanD_one hb ho2]
          rw [← List.cons_append, List.drop_append_of_le_length hlen, ih, hd, show p + t.text.length + ((c :: r).length - t.text.length) + 1 = p + (c :: r).length + 1 by omega]
          cases scanD 0 (p + (c :: r).length + 1) b <;> rfl
theorem one_shift {a k : Nat} : ∀ (l : List UInt8), oneD (a + k) l = (oneD a l).map fun t => { t with at' := t.at' + k }
  | [] => rfl
  | c :: r => by
    simp only [oneD]
    split
    · rfl
    · split
      · rfl
      · split
        · cases longD (c :: r.takeWhile digB) <;> rfl
        · rfl
theorem scan_shift (k : Nat) : ∀ (N p : Nat) (l : List UInt8), l.length ≤ N → ∀ ts, scanD 0 p l = .inl ts → scanD 0 (p + k) l = .inl (ts.map fun t => { t with at' := t.at' + k })
  | _, p, [], _, ts, h => by
    rw [scanD_nil] at h ⊢
    injection h with h
    subst h
    rfl
  | 0, p, c :: r, hN, ts, h => by simp at hN
  | N + 1, p, c :: r, hN, ts, h => by
    cases hb : blankB c with
    | true =>
      rw [scanD_blank hb] at h ⊢
      rw [← scan_shift k N (p + 1) r (by simp at hN; omega) ts h]
      congr 1
      omega
    | false =>
      have os := one_shift (a := p) (k := k) (c :: r)
      cases ho : oneD p (c :: r) with
      | none =>
        rw [scanD_none hb ho] at h
        cases h
      | some t =>
        rw [ho] at os
        rw [scanD_one hb ho] at h
        obtain ⟨o1, o2, o3⟩ := one_text ho
        have hlen : t.text.length ≤ (c :: r).length := by
          rw [o3, List.length_take]
          omega
        have hd : ((c :: r).drop t.text.length).length = (c :: r).length - t.text.length := List.length_drop
        cases hs : scanD 0 (p + t.text.length) ((c :: r).drop t.text.length) with
        | inr e =>
          rw [hs] at h
          cases h
        | inl l =>
          rw [hs] at h
          injection h with h
          subst h
          have ih := scan_shift k N _ _ (by rw [hd]; simp at hN ⊢; omega) l hs
          rw [scanD_one hb os]
          simp only
          rw [show p + k + t.text.length = p + t.text.length + k by omega, ih]
          rfl
end Go.Proofs.YtngphebjmmencaaDoor
namespace Go.Proofs.YtngphebjmmencaaDoor
set_option linter.unusedSimpArgs false
set_option linter.unusedVariables false
open Go Go.Lib

theorem mod_nz {e : Int} : ∀ {N : Nat} {l : List TD} {f : Int × Int}, pMod e N l = .error f → f.1 ≠ 0
  | _, [], f, h => by simp only [pMod] at h; cases h
  | 0, t :: l, f, h => by simp only [pMod] at h; cases h
  | N + 1, t :: l, f, h => by
    simp only [pMod] at h
    split at h
    · rename_i g hg
      rw [← Except.error.inj h]
      exact want_nz hg
    · split at h
      · rename_i g hg
        rw [← Except.error.inj h]
        exact expr_nz _ _ _ _ hg
      · split at h
        · rename_i g hg
          rw [← Except.error.inj h]
          exact mod_nz hg
        · cases h
theorem parse_yes {s : List UInt8} (h : (parseR s).2.1 = 0) : ¬ 6000 < s.length ∧ ∃ ts, scanD 0 0 s = .inl ts ∧ pMod s.length ts.length ts = .ok (parseR s).1 ∧ (checkX (parseR s).1).1 = 0 ∧ parseR s = ((parseR s).1, (0, 0)) := by
  unfold parseR at h ⊢
  by_cases hs : (scanR s).2.1 = 0
  · rw [if_neg (by simpa using hs)] at h ⊢
    have h6 : ¬ 6000 < s.length := by
      intro h6
      rw [scanR, if_pos h6] at hs
      cases hs
    refine ⟨h6, ?_⟩
    cases hd : scanD 0 0 s with
    | inr e =>
      rw [scanR, if_neg h6, hd] at hs
      cases hs
    | inl ts =>
      have he : scanR s = (ts, (0, 0)) := by rw [scanR, if_neg h6, hd]
      rw [he] at h ⊢
      simp only at h ⊢
      cases hm : pMod s.length ts.length ts with
      | error f =>
        rw [hm] at h
        simp only at h
        exfalso
        exact mod_nz hm h
      | ok L =>
        rw [hm] at h
        simp only at h ⊢
        by_cases hck : (checkX L).1 = 0
        · rw [if_neg (by simpa using hck)]
          exact ⟨ts, rfl, hm, hck, rfl⟩
        · rw [if_pos (by simpa using hck)] at h
          exact absurd h hck
  · rw [if_pos (by simpa using hs)] at h
    exact absurd h hs
/-- ONE TEXT BEHIND ANOTHER -/
theorem parse_joins {a b : List UInt8} (hl : a.length + b.length ≤ 5900) (ha : (parseR a).2.1 = 0) (hb : (parseR b).2.1 = 0) :
    parseR (a ++ 10 :: b) = if (checkX ((parseR a).1 ++ (parseR b).1)).1 ≠ 0 then ([], checkX ((parseR a).1 ++ (parseR b).1)) else ((parseR a).1 ++ (parseR b).1, (0, 0)) := by
  obtain ⟨_, ta, a1, a2, _, _⟩ := parse_yes ha
  obtain ⟨_, tb, b1, b2, _, _⟩ := parse_yes hb
  generalize (parseR a).1 = A at a2 ⊢
  generalize (parseR b).1 = B at b2 ⊢
  have hs := scan_more b a.length 0 a (Nat.le_refl _) ta a1
  have hsh := scan_shift (0 + a.length + 1) b.length 0 b (Nat.le_refl _) tb b1
  rw [Nat.zero_add (0 + a.length + 1)] at hsh
  rw [hsh] at hs
  simp only at hs
  have hlen : (a ++ 10 :: b).length = a.length + b.length + 1 := by simp; omega
  have hsc : scanR (a ++ 10 :: b) = (ta ++ tb.map fun t => { t with at' := t.at' + (0 + a.length + 1) }, (0, 0)) := by rw [scanR, if_neg (by omega), hs]
  have same_b : sameT tb (tb.map fun t => { t with at' := t.at' + (0 + a.length + 1) }) := by
    simp only [sameT, List.map_map]
    rfl
  generalize (tb.map fun t => ({ t with at' := t.at' + (0 + a.length + 1) } : TD)) = tb' at hsc same_b
  have m1 := pMod_same (e' := ((a ++ 10 :: b).length : Int)) (q := tb') (Nat.le_refl _) a2 (show sameT ta ta from rfl) (N' := (ta ++ tb').length) (Nat.le_refl _)
  have m2 := pMod_same (e' := ((a ++ 10 :: b).length : Int)) (q := []) (Nat.le_refl _) b2 same_b (N' := tb'.length) (by simp)
  simp only [List.append_nil, List.length_nil, pMod] at m2
  rw [m2] at m1
  simp only at m1
  unfold parseR
  rw [hsc]
  simp only [m1]
  rw [if_neg (by simp)]
/-- HOW IT IS LAID OUT DOES NOT MATTER -/
theorem parse_same {s t : List UInt8} {ts us : List TD} (hs : scanD 0 0 s = .inl ts) (ht : scanD 0 0 t = .inl us) (hl : ¬ 6000 < t.length) (he : sameT ts us) (h : (parseR s).2.1 = 0) : parseR t = parseR s := by
  obtain ⟨_, ts', a1, a2, a3, a4⟩ := parse_yes h
  rw [hs] at a1
  injection a1 with a1
  subst a1
  have m2 := pMod_same (e' := (t.length : Int)) (q := []) (Nat.le_refl _) a2 he (N' := us.length) (by simp)
  simp only [List.append_nil, List.length_nil, pMod] at m2
  have hsc : scanR t = (us, (0, 0)) := by rw [scanR, if_neg hl, ht]
  rw [a4]
  generalize (parseR s).1 = A at m2 a3 ⊢
  unfold parseR
  rw [hsc]
  simp only [m2]
  rw [if_neg (by simp), if_neg (by simpa using a3)]
end Go.Proofs.YtngphebjmmencaaDoor
namespace Go.Proofs.YtngphebjmmencaaDoor
set_option linter.unusedSimpArgs false
set_option linter.unusedVariables false
open Go

mutual
theorem rowX_ex : ∀ x : XD, ExA x (rowX x)
  | .mk op k n l => by
    simp only [ExA, rowX]
    exact ⟨_, rowsX l, rfl, lst_sla _ _, rowsX_ex l⟩
theorem rowsX_ex : ∀ l : List XD, ExL l (rowsX l)
  | [] => rfl
  | x :: l => by
    simp only [ExL, rowsX]
    exact ⟨_, _, rfl, rowX_ex x, rowsX_ex l⟩
end
theorem parseR_size (s : List UInt8) : sizesX (parseR s).1 ≤ 6000 := by
  obtain ⟨hl1, hl2⟩ := scan_lens s
  unfold parseR
  split
  · exact Nat.zero_le _
  · split
    · exact Nat.zero_le _
    · rename_i L hm
      have := mod_size hm
      split
      · exact Nat.zero_le _
      · exact Nat.le_trans this hl2
abbrev modL (L : List XD) : AV := lstA tE (rowsX L)
theorem modL_mod (h : AH) (L : List XD) : ModV h (modL L) L := ModV.of (lst_sla _ _) (rowsX_ex L)

theorem long1 : longD [49] = some 1 := by
  have : Lib.parseIntB 64 [49] = .ok 1 := by decide +kernel
  simp [longD, this, Lib.itoa, Lib.decDigits]
abbrev begT : List UInt8 := [102, 117, 110, 32, 40, 98, 105, 110, 32, 97, 100, 100, 32, 40, 110, 117, 109, 32, 49, 41, 32, 40, 97, 114, 103, 41, 41]
abbrev begL : List TD := [⟨0, [102, 117, 110], false, 0⟩, ⟨4, [40], false, 0⟩, ⟨5, [98, 105, 110], false, 0⟩, ⟨9, [97, 100, 100], false, 0⟩, ⟨13, [40], false, 0⟩, ⟨14, [110, 117, 109], false, 0⟩, ⟨18, [49], true, 1⟩, ⟨19, [41], false, 0⟩, ⟨21, [40], false, 0⟩, ⟨22, [97, 114, 103], false, 0⟩, ⟨25, [41], false, 0⟩, ⟨26, [41], false, 0⟩]
abbrev begX : List XD := [.mk 6 1 0 [.mk 2 0 1 [], .mk 3 0 0 []]]
theorem beg_scan : scanR begT = (begL, (0, 0)) := by
  refine scan_out (by decide) ?_
  simp [scanD, oneD, blankB, letB, digB, long1]
theorem beg_mod : pMod 27 12 begL = .ok begX := by kernel_rfl
theorem beg_parse : parseR begT = (begX, (0, 0)) := by
  unfold parseR
  rw [beg_scan]
  show (if (0 : Int) ≠ 0 then _ else match pMod 27 12 begL with | .error f => ([], f) | .ok L => if (checkX L).1 ≠ 0 then ([], checkX L) else (L, (0, 0))) = _
  rw [beg_mod, if_neg (by decide)]
  simp only
  rw [if_neg (by decide)]
section
variable {h : AH}
theorem set2 {H : AH} {a b y : List (List AV)} : ((H.push a).push b).set H.n (some y) = (H.push y).push b := by
  simp only [AH.set, AH.push, AH.mk.injEq, and_true, true_and]
  funext k
  by_cases h1 : k = H.n
  · subst h1
    simp
  · simp [h1]
theorem parseBegun_run : runF Tryd.prog po 12 [] h = some (.inl (.bool true), h) := by
  have c1 : ∀ h, runF Tryd.prog po 13 [.str [102, 117, 110, 32, 40, 98, 105, 110, 32, 97, 100, 100, 32, 40, 110, 117, 109, 32, 49, 41, 32, 40, 97, 114, 103, 41, 41]] h = some (.inl (.tup [.agg [.isl none tE [[.int .i64 6, .int .i64 1, .int .i64 0, .isl none tE [[.int .i64 2, .int .i64 0, .int .i64 1, .nils], [.int .i64 3, .int .i64 0, .int .i64 0, .nils]]]]], .agg [.int .i64 0, .int .i64 0]]), h) := fun h => by
    have := Parse_run (h := h) begT
    rw [beg_parse] at this
    exact this
  have i0 : ixaR (some tE) none (.isl none tE [[.int .i64 6, .int .i64 1, .int .i64 0, .isl none tE [[.int .i64 2, .int .i64 0, .int .i64 1, .nils], [.int .i64 3, .int .i64 0, .int .i64 0, .nils]]]]) (.int .i64 0) = some (.ip [.int .i64 6, .int .i64 1, .int .i64 0, .isl none tE [[.int .i64 2, .int .i64 0, .int .i64 1, .nils], [.int .i64 3, .int .i64 0, .int .i64 0, .nils]]] 0) := rfl
  have w1 := fun h => pWord_run (h := h) 21
  have w2 := fun h => pBin_run (h := h) 0
  rw [show wordX 21 = [107, 101, 112, 116] by decide] at w1
  rw [show binX 0 = [] by decide] at w2
  refine runF_E fn_parseBegun rfl fun Q hQ => ?_; unfold rc_parseBegun
  simp only [sim, simB, Nat.reduceAdd, Nat.reduceSub, List.replicate, reduceCtorEq, Nat.reduceLeDiff, Nat.reduceLT, clearA, c1, set2, i0, w1, w2, Int.reduceEq, Int.natCast_one, Int.cast_ofNat_Int, eq_self]
  exact hQ _ _ _ rfl (by repeat (first | exact GrewA.refl _ | refine GrewA.trans ?_ (GrewA.push _ _) | refine GrewA.trans ?_ (GrewA.fresh _ _))) rfl
theorem ParseReads_run (s : List UInt8) (k : Int) : runF Tryd.prog po 5 [.str s, .int .i64 k] h = some (.inl (.bool true), h) := by
  have vb := fun h => parseBegun_run (h := h)
  by_cases h9 : 9000 < s.length
  · have h9' : (9000 : Int) < (s.length : Int) := by omega
    refine runF_E fn_ParseReads rfl fun Q hQ => ?_; unfold rc_ParseReads
    simp only [sim, simB, Nat.reduceAdd, Nat.reduceSub, List.replicate, reduceCtorEq, Nat.reduceLeDiff, Nat.reduceLT, clearA, vb, h9']
    exact hQ _ _ _ rfl (GrewA.refl _) rfl
  · have h9' : ¬ (9000 : Int) < (s.length : Int) := by omega
    have e1 : ∀ h, runF Tryd.prog po 13 [.str s] h = some (.inl (.tup [.agg [modL (parseR s).1], fltT (parseR s).2]), h) := fun h => Parse_run (h := h) s
    have e2 : ∀ h, ∃ v, runF Tryd.prog po 14 [.str s] h = some (.inl (.tup [.agg [v], fltT (parseR s).2]), h) ∧ ∀ h, ModV h v (parseR s).1 := fun h => by
      obtain ⟨v', e, v, rows, rfl, sl, xl⟩ := rParse_run (h := h) s
      exact ⟨v, e, fun h => ModV.of sl xl⟩
    have sz := parseR_size s
    have sl := sizes_len (parseR s).1
    have ms : ∀ x ∈ (parseR s).1, x.size ≤ 100000 := fun x hx => by have := sizes_mem hx; omega
    have e1m : ∀ h, ModV h (modL (parseR s).1) (parseR s).1 := fun h => modL_mod h _
    have o1 : (modL (parseR s).1).one = true := (lst_facts _ _).1
    generalize modL (parseR s).1 = v1 at e1 e1m o1
    generalize parseR s = R at *
    obtain ⟨L, f1, f2⟩ := R
    simp only at e1 e2 e1m sz sl ms
    have oc1 : v1.cells = [v1] := by cases v1 <;> first | rfl | cases o1
    have w1 := fun h => pWord_run (h := h) k
    have w2 := fun h => WordOf_run (h := h) k
    have w3 := fun h => pBin_run (h := h) k
    have w4 := fun h => BinOf_run (h := h) k
    refine runF_E fn_ParseReads rfl fun Q hQ => ?_; unfold rc_ParseReads
    simp only [sim, simB, Nat.reduceAdd, Nat.reduceSub, List.replicate, reduceCtorEq, Nat.reduceLeDiff, Nat.reduceLT, clearA, vb, h9', e1, o1, oc1, set2]
    have gH : GrewA h ((h.push [[v1]]).push [[.int .i64 f1, .int .i64 f2]]) := (by repeat (first | exact GrewA.refl _ | refine GrewA.trans ?_ (GrewA.push _ _) | refine GrewA.trans ?_ (GrewA.fresh _ _)))
    have k0 : ((h.push [[v1]]).push [[.int .i64 f1, .int .i64 f2]]).cell h.n = some [[v1]] := push2_old
    have k1 : ((h.push [[v1]]).push [[.int .i64 f1, .int .i64 f2]]).cell (h.n + 1) = some [[.int .i64 f1, .int .i64 f2]] := push2_same
    have nH : ((h.push [[v1]]).push [[.int .i64 f1, .int .i64 f2]]).n = h.n + 2 := rfl
    generalize (h.push [[v1]]).push [[.int .i64 f1, .int .i64 f2]] = H at gH k0 k1 nH ⊢
    obtain ⟨v2, r2, m2⟩ := e2 H
    have oo2 := (m2 h).one
    have oc2 : v2.cells = [v2] := by cases v2 <;> first | rfl | cases oo2
    have sm := fun h => SameModule_run (h := h) v1 v2 L L e1m m2 (by omega) ms
    rw [sameXs_refl] at sm
    have q0 : ∀ a b, ((H.push a).push b).cell h.n = some [[v1]] := fun a b => (push_lt (by rw [push_n]; omega)).trans ((push_lt (by omega)).trans k0)
    have q1 : ∀ a b, ((H.push a).push b).cell (h.n + 1) = some [[.int .i64 f1, .int .i64 f2]] := fun a b => (push_lt (by rw [push_n]; omega)).trans ((push_lt (by omega)).trans k1)
    simp only [sim, simB, Nat.reduceAdd, Nat.reduceSub, List.replicate, reduceCtorEq, Nat.reduceLeDiff, Nat.reduceLT, clearA, r2, oo2, oc2, set2, q0, q1, fault_eql, eq_self, sm, w1, w2, w3, w4, ld_all]
    exact hQ _ _ _ rfl ((gH.trans (GrewA.push _ _)).trans (GrewA.push _ _)) rfl
theorem firstX_zero (nf : Int) : ∀ (i : Nat) (l : List XD), (firstX nf i l).1 = 0 → (firstX nf i l).2 = 0
  | i, [], h => rfl
  | i, x :: l, h => by
    rw [firstX] at h ⊢
    split at h
    · rename_i hz
      exact absurd h hz
    · rename_i hz
      rw [if_neg hz]
      exact firstX_zero nf (i + 1) l h
theorem checkX_zero {l : List XD} (h : (checkX l).1 = 0) : (checkX l).2 = 0 := by
  unfold checkX at h ⊢
  split
  · rename_i hh
    rw [if_pos hh] at h
    cases h
  · rename_i hh
    rw [if_neg hh] at h
    exact firstX_zero _ _ _ h
theorem rowsX_append : ∀ (l l' : List XD), rowsX (l ++ l') = rowsX l ++ rowsX l'
  | [], l' => rfl
  | x :: l, l' => by simp only [List.cons_append, rowsX, rowsX_append l l']
theorem sizesX_cat (l l' : List XD) : sizesX (l ++ l') = sizesX l + sizesX l' := sizesX_append l l'
theorem rowX_one (L : List XD) : ∀ r ∈ rowsX L, r.all AV.one = true := by
  intro r hr
  obtain ⟨i, hi, rfl⟩ := List.getElem_of_mem hr
  have hl := rowsX_len L
  obtain ⟨q, h1, h2⟩ := (rowsX_ex L).get (i := i) (x := L[i]) (by simp)
  rw [List.getElem?_eq_getElem hi] at h1
  injection h1 with h1
  subst h1
  exact h2.one.1
theorem modL_facts (L : List XD) : (modL L).one = true ∧ (modL L).cells = [modL L] := lst_facts _ _
set_option maxHeartbeats 1000000 in
theorem ParseJoins_run (a b : List UInt8) : runF Tryd.prog po 6 [.str a, .str b] h = some (.inl (.bool true), h) := by
  have vb := fun h => parseBegun_run (h := h)
  have wi' : a.length ≤ 6000 → b.length ≤ 6000 → IntKind.wrap .i64 ((a.length : Int) + (b.length : Int)) = ((a.length + b.length : Nat) : Int) := fun ha hb => w64' (by omega) (by omega) (by omega)
  obtain ⟨wv, wi⟩ : ∃ wv, IntKind.wrap .i64 ((a.length : Int) + (b.length : Int)) = wv := ⟨_, rfl⟩
  rw [wi] at wi'
  by_cases h9' : (5900 : Int) < wv
  · refine runF_E fn_ParseJoins rfl fun Q hQ => ?_; unfold rc_ParseJoins
    simp only [sim, simB, Nat.reduceAdd, Nat.reduceSub, List.replicate, reduceCtorEq, Nat.reduceLeDiff, Nat.reduceLT, clearA, vb, wi, h9']
    exact hQ _ _ _ rfl (GrewA.refl _) rfl
  · have ea : ∀ h, runF Tryd.prog po 13 [.str a] h = some (.inl (.tup [.agg [modL (parseR a).1], fltT (parseR a).2]), h) := fun h => Parse_run (h := h) a
    have eb : ∀ h, runF Tryd.prog po 13 [.str b] h = some (.inl (.tup [.agg [modL (parseR b).1], fltT (parseR b).2]), h) := fun h => Parse_run (h := h) b
    have ec : ∀ h, runF Tryd.prog po 13 [.str (a ++ 10 :: b)] h = some (.inl (.tup [.agg [modL (parseR (a ++ 10 :: b)).1], fltT (parseR (a ++ 10 :: b)).2]), h) := fun h => Parse_run (h := h) _
    have hj : (parseR a).2.1 = 0 → (parseR b).2.1 = 0 → parseR (a ++ 10 :: b) = if (checkX ((parseR a).1 ++ (parseR b).1)).1 ≠ 0 then ([], checkX ((parseR a).1 ++ (parseR b).1)) else ((parseR a).1 ++ (parseR b).1, (0, 0)) := fun z1 z2 => by
      have y1 := (parse_yes z1).1
      have y2 := (parse_yes z2).1
      have := wi' (by omega) (by omega)
      exact parse_joins (by omega) z1 z2
    have hs12 : (parseR a).2.1 = 0 → (parseR b).2.1 = 0 → a.length ≤ 6000 ∧ b.length ≤ 6000 := fun z1 z2 => ⟨by have := (parse_yes z1).1; omega, by have := (parse_yes z2).1; omega⟩
    have sa := parseR_size a
    have sb := parseR_size b
    obtain ⟨oa, oc⟩ := modL_facts (parseR a).1
    obtain ⟨ob, od⟩ := modL_facts (parseR b).1
    generalize parseR (a ++ 10 :: b) = C at ec hj
    generalize parseR a = A at *
    generalize parseR b = B at *
    obtain ⟨A, fa⟩ := A
    obtain ⟨B, fb⟩ := B
    obtain ⟨C, fc⟩ := C
    simp only at ea eb ec hj hs12 sa sb oa oc ob od
    by_cases z1 : fa.1 = 0
    · have d1 : decide (fa.1 = 0) = true := decide_eq_true z1
      by_cases z2 : fb.1 = 0
      · have d2 : decide (fb.1 = 0) = true := decide_eq_true z2
        have hj := hj z1 z2
        obtain ⟨hsa, hsb⟩ := hs12 z1 z2
        have s1 : binA .str .add (.str a) (.str [10]) = some (.str (a ++ [10])) := s_add rfl (by simp; omega)
        have s2 : binA .str .add (.str (a ++ [10])) (.str b) = some (.str (a ++ 10 :: b)) := s_add (by simp) (by simp; omega)
        obtain ⟨oe, of_⟩ := modL_facts C
        have mC : ∀ h, ModV h (modL C) C := fun h => modL_mod h _
        have la := lst_app tE (rowsX A)
        have lb := lst_app tE (rowsX B)
        have na := sizes_len A
        have nb := sizes_len B
        have hxa := rowX_one A
        have hxb := rowX_one B
        have ra := rowsX_len A
        have rb := rowsX_len B
        change (modL A = .nils ∧ rowsX A = []) ∨ ∃ id, modL A = .isl id tE (rowsX A) at la
        change (modL B = .nils ∧ rowsX B = []) ∨ ∃ id, modL B = .isl id tE (rowsX B) at lb
        generalize modL A = va at ea oa oc la
        generalize modL B = vb2 at eb ob od lb
        generalize modL C = vc at ec oe of_ mC
        generalize a ++ 10 :: b = ab at ec s2
        refine runF_E fn_ParseJoins rfl fun Q hQ => ?_; unfold rc_ParseJoins
        simp only [sim, simB, Nat.reduceAdd, Nat.reduceSub, List.replicate, reduceCtorEq, Nat.reduceLeDiff, Nat.reduceLT, clearA, vb, wi, h9', ea, oa, oc, set2]
        have gH : GrewA h ((h.push [[va]]).push [[.int .i64 fa.1, .int .i64 fa.2]]) := (by repeat (first | exact GrewA.refl _ | refine GrewA.trans ?_ (GrewA.push _ _) | refine GrewA.trans ?_ (GrewA.fresh _ _)))
        have k0 : ((h.push [[va]]).push [[.int .i64 fa.1, .int .i64 fa.2]]).cell h.n = some [[va]] := push2_old
        have k1 : ((h.push [[va]]).push [[.int .i64 fa.1, .int .i64 fa.2]]).cell (h.n + 1) = some [[.int .i64 fa.1, .int .i64 fa.2]] := push2_same
        have nH : ((h.push [[va]]).push [[.int .i64 fa.1, .int .i64 fa.2]]).n = h.n + 2 := rfl
        generalize (h.push [[va]]).push [[.int .i64 fa.1, .int .i64 fa.2]] = H at gH k0 k1 nH ⊢
        simp only [sim, simB, Nat.reduceAdd, Nat.reduceSub, List.replicate, reduceCtorEq, Nat.reduceLeDiff, Nat.reduceLT, clearA, eb, ob, od, set2]
        have gI : GrewA h ((H.push [[vb2]]).push [[.int .i64 fb.1, .int .i64 fb.2]]) := (gH.trans (GrewA.push _ _)).trans (GrewA.push _ _)
        have i0 : ((H.push [[vb2]]).push [[.int .i64 fb.1, .int .i64 fb.2]]).cell h.n = some [[va]] := (push_lt (by rw [push_n]; omega)).trans ((push_lt (by omega)).trans k0)
        have i1 : ((H.push [[vb2]]).push [[.int .i64 fb.1, .int .i64 fb.2]]).cell (h.n + 1) = some [[.int .i64 fa.1, .int .i64 fa.2]] := (push_lt (by rw [push_n]; omega)).trans ((push_lt (by omega)).trans k1)
        have i2 : ((H.push [[vb2]]).push [[.int .i64 fb.1, .int .i64 fb.2]]).cell H.n = some [[vb2]] := push2_old
        have i3 : ((H.push [[vb2]]).push [[.int .i64 fb.1, .int .i64 fb.2]]).cell (H.n + 1) = some [[.int .i64 fb.1, .int .i64 fb.2]] := push2_same
        have nI : ((H.push [[vb2]]).push [[.int .i64 fb.1, .int .i64 fb.2]]).n = H.n + 2 := rfl
        generalize (H.push [[vb2]]).push [[.int .i64 fb.1, .int .i64 fb.2]] = I at gI i0 i1 i2 i3 nI ⊢
        simp only [sim, simB, Nat.reduceAdd, Nat.reduceSub, List.replicate, reduceCtorEq, Nat.reduceLeDiff, Nat.reduceLT, clearA, i0, i1, i2, i3, d1, d2, s1, s2, ec, oe, of_, set2]
        have gJ : GrewA h (((I.push [[vc]]).push [[.int .i64 fc.1, .int .i64 fc.2]]).push [[.nils]]) := ((gI.trans (GrewA.push _ _)).trans (GrewA.push _ _)).trans (GrewA.push _ _)
        have up : ∀ q r, q < I.n → I.cell q = r → (((I.push [[vc]]).push [[.int .i64 fc.1, .int .i64 fc.2]]).push [[.nils]]).cell q = r := fun q r hq hr => (push_lt (by simp only [push_n]; omega)).trans ((push_lt (by simp only [push_n]; omega)).trans ((push_lt hq).trans hr))
        have j0 := up _ _ (by omega) i0
        have j2 := up _ _ (by omega) i2
        have j4 : (((I.push [[vc]]).push [[.int .i64 fc.1, .int .i64 fc.2]]).push [[.nils]]).cell I.n = some [[vc]] := push3_0
        have j5 : (((I.push [[vc]]).push [[.int .i64 fc.1, .int .i64 fc.2]]).push [[.nils]]).cell (I.n + 1) = some [[.int .i64 fc.1, .int .i64 fc.2]] := push3_1
        have j6 : (((I.push [[vc]]).push [[.int .i64 fc.1, .int .i64 fc.2]]).push [[.nils]]).cell (I.n + 1 + 1) = some [[.nils]] := push3_same
        have nJ : (((I.push [[vc]]).push [[.int .i64 fc.1, .int .i64 fc.2]]).push [[.nils]]).n = I.n + 3 := rfl
        generalize ((I.push [[vc]]).push [[.int .i64 fc.1, .int .i64 fc.2]]).push [[.nils]] = J at gJ j0 j2 j4 j5 j6 nJ ⊢
        clear up
        obtain ⟨v3, J1, e3, a3, g3, c3, n3⟩ := acc_apps (acc_nil J J tE) (GrewA.refl J) (x := va) la hxa (by simp) (by omega)
        obtain ⟨v4, J2, e4, a4, g4, c4, n4⟩ := acc_apps a3 g3 (x := vb2) lb hxb (by simp only [List.nil_append]; omega) (by omega)
        simp only [List.nil_append] at a4
        rw [← rowsX_append] at a4
        have k2 : J1.cell H.n = some [[vb2]] := by rw [c3]; exact j2
        have k6 : J2.cell (I.n + 1 + 1) = some [[.nils]] := by rw [c4, c3]; exact j6
        have m4 : ∀ h, ModV h v4 (A ++ B) := fun h => ModV.of a4.sla (rowsX_ex _)
        have cs := sizesX_cat A B
        have ms : ∀ x ∈ A ++ B, x.size ≤ 100000 := fun x hx => by have := sizes_mem hx; omega
        have hl4 : (A ++ B).length ≤ 100000 := by rw [List.length_append]; omega
        have cf := fun h => CodeFault_run (h := h) v4 (A ++ B) m4 hl4 ms
        have v4o := a4.one'
        have v4c := a4.cells'
        have gK : GrewA h (J2.set (I.n + 1 + 1) (some [[v4]])) := (gJ.trans g4).set (by omega)
        have l4 : (J2.set (I.n + 1 + 1) (some [[v4]])).cell I.n = some [[vc]] := (set_ne (by omega)).trans (by rw [c4, c3]; exact j4)
        have l5 : (J2.set (I.n + 1 + 1) (some [[v4]])).cell (I.n + 1) = some [[.int .i64 fc.1, .int .i64 fc.2]] := (set_ne (by omega)).trans (by rw [c4, c3]; exact j5)
        have l6 : (J2.set (I.n + 1 + 1) (some [[v4]])).cell (I.n + 1 + 1) = some [[v4]] := set_same
        have nK : (J2.set (I.n + 1 + 1) (some [[v4]])).n = I.n + 3 := by rw [set_n, n4, n3, nJ]
        simp only [sim, simB, Nat.reduceAdd, Nat.reduceSub, List.replicate, reduceCtorEq, Nat.reduceLeDiff, Nat.reduceLT, clearA, j0, j2, e3, k2, e4, k6, v4o, v4c]
        generalize J2.set (I.n + 1 + 1) (some [[v4]]) = K at gK l4 l5 l6 nK ⊢
        have q4 : ∀ x, (K.push x).cell I.n = some [[vc]] := fun x => (push_lt (by omega)).trans l4
        have q5 : ∀ x, (K.push x).cell (I.n + 1) = some [[.int .i64 fc.1, .int .i64 fc.2]] := fun x => (push_lt (by omega)).trans l5
        have q6 : ∀ x, (K.push x).cell (I.n + 1 + 1) = some [[v4]] := fun x => (push_lt (by omega)).trans l6
        by_cases hck : (checkX (A ++ B)).1 = 0
        · have dk : decide ((checkX (A ++ B)).1 = 0) = true := decide_eq_true hck
          rw [if_neg (by simpa using hck)] at hj
          simp only [Prod.mk.injEq] at hj
          obtain ⟨rfl, hfc⟩ := hj
          have hck2 : checkX (A ++ B) = checkX (A ++ B) := rfl
          have e2 : (checkX (A ++ B)).2 = 0 := checkX_zero hck
          have sm := fun h => SameModule_run (h := h) vc v4 (A ++ B) (A ++ B) mC m4 hl4 ms
          rw [sameXs_refl] at sm
          subst hfc
          rw [hck, e2] at cf
          simp only [sim, simB, Nat.reduceAdd, Nat.reduceSub, List.replicate, reduceCtorEq, Nat.reduceLeDiff, Nat.reduceLT, clearA, l6, cf, q4, q5, q6, fault_eql, eq_self, sm, ld_all]
          exact hQ _ _ _ rfl (gK.trans (GrewA.push _ _)) rfl
        · have dk : decide ((checkX (A ++ B)).1 = 0) = false := decide_eq_false hck
          rw [if_pos (by simpa using hck)] at hj
          simp only [Prod.mk.injEq] at hj
          obtain ⟨rfl, rfl⟩ := hj
          simp only [sim, simB, Nat.reduceAdd, Nat.reduceSub, List.replicate, reduceCtorEq, Nat.reduceLeDiff, Nat.reduceLT, clearA, l6, cf, q4, q5, q6, fault_eql, eq_self, dk, ld_all]
          exact hQ _ _ _ rfl (gK.trans (GrewA.push _ _)) rfl
      · have d2 : decide (fb.1 = 0) = false := decide_eq_false z2
        generalize modL A = va at ea oa oc
        generalize modL B = vb2 at eb ob od
        refine runF_E fn_ParseJoins rfl fun Q hQ => ?_; unfold rc_ParseJoins
        simp only [sim, simB, Nat.reduceAdd, Nat.reduceSub, List.replicate, reduceCtorEq, Nat.reduceLeDiff, Nat.reduceLT, clearA, vb, wi, h9', ea, oa, oc, set2]
        have gH : GrewA h ((h.push [[va]]).push [[.int .i64 fa.1, .int .i64 fa.2]]) := (by repeat (first | exact GrewA.refl _ | refine GrewA.trans ?_ (GrewA.push _ _) | refine GrewA.trans ?_ (GrewA.fresh _ _)))
        have k1 : ((h.push [[va]]).push [[.int .i64 fa.1, .int .i64 fa.2]]).cell (h.n + 1) = some [[.int .i64 fa.1, .int .i64 fa.2]] := push2_same
        have nH : ((h.push [[va]]).push [[.int .i64 fa.1, .int .i64 fa.2]]).n = h.n + 2 := rfl
        generalize (h.push [[va]]).push [[.int .i64 fa.1, .int .i64 fa.2]] = H at gH k1 nH ⊢
        have i1 : ∀ x y, ((H.push x).push y).cell (h.n + 1) = some [[.int .i64 fa.1, .int .i64 fa.2]] := fun x y => (push_lt (by rw [push_n]; omega)).trans ((push_lt (by omega)).trans k1)
        simp only [sim, simB, Nat.reduceAdd, Nat.reduceSub, List.replicate, reduceCtorEq, Nat.reduceLeDiff, Nat.reduceLT, clearA, eb, ob, od, set2, i1, d1, d2]
        exact hQ _ _ _ rfl ((gH.trans (GrewA.push _ _)).trans (GrewA.push _ _)) rfl
    · have d1 : decide (fa.1 = 0) = false := decide_eq_false z1
      generalize modL A = va at ea oa oc
      generalize modL B = vb2 at eb ob od
      refine runF_E fn_ParseJoins rfl fun Q hQ => ?_; unfold rc_ParseJoins
      simp only [sim, simB, Nat.reduceAdd, Nat.reduceSub, List.replicate, reduceCtorEq, Nat.reduceLeDiff, Nat.reduceLT, clearA, vb, wi, h9', ea, oa, oc, set2]
      have gH : GrewA h ((h.push [[va]]).push [[.int .i64 fa.1, .int .i64 fa.2]]) := (by repeat (first | exact GrewA.refl _ | refine GrewA.trans ?_ (GrewA.push _ _) | refine GrewA.trans ?_ (GrewA.fresh _ _)))
      have k1 : ((h.push [[va]]).push [[.int .i64 fa.1, .int .i64 fa.2]]).cell (h.n + 1) = some [[.int .i64 fa.1, .int .i64 fa.2]] := push2_same
      have nH : ((h.push [[va]]).push [[.int .i64 fa.1, .int .i64 fa.2]]).n = h.n + 2 := rfl
      generalize (h.push [[va]]).push [[.int .i64 fa.1, .int .i64 fa.2]] = H at gH k1 nH ⊢
      have i1 : ∀ x y, ((H.push x).push y).cell (h.n + 1) = some [[.int .i64 fa.1, .int .i64 fa.2]] := fun x y => (push_lt (by rw [push_n]; omega)).trans ((push_lt (by omega)).trans k1)
      simp only [sim, simB, Nat.reduceAdd, Nat.reduceSub, List.replicate, reduceCtorEq, Nat.reduceLeDiff, Nat.reduceLT, clearA, eb, ob, od, set2, i1, d1]
      exact hQ _ _ _ rfl ((gH.trans (GrewA.push _ _)).trans (GrewA.push _ _)) rfl
theorem parse_no {s : List UInt8} (h : (parseR s).2.1 ≠ 0) : (parseR s).1 = [] := by
  unfold parseR at h ⊢
  split
  · rfl
  · rename_i hs
    rw [if_neg hs] at h
    split
    · rfl
    · rename_i L hm
      rw [hm] at h
      split
      · rfl
      · rename_i hc
        simp only at h
        rw [if_neg hc] at h
        exact absurd rfl h
theorem tokT_get {sep : List UInt8} {L : List TD} {i : Nat} {y : TD} (hy : L[i]? = some y) : tokT sep (L.take (i + 1)) = tokT sep (L.take i) ++ (y.text ++ sep) := by
  rw [take_get hy, tokT_append]
  simp [tokT]
set_option maxHeartbeats 1000000 in
theorem ParseBlanks_run (s : List UInt8) : runF Tryd.prog po 7 [.str s] h = some (.inl (.bool true), h) := by
  have vb := fun h => parseBegun_run (h := h)
  by_cases h9 : 1900 < s.length
  · have h9' : (1900 : Int) < (s.length : Int) := by omega
    refine runF_E fn_ParseBlanks rfl fun Q hQ => ?_; unfold rc_ParseBlanks
    simp only [sim, simB, Nat.reduceAdd, Nat.reduceSub, List.replicate, reduceCtorEq, Nat.reduceLeDiff, Nat.reduceLT, clearA, vb, h9']
    exact hQ _ _ _ rfl (GrewA.refl _) rfl
  · have h9' : ¬ (1900 : Int) < (s.length : Int) := by omega
    have e1 : ∀ h, runF Tryd.prog po 13 [.str s] h = some (.inl (.tup [.agg [modL (parseR s).1], fltT (parseR s).2]), h) := fun h => Parse_run (h := h) s
    obtain ⟨o1, o2⟩ := modL_facts (parseR s).1
    by_cases z : (parseR s).2.1 = 0
    · have d1 : decide ((parseR s).2.1 = 0) = true := decide_eq_true z
      obtain ⟨h6, L, sL, mL, cL', pL⟩ := parse_yes z
      have e2 := fun h => rScan_run (h := h) s (by omega)
      rw [scan_out h6 sL] at e2
      simp only at e2
      obtain ⟨t1, t2⟩ := scan_ok _ 0 s (Nat.le_refl _) L sL
      have t3 := oks_len t1
      obtain ⟨U, u1, u2⟩ := scan_back (sep := [32, 10]) (by simp) (by decide) L 1 t1
      obtain ⟨W, w1, w2⟩ := scan_back (sep := [13]) (by simp) (by decide) L 0 t1
      have tl1 := tokT_len [32, 10] L
      have tl2 := tokT_len [13] L
      simp only [List.length_cons, List.length_nil] at tl1 tl2
      have pu := parse_same (t := 9 :: tokT [32, 10] L) sL (by rw [scanD_blank (by decide)]; exact u1) (by simp only [List.length_cons]; omega) u2 z
      have pw := parse_same (t := tokT [13] L) sL w1 (by omega) w2 z
      have e3 : ∀ h, runF Tryd.prog po 13 [.str (9 :: tokT [32, 10] L)] h = some (.inl (.tup [.agg [modL (parseR s).1], fltT (parseR s).2]), h) := fun h => by
        rw [← pu]
        exact Parse_run (h := h) _
      have e4 : ∀ h, runF Tryd.prog po 13 [.str (tokT [13] L)] h = some (.inl (.tup [.agg [modL (parseR s).1], fltT (parseR s).2]), h) := fun h => by
        rw [← pw]
        exact Parse_run (h := h) _
      have sz := parseR_size s
      have sl := sizes_len (parseR s).1
      have ms : ∀ x ∈ (parseR s).1, x.size ≤ 100000 := fun x hx => by have := sizes_mem hx; omega
      have sm := fun h => SameModule_run (h := h) (modL (parseR s).1) (modL (parseR s).1) (parseR s).1 (parseR s).1 (fun h => modL_mod h _) (fun h => modL_mod h _) (by omega) ms
      rw [sameXs_refl] at sm
      generalize modL (parseR s).1 = v1 at e1 e3 e4 o1 o2 sm
      generalize (parseR s).2 = F at e1 e3 e4 d1
      clear pu pw mL cL' pL z sz sl ms
      have m1 := isL_lst tRk (rowsT L)
      have l1 := m1.len
      rw [List.length_map] at l1
      have q1 := m1.fits
      refine runF_E fn_ParseBlanks rfl fun Q hQ => ?_; unfold rc_ParseBlanks
      simp only [sim, simB, Nat.reduceAdd, Nat.reduceSub, List.replicate, reduceCtorEq, Nat.reduceLeDiff, Nat.reduceLT, clearA, vb, h9', e1, o1, o2, set2]
      have gH : GrewA h ((h.push [[v1]]).push [[.int .i64 F.1, .int .i64 F.2]]) := (by repeat (first | exact GrewA.refl _ | refine GrewA.trans ?_ (GrewA.push _ _) | refine GrewA.trans ?_ (GrewA.fresh _ _)))
      have k0 : ((h.push [[v1]]).push [[.int .i64 F.1, .int .i64 F.2]]).cell h.n = some [[v1]] := push2_old
      have k1 : ((h.push [[v1]]).push [[.int .i64 F.1, .int .i64 F.2]]).cell (h.n + 1) = some [[.int .i64 F.1, .int .i64 F.2]] := push2_same
      have nH : ((h.push [[v1]]).push [[.int .i64 F.1, .int .i64 F.2]]).n = h.n + 2 := rfl
      generalize (h.push [[v1]]).push [[.int .i64 F.1, .int .i64 F.2]] = H at gH k0 k1 nH ⊢
      simp only [sim, simB, Nat.reduceAdd, Nat.reduceSub, List.replicate, reduceCtorEq, Nat.reduceLeDiff, Nat.reduceLT, clearA, k1, d1, e2]
      have gI : GrewA h (H.push [[.int .i64 0, .int .i64 0]]) := gH.trans (GrewA.push _ _)
      have i0 : (H.push [[.int .i64 0, .int .i64 0]]).cell h.n = some [[v1]] := (push_lt (by omega)).trans k0
      have nI : (H.push [[.int .i64 0, .int .i64 0]]).n = h.n + 3 := by rw [push_n, nH]
      generalize H.push [[.int .i64 0, .int .i64 0]] = I at gI i0 nI ⊢
      refine loop_Q (fun i V h' => ∃ w15, V = [.str s, .bool false, .ptr h.n 0 0, .ptr (h.n + 1) 0 0, lstA tRk (rowsT L), .str (9 :: tokT [32, 10] (L.take i)), .str (tokT [13] (L.take i)), .int .i64 (i : Nat), .junk, .junk, .junk, .junk, .bool false, .bool false, .bool false, w15] ∧ h' = I) L.length ⟨_, rfl, rfl⟩ ?_ ?_
      · rintro i V h' hi ⟨w15, rfl, rfl⟩ next
        have hlt : (i : Int) < (L.length : Int) := by omega
        have hwi := w64 (n := (i : Int) + 1) (by omega) (by omega)
        have hy : (rowsT L)[i]? = some (L[i].row) := by simp [hi]
        have x1 := m1.ix .i64 i _ hy
        simp only [TD.row] at x1
        have hg : L[i]? = some L[i] := List.getElem?_eq_getElem hi
        have b1 := tokT_le [32, 10] L (i + 1)
        have b2 := tokT_le [13] L (i + 1)
        rw [tokT_get hg] at b1 b2
        simp only [List.length_append, List.length_cons, List.length_nil] at b1 b2
        have s1 : binA .str .add (.str L[i].text) (.str [32, 10]) = some (.str (L[i].text ++ [32, 10])) := s_add rfl (by simp only [List.length_cons, List.length_nil]; omega)
        have s2 : binA .str .add (.str (9 :: tokT [32, 10] (L.take i))) (.str (L[i].text ++ [32, 10])) = some (.str (9 :: tokT [32, 10] (L.take (i + 1)))) := s_add (by rw [tokT_get hg]; rfl) (by simp only [List.length_append, List.length_cons, List.length_nil]; omega)
        have s3 : binA .str .add (.str L[i].text) (.str [13]) = some (.str (L[i].text ++ [13])) := s_add rfl (by simp only [List.length_cons, List.length_nil]; omega)
        have s4 : binA .str .add (.str (tokT [13] (L.take i))) (.str (L[i].text ++ [13])) = some (.str (tokT [13] (L.take (i + 1)))) := s_add (tokT_get hg).symm (by simp only [List.length_append, List.length_cons, List.length_nil]; omega)
        rw [r_lpb rc_ParseBlanks_b1.eq_1]
        simp only [sim, simB, Nat.reduceAdd, Nat.reduceSub, List.replicate, reduceCtorEq, Nat.reduceLeDiff, Nat.reduceLT, clearA, l1, q1, hlt, x1, s1, s2, s3, s4, hwi]
        exact next _ _ ⟨_, rfl, rfl⟩
      · rintro V h' ⟨w15, rfl, he⟩
        rw [he]
        have hlt : ¬ (L.length : Int) < (L.length : Int) := by omega
        rw [List.take_length]
        rw [r_lpb rc_ParseBlanks_b1.eq_1]
        simp only [sim, simB, Nat.reduceAdd, Nat.reduceSub, List.replicate, reduceCtorEq, Nat.reduceLeDiff, Nat.reduceLT, clearA, l1, q1, hlt, e3, o1, o2, set2]
        have gJ : GrewA h ((I.push [[v1]]).push [[.int .i64 F.1, .int .i64 F.2]]) := (gI.trans (GrewA.push _ _)).trans (GrewA.push _ _)
        have j0 : ((I.push [[v1]]).push [[.int .i64 F.1, .int .i64 F.2]]).cell h.n = some [[v1]] := (push_lt (by rw [push_n]; omega)).trans ((push_lt (by omega)).trans i0)
        have j1 : ((I.push [[v1]]).push [[.int .i64 F.1, .int .i64 F.2]]).cell I.n = some [[v1]] := push2_old
        have j2 : ((I.push [[v1]]).push [[.int .i64 F.1, .int .i64 F.2]]).cell (I.n + 1) = some [[.int .i64 F.1, .int .i64 F.2]] := push2_same
        have nJ : ((I.push [[v1]]).push [[.int .i64 F.1, .int .i64 F.2]]).n = I.n + 2 := rfl
        generalize (I.push [[v1]]).push [[.int .i64 F.1, .int .i64 F.2]] = J at gJ j0 j1 j2 nJ ⊢
        have q0 : ∀ a b, ((J.push a).push b).cell h.n = some [[v1]] := fun a b => (push_lt (by rw [push_n]; omega)).trans ((push_lt (by omega)).trans j0)
        have q3 : ∀ a b, ((J.push a).push b).cell I.n = some [[v1]] := fun a b => (push_lt (by rw [push_n]; omega)).trans ((push_lt (by omega)).trans j1)
        have q2 : ∀ a b, ((J.push a).push b).cell (I.n + 1) = some [[.int .i64 F.1, .int .i64 F.2]] := fun a b => (push_lt (by rw [push_n]; omega)).trans ((push_lt (by omega)).trans j2)
        simp only [sim, simB, Nat.reduceAdd, Nat.reduceSub, List.replicate, reduceCtorEq, Nat.reduceLeDiff, Nat.reduceLT, clearA, e4, o1, o2, set2, q0, q3, q2, d1, sm, ld_all]
        exact hQ _ _ _ rfl ((gJ.trans (GrewA.push _ _)).trans (GrewA.push _ _)) rfl
    · have d1 : decide ((parseR s).2.1 = 0) = false := decide_eq_false z
      rw [parse_no z] at e1
      have e1 : ∀ h, runF Tryd.prog po 13 [.str s] h = some (.inl (.tup [.agg [.nils], fltT (parseR s).2]), h) := e1
      generalize (parseR s).2 = F at e1 d1
      refine runF_E fn_ParseBlanks rfl fun Q hQ => ?_; unfold rc_ParseBlanks
      simp only [sim, simB, Nat.reduceAdd, Nat.reduceSub, List.replicate, reduceCtorEq, Nat.reduceLeDiff, Nat.reduceLT, clearA, vb, h9', e1, set2, d1, eq_self, Int.cast_ofNat_Int]
      exact hQ _ _ _ rfl (by repeat (first | exact GrewA.refl _ | refine GrewA.trans ?_ (GrewA.push _ _) | refine GrewA.trans ?_ (GrewA.fresh _ _))) rfl
end
end Go.Proofs.YtngphebjmmencaaDoor
namespace Go.Proofs.YtngphebjmmencaaDoor
set_option linter.unusedSimpArgs false
set_option linter.unusedVariables false
open Go Go.RowKit

theorem pow_type : ((Tryd.prog).globals[(2 : Nat)]?).map (·.type) = some 128 := by kernel_rfl
theorem pow_named : (Tryd.prog).globalNamed ("internal" ++ String.singleton (Char.ofNat 47) ++ "strconv.uint64pow10") = some 2 := by kernel_rfl
theorem laid_plain {P : Program} {laid : List (String × DataW Unit)} {w : World} (h : (laid.all fun x => x.2.handleName?.isNone) = true) : laidMetH P laid w = laidMet P laid w := by
  have e : (laid.filter fun x => x.2.handleName?.isSome) = [] := by
    rw [List.filter_eq_nil_iff]
    intro x hx hs
    have := List.all_eq_true.1 h x hx
    cases hn : x.2.handleName? with
    | none => rw [hn] at hs; cases hs
    | some s => rw [hn] at this; cases this
  unfold laidMetH
  rw [e]
/-- an error of the library's -/
def starN : String := String.singleton (Char.ofNat 42) ++ "errors.errorString"
def errD (text : List UInt8) : DataW Unit := .iface starN (.ptr (.agg [.lit (.string text)]))
def synB : List UInt8 := [105, 110, 118, 97, 108, 105, 100, 32, 115, 121, 110, 116, 97, 120]
def ranB : List UInt8 := [118, 97, 108, 117, 101, 32, 111, 117, 116, 32, 111, 102, 32, 114, 97, 110, 103, 101]
theorem star_eq : String.singleton (Char.ofNat 42) = "*" := by decide
theorem err_row (u : TypeId) (h : (Tryd.prog).typeName? 3 u = some starN) : u = 132 := by
  unfold starN at h
  rw [star_eq] at h
  exact typeName_ptr_named (nm := "errors.errorString") (by rw [← star_eq]; kernel_rfl) (by kernel_rfl) (by decide) u h
theorem lt_of_var {P : Program} {W : World} {n : String} {cs : Array Value} (h : W.var? P n = some cs) (g : Nat) (hg : P.globalNamed n = some g) : g < W.heap.size := by
  simp only [World.var?, hg, Option.bind_some] at h
  have hs : (W.heap[g]?).isSome := by
    cases hh : W.heap[g]? with
    | none => rw [hh] at h; simp at h
    | some o => rfl
  obtain ⟨o, ho⟩ := Option.isSome_iff_exists.1 hs
  exact (Array.getElem?_eq_some_iff.1 ho).1
theorem err_laid {n : String} {g : Nat} {text : List UInt8} {laid : List (String × DataW Unit)} {W : World} (h : laidMet Tryd.prog laid W) (hf : (laid.filter fun x => x.1 == n) = [(n, errD text)])
    (hn : (Tryd.prog).globalNamed n = some g) (ht : ((Tryd.prog).globals[g]?).map (·.type) = some 82) : (∃ tp p, W.var? Tryd.prog n = some #[.iface tp p]) ∧ ∀ k, (Tryd.prog).globalNamed n = some k → k < W.heap.size := by
  have h2 := h.filter fun x => x.1 == n
  rw [hf] at h2
  obtain ⟨a, s, hv, _⟩ := laid_sentinel h2 hn ht Tryd.underlying82 err_row Tryd.underlying132 Tryd.underlying134 rfl rfl Tryd.underlying9 (by kernel_rfl) (by kernel_rfl)
  exact ⟨⟨_, _, hv⟩, fun k hk => lt_of_var hv k hk⟩
theorem good_laid {laid : List (String × DataW Unit)} {W : World} (h : laidMetH Tryd.prog laid W) (hp : (laid.all fun x => x.2.handleName?.isNone) = true)
    (hf : (laid.filter fun x => x.1 == "internal" ++ String.singleton (Char.ofNat 47) ++ "strconv.uint64pow10") = [("internal" ++ String.singleton (Char.ofNat 47) ++ "strconv.uint64pow10", Lib.tabData .u64 Lib.pow10Tab)])
    (hs : (laid.filter fun x => x.1 == "strconv.ErrSyntax") = [("strconv.ErrSyntax", errD synB)]) (hr : (laid.filter fun x => x.1 == "strconv.ErrRange") = [("strconv.ErrRange", errD ranB)]) : GoodW Tryd.prog W.heap.size W := by
  rw [laid_plain hp] at h
  refine ⟨fun q hq => ?_, fun n hn => ?_⟩
  · have h2 := h.filter fun x => x.1 == "internal" ++ String.singleton (Char.ofNat 47) ++ "strconv.uint64pow10"
    rw [hf] at h2
    rw [kept_eq] at hq
    obtain rfl := List.mem_singleton.1 hq
    have ht := Lib.tabIs_of_head (rest := []) pow_named pow_type Tryd.underlying128 Tryd.underlying108 (by kernel_rfl) (by kernel_rfl) h2
    exact ⟨ht, fun g hg => lt_of_var ht g hg⟩
  · rw [errs_eq] at hn
    rcases List.mem_cons.1 hn with rfl | hn
    · exact err_laid h hs (g := 0) (by kernel_rfl) (by kernel_rfl)
    · obtain rfl := List.mem_singleton.1 hn
      exact err_laid h hr (g := 1) (by kernel_rfl) (by kernel_rfl)
end Go.Proofs.YtngphebjmmencaaDoor
namespace Go.Proofs.YtngphebjmmencaaDoor
set_option linter.unusedSimpArgs false
set_option linter.unusedVariables false
open Go Go.RowKit

theorem parseReads_walk (k : Int) (W : World) (s : ByteArray) (w : s.size ≤ maxLen) (hk : isI64 k) (hg : GoodW Tryd.prog W.heap.size W) : Law Tryd.prog 5 #[.string s, .int .i64 k] W :=
  law_of (vs := [.string s, .int .i64 k]) (ParseReads_run s.data.toList k) (VRs.cons (vr_str s) (VRs.cons (.int _ _) VRs.nil)) hg
theorem parseJoins_walk (W : World) (s : ByteArray) (w : s.size ≤ maxLen) (t : ByteArray) (w2 : t.size ≤ maxLen) (hg : GoodW Tryd.prog W.heap.size W) : Law Tryd.prog 6 #[.string s, .string t] W :=
  law_of (vs := [.string s, .string t]) (ParseJoins_run s.data.toList t.data.toList) (VRs.cons (vr_str s) (VRs.cons (vr_str t) VRs.nil)) hg
theorem parseBlanks_walk (W : World) (s : ByteArray) (w : s.size ≤ maxLen) (hg : GoodW Tryd.prog W.heap.size W) : Law Tryd.prog 7 #[.string s] W :=
  law_of (vs := [.string s]) (ParseBlanks_run s.data.toList) (VRs.cons (vr_str s) VRs.nil) hg
end Go.Proofs.YtngphebjmmencaaDoor
namespace Go.Proofs.YtngphebjmmencaaDoor
set_option linter.unusedSimpArgs false
set_option linter.unusedVariables false
open Go

theorem get_at {α : Type} {l : List α} {i : Nat} (h : i < l.length) : ∃ y, l[i]? = some y := ⟨_, List.getElem?_eq_getElem h⟩
theorem mem_at {α : Type} {l : List α} {i : Nat} {y : α} (h : l[i]? = some y) : y ∈ l := List.mem_of_getElem? h
theorem ExA.xrow {x : XD} {r : List AV} (h : ExA x r) : ∃ v es, r = [.int .i64 x.op, .int .i64 x.k, .int .i64 x.n, v] ∧ IsL tE v es ∧ v.one = true ∧ es.length = x.l.length ∧ ∀ (i : Nat) (y : XD), x.l[i]? = some y → ∃ q, ixaR (some tE) none v (.int .i64 (i : Int)) = some (.ip q 0) ∧ ldA true 4 q 0 = some (.agg q) ∧ ExA y q := by
  obtain ⟨v, es, rfl, hv, hl⟩ := h.row
  refine ⟨v, es, rfl, hv.isL, ?_, hl.len, fun i y hy => ?_⟩
  · rcases hv with ⟨_, rfl⟩ | ⟨id, rfl⟩ <;> rfl
  · obtain ⟨q, h1, h2⟩ := hl.get hy
    exact ⟨q, hv.isL.ix .i64 i q h1, ld_all h2.one.2, h2⟩
theorem textsX_take {l : List XD} {i : Nat} {y : XD} (h : l[i]? = some y) : textsX (l.take (i + 1)) = textsX (l.take i) ++ 32 :: y.text := by
  rw [take_get h, textsX_append]
  simp [textsX]
theorem sizesX_take (l : List XD) (i : Nat) : sizesX (l.take i) ≤ sizesX l := by
  have := sizesX_append (l.take i) (l.drop i)
  rw [List.take_append_drop] at this
  omega
theorem textsX_le {x : XD} (hw : x.wf) (i : Nat) : (textsX (x.l.take i)).length ≤ 32 * sizesX (x.l.take i) := by
  have key : ∀ l : List XD, (∀ z ∈ l, z.wf) → (textsX l).length ≤ 32 * sizesX l := by
    intro l
    induction l with
    | nil => intro _; simp [textsX]
    | cons z l ihl =>
      intro hm
      have a := xtext_len _ z (Nat.le_refl _) (hm z (by simp))
      have b := ihl fun q hq => hm q (by simp [hq])
      simp only [textsX, List.length_cons, List.length_append, sizesX]
      omega
  exact key (x.l.take i) fun z hz => (XD.wf_parts hw).2.2 z (List.mem_of_mem_take hz)

section
variable {h : AH}
set_option maxHeartbeats 2000000 in
theorem wexpr_run {T b : Nat} {rest : List AV} : ∀ (N : Nat) (x : XD), SizeOf.sizeOf x ≤ N → x.wf → ∀ (r : List AV) (h : AH) (bb : Option Nat) (l : List UInt8), ExA x r → Buf h T b bb rest l → l.length + 40 * x.size ≤ 100000000 →
    ∃ h' bb', runF Tryd.prog po 44 [.tptr T b, .agg r] h = some (.inl (.tup []), h') ∧ Buf h' T b bb' rest (l ++ x.text) ∧ Wr h bb h' bb' b := by
  intro N
  induction N with
  | zero => intro x hx; have := x.so_pos; omega
  | succ N ih =>
    intro x hx hw r h bb l he B hsz
    obtain ⟨v, es, rfl, hsl, hv, hn, hix⟩ := he.xrow
    obtain ⟨wk, wn, wl⟩ := XD.wf_parts hw
    have hxs := x.size_eq
    have hwl := word_len x.op
    have hbl := bin_len x.k
    have il1 := Lib.itoa_length_le _ wk.1 wk.2
    have il2 := Lib.itoa_length_le _ wn.1 wn.2
    have cw := fun h => pWord_run (h := h) x.op
    have cb := fun h => pBin_run (h := h) x.k
    have cf := fun h => fmt_run wn h
    have ci := fun h => itoa_run wk h
    have hb0 : b ≠ h.n := by have := B.lt; omega
    -- the box
    have W0 : Wr h bb (h.push [[.int .i64 x.op, .int .i64 x.k, .int .i64 x.n, v]]) bb b := Wr.grew (GrewA.push _ _) B.bb_lt
    have B0 := B.grew (GrewA.push h [[.int .i64 x.op, .int .i64 x.k, .int .i64 x.n, v]])
    have c0 : (h.push [[.int .i64 x.op, .int .i64 x.k, .int .i64 x.n, v]]).cell h.n = some [[.int .i64 x.op, .int .i64 x.k, .int .i64 x.n, v]] := push_same
    have n0 : bb ≠ some h.n := fun e => by have := B.bb_lt _ e; omega
    have hlt0 : h.n < (h.push [[.int .i64 x.op, .int .i64 x.k, .int .i64 x.n, v]]).n := by simp only [push_n]; omega
    have keep : ∀ {h1 h2 : AH} {b1 b2 : Option Nat}, Wr h1 b1 h2 b2 b → h.n < h1.n → h1.cell h.n = some [[.int .i64 x.op, .int .i64 x.k, .int .i64 x.n, v]] → b1 ≠ some h.n → h.n < h2.n ∧ h2.cell h.n = some [[.int .i64 x.op, .int .i64 x.k, .int .i64 x.n, v]] ∧ b2 ≠ some h.n := by
      intro h1 h2 b1 b2 w q1 q2 q3
      exact ⟨Nat.lt_of_lt_of_le q1 w.n, (w.cell _ q1 (fun e => hb0 e.symm) q3).trans q2, w.buf _ q1 q3⟩
    suffices key : ∃ h', runF Tryd.prog po 44 [.tptr T b, .agg [.int .i64 x.op, .int .i64 x.k, .int .i64 x.n, v]] h = some (.inl (.tup []), h') ∧ ∃ bb', Buf h' T b bb' rest (l ++ x.text) ∧ Wr h bb h' bb' b by
      obtain ⟨h', e, bb', q⟩ := key
      exact ⟨h', bb', e, q⟩
    -- what is in it
    have rest_ : ∀ (Q : RRun → Prop) (h2 : AH) (bb2 : Option Nat) (w5 w6 w7 : AV), Buf h2 T b bb2 rest (l ++ 40 :: (wordX x.op ++ argX x.op x.k x.n)) → Wr h bb h2 bb2 b → h.n < h2.n → h2.cell h.n = some [[.int .i64 x.op, .int .i64 x.k, .int .i64 x.n, v]] → bb2 ≠ some h.n →
        (∀ V h', (resR V h' []).map oneA = some (.tup []) → (∃ bb', Buf h' T b bb' rest (l ++ x.text) ∧ Wr h bb h' bb' b) → Q (some (.ret, V, h'))) →
        Q (runR (runF Tryd.prog po) 12 (.lp rc_wexpr_b1 :: .ss [] :: .blk 1 :: [.ss [(.ops [(.i .l (.mv (.v 0))), (.i .l (.nilc (.l 0))), (.i .l (.fad 0 (.l 0))), (.i .l (.call (.c (.fn 43 [] [])) [(.l 0), (.c (.str [41]))]))])]])
          [.tptr T b, .agg [.int .i64 x.op, .int .i64 x.k, .int .i64 x.n, v], .ptr h.n 0 0, .junk, .int .i64 x.op, w5, w6, w7, v, .int .i64 es.length, .int .i64 0, .junk] [] h2) := by
      intro Q h2 bb2 w5 w6 w7 B2 W2 q1 q2 q3 hQ
      have hal : (argX x.op x.k x.n).length ≤ 22 := argX_len wk wn
      refine loop_Q (fun i V h' => ∃ w3 w11 bb', V = [.tptr T b, .agg [.int .i64 x.op, .int .i64 x.k, .int .i64 x.n, v], .ptr h.n 0 0, w3, .int .i64 x.op, w5, w6, w7, v, .int .i64 es.length, .int .i64 (i : Nat), w11] ∧
        Buf h' T b bb' rest (l ++ 40 :: (wordX x.op ++ (argX x.op x.k x.n ++ textsX (x.l.take i)))) ∧ Wr h bb h' bb' b) x.l.length ⟨_, _, bb2, rfl, by simpa [textsX] using B2, W2⟩ ?_ ?_
      · rintro i V h' hi ⟨w3, w11, bb', rfl, B', W'⟩ next
        have hlt : (i : Int) < (es.length : Int) := by rw [hn]; omega
        obtain ⟨y, hy⟩ := get_at hi
        obtain ⟨q, i1, d1, x1⟩ := hix i y hy
        obtain ⟨p1, p2⟩ := x1.one
        have hwi := w64 (n := (i : Int) + 1) (by have := x.len_size; omega) (by have := x.len_size; omega)
        have tl := textsX_le hw i
        have ys := sizesX_take x.l (i + 1)
        rw [take_get hy, sizesX_append, sizesX_one] at ys
        have B3 := B'.grew (GrewA.push h' [q])
        have W3 : Wr h' bb' (h'.push [q]) bb' b := Wr.grew (GrewA.push _ _) B'.bb_lt
        have hbn : b ≠ h'.n := by have := B'.lt; omega
        have n3 : bb' ≠ some h'.n := fun e => by have := B'.bb_lt _ e; omega
        obtain ⟨h4, bb4, e4, B4, W4⟩ := bWrite_run B3 (s := [32]) (by simp; omega) (by simp)
        have c4 : h4.cell h'.n = some [q] := (W4.cell _ (by simp only [push_n]; omega) (fun e => hbn e.symm) n3).trans push_same
        obtain ⟨h5, bb5, e5, B5, W5⟩ := ih y (by have := XD.lt_mem (mem_at hy); omega) (wl y (mem_at hy)) q h4 bb4 _ x1 B4 (by simp; omega)
        simp only [List.length_cons, List.length_nil, Nat.zero_add, Int.natCast_one] at e4
        rw [r_lpb rc_wexpr_b1.eq_1]
        simp only [sim, simB, Nat.reduceAdd, Nat.reduceSub, List.replicate, reduceCtorEq, Nat.reduceLeDiff, Nat.reduceLT, clearA, hlt, i1, d1, p1, p2, ld_all p2, e4, c4, e5, hwi]
        refine next _ _ ⟨_, _, bb5, rfl, ?_, ((W'.trans W3).trans W4).trans W5⟩
        rw [textsX_take hy]
        simpa using B5
      · rintro V h' ⟨w3, w11, bb', rfl, B', W'⟩
        have hlt : ¬ ((x.l.length : Int) < (es.length : Int)) := by rw [hn]; omega
        have tl := textsX_le hw x.l.length
        rw [List.take_length] at B' tl
        obtain ⟨h4, bb4, e4, B4, W4⟩ := bWrite_run B' (s := [41]) (by simp; omega) (by simp)
        simp only [List.length_cons, List.length_nil, Nat.zero_add, Int.natCast_one] at e4
        rw [r_lpb rc_wexpr_b1.eq_1]
        simp only [sim, simB, Nat.reduceAdd, Nat.reduceSub, List.replicate, reduceCtorEq, Nat.reduceLeDiff, Nat.reduceLT, clearA, hlt, e4]
        refine hQ _ _ rfl ⟨bb4, ?_, W'.trans W4⟩
        rw [x.text_eq]
        simpa using B4
    -- the word
    have s1 : binA .str .add (.str [40]) (.str (wordX x.op)) = some (.str (40 :: wordX x.op)) := s_add rfl (by simp; omega)
    obtain ⟨h1, bb1, e1, B1, W1⟩ := bWrite_run B0 (s := 40 :: wordX x.op) (by omega) (by simp; omega)
    obtain ⟨m1, k1, u1⟩ := keep W1 hlt0 c0 n0
    have W01 := W0.trans W1
    have s2 : binA .str .add (.str [32]) (.str (Lib.itoa x.n)) = some (.str (32 :: Lib.itoa x.n)) := s_add rfl (by simp; omega)
    have s3 : binA .str .add (.str [32]) (.str (Lib.itoa x.k)) = some (.str (32 :: Lib.itoa x.k)) := s_add rfl (by simp; omega)
    have s4 : binA .str .add (.str [32]) (.str (binX x.k)) = some (.str (32 :: binX x.k)) := s_add rfl (by simp; omega)
    have hle := hsl.len
    have hfi := hsl.fits
    by_cases o2 : x.op = 2
    · obtain ⟨h2, bb2, e2, B2, W2⟩ := bWrite_run B1 (s := 32 :: Lib.itoa x.n) (by simp; omega) (by simp; omega)
      obtain ⟨m2, k2, u2⟩ := keep W2 m1 k1 u1
      have R2 := rest_
      have ea : argX x.op x.k x.n = 32 :: Lib.itoa x.n := if_pos o2
      have d2 : decide (x.op = 2) = true := decide_eq_true o2
      rw [ea] at R2
      refine runF_I fn_wexpr rfl fun Q hQ => ?_; unfold rc_wexpr
      simp only [sim, simB, Nat.reduceAdd, Nat.reduceSub, List.replicate, reduceCtorEq, Nat.reduceLeDiff, Nat.reduceLT, clearA, hv, cw, s1, e1, k1, d2, cf, s2, e2, k2, hle, hfi]
      exact R2 Q h2 bb2 _ _ _ (by simpa using B2) (W01.trans W2) m2 k2 u2 hQ
    · have d2 : decide (x.op = 2) = false := decide_eq_false o2
      by_cases o4 : x.op = 4 ∨ x.op = 18 ∨ x.op = 15
      · obtain ⟨h2, bb2, e2, B2, W2⟩ := bWrite_run B1 (s := 32 :: Lib.itoa x.k) (by simp; omega) (by simp; omega)
        obtain ⟨m2, k2, u2⟩ := keep W2 m1 k1 u1
        have R2 := rest_
        have ea : argX x.op x.k x.n = 32 :: Lib.itoa x.k := by rw [argX, if_neg o2, if_pos o4]
        rw [ea] at R2
        refine runF_I fn_wexpr rfl fun Q hQ => ?_; unfold rc_wexpr
        rcases o4 with o | o | o
        · have d4 : decide (x.op = 4) = true := decide_eq_true o
          simp only [sim, simB, Nat.reduceAdd, Nat.reduceSub, List.replicate, reduceCtorEq, Nat.reduceLeDiff, Nat.reduceLT, clearA, hv, cw, s1, e1, k1, d2, d4, ci, s3, e2, k2, hle, hfi]
          exact R2 Q h2 bb2 _ _ _ (by simpa using B2) (W01.trans W2) m2 k2 u2 hQ
        · have d4 : decide (x.op = 4) = false := decide_eq_false (by omega)
          have d18 : decide (x.op = 18) = true := decide_eq_true o
          simp only [sim, simB, Nat.reduceAdd, Nat.reduceSub, List.replicate, reduceCtorEq, Nat.reduceLeDiff, Nat.reduceLT, clearA, hv, cw, s1, e1, k1, d2, d4, d18, ci, s3, e2, k2, hle, hfi]
          exact R2 Q h2 bb2 _ _ _ (by simpa using B2) (W01.trans W2) m2 k2 u2 hQ
        · have d4 : decide (x.op = 4) = false := decide_eq_false (by omega)
          have d18 : decide (x.op = 18) = false := decide_eq_false (by omega)
          have d15 : decide (x.op = 15) = true := decide_eq_true o
          simp only [sim, simB, Nat.reduceAdd, Nat.reduceSub, List.replicate, reduceCtorEq, Nat.reduceLeDiff, Nat.reduceLT, clearA, hv, cw, s1, e1, k1, d2, d4, d18, d15, ci, s3, e2, k2, hle, hfi]
          exact R2 Q h2 bb2 _ _ _ (by simpa using B2) (W01.trans W2) m2 k2 u2 hQ
      · have d4 : decide (x.op = 4) = false := decide_eq_false (by omega)
        have d18 : decide (x.op = 18) = false := decide_eq_false (by omega)
        have d15 : decide (x.op = 15) = false := decide_eq_false (by omega)
        by_cases o6 : x.op = 6
        · obtain ⟨h2, bb2, e2, B2, W2⟩ := bWrite_run B1 (s := 32 :: binX x.k) (by simp; omega) (by simp; omega)
          obtain ⟨m2, k2, u2⟩ := keep W2 m1 k1 u1
          have R2 := rest_
          have ea : argX x.op x.k x.n = 32 :: binX x.k := by rw [argX, if_neg o2, if_neg o4, if_pos o6]
          have d6 : decide (x.op = 6) = true := decide_eq_true o6
          rw [ea] at R2
          refine runF_I fn_wexpr rfl fun Q hQ => ?_; unfold rc_wexpr
          simp only [sim, simB, Nat.reduceAdd, Nat.reduceSub, List.replicate, reduceCtorEq, Nat.reduceLeDiff, Nat.reduceLT, clearA, hv, cw, s1, e1, k1, d2, d4, d18, d15, d6, cb, s4, e2, k2, hle, hfi]
          exact R2 Q h2 bb2 _ _ _ (by simpa using B2) (W01.trans W2) m2 k2 u2 hQ
        · have R2 := rest_
          have ea : argX x.op x.k x.n = [] := by rw [argX, if_neg o2, if_neg o4, if_neg o6]
          have d6 : decide (x.op = 6) = false := decide_eq_false o6
          rw [ea] at R2
          refine runF_I fn_wexpr rfl fun Q hQ => ?_; unfold rc_wexpr
          simp only [sim, simB, Nat.reduceAdd, Nat.reduceSub, List.replicate, reduceCtorEq, Nat.reduceLeDiff, Nat.reduceLT, clearA, hv, cw, s1, e1, k1, d2, d4, d18, d15, d6, hle, hfi]
          exact R2 Q h1 bb1 _ _ _ (by simpa using B1) W01 m1 k1 u1 hQ
end
end Go.Proofs.YtngphebjmmencaaDoor
namespace Go.Proofs.YtngphebjmmencaaDoor
set_option linter.unusedSimpArgs false
set_option linter.unusedVariables false
open Go

/-- what Print tells -/
def printX (L : List XD) : List UInt8 × (Int × Int) := if (checkX L).1 ≠ 0 then ([], checkX L) else if 6000 < (modText L).length then ([], (3, -1)) else (modText L, (0, 0))
abbrev fltA (q : Int × Int) : AV := .agg [.int .i64 q.1, .int .i64 q.2]

section
variable {h : AH}

theorem modText_take {L : List XD} {i : Nat} {y : XD} (hy : L[i]? = some y) : modText (L.take (i + 1)) = modText (L.take i) ++ 102 :: 117 :: 110 :: 32 :: (y.text ++ [10]) := by
  rw [take_get hy, modText_append]
  simp [modText]
theorem wk_flt (s : List UInt8) (q : Int × Int) : wkA (.tup [.str s, fltA q]) = some (.tup [.str s, fltA q]) := rfl

end
end Go.Proofs.YtngphebjmmencaaDoor
