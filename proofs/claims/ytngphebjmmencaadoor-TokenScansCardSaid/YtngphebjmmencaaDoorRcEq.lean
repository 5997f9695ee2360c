/- The steps of 'runR', one equation each: for 'simp only'. -/
import Derived.Test.YtngphebjmmencaaDoorRc4
namespace Go.Proofs.YtngphebjmmencaaDoor
set_option linter.unusedSimpArgs false
set_option linter.unusedVariables false
open Go

abbrev CallR := FuncId → List AV → AH → Option ((AV ⊕ AV) × AH)
abbrev RRun := Option (AEx × List AV × AH)
section
variable (C : CallR) (nv : Nat)
/-- on, with a value -/
noncomputable def rV (d : RD) (is : List RI) (k : List RK) (V L : List AV) (h : AH) : Option AV → RRun
  | some v => runR C nv (.ops is :: k) (putV V v d) (putL L v d) h
  | none => none
/-- on, with another memory -/
noncomputable def rH (is : List RI) (k : List RK) (V L : List AV) : Option AH → RRun
  | some h => runR C nv (.ops is :: k) V L h
  | none => none
noncomputable def rS (d : RD) (is : List RI) (k : List RK) (V L : List AV) : Option (AV × AH) → RRun
  | some (v, h) => runR C nv (.ops is :: k) (putV V v d) (putL L v d) h
  | none => none
noncomputable def rC (d : RD) (is : List RI) (k : List RK) (V L : List AV) : Option ((AV ⊕ AV) × AH) → RRun
  | some (.inl v, h) => runR C nv (.ops is :: k) (putV V v d) (putL L v d) h
  | some (.inr v, h) => some (.panic v, V, h)
  | none => none
noncomputable def rF (d : RD) (is : List RI) (k : List RK) (V L : List AV) (h : AH) : Option (FuncId × List AV) → RRun
  | some (g, args) => rC C nv d is k V L (C g args h)
  | none => none
noncomputable def rG (d : RD) (o : RO) (is : List RI) (k : List RK) (V L : List AV) (h : AH) : Option Bool → RRun
  | some true => runR C nv (.ops (.i d o :: is) :: k) V L h
  | some false => runR C nv (.ops is :: k) (putV V (.tup []) d) (putL L (.tup []) d) h
  | none => none
noncomputable def rB (x y l : List RS) (k : List RK) (V : List AV) (h : AH) : AV → RRun
  | .bool b => if b then runR C nv (.ss x :: .ss l :: k) V [] h else runR C nv (.ss y :: .ss l :: k) V [] h
  | _ => none
noncomputable def rE (V L : List AV) (h : AH) : Option (List RK) → RRun
  | some k => runR C nv k V L h
  | none => none
end

section
variable {C : CallR} {nv : Nat} {k : List RK} {V L : List AV} {h : AH} {d : RD} {is : List RI}
theorem r_nil : runR C nv [] V L h = some (.ret, V, h) := by rw [runR]
theorem r_ss_nil : runR C nv (.ss [] :: k) V L h = runR C nv k V L h := by rw [runR]
theorem r_ops {l : List RS} : runR C nv (.ss (.ops is :: l) :: k) V L h = runR C nv (.ops is :: .ss l :: k) V [] h := by rw [runR]
theorem r_cond {a : Arg} {x y l : List RS} : runR C nv (.ss (.cond a x y :: l) :: k) V L h = rB C nv x y l k V h (arg V [] a) := by
  rw [runR]
  cases arg V [] a <;> rfl
theorem r_block {id : Nat} {b l : List RS} : runR C nv (.ss (.block id b :: l) :: k) V L h = runR C nv (.ss b :: .blk id :: .ss l :: k) V L h := by rw [runR]
theorem r_loop {b l : List RS} : runR C nv (.ss (.loop b :: l) :: k) V L h = runR C nv (.lp b :: .ss l :: k) V L h := by conv => lhs; rw [runR]
theorem r_exit {id : Nat} {l : List RS} : runR C nv (.ss (.exit id :: l) :: k) V L h = rE C nv V L h (exitR id k) := by
  rw [runR]
  cases exitR id k <;> rfl
theorem r_ret {l : List RS} : runR C nv (.ss (.ret :: l) :: k) V L h = some (.ret, V, h) := by rw [runR]
theorem r_blk {id : Nat} : runR C nv (.blk id :: k) V L h = runR C nv k V L h := by rw [runR]
theorem r_lp {b : List RS} : runR C nv (.lp b :: k) V L h = runR C nv (.ss b :: .lp b :: k) (clearA nv V) L h := by rw [runR]
theorem r_ops_nil : runR C nv (.ops [] :: k) V L h = runR C nv k V [] h := by rw [runR]
theorem r_ck {l : List RCk} (hc : chkR V L h l) : runR C nv (.ops (.ck l :: is) :: k) V L h = runR C nv (.ops is :: k) V L h := by rw [runR]; simp [hc]
theorem r_op {o : RO} (hn : calleeR V L o = none) (hp : panR V L o = none) : runR C nv (.ops (.i d o :: is) :: k) V L h = rS C nv d is k V L (evalR V L h o) := by
  rw [runR]
  simp only [hn, hp]
  rcases evalR V L h o with _ | ⟨v, h'⟩ <;> rfl
theorem r_pan {x : Arg} {q : TypeId} {v : AV} (hx : arg V L x = .iface q v) : runR C nv (.ops (.i d (.pan x) :: is) :: k) V L h = some (.panic (.iface q v), V, h) := by
  rw [runR]
  simp [panR, hx]
theorem r_halt {K : List Item} : runR C nv (.halt K :: k) V L h = some (.halt K, V, h) := by rw [runR]
theorem r_call {f : Arg} {args : List Arg} : runR C nv (.ops (.i d (.call f args) :: is) :: k) V L h = rF C nv d is k V L h (calleeR V L (.call f args)) := by
  rw [runR]
  simp only [panR]
  rcases hc : calleeR V L (.call f args) with _ | ⟨g, as⟩
  · rfl
  · simp only [rF]
    rcases C g as h with _ | ⟨_ | _, h'⟩ <;> rfl
theorem r_callf {g : FuncId} {args : List Arg} : runR C nv (.ops (.i d (.call (.c (.fn g [] [])) args) :: is) :: k) V L h = rC C nv d is k V L (C g (args.map (arg V L)) h) := by
  rw [r_call]
  simp [calleeR, arg, rF]
theorem r_g {a : Arg} {w : Bool} {o : RO} : runR C nv (.ops (.g a w d o :: is) :: k) V L h = rG C nv d o is k V L h (guardR V L a w) := by
  rw [runR]
  rcases guardR V L a w with _ | ⟨_ | _⟩
  · rfl
  · rfl
  · simp only [rG]
    conv => rhs; rw [runR]
theorem rS_map {x : Option AV} : rS C nv d is k V L (x.map fun v => (v, h)) = rV C nv d is k V L h x := by cases x <;> rfl
theorem r_mv {x : Arg} : runR C nv (.ops (.i d (.mv x) :: is) :: k) V L h = runR C nv (.ops is :: k) (putV V (arg V L x) d) (putL L (arg V L x) d) h := by rw [r_op rfl rfl]; rfl
theorem r_pick {c x y : Arg} : runR C nv (.ops (.i d (.pick c x y) :: is) :: k) V L h = rV C nv d is k V L h (pickR (arg V L c) (arg V L x) (arg V L y)) := by rw [r_op rfl rfl]; exact rS_map
theorem r_build {z : List AV} {pl : List (Nat × Nat)} {ps : List (Nat × Arg)} : runR C nv (.ops (.i d (.build z pl ps) :: is) :: k) V L h = rV C nv d is k V L h ((fillA pl z (ps.map fun q => (q.1, arg V L q.2))).map .agg) := by
  rw [r_op rfl rfl]
  simp only [evalR]
  cases fillA pl z (ps.map fun q => (q.1, arg V L q.2)) <;> rfl
theorem r_nilc {x : Arg} : runR C nv (.ops (.i d (.nilc x) :: is) :: k) V L h = rV C nv d is k V L h (nilcR (arg V L x)) := by rw [r_op rfl rfl]; exact rS_map
theorem r_bin {kd : Kd} {op : BinOp} {x y : Arg} : runR C nv (.ops (.i d (.bin kd op x y) :: is) :: k) V L h = rV C nv d is k V L h (binA kd op (arg V L x) (arg V L y)) := by rw [r_op rfl rfl]; exact rS_map
theorem r_binG {kd : Kd} {ks : Option (List Kd)} {cy : Bool} {op : BinOp} {x y : Arg} : runR C nv (.ops (.i d (.binG kd ks cy op x y) :: is) :: k) V L h = rV C nv d is k V L h (binR kd ks cy op (arg V L x) (arg V L y)) := by rw [r_op rfl rfl]; exact rS_map
theorem r_un {op : UnOp} {x : Arg} : runR C nv (.ops (.i d (.un op x) :: is) :: k) V L h = rV C nv d is k V L h (unA op (arg V L x)) := by rw [r_op rfl rfl]; exact rS_map
theorem r_conv {kd : Kd} {x : Arg} : runR C nv (.ops (.i d (.conv kd x) :: is) :: k) V L h = rV C nv d is k V L h (cvA kd (arg V L x)) := by rw [r_op rfl rfl]; exact rS_map
theorem r_mki {t : TypeId} {x : Arg} : runR C nv (.ops (.i d (.mki t x) :: is) :: k) V L h = rV C nv d is k V L h (mkiR t (arg V L x)) := by rw [r_op rfl rfl]; exact rS_map
theorem r_mkf {g : FuncId} {f c : List Arg} : runR C nv (.ops (.i d (.mkf g f c) :: is) :: k) V L h = rV C nv d is k V L h (some (.fn g (f.map (arg V L)) (c.map (arg V L)))) := by rw [r_op rfl rfl]; rfl
theorem r_slc {s : Bool} {e : Option TypeId} {x : Arg} {lo hi : Option Arg} : runR C nv (.ops (.i d (.slc s e x lo hi) :: is) :: k) V L h = rV C nv d is k V L h (if fitsR s e (arg V L x) then sliceA (arg V L x) (lo.map (arg V L)) (hi.map (arg V L)) else none) := by
  rw [r_op rfl rfl]
  simp only [evalR]
  split
  · exact rS_map
  · rfl
theorem r_fad {off : Nat} {x : Arg} : runR C nv (.ops (.i d (.fad off x) :: is) :: k) V L h = rV C nv d is k V L h (fldA off (arg V L x)) := by rw [r_op rfl rfl]; exact rS_map
theorem r_fld {agg : Bool} {n off : Nat} {x : Arg} : runR C nv (.ops (.i d (.fld agg n off x) :: is) :: k) V L h = rV C nv d is k V L h (fldR agg n off (arg V L x)) := by rw [r_op rfl rfl]; exact rS_map
theorem r_ixa {e : Option TypeId} {ar : Option (Nat × Nat)} {x q : Arg} : runR C nv (.ops (.i d (.ixa e ar x q) :: is) :: k) V L h = rV C nv d is k V L h (ixaR e ar (arg V L x) (arg V L q)) := by rw [r_op rfl rfl]; exact rS_map
theorem r_ix {s : Bool} {ar : Option (Nat × Nat × Bool)} {x q : Arg} : runR C nv (.ops (.i d (.ix s ar x q) :: is) :: k) V L h = rV C nv d is k V L h (ixR s ar (arg V L x) (arg V L q)) := by rw [r_op rfl rfl]; exact rS_map
theorem r_tas {t : TypeId} {ok : Bool} {x : Arg} : runR C nv (.ops (.i d (.tas t ok x) :: is) :: k) V L h = rV C nv d is k V L h (tasR t ok (arg V L x)) := by rw [r_op rfl rfl]; exact rS_map
theorem r_ext {x : Arg} {i : Nat} : runR C nv (.ops (.i d (.ext x i) :: is) :: k) V L h = rV C nv d is k V L h (extR (arg V L x) i) := by rw [r_op rfl rfl]; exact rS_map
theorem r_len {s : Bool} {e : Option TypeId} {x : Arg} : runR C nv (.ops (.i d (.len s e x) :: is) :: k) V L h = rV C nv d is k V L h (if fitsR s e (arg V L x) then (lenA (arg V L x)).map fun (n : Nat) => i64 n else none) := by
  rw [r_op rfl rfl]
  simp only [evalR]
  split
  · cases lenA (arg V L x) <;> rfl
  · rfl
theorem r_alloc {z : List AV} : runR C nv (.ops (.i d (.alloc z) :: is) :: k) V L h = runR C nv (.ops is :: k) (putV V (.ptr h.n 0 0) d) (putL L (.ptr h.n 0 0) d) (h.push [z]) := by rw [r_op rfl rfl]; rfl
theorem r_box {n : Nat} {x : Arg} (h1 : (arg V L x).cells.all AV.one = true) (h2 : (arg V L x).cells.length = n) : runR C nv (.ops (.i d (.box n x) :: is) :: k) V L h = runR C nv (.ops is :: k) (putV V (.ptr h.n 0 0) d) (putL L (.ptr h.n 0 0) d) (h.push [(arg V L x).cells]) := by
  rw [r_op rfl rfl]
  simp [evalR, h1, h2, rS]
theorem r_bsl {e : TypeId} {z : List AV} {n len : Nat} {ps : List (Nat × Arg)} : runR C nv (.ops (.i d (.bsl false e z n len ps) :: is) :: k) V L h = rS C nv d is k V L ((fillE n (List.replicate len z) (ps.map fun q => (q.1, arg V L q.2))).map fun es => (.isl (some h.ids) e es, h.fresh len)) := by rw [r_op rfl rfl]; rfl
theorem r_bslM {e : TypeId} {z : List AV} {n len : Nat} {ps : List (Nat × Arg)} : runR C nv (.ops (.i d (.bsl true e z n len ps) :: is) :: k) V L h = rS C nv d is k V L ((fillE n (List.replicate len z) (ps.map fun q => (q.1, arg V L q.2))).map fun es => (.msl h.n 0 len e, h.push es)) := by rw [r_op rfl rfl]; rfl
theorem r_load {agg : Bool} {n : Nat} {x : Arg} : runR C nv (.ops (.i d (.load agg n x) :: is) :: k) V L h = rV C nv d is k V L h (loadA agg n h (arg V L x)) := by rw [r_op rfl rfl]; exact rS_map
theorem r_store {n : Nat} {a x : Arg} : runR C nv (.ops (.i .n (.store n a x) :: is) :: k) V L h = rH C nv is k V L (storeA n h (arg V L a) (arg V L x)) := by
  rw [r_op rfl rfl]
  simp only [evalR]
  cases storeA n h (arg V L a) (arg V L x) <;> rfl
theorem r_mks {e : TypeId} {z : List AV} {l c : Arg} : runR C nv (.ops (.i d (.mks e z l c) :: is) :: k) V L h = rS C nv d is k V L (mksR e z (arg V L l) (arg V L c) h) := by rw [r_op rfl rfl]; rfl
theorem r_app {mu : Bool} {e : TypeId} {x y : Arg} : runR C nv (.ops (.i d (.app mu e x y) :: is) :: k) V L h = rS C nv d is k V L (appendA mu e (arg V L x) (arg V L y) h) := by rw [r_op rfl rfl]; rfl

theorem r_apps {mu : Bool} {e : TypeId} {x y : Arg} : runR C nv (.ops (.i d (.apps mu e x y) :: is) :: k) V L h = rS C nv d is k V L (appendS mu e (arg V L x) (arg V L y) h) := by rw [r_op rfl rfl]; rfl
theorem r_tbox {t : TypeId} {n : Nat} {x : Arg} (h1 : (arg V L x).cells.all AV.one = true) (h2 : (arg V L x).cells.length = n) : runR C nv (.ops (.i d (.tbox t n x) :: is) :: k) V L h = runR C nv (.ops is :: k) (putV V (.tptr t h.n) d) (putL L (.tptr t h.n) d) (h.push [(arg V L x).cells]) := by
  rw [r_op rfl rfl]
  simp [evalR, h1, h2, rS]
theorem r_talloc {t : TypeId} {z : List AV} : runR C nv (.ops (.i d (.talloc t z) :: is) :: k) V L h = runR C nv (.ops is :: k) (putV V (.tptr t h.n) d) (putL L (.tptr t h.n) d) (h.push [z]) := by rw [r_op rfl rfl]; rfl
theorem r_mm {mx : Bool} {x y : Arg} : runR C nv (.ops (.i d (.mm mx x y) :: is) :: k) V L h = rV C nv d is k V L h (mmA mx (arg V L x) (arg V L y)) := by rw [r_op rfl rfl]; exact rS_map

theorem rV_some {v : AV} : rV C nv d is k V L h (some v) = runR C nv (.ops is :: k) (putV V v d) (putL L v d) h := rfl
theorem rH_some : rH C nv is k V L (some h) = runR C nv (.ops is :: k) V L h := rfl
theorem rS_some {v : AV} : rS C nv d is k V L (some (v, h)) = runR C nv (.ops is :: k) (putV V v d) (putL L v d) h := rfl
theorem rC_ret {v : AV} : rC C nv d is k V L (some (.inl v, h)) = runR C nv (.ops is :: k) (putV V v d) (putL L v d) h := rfl
theorem rC_panic {v : AV} : rC C nv d is k V L (some (.inr v, h)) = some (.panic v, V, h) := rfl
theorem rG_true {o : RO} : rG C nv d o is k V L h (some true) = runR C nv (.ops (.i d o :: is) :: k) V L h := rfl
theorem rG_false {o : RO} : rG C nv d o is k V L h (some false) = runR C nv (.ops is :: k) (putV V (.tup []) d) (putL L (.tup []) d) h := rfl
theorem rB_bool {x y l : List RS} {b : Bool} : rB C nv x y l k V h (.bool b) = if b = true then runR C nv (.ss x :: .ss l :: k) V [] h else runR C nv (.ss y :: .ss l :: k) V [] h := rfl
theorem rE_some : rE C nv V L h (some k) = runR C nv k V L h := rfl
theorem pick_bool {b : Bool} {x y : AV} : pickR (.bool b) x y = some (if b = true then x else y) := rfl
theorem guard_bool {b : Bool} {a : Arg} {w : Bool} (ha : arg V L a = .bool b) : guardR V L a w = some (if w = true then b else !b) := by simp [guardR, ha]
theorem cFR_ret {p : Bool} {rs : List RRes} {h0 : AH} : cFR p rs h0 (some (.ret, V, h)) = cF.cR p h0 h ((resR V h rs).map oneA) := rfl
theorem cFR_panic {p : Bool} {rs : List RRes} {h0 : AH} {v : AV} : cFR p rs h0 (some (.panic v, V, h)) = fgA p h0 (.inr v, h) := rfl
theorem arg_v {j : Nat} : arg V L (.v j) = V.getD j .junk := rfl
theorem arg_l {j : Nat} : arg V L (.l j) = L.getD j .junk := rfl
theorem arg_c {a : AV} : arg V L (.c a) = a := rfl
theorem putV_v {v : AV} {j : Nat} : putV V v (.v j) = V.set j v := rfl
theorem putV_l {v : AV} : putV V v .l = V := rfl
theorem putV_n {v : AV} : putV V v .n = V := rfl
theorem putL_v {v : AV} {j : Nat} : putL L v (.v j) = L := rfl
theorem putL_l {v : AV} : putL L v .l = v :: L := rfl
theorem putL_n {v : AV} : putL L v .n = L := rfl
end
end Go.Proofs.YtngphebjmmencaaDoor
