/- What the library's FormatInt and Join do, in the plain model: a numeral; two texts with one sign between them. -/
import Derived.Test.YtodehiopdkgoeaaDoorShelf
import Derived.Test.YtodehiopdkgoeaaDoorPol
import Derived.Lib.Hide
import Derived.Test.YtodehiopdkgoeaaDoorSound17
namespace Go.Proofs.YtodehiopdkgoeaaDoor
set_option linter.unusedSimpArgs false
set_option linter.unusedVariables false
open Go Go.Proofs Go.RowKit

theorem below_growD (B : Nat) (w : World) (hB : B ≤ w.heap.size) (k : Nat) (os : Array Obj) : Below B w (Go.Sort.grow (w.drewN k) os) := by
  refine ⟨rfl, rfl, rfl, by simp [Go.Sort.grow, World.drewN], fun i hi => ?_⟩
  simp only [Go.Sort.grow, World.drewN]
  rw [Array.getElem?_append_left (by omega)]

theorem itoaC (n : Int) (h0 : -9223372036854775808 ≤ n) (h1 : n ≤ 9223372036854775807) (w : World) (htab : Lib.TabIs Tryd.prog w ("internal" ++ String.singleton (Char.ofNat 47) ++ "strconv.uint64pow10") .u64 Lib.pow10Tab) :
    Calls Tryd.prog 61 #[.int .i64 n, .int .i64 10] w fun e w' => e = .returned (.string ⟨(Lib.itoa n).toArray⟩) ∧ New w w' := by
  have := Any.internal_strconv_FormatInt_10 laysM246 n h0 h1 w htab
  refine this.mono fun e w' ⟨h1, k, os, h2⟩ => ⟨h1, ?_⟩
  subst h2
  exact New.of_below (below_growD _ _ (Nat.le_refl _) k os)

theorem fmtC (n : Int) (h0 : -9223372036854775808 ≤ n) (h1 : n ≤ 9223372036854775807) (w : World) (htab : Lib.TabIs Tryd.prog w ("internal" ++ String.singleton (Char.ofNat 47) ++ "strconv.uint64pow10") .u64 Lib.pow10Tab) :
    Calls Tryd.prog 41 #[.int .i64 n, .int .i64 10] w fun e w' => e = .returned (.string ⟨(Lib.itoa n).toArray⟩) ∧ New w w' := by
  go_enter Tryd.func41, Tryd.ntmps41
  go_wp2_with (go_at_call 61; go_must (refine (itoaC n h0 h1 _ htab).mono ?_; rintro e w' ⟨rfl, ho⟩))
  go_ret
  exact ⟨rfl, ho⟩

def partJ (X Y : Nat) : Nat → Nat
  | 0 => 0
  | 1 => X
  | _ => X + Y
def pickJ (x y : ByteArray) : Nat → ByteArray
  | 0 => x
  | _ => y
theorem partJ_succ (x y : ByteArray) {k : Nat} (h : k < 2) : partJ x.size y.size (k + 1) = partJ x.size y.size k + (pickJ x y k).size := by
  match k, h with
  | 0, _ => simp [partJ, pickJ]
  | 1, _ => simp [partJ, pickJ]
theorem partJ_le (X Y k : Nat) : partJ X Y k ≤ X + Y := by
  unfold partJ
  split <;> omega

def restJ (x y sep : ByteArray) : Nat → List UInt8
  | 0 => x.data.toList
  | _ => x.data.toList ++ (sep.data.toList ++ y.data.toList)
theorem restJ_succ (x y sep : ByteArray) {k : Nat} (h : k < 1) : Lib.byteCells (restJ x y sep k) ++ Lib.strCells sep ++ Lib.strCells y = Lib.byteCells (restJ x y sep (k + 1)) := by
  obtain rfl : k = 0 := by omega
  simp only [restJ, Lib.strCells_eq, ← Lib.byteCells_append, List.append_assoc]
theorem restJ_len (x y sep : ByteArray) {k : Nat} (h : k < 1) : (Lib.byteCells (restJ x y sep k)).length = x.size := by
  obtain rfl : k = 0 := by omega
  rw [Lib.byteCells_length, Lib.size_eq]
  rfl

theorem growC (B b n : Nat) (w : World) (hB : B ≤ b) (hbk : w.heap[b]? = some (.cells #[.pointer none, .slice none 0 0] 70 (0, 0))) (hBw : B ≤ w.heap.size) (hn : n ≤ 281474976710656) :
    Calls Tryd.prog 62 #[.pointer (some ⟨b, 0, none⟩), .int .i64 n] w fun e w' => e = .returned (.tuple #[]) ∧ (Lib.BuilderAt 70 5 B b (.pointer (some ⟨b, 0, none⟩)) [] w' ∧ Below B w w') :=
  Any.Builder_Grow_fresh lays165 extra B b n w hB hbk hBw hn
theorem writeC (B b : Nat) (bs : List Value) (s : ByteArray) (w : World) (h : Lib.IsBuilder 70 5 B b bs w) (hlen : bs.length + s.size ≤ 140737488355328) (hBw : B ≤ w.heap.size) :
    Calls Tryd.prog 46 #[.pointer (some ⟨b, 0, none⟩), .string s] w fun e w' => e = .returned (.tuple #[.int .i64 s.size, .nilIface]) ∧ (Lib.BuilderAt 70 5 B b (.pointer (some ⟨b, 0, none⟩)) (bs ++ Lib.strCells s) w' ∧ Below B w w') :=
  Any.Builder_WriteString lays166 extra B b bs s w h hlen hBw
theorem stringC (B b : Nat) (l : List UInt8) (w : World) (h : Lib.IsBuilder 70 5 B b (Lib.byteCells l) w) (hBw : B ≤ w.heap.size) :
    Calls Tryd.prog 49 #[.pointer (some ⟨b, 0, none⟩)] w fun e w' => e = .returned (.string ⟨l.toArray⟩) ∧ Below B w w' :=
  Any.Builder_String_any lays169 extra B b l w h hBw

set_option maxHeartbeats 4000000 in
set_option maxRecDepth 100000 in
theorem joinC (bk o c : Nat) (x y sep : ByteArray) (w : World) (hc : ∀ j, j < 2 → w.cell? ⟨bk, o + j, none⟩ = some (.string (pickJ x y j))) (hs : sep.size = 1) (hx : x.size ≤ 1000000000000) (hy : y.size ≤ 1000000000000) (hbk : bk < w.heap.size) (hcap : 2 ≤ c) :
    Calls Tryd.prog 42 #[.slice (some ⟨bk, o, none⟩) 2 c, .string sep] w fun e w' => e = .returned (.string ⟨(x.data.toList ++ (sep.data.toList ++ y.data.toList)).toArray⟩) ∧ Below w.heap.size w w' := by
  have HC := Lib.hid hc
  clear hc
  go_enter Tryd.func42, Tryd.ntmps42
  go_wp2_with fail
  all_goals (
    go_loop [5, 41] (fun n i => ∃ k : Nat, k ≤ 2 ∧ i = .int .i64 k ∧ n = .int .i64 ((1 + partJ x.size y.size k : Nat) : Int)) (fun _ i => 2 - (intOf i).toNat)
    case atStart => exact ⟨0, Nat.zero_le _, rfl, rfl⟩
    case round =>
      obtain ⟨k, hk, rfl, rfl⟩ := hrel
      by_cases hkn : k < 2
      · obtain ⟨z, hz⟩ : ∃ z, pickJ x y k = z := ⟨_, rfl⟩
        have hcc := HC.out k hkn
        have hstep := partJ_succ x y hkn
        have hbound := partJ_le x.size y.size (k + 1)
        rw [hz] at hcc hstep
        clear hz
        generalize hA1 : partJ x.size y.size (k + 1) = A1 at hstep hbound
        generalize partJ x.size y.size k = A0 at hstep
        have HA1 := Lib.hid hA1
        clear hA1
        go_wp2
        exact ⟨⟨k + 1, by omega, by go_num, by rw [HA1.out]; refine congrArg _ ?_; omega⟩, by simp [intOf]; omega⟩
      · have hke : k = 2 := by omega
        subst hke
        have hT : partJ x.size y.size 2 = x.size + y.size := rfl
        rw [hT]
        generalize hM : 1 + (x.size + y.size) = M
        have hMb : M ≤ 3000000000000 := by omega
        have HM := Lib.hid hM
        clear hM hT
        go_wp2_with fail
        refine (growC w.heap.size w.heap.size M _ (Nat.le_refl _) (heap_alloc_new w _) (by simp) (by omega)).mono ?_
        rintro e w1 ⟨rfl, h1, hb1⟩
        have hb1' : Below w.heap.size w w1 := ((Below.refl w.heap.size w).alloc (Nat.le_refl _) _).trans hb1
        have hc0 : w1.cell? ⟨bk, o, none⟩ = some (.string x) := by
          rw [hb1'.cell (p := ⟨bk, o, none⟩) hbk]
          exact HC.out 0 (by omega)
        have H1 := Lib.hid (Or.inr h1 : Lib.IsBuilder 70 5 w.heap.size w.heap.size [] w1)
        have Hb1 := Lib.hid hb1'
        have hBw1 : w.heap.size ≤ w1.heap.size := hb1'.size
        clear h1 hb1 hb1'
        go_wp2_with fail
        refine (writeC w.heap.size w.heap.size [] x w1 H1.out (by simp; omega) hBw1).mono ?_
        rintro e w2 ⟨rfl, h2, hb2⟩
        have H2 := Lib.hid (Or.inr h2 : Lib.IsBuilder 70 5 w.heap.size w.heap.size _ w2)
        have Hb2 := Lib.hid (Hb1.out.trans hb2)
        clear h2 hb2
        go_wp2_with fail
        have hstart : ([] : List Value) ++ Lib.strCells x = Lib.byteCells (restJ x y sep 0) := by
          rw [List.nil_append, Lib.strCells_eq]
          rfl
        rw [hstart] at H2
        clear hstart
        go_loopw [65] (fun i wr => ∃ k : Nat, k ≤ 1 ∧ i = .int .i64 k ∧ Hid (Lib.IsBuilder 70 5 w.heap.size w.heap.size (Lib.byteCells (restJ x y sep k)) wr) ∧ Hid (Below w.heap.size w wr)) (fun i _ => 1 - (intOf i).toNat)
        case atStart => exact ⟨0, Nat.zero_le _, rfl, H2, Hb2⟩
        case round =>
          obtain ⟨k, hk', rfl, HB, HW⟩ := hrel
          by_cases hkr : k < 1
          · have hcy : wr.cell? ⟨bk, o + 1 + k, none⟩ = some (.string y) := by
              rw [HW.out.cell (p := ⟨bk, o + 1 + k, none⟩) hbk, show o + 1 + k = o + (k + 1) by omega]
              exact HC.out (k + 1) (by omega)
            have hBw : w.heap.size ≤ wr.heap.size := HW.out.size
            have hl0 := restJ_len x y sep hkr
            have Hn := Lib.hid (restJ_succ x y sep hkr)
            have Hl := Lib.hid hl0
            clear hl0
            go_wp2_with fail
            refine (writeC w.heap.size w.heap.size _ sep wr HB.out (by rw [Hl.out]; omega) hBw).mono ?_
            rintro e w3 ⟨rfl, h3, hb3⟩
            have hBw3 : w.heap.size ≤ w3.heap.size := Nat.le_trans hBw hb3.size
            have H3 := Lib.hid h3
            have Hb3 := Lib.hid hb3
            clear h3 hb3
            go_wp2_with fail
            refine (writeC w.heap.size w.heap.size _ y w3 (Or.inr H3.out) (by rw [List.length_append, Hl.out, Lib.strCells_length]; omega) hBw3).mono ?_
            rintro e w4 ⟨rfl, h4, hb4⟩
            rw [Hn.out] at h4
            have H4 := Lib.hid (Or.inr h4 : Lib.IsBuilder 70 5 w.heap.size w.heap.size _ w4)
            have Hb4 := Lib.hid ((HW.out.trans Hb3.out).trans hb4)
            clear h4 hb4
            go_wp2
            exact ⟨⟨k + 1, by omega, by go_num, H4, Hb4⟩, by simp [intOf]; omega⟩
          · have hke : k = 1 := by omega
            subst hke
            have hBw : w.heap.size ≤ wr.heap.size := HW.out.size
            go_wp2_with fail
            refine (stringC w.heap.size w.heap.size (restJ x y sep 1) wr HB.out hBw).mono ?_
            rintro e w5 ⟨rfl, hb5⟩
            have Hb5 := Lib.hid (HW.out.trans hb5)
            clear hb5
            go_wp2
            go_ret
            exact ⟨rfl, Hb5.out⟩)
theorem kept_eq : keptA Tryd.prog = [("internal" ++ String.singleton (Char.ofNat 47) ++ "strconv.uint64pow10", .u64, Lib.pow10Tab)] := by
  unfold keptA
  rw [if_pos (by kernel_rfl)]
theorem join0C (sep : ByteArray) (w : World) : Calls Tryd.prog 42 #[.slice none 0 0, .string sep] w fun e w' => e = .returned (.string ⟨#[]⟩) ∧ w' = w := by
  go_enter Tryd.func42, Tryd.ntmps42
  go_wp2
  go_ret
  exact ⟨rfl, rfl⟩
theorem join1C (bk o c : Nat) (x sep : ByteArray) (w : World) (hc : w.cell? ⟨bk, o, none⟩ = some (.string x)) : Calls Tryd.prog 42 #[.slice (some ⟨bk, o, none⟩) 1 c, .string sep] w fun e w' => e = .returned (.string x) ∧ w' = w := by
  go_enter Tryd.func42, Tryd.ntmps42
  go_wp2
  go_ret
  exact ⟨rfl, rfl⟩

/-- a call that leaves what the model speaks of as it was, and hands back a value -/
theorem ac_new {P : Program} {g : FuncId} {args : List AV} {h : AH} {v : AV} (k : ∀ (m : Mm) (w : World) (vs : List Value), WR P m h w → VRs P m h args vs → ∃ u, VR P m h v u ∧ Calls P g vs.toArray w fun e w' => e = .returned u ∧ New w w') : AC P g args h (.inl v, h) := by
  intro m w vs hw hv
  obtain ⟨u, hu, hc⟩ := k m w vs hw hv
  refine hc.mono fun e w' ⟨he, ho⟩ => ⟨m, Ext.refl m h, hw.new ho, Only.below ho (fun _ h => h.elim) hw.size, u, he, hu⟩

theorem vrs_two {P : Program} {m : Mm} {h : AH} {a b : AV} {vs : List Value} (hv : VRs P m h [a, b] vs) : ∃ u v, vs = [u, v] ∧ VR P m h a u ∧ VR P m h b v := by
  obtain ⟨h1, h2⟩ := hv
  match vs, h1 with
  | [u, v], _ => exact ⟨u, v, rfl, h2 0 (by simp) (by simp), h2 1 (by simp) (by simp)⟩

set_option maxRecDepth 100000 in
theorem fmt_ac {args : List AV} {h : AH} {r : (AV ⊕ AV) × AH} (hr : fmtF args h = some r) : AC Tryd.prog 41 args h r := by
  unfold fmtF at hr
  split at hr
  · rename_i n b
    split at hr
    · rename_i hh
      obtain ⟨hb, h0, h1⟩ := hh
      subst hb
      injection hr with hr
      subst hr
      refine ac_new fun m w vs hw hv => ?_
      obtain ⟨u, v, rfl, hu, hz⟩ := vrs_two hv
      cases hu
      cases hz
      refine ⟨_, .str _, fmtC n h0 h1 w ?_⟩
      exact (hw.good _ (by rw [kept_eq]; exact List.mem_singleton.2 rfl)).1
    · cases hr
  · cases hr

theorem strs_map : ∀ {rows : List (List AV)} {xs : List (List UInt8)}, strsA rows = some xs → rows = xs.map fun x => [.str x]
  | [], xs, h => by
    injection h with h
    rw [← h]
    rfl
  | [.str a] :: r, xs, h => by
    simp only [strsA, Option.map_eq_some_iff] at h
    obtain ⟨q, hq, rfl⟩ := h
    rw [strs_map hq]
    rfl

set_option maxRecDepth 100000 in
theorem join_ac {args : List AV} {h : AH} {r : (AV ⊕ AV) × AH} (hr : joinF args h = some r) : AC Tryd.prog 42 args h r := by
  unfold joinF at hr
  split at hr
  · injection hr with hr
    subst hr
    refine ac_new fun m w vs hw hv => ?_
    obtain ⟨u, v, rfl, hu, hz⟩ := vrs_two hv
    cases hu
    cases hz
    exact ⟨_, .str _, (join0C _ w).mono fun e w' hx => ⟨hx.1, by rw [hx.2]; exact Only.refl _ _⟩⟩
  · rename_i id e rows s
    split at hr
    · rename_i hce
      obtain ⟨xs, hxs, hr⟩ := Option.bind_eq_some_iff.1 hr
      obtain ⟨v, hj, hr⟩ := Option.map_eq_some_iff.1 hr
      subst hr
      unfold joinL at hj
      split at hj
      · rename_i x
        injection hj with hj
        subst hj
        obtain rfl := strs_map hxs
        refine ac_new fun m w vs hw hv => ?_
        obtain ⟨u, v, rfl, hu, hz⟩ := vrs_two hv
        clear hv
        cases hz
        cases hu with
        | isl _ _ _ g o cap F hl hi hvv hc ht =>
          have h1 := hi 0 (by simp) 0 (by omega)
          have h2 := hvv 0 (by simp) 0 (by simp)
          change VR Tryd.prog m h (.str x) (F 0 0) at h2
          rw [show o + (0 * (Tryd.prog).cellsOf e + 0) = o by omega] at h1
          have h3 := hw.imm _ _ _ h1
          generalize hF : F 0 0 = f at h2 h3
          cases h2
          exact ⟨_, .str _, (join1C g o cap _ _ w h3).mono fun e w' hx => ⟨hx.1, by rw [hx.2]; exact Only.refl _ _⟩⟩
      · rename_i x y c _
        split at hj
        · rename_i hl2
          injection hj with hj
          subst hj
          obtain rfl := strs_map hxs
          refine ac_new fun m w vs hw hv => ?_
          obtain ⟨u, v, rfl, hu, hz⟩ := vrs_two hv
          clear hv
          cases hz
          cases hu with
          | isl _ _ _ g o cap F hl hi hvv hc ht =>
            have h1 := hi 0 (by simp) 0 (by omega)
            have h2 := hvv 0 (by simp) 0 (by simp)
            have k1 := hi 1 (by simp) 0 (by omega)
            have k2 := hvv 1 (by simp) 0 (by simp)
            change VR Tryd.prog m h (.str x) (F 0 0) at h2
            change VR Tryd.prog m h (.str y) (F 1 0) at k2
            rw [show o + (0 * (Tryd.prog).cellsOf e + 0) = o by omega] at h1
            rw [show o + (1 * (Tryd.prog).cellsOf e + 0) = o + 1 by omega] at k1
            have h4 := hw.imm_lt h1
            have h3 := hw.imm _ _ _ h1
            have k3 := hw.imm _ _ _ k1
            generalize hF : F 0 0 = f at h2 h3
            generalize hF' : F 1 0 = f' at k2 k3
            cases h2
            cases k2
            have := joinC g o cap ⟨x.toArray⟩ ⟨y.toArray⟩ ⟨[c].toArray⟩ w (fun j hj => ?_) rfl (by show x.toArray.size ≤ _; simpa using hl2.1) (by show y.toArray.size ≤ _; simpa using hl2.2) h4 hc
            · refine ⟨_, .str _, this.mono fun e w' ⟨he, hw⟩ => ⟨?_, New.of_below hw⟩⟩
              rw [he]
              simp
            · match j, hj with
              | 0, _ => exact h3
              | 1, _ => exact k3
        · cases hj
      · cases hj
    · cases hr
  · cases hr
end Go.Proofs.YtodehiopdkgoeaaDoor
