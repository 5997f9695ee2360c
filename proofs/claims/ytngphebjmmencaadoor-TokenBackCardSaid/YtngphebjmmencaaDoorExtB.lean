/- What the library's Itoa, and a Builder's copyCheck and String, do in the plain model. -/
import Derived.Test.YtngphebjmmencaaDoorBuild
import Derived.Test.YtngphebjmmencaaDoorExtS
namespace Go.Proofs.YtngphebjmmencaaDoor
set_option linter.unusedSimpArgs false
set_option linter.unusedVariables false
open Go Go.Proofs Go.RowKit

theorem vrs_one {P : Program} {m : Mm} {h : AH} {a : AV} {vs : List Value} (hv : VRs P m h [a] vs) : ∃ u, vs = [u] ∧ VR P m h a u := by
  obtain ⟨h1, h2⟩ := hv
  match vs, h1 with
  | [u], _ => exact ⟨u, rfl, h2 0 (by simp) (by simp)⟩
theorem itoaC2 (n : Int) (h0 : -9223372036854775808 ≤ n) (h1 : n ≤ 9223372036854775807) (w : World) (htab : Lib.TabIs Tryd.prog w ("internal" ++ String.singleton (Char.ofNat 47) ++ "strconv.uint64pow10") .u64 Lib.pow10Tab) :
    Calls Tryd.prog 66 #[.int .i64 n] w fun e w' => e = .returned (.string ⟨(Lib.itoa n).toArray⟩) ∧ New w w' := by
  have := Any.strconv_Itoa laysM171 n h0 h1 w htab
  refine this.mono fun e w' ⟨h1, k, os, h2⟩ => ⟨h1, ?_⟩
  subst h2
  exact New.of_below (below_growD _ _ (Nat.le_refl _) k os)
theorem itoa_ac {args : List AV} {h : AH} {r : (AV ⊕ AV) × AH} (hr : itoaF args h = some r) : AC Tryd.prog 66 args h r := by
  unfold itoaF at hr
  split at hr
  · rename_i n
    split at hr
    · rename_i hh
      obtain ⟨h0, h1⟩ := hh
      injection hr with hr
      subst hr
      refine ac_new fun m w vs hw hv => ?_
      obtain ⟨u, rfl, hu⟩ := vrs_one hv
      cases hu
      refine ⟨_, .str _, itoaC2 n h0 h1 w ?_⟩
      exact (hw.good.tabs _ (by rw [kept_eq]; exact List.mem_singleton.2 rfl)).1
    · cases hr
  · cases hr

section
variable {P : Program} {m : Mm} {h : AH} {w w' : World}
/-- a block's first cell is set -/
theorem WR.first (hw : WR P m h w) {b : Nat} {a a' : AV} {row : List AV} (hb : h.cell b = some [a :: row]) {v : Value} (hv : VR P m h a' v) (h1 : v.oneCell' = true) :
    Ext m h m (h.set b (some [a' :: row])) ∧ WR P m (h.set b (some [a' :: row])) (w.setCell ⟨m.blk b, 0, none⟩ v) := by
  obtain ⟨cs, c1, c2, c3, c4, c5⟩ := hw.live b _ hb
  have hl : (a :: row).length = P.cellsOf (m.bt b) := c3 _ (by simp)
  have hS : 0 < cs.size := by
    simp only [List.length_cons, List.length_nil] at c4 hl
    omega
  refine hw.turn hb (w' := w.setCell ⟨m.blk b, 0, none⟩ v) ((Only.refl (fun k => k = m.blk b) w).setCell (p := ⟨m.blk b, 0, none⟩) (.inl rfl) v) (cs.setIfInBounds 0 v) (c1.set_ 0 v) (by simp [c2]) (by simpa using hl) (by simpa using c4) (fun i hi j hj => ?_)
  have hi0 : i = 0 := by simpa using hi
  subst hi0
  cases j with
  | zero => exact ⟨v, by simp [hS], hv⟩
  | succ j =>
    obtain ⟨u, u1, u2⟩ := c5 0 (by simp) (j + 1) (by simpa using hj)
    refine ⟨u, ?_, u2⟩
    rw [Array.getElem?_setIfInBounds_ne (by omega)]
    exact u1
/-- a block is spoken of no more -/
theorem WR.drop (hw : WR P m h w) {b : Nat} {es : List (List AV)} (hb : h.cell b = some es) (ho : Only (fun k => k = m.blk b) w w') : Ext m h m (h.set b none) ∧ WR P m (h.set b none) w' := by
  have hx : Ext m h m (h.set b none) := ⟨rfl, Nat.le_refl _, Nat.le_refl _, fun _ _ => ⟨rfl, rfl, rfl⟩, fun _ _ _ h => h, fun _ _ => ⟨rfl, Nat.le_refl _, fun _ => ⟨rfl, rfl⟩⟩⟩
  refine ⟨hx, ?_⟩
  have up : ∀ q x, (h.set b none).cell q = some x → q ≠ b ∧ h.cell q = some x := by
    intro q x hq
    by_cases e : q = b
    · subst e
      simp [AH.set] at hq
    · exact ⟨e, by simpa [AH.set, e] using hq⟩
  have hw0 : WR P m (h.set b none) w := by
    refine ⟨hw.size, fun q x hq => hw.lt q x (up q x hq).2, fun q x hq => ?_, fun q q' x x' hq hq' => hw.inj q q' x x' (up q x hq).2 (up q' x' hq').2, hw.imm, fun q x hq => hw.sep q x (up q x hq).2, hw.tip, hw.tfree, fun k hk q x hq => hw.tblk k hk q x (up q x hq).2, hw.tinj, hw.good⟩
    obtain ⟨cs, c1, c2, c3, c4, c5⟩ := hw.live q x (up q x hq).2
    refine ⟨cs, c1, c2, c3, c4, fun i hi j hj => ?_⟩
    obtain ⟨v, v1, v2⟩ := c5 i hi j hj
    exact ⟨v, v1, v2.ext hx⟩
  refine hw0.only ho (fun q x hq e => (up q x hq).1 (hw.inj _ _ _ _ (up q x hq).2 hb e)) (fun g o v hi e => ?_) (fun k hk e => hw.tblk k hk b es hb e.symm) (fun g hg e => ?_)
  · subst e
    rw [hw.sep b es hb o] at hi
    cases hi
  · have := (hw.lt b es hb).2
    omega
end

theorem buildT_ok : buildT.all (fun T => rowAt Tryd.prog (sameLayout Tryd.prog (Tryd.prog).depth · (ren.t 72)) (Tryd.prog).depth T 1 0 1) = true := by kernel_rfl
theorem depth_ne : (Tryd.prog).depth ≠ 0 := by
  intro e
  have : ((Tryd.prog).depth == 0) = false := by kernel_rfl
  rw [e] at this
  cases this
theorem lays240 : Go.Proofs.Lays.n240 Tryd.prog ren := { lays166 with }

set_option maxRecDepth 100000 in
theorem cc_ac {args : List AV} {h : AH} {r : (AV ⊕ AV) × AH} (hr : ccF args h = some r) : AC Tryd.prog 65 args h r := by
  unfold ccF at hr
  split at hr
  · rename_i T b
    split at hr
    · rename_i hT
      split at hr
      · rename_i row hc
        injection hr with hr
        subst hr
        intro m w vs hw hv
        obtain ⟨u, rfl, hu⟩ := vrs_one hv
        cases hu with
        | tptr _ _ hb hbt =>
          subst hbt
          obtain ⟨cs, c1, c2, c3, c4, c5⟩ := hw.live b _ hc
          have hl := c3 (.nilp :: row) (by simp)
          obtain ⟨v, v1, v2⟩ := c5 0 (by simp) 0 (by simp)
          simp only [Nat.zero_mul, Nat.zero_add] at v1
          simp only [List.getElem_cons_zero] at v2
          cases v2
          simp only [List.length_cons, List.length_nil, Nat.zero_add, Nat.one_mul] at c4 hl
          have hpos : 0 < (Tryd.prog).cellsOf (m.bt b) := by omega
          have h0 : w.cell? ⟨m.blk b, 0, none⟩ = some (.pointer none) := by rw [c1.cell]; exact v1
          have hsh : w.shape? (m.blk b) = some (m.bt b, cs.size) := by
            have c1' : w.heap[m.blk b]? = some (.cells cs (m.bt b) (0, 0)) := c1
            simp [World.shape?, c1']
          have hlies : liesAt Tryd.prog (Tryd.prog).depth (m.bt b) (cs.size / (Tryd.prog).cellsOf (m.bt b)) 0 (ren.t 72) 1 = true := by
            refine lies_more depth_ne ((Nat.le_div_iff_mul_le hpos).2 (by omega)) ?_
            exact List.all_eq_true.1 buildT_ok (m.bt b) (List.contains_iff_mem.1 hT)
          refine (cc_fresh lays240 extra.toX72 (m.bt b) cs.size (m.blk b) w h0 hsh (by omega) hlies (c1.frozen 0)).mono fun e w' ⟨he, hw'⟩ => ?_
          subst hw'
          obtain ⟨x1, x2⟩ := hw.first hc (VR.tptr (m.bt b) b hb rfl) rfl
          have hbl : m.base ≤ m.blk b := (hw.lt b _ hc).2
          exact ⟨m, x1, x2, (Below.refl _ w).setCell (p := ⟨m.blk b, 0, none⟩) hbl _, _, he, .tup [] [] rfl (fun j hj => by simp at hj)⟩
      · rename_i T' b' row hc
        split at hr
        · rename_i hh
          obtain ⟨rfl, rfl⟩ := hh
          injection hr with hr
          subst hr
          refine ac_new fun m w vs hw hv => ?_
          obtain ⟨u, rfl, hu⟩ := vrs_one hv
          cases hu with
          | tptr _ _ hb hbt =>
            obtain ⟨cs, c1, c2, c3, c4, c5⟩ := hw.live b' _ hc
            obtain ⟨v, v1, v2⟩ := c5 0 (by simp) 0 (by simp)
            simp only [Nat.zero_mul, Nat.zero_add] at v1
            simp only [List.getElem_cons_zero] at v2
            cases v2
            have h0 : w.cell? ⟨m.blk b', 0, none⟩ = some (.pointer (some ⟨m.blk b', 0, none⟩)) := by rw [c1.cell]; exact v1
            exact ⟨_, .tup [] [] rfl (fun j hj => by simp at hj), (Any.Builder_copyCheck_used lays240 extra.toX72 (m.blk b') w h0).mono fun e w' ⟨he, hw'⟩ => ⟨he, by rw [hw']; exact Only.refl _ _⟩⟩
        · cases hr
      · cases hr
    · cases hr
  · cases hr

theorem u8of_some : ∀ {rs : List (List AV)} {l : List UInt8}, u8of rs = some l → rs = bytesA l
  | [], l, h => by
    injection h with h
    rw [← h]
    rfl
  | [.int .u8 n] :: r, l, h => by
    simp only [u8of] at h
    split at h
    · rename_i hn
      obtain ⟨q, hq, rfl⟩ := Option.map_eq_some_iff.1 h
      rw [u8of_some hq]
      have : ((UInt8.ofNat n.toNat).toNat : Int) = n := by
        rw [UInt8.toNat_ofNat']
        omega
      simp only [bytesA, List.map_cons, this]
    · cases h
theorem u8of_bytes : ∀ l : List UInt8, u8of (bytesA l) = some l
  | [] => rfl
  | c :: l => by
    have h1 : (0 : Int) ≤ (c.toNat : Int) ∧ (c.toNat : Int) < 256 := by
      have := c.toNat_lt
      omega
    simp only [bytesA, List.map_cons, u8of]
    rw [if_pos h1]
    have := u8of_bytes l
    simp only [bytesA] at this
    rw [this]
    simp

set_option maxRecDepth 100000 in
theorem bstr_ac {args : List AV} {h : AH} {r : (AV ⊕ AV) × AH} (hr : bstrF args h = some r) : AC Tryd.prog 46 args h r := by
  unfold bstrF at hr
  split at hr
  · rename_i T b
    split at hr
    · rename_i a0 row hc
      injection hr with hr
      subst hr
      refine ac_new fun m w vs hw hv => ?_
      obtain ⟨u, rfl, hu⟩ := vrs_one hv
      cases hu with
      | tptr _ _ hb hbt =>
        obtain ⟨cs, c1, c2, c3, c4, c5⟩ := hw.live b _ hc
        obtain ⟨v, v1, v2⟩ := c5 0 (by simp) 1 (by simp)
        simp only [Nat.zero_mul, Nat.zero_add] at v1
        simp only [List.getElem_cons_succ, List.getElem_cons_zero] at v2
        cases v2
        exact ⟨_, .str [], str_nil lays169 extra (m.blk b) w (by rw [c1.cell]; exact v1)⟩
    · rename_i a0 b' n e row hc
      split at hr
      · rename_i hh
        obtain ⟨rfl, hn0⟩ := hh
        obtain ⟨rs, hrs, hr⟩ := Option.bind_eq_some_iff.1 hr
        split at hr
        · rename_i hlen
          obtain ⟨l, hl, hr⟩ := Option.map_eq_some_iff.1 hr
          subst hr
          obtain rfl := u8of_some hl
          intro m w vs hw hv
          obtain ⟨u, rfl, hu⟩ := vrs_one hv
          cases hu with
          | tptr _ _ hb hbt =>
            obtain ⟨cs, c1, c2, c3, c4, c5⟩ := hw.live b _ hc
            obtain ⟨v, v1, v2⟩ := c5 0 (by simp) 1 (by simp)
            simp only [Nat.zero_mul, Nat.zero_add] at v1
            simp only [List.getElem_cons_succ, List.getElem_cons_zero] at v2
            cases v2 with
            | msl _ _ _ _ cap hb' he' hcap hnc hmx =>
              obtain ⟨ds, d1, d2, d3, d4, d5⟩ := hw.live b' _ hrs
              have hcb : (Tryd.prog).cellsOf 5 = 1 := extra.cellsByte
              rw [he', hcb] at d3 d4 d5
              rw [he'] at d1
              rw [hcb, Nat.zero_add, Nat.mul_one] at hcap
              have hll : l.length = n := by simpa using hlen
              have h0 : w.cell? ⟨m.blk b, 1, none⟩ = some (.slice (some ⟨m.blk b', 0, none⟩) l.length cap) := by
                rw [c1.cell, v1, hll]
                simp
              refine (str_some lays169 extra (m.blk b) (m.blk b') cap ds l w (fun e => hn0 (by rw [← hll, e]; rfl)) h0 d1 (by omega) hmx (by omega) (fun j x hj => ?_)).mono fun e w' ⟨he, ho⟩ => ?_
              · obtain ⟨hj', rfl⟩ := List.getElem?_eq_some_iff.1 hj
                obtain ⟨u, u1, u2⟩ := d5 j (by simpa using hj') 0 (by simp)
                have er : (bytesA l)[j]'(by simpa using hj') = [.int .u8 l[j].toNat] := by simp [bytesA]
                simp only [er, List.getElem_cons_zero] at u2
                cases u2
                simpa using u1
              · obtain ⟨x1, x2⟩ := hw.drop hrs ho
                have hbl : m.base ≤ m.blk b' := (hw.lt b' _ hrs).2
                exact ⟨m, x1, x2, Only.below ho (fun k hk => by rw [hk]; exact hbl) hw.size, _, he, .str l⟩
        · cases hr
      · cases hr
    · cases hr
  · cases hr
end Go.Proofs.YtngphebjmmencaaDoor
