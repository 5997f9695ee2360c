/- The walk of the law WorldDoes. Written by gen_worlddoes.py. -/
import Derived.Test.YtacocolcighomaaWorld2
import Derived.Test.YtacocolcighomaaOpen
namespace Go.Proofs.Ytacocolcighomaa
open Go.RowKit

/-- the state of the loop: the World, the law's own numbers and log -/
def WRel (w : World) (b g : Nat) (v5 : Value) (k : Nat) (wr : World) : Prop :=
  ∃ (cs : List Int) (lv : Value) (es : List Ent), IsWorld wr w.heap.size b cs lv es.length (es.flatMap Ent.cells) ∧ wr.ownsRow w.heap.size 34 4 v5 es.length (es.flatMap Ent.cells) ∧
    Blk wr g 2 (cs.map (Value.int .i64)).toArray ∧ w.heap.size ≤ g ∧ (lv.ownBlock = none ∨ lv.ownBlock ≠ v5.ownBlock) ∧ Below w.heap.size w wr ∧ es.length ≤ k

set_option maxRecDepth 100000 in
set_option maxHeartbeats 4000000 in
theorem worldDoes_walk (A : Option Addr) (n cap : Nat) (rows : List (List Int)) (w : World) (hn : rows.length = n) (hrows : ∀ x ∈ rows, x.length = 5) (hs : Sl w 5 A n cap (rows.flatMap icells)) (hmax : n ≤ 9223372036854775807) :
    Law Try.prog 3 #[.slice A n cap] w := by
  unfold Law
  obtain ⟨ie, hie, he0, he1, he2⟩ := info_parts info_Entries
  have hmk : ∀ w : World, (Instr.makeSlice 26 (.int .i64 12) (.int .i64 12)).run Try.prog w = .ok (.slice (some ⟨w.heap.size, 0, none⟩) 12 12) (w.alloc (.cells ((List.replicate 12 0).map (Value.int .i64)).toArray 2)) := fun _ => by kernel_rfl
  by_cases hbig : 300 < n
  · go_enter Try.func3, Try.ntmps3
    go_wp2_with (go_at_call 14; go_must (refine (worldBegun_any _).mono ?_; rintro e w1 ⟨rfl, ho1⟩))
    go_ret
    exact ⟨rfl, ho1.below⟩
  · have h300 : decide ((300 : Int) < (n : Int)) = false := by simp; omega
    go_enter Try.func3, Try.ntmps3
    go_wp2_with (first
      | (go_at_call 14; go_must (refine (worldBegun_any _).mono ?_; rintro e w1 ⟨rfl, ho1⟩))
      | (go_at_call 15; go_must (refine (new_any _).mono ?_; rintro e w2 ⟨rfl, hw2, ho2⟩)))
    have hB := ho1.size
    have hB2 := ho2.size
    have hw2b := hw2.blk.lt
    go_loopw [5, 6] (fun v5 i wr => ∃ k : Nat, k ≤ n ∧ i = .int .i64 k ∧ WRel w w1.heap.size w2.heap.size v5 k wr) (fun _ i _ => n - (intOf i).toNat)
    case atStart =>
      refine ⟨0, by omega, rfl, List.replicate 12 0, .slice none 0 0, [], ?_, World.ownsRow_nil _ _ _ _, Blk.new _ _ _, by omega, .inl rfl, ?_, by simp⟩
      · exact ⟨hw2.len, hw2.blk.alloc _, World.ownsRow_nil _ _ _ _, by omega⟩
      · exact ((ho1.trans (ho2.mono (fun _ _ h => h))).alloc _).below (fun _ h => h.elim) (Nat.le_refl _)
    case round =>
      obtain ⟨k, hk, rfl, cs, lv, es, hw, hown, hg, hgB, hdis, hbel, hes⟩ := hrel
      by_cases hlt : k < n
      · obtain ⟨A9, cap9, rfl, _⟩ := own_form hown
        have hsr := hs.below_ hbel
        obtain ⟨b0, o0, rfl⟩ := hs.some_ (by omega)
        obtain ⟨d, p, c, nn, z, hrk⟩ : ∃ d p c nn z, rows[k] = [d, p, c, nn, z] := by
          have hl := hrows rows[k] (List.getElem_mem _)
          match rows[k], hl with
          | [d, p, c, nn, z], _ => exact ⟨d, p, c, nn, z, rfl⟩
        have hlen : ∀ x ∈ rows, (icells x).length = 5 := fun x hx => by simpa using hrows x hx
        have f0 := hsr.at0 ((flat_get' rows hlen (k := k) (by omega) (j := 0) (by omega)).trans (by rw [hrk]; rfl))
        have f1 := hsr.at_ ((flat_get' rows hlen (k := k) (by omega) (j := 1) (by omega)).trans (by rw [hrk]; rfl))
        have f2 := hsr.at_ ((flat_get' rows hlen (k := k) (by omega) (j := 2) (by omega)).trans (by rw [hrk]; rfl))
        have f3 := hsr.at_ ((flat_get' rows hlen (k := k) (by omega) (j := 3) (by omega)).trans (by rw [hrk]; rfl))
        have f4 := hsr.at_ ((flat_get' rows hlen (k := k) (by omega) (j := 4) (by omega)).trans (by rw [hrk]; rfl))
        simp only [Nat.add_zero] at f0
        clear hrk hlen
        have hlvb : ∀ g', lv.ownBlock = some g' → w.heap.size ≤ g' ∧ g' < wr.heap.size := hw.own.lt
        have hv5b : ∀ g', (Value.slice A9 es.length cap9).ownBlock = some g' → w.heap.size ≤ g' ∧ g' < wr.heap.size := hown.lt
        have hwb := hw.blk.lt
        have hgb := hg.lt
        have hne := hw.ne
        have hneg := own_blk_ne hown hg (by decide)
        have hneb := own_blk_ne hown hw.blk (by decide)
        have hnelg := own_blk_ne hw.own hg (by decide)
        have hbg := hw.blk.ne_ hg (by decide)
        have hsz := hbel.size
        have hal := (Only.refl (fun _ => False) wr).alloc (.cells #[.int .i64 d, .int .i64 p, .int .i64 c, .int .i64 nn, .int .i64 z] 29)
        have hbel1 : Below w.heap.size w (wr.alloc (.cells #[.int .i64 d, .int .i64 p, .int .i64 c, .int .i64 nn, .int .i64 z] 29)) := hbel.new hal
        have hwr1 := hw.only hal (fun h => h) (fun _ _ h => h)
        have hown1 := own_only hown hal (fun _ _ h => h)
        have hg1 := hg.only hal (fun h => h)
        by_cases hd0 : d = 0
        · subst hd0
          by_cases hc : 0 ≤ c ∧ c < 12
          · obtain ⟨hc0, hc1⟩ := hc
            go_wp2_with (first
              | (go_at_call 16; go_must (refine (has_yes hc0 hc1 _).mono ?_; rintro e w' ⟨rfl, rfl⟩))
              | (go_at_call 17; go_must (refine (read_yes hc0 hc1 _ _ _ _ _ _ _ _ _ hwr1 (by omega)).mono ?_; rintro e w3 ⟨rfl, lv3, hw3, ho3, hl3⟩; have hx3 := (Blk.new wr 29 #[.int .i64 0, .int .i64 p, .int .i64 c, .int .i64 nn, .int .i64 z]).only ho3 (by rintro (h | h); omega; have := hlvb _ h.symm; omega); have x1 : w3.cell? ⟨wr.heap.size, 1, none⟩ = some (.int .i64 p) := hx3.cell 1; have x2 : w3.cell? ⟨wr.heap.size, 2, none⟩ = some (.int .i64 c) := hx3.cell 2; have x3 : w3.cell? ⟨wr.heap.size, 3, none⟩ = some (.int .i64 nn) := hx3.cell 3; have hg3 := hg1.only ho3 (by rintro (h | h); exact hbg h.symm; exact hnelg h.symm); have hown3 := own_only hown1 ho3 (by rintro g' h (h' | h'); exact hneb (h.trans (by rw [h'])); rcases hdis with h0 | h0; rw [h0] at h'; cases h'; exact h0 (h'.symm.trans h.symm)); have g3 : w3.cell? ⟨w2.heap.size, c.toNat, none⟩ = some (.int .i64 (cs.getD c.toNat 0)) := (hg3.cell c.toNat).trans (by have := hw.len; simp [List.getD, show c.toNat < cs.length by omega])))
              | (at_builtin; go_must (refine wpList_append1 rfl (.tmp 80) (.tmp 88) 27 rfl w.heap.size 34 ie _ 4 32 Try.underlying27 hie he0 he1 he2 rfl (by decide) (.slice A9 es.length cap9) es.length _ w3 rfl hown3 (entry p c 1 nn) _ (by simp) rfl rfl (entry_one _ _ _ _) (by omega) (by omega) (by have := ho3.size; simp at this; omega) ?_)))
            intro g4 cap4 w4 hown4 ho4 hg4
            have hs3 := ho3.size
            simp at hs3
            have hdd : ∀ g', lv3.ownBlock = some g' → ¬ some g' = (Value.slice A9 es.length cap9).ownBlock := by
              intro g' h h'
              rcases hl3 with h0 | ⟨g0, h0, h1⟩
              · rw [h0] at h
                rcases hdis with h2 | h2
                · rw [h2] at h; cases h
                · exact h2 (h.trans h')
              · rw [h0] at h
                obtain rfl := Option.some.inj h
                have := hv5b _ h'.symm
                simp at h1
                omega
            have hs4 := ho4.size
            have hbel3 : Below w.heap.size w w3 := hbel1.trans (ho3.below (by rintro k' (h | h); omega; exact (hlvb _ h.symm).1) hbel1.size)
            have hbelX := hbel3
            have hwT := hw3.only ho4 (fun h => hneb h.symm) hdd
            have hgT := hg3.only ho4 (fun h => hneg h.symm)
            have hbelT : Below w.heap.size w w4 := hbelX.trans (ho4.below (fun k' h => (hv5b _ h.symm).1) hbelX.size)
            have hdisT : lv3.ownBlock = none ∨ lv3.ownBlock ≠ (Value.slice (some ⟨g4, 0, none⟩) (es.length + 1) cap4).ownBlock := by
              by_cases h : lv3.ownBlock = some g4
              · exfalso
                rcases hg4 with h' | h'
                · exact hdd _ h h'
                · have := own_lt hw3.own h; omega
              · exact .inr h
            have eX : es.flatMap Ent.cells ++ entry p c 1 nn = (es ++ [(⟨p, c, 1, nn⟩ : Ent)]).flatMap Ent.cells := by simp
            have eL : es.length + 1 = (es ++ [(⟨p, c, 1, nn⟩ : Ent)]).length := by simp
            have hownT := hown4
            generalize hes' : es ++ [(⟨p, c, 1, nn⟩ : Ent)] = es' at eX eL
            have hleT : es'.length ≤ k + 1 := by omega
            rw [eX, eL] at hwT hownT
            rw [eL] at hdisT
            rw [eL]
            clear eX eL hes' hown4 hw3 hg3 hdd hown3
            go_wp2_with (first
              | (go_at_call 16; go_must (refine (has_yes hc0 hc1 _).mono ?_; rintro e w' ⟨rfl, rfl⟩))
              | (go_at_call 20; go_must (refine (cells_any _ _ _ _ _ _ _ hwT).mono ?_; rintro e w5 ⟨A5, cap5, rfl, hown5, ho5⟩; have hwT5 := hwT.only ho5 (fun h => h) (fun _ _ h => h); have hgT5 := hgT.only ho5 (fun h => h); have hownT5 := own_only hownT ho5 (fun _ _ h => h); have hbel5 := hbelT.new ho5))
              | (go_at_call 19; go_must (refine (sameLongs_refl A5 _ 12 cap5 12 _ _ hwT5.len (Sl.of_own hown5) (Sl.of_list hgT5 (Nat.le_refl _) (by rw [List.length_map, hwT5.len])) (by omega)).mono ?_; rintro e w6 ⟨rfl, n6, rfl⟩; have hwT6 := hwT5.only ((Only.refl (fun _ => False) _).drewN n6) (fun h => h) (fun _ _ h => h); have hgT6 := hgT5.drewN n6; have hownT6 := own_only hownT5 ((Only.refl (fun _ => False) _).drewN n6) (fun _ _ h => h)))
              | (go_at_call 22; go_must (refine (log_any _ _ _ _ _ _ _ hwT6 (flat_one Ent.one _) (by omega)).mono ?_; rintro e w7 ⟨A7, cap7, rfl, hown7, ho7⟩; have hwT7 := hwT6.only ho7 (fun h => h) (fun _ _ h => h); have hgT7 := hgT6.only ho7 (fun h => h); have hownT7 := own_only hownT6 ho7 (fun _ _ h => h); have hbel7 := (hbel5.drewN_ n6).new ho7))
              | (go_at_call 21; go_must (refine (sameEntries_refl A7 _ _ cap7 _ _ _ rfl (Sl.of_own hown7) (Sl.of_own hownT7) (by omega)).mono ?_; rintro e w8 ⟨rfl, n8, rfl⟩; have hwT8 := hwT7.only ((Only.refl (fun _ => False) _).drewN n8) (fun h => h) (fun _ _ h => h); have hgT8 := hgT7.drewN n8; have hownT8 := own_only hownT7 ((Only.refl (fun _ => False) _).drewN n8) (fun _ _ h => h))))
            go_roundw
            case rel => exact ⟨k + 1, by omega, by go_num, _, _, _, hwT8, hownT8, hgT8, hgB, hdisT, hbel7.drewN_ n8, hleT⟩
            case measure => simp [intOf]; omega
          · have hcc : c < 0 ∨ 12 ≤ c := by omega
            have hwT := hwr1
            have hgT := hg1
            have hownT := hown1
            have hbelT := hbel1
            have hdisT := hdis
            have hleT : es.length ≤ k + 1 := by omega
            rcases hcc with hc0 | hc1
            all_goals
              go_wp2_with (first
                | (go_at_call 16; go_must (refine (has_no hc _).mono ?_; rintro e w' ⟨rfl, rfl⟩))
                | (go_at_call 17; go_must (refine (read_no hc _ _ _ _).mono ?_; rintro e w' ⟨rfl, rfl⟩))
                | (go_at_call 20; go_must (refine (cells_any _ _ _ _ _ _ _ hwT).mono ?_; rintro e w5 ⟨A5, cap5, rfl, hown5, ho5⟩; have hwT5 := hwT.only ho5 (fun h => h) (fun _ _ h => h); have hgT5 := hgT.only ho5 (fun h => h); have hownT5 := own_only hownT ho5 (fun _ _ h => h); have hbel5 := hbelT.new ho5))
                | (go_at_call 19; go_must (refine (sameLongs_refl A5 _ 12 cap5 12 _ _ hwT5.len (Sl.of_own hown5) (Sl.of_list hgT5 (Nat.le_refl _) (by rw [List.length_map, hwT5.len])) (by omega)).mono ?_; rintro e w6 ⟨rfl, n6, rfl⟩; have hwT6 := hwT5.only ((Only.refl (fun _ => False) _).drewN n6) (fun h => h) (fun _ _ h => h); have hgT6 := hgT5.drewN n6; have hownT6 := own_only hownT5 ((Only.refl (fun _ => False) _).drewN n6) (fun _ _ h => h)))
                | (go_at_call 22; go_must (refine (log_any _ _ _ _ _ _ _ hwT6 (flat_one Ent.one _) (by omega)).mono ?_; rintro e w7 ⟨A7, cap7, rfl, hown7, ho7⟩; have hwT7 := hwT6.only ho7 (fun h => h) (fun _ _ h => h); have hgT7 := hgT6.only ho7 (fun h => h); have hownT7 := own_only hownT6 ho7 (fun _ _ h => h); have hbel7 := (hbel5.drewN_ n6).new ho7))
                | (go_at_call 21; go_must (refine (sameEntries_refl A7 _ _ cap7 _ _ _ rfl (Sl.of_own hown7) (Sl.of_own hownT7) (by omega)).mono ?_; rintro e w8 ⟨rfl, n8, rfl⟩; have hwT8 := hwT7.only ((Only.refl (fun _ => False) _).drewN n8) (fun h => h) (fun _ _ h => h); have hgT8 := hgT7.drewN n8; have hownT8 := own_only hownT7 ((Only.refl (fun _ => False) _).drewN n8) (fun _ _ h => h))))
              go_roundw
              case rel => exact ⟨k + 1, by omega, by go_num, _, _, _, hwT8, hownT8, hgT8, hgB, hdisT, hbel7.drewN_ n8, hleT⟩
              case measure => simp [intOf]; omega
        · by_cases hd1 : d = 1
          · subst hd1
            by_cases hc : 0 ≤ c ∧ c < 12
            · obtain ⟨hc0, hc1⟩ := hc
              go_wp2_with (first
                | (go_at_call 16; go_must (refine (has_yes hc0 hc1 _).mono ?_; rintro e w' ⟨rfl, rfl⟩))
                | (go_at_call 18; go_must (refine (write_yes hc0 hc1 _ _ _ _ _ _ _ _ _ _ hwr1 (by omega)).mono ?_; rintro e w3 ⟨rfl, lv3, hw3, ho3, hl3⟩; have hx3 := (Blk.new wr 29 #[.int .i64 1, .int .i64 p, .int .i64 c, .int .i64 nn, .int .i64 z]).only ho3 (by rintro (h | h); omega; have := hlvb _ h.symm; omega); have x2 : w3.cell? ⟨wr.heap.size, 2, none⟩ = some (.int .i64 c) := hx3.cell 2; have x4 : w3.cell? ⟨wr.heap.size, 4, none⟩ = some (.int .i64 z) := hx3.cell 4; have hg3 := hg1.only ho3 (by rintro (h | h); exact hbg h.symm; exact hnelg h.symm); have hown3 := own_only hown1 ho3 (by rintro g' h (h' | h'); exact hneb (h.trans (by rw [h'])); rcases hdis with h0 | h0; rw [h0] at h'; cases h'; exact h0 (h'.symm.trans h.symm)); have g3 : w3.cell? ⟨w2.heap.size, c.toNat, none⟩ = some (.int .i64 (cs.getD c.toNat 0)) := (hg3.cell c.toNat).trans (by have := hw.len; simp [List.getD, show c.toNat < cs.length by omega]); have gf := hg3.frozen c.toNat; have hwgx : w2.heap.size ≠ wr.heap.size := (by omega); have y1 : (w3.setCell ⟨w2.heap.size, c.toNat, none⟩ (.int .i64 z)).cell? ⟨wr.heap.size, 1, none⟩ = some (.int .i64 p) := (hx3.far (by simpa using hwgx.symm) _).cell 1; have y2 : (w3.setCell ⟨w2.heap.size, c.toNat, none⟩ (.int .i64 z)).cell? ⟨wr.heap.size, 2, none⟩ = some (.int .i64 c) := (hx3.far (by simpa using hwgx.symm) _).cell 2; have y3 : (w3.setCell ⟨w2.heap.size, c.toNat, none⟩ (.int .i64 z)).cell? ⟨wr.heap.size, 3, none⟩ = some (.int .i64 nn) := (hx3.far (by simpa using hwgx.symm) _).cell 3; have hset := only_set w3 ⟨w2.heap.size, c.toNat, none⟩ (.int .i64 z); have hown3' := own_only hown3 hset (by intro g' h h'; exact hneg (by rw [h, h']))))
                | (at_builtin; go_must (refine wpList_append1 rfl (.tmp 111) (.tmp 119) 27 rfl w.heap.size 34 ie _ 4 32 Try.underlying27 hie he0 he1 he2 rfl (by decide) (.slice A9 es.length cap9) es.length _ (w3.setCell ⟨w2.heap.size, c.toNat, none⟩ (.int .i64 z)) rfl hown3' (entry p c 2 nn) _ (by simp) rfl rfl (entry_one _ _ _ _) (by omega) (by omega) (by have h1 := ho3.size; have h2 := hset.size; simp at h1; omega) ?_)))
              intro g4 cap4 w4 hown4 ho4 hg4
              have hs3 := ho3.size
              simp at hs3
              have hdd : ∀ g', lv3.ownBlock = some g' → ¬ some g' = (Value.slice A9 es.length cap9).ownBlock := by
                intro g' h h'
                rcases hl3 with h0 | ⟨g0, h0, h1⟩
                · rw [h0] at h
                  rcases hdis with h2 | h2
                  · rw [h2] at h; cases h
                  · exact h2 (h.trans h')
                · rw [h0] at h
                  obtain rfl := Option.some.inj h
                  have := hv5b _ h'.symm
                  simp at h1
                  omega
              have hs4 := ho4.size
              have hbel3 : Below w.heap.size w w3 := hbel1.trans (ho3.below (by rintro k' (h | h); omega; exact (hlvb _ h.symm).1) hbel1.size)
              have hw3X := hw3.only hset (fun h => hbg h) (by rintro g' h h'; have h2 := own_blk_ne hw3.own hg3 (by decide); exact h2 (by rw [h, h']))
              have hg3X : Blk (w3.setCell ⟨w2.heap.size, c.toNat, none⟩ (.int .i64 z)) w2.heap.size 2 ((cs.set c.toNat z).map (Value.int .i64)).toArray := by
                have := hg3.set_ c.toNat (.int .i64 z)
                simpa [List.map_set] using this
              have hbelX := hbel3.only hset (by rintro k' rfl; exact hgB)
              have hs5 := hset.size
              have hwT := hw3X.only ho4 (fun h => hneb h.symm) hdd
              have hgT := hg3X.only ho4 (fun h => hneg h.symm)
              have hbelT : Below w.heap.size w w4 := hbelX.trans (ho4.below (fun k' h => (hv5b _ h.symm).1) hbelX.size)
              have hdisT : lv3.ownBlock = none ∨ lv3.ownBlock ≠ (Value.slice (some ⟨g4, 0, none⟩) (es.length + 1) cap4).ownBlock := by
                by_cases h : lv3.ownBlock = some g4
                · exfalso
                  rcases hg4 with h' | h'
                  · exact hdd _ h h'
                  · have := own_lt hw3.own h; omega
                · exact .inr h
              have eX : es.flatMap Ent.cells ++ entry p c 2 nn = (es ++ [(⟨p, c, 2, nn⟩ : Ent)]).flatMap Ent.cells := by simp
              have eL : es.length + 1 = (es ++ [(⟨p, c, 2, nn⟩ : Ent)]).length := by simp
              have hownT := hown4
              generalize hes' : es ++ [(⟨p, c, 2, nn⟩ : Ent)] = es' at eX eL
              have hleT : es'.length ≤ k + 1 := by omega
              rw [eX, eL] at hwT hownT
              rw [eL] at hdisT
              rw [eL]
              clear eX eL hes' hown4 hw3 hg3 hdd hown3
              go_wp2_with (first
                | (go_at_call 16; go_must (refine (has_yes hc0 hc1 _).mono ?_; rintro e w' ⟨rfl, rfl⟩))
                | (go_at_call 20; go_must (refine (cells_any _ _ _ _ _ _ _ hwT).mono ?_; rintro e w5 ⟨A5, cap5, rfl, hown5, ho5⟩; have hwT5 := hwT.only ho5 (fun h => h) (fun _ _ h => h); have hgT5 := hgT.only ho5 (fun h => h); have hownT5 := own_only hownT ho5 (fun _ _ h => h); have hbel5 := hbelT.new ho5))
                | (go_at_call 19; go_must (refine (sameLongs_refl A5 _ 12 cap5 12 _ _ hwT5.len (Sl.of_own hown5) (Sl.of_list hgT5 (Nat.le_refl _) (by rw [List.length_map, hwT5.len])) (by omega)).mono ?_; rintro e w6 ⟨rfl, n6, rfl⟩; have hwT6 := hwT5.only ((Only.refl (fun _ => False) _).drewN n6) (fun h => h) (fun _ _ h => h); have hgT6 := hgT5.drewN n6; have hownT6 := own_only hownT5 ((Only.refl (fun _ => False) _).drewN n6) (fun _ _ h => h)))
                | (go_at_call 22; go_must (refine (log_any _ _ _ _ _ _ _ hwT6 (flat_one Ent.one _) (by omega)).mono ?_; rintro e w7 ⟨A7, cap7, rfl, hown7, ho7⟩; have hwT7 := hwT6.only ho7 (fun h => h) (fun _ _ h => h); have hgT7 := hgT6.only ho7 (fun h => h); have hownT7 := own_only hownT6 ho7 (fun _ _ h => h); have hbel7 := (hbel5.drewN_ n6).new ho7))
                | (go_at_call 21; go_must (refine (sameEntries_refl A7 _ _ cap7 _ _ _ rfl (Sl.of_own hown7) (Sl.of_own hownT7) (by omega)).mono ?_; rintro e w8 ⟨rfl, n8, rfl⟩; have hwT8 := hwT7.only ((Only.refl (fun _ => False) _).drewN n8) (fun h => h) (fun _ _ h => h); have hgT8 := hgT7.drewN n8; have hownT8 := own_only hownT7 ((Only.refl (fun _ => False) _).drewN n8) (fun _ _ h => h))))
              go_roundw
              case rel => exact ⟨k + 1, by omega, by go_num, _, _, _, hwT8, hownT8, hgT8, hgB, hdisT, hbel7.drewN_ n8, hleT⟩
              case measure => simp [intOf]; omega
            · have hcc : c < 0 ∨ 12 ≤ c := by omega
              have hwT := hwr1
              have hgT := hg1
              have hownT := hown1
              have hbelT := hbel1
              have hdisT := hdis
              have hleT : es.length ≤ k + 1 := by omega
              rcases hcc with hc0 | hc1
              all_goals
                go_wp2_with (first
                  | (go_at_call 16; go_must (refine (has_no hc _).mono ?_; rintro e w' ⟨rfl, rfl⟩))
                  | (go_at_call 18; go_must (refine (write_no hc _ _ _ _ _).mono ?_; rintro e w' ⟨rfl, rfl⟩))
                  | (go_at_call 20; go_must (refine (cells_any _ _ _ _ _ _ _ hwT).mono ?_; rintro e w5 ⟨A5, cap5, rfl, hown5, ho5⟩; have hwT5 := hwT.only ho5 (fun h => h) (fun _ _ h => h); have hgT5 := hgT.only ho5 (fun h => h); have hownT5 := own_only hownT ho5 (fun _ _ h => h); have hbel5 := hbelT.new ho5))
                  | (go_at_call 19; go_must (refine (sameLongs_refl A5 _ 12 cap5 12 _ _ hwT5.len (Sl.of_own hown5) (Sl.of_list hgT5 (Nat.le_refl _) (by rw [List.length_map, hwT5.len])) (by omega)).mono ?_; rintro e w6 ⟨rfl, n6, rfl⟩; have hwT6 := hwT5.only ((Only.refl (fun _ => False) _).drewN n6) (fun h => h) (fun _ _ h => h); have hgT6 := hgT5.drewN n6; have hownT6 := own_only hownT5 ((Only.refl (fun _ => False) _).drewN n6) (fun _ _ h => h)))
                  | (go_at_call 22; go_must (refine (log_any _ _ _ _ _ _ _ hwT6 (flat_one Ent.one _) (by omega)).mono ?_; rintro e w7 ⟨A7, cap7, rfl, hown7, ho7⟩; have hwT7 := hwT6.only ho7 (fun h => h) (fun _ _ h => h); have hgT7 := hgT6.only ho7 (fun h => h); have hownT7 := own_only hownT6 ho7 (fun _ _ h => h); have hbel7 := (hbel5.drewN_ n6).new ho7))
                  | (go_at_call 21; go_must (refine (sameEntries_refl A7 _ _ cap7 _ _ _ rfl (Sl.of_own hown7) (Sl.of_own hownT7) (by omega)).mono ?_; rintro e w8 ⟨rfl, n8, rfl⟩; have hwT8 := hwT7.only ((Only.refl (fun _ => False) _).drewN n8) (fun h => h) (fun _ _ h => h); have hgT8 := hgT7.drewN n8; have hownT8 := own_only hownT7 ((Only.refl (fun _ => False) _).drewN n8) (fun _ _ h => h))))
                go_roundw
                case rel => exact ⟨k + 1, by omega, by go_num, _, _, _, hwT8, hownT8, hgT8, hgB, hdisT, hbel7.drewN_ n8, hleT⟩
                case measure => simp [intOf]; omega
          · have hd0' : (d == 0) = false := by simpa using hd0
            have hd1' : (d == 1) = false := by simpa using hd1
            by_cases hc : 0 ≤ c ∧ c < 12
            · obtain ⟨hc0, hc1⟩ := hc
              have hwT := hwr1
              have hgT := hg1
              have hownT := hown1
              have hbelT := hbel1
              have hdisT := hdis
              have hleT : es.length ≤ k + 1 := by omega
              go_wp2_with (first
                | (go_at_call 16; go_must (refine (has_yes hc0 hc1 _).mono ?_; rintro e w' ⟨rfl, rfl⟩))
                | (go_at_call 20; go_must (refine (cells_any _ _ _ _ _ _ _ hwT).mono ?_; rintro e w5 ⟨A5, cap5, rfl, hown5, ho5⟩; have hwT5 := hwT.only ho5 (fun h => h) (fun _ _ h => h); have hgT5 := hgT.only ho5 (fun h => h); have hownT5 := own_only hownT ho5 (fun _ _ h => h); have hbel5 := hbelT.new ho5))
                | (go_at_call 19; go_must (refine (sameLongs_refl A5 _ 12 cap5 12 _ _ hwT5.len (Sl.of_own hown5) (Sl.of_list hgT5 (Nat.le_refl _) (by rw [List.length_map, hwT5.len])) (by omega)).mono ?_; rintro e w6 ⟨rfl, n6, rfl⟩; have hwT6 := hwT5.only ((Only.refl (fun _ => False) _).drewN n6) (fun h => h) (fun _ _ h => h); have hgT6 := hgT5.drewN n6; have hownT6 := own_only hownT5 ((Only.refl (fun _ => False) _).drewN n6) (fun _ _ h => h)))
                | (go_at_call 22; go_must (refine (log_any _ _ _ _ _ _ _ hwT6 (flat_one Ent.one _) (by omega)).mono ?_; rintro e w7 ⟨A7, cap7, rfl, hown7, ho7⟩; have hwT7 := hwT6.only ho7 (fun h => h) (fun _ _ h => h); have hgT7 := hgT6.only ho7 (fun h => h); have hownT7 := own_only hownT6 ho7 (fun _ _ h => h); have hbel7 := (hbel5.drewN_ n6).new ho7))
                | (go_at_call 21; go_must (refine (sameEntries_refl A7 _ _ cap7 _ _ _ rfl (Sl.of_own hown7) (Sl.of_own hownT7) (by omega)).mono ?_; rintro e w8 ⟨rfl, n8, rfl⟩; have hwT8 := hwT7.only ((Only.refl (fun _ => False) _).drewN n8) (fun h => h) (fun _ _ h => h); have hgT8 := hgT7.drewN n8; have hownT8 := own_only hownT7 ((Only.refl (fun _ => False) _).drewN n8) (fun _ _ h => h))))
              go_roundw
              case rel => exact ⟨k + 1, by omega, by go_num, _, _, _, hwT8, hownT8, hgT8, hgB, hdisT, hbel7.drewN_ n8, hleT⟩
              case measure => simp [intOf]; omega
            · have hcc : c < 0 ∨ 12 ≤ c := by omega
              have hwT := hwr1
              have hgT := hg1
              have hownT := hown1
              have hbelT := hbel1
              have hdisT := hdis
              have hleT : es.length ≤ k + 1 := by omega
              rcases hcc with hc0 | hc1
              all_goals
                go_wp2_with (first
                  | (go_at_call 16; go_must (refine (has_no hc _).mono ?_; rintro e w' ⟨rfl, rfl⟩))
                  | (go_at_call 20; go_must (refine (cells_any _ _ _ _ _ _ _ hwT).mono ?_; rintro e w5 ⟨A5, cap5, rfl, hown5, ho5⟩; have hwT5 := hwT.only ho5 (fun h => h) (fun _ _ h => h); have hgT5 := hgT.only ho5 (fun h => h); have hownT5 := own_only hownT ho5 (fun _ _ h => h); have hbel5 := hbelT.new ho5))
                  | (go_at_call 19; go_must (refine (sameLongs_refl A5 _ 12 cap5 12 _ _ hwT5.len (Sl.of_own hown5) (Sl.of_list hgT5 (Nat.le_refl _) (by rw [List.length_map, hwT5.len])) (by omega)).mono ?_; rintro e w6 ⟨rfl, n6, rfl⟩; have hwT6 := hwT5.only ((Only.refl (fun _ => False) _).drewN n6) (fun h => h) (fun _ _ h => h); have hgT6 := hgT5.drewN n6; have hownT6 := own_only hownT5 ((Only.refl (fun _ => False) _).drewN n6) (fun _ _ h => h)))
                  | (go_at_call 22; go_must (refine (log_any _ _ _ _ _ _ _ hwT6 (flat_one Ent.one _) (by omega)).mono ?_; rintro e w7 ⟨A7, cap7, rfl, hown7, ho7⟩; have hwT7 := hwT6.only ho7 (fun h => h) (fun _ _ h => h); have hgT7 := hgT6.only ho7 (fun h => h); have hownT7 := own_only hownT6 ho7 (fun _ _ h => h); have hbel7 := (hbel5.drewN_ n6).new ho7))
                  | (go_at_call 21; go_must (refine (sameEntries_refl A7 _ _ cap7 _ _ _ rfl (Sl.of_own hown7) (Sl.of_own hownT7) (by omega)).mono ?_; rintro e w8 ⟨rfl, n8, rfl⟩; have hwT8 := hwT7.only ((Only.refl (fun _ => False) _).drewN n8) (fun h => h) (fun _ _ h => h); have hgT8 := hgT7.drewN n8; have hownT8 := own_only hownT7 ((Only.refl (fun _ => False) _).drewN n8) (fun _ _ h => h))))
                go_roundw
                case rel => exact ⟨k + 1, by omega, by go_num, _, _, _, hwT8, hownT8, hgT8, hgB, hdisT, hbel7.drewN_ n8, hleT⟩
                case measure => simp [intOf]; omega
      · go_wp2
        go_ret
        exact ⟨rfl, hbel⟩
end Go.Proofs.Ytacocolcighomaa
