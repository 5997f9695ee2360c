/- Each operation that is no call does in memory what it does in the plain model (further). -/
import Derived.Test.YtacocolcighomaaSound2
namespace Go.Proofs.Ytacocolcighomaa
set_option linter.unusedSimpArgs false
set_option linter.unusedVariables false
open Go Go.RowKit

theorem seg_get {α : Type} (l cs : List α) (o : Nat) (h : o + cs.length ≤ l.length) (j : Nat) :
    (l.take o ++ cs ++ l.drop (o + cs.length))[j]? = if o ≤ j ∧ j < o + cs.length then cs[j - o]? else l[j]? := by
  by_cases h1 : j < o
  · rw [if_neg (by omega), List.append_assoc, List.getElem?_append_left (by simp; omega)]
    simp [h1]
  · by_cases h2 : j < o + cs.length
    · rw [if_pos (by omega), List.append_assoc, List.getElem?_append_right (by simp; omega), List.getElem?_append_left (by simp; omega)]
      congr 1
      simp
      omega
    · rw [if_neg (by omega), List.getElem?_append_right (by simp; omega)]
      rw [List.getElem?_drop]
      congr 1
      simp
      omega

theorem le_mul_of {i n s : Nat} (h : i < n) : i * s + s ≤ n * s := by
  have : (i + 1) * s ≤ n * s := Nat.mul_le_mul_right s h
  rw [Nat.add_mul] at this
  omega

section
variable {P : Program} {m m' : Mm} {h h' : AH} {w w' : World} {t : List AV} {a : Act} {o : Oper}

theorem op_store (hw : WR P m h w) (ht : TR P m h t a.tmps) (ty : TypeId) (x y : Operand) (ho : o.op = .store ty x y) (hi : P.info? ty ≠ none)
    (hv : storeA (szA P ty) h (evA t x) (evA t y) = some h') : OpR P m h a w o .junk h' := by
  have hx := evA_sound ht x
  have hy := evA_sound ht y
  obtain ⟨i0, hi⟩ := Option.ne_none_iff_exists'.1 hi
  have hsz : i0.size = szA P ty := by simp [szA, Program.cellsOf, hi]
  have key : ∃ w', (Instr.storeAt ty (a.eval x) (a.eval y)).run P w = .ok () w' ∧ Ext m h m h' ∧ WR P m h' w' ∧ Below m.base w w' := by
    revert hx hv
    generalize a.eval x = ax
    generalize evA t x = ex
    intro hv hx
    cases hx with
    | ptr b i off hb =>
      simp only [storeA] at hv
      rcases hc : h.cell b with _ | es
      · simp [hc] at hv
      · rcases hr : es[i]? with _ | e
        · simp [hc, hr] at hv
        · simp only [hc, hr, Option.bind_some] at hv
          split at hv
          · rename_i hcond
            obtain ⟨h1, h2, h3⟩ := hcond
            injection hv with hv
            subst hv
            obtain ⟨hc1, hc2⟩ := hy.cells h1
            obtain ⟨cs, hb1, hb2, hb3, hb4, hb5⟩ := hw.live b es hc
            obtain ⟨hie, hre⟩ := List.getElem?_eq_some_iff.1 hr
            have hes : e.length = P.cellsOf (m.bt b) := by rw [← hre]; exact hb3 _ (List.getElem_mem hie)
            generalize hS : P.cellsOf (m.bt b) = S at *
            have hul : (a.eval y).cells.toList.length = szA P ty := by rw [hc1.1, h2]
            have hus : (a.eval y).cells.size = szA P ty := by simpa using hul
            have hiS := le_mul_of (s := S) hie
            have hrun := run_storeCells_at (P := P) (m.blk b) (i * S + off) (m.bt b) (a.eval y).cells.toList 0 cs w hb1 (by rw [hul]; omega) hc2
            have hO : Only (fun k => k = m.blk b) w (w.setRow (m.blk b) (cs.toList.take (i * S + off + 0) ++ (a.eval y).cells.toList ++ cs.toList.drop (i * S + off + 0 + (a.eval y).cells.toList.length)).toArray) :=
              ⟨rfl, rfl, rfl, by simp [World.setRow], fun k _ hk => setRow_other w _ k _ hk⟩
            have hlen : ((cs.toList.take (i * S + off + 0) ++ (a.eval y).cells.toList ++ cs.toList.drop (i * S + off + 0 + (a.eval y).cells.toList.length)).toArray).size = cs.size := by
              simp only [List.size_toArray, List.length_append, List.length_take, List.length_drop, Array.length_toList, hus]
              omega
            have hBk := setRow_heap w _ cs (cs.toList.take (i * S + off + 0) ++ (a.eval y).cells.toList ++ cs.toList.drop (i * S + off + 0 + (a.eval y).cells.toList.length)).toArray _ _ hb1
            have hBl : ∀ k, k < m.base → (w.setRow (m.blk b) (cs.toList.take (i * S + off + 0) ++ (a.eval y).cells.toList ++ cs.toList.drop (i * S + off + 0 + (a.eval y).cells.toList.length)).toArray).heap[k]? = w.heap[k]? := fun k hk => setRow_other w _ k _ (fun e => by
              have := (hw.lt b es hc).2
              omega)
            generalize w.setRow (m.blk b) (cs.toList.take (i * S + off + 0) ++ (a.eval y).cells.toList ++ cs.toList.drop (i * S + off + 0 + (a.eval y).cells.toList.length)).toArray = w1 at *
            refine ⟨w1, by simp [Instr.storeAt, Instr.sureAddr, storeVar, sizeOf, typeInfo, hi, hsz, hus, hrun], ?_⟩
            obtain ⟨hX, hW⟩ := hw.turn hc (es' := es.set i (stA e off (evA t y).cells)) hO _ hBk (by rw [hlen, hb2]) (by
              intro r hr'
              rw [hS]
              rcases List.mem_or_eq_of_mem_set hr' with hq | hq
              · exact hb3 r hq
              · rw [hq, stA]
                simp only [List.length_append, List.length_take, List.length_drop]
                omega) (by rw [hlen, hS, List.length_set]; exact hb4) (by
              intro i' hi' j hj
              rw [hS]
              have hi2 : i' < es.length := by simpa using hi'
              simp only [List.getElem?_toArray]
              rw [seg_get _ _ _ (by rw [hul]; simp; omega)]
              by_cases e1 : i' = i
              · subst e1
                have hrow : (es.set i' (stA e off (evA t y).cells))[i'] = stA e off (evA t y).cells := by simp
                have hj' : j < (stA e off (evA t y).cells).length := by rw [hrow] at hj; exact hj
                have hg : (stA e off (evA t y).cells)[j]? = some (stA e off (evA t y).cells)[j] := List.getElem?_eq_getElem hj'
                have hg2 : (e.take off ++ (evA t y).cells ++ e.drop (off + (evA t y).cells.length))[j]? = some (stA e off (evA t y).cells)[j] := hg
                rw [seg_get _ _ _ (by omega)] at hg2
                have goal' : ∀ v, VR P m h (stA e off (evA t y).cells)[j] v → VR P m h (es.set i' (stA e off (evA t y).cells))[i'][j] v := by
                  intro v hv
                  simpa only [hrow] using hv
                by_cases e2 : off ≤ j ∧ j < off + (evA t y).cells.length
                · rw [if_pos e2] at hg2
                  rw [if_pos (by rw [hul]; omega)]
                  obtain ⟨u, hu1, hu2⟩ := hc1.get? hg2
                  refine ⟨u, ?_, goal' u hu2⟩
                  rw [← hu1]
                  congr 1
                  omega
                · rw [if_neg e2] at hg2
                  rw [if_neg (by rw [hul]; omega)]
                  obtain ⟨hje, hge⟩ := List.getElem?_eq_some_iff.1 hg2
                  obtain ⟨v, hv1, hv2⟩ := hb5 i' hi2 j (by rw [hre]; exact hje)
                  refine ⟨v, by simpa using hv1, goal' v ?_⟩
                  rw [← hge]
                  simpa only [hre] using hv2
              · have hrow : (es.set i (stA e off (evA t y).cells))[i'] = es[i'] := by simp [Ne.symm e1]
                have hj' : j < es[i'].length := by rw [hrow] at hj; exact hj
                have hjS : j < S := by rw [hb3 _ (List.getElem_mem hi2)] at hj'; exact hj'
                rw [if_neg (by
                  rw [hul]
                  rcases Nat.lt_or_gt_of_ne e1 with hq | hq
                  · have := le_mul_of (s := S) hq
                    omega
                  · have := le_mul_of (s := S) hq
                    omega)]
                obtain ⟨v, hv1, hv2⟩ := hb5 i' hi2 j hj'
                exact ⟨v, by simpa using hv1, by simpa only [hrow] using hv2⟩)
            exact ⟨hX, hW, ⟨hO.os, hO.tape, hO.output, hO.size, hBl⟩⟩
          · cases hv
    | _ => simp [storeA] at hv
  obtain ⟨w', h1, h2, h3, h4⟩ := key
  exact ⟨m, w', undef, .inr ⟨by simp [execOp, ho, h1], rfl⟩, h2, h3, .junk _, h4⟩
end
end Go.Proofs.Ytacocolcighomaa
