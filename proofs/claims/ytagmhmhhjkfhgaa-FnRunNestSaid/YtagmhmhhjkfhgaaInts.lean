/- Contracts of functions that copy and spoil lists of numbers. -/
import Derived.Test.YtagmhmhhjkfhgaaReader
import Derived.Test.YtagmhmhhjkfhgaaRow
set_option linter.unusedVariables false
set_option linter.unusedSimpArgs false
set_option linter.unnecessarySimpa false
namespace Go.Proofs.Ytagmhmhhjkfhgaa
open Go.RowKit

theorem intInfo : (Try.prog.info? 3).map (fun i => (i.zero, i.size, i.bytes)) = some (some (.int .i64 0), 1, 8) := by kernel_rfl
/-- New memory that reads as these numbers is handed back; what was there is as it was. -/
def RetInts (zs : List Int) (w : World) (e : Ending) (w' : World) : Prop :=
  ∃ A c, e = .returned (.slice A zs.length c) ∧ w'.ownsRow w.heap.size 3 1 (.slice A zs.length c) zs.length (zs.map (.int .i64)) ∧ Below w.heap.size w w'


set_option maxHeartbeats 1000000 in
theorem copyInts_c (zs : List Int) (A : Option Addr) (n c : Nat) (w : World) (hN : zs.length = n) (h : Rd w A (zs.map (.int .i64))) (hn : n ≤ 1073741824) :
    Calls Try.prog 44 #[.slice A n c] w (RetInts zs w) := by
  have H := Lib.hid h; clear h
  subst hN
  obtain ⟨i0, i0_i, i0_z0, i0_z1, i0_z2⟩ := info_parts intInfo
  go_enter Try.func44, Try.ntmps44
  go_wp2_with (at_builtin; (refine wpList_append_any _ rfl (.tmp 3) (.tmp 4) 23 rfl w.heap.size 3 i0 (.int .i64 0) 8 Try.underlying23 i0_i i0_z0 i0_z1 i0_z2 rfl (.slice (some ⟨w.heap.size, 0, none⟩) 0 0) (0) ([]) rfl (World.ownsRow_lit _ #[] 0 (Nat.le_refl _) (by simp [maxLen]) rfl) (A) (zs.length) (c) (zs.map (.int .i64)) rfl (by simp) (H.out.alloc _) (int1 .i64 zs) (by unfold maxLen; omega) (by omega) (by simp <;> omega) ?_))
  intro A2 c2 w2 own2 hg2 _
  have hb : Below w.heap.size w w2 := ((Below.refl _ _).alloc (Nat.le_refl _) _).grown hg2 (by simp) (fun y hy => by simp [Value.ownBlock] at hy; omega)
  try simp only [Nat.zero_add, List.nil_append] at own2
  clear hg2
  go_wp2_with fail
  go_ret
  exact ⟨A2, c2, rfl, own2, hb⟩

/-- What spoil answers: a list of at most one element more. -/
def RetSpoil (B g p : Nat) (L : Nat) (w : World) (e : Ending) (w' : World) : Prop :=
  ∃ (A : Option Addr) (c : Nat) (ys : List Int) (q : Nat), e = .returned (.slice A ys.length c) ∧ ys.length ≤ L + 1 ∧ ys.length ≤ c ∧ Frd w' w.heap.size A (ys.map (.int .i64)) ∧ Rdr w' B g q ∧ q ≤ p + 3 ∧ w.grownBy w' (some g)
set_option maxRecDepth 100000 in
set_option maxHeartbeats 2000000 in
theorem spoil_c (B g p : Nat) (zs : List Int) (A : Option Addr) (n c : Nat) (v : Int) (w : World) (hr : Rdr w B g p) (hp : p ≤ 1000000) (hN : zs.length = n) (h : Rd w A (zs.map (.int .i64))) (hn : n ≤ 1073741824) :
    Calls Try.prog 43 #[.pointer (some ⟨g, 0, none⟩), .slice A n c, .int .i64 v] w (RetSpoil B g p n w) := by
  obtain ⟨i0, i0_i, i0_z0, i0_z1, i0_z2⟩ := info_parts intInfo
  have hgB := hr.1
  have hBw := hr.2.1
  subst hN
  have HC := Lib.hid (copyInts_c zs A zs.length c w rfl h hn)
  clear h
  go_enter Try.func43, Try.ntmps43
  go_wp2_with fail
  refine HC.out.mono ?_
  rintro e w1 ⟨A1, c1, rfl, own1, b1⟩
  have hs1 := b1.size
  have hcap := own_cap own1
  have hr1 := hr.below b1
  clear HC hr
  go_wp2_with fail
  refine (pick_c B g p 20 w1 hr1 (by omega) (by omega) (by omega)).mono ?_
  rintro e w2 ⟨k, hk, rfl, hr2, hg2⟩
  have own2 := own_keep own1 hg2 (by omega)
  have g2 : w.grownBy w2 (some g) := only_trans (only_of_below b1 (some g)) hg2
  have hs2 := g2.size
  clear own1 b1 hr1 hg2
  have fin : RetSpoil B g p zs.length w (.returned (.slice A1 zs.length c1)) w2 :=
    ⟨A1, c1, zs, p + 1, rfl, by omega, hcap, Frd.of_own own2, hr2, by omega, g2⟩
  have FIN := Lib.hid fin; clear fin
  by_cases k0 : k = 0
  · subst k0
    go_wp2_with (at_builtin; (refine wpList_append_any _ rfl (.tmp 14) (.tmp 16) 23 rfl w.heap.size 3 i0 (.int .i64 0) 8 Try.underlying23 i0_i i0_z0 i0_z1 i0_z2 rfl (.slice A1 zs.length c1) (zs.length) (zs.map (.int .i64)) rfl (own2.alloc _) (some ⟨w2.heap.size, 0, none⟩) (1) (1) ([.int .i64 v]) rfl rfl (Rd.one (cell_new _ _ _ 0)) (one1 _ rfl) (by unfold maxLen; omega) (by omega) (by simp <;> omega) ?_))
    intro A3 c3 w3 own3 hg3 _
    have hr3 : Rdr w3 B g (p + 1) := (hr2.alloc _).grown hg3 (fun y hy => by have := (own2.lt y hy).1; omega)
    have g3 : w.grownBy w3 (some g) := only_then (only_alloc g2 _) hg3 (fun y hy => .inr (own2.lt y hy).1)
    have hcap3 := own_cap own3
    have fin : RetSpoil B g p zs.length w (.returned (.slice A3 (zs.length + 1) c3)) w3 := by
      refine ⟨A3, c3, zs ++ [v], p + 1, by simp, by simp, by simpa using hcap3, Frd.of_own (n := zs.length + 1) (c := c3) (e := 3) (by simpa using own3), hr3, by omega, g3⟩
    have FIN3 := Lib.hid fin; clear fin own2 own3 hg3 hr2 hr3 g2 g3 FIN
    go_wp2_with fail
    go_ret
    exact FIN3.out
  · have k0' : ((k : Int) == 0) = false := beq_eq_false_iff_ne.2 (by omega)
    by_cases k1 : k = 1
    · subst k1
      rcases Nat.eq_zero_or_pos zs.length with h0 | h0
      · have h0' : ¬ 0 < zs.length := by omega
        have h0'' : decide (0 < zs.length) = false := decide_eq_false h0'
        clear h0
        go_wp2_with fail
        go_ret
        exact FIN.out
      · have hcut := (Rd.of_own own2).cut (k := 1) (n := zs.length) (cap := c1) (by simp) h0 hcap
        have hfr : Frd w2 w.heap.size (if c1 = 1 then A1 else A1.map (·.add 1)) ((zs.drop 1).map (.int .i64)) := by
          intro hp
          rw [← List.map_drop] at hcut
          obtain ⟨b, off, e, hc⟩ := hcut hp
          obtain ⟨g1, cap, hv, hb, _⟩ := own2.form h0
          obtain ⟨hA, hcc⟩ : A1 = some ⟨g1, 0, none⟩ ∧ c1 = cap := by simpa using hv
          refine ⟨b, off, e, ?_, hc⟩
          rw [hA] at e
          split at e
          · injection e with e; injection e with e1; omega
          · simp [add_none] at e; omega
        have fin : RetSpoil B g p zs.length w (.returned (.slice (if c1 = 1 then A1 else A1.map (·.add 1)) (zs.length - 1) (c1 - 1))) w2 :=
          ⟨_, c1 - 1, zs.drop 1, p + 1, by simp, by simp; omega, by simp; omega, hfr, hr2, by omega, g2⟩
        clear hcut hfr FIN
        by_cases hc1 : c1 = 1
        · rw [if_pos hc1] at fin
          subst hc1
          rw [show zs.length - 1 = 0 by omega] at fin
          have FIN := Lib.hid fin; clear fin
          go_wp2_with fail
          go_ret
          exact FIN.out
        · rw [if_neg hc1] at fin
          have FIN := Lib.hid fin; clear fin
          go_wp2_with fail
          go_ret
          exact FIN.out
    · have k1' : ((k : Int) == 1) = false := beq_eq_false_iff_ne.2 (by omega)
      by_cases k2 : k = 2
      · subst k2
        rcases Nat.eq_zero_or_pos zs.length with h0 | h0
        · have h0' : ¬ 0 < zs.length := by omega
          have h0'' : decide (0 < zs.length) = false := decide_eq_false h0'
          clear h0
          go_wp2_with fail
          go_ret
          exact FIN.out
        · clear FIN
          go_wp2_with fail
          refine (pick_c B g (p + 1) zs.length w2 hr2 (by omega) h0 (by omega)).mono ?_
          rintro e w3 ⟨j, hj, rfl, hr3, hg3⟩
          have own3 := own_keep own2 hg3 (by omega)
          have g3 := only_trans g2 hg3
          have hs3 := g3.size
          clear own2 hg3 g2 hr2
          go_wp2_with fail
          refine (one_c B g (p + 1 + 1) [-1, v, 0, 1] _ _ _ _ (hr3.alloc _) (by omega) rfl (by simp) (by simp) (Rd.lit (Value.int .i64) [-1, v, 0, 1] rfl (by simp) rfl) (fun b off e => by
            injection e with e; injection e with e; omega)).mono ?_
          rintro e w4 ⟨x, hx, rfl, hr4, hg4⟩
          have own4 := own_keep (own3.alloc _) hg4 (by omega)
          have g4 := only_trans (only_alloc g3 _) hg4
          clear own3 hg4 g3 hr3 hx
          obtain ⟨g1, cap, hv, hb, _⟩ := own4.form h0
          obtain ⟨hA, hcc⟩ : A1 = some ⟨g1, 0, none⟩ ∧ c1 = cap := by simpa using hv
          subst hA hcc
          have ho : ∃ u, w4.cell? ⟨g1, j, none⟩ = some u := ⟨_, (own4.cellAt j (by omega)).trans (List.getElem?_eq_getElem (by simp; omega))⟩
          obtain ⟨u, ho⟩ := ho
          have hfz : w4.frozen? ⟨g1, j, none⟩ = false := own4.frozenAt j
          have hst := (own4.stored j (.int .i64 x)).1
          rw [← List.map_set] at hst
          have fin : RetSpoil B g p zs.length w (.returned (.slice (some ⟨g1, 0, none⟩) zs.length c1)) (w4.setCell ⟨g1, j, none⟩ (.int .i64 x)) := by
            refine ⟨some ⟨g1, 0, none⟩, c1, zs.set j x, p + 3, by rw [List.length_set], by rw [List.length_set]; omega, by simpa using hcap, ?_, ?_, by omega, only_setCell g4 (.inr hb) _⟩
            · exact Frd.of_own (n := zs.length) (c := c1) (e := 3) hst
            · exact hr4.grown (row := some g1) (only_setCell (World.grownBy.refl _ _) (.inl rfl) _) (fun y hy => by injection hy; omega)
          have FIN := Lib.hid fin; clear fin hst own4 g4 hr4 hv
          go_wp2_with fail
          go_ret
          exact FIN.out
      · have k2' : ((k : Int) == 2) = false := beq_eq_false_iff_ne.2 (by omega)
        go_wp2_with fail
        go_ret
        exact FIN.out
end Go.Proofs.Ytagmhmhhjkfhgaa
