/- Settings that the laws draw. -/
import Derived.Test.YtmphjojhfmikeaaDoorReader
import Derived.Test.YtmphjojhfmikeaaDoorSets
set_option linter.unusedVariables false
set_option linter.unusedSimpArgs false
set_option linter.unnecessarySimpa false
namespace Go.Proofs.YtmphjojhfmikeaaDoor
open Go.RowKit

theorem intInfo : (Tryd.prog.info? 3).map (fun i => (i.zero, i.size, i.bytes)) = some (some (.int .i64 0), 1, 8) := by kernel_rfl
theorem Rd.two (w : World) (a b : Value) (t : TypeId) : Rd (w.alloc (.cells #[a, b] t)) (some ⟨w.heap.size, 0, none⟩) [a, b] := fun _ => ⟨w.heap.size, 0, rfl, fun j u hu => by
  rw [Nat.zero_add, cell_new]
  match j, hu with
  | 0, hu => simpa using hu
  | 1, hu => simpa using hu
  | (n + 2), hu => simp at hu⟩
theorem two1 (a b : Int) : ∀ u ∈ [Value.int .i64 a, .int .i64 b], u.oneCell' = true := fun u hu => by
  simp at hu
  rcases hu with rfl | rfl <;> rfl
/-- What anySettings answers: at most 11 pairs in new memory. -/
def RetAnyS (B g p : Nat) (w : World) (e : Ending) (w' : World) : Prop :=
  ∃ (A : Option Addr) (c : Nat) (xs : List Pr) (q : Nat), e = .returned (.slice A xs.length c) ∧ xs.length ≤ 11 ∧ xs.length ≤ c ∧ Frd w' w.heap.size A (sc xs) ∧ Rdr w' B g q ∧ q ≤ p + 30 ∧ w.grownBy w' (some g)
set_option maxRecDepth 100000 in
set_option maxHeartbeats 4000000 in
theorem anySettings_c (B g p : Nat) (w : World) (hr : Rdr w B g p) (hp : p ≤ 900000) :
    Calls Tryd.prog 27 #[.pointer (some ⟨g, 0, none⟩)] w (RetAnyS B g p w) := by
  obtain ⟨i0, i0_i, i0_z0, i0_z1, i0_z2⟩ := info_parts setInfo
  have hgB := hr.1
  have hBw := hr.2.1
  go_enter Tryd.func27, Tryd.ntmps27
  go_wp2_with fail
  go_loopw [3, 4] (fun v i wr => ∃ (k : Nat) (A : Option Addr) (c q : Nat) (ys : List Pr), k ≤ 10 ∧ ys.length ≤ k ∧ i = .int .i64 k ∧ v = .slice A ys.length c ∧ Row wr w.heap.size 40 2 A ys.length c (sc ys) ∧ Rdr wr B g q ∧ q ≤ p + 2 * k ∧ w.grownBy wr (some g)) (fun _ i _ => 10 - (intOf i).toNat)
  case atStart => exact ⟨0, _, _, p, [], by omega, by simp, rfl, rfl, Row.nil _ _ _ _ _, hr.alloc _, by omega, only_alloc (World.grownBy.refl w (some g)) _⟩
  case round =>
    clear hr
    obtain ⟨k, A2, c2, q, ys, hk, hyk, rfl, rfl, row, hr, hq, hg⟩ := hrel
    have hsg := hg.size
    by_cases hlt : k < 10
    · go_wp2_with fail
      refine (pick_c B g q 3 wr hr (by omega) (by omega) (by omega)).mono ?_
      rintro e w2 ⟨t, ht, rfl, hr2, hg2⟩
      have row2 := row.keep hg2 (by omega)
      have g2 := only_trans hg hg2
      clear row hr hg hg2
      by_cases ht0 : t = 0
      · subst ht0
        go_wp2_with fail
        refine (pick_c B g (q + 1) 21 w2 hr2 (by omega) (by omega) (by omega)).mono ?_
        rintro e w3 ⟨y, hy, rfl, hr3, hg3⟩
        have row3 := row2.keep hg3 (by omega)
        have g3 := only_trans g2 hg3
        have hs3 := g3.size
        clear row2 hr2 g2 hg3
        go_wp2_with (at_builtin; (refine wpList_append_row _ rfl (.tmp 13) (.tmp 18) 25 rfl w.heap.size 40 i0 (.agg #[.int .i64 0, .int .i64 0]) 2 16 Tryd.underlying25 i0_i i0_z0 i0_z1 i0_z2 rfl A2 ys.length c2 (sc ys) rfl (row3.alloc _) (some ⟨w3.heap.size, 0, none⟩) 1 1 [.int .i64 k, .int .i64 y] rfl rfl (Rd.two _ _ _ _) (two1 _ _) (by omega) (by unfold maxLen; omega) (by omega) (by simp <;> omega) ?_))
        intro A3 c3 w5 row5 hg5 _
        have hlt3 := row3.lt
        have hr5 := (hr3.alloc _).grown hg5 (fun y hy => by have := (hlt3 y hy).1; omega)
        have g5 : w.grownBy w5 (some g) := only_then (only_alloc g3 _) hg5 (fun y hy => .inr (hlt3 y hy).1)
        have row6 : Row w5 w.heap.size 40 2 A3 (ys ++ [((k : Int), (y : Int))]).length c3 (sc (ys ++ [((k : Int), (y : Int))])) := by
          rw [sc_append, List.length_append]; exact row5
        clear row3 hg5 hr3 g3 hlt3 row5
        go_wp2_with fail
        go_roundw
        case rel => exact ⟨k + 1, A3, c3, q + 1 + 1, ys ++ [((k : Int), (y : Int))], by omega, by simp; omega, by go_num, by simp, row6, hr5, by omega, g5⟩
        case measure => simp [intOf]; omega
      · have ht1 : ((t : Int) == 0) = false := beq_eq_false_iff_ne.2 (by omega)
        go_wp2_with fail
        go_roundw
        case rel => exact ⟨k + 1, A2, c2, q + 1, ys, by omega, by omega, by go_num, rfl, row2, hr2, by omega, g2⟩
        case measure => simp [intOf]; omega
    · obtain rfl : k = 10 := by omega
      go_wp2_with fail
      refine (pick_c B g q 14 wr hr (by omega) (by omega) (by omega)).mono ?_
      rintro e w2 ⟨t, ht, rfl, hr2, hg2⟩
      have row2 := row.keep hg2 (by omega)
      have g2 := only_trans hg hg2
      have hs2 := g2.size
      clear row hr hg hg2
      by_cases ht0 : t = 0
      · subst ht0
        go_wp2_with fail
        refine (one_c B g (q + 1) [10, 3, -1] _ _ _ _ (hr2.alloc _) (by omega) rfl (by simp) (by simp) (Rd.lit (Value.int .i64) [10, 3, -1] rfl (by simp) rfl) (fun b off e => by
          injection e with e; injection e with e; omega)).mono ?_
        rintro e w3 ⟨x, hx, rfl, hr3, hg3⟩
        have row3 := (row2.alloc _).keep hg3 (by omega)
        have g3 := only_trans (only_alloc g2 _) hg3
        have hs3 := g3.size
        clear row2 hr2 g2 hg3 hx
        go_wp2_with fail
        refine (one_c B g (q + 1 + 1) [21, 5, -1] _ _ _ _ (hr3.alloc _) (by omega) rfl (by simp) (by simp) (Rd.lit (Value.int .i64) [21, 5, -1] rfl (by simp) rfl) (fun b off e => by
          injection e with e; injection e with e; omega)).mono ?_
        rintro e w4 ⟨y, hy, rfl, hr4, hg4⟩
        have row4 := (row3.alloc _).keep hg4 (by omega)
        have g4 := only_trans (only_alloc g3 _) hg4
        have hs4 := g4.size
        clear row3 hr3 g3 hg4 hy
        go_wp2_with (at_builtin; (refine wpList_append_row _ rfl (.tmp 23) (.tmp 31) 25 rfl w.heap.size 40 i0 (.agg #[.int .i64 0, .int .i64 0]) 2 16 Tryd.underlying25 i0_i i0_z0 i0_z1 i0_z2 rfl A2 ys.length c2 (sc ys) rfl (row4.alloc _) (some ⟨w4.heap.size, 0, none⟩) 1 1 [.int .i64 x, .int .i64 y] rfl rfl (Rd.two _ _ _ _) (two1 _ _) (by omega) (by unfold maxLen; omega) (by omega) (by simp <;> omega) ?_))
        intro A3 c3 w5 row5 hg5 _
        have hlt3 := row4.lt
        have hr5 := (hr4.alloc _).grown hg5 (fun y hy => by have := (hlt3 y hy).1; omega)
        have g5 : w.grownBy w5 (some g) := only_then (only_alloc g4 _) hg5 (fun y hy => .inr (hlt3 y hy).1)
        have row6 : Row w5 w.heap.size 40 2 A3 (ys ++ [(x, y)]).length c3 (sc (ys ++ [(x, y)])) := by
          rw [sc_append, List.length_append]; exact row5
        have fin : RetAnyS B g p w (.returned (.slice A3 (ys.length + 1) c3)) w5 := ⟨A3, c3, ys ++ [(x, y)], q + 1 + 1 + 1, by simp, by simp; omega, row6.le, row6.frd, hr5, by omega, g5⟩
        have FIN := Lib.hid fin
        clear row4 hg5 hr4 g4 hlt3 row5 row6 fin hr5 g5
        go_wp2_with fail
        go_ret
        exact FIN.out
      · have ht1 : ((t : Int) == 0) = false := beq_eq_false_iff_ne.2 (by omega)
        have fin : RetAnyS B g p w (.returned (.slice A2 ys.length c2)) w2 := ⟨A2, c2, ys, q + 1, rfl, by omega, row2.le, row2.frd, hr2, by omega, g2⟩
        have FIN := Lib.hid fin
        clear row2 hr2 g2 fin
        go_wp2_with fail
        go_ret
        exact FIN.out
/-- What the laws draw: at most 11 pairs in new memory. -/
def RetDrawS (w : World) (e : Ending) (w' : World) : Prop :=
  ∃ (A : Option Addr) (c : Nat) (xs : List Pr), e = .returned (.slice A xs.length c) ∧ xs.length ≤ 11 ∧ xs.length ≤ c ∧ Frd w' w.heap.size A (sc xs) ∧ Below w.heap.size w w'
set_option maxRecDepth 100000 in
set_option maxHeartbeats 2000000 in
theorem drawFormatSettings_c (zs : List Int) (A : Option Addr) (n c : Nat) (w : World) (hN : zs.length = n) (hc : n ≤ c) (hm : c ≤ maxLen) (h : Rd w A (zs.map (.int .u8))) (hz : ∀ z ∈ zs, 0 ≤ z ∧ z ≤ 255) :
    Calls Tryd.prog 13 #[.slice A n c] w (RetDrawS w) := by
  have HR := Lib.hid (newReader_c zs A n c w hN hc hm h hz)
  clear h hz hN
  go_enter Tryd.func13, Tryd.ntmps13
  go_wp2_with fail
  refine HR.out.mono ?_
  rintro e w1 ⟨rfl, hr, hb⟩
  have hs0 := hb.size
  go_wp2_with fail
  refine (anySettings_c _ _ _ _ hr (by omega)).mono ?_
  rintro e w2 ⟨A2, c2, ks, q, rfl, hl2, hc2, f2, hr2, hq2, g2⟩
  have bel2 : Below w.heap.size w w2 := hb.trans (below_grown g2 (Nat.le_refl _) hs0)
  have f2' := f2.mono hs0
  clear hr hr2 g2 hb f2
  go_wp2_with fail
  go_ret
  exact ⟨A2, c2, ks, rfl, hl2, hc2, f2', bel2⟩
end Go.Proofs.YtmphjojhfmikeaaDoor
