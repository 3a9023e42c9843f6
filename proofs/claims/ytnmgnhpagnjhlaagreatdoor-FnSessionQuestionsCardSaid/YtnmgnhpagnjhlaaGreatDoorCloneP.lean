/- Contracts of clone, slices.Clone, slices.Clip at lists of numbers and of what is held; copies of pools. -/
import Derived.Test.YtnmgnhpagnjhlaaGreatDoorAcq
import Derived.BigRegion
set_option linter.unusedVariables false
set_option linter.unusedSimpArgs false
set_option linter.unnecessarySimpa false
namespace Go.Proofs.YtnmgnhpagnjhlaaGreatDoor
open Go.RowKit

/-- A new row that reads as these numbers is handed back; what was there is as it was. -/
def RetRow (zs : List Int) (w : World) (e : Ending) (w' : World) : Prop :=
  ∃ A c, e = .returned (.slice A zs.length c) ∧ Row w' w.heap.size 3 1 A zs.length c (zs.map (.int .i64)) ∧ Below w.heap.size w w'
/-- The same, without room behind it. -/
def RetClip (zs : List Int) (w : World) (e : Ending) (w' : World) : Prop :=
  ∃ A, e = .returned (.slice A zs.length zs.length) ∧ Row w' w.heap.size 3 1 A zs.length zs.length (zs.map (.int .i64)) ∧ Below w.heap.size w w'

theorem Row.litI (w : World) (cs : Array Value) (zs : List Int) (hz : cs.toList = zs.map (.int .i64)) (hn : zs.length ≤ maxLen) {B : Nat} (hB : B ≤ w.heap.size) :
    Row (w.alloc (.cells cs 3)) B 3 1 (some ⟨w.heap.size, 0, none⟩) zs.length zs.length (zs.map (.int .i64)) := by
  have hl : cs.size = zs.length := by rw [← Array.length_toList, hz, List.length_map]
  exact Row.new w cs _ 1 zs.length zs.length _ (by omega) (Nat.le_refl _) hn (by rw [hz]; exact List.take_of_length_le (by simp)) (by simp) hB

set_option maxHeartbeats 1000000 in
theorem sliceClone_c (zs : List Int) (A : Option Addr) (n c : Nat) (w : World) (hN : zs.length = n) (h : Rd w A (zs.map (.int .i64))) (hn : n ≤ 1073741824) :
    Calls Tryz.prog 109 #[.slice A n c] w (RetRow zs w) := by
  subst hN
  obtain ⟨i0, i0_i, i0_z0, i0_z1, i0_z2⟩ := info_parts poolIntInfo
  cases A with
  | none =>
    have hz : zs = [] := by
      rcases Nat.eq_zero_or_pos zs.length with h0 | h0
      · exact List.eq_nil_of_length_eq_zero h0
      · obtain ⟨b, off, e, _⟩ := h (by simpa using h0)
        cases e
    have HZ := Lib.hid hz; clear hz h
    have hq : ∀ W : World, (binOp .eql 23 (.slice none zs.length c) (.slice none 0 0)).run Tryz.prog W = .ok (.bool true) W := fun W => Lib.run_eql_slice_nil W _ _ none _ _ 0 0 Tryz.underlying23
    go_enter Tryz.func109, Tryz.ntmps109
    go_wp2_with fail
    go_ret
    rw [HZ.out]
    exact ⟨none, 0, rfl, Row.nil _ _ _ _ _, Below.refl _ _⟩
  | some a =>
    have H := Lib.hid h; clear h
    have hq : ∀ W : World, (binOp .eql 23 (.slice (some a) zs.length c) (.slice none 0 0)).run Tryz.prog W = .ok (.bool false) W := fun W => Lib.run_eql_slice_nil W _ _ (some a) _ _ 0 0 Tryz.underlying23
    go_enter Tryz.func109, Tryz.ntmps109
    go_wp2_with (at_builtin; (refine wpList_append_row _ rfl (.tmp 5) (.tmp 6) 23 rfl w.heap.size 3 i0 (.int .i64 0) 1 8 Tryz.underlying23 i0_i i0_z0 i0_z1 i0_z2 rfl (some ⟨w.heap.size, 0, none⟩) 0 0 [] rfl (Row.litI w #[] [] rfl (by simp [maxLen]) (Nat.le_refl _)) (some a) zs.length c (zs.map (.int .i64)) rfl (by simp) (H.out.alloc _) (int1 .i64 zs) (by omega) (by unfold maxLen; omega) (by omega) (by simp <;> omega) ?_))
    intro A2 c2 w2 row2 hg2 _
    have hb : Below w.heap.size w w2 := ((Below.refl _ _).alloc (Nat.le_refl _) _).grown hg2 (by simp) (fun y hy => by simp [rb] at hy)
    try simp only [Nat.zero_add, List.nil_append] at row2
    clear hg2
    go_wp2_with fail
    go_ret
    exact ⟨A2, c2, rfl, row2, hb⟩
set_option maxHeartbeats 400000 in
theorem clip_c (A : Option Addr) (n c : Nat) (w : World) (hc : n ≤ c) (hm : c ≤ maxLen) :
    Calls Tryz.prog 80 #[.slice A n c] w fun e w' => e = .returned (.slice A n n) ∧ w = w' := by
  unfold maxLen at hm
  go_enter Tryz.func80, Tryz.ntmps80
  go_wp2_with fail
  go_ret
  exact ⟨rfl, rfl⟩
set_option maxHeartbeats 400000 in
theorem clone_c (zs : List Int) (A : Option Addr) (n c : Nat) (w : World) (hN : zs.length = n) (h : Rd w A (zs.map (.int .i64))) (hn : n ≤ 1073741824) :
    Calls Tryz.prog 81 #[.slice A n c] w (RetClip zs w) := by
  have HC := Lib.hid (sliceClone_c zs A n c w hN h hn)
  clear h hN
  go_enter Tryz.func81, Tryz.ntmps81
  go_wp2_with fail
  refine HC.out.mono ?_
  rintro e w1 ⟨A1, c1, rfl, row1, b1⟩
  go_wp2_with fail
  refine (clip_c _ _ _ _ row1.le row1.max).mono ?_
  rintro e w2 ⟨rfl, rfl⟩
  go_wp2_with fail
  go_ret
  exact ⟨A1, rfl, row1.clip, b1⟩
/-- The same of what is held. -/
def RetRowH (zs : List Pr) (w : World) (e : Ending) (w' : World) : Prop :=
  ∃ A c, e = .returned (.slice A zs.length c) ∧ Row w' w.heap.size 48 2 A zs.length c (sc zs) ∧ Below w.heap.size w w'
def RetClipH (zs : List Pr) (w : World) (e : Ending) (w' : World) : Prop :=
  ∃ A, e = .returned (.slice A zs.length zs.length) ∧ Row w' w.heap.size 48 2 A zs.length zs.length (sc zs) ∧ Below w.heap.size w w'
set_option maxHeartbeats 1000000 in
theorem sliceCloneH_c (zs : List Pr) (A : Option Addr) (n c : Nat) (w : World) (hN : zs.length = n) (h : Rd w A (sc zs)) (hn : n ≤ 1073741824) :
    Calls Tryz.prog 111 #[.slice A n c] w (RetRowH zs w) := by
  subst hN
  obtain ⟨i0, i0_i, i0_z0, i0_z1, i0_z2⟩ := info_parts poolHoldInfo
  cases A with
  | none =>
    have hz : zs = [] := by
      rcases Nat.eq_zero_or_pos zs.length with h0 | h0
      · exact List.eq_nil_of_length_eq_zero h0
      · obtain ⟨b, off, e, _⟩ := h (by rw [sc_len]; omega)
        cases e
    have HZ := Lib.hid hz; clear hz h
    have hq : ∀ W : World, (binOp .eql 24 (.slice none zs.length c) (.slice none 0 0)).run Tryz.prog W = .ok (.bool true) W := fun W => Lib.run_eql_slice_nil W _ _ none _ _ 0 0 Tryz.underlying24
    go_enter Tryz.func111, Tryz.ntmps111
    go_wp2_with fail
    go_ret
    rw [HZ.out]
    exact ⟨none, 0, rfl, Row.nil _ _ _ _ _, Below.refl _ _⟩
  | some a =>
    have H := Lib.hid h; clear h
    have hq : ∀ W : World, (binOp .eql 24 (.slice (some a) zs.length c) (.slice none 0 0)).run Tryz.prog W = .ok (.bool false) W := fun W => Lib.run_eql_slice_nil W _ _ (some a) _ _ 0 0 Tryz.underlying24
    go_enter Tryz.func111, Tryz.ntmps111
    go_wp2_with (at_builtin; (refine wpList_append_row _ rfl (.tmp 5) (.tmp 6) 24 rfl w.heap.size 48 i0 (.agg #[.int .i64 0, .int .i64 0]) 2 16 Tryz.underlying24 i0_i i0_z0 i0_z1 i0_z2 rfl (some ⟨w.heap.size, 0, none⟩) 0 0 [] rfl (Row.nil _ _ _ _ _) (some a) zs.length c (sc zs) rfl (by rw [sc_len]) (H.out.alloc _) (sc_one zs) (by omega) (by unfold maxLen; omega) (by omega) (by simp <;> omega) ?_))
    intro A2 c2 w2 row2 hg2 _
    have hb : Below w.heap.size w w2 := ((Below.refl _ _).alloc (Nat.le_refl _) _).grown hg2 (by simp) (fun y hy => by simp [rb] at hy)
    try simp only [Nat.zero_add, List.nil_append] at row2
    clear hg2
    go_wp2_with fail
    go_ret
    exact ⟨A2, c2, rfl, row2, hb⟩
set_option maxHeartbeats 400000 in
theorem clipH_c (A : Option Addr) (n c : Nat) (w : World) (hc : n ≤ c) (hm : c ≤ maxLen) :
    Calls Tryz.prog 110 #[.slice A n c] w fun e w' => e = .returned (.slice A n n) ∧ w = w' := by
  unfold maxLen at hm
  go_enter Tryz.func110, Tryz.ntmps110
  go_wp2_with fail
  go_ret
  exact ⟨rfl, rfl⟩
set_option maxHeartbeats 400000 in
theorem cloneH_c (zs : List Pr) (A : Option Addr) (n c : Nat) (w : World) (hN : zs.length = n) (h : Rd w A (sc zs)) (hn : n ≤ 1073741824) :
    Calls Tryz.prog 82 #[.slice A n c] w (RetClipH zs w) := by
  have HC := Lib.hid (sliceCloneH_c zs A n c w hN h hn)
  clear h hN
  go_enter Tryz.func82, Tryz.ntmps82
  go_wp2_with fail
  refine HC.out.mono ?_
  rintro e w1 ⟨A1, c1, rfl, row1, b1⟩
  go_wp2_with fail
  refine (clipH_c _ _ _ _ row1.le row1.max).mono ?_
  rintro e w2 ⟨rfl, rfl⟩
  go_wp2_with fail
  go_ret
  exact ⟨A1, rfl, row1.clip, b1⟩
end Go.Proofs.YtnmgnhpagnjhlaaGreatDoor
