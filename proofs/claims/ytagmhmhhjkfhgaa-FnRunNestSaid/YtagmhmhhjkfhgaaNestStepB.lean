/- Contract of a command of the program: the cases in which it is possible. -/
import Derived.Test.YtagmhmhhjkfhgaaNestStepA
set_option linter.unusedVariables false
set_option linter.unusedSimpArgs false
set_option linter.unnecessarySimpa false
namespace Go.Proofs.Ytagmhmhhjkfhgaa
open Go.RowKit

theorem cell_new_at (w : World) {g : Nat} (hg : g = w.heap.size) (cs : Array Value) (t : TypeId) (j : Nat) : (w.alloc (.cells cs t)).cell? ⟨g, j, none⟩ = cs[j]? := by subst hg; exact cell_new w cs t j
theorem old_cellsB {W w1 : World} {B : Nat} (hb : Below B W w1) : (∀ b o, b < B → w1.cell? ⟨b, o, none⟩ = W.cell? ⟨b, o, none⟩) ∧ (∀ b o, b < B → w1.frozen? ⟨b, o, none⟩ = W.frozen? ⟨b, o, none⟩) :=
  ⟨fun b o h => hb.cell (p := ⟨b, o, none⟩) h, fun b o h => hb.frozen (p := ⟨b, o, none⟩) h⟩

set_option maxRecDepth 100000 in
set_option maxHeartbeats 400000 in
theorem step_work (k : Int) (ms : List Int) (A : Option Addr) (n c : Nat) (w : World) (hN : ms.length = n) (hc0 : n ≤ c) (h : Rd w A (ms.map (.int .i64))) (hn : n ≤ 4) (hk0 : 0 ≤ k) (hk1 : k ≤ 12) (hx : 0 < n) (hy : k < 12) :
    Calls Try.prog 33 #[.agg #[.int .i64 (n : Int), .int .i64 k, .slice A n c, .bool false], .int .i64 1] w (RetStep ⟨(k + 1), ms, false⟩ true w) := by
  have HC := Lib.hid (fun W => clone_c ms A n c W hN)
  have H := Lib.hid h; clear h
  have HN := Lib.hid hN; clear hN
  have hx0 : ((n : Int) == 0) = false := beq_eq_false_iff_ne.2 (by omega)
  go_enter Try.func33, Try.ntmps33
  go_wp2_with fail
  refine (HC.out _ (((H.out.alloc _).alloc _).alloc _) (by omega)).mono ?_
  rintro e w1 ⟨A1, rfl, row1, b1⟩
  rw [HN.out] at row1 ⊢
  obtain ⟨bi, br, bo⟩ := blk_lay w 25 #[.int .i64 (n : Int), .int .i64 k, .slice A n c, .bool false] #[.int .i64 0, .int .i64 0, .slice none 0 0, .bool false] #[.int .i64 (n : Int), .int .i64 k, .slice A n c, .bool false]
  have BI := Lib.hid (bi.below b1 bi.lt); have BR := Lib.hid (br.below b1 br.lt); have BO := Lib.hid (bo.below b1 bo.lt)
  clear bi br bo
  have hz : w.heap.size + 3 ≤ w1.heap.size := by have := b1.size; simp at this; omega
  have row1' : Row w1 (w.heap.size + 3) 3 1 A1 n n (ms.map (.int .i64)) := row1.mono (by simp <;> omega)
  have bel1 : Below w.heap.size w w1 := ((((Below.refl _ _).alloc (Nat.le_refl _) _).alloc (by simp) _).alloc (by simp <;> omega) _).trans (b1.mono (by simp <;> omega))
  have ROW1 := Lib.hid row1'; have BEL1 := Lib.hid bel1
  clear row1 row1' bel1 b1
  obtain ⟨i0c, i1c, i2c, i3c, ifz⟩ := blk4 BI.out
  obtain ⟨r0c, r1c, r2c, r3c, rfz⟩ := blk4 BR.out
  obtain ⟨o0c, o1c, o2c, o3c, ofz⟩ := blk4 BO.out
  go_wp2_with fail
  refine bodyPost_ret (v := .tuple #[.agg #[.int .i64 (n : Int), .int .i64 (k + 1), .slice A1 n n, .bool false], .bool true]) (by simp [results, Try.results33, go_sem, i0c, i1c, i2c, i3c, ifz, r0c, r1c, r2c, r3c, rfz, o0c, o1c, o2c, o3c, ofz]) rfl ?_
  refine ⟨A1, _, by rw [HN.out], ?_, ?_⟩
  all_goals try rw [HN.out]
  · refine Row.mono (B := w.heap.size + 3) ?_ (by omega)
    repeat (with_reducible refine Row.setFar ?_ (by simp <;> omega) _)
    exact ROW1.out
  · repeat (with_reducible refine Below.setCell ?_ (by simp <;> omega) _)
    exact BEL1.out

set_option maxRecDepth 100000 in
set_option maxHeartbeats 400000 in
theorem step_fail_true (k : Int) (ms : List Int) (A : Option Addr) (n c : Nat) (w : World) (hN : ms.length = n) (hc0 : n ≤ c) (h : Rd w A (ms.map (.int .i64))) (hn : n ≤ 4) (hk0 : 0 ≤ k) (hk1 : k ≤ 12) (hx : 0 < n) :
    Calls Try.prog 33 #[.agg #[.int .i64 (n : Int), .int .i64 k, .slice A n c, .bool true], .int .i64 2] w (RetStep ⟨k, ms, true⟩ true w) := by
  have HC := Lib.hid (fun W => clone_c ms A n c W hN)
  have H := Lib.hid h; clear h
  have HN := Lib.hid hN; clear hN
  have hx0 : ((n : Int) == 0) = false := beq_eq_false_iff_ne.2 (by omega)
  go_enter Try.func33, Try.ntmps33
  go_wp2_with fail
  refine (HC.out _ (((H.out.alloc _).alloc _).alloc _) (by omega)).mono ?_
  rintro e w1 ⟨A1, rfl, row1, b1⟩
  rw [HN.out] at row1 ⊢
  obtain ⟨bi, br, bo⟩ := blk_lay w 25 #[.int .i64 (n : Int), .int .i64 k, .slice A n c, .bool true] #[.int .i64 0, .int .i64 0, .slice none 0 0, .bool false] #[.int .i64 (n : Int), .int .i64 k, .slice A n c, .bool true]
  have BI := Lib.hid (bi.below b1 bi.lt); have BR := Lib.hid (br.below b1 br.lt); have BO := Lib.hid (bo.below b1 bo.lt)
  clear bi br bo
  have hz : w.heap.size + 3 ≤ w1.heap.size := by have := b1.size; simp at this; omega
  have row1' : Row w1 (w.heap.size + 3) 3 1 A1 n n (ms.map (.int .i64)) := row1.mono (by simp <;> omega)
  have bel1 : Below w.heap.size w w1 := ((((Below.refl _ _).alloc (Nat.le_refl _) _).alloc (by simp) _).alloc (by simp <;> omega) _).trans (b1.mono (by simp <;> omega))
  have ROW1 := Lib.hid row1'; have BEL1 := Lib.hid bel1
  clear row1 row1' bel1 b1
  obtain ⟨i0c, i1c, i2c, i3c, ifz⟩ := blk4 BI.out
  obtain ⟨r0c, r1c, r2c, r3c, rfz⟩ := blk4 BR.out
  obtain ⟨o0c, o1c, o2c, o3c, ofz⟩ := blk4 BO.out
  go_wp2_with fail
  refine bodyPost_ret (v := .tuple #[.agg #[.int .i64 (n : Int), .int .i64 k, .slice A1 n n, .bool true], .bool true]) (by simp [results, Try.results33, go_sem, i0c, i1c, i2c, i3c, ifz, r0c, r1c, r2c, r3c, rfz, o0c, o1c, o2c, o3c, ofz]) rfl ?_
  refine ⟨A1, _, by rw [HN.out], ?_, ?_⟩
  all_goals try rw [HN.out]
  · refine Row.mono (B := w.heap.size + 3) ?_ (by omega)
    repeat (with_reducible refine Row.setFar ?_ (by simp <;> omega) _)
    exact ROW1.out
  · repeat (with_reducible refine Below.setCell ?_ (by simp <;> omega) _)
    exact BEL1.out

set_option maxRecDepth 100000 in
set_option maxHeartbeats 400000 in
theorem step_fail_false (k : Int) (ms : List Int) (A : Option Addr) (n c : Nat) (w : World) (hN : ms.length = n) (hc0 : n ≤ c) (h : Rd w A (ms.map (.int .i64))) (hn : n ≤ 4) (hk0 : 0 ≤ k) (hk1 : k ≤ 12) (hx : 0 < n) :
    Calls Try.prog 33 #[.agg #[.int .i64 (n : Int), .int .i64 k, .slice A n c, .bool false], .int .i64 2] w (RetStep ⟨k, ms, true⟩ true w) := by
  have HC := Lib.hid (fun W => clone_c ms A n c W hN)
  have H := Lib.hid h; clear h
  have HN := Lib.hid hN; clear hN
  have hx0 : ((n : Int) == 0) = false := beq_eq_false_iff_ne.2 (by omega)
  go_enter Try.func33, Try.ntmps33
  go_wp2_with fail
  refine (HC.out _ (((H.out.alloc _).alloc _).alloc _) (by omega)).mono ?_
  rintro e w1 ⟨A1, rfl, row1, b1⟩
  rw [HN.out] at row1 ⊢
  obtain ⟨bi, br, bo⟩ := blk_lay w 25 #[.int .i64 (n : Int), .int .i64 k, .slice A n c, .bool false] #[.int .i64 0, .int .i64 0, .slice none 0 0, .bool false] #[.int .i64 (n : Int), .int .i64 k, .slice A n c, .bool false]
  have BI := Lib.hid (bi.below b1 bi.lt); have BR := Lib.hid (br.below b1 br.lt); have BO := Lib.hid (bo.below b1 bo.lt)
  clear bi br bo
  have hz : w.heap.size + 3 ≤ w1.heap.size := by have := b1.size; simp at this; omega
  have row1' : Row w1 (w.heap.size + 3) 3 1 A1 n n (ms.map (.int .i64)) := row1.mono (by simp <;> omega)
  have bel1 : Below w.heap.size w w1 := ((((Below.refl _ _).alloc (Nat.le_refl _) _).alloc (by simp) _).alloc (by simp <;> omega) _).trans (b1.mono (by simp <;> omega))
  have ROW1 := Lib.hid row1'; have BEL1 := Lib.hid bel1
  clear row1 row1' bel1 b1
  obtain ⟨i0c, i1c, i2c, i3c, ifz⟩ := blk4 BI.out
  obtain ⟨r0c, r1c, r2c, r3c, rfz⟩ := blk4 BR.out
  obtain ⟨o0c, o1c, o2c, o3c, ofz⟩ := blk4 BO.out
  go_wp2_with fail
  refine bodyPost_ret (v := .tuple #[.agg #[.int .i64 (n : Int), .int .i64 k, .slice A1 n n, .bool true], .bool true]) (by simp [results, Try.results33, go_sem, i0c, i1c, i2c, i3c, ifz, r0c, r1c, r2c, r3c, rfz, o0c, o1c, o2c, o3c, ofz]) rfl ?_
  refine ⟨A1, _, by rw [HN.out], ?_, ?_⟩
  all_goals try rw [HN.out]
  · refine Row.mono (B := w.heap.size + 3) ?_ (by omega)
    repeat (with_reducible refine Row.setFar ?_ (by simp <;> omega) _)
    exact ROW1.out
  · repeat (with_reducible refine Below.setCell ?_ (by simp <;> omega) _)
    exact BEL1.out

set_option maxRecDepth 100000 in
set_option maxHeartbeats 400000 in
theorem step_open (k : Int) (ms : List Int) (A : Option Addr) (n c : Nat) (w : World) (hN : ms.length = n) (hc0 : n ≤ c) (h : Rd w A (ms.map (.int .i64))) (hn : n ≤ 4) (hk0 : 0 ≤ k) (hk1 : k ≤ 12) (hx : n < 4) :
    Calls Try.prog 33 #[.agg #[.int .i64 (n : Int), .int .i64 k, .slice A n c, .bool false], .int .i64 0] w (RetStep ⟨k, (ms ++ [k]), false⟩ true w) := by
  have HC := Lib.hid (fun W => clone_c ms A n c W hN)
  have H := Lib.hid h; clear h
  have HN := Lib.hid hN; clear hN
  have hx0 : ((n : Int) + 1 == 0) = false := beq_eq_false_iff_ne.2 (by omega)
  obtain ⟨i0, i0_i, i0_z0, i0_z1, i0_z2⟩ := info_parts intInfo
  go_enter Try.func33, Try.ntmps33
  go_wp2_with fail
  refine (HC.out _ (((H.out.alloc _).alloc _).alloc _) (by omega)).mono ?_
  rintro e w1 ⟨A1, rfl, row1, b1⟩
  rw [HN.out] at row1 ⊢
  obtain ⟨bi, br, bo⟩ := blk_lay w 25 #[.int .i64 (n : Int), .int .i64 k, .slice A n c, .bool false] #[.int .i64 0, .int .i64 0, .slice none 0 0, .bool false] #[.int .i64 (n : Int), .int .i64 k, .slice A n c, .bool false]
  have BI := Lib.hid (bi.below b1 bi.lt); have BR := Lib.hid (br.below b1 br.lt); have BO := Lib.hid (bo.below b1 bo.lt)
  clear bi br bo
  have hz : w.heap.size + 3 ≤ w1.heap.size := by have := b1.size; simp at this; omega
  have row1' : Row w1 (w.heap.size + 3) 3 1 A1 n n (ms.map (.int .i64)) := row1.mono (by simp <;> omega)
  have bel1 : Below w.heap.size w w1 := ((((Below.refl _ _).alloc (Nat.le_refl _) _).alloc (by simp) _).alloc (by simp <;> omega) _).trans (b1.mono (by simp <;> omega))
  have ROW1 := Lib.hid row1'; have BEL1 := Lib.hid bel1
  clear row1 row1' bel1 b1
  obtain ⟨i0c, i1c, i2c, i3c, ifz⟩ := blk4 BI.out
  obtain ⟨r0c, r1c, r2c, r3c, rfz⟩ := blk4 BR.out
  obtain ⟨o0c, o1c, o2c, o3c, ofz⟩ := blk4 BO.out
  go_wp2_with (at_builtin; (refine wpList_append_row _ rfl (.tmp 37) (.tmp 40) 23 rfl (w.heap.size + 3) 3 i0 (.int .i64 0) 1 8 Try.underlying23 i0_i i0_z0 i0_z1 i0_z2 rfl A1 n n (ms.map (.int .i64)) rfl ?r1 (some ⟨w1.heap.size, 0, none⟩) 1 1 [.int .i64 k] rfl rfl ?r2 (one1 _ rfl) (by omega) ?r3 ?r4 ?r5 ?_))
  case r1 =>
    refine Row.alloc ?_ _
    repeat (with_reducible refine Row.setFar ?_ (by simp <;> omega) _)
    exact ROW1.out
  case r2 => exact Rd.one (cell_new_at _ (by simp) _ _ 0)
  case r3 => unfold maxLen; omega
  case r4 => omega
  case r5 => simp; omega
  intro A2 c2 w2 row2 hg2 _
  have b2 := ((Below.refl (w.heap.size + 3) _).alloc (by simp <;> omega) _).grown hg2 (by simp <;> omega) (fun y hy => (ROW1.out.lt y hy).1)
  have bi2 : Blk w2 w.heap.size 25 #[.int .i64 (n : Int), .int .i64 k, .slice A n c, .bool false] := (((BI.out.far (by simp <;> omega) _).far (by simp <;> omega) _)).below b2 (by omega)
  have br2 : Blk w2 (w.heap.size + 1) 25 #[.int .i64 0, .int .i64 0, .slice none 0 0, .bool false] := (((BR.out.far (by simp <;> omega) _).far (by simp <;> omega) _)).below b2 (by omega)
  have bo2 : Blk w2 (w.heap.size + 1 + 1) 25 #[.int .i64 ((n : Int) + 1), .int .i64 k, .slice A1 n n, .bool false] := (((BO.out.set_ 2 (.slice A1 n n)).set_ 0 (.int .i64 ((n : Int) + 1)))).below b2 (by omega)
  clear BI BR BO i0c i1c i2c i3c ifz r0c r1c r2c r3c rfz o0c o1c o2c o3c ofz
  obtain ⟨i0c, i1c, i2c, i3c, ifz⟩ := blk4 bi2
  obtain ⟨r0c, r1c, r2c, r3c, rfz⟩ := blk4 br2
  obtain ⟨o0c, o1c, o2c, o3c, ofz⟩ := blk4 bo2
  have BI := Lib.hid bi2; have BR := Lib.hid br2; have BO := Lib.hid bo2
  clear bi2 br2 bo2
  have bel2 : Below w.heap.size w w2 := by
    refine Below.trans ?_ (b2.mono (by omega))
    repeat (with_reducible refine Below.setCell ?_ (by simp <;> omega) _)
    exact BEL1.out
  have hz2 : w.heap.size + 3 ≤ w2.heap.size := by have := hg2.size; simp at this; omega
  have hrow2 : Rd w2 A2 ((ms ++ [k]).map (.int .i64)) := by have := row2.rd; simpa using this
  have HR2 := Lib.hid hrow2
  have BEL2 := Lib.hid bel2
  clear row2 hg2 hrow2 b2 bel2
  go_wp2_with fail
  refine (clone_c (ms ++ [k]) A2 (n + 1) c2 w2 (by simp [HN.out]) HR2.out (by omega)).mono ?_
  rintro e w3 ⟨A3, rfl, row3, b3⟩
  rw [show (ms ++ [k]).length = n + 1 by simp [HN.out]] at row3 ⊢
  have bi3 := BI.out.below b3 (by omega); have br3 := BR.out.below b3 (by omega); have bo3 := BO.out.below b3 (by omega)
  clear BI BR BO i0c i1c i2c i3c ifz r0c r1c r2c r3c rfz o0c o1c o2c o3c ofz
  obtain ⟨i0c, i1c, i2c, i3c, ifz⟩ := blk4 bi3
  obtain ⟨r0c, r1c, r2c, r3c, rfz⟩ := blk4 br3
  obtain ⟨o0c, o1c, o2c, o3c, ofz⟩ := blk4 bo3
  have BI := Lib.hid bi3; have BR := Lib.hid br3; have BO := Lib.hid bo3
  clear bi3 br3 bo3
  have hz3 : w.heap.size + 3 ≤ w3.heap.size := by have := b3.size; omega
  have row3' : Row w3 (w.heap.size + 3) 3 1 A3 (n + 1) (n + 1) ((ms ++ [k]).map (.int .i64)) := row3.mono hz2
  have bel3 : Below w.heap.size w w3 := BEL2.out.trans (b3.mono (by omega))
  have ROW3 := Lib.hid row3'; have BEL3 := Lib.hid bel3
  clear row3 row3' bel3 b3
  go_wp2_with fail
  refine bodyPost_ret (v := .tuple #[.agg #[.int .i64 ((n : Int) + 1), .int .i64 k, .slice A3 (n + 1) (n + 1), .bool false], .bool true]) (by simp [results, Try.results33, go_sem, i0c, i1c, i2c, i3c, ifz, r0c, r1c, r2c, r3c, rfz, o0c, o1c, o2c, o3c, ofz]) rfl ?_
  refine ⟨A3, n + 1, by simp [HN.out], ?_, ?_⟩
  all_goals try rw [show (ms ++ [k]).length = n + 1 by simp [HN.out]]
  · refine Row.mono (B := w.heap.size + 3) ?_ (by omega)
    repeat (with_reducible refine Row.setFar ?_ (by simp <;> omega) _)
    exact ROW3.out
  · repeat (with_reducible refine Below.setCell ?_ (by simp <;> omega) _)
    exact BEL3.out

set_option maxRecDepth 100000 in
set_option maxHeartbeats 400000 in
theorem step_keep1_false (k : Int) (ms : List Int) (A : Option Addr) (n c : Nat) (w : World) (hN : ms.length = n) (hc0 : n ≤ c) (h : Rd w A (ms.map (.int .i64))) (hn : n ≤ 4) (hk0 : 0 ≤ k) (hk1 : k ≤ 12) (hx : n = 1) :
    Calls Try.prog 33 #[.agg #[.int .i64 (n : Int), .int .i64 k, .slice A n c, .bool false], .int .i64 3] w (RetStep ⟨0, (ms.take 0), false⟩ true w) := by
  have HC := Lib.hid (fun W => clone_c ms A n c W hN)
  have H := Lib.hid h; clear h
  have HN := Lib.hid hN; clear hN
  subst hx
  go_enter Try.func33, Try.ntmps33
  go_wp2_with fail
  refine (HC.out _ (((H.out.alloc _).alloc _).alloc _) (by omega)).mono ?_
  rintro e w1 ⟨A1, rfl, row1, b1⟩
  rw [HN.out] at row1 ⊢
  obtain ⟨bi, br, bo⟩ := blk_lay w 25 #[.int .i64 1, .int .i64 k, .slice A 1 c, .bool false] #[.int .i64 0, .int .i64 0, .slice none 0 0, .bool false] #[.int .i64 1, .int .i64 k, .slice A 1 c, .bool false]
  have BI := Lib.hid (bi.below b1 bi.lt); have BR := Lib.hid (br.below b1 br.lt); have BO := Lib.hid (bo.below b1 bo.lt)
  clear bi br bo
  have hz : w.heap.size + 3 ≤ w1.heap.size := by have := b1.size; simp at this; omega
  have row1' : Row w1 (w.heap.size + 3) 3 1 A1 1 1 (ms.map (.int .i64)) := row1.mono (by simp <;> omega)
  have bel1 : Below w.heap.size w w1 := ((((Below.refl _ _).alloc (Nat.le_refl _) _).alloc (by simp) _).alloc (by simp <;> omega) _).trans (b1.mono (by simp <;> omega))
  have ROW1 := Lib.hid row1'; have BEL1 := Lib.hid bel1
  clear row1 row1' bel1 b1
  obtain ⟨i0c, i1c, i2c, i3c, ifz⟩ := blk4 BI.out
  obtain ⟨r0c, r1c, r2c, r3c, rfz⟩ := blk4 BR.out
  obtain ⟨o0c, o1c, o2c, o3c, ofz⟩ := blk4 BO.out
  go_wp2_with fail
  refine (clone_c (ms.take 0) A1 0 1 _ (by rw [List.length_take, HN.out]; omega) ?q1 (by omega)).mono ?_
  case q1 =>
    rw [List.map_take]
    refine Rd.take ?_ _
    refine Row.rd (B := w.heap.size + 3) (e := 3) (size := 1) (n := 1) (c := 1) ?_
    repeat (with_reducible refine Row.setFar ?_ (by simp <;> omega) _)
    exact ROW1.out
  rintro e w3 ⟨A3, rfl, row3, b3⟩
  rw [show (ms.take 0).length = 0 by rw [List.length_take, HN.out]; omega] at row3 ⊢
  have hb3 := b3.mono (show w.heap.size + 3 ≤ _ by simp <;> omega)
  have bi3 : Blk w3 w.heap.size 25 #[.int .i64 1, .int .i64 k, .slice A 1 c, .bool false] := (by first | exact (((BI.out.far (by simp <;> omega) _).far (by simp <;> omega) _)).below hb3 (by omega))
  have br3 : Blk w3 (w.heap.size + 1) 25 #[.int .i64 0, .int .i64 0, .slice none 0 0, .bool false] := (((BR.out.far (by simp <;> omega) _).far (by simp <;> omega) _)).below hb3 (by omega)
  have bo3 : Blk w3 (w.heap.size + 1 + 1) 25 #[.int .i64 0, .int .i64 k, .slice A1 1 1, .bool false] := (((BO.out.set_ 2 (.slice A1 1 1)).set_ 0 (.int .i64 0))).below hb3 (by omega)
  clear BI BR BO i0c i1c i2c i3c ifz r0c r1c r2c r3c rfz o0c o1c o2c o3c ofz
  obtain ⟨i0c, i1c, i2c, i3c, ifz⟩ := blk4 bi3
  obtain ⟨r0c, r1c, r2c, r3c, rfz⟩ := blk4 br3
  obtain ⟨o0c, o1c, o2c, o3c, ofz⟩ := blk4 bo3
  have BI := Lib.hid bi3; have BR := Lib.hid br3; have BO := Lib.hid bo3
  clear bi3 br3 bo3
  have hz3 : w.heap.size + 3 ≤ w3.heap.size := by have := b3.size; simp at this; omega
  have row3' : Row w3 (w.heap.size + 3) 3 1 A3 0 0 ((ms.take 0).map (.int .i64)) := row3.mono (by simp <;> omega)
  have bel3 : Below w.heap.size w w3 := by
    refine Below.trans ?_ (b3.mono (by simp <;> omega))
    repeat (with_reducible refine Below.setCell ?_ (by simp <;> omega) _)
    exact BEL1.out
  have ROW3 := Lib.hid row3'; have BEL3 := Lib.hid bel3
  clear row3 row3' bel3 b3 hb3
  go_wp2_with fail
  refine bodyPost_ret (v := .tuple #[.agg #[.int .i64 0, .int .i64 0, .slice A3 0 0, .bool false], .bool true]) (by simp [results, Try.results33, go_sem, i0c, i1c, i2c, i3c, ifz, r0c, r1c, r2c, r3c, rfz, o0c, o1c, o2c, o3c, ofz]) rfl ?_
  refine ⟨A3, _, by rw [show (ms.take 0).length = 0 by rw [List.length_take, HN.out]; omega] <;> rfl, ?_, ?_⟩
  all_goals try rw [show (ms.take 0).length = 0 by rw [List.length_take, HN.out]; omega]
  · refine Row.mono (B := w.heap.size + 3) ?_ (by omega)
    repeat (with_reducible refine Row.setFar ?_ (by simp <;> omega) _)
    exact ROW3.out
  · repeat (with_reducible refine Below.setCell ?_ (by simp <;> omega) _)
    exact BEL3.out

set_option maxRecDepth 100000 in
set_option maxHeartbeats 400000 in
theorem step_keep2_false (k : Int) (ms : List Int) (A : Option Addr) (n c : Nat) (w : World) (hN : ms.length = n) (hc0 : n ≤ c) (h : Rd w A (ms.map (.int .i64))) (hn : n ≤ 4) (hk0 : 0 ≤ k) (hk1 : k ≤ 12) (hx : 1 < n) :
    Calls Try.prog 33 #[.agg #[.int .i64 (n : Int), .int .i64 k, .slice A n c, .bool false], .int .i64 3] w (RetStep ⟨k, (ms.take (n - 1)), false⟩ true w) := by
  have HC := Lib.hid (fun W => clone_c ms A n c W hN)
  have H := Lib.hid h; clear h
  have HN := Lib.hid hN; clear hN
  obtain ⟨m, rfl⟩ : ∃ m, n = m + 1 := ⟨n - 1, by omega⟩
  rw [show m + 1 - 1 = m by omega]
  have hx0 : ((m : Int) == 0) = false := beq_eq_false_iff_ne.2 (by omega)
  have hx1 : ¬ m = 0 := by omega
  go_enter Try.func33, Try.ntmps33
  go_wp2_with fail
  refine (HC.out _ (((H.out.alloc _).alloc _).alloc _) (by omega)).mono ?_
  rintro e w1 ⟨A1, rfl, row1, b1⟩
  rw [HN.out] at row1 ⊢
  obtain ⟨bi, br, bo⟩ := blk_lay w 25 #[.int .i64 ((m : Int) + 1), .int .i64 k, .slice A (m + 1) c, .bool false] #[.int .i64 0, .int .i64 0, .slice none 0 0, .bool false] #[.int .i64 ((m : Int) + 1), .int .i64 k, .slice A (m + 1) c, .bool false]
  have BI := Lib.hid (bi.below b1 bi.lt); have BR := Lib.hid (br.below b1 br.lt); have BO := Lib.hid (bo.below b1 bo.lt)
  clear bi br bo
  have hz : w.heap.size + 3 ≤ w1.heap.size := by have := b1.size; simp at this; omega
  have row1' : Row w1 (w.heap.size + 3) 3 1 A1 (m + 1) (m + 1) (ms.map (.int .i64)) := row1.mono (by simp <;> omega)
  have bel1 : Below w.heap.size w w1 := ((((Below.refl _ _).alloc (Nat.le_refl _) _).alloc (by simp) _).alloc (by simp <;> omega) _).trans (b1.mono (by simp <;> omega))
  have ROW1 := Lib.hid row1'; have BEL1 := Lib.hid bel1
  clear row1 row1' bel1 b1
  obtain ⟨i0c, i1c, i2c, i3c, ifz⟩ := blk4 BI.out
  obtain ⟨r0c, r1c, r2c, r3c, rfz⟩ := blk4 BR.out
  obtain ⟨o0c, o1c, o2c, o3c, ofz⟩ := blk4 BO.out
  go_wp2_with fail
  refine (clone_c (ms.take m) A1 m (m + 1) _ (by rw [List.length_take, HN.out]; omega) ?q1 (by omega)).mono ?_
  case q1 =>
    rw [List.map_take]
    refine Rd.take ?_ _
    refine Row.rd (B := w.heap.size + 3) (e := 3) (size := 1) (n := (m + 1)) (c := (m + 1)) ?_
    repeat (with_reducible refine Row.setFar ?_ (by simp <;> omega) _)
    exact ROW1.out
  rintro e w3 ⟨A3, rfl, row3, b3⟩
  rw [show (ms.take m).length = m by rw [List.length_take, HN.out]; omega] at row3 ⊢
  have hb3 := b3.mono (show w.heap.size + 3 ≤ _ by simp <;> omega)
  have bi3 : Blk w3 w.heap.size 25 #[.int .i64 ((m : Int) + 1), .int .i64 k, .slice A (m + 1) c, .bool false] := (by first | exact (((BI.out.far (by simp <;> omega) _).far (by simp <;> omega) _)).below hb3 (by omega))
  have br3 : Blk w3 (w.heap.size + 1) 25 #[.int .i64 0, .int .i64 0, .slice none 0 0, .bool false] := (((BR.out.far (by simp <;> omega) _).far (by simp <;> omega) _)).below hb3 (by omega)
  have bo3 : Blk w3 (w.heap.size + 1 + 1) 25 #[.int .i64 (m : Int), .int .i64 k, .slice A1 (m + 1) (m + 1), .bool false] := (((BO.out.set_ 2 (.slice A1 (m + 1) (m + 1))).set_ 0 (.int .i64 (m : Int)))).below hb3 (by omega)
  clear BI BR BO i0c i1c i2c i3c ifz r0c r1c r2c r3c rfz o0c o1c o2c o3c ofz
  obtain ⟨i0c, i1c, i2c, i3c, ifz⟩ := blk4 bi3
  obtain ⟨r0c, r1c, r2c, r3c, rfz⟩ := blk4 br3
  obtain ⟨o0c, o1c, o2c, o3c, ofz⟩ := blk4 bo3
  have BI := Lib.hid bi3; have BR := Lib.hid br3; have BO := Lib.hid bo3
  clear bi3 br3 bo3
  have hz3 : w.heap.size + 3 ≤ w3.heap.size := by have := b3.size; simp at this; omega
  have row3' : Row w3 (w.heap.size + 3) 3 1 A3 m m ((ms.take m).map (.int .i64)) := row3.mono (by simp <;> omega)
  have bel3 : Below w.heap.size w w3 := by
    refine Below.trans ?_ (b3.mono (by simp <;> omega))
    repeat (with_reducible refine Below.setCell ?_ (by simp <;> omega) _)
    exact BEL1.out
  have ROW3 := Lib.hid row3'; have BEL3 := Lib.hid bel3
  clear row3 row3' bel3 b3 hb3
  go_wp2_with fail
  refine bodyPost_ret (v := .tuple #[.agg #[.int .i64 (m : Int), .int .i64 k, .slice A3 m m, .bool false], .bool true]) (by simp [results, Try.results33, go_sem, i0c, i1c, i2c, i3c, ifz, r0c, r1c, r2c, r3c, rfz, o0c, o1c, o2c, o3c, ofz]) rfl ?_
  refine ⟨A3, _, by rw [show (ms.take m).length = m by rw [List.length_take, HN.out]; omega] <;> rfl, ?_, ?_⟩
  all_goals try rw [show (ms.take m).length = m by rw [List.length_take, HN.out]; omega]
  · refine Row.mono (B := w.heap.size + 3) ?_ (by omega)
    repeat (with_reducible refine Row.setFar ?_ (by simp <;> omega) _)
    exact ROW3.out
  · repeat (with_reducible refine Below.setCell ?_ (by simp <;> omega) _)
    exact BEL3.out

set_option maxRecDepth 100000 in
set_option maxHeartbeats 400000 in
theorem step_back1_true (k : Int) (ms : List Int) (A : Option Addr) (n c : Nat) (w : World) (hN : ms.length = n) (hc0 : n ≤ c) (h : Rd w A (ms.map (.int .i64))) (hn : n ≤ 4) (hk0 : 0 ≤ k) (hk1 : k ≤ 12) (hx : n = 1) (x : Int) (hxl : ms[n - 1]? = some x) :
    Calls Try.prog 33 #[.agg #[.int .i64 (n : Int), .int .i64 k, .slice A n c, .bool true], .int .i64 4] w (RetStep ⟨0, (ms.take 0), false⟩ true w) := by
  have HC := Lib.hid (fun W => clone_c ms A n c W hN)
  have H := Lib.hid h; clear h
  have HN := Lib.hid hN; clear hN
  subst hx
  obtain ⟨b0, off, hA, hcell⟩ := H.out (by rw [List.length_map, HN.out]; omega)
  subst hA
  have hxc : w.cell? ⟨b0, off, none⟩ = some (.int .i64 x) := hcell 0 _ (by rw [List.getElem?_map, hxl]; rfl)
  have hblt : b0 < w.heap.size := World.block_lt_of_cell? w _ hxc
  have hne0 : ¬ b0 = w.heap.size + 1 + 1 := by omega
  have hne1 : ¬ w.heap.size + 1 + 1 = b0 := by omega
  clear hcell hxl
  go_enter Try.func33, Try.ntmps33
  go_wp2_with fail
  refine (HC.out _ (((H.out.alloc _).alloc _).alloc _) (by omega)).mono ?_
  rintro e w1 ⟨A1, rfl, row1, b1⟩
  rw [HN.out] at row1 ⊢
  obtain ⟨bi, br, bo⟩ := blk_lay w 25 #[.int .i64 1, .int .i64 k, .slice (some ⟨b0, off, none⟩) 1 c, .bool true] #[.int .i64 0, .int .i64 0, .slice none 0 0, .bool false] #[.int .i64 1, .int .i64 k, .slice (some ⟨b0, off, none⟩) 1 c, .bool true]
  have BI := Lib.hid (bi.below b1 bi.lt); have BR := Lib.hid (br.below b1 br.lt); have BO := Lib.hid (bo.below b1 bo.lt)
  clear bi br bo
  have hz : w.heap.size + 3 ≤ w1.heap.size := by have := b1.size; simp at this; omega
  have row1' : Row w1 (w.heap.size + 3) 3 1 A1 1 1 (ms.map (.int .i64)) := row1.mono (by simp <;> omega)
  have bel1 : Below w.heap.size w w1 := ((((Below.refl _ _).alloc (Nat.le_refl _) _).alloc (by simp) _).alloc (by simp <;> omega) _).trans (b1.mono (by simp <;> omega))
  have ROW1 := Lib.hid row1'; have BEL1 := Lib.hid bel1
  clear row1 row1' bel1 b1
  obtain ⟨i0c, i1c, i2c, i3c, ifz⟩ := blk4 BI.out
  obtain ⟨r0c, r1c, r2c, r3c, rfz⟩ := blk4 BR.out
  obtain ⟨o0c, o1c, o2c, o3c, ofz⟩ := blk4 BO.out
  have hxc1 := (BEL1.out.cell (p := ⟨b0, off, none⟩) hblt).trans hxc
  go_wp2_with fail
  refine (clone_c (ms.take 0) A1 0 1 _ (by rw [List.length_take, HN.out]; omega) ?q1 (by omega)).mono ?_
  case q1 =>
    rw [List.map_take]
    refine Rd.take ?_ _
    refine Row.rd (B := w.heap.size + 3) (e := 3) (size := 1) (n := 1) (c := 1) ?_
    repeat (with_reducible refine Row.setFar ?_ (by simp <;> omega) _)
    exact ROW1.out
  rintro e w3 ⟨A3, rfl, row3, b3⟩
  rw [show (ms.take 0).length = 0 by rw [List.length_take, HN.out]; omega] at row3 ⊢
  have hb3 := b3.mono (show w.heap.size + 3 ≤ _ by simp <;> omega)
  have bi3 : Blk w3 w.heap.size 25 #[.int .i64 1, .int .i64 k, .slice (some ⟨b0, off, none⟩) 1 c, .bool true] := (by first | exact (((((BI.out.far (by simp <;> omega) _).far (by simp <;> omega) _).far (by simp <;> omega) _).far (by simp <;> omega) _)).below hb3 (by omega))
  have br3 : Blk w3 (w.heap.size + 1) 25 #[.int .i64 0, .int .i64 0, .slice none 0 0, .bool false] := (((((BR.out.far (by simp <;> omega) _).far (by simp <;> omega) _).far (by simp <;> omega) _).far (by simp <;> omega) _)).below hb3 (by omega)
  have bo3 : Blk w3 (w.heap.size + 1 + 1) 25 #[.int .i64 0, .int .i64 x, .slice A1 1 1, .bool false] := (((((BO.out.set_ 2 (.slice A1 1 1)).set_ 0 (.int .i64 0)).set_ 1 (.int .i64 x)).set_ 3 (.bool false))).below hb3 (by omega)
  clear BI BR BO i0c i1c i2c i3c ifz r0c r1c r2c r3c rfz o0c o1c o2c o3c ofz
  obtain ⟨i0c, i1c, i2c, i3c, ifz⟩ := blk4 bi3
  obtain ⟨r0c, r1c, r2c, r3c, rfz⟩ := blk4 br3
  obtain ⟨o0c, o1c, o2c, o3c, ofz⟩ := blk4 bo3
  have BI := Lib.hid bi3; have BR := Lib.hid br3; have BO := Lib.hid bo3
  clear bi3 br3 bo3
  have hz3 : w.heap.size + 3 ≤ w3.heap.size := by have := b3.size; simp at this; omega
  have row3' : Row w3 (w.heap.size + 3) 3 1 A3 0 0 ((ms.take 0).map (.int .i64)) := row3.mono (by simp <;> omega)
  have bel3 : Below w.heap.size w w3 := by
    refine Below.trans ?_ (b3.mono (by simp <;> omega))
    repeat (with_reducible refine Below.setCell ?_ (by simp <;> omega) _)
    exact BEL1.out
  have ROW3 := Lib.hid row3'; have BEL3 := Lib.hid bel3
  clear row3 row3' bel3 b3 hb3
  go_wp2_with fail
  refine bodyPost_ret (v := .tuple #[.agg #[.int .i64 0, .int .i64 0, .slice A3 0 0, .bool false], .bool true]) (by simp [results, Try.results33, go_sem, i0c, i1c, i2c, i3c, ifz, r0c, r1c, r2c, r3c, rfz, o0c, o1c, o2c, o3c, ofz]) rfl ?_
  refine ⟨A3, _, by rw [show (ms.take 0).length = 0 by rw [List.length_take, HN.out]; omega] <;> rfl, ?_, ?_⟩
  all_goals try rw [show (ms.take 0).length = 0 by rw [List.length_take, HN.out]; omega]
  · refine Row.mono (B := w.heap.size + 3) ?_ (by omega)
    repeat (with_reducible refine Row.setFar ?_ (by simp <;> omega) _)
    exact ROW3.out
  · repeat (with_reducible refine Below.setCell ?_ (by simp <;> omega) _)
    exact BEL3.out

set_option maxRecDepth 100000 in
set_option maxHeartbeats 400000 in
theorem step_back2_true (k : Int) (ms : List Int) (A : Option Addr) (n c : Nat) (w : World) (hN : ms.length = n) (hc0 : n ≤ c) (h : Rd w A (ms.map (.int .i64))) (hn : n ≤ 4) (hk0 : 0 ≤ k) (hk1 : k ≤ 12) (hx : 1 < n) (x : Int) (hxl : ms[n - 1]? = some x) :
    Calls Try.prog 33 #[.agg #[.int .i64 (n : Int), .int .i64 k, .slice A n c, .bool true], .int .i64 4] w (RetStep ⟨x, (ms.take (n - 1)), false⟩ true w) := by
  have HC := Lib.hid (fun W => clone_c ms A n c W hN)
  have H := Lib.hid h; clear h
  have HN := Lib.hid hN; clear hN
  obtain ⟨m, rfl⟩ : ∃ m, n = m + 1 := ⟨n - 1, by omega⟩
  rw [show m + 1 - 1 = m by omega]
  rw [show m + 1 - 1 = m by omega] at hxl
  obtain ⟨b0, off, hA, hcell⟩ := H.out (by rw [List.length_map, HN.out]; omega)
  subst hA
  have hxc : w.cell? ⟨b0, off + m, none⟩ = some (.int .i64 x) := hcell m _ (by rw [List.getElem?_map, hxl]; rfl)
  have hblt : b0 < w.heap.size := World.block_lt_of_cell? w _ hxc
  have hne0 : ¬ b0 = w.heap.size + 1 + 1 := by omega
  have hne1 : ¬ w.heap.size + 1 + 1 = b0 := by omega
  clear hcell hxl
  have hx0 : ((m : Int) == 0) = false := beq_eq_false_iff_ne.2 (by omega)
  have hx1 : ¬ m = 0 := by omega
  go_enter Try.func33, Try.ntmps33
  go_wp2_with fail
  refine (HC.out _ (((H.out.alloc _).alloc _).alloc _) (by omega)).mono ?_
  rintro e w1 ⟨A1, rfl, row1, b1⟩
  rw [HN.out] at row1 ⊢
  obtain ⟨bi, br, bo⟩ := blk_lay w 25 #[.int .i64 ((m : Int) + 1), .int .i64 k, .slice (some ⟨b0, off, none⟩) (m + 1) c, .bool true] #[.int .i64 0, .int .i64 0, .slice none 0 0, .bool false] #[.int .i64 ((m : Int) + 1), .int .i64 k, .slice (some ⟨b0, off, none⟩) (m + 1) c, .bool true]
  have BI := Lib.hid (bi.below b1 bi.lt); have BR := Lib.hid (br.below b1 br.lt); have BO := Lib.hid (bo.below b1 bo.lt)
  clear bi br bo
  have hz : w.heap.size + 3 ≤ w1.heap.size := by have := b1.size; simp at this; omega
  have row1' : Row w1 (w.heap.size + 3) 3 1 A1 (m + 1) (m + 1) (ms.map (.int .i64)) := row1.mono (by simp <;> omega)
  have bel1 : Below w.heap.size w w1 := ((((Below.refl _ _).alloc (Nat.le_refl _) _).alloc (by simp) _).alloc (by simp <;> omega) _).trans (b1.mono (by simp <;> omega))
  have ROW1 := Lib.hid row1'; have BEL1 := Lib.hid bel1
  clear row1 row1' bel1 b1
  obtain ⟨i0c, i1c, i2c, i3c, ifz⟩ := blk4 BI.out
  obtain ⟨r0c, r1c, r2c, r3c, rfz⟩ := blk4 BR.out
  obtain ⟨o0c, o1c, o2c, o3c, ofz⟩ := blk4 BO.out
  have hxc1 := (BEL1.out.cell (p := ⟨b0, off + m, none⟩) hblt).trans hxc
  go_wp2_with fail
  refine (clone_c (ms.take m) A1 m (m + 1) _ (by rw [List.length_take, HN.out]; omega) ?q1 (by omega)).mono ?_
  case q1 =>
    rw [List.map_take]
    refine Rd.take ?_ _
    refine Row.rd (B := w.heap.size + 3) (e := 3) (size := 1) (n := (m + 1)) (c := (m + 1)) ?_
    repeat (with_reducible refine Row.setFar ?_ (by simp <;> omega) _)
    exact ROW1.out
  rintro e w3 ⟨A3, rfl, row3, b3⟩
  rw [show (ms.take m).length = m by rw [List.length_take, HN.out]; omega] at row3 ⊢
  have hb3 := b3.mono (show w.heap.size + 3 ≤ _ by simp <;> omega)
  have bi3 : Blk w3 w.heap.size 25 #[.int .i64 ((m : Int) + 1), .int .i64 k, .slice (some ⟨b0, off, none⟩) (m + 1) c, .bool true] := (by first | exact (((((BI.out.far (by simp <;> omega) _).far (by simp <;> omega) _).far (by simp <;> omega) _).far (by simp <;> omega) _)).below hb3 (by omega))
  have br3 : Blk w3 (w.heap.size + 1) 25 #[.int .i64 0, .int .i64 0, .slice none 0 0, .bool false] := (((((BR.out.far (by simp <;> omega) _).far (by simp <;> omega) _).far (by simp <;> omega) _).far (by simp <;> omega) _)).below hb3 (by omega)
  have bo3 : Blk w3 (w.heap.size + 1 + 1) 25 #[.int .i64 (m : Int), .int .i64 x, .slice A1 (m + 1) (m + 1), .bool false] := (((((BO.out.set_ 2 (.slice A1 (m + 1) (m + 1))).set_ 0 (.int .i64 (m : Int))).set_ 1 (.int .i64 x)).set_ 3 (.bool false))).below hb3 (by omega)
  clear BI BR BO i0c i1c i2c i3c ifz r0c r1c r2c r3c rfz o0c o1c o2c o3c ofz
  obtain ⟨i0c, i1c, i2c, i3c, ifz⟩ := blk4 bi3
  obtain ⟨r0c, r1c, r2c, r3c, rfz⟩ := blk4 br3
  obtain ⟨o0c, o1c, o2c, o3c, ofz⟩ := blk4 bo3
  have BI := Lib.hid bi3; have BR := Lib.hid br3; have BO := Lib.hid bo3
  clear bi3 br3 bo3
  have hz3 : w.heap.size + 3 ≤ w3.heap.size := by have := b3.size; simp at this; omega
  have row3' : Row w3 (w.heap.size + 3) 3 1 A3 m m ((ms.take m).map (.int .i64)) := row3.mono (by simp <;> omega)
  have bel3 : Below w.heap.size w w3 := by
    refine Below.trans ?_ (b3.mono (by simp <;> omega))
    repeat (with_reducible refine Below.setCell ?_ (by simp <;> omega) _)
    exact BEL1.out
  have ROW3 := Lib.hid row3'; have BEL3 := Lib.hid bel3
  clear row3 row3' bel3 b3 hb3
  go_wp2_with fail
  refine bodyPost_ret (v := .tuple #[.agg #[.int .i64 (m : Int), .int .i64 x, .slice A3 m m, .bool false], .bool true]) (by simp [results, Try.results33, go_sem, i0c, i1c, i2c, i3c, ifz, r0c, r1c, r2c, r3c, rfz, o0c, o1c, o2c, o3c, ofz]) rfl ?_
  refine ⟨A3, _, by rw [show (ms.take m).length = m by rw [List.length_take, HN.out]; omega] <;> rfl, ?_, ?_⟩
  all_goals try rw [show (ms.take m).length = m by rw [List.length_take, HN.out]; omega]
  · refine Row.mono (B := w.heap.size + 3) ?_ (by omega)
    repeat (with_reducible refine Row.setFar ?_ (by simp <;> omega) _)
    exact ROW3.out
  · repeat (with_reducible refine Below.setCell ?_ (by simp <;> omega) _)
    exact BEL3.out

set_option maxRecDepth 100000 in
set_option maxHeartbeats 400000 in
theorem step_back1_false (k : Int) (ms : List Int) (A : Option Addr) (n c : Nat) (w : World) (hN : ms.length = n) (hc0 : n ≤ c) (h : Rd w A (ms.map (.int .i64))) (hn : n ≤ 4) (hk0 : 0 ≤ k) (hk1 : k ≤ 12) (hx : n = 1) (x : Int) (hxl : ms[n - 1]? = some x) :
    Calls Try.prog 33 #[.agg #[.int .i64 (n : Int), .int .i64 k, .slice A n c, .bool false], .int .i64 4] w (RetStep ⟨0, (ms.take 0), false⟩ true w) := by
  have HC := Lib.hid (fun W => clone_c ms A n c W hN)
  have H := Lib.hid h; clear h
  have HN := Lib.hid hN; clear hN
  subst hx
  obtain ⟨b0, off, hA, hcell⟩ := H.out (by rw [List.length_map, HN.out]; omega)
  subst hA
  have hxc : w.cell? ⟨b0, off, none⟩ = some (.int .i64 x) := hcell 0 _ (by rw [List.getElem?_map, hxl]; rfl)
  have hblt : b0 < w.heap.size := World.block_lt_of_cell? w _ hxc
  have hne0 : ¬ b0 = w.heap.size + 1 + 1 := by omega
  have hne1 : ¬ w.heap.size + 1 + 1 = b0 := by omega
  clear hcell hxl
  go_enter Try.func33, Try.ntmps33
  go_wp2_with fail
  refine (HC.out _ (((H.out.alloc _).alloc _).alloc _) (by omega)).mono ?_
  rintro e w1 ⟨A1, rfl, row1, b1⟩
  rw [HN.out] at row1 ⊢
  obtain ⟨bi, br, bo⟩ := blk_lay w 25 #[.int .i64 1, .int .i64 k, .slice (some ⟨b0, off, none⟩) 1 c, .bool false] #[.int .i64 0, .int .i64 0, .slice none 0 0, .bool false] #[.int .i64 1, .int .i64 k, .slice (some ⟨b0, off, none⟩) 1 c, .bool false]
  have BI := Lib.hid (bi.below b1 bi.lt); have BR := Lib.hid (br.below b1 br.lt); have BO := Lib.hid (bo.below b1 bo.lt)
  clear bi br bo
  have hz : w.heap.size + 3 ≤ w1.heap.size := by have := b1.size; simp at this; omega
  have row1' : Row w1 (w.heap.size + 3) 3 1 A1 1 1 (ms.map (.int .i64)) := row1.mono (by simp <;> omega)
  have bel1 : Below w.heap.size w w1 := ((((Below.refl _ _).alloc (Nat.le_refl _) _).alloc (by simp) _).alloc (by simp <;> omega) _).trans (b1.mono (by simp <;> omega))
  have ROW1 := Lib.hid row1'; have BEL1 := Lib.hid bel1
  clear row1 row1' bel1 b1
  obtain ⟨i0c, i1c, i2c, i3c, ifz⟩ := blk4 BI.out
  obtain ⟨r0c, r1c, r2c, r3c, rfz⟩ := blk4 BR.out
  obtain ⟨o0c, o1c, o2c, o3c, ofz⟩ := blk4 BO.out
  have hxc1 := (BEL1.out.cell (p := ⟨b0, off, none⟩) hblt).trans hxc
  go_wp2_with fail
  refine (clone_c (ms.take 0) A1 0 1 _ (by rw [List.length_take, HN.out]; omega) ?q1 (by omega)).mono ?_
  case q1 =>
    rw [List.map_take]
    refine Rd.take ?_ _
    refine Row.rd (B := w.heap.size + 3) (e := 3) (size := 1) (n := 1) (c := 1) ?_
    repeat (with_reducible refine Row.setFar ?_ (by simp <;> omega) _)
    exact ROW1.out
  rintro e w3 ⟨A3, rfl, row3, b3⟩
  rw [show (ms.take 0).length = 0 by rw [List.length_take, HN.out]; omega] at row3 ⊢
  have hb3 := b3.mono (show w.heap.size + 3 ≤ _ by simp <;> omega)
  have bi3 : Blk w3 w.heap.size 25 #[.int .i64 1, .int .i64 k, .slice (some ⟨b0, off, none⟩) 1 c, .bool false] := (by first | exact (((((BI.out.far (by simp <;> omega) _).far (by simp <;> omega) _).far (by simp <;> omega) _).far (by simp <;> omega) _)).below hb3 (by omega))
  have br3 : Blk w3 (w.heap.size + 1) 25 #[.int .i64 0, .int .i64 0, .slice none 0 0, .bool false] := (((((BR.out.far (by simp <;> omega) _).far (by simp <;> omega) _).far (by simp <;> omega) _).far (by simp <;> omega) _)).below hb3 (by omega)
  have bo3 : Blk w3 (w.heap.size + 1 + 1) 25 #[.int .i64 0, .int .i64 x, .slice A1 1 1, .bool false] := (((((BO.out.set_ 2 (.slice A1 1 1)).set_ 0 (.int .i64 0)).set_ 1 (.int .i64 x)).set_ 3 (.bool false))).below hb3 (by omega)
  clear BI BR BO i0c i1c i2c i3c ifz r0c r1c r2c r3c rfz o0c o1c o2c o3c ofz
  obtain ⟨i0c, i1c, i2c, i3c, ifz⟩ := blk4 bi3
  obtain ⟨r0c, r1c, r2c, r3c, rfz⟩ := blk4 br3
  obtain ⟨o0c, o1c, o2c, o3c, ofz⟩ := blk4 bo3
  have BI := Lib.hid bi3; have BR := Lib.hid br3; have BO := Lib.hid bo3
  clear bi3 br3 bo3
  have hz3 : w.heap.size + 3 ≤ w3.heap.size := by have := b3.size; simp at this; omega
  have row3' : Row w3 (w.heap.size + 3) 3 1 A3 0 0 ((ms.take 0).map (.int .i64)) := row3.mono (by simp <;> omega)
  have bel3 : Below w.heap.size w w3 := by
    refine Below.trans ?_ (b3.mono (by simp <;> omega))
    repeat (with_reducible refine Below.setCell ?_ (by simp <;> omega) _)
    exact BEL1.out
  have ROW3 := Lib.hid row3'; have BEL3 := Lib.hid bel3
  clear row3 row3' bel3 b3 hb3
  go_wp2_with fail
  refine bodyPost_ret (v := .tuple #[.agg #[.int .i64 0, .int .i64 0, .slice A3 0 0, .bool false], .bool true]) (by simp [results, Try.results33, go_sem, i0c, i1c, i2c, i3c, ifz, r0c, r1c, r2c, r3c, rfz, o0c, o1c, o2c, o3c, ofz]) rfl ?_
  refine ⟨A3, _, by rw [show (ms.take 0).length = 0 by rw [List.length_take, HN.out]; omega] <;> rfl, ?_, ?_⟩
  all_goals try rw [show (ms.take 0).length = 0 by rw [List.length_take, HN.out]; omega]
  · refine Row.mono (B := w.heap.size + 3) ?_ (by omega)
    repeat (with_reducible refine Row.setFar ?_ (by simp <;> omega) _)
    exact ROW3.out
  · repeat (with_reducible refine Below.setCell ?_ (by simp <;> omega) _)
    exact BEL3.out

set_option maxRecDepth 100000 in
set_option maxHeartbeats 400000 in
theorem step_back2_false (k : Int) (ms : List Int) (A : Option Addr) (n c : Nat) (w : World) (hN : ms.length = n) (hc0 : n ≤ c) (h : Rd w A (ms.map (.int .i64))) (hn : n ≤ 4) (hk0 : 0 ≤ k) (hk1 : k ≤ 12) (hx : 1 < n) (x : Int) (hxl : ms[n - 1]? = some x) :
    Calls Try.prog 33 #[.agg #[.int .i64 (n : Int), .int .i64 k, .slice A n c, .bool false], .int .i64 4] w (RetStep ⟨x, (ms.take (n - 1)), false⟩ true w) := by
  have HC := Lib.hid (fun W => clone_c ms A n c W hN)
  have H := Lib.hid h; clear h
  have HN := Lib.hid hN; clear hN
  obtain ⟨m, rfl⟩ : ∃ m, n = m + 1 := ⟨n - 1, by omega⟩
  rw [show m + 1 - 1 = m by omega]
  rw [show m + 1 - 1 = m by omega] at hxl
  obtain ⟨b0, off, hA, hcell⟩ := H.out (by rw [List.length_map, HN.out]; omega)
  subst hA
  have hxc : w.cell? ⟨b0, off + m, none⟩ = some (.int .i64 x) := hcell m _ (by rw [List.getElem?_map, hxl]; rfl)
  have hblt : b0 < w.heap.size := World.block_lt_of_cell? w _ hxc
  have hne0 : ¬ b0 = w.heap.size + 1 + 1 := by omega
  have hne1 : ¬ w.heap.size + 1 + 1 = b0 := by omega
  clear hcell hxl
  have hx0 : ((m : Int) == 0) = false := beq_eq_false_iff_ne.2 (by omega)
  have hx1 : ¬ m = 0 := by omega
  go_enter Try.func33, Try.ntmps33
  go_wp2_with fail
  refine (HC.out _ (((H.out.alloc _).alloc _).alloc _) (by omega)).mono ?_
  rintro e w1 ⟨A1, rfl, row1, b1⟩
  rw [HN.out] at row1 ⊢
  obtain ⟨bi, br, bo⟩ := blk_lay w 25 #[.int .i64 ((m : Int) + 1), .int .i64 k, .slice (some ⟨b0, off, none⟩) (m + 1) c, .bool false] #[.int .i64 0, .int .i64 0, .slice none 0 0, .bool false] #[.int .i64 ((m : Int) + 1), .int .i64 k, .slice (some ⟨b0, off, none⟩) (m + 1) c, .bool false]
  have BI := Lib.hid (bi.below b1 bi.lt); have BR := Lib.hid (br.below b1 br.lt); have BO := Lib.hid (bo.below b1 bo.lt)
  clear bi br bo
  have hz : w.heap.size + 3 ≤ w1.heap.size := by have := b1.size; simp at this; omega
  have row1' : Row w1 (w.heap.size + 3) 3 1 A1 (m + 1) (m + 1) (ms.map (.int .i64)) := row1.mono (by simp <;> omega)
  have bel1 : Below w.heap.size w w1 := ((((Below.refl _ _).alloc (Nat.le_refl _) _).alloc (by simp) _).alloc (by simp <;> omega) _).trans (b1.mono (by simp <;> omega))
  have ROW1 := Lib.hid row1'; have BEL1 := Lib.hid bel1
  clear row1 row1' bel1 b1
  obtain ⟨i0c, i1c, i2c, i3c, ifz⟩ := blk4 BI.out
  obtain ⟨r0c, r1c, r2c, r3c, rfz⟩ := blk4 BR.out
  obtain ⟨o0c, o1c, o2c, o3c, ofz⟩ := blk4 BO.out
  have hxc1 := (BEL1.out.cell (p := ⟨b0, off + m, none⟩) hblt).trans hxc
  go_wp2_with fail
  refine (clone_c (ms.take m) A1 m (m + 1) _ (by rw [List.length_take, HN.out]; omega) ?q1 (by omega)).mono ?_
  case q1 =>
    rw [List.map_take]
    refine Rd.take ?_ _
    refine Row.rd (B := w.heap.size + 3) (e := 3) (size := 1) (n := (m + 1)) (c := (m + 1)) ?_
    repeat (with_reducible refine Row.setFar ?_ (by simp <;> omega) _)
    exact ROW1.out
  rintro e w3 ⟨A3, rfl, row3, b3⟩
  rw [show (ms.take m).length = m by rw [List.length_take, HN.out]; omega] at row3 ⊢
  have hb3 := b3.mono (show w.heap.size + 3 ≤ _ by simp <;> omega)
  have bi3 : Blk w3 w.heap.size 25 #[.int .i64 ((m : Int) + 1), .int .i64 k, .slice (some ⟨b0, off, none⟩) (m + 1) c, .bool false] := (by first | exact (((((BI.out.far (by simp <;> omega) _).far (by simp <;> omega) _).far (by simp <;> omega) _).far (by simp <;> omega) _)).below hb3 (by omega))
  have br3 : Blk w3 (w.heap.size + 1) 25 #[.int .i64 0, .int .i64 0, .slice none 0 0, .bool false] := (((((BR.out.far (by simp <;> omega) _).far (by simp <;> omega) _).far (by simp <;> omega) _).far (by simp <;> omega) _)).below hb3 (by omega)
  have bo3 : Blk w3 (w.heap.size + 1 + 1) 25 #[.int .i64 (m : Int), .int .i64 x, .slice A1 (m + 1) (m + 1), .bool false] := (((((BO.out.set_ 2 (.slice A1 (m + 1) (m + 1))).set_ 0 (.int .i64 (m : Int))).set_ 1 (.int .i64 x)).set_ 3 (.bool false))).below hb3 (by omega)
  clear BI BR BO i0c i1c i2c i3c ifz r0c r1c r2c r3c rfz o0c o1c o2c o3c ofz
  obtain ⟨i0c, i1c, i2c, i3c, ifz⟩ := blk4 bi3
  obtain ⟨r0c, r1c, r2c, r3c, rfz⟩ := blk4 br3
  obtain ⟨o0c, o1c, o2c, o3c, ofz⟩ := blk4 bo3
  have BI := Lib.hid bi3; have BR := Lib.hid br3; have BO := Lib.hid bo3
  clear bi3 br3 bo3
  have hz3 : w.heap.size + 3 ≤ w3.heap.size := by have := b3.size; simp at this; omega
  have row3' : Row w3 (w.heap.size + 3) 3 1 A3 m m ((ms.take m).map (.int .i64)) := row3.mono (by simp <;> omega)
  have bel3 : Below w.heap.size w w3 := by
    refine Below.trans ?_ (b3.mono (by simp <;> omega))
    repeat (with_reducible refine Below.setCell ?_ (by simp <;> omega) _)
    exact BEL1.out
  have ROW3 := Lib.hid row3'; have BEL3 := Lib.hid bel3
  clear row3 row3' bel3 b3 hb3
  go_wp2_with fail
  refine bodyPost_ret (v := .tuple #[.agg #[.int .i64 (m : Int), .int .i64 x, .slice A3 m m, .bool false], .bool true]) (by simp [results, Try.results33, go_sem, i0c, i1c, i2c, i3c, ifz, r0c, r1c, r2c, r3c, rfz, o0c, o1c, o2c, o3c, ofz]) rfl ?_
  refine ⟨A3, _, by rw [show (ms.take m).length = m by rw [List.length_take, HN.out]; omega] <;> rfl, ?_, ?_⟩
  all_goals try rw [show (ms.take m).length = m by rw [List.length_take, HN.out]; omega]
  · refine Row.mono (B := w.heap.size + 3) ?_ (by omega)
    repeat (with_reducible refine Row.setFar ?_ (by simp <;> omega) _)
    exact ROW3.out
  · repeat (with_reducible refine Below.setCell ?_ (by simp <;> omega) _)
    exact BEL3.out

end Go.Proofs.Ytagmhmhhjkfhgaa
