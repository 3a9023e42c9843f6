/- Contract of a command of the program. -/
import Derived.Test.YtagmhmhhjkfhgaaNestsV
set_option linter.unusedVariables false
set_option linter.unusedSimpArgs false
set_option linter.unnecessarySimpa false
namespace Go.Proofs.Ytagmhmhhjkfhgaa
open Go.RowKit

theorem old_cells {W w1 : World} (hb : Below W.heap.size W w1) : (∀ b o, b < W.heap.size → w1.cell? ⟨b, o, none⟩ = W.cell? ⟨b, o, none⟩) ∧ (∀ b o, b < W.heap.size → w1.frozen? ⟨b, o, none⟩ = W.frozen? ⟨b, o, none⟩) :=
  ⟨fun b o h => hb.cell (p := ⟨b, o, none⟩) h, fun b o h => hb.frozen (p := ⟨b, o, none⟩) h⟩
theorem Row.setFar {w : World} {B : Nat} {e : TypeId} {size n c : Nat} {A : Option Addr} {xs : List Value} (h : Row w B e size A n c xs) {p : Addr} (hp : p.block < B) (u : Value) : Row (w.setCell p u) B e size A n c xs :=
  h.keep (only_setCell (World.grownBy.refl _ _) (.inl rfl) _) hp
/-- A state of a nest and a bool: new memory; what was there is as it was. -/
def RetStep (t : St) (ok : Bool) (w : World) (e : Ending) (w' : World) : Prop :=
  ∃ A c, e = .returned (.tuple #[.agg #[.int .i64 (t.marks.length : Int), .int .i64 t.work, .slice A t.marks.length c, .bool t.broken], .bool ok]) ∧ Row w' w.heap.size 3 1 A t.marks.length c (t.marks.map (.int .i64)) ∧ Below w.heap.size w w'
theorem blk4 {w : World} {g : Nat} {t : TypeId} {a b c d : Value} (h : Blk w g t #[a, b, c, d]) : w.cell? ⟨g, 0, none⟩ = some a ∧ w.cell? ⟨g, 1, none⟩ = some b ∧ w.cell? ⟨g, 2, none⟩ = some c ∧ w.cell? ⟨g, 3, none⟩ = some d ∧ ∀ i, w.frozen? ⟨g, i, none⟩ = false :=
  ⟨h.cell 0, h.cell 1, h.cell 2, h.cell 3, h.frozen⟩
theorem blk_lay (w : World) (t : TypeId) (x y z : Array Value) : Blk (((w.alloc (.cells x t)).alloc (.cells y t)).alloc (.cells z t)) w.heap.size t x ∧ Blk (((w.alloc (.cells x t)).alloc (.cells y t)).alloc (.cells z t)) (w.heap.size + 1) t y ∧ Blk (((w.alloc (.cells x t)).alloc (.cells y t)).alloc (.cells z t)) (w.heap.size + 1 + 1) t z := by
  refine ⟨((Blk.new _ _ _).alloc _).alloc _, ?_, ?_⟩
  · have := (Blk.new (w.alloc (.cells x t)) t y).alloc (.cells z t)
    simpa using this
  · have := Blk.new ((w.alloc (.cells x t)).alloc (.cells y t)) t z
    simpa using this
theorem lit1 (w : World) (x : Int) : Rd (w.alloc (.cells #[.int .i64 x] 3)) (some ⟨w.heap.size, 0, none⟩) [.int .i64 x] := Rd.one (cell_new w _ _ 0)

set_option maxRecDepth 100000 in
set_option maxHeartbeats 400000 in
theorem step_no1 (k : Int) (ms : List Int) (kind : Int) (A : Option Addr) (n c : Nat) (w : World) (hN : ms.length = n) (hc0 : n ≤ c) (h : Rd w A (ms.map (.int .i64))) (hn : n ≤ 4) (hk0 : 0 ≤ k) (hk1 : k ≤ 12) (h2 : (kind != 2) = true) (h4 : (kind != 4) = true) :
    Calls Try.prog 33 #[.agg #[.int .i64 (n : Int), .int .i64 k, .slice A n c, .bool true], .int .i64 kind] w (RetStep ⟨k, ms, true⟩ false w) := by
  have HC := Lib.hid (fun W => clone_c ms A n c W hN)
  have H := Lib.hid h; clear h
  have HN := Lib.hid hN; clear hN
  go_enter Try.func33, Try.ntmps33
  go_wp2_with fail
  refine (HC.out _ (((H.out.alloc _).alloc _).alloc _) (by omega)).mono ?_
  rintro e w1 ⟨A1, rfl, row1, b1⟩
  rw [HN.out] at row1 ⊢
  obtain ⟨bi, br, bo⟩ := blk_lay w 25 #[.int .i64 (n : Int), .int .i64 k, .slice A n c, .bool true] #[.int .i64 0, .int .i64 0, .slice none 0 0, .bool false] #[.int .i64 (n : Int), .int .i64 k, .slice A n c, .bool true]
  have BI := Lib.hid (bi.below b1 bi.lt); have BR := Lib.hid (br.below b1 br.lt); have BO := Lib.hid (bo.below b1 bo.lt)
  clear bi br bo
  have hz : w.heap.size + 3 ≤ w1.heap.size := by have := b1.size; simp at this; omega
  have row1' : Row w1 (w.heap.size + 3) 3 1 A1 n n (ms.map (.int .i64)) := row1.mono (by simp <;> omega)
  have bel1 : Below w.heap.size w w1 := ((((Below.refl _ _).alloc (Nat.le_refl _) _).alloc (by simp) _).alloc (by simp <;> omega) _).trans (b1.mono (by simp <;> omega))
  have ROW1 := Lib.hid row1'; have BEL1 := Lib.hid bel1
  clear row1 row1' bel1 b1
  obtain ⟨i0c, i1c, i2c, i3c, ifz⟩ := blk4 BI.out
  obtain ⟨r0c, r1c, r2c, r3c, rfz⟩ := blk4 BR.out
  obtain ⟨o0c, o1c, o2c, o3c, ofz⟩ := blk4 BO.out
  go_wp2_with fail
  refine bodyPost_ret (v := .tuple #[.agg #[.int .i64 (n : Int), .int .i64 k, .slice A1 n n, .bool true], .bool false]) (by simp [results, Try.results33, go_sem, i0c, i1c, i2c, i3c, ifz, r0c, r1c, r2c, r3c, rfz, o0c, o1c, o2c, o3c, ofz]) rfl ?_
  refine ⟨A1, _, by rw [HN.out], ?_, ?_⟩
  all_goals try rw [HN.out]
  · refine Row.mono (B := w.heap.size + 3) ?_ (by omega)
    repeat (with_reducible refine Row.setFar ?_ (by simp <;> omega) _)
    exact ROW1.out
  · repeat (with_reducible refine Below.setCell ?_ (by simp <;> omega) _)
    exact BEL1.out

set_option maxRecDepth 100000 in
set_option maxHeartbeats 400000 in
theorem step_noK (k : Int) (ms : List Int) (kind : Int) (A : Option Addr) (n c : Nat) (w : World) (hN : ms.length = n) (hc0 : n ≤ c) (h : Rd w A (ms.map (.int .i64))) (hn : n ≤ 4) (hk0 : 0 ≤ k) (hk1 : k ≤ 12) (h0 : (kind == 0) = false) (h1 : (kind == 1) = false) (h2 : (kind == 2) = false) (h3 : (kind == 3) = false) (h4 : (kind == 4) = false) :
    Calls Try.prog 33 #[.agg #[.int .i64 (n : Int), .int .i64 k, .slice A n c, .bool false], .int .i64 kind] w (RetStep ⟨k, ms, false⟩ false w) := by
  have HC := Lib.hid (fun W => clone_c ms A n c W hN)
  have H := Lib.hid h; clear h
  have HN := Lib.hid hN; clear hN
  go_enter Try.func33, Try.ntmps33
  go_wp2_with fail
  refine (HC.out _ (((H.out.alloc _).alloc _).alloc _) (by omega)).mono ?_
  rintro e w1 ⟨A1, rfl, row1, b1⟩
  rw [HN.out] at row1 ⊢
  obtain ⟨bi, br, bo⟩ := blk_lay w 25 #[.int .i64 (n : Int), .int .i64 k, .slice A n c, .bool false] #[.int .i64 0, .int .i64 0, .slice none 0 0, .bool false] #[.int .i64 (n : Int), .int .i64 k, .slice A n c, .bool false]
  have BI := Lib.hid (bi.below b1 bi.lt); have BR := Lib.hid (br.below b1 br.lt); have BO := Lib.hid (bo.below b1 bo.lt)
  clear bi br bo
  have hz : w.heap.size + 3 ≤ w1.heap.size := by have := b1.size; simp at this; omega
  have row1' : Row w1 (w.heap.size + 3) 3 1 A1 n n (ms.map (.int .i64)) := row1.mono (by simp <;> omega)
  have bel1 : Below w.heap.size w w1 := ((((Below.refl _ _).alloc (Nat.le_refl _) _).alloc (by simp) _).alloc (by simp <;> omega) _).trans (b1.mono (by simp <;> omega))
  have ROW1 := Lib.hid row1'; have BEL1 := Lib.hid bel1
  clear row1 row1' bel1 b1
  obtain ⟨i0c, i1c, i2c, i3c, ifz⟩ := blk4 BI.out
  obtain ⟨r0c, r1c, r2c, r3c, rfz⟩ := blk4 BR.out
  obtain ⟨o0c, o1c, o2c, o3c, ofz⟩ := blk4 BO.out
  go_wp2_with fail
  refine bodyPost_ret (v := .tuple #[.agg #[.int .i64 (n : Int), .int .i64 k, .slice A1 n n, .bool false], .bool false]) (by simp [results, Try.results33, go_sem, i0c, i1c, i2c, i3c, ifz, r0c, r1c, r2c, r3c, rfz, o0c, o1c, o2c, o3c, ofz]) rfl ?_
  refine ⟨A1, _, by rw [HN.out], ?_, ?_⟩
  all_goals try rw [HN.out]
  · refine Row.mono (B := w.heap.size + 3) ?_ (by omega)
    repeat (with_reducible refine Row.setFar ?_ (by simp <;> omega) _)
    exact ROW1.out
  · repeat (with_reducible refine Below.setCell ?_ (by simp <;> omega) _)
    exact BEL1.out

set_option maxRecDepth 100000 in
set_option maxHeartbeats 400000 in
theorem step_no0 (k : Int) (ms : List Int) (A : Option Addr) (n c : Nat) (w : World) (hN : ms.length = n) (hc0 : n ≤ c) (h : Rd w A (ms.map (.int .i64))) (hn : n ≤ 4) (hk0 : 0 ≤ k) (hk1 : k ≤ 12) (hx : ¬ n < 4) :
    Calls Try.prog 33 #[.agg #[.int .i64 (n : Int), .int .i64 k, .slice A n c, .bool false], .int .i64 0] w (RetStep ⟨k, ms, false⟩ false w) := by
  have HC := Lib.hid (fun W => clone_c ms A n c W hN)
  have H := Lib.hid h; clear h
  have HN := Lib.hid hN; clear hN
  have hx1 : decide ((n : Int) < 4) = false := decide_eq_false (by omega)
  have hx2 : decide (n < 4) = false := decide_eq_false hx
  go_enter Try.func33, Try.ntmps33
  go_wp2_with fail
  refine (HC.out _ (((H.out.alloc _).alloc _).alloc _) (by omega)).mono ?_
  rintro e w1 ⟨A1, rfl, row1, b1⟩
  rw [HN.out] at row1 ⊢
  obtain ⟨bi, br, bo⟩ := blk_lay w 25 #[.int .i64 (n : Int), .int .i64 k, .slice A n c, .bool false] #[.int .i64 0, .int .i64 0, .slice none 0 0, .bool false] #[.int .i64 (n : Int), .int .i64 k, .slice A n c, .bool false]
  have BI := Lib.hid (bi.below b1 bi.lt); have BR := Lib.hid (br.below b1 br.lt); have BO := Lib.hid (bo.below b1 bo.lt)
  clear bi br bo
  have hz : w.heap.size + 3 ≤ w1.heap.size := by have := b1.size; simp at this; omega
  have row1' : Row w1 (w.heap.size + 3) 3 1 A1 n n (ms.map (.int .i64)) := row1.mono (by simp <;> omega)
  have bel1 : Below w.heap.size w w1 := ((((Below.refl _ _).alloc (Nat.le_refl _) _).alloc (by simp) _).alloc (by simp <;> omega) _).trans (b1.mono (by simp <;> omega))
  have ROW1 := Lib.hid row1'; have BEL1 := Lib.hid bel1
  clear row1 row1' bel1 b1
  obtain ⟨i0c, i1c, i2c, i3c, ifz⟩ := blk4 BI.out
  obtain ⟨r0c, r1c, r2c, r3c, rfz⟩ := blk4 BR.out
  obtain ⟨o0c, o1c, o2c, o3c, ofz⟩ := blk4 BO.out
  go_wp2_with fail
  refine bodyPost_ret (v := .tuple #[.agg #[.int .i64 (n : Int), .int .i64 k, .slice A1 n n, .bool false], .bool false]) (by simp [results, Try.results33, go_sem, i0c, i1c, i2c, i3c, ifz, r0c, r1c, r2c, r3c, rfz, o0c, o1c, o2c, o3c, ofz]) rfl ?_
  refine ⟨A1, _, by rw [HN.out], ?_, ?_⟩
  all_goals try rw [HN.out]
  · refine Row.mono (B := w.heap.size + 3) ?_ (by omega)
    repeat (with_reducible refine Row.setFar ?_ (by simp <;> omega) _)
    exact ROW1.out
  · repeat (with_reducible refine Below.setCell ?_ (by simp <;> omega) _)
    exact BEL1.out

set_option maxRecDepth 100000 in
set_option maxHeartbeats 400000 in
theorem step_noE1 (k : Int) (ms : List Int) (A : Option Addr) (n c : Nat) (w : World) (hN : ms.length = n) (hc0 : n ≤ c) (h : Rd w A (ms.map (.int .i64))) (hn : n ≤ 4) (hk0 : 0 ≤ k) (hk1 : k ≤ 12) (hx : n = 0) :
    Calls Try.prog 33 #[.agg #[.int .i64 (n : Int), .int .i64 k, .slice A n c, .bool false], .int .i64 1] w (RetStep ⟨k, ms, false⟩ false w) := by
  have HC := Lib.hid (fun W => clone_c ms A n c W hN)
  have H := Lib.hid h; clear h
  have HN := Lib.hid hN; clear hN
  have hx1 : decide ((0 : Int) < (n : Int)) = false := decide_eq_false (by omega)
  have hx2 : decide (0 < n) = false := decide_eq_false (by omega)
  have HX := Lib.hid hx; clear hx
  go_enter Try.func33, Try.ntmps33
  go_wp2_with fail
  refine (HC.out _ (((H.out.alloc _).alloc _).alloc _) (by omega)).mono ?_
  rintro e w1 ⟨A1, rfl, row1, b1⟩
  rw [HN.out] at row1 ⊢
  obtain ⟨bi, br, bo⟩ := blk_lay w 25 #[.int .i64 (n : Int), .int .i64 k, .slice A n c, .bool false] #[.int .i64 0, .int .i64 0, .slice none 0 0, .bool false] #[.int .i64 (n : Int), .int .i64 k, .slice A n c, .bool false]
  have BI := Lib.hid (bi.below b1 bi.lt); have BR := Lib.hid (br.below b1 br.lt); have BO := Lib.hid (bo.below b1 bo.lt)
  clear bi br bo
  have hz : w.heap.size + 3 ≤ w1.heap.size := by have := b1.size; simp at this; omega
  have row1' : Row w1 (w.heap.size + 3) 3 1 A1 n n (ms.map (.int .i64)) := row1.mono (by simp <;> omega)
  have bel1 : Below w.heap.size w w1 := ((((Below.refl _ _).alloc (Nat.le_refl _) _).alloc (by simp) _).alloc (by simp <;> omega) _).trans (b1.mono (by simp <;> omega))
  have ROW1 := Lib.hid row1'; have BEL1 := Lib.hid bel1
  clear row1 row1' bel1 b1
  obtain ⟨i0c, i1c, i2c, i3c, ifz⟩ := blk4 BI.out
  obtain ⟨r0c, r1c, r2c, r3c, rfz⟩ := blk4 BR.out
  obtain ⟨o0c, o1c, o2c, o3c, ofz⟩ := blk4 BO.out
  go_wp2_with fail
  refine bodyPost_ret (v := .tuple #[.agg #[.int .i64 (n : Int), .int .i64 k, .slice A1 n n, .bool false], .bool false]) (by simp [results, Try.results33, go_sem, i0c, i1c, i2c, i3c, ifz, r0c, r1c, r2c, r3c, rfz, o0c, o1c, o2c, o3c, ofz]) rfl ?_
  refine ⟨A1, _, by rw [HN.out], ?_, ?_⟩
  all_goals try rw [HN.out]
  · refine Row.mono (B := w.heap.size + 3) ?_ (by omega)
    repeat (with_reducible refine Row.setFar ?_ (by simp <;> omega) _)
    exact ROW1.out
  · repeat (with_reducible refine Below.setCell ?_ (by simp <;> omega) _)
    exact BEL1.out

set_option maxRecDepth 100000 in
set_option maxHeartbeats 400000 in
theorem step_noE2 (k : Int) (ms : List Int) (A : Option Addr) (n c : Nat) (w : World) (hN : ms.length = n) (hc0 : n ≤ c) (h : Rd w A (ms.map (.int .i64))) (hn : n ≤ 4) (hk0 : 0 ≤ k) (hk1 : k ≤ 12) (hx : n = 0) :
    Calls Try.prog 33 #[.agg #[.int .i64 (n : Int), .int .i64 k, .slice A n c, .bool false], .int .i64 2] w (RetStep ⟨k, ms, false⟩ false w) := by
  have HC := Lib.hid (fun W => clone_c ms A n c W hN)
  have H := Lib.hid h; clear h
  have HN := Lib.hid hN; clear hN
  have hx1 : decide ((0 : Int) < (n : Int)) = false := decide_eq_false (by omega)
  have hx2 : decide (0 < n) = false := decide_eq_false (by omega)
  have HX := Lib.hid hx; clear hx
  go_enter Try.func33, Try.ntmps33
  go_wp2_with fail
  refine (HC.out _ (((H.out.alloc _).alloc _).alloc _) (by omega)).mono ?_
  rintro e w1 ⟨A1, rfl, row1, b1⟩
  rw [HN.out] at row1 ⊢
  obtain ⟨bi, br, bo⟩ := blk_lay w 25 #[.int .i64 (n : Int), .int .i64 k, .slice A n c, .bool false] #[.int .i64 0, .int .i64 0, .slice none 0 0, .bool false] #[.int .i64 (n : Int), .int .i64 k, .slice A n c, .bool false]
  have BI := Lib.hid (bi.below b1 bi.lt); have BR := Lib.hid (br.below b1 br.lt); have BO := Lib.hid (bo.below b1 bo.lt)
  clear bi br bo
  have hz : w.heap.size + 3 ≤ w1.heap.size := by have := b1.size; simp at this; omega
  have row1' : Row w1 (w.heap.size + 3) 3 1 A1 n n (ms.map (.int .i64)) := row1.mono (by simp <;> omega)
  have bel1 : Below w.heap.size w w1 := ((((Below.refl _ _).alloc (Nat.le_refl _) _).alloc (by simp) _).alloc (by simp <;> omega) _).trans (b1.mono (by simp <;> omega))
  have ROW1 := Lib.hid row1'; have BEL1 := Lib.hid bel1
  clear row1 row1' bel1 b1
  obtain ⟨i0c, i1c, i2c, i3c, ifz⟩ := blk4 BI.out
  obtain ⟨r0c, r1c, r2c, r3c, rfz⟩ := blk4 BR.out
  obtain ⟨o0c, o1c, o2c, o3c, ofz⟩ := blk4 BO.out
  go_wp2_with fail
  refine bodyPost_ret (v := .tuple #[.agg #[.int .i64 (n : Int), .int .i64 k, .slice A1 n n, .bool false], .bool false]) (by simp [results, Try.results33, go_sem, i0c, i1c, i2c, i3c, ifz, r0c, r1c, r2c, r3c, rfz, o0c, o1c, o2c, o3c, ofz]) rfl ?_
  refine ⟨A1, _, by rw [HN.out], ?_, ?_⟩
  all_goals try rw [HN.out]
  · refine Row.mono (B := w.heap.size + 3) ?_ (by omega)
    repeat (with_reducible refine Row.setFar ?_ (by simp <;> omega) _)
    exact ROW1.out
  · repeat (with_reducible refine Below.setCell ?_ (by simp <;> omega) _)
    exact BEL1.out

set_option maxRecDepth 100000 in
set_option maxHeartbeats 400000 in
theorem step_noE3 (k : Int) (ms : List Int) (A : Option Addr) (n c : Nat) (w : World) (hN : ms.length = n) (hc0 : n ≤ c) (h : Rd w A (ms.map (.int .i64))) (hn : n ≤ 4) (hk0 : 0 ≤ k) (hk1 : k ≤ 12) (hx : n = 0) :
    Calls Try.prog 33 #[.agg #[.int .i64 (n : Int), .int .i64 k, .slice A n c, .bool false], .int .i64 3] w (RetStep ⟨k, ms, false⟩ false w) := by
  have HC := Lib.hid (fun W => clone_c ms A n c W hN)
  have H := Lib.hid h; clear h
  have HN := Lib.hid hN; clear hN
  have hx1 : decide ((0 : Int) < (n : Int)) = false := decide_eq_false (by omega)
  have hx2 : decide (0 < n) = false := decide_eq_false (by omega)
  have HX := Lib.hid hx; clear hx
  go_enter Try.func33, Try.ntmps33
  go_wp2_with fail
  refine (HC.out _ (((H.out.alloc _).alloc _).alloc _) (by omega)).mono ?_
  rintro e w1 ⟨A1, rfl, row1, b1⟩
  rw [HN.out] at row1 ⊢
  obtain ⟨bi, br, bo⟩ := blk_lay w 25 #[.int .i64 (n : Int), .int .i64 k, .slice A n c, .bool false] #[.int .i64 0, .int .i64 0, .slice none 0 0, .bool false] #[.int .i64 (n : Int), .int .i64 k, .slice A n c, .bool false]
  have BI := Lib.hid (bi.below b1 bi.lt); have BR := Lib.hid (br.below b1 br.lt); have BO := Lib.hid (bo.below b1 bo.lt)
  clear bi br bo
  have hz : w.heap.size + 3 ≤ w1.heap.size := by have := b1.size; simp at this; omega
  have row1' : Row w1 (w.heap.size + 3) 3 1 A1 n n (ms.map (.int .i64)) := row1.mono (by simp <;> omega)
  have bel1 : Below w.heap.size w w1 := ((((Below.refl _ _).alloc (Nat.le_refl _) _).alloc (by simp) _).alloc (by simp <;> omega) _).trans (b1.mono (by simp <;> omega))
  have ROW1 := Lib.hid row1'; have BEL1 := Lib.hid bel1
  clear row1 row1' bel1 b1
  obtain ⟨i0c, i1c, i2c, i3c, ifz⟩ := blk4 BI.out
  obtain ⟨r0c, r1c, r2c, r3c, rfz⟩ := blk4 BR.out
  obtain ⟨o0c, o1c, o2c, o3c, ofz⟩ := blk4 BO.out
  go_wp2_with fail
  refine bodyPost_ret (v := .tuple #[.agg #[.int .i64 (n : Int), .int .i64 k, .slice A1 n n, .bool false], .bool false]) (by simp [results, Try.results33, go_sem, i0c, i1c, i2c, i3c, ifz, r0c, r1c, r2c, r3c, rfz, o0c, o1c, o2c, o3c, ofz]) rfl ?_
  refine ⟨A1, _, by rw [HN.out], ?_, ?_⟩
  all_goals try rw [HN.out]
  · refine Row.mono (B := w.heap.size + 3) ?_ (by omega)
    repeat (with_reducible refine Row.setFar ?_ (by simp <;> omega) _)
    exact ROW1.out
  · repeat (with_reducible refine Below.setCell ?_ (by simp <;> omega) _)
    exact BEL1.out

set_option maxRecDepth 100000 in
set_option maxHeartbeats 400000 in
theorem step_noE4 (k : Int) (ms : List Int) (A : Option Addr) (n c : Nat) (w : World) (hN : ms.length = n) (hc0 : n ≤ c) (h : Rd w A (ms.map (.int .i64))) (hn : n ≤ 4) (hk0 : 0 ≤ k) (hk1 : k ≤ 12) (hx : n = 0) :
    Calls Try.prog 33 #[.agg #[.int .i64 (n : Int), .int .i64 k, .slice A n c, .bool false], .int .i64 4] w (RetStep ⟨k, ms, false⟩ false w) := by
  have HC := Lib.hid (fun W => clone_c ms A n c W hN)
  have H := Lib.hid h; clear h
  have HN := Lib.hid hN; clear hN
  have hx1 : decide ((0 : Int) < (n : Int)) = false := decide_eq_false (by omega)
  have hx2 : decide (0 < n) = false := decide_eq_false (by omega)
  have HX := Lib.hid hx; clear hx
  go_enter Try.func33, Try.ntmps33
  go_wp2_with fail
  refine (HC.out _ (((H.out.alloc _).alloc _).alloc _) (by omega)).mono ?_
  rintro e w1 ⟨A1, rfl, row1, b1⟩
  rw [HN.out] at row1 ⊢
  obtain ⟨bi, br, bo⟩ := blk_lay w 25 #[.int .i64 (n : Int), .int .i64 k, .slice A n c, .bool false] #[.int .i64 0, .int .i64 0, .slice none 0 0, .bool false] #[.int .i64 (n : Int), .int .i64 k, .slice A n c, .bool false]
  have BI := Lib.hid (bi.below b1 bi.lt); have BR := Lib.hid (br.below b1 br.lt); have BO := Lib.hid (bo.below b1 bo.lt)
  clear bi br bo
  have hz : w.heap.size + 3 ≤ w1.heap.size := by have := b1.size; simp at this; omega
  have row1' : Row w1 (w.heap.size + 3) 3 1 A1 n n (ms.map (.int .i64)) := row1.mono (by simp <;> omega)
  have bel1 : Below w.heap.size w w1 := ((((Below.refl _ _).alloc (Nat.le_refl _) _).alloc (by simp) _).alloc (by simp <;> omega) _).trans (b1.mono (by simp <;> omega))
  have ROW1 := Lib.hid row1'; have BEL1 := Lib.hid bel1
  clear row1 row1' bel1 b1
  obtain ⟨i0c, i1c, i2c, i3c, ifz⟩ := blk4 BI.out
  obtain ⟨r0c, r1c, r2c, r3c, rfz⟩ := blk4 BR.out
  obtain ⟨o0c, o1c, o2c, o3c, ofz⟩ := blk4 BO.out
  go_wp2_with fail
  refine bodyPost_ret (v := .tuple #[.agg #[.int .i64 (n : Int), .int .i64 k, .slice A1 n n, .bool false], .bool false]) (by simp [results, Try.results33, go_sem, i0c, i1c, i2c, i3c, ifz, r0c, r1c, r2c, r3c, rfz, o0c, o1c, o2c, o3c, ofz]) rfl ?_
  refine ⟨A1, _, by rw [HN.out], ?_, ?_⟩
  all_goals try rw [HN.out]
  · refine Row.mono (B := w.heap.size + 3) ?_ (by omega)
    repeat (with_reducible refine Row.setFar ?_ (by simp <;> omega) _)
    exact ROW1.out
  · repeat (with_reducible refine Below.setCell ?_ (by simp <;> omega) _)
    exact BEL1.out

set_option maxRecDepth 100000 in
set_option maxHeartbeats 400000 in
theorem step_noW (k : Int) (ms : List Int) (A : Option Addr) (n c : Nat) (w : World) (hN : ms.length = n) (hc0 : n ≤ c) (h : Rd w A (ms.map (.int .i64))) (hn : n ≤ 4) (hk0 : 0 ≤ k) (hk1 : k ≤ 12) (hx : 0 < n) (hy : ¬ k < 12) :
    Calls Try.prog 33 #[.agg #[.int .i64 (n : Int), .int .i64 k, .slice A n c, .bool false], .int .i64 1] w (RetStep ⟨k, ms, false⟩ false w) := by
  have HC := Lib.hid (fun W => clone_c ms A n c W hN)
  have H := Lib.hid h; clear h
  have HN := Lib.hid hN; clear hN
  have hy1 : decide (k < 12) = false := decide_eq_false hy
  go_enter Try.func33, Try.ntmps33
  go_wp2_with fail
  refine (HC.out _ (((H.out.alloc _).alloc _).alloc _) (by omega)).mono ?_
  rintro e w1 ⟨A1, rfl, row1, b1⟩
  rw [HN.out] at row1 ⊢
  obtain ⟨bi, br, bo⟩ := blk_lay w 25 #[.int .i64 (n : Int), .int .i64 k, .slice A n c, .bool false] #[.int .i64 0, .int .i64 0, .slice none 0 0, .bool false] #[.int .i64 (n : Int), .int .i64 k, .slice A n c, .bool false]
  have BI := Lib.hid (bi.below b1 bi.lt); have BR := Lib.hid (br.below b1 br.lt); have BO := Lib.hid (bo.below b1 bo.lt)
  clear bi br bo
  have hz : w.heap.size + 3 ≤ w1.heap.size := by have := b1.size; simp at this; omega
  have row1' : Row w1 (w.heap.size + 3) 3 1 A1 n n (ms.map (.int .i64)) := row1.mono (by simp <;> omega)
  have bel1 : Below w.heap.size w w1 := ((((Below.refl _ _).alloc (Nat.le_refl _) _).alloc (by simp) _).alloc (by simp <;> omega) _).trans (b1.mono (by simp <;> omega))
  have ROW1 := Lib.hid row1'; have BEL1 := Lib.hid bel1
  clear row1 row1' bel1 b1
  obtain ⟨i0c, i1c, i2c, i3c, ifz⟩ := blk4 BI.out
  obtain ⟨r0c, r1c, r2c, r3c, rfz⟩ := blk4 BR.out
  obtain ⟨o0c, o1c, o2c, o3c, ofz⟩ := blk4 BO.out
  go_wp2_with fail
  refine bodyPost_ret (v := .tuple #[.agg #[.int .i64 (n : Int), .int .i64 k, .slice A1 n n, .bool false], .bool false]) (by simp [results, Try.results33, go_sem, i0c, i1c, i2c, i3c, ifz, r0c, r1c, r2c, r3c, rfz, o0c, o1c, o2c, o3c, ofz]) rfl ?_
  refine ⟨A1, _, by rw [HN.out], ?_, ?_⟩
  all_goals try rw [HN.out]
  · refine Row.mono (B := w.heap.size + 3) ?_ (by omega)
    repeat (with_reducible refine Row.setFar ?_ (by simp <;> omega) _)
    exact ROW1.out
  · repeat (with_reducible refine Below.setCell ?_ (by simp <;> omega) _)
    exact BEL1.out

end Go.Proofs.Ytagmhmhhjkfhgaa
