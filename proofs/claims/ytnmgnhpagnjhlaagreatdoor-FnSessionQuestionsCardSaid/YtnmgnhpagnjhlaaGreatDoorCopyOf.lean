/- Copies of pools: the program. -/
import Derived.Test.YtnmgnhpagnjhlaaGreatDoorCloneP
import Derived.BigRegion
import Derived.Deep.RegionWith
set_option linter.unusedVariables false
set_option linter.unusedSimpArgs false
set_option linter.unnecessarySimpa false
namespace Go.Proofs.YtnmgnhpagnjhlaaGreatDoor
open Go.RowKit

set_option maxRecDepth 100000 in
set_option maxHeartbeats 8000000 in
theorem copyOf_c (mx : Int) (ids : List Int) (hs : List Pr) (wt : List Int) (A : Option Addr) (n c : Nat) (B : Option Addr) (m d : Nat) (C : Option Addr) (k f : Nat) (w : World) (hA : ids.length = n) (hB : hs.length = m) (hC : wt.length = k)
    (h1 : Rd w A (ids.map (.int .i64))) (h2 : Rd w B (sc hs)) (h3 : Rd w C (wt.map (.int .i64))) (l1 : n ≤ 1073741824) (l2 : m ≤ 1073741824) (l3 : k ≤ 1073741824) :
    Calls Tryz.prog 41 #[.agg #[.int .i64 mx, .slice A n c, .slice B m d, .slice C k f]] w (RetP ⟨mx, ids, hs, wt⟩ w) := by
  obtain ⟨w1, hw1⟩ : ∃ w1, w1 = (w.alloc (.cells #[.int .i64 mx, .slice A n c, .slice B m d, .slice C k f] 26)).alloc (.cells #[.int .i64 0, .slice none 0 0, .slice none 0 0, .slice none 0 0] 26) := ⟨_, rfl⟩
  have hg : w1.heap.size = w.heap.size + 1 + 1 := by rw [hw1]; simp
  have H1 := Lib.hid (show Rd w1 A _ by rw [hw1]; exact (h1.alloc _).alloc _)
  have H2 := Lib.hid (show Rd w1 B _ by rw [hw1]; exact (h2.alloc _).alloc _)
  have H3 := Lib.hid (show Rd w1 C _ by rw [hw1]; exact (h3.alloc _).alloc _)
  have BX := Lib.hid (show Blk w1 w.heap.size 26 #[.int .i64 mx, .slice A n c, .slice B m d, .slice C k f] by rw [hw1]; exact (Blk.new w _ _).alloc _)
  have BR := Lib.hid (show Blk w1 (w.heap.size + 1) 26 #[.int .i64 0, .slice none 0 0, .slice none 0 0, .slice none 0 0] by rw [hw1]; have := Blk.new (w.alloc (.cells #[.int .i64 mx, .slice A n c, .slice B m d, .slice C k f] 26)) 26 #[.int .i64 0, .slice none 0 0, .slice none 0 0, .slice none 0 0]; simpa using this)
  have B01 := Lib.hid (show Below w.heap.size w w1 by rw [hw1]; exact ((Below.refl _ _).alloc (Nat.le_refl _) _).alloc (by simp) _)
  have hgl : w.heap.size < w1.heap.size := by omega
  have hgr : w.heap.size + 1 < w1.heap.size := by omega
  have HC1 := Lib.hid (fun W hW => clone_c ids A n c W hA hW l1)
  have HC2 := Lib.hid (fun W hW => cloneH_c hs B m d W hB hW l2)
  have HC3 := Lib.hid (fun W hW => clone_c wt C k f W hC hW l3)
  obtain ⟨k0, k1, k2, k3, kfz⟩ := blk4 BX.out
  clear h1 h2 h3 hA hB hC
  go_enter Tryz.func41, Tryz.ntmps41
  go_wp2_with fail
  rw [← hw1]
  clear hw1
  go_region_with ((first
    | (go_at_call 81; (with_reducible refine (HC1.out _ H1.out.drew).mono ?_); rintro e wA ⟨A1, rfl, rA, bA⟩; have BA := Lib.hid (arm_drew bA).1; have hsA : w1.heap.size ≤ wA.heap.size := BA.out.size; obtain ⟨a0, a1, a2, a3, afz⟩ := blk4 (BX.out.below BA.out hgl))
    | (go_at_call 82; (with_reducible refine (HC2.out _ (H2.out.below BA.out)).mono ?_); rintro e wB ⟨A2, rfl, rB, bB⟩; have BB := Lib.hid (BA.out.trans (bB.mono hsA)); have hsB : wA.heap.size ≤ wB.heap.size := bB.size; obtain ⟨b0, b1, b2, b3, bfz⟩ := blk4 (BX.out.below BB.out hgl))
    | (go_at_call 81; (with_reducible refine (HC3.out _ (H3.out.below BB.out)).mono ?_); rintro e wC ⟨A3, rfl, rC, bC⟩; have BC := Lib.hid (BB.out.trans (bC.mono (Nat.le_trans hsA hsB))); have hsC : wB.heap.size ≤ wC.heap.size := bC.size; obtain ⟨c0, c1, c2, c3, cfz⟩ := blk4 (BX.out.below BC.out hgl); have RA := Lib.hid rA; have RB := Lib.hid rB; have RC := Lib.hid rC; have hbB := Lib.hid bB; have hbC := Lib.hid bC)
    | fail))
  all_goals
    have PR := Lib.hid (show PRow wC w1.heap.size ⟨mx, ids, hs, wt⟩ A1 ids.length A2 hs.length A3 wt.length from ⟨((RA.out.below hbB.out).below hbC.out).mono (Nat.le_refl _), (RB.out.below hbC.out).mono hsA, RC.out.mono (Nat.le_trans hsA hsB), row_apart RA.out RB.out (Nat.le_refl _), row_apart RA.out RC.out hsB, row_apart RB.out RC.out (Nat.le_refl _)⟩)
    have FR := Lib.hid (B01.out.trans (BC.out.mono (Nat.le_of_lt hgl)))
    obtain ⟨r0, r1, r2, r3, rfz⟩ := blk4 (BR.out.below BC.out hgr)
    have hglC : w.heap.size < wC.heap.size := Nat.lt_of_lt_of_le hgl BC.out.size
    obtain ⟨w9, hw9⟩ : ∃ w9, w9 = ((wC.setCell ⟨w.heap.size, 1, none⟩ (.slice A1 ids.length ids.length)).setCell ⟨w.heap.size, 2, none⟩ (.slice A2 hs.length hs.length)).setCell ⟨w.heap.size, 3, none⟩ (.slice A3 wt.length wt.length) := ⟨_, rfl⟩
    have BX9 := Lib.hid (show Blk w9 w.heap.size 26 #[.int .i64 mx, .slice A1 ids.length ids.length, .slice A2 hs.length hs.length, .slice A3 wt.length wt.length] by rw [hw9]; exact (((BX.out.below BC.out hgl).set_ 1 _).set_ 2 _).set_ 3 _)
    have BR9 := Lib.hid (show Blk w9 (w.heap.size + 1) 26 #[.int .i64 0, .slice none 0 0, .slice none 0 0, .slice none 0 0] by rw [hw9]; exact (((BR.out.below BC.out hgr).far (by simp) _).far (by simp) _).far (by simp) _)
    have PR9 := Lib.hid (show PRow w9 w1.heap.size ⟨mx, ids, hs, wt⟩ A1 ids.length A2 hs.length A3 wt.length by
      rw [hw9]
      iterate 3 (with_reducible refine PRow.setFar ?_ (by simp <;> omega) _)
      exact PR.out)
    have FR9 := Lib.hid (show Below w.heap.size w w9 by
      rw [hw9]
      iterate 3 (with_reducible refine Below.setCell ?_ (by simp) _)
      exact FR.out)
    rw [← hw9]
    clear hw9 r0 r1 r2 r3 rfz a0 a1 a2 a3 afz b0 b1 b2 b3 bfz c0 c1 c2 c3 cfz rA rB rC bA bB bC k0 k1 k2 k3 kfz PR FR
    obtain ⟨k0, k1, k2, k3, kfz⟩ := blk4 BX9.out
    obtain ⟨r0, r1, r2, r3, rfz⟩ := blk4 BR9.out
    go_wp2_with fail
    refine bodyPost_ret (v := .agg #[.int .i64 mx, .slice A1 ids.length ids.length, .slice A2 hs.length hs.length, .slice A3 wt.length wt.length]) (by simp [results, Tryz.results41, go_sem, r0, r1, r2, r3, rfz]) rfl ?_
    refine ⟨A1, _, A2, _, A3, _, rfl, ?_, ?_⟩
    · refine PRow.mono (base := w1.heap.size) ?_ (by omega)
      iterate 4 (with_reducible refine PRow.setFar ?_ (by simp <;> omega) _)
      exact PR9.out
    · iterate 4 (with_reducible refine Below.setCell ?_ (by simp) _)
      exact FR9.out
end Go.Proofs.YtnmgnhpagnjhlaaGreatDoor
