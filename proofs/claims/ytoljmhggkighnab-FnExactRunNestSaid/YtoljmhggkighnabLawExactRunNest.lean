/- FnExactRunNest: for every list of commands the law returns true, and what was there is as it was. No condition. -/
import Derived.Test.YtoljmhggkighnabRows
import Derived.Test.YtoljmhggkighnabNestLaw
import Derived.Test.YtoljmhggkighnabNestDraw
import Derived.Test.YtoljmhggkighnabOpenC
import Derived.Test.YtoljmhggkighnabNestRunI
set_option linter.unusedVariables false
set_option linter.unusedSimpArgs false
set_option linter.unnecessarySimpa false
namespace Go.Proofs.Ytoljmhggkighnab
open Go.RowKit

set_option maxRecDepth 100000 in
set_option maxHeartbeats 16000000 in
theorem walk_FnExactRunNest (ks : List Int) (A : Option Addr) (n c : Nat) (hN : ks.length = n) (hc : n ≤ c) (hm : c ≤ maxLen) {w : World} (h : Rd w A (ks.map (.int .i64))) (_ : ∀ x ∈ ks, -9223372036854775808 ≤ x ∧ x ≤ 9223372036854775807) :
    Calls Try.prog 4 #[.slice A n c] w fun e w' => e = .returned (.bool true) ∧ Below w.heap.size w w' := by
  have HN := Lib.hid hN; clear hN
  unfold maxLen at hm
  by_cases hbig : 1048576 < n
  · go_enter Try.func4, Try.ntmps4
    go_wp2
    go_ret
    exact ⟨rfl, Below.refl _ _⟩
  · have hlen : ks.length ≤ 1048576 := by have := HN.out; omega
    have H0 := Lib.hid h; clear h
    obtain ⟨t, ht⟩ : ∃ t, t = runV ks := ⟨_, rfl⟩
    obtain ⟨u, hu⟩ : ∃ u, u = missV ks := ⟨_, rfl⟩
    have hbd : t.marks.length ≤ 4 := by rw [ht]; exact runV_le ks
    have HT := Lib.hid ht.symm; have HU := Lib.hid hu.symm
    clear ht hu
    obtain ⟨tk, zs, tb⟩ := t
    simp only at hbd
    go_enter Try.func4, Try.ntmps4
    go_wp2_with fail
    refine (toInts_c ks _ _ _ _ HN.out H0.out (by omega)).mono ?_
    rintro e w1 ⟨AS, cS, rfl, q1, b1⟩
    have r1 : Row w1 w.heap.size 3 1 AS (ks).length cS ((ks).map (.int .i64)) := Row.of_own q1
    have R1 := Lib.hid (r1.mono (Below.refl w.heap.size w).size); clear r1 q1
    have hb1 : Below w.heap.size w w1 := (Below.refl w.heap.size w).trans (b1.mono (Below.refl w.heap.size w).size)
    have EB1 := Lib.hid hb1; clear hb1
    clear  b1
    go_wp2_with fail
    refine (sRunNest_c ks _ _ _ _ rfl R1.out.le R1.out.rd (by omega)).mono ?_
    rw [HT.out, HU.out]
    rintro e w2 ⟨AW, cW, rfl, q2, b2⟩
    have r2 : Row w2 w1.heap.size 3 1 AW (zs).length cW ((zs).map (.int .i64)) := q2
    have apSW := Lib.hid (row_apart R1.out r2 (Nat.le_refl _))
    have R2 := Lib.hid (r2.mono EB1.out.size); clear r2 q2
    have hS2 : Row w2 w.heap.size 3 1 AS (ks).length cS ((ks).map (.int .i64)) := R1.out.below b2
    have hb2 : Below w.heap.size w w2 := EB1.out.trans (b2.mono EB1.out.size)
    have ES2 := Lib.hid hS2; clear hS2
    have EB2 := Lib.hid hb2; clear hb2
    clear R1 EB1 b2
    clear ES2
    go_wp2_with fail
    obtain ⟨w3, hw3⟩ : ∃ W, W = w2.alloc (.cells #[.int .i64 (zs.length : Int), .int .i64 tk, .slice AW zs.length cW, .bool tb] 25) := ⟨_, rfl⟩
    obtain ⟨gWV, hgWV⟩ : ∃ g, g = w2.heap.size := ⟨_, rfl⟩
    rw [← hw3, ← hgWV]
    have hv3 : Blk w3 gWV 25 #[.int .i64 (zs.length : Int), .int .i64 tk, .slice AW zs.length cW, .bool tb] := by rw [hw3, hgWV]; exact Blk.new _ _ _
    have V3 := Lib.hid hv3; clear hv3
    have hgeWV : w.heap.size ≤ gWV := by rw [hgWV]; exact EB2.out.size
    have HSZWV := Lib.hid (show w3.heap.size = gWV + 1 by rw [hw3, hgWV]; simp)
    have hW3 : Row w3 w.heap.size 3 1 AW (zs).length cW ((zs).map (.int .i64)) := by rw [hw3]; exact R2.out.alloc _
    have hb3 : Below w.heap.size w w3 := by rw [hw3]; exact EB2.out.alloc EB2.out.size _
    have EW3 := Lib.hid hW3; clear hW3
    have EB3 := Lib.hid hb3; clear hb3
    clear R2 EB2 hw3 hgWV
    obtain ⟨wvq0, wvq1, wvq2, wvq3, wvqz⟩ := blk4 V3.out
    have wvql := Blk.lt V3.out
    have wvqm : ¬ gWV = w3.heap.size := by omega
    have wvqn : ¬ w3.heap.size = gWV := by omega
    go_wp2_with fail
    refine (toInts_c ks _ _ _ _ HN.out (Rd.below (w' := w3) H0.out EB3.out) (by omega)).mono ?_
    rintro e w4 ⟨AX, cX, rfl, q4, b4⟩
    have r4 : Row w4 w3.heap.size 3 1 AX (ks).length cX ((ks).map (.int .i64)) := Row.of_own q4
    have apWX := Lib.hid (row_apart EW3.out r4 (Nat.le_refl _))
    have R4 := Lib.hid (r4.mono EB3.out.size); clear r4 q4
    clear wvq0 wvq1 wvq2 wvq3 wvqz wvql wvqm wvqn
    have hW4 : Row w4 w.heap.size 3 1 AW (zs).length cW ((zs).map (.int .i64)) := EW3.out.below b4
    have hWV4 : Blk w4 gWV 25 #[.int .i64 (zs.length : Int), .int .i64 tk, .slice AW zs.length cW, .bool tb] := Blk.below V3.out b4 (Blk.lt V3.out)
    have hb4 : Below w.heap.size w w4 := EB3.out.trans (b4.mono EB3.out.size)
    have EW4 := Lib.hid hW4; clear hW4
    have EWV4 := Lib.hid hWV4; clear hWV4
    have EB4 := Lib.hid hb4; clear hb4
    clear EW3 V3 EB3 b4
    obtain ⟨wvq0, wvq1, wvq2, wvq3, wvqz⟩ := blk4 EWV4.out
    have wvql := Blk.lt EWV4.out
    have wvqm : ¬ gWV = w4.heap.size := by omega
    have wvqn : ¬ w4.heap.size = gWV := by omega
    go_wp2_with fail
    refine (runNest_c ks _ _ _ _ rfl R4.out.le R4.out.rd (by omega)).mono ?_
    rw [HT.out, HU.out]
    rintro e w5 ⟨AG, cG, rfl, q5, b5⟩
    have r5 : Row w5 w4.heap.size 3 1 AG (zs).length cG ((zs).map (.int .i64)) := q5
    have apWG := Lib.hid (row_apart EW4.out r5 (Nat.le_refl _))
    have apXG := Lib.hid (row_apart R4.out r5 (Nat.le_refl _))
    have R5 := Lib.hid (r5.mono EB4.out.size); clear r5 q5
    clear wvq0 wvq1 wvq2 wvq3 wvqz wvql wvqm wvqn
    have hW5 : Row w5 w.heap.size 3 1 AW (zs).length cW ((zs).map (.int .i64)) := EW4.out.below b5
    have hWV5 : Blk w5 gWV 25 #[.int .i64 (zs.length : Int), .int .i64 tk, .slice AW zs.length cW, .bool tb] := Blk.below EWV4.out b5 (Blk.lt EWV4.out)
    have hX5 : Row w5 w.heap.size 3 1 AX (ks).length cX ((ks).map (.int .i64)) := R4.out.below b5
    have hb5 : Below w.heap.size w w5 := EB4.out.trans (b5.mono EB4.out.size)
    have EW5 := Lib.hid hW5; clear hW5
    have EWV5 := Lib.hid hWV5; clear hWV5
    have EX5 := Lib.hid hX5; clear hX5
    have EB5 := Lib.hid hb5; clear hb5
    clear EW4 EWV4 R4 EB4 b5
    obtain ⟨wvq0, wvq1, wvq2, wvq3, wvqz⟩ := blk4 EWV5.out
    have wvql := Blk.lt EWV5.out
    have wvqm : ¬ gWV = w5.heap.size := by omega
    have wvqn : ¬ w5.heap.size = gWV := by omega
    go_wp2_with fail
    obtain ⟨w6, hw6⟩ : ∃ W, W = w5.alloc (.cells #[.int .i64 (zs.length : Int), .int .i64 tk, .slice AG zs.length cG, .bool tb] 25) := ⟨_, rfl⟩
    obtain ⟨gGV, hgGV⟩ : ∃ g, g = w5.heap.size := ⟨_, rfl⟩
    rw [← hw6, ← hgGV]
    have hv6 : Blk w6 gGV 25 #[.int .i64 (zs.length : Int), .int .i64 tk, .slice AG zs.length cG, .bool tb] := by rw [hw6, hgGV]; exact Blk.new _ _ _
    have V6 := Lib.hid hv6; clear hv6
    have hgeGV : w.heap.size ≤ gGV := by rw [hgGV]; exact EB5.out.size
    have HSZGV := Lib.hid (show w6.heap.size = gGV + 1 by rw [hw6, hgGV]; simp)
    have hltWVGV : gWV < gGV := by rw [hgGV]; exact Blk.lt EWV5.out
    clear wvq0 wvq1 wvq2 wvq3 wvqz wvql wvqm wvqn
    have hW6 : Row w6 w.heap.size 3 1 AW (zs).length cW ((zs).map (.int .i64)) := by rw [hw6]; exact EW5.out.alloc _
    have hWV6 : Blk w6 gWV 25 #[.int .i64 (zs.length : Int), .int .i64 tk, .slice AW zs.length cW, .bool tb] := by rw [hw6]; exact EWV5.out.alloc _
    have hX6 : Row w6 w.heap.size 3 1 AX (ks).length cX ((ks).map (.int .i64)) := by rw [hw6]; exact EX5.out.alloc _
    have hG6 : Row w6 w.heap.size 3 1 AG (zs).length cG ((zs).map (.int .i64)) := by rw [hw6]; exact R5.out.alloc _
    have hb6 : Below w.heap.size w w6 := by rw [hw6]; exact EB5.out.alloc EB5.out.size _
    have EW6 := Lib.hid hW6; clear hW6
    have EWV6 := Lib.hid hWV6; clear hWV6
    have EX6 := Lib.hid hX6; clear hX6
    have EG6 := Lib.hid hG6; clear hG6
    have EB6 := Lib.hid hb6; clear hb6
    clear EW5 EWV5 EX5 R5 EB5 hw6 hgGV
    obtain ⟨wvq0, wvq1, wvq2, wvq3, wvqz⟩ := blk4 EWV6.out
    have wvql := Blk.lt EWV6.out
    have wvqm : ¬ gWV = w6.heap.size := by omega
    have wvqn : ¬ w6.heap.size = gWV := by omega
    obtain ⟨gvq0, gvq1, gvq2, gvq3, gvqz⟩ := blk4 V6.out
    have gvql := Blk.lt V6.out
    have gvqm : ¬ gGV = w6.heap.size := by omega
    have gvqn : ¬ w6.heap.size = gGV := by omega
    go_wp2_with fail
    refine (eqNest_c _ _ zs _ _ _ _ _ _ _ rfl EG6.out.rd EW6.out.rd (by omega)).mono ?_
    rintro e w7 ⟨rfl, b7⟩
    clear wvq0 wvq1 wvq2 wvq3 wvqz wvql wvqm wvqn gvq0 gvq1 gvq2 gvq3 gvqz gvql gvqm gvqn
    have hW7 : Row w7 w.heap.size 3 1 AW (zs).length cW ((zs).map (.int .i64)) := EW6.out.below b7
    have hWV7 : Blk w7 gWV 25 #[.int .i64 (zs.length : Int), .int .i64 tk, .slice AW zs.length cW, .bool tb] := Blk.below EWV6.out b7 (Blk.lt EWV6.out)
    have hX7 : Row w7 w.heap.size 3 1 AX (ks).length cX ((ks).map (.int .i64)) := EX6.out.below b7
    have hG7 : Row w7 w.heap.size 3 1 AG (zs).length cG ((zs).map (.int .i64)) := EG6.out.below b7
    have hGV7 : Blk w7 gGV 25 #[.int .i64 (zs.length : Int), .int .i64 tk, .slice AG zs.length cG, .bool tb] := Blk.below V6.out b7 (Blk.lt V6.out)
    have hb7 : Below w.heap.size w w7 := EB6.out.trans (b7.mono EB6.out.size)
    have EW7 := Lib.hid hW7; clear hW7
    have EWV7 := Lib.hid hWV7; clear hWV7
    have EX7 := Lib.hid hX7; clear hX7
    have EG7 := Lib.hid hG7; clear hG7
    have EGV7 := Lib.hid hGV7; clear hGV7
    have EB7 := Lib.hid hb7; clear hb7
    clear EW6 EWV6 EX6 EG6 V6 EB6 b7
    obtain ⟨wvq0, wvq1, wvq2, wvq3, wvqz⟩ := blk4 EWV7.out
    have wvql := Blk.lt EWV7.out
    have wvqm : ¬ gWV = w7.heap.size := by omega
    have wvqn : ¬ w7.heap.size = gWV := by omega
    obtain ⟨gvq0, gvq1, gvq2, gvq3, gvqz⟩ := blk4 EGV7.out
    have gvql := Blk.lt EGV7.out
    have gvqm : ¬ gGV = w7.heap.size := by omega
    have gvqn : ¬ w7.heap.size = gGV := by omega
    go_wp2_with fail
    refine (toInts_c ks _ _ _ _ HN.out (Rd.below (w' := w7) H0.out EB7.out) (by omega)).mono ?_
    rintro e w8 ⟨AY, cY, rfl, q8, b8⟩
    have r8 : Row w8 w7.heap.size 3 1 AY (ks).length cY ((ks).map (.int .i64)) := Row.of_own q8
    have apWY := Lib.hid (row_apart EW7.out r8 (Nat.le_refl _))
    have apXY := Lib.hid (row_apart EX7.out r8 (Nat.le_refl _))
    have apGY := Lib.hid (row_apart EG7.out r8 (Nat.le_refl _))
    have R8 := Lib.hid (r8.mono EB7.out.size); clear r8 q8
    clear wvq0 wvq1 wvq2 wvq3 wvqz wvql wvqm wvqn gvq0 gvq1 gvq2 gvq3 gvqz gvql gvqm gvqn
    have hW8 : Row w8 w.heap.size 3 1 AW (zs).length cW ((zs).map (.int .i64)) := EW7.out.below b8
    have hWV8 : Blk w8 gWV 25 #[.int .i64 (zs.length : Int), .int .i64 tk, .slice AW zs.length cW, .bool tb] := Blk.below EWV7.out b8 (Blk.lt EWV7.out)
    have hX8 : Row w8 w.heap.size 3 1 AX (ks).length cX ((ks).map (.int .i64)) := EX7.out.below b8
    have hG8 : Row w8 w.heap.size 3 1 AG (zs).length cG ((zs).map (.int .i64)) := EG7.out.below b8
    have hGV8 : Blk w8 gGV 25 #[.int .i64 (zs.length : Int), .int .i64 tk, .slice AG zs.length cG, .bool tb] := Blk.below EGV7.out b8 (Blk.lt EGV7.out)
    have hb8 : Below w.heap.size w w8 := EB7.out.trans (b8.mono EB7.out.size)
    have EW8 := Lib.hid hW8; clear hW8
    have EWV8 := Lib.hid hWV8; clear hWV8
    have EX8 := Lib.hid hX8; clear hX8
    have EG8 := Lib.hid hG8; clear hG8
    have EGV8 := Lib.hid hGV8; clear hGV8
    have EB8 := Lib.hid hb8; clear hb8
    clear EW7 EWV7 EX7 EG7 EGV7 EB7 b8
    obtain ⟨wvq0, wvq1, wvq2, wvq3, wvqz⟩ := blk4 EWV8.out
    have wvql := Blk.lt EWV8.out
    have wvqm : ¬ gWV = w8.heap.size := by omega
    have wvqn : ¬ w8.heap.size = gWV := by omega
    obtain ⟨gvq0, gvq1, gvq2, gvq3, gvqz⟩ := blk4 EGV8.out
    have gvql := Blk.lt EGV8.out
    have gvqm : ¬ gGV = w8.heap.size := by omega
    have gvqn : ¬ w8.heap.size = gGV := by omega
    go_wp2_with fail
    refine (eqInts_c ks ks _ _ _ _ _ _ _ rfl rfl EX8.out.rd R8.out.rd (by omega) (by omega)).mono ?_
    rw [decide_eq_true rfl]
    rintro e w9 ⟨rfl, m9, hw9⟩
    clear wvq0 wvq1 wvq2 wvq3 wvqz wvql wvqm wvqn gvq0 gvq1 gvq2 gvq3 gvqz gvql gvqm gvqn
    have hW9 : Row w9 w.heap.size 3 1 AW (zs).length cW ((zs).map (.int .i64)) := by rw [hw9]; exact EW8.out
    have hWV9 : Blk w9 gWV 25 #[.int .i64 (zs.length : Int), .int .i64 tk, .slice AW zs.length cW, .bool tb] := by rw [hw9]; exact EWV8.out
    have hX9 : Row w9 w.heap.size 3 1 AX (ks).length cX ((ks).map (.int .i64)) := by rw [hw9]; exact EX8.out
    have hG9 : Row w9 w.heap.size 3 1 AG (zs).length cG ((zs).map (.int .i64)) := by rw [hw9]; exact EG8.out
    have hGV9 : Blk w9 gGV 25 #[.int .i64 (zs.length : Int), .int .i64 tk, .slice AG zs.length cG, .bool tb] := by rw [hw9]; exact EGV8.out
    have hY9 : Row w9 w.heap.size 3 1 AY (ks).length cY ((ks).map (.int .i64)) := by rw [hw9]; exact R8.out
    have hb9 : Below w.heap.size w w9 := by rw [hw9]; exact below_drewN EB8.out _
    have EW9 := Lib.hid hW9; clear hW9
    have EWV9 := Lib.hid hWV9; clear hWV9
    have EX9 := Lib.hid hX9; clear hX9
    have EG9 := Lib.hid hG9; clear hG9
    have EGV9 := Lib.hid hGV9; clear hGV9
    have EY9 := Lib.hid hY9; clear hY9
    have EB9 := Lib.hid hb9; clear hb9
    clear EW8 EWV8 EX8 EG8 EGV8 R8 EB8 hw9
    obtain ⟨wvq0, wvq1, wvq2, wvq3, wvqz⟩ := blk4 EWV9.out
    have wvql := Blk.lt EWV9.out
    have wvqm : ¬ gWV = w9.heap.size := by omega
    have wvqn : ¬ w9.heap.size = gWV := by omega
    obtain ⟨gvq0, gvq1, gvq2, gvq3, gvqz⟩ := blk4 EGV9.out
    have gvql := Blk.lt EGV9.out
    have gvqm : ¬ gGV = w9.heap.size := by omega
    have gvqn : ¬ w9.heap.size = gGV := by omega
    clear EY9
    go_wp2_with fail
    refine (markR_c _ ks 1 _ _ _ _ rfl EX9.out (by omega) (by omega)).mono ?_
    rintro e w10 ⟨rfl, q10, g10⟩
    clear wvq0 wvq1 wvq2 wvq3 wvqz wvql wvqm wvqn gvq0 gvq1 gvq2 gvq3 gvqz gvql gvqm gvqn
    have hW10 : Row w10 w.heap.size 3 1 AW (zs).length cW ((zs).map (.int .i64)) := EW9.out.kept g10 apWX.out.1
    have hWV10 : Blk w10 gWV 25 #[.int .i64 (zs.length : Int), .int .i64 tk, .slice AW zs.length cW, .bool tb] := Blk.grown EWV9.out g10 (by rcases row_blk_ne EX9.out EWV9.out (by decide) with h | h <;> first | (rw [h]; simp; done) | exact fun e => h e.symm)
    have hX10 : Row w10 w.heap.size 3 1 AX (ks).length cX ((runFrom ((1 : Nat) : Int) ks.length).map (.int .i64)) := q10
    have hG10 : Row w10 w.heap.size 3 1 AG (zs).length cG ((zs).map (.int .i64)) := EG9.out.kept g10 apXG.out.2
    have hGV10 : Blk w10 gGV 25 #[.int .i64 (zs.length : Int), .int .i64 tk, .slice AG zs.length cG, .bool tb] := Blk.grown EGV9.out g10 (by rcases row_blk_ne EX9.out EGV9.out (by decide) with h | h <;> first | (rw [h]; simp; done) | exact fun e => h e.symm)
    have hb10 : Below w.heap.size w w10 := EB9.out.grown g10 EB9.out.size (fun k hk => (EX9.out.lt k hk).1)
    have EW10 := Lib.hid hW10; clear hW10
    have EWV10 := Lib.hid hWV10; clear hWV10
    have EX10 := Lib.hid hX10; clear hX10
    have EG10 := Lib.hid hG10; clear hG10
    have EGV10 := Lib.hid hGV10; clear hGV10
    have EB10 := Lib.hid hb10; clear hb10
    clear EW9 EWV9 EX9 EG9 EGV9 EB9 q10 g10
    obtain ⟨wvq0, wvq1, wvq2, wvq3, wvqz⟩ := blk4 EWV10.out
    have wvql := Blk.lt EWV10.out
    have wvqm : ¬ gWV = w10.heap.size := by omega
    have wvqn : ¬ w10.heap.size = gWV := by omega
    obtain ⟨gvq0, gvq1, gvq2, gvq3, gvqz⟩ := blk4 EGV10.out
    have gvql := Blk.lt EGV10.out
    have gvqm : ¬ gGV = w10.heap.size := by omega
    have gvqn : ¬ w10.heap.size = gGV := by omega
    have hmk : (0 : Int) ≤ ((1 + ks.length : Nat) : Int) := by omega
    go_wp2_with fail
    refine (eqNest_c _ _ zs _ _ _ _ _ _ _ rfl EG10.out.rd EW10.out.rd (by omega)).mono ?_
    rintro e w11 ⟨rfl, b11⟩
    clear wvq0 wvq1 wvq2 wvq3 wvqz wvql wvqm wvqn gvq0 gvq1 gvq2 gvq3 gvqz gvql gvqm gvqn
    have hW11 : Row w11 w.heap.size 3 1 AW (zs).length cW ((zs).map (.int .i64)) := EW10.out.below b11
    have hWV11 : Blk w11 gWV 25 #[.int .i64 (zs.length : Int), .int .i64 tk, .slice AW zs.length cW, .bool tb] := Blk.below EWV10.out b11 (Blk.lt EWV10.out)
    have hX11 : Row w11 w.heap.size 3 1 AX (ks).length cX ((runFrom ((1 : Nat) : Int) ks.length).map (.int .i64)) := EX10.out.below b11
    have hG11 : Row w11 w.heap.size 3 1 AG (zs).length cG ((zs).map (.int .i64)) := EG10.out.below b11
    have hGV11 : Blk w11 gGV 25 #[.int .i64 (zs.length : Int), .int .i64 tk, .slice AG zs.length cG, .bool tb] := Blk.below EGV10.out b11 (Blk.lt EGV10.out)
    have hb11 : Below w.heap.size w w11 := EB10.out.trans (b11.mono EB10.out.size)
    have EW11 := Lib.hid hW11; clear hW11
    have EWV11 := Lib.hid hWV11; clear hWV11
    have EX11 := Lib.hid hX11; clear hX11
    have EG11 := Lib.hid hG11; clear hG11
    have EGV11 := Lib.hid hGV11; clear hGV11
    have EB11 := Lib.hid hb11; clear hb11
    clear EW10 EWV10 EX10 EG10 EGV10 EB10 b11
    obtain ⟨wvq0, wvq1, wvq2, wvq3, wvqz⟩ := blk4 EWV11.out
    have wvql := Blk.lt EWV11.out
    have wvqm : ¬ gWV = w11.heap.size := by omega
    have wvqn : ¬ w11.heap.size = gWV := by omega
    obtain ⟨gvq0, gvq1, gvq2, gvq3, gvqz⟩ := blk4 EGV11.out
    have gvql := Blk.lt EGV11.out
    have gvqm : ¬ gGV = w11.heap.size := by omega
    have gvqn : ¬ w11.heap.size = gGV := by omega
    clear EX11
    go_wp2_with fail
    refine (markN_c _ _ _ zs _ 1 _ _ _ _ rfl EG11.out (by omega) (by omega)).mono ?_
    rintro e w12 ⟨rfl, q12, g12⟩
    clear wvq0 wvq1 wvq2 wvq3 wvqz wvql wvqm wvqn gvq0 gvq1 gvq2 gvq3 gvqz gvql gvqm gvqn
    have hW12 : Row w12 w.heap.size 3 1 AW (zs).length cW ((zs).map (.int .i64)) := EW11.out.kept g12 apWG.out.1
    have hWV12 : Blk w12 gWV 25 #[.int .i64 (zs.length : Int), .int .i64 tk, .slice AW zs.length cW, .bool tb] := Blk.grown EWV11.out g12 (by rcases row_blk_ne EG11.out EWV11.out (by decide) with h | h <;> first | (rw [h]; simp; done) | exact fun e => h e.symm)
    have hG12 : Row w12 w.heap.size 3 1 AG (zs).length cG ((runFrom ((1 : Nat) : Int) zs.length).map (.int .i64)) := q12
    have hGV12 : Blk w12 gGV 25 #[.int .i64 (zs.length : Int), .int .i64 tk, .slice AG zs.length cG, .bool tb] := Blk.grown EGV11.out g12 (by rcases row_blk_ne EG11.out EGV11.out (by decide) with h | h <;> first | (rw [h]; simp; done) | exact fun e => h e.symm)
    have hb12 : Below w.heap.size w w12 := EB11.out.grown g12 EB11.out.size (fun k hk => (EG11.out.lt k hk).1)
    have EW12 := Lib.hid hW12; clear hW12
    have EWV12 := Lib.hid hWV12; clear hWV12
    have EG12 := Lib.hid hG12; clear hG12
    have EGV12 := Lib.hid hGV12; clear hGV12
    have EB12 := Lib.hid hb12; clear hb12
    clear EW11 EWV11 EG11 EGV11 EB11 q12 g12
    obtain ⟨wvq0, wvq1, wvq2, wvq3, wvqz⟩ := blk4 EWV12.out
    have wvql := Blk.lt EWV12.out
    have wvqm : ¬ gWV = w12.heap.size := by omega
    have wvqn : ¬ w12.heap.size = gWV := by omega
    obtain ⟨gvq0, gvq1, gvq2, gvq3, gvqz⟩ := blk4 EGV12.out
    have gvql := Blk.lt EGV12.out
    have gvqm : ¬ gGV = w12.heap.size := by omega
    have gvqn : ¬ w12.heap.size = gGV := by omega
    go_wp2_with fail
    refine (heldN_c 1 _ _ _ _ _ _ _ EG12.out.rd (by omega) (by omega)).mono ?_
    rintro e w13 ⟨rfl, b13⟩
    clear wvq0 wvq1 wvq2 wvq3 wvqz wvql wvqm wvqn gvq0 gvq1 gvq2 gvq3 gvqz gvql gvqm gvqn
    have hW13 : Row w13 w.heap.size 3 1 AW (zs).length cW ((zs).map (.int .i64)) := EW12.out.below b13
    have hWV13 : Blk w13 gWV 25 #[.int .i64 (zs.length : Int), .int .i64 tk, .slice AW zs.length cW, .bool tb] := Blk.below EWV12.out b13 (Blk.lt EWV12.out)
    have hG13 : Row w13 w.heap.size 3 1 AG (zs).length cG ((runFrom ((1 : Nat) : Int) zs.length).map (.int .i64)) := EG12.out.below b13
    have hGV13 : Blk w13 gGV 25 #[.int .i64 (zs.length : Int), .int .i64 tk, .slice AG zs.length cG, .bool tb] := Blk.below EGV12.out b13 (Blk.lt EGV12.out)
    have hb13 : Below w.heap.size w w13 := EB12.out.trans (b13.mono EB12.out.size)
    have EW13 := Lib.hid hW13; clear hW13
    have EWV13 := Lib.hid hWV13; clear hWV13
    have EG13 := Lib.hid hG13; clear hG13
    have EGV13 := Lib.hid hGV13; clear hGV13
    have EB13 := Lib.hid hb13; clear hb13
    clear EW12 EWV12 EG12 EGV12 EB12 b13
    obtain ⟨wvq0, wvq1, wvq2, wvq3, wvqz⟩ := blk4 EWV13.out
    have wvql := Blk.lt EWV13.out
    have wvqm : ¬ gWV = w13.heap.size := by omega
    have wvqn : ¬ w13.heap.size = gWV := by omega
    obtain ⟨gvq0, gvq1, gvq2, gvq3, gvqz⟩ := blk4 EGV13.out
    have gvql := Blk.lt EGV13.out
    have gvqm : ¬ gGV = w13.heap.size := by omega
    have gvqn : ¬ w13.heap.size = gGV := by omega
    go_wp2_with fail
    refine (toInts_c ks _ _ _ _ HN.out (Rd.below (w' := w13) H0.out EB13.out) (by omega)).mono ?_
    rintro e w14 ⟨AZ, cZ, rfl, q14, b14⟩
    have r14 : Row w14 w13.heap.size 3 1 AZ (ks).length cZ ((ks).map (.int .i64)) := Row.of_own q14
    have apWZ := Lib.hid (row_apart EW13.out r14 (Nat.le_refl _))
    have apGZ := Lib.hid (row_apart EG13.out r14 (Nat.le_refl _))
    have R14 := Lib.hid (r14.mono EB13.out.size); clear r14 q14
    clear wvq0 wvq1 wvq2 wvq3 wvqz wvql wvqm wvqn gvq0 gvq1 gvq2 gvq3 gvqz gvql gvqm gvqn
    have hW14 : Row w14 w.heap.size 3 1 AW (zs).length cW ((zs).map (.int .i64)) := EW13.out.below b14
    have hWV14 : Blk w14 gWV 25 #[.int .i64 (zs.length : Int), .int .i64 tk, .slice AW zs.length cW, .bool tb] := Blk.below EWV13.out b14 (Blk.lt EWV13.out)
    have hG14 : Row w14 w.heap.size 3 1 AG (zs).length cG ((runFrom ((1 : Nat) : Int) zs.length).map (.int .i64)) := EG13.out.below b14
    have hGV14 : Blk w14 gGV 25 #[.int .i64 (zs.length : Int), .int .i64 tk, .slice AG zs.length cG, .bool tb] := Blk.below EGV13.out b14 (Blk.lt EGV13.out)
    have hb14 : Below w.heap.size w w14 := EB13.out.trans (b14.mono EB13.out.size)
    have EW14 := Lib.hid hW14; clear hW14
    have EWV14 := Lib.hid hWV14; clear hWV14
    have EG14 := Lib.hid hG14; clear hG14
    have EGV14 := Lib.hid hGV14; clear hGV14
    have EB14 := Lib.hid hb14; clear hb14
    clear EW13 EWV13 EG13 EGV13 EB13 b14
    obtain ⟨wvq0, wvq1, wvq2, wvq3, wvqz⟩ := blk4 EWV14.out
    have wvql := Blk.lt EWV14.out
    have wvqm : ¬ gWV = w14.heap.size := by omega
    have wvqn : ¬ w14.heap.size = gWV := by omega
    obtain ⟨gvq0, gvq1, gvq2, gvq3, gvqz⟩ := blk4 EGV14.out
    have gvql := Blk.lt EGV14.out
    have gvqm : ¬ gGV = w14.heap.size := by omega
    have gvqn : ¬ w14.heap.size = gGV := by omega
    go_wp2_with fail
    refine (runNest_c ks _ _ _ _ rfl R14.out.le R14.out.rd (by omega)).mono ?_
    rw [HT.out, HU.out]
    rintro e w15 ⟨AK, cK, rfl, q15, b15⟩
    have r15 : Row w15 w14.heap.size 3 1 AK (zs).length cK ((zs).map (.int .i64)) := q15
    have apWK := Lib.hid (row_apart EW14.out r15 (Nat.le_refl _))
    have apGK := Lib.hid (row_apart EG14.out r15 (Nat.le_refl _))
    have apZK := Lib.hid (row_apart R14.out r15 (Nat.le_refl _))
    have R15 := Lib.hid (r15.mono EB14.out.size); clear r15 q15
    clear wvq0 wvq1 wvq2 wvq3 wvqz wvql wvqm wvqn gvq0 gvq1 gvq2 gvq3 gvqz gvql gvqm gvqn
    have hW15 : Row w15 w.heap.size 3 1 AW (zs).length cW ((zs).map (.int .i64)) := EW14.out.below b15
    have hWV15 : Blk w15 gWV 25 #[.int .i64 (zs.length : Int), .int .i64 tk, .slice AW zs.length cW, .bool tb] := Blk.below EWV14.out b15 (Blk.lt EWV14.out)
    have hG15 : Row w15 w.heap.size 3 1 AG (zs).length cG ((runFrom ((1 : Nat) : Int) zs.length).map (.int .i64)) := EG14.out.below b15
    have hGV15 : Blk w15 gGV 25 #[.int .i64 (zs.length : Int), .int .i64 tk, .slice AG zs.length cG, .bool tb] := Blk.below EGV14.out b15 (Blk.lt EGV14.out)
    have hZ15 : Row w15 w.heap.size 3 1 AZ (ks).length cZ ((ks).map (.int .i64)) := R14.out.below b15
    have hb15 : Below w.heap.size w w15 := EB14.out.trans (b15.mono EB14.out.size)
    have EW15 := Lib.hid hW15; clear hW15
    have EWV15 := Lib.hid hWV15; clear hWV15
    have EG15 := Lib.hid hG15; clear hG15
    have EGV15 := Lib.hid hGV15; clear hGV15
    have EZ15 := Lib.hid hZ15; clear hZ15
    have EB15 := Lib.hid hb15; clear hb15
    clear EW14 EWV14 EG14 EGV14 R14 EB14 b15
    obtain ⟨wvq0, wvq1, wvq2, wvq3, wvqz⟩ := blk4 EWV15.out
    have wvql := Blk.lt EWV15.out
    have wvqm : ¬ gWV = w15.heap.size := by omega
    have wvqn : ¬ w15.heap.size = gWV := by omega
    obtain ⟨gvq0, gvq1, gvq2, gvq3, gvqz⟩ := blk4 EGV15.out
    have gvql := Blk.lt EGV15.out
    have gvqm : ¬ gGV = w15.heap.size := by omega
    have gvqn : ¬ w15.heap.size = gGV := by omega
    clear EZ15
    go_wp2_with fail
    obtain ⟨w16, hw16⟩ : ∃ W, W = w15.alloc (.cells #[.int .i64 (zs.length : Int), .int .i64 tk, .slice AK zs.length cK, .bool tb] 25) := ⟨_, rfl⟩
    obtain ⟨gKV, hgKV⟩ : ∃ g, g = w15.heap.size := ⟨_, rfl⟩
    rw [← hw16, ← hgKV]
    have hv16 : Blk w16 gKV 25 #[.int .i64 (zs.length : Int), .int .i64 tk, .slice AK zs.length cK, .bool tb] := by rw [hw16, hgKV]; exact Blk.new _ _ _
    have V16 := Lib.hid hv16; clear hv16
    have hgeKV : w.heap.size ≤ gKV := by rw [hgKV]; exact EB15.out.size
    have HSZKV := Lib.hid (show w16.heap.size = gKV + 1 by rw [hw16, hgKV]; simp)
    have hltWVKV : gWV < gKV := by rw [hgKV]; exact Blk.lt EWV15.out
    have hltGVKV : gGV < gKV := by rw [hgKV]; exact Blk.lt EGV15.out
    clear wvq0 wvq1 wvq2 wvq3 wvqz wvql wvqm wvqn gvq0 gvq1 gvq2 gvq3 gvqz gvql gvqm gvqn
    have hW16 : Row w16 w.heap.size 3 1 AW (zs).length cW ((zs).map (.int .i64)) := by rw [hw16]; exact EW15.out.alloc _
    have hWV16 : Blk w16 gWV 25 #[.int .i64 (zs.length : Int), .int .i64 tk, .slice AW zs.length cW, .bool tb] := by rw [hw16]; exact EWV15.out.alloc _
    have hG16 : Row w16 w.heap.size 3 1 AG (zs).length cG ((runFrom ((1 : Nat) : Int) zs.length).map (.int .i64)) := by rw [hw16]; exact EG15.out.alloc _
    have hGV16 : Blk w16 gGV 25 #[.int .i64 (zs.length : Int), .int .i64 tk, .slice AG zs.length cG, .bool tb] := by rw [hw16]; exact EGV15.out.alloc _
    have hK16 : Row w16 w.heap.size 3 1 AK (zs).length cK ((zs).map (.int .i64)) := by rw [hw16]; exact R15.out.alloc _
    have hb16 : Below w.heap.size w w16 := by rw [hw16]; exact EB15.out.alloc EB15.out.size _
    have EW16 := Lib.hid hW16; clear hW16
    have EWV16 := Lib.hid hWV16; clear hWV16
    have EG16 := Lib.hid hG16; clear hG16
    have EGV16 := Lib.hid hGV16; clear hGV16
    have EK16 := Lib.hid hK16; clear hK16
    have EB16 := Lib.hid hb16; clear hb16
    clear EW15 EWV15 EG15 EGV15 R15 EB15 hw16 hgKV
    obtain ⟨wvq0, wvq1, wvq2, wvq3, wvqz⟩ := blk4 EWV16.out
    have wvql := Blk.lt EWV16.out
    have wvqm : ¬ gWV = w16.heap.size := by omega
    have wvqn : ¬ w16.heap.size = gWV := by omega
    obtain ⟨gvq0, gvq1, gvq2, gvq3, gvqz⟩ := blk4 EGV16.out
    have gvql := Blk.lt EGV16.out
    have gvqm : ¬ gGV = w16.heap.size := by omega
    have gvqn : ¬ w16.heap.size = gGV := by omega
    obtain ⟨kvq0, kvq1, kvq2, kvq3, kvqz⟩ := blk4 V16.out
    have kvql := Blk.lt V16.out
    have kvqm : ¬ gKV = w16.heap.size := by omega
    have kvqn : ¬ w16.heap.size = gKV := by omega
    go_wp2_with fail
    refine (eqNest_c _ _ zs _ _ _ _ _ _ _ rfl EK16.out.rd EW16.out.rd (by omega)).mono ?_
    rintro e w17 ⟨rfl, b17⟩
    clear wvq0 wvq1 wvq2 wvq3 wvqz wvql wvqm wvqn gvq0 gvq1 gvq2 gvq3 gvqz gvql gvqm gvqn kvq0 kvq1 kvq2 kvq3 kvqz kvql kvqm kvqn
    have hW17 : Row w17 w.heap.size 3 1 AW (zs).length cW ((zs).map (.int .i64)) := EW16.out.below b17
    have hWV17 : Blk w17 gWV 25 #[.int .i64 (zs.length : Int), .int .i64 tk, .slice AW zs.length cW, .bool tb] := Blk.below EWV16.out b17 (Blk.lt EWV16.out)
    have hG17 : Row w17 w.heap.size 3 1 AG (zs).length cG ((runFrom ((1 : Nat) : Int) zs.length).map (.int .i64)) := EG16.out.below b17
    have hGV17 : Blk w17 gGV 25 #[.int .i64 (zs.length : Int), .int .i64 tk, .slice AG zs.length cG, .bool tb] := Blk.below EGV16.out b17 (Blk.lt EGV16.out)
    have hK17 : Row w17 w.heap.size 3 1 AK (zs).length cK ((zs).map (.int .i64)) := EK16.out.below b17
    have hKV17 : Blk w17 gKV 25 #[.int .i64 (zs.length : Int), .int .i64 tk, .slice AK zs.length cK, .bool tb] := Blk.below V16.out b17 (Blk.lt V16.out)
    have hb17 : Below w.heap.size w w17 := EB16.out.trans (b17.mono EB16.out.size)
    have EW17 := Lib.hid hW17; clear hW17
    have EWV17 := Lib.hid hWV17; clear hWV17
    have EG17 := Lib.hid hG17; clear hG17
    have EGV17 := Lib.hid hGV17; clear hGV17
    have EK17 := Lib.hid hK17; clear hK17
    have EKV17 := Lib.hid hKV17; clear hKV17
    have EB17 := Lib.hid hb17; clear hb17
    clear EW16 EWV16 EG16 EGV16 EK16 V16 EB16 b17
    obtain ⟨wvq0, wvq1, wvq2, wvq3, wvqz⟩ := blk4 EWV17.out
    have wvql := Blk.lt EWV17.out
    have wvqm : ¬ gWV = w17.heap.size := by omega
    have wvqn : ¬ w17.heap.size = gWV := by omega
    obtain ⟨gvq0, gvq1, gvq2, gvq3, gvqz⟩ := blk4 EGV17.out
    have gvql := Blk.lt EGV17.out
    have gvqm : ¬ gGV = w17.heap.size := by omega
    have gvqn : ¬ w17.heap.size = gGV := by omega
    obtain ⟨kvq0, kvq1, kvq2, kvq3, kvqz⟩ := blk4 EKV17.out
    have kvql := Blk.lt EKV17.out
    have kvqm : ¬ gKV = w17.heap.size := by omega
    have kvqn : ¬ w17.heap.size = gKV := by omega
    go_wp2_with fail
    refine (heldN_c 1 _ _ _ _ _ _ _ EG17.out.rd (by omega) (by omega)).mono ?_
    rintro e w18 ⟨rfl, b18⟩
    clear wvq0 wvq1 wvq2 wvq3 wvqz wvql wvqm wvqn gvq0 gvq1 gvq2 gvq3 gvqz gvql gvqm gvqn kvq0 kvq1 kvq2 kvq3 kvqz kvql kvqm kvqn
    have hW18 : Row w18 w.heap.size 3 1 AW (zs).length cW ((zs).map (.int .i64)) := EW17.out.below b18
    have hWV18 : Blk w18 gWV 25 #[.int .i64 (zs.length : Int), .int .i64 tk, .slice AW zs.length cW, .bool tb] := Blk.below EWV17.out b18 (Blk.lt EWV17.out)
    have hG18 : Row w18 w.heap.size 3 1 AG (zs).length cG ((runFrom ((1 : Nat) : Int) zs.length).map (.int .i64)) := EG17.out.below b18
    have hGV18 : Blk w18 gGV 25 #[.int .i64 (zs.length : Int), .int .i64 tk, .slice AG zs.length cG, .bool tb] := Blk.below EGV17.out b18 (Blk.lt EGV17.out)
    have hK18 : Row w18 w.heap.size 3 1 AK (zs).length cK ((zs).map (.int .i64)) := EK17.out.below b18
    have hKV18 : Blk w18 gKV 25 #[.int .i64 (zs.length : Int), .int .i64 tk, .slice AK zs.length cK, .bool tb] := Blk.below EKV17.out b18 (Blk.lt EKV17.out)
    have hb18 : Below w.heap.size w w18 := EB17.out.trans (b18.mono EB17.out.size)
    have EW18 := Lib.hid hW18; clear hW18
    have EWV18 := Lib.hid hWV18; clear hWV18
    have EG18 := Lib.hid hG18; clear hG18
    have EGV18 := Lib.hid hGV18; clear hGV18
    have EK18 := Lib.hid hK18; clear hK18
    have EKV18 := Lib.hid hKV18; clear hKV18
    have EB18 := Lib.hid hb18; clear hb18
    clear EW17 EWV17 EG17 EGV17 EK17 EKV17 EB17 b18
    obtain ⟨wvq0, wvq1, wvq2, wvq3, wvqz⟩ := blk4 EWV18.out
    have wvql := Blk.lt EWV18.out
    have wvqm : ¬ gWV = w18.heap.size := by omega
    have wvqn : ¬ w18.heap.size = gWV := by omega
    obtain ⟨gvq0, gvq1, gvq2, gvq3, gvqz⟩ := blk4 EGV18.out
    have gvql := Blk.lt EGV18.out
    have gvqm : ¬ gGV = w18.heap.size := by omega
    have gvqn : ¬ w18.heap.size = gGV := by omega
    obtain ⟨kvq0, kvq1, kvq2, kvq3, kvqz⟩ := blk4 EKV18.out
    have kvql := Blk.lt EKV18.out
    have kvqm : ¬ gKV = w18.heap.size := by omega
    have kvqn : ¬ w18.heap.size = gKV := by omega
    go_wp2_with fail
    go_ret
    exact ⟨rfl, EB18.out⟩

namespace fnExactRunNest
open Go.ChangeShapes Go.WideShapes Go.ChangeAt
open Go.ChangeMaps (open_string shut_string)
theorem own : ownKnob Try.prog.godebug = none := by kernel_rfl
theorem laidOut : laidOutB Try.prog = true := by kernel_rfl
set_option maxRecDepth 100000 in
theorem lifted (os : Os) (started : os.Started) (H : Type) (enc : TypeId × Value → H) :
    ReturnsInHanded {} Try.checked os 4 .any (Rows.fnExactRunNestSpec.pre6 enc Try.prog Try.f4 Rows.fnExactRunNestRow.domain false) (Rows.fnExactRunNestSpec.post enc Try.prog Try.f4 false true false false) := by
  refine returnsInHanded_of_change (C := Try.checked) own started (by kernel_rfl) Try.func4
    (ChangeSpec.witness6 (enc := enc) (C := Try.checked) false ⟨#[], #[.slice none 0 0], []⟩ 8 (by kernel_rfl) (by kernel_rfl) (by kernel_rfl) (by kernel_rfl)) ?_
  intro W base args ds gs before hval0 hW hcnd _
  have hval : ∀ (j : Nat) t v, Try.f4.params[j]? = some t → args[j]? = some v → Value.okWide Try.prog W .any base t v := hval0
  have hW' := hW
  obtain ⟨p, q, hA0, hV, rfl, hfz, hnd⟩ := hW
  have hA : DataW.TrodAll enc Try.prog W 0 (fun _ => true) true Try.f4.params.toList args.toList ds p := hA0
  rw [Try.params4] at hA hval
  obtain ⟨v0, vs0, d0, ds0, p0, q0, hargs, rfl, rfl, h0, r0⟩ := trodAll_cons hA
  obtain ⟨rfl, rfl, rfl⟩ := trodAll_nil r0
  obtain rfl : args = #[v0] := by cases args; simp_all
  obtain ⟨rfl, rfl⟩ := trodVars_none hV
  obtain ⟨a0, n0, c0, rfl⟩ := okWide_slice Try.underlying23 (hval 0 23 v0 rfl rfl)
  have k0 := h0
  have lt0 : ∀ x ∈ p0, x.block < W.heap.size := by obtain ⟨m, hm⟩ := k0; exact DataW.trod_lt m _ _ _ hm
  obtain ⟨z0, e0, lc0, cm0, rd0, wf0⟩ := open_rd_int Try.underlying23 Try.underlying3 (by kernel_rfl) h0
  clear hA0 hval0
  refine (walk_FnExactRunNest (w := W) z0 a0 n0 c0 e0 lc0 cm0 rd0 (fun x hx => wf_i64 (wf0 x hx))).mono fun e W' ⟨he, bel⟩ => ?_
  subst he
  exact ⟨_, rfl, _, _, _, [], _, [], hW', trodAll_mk1 (shut_bool Try.underlying4 _), (trodAll_cons_mk (Below.trod laidOut (by kernel_rfl) (of_decide_eq_true (by kernel_rfl)) k0 bel lt0) trodAll_mk0), rfl, bel.frame _, fun h => by cases h⟩
theorem closed : joinedFacts Try.prog 4 Try.f4 Rows.fnExactRunNestSpec Rows.fnExactRunNestRow = true :=
  facts_of mayEnter_ok liftsFinal_ok make_ok (by kernel_rfl)
theorem over : Rows.fnExactRunNestRow.holds Try.pinned (OpenSpec.ofChange Rows.fnExactRunNestSpec) :=
  OpenClaim.holds_of_wide 4 Try.f4 rfl rfl rfl rfl rfl rfl rfl ⟨rfl, rfl, rfl, rfl, rfl⟩ rfl rfl rfl rfl rfl (by kernel_rfl) Try.func4 closed
    (of_decide_eq_true (by kernel_rfl)) (by unfold Func.isWrapper; first | (rw [if_pos (by decide +kernel)]; kernel_rfl) | (rw [if_neg (by decide +kernel)]; exact ⟨rfl, rfl⟩))
    (fun os started H enc _ => lifted os started H enc)
/-- THE STATEMENT -/
theorem proved : Rows.FnExactRunNestSaid := over
end fnExactRunNest
end Go.Proofs.Ytoljmhggkighnab
