/- FnExactStepNest: for every state and every command the law returns true, and what was there is as it was. No condition. -/
import Derived.Test.YtoljmhggkighnaaRows
import Derived.Test.YtoljmhggkighnaaNestLaw
import Derived.Test.YtoljmhggkighnaaNestDraw
import Derived.Test.YtoljmhggkighnaaOpenC
set_option linter.unusedVariables false
set_option linter.unusedSimpArgs false
set_option linter.unnecessarySimpa false
namespace Go.Proofs.Ytoljmhggkighnaa
open Go.RowKit

set_option maxRecDepth 100000 in
set_option maxHeartbeats 16000000 in
theorem walk_FnExactStepNest (d k : Int) (ms : List Int) (b : Bool) (A : Option Addr) (n c : Nat) (_ : -9223372036854775808 ≤ d ∧ d ≤ 9223372036854775807) (_ : -9223372036854775808 ≤ k ∧ k ≤ 9223372036854775807) (hN : ms.length = n) (hc : n ≤ c) (hm : c ≤ maxLen) {w : World} (h : Rd w A (ms.map (.int .i64))) (_ : ∀ x ∈ ms, -9223372036854775808 ≤ x ∧ x ≤ 9223372036854775807) (x : Int) (_ : -9223372036854775808 ≤ x ∧ x ≤ 9223372036854775807) :
    Calls Try.prog 8 #[.agg #[.int .i64 d, .int .i64 k, .slice A n c, .bool b], .int .i64 x] w fun e w' => e = .returned (.bool true) ∧ Below w.heap.size w w' := by
  have HN := Lib.hid hN; clear hN
  unfold maxLen at hm
  by_cases hbig : 1048576 < n
  · go_enter Try.func8, Try.ntmps8
    go_wp2_with fail
    refine (szNest_c d k b A n c _ (by omega)).mono ?_
    rw [if_pos hbig]
    rintro e w1 ⟨rfl, b1⟩
    go_wp2_with fail
    go_ret
    exact ⟨rfl, ((Below.refl _ _).alloc (Nat.le_refl _) _).trans (b1.mono (by simp))⟩
  · obtain ⟨left, hleft⟩ : ∃ l, l = 1048576 - (n : Int) := ⟨_, rfl⟩
    have hsz : (if 1048576 < n then -1 else 1048576 - (n : Int)) = left := by rw [if_neg hbig, hleft]
    have hl0 : 0 ≤ left := by omega
    have HSZ := Lib.hid hsz
    clear hsz hleft
    obtain ⟨r, hr⟩ : ∃ r, r = stepN d k ms b x := ⟨_, rfl⟩
    have hbd : (r.getD St.zero).marks.length ≤ 4 := by
      rw [hr]
      cases hq : stepN d k ms b x with
      | none => simp [St.zero]
      | some t => have := (stepN_some hq).2.2.2; rw [St.ok_iff] at this; exact this.1
    obtain ⟨t, ht⟩ : ∃ t, t = r.getD St.zero := ⟨_, rfl⟩
    obtain ⟨ok, hok⟩ : ∃ ok, ok = r.isSome := ⟨_, rfl⟩
    rw [← ht] at hbd
    have HT : Hid ((stepN d k ms b x).getD St.zero = t) := by show _ = _; rw [ht, hr]
    have HO : Hid ((stepN d k ms b x).isSome = ok) := by show _ = _; rw [hok, hr]
    obtain ⟨tk, zs, tb⟩ := t
    simp only at hbd
    clear hr ht hok
    have H0 := Lib.hid h; clear h
    go_enter Try.func8, Try.ntmps8
    go_wp2_with fail
    obtain ⟨w1, hw1⟩ : ∃ W, W = w.alloc (.cells #[.int .i64 d, .int .i64 k, .slice A n c, .bool b] 24) := ⟨_, rfl⟩
    obtain ⟨gP, hgP⟩ : ∃ g, g = w.heap.size := ⟨_, rfl⟩
    rw [← hw1, ← hgP]
    have hv1 : Blk w1 gP 24 #[.int .i64 d, .int .i64 k, .slice A n c, .bool b] := by rw [hw1, hgP]; exact Blk.new _ _ _
    have V1 := Lib.hid hv1; clear hv1
    have hgeP : w.heap.size ≤ gP := by rw [hgP]; exact (Below.refl w.heap.size w).size
    have hb1 : Below w.heap.size w w1 := by rw [hw1]; exact (Below.refl w.heap.size w).alloc (Below.refl w.heap.size w).size _
    have EB1 := Lib.hid hb1; clear hb1
    clear  hw1 hgP
    obtain ⟨pq0, pq1, pq2, pq3, pqz⟩ := blk4 V1.out
    have pql := Blk.lt V1.out
    have pqm : ¬ gP = w1.heap.size := by omega
    have pqn : ¬ w1.heap.size = gP := by omega
    go_wp2_with fail
    refine (szNest_c d k b A n c _ (by omega)).mono ?_
    rw [HSZ.out]
    rintro e w2 ⟨rfl, b2⟩
    clear pq0 pq1 pq2 pq3 pqz pql pqm pqn
    have hP2 : Blk w2 gP 24 #[.int .i64 d, .int .i64 k, .slice A n c, .bool b] := Blk.below V1.out b2 (Blk.lt V1.out)
    have hb2 : Below w.heap.size w w2 := EB1.out.trans (b2.mono EB1.out.size)
    have EP2 := Lib.hid hP2; clear hP2
    have EB2 := Lib.hid hb2; clear hb2
    clear V1 EB1 b2
    obtain ⟨pq0, pq1, pq2, pq3, pqz⟩ := blk4 EP2.out
    have pql := Blk.lt EP2.out
    have pqm : ¬ gP = w2.heap.size := by omega
    have pqn : ¬ w2.heap.size = gP := by omega
    go_wp2_with fail
    refine (toNest_c d k ms b A n c _ HN.out (Rd.below (w' := w2) H0.out EB2.out) (by omega)).mono ?_
    rintro e w3 ⟨AS, cS, rfl, q3, b3⟩
    have r3 : Row w3 w2.heap.size 3 1 AS (ms).length cS ((ms).map (.int .i64)) := q3
    have R3 := Lib.hid (r3.mono EB2.out.size); clear r3 q3
    clear pq0 pq1 pq2 pq3 pqz pql pqm pqn
    have hP3 : Blk w3 gP 24 #[.int .i64 d, .int .i64 k, .slice A n c, .bool b] := Blk.below EP2.out b3 (Blk.lt EP2.out)
    have hb3 : Below w.heap.size w w3 := EB2.out.trans (b3.mono EB2.out.size)
    have EP3 := Lib.hid hP3; clear hP3
    have EB3 := Lib.hid hb3; clear hb3
    clear EP2 EB2 b3
    obtain ⟨pq0, pq1, pq2, pq3, pqz⟩ := blk4 EP3.out
    have pql := Blk.lt EP3.out
    have pqm : ¬ gP = w3.heap.size := by omega
    have pqn : ¬ w3.heap.size = gP := by omega
    go_wp2_with fail
    refine (sStepNest_c d k ms b x _ _ _ _ rfl R3.out.le R3.out.rd (by have := HN.out; omega)).mono ?_
    rw [HT.out, HO.out]
    rintro e w4 ⟨AW, cW, rfl, q4, b4⟩
    have r4 : Row w4 w3.heap.size 3 1 AW (zs).length cW ((zs).map (.int .i64)) := q4
    have apSW := Lib.hid (row_apart R3.out r4 (Nat.le_refl _))
    have R4 := Lib.hid (r4.mono EB3.out.size); clear r4 q4
    clear pq0 pq1 pq2 pq3 pqz pql pqm pqn
    have hP4 : Blk w4 gP 24 #[.int .i64 d, .int .i64 k, .slice A n c, .bool b] := Blk.below EP3.out b4 (Blk.lt EP3.out)
    have hS4 : Row w4 w.heap.size 3 1 AS (ms).length cS ((ms).map (.int .i64)) := R3.out.below b4
    have hb4 : Below w.heap.size w w4 := EB3.out.trans (b4.mono EB3.out.size)
    have EP4 := Lib.hid hP4; clear hP4
    have ES4 := Lib.hid hS4; clear hS4
    have EB4 := Lib.hid hb4; clear hb4
    clear EP3 R3 EB3 b4
    obtain ⟨pq0, pq1, pq2, pq3, pqz⟩ := blk4 EP4.out
    have pql := Blk.lt EP4.out
    have pqm : ¬ gP = w4.heap.size := by omega
    have pqn : ¬ w4.heap.size = gP := by omega
    clear ES4
    go_wp2_with fail
    obtain ⟨w5, hw5⟩ : ∃ W, W = w4.alloc (.cells #[.int .i64 (zs.length : Int), .int .i64 tk, .slice AW zs.length cW, .bool tb] 27) := ⟨_, rfl⟩
    obtain ⟨gWV, hgWV⟩ : ∃ g, g = w4.heap.size := ⟨_, rfl⟩
    rw [← hw5, ← hgWV]
    have hv5 : Blk w5 gWV 27 #[.int .i64 (zs.length : Int), .int .i64 tk, .slice AW zs.length cW, .bool tb] := by rw [hw5, hgWV]; exact Blk.new _ _ _
    have V5 := Lib.hid hv5; clear hv5
    have hgeWV : w.heap.size ≤ gWV := by rw [hgWV]; exact EB4.out.size
    have hltPWV : gP < gWV := by rw [hgWV]; exact Blk.lt EP4.out
    clear pq0 pq1 pq2 pq3 pqz pql pqm pqn
    have hP5 : Blk w5 gP 24 #[.int .i64 d, .int .i64 k, .slice A n c, .bool b] := by rw [hw5]; exact EP4.out.alloc _
    have hW5 : Row w5 w.heap.size 3 1 AW (zs).length cW ((zs).map (.int .i64)) := by rw [hw5]; exact R4.out.alloc _
    have hb5 : Below w.heap.size w w5 := by rw [hw5]; exact EB4.out.alloc EB4.out.size _
    have EP5 := Lib.hid hP5; clear hP5
    have EW5 := Lib.hid hW5; clear hW5
    have EB5 := Lib.hid hb5; clear hb5
    clear EP4 R4 EB4 hw5 hgWV
    obtain ⟨pq0, pq1, pq2, pq3, pqz⟩ := blk4 EP5.out
    have pql := Blk.lt EP5.out
    have pqm : ¬ gP = w5.heap.size := by omega
    have pqn : ¬ w5.heap.size = gP := by omega
    obtain ⟨wvq0, wvq1, wvq2, wvq3, wvqz⟩ := blk4 V5.out
    have wvql := Blk.lt V5.out
    have wvqm : ¬ gWV = w5.heap.size := by omega
    have wvqn : ¬ w5.heap.size = gWV := by omega
    go_wp2_with fail
    refine (toNest_c d k ms b A n c _ HN.out (Rd.below (w' := w5) H0.out EB5.out) (by omega)).mono ?_
    rintro e w6 ⟨AX, cX, rfl, q6, b6⟩
    have r6 : Row w6 w5.heap.size 3 1 AX (ms).length cX ((ms).map (.int .i64)) := q6
    have apWX := Lib.hid (row_apart EW5.out r6 (Nat.le_refl _))
    have R6 := Lib.hid (r6.mono EB5.out.size); clear r6 q6
    clear pq0 pq1 pq2 pq3 pqz pql pqm pqn wvq0 wvq1 wvq2 wvq3 wvqz wvql wvqm wvqn
    have hP6 : Blk w6 gP 24 #[.int .i64 d, .int .i64 k, .slice A n c, .bool b] := Blk.below EP5.out b6 (Blk.lt EP5.out)
    have hW6 : Row w6 w.heap.size 3 1 AW (zs).length cW ((zs).map (.int .i64)) := EW5.out.below b6
    have hWV6 : Blk w6 gWV 27 #[.int .i64 (zs.length : Int), .int .i64 tk, .slice AW zs.length cW, .bool tb] := Blk.below V5.out b6 (Blk.lt V5.out)
    have hb6 : Below w.heap.size w w6 := EB5.out.trans (b6.mono EB5.out.size)
    have EP6 := Lib.hid hP6; clear hP6
    have EW6 := Lib.hid hW6; clear hW6
    have EWV6 := Lib.hid hWV6; clear hWV6
    have EB6 := Lib.hid hb6; clear hb6
    clear EP5 EW5 V5 EB5 b6
    obtain ⟨pq0, pq1, pq2, pq3, pqz⟩ := blk4 EP6.out
    have pql := Blk.lt EP6.out
    have pqm : ¬ gP = w6.heap.size := by omega
    have pqn : ¬ w6.heap.size = gP := by omega
    obtain ⟨wvq0, wvq1, wvq2, wvq3, wvqz⟩ := blk4 EWV6.out
    have wvql := Blk.lt EWV6.out
    have wvqm : ¬ gWV = w6.heap.size := by omega
    have wvqn : ¬ w6.heap.size = gWV := by omega
    go_wp2_with fail
    obtain ⟨w7, hw7⟩ : ∃ W, W = w6.alloc (.cells #[.int .i64 d, .int .i64 k, .slice AX ms.length cX, .bool b] 27) := ⟨_, rfl⟩
    obtain ⟨gXV, hgXV⟩ : ∃ g, g = w6.heap.size := ⟨_, rfl⟩
    rw [← hw7, ← hgXV]
    have hv7 : Blk w7 gXV 27 #[.int .i64 d, .int .i64 k, .slice AX ms.length cX, .bool b] := by rw [hw7, hgXV]; exact Blk.new _ _ _
    have V7 := Lib.hid hv7; clear hv7
    have hgeXV : w.heap.size ≤ gXV := by rw [hgXV]; exact EB6.out.size
    have hltPXV : gP < gXV := by rw [hgXV]; exact Blk.lt EP6.out
    have hltWVXV : gWV < gXV := by rw [hgXV]; exact Blk.lt EWV6.out
    clear pq0 pq1 pq2 pq3 pqz pql pqm pqn wvq0 wvq1 wvq2 wvq3 wvqz wvql wvqm wvqn
    have hP7 : Blk w7 gP 24 #[.int .i64 d, .int .i64 k, .slice A n c, .bool b] := by rw [hw7]; exact EP6.out.alloc _
    have hW7 : Row w7 w.heap.size 3 1 AW (zs).length cW ((zs).map (.int .i64)) := by rw [hw7]; exact EW6.out.alloc _
    have hWV7 : Blk w7 gWV 27 #[.int .i64 (zs.length : Int), .int .i64 tk, .slice AW zs.length cW, .bool tb] := by rw [hw7]; exact EWV6.out.alloc _
    have hX7 : Row w7 w.heap.size 3 1 AX (ms).length cX ((ms).map (.int .i64)) := by rw [hw7]; exact R6.out.alloc _
    have hb7 : Below w.heap.size w w7 := by rw [hw7]; exact EB6.out.alloc EB6.out.size _
    have EP7 := Lib.hid hP7; clear hP7
    have EW7 := Lib.hid hW7; clear hW7
    have EWV7 := Lib.hid hWV7; clear hWV7
    have EX7 := Lib.hid hX7; clear hX7
    have EB7 := Lib.hid hb7; clear hb7
    clear EP6 EW6 EWV6 R6 EB6 hw7 hgXV
    obtain ⟨pq0, pq1, pq2, pq3, pqz⟩ := blk4 EP7.out
    have pql := Blk.lt EP7.out
    have pqm : ¬ gP = w7.heap.size := by omega
    have pqn : ¬ w7.heap.size = gP := by omega
    obtain ⟨wvq0, wvq1, wvq2, wvq3, wvqz⟩ := blk4 EWV7.out
    have wvql := Blk.lt EWV7.out
    have wvqm : ¬ gWV = w7.heap.size := by omega
    have wvqn : ¬ w7.heap.size = gWV := by omega
    obtain ⟨xvq0, xvq1, xvq2, xvq3, xvqz⟩ := blk4 V7.out
    have xvql := Blk.lt V7.out
    have xvqm : ¬ gXV = w7.heap.size := by omega
    have xvqn : ¬ w7.heap.size = gXV := by omega
    go_wp2_with fail
    refine (stepNest_c d k ms b x _ _ _ _ rfl EX7.out.le EX7.out.rd (by have := HN.out; omega)).mono ?_
    rw [HT.out, HO.out]
    rintro e w8 ⟨AG, cG, rfl, q8, b8⟩
    have r8 : Row w8 w7.heap.size 3 1 AG (zs).length cG ((zs).map (.int .i64)) := q8
    have apWG := Lib.hid (row_apart EW7.out r8 (Nat.le_refl _))
    have apXG := Lib.hid (row_apart EX7.out r8 (Nat.le_refl _))
    have R8 := Lib.hid (r8.mono EB7.out.size); clear r8 q8
    clear pq0 pq1 pq2 pq3 pqz pql pqm pqn wvq0 wvq1 wvq2 wvq3 wvqz wvql wvqm wvqn xvq0 xvq1 xvq2 xvq3 xvqz xvql xvqm xvqn
    have hP8 : Blk w8 gP 24 #[.int .i64 d, .int .i64 k, .slice A n c, .bool b] := Blk.below EP7.out b8 (Blk.lt EP7.out)
    have hW8 : Row w8 w.heap.size 3 1 AW (zs).length cW ((zs).map (.int .i64)) := EW7.out.below b8
    have hWV8 : Blk w8 gWV 27 #[.int .i64 (zs.length : Int), .int .i64 tk, .slice AW zs.length cW, .bool tb] := Blk.below EWV7.out b8 (Blk.lt EWV7.out)
    have hX8 : Row w8 w.heap.size 3 1 AX (ms).length cX ((ms).map (.int .i64)) := EX7.out.below b8
    have hXV8 : Blk w8 gXV 27 #[.int .i64 d, .int .i64 k, .slice AX ms.length cX, .bool b] := Blk.below V7.out b8 (Blk.lt V7.out)
    have hb8 : Below w.heap.size w w8 := EB7.out.trans (b8.mono EB7.out.size)
    have EP8 := Lib.hid hP8; clear hP8
    have EW8 := Lib.hid hW8; clear hW8
    have EWV8 := Lib.hid hWV8; clear hWV8
    have EX8 := Lib.hid hX8; clear hX8
    have EXV8 := Lib.hid hXV8; clear hXV8
    have EB8 := Lib.hid hb8; clear hb8
    clear EP7 EW7 EWV7 EX7 V7 EB7 b8
    obtain ⟨pq0, pq1, pq2, pq3, pqz⟩ := blk4 EP8.out
    have pql := Blk.lt EP8.out
    have pqm : ¬ gP = w8.heap.size := by omega
    have pqn : ¬ w8.heap.size = gP := by omega
    obtain ⟨wvq0, wvq1, wvq2, wvq3, wvqz⟩ := blk4 EWV8.out
    have wvql := Blk.lt EWV8.out
    have wvqm : ¬ gWV = w8.heap.size := by omega
    have wvqn : ¬ w8.heap.size = gWV := by omega
    obtain ⟨xvq0, xvq1, xvq2, xvq3, xvqz⟩ := blk4 EXV8.out
    have xvql := Blk.lt EXV8.out
    have xvqm : ¬ gXV = w8.heap.size := by omega
    have xvqn : ¬ w8.heap.size = gXV := by omega
    go_wp2_with fail
    obtain ⟨w9, hw9⟩ : ∃ W, W = w8.alloc (.cells #[.int .i64 (zs.length : Int), .int .i64 tk, .slice AG zs.length cG, .bool tb] 27) := ⟨_, rfl⟩
    obtain ⟨gGV, hgGV⟩ : ∃ g, g = w8.heap.size := ⟨_, rfl⟩
    rw [← hw9, ← hgGV]
    have hv9 : Blk w9 gGV 27 #[.int .i64 (zs.length : Int), .int .i64 tk, .slice AG zs.length cG, .bool tb] := by rw [hw9, hgGV]; exact Blk.new _ _ _
    have V9 := Lib.hid hv9; clear hv9
    have hgeGV : w.heap.size ≤ gGV := by rw [hgGV]; exact EB8.out.size
    have hltPGV : gP < gGV := by rw [hgGV]; exact Blk.lt EP8.out
    have hltWVGV : gWV < gGV := by rw [hgGV]; exact Blk.lt EWV8.out
    have hltXVGV : gXV < gGV := by rw [hgGV]; exact Blk.lt EXV8.out
    clear pq0 pq1 pq2 pq3 pqz pql pqm pqn wvq0 wvq1 wvq2 wvq3 wvqz wvql wvqm wvqn xvq0 xvq1 xvq2 xvq3 xvqz xvql xvqm xvqn
    have hP9 : Blk w9 gP 24 #[.int .i64 d, .int .i64 k, .slice A n c, .bool b] := by rw [hw9]; exact EP8.out.alloc _
    have hW9 : Row w9 w.heap.size 3 1 AW (zs).length cW ((zs).map (.int .i64)) := by rw [hw9]; exact EW8.out.alloc _
    have hWV9 : Blk w9 gWV 27 #[.int .i64 (zs.length : Int), .int .i64 tk, .slice AW zs.length cW, .bool tb] := by rw [hw9]; exact EWV8.out.alloc _
    have hX9 : Row w9 w.heap.size 3 1 AX (ms).length cX ((ms).map (.int .i64)) := by rw [hw9]; exact EX8.out.alloc _
    have hXV9 : Blk w9 gXV 27 #[.int .i64 d, .int .i64 k, .slice AX ms.length cX, .bool b] := by rw [hw9]; exact EXV8.out.alloc _
    have hG9 : Row w9 w.heap.size 3 1 AG (zs).length cG ((zs).map (.int .i64)) := by rw [hw9]; exact R8.out.alloc _
    have hb9 : Below w.heap.size w w9 := by rw [hw9]; exact EB8.out.alloc EB8.out.size _
    have EP9 := Lib.hid hP9; clear hP9
    have EW9 := Lib.hid hW9; clear hW9
    have EWV9 := Lib.hid hWV9; clear hWV9
    have EX9 := Lib.hid hX9; clear hX9
    have EXV9 := Lib.hid hXV9; clear hXV9
    have EG9 := Lib.hid hG9; clear hG9
    have EB9 := Lib.hid hb9; clear hb9
    clear EP8 EW8 EWV8 EX8 EXV8 R8 EB8 hw9 hgGV
    obtain ⟨pq0, pq1, pq2, pq3, pqz⟩ := blk4 EP9.out
    have pql := Blk.lt EP9.out
    have pqm : ¬ gP = w9.heap.size := by omega
    have pqn : ¬ w9.heap.size = gP := by omega
    obtain ⟨wvq0, wvq1, wvq2, wvq3, wvqz⟩ := blk4 EWV9.out
    have wvql := Blk.lt EWV9.out
    have wvqm : ¬ gWV = w9.heap.size := by omega
    have wvqn : ¬ w9.heap.size = gWV := by omega
    obtain ⟨xvq0, xvq1, xvq2, xvq3, xvqz⟩ := blk4 EXV9.out
    have xvql := Blk.lt EXV9.out
    have xvqm : ¬ gXV = w9.heap.size := by omega
    have xvqn : ¬ w9.heap.size = gXV := by omega
    obtain ⟨gvq0, gvq1, gvq2, gvq3, gvqz⟩ := blk4 V9.out
    have gvql := Blk.lt V9.out
    have gvqm : ¬ gGV = w9.heap.size := by omega
    have gvqn : ¬ w9.heap.size = gGV := by omega
    go_wp2_with fail
    refine (eqNest_c _ _ zs _ _ _ _ _ _ _ rfl EG9.out.rd EW9.out.rd (by omega)).mono ?_
    rintro e w10 ⟨rfl, b10⟩
    clear pq0 pq1 pq2 pq3 pqz pql pqm pqn wvq0 wvq1 wvq2 wvq3 wvqz wvql wvqm wvqn xvq0 xvq1 xvq2 xvq3 xvqz xvql xvqm xvqn gvq0 gvq1 gvq2 gvq3 gvqz gvql gvqm gvqn
    have hP10 : Blk w10 gP 24 #[.int .i64 d, .int .i64 k, .slice A n c, .bool b] := Blk.below EP9.out b10 (Blk.lt EP9.out)
    have hW10 : Row w10 w.heap.size 3 1 AW (zs).length cW ((zs).map (.int .i64)) := EW9.out.below b10
    have hWV10 : Blk w10 gWV 27 #[.int .i64 (zs.length : Int), .int .i64 tk, .slice AW zs.length cW, .bool tb] := Blk.below EWV9.out b10 (Blk.lt EWV9.out)
    have hX10 : Row w10 w.heap.size 3 1 AX (ms).length cX ((ms).map (.int .i64)) := EX9.out.below b10
    have hXV10 : Blk w10 gXV 27 #[.int .i64 d, .int .i64 k, .slice AX ms.length cX, .bool b] := Blk.below EXV9.out b10 (Blk.lt EXV9.out)
    have hG10 : Row w10 w.heap.size 3 1 AG (zs).length cG ((zs).map (.int .i64)) := EG9.out.below b10
    have hGV10 : Blk w10 gGV 27 #[.int .i64 (zs.length : Int), .int .i64 tk, .slice AG zs.length cG, .bool tb] := Blk.below V9.out b10 (Blk.lt V9.out)
    have hb10 : Below w.heap.size w w10 := EB9.out.trans (b10.mono EB9.out.size)
    have EP10 := Lib.hid hP10; clear hP10
    have EW10 := Lib.hid hW10; clear hW10
    have EWV10 := Lib.hid hWV10; clear hWV10
    have EX10 := Lib.hid hX10; clear hX10
    have EXV10 := Lib.hid hXV10; clear hXV10
    have EG10 := Lib.hid hG10; clear hG10
    have EGV10 := Lib.hid hGV10; clear hGV10
    have EB10 := Lib.hid hb10; clear hb10
    clear EP9 EW9 EWV9 EX9 EXV9 EG9 V9 EB9 b10
    obtain ⟨pq0, pq1, pq2, pq3, pqz⟩ := blk4 EP10.out
    have pql := Blk.lt EP10.out
    have pqm : ¬ gP = w10.heap.size := by omega
    have pqn : ¬ w10.heap.size = gP := by omega
    obtain ⟨wvq0, wvq1, wvq2, wvq3, wvqz⟩ := blk4 EWV10.out
    have wvql := Blk.lt EWV10.out
    have wvqm : ¬ gWV = w10.heap.size := by omega
    have wvqn : ¬ w10.heap.size = gWV := by omega
    obtain ⟨xvq0, xvq1, xvq2, xvq3, xvqz⟩ := blk4 EXV10.out
    have xvql := Blk.lt EXV10.out
    have xvqm : ¬ gXV = w10.heap.size := by omega
    have xvqn : ¬ w10.heap.size = gXV := by omega
    obtain ⟨gvq0, gvq1, gvq2, gvq3, gvqz⟩ := blk4 EGV10.out
    have gvql := Blk.lt EGV10.out
    have gvqm : ¬ gGV = w10.heap.size := by omega
    have gvqn : ¬ w10.heap.size = gGV := by omega
    go_wp2_with fail
    go_region_held3 (fun w' => w'.cell? ⟨gXV, 0, none⟩ = some (.int .i64 d) ∧ w'.cell? ⟨gXV, 1, none⟩ = some (.int .i64 k) ∧ w'.cell? ⟨gXV, 2, none⟩ = some (.slice AX ms.length cX) ∧ w'.cell? ⟨gXV, 3, none⟩ = some (.bool b) ∧ w'.cell? ⟨gP, 0, none⟩ = some (.int .i64 d) ∧ w'.cell? ⟨gP, 1, none⟩ = some (.int .i64 k) ∧ w'.cell? ⟨gP, 2, none⟩ = some (.slice A n c) ∧ w'.cell? ⟨gP, 3, none⟩ = some (.bool b)) (go_keep) ((first
      | (go_at_call 14; refine (toNest_c d k ms b A n c _ HN.out ?_ ?_).mono ?_; exact (Rd.below (w' := w10) H0.out EB10.out); omega; rintro e w11 ⟨AY, cY, rfl, rY, bY⟩; have yxa := Blk.below (w := w10.drew) EXV10.out bY (Blk.lt EXV10.out); have ypa := Blk.below (w := w10.drew) EP10.out bY (Blk.lt EP10.out); obtain ⟨kx0, kx1, kx2, kx3, kxz⟩ := blk4 yxa; obtain ⟨kp0, kp1, kp2, kp3, kpz⟩ := blk4 ypa)
      | (go_at_call 16; refine (eqNest_c d k ms b _ _ _ _ _ _ rfl ?_ ?_ ?_).mono ?_; exact (Row.below (w := w10.drew) EX10.out bY).rd; exact rY.rd; (have := HN.out; omega); rintro e w12 ⟨rfl, bE⟩; clear kx0 kx1 kx2 kx3 kxz kp0 kp1 kp2 kp3 kpz; have yxb := Blk.below (w := w11) yxa bE (Blk.lt yxa); have ypb := Blk.below (w := w11) ypa bE (Blk.lt ypa); obtain ⟨kx0, kx1, kx2, kx3, kxz⟩ := blk4 yxb; obtain ⟨kp0, kp1, kp2, kp3, kpz⟩ := blk4 ypb)))
    have b12 : Below w10.heap.size w10 w12 := ((Below.refl w10.heap.size w10).drew.trans bY).trans (bE.mono bY.size)
    clear yxa ypa yxb ypb kx0 kx1 kx2 kx3 kxz kp0 kp1 kp2 kp3 kpz rY
    clear pq0 pq1 pq2 pq3 pqz pql pqm pqn wvq0 wvq1 wvq2 wvq3 wvqz wvql wvqm wvqn xvq0 xvq1 xvq2 xvq3 xvqz xvql xvqm xvqn gvq0 gvq1 gvq2 gvq3 gvqz gvql gvqm gvqn
    have hP12 : Blk w12 gP 24 #[.int .i64 d, .int .i64 k, .slice A n c, .bool b] := Blk.below EP10.out b12 (Blk.lt EP10.out)
    have hW12 : Row w12 w.heap.size 3 1 AW (zs).length cW ((zs).map (.int .i64)) := EW10.out.below b12
    have hWV12 : Blk w12 gWV 27 #[.int .i64 (zs.length : Int), .int .i64 tk, .slice AW zs.length cW, .bool tb] := Blk.below EWV10.out b12 (Blk.lt EWV10.out)
    have hX12 : Row w12 w.heap.size 3 1 AX (ms).length cX ((ms).map (.int .i64)) := EX10.out.below b12
    have hXV12 : Blk w12 gXV 27 #[.int .i64 d, .int .i64 k, .slice AX ms.length cX, .bool b] := Blk.below EXV10.out b12 (Blk.lt EXV10.out)
    have hG12 : Row w12 w.heap.size 3 1 AG (zs).length cG ((zs).map (.int .i64)) := EG10.out.below b12
    have hGV12 : Blk w12 gGV 27 #[.int .i64 (zs.length : Int), .int .i64 tk, .slice AG zs.length cG, .bool tb] := Blk.below EGV10.out b12 (Blk.lt EGV10.out)
    have hb12 : Below w.heap.size w w12 := EB10.out.trans (b12.mono EB10.out.size)
    have EP12 := Lib.hid hP12; clear hP12
    have EW12 := Lib.hid hW12; clear hW12
    have EWV12 := Lib.hid hWV12; clear hWV12
    have EX12 := Lib.hid hX12; clear hX12
    have EXV12 := Lib.hid hXV12; clear hXV12
    have EG12 := Lib.hid hG12; clear hG12
    have EGV12 := Lib.hid hGV12; clear hGV12
    have EB12 := Lib.hid hb12; clear hb12
    clear EP10 EW10 EWV10 EX10 EXV10 EG10 EGV10 EB10 b12 bY bE
    obtain ⟨pq0, pq1, pq2, pq3, pqz⟩ := blk4 EP12.out
    have pql := Blk.lt EP12.out
    have pqm : ¬ gP = w12.heap.size := by omega
    have pqn : ¬ w12.heap.size = gP := by omega
    obtain ⟨wvq0, wvq1, wvq2, wvq3, wvqz⟩ := blk4 EWV12.out
    have wvql := Blk.lt EWV12.out
    have wvqm : ¬ gWV = w12.heap.size := by omega
    have wvqn : ¬ w12.heap.size = gWV := by omega
    obtain ⟨xvq0, xvq1, xvq2, xvq3, xvqz⟩ := blk4 EXV12.out
    have xvql := Blk.lt EXV12.out
    have xvqm : ¬ gXV = w12.heap.size := by omega
    have xvqn : ¬ w12.heap.size = gXV := by omega
    obtain ⟨gvq0, gvq1, gvq2, gvq3, gvqz⟩ := blk4 EGV12.out
    have gvql := Blk.lt EGV12.out
    have gvqm : ¬ gGV = w12.heap.size := by omega
    have gvqn : ¬ w12.heap.size = gGV := by omega
    go_wp2_with fail
    refine (markN_c _ d k ms b 1 _ _ _ _ rfl EX12.out (by have := HN.out; omega) (by omega)).mono ?_
    rintro e w13 ⟨rfl, q13, g13⟩
    clear pq0 pq1 pq2 pq3 pqz pql pqm pqn wvq0 wvq1 wvq2 wvq3 wvqz wvql wvqm wvqn xvq0 xvq1 xvq2 xvq3 xvqz xvql xvqm xvqn gvq0 gvq1 gvq2 gvq3 gvqz gvql gvqm gvqn
    have hP13 : Blk w13 gP 24 #[.int .i64 d, .int .i64 k, .slice A n c, .bool b] := Blk.grown EP12.out g13 (by rcases row_blk_ne EX12.out EP12.out (by decide) with h | h <;> first | (rw [h]; simp; done) | exact fun e => h e.symm)
    have hW13 : Row w13 w.heap.size 3 1 AW (zs).length cW ((zs).map (.int .i64)) := EW12.out.kept g13 apWX.out.1
    have hWV13 : Blk w13 gWV 27 #[.int .i64 (zs.length : Int), .int .i64 tk, .slice AW zs.length cW, .bool tb] := Blk.grown EWV12.out g13 (by rcases row_blk_ne EX12.out EWV12.out (by decide) with h | h <;> first | (rw [h]; simp; done) | exact fun e => h e.symm)
    have hX13 : Row w13 w.heap.size 3 1 AX (ms).length cX ((runFrom ((1 : Nat) : Int) ms.length).map (.int .i64)) := q13
    have hXV13 : Blk w13 gXV 27 #[.int .i64 d, .int .i64 k, .slice AX ms.length cX, .bool b] := Blk.grown EXV12.out g13 (by rcases row_blk_ne EX12.out EXV12.out (by decide) with h | h <;> first | (rw [h]; simp; done) | exact fun e => h e.symm)
    have hG13 : Row w13 w.heap.size 3 1 AG (zs).length cG ((zs).map (.int .i64)) := EG12.out.kept g13 apXG.out.2
    have hGV13 : Blk w13 gGV 27 #[.int .i64 (zs.length : Int), .int .i64 tk, .slice AG zs.length cG, .bool tb] := Blk.grown EGV12.out g13 (by rcases row_blk_ne EX12.out EGV12.out (by decide) with h | h <;> first | (rw [h]; simp; done) | exact fun e => h e.symm)
    have hb13 : Below w.heap.size w w13 := EB12.out.grown g13 EB12.out.size (fun k hk => (EX12.out.lt k hk).1)
    have EP13 := Lib.hid hP13; clear hP13
    have EW13 := Lib.hid hW13; clear hW13
    have EWV13 := Lib.hid hWV13; clear hWV13
    have EX13 := Lib.hid hX13; clear hX13
    have EXV13 := Lib.hid hXV13; clear hXV13
    have EG13 := Lib.hid hG13; clear hG13
    have EGV13 := Lib.hid hGV13; clear hGV13
    have EB13 := Lib.hid hb13; clear hb13
    clear EP12 EW12 EWV12 EX12 EXV12 EG12 EGV12 EB12 q13 g13
    obtain ⟨pq0, pq1, pq2, pq3, pqz⟩ := blk4 EP13.out
    have pql := Blk.lt EP13.out
    have pqm : ¬ gP = w13.heap.size := by omega
    have pqn : ¬ w13.heap.size = gP := by omega
    obtain ⟨wvq0, wvq1, wvq2, wvq3, wvqz⟩ := blk4 EWV13.out
    have wvql := Blk.lt EWV13.out
    have wvqm : ¬ gWV = w13.heap.size := by omega
    have wvqn : ¬ w13.heap.size = gWV := by omega
    obtain ⟨xvq0, xvq1, xvq2, xvq3, xvqz⟩ := blk4 EXV13.out
    have xvql := Blk.lt EXV13.out
    have xvqm : ¬ gXV = w13.heap.size := by omega
    have xvqn : ¬ w13.heap.size = gXV := by omega
    obtain ⟨gvq0, gvq1, gvq2, gvq3, gvqz⟩ := blk4 EGV13.out
    have gvql := Blk.lt EGV13.out
    have gvqm : ¬ gGV = w13.heap.size := by omega
    have gvqn : ¬ w13.heap.size = gGV := by omega
    have hmk : (0 : Int) ≤ ((1 + ms.length : Nat) : Int) := by omega
    go_wp2_with fail
    refine (eqNest_c _ _ zs _ _ _ _ _ _ _ rfl EG13.out.rd EW13.out.rd (by omega)).mono ?_
    rintro e w14 ⟨rfl, b14⟩
    clear pq0 pq1 pq2 pq3 pqz pql pqm pqn wvq0 wvq1 wvq2 wvq3 wvqz wvql wvqm wvqn xvq0 xvq1 xvq2 xvq3 xvqz xvql xvqm xvqn gvq0 gvq1 gvq2 gvq3 gvqz gvql gvqm gvqn
    have hP14 : Blk w14 gP 24 #[.int .i64 d, .int .i64 k, .slice A n c, .bool b] := Blk.below EP13.out b14 (Blk.lt EP13.out)
    have hW14 : Row w14 w.heap.size 3 1 AW (zs).length cW ((zs).map (.int .i64)) := EW13.out.below b14
    have hWV14 : Blk w14 gWV 27 #[.int .i64 (zs.length : Int), .int .i64 tk, .slice AW zs.length cW, .bool tb] := Blk.below EWV13.out b14 (Blk.lt EWV13.out)
    have hX14 : Row w14 w.heap.size 3 1 AX (ms).length cX ((runFrom ((1 : Nat) : Int) ms.length).map (.int .i64)) := EX13.out.below b14
    have hXV14 : Blk w14 gXV 27 #[.int .i64 d, .int .i64 k, .slice AX ms.length cX, .bool b] := Blk.below EXV13.out b14 (Blk.lt EXV13.out)
    have hG14 : Row w14 w.heap.size 3 1 AG (zs).length cG ((zs).map (.int .i64)) := EG13.out.below b14
    have hGV14 : Blk w14 gGV 27 #[.int .i64 (zs.length : Int), .int .i64 tk, .slice AG zs.length cG, .bool tb] := Blk.below EGV13.out b14 (Blk.lt EGV13.out)
    have hb14 : Below w.heap.size w w14 := EB13.out.trans (b14.mono EB13.out.size)
    have EP14 := Lib.hid hP14; clear hP14
    have EW14 := Lib.hid hW14; clear hW14
    have EWV14 := Lib.hid hWV14; clear hWV14
    have EX14 := Lib.hid hX14; clear hX14
    have EXV14 := Lib.hid hXV14; clear hXV14
    have EG14 := Lib.hid hG14; clear hG14
    have EGV14 := Lib.hid hGV14; clear hGV14
    have EB14 := Lib.hid hb14; clear hb14
    clear EP13 EW13 EWV13 EX13 EXV13 EG13 EGV13 EB13 b14
    obtain ⟨pq0, pq1, pq2, pq3, pqz⟩ := blk4 EP14.out
    have pql := Blk.lt EP14.out
    have pqm : ¬ gP = w14.heap.size := by omega
    have pqn : ¬ w14.heap.size = gP := by omega
    obtain ⟨wvq0, wvq1, wvq2, wvq3, wvqz⟩ := blk4 EWV14.out
    have wvql := Blk.lt EWV14.out
    have wvqm : ¬ gWV = w14.heap.size := by omega
    have wvqn : ¬ w14.heap.size = gWV := by omega
    obtain ⟨xvq0, xvq1, xvq2, xvq3, xvqz⟩ := blk4 EXV14.out
    have xvql := Blk.lt EXV14.out
    have xvqm : ¬ gXV = w14.heap.size := by omega
    have xvqn : ¬ w14.heap.size = gXV := by omega
    obtain ⟨gvq0, gvq1, gvq2, gvq3, gvqz⟩ := blk4 EGV14.out
    have gvql := Blk.lt EGV14.out
    have gvqm : ¬ gGV = w14.heap.size := by omega
    have gvqn : ¬ w14.heap.size = gGV := by omega
    clear EX14
    clear EXV14
    clear xvq0 xvq1 xvq2 xvq3 xvqz xvql xvqm xvqn
    go_wp2_with fail
    refine (markN_c _ _ _ zs _ 1 _ _ _ _ rfl EG14.out (by omega) (by omega)).mono ?_
    rintro e w15 ⟨rfl, q15, g15⟩
    clear pq0 pq1 pq2 pq3 pqz pql pqm pqn wvq0 wvq1 wvq2 wvq3 wvqz wvql wvqm wvqn gvq0 gvq1 gvq2 gvq3 gvqz gvql gvqm gvqn
    have hP15 : Blk w15 gP 24 #[.int .i64 d, .int .i64 k, .slice A n c, .bool b] := Blk.grown EP14.out g15 (by rcases row_blk_ne EG14.out EP14.out (by decide) with h | h <;> first | (rw [h]; simp; done) | exact fun e => h e.symm)
    have hW15 : Row w15 w.heap.size 3 1 AW (zs).length cW ((zs).map (.int .i64)) := EW14.out.kept g15 apWG.out.1
    have hWV15 : Blk w15 gWV 27 #[.int .i64 (zs.length : Int), .int .i64 tk, .slice AW zs.length cW, .bool tb] := Blk.grown EWV14.out g15 (by rcases row_blk_ne EG14.out EWV14.out (by decide) with h | h <;> first | (rw [h]; simp; done) | exact fun e => h e.symm)
    have hG15 : Row w15 w.heap.size 3 1 AG (zs).length cG ((runFrom ((1 : Nat) : Int) zs.length).map (.int .i64)) := q15
    have hGV15 : Blk w15 gGV 27 #[.int .i64 (zs.length : Int), .int .i64 tk, .slice AG zs.length cG, .bool tb] := Blk.grown EGV14.out g15 (by rcases row_blk_ne EG14.out EGV14.out (by decide) with h | h <;> first | (rw [h]; simp; done) | exact fun e => h e.symm)
    have hb15 : Below w.heap.size w w15 := EB14.out.grown g15 EB14.out.size (fun k hk => (EG14.out.lt k hk).1)
    have EP15 := Lib.hid hP15; clear hP15
    have EW15 := Lib.hid hW15; clear hW15
    have EWV15 := Lib.hid hWV15; clear hWV15
    have EG15 := Lib.hid hG15; clear hG15
    have EGV15 := Lib.hid hGV15; clear hGV15
    have EB15 := Lib.hid hb15; clear hb15
    clear EP14 EW14 EWV14 EG14 EGV14 EB14 q15 g15
    obtain ⟨pq0, pq1, pq2, pq3, pqz⟩ := blk4 EP15.out
    have pql := Blk.lt EP15.out
    have pqm : ¬ gP = w15.heap.size := by omega
    have pqn : ¬ w15.heap.size = gP := by omega
    obtain ⟨wvq0, wvq1, wvq2, wvq3, wvqz⟩ := blk4 EWV15.out
    have wvql := Blk.lt EWV15.out
    have wvqm : ¬ gWV = w15.heap.size := by omega
    have wvqn : ¬ w15.heap.size = gWV := by omega
    obtain ⟨gvq0, gvq1, gvq2, gvq3, gvqz⟩ := blk4 EGV15.out
    have gvql := Blk.lt EGV15.out
    have gvqm : ¬ gGV = w15.heap.size := by omega
    have gvqn : ¬ w15.heap.size = gGV := by omega
    go_wp2_with fail
    refine (heldN_c 1 _ _ _ _ _ _ _ EG15.out.rd (by omega) (by omega)).mono ?_
    rintro e w16 ⟨rfl, b16⟩
    clear pq0 pq1 pq2 pq3 pqz pql pqm pqn wvq0 wvq1 wvq2 wvq3 wvqz wvql wvqm wvqn gvq0 gvq1 gvq2 gvq3 gvqz gvql gvqm gvqn
    have hP16 : Blk w16 gP 24 #[.int .i64 d, .int .i64 k, .slice A n c, .bool b] := Blk.below EP15.out b16 (Blk.lt EP15.out)
    have hW16 : Row w16 w.heap.size 3 1 AW (zs).length cW ((zs).map (.int .i64)) := EW15.out.below b16
    have hWV16 : Blk w16 gWV 27 #[.int .i64 (zs.length : Int), .int .i64 tk, .slice AW zs.length cW, .bool tb] := Blk.below EWV15.out b16 (Blk.lt EWV15.out)
    have hG16 : Row w16 w.heap.size 3 1 AG (zs).length cG ((runFrom ((1 : Nat) : Int) zs.length).map (.int .i64)) := EG15.out.below b16
    have hGV16 : Blk w16 gGV 27 #[.int .i64 (zs.length : Int), .int .i64 tk, .slice AG zs.length cG, .bool tb] := Blk.below EGV15.out b16 (Blk.lt EGV15.out)
    have hb16 : Below w.heap.size w w16 := EB15.out.trans (b16.mono EB15.out.size)
    have EP16 := Lib.hid hP16; clear hP16
    have EW16 := Lib.hid hW16; clear hW16
    have EWV16 := Lib.hid hWV16; clear hWV16
    have EG16 := Lib.hid hG16; clear hG16
    have EGV16 := Lib.hid hGV16; clear hGV16
    have EB16 := Lib.hid hb16; clear hb16
    clear EP15 EW15 EWV15 EG15 EGV15 EB15 b16
    obtain ⟨pq0, pq1, pq2, pq3, pqz⟩ := blk4 EP16.out
    have pql := Blk.lt EP16.out
    have pqm : ¬ gP = w16.heap.size := by omega
    have pqn : ¬ w16.heap.size = gP := by omega
    obtain ⟨wvq0, wvq1, wvq2, wvq3, wvqz⟩ := blk4 EWV16.out
    have wvql := Blk.lt EWV16.out
    have wvqm : ¬ gWV = w16.heap.size := by omega
    have wvqn : ¬ w16.heap.size = gWV := by omega
    obtain ⟨gvq0, gvq1, gvq2, gvq3, gvqz⟩ := blk4 EGV16.out
    have gvql := Blk.lt EGV16.out
    have gvqm : ¬ gGV = w16.heap.size := by omega
    have gvqn : ¬ w16.heap.size = gGV := by omega
    go_wp2_with fail
    refine (toNest_c d k ms b A n c _ HN.out (Rd.below (w' := w16) H0.out EB16.out) (by omega)).mono ?_
    rintro e w17 ⟨AZ, cZ, rfl, q17, b17⟩
    have r17 : Row w17 w16.heap.size 3 1 AZ (ms).length cZ ((ms).map (.int .i64)) := q17
    have apWZ := Lib.hid (row_apart EW16.out r17 (Nat.le_refl _))
    have apGZ := Lib.hid (row_apart EG16.out r17 (Nat.le_refl _))
    have R17 := Lib.hid (r17.mono EB16.out.size); clear r17 q17
    clear pq0 pq1 pq2 pq3 pqz pql pqm pqn wvq0 wvq1 wvq2 wvq3 wvqz wvql wvqm wvqn gvq0 gvq1 gvq2 gvq3 gvqz gvql gvqm gvqn
    have hP17 : Blk w17 gP 24 #[.int .i64 d, .int .i64 k, .slice A n c, .bool b] := Blk.below EP16.out b17 (Blk.lt EP16.out)
    have hW17 : Row w17 w.heap.size 3 1 AW (zs).length cW ((zs).map (.int .i64)) := EW16.out.below b17
    have hWV17 : Blk w17 gWV 27 #[.int .i64 (zs.length : Int), .int .i64 tk, .slice AW zs.length cW, .bool tb] := Blk.below EWV16.out b17 (Blk.lt EWV16.out)
    have hG17 : Row w17 w.heap.size 3 1 AG (zs).length cG ((runFrom ((1 : Nat) : Int) zs.length).map (.int .i64)) := EG16.out.below b17
    have hGV17 : Blk w17 gGV 27 #[.int .i64 (zs.length : Int), .int .i64 tk, .slice AG zs.length cG, .bool tb] := Blk.below EGV16.out b17 (Blk.lt EGV16.out)
    have hb17 : Below w.heap.size w w17 := EB16.out.trans (b17.mono EB16.out.size)
    have EP17 := Lib.hid hP17; clear hP17
    have EW17 := Lib.hid hW17; clear hW17
    have EWV17 := Lib.hid hWV17; clear hWV17
    have EG17 := Lib.hid hG17; clear hG17
    have EGV17 := Lib.hid hGV17; clear hGV17
    have EB17 := Lib.hid hb17; clear hb17
    clear EP16 EW16 EWV16 EG16 EGV16 EB16 b17
    obtain ⟨pq0, pq1, pq2, pq3, pqz⟩ := blk4 EP17.out
    have pql := Blk.lt EP17.out
    have pqm : ¬ gP = w17.heap.size := by omega
    have pqn : ¬ w17.heap.size = gP := by omega
    obtain ⟨wvq0, wvq1, wvq2, wvq3, wvqz⟩ := blk4 EWV17.out
    have wvql := Blk.lt EWV17.out
    have wvqm : ¬ gWV = w17.heap.size := by omega
    have wvqn : ¬ w17.heap.size = gWV := by omega
    obtain ⟨gvq0, gvq1, gvq2, gvq3, gvqz⟩ := blk4 EGV17.out
    have gvql := Blk.lt EGV17.out
    have gvqm : ¬ gGV = w17.heap.size := by omega
    have gvqn : ¬ w17.heap.size = gGV := by omega
    go_wp2_with fail
    refine (stepNest_c d k ms b x _ _ _ _ rfl R17.out.le R17.out.rd (by have := HN.out; omega)).mono ?_
    rw [HT.out, HO.out]
    rintro e w18 ⟨AK, cK, rfl, q18, b18⟩
    have r18 : Row w18 w17.heap.size 3 1 AK (zs).length cK ((zs).map (.int .i64)) := q18
    have apWK := Lib.hid (row_apart EW17.out r18 (Nat.le_refl _))
    have apGK := Lib.hid (row_apart EG17.out r18 (Nat.le_refl _))
    have apZK := Lib.hid (row_apart R17.out r18 (Nat.le_refl _))
    have R18 := Lib.hid (r18.mono EB17.out.size); clear r18 q18
    clear pq0 pq1 pq2 pq3 pqz pql pqm pqn wvq0 wvq1 wvq2 wvq3 wvqz wvql wvqm wvqn gvq0 gvq1 gvq2 gvq3 gvqz gvql gvqm gvqn
    have hP18 : Blk w18 gP 24 #[.int .i64 d, .int .i64 k, .slice A n c, .bool b] := Blk.below EP17.out b18 (Blk.lt EP17.out)
    have hW18 : Row w18 w.heap.size 3 1 AW (zs).length cW ((zs).map (.int .i64)) := EW17.out.below b18
    have hWV18 : Blk w18 gWV 27 #[.int .i64 (zs.length : Int), .int .i64 tk, .slice AW zs.length cW, .bool tb] := Blk.below EWV17.out b18 (Blk.lt EWV17.out)
    have hG18 : Row w18 w.heap.size 3 1 AG (zs).length cG ((runFrom ((1 : Nat) : Int) zs.length).map (.int .i64)) := EG17.out.below b18
    have hGV18 : Blk w18 gGV 27 #[.int .i64 (zs.length : Int), .int .i64 tk, .slice AG zs.length cG, .bool tb] := Blk.below EGV17.out b18 (Blk.lt EGV17.out)
    have hZ18 : Row w18 w.heap.size 3 1 AZ (ms).length cZ ((ms).map (.int .i64)) := R17.out.below b18
    have hb18 : Below w.heap.size w w18 := EB17.out.trans (b18.mono EB17.out.size)
    have EP18 := Lib.hid hP18; clear hP18
    have EW18 := Lib.hid hW18; clear hW18
    have EWV18 := Lib.hid hWV18; clear hWV18
    have EG18 := Lib.hid hG18; clear hG18
    have EGV18 := Lib.hid hGV18; clear hGV18
    have EZ18 := Lib.hid hZ18; clear hZ18
    have EB18 := Lib.hid hb18; clear hb18
    clear EP17 EW17 EWV17 EG17 EGV17 R17 EB17 b18
    obtain ⟨pq0, pq1, pq2, pq3, pqz⟩ := blk4 EP18.out
    have pql := Blk.lt EP18.out
    have pqm : ¬ gP = w18.heap.size := by omega
    have pqn : ¬ w18.heap.size = gP := by omega
    obtain ⟨wvq0, wvq1, wvq2, wvq3, wvqz⟩ := blk4 EWV18.out
    have wvql := Blk.lt EWV18.out
    have wvqm : ¬ gWV = w18.heap.size := by omega
    have wvqn : ¬ w18.heap.size = gWV := by omega
    obtain ⟨gvq0, gvq1, gvq2, gvq3, gvqz⟩ := blk4 EGV18.out
    have gvql := Blk.lt EGV18.out
    have gvqm : ¬ gGV = w18.heap.size := by omega
    have gvqn : ¬ w18.heap.size = gGV := by omega
    clear EZ18
    go_wp2_with fail
    obtain ⟨w19, hw19⟩ : ∃ W, W = w18.alloc (.cells #[.int .i64 (zs.length : Int), .int .i64 tk, .slice AK zs.length cK, .bool tb] 27) := ⟨_, rfl⟩
    obtain ⟨gKV, hgKV⟩ : ∃ g, g = w18.heap.size := ⟨_, rfl⟩
    rw [← hw19, ← hgKV]
    have hv19 : Blk w19 gKV 27 #[.int .i64 (zs.length : Int), .int .i64 tk, .slice AK zs.length cK, .bool tb] := by rw [hw19, hgKV]; exact Blk.new _ _ _
    have V19 := Lib.hid hv19; clear hv19
    have hgeKV : w.heap.size ≤ gKV := by rw [hgKV]; exact EB18.out.size
    have hltPKV : gP < gKV := by rw [hgKV]; exact Blk.lt EP18.out
    have hltWVKV : gWV < gKV := by rw [hgKV]; exact Blk.lt EWV18.out
    have hltGVKV : gGV < gKV := by rw [hgKV]; exact Blk.lt EGV18.out
    clear pq0 pq1 pq2 pq3 pqz pql pqm pqn wvq0 wvq1 wvq2 wvq3 wvqz wvql wvqm wvqn gvq0 gvq1 gvq2 gvq3 gvqz gvql gvqm gvqn
    have hP19 : Blk w19 gP 24 #[.int .i64 d, .int .i64 k, .slice A n c, .bool b] := by rw [hw19]; exact EP18.out.alloc _
    have hW19 : Row w19 w.heap.size 3 1 AW (zs).length cW ((zs).map (.int .i64)) := by rw [hw19]; exact EW18.out.alloc _
    have hWV19 : Blk w19 gWV 27 #[.int .i64 (zs.length : Int), .int .i64 tk, .slice AW zs.length cW, .bool tb] := by rw [hw19]; exact EWV18.out.alloc _
    have hG19 : Row w19 w.heap.size 3 1 AG (zs).length cG ((runFrom ((1 : Nat) : Int) zs.length).map (.int .i64)) := by rw [hw19]; exact EG18.out.alloc _
    have hGV19 : Blk w19 gGV 27 #[.int .i64 (zs.length : Int), .int .i64 tk, .slice AG zs.length cG, .bool tb] := by rw [hw19]; exact EGV18.out.alloc _
    have hK19 : Row w19 w.heap.size 3 1 AK (zs).length cK ((zs).map (.int .i64)) := by rw [hw19]; exact R18.out.alloc _
    have hb19 : Below w.heap.size w w19 := by rw [hw19]; exact EB18.out.alloc EB18.out.size _
    have EP19 := Lib.hid hP19; clear hP19
    have EW19 := Lib.hid hW19; clear hW19
    have EWV19 := Lib.hid hWV19; clear hWV19
    have EG19 := Lib.hid hG19; clear hG19
    have EGV19 := Lib.hid hGV19; clear hGV19
    have EK19 := Lib.hid hK19; clear hK19
    have EB19 := Lib.hid hb19; clear hb19
    clear EP18 EW18 EWV18 EG18 EGV18 R18 EB18 hw19 hgKV
    obtain ⟨pq0, pq1, pq2, pq3, pqz⟩ := blk4 EP19.out
    have pql := Blk.lt EP19.out
    have pqm : ¬ gP = w19.heap.size := by omega
    have pqn : ¬ w19.heap.size = gP := by omega
    obtain ⟨wvq0, wvq1, wvq2, wvq3, wvqz⟩ := blk4 EWV19.out
    have wvql := Blk.lt EWV19.out
    have wvqm : ¬ gWV = w19.heap.size := by omega
    have wvqn : ¬ w19.heap.size = gWV := by omega
    obtain ⟨gvq0, gvq1, gvq2, gvq3, gvqz⟩ := blk4 EGV19.out
    have gvql := Blk.lt EGV19.out
    have gvqm : ¬ gGV = w19.heap.size := by omega
    have gvqn : ¬ w19.heap.size = gGV := by omega
    obtain ⟨kvq0, kvq1, kvq2, kvq3, kvqz⟩ := blk4 V19.out
    have kvql := Blk.lt V19.out
    have kvqm : ¬ gKV = w19.heap.size := by omega
    have kvqn : ¬ w19.heap.size = gKV := by omega
    go_wp2_with fail
    refine (eqNest_c _ _ zs _ _ _ _ _ _ _ rfl EK19.out.rd EW19.out.rd (by omega)).mono ?_
    rintro e w20 ⟨rfl, b20⟩
    clear pq0 pq1 pq2 pq3 pqz pql pqm pqn wvq0 wvq1 wvq2 wvq3 wvqz wvql wvqm wvqn gvq0 gvq1 gvq2 gvq3 gvqz gvql gvqm gvqn kvq0 kvq1 kvq2 kvq3 kvqz kvql kvqm kvqn
    have hP20 : Blk w20 gP 24 #[.int .i64 d, .int .i64 k, .slice A n c, .bool b] := Blk.below EP19.out b20 (Blk.lt EP19.out)
    have hW20 : Row w20 w.heap.size 3 1 AW (zs).length cW ((zs).map (.int .i64)) := EW19.out.below b20
    have hWV20 : Blk w20 gWV 27 #[.int .i64 (zs.length : Int), .int .i64 tk, .slice AW zs.length cW, .bool tb] := Blk.below EWV19.out b20 (Blk.lt EWV19.out)
    have hG20 : Row w20 w.heap.size 3 1 AG (zs).length cG ((runFrom ((1 : Nat) : Int) zs.length).map (.int .i64)) := EG19.out.below b20
    have hGV20 : Blk w20 gGV 27 #[.int .i64 (zs.length : Int), .int .i64 tk, .slice AG zs.length cG, .bool tb] := Blk.below EGV19.out b20 (Blk.lt EGV19.out)
    have hK20 : Row w20 w.heap.size 3 1 AK (zs).length cK ((zs).map (.int .i64)) := EK19.out.below b20
    have hKV20 : Blk w20 gKV 27 #[.int .i64 (zs.length : Int), .int .i64 tk, .slice AK zs.length cK, .bool tb] := Blk.below V19.out b20 (Blk.lt V19.out)
    have hb20 : Below w.heap.size w w20 := EB19.out.trans (b20.mono EB19.out.size)
    have EP20 := Lib.hid hP20; clear hP20
    have EW20 := Lib.hid hW20; clear hW20
    have EWV20 := Lib.hid hWV20; clear hWV20
    have EG20 := Lib.hid hG20; clear hG20
    have EGV20 := Lib.hid hGV20; clear hGV20
    have EK20 := Lib.hid hK20; clear hK20
    have EKV20 := Lib.hid hKV20; clear hKV20
    have EB20 := Lib.hid hb20; clear hb20
    clear EP19 EW19 EWV19 EG19 EGV19 EK19 V19 EB19 b20
    obtain ⟨pq0, pq1, pq2, pq3, pqz⟩ := blk4 EP20.out
    have pql := Blk.lt EP20.out
    have pqm : ¬ gP = w20.heap.size := by omega
    have pqn : ¬ w20.heap.size = gP := by omega
    obtain ⟨wvq0, wvq1, wvq2, wvq3, wvqz⟩ := blk4 EWV20.out
    have wvql := Blk.lt EWV20.out
    have wvqm : ¬ gWV = w20.heap.size := by omega
    have wvqn : ¬ w20.heap.size = gWV := by omega
    obtain ⟨gvq0, gvq1, gvq2, gvq3, gvqz⟩ := blk4 EGV20.out
    have gvql := Blk.lt EGV20.out
    have gvqm : ¬ gGV = w20.heap.size := by omega
    have gvqn : ¬ w20.heap.size = gGV := by omega
    obtain ⟨kvq0, kvq1, kvq2, kvq3, kvqz⟩ := blk4 EKV20.out
    have kvql := Blk.lt EKV20.out
    have kvqm : ¬ gKV = w20.heap.size := by omega
    have kvqn : ¬ w20.heap.size = gKV := by omega
    go_wp2_with fail
    refine (heldN_c 1 _ _ _ _ _ _ _ EG20.out.rd (by omega) (by omega)).mono ?_
    rintro e w21 ⟨rfl, b21⟩
    clear pq0 pq1 pq2 pq3 pqz pql pqm pqn wvq0 wvq1 wvq2 wvq3 wvqz wvql wvqm wvqn gvq0 gvq1 gvq2 gvq3 gvqz gvql gvqm gvqn kvq0 kvq1 kvq2 kvq3 kvqz kvql kvqm kvqn
    have hP21 : Blk w21 gP 24 #[.int .i64 d, .int .i64 k, .slice A n c, .bool b] := Blk.below EP20.out b21 (Blk.lt EP20.out)
    have hW21 : Row w21 w.heap.size 3 1 AW (zs).length cW ((zs).map (.int .i64)) := EW20.out.below b21
    have hWV21 : Blk w21 gWV 27 #[.int .i64 (zs.length : Int), .int .i64 tk, .slice AW zs.length cW, .bool tb] := Blk.below EWV20.out b21 (Blk.lt EWV20.out)
    have hG21 : Row w21 w.heap.size 3 1 AG (zs).length cG ((runFrom ((1 : Nat) : Int) zs.length).map (.int .i64)) := EG20.out.below b21
    have hGV21 : Blk w21 gGV 27 #[.int .i64 (zs.length : Int), .int .i64 tk, .slice AG zs.length cG, .bool tb] := Blk.below EGV20.out b21 (Blk.lt EGV20.out)
    have hK21 : Row w21 w.heap.size 3 1 AK (zs).length cK ((zs).map (.int .i64)) := EK20.out.below b21
    have hKV21 : Blk w21 gKV 27 #[.int .i64 (zs.length : Int), .int .i64 tk, .slice AK zs.length cK, .bool tb] := Blk.below EKV20.out b21 (Blk.lt EKV20.out)
    have hb21 : Below w.heap.size w w21 := EB20.out.trans (b21.mono EB20.out.size)
    have EP21 := Lib.hid hP21; clear hP21
    have EW21 := Lib.hid hW21; clear hW21
    have EWV21 := Lib.hid hWV21; clear hWV21
    have EG21 := Lib.hid hG21; clear hG21
    have EGV21 := Lib.hid hGV21; clear hGV21
    have EK21 := Lib.hid hK21; clear hK21
    have EKV21 := Lib.hid hKV21; clear hKV21
    have EB21 := Lib.hid hb21; clear hb21
    clear EP20 EW20 EWV20 EG20 EGV20 EK20 EKV20 EB20 b21
    obtain ⟨pq0, pq1, pq2, pq3, pqz⟩ := blk4 EP21.out
    have pql := Blk.lt EP21.out
    have pqm : ¬ gP = w21.heap.size := by omega
    have pqn : ¬ w21.heap.size = gP := by omega
    obtain ⟨wvq0, wvq1, wvq2, wvq3, wvqz⟩ := blk4 EWV21.out
    have wvql := Blk.lt EWV21.out
    have wvqm : ¬ gWV = w21.heap.size := by omega
    have wvqn : ¬ w21.heap.size = gWV := by omega
    obtain ⟨gvq0, gvq1, gvq2, gvq3, gvqz⟩ := blk4 EGV21.out
    have gvql := Blk.lt EGV21.out
    have gvqm : ¬ gGV = w21.heap.size := by omega
    have gvqn : ¬ w21.heap.size = gGV := by omega
    obtain ⟨kvq0, kvq1, kvq2, kvq3, kvqz⟩ := blk4 EKV21.out
    have kvql := Blk.lt EKV21.out
    have kvqm : ¬ gKV = w21.heap.size := by omega
    have kvqn : ¬ w21.heap.size = gKV := by omega
    go_wp2_with fail
    go_ret
    exact ⟨rfl, EB21.out⟩

namespace fnExactStepNest
open Go.ChangeShapes Go.WideShapes Go.ChangeAt
open Go.ChangeMaps (open_string shut_string)
theorem own : ownKnob Try.prog.godebug = none := by kernel_rfl
theorem laidOut : laidOutB Try.prog = true := by kernel_rfl
set_option maxRecDepth 100000 in
theorem lifted (os : Os) (started : os.Started) (H : Type) (enc : TypeId × Value → H) :
    ReturnsInHanded {} Try.checked os 8 .any (Rows.fnExactStepNestSpec.pre6 enc Try.prog Try.f8 Rows.fnExactStepNestRow.domain false) (Rows.fnExactStepNestSpec.post enc Try.prog Try.f8 false true false false) := by
  refine returnsInHanded_of_change (C := Try.checked) own started (by kernel_rfl) Try.func8
    (ChangeSpec.witness6 (enc := enc) (C := Try.checked) false ⟨#[], #[.agg #[.int .i64 0, .int .i64 0, .slice none 0 0, .bool false], .int .i64 0], []⟩ 8 (by kernel_rfl) (by kernel_rfl) (by kernel_rfl) (by kernel_rfl)) ?_
  intro W base args ds gs before hval0 hW hcnd _
  have hval : ∀ (j : Nat) t v, Try.f8.params[j]? = some t → args[j]? = some v → Value.okWide Try.prog W .any base t v := hval0
  have hW' := hW
  obtain ⟨p, q, hA0, hV, rfl, hfz, hnd⟩ := hW
  have hA : DataW.TrodAll enc Try.prog W 0 (fun _ => true) true Try.f8.params.toList args.toList ds p := hA0
  rw [Try.params8] at hA hval
  obtain ⟨v0, vs0, d0, ds0, p0, q0, hargs, rfl, rfl, h0, r0⟩ := trodAll_cons hA
  obtain ⟨v1, vs1, d1, ds1, p1, q1, rfl, rfl, rfl, h1, r1⟩ := trodAll_cons r0
  obtain ⟨rfl, rfl, rfl⟩ := trodAll_nil r1
  obtain rfl : args = #[v0, v1] := by cases args; simp_all
  obtain ⟨rfl, rfl⟩ := trodVars_none hV
  have k0 := h0
  have lt0 : ∀ x ∈ p0, x.block < W.heap.size := by obtain ⟨m, hm⟩ := k0; exact DataW.trod_lt m _ _ _ hm
  obtain ⟨xa0, xb0, a0, n0, c0, xc0, z0, rfl, wa0, wb0, e0, lc0, cm0, rd0, wf0⟩ := open_iisb Try.underlying24 (by kernel_rfl) (by kernel_rfl) (by kernel_rfl) (by kernel_rfl) Try.underlying22 Try.underlying3 (by kernel_rfl) (by kernel_rfl) (hval 0 24 v0 rfl rfl) h0
  obtain ⟨x1, rfl, rfl, rfl, w1⟩ := open_int Try.underlying3 (hval 1 3 v1 rfl rfl) h1
  clear hA0 hval0
  refine (walk_FnExactStepNest (w := W) xa0 xb0 z0 xc0 a0 n0 c0 (wf_i64 wa0) (wf_i64 wb0) e0 lc0 cm0 rd0 (fun x hx => wf_i64 (wf0 x hx)) x1 (wf_i64 w1)).mono fun e W' ⟨he, bel⟩ => ?_
  subst he
  exact ⟨_, rfl, _, _, _, [], _, [], hW', trodAll_mk1 (shut_bool Try.underlying4 _), (trodAll_cons_mk (Below.trod laidOut (by kernel_rfl) (of_decide_eq_true (by kernel_rfl)) k0 bel lt0) (trodAll_cons_mk (shut_int Try.underlying3 w1) trodAll_mk0)), rfl, bel.frame _, fun h => by cases h⟩
theorem closed : joinedFacts Try.prog 8 Try.f8 Rows.fnExactStepNestSpec Rows.fnExactStepNestRow = true :=
  facts_of mayEnter_ok liftsFinal_ok make_ok (by kernel_rfl)
theorem over : Rows.fnExactStepNestRow.holds Try.pinned (OpenSpec.ofChange Rows.fnExactStepNestSpec) :=
  OpenClaim.holds_of_wide 8 Try.f8 rfl rfl rfl rfl rfl rfl rfl ⟨rfl, rfl, rfl, rfl, rfl⟩ rfl rfl rfl rfl rfl (by kernel_rfl) Try.func8 closed
    (of_decide_eq_true (by kernel_rfl)) (by unfold Func.isWrapper; first | (rw [if_pos (by decide +kernel)]; kernel_rfl) | (rw [if_neg (by decide +kernel)]; exact ⟨rfl, rfl⟩))
    (fun os started H enc _ => lifted os started H enc)
/-- THE STATEMENT -/
theorem proved : Rows.FnExactStepNestSaid := over
end fnExactStepNest
end Go.Proofs.Ytoljmhggkighnaa
