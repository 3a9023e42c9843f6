/- FnExactCleanUp: for every state the law returns true, and what was there is as it was. No condition. -/
import Derived.Test.YtoljmhggkighnaaRows
import Derived.Test.YtoljmhggkighnaaNestLaw
import Derived.Test.YtoljmhggkighnaaNestDraw
import Derived.Test.YtoljmhggkighnaaOpenC
set_option linter.unusedVariables false
set_option linter.unusedSimpArgs false
set_option linter.unnecessarySimpa false
namespace Go.Proofs.Ytoljmhggkighnaa
open Go.RowKit

set_option maxRecDepth 100000 in
set_option maxHeartbeats 16000000 in
theorem walk_FnExactCleanUp (d k : Int) (ms : List Int) (b : Bool) (A : Option Addr) (n c : Nat) (_ : -9223372036854775808 ≤ d ∧ d ≤ 9223372036854775807) (_ : -9223372036854775808 ≤ k ∧ k ≤ 9223372036854775807) (hN : ms.length = n) (hc : n ≤ c) (hm : c ≤ maxLen) {w : World} (h : Rd w A (ms.map (.int .i64))) (_ : ∀ x ∈ ms, -9223372036854775808 ≤ x ∧ x ≤ 9223372036854775807) :
    Calls Try.prog 5 #[.agg #[.int .i64 d, .int .i64 k, .slice A n c, .bool b]] w fun e w' => e = .returned (.bool true) ∧ Below w.heap.size w w' := by
  have HN := Lib.hid hN; clear hN
  unfold maxLen at hm
  by_cases hbig : 1048576 < n
  · go_enter Try.func5, Try.ntmps5
    go_wp2_with fail
    refine (szNest_c d k b A n c _ (by omega)).mono ?_
    rw [if_pos hbig]
    rintro e w1 ⟨rfl, b1⟩
    go_wp2_with fail
    go_ret
    exact ⟨rfl, ((Below.refl _ _).alloc (Nat.le_refl _) _).trans (b1.mono (by simp))⟩
  · obtain ⟨left, hleft⟩ : ∃ l, l = 1048576 - (n : Int) := ⟨_, rfl⟩
    have hsz : (if 1048576 < n then -1 else 1048576 - (n : Int)) = left := by rw [if_neg hbig, hleft]
    have hl0 : 0 ≤ left := by omega
    have HSZ := Lib.hid hsz
    clear hsz hleft
    obtain ⟨zs, hzs⟩ : ∃ zs, zs = cleanV d k ms b := ⟨_, rfl⟩
    have hzl : zs.length ≤ 1048576 := by
      rw [hzs]; unfold cleanV; split
      · rw [List.length_replicate]; have := HN.out; omega
      · simp
    have HZ := Lib.hid hzs; clear hzs
    have H0 := Lib.hid h; clear h
    go_enter Try.func5, Try.ntmps5
    go_wp2_with fail
    obtain ⟨w1, hw1⟩ : ∃ W, W = w.alloc (.cells #[.int .i64 d, .int .i64 k, .slice A n c, .bool b] 24) := ⟨_, rfl⟩
    obtain ⟨gP, hgP⟩ : ∃ g, g = w.heap.size := ⟨_, rfl⟩
    rw [← hw1, ← hgP]
    have hv1 : Blk w1 gP 24 #[.int .i64 d, .int .i64 k, .slice A n c, .bool b] := by rw [hw1, hgP]; exact Blk.new _ _ _
    have V1 := Lib.hid hv1; clear hv1
    have hgeP : w.heap.size ≤ gP := by rw [hgP]; exact (Below.refl w.heap.size w).size
    have hb1 : Below w.heap.size w w1 := by rw [hw1]; exact (Below.refl w.heap.size w).alloc (Below.refl w.heap.size w).size _
    have EB1 := Lib.hid hb1; clear hb1
    clear  hw1 hgP
    obtain ⟨pq0, pq1, pq2, pq3, pqz⟩ := blk4 V1.out
    have pql := Blk.lt V1.out
    have pqm : ¬ gP = w1.heap.size := by omega
    have pqn : ¬ w1.heap.size = gP := by omega
    go_wp2_with fail
    refine (szNest_c d k b A n c _ (by omega)).mono ?_
    rw [HSZ.out]
    rintro e w2 ⟨rfl, b2⟩
    clear pq0 pq1 pq2 pq3 pqz pql pqm pqn
    have hP2 : Blk w2 gP 24 #[.int .i64 d, .int .i64 k, .slice A n c, .bool b] := Blk.below V1.out b2 (Blk.lt V1.out)
    have hb2 : Below w.heap.size w w2 := EB1.out.trans (b2.mono EB1.out.size)
    have EP2 := Lib.hid hP2; clear hP2
    have EB2 := Lib.hid hb2; clear hb2
    clear V1 EB1 b2
    obtain ⟨pq0, pq1, pq2, pq3, pqz⟩ := blk4 EP2.out
    have pql := Blk.lt EP2.out
    have pqm : ¬ gP = w2.heap.size := by omega
    have pqn : ¬ w2.heap.size = gP := by omega
    go_wp2_with fail
    refine (toNest_c d k ms b A n c _ HN.out (Rd.below (w' := w2) H0.out EB2.out) (by omega)).mono ?_
    rintro e w3 ⟨AS, cS, rfl, q3, b3⟩
    have r3 : Row w3 w2.heap.size 3 1 AS (ms).length cS ((ms).map (.int .i64)) := q3
    have R3 := Lib.hid (r3.mono EB2.out.size); clear r3 q3
    clear pq0 pq1 pq2 pq3 pqz pql pqm pqn
    have hP3 : Blk w3 gP 24 #[.int .i64 d, .int .i64 k, .slice A n c, .bool b] := Blk.below EP2.out b3 (Blk.lt EP2.out)
    have hb3 : Below w.heap.size w w3 := EB2.out.trans (b3.mono EB2.out.size)
    have EP3 := Lib.hid hP3; clear hP3
    have EB3 := Lib.hid hb3; clear hb3
    clear EP2 EB2 b3
    obtain ⟨pq0, pq1, pq2, pq3, pqz⟩ := blk4 EP3.out
    have pql := Blk.lt EP3.out
    have pqm : ¬ gP = w3.heap.size := by omega
    have pqn : ¬ w3.heap.size = gP := by omega
    go_wp2_with fail
    refine (sCleanUp_c d k ms b _ _ _ _ rfl R3.out.rd (by have := HN.out; omega)).mono ?_
    rw [← HZ.out]
    rintro e w4 ⟨AW, cW, rfl, q4, b4⟩
    have r4 : Row w4 w3.heap.size 3 1 AW (zs).length cW ((zs).map (.int .i64)) := Row.of_own q4
    have apSW := Lib.hid (row_apart R3.out r4 (Nat.le_refl _))
    have R4 := Lib.hid (r4.mono EB3.out.size); clear r4 q4
    clear pq0 pq1 pq2 pq3 pqz pql pqm pqn
    have hP4 : Blk w4 gP 24 #[.int .i64 d, .int .i64 k, .slice A n c, .bool b] := Blk.below EP3.out b4 (Blk.lt EP3.out)
    have hS4 : Row w4 w.heap.size 3 1 AS (ms).length cS ((ms).map (.int .i64)) := R3.out.below b4
    have hb4 : Below w.heap.size w w4 := EB3.out.trans (b4.mono EB3.out.size)
    have EP4 := Lib.hid hP4; clear hP4
    have ES4 := Lib.hid hS4; clear hS4
    have EB4 := Lib.hid hb4; clear hb4
    clear EP3 R3 EB3 b4
    obtain ⟨pq0, pq1, pq2, pq3, pqz⟩ := blk4 EP4.out
    have pql := Blk.lt EP4.out
    have pqm : ¬ gP = w4.heap.size := by omega
    have pqn : ¬ w4.heap.size = gP := by omega
    clear ES4
    go_wp2_with fail
    refine (toNest_c d k ms b A n c _ HN.out (Rd.below (w' := w4) H0.out EB4.out) (by omega)).mono ?_
    rintro e w5 ⟨AX, cX, rfl, q5, b5⟩
    have r5 : Row w5 w4.heap.size 3 1 AX (ms).length cX ((ms).map (.int .i64)) := q5
    have apWX := Lib.hid (row_apart R4.out r5 (Nat.le_refl _))
    have R5 := Lib.hid (r5.mono EB4.out.size); clear r5 q5
    clear pq0 pq1 pq2 pq3 pqz pql pqm pqn
    have hP5 : Blk w5 gP 24 #[.int .i64 d, .int .i64 k, .slice A n c, .bool b] := Blk.below EP4.out b5 (Blk.lt EP4.out)
    have hW5 : Row w5 w.heap.size 3 1 AW (zs).length cW ((zs).map (.int .i64)) := R4.out.below b5
    have hb5 : Below w.heap.size w w5 := EB4.out.trans (b5.mono EB4.out.size)
    have EP5 := Lib.hid hP5; clear hP5
    have EW5 := Lib.hid hW5; clear hW5
    have EB5 := Lib.hid hb5; clear hb5
    clear EP4 R4 EB4 b5
    obtain ⟨pq0, pq1, pq2, pq3, pqz⟩ := blk4 EP5.out
    have pql := Blk.lt EP5.out
    have pqm : ¬ gP = w5.heap.size := by omega
    have pqn : ¬ w5.heap.size = gP := by omega
    go_wp2_with fail
    obtain ⟨w6, hw6⟩ : ∃ W, W = w5.alloc (.cells #[.int .i64 d, .int .i64 k, .slice AX ms.length cX, .bool b] 27) := ⟨_, rfl⟩
    obtain ⟨gXV, hgXV⟩ : ∃ g, g = w5.heap.size := ⟨_, rfl⟩
    rw [← hw6, ← hgXV]
    have hv6 : Blk w6 gXV 27 #[.int .i64 d, .int .i64 k, .slice AX ms.length cX, .bool b] := by rw [hw6, hgXV]; exact Blk.new _ _ _
    have V6 := Lib.hid hv6; clear hv6
    have hgeXV : w.heap.size ≤ gXV := by rw [hgXV]; exact EB5.out.size
    have hltPXV : gP < gXV := by rw [hgXV]; exact Blk.lt EP5.out
    clear pq0 pq1 pq2 pq3 pqz pql pqm pqn
    have hP6 : Blk w6 gP 24 #[.int .i64 d, .int .i64 k, .slice A n c, .bool b] := by rw [hw6]; exact EP5.out.alloc _
    have hW6 : Row w6 w.heap.size 3 1 AW (zs).length cW ((zs).map (.int .i64)) := by rw [hw6]; exact EW5.out.alloc _
    have hX6 : Row w6 w.heap.size 3 1 AX (ms).length cX ((ms).map (.int .i64)) := by rw [hw6]; exact R5.out.alloc _
    have hb6 : Below w.heap.size w w6 := by rw [hw6]; exact EB5.out.alloc EB5.out.size _
    have EP6 := Lib.hid hP6; clear hP6
    have EW6 := Lib.hid hW6; clear hW6
    have EX6 := Lib.hid hX6; clear hX6
    have EB6 := Lib.hid hb6; clear hb6
    clear EP5 EW5 R5 EB5 hw6 hgXV
    obtain ⟨pq0, pq1, pq2, pq3, pqz⟩ := blk4 EP6.out
    have pql := Blk.lt EP6.out
    have pqm : ¬ gP = w6.heap.size := by omega
    have pqn : ¬ w6.heap.size = gP := by omega
    obtain ⟨xvq0, xvq1, xvq2, xvq3, xvqz⟩ := blk4 V6.out
    have xvql := Blk.lt V6.out
    have xvqm : ¬ gXV = w6.heap.size := by omega
    have xvqn : ¬ w6.heap.size = gXV := by omega
    go_wp2_with fail
    refine (cleanUp_c d k ms b _ _ _ _ rfl EX6.out.rd (by have := HN.out; omega)).mono ?_
    rw [← HZ.out]
    rintro e w7 ⟨AG, cG, rfl, q7, b7⟩
    have r7 : Row w7 w6.heap.size 3 1 AG (zs).length cG ((zs).map (.int .i64)) := Row.of_own q7
    have apWG := Lib.hid (row_apart EW6.out r7 (Nat.le_refl _))
    have apXG := Lib.hid (row_apart EX6.out r7 (Nat.le_refl _))
    have R7 := Lib.hid (r7.mono EB6.out.size); clear r7 q7
    clear pq0 pq1 pq2 pq3 pqz pql pqm pqn xvq0 xvq1 xvq2 xvq3 xvqz xvql xvqm xvqn
    have hP7 : Blk w7 gP 24 #[.int .i64 d, .int .i64 k, .slice A n c, .bool b] := Blk.below EP6.out b7 (Blk.lt EP6.out)
    have hW7 : Row w7 w.heap.size 3 1 AW (zs).length cW ((zs).map (.int .i64)) := EW6.out.below b7
    have hX7 : Row w7 w.heap.size 3 1 AX (ms).length cX ((ms).map (.int .i64)) := EX6.out.below b7
    have hXV7 : Blk w7 gXV 27 #[.int .i64 d, .int .i64 k, .slice AX ms.length cX, .bool b] := Blk.below V6.out b7 (Blk.lt V6.out)
    have hb7 : Below w.heap.size w w7 := EB6.out.trans (b7.mono EB6.out.size)
    have EP7 := Lib.hid hP7; clear hP7
    have EW7 := Lib.hid hW7; clear hW7
    have EX7 := Lib.hid hX7; clear hX7
    have EXV7 := Lib.hid hXV7; clear hXV7
    have EB7 := Lib.hid hb7; clear hb7
    clear EP6 EW6 EX6 V6 EB6 b7
    obtain ⟨pq0, pq1, pq2, pq3, pqz⟩ := blk4 EP7.out
    have pql := Blk.lt EP7.out
    have pqm : ¬ gP = w7.heap.size := by omega
    have pqn : ¬ w7.heap.size = gP := by omega
    obtain ⟨xvq0, xvq1, xvq2, xvq3, xvqz⟩ := blk4 EXV7.out
    have xvql := Blk.lt EXV7.out
    have xvqm : ¬ gXV = w7.heap.size := by omega
    have xvqn : ¬ w7.heap.size = gXV := by omega
    go_wp2_with fail
    refine (eqInts_c zs zs _ _ _ _ _ _ _ rfl rfl R7.out.rd EW7.out.rd (by omega) (by omega)).mono ?_
    rw [decide_eq_true rfl]
    rintro e w8 ⟨rfl, m8, hw8⟩
    clear pq0 pq1 pq2 pq3 pqz pql pqm pqn xvq0 xvq1 xvq2 xvq3 xvqz xvql xvqm xvqn
    have hP8 : Blk w8 gP 24 #[.int .i64 d, .int .i64 k, .slice A n c, .bool b] := by rw [hw8]; exact EP7.out
    have hW8 : Row w8 w.heap.size 3 1 AW (zs).length cW ((zs).map (.int .i64)) := by rw [hw8]; exact EW7.out
    have hX8 : Row w8 w.heap.size 3 1 AX (ms).length cX ((ms).map (.int .i64)) := by rw [hw8]; exact EX7.out
    have hXV8 : Blk w8 gXV 27 #[.int .i64 d, .int .i64 k, .slice AX ms.length cX, .bool b] := by rw [hw8]; exact EXV7.out
    have hG8 : Row w8 w.heap.size 3 1 AG (zs).length cG ((zs).map (.int .i64)) := by rw [hw8]; exact R7.out
    have hb8 : Below w.heap.size w w8 := by rw [hw8]; exact below_drewN EB7.out _
    have EP8 := Lib.hid hP8; clear hP8
    have EW8 := Lib.hid hW8; clear hW8
    have EX8 := Lib.hid hX8; clear hX8
    have EXV8 := Lib.hid hXV8; clear hXV8
    have EG8 := Lib.hid hG8; clear hG8
    have EB8 := Lib.hid hb8; clear hb8
    clear EP7 EW7 EX7 EXV7 R7 EB7 hw8
    obtain ⟨pq0, pq1, pq2, pq3, pqz⟩ := blk4 EP8.out
    have pql := Blk.lt EP8.out
    have pqm : ¬ gP = w8.heap.size := by omega
    have pqn : ¬ w8.heap.size = gP := by omega
    obtain ⟨xvq0, xvq1, xvq2, xvq3, xvqz⟩ := blk4 EXV8.out
    have xvql := Blk.lt EXV8.out
    have xvqm : ¬ gXV = w8.heap.size := by omega
    have xvqn : ¬ w8.heap.size = gXV := by omega
    go_wp2_with fail
    go_region_held3 (fun w' => w'.cell? ⟨gXV, 0, none⟩ = some (.int .i64 d) ∧ w'.cell? ⟨gXV, 1, none⟩ = some (.int .i64 k) ∧ w'.cell? ⟨gXV, 2, none⟩ = some (.slice AX ms.length cX) ∧ w'.cell? ⟨gXV, 3, none⟩ = some (.bool b) ∧ w'.cell? ⟨gP, 0, none⟩ = some (.int .i64 d) ∧ w'.cell? ⟨gP, 1, none⟩ = some (.int .i64 k) ∧ w'.cell? ⟨gP, 2, none⟩ = some (.slice A n c) ∧ w'.cell? ⟨gP, 3, none⟩ = some (.bool b)) (go_keep) ((first
      | (go_at_call 14; refine (toNest_c d k ms b A n c _ HN.out ?_ ?_).mono ?_; exact (Rd.below (w' := w8) H0.out EB8.out); omega; rintro e w9 ⟨AY, cY, rfl, rY, bY⟩; have yxa := Blk.below (w := w8.drew) EXV8.out bY (Blk.lt EXV8.out); have ypa := Blk.below (w := w8.drew) EP8.out bY (Blk.lt EP8.out); obtain ⟨kx0, kx1, kx2, kx3, kxz⟩ := blk4 yxa; obtain ⟨kp0, kp1, kp2, kp3, kpz⟩ := blk4 ypa)
      | (go_at_call 16; refine (eqNest_c d k ms b _ _ _ _ _ _ rfl ?_ ?_ ?_).mono ?_; exact (Row.below (w := w8.drew) EX8.out bY).rd; exact rY.rd; (have := HN.out; omega); rintro e w10 ⟨rfl, bE⟩; clear kx0 kx1 kx2 kx3 kxz kp0 kp1 kp2 kp3 kpz; have yxb := Blk.below (w := w9) yxa bE (Blk.lt yxa); have ypb := Blk.below (w := w9) ypa bE (Blk.lt ypa); obtain ⟨kx0, kx1, kx2, kx3, kxz⟩ := blk4 yxb; obtain ⟨kp0, kp1, kp2, kp3, kpz⟩ := blk4 ypb)))
    have b10 : Below w8.heap.size w8 w10 := ((Below.refl w8.heap.size w8).drew.trans bY).trans (bE.mono bY.size)
    clear yxa ypa yxb ypb kx0 kx1 kx2 kx3 kxz kp0 kp1 kp2 kp3 kpz rY
    clear pq0 pq1 pq2 pq3 pqz pql pqm pqn xvq0 xvq1 xvq2 xvq3 xvqz xvql xvqm xvqn
    have hP10 : Blk w10 gP 24 #[.int .i64 d, .int .i64 k, .slice A n c, .bool b] := Blk.below EP8.out b10 (Blk.lt EP8.out)
    have hW10 : Row w10 w.heap.size 3 1 AW (zs).length cW ((zs).map (.int .i64)) := EW8.out.below b10
    have hX10 : Row w10 w.heap.size 3 1 AX (ms).length cX ((ms).map (.int .i64)) := EX8.out.below b10
    have hXV10 : Blk w10 gXV 27 #[.int .i64 d, .int .i64 k, .slice AX ms.length cX, .bool b] := Blk.below EXV8.out b10 (Blk.lt EXV8.out)
    have hG10 : Row w10 w.heap.size 3 1 AG (zs).length cG ((zs).map (.int .i64)) := EG8.out.below b10
    have hb10 : Below w.heap.size w w10 := EB8.out.trans (b10.mono EB8.out.size)
    have EP10 := Lib.hid hP10; clear hP10
    have EW10 := Lib.hid hW10; clear hW10
    have EX10 := Lib.hid hX10; clear hX10
    have EXV10 := Lib.hid hXV10; clear hXV10
    have EG10 := Lib.hid hG10; clear hG10
    have EB10 := Lib.hid hb10; clear hb10
    clear EP8 EW8 EX8 EXV8 EG8 EB8 b10 bY bE
    obtain ⟨pq0, pq1, pq2, pq3, pqz⟩ := blk4 EP10.out
    have pql := Blk.lt EP10.out
    have pqm : ¬ gP = w10.heap.size := by omega
    have pqn : ¬ w10.heap.size = gP := by omega
    obtain ⟨xvq0, xvq1, xvq2, xvq3, xvqz⟩ := blk4 EXV10.out
    have xvql := Blk.lt EXV10.out
    have xvqm : ¬ gXV = w10.heap.size := by omega
    have xvqn : ¬ w10.heap.size = gXV := by omega
    go_wp2_with fail
    refine (markN_c _ d k ms b 1 _ _ _ _ rfl EX10.out (by have := HN.out; omega) (by omega)).mono ?_
    rintro e w11 ⟨rfl, q11, g11⟩
    clear pq0 pq1 pq2 pq3 pqz pql pqm pqn xvq0 xvq1 xvq2 xvq3 xvqz xvql xvqm xvqn
    have hP11 : Blk w11 gP 24 #[.int .i64 d, .int .i64 k, .slice A n c, .bool b] := Blk.grown EP10.out g11 (by rcases row_blk_ne EX10.out EP10.out (by decide) with h | h <;> first | (rw [h]; simp; done) | exact fun e => h e.symm)
    have hW11 : Row w11 w.heap.size 3 1 AW (zs).length cW ((zs).map (.int .i64)) := EW10.out.kept g11 apWX.out.1
    have hX11 : Row w11 w.heap.size 3 1 AX (ms).length cX ((runFrom ((1 : Nat) : Int) ms.length).map (.int .i64)) := q11
    have hXV11 : Blk w11 gXV 27 #[.int .i64 d, .int .i64 k, .slice AX ms.length cX, .bool b] := Blk.grown EXV10.out g11 (by rcases row_blk_ne EX10.out EXV10.out (by decide) with h | h <;> first | (rw [h]; simp; done) | exact fun e => h e.symm)
    have hG11 : Row w11 w.heap.size 3 1 AG (zs).length cG ((zs).map (.int .i64)) := EG10.out.kept g11 apXG.out.2
    have hb11 : Below w.heap.size w w11 := EB10.out.grown g11 EB10.out.size (fun k hk => (EX10.out.lt k hk).1)
    have EP11 := Lib.hid hP11; clear hP11
    have EW11 := Lib.hid hW11; clear hW11
    have EX11 := Lib.hid hX11; clear hX11
    have EXV11 := Lib.hid hXV11; clear hXV11
    have EG11 := Lib.hid hG11; clear hG11
    have EB11 := Lib.hid hb11; clear hb11
    clear EP10 EW10 EX10 EXV10 EG10 EB10 q11 g11
    obtain ⟨pq0, pq1, pq2, pq3, pqz⟩ := blk4 EP11.out
    have pql := Blk.lt EP11.out
    have pqm : ¬ gP = w11.heap.size := by omega
    have pqn : ¬ w11.heap.size = gP := by omega
    obtain ⟨xvq0, xvq1, xvq2, xvq3, xvqz⟩ := blk4 EXV11.out
    have xvql := Blk.lt EXV11.out
    have xvqm : ¬ gXV = w11.heap.size := by omega
    have xvqn : ¬ w11.heap.size = gXV := by omega
    have hmk : (0 : Int) ≤ ((1 + ms.length : Nat) : Int) := by omega
    go_wp2_with fail
    refine (eqInts_c zs zs _ _ _ _ _ _ _ rfl rfl EG11.out.rd EW11.out.rd (by omega) (by omega)).mono ?_
    rw [decide_eq_true rfl]
    rintro e w12 ⟨rfl, m12, hw12⟩
    clear pq0 pq1 pq2 pq3 pqz pql pqm pqn xvq0 xvq1 xvq2 xvq3 xvqz xvql xvqm xvqn
    have hP12 : Blk w12 gP 24 #[.int .i64 d, .int .i64 k, .slice A n c, .bool b] := by rw [hw12]; exact EP11.out
    have hW12 : Row w12 w.heap.size 3 1 AW (zs).length cW ((zs).map (.int .i64)) := by rw [hw12]; exact EW11.out
    have hX12 : Row w12 w.heap.size 3 1 AX (ms).length cX ((runFrom ((1 : Nat) : Int) ms.length).map (.int .i64)) := by rw [hw12]; exact EX11.out
    have hXV12 : Blk w12 gXV 27 #[.int .i64 d, .int .i64 k, .slice AX ms.length cX, .bool b] := by rw [hw12]; exact EXV11.out
    have hG12 : Row w12 w.heap.size 3 1 AG (zs).length cG ((zs).map (.int .i64)) := by rw [hw12]; exact EG11.out
    have hb12 : Below w.heap.size w w12 := by rw [hw12]; exact below_drewN EB11.out _
    have EP12 := Lib.hid hP12; clear hP12
    have EW12 := Lib.hid hW12; clear hW12
    have EX12 := Lib.hid hX12; clear hX12
    have EXV12 := Lib.hid hXV12; clear hXV12
    have EG12 := Lib.hid hG12; clear hG12
    have EB12 := Lib.hid hb12; clear hb12
    clear EP11 EW11 EX11 EXV11 EG11 EB11 hw12
    obtain ⟨pq0, pq1, pq2, pq3, pqz⟩ := blk4 EP12.out
    have pql := Blk.lt EP12.out
    have pqm : ¬ gP = w12.heap.size := by omega
    have pqn : ¬ w12.heap.size = gP := by omega
    obtain ⟨xvq0, xvq1, xvq2, xvq3, xvqz⟩ := blk4 EXV12.out
    have xvql := Blk.lt EXV12.out
    have xvqm : ¬ gXV = w12.heap.size := by omega
    have xvqn : ¬ w12.heap.size = gXV := by omega
    clear EX12
    clear EXV12
    clear xvq0 xvq1 xvq2 xvq3 xvqz xvql xvqm xvqn
    go_wp2_with fail
    refine (markR_c _ zs 1 _ _ _ _ rfl EG12.out (by omega) (by omega)).mono ?_
    rintro e w13 ⟨rfl, q13, g13⟩
    clear pq0 pq1 pq2 pq3 pqz pql pqm pqn
    have hP13 : Blk w13 gP 24 #[.int .i64 d, .int .i64 k, .slice A n c, .bool b] := Blk.grown EP12.out g13 (by rcases row_blk_ne EG12.out EP12.out (by decide) with h | h <;> first | (rw [h]; simp; done) | exact fun e => h e.symm)
    have hW13 : Row w13 w.heap.size 3 1 AW (zs).length cW ((zs).map (.int .i64)) := EW12.out.kept g13 apWG.out.1
    have hG13 : Row w13 w.heap.size 3 1 AG (zs).length cG ((runFrom ((1 : Nat) : Int) zs.length).map (.int .i64)) := q13
    have hb13 : Below w.heap.size w w13 := EB12.out.grown g13 EB12.out.size (fun k hk => (EG12.out.lt k hk).1)
    have EP13 := Lib.hid hP13; clear hP13
    have EW13 := Lib.hid hW13; clear hW13
    have EG13 := Lib.hid hG13; clear hG13
    have EB13 := Lib.hid hb13; clear hb13
    clear EP12 EW12 EG12 EB12 q13 g13
    obtain ⟨pq0, pq1, pq2, pq3, pqz⟩ := blk4 EP13.out
    have pql := Blk.lt EP13.out
    have pqm : ¬ gP = w13.heap.size := by omega
    have pqn : ¬ w13.heap.size = gP := by omega
    go_wp2_with fail
    refine (heldInts_c 1 _ _ _ _ EG13.out.rd (by omega) (by omega)).mono ?_
    rintro e w14 ⟨rfl, rfl⟩
    go_wp2_with fail
    refine (toNest_c d k ms b A n c _ HN.out (Rd.below (w' := w13) H0.out EB13.out) (by omega)).mono ?_
    rintro e w15 ⟨AZ, cZ, rfl, q15, b15⟩
    have r15 : Row w15 w13.heap.size 3 1 AZ (ms).length cZ ((ms).map (.int .i64)) := q15
    have apWZ := Lib.hid (row_apart EW13.out r15 (Nat.le_refl _))
    have apGZ := Lib.hid (row_apart EG13.out r15 (Nat.le_refl _))
    have R15 := Lib.hid (r15.mono EB13.out.size); clear r15 q15
    clear pq0 pq1 pq2 pq3 pqz pql pqm pqn
    have hP15 : Blk w15 gP 24 #[.int .i64 d, .int .i64 k, .slice A n c, .bool b] := Blk.below EP13.out b15 (Blk.lt EP13.out)
    have hW15 : Row w15 w.heap.size 3 1 AW (zs).length cW ((zs).map (.int .i64)) := EW13.out.below b15
    have hG15 : Row w15 w.heap.size 3 1 AG (zs).length cG ((runFrom ((1 : Nat) : Int) zs.length).map (.int .i64)) := EG13.out.below b15
    have hb15 : Below w.heap.size w w15 := EB13.out.trans (b15.mono EB13.out.size)
    have EP15 := Lib.hid hP15; clear hP15
    have EW15 := Lib.hid hW15; clear hW15
    have EG15 := Lib.hid hG15; clear hG15
    have EB15 := Lib.hid hb15; clear hb15
    clear EP13 EW13 EG13 EB13 b15
    obtain ⟨pq0, pq1, pq2, pq3, pqz⟩ := blk4 EP15.out
    have pql := Blk.lt EP15.out
    have pqm : ¬ gP = w15.heap.size := by omega
    have pqn : ¬ w15.heap.size = gP := by omega
    go_wp2_with fail
    refine (cleanUp_c d k ms b _ _ _ _ rfl R15.out.rd (by have := HN.out; omega)).mono ?_
    rw [← HZ.out]
    rintro e w16 ⟨AK, cK, rfl, q16, b16⟩
    have r16 : Row w16 w15.heap.size 3 1 AK (zs).length cK ((zs).map (.int .i64)) := Row.of_own q16
    have apWK := Lib.hid (row_apart EW15.out r16 (Nat.le_refl _))
    have apGK := Lib.hid (row_apart EG15.out r16 (Nat.le_refl _))
    have apZK := Lib.hid (row_apart R15.out r16 (Nat.le_refl _))
    have R16 := Lib.hid (r16.mono EB15.out.size); clear r16 q16
    clear pq0 pq1 pq2 pq3 pqz pql pqm pqn
    have hP16 : Blk w16 gP 24 #[.int .i64 d, .int .i64 k, .slice A n c, .bool b] := Blk.below EP15.out b16 (Blk.lt EP15.out)
    have hW16 : Row w16 w.heap.size 3 1 AW (zs).length cW ((zs).map (.int .i64)) := EW15.out.below b16
    have hG16 : Row w16 w.heap.size 3 1 AG (zs).length cG ((runFrom ((1 : Nat) : Int) zs.length).map (.int .i64)) := EG15.out.below b16
    have hZ16 : Row w16 w.heap.size 3 1 AZ (ms).length cZ ((ms).map (.int .i64)) := R15.out.below b16
    have hb16 : Below w.heap.size w w16 := EB15.out.trans (b16.mono EB15.out.size)
    have EP16 := Lib.hid hP16; clear hP16
    have EW16 := Lib.hid hW16; clear hW16
    have EG16 := Lib.hid hG16; clear hG16
    have EZ16 := Lib.hid hZ16; clear hZ16
    have EB16 := Lib.hid hb16; clear hb16
    clear EP15 EW15 EG15 R15 EB15 b16
    obtain ⟨pq0, pq1, pq2, pq3, pqz⟩ := blk4 EP16.out
    have pql := Blk.lt EP16.out
    have pqm : ¬ gP = w16.heap.size := by omega
    have pqn : ¬ w16.heap.size = gP := by omega
    clear EZ16
    go_wp2_with fail
    refine (eqInts_c zs zs _ _ _ _ _ _ _ rfl rfl R16.out.rd EW16.out.rd (by omega) (by omega)).mono ?_
    rw [decide_eq_true rfl]
    rintro e w17 ⟨rfl, m17, hw17⟩
    clear pq0 pq1 pq2 pq3 pqz pql pqm pqn
    have hP17 : Blk w17 gP 24 #[.int .i64 d, .int .i64 k, .slice A n c, .bool b] := by rw [hw17]; exact EP16.out
    have hW17 : Row w17 w.heap.size 3 1 AW (zs).length cW ((zs).map (.int .i64)) := by rw [hw17]; exact EW16.out
    have hG17 : Row w17 w.heap.size 3 1 AG (zs).length cG ((runFrom ((1 : Nat) : Int) zs.length).map (.int .i64)) := by rw [hw17]; exact EG16.out
    have hK17 : Row w17 w.heap.size 3 1 AK (zs).length cK ((zs).map (.int .i64)) := by rw [hw17]; exact R16.out
    have hb17 : Below w.heap.size w w17 := by rw [hw17]; exact below_drewN EB16.out _
    have EP17 := Lib.hid hP17; clear hP17
    have EW17 := Lib.hid hW17; clear hW17
    have EG17 := Lib.hid hG17; clear hG17
    have EK17 := Lib.hid hK17; clear hK17
    have EB17 := Lib.hid hb17; clear hb17
    clear EP16 EW16 EG16 R16 EB16 hw17
    obtain ⟨pq0, pq1, pq2, pq3, pqz⟩ := blk4 EP17.out
    have pql := Blk.lt EP17.out
    have pqm : ¬ gP = w17.heap.size := by omega
    have pqn : ¬ w17.heap.size = gP := by omega
    go_wp2_with fail
    refine (heldInts_c 1 _ _ _ _ EG17.out.rd (by omega) (by omega)).mono ?_
    rintro e w18 ⟨rfl, rfl⟩
    go_wp2_with fail
    go_ret
    exact ⟨rfl, EB17.out⟩

namespace fnExactCleanUp
open Go.ChangeShapes Go.WideShapes Go.ChangeAt
open Go.ChangeMaps (open_string shut_string)
theorem own : ownKnob Try.prog.godebug = none := by kernel_rfl
theorem laidOut : laidOutB Try.prog = true := by kernel_rfl
set_option maxRecDepth 100000 in
theorem lifted (os : Os) (started : os.Started) (H : Type) (enc : TypeId × Value → H) :
    ReturnsInHanded {} Try.checked os 5 .any (Rows.fnExactCleanUpSpec.pre6 enc Try.prog Try.f5 Rows.fnExactCleanUpRow.domain false) (Rows.fnExactCleanUpSpec.post enc Try.prog Try.f5 false true false false) := by
  refine returnsInHanded_of_change (C := Try.checked) own started (by kernel_rfl) Try.func5
    (ChangeSpec.witness6 (enc := enc) (C := Try.checked) false ⟨#[], #[.agg #[.int .i64 0, .int .i64 0, .slice none 0 0, .bool false]], []⟩ 8 (by kernel_rfl) (by kernel_rfl) (by kernel_rfl) (by kernel_rfl)) ?_
  intro W base args ds gs before hval0 hW hcnd _
  have hval : ∀ (j : Nat) t v, Try.f5.params[j]? = some t → args[j]? = some v → Value.okWide Try.prog W .any base t v := hval0
  have hW' := hW
  obtain ⟨p, q, hA0, hV, rfl, hfz, hnd⟩ := hW
  have hA : DataW.TrodAll enc Try.prog W 0 (fun _ => true) true Try.f5.params.toList args.toList ds p := hA0
  rw [Try.params5] at hA hval
  obtain ⟨v0, vs0, d0, ds0, p0, q0, hargs, rfl, rfl, h0, r0⟩ := trodAll_cons hA
  obtain ⟨rfl, rfl, rfl⟩ := trodAll_nil r0
  obtain rfl : args = #[v0] := by cases args; simp_all
  obtain ⟨rfl, rfl⟩ := trodVars_none hV
  have k0 := h0
  have lt0 : ∀ x ∈ p0, x.block < W.heap.size := by obtain ⟨m, hm⟩ := k0; exact DataW.trod_lt m _ _ _ hm
  obtain ⟨xa0, xb0, a0, n0, c0, xc0, z0, rfl, wa0, wb0, e0, lc0, cm0, rd0, wf0⟩ := open_iisb Try.underlying24 (by kernel_rfl) (by kernel_rfl) (by kernel_rfl) (by kernel_rfl) Try.underlying22 Try.underlying3 (by kernel_rfl) (by kernel_rfl) (hval 0 24 v0 rfl rfl) h0
  clear hA0 hval0
  refine (walk_FnExactCleanUp (w := W) xa0 xb0 z0 xc0 a0 n0 c0 (wf_i64 wa0) (wf_i64 wb0) e0 lc0 cm0 rd0 (fun x hx => wf_i64 (wf0 x hx))).mono fun e W' ⟨he, bel⟩ => ?_
  subst he
  exact ⟨_, rfl, _, _, _, [], _, [], hW', trodAll_mk1 (shut_bool Try.underlying4 _), (trodAll_cons_mk (Below.trod laidOut (by kernel_rfl) (of_decide_eq_true (by kernel_rfl)) k0 bel lt0) trodAll_mk0), rfl, bel.frame _, fun h => by cases h⟩
theorem closed : joinedFacts Try.prog 5 Try.f5 Rows.fnExactCleanUpSpec Rows.fnExactCleanUpRow = true :=
  facts_of mayEnter_ok liftsFinal_ok make_ok (by kernel_rfl)
theorem over : Rows.fnExactCleanUpRow.holds Try.pinned (OpenSpec.ofChange Rows.fnExactCleanUpSpec) :=
  OpenClaim.holds_of_wide 5 Try.f5 rfl rfl rfl rfl rfl rfl rfl ⟨rfl, rfl, rfl, rfl, rfl⟩ rfl rfl rfl rfl rfl (by kernel_rfl) Try.func5 closed
    (of_decide_eq_true (by kernel_rfl)) (by unfold Func.isWrapper; first | (rw [if_pos (by decide +kernel)]; kernel_rfl) | (rw [if_neg (by decide +kernel)]; exact ⟨rfl, rfl⟩))
    (fun os started H enc _ => lifted os started H enc)
/-- THE STATEMENT -/
theorem proved : Rows.FnExactCleanUpSaid := over
end fnExactCleanUp
end Go.Proofs.Ytoljmhggkighnaa
