/- FnExactAddCounts: for all lists of numbers the law returns true, and what was there is as it was. No condition. -/
import Derived.Test.YtjidcickkfaljaaRows
import Derived.Test.YtjidcickkfaljaaMark
import Derived.Test.YtjidcickkfaljaaCntUnder
import Derived.Test.YtjidcickkfaljaaLists
import Derived.Test.YtjidcickkfaljaaOpen
set_option linter.unusedVariables false
set_option linter.unusedSimpArgs false
set_option linter.unnecessarySimpa false
namespace Go.Proofs.Ytjidcickkfaljaa
open Go.RowKit

set_option maxRecDepth 100000 in
set_option maxHeartbeats 2000000 in
theorem walk_FnExactAddCounts (xs : List Int) (A0 : Option Addr) (n0 c0 : Nat) (hN0 : xs.length = n0) (hc0 : n0 ≤ c0) (hm0 : c0 ≤ maxLen) {w : World} (h0 : Rd w A0 (xs.map (.int .i64))) (_ : ∀ x ∈ xs, -9223372036854775808 ≤ x ∧ x ≤ 9223372036854775807) (ys : List Int) (A1 : Option Addr) (n1 c1 : Nat) (hN1 : ys.length = n1) (hc1 : n1 ≤ c1) (hm1 : c1 ≤ maxLen) (h1 : Rd w A1 (ys.map (.int .i64))) (_ : ∀ x ∈ ys, -9223372036854775808 ≤ x ∧ x ≤ 9223372036854775807) :
    Calls Try.prog 3 #[.slice A0 n0 c0, .slice A1 n1 c1] w fun e w' => e = .returned (.bool true) ∧ Below w.heap.size w w' := by
  have HN0 := Lib.hid hN0; clear hN0
  have H0 := Lib.hid h0; clear h0
  unfold maxLen at hm0
  have HN1 := Lib.hid hN1; clear hN1
  have H1 := Lib.hid h1; clear h1
  unfold maxLen at hm1
  by_cases hbig0 : 1048576 < n0
  · go_enter Try.func3, Try.ntmps3
    go_wp2
    go_ret
    exact ⟨rfl, Below.refl _ _⟩
  have hlen0 : xs.length ≤ 1048576 := by have := HN0.out; omega
  by_cases hbig1 : 1048576 < n1
  · go_enter Try.func3, Try.ntmps3
    go_wp2
    go_ret
    exact ⟨rfl, Below.refl _ _⟩
  have hlen1 : ys.length ≤ 1048576 := by have := HN1.out; omega
  obtain ⟨zs, hzs⟩ : ∃ zs, zs = addCounts xs ys := ⟨_, rfl⟩
  obtain ⟨ok, hok⟩ : ∃ ok, ok = addOk xs ys := ⟨_, rfl⟩
  have hzl : zs.length ≤ 1048576 := by
    rw [hzs]; unfold addCounts; split
    · unfold addL; rw [List.length_zipWith]; omega
    · simp
  have HZ := Lib.hid hzs; have HO := Lib.hid hok; clear hzs hok
  go_enter Try.func3, Try.ntmps3
  go_wp2_with fail
  refine (toInts_c xs _ _ _ _ HN0.out H0.out (by omega)).mono ?_
  rintro e w1 ⟨AS0, cS0, rfl, o1, b1'⟩
  have q1 : Row w1 w.heap.size 3 1 AS0 (xs).length cS0 ((xs).map (.int .i64)) := Row.of_own o1
  have hs1 := (Below.refl w.heap.size w).size
  have b1 : Below w.heap.size w w1 := (Below.refl w.heap.size w).trans (b1'.mono (Below.refl w.heap.size w).size)
  have rS01 : Row w1 w.heap.size 3 1 AS0 (xs).length cS0 ((xs).map (.int .i64)) := q1.mono hs1
  clear q1 o1 b1' hs1
  go_wp2_with fail
  refine (toInts_c ys _ _ _ _ HN1.out (H1.out.below b1) (by omega)).mono ?_
  rintro e w2 ⟨AS1, cS1, rfl, o2, b2'⟩
  have q2 : Row w2 w1.heap.size 3 1 AS1 (ys).length cS1 ((ys).map (.int .i64)) := Row.of_own o2
  have hs2 := b1.size
  have apS0S1 := Lib.hid (row_apart rS01 q2 (Nat.le_refl _))
  have rS02 : Row w2 w.heap.size 3 1 AS0 (xs).length cS0 ((xs).map (.int .i64)) := rS01.below b2'
  have b2 : Below w.heap.size w w2 := b1.trans (b2'.mono b1.size)
  clear rS01 b1
  have rS12 : Row w2 w.heap.size 3 1 AS1 (ys).length cS1 ((ys).map (.int .i64)) := q2.mono hs2
  clear q2 o2 b2' hs2
  go_wp2_with fail
  refine (sAddCounts_c xs ys _ _ _ _ _ _ _ rfl rS02.rd (by omega) rfl rS12.rd (by omega)).mono ?_
  rw [← HZ.out, ← HO.out]
  rintro e w3 ⟨AW, cW, rfl, o3, b3'⟩
  have q3 : Row w3 w2.heap.size 3 1 AW (zs).length cW ((zs).map (.int .i64)) := Row.of_own o3
  have hs3 := b2.size
  have apS0W := Lib.hid (row_apart rS02 q3 (Nat.le_refl _))
  have apS1W := Lib.hid (row_apart rS12 q3 (Nat.le_refl _))
  have rS03 : Row w3 w.heap.size 3 1 AS0 (xs).length cS0 ((xs).map (.int .i64)) := rS02.below b3'
  have rS13 : Row w3 w.heap.size 3 1 AS1 (ys).length cS1 ((ys).map (.int .i64)) := rS12.below b3'
  have b3 : Below w.heap.size w w3 := b2.trans (b3'.mono b2.size)
  clear rS02 rS12 b2
  have rW3 : Row w3 w.heap.size 3 1 AW (zs).length cW ((zs).map (.int .i64)) := q3.mono hs3
  clear q3 o3 b3' hs3
  clear rS03
  clear rS13
  go_wp2_with fail
  refine (toInts_c xs _ _ _ _ HN0.out (H0.out.below b3) (by omega)).mono ?_
  rintro e w4 ⟨AX0, cX0, rfl, o4, b4'⟩
  have q4 : Row w4 w3.heap.size 3 1 AX0 (xs).length cX0 ((xs).map (.int .i64)) := Row.of_own o4
  have hs4 := b3.size
  have apWX0 := Lib.hid (row_apart rW3 q4 (Nat.le_refl _))
  have rW4 : Row w4 w.heap.size 3 1 AW (zs).length cW ((zs).map (.int .i64)) := rW3.below b4'
  have b4 : Below w.heap.size w w4 := b3.trans (b4'.mono b3.size)
  clear rW3 b3
  have rX04 : Row w4 w.heap.size 3 1 AX0 (xs).length cX0 ((xs).map (.int .i64)) := q4.mono hs4
  clear q4 o4 b4' hs4
  go_wp2_with fail
  refine (toInts_c ys _ _ _ _ HN1.out (H1.out.below b4) (by omega)).mono ?_
  rintro e w5 ⟨AX1, cX1, rfl, o5, b5'⟩
  have q5 : Row w5 w4.heap.size 3 1 AX1 (ys).length cX1 ((ys).map (.int .i64)) := Row.of_own o5
  have hs5 := b4.size
  have apWX1 := Lib.hid (row_apart rW4 q5 (Nat.le_refl _))
  have apX0X1 := Lib.hid (row_apart rX04 q5 (Nat.le_refl _))
  have rW5 : Row w5 w.heap.size 3 1 AW (zs).length cW ((zs).map (.int .i64)) := rW4.below b5'
  have rX05 : Row w5 w.heap.size 3 1 AX0 (xs).length cX0 ((xs).map (.int .i64)) := rX04.below b5'
  have b5 : Below w.heap.size w w5 := b4.trans (b5'.mono b4.size)
  clear rW4 rX04 b4
  have rX15 : Row w5 w.heap.size 3 1 AX1 (ys).length cX1 ((ys).map (.int .i64)) := q5.mono hs5
  clear q5 o5 b5' hs5
  go_wp2_with fail
  refine (addCounts_c xs ys _ _ _ _ _ _ _ rfl rX05.rd (by omega) rfl rX15.rd (by omega)).mono ?_
  rw [← HZ.out, ← HO.out]
  rintro e w6 ⟨AG, cG, rfl, o6, b6'⟩
  have q6 : Row w6 w5.heap.size 3 1 AG (zs).length cG ((zs).map (.int .i64)) := Row.of_own o6
  have hs6 := b5.size
  have apWG := Lib.hid (row_apart rW5 q6 (Nat.le_refl _))
  have apX0G := Lib.hid (row_apart rX05 q6 (Nat.le_refl _))
  have apX1G := Lib.hid (row_apart rX15 q6 (Nat.le_refl _))
  have rW6 : Row w6 w.heap.size 3 1 AW (zs).length cW ((zs).map (.int .i64)) := rW5.below b6'
  have rX06 : Row w6 w.heap.size 3 1 AX0 (xs).length cX0 ((xs).map (.int .i64)) := rX05.below b6'
  have rX16 : Row w6 w.heap.size 3 1 AX1 (ys).length cX1 ((ys).map (.int .i64)) := rX15.below b6'
  have b6 : Below w.heap.size w w6 := b5.trans (b6'.mono b5.size)
  clear rW5 rX05 rX15 b5
  have rG6 : Row w6 w.heap.size 3 1 AG (zs).length cG ((zs).map (.int .i64)) := q6.mono hs6
  clear q6 o6 b6' hs6
  go_wp2_with fail
  refine (eqInts_c zs zs _ _ _ _ _ _ _ rfl rfl rG6.rd rW6.rd (by omega) (by omega)).mono ?_
  rw [decide_eq_true rfl]
  rintro e w7 ⟨rfl, m7, hw7⟩
  have rW7 : Row w7 w.heap.size 3 1 AW (zs).length cW ((zs).map (.int .i64)) := by rw [hw7]; exact rW6
  have rX07 : Row w7 w.heap.size 3 1 AX0 (xs).length cX0 ((xs).map (.int .i64)) := by rw [hw7]; exact rX06
  have rX17 : Row w7 w.heap.size 3 1 AX1 (ys).length cX1 ((ys).map (.int .i64)) := by rw [hw7]; exact rX16
  have rG7 : Row w7 w.heap.size 3 1 AG (zs).length cG ((zs).map (.int .i64)) := by rw [hw7]; exact rG6
  have b7 : Below w.heap.size w w7 := by rw [hw7]; exact below_drewN b6 _
  clear hw7 rW6 rX06 rX16 rG6 b6
  go_wp2_with fail
  refine (toInts_c xs _ _ _ _ HN0.out (H0.out.below b7) (by omega)).mono ?_
  rintro e w8 ⟨AY0, cY0, rfl, o8, b8'⟩
  have q8 : Row w8 w7.heap.size 3 1 AY0 (xs).length cY0 ((xs).map (.int .i64)) := Row.of_own o8
  have hs8 := b7.size
  have apWY0 := Lib.hid (row_apart rW7 q8 (Nat.le_refl _))
  have apX0Y0 := Lib.hid (row_apart rX07 q8 (Nat.le_refl _))
  have apX1Y0 := Lib.hid (row_apart rX17 q8 (Nat.le_refl _))
  have apGY0 := Lib.hid (row_apart rG7 q8 (Nat.le_refl _))
  have rW8 : Row w8 w.heap.size 3 1 AW (zs).length cW ((zs).map (.int .i64)) := rW7.below b8'
  have rX08 : Row w8 w.heap.size 3 1 AX0 (xs).length cX0 ((xs).map (.int .i64)) := rX07.below b8'
  have rX18 : Row w8 w.heap.size 3 1 AX1 (ys).length cX1 ((ys).map (.int .i64)) := rX17.below b8'
  have rG8 : Row w8 w.heap.size 3 1 AG (zs).length cG ((zs).map (.int .i64)) := rG7.below b8'
  have b8 : Below w.heap.size w w8 := b7.trans (b8'.mono b7.size)
  clear rW7 rX07 rX17 rG7 b7
  have rY08 : Row w8 w.heap.size 3 1 AY0 (xs).length cY0 ((xs).map (.int .i64)) := q8.mono hs8
  clear q8 o8 b8' hs8
  go_wp2_with fail
  refine (eqInts_c xs xs _ _ _ _ _ _ _ rfl rfl rX08.rd rY08.rd (by omega) (by omega)).mono ?_
  rw [decide_eq_true rfl]
  rintro e w9 ⟨rfl, m9, hw9⟩
  have rW9 : Row w9 w.heap.size 3 1 AW (zs).length cW ((zs).map (.int .i64)) := by rw [hw9]; exact rW8
  have rX09 : Row w9 w.heap.size 3 1 AX0 (xs).length cX0 ((xs).map (.int .i64)) := by rw [hw9]; exact rX08
  have rX19 : Row w9 w.heap.size 3 1 AX1 (ys).length cX1 ((ys).map (.int .i64)) := by rw [hw9]; exact rX18
  have rG9 : Row w9 w.heap.size 3 1 AG (zs).length cG ((zs).map (.int .i64)) := by rw [hw9]; exact rG8
  have rY09 : Row w9 w.heap.size 3 1 AY0 (xs).length cY0 ((xs).map (.int .i64)) := by rw [hw9]; exact rY08
  have b9 : Below w.heap.size w w9 := by rw [hw9]; exact below_drewN b8 _
  clear hw9 rW8 rX08 rX18 rG8 rY08 b8
  clear rY09
  go_wp2_with fail
  refine (toInts_c ys _ _ _ _ HN1.out (H1.out.below b9) (by omega)).mono ?_
  rintro e w10 ⟨AY1, cY1, rfl, o10, b10'⟩
  have q10 : Row w10 w9.heap.size 3 1 AY1 (ys).length cY1 ((ys).map (.int .i64)) := Row.of_own o10
  have hs10 := b9.size
  have apWY1 := Lib.hid (row_apart rW9 q10 (Nat.le_refl _))
  have apX0Y1 := Lib.hid (row_apart rX09 q10 (Nat.le_refl _))
  have apX1Y1 := Lib.hid (row_apart rX19 q10 (Nat.le_refl _))
  have apGY1 := Lib.hid (row_apart rG9 q10 (Nat.le_refl _))
  have rW10 : Row w10 w.heap.size 3 1 AW (zs).length cW ((zs).map (.int .i64)) := rW9.below b10'
  have rX010 : Row w10 w.heap.size 3 1 AX0 (xs).length cX0 ((xs).map (.int .i64)) := rX09.below b10'
  have rX110 : Row w10 w.heap.size 3 1 AX1 (ys).length cX1 ((ys).map (.int .i64)) := rX19.below b10'
  have rG10 : Row w10 w.heap.size 3 1 AG (zs).length cG ((zs).map (.int .i64)) := rG9.below b10'
  have b10 : Below w.heap.size w w10 := b9.trans (b10'.mono b9.size)
  clear rW9 rX09 rX19 rG9 b9
  have rY110 : Row w10 w.heap.size 3 1 AY1 (ys).length cY1 ((ys).map (.int .i64)) := q10.mono hs10
  clear q10 o10 b10' hs10
  go_wp2_with fail
  refine (eqInts_c ys ys _ _ _ _ _ _ _ rfl rfl rX110.rd rY110.rd (by omega) (by omega)).mono ?_
  rw [decide_eq_true rfl]
  rintro e w11 ⟨rfl, m11, hw11⟩
  have rW11 : Row w11 w.heap.size 3 1 AW (zs).length cW ((zs).map (.int .i64)) := by rw [hw11]; exact rW10
  have rX011 : Row w11 w.heap.size 3 1 AX0 (xs).length cX0 ((xs).map (.int .i64)) := by rw [hw11]; exact rX010
  have rX111 : Row w11 w.heap.size 3 1 AX1 (ys).length cX1 ((ys).map (.int .i64)) := by rw [hw11]; exact rX110
  have rG11 : Row w11 w.heap.size 3 1 AG (zs).length cG ((zs).map (.int .i64)) := by rw [hw11]; exact rG10
  have rY111 : Row w11 w.heap.size 3 1 AY1 (ys).length cY1 ((ys).map (.int .i64)) := by rw [hw11]; exact rY110
  have b11 : Below w.heap.size w w11 := by rw [hw11]; exact below_drewN b10 _
  clear hw11 rW10 rX010 rX110 rG10 rY110 b10
  clear rY111
  go_wp2_with fail
  refine (markR_c _ xs 1 _ _ _ _ rfl rX011 (by omega) (by omega)).mono ?_
  rintro e w12 ⟨rfl, q12, g12⟩
  have b12 : Below w.heap.size w w12 := b11.grown g12 b11.size (fun k hk => (rX011.lt k hk).1)
  have rW12 : Row w12 w.heap.size 3 1 AW (zs).length cW ((zs).map (.int .i64)) := rW11.kept g12 apWX0.out.1
  have rX012 : Row w12 w.heap.size 3 1 AX0 (xs).length cX0 ((runFrom (1 : Nat) (xs).length).map (.int .i64)) := q12
  have rX112 : Row w12 w.heap.size 3 1 AX1 (ys).length cX1 ((ys).map (.int .i64)) := rX111.kept g12 apX0X1.out.2
  have rG12 : Row w12 w.heap.size 3 1 AG (zs).length cG ((zs).map (.int .i64)) := rG11.kept g12 apX0G.out.2
  clear rW11 rX011 rX111 rG11 q12 g12 b11
  go_wp2_with fail
  refine (markR_c _ ys (1 + xs.length) _ _ _ _ rfl rX112 (by omega) (by omega)).mono ?_
  rintro e w13 ⟨rfl, q13, g13⟩
  have b13 : Below w.heap.size w w13 := b12.grown g13 b12.size (fun k hk => (rX112.lt k hk).1)
  have rW13 : Row w13 w.heap.size 3 1 AW (zs).length cW ((zs).map (.int .i64)) := rW12.kept g13 apWX1.out.1
  have rX013 : Row w13 w.heap.size 3 1 AX0 (xs).length cX0 ((runFrom (1 : Nat) (xs).length).map (.int .i64)) := rX012.kept g13 apX0X1.out.1
  have rX113 : Row w13 w.heap.size 3 1 AX1 (ys).length cX1 ((runFrom (1 + xs.length : Nat) (ys).length).map (.int .i64)) := q13
  have rG13 : Row w13 w.heap.size 3 1 AG (zs).length cG ((zs).map (.int .i64)) := rG12.kept g13 apX1G.out.2
  clear rW12 rX012 rX112 rG12 q13 g13 b12
  clear rX013
  clear rX113
  go_wp2_with fail
  refine (eqInts_c zs zs _ _ _ _ _ _ _ rfl rfl rG13.rd rW13.rd (by omega) (by omega)).mono ?_
  rw [decide_eq_true rfl]
  rintro e w14 ⟨rfl, m14, hw14⟩
  have rW14 : Row w14 w.heap.size 3 1 AW (zs).length cW ((zs).map (.int .i64)) := by rw [hw14]; exact rW13
  have rG14 : Row w14 w.heap.size 3 1 AG (zs).length cG ((zs).map (.int .i64)) := by rw [hw14]; exact rG13
  have b14 : Below w.heap.size w w14 := by rw [hw14]; exact below_drewN b13 _
  clear hw14 rW13 rG13 b13
  go_wp2_with fail
  refine (markR_c _ zs 1 _ _ _ _ rfl rG14 (by omega) (by omega)).mono ?_
  rintro e w15 ⟨rfl, q15, g15⟩
  have b15 : Below w.heap.size w w15 := b14.grown g15 b14.size (fun k hk => (rG14.lt k hk).1)
  have rW15 : Row w15 w.heap.size 3 1 AW (zs).length cW ((zs).map (.int .i64)) := rW14.kept g15 apWG.out.1
  have rG15 : Row w15 w.heap.size 3 1 AG (zs).length cG ((runFrom ((1 : Nat) : Int) (zs).length).map (.int .i64)) := q15
  clear rW14 rG14 q15 g15 b14
  go_wp2_with fail
  refine (heldInts_c 1 _ _ _ _ rG15.rd (by omega) (by omega)).mono ?_
  rintro e w16 ⟨rfl, rfl⟩
  go_wp2_with fail
  refine (toInts_c xs _ _ _ _ HN0.out (H0.out.below b15) (by omega)).mono ?_
  rintro e w17 ⟨AZ0, cZ0, rfl, o17, b17'⟩
  have q17 : Row w17 w15.heap.size 3 1 AZ0 (xs).length cZ0 ((xs).map (.int .i64)) := Row.of_own o17
  have hs17 := b15.size
  have apWZ0 := Lib.hid (row_apart rW15 q17 (Nat.le_refl _))
  have apGZ0 := Lib.hid (row_apart rG15 q17 (Nat.le_refl _))
  have rW17 : Row w17 w.heap.size 3 1 AW (zs).length cW ((zs).map (.int .i64)) := rW15.below b17'
  have rG17 : Row w17 w.heap.size 3 1 AG (zs).length cG ((runFrom ((1 : Nat) : Int) (zs).length).map (.int .i64)) := rG15.below b17'
  have b17 : Below w.heap.size w w17 := b15.trans (b17'.mono b15.size)
  clear rW15 rG15 b15
  have rZ017 : Row w17 w.heap.size 3 1 AZ0 (xs).length cZ0 ((xs).map (.int .i64)) := q17.mono hs17
  clear q17 o17 b17' hs17
  go_wp2_with fail
  refine (toInts_c ys _ _ _ _ HN1.out (H1.out.below b17) (by omega)).mono ?_
  rintro e w18 ⟨AZ1, cZ1, rfl, o18, b18'⟩
  have q18 : Row w18 w17.heap.size 3 1 AZ1 (ys).length cZ1 ((ys).map (.int .i64)) := Row.of_own o18
  have hs18 := b17.size
  have apWZ1 := Lib.hid (row_apart rW17 q18 (Nat.le_refl _))
  have apGZ1 := Lib.hid (row_apart rG17 q18 (Nat.le_refl _))
  have apZ0Z1 := Lib.hid (row_apart rZ017 q18 (Nat.le_refl _))
  have rW18 : Row w18 w.heap.size 3 1 AW (zs).length cW ((zs).map (.int .i64)) := rW17.below b18'
  have rG18 : Row w18 w.heap.size 3 1 AG (zs).length cG ((runFrom ((1 : Nat) : Int) (zs).length).map (.int .i64)) := rG17.below b18'
  have rZ018 : Row w18 w.heap.size 3 1 AZ0 (xs).length cZ0 ((xs).map (.int .i64)) := rZ017.below b18'
  have b18 : Below w.heap.size w w18 := b17.trans (b18'.mono b17.size)
  clear rW17 rG17 rZ017 b17
  have rZ118 : Row w18 w.heap.size 3 1 AZ1 (ys).length cZ1 ((ys).map (.int .i64)) := q18.mono hs18
  clear q18 o18 b18' hs18
  go_wp2_with fail
  refine (addCounts_c xs ys _ _ _ _ _ _ _ rfl rZ018.rd (by omega) rfl rZ118.rd (by omega)).mono ?_
  rw [← HZ.out, ← HO.out]
  rintro e w19 ⟨AH, cH, rfl, o19, b19'⟩
  have q19 : Row w19 w18.heap.size 3 1 AH (zs).length cH ((zs).map (.int .i64)) := Row.of_own o19
  have hs19 := b18.size
  have apWH := Lib.hid (row_apart rW18 q19 (Nat.le_refl _))
  have apGH := Lib.hid (row_apart rG18 q19 (Nat.le_refl _))
  have apZ0H := Lib.hid (row_apart rZ018 q19 (Nat.le_refl _))
  have apZ1H := Lib.hid (row_apart rZ118 q19 (Nat.le_refl _))
  have rW19 : Row w19 w.heap.size 3 1 AW (zs).length cW ((zs).map (.int .i64)) := rW18.below b19'
  have rG19 : Row w19 w.heap.size 3 1 AG (zs).length cG ((runFrom ((1 : Nat) : Int) (zs).length).map (.int .i64)) := rG18.below b19'
  have rZ019 : Row w19 w.heap.size 3 1 AZ0 (xs).length cZ0 ((xs).map (.int .i64)) := rZ018.below b19'
  have rZ119 : Row w19 w.heap.size 3 1 AZ1 (ys).length cZ1 ((ys).map (.int .i64)) := rZ118.below b19'
  have b19 : Below w.heap.size w w19 := b18.trans (b19'.mono b18.size)
  clear rW18 rG18 rZ018 rZ118 b18
  have rH19 : Row w19 w.heap.size 3 1 AH (zs).length cH ((zs).map (.int .i64)) := q19.mono hs19
  clear q19 o19 b19' hs19
  clear rZ019
  clear rZ119
  go_wp2_with fail
  refine (eqInts_c zs zs _ _ _ _ _ _ _ rfl rfl rH19.rd rW19.rd (by omega) (by omega)).mono ?_
  rw [decide_eq_true rfl]
  rintro e w20 ⟨rfl, m20, hw20⟩
  have rW20 : Row w20 w.heap.size 3 1 AW (zs).length cW ((zs).map (.int .i64)) := by rw [hw20]; exact rW19
  have rG20 : Row w20 w.heap.size 3 1 AG (zs).length cG ((runFrom ((1 : Nat) : Int) (zs).length).map (.int .i64)) := by rw [hw20]; exact rG19
  have rH20 : Row w20 w.heap.size 3 1 AH (zs).length cH ((zs).map (.int .i64)) := by rw [hw20]; exact rH19
  have b20 : Below w.heap.size w w20 := by rw [hw20]; exact below_drewN b19 _
  clear hw20 rW19 rG19 rH19 b19
  go_wp2_with fail
  refine (heldInts_c 1 _ _ _ _ rG20.rd (by omega) (by omega)).mono ?_
  rintro e w21 ⟨rfl, rfl⟩
  go_wp2_with fail
  go_ret
  exact ⟨rfl, b20⟩

namespace fnExactAddCounts
open Go.ChangeShapes Go.WideShapes Go.ChangeAt
open Go.ChangeMaps (open_string shut_string)
theorem own : ownKnob Try.prog.godebug = none := by kernel_rfl
theorem laidOut : laidOutB Try.prog = true := by kernel_rfl
set_option maxRecDepth 100000 in
theorem lifted (os : Os) (started : os.Started) (H : Type) (enc : TypeId × Value → H) :
    ReturnsInHanded {} Try.checked os 3 .any (Rows.fnExactAddCountsSpec.pre6 enc Try.prog Try.f3 Rows.fnExactAddCountsRow.domain false) (Rows.fnExactAddCountsSpec.post enc Try.prog Try.f3 false true false false) := by
  refine returnsInHanded_of_change (C := Try.checked) own started (by kernel_rfl) Try.func3
    (ChangeSpec.witness6 (enc := enc) (C := Try.checked) false ⟨#[], #[.slice none 0 0, .slice none 0 0], []⟩ 8 (by kernel_rfl) (by kernel_rfl) (by kernel_rfl) (by kernel_rfl)) ?_
  intro W base args ds gs before hval0 hW hcnd _
  have hval : ∀ (j : Nat) t v, Try.f3.params[j]? = some t → args[j]? = some v → Value.okWide Try.prog W .any base t v := hval0
  have hW' := hW
  obtain ⟨p, q, hA0, hV, rfl, hfz, hnd⟩ := hW
  have hA : DataW.TrodAll enc Try.prog W 0 (fun _ => true) true Try.f3.params.toList args.toList ds p := hA0
  rw [Try.params3] at hA hval
  obtain ⟨v0, vs0, d0, ds0, p0, q0, hargs, rfl, rfl, h0, r0⟩ := trodAll_cons hA
  obtain ⟨v1, vs1, d1, ds1, p1, q1, rfl, rfl, rfl, h1, r1⟩ := trodAll_cons r0
  obtain ⟨rfl, rfl, rfl⟩ := trodAll_nil r1
  obtain rfl : args = #[v0, v1] := by cases args; simp_all
  obtain ⟨rfl, rfl⟩ := trodVars_none hV
  obtain ⟨a0, n0, c0, rfl⟩ := okWide_slice Try.underlying22 (hval 0 22 v0 rfl rfl)
  have k0 := h0
  have lt0 : ∀ x ∈ p0, x.block < W.heap.size := by obtain ⟨m, hm⟩ := k0; exact DataW.trod_lt m _ _ _ hm
  obtain ⟨z0, e0, lc0, cm0, rd0, wf0⟩ := open_rd_int Try.underlying22 Try.underlying3 (by kernel_rfl) h0
  obtain ⟨a1, n1, c1, rfl⟩ := okWide_slice Try.underlying22 (hval 1 22 v1 rfl rfl)
  have k1 := h1
  have lt1 : ∀ x ∈ p1, x.block < W.heap.size := by obtain ⟨m, hm⟩ := k1; exact DataW.trod_lt m _ _ _ hm
  obtain ⟨z1, e1, lc1, cm1, rd1, wf1⟩ := open_rd_int Try.underlying22 Try.underlying3 (by kernel_rfl) h1
  clear hA0 hval0
  refine (walk_FnExactAddCounts (w := W) z0 a0 n0 c0 e0 lc0 cm0 rd0 (fun x hx => wf_i64 (wf0 x hx)) z1 a1 n1 c1 e1 lc1 cm1 rd1 (fun x hx => wf_i64 (wf1 x hx))).mono fun e W' ⟨he, bel⟩ => ?_
  subst he
  exact ⟨_, rfl, _, _, _, [], _, [], hW', trodAll_mk1 (shut_bool Try.underlying4 _), (trodAll_cons_mk (Below.trod laidOut (by kernel_rfl) (of_decide_eq_true (by kernel_rfl)) k0 bel lt0) (trodAll_cons_mk (Below.trod laidOut (by kernel_rfl) (of_decide_eq_true (by kernel_rfl)) k1 bel lt1) trodAll_mk0)), rfl, bel.frame _, fun h => by cases h⟩
theorem closed : joinedFacts Try.prog 3 Try.f3 Rows.fnExactAddCountsSpec Rows.fnExactAddCountsRow = true :=
  facts_of mayEnter_ok liftsFinal_ok make_ok (by kernel_rfl)
theorem over : Rows.fnExactAddCountsRow.holds Try.pinned (OpenSpec.ofChange Rows.fnExactAddCountsSpec) :=
  OpenClaim.holds_of_wide 3 Try.f3 rfl rfl rfl rfl rfl rfl rfl ⟨rfl, rfl, rfl, rfl, rfl⟩ rfl rfl rfl rfl rfl (by kernel_rfl) Try.func3 closed
    (of_decide_eq_true (by kernel_rfl)) (by unfold Func.isWrapper; first | (rw [if_pos (by decide +kernel)]; kernel_rfl) | (rw [if_neg (by decide +kernel)]; exact ⟨rfl, rfl⟩))
    (fun os started H enc _ => lifted os started H enc)
/-- THE STATEMENT -/
theorem proved : Rows.FnExactAddCountsSaid := over
end fnExactAddCounts
end Go.Proofs.Ytjidcickkfaljaa
