/- FnExactCountWaits: for every list of numbers the law returns true, and what was there is as it was. No condition. -/
import Derived.Test.YtjidcickkfaljaaRows
import Derived.Test.YtjidcickkfaljaaMark
import Derived.Test.YtjidcickkfaljaaCntUnder
import Derived.Test.YtjidcickkfaljaaLists
import Derived.Test.YtjidcickkfaljaaOpen
set_option linter.unusedVariables false
set_option linter.unusedSimpArgs false
set_option linter.unnecessarySimpa false
namespace Go.Proofs.Ytjidcickkfaljaa
open Go.RowKit

set_option maxRecDepth 100000 in
set_option maxHeartbeats 2000000 in
theorem walk_FnExactCountWaits (ws : List Int) (A0 : Option Addr) (n0 c0 : Nat) (hN0 : ws.length = n0) (hc0 : n0 ≤ c0) (hm0 : c0 ≤ maxLen) {w : World} (h0 : Rd w A0 (ws.map (.int .i64))) (_ : ∀ x ∈ ws, -9223372036854775808 ≤ x ∧ x ≤ 9223372036854775807) :
    Calls Try.prog 5 #[.slice A0 n0 c0] w fun e w' => e = .returned (.bool true) ∧ Below w.heap.size w w' := by
  have HN0 := Lib.hid hN0; clear hN0
  have H0 := Lib.hid h0; clear h0
  unfold maxLen at hm0
  by_cases hbig0 : 1048576 < n0
  · go_enter Try.func5, Try.ntmps5
    go_wp2
    go_ret
    exact ⟨rfl, Below.refl _ _⟩
  have hlen0 : ws.length ≤ 1048576 := by have := HN0.out; omega
  obtain ⟨zs, hzs⟩ : ∃ zs, zs = countWaits ws := ⟨_, rfl⟩
  have hzl : zs.length ≤ 1048576 := by
    rw [hzs]; unfold countWaits; split
    · rw [tally_length]; omega
    · simp
  have HZ := Lib.hid hzs; clear hzs
  go_enter Try.func5, Try.ntmps5
  go_wp2_with fail
  refine (toInts_c ws _ _ _ _ HN0.out H0.out (by omega)).mono ?_
  rintro e w1 ⟨AS0, cS0, rfl, o1, b1'⟩
  have q1 : Row w1 w.heap.size 3 1 AS0 (ws).length cS0 ((ws).map (.int .i64)) := Row.of_own o1
  have hs1 := (Below.refl w.heap.size w).size
  have b1 : Below w.heap.size w w1 := (Below.refl w.heap.size w).trans (b1'.mono (Below.refl w.heap.size w).size)
  have rS01 : Row w1 w.heap.size 3 1 AS0 (ws).length cS0 ((ws).map (.int .i64)) := q1.mono hs1
  clear q1 o1 b1' hs1
  go_wp2_with fail
  refine (sCountWaits_c ws _ _ _ _ rfl rS01.rd (by omega)).mono ?_
  rw [← HZ.out]
  rintro e w2 ⟨AW, cW, rfl, o2, b2'⟩
  have q2 : Row w2 w1.heap.size 3 1 AW (zs).length cW ((zs).map (.int .i64)) := Row.of_own o2
  have hs2 := b1.size
  have apS0W := Lib.hid (row_apart rS01 q2 (Nat.le_refl _))
  have rS02 : Row w2 w.heap.size 3 1 AS0 (ws).length cS0 ((ws).map (.int .i64)) := rS01.below b2'
  have b2 : Below w.heap.size w w2 := b1.trans (b2'.mono b1.size)
  clear rS01 b1
  have rW2 : Row w2 w.heap.size 3 1 AW (zs).length cW ((zs).map (.int .i64)) := q2.mono hs2
  clear q2 o2 b2' hs2
  clear rS02
  go_wp2_with fail
  refine (toInts_c ws _ _ _ _ HN0.out (H0.out.below b2) (by omega)).mono ?_
  rintro e w3 ⟨AX0, cX0, rfl, o3, b3'⟩
  have q3 : Row w3 w2.heap.size 3 1 AX0 (ws).length cX0 ((ws).map (.int .i64)) := Row.of_own o3
  have hs3 := b2.size
  have apWX0 := Lib.hid (row_apart rW2 q3 (Nat.le_refl _))
  have rW3 : Row w3 w.heap.size 3 1 AW (zs).length cW ((zs).map (.int .i64)) := rW2.below b3'
  have b3 : Below w.heap.size w w3 := b2.trans (b3'.mono b2.size)
  clear rW2 b2
  have rX03 : Row w3 w.heap.size 3 1 AX0 (ws).length cX0 ((ws).map (.int .i64)) := q3.mono hs3
  clear q3 o3 b3' hs3
  go_wp2_with fail
  refine (countWaits_c ws _ _ _ _ rfl rX03.rd (by omega)).mono ?_
  rw [← HZ.out]
  rintro e w4 ⟨AG, cG, rfl, o4, b4'⟩
  have q4 : Row w4 w3.heap.size 3 1 AG (zs).length cG ((zs).map (.int .i64)) := Row.of_own o4
  have hs4 := b3.size
  have apWG := Lib.hid (row_apart rW3 q4 (Nat.le_refl _))
  have apX0G := Lib.hid (row_apart rX03 q4 (Nat.le_refl _))
  have rW4 : Row w4 w.heap.size 3 1 AW (zs).length cW ((zs).map (.int .i64)) := rW3.below b4'
  have rX04 : Row w4 w.heap.size 3 1 AX0 (ws).length cX0 ((ws).map (.int .i64)) := rX03.below b4'
  have b4 : Below w.heap.size w w4 := b3.trans (b4'.mono b3.size)
  clear rW3 rX03 b3
  have rG4 : Row w4 w.heap.size 3 1 AG (zs).length cG ((zs).map (.int .i64)) := q4.mono hs4
  clear q4 o4 b4' hs4
  go_wp2_with fail
  refine (eqInts_c zs zs _ _ _ _ _ _ _ rfl rfl rG4.rd rW4.rd (by omega) (by omega)).mono ?_
  rw [decide_eq_true rfl]
  rintro e w5 ⟨rfl, m5, hw5⟩
  have rW5 : Row w5 w.heap.size 3 1 AW (zs).length cW ((zs).map (.int .i64)) := by rw [hw5]; exact rW4
  have rX05 : Row w5 w.heap.size 3 1 AX0 (ws).length cX0 ((ws).map (.int .i64)) := by rw [hw5]; exact rX04
  have rG5 : Row w5 w.heap.size 3 1 AG (zs).length cG ((zs).map (.int .i64)) := by rw [hw5]; exact rG4
  have b5 : Below w.heap.size w w5 := by rw [hw5]; exact below_drewN b4 _
  clear hw5 rW4 rX04 rG4 b4
  go_wp2_with fail
  refine (toInts_c ws _ _ _ _ HN0.out (H0.out.below b5) (by omega)).mono ?_
  rintro e w6 ⟨AY0, cY0, rfl, o6, b6'⟩
  have q6 : Row w6 w5.heap.size 3 1 AY0 (ws).length cY0 ((ws).map (.int .i64)) := Row.of_own o6
  have hs6 := b5.size
  have apWY0 := Lib.hid (row_apart rW5 q6 (Nat.le_refl _))
  have apX0Y0 := Lib.hid (row_apart rX05 q6 (Nat.le_refl _))
  have apGY0 := Lib.hid (row_apart rG5 q6 (Nat.le_refl _))
  have rW6 : Row w6 w.heap.size 3 1 AW (zs).length cW ((zs).map (.int .i64)) := rW5.below b6'
  have rX06 : Row w6 w.heap.size 3 1 AX0 (ws).length cX0 ((ws).map (.int .i64)) := rX05.below b6'
  have rG6 : Row w6 w.heap.size 3 1 AG (zs).length cG ((zs).map (.int .i64)) := rG5.below b6'
  have b6 : Below w.heap.size w w6 := b5.trans (b6'.mono b5.size)
  clear rW5 rX05 rG5 b5
  have rY06 : Row w6 w.heap.size 3 1 AY0 (ws).length cY0 ((ws).map (.int .i64)) := q6.mono hs6
  clear q6 o6 b6' hs6
  go_wp2_with fail
  refine (eqInts_c ws ws _ _ _ _ _ _ _ rfl rfl rX06.rd rY06.rd (by omega) (by omega)).mono ?_
  rw [decide_eq_true rfl]
  rintro e w7 ⟨rfl, m7, hw7⟩
  have rW7 : Row w7 w.heap.size 3 1 AW (zs).length cW ((zs).map (.int .i64)) := by rw [hw7]; exact rW6
  have rX07 : Row w7 w.heap.size 3 1 AX0 (ws).length cX0 ((ws).map (.int .i64)) := by rw [hw7]; exact rX06
  have rG7 : Row w7 w.heap.size 3 1 AG (zs).length cG ((zs).map (.int .i64)) := by rw [hw7]; exact rG6
  have rY07 : Row w7 w.heap.size 3 1 AY0 (ws).length cY0 ((ws).map (.int .i64)) := by rw [hw7]; exact rY06
  have b7 : Below w.heap.size w w7 := by rw [hw7]; exact below_drewN b6 _
  clear hw7 rW6 rX06 rG6 rY06 b6
  clear rY07
  go_wp2_with fail
  refine (markR_c _ ws 1 _ _ _ _ rfl rX07 (by omega) (by omega)).mono ?_
  rintro e w8 ⟨rfl, q8, g8⟩
  have b8 : Below w.heap.size w w8 := b7.grown g8 b7.size (fun k hk => (rX07.lt k hk).1)
  have rW8 : Row w8 w.heap.size 3 1 AW (zs).length cW ((zs).map (.int .i64)) := rW7.kept g8 apWX0.out.1
  have rX08 : Row w8 w.heap.size 3 1 AX0 (ws).length cX0 ((runFrom (1 : Nat) (ws).length).map (.int .i64)) := q8
  have rG8 : Row w8 w.heap.size 3 1 AG (zs).length cG ((zs).map (.int .i64)) := rG7.kept g8 apX0G.out.2
  clear rW7 rX07 rG7 q8 g8 b7
  clear rX08
  go_wp2_with fail
  refine (eqInts_c zs zs _ _ _ _ _ _ _ rfl rfl rG8.rd rW8.rd (by omega) (by omega)).mono ?_
  rw [decide_eq_true rfl]
  rintro e w9 ⟨rfl, m9, hw9⟩
  have rW9 : Row w9 w.heap.size 3 1 AW (zs).length cW ((zs).map (.int .i64)) := by rw [hw9]; exact rW8
  have rG9 : Row w9 w.heap.size 3 1 AG (zs).length cG ((zs).map (.int .i64)) := by rw [hw9]; exact rG8
  have b9 : Below w.heap.size w w9 := by rw [hw9]; exact below_drewN b8 _
  clear hw9 rW8 rG8 b8
  go_wp2_with fail
  refine (markR_c _ zs 1 _ _ _ _ rfl rG9 (by omega) (by omega)).mono ?_
  rintro e w10 ⟨rfl, q10, g10⟩
  have b10 : Below w.heap.size w w10 := b9.grown g10 b9.size (fun k hk => (rG9.lt k hk).1)
  have rW10 : Row w10 w.heap.size 3 1 AW (zs).length cW ((zs).map (.int .i64)) := rW9.kept g10 apWG.out.1
  have rG10 : Row w10 w.heap.size 3 1 AG (zs).length cG ((runFrom ((1 : Nat) : Int) (zs).length).map (.int .i64)) := q10
  clear rW9 rG9 q10 g10 b9
  go_wp2_with fail
  refine (heldInts_c 1 _ _ _ _ rG10.rd (by omega) (by omega)).mono ?_
  rintro e w11 ⟨rfl, rfl⟩
  go_wp2_with fail
  refine (toInts_c ws _ _ _ _ HN0.out (H0.out.below b10) (by omega)).mono ?_
  rintro e w12 ⟨AZ0, cZ0, rfl, o12, b12'⟩
  have q12 : Row w12 w10.heap.size 3 1 AZ0 (ws).length cZ0 ((ws).map (.int .i64)) := Row.of_own o12
  have hs12 := b10.size
  have apWZ0 := Lib.hid (row_apart rW10 q12 (Nat.le_refl _))
  have apGZ0 := Lib.hid (row_apart rG10 q12 (Nat.le_refl _))
  have rW12 : Row w12 w.heap.size 3 1 AW (zs).length cW ((zs).map (.int .i64)) := rW10.below b12'
  have rG12 : Row w12 w.heap.size 3 1 AG (zs).length cG ((runFrom ((1 : Nat) : Int) (zs).length).map (.int .i64)) := rG10.below b12'
  have b12 : Below w.heap.size w w12 := b10.trans (b12'.mono b10.size)
  clear rW10 rG10 b10
  have rZ012 : Row w12 w.heap.size 3 1 AZ0 (ws).length cZ0 ((ws).map (.int .i64)) := q12.mono hs12
  clear q12 o12 b12' hs12
  go_wp2_with fail
  refine (countWaits_c ws _ _ _ _ rfl rZ012.rd (by omega)).mono ?_
  rw [← HZ.out]
  rintro e w13 ⟨AH, cH, rfl, o13, b13'⟩
  have q13 : Row w13 w12.heap.size 3 1 AH (zs).length cH ((zs).map (.int .i64)) := Row.of_own o13
  have hs13 := b12.size
  have apWH := Lib.hid (row_apart rW12 q13 (Nat.le_refl _))
  have apGH := Lib.hid (row_apart rG12 q13 (Nat.le_refl _))
  have apZ0H := Lib.hid (row_apart rZ012 q13 (Nat.le_refl _))
  have rW13 : Row w13 w.heap.size 3 1 AW (zs).length cW ((zs).map (.int .i64)) := rW12.below b13'
  have rG13 : Row w13 w.heap.size 3 1 AG (zs).length cG ((runFrom ((1 : Nat) : Int) (zs).length).map (.int .i64)) := rG12.below b13'
  have rZ013 : Row w13 w.heap.size 3 1 AZ0 (ws).length cZ0 ((ws).map (.int .i64)) := rZ012.below b13'
  have b13 : Below w.heap.size w w13 := b12.trans (b13'.mono b12.size)
  clear rW12 rG12 rZ012 b12
  have rH13 : Row w13 w.heap.size 3 1 AH (zs).length cH ((zs).map (.int .i64)) := q13.mono hs13
  clear q13 o13 b13' hs13
  clear rZ013
  go_wp2_with fail
  refine (eqInts_c zs zs _ _ _ _ _ _ _ rfl rfl rH13.rd rW13.rd (by omega) (by omega)).mono ?_
  rw [decide_eq_true rfl]
  rintro e w14 ⟨rfl, m14, hw14⟩
  have rW14 : Row w14 w.heap.size 3 1 AW (zs).length cW ((zs).map (.int .i64)) := by rw [hw14]; exact rW13
  have rG14 : Row w14 w.heap.size 3 1 AG (zs).length cG ((runFrom ((1 : Nat) : Int) (zs).length).map (.int .i64)) := by rw [hw14]; exact rG13
  have rH14 : Row w14 w.heap.size 3 1 AH (zs).length cH ((zs).map (.int .i64)) := by rw [hw14]; exact rH13
  have b14 : Below w.heap.size w w14 := by rw [hw14]; exact below_drewN b13 _
  clear hw14 rW13 rG13 rH13 b13
  go_wp2_with fail
  refine (heldInts_c 1 _ _ _ _ rG14.rd (by omega) (by omega)).mono ?_
  rintro e w15 ⟨rfl, rfl⟩
  go_wp2_with fail
  go_ret
  exact ⟨rfl, b14⟩

namespace fnExactCountWaits
open Go.ChangeShapes Go.WideShapes Go.ChangeAt
open Go.ChangeMaps (open_string shut_string)
theorem own : ownKnob Try.prog.godebug = none := by kernel_rfl
theorem laidOut : laidOutB Try.prog = true := by kernel_rfl
set_option maxRecDepth 100000 in
theorem lifted (os : Os) (started : os.Started) (H : Type) (enc : TypeId × Value → H) :
    ReturnsInHanded {} Try.checked os 5 .any (Rows.fnExactCountWaitsSpec.pre6 enc Try.prog Try.f5 Rows.fnExactCountWaitsRow.domain false) (Rows.fnExactCountWaitsSpec.post enc Try.prog Try.f5 false true false false) := by
  refine returnsInHanded_of_change (C := Try.checked) own started (by kernel_rfl) Try.func5
    (ChangeSpec.witness6 (enc := enc) (C := Try.checked) false ⟨#[], #[.slice none 0 0], []⟩ 8 (by kernel_rfl) (by kernel_rfl) (by kernel_rfl) (by kernel_rfl)) ?_
  intro W base args ds gs before hval0 hW hcnd _
  have hval : ∀ (j : Nat) t v, Try.f5.params[j]? = some t → args[j]? = some v → Value.okWide Try.prog W .any base t v := hval0
  have hW' := hW
  obtain ⟨p, q, hA0, hV, rfl, hfz, hnd⟩ := hW
  have hA : DataW.TrodAll enc Try.prog W 0 (fun _ => true) true Try.f5.params.toList args.toList ds p := hA0
  rw [Try.params5] at hA hval
  obtain ⟨v0, vs0, d0, ds0, p0, q0, hargs, rfl, rfl, h0, r0⟩ := trodAll_cons hA
  obtain ⟨rfl, rfl, rfl⟩ := trodAll_nil r0
  obtain rfl : args = #[v0] := by cases args; simp_all
  obtain ⟨rfl, rfl⟩ := trodVars_none hV
  obtain ⟨a0, n0, c0, rfl⟩ := okWide_slice Try.underlying22 (hval 0 22 v0 rfl rfl)
  have k0 := h0
  have lt0 : ∀ x ∈ p0, x.block < W.heap.size := by obtain ⟨m, hm⟩ := k0; exact DataW.trod_lt m _ _ _ hm
  obtain ⟨z0, e0, lc0, cm0, rd0, wf0⟩ := open_rd_int Try.underlying22 Try.underlying3 (by kernel_rfl) h0
  clear hA0 hval0
  refine (walk_FnExactCountWaits (w := W) z0 a0 n0 c0 e0 lc0 cm0 rd0 (fun x hx => wf_i64 (wf0 x hx))).mono fun e W' ⟨he, bel⟩ => ?_
  subst he
  exact ⟨_, rfl, _, _, _, [], _, [], hW', trodAll_mk1 (shut_bool Try.underlying4 _), (trodAll_cons_mk (Below.trod laidOut (by kernel_rfl) (of_decide_eq_true (by kernel_rfl)) k0 bel lt0) trodAll_mk0), rfl, bel.frame _, fun h => by cases h⟩
theorem closed : joinedFacts Try.prog 5 Try.f5 Rows.fnExactCountWaitsSpec Rows.fnExactCountWaitsRow = true :=
  facts_of mayEnter_ok liftsFinal_ok make_ok (by kernel_rfl)
theorem over : Rows.fnExactCountWaitsRow.holds Try.pinned (OpenSpec.ofChange Rows.fnExactCountWaitsSpec) :=
  OpenClaim.holds_of_wide 5 Try.f5 rfl rfl rfl rfl rfl rfl rfl ⟨rfl, rfl, rfl, rfl, rfl⟩ rfl rfl rfl rfl rfl (by kernel_rfl) Try.func5 closed
    (of_decide_eq_true (by kernel_rfl)) (by unfold Func.isWrapper; first | (rw [if_pos (by decide +kernel)]; kernel_rfl) | (rw [if_neg (by decide +kernel)]; exact ⟨rfl, rfl⟩))
    (fun os started H enc _ => lifted os started H enc)
/-- THE STATEMENT -/
theorem proved : Rows.FnExactCountWaitsSaid := over
end fnExactCountWaits
end Go.Proofs.Ytjidcickkfaljaa
