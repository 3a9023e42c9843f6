/- FnAddCounts: for every code the law returns true, and what was there is as it was. No condition. -/
import Derived.Test.YtjidcickkfaljaaRows
import Derived.Test.YtjidcickkfaljaaMark
import Derived.Test.YtjidcickkfaljaaCntUnder
import Derived.Test.YtjidcickkfaljaaDrawW
import Derived.Test.YtjidcickkfaljaaPlainD
import Derived.Test.YtjidcickkfaljaaOpen
set_option linter.unusedVariables false
set_option linter.unusedSimpArgs false
set_option linter.unnecessarySimpa false
namespace Go.Proofs.Ytjidcickkfaljaa
open Go.RowKit

set_option maxRecDepth 100000 in
set_option maxHeartbeats 2000000 in
theorem walk_FnAddCounts (zs : List Int) (A : Option Addr) (n c : Nat) (hN : zs.length = n) (hc : n ≤ c) (hm : c ≤ maxLen) {w : World} (h : Rd w A (zs.map (.int .u8))) (hz : ∀ z ∈ zs, 0 ≤ z ∧ z ≤ 255) :
    Calls Try.prog 6 #[.slice A n c] w fun e w' => e = .returned (.bool true) ∧ Below w.heap.size w w' := by
  have HD := Lib.hid (drawAddCounts_c zs A n c w hN hc hm h hz)
  clear h hz hN
  unfold maxLen at hm
  by_cases hbig : 1048576 < n
  · go_enter Try.func6, Try.ntmps6
    go_wp2
    go_ret
    exact ⟨rfl, Below.refl _ _⟩
  · go_enter Try.func6, Try.ntmps6
    go_wp2_with fail
    refine HD.out.mono ?_
    rintro e w1 ⟨AP, cP, xs, AQ, cQ, ys, rfl, hl1, hc1, hl2, hc2, fP, fQ, b1⟩
    obtain ⟨zs, hzs⟩ : ∃ zs, zs = addCounts xs ys := ⟨_, rfl⟩
    obtain ⟨ok, hok⟩ : ∃ ok, ok = addOk xs ys := ⟨_, rfl⟩
    have hzl : zs.length ≤ 10 := by
      rw [hzs]; unfold addCounts; split
      · unfold addL; rw [List.length_zipWith]; omega
      · simp
    have HZ := Lib.hid hzs; have HO := Lib.hid hok; clear hzs hok
    go_wp2_with fail
    refine (addCounts_c xs ys _ _ _ _ _ _ _ rfl fP.rd (by omega) rfl fQ.rd (by omega)).mono ?_
    rw [← HZ.out, ← HO.out]
    rintro e w2 ⟨AG, cG, rfl, o2, b2'⟩
    have q2 : Row w2 w1.heap.size 3 1 AG (zs).length cG ((zs).map (.int .i64)) := Row.of_own o2
    have hs2 := b1.size
    have rP2 : Frd w2 w.heap.size AP ((xs).map (.int .i64)) := fP.below b2'
    have rQ2 : Frd w2 w.heap.size AQ ((ys).map (.int .i64)) := fQ.below b2'
    have b2 : Below w.heap.size w w2 := b1.trans (b2'.mono b1.size)
    clear fP fQ b1
    have rG2 : Row w2 w.heap.size 3 1 AG (zs).length cG ((zs).map (.int .i64)) := q2.mono hs2
    clear q2 o2 b2' hs2
    go_wp2_with fail
    refine (sAddCounts_c xs ys _ _ _ _ _ _ _ rfl rP2.rd (by omega) rfl rQ2.rd (by omega)).mono ?_
    rw [← HZ.out, ← HO.out]
    rintro e w3 ⟨AH, cH, rfl, o3, b3'⟩
    have q3 : Row w3 w2.heap.size 3 1 AH (zs).length cH ((zs).map (.int .i64)) := Row.of_own o3
    have hs3 := b2.size
    have apGH := Lib.hid (row_apart rG2 q3 (Nat.le_refl _))
    have rP3 : Frd w3 w.heap.size AP ((xs).map (.int .i64)) := rP2.below b3'
    have rQ3 : Frd w3 w.heap.size AQ ((ys).map (.int .i64)) := rQ2.below b3'
    have rG3 : Row w3 w.heap.size 3 1 AG (zs).length cG ((zs).map (.int .i64)) := rG2.below b3'
    have b3 : Below w.heap.size w w3 := b2.trans (b3'.mono b2.size)
    clear rP2 rQ2 rG2 b2
    have rH3 : Row w3 w.heap.size 3 1 AH (zs).length cH ((zs).map (.int .i64)) := q3.mono hs3
    clear q3 o3 b3' hs3
    cases ok
    · go_wp2_with fail
      refine (equalInts_c zs zs _ _ _ _ _ _ _ rfl rfl rG3.rd rH3.rd (by omega) (by omega)).mono ?_
      rw [decide_eq_true rfl]
      rintro e w4 ⟨rfl, m4, hw4⟩
      have rP4 : Frd w4 w.heap.size AP ((xs).map (.int .i64)) := by rw [hw4]; exact rP3
      have rQ4 : Frd w4 w.heap.size AQ ((ys).map (.int .i64)) := by rw [hw4]; exact rQ3
      have rG4 : Row w4 w.heap.size 3 1 AG (zs).length cG ((zs).map (.int .i64)) := by rw [hw4]; exact rG3
      have rH4 : Row w4 w.heap.size 3 1 AH (zs).length cH ((zs).map (.int .i64)) := by rw [hw4]; exact rH3
      have b4 : Below w.heap.size w w4 := by rw [hw4]; exact below_drewN b3 _
      clear hw4 rP3 rQ3 rG3 rH3 b3
      go_wp2_with fail
      refine (equalInts_c zs zs _ _ _ _ _ _ _ rfl rfl rG4.rd rH4.rd (by omega) (by omega)).mono ?_
      rw [decide_eq_true rfl]
      rintro e w5 ⟨rfl, m5, hw5⟩
      have rP5 : Frd w5 w.heap.size AP ((xs).map (.int .i64)) := by rw [hw5]; exact rP4
      have rQ5 : Frd w5 w.heap.size AQ ((ys).map (.int .i64)) := by rw [hw5]; exact rQ4
      have rG5 : Row w5 w.heap.size 3 1 AG (zs).length cG ((zs).map (.int .i64)) := by rw [hw5]; exact rG4
      have rH5 : Row w5 w.heap.size 3 1 AH (zs).length cH ((zs).map (.int .i64)) := by rw [hw5]; exact rH4
      have b5 : Below w.heap.size w w5 := by rw [hw5]; exact below_drewN b4 _
      clear hw5 rP4 rQ4 rG4 rH4 b4
      go_wp2_with fail
      go_ret
      exact ⟨rfl, b5⟩
    · obtain ⟨hvx, hvy, hvz, hz⟩ := addOk_parts xs ys HO.out.symm
      rw [← hz, ← HZ.out] at hvz
      have hsum : sumL zs = sumL xs + sumL ys := by rw [HZ.out, hz]; exact sumL_addL xs ys (by rw [((validCounts_iff xs).1 hvx).1, ((validCounts_iff ys).1 hvy).1])
      have HBx := Lib.hid (show ∀ z ∈ xs, 0 ≤ z ∧ z ≤ 1000000 from fun z hz => by have := ((validCounts_iff xs).1 hvx).2 z hz; omega)
      have hbx := sumL_bd 0 100 xs ((validCounts_iff xs).1 hvx).2
      have HBy := Lib.hid (show ∀ z ∈ ys, 0 ≤ z ∧ z ≤ 1000000 from fun z hz => by have := ((validCounts_iff ys).1 hvy).2 z hz; omega)
      have hby := sumL_bd 0 100 ys ((validCounts_iff ys).1 hvy).2
      have HBz := Lib.hid (show ∀ z ∈ zs, 0 ≤ z ∧ z ≤ 1000000 from fun z hz => by have := ((validCounts_iff zs).1 hvz).2 z hz; omega)
      have hbz := sumL_bd 0 100 zs ((validCounts_iff zs).1 hvz).2
      obtain ⟨sx, hsx⟩ : ∃ s, s = sumL xs := ⟨_, rfl⟩
      obtain ⟨sy, hsy⟩ : ∃ s, s = sumL ys := ⟨_, rfl⟩
      rw [← hsx, ← hsy] at hsum
      rw [← hsx] at hbx; rw [← hsy] at hby
      have hx0 : 0 ≤ sx := by omega
      have hx1 : sx ≤ 1000 := by omega
      have hy0 : 0 ≤ sy := by omega
      have hy1 : sy ≤ 1000 := by omega
      have HVZ := Lib.hid hvz; have HS := Lib.hid hsum; have HSX := Lib.hid hsx; have HSY := Lib.hid hsy
      have HZ2 : Hid (addCounts ys xs = zs) := by show _ = _; rw [addCounts_comm, HZ.out]
      have HO2 : Hid (addOk ys xs = true) := by show _ = _; rw [addOk_comm]; exact HO.out.symm
      clear hvx hvy hvz hz hsum hsx hsy hbx hby hbz
      go_wp2_with fail
      refine (equalInts_c zs zs _ _ _ _ _ _ _ rfl rfl rG3.rd rH3.rd (by omega) (by omega)).mono ?_
      rw [decide_eq_true rfl]
      rintro e w4 ⟨rfl, m4, hw4⟩
      have rP4 : Frd w4 w.heap.size AP ((xs).map (.int .i64)) := by rw [hw4]; exact rP3
      have rQ4 : Frd w4 w.heap.size AQ ((ys).map (.int .i64)) := by rw [hw4]; exact rQ3
      have rG4 : Row w4 w.heap.size 3 1 AG (zs).length cG ((zs).map (.int .i64)) := by rw [hw4]; exact rG3
      have rH4 : Row w4 w.heap.size 3 1 AH (zs).length cH ((zs).map (.int .i64)) := by rw [hw4]; exact rH3
      have b4 : Below w.heap.size w w4 := by rw [hw4]; exact below_drewN b3 _
      clear hw4 rP3 rQ3 rG3 rH3 b3
      clear rH4
      go_wp2_with fail
      refine (addCounts_c ys xs _ _ _ _ _ _ _ rfl rQ4.rd (by omega) rfl rP4.rd (by omega)).mono ?_
      rw [HZ2.out, HO2.out]
      rintro e w5 ⟨AK, cK, rfl, o5, b5'⟩
      have q5 : Row w5 w4.heap.size 3 1 AK (zs).length cK ((zs).map (.int .i64)) := Row.of_own o5
      have hs5 := b4.size
      have apGK := Lib.hid (row_apart rG4 q5 (Nat.le_refl _))
      have rP5 : Frd w5 w.heap.size AP ((xs).map (.int .i64)) := rP4.below b5'
      have rQ5 : Frd w5 w.heap.size AQ ((ys).map (.int .i64)) := rQ4.below b5'
      have rG5 : Row w5 w.heap.size 3 1 AG (zs).length cG ((zs).map (.int .i64)) := rG4.below b5'
      have b5 : Below w.heap.size w w5 := b4.trans (b5'.mono b4.size)
      clear rP4 rQ4 rG4 b4
      have rK5 : Row w5 w.heap.size 3 1 AK (zs).length cK ((zs).map (.int .i64)) := q5.mono hs5
      clear q5 o5 b5' hs5
      go_wp2_with fail
      refine (equalInts_c zs zs _ _ _ _ _ _ _ rfl rfl rK5.rd rG5.rd (by omega) (by omega)).mono ?_
      rw [decide_eq_true rfl]
      rintro e w6 ⟨rfl, m6, hw6⟩
      have rP6 : Frd w6 w.heap.size AP ((xs).map (.int .i64)) := by rw [hw6]; exact rP5
      have rQ6 : Frd w6 w.heap.size AQ ((ys).map (.int .i64)) := by rw [hw6]; exact rQ5
      have rG6 : Row w6 w.heap.size 3 1 AG (zs).length cG ((zs).map (.int .i64)) := by rw [hw6]; exact rG5
      have rK6 : Row w6 w.heap.size 3 1 AK (zs).length cK ((zs).map (.int .i64)) := by rw [hw6]; exact rK5
      have b6 : Below w.heap.size w w6 := by rw [hw6]; exact below_drewN b5 _
      clear hw6 rP5 rQ5 rG5 rK5 b5
      clear rK6
      go_wp2_with fail
      refine (lsum_c zs _ _ _ _ rfl rG6.rd (by omega) HBz.out).mono ?_
      rw [HS.out]
      rintro e w7 ⟨rfl, rfl⟩
      go_wp2_with fail
      refine (lsum_c xs _ _ _ _ rfl rP6.rd (by omega) HBx.out).mono ?_
      rw [← HSX.out]
      rintro e w8 ⟨rfl, rfl⟩
      go_wp2_with fail
      refine (lsum_c ys _ _ _ _ rfl rQ6.rd (by omega) HBy.out).mono ?_
      rw [← HSY.out]
      rintro e w9 ⟨rfl, rfl⟩
      go_wp2_with fail
      refine (validCounts_c zs _ _ _ _ rfl rG6.rd (by omega)).mono ?_
      rw [HVZ.out]
      rintro e w10 ⟨rfl, b10'⟩
      have rP10 : Frd w10 w.heap.size AP ((xs).map (.int .i64)) := rP6.below b10'
      have rQ10 : Frd w10 w.heap.size AQ ((ys).map (.int .i64)) := rQ6.below b10'
      have rG10 : Row w10 w.heap.size 3 1 AG (zs).length cG ((zs).map (.int .i64)) := rG6.below b10'
      have b10 : Below w.heap.size w w10 := b6.trans (b10'.mono b6.size)
      clear rP6 rQ6 rG6 b6
      go_wp2_with fail
      go_ret
      exact ⟨rfl, b10⟩

namespace fnAddCounts
open Go.ChangeShapes Go.WideShapes Go.ChangeAt
open Go.ChangeMaps (open_string shut_string)
theorem own : ownKnob Try.prog.godebug = none := by kernel_rfl
theorem laidOut : laidOutB Try.prog = true := by kernel_rfl
set_option maxRecDepth 100000 in
theorem lifted (os : Os) (started : os.Started) (H : Type) (enc : TypeId × Value → H) :
    ReturnsInHanded {} Try.checked os 6 .any (Rows.fnAddCountsSpec.pre6 enc Try.prog Try.f6 Rows.fnAddCountsRow.domain false) (Rows.fnAddCountsSpec.post enc Try.prog Try.f6 false true false false) := by
  refine returnsInHanded_of_change (C := Try.checked) own started (by kernel_rfl) Try.func6
    (ChangeSpec.witness6 (enc := enc) (C := Try.checked) false ⟨#[], #[.slice none 0 0], []⟩ 8 (by kernel_rfl) (by kernel_rfl) (by kernel_rfl) (by kernel_rfl)) ?_
  intro W base args ds gs before hval0 hW hcnd _
  have hval : ∀ (j : Nat) t v, Try.f6.params[j]? = some t → args[j]? = some v → Value.okWide Try.prog W .any base t v := hval0
  have hW' := hW
  obtain ⟨p, q, hA0, hV, rfl, hfz, hnd⟩ := hW
  have hA : DataW.TrodAll enc Try.prog W 0 (fun _ => true) true Try.f6.params.toList args.toList ds p := hA0
  rw [Try.params6] at hA hval
  obtain ⟨v0, vs0, d0, ds0, p0, q0, hargs, rfl, rfl, h0, r0⟩ := trodAll_cons hA
  obtain ⟨rfl, rfl, rfl⟩ := trodAll_nil r0
  obtain rfl : args = #[v0] := by cases args; simp_all
  obtain ⟨rfl, rfl⟩ := trodVars_none hV
  obtain ⟨a0, n0, c0, rfl⟩ := okWide_slice Try.underlying32 (hval 0 32 v0 rfl rfl)
  have k0 := h0
  have lt0 : ∀ x ∈ p0, x.block < W.heap.size := by obtain ⟨m, hm⟩ := k0; exact DataW.trod_lt m _ _ _ hm
  obtain ⟨z0, e0, lc0, cm0, rd0, wf0⟩ := open_rd_int Try.underlying32 Try.underlying5 (by kernel_rfl) h0
  clear hA0 hval0
  refine (walk_FnAddCounts (w := W) z0 a0 n0 c0 e0 lc0 cm0 rd0 (fun x hx => wf_u8 (wf0 x hx))).mono fun e W' ⟨he, bel⟩ => ?_
  subst he
  exact ⟨_, rfl, _, _, _, [], _, [], hW', trodAll_mk1 (shut_bool Try.underlying4 _), (trodAll_cons_mk (Below.trod laidOut (by kernel_rfl) (of_decide_eq_true (by kernel_rfl)) k0 bel lt0) trodAll_mk0), rfl, bel.frame _, fun h => by cases h⟩
theorem closed : joinedFacts Try.prog 6 Try.f6 Rows.fnAddCountsSpec Rows.fnAddCountsRow = true :=
  facts_of mayEnter_ok liftsFinal_ok make_ok (by kernel_rfl)
theorem over : Rows.fnAddCountsRow.holds Try.pinned (OpenSpec.ofChange Rows.fnAddCountsSpec) :=
  OpenClaim.holds_of_wide 6 Try.f6 rfl rfl rfl rfl rfl rfl rfl ⟨rfl, rfl, rfl, rfl, rfl⟩ rfl rfl rfl rfl rfl (by kernel_rfl) Try.func6 closed
    (of_decide_eq_true (by kernel_rfl)) (by unfold Func.isWrapper; first | (rw [if_pos (by decide +kernel)]; kernel_rfl) | (rw [if_neg (by decide +kernel)]; exact ⟨rfl, rfl⟩))
    (fun os started H enc _ => lifted os started H enc)
/-- THE STATEMENT -/
theorem proved : Rows.FnAddCountsSaid := over
end fnAddCounts
end Go.Proofs.Ytjidcickkfaljaa
