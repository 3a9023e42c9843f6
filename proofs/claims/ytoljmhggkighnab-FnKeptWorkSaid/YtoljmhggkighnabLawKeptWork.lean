/- FnKeptWork: for every code the law returns true, and what was there is as it was. No condition. -/
import Derived.Test.YtoljmhggkighnabRows
import Derived.Test.YtoljmhggkighnabNestLaw
import Derived.Test.YtoljmhggkighnabNestDraw
import Derived.Test.YtoljmhggkighnabOpenC
import Derived.Test.YtoljmhggkighnabNestRunI
set_option linter.unusedVariables false
set_option linter.unusedSimpArgs false
set_option linter.unnecessarySimpa false
namespace Go.Proofs.Ytoljmhggkighnab
open Go.RowKit

set_option maxRecDepth 100000 in
set_option maxHeartbeats 16000000 in
theorem walk_FnKeptWork (zs : List Int) (A : Option Addr) (n c : Nat) (hN : zs.length = n) (hc : n ≤ c) (hm : c ≤ maxLen) {w : World} (h : Rd w A (zs.map (.int .u8))) (hz : ∀ z ∈ zs, 0 ≤ z ∧ z ≤ 255) :
    Calls Try.prog 9 #[.slice A n c] w fun e w' => e = .returned (.bool true) ∧ Below w.heap.size w w' := by
  have HD := Lib.hid (drawKeptWork_c zs A n c w hN hc hm h hz)
  clear h hz hN
  unfold maxLen at hm
  by_cases hbig : 1048576 < n
  · go_enter Try.func9, Try.ntmps9
    go_wp2
    go_ret
    exact ⟨rfl, Below.refl _ _⟩
  · go_enter Try.func9, Try.ntmps9
    go_wp2_with fail
    refine HD.out.mono ?_
    rintro e w1 ⟨AP, cP, ks, rfl, hl, hcP, fP, b1⟩
    have EB1 := Lib.hid b1; clear b1
    have H0 := Lib.hid fP.rd; clear fP
    obtain ⟨u, hu⟩ : ∃ u, u = keptV ks := ⟨_, rfl⟩
    have HU := Lib.hid hu.symm; clear hu
    go_wp2_with fail
    refine (keptWork_c ks _ _ _ _ rfl hcP (Rd.below (w' := w1) H0.out (Below.refl w1.heap.size w1)) (by omega)).mono ?_
    rw [HU.out]
    rintro e w2 ⟨rfl, b2⟩
    have hb2 : Below w1.heap.size w1 w2 := (Below.refl w1.heap.size w1).trans (b2.mono (Below.refl w1.heap.size w1).size)
    have EB2 := Lib.hid hb2; clear hb2
    clear  b2
    go_wp2_with fail
    refine (sKeptWork_c ks _ _ _ _ rfl hcP (Rd.below (w' := w2) H0.out EB2.out) (by omega)).mono ?_
    rw [HU.out]
    rintro e w3 ⟨rfl, b3⟩
    have hb3 : Below w1.heap.size w1 w3 := EB2.out.trans (b3.mono EB2.out.size)
    have EB3 := Lib.hid hb3; clear hb3
    clear EB2 b3
    by_cases h16 : ks.length ≤ 16
    · have hue : u = kept ks := by rw [← HU.out]; unfold keptV; rw [if_pos h16]
      have hu0 : 0 ≤ u := by rw [hue]; exact (kept_bd ks).1
      have hu1 : u ≤ ks.length := by rw [hue]; exact (kept_bd ks).2
      have HUE := Lib.hid hue; clear hue
      have hrw : u ≤ works ks := by rw [HUE.out]; have h1 := (run_work ks).1; have h2 := runV_work ks; unfold runV at h2; rw [if_pos h16] at h2; omega
      have hin : u ≠ 0 → 3 ∈ ks := fun h => Classical.byContradiction fun hn => h (by rw [HUE.out]; exact kept_none ks hn)
      have HRW := Lib.hid hrw; have HIN := Lib.hid hin; clear hrw hin
      have RK := Lib.hid (Rd.below (w' := w3) H0.out EB3.out)
      go_wp2_with fail
      go_loop [5, 6] (fun wk i => ∃ j : Nat, j ≤ ks.length ∧ wk = .int .i64 (works (ks.take j)) ∧ i = .int .i64 j) (fun _ i => ks.length - (intOf i).toNat)
      case atStart => exact ⟨0, Nat.zero_le _, rfl, rfl⟩
      case round =>
        obtain ⟨j, hj, rfl, rfl⟩ := hrel
        obtain ⟨wk, hwk⟩ : ∃ wk, wk = works (ks.take j) := ⟨_, rfl⟩
        have hw0 : 0 ≤ wk := by rw [hwk]; exact (works_bd _).1
        have hw1 : wk ≤ 18 := by rw [hwk]; have := (works_bd (ks.take j)).2; rw [List.length_take] at this; omega
        rw [← hwk]
        by_cases hlt : j < ks.length
        · obtain ⟨y, hY⟩ : ∃ y, y = ks[j] := ⟨_, rfl⟩
          have hst : works (ks.take (j + 1)) = wk + (if y = 1 then 1 else 0) := by rw [hwk, hY]; exact works_take ks j hlt
          obtain ⟨bK, offK, hAK, hcK⟩ := RK.out (by simp; omega)
          subst hAK
          have hx : w3.cell? ⟨bK, offK + j, none⟩ = some (.int .i64 y) := hcK j _ (by simp [hY, hlt])
          have HST := Lib.hid hst
          clear hcK hwk hY hst
          by_cases hy1 : y = 1
          · subst hy1
            go_wp2_with fail
            go_round
            case rel => exact ⟨j + 1, by omega, by rw [HST.out]; simp, by go_num⟩
            case measure => simp [intOf]; omega
          · have hd : (y == 1) = false := beq_eq_false_iff_ne.2 hy1
            have HY1 := Lib.hid hy1; clear hy1
            go_wp2_with fail
            go_round
            case rel => exact ⟨j + 1, by omega, by rw [HST.out, if_neg HY1.out, Int.add_zero], by go_num⟩
            case measure => simp [intOf]; omega
        · obtain rfl : j = ks.length := by omega
          rw [List.take_length] at hwk
          have HWK := Lib.hid hwk; clear hwk
          have hle : u ≤ wk := by rw [HWK.out]; exact HRW.out
          by_cases h0 : u = 0
          · have h0' : (u == 0) = true := beq_iff_eq.2 h0
            go_wp2_with fail
            go_ret
            exact ⟨by first | rfl | (simp; omega) | (simp [hle, h0]), EB1.out.trans (EB3.out.mono EB1.out.size)⟩
          · have h0' : (u == 0) = false := beq_eq_false_iff_ne.2 h0
            have hm : decide (3 ∈ ks) = true := decide_eq_true (HIN.out h0)
            have HM := Lib.hid hm; clear hm h0
            go_wp2_with fail
            refine (isIn_c ks 3 _ _ _ _ rfl RK.out (by omega)).mono ?_
            rw [HM.out]
            rintro e w4 ⟨rfl, rfl⟩
            go_wp2_with fail
            go_ret
            exact ⟨by first | rfl | (simp; omega), EB1.out.trans (EB3.out.mono EB1.out.size)⟩
    · have hu0 : u < 0 := by rw [← HU.out]; unfold keptV; rw [if_neg h16]; decide
      go_wp2_with fail
      refine (sKeptWork_c ks _ _ _ _ rfl hcP (Rd.below (w' := w3) H0.out EB3.out) (by omega)).mono ?_
      rw [HU.out]
      rintro e w4 ⟨rfl, b4⟩
      have hb4 : Below w1.heap.size w1 w4 := EB3.out.trans (b4.mono EB3.out.size)
      have EB4 := Lib.hid hb4; clear hb4
      clear EB3 b4
      go_wp2_with fail
      go_ret
      exact ⟨by first | rfl | simp | trivial, EB1.out.trans (EB4.out.mono EB1.out.size)⟩

namespace fnKeptWork
open Go.ChangeShapes Go.WideShapes Go.ChangeAt
open Go.ChangeMaps (open_string shut_string)
theorem own : ownKnob Try.prog.godebug = none := by kernel_rfl
theorem laidOut : laidOutB Try.prog = true := by kernel_rfl
set_option maxRecDepth 100000 in
theorem lifted (os : Os) (started : os.Started) (H : Type) (enc : TypeId × Value → H) :
    ReturnsInHanded {} Try.checked os 9 .any (Rows.fnKeptWorkSpec.pre6 enc Try.prog Try.f9 Rows.fnKeptWorkRow.domain false) (Rows.fnKeptWorkSpec.post enc Try.prog Try.f9 false true false false) := by
  refine returnsInHanded_of_change (C := Try.checked) own started (by kernel_rfl) Try.func9
    (ChangeSpec.witness6 (enc := enc) (C := Try.checked) false ⟨#[], #[.slice none 0 0], []⟩ 8 (by kernel_rfl) (by kernel_rfl) (by kernel_rfl) (by kernel_rfl)) ?_
  intro W base args ds gs before hval0 hW hcnd _
  have hval : ∀ (j : Nat) t v, Try.f9.params[j]? = some t → args[j]? = some v → Value.okWide Try.prog W .any base t v := hval0
  have hW' := hW
  obtain ⟨p, q, hA0, hV, rfl, hfz, hnd⟩ := hW
  have hA : DataW.TrodAll enc Try.prog W 0 (fun _ => true) true Try.f9.params.toList args.toList ds p := hA0
  rw [Try.params9] at hA hval
  obtain ⟨v0, vs0, d0, ds0, p0, q0, hargs, rfl, rfl, h0, r0⟩ := trodAll_cons hA
  obtain ⟨rfl, rfl, rfl⟩ := trodAll_nil r0
  obtain rfl : args = #[v0] := by cases args; simp_all
  obtain ⟨rfl, rfl⟩ := trodVars_none hV
  obtain ⟨a0, n0, c0, rfl⟩ := okWide_slice Try.underlying22 (hval 0 22 v0 rfl rfl)
  have k0 := h0
  have lt0 : ∀ x ∈ p0, x.block < W.heap.size := by obtain ⟨m, hm⟩ := k0; exact DataW.trod_lt m _ _ _ hm
  obtain ⟨z0, e0, lc0, cm0, rd0, wf0⟩ := open_rd_int Try.underlying22 Try.underlying5 (by kernel_rfl) h0
  clear hA0 hval0
  refine (walk_FnKeptWork (w := W) z0 a0 n0 c0 e0 lc0 cm0 rd0 (fun x hx => wf_u8 (wf0 x hx))).mono fun e W' ⟨he, bel⟩ => ?_
  subst he
  exact ⟨_, rfl, _, _, _, [], _, [], hW', trodAll_mk1 (shut_bool Try.underlying4 _), (trodAll_cons_mk (Below.trod laidOut (by kernel_rfl) (of_decide_eq_true (by kernel_rfl)) k0 bel lt0) trodAll_mk0), rfl, bel.frame _, fun h => by cases h⟩
theorem closed : joinedFacts Try.prog 9 Try.f9 Rows.fnKeptWorkSpec Rows.fnKeptWorkRow = true :=
  facts_of mayEnter_ok liftsFinal_ok make_ok (by kernel_rfl)
theorem over : Rows.fnKeptWorkRow.holds Try.pinned (OpenSpec.ofChange Rows.fnKeptWorkSpec) :=
  OpenClaim.holds_of_wide 9 Try.f9 rfl rfl rfl rfl rfl rfl rfl ⟨rfl, rfl, rfl, rfl, rfl⟩ rfl rfl rfl rfl rfl (by kernel_rfl) Try.func9 closed
    (of_decide_eq_true (by kernel_rfl)) (by unfold Func.isWrapper; first | (rw [if_pos (by decide +kernel)]; kernel_rfl) | (rw [if_neg (by decide +kernel)]; exact ⟨rfl, rfl⟩))
    (fun os started H enc _ => lifted os started H enc)
/-- THE STATEMENT -/
theorem proved : Rows.FnKeptWorkSaid := over
end fnKeptWork
end Go.Proofs.Ytoljmhggkighnab
