/- FnBinTop: for every code the law returns true, and what was there is as it was. No condition. -/
import Derived.Test.YtkohknoomlkmeaaRows
import Derived.Test.YtkohknoomlkmeaaWaits
import Derived.Test.YtkohknoomlkmeaaDrawB
import Derived.Test.YtkohknoomlkmeaaOpen
set_option linter.unusedVariables false
set_option linter.unusedSimpArgs false
set_option linter.unnecessarySimpa false
namespace Go.Proofs.Ytkohknoomlkmeaa
open Go.RowKit

theorem binTop_neg (v : Int) (h : ¬ (0 ≤ v ∧ v ≤ 7)) : binTop v = -1 := by unfold binTop; rw [if_neg h]
set_option maxRecDepth 100000 in
set_option maxHeartbeats 2000000 in
theorem walk_FnBinTop (zs : List Int) (A : Option Addr) (n c : Nat) (hN : zs.length = n) (hc : n ≤ c) (hm : c ≤ maxLen) {w : World} (h : Rd w A (zs.map (.int .u8))) (hz : ∀ z ∈ zs, 0 ≤ z ∧ z ≤ 255) :
    Calls Try.prog 8 #[.slice A n c] w fun e w' => e = .returned (.bool true) ∧ Below w.heap.size w w' := by
  have HD := Lib.hid (drawBinTop_c zs A n c w hN hc hm h hz)
  clear h hz hN
  unfold maxLen at hm
  by_cases hbig : 1048576 < n
  · go_enter Try.func8, Try.ntmps8
    go_wp2
    go_ret
    exact ⟨rfl, Below.refl _ _⟩
  · go_enter Try.func8, Try.ntmps8
    go_wp2_with fail
    refine HD.out.mono ?_
    rintro e w1 ⟨v, rfl, hv0, hv1, b1⟩
    by_cases hin : 0 ≤ v ∧ v ≤ 7
    · rcases topCases v hin with rfl | rfl | rfl | rfl | rfl | rfl | rfl | rfl
      all_goals
        clear hv0 hv1 hin
        go_wp2_with fail
        refine (binTop_c _ _).mono ?_
        simp (config := { decide := true }) only [binTop, topN, if_true, if_false]
        rintro e w2 ⟨rfl, rfl⟩
        go_wp2_with fail
        refine (sBinTop_c _ _).mono ?_
        simp (config := { decide := true }) only [binTop, topN, if_true, if_false]
        rintro e w2 ⟨rfl, rfl⟩
        go_wp2_with fail
        refine (binOf_c _ _).mono ?_
        simp (config := { decide := true }) only [binOf, binN, if_true, if_false]
        rintro e w2 ⟨rfl, rfl⟩
        go_wp2_with fail
        first
          | (go_ret; exact ⟨rfl, b1⟩)
          | (refine (binOf_c _ _).mono ?_
             simp (config := { decide := true }) only [binOf, binN, if_true, if_false]
             rintro e w2 ⟨rfl, rfl⟩
             go_wp2_with fail
             go_ret
             exact ⟨rfl, b1⟩)
    · have hv := binTop_neg v hin
      have HV := Lib.hid hv; clear hv
      go_wp2_with fail
      refine (binTop_c _ _).mono ?_
      rw [HV.out]
      rintro e w2 ⟨rfl, rfl⟩
      go_wp2_with fail
      refine (sBinTop_c _ _).mono ?_
      rw [HV.out]
      rintro e w2 ⟨rfl, rfl⟩
      go_wp2_with fail
      refine (sBinTop_c _ _).mono ?_
      rw [HV.out]
      rintro e w2 ⟨rfl, rfl⟩
      go_wp2_with fail
      go_ret
      exact ⟨rfl, b1⟩

namespace fnBinTop
open Go.ChangeShapes Go.WideShapes Go.ChangeAt
open Go.ChangeMaps (open_string shut_string)
theorem own : ownKnob Try.prog.godebug = none := by kernel_rfl
theorem laidOut : laidOutB Try.prog = true := by kernel_rfl
set_option maxRecDepth 100000 in
theorem lifted (os : Os) (started : os.Started) (H : Type) (enc : TypeId × Value → H) :
    ReturnsInHanded {} Try.checked os 8 .any (Rows.fnBinTopSpec.pre6 enc Try.prog Try.f8 Rows.fnBinTopRow.domain false) (Rows.fnBinTopSpec.post enc Try.prog Try.f8 false true false false) := by
  refine returnsInHanded_of_change (C := Try.checked) own started (by kernel_rfl) Try.func8
    (ChangeSpec.witness6 (enc := enc) (C := Try.checked) false ⟨#[], #[.slice none 0 0], []⟩ 8 (by kernel_rfl) (by kernel_rfl) (by kernel_rfl) (by kernel_rfl)) ?_
  intro W base args ds gs before hval0 hW hcnd _
  have hval : ∀ (j : Nat) t v, Try.f8.params[j]? = some t → args[j]? = some v → Value.okWide Try.prog W .any base t v := hval0
  have hW' := hW
  obtain ⟨p, q, hA0, hV, rfl, hfz, hnd⟩ := hW
  have hA : DataW.TrodAll enc Try.prog W 0 (fun _ => true) true Try.f8.params.toList args.toList ds p := hA0
  rw [Try.params8] at hA hval
  obtain ⟨v0, vs0, d0, ds0, p0, q0, hargs, rfl, rfl, h0, r0⟩ := trodAll_cons hA
  obtain ⟨rfl, rfl, rfl⟩ := trodAll_nil r0
  obtain rfl : args = #[v0] := by cases args; simp_all
  obtain ⟨rfl, rfl⟩ := trodVars_none hV
  obtain ⟨a0, n0, c0, rfl⟩ := okWide_slice Try.underlying28 (hval 0 28 v0 rfl rfl)
  have k0 := h0
  have lt0 : ∀ x ∈ p0, x.block < W.heap.size := by obtain ⟨m, hm⟩ := k0; exact DataW.trod_lt m _ _ _ hm
  obtain ⟨z0, e0, lc0, cm0, rd0, wf0⟩ := open_rd_int Try.underlying28 Try.underlying5 (by kernel_rfl) h0
  clear hA0 hval0
  refine (walk_FnBinTop (w := W) z0 a0 n0 c0 e0 lc0 cm0 rd0 (fun x hx => wf_u8 (wf0 x hx))).mono fun e W' ⟨he, bel⟩ => ?_
  subst he
  exact ⟨_, rfl, _, _, _, [], _, [], hW', trodAll_mk1 (shut_bool Try.underlying4 _), (trodAll_cons_mk (Below.trod laidOut (by kernel_rfl) (of_decide_eq_true (by kernel_rfl)) k0 bel lt0) trodAll_mk0), rfl, bel.frame _, fun h => by cases h⟩
theorem closed : joinedFacts Try.prog 8 Try.f8 Rows.fnBinTopSpec Rows.fnBinTopRow = true :=
  facts_of mayEnter_ok liftsFinal_ok make_ok (by kernel_rfl)
theorem over : Rows.fnBinTopRow.holds Try.pinned (OpenSpec.ofChange Rows.fnBinTopSpec) :=
  OpenClaim.holds_of_wide 8 Try.f8 rfl rfl rfl rfl rfl rfl rfl ⟨rfl, rfl, rfl, rfl, rfl⟩ rfl rfl rfl rfl rfl (by kernel_rfl) Try.func8 closed
    (of_decide_eq_true (by kernel_rfl)) (by unfold Func.isWrapper; first | (rw [if_pos (by decide +kernel)]; kernel_rfl) | (rw [if_neg (by decide +kernel)]; exact ⟨rfl, rfl⟩))
    (fun os started H enc _ => lifted os started H enc)
/-- THE STATEMENT -/
theorem proved : Rows.FnBinTopSaid := over
end fnBinTop
end Go.Proofs.Ytkohknoomlkmeaa
