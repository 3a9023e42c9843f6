/- FnExactValidCounts: for every list of numbers the law returns true, and what was there is as it was. No condition. -/
import Derived.Test.YtkohknoomlkmeaaRows
import Derived.Test.YtkohknoomlkmeaaWaits
import Derived.Test.YtkohknoomlkmeaaLists
import Derived.Test.YtkohknoomlkmeaaOpen
set_option linter.unusedVariables false
set_option linter.unusedSimpArgs false
set_option linter.unnecessarySimpa false
namespace Go.Proofs.Ytkohknoomlkmeaa
open Go.RowKit

set_option maxRecDepth 100000 in
set_option maxHeartbeats 2000000 in
theorem walk_FnExactValidCounts (zs : List Int) (A : Option Addr) (n c : Nat) (hN : zs.length = n) (hc : n ≤ c) (hm : c ≤ maxLen) {w : World} (h : Rd w A (zs.map (.int .i64))) (_ : ∀ x ∈ zs, -9223372036854775808 ≤ x ∧ x ≤ 9223372036854775807) :
    Calls Try.prog 4 #[.slice A n c] w fun e w' => e = .returned (.bool true) ∧ Below w.heap.size w w' := by
  have HN := Lib.hid hN; clear hN
  have H := Lib.hid h; clear h
  unfold maxLen at hm
  by_cases hbig : 1048576 < n
  · go_enter Try.func4, Try.ntmps4
    go_wp2
    go_ret
    exact ⟨rfl, Below.refl _ _⟩
  · have hlen : zs.length ≤ 1048576 := by have := HN.out; omega
    go_enter Try.func4, Try.ntmps4
    go_wp2_with fail
    refine (toInts_c zs _ _ _ _ HN.out H.out (by omega)).mono ?_
    rintro e w1 ⟨A1, c1, rfl, o1, b1⟩
    go_wp2_with fail
    refine (sValidCounts_c zs _ _ _ _ rfl (Rd.of_own o1) (by omega)).mono ?_
    rintro e w2 ⟨rfl, rfl⟩
    clear o1
    go_wp2_with fail
    refine (toInts_c zs _ _ _ _ HN.out (H.out.below b1) (by omega)).mono ?_
    rintro e w3 ⟨A3, c3, rfl, o3, b3⟩
    have b3' : Below w.heap.size w w3 := b1.trans (b3.mono b1.size)
    clear b1 b3
    go_wp2_with fail
    refine (validCounts_c zs _ _ _ _ rfl (Rd.of_own o3) (by omega)).mono ?_
    rintro e w4 ⟨rfl, b4⟩
    have b4' : Below w.heap.size w w4 := b3'.trans (b4.mono b3'.size)
    have o4 := own_below o3 b4
    clear b4 b3' o3
    go_wp2_with fail
    refine (toInts_c zs _ _ _ _ HN.out (H.out.below b4') (by omega)).mono ?_
    rintro e w5 ⟨A5, c5, rfl, o5, b5⟩
    have b5' : Below w.heap.size w w5 := b4'.trans (b5.mono b4'.size)
    have o6 := own_below o4 b5
    clear b5 b4' o4
    go_wp2_with fail
    refine (eqInts_c zs zs _ _ _ _ _ _ _ rfl rfl (Rd.of_own o6) (Rd.of_own o5) (by omega) (by omega)).mono ?_
    rw [decide_eq_true rfl]
    rintro e w7 ⟨rfl, m7, rfl⟩
    go_wp2_with fail
    go_ret
    exact ⟨rfl, below_drewN b5' _⟩

namespace fnExactValidCounts
open Go.ChangeShapes Go.WideShapes Go.ChangeAt
open Go.ChangeMaps (open_string shut_string)
theorem own : ownKnob Try.prog.godebug = none := by kernel_rfl
theorem laidOut : laidOutB Try.prog = true := by kernel_rfl
set_option maxRecDepth 100000 in
theorem lifted (os : Os) (started : os.Started) (H : Type) (enc : TypeId × Value → H) :
    ReturnsInHanded {} Try.checked os 4 .any (Rows.fnExactValidCountsSpec.pre6 enc Try.prog Try.f4 Rows.fnExactValidCountsRow.domain false) (Rows.fnExactValidCountsSpec.post enc Try.prog Try.f4 false true false false) := by
  refine returnsInHanded_of_change (C := Try.checked) own started (by kernel_rfl) Try.func4
    (ChangeSpec.witness6 (enc := enc) (C := Try.checked) false ⟨#[], #[.slice none 0 0], []⟩ 8 (by kernel_rfl) (by kernel_rfl) (by kernel_rfl) (by kernel_rfl)) ?_
  intro W base args ds gs before hval0 hW hcnd _
  have hval : ∀ (j : Nat) t v, Try.f4.params[j]? = some t → args[j]? = some v → Value.okWide Try.prog W .any base t v := hval0
  have hW' := hW
  obtain ⟨p, q, hA0, hV, rfl, hfz, hnd⟩ := hW
  have hA : DataW.TrodAll enc Try.prog W 0 (fun _ => true) true Try.f4.params.toList args.toList ds p := hA0
  rw [Try.params4] at hA hval
  obtain ⟨v0, vs0, d0, ds0, p0, q0, hargs, rfl, rfl, h0, r0⟩ := trodAll_cons hA
  obtain ⟨rfl, rfl, rfl⟩ := trodAll_nil r0
  obtain rfl : args = #[v0] := by cases args; simp_all
  obtain ⟨rfl, rfl⟩ := trodVars_none hV
  obtain ⟨a0, n0, c0, rfl⟩ := okWide_slice Try.underlying24 (hval 0 24 v0 rfl rfl)
  have k0 := h0
  have lt0 : ∀ x ∈ p0, x.block < W.heap.size := by obtain ⟨m, hm⟩ := k0; exact DataW.trod_lt m _ _ _ hm
  obtain ⟨z0, e0, lc0, cm0, rd0, wf0⟩ := open_rd_int Try.underlying24 Try.underlying3 (by kernel_rfl) h0
  clear hA0 hval0
  refine (walk_FnExactValidCounts (w := W) z0 a0 n0 c0 e0 lc0 cm0 rd0 (fun x hx => wf_i64 (wf0 x hx))).mono fun e W' ⟨he, bel⟩ => ?_
  subst he
  exact ⟨_, rfl, _, _, _, [], _, [], hW', trodAll_mk1 (shut_bool Try.underlying4 _), (trodAll_cons_mk (Below.trod laidOut (by kernel_rfl) (of_decide_eq_true (by kernel_rfl)) k0 bel lt0) trodAll_mk0), rfl, bel.frame _, fun h => by cases h⟩
theorem closed : joinedFacts Try.prog 4 Try.f4 Rows.fnExactValidCountsSpec Rows.fnExactValidCountsRow = true :=
  facts_of mayEnter_ok liftsFinal_ok make_ok (by kernel_rfl)
theorem over : Rows.fnExactValidCountsRow.holds Try.pinned (OpenSpec.ofChange Rows.fnExactValidCountsSpec) :=
  OpenClaim.holds_of_wide 4 Try.f4 rfl rfl rfl rfl rfl rfl rfl ⟨rfl, rfl, rfl, rfl, rfl⟩ rfl rfl rfl rfl rfl (by kernel_rfl) Try.func4 closed
    (of_decide_eq_true (by kernel_rfl)) (by unfold Func.isWrapper; first | (rw [if_pos (by decide +kernel)]; kernel_rfl) | (rw [if_neg (by decide +kernel)]; exact ⟨rfl, rfl⟩))
    (fun os started H enc _ => lifted os started H enc)
/-- THE STATEMENT -/
theorem proved : Rows.FnExactValidCountsSaid := over
end fnExactValidCounts
end Go.Proofs.Ytkohknoomlkmeaa
