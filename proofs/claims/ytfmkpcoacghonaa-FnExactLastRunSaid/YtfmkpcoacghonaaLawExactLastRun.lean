/- FnExactLastRun: for every list of bools the law returns true, and what was there is as it was. No condition. -/
import Derived.Test.YtfmkpcoacghonaaRows
import Derived.Test.YtfmkpcoacghonaaChecks
import Derived.Test.YtfmkpcoacghonaaLists
import Derived.Test.YtfmkpcoacghonaaOpen
set_option linter.unusedVariables false
set_option linter.unusedSimpArgs false
namespace Go.Proofs.Ytfmkpcoacghonaa
open Go.RowKit

set_option maxHeartbeats 1000000 in
theorem walk_FnExactLastRun (bs : List Bool) (A : Option Addr) (n c : Nat) (hN : bs.length = n) (hc : n ≤ c) (hm : c ≤ maxLen) {w : World} (h : Rd w A (bs.map .bool)) :
    Calls Try.prog 3 #[.slice A n c] w fun e w' => e = .returned (.bool true) ∧ Below w.heap.size w w' := by
  have HN := Lib.hid hN; clear hN
  have H := Lib.hid h; clear h
  unfold maxLen at hm
  by_cases hbig : 1048576 < n
  · go_enter Try.func3, Try.ntmps3
    go_wp2
    go_ret
    exact ⟨rfl, Below.refl _ _⟩
  · go_enter Try.func3, Try.ntmps3
    go_wp2_with fail
    refine (toBools_c bs _ _ _ _ HN.out H.out (by omega)).mono ?_
    rintro e w1 ⟨A1, c1, rfl, o1, b1⟩
    go_wp2_with fail
    refine (sLastRun_c bs _ _ _ _ rfl (Rd.of_own o1) (by have := HN.out; omega)).mono ?_
    rintro e w2 ⟨rfl, m2, rfl⟩
    have b2 : Below w.heap.size w (w1.drewN m2) := below_drewN b1 _
    clear b1 o1
    go_wp2_with fail
    refine (toBools_c bs _ _ _ _ HN.out (H.out.below b2) (by omega)).mono ?_
    rintro e w3 ⟨A3, c3, rfl, o3, b3⟩
    have b3' : Below w.heap.size w w3 := b2.trans (b3.mono b2.size)
    go_wp2_with fail
    refine (lastRun_c bs _ _ _ _ rfl (Rd.of_own o3) (by have := HN.out; omega)).mono ?_
    rintro e w4 ⟨rfl, m4, rfl⟩
    clear b2 b3
    go_wp2_with fail
    refine (toBools_c bs _ _ _ _ HN.out (H.out.below (below_drewN b3' _)) (by omega)).mono ?_
    rintro e w5 ⟨A5, c5, rfl, o5, b5⟩
    have b5' : Below w.heap.size w w5 := (below_drewN b3' m4).trans (b5.mono b3'.size)
    have r3 := (Rd.of_own (own_below (own_drewN o3 m4) b5))
    clear o3
    go_wp2_with fail
    refine (eqBools_c bs bs _ _ _ _ _ _ _ rfl rfl r3 (Rd.of_own o5) (by have := HN.out; omega) (by have := HN.out; omega)).mono ?_
    rw [decide_eq_true rfl]
    rintro e w6 ⟨rfl, m6, rfl⟩
    go_wp2_with fail
    go_ret
    exact ⟨rfl, below_drewN b5' _⟩

namespace fnExactLastRun
open Go.ChangeShapes Go.WideShapes Go.ChangeAt
open Go.ChangeMaps (open_string shut_string)
theorem own : ownKnob Try.prog.godebug = none := by kernel_rfl
theorem laidOut : laidOutB Try.prog = true := by kernel_rfl
set_option maxRecDepth 100000 in
theorem lifted (os : Os) (started : os.Started) (H : Type) (enc : TypeId × Value → H) :
    ReturnsInHanded {} Try.checked os 3 .any (Rows.fnExactLastRunSpec.pre6 enc Try.prog Try.f3 Rows.fnExactLastRunRow.domain false) (Rows.fnExactLastRunSpec.post enc Try.prog Try.f3 false true false false) := by
  refine returnsInHanded_of_change (C := Try.checked) own started (by kernel_rfl) Try.func3
    (ChangeSpec.witness6 (enc := enc) (C := Try.checked) false ⟨#[], #[.slice none 0 0], []⟩ 8 (by kernel_rfl) (by kernel_rfl) (by kernel_rfl) (by kernel_rfl)) ?_
  intro W base args ds gs before hval0 hW hcnd _
  have hval : ∀ (j : Nat) t v, Try.f3.params[j]? = some t → args[j]? = some v → Value.okWide Try.prog W .any base t v := hval0
  have hW' := hW
  obtain ⟨p, q, hA0, hV, rfl, hfz, hnd⟩ := hW
  have hA : DataW.TrodAll enc Try.prog W 0 (fun _ => true) true Try.f3.params.toList args.toList ds p := hA0
  rw [Try.params3] at hA hval
  obtain ⟨v0, vs0, d0, ds0, p0, q0, hargs, rfl, rfl, h0, r0⟩ := trodAll_cons hA
  obtain ⟨rfl, rfl, rfl⟩ := trodAll_nil r0
  obtain rfl : args = #[v0] := by cases args; simp_all
  obtain ⟨rfl, rfl⟩ := trodVars_none hV
  obtain ⟨a0, n0, c0, rfl⟩ := okWide_slice Try.underlying22 (hval 0 22 v0 rfl rfl)
  have k0 := h0
  have lt0 : ∀ x ∈ p0, x.block < W.heap.size := by obtain ⟨m, hm⟩ := k0; exact DataW.trod_lt m _ _ _ hm
  obtain ⟨z0, e0, lc0, cm0, rd0⟩ := open_rd_bool Try.underlying22 Try.underlying4 (by kernel_rfl) h0
  clear hA0 hval0
  refine (walk_FnExactLastRun (w := W) z0 a0 n0 c0 e0 lc0 cm0 rd0).mono fun e W' ⟨he, bel⟩ => ?_
  subst he
  exact ⟨_, rfl, _, _, _, [], _, [], hW', trodAll_mk1 (shut_bool Try.underlying4 _), (trodAll_cons_mk (Below.trod laidOut (by kernel_rfl) (of_decide_eq_true (by kernel_rfl)) k0 bel lt0) trodAll_mk0), rfl, bel.frame _, fun h => by cases h⟩
theorem over : Rows.fnExactLastRunRow.holds Try.pinned (OpenSpec.ofChange Rows.fnExactLastRunSpec) :=
  OpenClaim.holds_of_wide 3 Try.f3 rfl rfl rfl rfl rfl rfl rfl ⟨rfl, rfl, rfl, rfl, rfl⟩ rfl rfl rfl rfl rfl (by kernel_rfl) Try.func3 (by kernel_rfl)
    (of_decide_eq_true (by kernel_rfl)) (by unfold Func.isWrapper; first | (rw [if_pos (by decide +kernel)]; kernel_rfl) | (rw [if_neg (by decide +kernel)]; exact ⟨rfl, rfl⟩))
    (fun os started H enc _ => lifted os started H enc)
/-- THE STATEMENT -/
theorem proved : Rows.FnExactLastRunSaid := over
end fnExactLastRun
end Go.Proofs.Ytfmkpcoacghonaa
