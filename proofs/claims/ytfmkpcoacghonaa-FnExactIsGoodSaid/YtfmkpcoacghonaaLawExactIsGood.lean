/- FnExactIsGood: for every list of bools and all numbers the law returns true, and what was there is as it was. No condition. -/
import Derived.Test.YtfmkpcoacghonaaRows
import Derived.Test.YtfmkpcoacghonaaPaths
import Derived.Test.YtfmkpcoacghonaaLists
import Derived.Test.YtfmkpcoacghonaaOpen
set_option linter.unusedVariables false
set_option linter.unusedSimpArgs false
namespace Go.Proofs.Ytfmkpcoacghonaa
open Go.RowKit

set_option maxHeartbeats 1000000 in
theorem walk_FnExactIsGood (bs : List Bool) (A : Option Addr) (n c : Nat) (hN : bs.length = n) (hc : n ≤ c) (hm : c ≤ maxLen) {w : World} (h : Rd w A (bs.map .bool)) (f : Int) (_ : -9223372036854775808 ≤ f ∧ f ≤ 9223372036854775807) (g : Int) (_ : -9223372036854775808 ≤ g ∧ g ≤ 9223372036854775807) :
    Calls Try.prog 7 #[.slice A n c, .int .i64 f, .int .i64 g] w fun e w' => e = .returned (.bool true) ∧ Below w.heap.size w w' := by
  have HN := Lib.hid hN; clear hN
  have H := Lib.hid h; clear h
  unfold maxLen at hm
  by_cases hbig : 1048576 < n
  · go_enter Try.func7, Try.ntmps7
    go_wp2
    go_ret
    exact ⟨rfl, Below.refl _ _⟩
  · have hlen : bs.length ≤ 1099511627776 := by have := HN.out; omega
    go_enter Try.func7, Try.ntmps7
    go_wp2_with fail
    refine (toBools_c bs _ _ _ _ HN.out H.out (by omega)).mono ?_
    rintro e w1 ⟨A1, c1, rfl, o1, b1⟩
    go_wp2_with fail
    refine (sIsGood_c bs _ _ _ _ _ _ rfl (own_cap o1) (Rd.of_own o1) hlen).mono ?_
    rintro e w2 ⟨rfl, m2, rfl⟩
    have b2 : Below w.heap.size w (w1.drewN m2) := below_drewN b1 _
    clear b1 o1
    go_wp2_with fail
    refine (toBools_c bs _ _ _ _ HN.out (H.out.below b2) (by omega)).mono ?_
    rintro e w3 ⟨A3, c3, rfl, o3, b3⟩
    have b3' : Below w.heap.size w w3 := b2.trans (b3.mono b2.size)
    go_wp2_with fail
    refine (isGood_c bs _ _ _ _ _ _ rfl (own_cap o3) (Rd.of_own o3) hlen).mono ?_
    rintro e w4 ⟨rfl, b4⟩
    have b4' : Below w.heap.size w w4 := b3'.trans (b4.mono b3'.size)
    have o4 := own_below o3 b4
    clear b2 b3 b3' o3 b4
    have hself : (isGood bs f g != isGood bs f g) = false := by simp
    go_wp2_with fail
    refine (toBools_c bs _ _ _ _ HN.out (H.out.below b4') (by omega)).mono ?_
    rintro e w5 ⟨A5, c5, rfl, o5, b5⟩
    have b5' : Below w.heap.size w w5 := b4'.trans (b5.mono b4'.size)
    have o6 := own_below o4 b5
    clear o4
    go_wp2_with fail
    refine (eqBools_c bs bs _ _ _ _ _ _ _ rfl rfl (Rd.of_own o6) (Rd.of_own o5) hlen hlen).mono ?_
    rw [decide_eq_true rfl]
    rintro e w6 ⟨rfl, m6, rfl⟩
    go_wp2_with fail
    go_ret
    exact ⟨rfl, below_drewN b5' _⟩

namespace fnExactIsGood
open Go.ChangeShapes Go.WideShapes Go.ChangeAt
open Go.ChangeMaps (open_string shut_string)
theorem own : ownKnob Try.prog.godebug = none := by kernel_rfl
theorem laidOut : laidOutB Try.prog = true := by kernel_rfl
set_option maxRecDepth 100000 in
theorem lifted (os : Os) (started : os.Started) (H : Type) (enc : TypeId × Value → H) :
    ReturnsInHanded {} Try.checked os 7 .any (Rows.fnExactIsGoodSpec.pre6 enc Try.prog Try.f7 Rows.fnExactIsGoodRow.domain false) (Rows.fnExactIsGoodSpec.post enc Try.prog Try.f7 false true false false) := by
  refine returnsInHanded_of_change (C := Try.checked) own started (by kernel_rfl) Try.func7
    (ChangeSpec.witness6 (enc := enc) (C := Try.checked) false ⟨#[], #[.slice none 0 0, .int .i64 0, .int .i64 0], []⟩ 8 (by kernel_rfl) (by kernel_rfl) (by kernel_rfl) (by kernel_rfl)) ?_
  intro W base args ds gs before hval0 hW hcnd _
  have hval : ∀ (j : Nat) t v, Try.f7.params[j]? = some t → args[j]? = some v → Value.okWide Try.prog W .any base t v := hval0
  have hW' := hW
  obtain ⟨p, q, hA0, hV, rfl, hfz, hnd⟩ := hW
  have hA : DataW.TrodAll enc Try.prog W 0 (fun _ => true) true Try.f7.params.toList args.toList ds p := hA0
  rw [Try.params7] at hA hval
  obtain ⟨v0, vs0, d0, ds0, p0, q0, hargs, rfl, rfl, h0, r0⟩ := trodAll_cons hA
  obtain ⟨v1, vs1, d1, ds1, p1, q1, rfl, rfl, rfl, h1, r1⟩ := trodAll_cons r0
  obtain ⟨v2, vs2, d2, ds2, p2, q2, rfl, rfl, rfl, h2, r2⟩ := trodAll_cons r1
  obtain ⟨rfl, rfl, rfl⟩ := trodAll_nil r2
  obtain rfl : args = #[v0, v1, v2] := by cases args; simp_all
  obtain ⟨rfl, rfl⟩ := trodVars_none hV
  obtain ⟨a0, n0, c0, rfl⟩ := okWide_slice Try.underlying22 (hval 0 22 v0 rfl rfl)
  have k0 := h0
  have lt0 : ∀ x ∈ p0, x.block < W.heap.size := by obtain ⟨m, hm⟩ := k0; exact DataW.trod_lt m _ _ _ hm
  obtain ⟨z0, e0, lc0, cm0, rd0⟩ := open_rd_bool Try.underlying22 Try.underlying4 (by kernel_rfl) h0
  obtain ⟨x1, rfl, rfl, rfl, w1⟩ := open_int Try.underlying3 (hval 1 3 v1 rfl rfl) h1
  obtain ⟨x2, rfl, rfl, rfl, w2⟩ := open_int Try.underlying3 (hval 2 3 v2 rfl rfl) h2
  clear hA0 hval0
  refine (walk_FnExactIsGood (w := W) z0 a0 n0 c0 e0 lc0 cm0 rd0 x1 (wf_i64 w1) x2 (wf_i64 w2)).mono fun e W' ⟨he, bel⟩ => ?_
  subst he
  exact ⟨_, rfl, _, _, _, [], _, [], hW', trodAll_mk1 (shut_bool Try.underlying4 _), (trodAll_cons_mk (Below.trod laidOut (by kernel_rfl) (of_decide_eq_true (by kernel_rfl)) k0 bel lt0) (trodAll_cons_mk (shut_int Try.underlying3 w1) (trodAll_cons_mk (shut_int Try.underlying3 w2) trodAll_mk0))), rfl, bel.frame _, fun h => by cases h⟩
theorem over : Rows.fnExactIsGoodRow.holds Try.pinned (OpenSpec.ofChange Rows.fnExactIsGoodSpec) :=
  OpenClaim.holds_of_wide 7 Try.f7 rfl rfl rfl rfl rfl rfl rfl ⟨rfl, rfl, rfl, rfl, rfl⟩ rfl rfl rfl rfl rfl (by kernel_rfl) Try.func7 (by kernel_rfl)
    (of_decide_eq_true (by kernel_rfl)) (by unfold Func.isWrapper; first | (rw [if_pos (by decide +kernel)]; kernel_rfl) | (rw [if_neg (by decide +kernel)]; exact ⟨rfl, rfl⟩))
    (fun os started H enc _ => lifted os started H enc)
/-- THE STATEMENT -/
theorem proved : Rows.FnExactIsGoodSaid := over
end fnExactIsGood
end Go.Proofs.Ytfmkpcoacghonaa
