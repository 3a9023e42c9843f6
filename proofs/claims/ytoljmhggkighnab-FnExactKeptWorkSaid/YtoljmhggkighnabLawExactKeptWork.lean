/- FnExactKeptWork: for every list of commands the law returns true, and what was there is as it was. No condition. -/
import Derived.Test.YtoljmhggkighnabRows
import Derived.Test.YtoljmhggkighnabNestLaw
import Derived.Test.YtoljmhggkighnabNestRunI
import Derived.Test.YtoljmhggkighnabOpenC
set_option linter.unusedVariables false
set_option linter.unusedSimpArgs false
set_option linter.unnecessarySimpa false
namespace Go.Proofs.Ytoljmhggkighnab
open Go.RowKit

set_option maxRecDepth 100000 in
set_option maxHeartbeats 2000000 in
theorem walk_FnExactKeptWork (ks : List Int) (A0 : Option Addr) (n0 c0 : Nat) (hN0 : ks.length = n0) (hc0 : n0 ≤ c0) (hm0 : c0 ≤ maxLen) {w : World} (h0 : Rd w A0 (ks.map (.int .i64))) (_ : ∀ x ∈ ks, -9223372036854775808 ≤ x ∧ x ≤ 9223372036854775807) :
    Calls Try.prog 8 #[.slice A0 n0 c0] w fun e w' => e = .returned (.bool true) ∧ Below w.heap.size w w' := by
  have HN0 := Lib.hid hN0; clear hN0
  have H0 := Lib.hid h0; clear h0
  unfold maxLen at hm0
  by_cases hbig0 : 1048576 < n0
  · go_enter Try.func8, Try.ntmps8
    go_wp2
    go_ret
    exact ⟨rfl, Below.refl _ _⟩
  have hlen0 : ks.length ≤ 1048576 := by have := HN0.out; omega
  obtain ⟨u, hu⟩ : ∃ u, u = keptV ks := ⟨_, rfl⟩
  have HU := Lib.hid hu; clear hu
  go_enter Try.func8, Try.ntmps8
  go_wp2_with fail
  refine (toInts_c ks _ _ _ _ HN0.out H0.out (by omega)).mono ?_
  rintro e w1 ⟨AS0, cS0, rfl, o1, b1'⟩
  have q1 : Row w1 w.heap.size 3 1 AS0 (ks).length cS0 ((ks).map (.int .i64)) := Row.of_own o1
  have hs1 := (Below.refl w.heap.size w).size
  have b1 : Below w.heap.size w w1 := (Below.refl w.heap.size w).trans (b1'.mono (Below.refl w.heap.size w).size)
  have rS01 : Row w1 w.heap.size 3 1 AS0 (ks).length cS0 ((ks).map (.int .i64)) := q1.mono hs1
  clear q1 o1 b1' hs1
  go_wp2_with fail
  refine (sKeptWork_c ks _ _ _ _ rfl rS01.le rS01.rd (by omega)).mono ?_
  rw [← HU.out]
  rintro e w2 ⟨rfl, b2'⟩
  have rS02 : Row w2 w.heap.size 3 1 AS0 (ks).length cS0 ((ks).map (.int .i64)) := rS01.below b2'
  have b2 : Below w.heap.size w w2 := b1.trans (b2'.mono b1.size)
  clear rS01 b1
  clear rS02
  go_wp2_with fail
  refine (toInts_c ks _ _ _ _ HN0.out (H0.out.below b2) (by omega)).mono ?_
  rintro e w3 ⟨AX0, cX0, rfl, o3, b3'⟩
  have q3 : Row w3 w2.heap.size 3 1 AX0 (ks).length cX0 ((ks).map (.int .i64)) := Row.of_own o3
  have hs3 := b2.size
  have b3 : Below w.heap.size w w3 := b2.trans (b3'.mono b2.size)
  clear  b2
  have rX03 : Row w3 w.heap.size 3 1 AX0 (ks).length cX0 ((ks).map (.int .i64)) := q3.mono hs3
  clear q3 o3 b3' hs3
  go_wp2_with fail
  refine (keptWork_c ks _ _ _ _ rfl rX03.le rX03.rd (by omega)).mono ?_
  rw [← HU.out]
  rintro e w4 ⟨rfl, b4'⟩
  have rX04 : Row w4 w.heap.size 3 1 AX0 (ks).length cX0 ((ks).map (.int .i64)) := rX03.below b4'
  have b4 : Below w.heap.size w w4 := b3.trans (b4'.mono b3.size)
  clear rX03 b3
  go_wp2_with fail
  refine (toInts_c ks _ _ _ _ HN0.out (H0.out.below b4) (by omega)).mono ?_
  rintro e w5 ⟨AY0, cY0, rfl, o5, b5'⟩
  have q5 : Row w5 w4.heap.size 3 1 AY0 (ks).length cY0 ((ks).map (.int .i64)) := Row.of_own o5
  have hs5 := b4.size
  have apX0Y0 := Lib.hid (row_apart rX04 q5 (Nat.le_refl _))
  have rX05 : Row w5 w.heap.size 3 1 AX0 (ks).length cX0 ((ks).map (.int .i64)) := rX04.below b5'
  have b5 : Below w.heap.size w w5 := b4.trans (b5'.mono b4.size)
  clear rX04 b4
  have rY05 : Row w5 w.heap.size 3 1 AY0 (ks).length cY0 ((ks).map (.int .i64)) := q5.mono hs5
  clear q5 o5 b5' hs5
  go_wp2_with fail
  refine (eqInts_c ks ks _ _ _ _ _ _ _ rfl rfl rX05.rd rY05.rd (by omega) (by omega)).mono ?_
  rw [decide_eq_true rfl]
  rintro e w6 ⟨rfl, m6, hw6⟩
  have rX06 : Row w6 w.heap.size 3 1 AX0 (ks).length cX0 ((ks).map (.int .i64)) := by rw [hw6]; exact rX05
  have rY06 : Row w6 w.heap.size 3 1 AY0 (ks).length cY0 ((ks).map (.int .i64)) := by rw [hw6]; exact rY05
  have b6 : Below w.heap.size w w6 := by rw [hw6]; exact below_drewN b5 _
  clear hw6 rX05 rY05 b5
  clear rY06
  go_wp2_with fail
  go_ret
  exact ⟨rfl, b6⟩

namespace fnExactKeptWork
open Go.ChangeShapes Go.WideShapes Go.ChangeAt
open Go.ChangeMaps (open_string shut_string)
theorem own : ownKnob Try.prog.godebug = none := by kernel_rfl
theorem laidOut : laidOutB Try.prog = true := by kernel_rfl
set_option maxRecDepth 100000 in
theorem lifted (os : Os) (started : os.Started) (H : Type) (enc : TypeId × Value → H) :
    ReturnsInHanded {} Try.checked os 8 .any (Rows.fnExactKeptWorkSpec.pre6 enc Try.prog Try.f8 Rows.fnExactKeptWorkRow.domain false) (Rows.fnExactKeptWorkSpec.post enc Try.prog Try.f8 false true false false) := by
  refine returnsInHanded_of_change (C := Try.checked) own started (by kernel_rfl) Try.func8
    (ChangeSpec.witness6 (enc := enc) (C := Try.checked) false ⟨#[], #[.slice none 0 0], []⟩ 8 (by kernel_rfl) (by kernel_rfl) (by kernel_rfl) (by kernel_rfl)) ?_
  intro W base args ds gs before hval0 hW hcnd _
  have hval : ∀ (j : Nat) t v, Try.f8.params[j]? = some t → args[j]? = some v → Value.okWide Try.prog W .any base t v := hval0
  have hW' := hW
  obtain ⟨p, q, hA0, hV, rfl, hfz, hnd⟩ := hW
  have hA : DataW.TrodAll enc Try.prog W 0 (fun _ => true) true Try.f8.params.toList args.toList ds p := hA0
  rw [Try.params8] at hA hval
  obtain ⟨v0, vs0, d0, ds0, p0, q0, hargs, rfl, rfl, h0, r0⟩ := trodAll_cons hA
  obtain ⟨rfl, rfl, rfl⟩ := trodAll_nil r0
  obtain rfl : args = #[v0] := by cases args; simp_all
  obtain ⟨rfl, rfl⟩ := trodVars_none hV
  obtain ⟨a0, n0, c0, rfl⟩ := okWide_slice Try.underlying23 (hval 0 23 v0 rfl rfl)
  have k0 := h0
  have lt0 : ∀ x ∈ p0, x.block < W.heap.size := by obtain ⟨m, hm⟩ := k0; exact DataW.trod_lt m _ _ _ hm
  obtain ⟨z0, e0, lc0, cm0, rd0, wf0⟩ := open_rd_int Try.underlying23 Try.underlying3 (by kernel_rfl) h0
  clear hA0 hval0
  refine (walk_FnExactKeptWork (w := W) z0 a0 n0 c0 e0 lc0 cm0 rd0 (fun x hx => wf_i64 (wf0 x hx))).mono fun e W' ⟨he, bel⟩ => ?_
  subst he
  exact ⟨_, rfl, _, _, _, [], _, [], hW', trodAll_mk1 (shut_bool Try.underlying4 _), (trodAll_cons_mk (Below.trod laidOut (by kernel_rfl) (of_decide_eq_true (by kernel_rfl)) k0 bel lt0) trodAll_mk0), rfl, bel.frame _, fun h => by cases h⟩
theorem closed : joinedFacts Try.prog 8 Try.f8 Rows.fnExactKeptWorkSpec Rows.fnExactKeptWorkRow = true :=
  facts_of mayEnter_ok liftsFinal_ok make_ok (by kernel_rfl)
theorem over : Rows.fnExactKeptWorkRow.holds Try.pinned (OpenSpec.ofChange Rows.fnExactKeptWorkSpec) :=
  OpenClaim.holds_of_wide 8 Try.f8 rfl rfl rfl rfl rfl rfl rfl ⟨rfl, rfl, rfl, rfl, rfl⟩ rfl rfl rfl rfl rfl (by kernel_rfl) Try.func8 closed
    (of_decide_eq_true (by kernel_rfl)) (by unfold Func.isWrapper; first | (rw [if_pos (by decide +kernel)]; kernel_rfl) | (rw [if_neg (by decide +kernel)]; exact ⟨rfl, rfl⟩))
    (fun os started H enc _ => lifted os started H enc)
/-- THE STATEMENT -/
theorem proved : Rows.FnExactKeptWorkSaid := over
end fnExactKeptWork
end Go.Proofs.Ytoljmhggkighnab
