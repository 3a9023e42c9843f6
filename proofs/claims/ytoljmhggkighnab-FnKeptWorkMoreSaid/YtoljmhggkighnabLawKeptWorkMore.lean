/- FnKeptWorkMore: for every code the law returns true, and what was there is as it was. No condition. -/
import Derived.Test.YtoljmhggkighnabRows
import Derived.Test.YtoljmhggkighnabNestLaw
import Derived.Test.YtoljmhggkighnabNestDraw
import Derived.Test.YtoljmhggkighnabOpenC
import Derived.Test.YtoljmhggkighnabNestRunI
set_option linter.unusedVariables false
set_option linter.unusedSimpArgs false
set_option linter.unnecessarySimpa false
namespace Go.Proofs.Ytoljmhggkighnab
open Go.RowKit

set_option maxRecDepth 100000 in
set_option maxHeartbeats 16000000 in
theorem walk_FnKeptWorkMore (zs : List Int) (A : Option Addr) (n c : Nat) (hN : zs.length = n) (hc : n ≤ c) (hm : c ≤ maxLen) {w : World} (h : Rd w A (zs.map (.int .u8))) (hz : ∀ z ∈ zs, 0 ≤ z ∧ z ≤ 255) :
    Calls Try.prog 10 #[.slice A n c] w fun e w' => e = .returned (.bool true) ∧ Below w.heap.size w w' := by
  have HD := Lib.hid (drawKeptWork_c zs A n c w hN hc hm h hz)
  clear h hz hN
  unfold maxLen at hm
  by_cases hbig : 1048576 < n
  · go_enter Try.func10, Try.ntmps10
    go_wp2
    go_ret
    exact ⟨rfl, Below.refl _ _⟩
  · go_enter Try.func10, Try.ntmps10
    go_wp2_with fail
    refine HD.out.mono ?_
    rintro e w1 ⟨AP, cP, ks, rfl, hl, hcP, fP, b1⟩
    have EB1 := Lib.hid b1; clear b1
    have H0 := Lib.hid fP.rd; clear fP
    obtain ⟨u, hu⟩ : ∃ u, u = keptV ks := ⟨_, rfl⟩
    have HU := Lib.hid hu.symm; clear hu
    go_wp2_with fail
    refine (keptWork_c ks _ _ _ _ rfl hcP (Rd.below (w' := w1) H0.out (Below.refl w1.heap.size w1)) (by omega)).mono ?_
    rw [HU.out]
    rintro e w2 ⟨rfl, b2⟩
    have hb2 : Below w1.heap.size w1 w2 := (Below.refl w1.heap.size w1).trans (b2.mono (Below.refl w1.heap.size w1).size)
    have EB2 := Lib.hid hb2; clear hb2
    clear  b2
    go_wp2_with fail
    refine (sKeptWork_c ks _ _ _ _ rfl hcP (Rd.below (w' := w2) H0.out EB2.out) (by omega)).mono ?_
    rw [HU.out]
    rintro e w3 ⟨rfl, b3⟩
    have hb3 : Below w1.heap.size w1 w3 := EB2.out.trans (b3.mono EB2.out.size)
    have EB3 := Lib.hid hb3; clear hb3
    clear EB2 b3
    by_cases h16 : ks.length ≤ 16
    · have hue : u = kept ks := by rw [← HU.out]; unfold keptV; rw [if_pos h16]
      have hu0 : 0 ≤ u := by rw [hue]; exact (kept_bd ks).1
      have hu1 : u ≤ ks.length := by rw [hue]; exact (kept_bd ks).2
      have HUE := Lib.hid hue; clear hue
      rcases Nat.eq_zero_or_pos ks.length with h0 | h0
      · have h0' : ((ks.length : Int) == 0) = true := by simp [h0]
        clear h0
        go_wp2_with fail
        refine (sKeptWork_c ks _ _ _ _ rfl hcP (Rd.below (w' := w3) H0.out EB3.out) (by omega)).mono ?_
        rw [HU.out]
        rintro e w4 ⟨rfl, b4⟩
        have hb4 : Below w1.heap.size w1 w4 := EB3.out.trans (b4.mono EB3.out.size)
        have EB4 := Lib.hid hb4; clear hb4
        clear EB3 b4
        go_wp2_with fail
        go_ret
        exact ⟨by first | rfl | simp | trivial, EB1.out.trans (EB4.out.mono EB1.out.size)⟩
      · have h0' : ((ks.length : Int) == 0) = false := beq_eq_false_iff_ne.2 (by omega)
        obtain ⟨la, x, hks⟩ := exists_snoc ks (by omega)
        have htk : ks.take (ks.length - 1) = la := by rw [hks]; simp
        have hx : (ks.map (Value.int .i64))[ks.length - 1]? = some (.int .i64 x) := by rw [hks]; simp
        have hla : (ks.take (ks.length - 1)).length ≤ 16 := by rw [List.length_take]; omega
        obtain ⟨t, ht⟩ : ∃ t, t = runV (ks.take (ks.length - 1)) := ⟨_, rfl⟩
        obtain ⟨m, hm0⟩ : ∃ m, m = missV (ks.take (ks.length - 1)) := ⟨_, rfl⟩
        obtain ⟨q, hq⟩ : ∃ q, q = keptV (ks.take (ks.length - 1)) := ⟨_, rfl⟩
        have hmore : u = q ∨ u = q + t.work ∧ x = 3 := by
          have h1 := kept_more la x
          rw [← hks] at h1
          have h2 : q = kept la := by rw [hq]; unfold keptV; rw [if_pos hla, htk]
          have h3 : t = runS la := by rw [ht]; unfold runV; rw [if_pos hla, htk]
          rw [HUE.out, h2, h3]; exact h1
        have hbd : t.marks.length ≤ 4 := by rw [ht]; exact runV_le _
        have hwk : 0 ≤ t.work ∧ t.work ≤ 12 := by rw [ht]; exact runV_work _
        have hq0 : -1 ≤ q ∧ q ≤ 18 := by rw [hq]; unfold keptV; split <;> first | (have := kept_bd (ks.take (ks.length - 1)); omega) | omega
        have HT := Lib.hid ht.symm; have HM := Lib.hid hm0.symm; have HQ := Lib.hid hq.symm; have HMORE := Lib.hid hmore; have HX := Lib.hid hx
        obtain ⟨tk, zs, tb⟩ := t
        simp only at hbd hwk
        obtain ⟨hwk0, hwk1⟩ := hwk
        obtain ⟨hq0, hq1⟩ := hq0
        clear ht hm0 hq hmore hx htk hla hks
        go_wp2_with fail
        refine (keptWork_c (ks.take (ks.length - 1)) _ (ks.length - 1) cP _ (by simp <;> omega) (by omega) (by rw [List.map_take]; exact Rd.take (Rd.below (w' := w3) H0.out EB3.out) _) (by omega)).mono ?_
        rw [HQ.out]
        rintro e w4 ⟨rfl, b4⟩
        have hb4 : Below w1.heap.size w1 w4 := EB3.out.trans (b4.mono EB3.out.size)
        have EB4 := Lib.hid hb4; clear hb4
        clear EB3 b4
        go_wp2_with fail
        refine (runNest_c (ks.take (ks.length - 1)) _ (ks.length - 1) cP _ (by simp <;> omega) (by omega) (by rw [List.map_take]; exact Rd.take (Rd.below (w' := w4) H0.out EB4.out) _) (by omega)).mono ?_
        rw [HT.out, HM.out]
        rintro e w5 ⟨AK, cK, rfl, q5, b5⟩
        have r5 : Row w5 w4.heap.size 3 1 AK (zs).length cK ((zs).map (.int .i64)) := q5
        have R5 := Lib.hid (r5.mono EB4.out.size); clear r5 q5
        have hb5 : Below w1.heap.size w1 w5 := EB4.out.trans (b5.mono EB4.out.size)
        have EB5 := Lib.hid hb5; clear hb5
        clear EB4 b5
        have hmore := HMORE.out
        try simp only at hmore
        obtain ⟨bK, offK, hAK, hcK⟩ := Rd.below (w' := w5) H0.out EB5.out (by simp; omega)
        subst hAK
        have hxc : w5.cell? ⟨bK, offK + (ks.length - 1), none⟩ = some (.int .i64 x) := hcK _ _ HX.out
        have hbk := World.block_lt_of_cell? w5 _ hxc
        simp only at hbk
        have hbk2 : ¬ bK = w5.heap.size := by omega
        have hbk3 : ¬ w5.heap.size = bK := by omega
        clear hcK
        by_cases hqu : q = u
        · subst hqu
          clear hmore
          go_wp2_with fail
          go_ret
          exact ⟨by first | rfl | (simp; done), EB1.out.trans ((EB5.out.alloc EB5.out.size _).mono EB1.out.size)⟩
        · have hqe : (q == u) = false := beq_eq_false_iff_ne.2 hqu
          obtain ⟨hm2, rfl⟩ : u = q + tk ∧ x = 3 := by rcases hmore with h | h; exact absurd h.symm hqu; exact h
          have hm3 : (u == q + tk) = true := beq_iff_eq.2 hm2
          clear hmore hm2 hqu
          go_wp2_with fail
          go_ret
          exact ⟨by first | rfl | (simp [hm3]; done) | (simp; omega), EB1.out.trans ((EB5.out.alloc EB5.out.size _).mono EB1.out.size)⟩
    · have hu0 : u < 0 := by rw [← HU.out]; unfold keptV; rw [if_neg h16]; decide
      go_wp2_with fail
      refine (sKeptWork_c ks _ _ _ _ rfl hcP (Rd.below (w' := w3) H0.out EB3.out) (by omega)).mono ?_
      rw [HU.out]
      rintro e w4 ⟨rfl, b4⟩
      have hb4 : Below w1.heap.size w1 w4 := EB3.out.trans (b4.mono EB3.out.size)
      have EB4 := Lib.hid hb4; clear hb4
      clear EB3 b4
      go_wp2_with fail
      go_ret
      exact ⟨by first | rfl | simp | trivial, EB1.out.trans (EB4.out.mono EB1.out.size)⟩

namespace fnKeptWorkMore
open Go.ChangeShapes Go.WideShapes Go.ChangeAt
open Go.ChangeMaps (open_string shut_string)
theorem own : ownKnob Try.prog.godebug = none := by kernel_rfl
theorem laidOut : laidOutB Try.prog = true := by kernel_rfl
set_option maxRecDepth 100000 in
theorem lifted (os : Os) (started : os.Started) (H : Type) (enc : TypeId × Value → H) :
    ReturnsInHanded {} Try.checked os 10 .any (Rows.fnKeptWorkMoreSpec.pre6 enc Try.prog Try.f10 Rows.fnKeptWorkMoreRow.domain false) (Rows.fnKeptWorkMoreSpec.post enc Try.prog Try.f10 false true false false) := by
  refine returnsInHanded_of_change (C := Try.checked) own started (by kernel_rfl) Try.func10
    (ChangeSpec.witness6 (enc := enc) (C := Try.checked) false ⟨#[], #[.slice none 0 0], []⟩ 8 (by kernel_rfl) (by kernel_rfl) (by kernel_rfl) (by kernel_rfl)) ?_
  intro W base args ds gs before hval0 hW hcnd _
  have hval : ∀ (j : Nat) t v, Try.f10.params[j]? = some t → args[j]? = some v → Value.okWide Try.prog W .any base t v := hval0
  have hW' := hW
  obtain ⟨p, q, hA0, hV, rfl, hfz, hnd⟩ := hW
  have hA : DataW.TrodAll enc Try.prog W 0 (fun _ => true) true Try.f10.params.toList args.toList ds p := hA0
  rw [Try.params10] at hA hval
  obtain ⟨v0, vs0, d0, ds0, p0, q0, hargs, rfl, rfl, h0, r0⟩ := trodAll_cons hA
  obtain ⟨rfl, rfl, rfl⟩ := trodAll_nil r0
  obtain rfl : args = #[v0] := by cases args; simp_all
  obtain ⟨rfl, rfl⟩ := trodVars_none hV
  obtain ⟨a0, n0, c0, rfl⟩ := okWide_slice Try.underlying22 (hval 0 22 v0 rfl rfl)
  have k0 := h0
  have lt0 : ∀ x ∈ p0, x.block < W.heap.size := by obtain ⟨m, hm⟩ := k0; exact DataW.trod_lt m _ _ _ hm
  obtain ⟨z0, e0, lc0, cm0, rd0, wf0⟩ := open_rd_int Try.underlying22 Try.underlying5 (by kernel_rfl) h0
  clear hA0 hval0
  refine (walk_FnKeptWorkMore (w := W) z0 a0 n0 c0 e0 lc0 cm0 rd0 (fun x hx => wf_u8 (wf0 x hx))).mono fun e W' ⟨he, bel⟩ => ?_
  subst he
  exact ⟨_, rfl, _, _, _, [], _, [], hW', trodAll_mk1 (shut_bool Try.underlying4 _), (trodAll_cons_mk (Below.trod laidOut (by kernel_rfl) (of_decide_eq_true (by kernel_rfl)) k0 bel lt0) trodAll_mk0), rfl, bel.frame _, fun h => by cases h⟩
theorem closed : joinedFacts Try.prog 10 Try.f10 Rows.fnKeptWorkMoreSpec Rows.fnKeptWorkMoreRow = true :=
  facts_of mayEnter_ok liftsFinal_ok make_ok (by kernel_rfl)
theorem over : Rows.fnKeptWorkMoreRow.holds Try.pinned (OpenSpec.ofChange Rows.fnKeptWorkMoreSpec) :=
  OpenClaim.holds_of_wide 10 Try.f10 rfl rfl rfl rfl rfl rfl rfl ⟨rfl, rfl, rfl, rfl, rfl⟩ rfl rfl rfl rfl rfl (by kernel_rfl) Try.func10 closed
    (of_decide_eq_true (by kernel_rfl)) (by unfold Func.isWrapper; first | (rw [if_pos (by decide +kernel)]; kernel_rfl) | (rw [if_neg (by decide +kernel)]; exact ⟨rfl, rfl⟩))
    (fun os started H enc _ => lifted os started H enc)
/-- THE STATEMENT -/
theorem proved : Rows.FnKeptWorkMoreSaid := over
end fnKeptWorkMore
end Go.Proofs.Ytoljmhggkighnab
