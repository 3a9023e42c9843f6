/- FnWaitUnder: for every code the law returns true, and what was there is as it was. No condition. -/
import Derived.Test.YtjidcickkfaljaaRows
import Derived.Test.YtjidcickkfaljaaCntUnder
import Derived.Test.YtjidcickkfaljaaDrawW
import Derived.Test.YtjidcickkfaljaaPlainD
import Derived.Test.YtjidcickkfaljaaOpen
set_option linter.unusedVariables false
set_option linter.unusedSimpArgs false
set_option linter.unnecessarySimpa false
namespace Go.Proofs.Ytjidcickkfaljaa
open Go.RowKit

set_option maxRecDepth 100000 in
set_option maxHeartbeats 2000000 in
theorem walk_FnWaitUnder (zs : List Int) (A : Option Addr) (n c : Nat) (hN : zs.length = n) (hc : n ≤ c) (hm : c ≤ maxLen) {w : World} (h : Rd w A (zs.map (.int .u8))) (hz : ∀ z ∈ zs, 0 ≤ z ∧ z ≤ 255) :
    Calls Try.prog 11 #[.slice A n c] w fun e w' => e = .returned (.bool true) ∧ Below w.heap.size w w' := by
  have HD := Lib.hid (drawWaitUnder_c zs A n c w hN hc hm h hz)
  clear h hz hN
  unfold maxLen at hm
  by_cases hbig : 1048576 < n
  · go_enter Try.func11, Try.ntmps11
    go_wp2
    go_ret
    exact ⟨rfl, Below.refl _ _⟩
  · go_enter Try.func11, Try.ntmps11
    go_wp2_with fail
    refine HD.out.mono ?_
    rintro e w1 ⟨AP, cP, xs, p, rfl, hl1, hc1, hp0, hp1, fP, b1⟩
    obtain ⟨u, hu⟩ : ∃ u, u = wuVal xs p := ⟨_, rfl⟩
    obtain ⟨ok, hok⟩ : ∃ ok, ok = wuOk xs p := ⟨_, rfl⟩
    have HU := Lib.hid hu; have HO := Lib.hid hok; clear hu hok
    go_wp2_with fail
    refine (waitUnder_c xs p _ _ _ _ rfl hc1 fP.rd (by omega)).mono ?_
    rw [← HU.out, ← HO.out]
    rintro e w2 ⟨rfl, b2'⟩
    have rP2 : Frd w2 w.heap.size AP ((xs).map (.int .i64)) := fP.below b2'
    have b2 : Below w.heap.size w w2 := b1.trans (b2'.mono b1.size)
    clear fP b1
    go_wp2_with fail
    refine (sWaitUnder_c xs p _ _ _ _ rfl rP2.rd (by omega)).mono ?_
    rw [← HU.out, ← HO.out]
    rintro e w3 ⟨rfl, rfl⟩
    cases ok
    · go_wp2_with fail
      go_ret
      exact ⟨rfl, b2⟩
    · have ho := HO.out
      unfold wuOk at ho
      have ho' := ho.symm
      simp only [Bool.and_eq_true, decide_eq_true_eq, Bool.not_eq_true', decide_eq_false_iff_not] at ho'
      obtain ⟨hv, hp, hs0⟩ := ho'
      have hval : u = binTop (under xs p) := by rw [HU.out, wuVal, ← HO.out]; rfl
      obtain ⟨hx8, hxb⟩ := (validCounts_iff xs).1 hv
      clear ho
      obtain ⟨q1, q2, q3⟩ := under_spec xs p hv hp
      obtain ⟨d, hd⟩ : ∃ d, d = under xs p := ⟨_, rfl⟩
      rw [← hd] at hval q1 q2 q3
      obtain ⟨hbo, _⟩ := binOf_of_top d (by omega) (by omega)
      rw [← hval] at hbo
      have hsb := sumL_bd 0 100 xs hxb
      rw [hx8] at hsb
      have hz6 : ∀ z ∈ xs, 0 ≤ z ∧ z ≤ 1000000 := fun z hz => by have := hxb z hz; omega
      obtain ⟨S, hS⟩ : ∃ S, S = sumL xs := ⟨_, rfl⟩
      rw [← hS] at hsb q2 q3 hs0
      have hT0 : 0 ≤ p * S := Int.mul_nonneg hp.1 (by omega)
      have hT1 : p * S ≤ 80000 := by
        have h1 := Int.mul_le_mul_of_nonneg_right hp.2 (show 0 ≤ S by omega)
        omega
      have hS0 : 0 ≤ S := by omega
      have hS1 : S ≤ 800 := by omega
      obtain ⟨hp0, hp1⟩ := hp
      have hts := sumL_bd 0 100 (xs.take (d + 1)) (fun y hy => hxb y (List.mem_of_mem_take hy))
      have htl : (xs.take (d + 1)).length = d + 1 := by rw [List.length_take, hx8]; omega
      have hts2 := sumL_bd 0 100 (xs.take d) (fun y hy => hxb y (List.mem_of_mem_take hy))
      have htl2 : (xs.take d).length = d := by rw [List.length_take, hx8]; omega
      rw [htl] at hts; rw [htl2] at hts2
      obtain ⟨R, hR⟩ : ∃ R, R = sumL (xs.take (d + 1)) := ⟨_, rfl⟩
      obtain ⟨Q, hQ⟩ : ∃ Q, Q = sumL (xs.take d) := ⟨_, rfl⟩
      rw [← hR] at hts q2; rw [← hQ] at hts2
      have hR0 : 0 ≤ R := by omega
      have hR1 : R ≤ 800 := by omega
      have hQ0 : 0 ≤ Q := by omega
      have hQ1 : Q ≤ 800 := by omega
      have hq3 : d = 0 ∨ 100 * Q < p * S := by
        rcases Nat.eq_zero_or_pos d with h | h
        · exact .inl h
        · have := q3 (d - 1) (by omega)
          rw [show d - 1 + 1 = d by omega, ← hQ] at this
          exact .inr this
      have hdec : decide (p * S ≤ 100 * R) = true := decide_eq_true q2
      have hfr := rP2.rd
      have HR := Lib.hid (lsum_c (xs.take (d + 1)) AP (d + 1) cP w2 htl (by rw [List.map_take]; exact hfr.take _) (by omega) (fun y hy => hz6 y (List.mem_of_mem_take hy)))
      have HQ := Lib.hid (lsum_c (xs.take d) AP d cP w2 htl2 (by rw [List.map_take]; exact hfr.take _) (by omega) (fun y hy => hz6 y (List.mem_of_mem_take hy)))
      have HA := Lib.hid (lsum_c xs AP 8 cP w2 hx8 hfr (by omega) hz6)
      rw [hx8]
      have HBO := Lib.hid hbo; have HVAL := Lib.hid hval; have HSS := Lib.hid hS; have HRR := Lib.hid hR; have HQQ := Lib.hid hQ
      have HX8 := Lib.hid hx8
      have hl8 : 8 ≤ cP := by omega
      clear hbo hval hS hR hQ hd htl htl2 hz6 hxb hx8 q2 q3 hfr hsb hts hts2 hs0 hv rP2
      by_cases hd0 : d = 0
      · subst hd0
        have HVAL := Lib.hid (show u = binTop 0 from HVAL.out)
        clear hq3
        go_wp2_with fail
        refine (binOf_c _ _).mono ?_
        rw [HBO.out]
        rintro e w4 ⟨rfl, rfl⟩
        go_wp2_with fail
        refine (HA.out).mono ?_
        rw [← HSS.out]
        rintro e w5 ⟨rfl, rfl⟩
        go_wp2_with fail
        refine (HR.out).mono ?_
        rw [← HRR.out]
        rintro e w6 ⟨rfl, rfl⟩
        go_wp2_with fail
        refine (binTop_c _ _).mono ?_
        rw [← HVAL.out]
        rintro e w7 ⟨rfl, rfl⟩
        go_wp2_with fail
        go_ret
        exact ⟨rfl, b2⟩
      · have hd0' : ((d : Int) == 0) = false := beq_eq_false_iff_ne.2 (by omega)
        have hlt : 100 * Q < p * S := by omega
        have hdec2 : decide (100 * Q < p * S) = true := decide_eq_true hlt
        clear hq3
        go_wp2_with fail
        refine (binOf_c _ _).mono ?_
        rw [HBO.out]
        rintro e w4 ⟨rfl, rfl⟩
        go_wp2_with fail
        refine (HA.out).mono ?_
        rw [← HSS.out]
        rintro e w5 ⟨rfl, rfl⟩
        go_wp2_with fail
        refine (HR.out).mono ?_
        rw [← HRR.out]
        rintro e w6 ⟨rfl, rfl⟩
        go_wp2_with fail
        refine (HQ.out).mono ?_
        rw [← HQQ.out]
        rintro e w7 ⟨rfl, rfl⟩
        go_wp2_with fail
        refine (binTop_c _ _).mono ?_
        rw [← HVAL.out]
        rintro e w8 ⟨rfl, rfl⟩
        go_wp2_with fail
        go_ret
        exact ⟨rfl, b2⟩

namespace fnWaitUnder
open Go.ChangeShapes Go.WideShapes Go.ChangeAt
open Go.ChangeMaps (open_string shut_string)
theorem own : ownKnob Try.prog.godebug = none := by kernel_rfl
theorem laidOut : laidOutB Try.prog = true := by kernel_rfl
set_option maxRecDepth 100000 in
theorem lifted (os : Os) (started : os.Started) (H : Type) (enc : TypeId × Value → H) :
    ReturnsInHanded {} Try.checked os 11 .any (Rows.fnWaitUnderSpec.pre6 enc Try.prog Try.f11 Rows.fnWaitUnderRow.domain false) (Rows.fnWaitUnderSpec.post enc Try.prog Try.f11 false true false false) := by
  refine returnsInHanded_of_change (C := Try.checked) own started (by kernel_rfl) Try.func11
    (ChangeSpec.witness6 (enc := enc) (C := Try.checked) false ⟨#[], #[.slice none 0 0], []⟩ 8 (by kernel_rfl) (by kernel_rfl) (by kernel_rfl) (by kernel_rfl)) ?_
  intro W base args ds gs before hval0 hW hcnd _
  have hval : ∀ (j : Nat) t v, Try.f11.params[j]? = some t → args[j]? = some v → Value.okWide Try.prog W .any base t v := hval0
  have hW' := hW
  obtain ⟨p, q, hA0, hV, rfl, hfz, hnd⟩ := hW
  have hA : DataW.TrodAll enc Try.prog W 0 (fun _ => true) true Try.f11.params.toList args.toList ds p := hA0
  rw [Try.params11] at hA hval
  obtain ⟨v0, vs0, d0, ds0, p0, q0, hargs, rfl, rfl, h0, r0⟩ := trodAll_cons hA
  obtain ⟨rfl, rfl, rfl⟩ := trodAll_nil r0
  obtain rfl : args = #[v0] := by cases args; simp_all
  obtain ⟨rfl, rfl⟩ := trodVars_none hV
  obtain ⟨a0, n0, c0, rfl⟩ := okWide_slice Try.underlying32 (hval 0 32 v0 rfl rfl)
  have k0 := h0
  have lt0 : ∀ x ∈ p0, x.block < W.heap.size := by obtain ⟨m, hm⟩ := k0; exact DataW.trod_lt m _ _ _ hm
  obtain ⟨z0, e0, lc0, cm0, rd0, wf0⟩ := open_rd_int Try.underlying32 Try.underlying5 (by kernel_rfl) h0
  clear hA0 hval0
  refine (walk_FnWaitUnder (w := W) z0 a0 n0 c0 e0 lc0 cm0 rd0 (fun x hx => wf_u8 (wf0 x hx))).mono fun e W' ⟨he, bel⟩ => ?_
  subst he
  exact ⟨_, rfl, _, _, _, [], _, [], hW', trodAll_mk1 (shut_bool Try.underlying4 _), (trodAll_cons_mk (Below.trod laidOut (by kernel_rfl) (of_decide_eq_true (by kernel_rfl)) k0 bel lt0) trodAll_mk0), rfl, bel.frame _, fun h => by cases h⟩
theorem closed : joinedFacts Try.prog 11 Try.f11 Rows.fnWaitUnderSpec Rows.fnWaitUnderRow = true :=
  facts_of mayEnter_ok liftsFinal_ok make_ok (by kernel_rfl)
theorem over : Rows.fnWaitUnderRow.holds Try.pinned (OpenSpec.ofChange Rows.fnWaitUnderSpec) :=
  OpenClaim.holds_of_wide 11 Try.f11 rfl rfl rfl rfl rfl rfl rfl ⟨rfl, rfl, rfl, rfl, rfl⟩ rfl rfl rfl rfl rfl (by kernel_rfl) Try.func11 closed
    (of_decide_eq_true (by kernel_rfl)) (by unfold Func.isWrapper; first | (rw [if_pos (by decide +kernel)]; kernel_rfl) | (rw [if_neg (by decide +kernel)]; exact ⟨rfl, rfl⟩))
    (fun os started H enc _ => lifted os started H enc)
/-- THE STATEMENT -/
theorem proved : Rows.FnWaitUnderSaid := over
end fnWaitUnder
end Go.Proofs.Ytjidcickkfaljaa
