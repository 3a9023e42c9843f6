/- FnWaitUnderAll: for every code the law returns true, and what was there is as it was. No condition. -/
import Derived.Test.YtjidcickkfaljaaRows
import Derived.Test.YtjidcickkfaljaaCntUnder
import Derived.Test.YtjidcickkfaljaaDrawW
import Derived.Test.YtjidcickkfaljaaPlainD
import Derived.Test.YtjidcickkfaljaaOpen
set_option linter.unusedVariables false
set_option linter.unusedSimpArgs false
set_option linter.unnecessarySimpa false
namespace Go.Proofs.Ytjidcickkfaljaa
open Go.RowKit

set_option maxRecDepth 100000 in
set_option maxHeartbeats 2000000 in
theorem walk_FnWaitUnderAll (zs : List Int) (A : Option Addr) (n c : Nat) (hN : zs.length = n) (hc : n ≤ c) (hm : c ≤ maxLen) {w : World} (h : Rd w A (zs.map (.int .u8))) (hz : ∀ z ∈ zs, 0 ≤ z ∧ z ≤ 255) :
    Calls Try.prog 7 #[.slice A n c] w fun e w' => e = .returned (.bool true) ∧ Below w.heap.size w w' := by
  have HD := Lib.hid (drawWaitUnder_c zs A n c w hN hc hm h hz)
  clear h hz hN
  unfold maxLen at hm
  by_cases hbig : 1048576 < n
  · go_enter Try.func7, Try.ntmps7
    go_wp2
    go_ret
    exact ⟨rfl, Below.refl _ _⟩
  · go_enter Try.func7, Try.ntmps7
    go_wp2_with fail
    refine HD.out.mono ?_
    rintro e w1 ⟨AP, cP, xs, p, rfl, hl1, hc1, hp0, hp1, fP, b1⟩
    obtain ⟨u, hu⟩ : ∃ u, u = wuVal xs p := ⟨_, rfl⟩
    obtain ⟨ok, hok⟩ : ∃ ok, ok = wuOk xs p := ⟨_, rfl⟩
    have HU := Lib.hid hu; have HO := Lib.hid hok; clear hu hok
    go_wp2_with fail
    refine (waitUnder_c xs p _ _ _ _ rfl hc1 fP.rd (by omega)).mono ?_
    rw [← HU.out, ← HO.out]
    rintro e w2 ⟨rfl, b2'⟩
    have rP2 : Frd w2 w.heap.size AP ((xs).map (.int .i64)) := fP.below b2'
    have b2 : Below w.heap.size w w2 := b1.trans (b2'.mono b1.size)
    clear fP b1
    go_wp2_with fail
    refine (sWaitUnder_c xs p _ _ _ _ rfl rP2.rd (by omega)).mono ?_
    rw [← HU.out, ← HO.out]
    rintro e w3 ⟨rfl, rfl⟩
    cases ok
    · go_wp2_with fail
      go_ret
      exact ⟨rfl, b2⟩
    · have ho := HO.out
      unfold wuOk at ho
      have ho' := ho.symm
      simp only [Bool.and_eq_true, decide_eq_true_eq, Bool.not_eq_true', decide_eq_false_iff_not] at ho'
      obtain ⟨hv, hp, hs0⟩ := ho'
      have hval : u = binTop (under xs p) := by rw [HU.out, wuVal, ← HO.out]; rfl
      obtain ⟨hx8, hxb⟩ := (validCounts_iff xs).1 hv
      clear ho
      have hle0 := under_mono xs p 100 hv hp.1 (by omega) (by omega)
      obtain ⟨q1, q2, q3⟩ := under_spec xs 100 hv ⟨by omega, by omega⟩
      have hlast := under_last xs hv
      have ho2 : wuOk xs 100 = true := by unfold wuOk; rw [hv, decide_eq_false hs0]; rfl
      obtain ⟨t, ht⟩ : ∃ t, t = wuVal xs 100 := ⟨_, rfl⟩
      have ht2 : t = binTop (lastPos xs xs.length : Nat) := by rw [ht, wuVal, ho2, hx8, ← hlast]; rfl
      have hle : u ≤ t := by rw [hval, ht2, hx8, ← hlast]; exact binTop_mono _ _ (by omega) (by omega) (by omega)
      have HT := Lib.hid ht; have HO2 := Lib.hid ho2; have HT2 := Lib.hid ht2
      have FP := Lib.hid rP2.rd
      clear ht ht2 ho2 hval hle0 q1 q2 q3 hv hs0 hx8 hxb hlast rP2
      go_wp2_with fail
      go_loop [9, 10] (fun l i => ∃ k : Nat, k ≤ xs.length ∧ i = .int .i64 k ∧ l = .int .i64 (lastPos xs k : Nat)) (fun _ i => xs.length - (intOf i).toNat)
      case atStart => exact ⟨0, Nat.zero_le _, rfl, rfl⟩
      case round =>
        obtain ⟨k, hk, rfl, rfl⟩ := hrel
        by_cases hlt : k < xs.length
        · obtain ⟨b, off, hA, hc⟩ := FP.out (by simp; omega)
          subst hA
          obtain ⟨x, hX⟩ : ∃ x, x = xs[k] := ⟨_, rfl⟩
          have hx : w2.cell? ⟨b, off + k, none⟩ = some (.int .i64 x) := hc _ _ (by simp [hX, hlt])
          have hst : lastPos xs (k + 1) = if 0 < x then k else lastPos xs k := by
            conv => lhs; unfold lastPos
            simp [List.getD, hlt, hX]
          have HST := Lib.hid hst
          clear hc hX hst
          by_cases hpos : 0 < x
          · go_wp2_with fail
            go_round
            case rel => exact ⟨k + 1, by omega, by go_num, by rw [HST.out, if_pos hpos]⟩
            case measure => simp [intOf]; omega
          · have hd : decide (0 < x) = false := decide_eq_false hpos
            go_wp2_with fail
            go_round
            case rel => exact ⟨k + 1, by omega, by go_num, by rw [HST.out, if_neg hpos]⟩
            case measure => simp [intOf]; omega
        · obtain rfl : k = xs.length := by omega
          obtain ⟨L, hL⟩ : ∃ L, L = lastPos xs xs.length := ⟨_, rfl⟩
          have ht2 := HT2.out
          rw [← hL] at ht2 ⊢
          have HT3 := Lib.hid ht2
          clear hL ht2 HT2
          go_wp2_with fail
          refine (waitUnder_c xs 100 _ _ _ _ rfl hc1 FP.out (by omega)).mono ?_
          rw [← HT.out, HO2.out]
          rintro e w4 ⟨rfl, b4'⟩
          have b4 : Below w.heap.size w w4 := b2.trans (b4'.mono b2.size)
          clear  b2
          go_wp2_with fail
          refine (binTop_c _ _).mono ?_
          rw [← HT3.out]
          rintro e w5 ⟨rfl, rfl⟩
          go_wp2_with fail
          go_ret
          exact ⟨ret_bool (by simp <;> omega), b4⟩

namespace fnWaitUnderAll
open Go.ChangeShapes Go.WideShapes Go.ChangeAt
open Go.ChangeMaps (open_string shut_string)
theorem own : ownKnob Try.prog.godebug = none := by kernel_rfl
theorem laidOut : laidOutB Try.prog = true := by kernel_rfl
set_option maxRecDepth 100000 in
theorem lifted (os : Os) (started : os.Started) (H : Type) (enc : TypeId × Value → H) :
    ReturnsInHanded {} Try.checked os 7 .any (Rows.fnWaitUnderAllSpec.pre6 enc Try.prog Try.f7 Rows.fnWaitUnderAllRow.domain false) (Rows.fnWaitUnderAllSpec.post enc Try.prog Try.f7 false true false false) := by
  refine returnsInHanded_of_change (C := Try.checked) own started (by kernel_rfl) Try.func7
    (ChangeSpec.witness6 (enc := enc) (C := Try.checked) false ⟨#[], #[.slice none 0 0], []⟩ 8 (by kernel_rfl) (by kernel_rfl) (by kernel_rfl) (by kernel_rfl)) ?_
  intro W base args ds gs before hval0 hW hcnd _
  have hval : ∀ (j : Nat) t v, Try.f7.params[j]? = some t → args[j]? = some v → Value.okWide Try.prog W .any base t v := hval0
  have hW' := hW
  obtain ⟨p, q, hA0, hV, rfl, hfz, hnd⟩ := hW
  have hA : DataW.TrodAll enc Try.prog W 0 (fun _ => true) true Try.f7.params.toList args.toList ds p := hA0
  rw [Try.params7] at hA hval
  obtain ⟨v0, vs0, d0, ds0, p0, q0, hargs, rfl, rfl, h0, r0⟩ := trodAll_cons hA
  obtain ⟨rfl, rfl, rfl⟩ := trodAll_nil r0
  obtain rfl : args = #[v0] := by cases args; simp_all
  obtain ⟨rfl, rfl⟩ := trodVars_none hV
  obtain ⟨a0, n0, c0, rfl⟩ := okWide_slice Try.underlying32 (hval 0 32 v0 rfl rfl)
  have k0 := h0
  have lt0 : ∀ x ∈ p0, x.block < W.heap.size := by obtain ⟨m, hm⟩ := k0; exact DataW.trod_lt m _ _ _ hm
  obtain ⟨z0, e0, lc0, cm0, rd0, wf0⟩ := open_rd_int Try.underlying32 Try.underlying5 (by kernel_rfl) h0
  clear hA0 hval0
  refine (walk_FnWaitUnderAll (w := W) z0 a0 n0 c0 e0 lc0 cm0 rd0 (fun x hx => wf_u8 (wf0 x hx))).mono fun e W' ⟨he, bel⟩ => ?_
  subst he
  exact ⟨_, rfl, _, _, _, [], _, [], hW', trodAll_mk1 (shut_bool Try.underlying4 _), (trodAll_cons_mk (Below.trod laidOut (by kernel_rfl) (of_decide_eq_true (by kernel_rfl)) k0 bel lt0) trodAll_mk0), rfl, bel.frame _, fun h => by cases h⟩
theorem closed : joinedFacts Try.prog 7 Try.f7 Rows.fnWaitUnderAllSpec Rows.fnWaitUnderAllRow = true :=
  facts_of mayEnter_ok liftsFinal_ok make_ok (by kernel_rfl)
theorem over : Rows.fnWaitUnderAllRow.holds Try.pinned (OpenSpec.ofChange Rows.fnWaitUnderAllSpec) :=
  OpenClaim.holds_of_wide 7 Try.f7 rfl rfl rfl rfl rfl rfl rfl ⟨rfl, rfl, rfl, rfl, rfl⟩ rfl rfl rfl rfl rfl (by kernel_rfl) Try.func7 closed
    (of_decide_eq_true (by kernel_rfl)) (by unfold Func.isWrapper; first | (rw [if_pos (by decide +kernel)]; kernel_rfl) | (rw [if_neg (by decide +kernel)]; exact ⟨rfl, rfl⟩))
    (fun os started H enc _ => lifted os started H enc)
/-- THE STATEMENT -/
theorem proved : Rows.FnWaitUnderAllSaid := over
end fnWaitUnderAll
end Go.Proofs.Ytjidcickkfaljaa
