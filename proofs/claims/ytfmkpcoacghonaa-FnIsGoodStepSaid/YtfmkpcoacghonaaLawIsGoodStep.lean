/- FnIsGoodStep: for every code the law returns true, and what was there is as it was. No condition. -/
import Derived.Test.YtfmkpcoacghonaaRows
import Derived.Test.YtfmkpcoacghonaaPaths
import Derived.Test.YtfmkpcoacghonaaLists
import Derived.Test.YtfmkpcoacghonaaDrawA
import Derived.Test.YtfmkpcoacghonaaOpen
set_option linter.unusedVariables false
set_option linter.unusedSimpArgs false
set_option linter.unnecessarySimpa false
namespace Go.Proofs.Ytfmkpcoacghonaa
open Go.RowKit

theorem lastRun_chk (bs : List Bool) (f g : Int) (h : chk bs f g = true) : bs.length ≤ 12 ∧ lastRun bs = (lrun bs : Nat) := by
  simp only [chk, Bool.and_eq_true, decide_eq_true_eq] at h
  exact ⟨h.1, by unfold lastRun; rw [if_neg (by omega)]⟩
theorem chk_nil (f g : Int) (bs : List Bool) (h : chk bs f g = true) : isGood [] f g = true := by
  simp only [chk, Bool.and_eq_true, decide_eq_true_eq] at h
  simp [isGood, chk, good_nil, h.2]
theorem nil_chk (f g : Int) (bs : List Bool) (h : isGood [] f g = true) (hl : bs.length ≤ 12) : chk bs f g = true := by
  simp only [isGood, chk, Bool.and_eq_true, decide_eq_true_eq] at h ⊢
  exact ⟨hl, h.1.2⟩
theorem last_le12 (bs : List Bool) (h : 0 ≤ lastRun bs) : bs.length ≤ 12 := by
  unfold lastRun at h
  split at h
  · omega
  · omega

set_option maxRecDepth 100000 in
set_option maxHeartbeats 2000000 in
theorem walk_FnIsGoodStep (zs : List Int) (A : Option Addr) (n c : Nat) (hN : zs.length = n) (hc : n ≤ c) (hm : c ≤ maxLen) {w : World} (h : Rd w A (zs.map (.int .u8))) (hz : ∀ z ∈ zs, 0 ≤ z ∧ z ≤ 255) :
    Calls Try.prog 10 #[.slice A n c] w fun e w' => e = .returned (.bool true) ∧ Below w.heap.size w w' := by
  have HD := Lib.hid (drawIsGood_c zs A n c w hN hc hm h hz)
  clear h hz hN
  unfold maxLen at hm
  by_cases hbig : 1048576 < n
  · go_enter Try.func10, Try.ntmps10
    go_wp2
    go_ret
    exact ⟨rfl, Below.refl _ _⟩
  · go_enter Try.func10, Try.ntmps10
    go_wp2_with fail
    refine HD.out.mono ?_
    rintro e w1 ⟨A1, c1, bs, f, g, rfl, hl, hf0, hf1, hg0, hg1, own1, b1⟩
    obtain ⟨v, hv⟩ : ∃ v, v = lastRun bs := ⟨_, rfl⟩
    obtain ⟨k, hk⟩ : ∃ k, k = isGood bs f g := ⟨_, rfl⟩
    obtain ⟨k0, hk0⟩ : ∃ k0, k0 = isGood [] f g := ⟨_, rfl⟩
    have HV := Lib.hid hv; clear hv
    have HK := Lib.hid hk; clear hk
    have HK0 := Lib.hid hk0; clear hk0
    have hcap := own_cap own1
    go_wp2_with fail
    refine (isGood_c bs f g _ _ _ _ rfl hcap (Rd.of_own own1) (by omega)).mono ?_
    rw [← HK.out]
    rintro e w2 ⟨rfl, b2'⟩
    have b2 : Below w.heap.size w w2 := b1.trans (b2'.mono b1.size)
    have own2 := own_below own1 b2'
    clear own1 b1 b2'
    go_wp2_with fail
    refine (sIsGood_c bs f g _ _ _ _ rfl hcap (Rd.of_own own2) (by omega)).mono ?_
    rw [← HK.out]
    rintro e w3 ⟨rfl, m3, rfl⟩
    go_wp2_with fail
    refine (lastRun_c bs _ _ _ _ rfl ((Rd.of_own own2).drewN _) (by omega)).mono ?_
    rw [← HV.out]
    rintro e w4 ⟨rfl, m4, rfl⟩
    by_cases hsm : v < 1
    · go_wp2_with fail
      refine (sIsGood_c bs f g _ _ _ _ rfl hcap ((Rd.of_own own2).drewN _) (by omega)).mono ?_
      rw [← HK.out]
      rintro e w9 ⟨rfl, m9, rfl⟩
      go_wp2_with fail
      go_ret
      exact ⟨rfl, below_drewN b2 _⟩
    · have r2 := Rd.of_own own2
      go_wp2_with fail
      refine (isGood_c [] f g _ _ _ _ rfl (by simp) (Rd.nil _ _) (by simp)).mono ?_
      rw [← HK0.out]
      rintro e w5 ⟨rfl, b5'⟩
      have b5 : Below w.heap.size w w5 := (below_drewN b2 (m3 + m4)).trans (b5'.mono b2.size)
      have own5 := own_below (own_drewN own2 (m3 + m4)) b5'
      clear own2 b2 b5' r2
      cases k0
      · go_wp2_with fail
        refine (sIsGood_c bs f g _ _ _ _ rfl hcap (Rd.of_own own5) (by omega)).mono ?_
        rw [← HK.out]
        rintro e w9 ⟨rfl, m9, rfl⟩
        go_wp2_with fail
        go_ret
        exact ⟨rfl, below_drewN b5 _⟩
      · have hchk := nil_chk f g bs HK0.out.symm (last_le12 bs (by rw [← HV.out]; omega))
        obtain ⟨hl12, hlr⟩ := lastRun_chk bs f g hchk
        obtain ⟨q, hql⟩ : ∃ q, q = lrun bs := ⟨_, rfl⟩
        rw [← HV.out, ← hql] at hlr
        subst hlr
        have hq1 : 1 ≤ q := by omega
        have hqle : q ≤ bs.length := by rw [hql]; exact lrun_le bs
        have hkg : k = good f g bs := by rw [HK.out, isGood, hchk]; simp
        have HKG := Lib.hid hkg
        have HQ := Lib.hid hql
        have HCHK := Lib.hid hchk
        clear hkg hql hchk hsm
        obtain ⟨x, hx⟩ : ∃ x, bs.getLast? = some x := by
          cases hb : bs.getLast? with
          | none => rw [List.getLast?_eq_none_iff] at hb; rw [hb] at hqle; simp at hqle; omega
          | some x => exact ⟨x, rfl⟩
        have hx' : bs[bs.length - 1]? = some x := by rw [← hx, List.getLast?_eq_getElem?]
        obtain ⟨hl1, hl2, hl3, hl4⟩ := good_last f g bs x hx
        rw [← HQ.out] at hl1 hl2 hl3 hl4
        rw [← HKG.out] at hl1 hl2 hl3 hl4
        have L1 := Lib.hid hl1; have L2 := Lib.hid hl2; have L3 := Lib.hid hl3; have L4 := Lib.hid hl4
        clear hl1 hl2 hl3 hl4
        have r5 := Rd.of_own own5
        have hdl : bs.dropLast = bs.take (bs.length - 1) := List.dropLast_eq_take
        have hchk' : chk (bs.take (bs.length - 1)) f g = true := by
          have h := HCHK.out
          simp only [chk, Bool.and_eq_true, decide_eq_true_eq] at h ⊢
          exact ⟨by simp; omega, h.2⟩
        obtain ⟨k1, hk1⟩ : ∃ k1, k1 = isGood (bs.take (bs.length - 1)) f g := ⟨_, rfl⟩
        have hk1' : k1 = good f g bs.dropLast := by rw [hk1, isGood, hchk', hdl]; simp
        rw [← HKG.out] at *
        have K1 := Lib.hid hk1
        have K1' := Lib.hid hk1'
        clear hk1 hk1' hchk' hdl
        obtain ⟨b, off, hA, hc1⟩ := r5 (by simp; omega)
        subst hA
        have hxc : w5.cell? ⟨b, off + (bs.length - 1), none⟩ = some (.bool x) := hc1 _ _ (by rw [List.getElem?_map, hx']; rfl)
        have R5 := Lib.hid r5
        clear hc1 hx hx' r5
        go_wp2_with fail
        refine (lastRun_c bs _ _ _ _ rfl R5.out (by omega)).mono ?_
        rw [← HV.out]
        rintro e w6 ⟨rfl, m6, rfl⟩
        have hb1 : (0 : Int) ≤ (bs.length : Int) - 1 := by omega
        go_wp2_with fail
        refine (isGood_c (bs.take (bs.length - 1)) f g _ _ _ _ (by simp <;> omega) (by omega) (by rw [List.map_take]; exact (R5.out.take _).drewN _) (by omega)).mono ?_
        rw [← K1.out]
        rintro e w7 ⟨rfl, b7'⟩
        have b7 : Below w.heap.size w w7 := (below_drewN b5 m6).trans (b7'.mono b5.size)
        have hxc7 : w7.cell? ⟨b, off + (bs.length - 1), none⟩ = some (.bool x) := (b7'.cell (World.block_lt_of_cell? (w5.drewN m6) _ hxc)).trans hxc
        clear b7' hxc
        cases x
        · by_cases hqf : f ≤ (q : Int)
          · go_wp2_with fail
            go_ret
            exact ⟨rfl, b7⟩
          · have hk := L4.out rfl (by omega)
            rw [← K1'.out] at hk
            subst hk
            have hqf' : decide (f ≤ (q : Int)) = false := by simpa using hqf
            go_wp2_with fail
            go_ret
            exact ⟨rfl, b7⟩
        · by_cases hqg : g ≤ (q : Int)
          · go_wp2_with fail
            go_ret
            exact ⟨rfl, b7⟩
          · have hk := L3.out rfl (by omega)
            rw [← K1'.out] at hk
            subst hk
            have hqg' : decide (g ≤ (q : Int)) = false := by simpa using hqg
            go_wp2_with fail
            go_ret
            exact ⟨rfl, b7⟩

namespace fnIsGoodStep
open Go.ChangeShapes Go.WideShapes Go.ChangeAt
open Go.ChangeMaps (open_string shut_string)
theorem own : ownKnob Try.prog.godebug = none := by kernel_rfl
theorem laidOut : laidOutB Try.prog = true := by kernel_rfl
set_option maxRecDepth 100000 in
theorem lifted (os : Os) (started : os.Started) (H : Type) (enc : TypeId × Value → H) :
    ReturnsInHanded {} Try.checked os 10 .any (Rows.fnIsGoodStepSpec.pre6 enc Try.prog Try.f10 Rows.fnIsGoodStepRow.domain false) (Rows.fnIsGoodStepSpec.post enc Try.prog Try.f10 false true false false) := by
  refine returnsInHanded_of_change (C := Try.checked) own started (by kernel_rfl) Try.func10
    (ChangeSpec.witness6 (enc := enc) (C := Try.checked) false ⟨#[], #[.slice none 0 0], []⟩ 8 (by kernel_rfl) (by kernel_rfl) (by kernel_rfl) (by kernel_rfl)) ?_
  intro W base args ds gs before hval0 hW hcnd _
  have hval : ∀ (j : Nat) t v, Try.f10.params[j]? = some t → args[j]? = some v → Value.okWide Try.prog W .any base t v := hval0
  have hW' := hW
  obtain ⟨p, q, hA0, hV, rfl, hfz, hnd⟩ := hW
  have hA : DataW.TrodAll enc Try.prog W 0 (fun _ => true) true Try.f10.params.toList args.toList ds p := hA0
  rw [Try.params10] at hA hval
  obtain ⟨v0, vs0, d0, ds0, p0, q0, hargs, rfl, rfl, h0, r0⟩ := trodAll_cons hA
  obtain ⟨rfl, rfl, rfl⟩ := trodAll_nil r0
  obtain rfl : args = #[v0] := by cases args; simp_all
  obtain ⟨rfl, rfl⟩ := trodVars_none hV
  obtain ⟨a0, n0, c0, rfl⟩ := okWide_slice Try.underlying27 (hval 0 27 v0 rfl rfl)
  have k0 := h0
  have lt0 : ∀ x ∈ p0, x.block < W.heap.size := by obtain ⟨m, hm⟩ := k0; exact DataW.trod_lt m _ _ _ hm
  obtain ⟨z0, e0, lc0, cm0, rd0, wf0⟩ := open_rd_int Try.underlying27 Try.underlying5 (by kernel_rfl) h0
  clear hA0 hval0
  refine (walk_FnIsGoodStep (w := W) z0 a0 n0 c0 e0 lc0 cm0 rd0 (fun x hx => wf_u8 (wf0 x hx))).mono fun e W' ⟨he, bel⟩ => ?_
  subst he
  exact ⟨_, rfl, _, _, _, [], _, [], hW', trodAll_mk1 (shut_bool Try.underlying4 _), (trodAll_cons_mk (Below.trod laidOut (by kernel_rfl) (of_decide_eq_true (by kernel_rfl)) k0 bel lt0) trodAll_mk0), rfl, bel.frame _, fun h => by cases h⟩
theorem over : Rows.fnIsGoodStepRow.holds Try.pinned (OpenSpec.ofChange Rows.fnIsGoodStepSpec) :=
  OpenClaim.holds_of_wide 10 Try.f10 rfl rfl rfl rfl rfl rfl rfl ⟨rfl, rfl, rfl, rfl, rfl⟩ rfl rfl rfl rfl rfl (by kernel_rfl) Try.func10 (by kernel_rfl)
    (of_decide_eq_true (by kernel_rfl)) (by unfold Func.isWrapper; first | (rw [if_pos (by decide +kernel)]; kernel_rfl) | (rw [if_neg (by decide +kernel)]; exact ⟨rfl, rfl⟩))
    (fun os started H enc _ => lifted os started H enc)
/-- THE STATEMENT -/
theorem proved : Rows.FnIsGoodStepSaid := over
end fnIsGoodStep
end Go.Proofs.Ytfmkpcoacghonaa
