/- FnLastRunParts: for every code the law returns true, and what was there is as it was. No condition. -/
import Derived.Test.YtfmkpcoacghonaaRows
import Derived.Test.YtfmkpcoacghonaaChecks
import Derived.Test.YtfmkpcoacghonaaLists
import Derived.Test.YtfmkpcoacghonaaDrawA
import Derived.Test.YtfmkpcoacghonaaOpen
set_option linter.unusedVariables false
set_option linter.unusedSimpArgs false
set_option linter.unnecessarySimpa false
namespace Go.Proofs.Ytfmkpcoacghonaa
open Go.RowKit

theorem lastRun_ge (bs : List Bool) (h : 1 ≤ lastRun bs) : ((1 ≤ bs.length ∧ bs.length ≤ 12) ∧ lastRun bs ≤ bs.length) ∧ lastRun bs = (lrun bs : Nat) := by
  unfold lastRun at h
  split at h
  · omega
  · rename_i h12
    have := lrun_le bs
    unfold lastRun
    rw [if_neg h12]
    omega
theorem lastRun_drop (bs : List Bool) (q : Nat) (h : lrun bs = q) (h12 : bs.length ≤ 12) : lastRun (bs.drop (bs.length - q)) = q := by
  subst h
  unfold lastRun
  rw [if_neg (by simp; omega), lrun_drop]

set_option maxRecDepth 100000 in
set_option maxHeartbeats 2000000 in
theorem walk_FnLastRunParts (zs : List Int) (A : Option Addr) (n c : Nat) (hN : zs.length = n) (hc : n ≤ c) (hm : c ≤ maxLen) {w : World} (h : Rd w A (zs.map (.int .u8))) (hz : ∀ z ∈ zs, 0 ≤ z ∧ z ≤ 255) :
    Calls Try.prog 5 #[.slice A n c] w fun e w' => e = .returned (.bool true) ∧ Below w.heap.size w w' := by
  have HD := Lib.hid (drawLastRun_c zs A n c w hN hc hm h hz)
  clear h hz hN
  unfold maxLen at hm
  by_cases hbig : 1048576 < n
  · go_enter Try.func5, Try.ntmps5
    go_wp2
    go_ret
    exact ⟨rfl, Below.refl _ _⟩
  · go_enter Try.func5, Try.ntmps5
    go_wp2_with fail
    refine HD.out.mono ?_
    rintro e w1 ⟨A1, c1, bs, rfl, hl, own1, b1⟩
    obtain ⟨v, hv⟩ : ∃ v, v = lastRun bs := ⟨_, rfl⟩
    have HV := Lib.hid hv; clear hv
    have r1 := Rd.of_own own1
    have hcap := own_cap own1
    go_wp2_with fail
    refine (lastRun_c bs _ _ _ _ rfl r1 (by omega)).mono ?_
    rw [← HV.out]
    rintro e w2 ⟨rfl, m2, rfl⟩
    go_wp2_with fail
    refine (sLastRun_c bs _ _ _ _ rfl (r1.drewN m2) (by omega)).mono ?_
    rw [← HV.out]
    rintro e w3 ⟨rfl, m3, rfl⟩
    by_cases hsm : v < 1
    · go_wp2_with fail
      refine (sLastRun_c bs _ _ _ _ rfl (r1.drewN _) (by omega)).mono ?_
      rw [← HV.out]
      rintro e w4 ⟨rfl, m4, rfl⟩
      go_wp2_with fail
      go_ret
      exact ⟨rfl, below_drewN b1 _⟩
    · obtain ⟨⟨hsml, hv12⟩, hq⟩ := lastRun_ge bs (by rw [← HV.out]; omega)
      rw [← HV.out] at hv12 hq
      obtain ⟨q, hql⟩ : ∃ q, q = lrun bs := ⟨_, rfl⟩
      rw [← hql] at hq
      subst hq
      have hq1 : 1 ≤ q := by omega
      have hq2 : q ≤ bs.length := by omega
      have HQ := Lib.hid hql; clear hql
      have hcut := (r1.cut (k := bs.length - q) (n := bs.length) (cap := c1) (by simp) (by omega) hcap)
      rw [if_neg (by omega)] at hcut
      have HC := Lib.hid hcut; clear hcut
      have hd := lastRun_drop bs q HQ.out.symm (by omega)
      have HD2 := Lib.hid hd; clear hd
      have hb1 : (0 : Int) ≤ (bs.length : Int) - (q : Int) := by omega
      go_wp2_with fail
      refine (lastRun_c (bs.drop (bs.length - q)) _ _ _ _ (by simp <;> omega) (by rw [List.map_drop]; exact HC.out.drewN _) (by omega)).mono ?_
      rw [HD2.out]
      rintro e w4 ⟨rfl, m4, rfl⟩
      go_wp2_with fail
      go_ret
      exact ⟨rfl, below_drewN b1 _⟩

namespace fnLastRunParts
open Go.ChangeShapes Go.WideShapes Go.ChangeAt
open Go.ChangeMaps (open_string shut_string)
theorem own : ownKnob Try.prog.godebug = none := by kernel_rfl
theorem laidOut : laidOutB Try.prog = true := by kernel_rfl
set_option maxRecDepth 100000 in
theorem lifted (os : Os) (started : os.Started) (H : Type) (enc : TypeId × Value → H) :
    ReturnsInHanded {} Try.checked os 5 .any (Rows.fnLastRunPartsSpec.pre6 enc Try.prog Try.f5 Rows.fnLastRunPartsRow.domain false) (Rows.fnLastRunPartsSpec.post enc Try.prog Try.f5 false true false false) := by
  refine returnsInHanded_of_change (C := Try.checked) own started (by kernel_rfl) Try.func5
    (ChangeSpec.witness6 (enc := enc) (C := Try.checked) false ⟨#[], #[.slice none 0 0], []⟩ 8 (by kernel_rfl) (by kernel_rfl) (by kernel_rfl) (by kernel_rfl)) ?_
  intro W base args ds gs before hval0 hW hcnd _
  have hval : ∀ (j : Nat) t v, Try.f5.params[j]? = some t → args[j]? = some v → Value.okWide Try.prog W .any base t v := hval0
  have hW' := hW
  obtain ⟨p, q, hA0, hV, rfl, hfz, hnd⟩ := hW
  have hA : DataW.TrodAll enc Try.prog W 0 (fun _ => true) true Try.f5.params.toList args.toList ds p := hA0
  rw [Try.params5] at hA hval
  obtain ⟨v0, vs0, d0, ds0, p0, q0, hargs, rfl, rfl, h0, r0⟩ := trodAll_cons hA
  obtain ⟨rfl, rfl, rfl⟩ := trodAll_nil r0
  obtain rfl : args = #[v0] := by cases args; simp_all
  obtain ⟨rfl, rfl⟩ := trodVars_none hV
  obtain ⟨a0, n0, c0, rfl⟩ := okWide_slice Try.underlying27 (hval 0 27 v0 rfl rfl)
  have k0 := h0
  have lt0 : ∀ x ∈ p0, x.block < W.heap.size := by obtain ⟨m, hm⟩ := k0; exact DataW.trod_lt m _ _ _ hm
  obtain ⟨z0, e0, lc0, cm0, rd0, wf0⟩ := open_rd_int Try.underlying27 Try.underlying5 (by kernel_rfl) h0
  clear hA0 hval0
  refine (walk_FnLastRunParts (w := W) z0 a0 n0 c0 e0 lc0 cm0 rd0 (fun x hx => wf_u8 (wf0 x hx))).mono fun e W' ⟨he, bel⟩ => ?_
  subst he
  exact ⟨_, rfl, _, _, _, [], _, [], hW', trodAll_mk1 (shut_bool Try.underlying4 _), (trodAll_cons_mk (Below.trod laidOut (by kernel_rfl) (of_decide_eq_true (by kernel_rfl)) k0 bel lt0) trodAll_mk0), rfl, bel.frame _, fun h => by cases h⟩
theorem over : Rows.fnLastRunPartsRow.holds Try.pinned (OpenSpec.ofChange Rows.fnLastRunPartsSpec) :=
  OpenClaim.holds_of_wide 5 Try.f5 rfl rfl rfl rfl rfl rfl rfl ⟨rfl, rfl, rfl, rfl, rfl⟩ rfl rfl rfl rfl rfl (by kernel_rfl) Try.func5 (by kernel_rfl)
    (of_decide_eq_true (by kernel_rfl)) (by unfold Func.isWrapper; first | (rw [if_pos (by decide +kernel)]; kernel_rfl) | (rw [if_neg (by decide +kernel)]; exact ⟨rfl, rfl⟩))
    (fun os started H enc _ => lifted os started H enc)
/-- THE STATEMENT -/
theorem proved : Rows.FnLastRunPartsSaid := over
end fnLastRunParts
end Go.Proofs.Ytfmkpcoacghonaa
