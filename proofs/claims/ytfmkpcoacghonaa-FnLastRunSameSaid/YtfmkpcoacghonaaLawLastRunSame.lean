/- FnLastRunSame: for every code the law returns true, and what was there is as it was. No condition. -/
import Derived.Test.YtfmkpcoacghonaaRows
import Derived.Test.YtfmkpcoacghonaaChecks
import Derived.Test.YtfmkpcoacghonaaLists
import Derived.Test.YtfmkpcoacghonaaDrawA
import Derived.Test.YtfmkpcoacghonaaOpen
set_option linter.unusedVariables false
set_option linter.unusedSimpArgs false
set_option linter.unnecessarySimpa false
namespace Go.Proofs.Ytfmkpcoacghonaa
open Go.RowKit

theorem lastRun_ge (bs : List Bool) (h : 1 ≤ lastRun bs) : ((1 ≤ bs.length ∧ bs.length ≤ 12) ∧ lastRun bs ≤ bs.length) ∧ lastRun bs = (lrun bs : Nat) := by
  unfold lastRun at h
  split at h
  · omega
  · rename_i h12
    have := lrun_le bs
    unfold lastRun
    rw [if_neg h12]
    omega
theorem lastRun_drop (bs : List Bool) (q : Nat) (h : lrun bs = q) (h12 : bs.length ≤ 12) : lastRun (bs.drop (bs.length - q)) = q := by
  subst h
  unfold lastRun
  rw [if_neg (by simp; omega), lrun_drop]

set_option maxRecDepth 100000 in
set_option maxHeartbeats 2000000 in
theorem walk_FnLastRunSame (zs : List Int) (A : Option Addr) (n c : Nat) (hN : zs.length = n) (hc : n ≤ c) (hm : c ≤ maxLen) {w : World} (h : Rd w A (zs.map (.int .u8))) (hz : ∀ z ∈ zs, 0 ≤ z ∧ z ≤ 255) :
    Calls Try.prog 6 #[.slice A n c] w fun e w' => e = .returned (.bool true) ∧ Below w.heap.size w w' := by
  have HD := Lib.hid (drawLastRun_c zs A n c w hN hc hm h hz)
  clear h hz hN
  unfold maxLen at hm
  by_cases hbig : 1048576 < n
  · go_enter Try.func6, Try.ntmps6
    go_wp2
    go_ret
    exact ⟨rfl, Below.refl _ _⟩
  · go_enter Try.func6, Try.ntmps6
    go_wp2_with fail
    refine HD.out.mono ?_
    rintro e w1 ⟨A1, c1, bs, rfl, hl, own1, b1⟩
    obtain ⟨v, hv⟩ : ∃ v, v = lastRun bs := ⟨_, rfl⟩
    have HV := Lib.hid hv; clear hv
    have r1 := Rd.of_own own1
    have hcap := own_cap own1
    go_wp2_with fail
    refine (lastRun_c bs _ _ _ _ rfl r1 (by omega)).mono ?_
    rw [← HV.out]
    rintro e w2 ⟨rfl, m2, rfl⟩
    go_wp2_with fail
    refine (sLastRun_c bs _ _ _ _ rfl (r1.drewN m2) (by omega)).mono ?_
    rw [← HV.out]
    rintro e w3 ⟨rfl, m3, rfl⟩
    by_cases hsm : v < 1
    · go_wp2_with fail
      refine (sLastRun_c bs _ _ _ _ rfl (r1.drewN _) (by omega)).mono ?_
      rw [← HV.out]
      rintro e w4 ⟨rfl, m4, rfl⟩
      go_wp2_with fail
      go_ret
      exact ⟨rfl, below_drewN b1 _⟩
    · obtain ⟨⟨hsml, hv12⟩, hq⟩ := lastRun_ge bs (by rw [← HV.out]; omega)
      rw [← HV.out] at hv12 hq
      obtain ⟨q, hql⟩ : ∃ q, q = lrun bs := ⟨_, rfl⟩
      rw [← hql] at hq
      subst hq
      have hq1 : 1 ≤ q := by omega
      have hq2 : q ≤ bs.length := by omega
      have HQ := Lib.hid hql; clear hql
      obtain ⟨k0, hk0⟩ : ∃ k0, k0 + q = bs.length := ⟨bs.length - q, by omega⟩
      have hk1 : ((bs.length : Int) - (q : Int)) = (k0 : Int) := by omega
      have hsame : ∀ j, k0 ≤ j → j < bs.length → bs[j]? = bs[k0]? := by
        intro j h1 h2
        rw [lrun_same bs j (by rw [← HQ.out]; omega) h2, lrun_same bs k0 (by rw [← HQ.out]; omega) (by omega)]
      have hnext : 0 < k0 → bs[k0 - 1]? ≠ bs[k0]? := by
        intro h0
        have h1 := lrun_next bs (by rw [← HQ.out]; omega)
        rw [← HQ.out, show bs.length - 1 - q = k0 - 1 by omega] at h1
        rw [lrun_same bs k0 (by rw [← HQ.out]; omega) (by omega)]
        exact h1
      obtain ⟨b, off, hA, hc1⟩ := r1 (by simp; omega)
      subst hA
      obtain ⟨x, hx⟩ : ∃ x, bs[k0]? = some x := ⟨_, List.getElem?_eq_getElem (by omega)⟩
      have hcx : ∀ j, k0 ≤ j → j < bs.length → w1.cell? ⟨b, off + j, none⟩ = some (.bool x) := by
        intro j h1 h2
        exact hc1 j _ (by rw [List.getElem?_map, hsame j h1 h2, hx]; rfl)
      have hcn : 0 < k0 → w1.cell? ⟨b, off + (k0 - 1), none⟩ = some (.bool (!x)) := by
        intro h0
        refine hc1 _ _ ?_
        have h1 := hnext h0
        rw [hx] at h1
        rw [List.getElem?_map]
        cases hy : bs[k0 - 1]? with
        | none => rw [List.getElem?_eq_none_iff] at hy; omega
        | some y => rw [hy] at h1; cases x <;> cases y <;> simp_all
      have HCX := Lib.hid hcx
      have HCN := Lib.hid hcn
      have hxk := hcx k0 (Nat.le_refl _) (by omega)
      have HK1 := Lib.hid hk1
      clear hcx hcn hc1 hsame hnext hx hk1 own1
      go_wp2_with fail
      rw [HK1.out]
      go_loopw [6] (fun i wr => ∃ k m : Nat, k0 ≤ k ∧ k ≤ bs.length ∧ i = .int .i64 k ∧ wr = w1.drewN m) (fun i _ => bs.length - (intOf i).toNat)
      case atStart => exact ⟨k0, _, Nat.le_refl _, by omega, rfl, rfl⟩
      case round =>
        obtain ⟨k, m, hk1, hk2, rfl, rfl⟩ := hrel
        by_cases hlt : k < bs.length
        · have hck := HCX.out k hk1 hlt
          have hself : (x != x) = false := by simp
          cases x
          all_goals
            go_wp2
            go_quiet (fail)
            go_wp2
            go_roundw
            case rel => exact ⟨k + 1, m + nq, by omega, by omega, by go_num, rfl⟩
            case measure => simp [intOf]; omega
        · obtain rfl : k = bs.length := by omega
          rcases Nat.eq_zero_or_pos k0 with h0 | h0
          · subst h0
            go_wp2
            go_quiet (fail)
            go_wp2
            go_ret
            exact ⟨rfl, by simpa using below_drewN b1 _⟩
          · have hcn := HCN.out h0
            have hne0 : ((k0 : Int) == 0) = false := by simp; omega
            cases x
            all_goals
              simp only [Bool.not_true, Bool.not_false] at hcn
              go_wp2
              go_quiet (fail)
              go_wp2
              go_ret
              exact ⟨rfl, by simpa using below_drewN b1 _⟩

namespace fnLastRunSame
open Go.ChangeShapes Go.WideShapes Go.ChangeAt
open Go.ChangeMaps (open_string shut_string)
theorem own : ownKnob Try.prog.godebug = none := by kernel_rfl
theorem laidOut : laidOutB Try.prog = true := by kernel_rfl
set_option maxRecDepth 100000 in
theorem lifted (os : Os) (started : os.Started) (H : Type) (enc : TypeId × Value → H) :
    ReturnsInHanded {} Try.checked os 6 .any (Rows.fnLastRunSameSpec.pre6 enc Try.prog Try.f6 Rows.fnLastRunSameRow.domain false) (Rows.fnLastRunSameSpec.post enc Try.prog Try.f6 false true false false) := by
  refine returnsInHanded_of_change (C := Try.checked) own started (by kernel_rfl) Try.func6
    (ChangeSpec.witness6 (enc := enc) (C := Try.checked) false ⟨#[], #[.slice none 0 0], []⟩ 8 (by kernel_rfl) (by kernel_rfl) (by kernel_rfl) (by kernel_rfl)) ?_
  intro W base args ds gs before hval0 hW hcnd _
  have hval : ∀ (j : Nat) t v, Try.f6.params[j]? = some t → args[j]? = some v → Value.okWide Try.prog W .any base t v := hval0
  have hW' := hW
  obtain ⟨p, q, hA0, hV, rfl, hfz, hnd⟩ := hW
  have hA : DataW.TrodAll enc Try.prog W 0 (fun _ => true) true Try.f6.params.toList args.toList ds p := hA0
  rw [Try.params6] at hA hval
  obtain ⟨v0, vs0, d0, ds0, p0, q0, hargs, rfl, rfl, h0, r0⟩ := trodAll_cons hA
  obtain ⟨rfl, rfl, rfl⟩ := trodAll_nil r0
  obtain rfl : args = #[v0] := by cases args; simp_all
  obtain ⟨rfl, rfl⟩ := trodVars_none hV
  obtain ⟨a0, n0, c0, rfl⟩ := okWide_slice Try.underlying27 (hval 0 27 v0 rfl rfl)
  have k0 := h0
  have lt0 : ∀ x ∈ p0, x.block < W.heap.size := by obtain ⟨m, hm⟩ := k0; exact DataW.trod_lt m _ _ _ hm
  obtain ⟨z0, e0, lc0, cm0, rd0, wf0⟩ := open_rd_int Try.underlying27 Try.underlying5 (by kernel_rfl) h0
  clear hA0 hval0
  refine (walk_FnLastRunSame (w := W) z0 a0 n0 c0 e0 lc0 cm0 rd0 (fun x hx => wf_u8 (wf0 x hx))).mono fun e W' ⟨he, bel⟩ => ?_
  subst he
  exact ⟨_, rfl, _, _, _, [], _, [], hW', trodAll_mk1 (shut_bool Try.underlying4 _), (trodAll_cons_mk (Below.trod laidOut (by kernel_rfl) (of_decide_eq_true (by kernel_rfl)) k0 bel lt0) trodAll_mk0), rfl, bel.frame _, fun h => by cases h⟩
theorem over : Rows.fnLastRunSameRow.holds Try.pinned (OpenSpec.ofChange Rows.fnLastRunSameSpec) :=
  OpenClaim.holds_of_wide 6 Try.f6 rfl rfl rfl rfl rfl rfl rfl ⟨rfl, rfl, rfl, rfl, rfl⟩ rfl rfl rfl rfl rfl (by kernel_rfl) Try.func6 (by kernel_rfl)
    (of_decide_eq_true (by kernel_rfl)) (by unfold Func.isWrapper; first | (rw [if_pos (by decide +kernel)]; kernel_rfl) | (rw [if_neg (by decide +kernel)]; exact ⟨rfl, rfl⟩))
    (fun os started H enc _ => lifted os started H enc)
/-- THE STATEMENT -/
theorem proved : Rows.FnLastRunSameSaid := over
end fnLastRunSame
end Go.Proofs.Ytfmkpcoacghonaa
