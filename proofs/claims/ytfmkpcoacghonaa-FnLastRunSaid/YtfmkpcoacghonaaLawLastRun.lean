/- FnLastRun: for every code the law returns true, and what was there is as it was. No condition. -/
import Derived.Test.YtfmkpcoacghonaaRows
import Derived.Test.YtfmkpcoacghonaaChecks
import Derived.Test.YtfmkpcoacghonaaLists
import Derived.Test.YtfmkpcoacghonaaDrawA
import Derived.Test.YtfmkpcoacghonaaOpen
set_option linter.unusedVariables false
set_option linter.unusedSimpArgs false
set_option linter.unnecessarySimpa false
namespace Go.Proofs.Ytfmkpcoacghonaa
open Go.RowKit

theorem info_lr : (Try.prog.info? 4).map (fun i => (i.zero, i.size, i.bytes)) = some (some (.bool false), 1, 1) := by kernel_rfl
theorem lastRun_snoc_same (bs : List Bool) (x : Bool) (hx : bs.getLast? = some x) (h : bs.length < 12) : lastRun (bs ++ [x]) = lastRun bs + 1 := by
  unfold lastRun
  rw [if_neg (by simp; omega), if_neg (by omega), lrun_snoc, if_pos hx]
  omega
theorem lastRun_snoc_other (bs : List Bool) (x : Bool) (hx : bs.getLast? = some x) (h : bs.length < 12) : lastRun (bs ++ [!x]) = 1 := by
  unfold lastRun
  rw [if_neg (by simp; omega), lrun_snoc, if_neg (by rw [hx]; simp)]
  rfl
theorem lastRun_small (bs : List Bool) (h : 1 ≤ lastRun bs) : (1 ≤ bs.length ∧ bs.length ≤ 12) ∧ lastRun bs ≤ bs.length := by
  unfold lastRun at h
  split at h
  · omega
  · rename_i h12
    have := lrun_le bs
    unfold lastRun
    rw [if_neg h12]
    omega

set_option maxRecDepth 100000 in
set_option maxHeartbeats 2000000 in
theorem walk_FnLastRun (zs : List Int) (A : Option Addr) (n c : Nat) (hN : zs.length = n) (hc : n ≤ c) (hm : c ≤ maxLen) {w : World} (h : Rd w A (zs.map (.int .u8))) (hz : ∀ z ∈ zs, 0 ≤ z ∧ z ≤ 255) :
    Calls Try.prog 4 #[.slice A n c] w fun e w' => e = .returned (.bool true) ∧ Below w.heap.size w w' := by
  have HD := Lib.hid (drawLastRun_c zs A n c w hN hc hm h hz)
  clear h hz hN
  unfold maxLen at hm
  by_cases hbig : 1048576 < n
  · go_enter Try.func4, Try.ntmps4
    go_wp2
    go_ret
    exact ⟨rfl, Below.refl _ _⟩
  · go_enter Try.func4, Try.ntmps4
    go_wp2_with fail
    refine HD.out.mono ?_
    rintro e w1 ⟨A1, c1, bs, rfl, hl, own1, b1⟩
    obtain ⟨i0, i0_i, i0_z0, i0_z1, i0_z2⟩ := info_parts info_lr
    obtain ⟨v, hv⟩ : ∃ v, v = lastRun bs := ⟨_, rfl⟩
    have HV := Lib.hid hv; clear hv
    have r1 := Rd.of_own own1
    go_wp2_with fail
    refine (lastRun_c bs _ _ _ _ rfl r1 (by omega)).mono ?_
    rw [← HV.out]
    rintro e w2 ⟨rfl, m2, rfl⟩
    go_wp2_with fail
    refine (sLastRun_c bs _ _ _ _ rfl (r1.drewN m2) (by omega)).mono ?_
    rw [← HV.out]
    rintro e w3 ⟨rfl, m3, rfl⟩
    by_cases hsm : v < 1 ∨ bs.length = 12
    · have fin : ∀ k, Below w.heap.size w (w1.drewN k) := fun k => below_drewN b1 k
      have FIN := Lib.hid fin; clear fin
      have h12 : bs.length = 12 → ((bs.length : Int) == 12) = true := fun e => by simp; omega
      rcases hsm with hsm | hsm
      · go_wp2_with fail
        refine (sLastRun_c bs _ _ _ _ rfl (r1.drewN _) (by omega)).mono ?_
        rw [← HV.out]
        rintro e w4 ⟨rfl, m4, rfl⟩
        go_wp2_with fail
        go_ret
        exact ⟨rfl, by simpa using FIN.out _⟩
      · have h12' := h12 hsm
        have HSM := Lib.hid hsm
        clear h12 hsm
        by_cases hv1 : v < 1
        all_goals
          go_wp2_with fail
          refine (sLastRun_c bs _ _ _ _ rfl (r1.drewN _) (by omega)).mono ?_
          rw [← HV.out]
          rintro e w4 ⟨rfl, m4, rfl⟩
          go_wp2_with fail
          go_ret
          exact ⟨rfl, by simpa using FIN.out _⟩
    · have hv1 : 1 ≤ v := by omega
      have h12 : ¬ bs.length = 12 := by omega
      obtain ⟨hsml, hv12⟩ := lastRun_small bs (by rw [← HV.out]; exact hv1)
      rw [← HV.out] at hv12
      have h12' : ((bs.length : Int) == 12) = false := by simp; omega
      have hlt : bs.length < 12 := by omega
      obtain ⟨x, hx⟩ : ∃ x, bs.getLast? = some x := by
        cases hb : bs.getLast? with
        | none => rw [List.getLast?_eq_none_iff] at hb; rw [hb] at hsml; simp at hsml
        | some x => exact ⟨x, rfl⟩
      have hx' : bs[bs.length - 1]? = some x := by rw [← hx, List.getLast?_eq_getElem?]
      have e1 := lastRun_snoc_same bs x hx hlt
      have e2 := lastRun_snoc_other bs x hx hlt
      rw [← HV.out] at e1
      have E1 := Lib.hid e1
      have E2 := Lib.hid e2
      have hcell := r1
      obtain ⟨b, off, hA, hc1⟩ := r1 (by simp; omega)
      subst hA
      have hxc : w1.cell? ⟨b, off + (bs.length - 1), none⟩ = some (.bool x) := hc1 _ _ (by rw [List.getElem?_map, hx']; rfl)
      clear e1 e2 hx hx' hc1 hsm h12
      have R1 := Lib.hid hcell; clear hcell
      go_wp2_with (at_builtin; (refine wpList_append_any _ rfl (.tmp 36) (.tmp 37) 22 rfl w1.heap.size 4 i0 (.bool false) 1 Try.underlying22 i0_i i0_z0 i0_z1 i0_z2 rfl (.slice (some ⟨w1.heap.size, 0, none⟩) 0 0) (0) ([]) rfl (World.ownsRow_lit _ #[] 0 (Nat.le_refl _) (by simp [maxLen]) rfl) (some ⟨b, off, none⟩) (bs.length) (c1) (bs.map .bool) rfl (by simp) (((R1.out.drewN m2).drewN m3).alloc _) (bool1 bs) (by unfold maxLen; omega) (by omega) (by simp <;> omega) ?_))
      intro A4 c4 w4 own4 hg4 _
      have bb4 : Below w1.heap.size w1 w4 := ((below_drewN (Below.refl w1.heap.size w1) (m2 + m3)).alloc (by have := (below_drewN (Below.refl w1.heap.size w1) (m2 + m3)).size; simpa using this) _).grown hg4 (by simp <;> omega) (fun y hy => by simp [Value.ownBlock] at hy; omega)
      have hs4 := bb4.size
      try simp only [Nat.zero_add, List.nil_append] at own4
      clear hg4
      go_wp2_with (at_builtin; (refine wpList_append_any _ rfl (.tmp 38) (.tmp 40) 22 rfl w1.heap.size 4 i0 (.bool false) 1 Try.underlying22 i0_i i0_z0 i0_z1 i0_z2 rfl (.slice A4 bs.length c4) (bs.length) (bs.map .bool) rfl (own4.alloc _) (some ⟨w4.heap.size, 0, none⟩) (1) (1) ([.bool (x)]) rfl rfl (Rd.one (cell_new _ _ _ 0)) (one1 _ rfl) (by unfold maxLen; omega) (by omega) (by simp <;> omega) ?_))
      intro A5 c5 w5 own5 hg5 _
      have bb5 : Below w1.heap.size w1 w5 := (bb4.alloc (by simpa using hs4) _).grown hg5 (by simp <;> omega) (fun y hy => (own4.lt y hy).1)
      clear hg5 own4 bb4 hs4
      go_wp2_with fail
      refine (lastRun_c (bs ++ [x]) _ _ _ _ (by simp) (by have := Rd.of_own own5; simpa using this) (by omega)).mono ?_
      rw [E1.out]
      rintro e w6 ⟨rfl, m6, rfl⟩
      have R6 : Rd w5 (some ⟨b, off, none⟩) (bs.map .bool) := R1.out.below bb5
      have b5 : Below w.heap.size w w5 := b1.trans (bb5.mono b1.size)
      clear bb5 own5
      go_wp2_with (at_builtin; (refine wpList_append_any_g _ rfl (.tmp 47) (.tmp 48) 22 rfl w5.heap.size 4 i0 (.bool false) 1 Try.underlying22 i0_i i0_z0 i0_z1 i0_z2 rfl (.slice (some ⟨w5.heap.size, 0, none⟩) 0 0) (0) ([]) rfl (World.ownsRow_lit _ #[] 0 (Nat.le_refl _) (by simp [maxLen]) rfl) (some ⟨b, off, none⟩) (bs.length) (c1) (bs.map .bool) rfl (by simp) ((R6.drewN m6).alloc _) (bool1 bs) (by unfold maxLen; omega) (by omega) (by simp <;> omega) ?_))
      intro A7 c7 w7 own7 hg7 _
      have bb7 : Below w5.heap.size w5 w7 := ((below_drewN (Below.refl w5.heap.size w5) m6).alloc (by have := (below_drewN (Below.refl w5.heap.size w5) m6).size; simpa using this) _).grown hg7 (by simp <;> omega) (fun y hy => by simp [Value.ownBlock] at hy; omega)
      have hs7 := bb7.size
      try simp only [Nat.zero_add, List.nil_append] at own7
      clear hg7
      go_wp2_with (at_builtin; (refine wpList_append_any_g _ rfl (.tmp 49) (.tmp 52) 22 rfl w5.heap.size 4 i0 (.bool false) 1 Try.underlying22 i0_i i0_z0 i0_z1 i0_z2 rfl (.slice A7 bs.length c7) (bs.length) (bs.map .bool) rfl (own7.alloc _) (some ⟨w7.heap.size, 0, none⟩) (1) (1) ([.bool (!x)]) rfl rfl (Rd.one (cell_new _ _ _ 0)) (one1 _ rfl) (by unfold maxLen; omega) (by omega) (by simp <;> omega) ?_))
      intro A8 c8 w8 own8 hg8 _
      have bb8 : Below w5.heap.size w5 w8 := (bb7.alloc (by simpa using hs7) _).grown hg8 (by simp <;> omega) (fun y hy => (own7.lt y hy).1)
      clear hg8 own7 bb7 hs7
      go_wp2_with fail
      refine (lastRun_c (bs ++ [!x]) _ _ _ _ (by simp) (by have := Rd.of_own own8; simpa using this) (by omega)).mono ?_
      rw [E2.out]
      rintro e w9 ⟨rfl, m9, rfl⟩
      have b8 : Below w.heap.size w w8 := b5.trans (bb8.mono b5.size)
      clear bb8 own8
      go_wp2_with fail
      refine (lastRun_c [] _ _ _ _ rfl (Rd.nil _ _) (by simp)).mono ?_
      rintro e w10 ⟨rfl, m10, rfl⟩
      have e0 : lastRun [] = 0 := rfl
      go_wp2_with fail
      go_ret
      exact ⟨rfl, below_drewN b8 _⟩

namespace fnLastRun
open Go.ChangeShapes Go.WideShapes Go.ChangeAt
open Go.ChangeMaps (open_string shut_string)
theorem own : ownKnob Try.prog.godebug = none := by kernel_rfl
theorem laidOut : laidOutB Try.prog = true := by kernel_rfl
set_option maxRecDepth 100000 in
theorem lifted (os : Os) (started : os.Started) (H : Type) (enc : TypeId × Value → H) :
    ReturnsInHanded {} Try.checked os 4 .any (Rows.fnLastRunSpec.pre6 enc Try.prog Try.f4 Rows.fnLastRunRow.domain false) (Rows.fnLastRunSpec.post enc Try.prog Try.f4 false true false false) := by
  refine returnsInHanded_of_change (C := Try.checked) own started (by kernel_rfl) Try.func4
    (ChangeSpec.witness6 (enc := enc) (C := Try.checked) false ⟨#[], #[.slice none 0 0], []⟩ 8 (by kernel_rfl) (by kernel_rfl) (by kernel_rfl) (by kernel_rfl)) ?_
  intro W base args ds gs before hval0 hW hcnd _
  have hval : ∀ (j : Nat) t v, Try.f4.params[j]? = some t → args[j]? = some v → Value.okWide Try.prog W .any base t v := hval0
  have hW' := hW
  obtain ⟨p, q, hA0, hV, rfl, hfz, hnd⟩ := hW
  have hA : DataW.TrodAll enc Try.prog W 0 (fun _ => true) true Try.f4.params.toList args.toList ds p := hA0
  rw [Try.params4] at hA hval
  obtain ⟨v0, vs0, d0, ds0, p0, q0, hargs, rfl, rfl, h0, r0⟩ := trodAll_cons hA
  obtain ⟨rfl, rfl, rfl⟩ := trodAll_nil r0
  obtain rfl : args = #[v0] := by cases args; simp_all
  obtain ⟨rfl, rfl⟩ := trodVars_none hV
  obtain ⟨a0, n0, c0, rfl⟩ := okWide_slice Try.underlying27 (hval 0 27 v0 rfl rfl)
  have k0 := h0
  have lt0 : ∀ x ∈ p0, x.block < W.heap.size := by obtain ⟨m, hm⟩ := k0; exact DataW.trod_lt m _ _ _ hm
  obtain ⟨z0, e0, lc0, cm0, rd0, wf0⟩ := open_rd_int Try.underlying27 Try.underlying5 (by kernel_rfl) h0
  clear hA0 hval0
  refine (walk_FnLastRun (w := W) z0 a0 n0 c0 e0 lc0 cm0 rd0 (fun x hx => wf_u8 (wf0 x hx))).mono fun e W' ⟨he, bel⟩ => ?_
  subst he
  exact ⟨_, rfl, _, _, _, [], _, [], hW', trodAll_mk1 (shut_bool Try.underlying4 _), (trodAll_cons_mk (Below.trod laidOut (by kernel_rfl) (of_decide_eq_true (by kernel_rfl)) k0 bel lt0) trodAll_mk0), rfl, bel.frame _, fun h => by cases h⟩
theorem over : Rows.fnLastRunRow.holds Try.pinned (OpenSpec.ofChange Rows.fnLastRunSpec) :=
  OpenClaim.holds_of_wide 4 Try.f4 rfl rfl rfl rfl rfl rfl rfl ⟨rfl, rfl, rfl, rfl, rfl⟩ rfl rfl rfl rfl rfl (by kernel_rfl) Try.func4 (by kernel_rfl)
    (of_decide_eq_true (by kernel_rfl)) (by unfold Func.isWrapper; first | (rw [if_pos (by decide +kernel)]; kernel_rfl) | (rw [if_neg (by decide +kernel)]; exact ⟨rfl, rfl⟩))
    (fun os started H enc _ => lifted os started H enc)
/-- THE STATEMENT -/
theorem proved : Rows.FnLastRunSaid := over
end fnLastRun
end Go.Proofs.Ytfmkpcoacghonaa
