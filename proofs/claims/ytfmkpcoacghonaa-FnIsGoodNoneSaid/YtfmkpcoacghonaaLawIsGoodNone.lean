/- FnIsGoodNone: for every code the law returns true, and what was there is as it was. No condition. -/
import Derived.Test.YtfmkpcoacghonaaRows
import Derived.Test.YtfmkpcoacghonaaPaths
import Derived.Test.YtfmkpcoacghonaaLists
import Derived.Test.YtfmkpcoacghonaaDrawA
import Derived.Test.YtfmkpcoacghonaaOpen
set_option linter.unusedVariables false
set_option linter.unusedSimpArgs false
set_option linter.unnecessarySimpa false
namespace Go.Proofs.Ytfmkpcoacghonaa
open Go.RowKit

theorem info_lr : (Try.prog.info? 4).map (fun i => (i.zero, i.size, i.bytes)) = some (some (.bool false), 1, 1) := by kernel_rfl
theorem lastRun_chk (bs : List Bool) (f g : Int) (h : chk bs f g = true) : bs.length ≤ 12 ∧ lastRun bs = (lrun bs : Nat) := by
  simp only [chk, Bool.and_eq_true, decide_eq_true_eq] at h
  exact ⟨h.1, by unfold lastRun; rw [if_neg (by omega)]⟩
theorem chk_nil (f g : Int) (bs : List Bool) (h : chk bs f g = true) : isGood [] f g = true := by
  simp only [chk, Bool.and_eq_true, decide_eq_true_eq] at h
  simp [isGood, chk, good_nil, h.2]
theorem nil_chk (f g : Int) (bs : List Bool) (h : isGood [] f g = true) (hl : bs.length ≤ 12) : chk bs f g = true := by
  simp only [isGood, chk, Bool.and_eq_true, decide_eq_true_eq] at h ⊢
  exact ⟨hl, h.1.2⟩
theorem last_le12 (bs : List Bool) (h : 0 ≤ lastRun bs) : bs.length ≤ 12 := by
  unfold lastRun at h
  split at h
  · omega
  · omega

set_option maxRecDepth 100000 in
set_option maxHeartbeats 2000000 in
theorem walk_FnIsGoodNone (zs : List Int) (A : Option Addr) (n c : Nat) (hN : zs.length = n) (hc : n ≤ c) (hm : c ≤ maxLen) {w : World} (h : Rd w A (zs.map (.int .u8))) (hz : ∀ z ∈ zs, 0 ≤ z ∧ z ≤ 255) :
    Calls Try.prog 9 #[.slice A n c] w fun e w' => e = .returned (.bool true) ∧ Below w.heap.size w w' := by
  have HD := Lib.hid (drawIsGood_c zs A n c w hN hc hm h hz)
  clear h hz hN
  unfold maxLen at hm
  by_cases hbig : 1048576 < n
  · go_enter Try.func9, Try.ntmps9
    go_wp2
    go_ret
    exact ⟨rfl, Below.refl _ _⟩
  · go_enter Try.func9, Try.ntmps9
    go_wp2_with fail
    refine HD.out.mono ?_
    rintro e w1 ⟨A1, c1, bs, f, g, rfl, hl, hf0, hf1, hg0, hg1, own1, b1⟩
    obtain ⟨i0, i0_i, i0_z0, i0_z1, i0_z2⟩ := info_parts info_lr
    obtain ⟨v, hv⟩ : ∃ v, v = lastRun bs := ⟨_, rfl⟩
    obtain ⟨k, hk⟩ : ∃ k, k = isGood bs f g := ⟨_, rfl⟩
    obtain ⟨k0, hk0⟩ : ∃ k0, k0 = isGood [] f g := ⟨_, rfl⟩
    have HV := Lib.hid hv; clear hv
    have HK := Lib.hid hk; clear hk
    have HK0 := Lib.hid hk0; clear hk0
    have hcap := own_cap own1
    go_wp2_with fail
    refine (isGood_c bs f g _ _ _ _ rfl hcap (Rd.of_own own1) (by omega)).mono ?_
    rw [← HK.out]
    rintro e w2 ⟨rfl, b2'⟩
    have b2 : Below w.heap.size w w2 := b1.trans (b2'.mono b1.size)
    have own2 := own_below own1 b2'
    clear own1 b1 b2'
    go_wp2_with fail
    refine (sIsGood_c bs f g _ _ _ _ rfl hcap (Rd.of_own own2) (by omega)).mono ?_
    rw [← HK.out]
    rintro e w3 ⟨rfl, m3, rfl⟩
    go_wp2_with fail
    refine (isGood_c [] f g _ _ _ _ rfl (by simp) (Rd.nil _ _) (by simp)).mono ?_
    rw [← HK0.out]
    rintro e w5 ⟨rfl, b5'⟩
    have b5 : Below w.heap.size w w5 := (below_drewN b2 m3).trans (b5'.mono b2.size)
    have own5 := own_below (own_drewN own2 m3) b5'
    clear own2 b2 b5'
    cases k0
    · go_wp2_with fail
      refine (sIsGood_c bs f g _ _ _ _ rfl hcap (Rd.of_own own5) (by omega)).mono ?_
      rw [← HK.out]
      rintro e w9 ⟨rfl, m9, rfl⟩
      go_wp2_with fail
      go_ret
      exact ⟨rfl, below_drewN b5 _⟩
    · go_wp2_with fail
      refine (lastRun_c bs _ _ _ _ rfl (Rd.of_own own5) (by omega)).mono ?_
      rw [← HV.out]
      rintro e w6 ⟨rfl, m6, rfl⟩
      by_cases hsm : v < 0
      · go_wp2_with fail
        refine (sIsGood_c bs f g _ _ _ _ rfl hcap ((Rd.of_own own5).drewN _) (by omega)).mono ?_
        rw [← HK.out]
        rintro e w9 ⟨rfl, m9, rfl⟩
        go_wp2_with fail
        go_ret
        exact ⟨rfl, below_drewN b5 _⟩
      · have hl12 := last_le12 bs (by rw [← HV.out]; omega)
        have hall : ∀ j : Nat, j ≤ 12 → isGood (List.replicate j true) f g = true := by
          intro j hj
          have h := HK0.out.symm
          simp only [isGood, chk, Bool.and_eq_true, decide_eq_true_eq] at h
          simp only [isGood, chk, Bool.and_eq_true, decide_eq_true_eq]
          exact ⟨⟨by simp; omega, h.1.2⟩, good_all f g h.1.2.1.1 _ (fun x hx => (List.mem_replicate.1 hx).2)⟩
        have HALL := Lib.hid hall; clear hall own5
        go_wp2_with fail
        go_loopw [7, 8] (fun v i wr => ∃ (k : Nat) (A' : Option Addr) (c' : Nat), k ≤ bs.length ∧ i = .int .i64 k ∧ v = .slice A' k c' ∧ wr.ownsRow w5.heap.size 4 1 (.slice A' k c') k ((List.replicate k true).map .bool) ∧ Below w5.heap.size w5 wr) (fun _ i _ => bs.length - (intOf i).toNat)
        case atStart => exact ⟨0, _, _, Nat.zero_le _, rfl, rfl, World.ownsRow_lit _ _ _ (Nat.le_refl _) (by simp [maxLen]) rfl, (below_of_drewN _ _ _).alloc (Nat.le_refl _) _⟩
        case round =>
          obtain ⟨j, A', c', hj, rfl, rfl, own, bb⟩ := hrel
          have hsb := bb.size
          by_cases hlt : j < bs.length
          · go_wp2_with (at_builtin; (refine wpList_append_any _ rfl (.tmp 52) (.tmp 53) 22 rfl w5.heap.size 4 i0 (.bool false) 1 Try.underlying22 i0_i i0_z0 i0_z1 i0_z2 rfl (.slice A' j c') (j) ((List.replicate j true).map .bool) rfl (own.alloc _) (some ⟨wr.heap.size, 0, none⟩) (1) (1) ([.bool true]) rfl rfl (Rd.one (cell_new _ _ _ 0)) (one1 _ rfl) (by unfold maxLen; omega) (by omega) (by simp <;> omega) ?_))
            intro A2 c2 w2 own2 hg2 _
            have bb2 : Below w5.heap.size w5 w2 := (bb.alloc hsb _).grown hg2 (by simp <;> omega) (fun y hy => (own.lt y hy).1)
            have own3 : w2.ownsRow w5.heap.size 4 1 (.slice A2 (j + 1) c2) (j + 1) ((List.replicate (j + 1) true).map .bool) := by
              have e : (List.replicate (j + 1) true).map Value.bool = (List.replicate j true).map Value.bool ++ [Value.bool true] := by
                rw [List.replicate_succ']; simp
              rw [e]; simpa using own2
            clear own2 hg2 own bb
            go_wp2
            go_roundw
            case rel => exact ⟨j + 1, A2, c2, by omega, by go_num, rfl, own3, bb2⟩
            case measure => simp [intOf]; omega
          · obtain rfl : j = bs.length := by omega
            have bw : Below w.heap.size w wr := b5.trans (bb.mono b5.size)
            have hcap2 := own_cap own
            go_wp2_with fail
            refine (isGood_c (List.replicate bs.length true) f g _ _ _ _ (by simp) hcap2 (Rd.of_own own) (by omega)).mono ?_
            rw [HALL.out _ hl12]
            rintro e w7 ⟨rfl, b7⟩
            go_wp2_with fail
            go_ret
            exact ⟨rfl, bw.trans (b7.mono bw.size)⟩

namespace fnIsGoodNone
open Go.ChangeShapes Go.WideShapes Go.ChangeAt
open Go.ChangeMaps (open_string shut_string)
theorem own : ownKnob Try.prog.godebug = none := by kernel_rfl
theorem laidOut : laidOutB Try.prog = true := by kernel_rfl
set_option maxRecDepth 100000 in
theorem lifted (os : Os) (started : os.Started) (H : Type) (enc : TypeId × Value → H) :
    ReturnsInHanded {} Try.checked os 9 .any (Rows.fnIsGoodNoneSpec.pre6 enc Try.prog Try.f9 Rows.fnIsGoodNoneRow.domain false) (Rows.fnIsGoodNoneSpec.post enc Try.prog Try.f9 false true false false) := by
  refine returnsInHanded_of_change (C := Try.checked) own started (by kernel_rfl) Try.func9
    (ChangeSpec.witness6 (enc := enc) (C := Try.checked) false ⟨#[], #[.slice none 0 0], []⟩ 8 (by kernel_rfl) (by kernel_rfl) (by kernel_rfl) (by kernel_rfl)) ?_
  intro W base args ds gs before hval0 hW hcnd _
  have hval : ∀ (j : Nat) t v, Try.f9.params[j]? = some t → args[j]? = some v → Value.okWide Try.prog W .any base t v := hval0
  have hW' := hW
  obtain ⟨p, q, hA0, hV, rfl, hfz, hnd⟩ := hW
  have hA : DataW.TrodAll enc Try.prog W 0 (fun _ => true) true Try.f9.params.toList args.toList ds p := hA0
  rw [Try.params9] at hA hval
  obtain ⟨v0, vs0, d0, ds0, p0, q0, hargs, rfl, rfl, h0, r0⟩ := trodAll_cons hA
  obtain ⟨rfl, rfl, rfl⟩ := trodAll_nil r0
  obtain rfl : args = #[v0] := by cases args; simp_all
  obtain ⟨rfl, rfl⟩ := trodVars_none hV
  obtain ⟨a0, n0, c0, rfl⟩ := okWide_slice Try.underlying27 (hval 0 27 v0 rfl rfl)
  have k0 := h0
  have lt0 : ∀ x ∈ p0, x.block < W.heap.size := by obtain ⟨m, hm⟩ := k0; exact DataW.trod_lt m _ _ _ hm
  obtain ⟨z0, e0, lc0, cm0, rd0, wf0⟩ := open_rd_int Try.underlying27 Try.underlying5 (by kernel_rfl) h0
  clear hA0 hval0
  refine (walk_FnIsGoodNone (w := W) z0 a0 n0 c0 e0 lc0 cm0 rd0 (fun x hx => wf_u8 (wf0 x hx))).mono fun e W' ⟨he, bel⟩ => ?_
  subst he
  exact ⟨_, rfl, _, _, _, [], _, [], hW', trodAll_mk1 (shut_bool Try.underlying4 _), (trodAll_cons_mk (Below.trod laidOut (by kernel_rfl) (of_decide_eq_true (by kernel_rfl)) k0 bel lt0) trodAll_mk0), rfl, bel.frame _, fun h => by cases h⟩
theorem over : Rows.fnIsGoodNoneRow.holds Try.pinned (OpenSpec.ofChange Rows.fnIsGoodNoneSpec) :=
  OpenClaim.holds_of_wide 9 Try.f9 rfl rfl rfl rfl rfl rfl rfl ⟨rfl, rfl, rfl, rfl, rfl⟩ rfl rfl rfl rfl rfl (by kernel_rfl) Try.func9 (by kernel_rfl)
    (of_decide_eq_true (by kernel_rfl)) (by unfold Func.isWrapper; first | (rw [if_pos (by decide +kernel)]; kernel_rfl) | (rw [if_neg (by decide +kernel)]; exact ⟨rfl, rfl⟩))
    (fun os started H enc _ => lifted os started H enc)
/-- THE STATEMENT -/
theorem proved : Rows.FnIsGoodNoneSaid := over
end fnIsGoodNone
end Go.Proofs.Ytfmkpcoacghonaa
