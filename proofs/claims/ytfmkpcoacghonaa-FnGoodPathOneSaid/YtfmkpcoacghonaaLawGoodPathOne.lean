/- FnGoodPathOne: for every code the law returns true, and what was there is as it was. No condition. -/
import Derived.Test.YtfmkpcoacghonaaRows
import Derived.Test.YtfmkpcoacghonaaPaths
import Derived.Test.YtfmkpcoacghonaaLists
import Derived.Test.YtfmkpcoacghonaaDrawA
import Derived.Test.YtfmkpcoacghonaaOpen
set_option linter.unusedVariables false
set_option linter.unusedSimpArgs false
set_option linter.unnecessarySimpa false
namespace Go.Proofs.Ytfmkpcoacghonaa
open Go.RowKit

theorem goodPath_len (bs : List Bool) (f g : Int) : (goodPath bs f g).length = bs.length ∧ chk bs f g = true ∨ goodPath bs f g = [] := by
  unfold goodPath
  split
  · exact .inl ⟨pathTo_length _ _ _ _, by assumption⟩
  · exact .inr rfl
theorem pathTo_get (f g : Int) (bs : List Bool) (n k : Nat) (h : k < n) : (pathTo f g bs n)[k]? = some (bit (good f g (bs.take (k + 1)))) := by
  simp [pathTo, h]

set_option maxRecDepth 100000 in
set_option maxHeartbeats 2000000 in
theorem walk_FnGoodPathOne (zs : List Int) (A : Option Addr) (n c : Nat) (hN : zs.length = n) (hc : n ≤ c) (hm : c ≤ maxLen) {w : World} (h : Rd w A (zs.map (.int .u8))) (hz : ∀ z ∈ zs, 0 ≤ z ∧ z ≤ 255) :
    Calls Try.prog 12 #[.slice A n c] w fun e w' => e = .returned (.bool true) ∧ Below w.heap.size w w' := by
  have HD := Lib.hid (drawGoodPath_c zs A n c w hN hc hm h hz)
  clear h hz hN
  unfold maxLen at hm
  by_cases hbig : 1048576 < n
  · go_enter Try.func12, Try.ntmps12
    go_wp2
    go_ret
    exact ⟨rfl, Below.refl _ _⟩
  · go_enter Try.func12, Try.ntmps12
    go_wp2_with fail
    refine HD.out.mono ?_
    rintro e w1 ⟨A1, c1, bs, f, g, rfl, hl, hf0, hf1, hg0, hg1, own1, b1⟩
    obtain ⟨zs, hzs⟩ : ∃ zs, zs = goodPath bs f g := ⟨_, rfl⟩
    have hzl := goodPath_len bs f g
    rw [← hzs] at hzl
    have HZ := Lib.hid hzs; clear hzs
    have hzb : zs.length ≤ 13 := by
      rcases hzl with h | h
      · omega
      · rw [h]; simp
    have hcap := own_cap own1
    go_wp2_with fail
    refine (goodPath_c bs f g _ _ _ _ rfl hcap (Rd.of_own own1) (by omega)).mono ?_
    rw [← HZ.out]
    rintro e w2 ⟨A2, c2, rfl, oz2, b2'⟩
    have b2 : Below w.heap.size w w2 := b1.trans (b2'.mono b1.size)
    have own2 := own_below own1 b2'
    clear own1 b1 b2'
    go_wp2_with fail
    refine (sGoodPath_c bs f g _ _ _ _ rfl hcap (Rd.of_own own2) (by omega)).mono ?_
    rw [← HZ.out]
    rintro e w3 ⟨A3, c3, rfl, oz3, b3'⟩
    have b3 : Below w.heap.size w w3 := b2.trans (b3'.mono b2.size)
    have own3 := own_below own2 b3'
    have oz2' := own_below oz2 b3'
    clear own2 oz2 b2 b3'
    go_wp2_with fail
    refine (equalInts_c zs zs _ _ _ _ _ _ _ rfl rfl (Rd.of_own oz2') (Rd.of_own oz3) (by omega) (by omega)).mono ?_
    rw [decide_eq_true rfl]
    rintro e w4 ⟨rfl, m4, rfl⟩
    clear oz3
    rcases Nat.eq_zero_or_pos zs.length with hz0 | hz0
    · have hz0' : ((zs.length : Int) == 0) = true := beq_iff_eq.2 (by omega)
      have HZ0 := Lib.hid hz0; clear hz0
      go_wp2_with fail
      refine (sGoodPath_c bs f g _ _ _ _ rfl hcap (Rd.of_own (own_drewN own3 m4)) (by omega)).mono ?_
      rw [← HZ.out]
      rintro e w5 ⟨A5, c5, rfl, oz5, b5'⟩
      have b5 : Below w.heap.size w w5 := (below_drewN b3 m4).trans (b5'.mono b3.size)
      have oz2'' := own_below (own_drewN oz2' m4) b5'
      go_wp2_with fail
      refine (equalInts_c zs zs _ _ _ _ _ _ _ rfl rfl (Rd.of_own oz2'') (Rd.of_own oz5) (by omega) (by omega)).mono ?_
      rw [decide_eq_true rfl]
      rintro e w6 ⟨rfl, m6, rfl⟩
      go_wp2_with fail
      go_ret
      exact ⟨rfl, below_drewN b5 _⟩
    · obtain ⟨hzn, hchk⟩ : zs.length = bs.length ∧ chk bs f g = true := by
        rcases hzl with h | h
        · exact h
        · rw [h] at hz0; simp at hz0
      have hz0' : ((zs.length : Int) == 0) = false := beq_eq_false_iff_ne.2 (by omega)
      have hzp : zs = pathTo f g bs bs.length := by rw [HZ.out, goodPath, hchk]; rfl
      have hl12 : bs.length ≤ 12 := by
        have h := hchk
        simp only [chk, Bool.and_eq_true, decide_eq_true_eq] at h
        exact h.1
      have oz4 := own_drewN oz2' m4
      have own4 := own_drewN own3 m4
      have b4 := below_drewN b3 m4
      have HZN := Lib.hid hzn
      have HCHK := Lib.hid hchk
      have HZP := Lib.hid hzp
      clear oz2' own3 b3 hzn hchk hzp hzl
      generalize w3.drewN m4 = w4 at *
      have hchk1 : chk bs 1 1 = true := by
        simp only [chk, Bool.and_eq_true, decide_eq_true_eq]
        omega
      obtain ⟨ys, hys⟩ : ∃ ys, ys = goodPath bs 1 1 := ⟨_, rfl⟩
      have hyp : ys = pathTo 1 1 bs bs.length := by rw [hys, goodPath, hchk1]; rfl
      have hyl : ys.length = bs.length := by rw [hyp, pathTo_length]
      have hyv : ∀ (k : Nat) (x : Bool), bs[k]? = some x → ys[k]? = some (bit x) := by
        intro k x hx
        have hk : k < bs.length := (List.getElem?_eq_some_iff.1 hx).1
        have hkx : bs[k] = x := (List.getElem?_eq_some_iff.1 hx).2
        rw [hyp, pathTo_get _ _ _ _ _ hk, take_snocB bs k hk, good_one, hkx]
      have HY := Lib.hid hys
      have HYL := Lib.hid hyl
      have HYV := Lib.hid hyv
      clear hys hyp hyl hyv hchk1
      go_wp2_with fail
      refine (goodPath_c bs 1 1 _ _ _ _ rfl hcap (Rd.of_own own4) (by omega)).mono ?_
      rw [← HY.out]
      rintro e w5 ⟨A5, c5, rfl, oy5, b5'⟩
      have b5 : Below w.heap.size w w5 := b4.trans (b5'.mono b4.size)
      have own5 := own_below own4 b5'
      clear own4 b4 b5' oz4
      rw [HYL.out] at oy5 ⊢
      obtain ⟨b, off, hA, hc⟩ := Rd.of_own own5 (by simp; have := HZN.out; omega)
      obtain ⟨b', off', hA', hc'⟩ := Rd.of_own oy5 (by have := HYL.out; have := HZN.out; simp; omega)
      subst hA hA'
      have HC := Lib.hid hc; have HC' := Lib.hid hc'
      clear hc hc' own5 oy5
      go_wp2_with fail
      go_loopw [8] (fun i wr => ∃ k m : Nat, k ≤ bs.length ∧ i = .int .i64 k ∧ wr = w5.drewN m) (fun i _ => bs.length - (intOf i).toNat)
      case atStart => exact ⟨0, 0, Nat.zero_le _, rfl, rfl⟩
      case round =>
        obtain ⟨k, m, hk, rfl, rfl⟩ := hrel
        by_cases hlt : k < bs.length
        · obtain ⟨x, hx⟩ : ∃ x, bs[k]? = some x := ⟨_, List.getElem?_eq_getElem hlt⟩
          have h1 : w5.cell? ⟨b, off + k, none⟩ = some (.bool x) := HC.out k _ (by rw [List.getElem?_map, hx]; rfl)
          have h2 : w5.cell? ⟨b', off' + k, none⟩ = some (.int .i64 (bit x)) := HC'.out k _ (by rw [List.getElem?_map, HYV.out k x hx]; rfl)
          clear hx
          have hge : decide ((bs.length : Int) ≤ (k : Int)) = false := by simp; omega
          cases x
          all_goals
            simp only [bit, Bool.false_eq_true, if_true, if_false] at h2
            go_wp2
            go_quiet (fail)
            go_wp2
            go_roundw
            case rel => exact ⟨k + 1, m + nq, by omega, by go_num, rfl⟩
            case measure => simp [intOf]; omega
        · obtain rfl : k = bs.length := by omega
          go_wp2
          go_ret
          exact ⟨rfl, below_drewN b5 _⟩

namespace fnGoodPathOne
open Go.ChangeShapes Go.WideShapes Go.ChangeAt
open Go.ChangeMaps (open_string shut_string)
theorem own : ownKnob Try.prog.godebug = none := by kernel_rfl
theorem laidOut : laidOutB Try.prog = true := by kernel_rfl
set_option maxRecDepth 100000 in
theorem lifted (os : Os) (started : os.Started) (H : Type) (enc : TypeId × Value → H) :
    ReturnsInHanded {} Try.checked os 12 .any (Rows.fnGoodPathOneSpec.pre6 enc Try.prog Try.f12 Rows.fnGoodPathOneRow.domain false) (Rows.fnGoodPathOneSpec.post enc Try.prog Try.f12 false true false false) := by
  refine returnsInHanded_of_change (C := Try.checked) own started (by kernel_rfl) Try.func12
    (ChangeSpec.witness6 (enc := enc) (C := Try.checked) false ⟨#[], #[.slice none 0 0], []⟩ 8 (by kernel_rfl) (by kernel_rfl) (by kernel_rfl) (by kernel_rfl)) ?_
  intro W base args ds gs before hval0 hW hcnd _
  have hval : ∀ (j : Nat) t v, Try.f12.params[j]? = some t → args[j]? = some v → Value.okWide Try.prog W .any base t v := hval0
  have hW' := hW
  obtain ⟨p, q, hA0, hV, rfl, hfz, hnd⟩ := hW
  have hA : DataW.TrodAll enc Try.prog W 0 (fun _ => true) true Try.f12.params.toList args.toList ds p := hA0
  rw [Try.params12] at hA hval
  obtain ⟨v0, vs0, d0, ds0, p0, q0, hargs, rfl, rfl, h0, r0⟩ := trodAll_cons hA
  obtain ⟨rfl, rfl, rfl⟩ := trodAll_nil r0
  obtain rfl : args = #[v0] := by cases args; simp_all
  obtain ⟨rfl, rfl⟩ := trodVars_none hV
  obtain ⟨a0, n0, c0, rfl⟩ := okWide_slice Try.underlying27 (hval 0 27 v0 rfl rfl)
  have k0 := h0
  have lt0 : ∀ x ∈ p0, x.block < W.heap.size := by obtain ⟨m, hm⟩ := k0; exact DataW.trod_lt m _ _ _ hm
  obtain ⟨z0, e0, lc0, cm0, rd0, wf0⟩ := open_rd_int Try.underlying27 Try.underlying5 (by kernel_rfl) h0
  clear hA0 hval0
  refine (walk_FnGoodPathOne (w := W) z0 a0 n0 c0 e0 lc0 cm0 rd0 (fun x hx => wf_u8 (wf0 x hx))).mono fun e W' ⟨he, bel⟩ => ?_
  subst he
  exact ⟨_, rfl, _, _, _, [], _, [], hW', trodAll_mk1 (shut_bool Try.underlying4 _), (trodAll_cons_mk (Below.trod laidOut (by kernel_rfl) (of_decide_eq_true (by kernel_rfl)) k0 bel lt0) trodAll_mk0), rfl, bel.frame _, fun h => by cases h⟩
theorem over : Rows.fnGoodPathOneRow.holds Try.pinned (OpenSpec.ofChange Rows.fnGoodPathOneSpec) :=
  OpenClaim.holds_of_wide 12 Try.f12 rfl rfl rfl rfl rfl rfl rfl ⟨rfl, rfl, rfl, rfl, rfl⟩ rfl rfl rfl rfl rfl (by kernel_rfl) Try.func12 (by kernel_rfl)
    (of_decide_eq_true (by kernel_rfl)) (by unfold Func.isWrapper; first | (rw [if_pos (by decide +kernel)]; kernel_rfl) | (rw [if_neg (by decide +kernel)]; exact ⟨rfl, rfl⟩))
    (fun os started H enc _ => lifted os started H enc)
/-- THE STATEMENT -/
theorem proved : Rows.FnGoodPathOneSaid := over
end fnGoodPathOne
end Go.Proofs.Ytfmkpcoacghonaa
