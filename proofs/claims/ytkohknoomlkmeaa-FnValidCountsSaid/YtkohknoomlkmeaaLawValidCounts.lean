/- FnValidCounts: for every code the law returns true, and what was there is as it was. No condition. -/
import Derived.Test.YtkohknoomlkmeaaRows
import Derived.Test.YtkohknoomlkmeaaWaits
import Derived.Test.YtkohknoomlkmeaaDrawB
import Derived.Test.YtkohknoomlkmeaaOpen
set_option linter.unusedVariables false
set_option linter.unusedSimpArgs false
set_option linter.unnecessarySimpa false
namespace Go.Proofs.Ytkohknoomlkmeaa
open Go.RowKit

theorem validCounts_reverse (l : List Int) : validCounts l.reverse = validCounts l := by simp [validCounts, allB]
theorem validCounts_zero : validCounts (List.replicate 8 0) = true := by decide
set_option maxRecDepth 100000 in
set_option maxHeartbeats 2000000 in
theorem walk_FnValidCounts (zs : List Int) (A : Option Addr) (n c : Nat) (hN : zs.length = n) (hc : n ≤ c) (hm : c ≤ maxLen) {w : World} (h : Rd w A (zs.map (.int .u8))) (hz : ∀ z ∈ zs, 0 ≤ z ∧ z ≤ 255) :
    Calls Try.prog 7 #[.slice A n c] w fun e w' => e = .returned (.bool true) ∧ Below w.heap.size w w' := by
  have HD := Lib.hid (drawValidCounts_c zs A n c w hN hc hm h hz)
  clear h hz hN
  unfold maxLen at hm
  by_cases hbig : 1048576 < n
  · go_enter Try.func7, Try.ntmps7
    go_wp2
    go_ret
    exact ⟨rfl, Below.refl _ _⟩
  · go_enter Try.func7, Try.ntmps7
    go_wp2_with fail
    refine HD.out.mono ?_
    rintro e w1 ⟨A1, c1, xs, rfl, hl, hcap, fr, b1⟩
    obtain ⟨i0, i0_i, i0_z0, i0_z1, i0_z2⟩ := info_parts intInfo
    obtain ⟨ok, hok⟩ : ∃ ok, ok = validCounts xs := ⟨_, rfl⟩
    have HOK := Lib.hid hok; clear hok
    go_wp2_with fail
    refine (validCounts_c xs _ _ _ _ rfl fr.rd (by omega)).mono ?_
    rw [← HOK.out]
    rintro e w2 ⟨rfl, b2'⟩
    have b2 : Below w.heap.size w w2 := b1.trans (b2'.mono b1.size)
    have fr2 := fr.below b2'
    clear fr b1 b2'
    go_wp2_with fail
    refine (sValidCounts_c xs _ _ _ _ rfl fr2.rd (by omega)).mono ?_
    rw [← HOK.out]
    rintro e w3 ⟨rfl, rfl⟩
    have FR := Lib.hid fr2; clear fr2
    go_wp2_with fail
    go_loopw [5, 6] (fun v i wr => ∃ (k : Nat) (A' : Option Addr) (c' : Nat) (ys : List Int), k ≤ xs.length ∧ i = .int .i64 ((xs.length : Int) - 1 - k) ∧ v = .slice A' k c' ∧ ys.length = k ∧ ys = (xs.drop (xs.length - k)).reverse ∧ wr.ownsRow w2.heap.size 3 1 (.slice A' k c') k (ys.map (.int .i64)) ∧ Below w2.heap.size w2 wr) (fun _ i _ => (intOf i + 1).toNat)
    case atStart => exact ⟨0, _, _, [], Nat.zero_le _, by simp, rfl, rfl, by simp, World.ownsRow_lit _ _ _ (Nat.le_refl _) (by simp [maxLen]) rfl, (Below.refl _ _).alloc (Nat.le_refl _) _⟩
    case round =>
      obtain ⟨k, A', c', ys, hk, rfl, rfl, hyl, hys, own, bb⟩ := hrel
      have HYL := Lib.hid hyl
      have HYS := Lib.hid hys
      have hsb := bb.size
      clear hyl hys
      by_cases hlt : k < xs.length
      · have hj : xs.length - 1 - k < xs.length := by omega
        obtain ⟨b, off, hA, hc⟩ := (FR.out.below bb).rd (by simp; omega)
        subst hA
        obtain ⟨x, hX⟩ : ∃ x, x = xs[xs.length - 1 - k] := ⟨_, rfl⟩
        have hx : wr.cell? ⟨b, off + (xs.length - 1 - k), none⟩ = some (.int .i64 x) := hc _ _ (by simp [hX, hj])
        have hstep : (xs.drop (xs.length - (k + 1))).reverse = (xs.drop (xs.length - k)).reverse ++ [x] := by
          rw [show xs.length - (k + 1) = xs.length - 1 - k by omega, List.drop_eq_getElem_cons hj, hX, show xs.length - 1 - k + 1 = xs.length - k by omega]
          simp
        have HST := Lib.hid hstep
        have HX := Lib.hid hX
        have hge : (0 : Int) ≤ (xs.length : Int) - 1 - (k : Int) := by omega
        have htn : ((xs.length : Int) - 1 - (k : Int)).toNat = xs.length - 1 - k := by omega
        clear hstep hX hc
        go_wp2_with (at_builtin; (refine wpList_append_any _ rfl (.tmp 26) (.tmp 31) 24 rfl w2.heap.size 3 i0 (.int .i64 0) 8 Try.underlying24 i0_i i0_z0 i0_z1 i0_z2 rfl (.slice A' k c') (k) (ys.map (.int .i64)) rfl (own.alloc _) (some ⟨wr.heap.size, 0, none⟩) (1) (1) ([.int .i64 x]) rfl rfl (Rd.one (cell_new _ _ _ 0)) (one1 _ rfl) (by unfold maxLen; omega) (by omega) (by simp <;> omega) ?_))
        intro A3 c3 w3 own3 hg3 _
        have bb3 : Below w2.heap.size w2 w3 := (bb.alloc hsb _).grown hg3 (by simp <;> omega) (fun y hy => (own.lt y hy).1)
        clear hg3 own bb
        go_wp2
        go_roundw
        case rel => exact ⟨k + 1, A3, c3, ys ++ [x], by omega, by go_num, rfl, by simp [HYL.out], by rw [HST.out, HYS.out], by simpa using own3, bb3⟩
        case measure => simp [intOf]; omega
      · obtain rfl : k = xs.length := by omega
        have hrev : validCounts ys = ok := by
          rw [HYS.out, HOK.out]; simp [validCounts_reverse]
        have HREV := Lib.hid hrev
        have hmk : ∀ w : World, (Instr.makeSlice 24 (.int .i64 8) (.int .i64 8)).run Try.prog w = .ok (.slice (some ⟨w.heap.size, 0, none⟩) 8 8) (w.alloc (.cells #[.int .i64 0, .int .i64 0, .int .i64 0, .int .i64 0, .int .i64 0, .int .i64 0, .int .i64 0, .int .i64 0] 3)) := fun _ => by kernel_rfl
        have bw : Below w.heap.size w wr := b2.trans (bb.mono b2.size)
        have hsbw := bw.size
        clear hrev
        go_wp2_with fail
        refine (validCounts_c ys _ _ _ _ HYL.out (Rd.of_own own) (by omega)).mono ?_
        rw [HREV.out]
        rintro e w4 ⟨rfl, b4'⟩
        have b4 : Below w.heap.size w w4 := bw.trans (b4'.mono bw.size)
        clear b4' bw bb own
        cases ok
        all_goals
          go_wp2_with fail
          refine (validCounts_c (List.replicate 8 0) _ _ _ _ rfl (Rd.lit (Value.int .i64) (List.replicate 8 0) rfl rfl rfl) (by simp)).mono ?_
          rw [validCounts_zero]
          rintro e w5 ⟨rfl, b5'⟩
          have b5 : Below w.heap.size w w5 := (b4.alloc b4.size _).trans (b5'.mono (by have := b4.size; simp <;> omega))
          go_wp2_with fail
          go_ret
          exact ⟨rfl, b5⟩

namespace fnValidCounts
open Go.ChangeShapes Go.WideShapes Go.ChangeAt
open Go.ChangeMaps (open_string shut_string)
theorem own : ownKnob Try.prog.godebug = none := by kernel_rfl
theorem laidOut : laidOutB Try.prog = true := by kernel_rfl
set_option maxRecDepth 100000 in
theorem lifted (os : Os) (started : os.Started) (H : Type) (enc : TypeId × Value → H) :
    ReturnsInHanded {} Try.checked os 7 .any (Rows.fnValidCountsSpec.pre6 enc Try.prog Try.f7 Rows.fnValidCountsRow.domain false) (Rows.fnValidCountsSpec.post enc Try.prog Try.f7 false true false false) := by
  refine returnsInHanded_of_change (C := Try.checked) own started (by kernel_rfl) Try.func7
    (ChangeSpec.witness6 (enc := enc) (C := Try.checked) false ⟨#[], #[.slice none 0 0], []⟩ 8 (by kernel_rfl) (by kernel_rfl) (by kernel_rfl) (by kernel_rfl)) ?_
  intro W base args ds gs before hval0 hW hcnd _
  have hval : ∀ (j : Nat) t v, Try.f7.params[j]? = some t → args[j]? = some v → Value.okWide Try.prog W .any base t v := hval0
  have hW' := hW
  obtain ⟨p, q, hA0, hV, rfl, hfz, hnd⟩ := hW
  have hA : DataW.TrodAll enc Try.prog W 0 (fun _ => true) true Try.f7.params.toList args.toList ds p := hA0
  rw [Try.params7] at hA hval
  obtain ⟨v0, vs0, d0, ds0, p0, q0, hargs, rfl, rfl, h0, r0⟩ := trodAll_cons hA
  obtain ⟨rfl, rfl, rfl⟩ := trodAll_nil r0
  obtain rfl : args = #[v0] := by cases args; simp_all
  obtain ⟨rfl, rfl⟩ := trodVars_none hV
  obtain ⟨a0, n0, c0, rfl⟩ := okWide_slice Try.underlying28 (hval 0 28 v0 rfl rfl)
  have k0 := h0
  have lt0 : ∀ x ∈ p0, x.block < W.heap.size := by obtain ⟨m, hm⟩ := k0; exact DataW.trod_lt m _ _ _ hm
  obtain ⟨z0, e0, lc0, cm0, rd0, wf0⟩ := open_rd_int Try.underlying28 Try.underlying5 (by kernel_rfl) h0
  clear hA0 hval0
  refine (walk_FnValidCounts (w := W) z0 a0 n0 c0 e0 lc0 cm0 rd0 (fun x hx => wf_u8 (wf0 x hx))).mono fun e W' ⟨he, bel⟩ => ?_
  subst he
  exact ⟨_, rfl, _, _, _, [], _, [], hW', trodAll_mk1 (shut_bool Try.underlying4 _), (trodAll_cons_mk (Below.trod laidOut (by kernel_rfl) (of_decide_eq_true (by kernel_rfl)) k0 bel lt0) trodAll_mk0), rfl, bel.frame _, fun h => by cases h⟩
theorem closed : joinedFacts Try.prog 7 Try.f7 Rows.fnValidCountsSpec Rows.fnValidCountsRow = true :=
  facts_of mayEnter_ok liftsFinal_ok make_ok (by kernel_rfl)
theorem over : Rows.fnValidCountsRow.holds Try.pinned (OpenSpec.ofChange Rows.fnValidCountsSpec) :=
  OpenClaim.holds_of_wide 7 Try.f7 rfl rfl rfl rfl rfl rfl rfl ⟨rfl, rfl, rfl, rfl, rfl⟩ rfl rfl rfl rfl rfl (by kernel_rfl) Try.func7 closed
    (of_decide_eq_true (by kernel_rfl)) (by unfold Func.isWrapper; first | (rw [if_pos (by decide +kernel)]; kernel_rfl) | (rw [if_neg (by decide +kernel)]; exact ⟨rfl, rfl⟩))
    (fun os started H enc _ => lifted os started H enc)
/-- THE STATEMENT -/
theorem proved : Rows.FnValidCountsSaid := over
end fnValidCounts
end Go.Proofs.Ytkohknoomlkmeaa
