/- FnCleanUpKinds: for every code the law returns true, and what was there is as it was. No condition. -/
import Derived.Test.YtoljmhggkighnaaRows
import Derived.Test.YtoljmhggkighnaaNestLaw
import Derived.Test.YtoljmhggkighnaaNestDraw
import Derived.Test.YtoljmhggkighnaaOpenC
set_option linter.unusedVariables false
set_option linter.unusedSimpArgs false
set_option linter.unnecessarySimpa false
namespace Go.Proofs.Ytoljmhggkighnaa
open Go.RowKit

theorem cleanV_four (d k : Int) (ms : List Int) (b : Bool) : (∀ x ∈ cleanV d k ms b, x = 4) ∧ (cleanV d k ms b).length ≤ 4 := by
  unfold cleanV
  split
  · rename_i h
    obtain ⟨_, hs⟩ := (validN_iff d k ms b).1 h
    rw [St.ok_iff] at hs
    exact ⟨fun x hx => List.eq_of_mem_replicate hx, by rw [List.length_replicate]; exact hs.1⟩
  · exact ⟨fun x hx => by simp at hx, by simp⟩
set_option maxRecDepth 100000 in
set_option maxHeartbeats 16000000 in
theorem walk_FnCleanUpKinds (zs : List Int) (A : Option Addr) (n c : Nat) (hN : zs.length = n) (hc : n ≤ c) (hm : c ≤ maxLen) {w : World} (h : Rd w A (zs.map (.int .u8))) (hz : ∀ z ∈ zs, 0 ≤ z ∧ z ≤ 255) :
    Calls Try.prog 6 #[.slice A n c] w fun e w' => e = .returned (.bool true) ∧ Below w.heap.size w w' := by
  have HD := Lib.hid (drawCleanUp_c zs A n c w hN hc hm h hz)
  clear h hz hN
  unfold maxLen at hm
  by_cases hbig : 1048576 < n
  · go_enter Try.func6, Try.ntmps6
    go_wp2
    go_ret
    exact ⟨rfl, Below.refl _ _⟩
  · go_enter Try.func6, Try.ntmps6
    go_wp2_with fail
    refine HD.out.mono ?_
    rintro e w1 ⟨d, k, ms, b, AP, cP, rfl, hl, hcP, fP, b1⟩
    have EB1 := Lib.hid b1; clear b1
    have FP1 := Lib.hid fP; clear fP
    obtain ⟨zs, hzs⟩ : ∃ zs, zs = cleanV d k ms b := ⟨_, rfl⟩
    obtain ⟨hz4, hzl⟩ := cleanV_four d k ms b
    rw [← hzs] at hz4 hzl
    have HZ := Lib.hid hzs; have HZ4 := Lib.hid hz4; clear hzs hz4
    go_wp2_with fail
    obtain ⟨w2, hw2⟩ : ∃ W, W = w1.alloc (.cells #[.int .i64 d, .int .i64 k, .slice AP ms.length cP, .bool b] 27) := ⟨_, rfl⟩
    obtain ⟨gPV, hgPV⟩ : ∃ g, g = w1.heap.size := ⟨_, rfl⟩
    rw [← hw2, ← hgPV]
    have hv2 : Blk w2 gPV 27 #[.int .i64 d, .int .i64 k, .slice AP ms.length cP, .bool b] := by rw [hw2, hgPV]; exact Blk.new _ _ _
    have V2 := Lib.hid hv2; clear hv2
    have hFP2 : Frd w2 w.heap.size AP (ms.map (.int .i64)) := by rw [hw2]; exact FP1.out.alloc _
    have hb2 : Below w.heap.size w w2 := by rw [hw2]; exact EB1.out.alloc EB1.out.size _
    have EFP2 := Lib.hid hFP2; clear hFP2
    have EB2 := Lib.hid hb2; clear hb2
    clear FP1 EB1 hw2 hgPV
    obtain ⟨pvq0, pvq1, pvq2, pvq3, pvqz⟩ := blk4 V2.out
    have pvql := Blk.lt V2.out
    have pvqm : ¬ gPV = w2.heap.size := by omega
    have pvqn : ¬ w2.heap.size = gPV := by omega
    go_wp2_with fail
    refine (cleanUp_c d k ms b _ _ _ _ rfl EFP2.out.rd (by omega)).mono ?_
    rw [← HZ.out]
    rintro e w3 ⟨AG, cG, rfl, q3, b3⟩
    have r3 : Row w3 w2.heap.size 3 1 AG (zs).length cG ((zs).map (.int .i64)) := Row.of_own q3
    have R3 := Lib.hid (r3.mono EB2.out.size); clear r3 q3
    clear pvq0 pvq1 pvq2 pvq3 pvqz pvql pvqm pvqn
    have hFP3 : Frd w3 w.heap.size AP (ms.map (.int .i64)) := EFP2.out.below b3
    have hPV3 : Blk w3 gPV 27 #[.int .i64 d, .int .i64 k, .slice AP ms.length cP, .bool b] := Blk.below V2.out b3 (Blk.lt V2.out)
    have hb3 : Below w.heap.size w w3 := EB2.out.trans (b3.mono EB2.out.size)
    have EFP3 := Lib.hid hFP3; clear hFP3
    have EPV3 := Lib.hid hPV3; clear hPV3
    have EB3 := Lib.hid hb3; clear hb3
    clear EFP2 V2 EB2 b3
    obtain ⟨pvq0, pvq1, pvq2, pvq3, pvqz⟩ := blk4 EPV3.out
    have pvql := Blk.lt EPV3.out
    have pvqm : ¬ gPV = w3.heap.size := by omega
    have pvqn : ¬ w3.heap.size = gPV := by omega
    go_wp2_with fail
    refine (sCleanUp_c d k ms b _ _ _ _ rfl EFP3.out.rd (by omega)).mono ?_
    rw [← HZ.out]
    rintro e w4 ⟨AH, cH, rfl, q4, b4⟩
    have r4 : Row w4 w3.heap.size 3 1 AH (zs).length cH ((zs).map (.int .i64)) := Row.of_own q4
    have apGH := Lib.hid (row_apart R3.out r4 (Nat.le_refl _))
    have R4 := Lib.hid (r4.mono EB3.out.size); clear r4 q4
    clear pvq0 pvq1 pvq2 pvq3 pvqz pvql pvqm pvqn
    have hFP4 : Frd w4 w.heap.size AP (ms.map (.int .i64)) := EFP3.out.below b4
    have hPV4 : Blk w4 gPV 27 #[.int .i64 d, .int .i64 k, .slice AP ms.length cP, .bool b] := Blk.below EPV3.out b4 (Blk.lt EPV3.out)
    have hG4 : Row w4 w.heap.size 3 1 AG (zs).length cG ((zs).map (.int .i64)) := R3.out.below b4
    have hb4 : Below w.heap.size w w4 := EB3.out.trans (b4.mono EB3.out.size)
    have EFP4 := Lib.hid hFP4; clear hFP4
    have EPV4 := Lib.hid hPV4; clear hPV4
    have EG4 := Lib.hid hG4; clear hG4
    have EB4 := Lib.hid hb4; clear hb4
    clear EFP3 EPV3 R3 EB3 b4
    obtain ⟨pvq0, pvq1, pvq2, pvq3, pvqz⟩ := blk4 EPV4.out
    have pvql := Blk.lt EPV4.out
    have pvqm : ¬ gPV = w4.heap.size := by omega
    have pvqn : ¬ w4.heap.size = gPV := by omega
    go_wp2_with fail
    refine (equalInts_c zs zs _ _ _ _ _ _ _ rfl rfl EG4.out.rd R4.out.rd (by omega) (by omega)).mono ?_
    rw [decide_eq_true rfl]
    rintro e w5 ⟨rfl, m5, hw5⟩
    clear pvq0 pvq1 pvq2 pvq3 pvqz pvql pvqm pvqn
    have hFP5 : Frd w5 w.heap.size AP (ms.map (.int .i64)) := by rw [hw5]; exact EFP4.out
    have hPV5 : Blk w5 gPV 27 #[.int .i64 d, .int .i64 k, .slice AP ms.length cP, .bool b] := by rw [hw5]; exact EPV4.out
    have hG5 : Row w5 w.heap.size 3 1 AG (zs).length cG ((zs).map (.int .i64)) := by rw [hw5]; exact EG4.out
    have hH5 : Row w5 w.heap.size 3 1 AH (zs).length cH ((zs).map (.int .i64)) := by rw [hw5]; exact R4.out
    have hb5 : Below w.heap.size w w5 := by rw [hw5]; exact below_drewN EB4.out _
    have EFP5 := Lib.hid hFP5; clear hFP5
    have EPV5 := Lib.hid hPV5; clear hPV5
    have EG5 := Lib.hid hG5; clear hG5
    have EH5 := Lib.hid hH5; clear hH5
    have EB5 := Lib.hid hb5; clear hb5
    clear EFP4 EPV4 EG4 R4 EB4 hw5
    obtain ⟨pvq0, pvq1, pvq2, pvq3, pvqz⟩ := blk4 EPV5.out
    have pvql := Blk.lt EPV5.out
    have pvqm : ¬ gPV = w5.heap.size := by omega
    have pvqn : ¬ w5.heap.size = gPV := by omega
    clear EH5
    clear EFP5
    clear EPV5
    clear pvq0 pvq1 pvq2 pvq3 pvqz pvql pvqm pvqn
    have RG := Lib.hid EG5.out.rd
    go_wp2_with fail
    go_loopw [5] (fun i wr => ∃ j : Nat, j ≤ zs.length ∧ i = .int .i64 j ∧ w5 = wr) (fun i _ => zs.length - (intOf i).toNat)
    case atStart => exact ⟨0, Nat.zero_le _, rfl, by first | rfl | trivial⟩
    case round =>
      obtain ⟨j, hj, rfl, hw⟩ := hrel
      subst hw
      by_cases hlt : j < zs.length
      · obtain ⟨b0, off, hA, hc⟩ := RG.out (by simp; omega)
        subst hA
        have hx : w5.cell? ⟨b0, off + j, none⟩ = some (.int .i64 4) := hc _ _ (by rw [List.getElem?_map, List.getElem?_eq_getElem hlt, HZ4.out _ (List.getElem_mem hlt)]; rfl)
        clear hc
        go_wp2_with fail
        go_roundw
        case rel => exact ⟨j + 1, by omega, by go_num, by first | rfl | trivial⟩
        case measure => simp [intOf]; omega
      · obtain rfl : j = zs.length := by omega
        have hcv : cleanV 0 0 [] false = [] := by decide
        go_wp2_with fail
        refine (cleanUp_c 0 0 [] false _ _ _ _ rfl (Rd.nil _ _) (by simp)).mono ?_
        rw [hcv]
        rintro e w6 ⟨AK, cK, rfl, q6, b6⟩
        have r6 : Row w6 w5.heap.size 3 1 AK (([] : List Int)).length cK ((([] : List Int)).map (.int .i64)) := Row.of_own q6
        have R6 := Lib.hid (r6.mono EB5.out.size); clear r6 q6
        have hb6 : Below w.heap.size w w6 := EB5.out.trans (b6.mono EB5.out.size)
        have EB6 := Lib.hid hb6; clear hb6
        clear EB5 b6
        go_wp2_with fail
        go_ret
        exact ⟨by simp <;> omega, EB6.out⟩

namespace fnCleanUpKinds
open Go.ChangeShapes Go.WideShapes Go.ChangeAt
open Go.ChangeMaps (open_string shut_string)
theorem own : ownKnob Try.prog.godebug = none := by kernel_rfl
theorem laidOut : laidOutB Try.prog = true := by kernel_rfl
set_option maxRecDepth 100000 in
theorem lifted (os : Os) (started : os.Started) (H : Type) (enc : TypeId × Value → H) :
    ReturnsInHanded {} Try.checked os 6 .any (Rows.fnCleanUpKindsSpec.pre6 enc Try.prog Try.f6 Rows.fnCleanUpKindsRow.domain false) (Rows.fnCleanUpKindsSpec.post enc Try.prog Try.f6 false true false false) := by
  refine returnsInHanded_of_change (C := Try.checked) own started (by kernel_rfl) Try.func6
    (ChangeSpec.witness6 (enc := enc) (C := Try.checked) false ⟨#[], #[.slice none 0 0], []⟩ 8 (by kernel_rfl) (by kernel_rfl) (by kernel_rfl) (by kernel_rfl)) ?_
  intro W base args ds gs before hval0 hW hcnd _
  have hval : ∀ (j : Nat) t v, Try.f6.params[j]? = some t → args[j]? = some v → Value.okWide Try.prog W .any base t v := hval0
  have hW' := hW
  obtain ⟨p, q, hA0, hV, rfl, hfz, hnd⟩ := hW
  have hA : DataW.TrodAll enc Try.prog W 0 (fun _ => true) true Try.f6.params.toList args.toList ds p := hA0
  rw [Try.params6] at hA hval
  obtain ⟨v0, vs0, d0, ds0, p0, q0, hargs, rfl, rfl, h0, r0⟩ := trodAll_cons hA
  obtain ⟨rfl, rfl, rfl⟩ := trodAll_nil r0
  obtain rfl : args = #[v0] := by cases args; simp_all
  obtain ⟨rfl, rfl⟩ := trodVars_none hV
  obtain ⟨a0, n0, c0, rfl⟩ := okWide_slice Try.underlying31 (hval 0 31 v0 rfl rfl)
  have k0 := h0
  have lt0 : ∀ x ∈ p0, x.block < W.heap.size := by obtain ⟨m, hm⟩ := k0; exact DataW.trod_lt m _ _ _ hm
  obtain ⟨z0, e0, lc0, cm0, rd0, wf0⟩ := open_rd_int Try.underlying31 Try.underlying5 (by kernel_rfl) h0
  clear hA0 hval0
  refine (walk_FnCleanUpKinds (w := W) z0 a0 n0 c0 e0 lc0 cm0 rd0 (fun x hx => wf_u8 (wf0 x hx))).mono fun e W' ⟨he, bel⟩ => ?_
  subst he
  exact ⟨_, rfl, _, _, _, [], _, [], hW', trodAll_mk1 (shut_bool Try.underlying4 _), (trodAll_cons_mk (Below.trod laidOut (by kernel_rfl) (of_decide_eq_true (by kernel_rfl)) k0 bel lt0) trodAll_mk0), rfl, bel.frame _, fun h => by cases h⟩
theorem closed : joinedFacts Try.prog 6 Try.f6 Rows.fnCleanUpKindsSpec Rows.fnCleanUpKindsRow = true :=
  facts_of mayEnter_ok liftsFinal_ok make_ok (by kernel_rfl)
theorem over : Rows.fnCleanUpKindsRow.holds Try.pinned (OpenSpec.ofChange Rows.fnCleanUpKindsSpec) :=
  OpenClaim.holds_of_wide 6 Try.f6 rfl rfl rfl rfl rfl rfl rfl ⟨rfl, rfl, rfl, rfl, rfl⟩ rfl rfl rfl rfl rfl (by kernel_rfl) Try.func6 closed
    (of_decide_eq_true (by kernel_rfl)) (by unfold Func.isWrapper; first | (rw [if_pos (by decide +kernel)]; kernel_rfl) | (rw [if_neg (by decide +kernel)]; exact ⟨rfl, rfl⟩))
    (fun os started H enc _ => lifted os started H enc)
/-- THE STATEMENT -/
theorem proved : Rows.FnCleanUpKindsSaid := over
end fnCleanUpKinds
end Go.Proofs.Ytoljmhggkighnaa
