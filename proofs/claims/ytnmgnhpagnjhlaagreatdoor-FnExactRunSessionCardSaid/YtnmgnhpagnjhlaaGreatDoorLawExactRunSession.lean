/- FnExactRunSession: for every list of texts the law returns true, and what was there is as it was. No condition. -/
import Derived.Test.YtnmgnhpagnjhlaaGreatDoorCards
import Derived.Test.YtnmgnhpagnjhlaaGreatDoorTie
import Derived.Test.YtnmgnhpagnjhlaaGreatDoorDoorP
import Derived.Test.YtnmgnhpagnjhlaaGreatDoorStrs
import Derived.Test.YtnmgnhpagnjhlaaGreatDoorOpen
import Derived.Deep.Cut
set_option linter.unusedVariables false
set_option linter.unusedSimpArgs false
set_option linter.unnecessarySimpa false
namespace Go.Proofs.YtnmgnhpagnjhlaaGreatDoor
open Go.RowKit

set_option maxRecDepth 100000 in
set_option maxHeartbeats 8000000 in
theorem walk_FnExactRunSession (ls : List (List UInt8)) (A : Option Addr) (n c : Nat) (hN : ls.length = n) (hc : n ≤ c) (hm : c ≤ maxLen) {w : World} (h : Rd w A (strs ls)) (hl : ∀ l ∈ ls, l.length ≤ maxLen) (E : Env w) :
    Calls Tryz.prog 6 #[.slice A n c] w fun e w' => e = .returned (.bool true) ∧ Below w.heap.size w w' := by
  have HN := Lib.hid hN; have H := Lib.hid h; have HL := Lib.hid hl; have HE := Lib.hid E
  unfold maxLen at hm
  have HSZ := Lib.hid (szStrs_c ls A n c w hN h (by unfold maxLen; omega) hl)
  clear hN h hl E
  go_enter Tryz.func6, Tryz.ntmps6
  go_wp2_with fail
  refine HSZ.out.mono ?_
  rintro e w0 ⟨⟨r, rfl, hr⟩, rfl⟩
  by_cases hneg : r < 0
  · have hd : decide (r < 0) = true := decide_eq_true hneg
    clear hr hneg
    go_wp2_with fail
    go_ret
    exact ⟨rfl, Below.refl _ _⟩
  · have hd : decide (r < 0) = false := decide_eq_false hneg
    obtain ⟨hn20, hl20⟩ := hr (by omega)
    obtain ⟨OUT, hOUT⟩ : ∃ OUT, OUT = bsof (sessV ls) := ⟨_, rfl⟩
    have HT := Lib.hid (fun W (hW : Rd W A (strs ls)) => (show Calls Tryz.prog 24 #[.slice A n c] W (fun e w' => ∃ B d, e = .returned (.slice B n d) ∧ n ≤ d ∧ Rd w' B (strs ls) ∧ Below W.heap.size W w') from
      (toStrs_c (ls.map bsof) A n c W (by rw [List.length_map]; exact HN.out) (by rw [← strs_map]; exact hW) (by omega)).mono fun e w' hh => by
        obtain ⟨B, d, h1, h2, h3⟩ := hh
        have hln : (ls.map bsof).length = n := by rw [List.length_map]; exact HN.out
        rw [hln] at h1 h2
        rw [← strs_map] at h2
        exact ⟨B, d, h1, own_cap h2, Rd.of_own h2, h3⟩))
    have HS := Lib.hid (fun B d W (hW : Rd W B (strs ls)) => (show Calls Tryz.prog 23 #[.slice B n d] W (fun e w' => e = .returned (.string OUT) ∧ Below W.heap.size W w') from by rw [hOUT]; exact sRun_c ls B n d W HN.out hW (by omega) hl20))
    have HI := Lib.hid (fun B d W (hW : Rd W B (strs ls)) (hd : n ≤ d) (hE : Env W) => (show Calls Tryz.prog 25 #[.slice B n d] W (fun e w' => e = .returned (.string OUT) ∧ Below W.heap.size W w') from by rw [hOUT]; exact iRun_c ls B n d W HN.out hW (by omega) hd hl20 hE))
    have HEQ := Lib.hid (fun B d C f W (h1 : Rd W B (strs ls)) (h2 : Rd W C (strs ls)) => eqStrs_c ls B n d C f W HN.out h1 h2 (by omega))
    clear hr hneg hl20 hOUT HL HSZ
    go_wp2_with fail
    refine (HT.out _ H.out).mono ?_
    rintro e w1 ⟨B1, d1, rfl, hd1, rd1, b1⟩
    have FR1 := Lib.hid b1; have RD1 := Lib.hid rd1
    clear b1 rd1
    go_wp2_with fail
    refine (HS.out _ _ w1 RD1.out).mono ?_
    rintro e w2 ⟨rfl, b2⟩
    have FR2 := Lib.hid (FR1.out.trans (b2.mono FR1.out.size))
    clear b2
    go_wp2_with fail
    refine (HT.out _ (H.out.below FR2.out)).mono ?_
    rintro e w3 ⟨B3, d3, rfl, hd3, rd3, b3⟩
    have FR3 := Lib.hid (FR2.out.trans (b3.mono FR2.out.size)); have RD3 := Lib.hid rd3
    clear b3 rd3
    go_wp2_with fail
    refine (HI.out _ _ w3 RD3.out hd3 (HE.out.below FR3.out)).mono ?_
    rintro e w4 ⟨rfl, b4⟩
    have FR4 := Lib.hid (FR3.out.trans (b4.mono FR3.out.size)); have RD4 := Lib.hid (RD3.out.below b4)
    clear b4
    go_wp2_with fail
    refine (HT.out _ (H.out.below FR4.out)).mono ?_
    rintro e w5 ⟨B5, d5, rfl, hd5, rd5, b5⟩
    have FR5 := Lib.hid (FR4.out.trans (b5.mono FR4.out.size)); have RD5 := Lib.hid rd5; have RD6 := Lib.hid (RD4.out.below b5)
    clear b5 rd5
    go_wp2_with fail
    refine (HEQ.out _ _ _ _ w5 RD6.out RD5.out).mono ?_
    rintro e w6 ⟨rfl, q, rfl⟩
    go_wp2_with fail
    go_ret
    exact ⟨by first | rfl | simp, below_drewN FR5.out q⟩

namespace fnExactRunSession
open Go.ChangeShapes Go.WideShapes Go.ChangeAt
open Go.ChangeMaps (open_string shut_string)
theorem own : ownKnob Tryz.prog.godebug = none := by kernel_rfl
theorem laidOut : laidOutB Tryz.prog = true := by kernel_rfl
set_option maxRecDepth 100000 in
theorem lifted (os : Os) (started : os.Started) (H : Type) (enc : TypeId × Value → H) :
    ReturnsInHanded {} Tryz.checked os 6 .any (fun w args => (Rows.fnExactRunSessionSpec.pre enc Tryz.prog Tryz.f6 Rows.fnExactRunSessionRow.domain false w args ∧ laidMetH Tryz.prog Rows.fnExactRunSessionRow.laid w) ∧ sizedMet enc Tryz.prog Tryz.f6 (OpenSpec.ofChange Rows.fnExactRunSessionSpec) false w args)
      (Rows.fnExactRunSessionSpec.post enc Tryz.prog Tryz.f6 false true false false) := by
  refine returnsInHanded_and_shaped (C := Tryz.checked) (X := fun w _ => laidMetH Tryz.prog Rows.fnExactRunSessionRow.laid w) (fun _ _ _ hh h => h.of_heap hh) own started (by kernel_rfl) Tryz.func6
    (ChangeSpec.witness_shaped (enc := enc) (C := Tryz.checked) (os := os) (X := fun w _ => laidMetH Tryz.prog Rows.fnExactRunSessionRow.laid w) false (World.laidAll Tryz.prog os Rows.fnExactRunSessionRow.laid) #[.slice none 0 0] 8 (World.laidAll_os _ _ _)
      (World.shaped_of_ZipB (by kernel_rfl) (by kernel_rfl)) (by kernel_rfl) (by kernel_rfl) (by kernel_rfl)
      (by rw [MakeChecks.laidMetH_plain _ _ _ (by kernel_rfl)]; exact laidMet_laidAll _ (by kernel_rfl) (by kernel_rfl))) ?_
  intro W base args ds gs before hval0 hW hcnd _ hL hsh _
  have hval : ∀ (j : Nat) t v, Tryz.f6.params[j]? = some t → args[j]? = some v → Value.okWide Tryz.prog W .any base t v := hval0
  have hW' := hW
  obtain ⟨p, q, hA0, hV, rfl, hfz, hnd⟩ := hW
  have hA : DataW.TrodAll enc Tryz.prog W 0 (fun _ => true) true Tryz.f6.params.toList args.toList ds p := hA0
  rw [Tryz.params6] at hA hval
  obtain ⟨v0, vs0, d0, ds0, p0, q0, hargs, rfl, rfl, h0, r0⟩ := trodAll_cons hA
  obtain ⟨rfl, rfl, rfl⟩ := trodAll_nil r0
  obtain rfl : args = #[v0] := by cases args; simp_all
  obtain ⟨rfl, rfl⟩ := trodVars_none hV
  obtain ⟨a0, n0, c0, rfl⟩ := okWide_slice Tryz.underlying37 (hval 0 37 v0 rfl rfl)
  have k0 := h0
  have lt0 : ∀ x ∈ p0, x.block < W.heap.size := by obtain ⟨m, hm⟩ := k0; exact DataW.trod_lt m _ _ _ hm
  obtain ⟨z0, e0, lc0, cm0, rd0, bd0⟩ := open_rd_strs Tryz.underlying37 Tryz.underlying9 (by kernel_rfl) h0
  clear hA0 hval0
  refine (walk_FnExactRunSession (w := W) z0 a0 n0 c0 e0 lc0 cm0 rd0 bd0 (env_of_laid hL hsh)).mono fun e W' ⟨he, bel⟩ => ?_
  subst he
  exact ⟨_, rfl, _, _, _, [], _, [], hW', trodAll_mk1 (shut_bool Tryz.underlying4 _), (trodAll_cons_mk (Below.trod laidOut (by kernel_rfl) (of_decide_eq_true (by kernel_rfl)) k0 bel lt0) trodAll_mk0), rfl, bel.frame _, fun h => by cases h⟩
theorem closed : joinedFacts Tryz.prog 6 Tryz.f6 Rows.fnExactRunSessionSpec Rows.fnExactRunSessionRow = true := by kernel_rfl
theorem over : Rows.fnExactRunSessionRow.holds Tryz.pinned (OpenSpec.ofChange Rows.fnExactRunSessionSpec) :=
  OpenClaim.holds_of_wide 6 Tryz.f6 rfl rfl rfl rfl rfl rfl rfl ⟨rfl, rfl, rfl, rfl, rfl⟩ rfl rfl rfl rfl rfl (by kernel_rfl) Tryz.func6 closed
    (of_decide_eq_true (by kernel_rfl)) (by unfold Func.isWrapper; first | (rw [if_pos (by decide +kernel)]; kernel_rfl) | (rw [if_neg (by decide +kernel)]; exact ⟨rfl, rfl⟩))
    (fun os started H enc _ => lifted os started H enc)
/-- THE STATEMENT: the tied card. -/
theorem proved : Rows.FnExactRunSessionCardSaid :=
  Claim7.holds_tied_plain_at .later [] [.data, .data, .data, .data, .sentinel, .sentinel, .pinned] true (true, "be294eb38dac3e77696c27167f6ee1ff95c2be86aca27ec3f1751608eb7986fc") true over (fun _ h => by cases h) (by kernel_rfl) (fun _ h => by cases h) fnExactRunSession_row_tie rfl ⟨rfl, rfl⟩ (by kernel_rfl) rfl
    (fun f fn hf hfn => by
      obtain rfl : f = 6 := Option.some.inj ((show Tryz.prog.funcNamed "loop.example/connectionpool/laws.FnExactRunSession" = some 6 by kernel_rfl).symm.trans hf) |>.symm
      obtain rfl : fn = Tryz.f6 := (Option.some.inj (Tryz.func6.symm.trans hfn)).symm
      exact ⟨by kernel_rfl, fun j t ht => by
        rw [Tryz.params6] at ht
        have hm : t ∈ [37] := by simpa using Array.mem_of_getElem? ht
        have hall : ([37].all fun u => !Tryz.prog.wantsStandIn u) = true := by kernel_rfl
        exact (show Tryz.prog.wantsStandIn t = false by simpa using List.all_eq_true.1 hall t hm)⟩)
    (by kernel_rfl)
end fnExactRunSession
end Go.Proofs.YtnmgnhpagnjhlaaGreatDoor
