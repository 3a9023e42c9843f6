/- FnExactFormatSettings: for every list of settings the law returns true, and what was there is as it was. No condition. -/
import Derived.Test.YtmphjojhfmikeaaDoorCards
import Derived.Test.YtmphjojhfmikeaaDoorTie
import Derived.Test.YtmphjojhfmikeaaDoorSetText
import Derived.Test.YtmphjojhfmikeaaDoorOpenS
set_option linter.unusedVariables false
set_option linter.unusedSimpArgs false
set_option linter.unnecessarySimpa false
namespace Go.Proofs.YtmphjojhfmikeaaDoor
open Go.RowKit

set_option maxRecDepth 100000 in
set_option maxHeartbeats 4000000 in
theorem walk_FnExactFormatSettings (xs : List Pr) (A : Option Addr) (n c : Nat) (hN : xs.length = n) (hc : n ≤ c) (hm : c ≤ maxLen) {w : World} (h : Rd w A (sc xs)) :
    Calls Tryd.prog 3 #[.slice A n c] w fun e w' => e = .returned (.bool true) ∧ Below w.heap.size w w' := by
  subst hN
  unfold maxLen at hm
  obtain ⟨T, hT⟩ : ∃ T, T = fmtS xs := ⟨_, rfl⟩
  have hsF : ∀ (A : Option Addr) (c : Nat) (w : World), Rd w A (sc xs) → xs.length ≤ 1073741824 → Calls Tryd.prog 9 #[.slice A xs.length c] w fun e w' => e = .returned (.string T) ∧ Below w.heap.size w w' := fun A c w h hn => by rw [hT]; exact sFormat_c xs A _ c w rfl h hn
  have hF : ∀ (A : Option Addr) (c : Nat) (w : World), Rd w A (sc xs) → xs.length ≤ 1073741824 → Calls Tryd.prog 11 #[.slice A xs.length c] w fun e w' => e = .returned (.string T) ∧ Below w.heap.size w w' := fun A c w h hn => by rw [hT]; exact format_c xs A _ c w rfl h hn
  have SF := Lib.hid hsF; have IF := Lib.hid hF
  have H := Lib.hid h
  clear hT hsF hF h
  by_cases hbig : (1048576 : Int) < (xs.length : Int)
  · have HB := Lib.hid (show (if (1048576 : Int) < (xs.length : Int) then -1 else 1048576 - (xs.length : Int)) = -1 by rw [if_pos hbig])
    go_enter Tryd.func3, Tryd.ntmps3
    go_wp2_with fail
    refine (szS_c A xs.length c 1048576 w (by omega) (by omega) (by omega)).mono ?_
    rw [HB.out]
    rintro e w1 ⟨rfl, rfl⟩
    go_wp2_with fail
    go_ret
    exact ⟨rfl, Below.refl _ _⟩
  · have hn : xs.length ≤ 1073741824 := by omega
    obtain ⟨l, hl⟩ : ∃ l, l = 1048576 - (xs.length : Int) := ⟨_, rfl⟩
    have hl0 : 0 ≤ l := by omega
    have hl1 : decide (l < 0) = false := decide_eq_false (by omega)
    have HL := Lib.hid (show (if (1048576 : Int) < (xs.length : Int) then -1 else 1048576 - (xs.length : Int)) = l by rw [if_neg hbig, hl]); clear hl
    go_enter Tryd.func3, Tryd.ntmps3
    go_wp2_with fail
    refine (szS_c A xs.length c 1048576 w (by omega) (by omega) (by omega)).mono ?_
    rw [HL.out]
    rintro e w1 ⟨rfl, rfl⟩
    go_wp2_with fail
    refine (toSets_c xs A _ c w rfl H.out hn).mono ?_
    rintro e w1 ⟨A1, c1, rfl, r1, b1⟩
    have R1 := Lib.hid r1.rd; have B1 := Lib.hid b1
    clear r1 b1
    go_wp2_with fail
    refine (SF.out A1 c1 w1 R1.out hn).mono ?_
    rintro e w2 ⟨rfl, b2⟩
    have B2 := Lib.hid (B1.out.trans (b2.mono B1.out.size))
    clear b2 R1 B1
    go_wp2_with fail
    refine (toSets_c xs A _ c w2 rfl (H.out.below B2.out) hn).mono ?_
    rintro e w3 ⟨A3, c3, rfl, r3, b3⟩
    have B3 := Lib.hid (B2.out.trans (b3.mono B2.out.size)); have R3 := Lib.hid r3.rd
    clear r3 b3 B2
    go_wp2_with fail
    refine (IF.out A3 c3 w3 R3.out hn).mono ?_
    rintro e w4 ⟨rfl, b4⟩
    have B4 := Lib.hid (B3.out.trans (b4.mono B3.out.size)); have R4 := Lib.hid (R3.out.below b4)
    clear b4 B3 R3
    go_wp2_with fail
    refine (toSets_c xs A _ c w4 rfl (H.out.below B4.out) hn).mono ?_
    rintro e w5 ⟨A5, c5, rfl, r5, b5⟩
    have B5 := Lib.hid (B4.out.trans (b5.mono B4.out.size)); have R5 := Lib.hid r5.rd; have R45 := Lib.hid (R4.out.below b5)
    clear r5 b5 B4 R4
    go_wp2_with fail
    refine (eqSets_c xs A3 A5 _ c3 c5 w5 rfl R45.out R5.out hn).mono ?_
    rintro e w6 ⟨rfl, b6⟩
    go_wp2_with fail
    go_ret
    exact ⟨rfl, B5.out.trans (b6.mono B5.out.size)⟩

namespace fnExactFormatSettings
open Go.ChangeShapes Go.WideShapes Go.ChangeAt
open Go.ChangeMaps (open_string shut_string)
theorem own : ownKnob Tryd.prog.godebug = none := by kernel_rfl
theorem laidOut : laidOutB Tryd.prog = true := by kernel_rfl
set_option maxRecDepth 100000 in
theorem lifted (os : Os) (started : os.Started) (H : Type) (enc : TypeId × Value → H) :
    ReturnsInHanded {} Tryd.checked os 3 .any (fun w args => (Rows.fnExactFormatSettingsSpec.pre enc Tryd.prog Tryd.f3 Rows.fnExactFormatSettingsRow.domain false w args ∧ laidMetH Tryd.prog Rows.fnExactFormatSettingsRow.laid w) ∧ sizedMet enc Tryd.prog Tryd.f3 (OpenSpec.ofChange Rows.fnExactFormatSettingsSpec) false w args)
      (Rows.fnExactFormatSettingsSpec.post enc Tryd.prog Tryd.f3 false true false false) := by
  refine returnsInHanded_of_change_and (C := Tryd.checked) (X := fun w _ => laidMetH Tryd.prog Rows.fnExactFormatSettingsRow.laid w) (fun _ _ _ hh h => h.of_heap hh) own started (by kernel_rfl) Tryd.func3
    (ChangeSpec.witness_shaped (enc := enc) (C := Tryd.checked) (os := os) (X := fun w _ => laidMetH Tryd.prog Rows.fnExactFormatSettingsRow.laid w) false (World.laidAll Tryd.prog os Rows.fnExactFormatSettingsRow.laid) #[.slice none 0 0] 8 (World.laidAll_os _ _ _)
      (World.shaped_of_ZipB (by kernel_rfl) (by kernel_rfl)) (by kernel_rfl) (by kernel_rfl) (by kernel_rfl)
      (by rw [MakeChecks.laidMetH_plain _ _ _ (by kernel_rfl)]; exact laidMet_laidAll _ (by kernel_rfl) (by kernel_rfl))) ?_
  intro W base args ds gs before hval0 hW hcnd _ hL _
  have hval : ∀ (j : Nat) t v, Tryd.f3.params[j]? = some t → args[j]? = some v → Value.okWide Tryd.prog W .any base t v := hval0
  have hW' := hW
  obtain ⟨p, q, hA0, hV, rfl, hfz, hnd⟩ := hW
  have hA : DataW.TrodAll enc Tryd.prog W 0 (fun _ => true) true Tryd.f3.params.toList args.toList ds p := hA0
  rw [Tryd.params3] at hA hval
  obtain ⟨v0, vs0, d0, ds0, p0, q0, hargs, rfl, rfl, h0, r0⟩ := trodAll_cons hA
  obtain ⟨rfl, rfl, rfl⟩ := trodAll_nil r0
  obtain rfl : args = #[v0] := by cases args; simp_all
  obtain ⟨rfl, rfl⟩ := trodVars_none hV
  obtain ⟨a0, n0, c0, rfl⟩ := okWide_slice Tryd.underlying22 (hval 0 22 v0 rfl rfl)
  have k0 := h0
  have lt0 : ∀ x ∈ p0, x.block < W.heap.size := by obtain ⟨m, hm⟩ := k0; exact DataW.trod_lt m _ _ _ hm
  obtain ⟨fu0, hf0⟩ := h0
  obtain ⟨z0, e0, lc0, cm0, rd0⟩ := open_rd_pairs Tryd.underlying22 Tryd.underlying42 (by kernel_rfl) rfl rfl (by kernel_rfl) (by kernel_rfl) Tryd.underlying3 Tryd.underlying3 hf0
  clear hA0 hval0
  refine (walk_FnExactFormatSettings (w := W) z0 a0 n0 c0 e0 lc0 cm0 rd0).mono fun e W' ⟨he, bel⟩ => ?_
  subst he
  exact ⟨_, rfl, _, _, _, [], _, [], hW', trodAll_mk1 (shut_bool Tryd.underlying4 _), (trodAll_cons_mk (Below.trod laidOut (by kernel_rfl) (of_decide_eq_true (by kernel_rfl)) k0 bel lt0) trodAll_mk0), rfl, bel.frame _, fun h => by cases h⟩
theorem closed : joinedFacts Tryd.prog 3 Tryd.f3 Rows.fnExactFormatSettingsSpec Rows.fnExactFormatSettingsRow = true := by kernel_rfl
theorem over : Rows.fnExactFormatSettingsRow.holds Tryd.pinned (OpenSpec.ofChange Rows.fnExactFormatSettingsSpec) :=
  OpenClaim.holds_of_wide 3 Tryd.f3 rfl rfl rfl rfl rfl rfl rfl ⟨rfl, rfl, rfl, rfl, rfl⟩ rfl rfl rfl rfl rfl (by kernel_rfl) Tryd.func3 closed
    (of_decide_eq_true (by kernel_rfl)) (by unfold Func.isWrapper; first | (rw [if_pos (by decide +kernel)]; kernel_rfl) | (rw [if_neg (by decide +kernel)]; exact ⟨rfl, rfl⟩))
    (fun os started H enc _ => lifted os started H enc)
/-- THE STATEMENT: the tied card. -/
theorem proved : Rows.FnExactFormatSettingsCardSaid :=
  Claim7.holds_tied_plain_at .later [] [.data, .data, .data] true (true, "1746d617ea578d28f593b839795a868390241190724b0a501b3599ab15e98489") true over (fun _ h => by cases h) (by kernel_rfl) (fun _ h => by cases h) fnExactFormatSettings_row_tie rfl ⟨rfl, rfl⟩ (by kernel_rfl) rfl
    (fun f fn hf hfn => by
      obtain rfl : f = 3 := Option.some.inj ((show Tryd.prog.funcNamed "loop.example/connectionpool/laws.FnExactFormatSettings" = some 3 by kernel_rfl).symm.trans hf) |>.symm
      obtain rfl : fn = Tryd.f3 := (Option.some.inj (Tryd.func3.symm.trans hfn)).symm
      exact ⟨by kernel_rfl, fun j t ht => by
        rw [Tryd.params3] at ht
        have hm : t ∈ [22] := by simpa using Array.mem_of_getElem? ht
        have hall : ([22].all fun u => !Tryd.prog.wantsStandIn u) = true := by kernel_rfl
        exact (show Tryd.prog.wantsStandIn t = false by simpa using List.all_eq_true.1 hall t hm)⟩)
    (by kernel_rfl)
end fnExactFormatSettings
end Go.Proofs.YtmphjojhfmikeaaDoor
