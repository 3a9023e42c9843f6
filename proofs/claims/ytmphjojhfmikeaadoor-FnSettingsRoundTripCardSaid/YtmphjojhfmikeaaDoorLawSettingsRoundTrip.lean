/- FnSettingsRoundTrip: for every code the law returns true, and what was there is as it was. No condition. -/
import Derived.Test.YtmphjojhfmikeaaDoorCards
import Derived.Test.YtmphjojhfmikeaaDoorTie
import Derived.Test.YtmphjojhfmikeaaDoorDoor
import Derived.Test.YtmphjojhfmikeaaDoorMarkS
import Derived.Test.YtmphjojhfmikeaaDoorDrawS
import Derived.Test.YtmphjojhfmikeaaDoorOpen
set_option linter.unusedVariables false
set_option linter.unusedSimpArgs false
set_option linter.unnecessarySimpa false
namespace Go.Proofs.YtmphjojhfmikeaaDoor
open Go.RowKit

theorem bsof_empty_ : (bsof []).toList.isEmpty = true := by decide +kernel
theorem setsL_ne (x : Pr) (xs : List Pr) : setsL (x :: xs) ≠ [] := by
  intro e
  have h := spl_comma (setsL (x :: xs))
  unfold setsL at e
  have hx : setL x ≠ [] := by unfold setL; simp
  cases xs with
  | nil => rw [List.map_singleton, comma_one] at e; exact hx e
  | cons y ys => rw [List.map_cons, List.map_cons, comma_cons] at e; simp at e
set_option maxRecDepth 100000 in
set_option maxHeartbeats 4000000 in
theorem walk_FnSettingsRoundTrip (zs : List Int) (A : Option Addr) (n c : Nat) (hN : zs.length = n) (hc : n ≤ c) (hm : c ≤ maxLen) {w : World} (h : Rd w A (zs.map (.int .u8))) (hz : ∀ z ∈ zs, 0 ≤ z ∧ z ≤ 255) (E : Env w) :
    Calls Tryd.prog 5 #[.slice A n c] w fun e w' => e = .returned (.bool true) ∧ Below w.heap.size w w' := by
  have HD := Lib.hid (drawFormatSettings_c zs A n c w hN hc hm h hz)
  have HE := Lib.hid E
  clear h hz hN E
  unfold maxLen at hm
  by_cases hbig : 1048576 < n
  · go_enter Tryd.func5, Tryd.ntmps5
    go_wp2
    go_ret
    exact ⟨rfl, Below.refl _ _⟩
  · go_enter Tryd.func5, Tryd.ntmps5
    go_wp2_with fail
    refine HD.out.mono ?_
    rintro e w1 ⟨A1, c1, xs, rfl, hl, hc1, f1, b1⟩
    have HB1 := Lib.hid b1; have R1 := Lib.hid f1.rd
    clear b1 f1 HD
    obtain ⟨T, hT⟩ : ∃ T, T = fmtS xs := ⟨_, rfl⟩
    obtain ⟨v, hv⟩ : ∃ v, v = validS (-1) xs := ⟨_, rfl⟩
    have hsF : ∀ (w : World), Rd w A1 (sc xs) → Calls Tryd.prog 9 #[.slice A1 xs.length c1] w fun e w' => e = .returned (.string T) ∧ Below w.heap.size w w' := fun w h => by rw [hT]; exact sFormat_c xs A1 _ c1 w rfl h (by omega)
    have hV : ∀ (w : World), Rd w A1 (sc xs) → Calls Tryd.prog 14 #[.slice A1 xs.length c1] w fun e w' => e = .returned (.bool v) ∧ Below w.heap.size w w' := fun w h => by rw [hv]; exact validSets_c xs A1 _ c1 w rfl h (by omega)
    have SF := Lib.hid hsF; have IV := Lib.hid hV
    clear hsF hV
    go_wp2_with fail
    refine (format_c xs A1 _ c1 w1 rfl R1.out (by omega)).mono ?_
    rw [← hT]
    rintro e w2 ⟨rfl, b2⟩
    have HB2 := Lib.hid (HB1.out.trans (b2.mono HB1.out.size)); have R2 := Lib.hid (R1.out.below b2)
    have HT := Lib.hid hT; have HV := Lib.hid hv
    clear b2 HB1 R1 hT hv
    go_wp2_with fail
    refine (SF.out _ R2.out).mono ?_
    rintro e w3 ⟨rfl, b3⟩
    have HB3 := Lib.hid (HB2.out.trans (b3.mono HB2.out.size)); have R3 := Lib.hid (R2.out.below b3)
    clear b3 HB2 R2
    go_wp2_with fail
    refine (IV.out _ R3.out).mono ?_
    rintro e w4 ⟨rfl, b4⟩
    have HB4 := Lib.hid (HB3.out.trans (b4.mono HB3.out.size)); have R4 := Lib.hid (R3.out.below b4)
    clear b4 HB3 R3
    cases v
    · go_wp2_with fail
      refine (SF.out _ R4.out).mono ?_
      rintro e w5 ⟨rfl, b5⟩
      go_wp2_with fail
      go_ret
      exact ⟨by first | rfl | simp, HB4.out.trans (b5.mono HB4.out.size)⟩
    · have hTT : T = bsof (setsL xs) := by rw [HT.out]; unfold fmtS; rw [← HV.out]; rfl
      have hTl : T.data.toList = setsL xs := by rw [hTT]; rfl
      have hpt := parse_text xs HV.out.symm
      have hTs : T.size ≤ 160 := by
        rw [hTT, bsof_size]
        have := setsL_len xs HV.out.symm xs.length
        rwa [List.take_length] at this
      have hP : ∀ W, Env W → Calls Tryd.prog 15 #[.string T] W (RetPV xs true W) := fun W hW => by
        have := parse_c T W (by omega) hW
        rw [hTl] at this
        unfold pvX pvOk at this
        rw [hpt] at this
        exact this
      have HP := Lib.hid hP
      have hem : T.toList.isEmpty = ((xs.length : Int) == 0) := by
        rw [hTT]
        cases xs with
        | nil => exact bsof_empty_
        | cons x xs =>
          have h1 : (((x :: xs).length : Int) == 0) = false := beq_eq_false_iff_ne.2 (by simp; omega)
          rw [h1, ByteArray.toList_eq, data_bsof]
          cases hs : setsL (x :: xs) with
          | nil => exact absurd hs (setsL_ne x xs)
          | cons a b => rfl
      obtain ⟨em, hem2⟩ : ∃ em, em = T.toList.isEmpty := ⟨_, rfl⟩
      have hem3 : T.toList.isEmpty = em := hem2.symm
      have hem4 : ((xs.length : Int) == 0) = em := by rw [← hem, hem3]
      clear hTT hTl hpt hP hem hem2
      go_wp2_with fail
      refine (HP.out _ (HE.out.below HB4.out)).mono ?_
      rintro e w5 ⟨A5, c5, rfl, r5, b5⟩
      have HB5 := Lib.hid (HB4.out.trans (b5.mono HB4.out.size)); have R5 := Lib.hid r5.rd; have R45 := Lib.hid (R4.out.below b5)
      clear r5 b5 HB4 R4
      go_wp2_with fail
      refine (equalSets_c xs A5 A1 _ c5 c1 w5 rfl R5.out R45.out (by omega)).mono ?_
      rintro e w6 ⟨rfl, b6⟩
      cases em
      · go_wp2_with fail
        go_ret
        exact ⟨by first | rfl | simp, HB5.out.trans (b6.mono HB5.out.size)⟩
      · go_wp2_with fail
        go_ret
        exact ⟨by first | rfl | simp, HB5.out.trans (b6.mono HB5.out.size)⟩

namespace fnSettingsRoundTrip
open Go.ChangeShapes Go.WideShapes Go.ChangeAt
open Go.ChangeMaps (open_string shut_string)
theorem own : ownKnob Tryd.prog.godebug = none := by kernel_rfl
theorem laidOut : laidOutB Tryd.prog = true := by kernel_rfl
set_option maxRecDepth 100000 in
theorem lifted (os : Os) (started : os.Started) (H : Type) (enc : TypeId × Value → H) :
    ReturnsInHanded {} Tryd.checked os 5 .any (fun w args => (Rows.fnSettingsRoundTripSpec.pre enc Tryd.prog Tryd.f5 Rows.fnSettingsRoundTripRow.domain false w args ∧ laidMetH Tryd.prog Rows.fnSettingsRoundTripRow.laid w) ∧ sizedMet enc Tryd.prog Tryd.f5 (OpenSpec.ofChange Rows.fnSettingsRoundTripSpec) false w args)
      (Rows.fnSettingsRoundTripSpec.post enc Tryd.prog Tryd.f5 false true false false) := by
  refine returnsInHanded_and_shaped (C := Tryd.checked) (X := fun w _ => laidMetH Tryd.prog Rows.fnSettingsRoundTripRow.laid w) (fun _ _ _ hh h => h.of_heap hh) own started (by kernel_rfl) Tryd.func5
    (ChangeSpec.witness_shaped (enc := enc) (C := Tryd.checked) (os := os) (X := fun w _ => laidMetH Tryd.prog Rows.fnSettingsRoundTripRow.laid w) false (World.laidAll Tryd.prog os Rows.fnSettingsRoundTripRow.laid) #[.slice none 0 0] 8 (World.laidAll_os _ _ _)
      (World.shaped_of_ZipB (by kernel_rfl) (by kernel_rfl)) (by kernel_rfl) (by kernel_rfl) (by kernel_rfl)
      (by rw [MakeChecks.laidMetH_plain _ _ _ (by kernel_rfl)]; exact laidMet_laidAll _ (by kernel_rfl) (by kernel_rfl))) ?_
  intro W base args ds gs before hval0 hW hcnd _ hL hsh _
  have hval : ∀ (j : Nat) t v, Tryd.f5.params[j]? = some t → args[j]? = some v → Value.okWide Tryd.prog W .any base t v := hval0
  have hW' := hW
  obtain ⟨p, q, hA0, hV, rfl, hfz, hnd⟩ := hW
  have hA : DataW.TrodAll enc Tryd.prog W 0 (fun _ => true) true Tryd.f5.params.toList args.toList ds p := hA0
  rw [Tryd.params5] at hA hval
  obtain ⟨v0, vs0, d0, ds0, p0, q0, hargs, rfl, rfl, h0, r0⟩ := trodAll_cons hA
  obtain ⟨rfl, rfl, rfl⟩ := trodAll_nil r0
  obtain rfl : args = #[v0] := by cases args; simp_all
  obtain ⟨rfl, rfl⟩ := trodVars_none hV
  obtain ⟨a0, n0, c0, rfl⟩ := okWide_slice Tryd.underlying29 (hval 0 29 v0 rfl rfl)
  have k0 := h0
  have lt0 : ∀ x ∈ p0, x.block < W.heap.size := by obtain ⟨m, hm⟩ := k0; exact DataW.trod_lt m _ _ _ hm
  obtain ⟨z0, e0, lc0, cm0, rd0, wf0⟩ := open_rd_int Tryd.underlying29 Tryd.underlying5 (by kernel_rfl) h0
  clear hA0 hval0
  refine (walk_FnSettingsRoundTrip (w := W) z0 a0 n0 c0 e0 lc0 cm0 rd0 (fun x hx => wf_u8 (wf0 x hx)) (env_of_laid hL hsh)).mono fun e W' ⟨he, bel⟩ => ?_
  subst he
  exact ⟨_, rfl, _, _, _, [], _, [], hW', trodAll_mk1 (shut_bool Tryd.underlying4 _), (trodAll_cons_mk (Below.trod laidOut (by kernel_rfl) (of_decide_eq_true (by kernel_rfl)) k0 bel lt0) trodAll_mk0), rfl, bel.frame _, fun h => by cases h⟩
theorem closed : joinedFacts Tryd.prog 5 Tryd.f5 Rows.fnSettingsRoundTripSpec Rows.fnSettingsRoundTripRow = true := by kernel_rfl
theorem over : Rows.fnSettingsRoundTripRow.holds Tryd.pinned (OpenSpec.ofChange Rows.fnSettingsRoundTripSpec) :=
  OpenClaim.holds_of_wide 5 Tryd.f5 rfl rfl rfl rfl rfl rfl rfl ⟨rfl, rfl, rfl, rfl, rfl⟩ rfl rfl rfl rfl rfl (by kernel_rfl) Tryd.func5 closed
    (of_decide_eq_true (by kernel_rfl)) (by unfold Func.isWrapper; first | (rw [if_pos (by decide +kernel)]; kernel_rfl) | (rw [if_neg (by decide +kernel)]; exact ⟨rfl, rfl⟩))
    (fun os started H enc _ => lifted os started H enc)
/-- THE STATEMENT: the tied card. -/
theorem proved : Rows.FnSettingsRoundTripCardSaid :=
  Claim7.holds_tied_plain_at .later [] [.data, .data, .data, .data, .sentinel, .sentinel, .pinned] true (true, "1746d617ea578d28f593b839795a868390241190724b0a501b3599ab15e98489") true over (fun _ h => by cases h) (by kernel_rfl) (fun _ h => by cases h) fnSettingsRoundTrip_row_tie rfl ⟨rfl, rfl⟩ (by kernel_rfl) rfl
    (fun f fn hf hfn => by
      obtain rfl : f = 5 := Option.some.inj ((show Tryd.prog.funcNamed "loop.example/connectionpool/laws.FnSettingsRoundTrip" = some 5 by kernel_rfl).symm.trans hf) |>.symm
      obtain rfl : fn = Tryd.f5 := (Option.some.inj (Tryd.func5.symm.trans hfn)).symm
      exact ⟨by kernel_rfl, fun j t ht => by
        rw [Tryd.params5] at ht
        have hm : t ∈ [29] := by simpa using Array.mem_of_getElem? ht
        have hall : ([29].all fun u => !Tryd.prog.wantsStandIn u) = true := by kernel_rfl
        exact (show Tryd.prog.wantsStandIn t = false by simpa using List.all_eq_true.1 hall t hm)⟩)
    (by kernel_rfl)
end fnSettingsRoundTrip
end Go.Proofs.YtmphjojhfmikeaaDoor
