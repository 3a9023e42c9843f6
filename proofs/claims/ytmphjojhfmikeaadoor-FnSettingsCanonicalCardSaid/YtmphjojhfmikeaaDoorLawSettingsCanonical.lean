/- FnSettingsCanonical: for every code the law returns true, and what was there is as it was. No condition. -/
import Derived.Test.YtmphjojhfmikeaaDoorCards
import Derived.Test.YtmphjojhfmikeaaDoorTie
import Derived.Test.YtmphjojhfmikeaaDoorDoor
import Derived.Test.YtmphjojhfmikeaaDoorMarkS
import Derived.Test.YtmphjojhfmikeaaDoorDrawT
import Derived.Test.YtmphjojhfmikeaaDoorOpen
set_option linter.unusedVariables false
set_option linter.unusedSimpArgs false
set_option linter.unnecessarySimpa false
namespace Go.Proofs.YtmphjojhfmikeaaDoor
open Go.RowKit

theorem pv_valid (l : List UInt8) (h : pvOk l = true) : validS (-1) (pvX l) = true ∧ setsL (pvX l) = l := by
  unfold pvOk pvX at *
  rw [parse_same] at h ⊢
  by_cases hc : validS (-1) (listI l) = true ∧ setsL (listI l) = l
  · rw [if_pos hc]; exact hc
  · rw [if_neg hc] at h; cases h
theorem pv_len (l : List UInt8) : (pvX l).length ≤ 10 := by
  cases h : pvOk l with
  | true => exact validS_len _ (pv_valid l h).1
  | false =>
    unfold pvOk at h
    unfold pvX
    cases hp : parseV l with
    | none => simp
    | some x => rw [hp] at h; cases h
set_option maxRecDepth 100000 in
set_option maxHeartbeats 4000000 in
theorem walk_FnSettingsCanonical (zs : List Int) (A : Option Addr) (n c : Nat) (hN : zs.length = n) (hc : n ≤ c) (hm : c ≤ maxLen) {w : World} (h : Rd w A (zs.map (.int .u8))) (hz : ∀ z ∈ zs, 0 ≤ z ∧ z ≤ 255) (E : Env w) :
    Calls Tryd.prog 7 #[.slice A n c] w fun e w' => e = .returned (.bool true) ∧ Below w.heap.size w w' := by
  have HD := Lib.hid (drawParseSettings_c zs A n c w hN hc hm h hz)
  have HE := Lib.hid E
  clear h hz hN E
  unfold maxLen at hm
  by_cases hbig : 1048576 < n
  · go_enter Tryd.func7, Tryd.ntmps7
    go_wp2
    go_ret
    exact ⟨rfl, Below.refl _ _⟩
  · go_enter Tryd.func7, Tryd.ntmps7
    go_wp2_with fail
    refine HD.out.mono ?_
    rintro e w1 ⟨s, hs, rfl, b1⟩
    have HB1 := Lib.hid b1
    clear b1 HD
    obtain ⟨X, hX⟩ : ∃ X, X = pvX s.data.toList := ⟨_, rfl⟩
    obtain ⟨ok, hok⟩ : ∃ ok, ok = pvOk s.data.toList := ⟨_, rfl⟩
    have hS : ∀ W, Calls Tryd.prog 17 #[.string s] W (RetPV X ok W) := fun W => by rw [hX, hok]; exact sParse_c s W (by omega)
    have hI : ∀ W, Env W → Calls Tryd.prog 15 #[.string s] W (RetPV X ok W) := fun W hW => by rw [hX, hok]; exact parse_c s W (by omega) hW
    have hxl : X.length ≤ 10 := by rw [hX]; exact pv_len _
    have HS := Lib.hid hS; have HI := Lib.hid hI; have HX := Lib.hid hX; have HOK := Lib.hid hok
    clear hX hok hS hI
    go_wp2_with fail
    refine (HI.out w1 (HE.out.below HB1.out)).mono ?_
    rintro e w2 ⟨A2, c2, rfl, r2, b2⟩
    have HB2 := Lib.hid (HB1.out.trans (b2.mono HB1.out.size)); have R2 := Lib.hid r2.rd
    clear r2 b2 HB1
    go_wp2_with fail
    refine (HS.out w2).mono ?_
    rintro e w3 ⟨A3, c3, rfl, r3, b3⟩
    have HB3 := Lib.hid (HB2.out.trans (b3.mono HB2.out.size)); have R3 := Lib.hid r3.rd; have R23 := Lib.hid (R2.out.below b3)
    clear r3 b3 HB2 R2
    go_wp2_with fail
    refine (equalSets_c X A2 A3 _ c2 c3 w3 rfl R23.out R3.out (by omega)).mono ?_
    rintro e w4 ⟨rfl, b4⟩
    have HB4 := Lib.hid (HB3.out.trans (b4.mono HB3.out.size)); have R4 := Lib.hid (R23.out.below b4)
    clear b4 HB3 R23 R3
    cases ok
    · go_wp2_with fail
      go_ret
      exact ⟨by first | rfl | simp, HB4.out⟩
    · obtain ⟨hv, hl⟩ := pv_valid _ HOK.out.symm
      rw [← HX.out] at hv hl
      have hfm : ∀ W, Rd W A2 (sc X) → Calls Tryd.prog 11 #[.slice A2 X.length c2] W fun e w' => e = .returned (.string s) ∧ Below W.heap.size W w' := fun W hW => by
        have := format_c X A2 X.length c2 W rfl hW (by omega)
        unfold fmtS at this
        rw [hv, if_pos rfl, hl, bsof_data] at this
        exact this
      have hvm : ∀ W, Rd W A2 (sc X) → Calls Tryd.prog 14 #[.slice A2 X.length c2] W fun e w' => e = .returned (.bool true) ∧ Below W.heap.size W w' := fun W hW => by
        have := validSets_c X A2 X.length c2 W rfl hW (by omega)
        rw [hv] at this
        exact this
      have HF := Lib.hid hfm; have HVM := Lib.hid hvm
      clear hv hl hfm hvm
      go_wp2_with fail
      refine (HF.out _ R4.out).mono ?_
      rintro e w5 ⟨rfl, b5⟩
      have HB5 := Lib.hid (HB4.out.trans (b5.mono HB4.out.size)); have R5 := Lib.hid (R4.out.below b5)
      clear b5 HB4 R4
      go_wp2_with fail
      refine (HVM.out _ R5.out).mono ?_
      rintro e w6 ⟨rfl, b6⟩
      go_wp2_with fail
      go_ret
      exact ⟨by first | rfl | simp, HB5.out.trans (b6.mono HB5.out.size)⟩

namespace fnSettingsCanonical
open Go.ChangeShapes Go.WideShapes Go.ChangeAt
open Go.ChangeMaps (open_string shut_string)
theorem own : ownKnob Tryd.prog.godebug = none := by kernel_rfl
theorem laidOut : laidOutB Tryd.prog = true := by kernel_rfl
set_option maxRecDepth 100000 in
theorem lifted (os : Os) (started : os.Started) (H : Type) (enc : TypeId × Value → H) :
    ReturnsInHanded {} Tryd.checked os 7 .any (fun w args => (Rows.fnSettingsCanonicalSpec.pre enc Tryd.prog Tryd.f7 Rows.fnSettingsCanonicalRow.domain false w args ∧ laidMetH Tryd.prog Rows.fnSettingsCanonicalRow.laid w) ∧ sizedMet enc Tryd.prog Tryd.f7 (OpenSpec.ofChange Rows.fnSettingsCanonicalSpec) false w args)
      (Rows.fnSettingsCanonicalSpec.post enc Tryd.prog Tryd.f7 false true false false) := by
  refine returnsInHanded_and_shaped (C := Tryd.checked) (X := fun w _ => laidMetH Tryd.prog Rows.fnSettingsCanonicalRow.laid w) (fun _ _ _ hh h => h.of_heap hh) own started (by kernel_rfl) Tryd.func7
    (ChangeSpec.witness_shaped (enc := enc) (C := Tryd.checked) (os := os) (X := fun w _ => laidMetH Tryd.prog Rows.fnSettingsCanonicalRow.laid w) false (World.laidAll Tryd.prog os Rows.fnSettingsCanonicalRow.laid) #[.slice none 0 0] 8 (World.laidAll_os _ _ _)
      (World.shaped_of_ZipB (by kernel_rfl) (by kernel_rfl)) (by kernel_rfl) (by kernel_rfl) (by kernel_rfl)
      (by rw [MakeChecks.laidMetH_plain _ _ _ (by kernel_rfl)]; exact laidMet_laidAll _ (by kernel_rfl) (by kernel_rfl))) ?_
  intro W base args ds gs before hval0 hW hcnd _ hL hsh _
  have hval : ∀ (j : Nat) t v, Tryd.f7.params[j]? = some t → args[j]? = some v → Value.okWide Tryd.prog W .any base t v := hval0
  have hW' := hW
  obtain ⟨p, q, hA0, hV, rfl, hfz, hnd⟩ := hW
  have hA : DataW.TrodAll enc Tryd.prog W 0 (fun _ => true) true Tryd.f7.params.toList args.toList ds p := hA0
  rw [Tryd.params7] at hA hval
  obtain ⟨v0, vs0, d0, ds0, p0, q0, hargs, rfl, rfl, h0, r0⟩ := trodAll_cons hA
  obtain ⟨rfl, rfl, rfl⟩ := trodAll_nil r0
  obtain rfl : args = #[v0] := by cases args; simp_all
  obtain ⟨rfl, rfl⟩ := trodVars_none hV
  obtain ⟨a0, n0, c0, rfl⟩ := okWide_slice Tryd.underlying29 (hval 0 29 v0 rfl rfl)
  have k0 := h0
  have lt0 : ∀ x ∈ p0, x.block < W.heap.size := by obtain ⟨m, hm⟩ := k0; exact DataW.trod_lt m _ _ _ hm
  obtain ⟨z0, e0, lc0, cm0, rd0, wf0⟩ := open_rd_int Tryd.underlying29 Tryd.underlying5 (by kernel_rfl) h0
  clear hA0 hval0
  refine (walk_FnSettingsCanonical (w := W) z0 a0 n0 c0 e0 lc0 cm0 rd0 (fun x hx => wf_u8 (wf0 x hx)) (env_of_laid hL hsh)).mono fun e W' ⟨he, bel⟩ => ?_
  subst he
  exact ⟨_, rfl, _, _, _, [], _, [], hW', trodAll_mk1 (shut_bool Tryd.underlying4 _), (trodAll_cons_mk (Below.trod laidOut (by kernel_rfl) (of_decide_eq_true (by kernel_rfl)) k0 bel lt0) trodAll_mk0), rfl, bel.frame _, fun h => by cases h⟩
theorem closed : joinedFacts Tryd.prog 7 Tryd.f7 Rows.fnSettingsCanonicalSpec Rows.fnSettingsCanonicalRow = true := by kernel_rfl
theorem over : Rows.fnSettingsCanonicalRow.holds Tryd.pinned (OpenSpec.ofChange Rows.fnSettingsCanonicalSpec) :=
  OpenClaim.holds_of_wide 7 Tryd.f7 rfl rfl rfl rfl rfl rfl rfl ⟨rfl, rfl, rfl, rfl, rfl⟩ rfl rfl rfl rfl rfl (by kernel_rfl) Tryd.func7 closed
    (of_decide_eq_true (by kernel_rfl)) (by unfold Func.isWrapper; first | (rw [if_pos (by decide +kernel)]; kernel_rfl) | (rw [if_neg (by decide +kernel)]; exact ⟨rfl, rfl⟩))
    (fun os started H enc _ => lifted os started H enc)
/-- THE STATEMENT: the tied card. -/
theorem proved : Rows.FnSettingsCanonicalCardSaid :=
  Claim7.holds_tied_plain_at .later [] [.data, .data, .data, .data, .sentinel, .sentinel, .pinned] true (true, "1746d617ea578d28f593b839795a868390241190724b0a501b3599ab15e98489") true over (fun _ h => by cases h) (by kernel_rfl) (fun _ h => by cases h) fnSettingsCanonical_row_tie rfl ⟨rfl, rfl⟩ (by kernel_rfl) rfl
    (fun f fn hf hfn => by
      obtain rfl : f = 7 := Option.some.inj ((show Tryd.prog.funcNamed "loop.example/connectionpool/laws.FnSettingsCanonical" = some 7 by kernel_rfl).symm.trans hf) |>.symm
      obtain rfl : fn = Tryd.f7 := (Option.some.inj (Tryd.func7.symm.trans hfn)).symm
      exact ⟨by kernel_rfl, fun j t ht => by
        rw [Tryd.params7] at ht
        have hm : t ∈ [29] := by simpa using Array.mem_of_getElem? ht
        have hall : ([29].all fun u => !Tryd.prog.wantsStandIn u) = true := by kernel_rfl
        exact (show Tryd.prog.wantsStandIn t = false by simpa using List.all_eq_true.1 hall t hm)⟩)
    (by kernel_rfl)
end fnSettingsCanonical
end Go.Proofs.YtmphjojhfmikeaaDoor
