/- FnExactParseSettings: for every text the law returns true, and what was there is as it was. No condition. -/
import Derived.Test.YtmphjojhfmikeaaDoorCards
import Derived.Test.YtmphjojhfmikeaaDoorTie
import Derived.Test.YtmphjojhfmikeaaDoorDoor
import Derived.Test.YtmphjojhfmikeaaDoorMarkS
import Derived.Test.YtmphjojhfmikeaaDoorOpen
import Derived.ShutString
set_option linter.unusedVariables false
set_option linter.unusedSimpArgs false
set_option linter.unnecessarySimpa false
namespace Go.Proofs.YtmphjojhfmikeaaDoor
open Go.RowKit

set_option maxRecDepth 100000 in
set_option maxHeartbeats 4000000 in
theorem walk_FnExactParseSettings (s : ByteArray) (hs : s.size ≤ maxLen) {w : World} (E : Env w) :
    Calls Tryd.prog 6 #[.string s] w fun e w' => e = .returned (.bool true) ∧ Below w.heap.size w w' := by
  unfold maxLen at hs
  have HE := Lib.hid E; clear E
  by_cases hbig : 1048576 < s.size
  · have hd : decide ((1048576 : Int) < (s.size : Int)) = true := decide_eq_true (by omega)
    have hd' : decide (1048576 < s.size) = true := decide_eq_true hbig
    go_enter Tryd.func6, Tryd.ntmps6
    go_wp2_with fail
    go_ret
    exact ⟨rfl, Below.refl _ _⟩
  · have hsz : s.size ≤ 1048576 := by omega
    have hd : decide ((1048576 : Int) < (s.size : Int)) = false := decide_eq_false (by omega)
    have hd' : decide (1048576 < s.size) = false := decide_eq_false hbig
    obtain ⟨X, hX⟩ : ∃ X, X = pvX s.data.toList := ⟨_, rfl⟩
    obtain ⟨ok, hok⟩ : ∃ ok, ok = pvOk s.data.toList := ⟨_, rfl⟩
    have hS : ∀ W, Calls Tryd.prog 17 #[.string s] W (RetPV X ok W) := fun W => by rw [hX, hok]; exact sParse_c s W hsz
    have hI : ∀ W, Env W → Calls Tryd.prog 15 #[.string s] W (RetPV X ok W) := fun W hW => by rw [hX, hok]; exact parse_c s W hsz hW
    have hxl : X.length ≤ 10 := by
      rw [hX]
      unfold pvX
      cases hp : parseV s.data.toList with
      | none => simp
      | some xs =>
        unfold parseV at hp
        split at hp
        · split at hp
          · rename_i ys hy hv
            injection hp with hp
            subst hp
            exact validS_len _ hv
          · cases hp
        · cases hp
    have HS := Lib.hid hS; have HI := Lib.hid hI
    clear hX hok hS hI hbig
    have hmk : (0 : Int) ≤ ((1 + 2 * X.length : Nat) : Int) := by omega
    have hmk2 : decide (((1 + 2 * X.length : Nat) : Int) < 0) = false := decide_eq_false (by omega)
    go_enter Tryd.func6, Tryd.ntmps6
    go_wp2_with fail
    refine (HS.out w).mono ?_
    rintro e w1 ⟨A1, c1, rfl, r1, b1⟩
    have B1 := Lib.hid b1; have R1 := Lib.hid r1
    clear r1 b1
    go_wp2_with fail
    refine (HI.out w1 (HE.out.below B1.out)).mono ?_
    rintro e w2 ⟨A2, c2, rfl, r2, b2⟩
    have AP := Lib.hid (row_apart R1.out r2 (Nat.le_refl _))
    have B2 := Lib.hid (B1.out.trans (b2.mono B1.out.size)); have R2 := Lib.hid (r2.mono B1.out.size); have R12 := Lib.hid (R1.out.below b2)
    clear r2 b2 B1 R1
    go_wp2_with fail
    refine (eqSets_c X A2 A1 _ c2 c1 w2 rfl R2.out.rd R12.out.rd (by omega)).mono ?_
    rintro e w3 ⟨rfl, b3⟩
    have B3 := Lib.hid (B2.out.trans (b3.mono B2.out.size)); have R3 := Lib.hid (R2.out.below b3); have R13 := Lib.hid (R12.out.below b3)
    clear b3 B2 R2 R12
    go_wp2_with fail
    refine (markS_c w.heap.size X 1 A2 _ c2 w3 rfl R3.out (by omega) (by omega)).mono ?_
    rintro e w4 ⟨rfl, r4, g4⟩
    have B4 := Lib.hid (B3.out.grown g4 B3.out.size (fun k hk => (R3.out.lt k hk).1)); have R4 := Lib.hid r4; have R14 := Lib.hid (R13.out.kept g4 AP.out.1)
    clear r4 g4 B3 R3 R13
    go_wp2_with fail
    refine (heldS_c 1 A2 _ c2 w4 R4.out.rd (by omega) (by omega)).mono ?_
    rintro e w5 ⟨rfl, rfl⟩
    go_wp2_with fail
    refine (HI.out w4 (HE.out.below B4.out)).mono ?_
    rintro e w6 ⟨A6, c6, rfl, r6, b6⟩
    have B6 := Lib.hid (B4.out.trans (b6.mono B4.out.size)); have R6 := Lib.hid r6.rd; have R46 := Lib.hid (R4.out.below b6); have R16 := Lib.hid (R14.out.below b6)
    clear r6 b6 B4 R4 R14
    go_wp2_with fail
    refine (eqSets_c X A6 A1 _ c6 c1 w6 rfl R6.out R16.out.rd (by omega)).mono ?_
    rintro e w7 ⟨rfl, b7⟩
    have B7 := Lib.hid (B6.out.trans (b7.mono B6.out.size)); have R7 := Lib.hid (R46.out.below b7)
    clear b7 B6 R46 R6 R16
    go_wp2_with fail
    refine (heldS_c 1 A2 _ c2 w7 R7.out.rd (by omega) (by omega)).mono ?_
    rintro e w8 ⟨rfl, rfl⟩
    go_wp2_with fail
    go_ret
    exact ⟨rfl, B7.out⟩

namespace fnExactParseSettings
open Go.ChangeShapes Go.WideShapes Go.ChangeAt
open Go.ChangeMaps (open_string shut_string)
theorem own : ownKnob Tryd.prog.godebug = none := by kernel_rfl
theorem laidOut : laidOutB Tryd.prog = true := by kernel_rfl
set_option maxRecDepth 100000 in
theorem lifted (os : Os) (started : os.Started) (H : Type) (enc : TypeId × Value → H) :
    ReturnsInHanded {} Tryd.checked os 6 .any (fun w args => (Rows.fnExactParseSettingsSpec.pre enc Tryd.prog Tryd.f6 Rows.fnExactParseSettingsRow.domain false w args ∧ laidMetH Tryd.prog Rows.fnExactParseSettingsRow.laid w) ∧ sizedMet enc Tryd.prog Tryd.f6 (OpenSpec.ofChange Rows.fnExactParseSettingsSpec) false w args)
      (Rows.fnExactParseSettingsSpec.post enc Tryd.prog Tryd.f6 false true false false) := by
  refine returnsInHanded_and_shaped (C := Tryd.checked) (X := fun w _ => laidMetH Tryd.prog Rows.fnExactParseSettingsRow.laid w) (fun _ _ _ hh h => h.of_heap hh) own started (by kernel_rfl) Tryd.func6
    (ChangeSpec.witness_shaped (enc := enc) (C := Tryd.checked) (os := os) (X := fun w _ => laidMetH Tryd.prog Rows.fnExactParseSettingsRow.laid w) false (World.laidAll Tryd.prog os Rows.fnExactParseSettingsRow.laid) #[.string ByteArray.empty] 8 (World.laidAll_os _ _ _)
      (World.shaped_of_ZipB (by kernel_rfl) (by kernel_rfl)) (by kernel_rfl) (by kernel_rfl) (by kernel_rfl)
      (by rw [MakeChecks.laidMetH_plain _ _ _ (by kernel_rfl)]; exact laidMet_laidAll _ (by kernel_rfl) (by kernel_rfl))) ?_
  intro W base args ds gs before hval0 hW hcnd _ hL hsh _
  have hval : ∀ (j : Nat) t v, Tryd.f6.params[j]? = some t → args[j]? = some v → Value.okWide Tryd.prog W .any base t v := hval0
  have hW' := hW
  obtain ⟨p, q, hA0, hV, rfl, hfz, hnd⟩ := hW
  have hA : DataW.TrodAll enc Tryd.prog W 0 (fun _ => true) true Tryd.f6.params.toList args.toList ds p := hA0
  rw [Tryd.params6] at hA hval
  obtain ⟨v0, vs0, d0, ds0, p0, q0, hargs, rfl, rfl, h0, r0⟩ := trodAll_cons hA
  obtain ⟨rfl, rfl, rfl⟩ := trodAll_nil r0
  obtain rfl : args = #[v0] := by cases args; simp_all
  obtain ⟨rfl, rfl⟩ := trodVars_none hV
  obtain ⟨x0, rfl, rfl, rfl, w0⟩ := open_string Tryd.underlying9 (hval 0 9 v0 rfl rfl) h0
  clear hA0 hval0
  refine (walk_FnExactParseSettings (w := W) x0 w0 (env_of_laid hL hsh)).mono fun e W' ⟨he, bel⟩ => ?_
  subst he
  exact ⟨_, rfl, _, _, _, [], _, [], hW', trodAll_mk1 (shut_bool Tryd.underlying4 _), (trodAll_cons_mk (shut_string Tryd.underlying9 w0) trodAll_mk0), rfl, bel.frame _, fun h => by cases h⟩
theorem closed : joinedFacts Tryd.prog 6 Tryd.f6 Rows.fnExactParseSettingsSpec Rows.fnExactParseSettingsRow = true := by kernel_rfl
theorem over : Rows.fnExactParseSettingsRow.holds Tryd.pinned (OpenSpec.ofChange Rows.fnExactParseSettingsSpec) :=
  OpenClaim.holds_of_wide 6 Tryd.f6 rfl rfl rfl rfl rfl rfl rfl ⟨rfl, rfl, rfl, rfl, rfl⟩ rfl rfl rfl rfl rfl (by kernel_rfl) Tryd.func6 closed
    (of_decide_eq_true (by kernel_rfl)) (by unfold Func.isWrapper; first | (rw [if_pos (by decide +kernel)]; kernel_rfl) | (rw [if_neg (by decide +kernel)]; exact ⟨rfl, rfl⟩))
    (fun os started H enc _ => lifted os started H enc)
/-- THE STATEMENT: the tied card. -/
theorem proved : Rows.FnExactParseSettingsCardSaid :=
  Claim7.holds_tied_plain_at .later [] [.data, .data, .data, .data, .sentinel, .sentinel, .pinned] true (true, "1746d617ea578d28f593b839795a868390241190724b0a501b3599ab15e98489") true over (fun _ h => by cases h) (by kernel_rfl) (fun _ h => by cases h) fnExactParseSettings_row_tie rfl ⟨rfl, rfl⟩ (by kernel_rfl) rfl
    (fun f fn hf hfn => by
      obtain rfl : f = 6 := Option.some.inj ((show Tryd.prog.funcNamed "loop.example/connectionpool/laws.FnExactParseSettings" = some 6 by kernel_rfl).symm.trans hf) |>.symm
      obtain rfl : fn = Tryd.f6 := (Option.some.inj (Tryd.func6.symm.trans hfn)).symm
      exact ⟨by kernel_rfl, fun j t ht => by
        rw [Tryd.params6] at ht
        have hm : t ∈ [9] := by simpa using Array.mem_of_getElem? ht
        have hall : ([9].all fun u => !Tryd.prog.wantsStandIn u) = true := by kernel_rfl
        exact (show Tryd.prog.wantsStandIn t = false by simpa using List.all_eq_true.1 hall t hm)⟩)
    (by kernel_rfl)
end fnExactParseSettings
end Go.Proofs.YtmphjojhfmikeaaDoor
