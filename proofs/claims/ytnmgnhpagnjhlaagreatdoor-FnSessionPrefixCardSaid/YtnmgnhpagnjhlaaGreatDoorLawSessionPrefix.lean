/- FnSessionPrefix: for every code the law returns true, and what was there is as it was. No condition. -/
import Derived.Test.YtnmgnhpagnjhlaaGreatDoorCards
import Derived.Test.YtnmgnhpagnjhlaaGreatDoorTie
import Derived.Test.YtnmgnhpagnjhlaaGreatDoorDoorP
import Derived.Test.YtnmgnhpagnjhlaaGreatDoorDrawL
import Derived.Test.YtnmgnhpagnjhlaaGreatDoorRunI
import Derived.Test.YtnmgnhpagnjhlaaGreatDoorOpen
import Derived.Deep.Cut
set_option linter.unusedVariables false
set_option linter.unusedSimpArgs false
set_option linter.unnecessarySimpa false
namespace Go.Proofs.YtnmgnhpagnjhlaaGreatDoor
open Go.RowKit

set_option maxRecDepth 100000 in
set_option maxHeartbeats 8000000 in
theorem walk_FnSessionPrefix (zs : List Int) (A : Option Addr) (n c : Nat) (hN : zs.length = n) (hc : n ≤ c) (hm : c ≤ maxLen) {w : World} (h : Rd w A (zs.map (.int .u8))) (hz : ∀ z ∈ zs, 0 ≤ z ∧ z ≤ 255) (E : Env w) :
    Calls Tryz.prog 7 #[.slice A n c] w fun e w' => e = .returned (.bool true) ∧ Below w.heap.size w w' := by
  obtain ⟨i0, i0_i, i0_z0, i0_z1, i0_z2⟩ := info_parts strInfo
  have HD := Lib.hid (drawRun_c zs A n c w hN hc hm h hz)
  have HE := Lib.hid E
  clear h hz hN E
  unfold maxLen at hm
  by_cases hbig : 1048576 < n
  · go_enter Tryz.func7, Tryz.ntmps7
    go_wp2
    go_ret
    exact ⟨rfl, Below.refl _ _⟩
  · go_enter Tryz.func7, Tryz.ntmps7
    go_wp2_with fail
    refine HD.out.mono ?_
    rintro e w1 ⟨ls, A1, c1, hl16, hl100, rfl, row1, b1⟩
    have FR1 := Lib.hid b1; have ROW1 := Lib.hid row1
    obtain ⟨m, hm9⟩ : ∃ m, ls.length = m := ⟨_, rfl⟩
    have hmc : m ≤ c1 := by rw [← hm9]; exact row1.le
    have hcm1 := row1.max
    rw [hm9] at hl16 ⊢
    have HM := Lib.hid hm9
    have RD1 := Lib.hid row1.rd
    have hl20 : ∀ l ∈ ls, l.length ≤ 1048576 := fun l hl => Nat.le_trans (hl100 l hl) (by omega)
    have HL20 := Lib.hid hl20
    obtain ⟨OUT, hOUT⟩ : ∃ OUT, OUT = bsof (sessV ls) := ⟨_, rfl⟩
    have hOs : OUT.size ≤ 1000020 := by
      rw [hOUT, bsof_size]
      have h1 := runV_len new_good (ls.take 20)
      have h2 := List.length_take_le 20 ls
      exact Nat.le_trans h1 (Nat.le_trans (Nat.mul_le_mul_right _ h2) (by omega))
    have HS := Lib.hid (fun W (hW : Rd W A1 (strs ls)) => (show Calls Tryz.prog 23 #[.slice A1 m c1] W (fun e w' => e = .returned (.string OUT) ∧ Below W.heap.size W w') from by rw [hOUT]; exact sRun_c ls A1 m c1 W HM.out hW (by omega) hl20))
    have HI := Lib.hid (fun W (hW : Rd W A1 (strs ls)) (hE : Env W) => (show Calls Tryz.prog 25 #[.slice A1 m c1] W (fun e w' => e = .returned (.string OUT) ∧ Below W.heap.size W w') from by rw [hOUT]; exact iRun_c ls A1 m c1 W HM.out hW (by omega) hmc hl20 hE))
    have HOUT := Lib.hid hOUT
    clear hm9 hl100 hl20 hOUT b1 row1 HD
    go_wp2_with fail
    refine (HI.out w1 RD1.out (HE.out.below FR1.out)).mono ?_
    rintro e w2 ⟨rfl, b2⟩
    have FR2 := Lib.hid (FR1.out.trans (b2.mono FR1.out.size)); have RD2 := Lib.hid (RD1.out.below b2)
    clear b2 ROW1
    go_wp2_with fail
    refine (HS.out w2 RD2.out).mono ?_
    rintro e w3 ⟨rfl, b3⟩
    have FR3 := Lib.hid (FR2.out.trans (b3.mono FR2.out.size)); have RD3 := Lib.hid (RD2.out.below b3)
    have hs3 : w.heap.size ≤ w3.heap.size := FR3.out.size
    clear b3 HS HI RD1 RD2
    go_wp2_with fail
    go_loopw [5] (fun i wr => ∃ j : Nat, j ≤ m ∧ i = .int .i64 j ∧ Below w.heap.size w wr ∧ Rd wr A1 (strs ls)) (fun i _ => m - (intOf i).toNat)
    case atStart => exact ⟨0, Nat.zero_le _, rfl, FR3.out, RD3.out⟩
    case round =>
      obtain ⟨j, hj, rfl, fr, rd⟩ := hrel
      have FR := Lib.hid fr; have RD := Lib.hid rd
      clear fr rd FR3 RD3
      by_cases hlt : j < m
      · obtain ⟨R, hR⟩ := sess_pre ls j
        obtain ⟨PT, hPT⟩ : ∃ PT, PT = bsof (sessV (ls.take j)) := ⟨_, rfl⟩
        have hO : OUT = bsof (sessV (ls.take j) ++ R) := by rw [HOUT.out, hR]
        have hex : OUT.extract 0 PT.size = PT := by rw [hO, hPT]; exact ext_left _ _
        have hle : PT.size ≤ OUT.size := by rw [hO, hPT, bsof_size, bsof_size, List.length_append]; omega
        have hd : decide ((OUT.size : Int) < (PT.size : Int)) = false := decide_eq_false (by omega)
        have hd1 : decide ((j : Int) < (m : Int)) = true := decide_eq_true (by omega)
        have hj0 : (0 : Int) ≤ (j : Int) := by omega
        have hjc : (j : Int) ≤ (c1 : Int) := by omega
        have hp0 : (0 : Int) ≤ (PT.size : Int) := by omega
        have hpo : (PT.size : Int) ≤ (OUT.size : Int) := by omega
        have HI2 := Lib.hid (fun W (hW : Rd W A1 (strs ls)) (hE : Env W) => (show Calls Tryz.prog 25 #[.slice A1 j c1] W (fun e w' => e = .returned (.string PT) ∧ Below W.heap.size W w') from by
          rw [hPT]
          refine iRun_c (ls.take j) A1 j c1 W (by rw [List.length_take, HM.out]; omega) ?_ (by omega) (by omega) (fun l hl => HL20.out l (List.mem_of_mem_take hl)) hE
          have h9 := hW.take j
          unfold strs at h9 ⊢
          rw [← List.map_take] at h9
          exact h9))
        clear hR hPT hO
        go_wp2_with fail
        refine (HI2.out wr RD.out (HE.out.below FR.out)).mono ?_
        rintro e w4 ⟨rfl, b4⟩
        have FR4 := Lib.hid (FR.out.trans (b4.mono FR.out.size)); have RD4 := Lib.hid (RD.out.below b4)
        clear b4
        go_wp2_with fail
        go_roundw
        case rel => exact ⟨j + 1, by omega, by go_num, FR4.out, RD4.out⟩
        case measure => simp [intOf]; omega
      · obtain rfl : j = m := by omega
        go_wp2_with fail
        go_ret
        exact ⟨by first | rfl | simp, FR.out⟩

namespace fnSessionPrefix
open Go.ChangeShapes Go.WideShapes Go.ChangeAt
open Go.ChangeMaps (open_string shut_string)
theorem own : ownKnob Tryz.prog.godebug = none := by kernel_rfl
theorem laidOut : laidOutB Tryz.prog = true := by kernel_rfl
set_option maxRecDepth 100000 in
theorem lifted (os : Os) (started : os.Started) (H : Type) (enc : TypeId × Value → H) :
    ReturnsInHanded {} Tryz.checked os 7 .any (fun w args => (Rows.fnSessionPrefixSpec.pre enc Tryz.prog Tryz.f7 Rows.fnSessionPrefixRow.domain false w args ∧ laidMetH Tryz.prog Rows.fnSessionPrefixRow.laid w) ∧ sizedMet enc Tryz.prog Tryz.f7 (OpenSpec.ofChange Rows.fnSessionPrefixSpec) false w args)
      (Rows.fnSessionPrefixSpec.post enc Tryz.prog Tryz.f7 false true false false) := by
  refine returnsInHanded_and_shaped (C := Tryz.checked) (X := fun w _ => laidMetH Tryz.prog Rows.fnSessionPrefixRow.laid w) (fun _ _ _ hh h => h.of_heap hh) own started (by kernel_rfl) Tryz.func7
    (ChangeSpec.witness_shaped (enc := enc) (C := Tryz.checked) (os := os) (X := fun w _ => laidMetH Tryz.prog Rows.fnSessionPrefixRow.laid w) false (World.laidAll Tryz.prog os Rows.fnSessionPrefixRow.laid) #[.slice none 0 0] 8 (World.laidAll_os _ _ _)
      (World.shaped_of_ZipB (by kernel_rfl) (by kernel_rfl)) (by kernel_rfl) (by kernel_rfl) (by kernel_rfl)
      (by rw [MakeChecks.laidMetH_plain _ _ _ (by kernel_rfl)]; exact laidMet_laidAll _ (by kernel_rfl) (by kernel_rfl))) ?_
  intro W base args ds gs before hval0 hW hcnd _ hL hsh _
  have hval : ∀ (j : Nat) t v, Tryz.f7.params[j]? = some t → args[j]? = some v → Value.okWide Tryz.prog W .any base t v := hval0
  have hW' := hW
  obtain ⟨p, q, hA0, hV, rfl, hfz, hnd⟩ := hW
  have hA : DataW.TrodAll enc Tryz.prog W 0 (fun _ => true) true Tryz.f7.params.toList args.toList ds p := hA0
  rw [Tryz.params7] at hA hval
  obtain ⟨v0, vs0, d0, ds0, p0, q0, hargs, rfl, rfl, h0, r0⟩ := trodAll_cons hA
  obtain ⟨rfl, rfl, rfl⟩ := trodAll_nil r0
  obtain rfl : args = #[v0] := by cases args; simp_all
  obtain ⟨rfl, rfl⟩ := trodVars_none hV
  obtain ⟨a0, n0, c0, rfl⟩ := okWide_slice Tryz.underlying22 (hval 0 22 v0 rfl rfl)
  have k0 := h0
  have lt0 : ∀ x ∈ p0, x.block < W.heap.size := by obtain ⟨m, hm⟩ := k0; exact DataW.trod_lt m _ _ _ hm
  obtain ⟨z0, e0, lc0, cm0, rd0, wf0⟩ := open_rd_int Tryz.underlying22 Tryz.underlying5 (by kernel_rfl) h0
  clear hA0 hval0
  refine (walk_FnSessionPrefix (w := W) z0 a0 n0 c0 e0 lc0 cm0 rd0 (fun x hx => wf_u8 (wf0 x hx)) (env_of_laid hL hsh)).mono fun e W' ⟨he, bel⟩ => ?_
  subst he
  exact ⟨_, rfl, _, _, _, [], _, [], hW', trodAll_mk1 (shut_bool Tryz.underlying4 _), (trodAll_cons_mk (Below.trod laidOut (by kernel_rfl) (of_decide_eq_true (by kernel_rfl)) k0 bel lt0) trodAll_mk0), rfl, bel.frame _, fun h => by cases h⟩
theorem closed : joinedFacts Tryz.prog 7 Tryz.f7 Rows.fnSessionPrefixSpec Rows.fnSessionPrefixRow = true := by kernel_rfl
theorem over : Rows.fnSessionPrefixRow.holds Tryz.pinned (OpenSpec.ofChange Rows.fnSessionPrefixSpec) :=
  OpenClaim.holds_of_wide 7 Tryz.f7 rfl rfl rfl rfl rfl rfl rfl ⟨rfl, rfl, rfl, rfl, rfl⟩ rfl rfl rfl rfl rfl (by kernel_rfl) Tryz.func7 closed
    (of_decide_eq_true (by kernel_rfl)) (by unfold Func.isWrapper; first | (rw [if_pos (by decide +kernel)]; kernel_rfl) | (rw [if_neg (by decide +kernel)]; exact ⟨rfl, rfl⟩))
    (fun os started H enc _ => lifted os started H enc)
/-- THE STATEMENT: the tied card. -/
theorem proved : Rows.FnSessionPrefixCardSaid :=
  Claim7.holds_tied_plain_at .later [] [.data, .data, .data, .data, .sentinel, .sentinel, .pinned] true (true, "be294eb38dac3e77696c27167f6ee1ff95c2be86aca27ec3f1751608eb7986fc") true over (fun _ h => by cases h) (by kernel_rfl) (fun _ h => by cases h) fnSessionPrefix_row_tie rfl ⟨rfl, rfl⟩ (by kernel_rfl) rfl
    (fun f fn hf hfn => by
      obtain rfl : f = 7 := Option.some.inj ((show Tryz.prog.funcNamed "loop.example/connectionpool/laws.FnSessionPrefix" = some 7 by kernel_rfl).symm.trans hf) |>.symm
      obtain rfl : fn = Tryz.f7 := (Option.some.inj (Tryz.func7.symm.trans hfn)).symm
      exact ⟨by kernel_rfl, fun j t ht => by
        rw [Tryz.params7] at ht
        have hm : t ∈ [22] := by simpa using Array.mem_of_getElem? ht
        have hall : ([22].all fun u => !Tryz.prog.wantsStandIn u) = true := by kernel_rfl
        exact (show Tryz.prog.wantsStandIn t = false by simpa using List.all_eq_true.1 hall t hm)⟩)
    (by kernel_rfl)
end fnSessionPrefix
end Go.Proofs.YtnmgnhpagnjhlaaGreatDoor
