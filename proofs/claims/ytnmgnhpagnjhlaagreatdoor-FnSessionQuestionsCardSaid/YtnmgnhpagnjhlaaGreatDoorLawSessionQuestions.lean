/- FnSessionQuestions: for every code the law returns true, and what was there is as it was. No condition. -/
import Derived.Test.YtnmgnhpagnjhlaaGreatDoorCards
import Derived.Test.YtnmgnhpagnjhlaaGreatDoorTie
import Derived.Test.YtnmgnhpagnjhlaaGreatDoorDoorP
import Derived.Test.YtnmgnhpagnjhlaaGreatDoorDrawL
import Derived.Test.YtnmgnhpagnjhlaaGreatDoorRunI
import Derived.Test.YtnmgnhpagnjhlaaGreatDoorOpen
import Derived.Deep.Cut
set_option linter.unusedVariables false
set_option linter.unusedSimpArgs false
set_option linter.unnecessarySimpa false
namespace Go.Proofs.YtnmgnhpagnjhlaaGreatDoor
open Go.RowKit

theorem strs_len_ (ls : List (List UInt8)) : (strs ls).length = ls.length := List.length_map ..
theorem strs_one_ (ls : List (List UInt8)) : ∀ u ∈ strs ls, u.oneCell' = true := fun u hu => by
  obtain ⟨x, _, rfl⟩ := List.mem_map.1 hu
  rfl
theorem strs_app_ (a b : List (List UInt8)) : strs a ++ strs b = strs (a ++ b) := List.map_append.symm
theorem ext_mid (a b : List UInt8) : (bsof (a ++ b)).extract a.length (bsof (a ++ b)).size = bsof b := by
  have h := ext_right a b
  rw [bsof_size a] at h
  exact h
set_option maxRecDepth 100000 in
set_option maxHeartbeats 8000000 in
theorem walk_FnSessionQuestions (zs : List Int) (A : Option Addr) (n c : Nat) (hN : zs.length = n) (hc : n ≤ c) (hm : c ≤ maxLen) {w : World} (h : Rd w A (zs.map (.int .u8))) (hz : ∀ z ∈ zs, 0 ≤ z ∧ z ≤ 255) (E : Env w) :
    Calls Tryz.prog 8 #[.slice A n c] w fun e w' => e = .returned (.bool true) ∧ Below w.heap.size w w' := by
  obtain ⟨i0, i0_i, i0_z0, i0_z1, i0_z2⟩ := info_parts strInfo
  have HD := Lib.hid (drawRun_c zs A n c w hN hc hm h hz)
  have HE := Lib.hid E
  clear h hz hN E
  unfold maxLen at hm
  by_cases hbig : 1048576 < n
  · go_enter Tryz.func8, Tryz.ntmps8
    go_wp2
    go_ret
    exact ⟨rfl, Below.refl _ _⟩
  · go_enter Tryz.func8, Tryz.ntmps8
    go_wp2_with fail
    refine HD.out.mono ?_
    rintro e w1 ⟨ls, A1, c1, hl16, hl100, rfl, row1, b1⟩
    have FR1 := Lib.hid b1; have ROW1 := Lib.hid row1
    obtain ⟨m, hm9⟩ : ∃ m, ls.length = m := ⟨_, rfl⟩
    have hmc : m ≤ c1 := by rw [← hm9]; exact row1.le
    have hcm1 := row1.max
    rw [hm9] at hl16 ⊢
    have HM := Lib.hid hm9
    have RD1 := Lib.hid row1.rd
    have hl20 : ∀ l ∈ ls, l.length ≤ 1048576 := fun l hl => Nat.le_trans (hl100 l hl) (by omega)
    have HL20 := Lib.hid hl20
    obtain ⟨OUT, hOUT⟩ : ∃ OUT, OUT = bsof (sessV ls) := ⟨_, rfl⟩
    have hOs : OUT.size ≤ 1000020 := by
      rw [hOUT, bsof_size]
      have h1 := runV_len new_good (ls.take 20)
      have h2 := List.length_take_le 20 ls
      exact Nat.le_trans h1 (Nat.le_trans (Nat.mul_le_mul_right _ h2) (by omega))
    have HS := Lib.hid (fun W (hW : Rd W A1 (strs ls)) => (show Calls Tryz.prog 23 #[.slice A1 m c1] W (fun e w' => e = .returned (.string OUT) ∧ Below W.heap.size W w') from by rw [hOUT]; exact sRun_c ls A1 m c1 W HM.out hW (by omega) hl20))
    have HI := Lib.hid (fun W (hW : Rd W A1 (strs ls)) (hE : Env W) => (show Calls Tryz.prog 25 #[.slice A1 m c1] W (fun e w' => e = .returned (.string OUT) ∧ Below W.heap.size W w') from by rw [hOUT]; exact iRun_c ls A1 m c1 W HM.out hW (by omega) hmc hl20 hE))
    have HOUT := Lib.hid hOUT
    clear hm9 hl100 hl20 hOUT b1 row1 HD
    go_wp2_with fail
    refine (HI.out w1 RD1.out (HE.out.below FR1.out)).mono ?_
    rintro e w2 ⟨rfl, b2⟩
    have FR2 := Lib.hid (FR1.out.trans (b2.mono FR1.out.size)); have RD2 := Lib.hid (RD1.out.below b2)
    clear b2 ROW1
    go_wp2_with fail
    refine (HS.out w2 RD2.out).mono ?_
    rintro e w3 ⟨rfl, b3⟩
    have FR3 := Lib.hid (FR2.out.trans (b3.mono FR2.out.size)); have RD3 := Lib.hid (RD2.out.below b3)
    have hs3 : w.heap.size ≤ w3.heap.size := FR3.out.size
    clear b3 HS HI RD1 RD2
    have hmw : IntKind.i64.wrap ((m : Int) + 4) = (m : Int) + 4 := IntWalk.i64_in _ ⟨by omega, by omega⟩
    have hmd : decide ((20 : Int) < (m : Int) + 4) = false := decide_eq_false (by omega)
    have g0 : (endV Pl.new ls).Good := endV_good new_good ls
    obtain ⟨Y0, hY0, hYl⟩ := ques_run g0
    obtain ⟨XL, hXL⟩ : ∃ XL, XL = runV (endV Pl.new ls) [poolT] := ⟨_, rfl⟩
    rw [← hXL] at hY0
    have sa : sessV (ls ++ [poolT]) = sessV ls ++ XL := by rw [sess_more (by rw [HM.out]; simp; omega), hXL]
    have sb : sessV (ls ++ quesL) = sessV ls ++ (Y0 ++ XL) := by rw [sess_more (by rw [HM.out]; simp [quesL]; omega), hY0]
    obtain ⟨AA, hAA⟩ : ∃ AA, AA = bsof (sessV (ls ++ [poolT])) := ⟨_, rfl⟩
    obtain ⟨BB, hBB⟩ : ∃ BB, BB = bsof (sessV (ls ++ quesL)) := ⟨_, rfl⟩
    obtain ⟨XX, hXX⟩ : ∃ XX, XX = bsof XL := ⟨_, rfl⟩
    obtain ⟨YY, hYY⟩ : ∃ YY, YY = bsof (Y0 ++ XL) := ⟨_, rfl⟩
    obtain ⟨k0, hk0⟩ : ∃ k0, k0 = Y0.length := ⟨_, rfl⟩
    have sAA : AA.size = OUT.size + XX.size := by rw [hAA, hXX, HOUT.out, sa, bsof_size, bsof_size, bsof_size, List.length_append]
    have sBB : BB.size = OUT.size + YY.size := by rw [hBB, hYY, HOUT.out, sb, bsof_size, bsof_size, bsof_size, List.length_append]
    have sYY : YY.size = k0 + XX.size := by rw [hYY, hXX, hk0, bsof_size, bsof_size, List.length_append]
    have sXs : XX.size ≤ 50001 := by
      rw [hXX, bsof_size, hXL]
      have := runV_len g0 [poolT]
      simpa using this
    have sYs : YY.size ≤ 200004 := by
      rw [hYY, bsof_size, ← hY0]
      have := runV_len g0 quesL
      exact Nat.le_trans this (by simp [quesL])
    have exA : AA.extract OUT.size AA.size = XX := by rw [hAA, hXX, HOUT.out, sa]; exact ext_right _ _
    have exB : BB.extract OUT.size BB.size = YY := by rw [hBB, hYY, HOUT.out, sb]; exact ext_right _ _
    have exY : YY.extract k0 YY.size = XX := by rw [hYY, hXX, hk0]; exact ext_mid _ _
    have d1 : decide ((AA.size : Int) < (OUT.size : Int)) = false := decide_eq_false (by omega)
    have d2 : decide ((BB.size : Int) < (OUT.size : Int)) = false := decide_eq_false (by omega)
    have d3 : decide ((XX.size : Int) < (YY.size : Int)) = true := decide_eq_true (by omega)
    have o0 : (0 : Int) ≤ (OUT.size : Int) := by omega
    have o1 : (OUT.size : Int) ≤ (AA.size : Int) := by omega
    have o2 : (OUT.size : Int) ≤ (BB.size : Int) := by omega
    have hkw : IntKind.i64.wrap ((YY.size : Int) - (XX.size : Int)) = (k0 : Int) := by rw [show (YY.size : Int) - (XX.size : Int) = (k0 : Int) by omega]; exact IntWalk.i64_in _ ⟨by omega, by omega⟩
    have k00 : (0 : Int) ≤ (k0 : Int) := by omega
    have k01 : (k0 : Int) ≤ (YY.size : Int) := by omega
    have HAA := Lib.hid hAA; have HBB := Lib.hid hBB
    have d1' : ¬ AA.size < OUT.size := by omega
    have d2' : ¬ BB.size < OUT.size := by omega
    have d3' : XX.size < YY.size := by omega
    have o1' : OUT.size ≤ AA.size := by omega
    have o2' : OUT.size ≤ BB.size := by omega
    have k01' : k0 ≤ YY.size := by omega
    clear g0 hY0 hYl hXL sa sb hAA hBB hXX hYY hk0 sAA sBB sYY
    have HLp : Hid (∀ l ∈ ls ++ ([[112, 111, 111, 108]] : List (List UInt8)), l.length ≤ 1048576) := by
      intro l hl
      rcases List.mem_append.1 hl with hl | hl
      · exact HL20.out l hl
      · exact (by decide : ∀ l ∈ ([[112, 111, 111, 108]] : List (List UInt8)), l.length ≤ 1048576) l hl
    go_wp2_with (at_builtin; (refine wpList_append_row _ rfl (.tmp 30) (.tmp 31) 37 rfl w3.heap.size 9 i0 (.string ByteArray.empty) 1 16 Tryz.underlying37 i0_i i0_z0 i0_z1 i0_z2 rfl (some ⟨w3.heap.size, 0, none⟩) 0 0 [] rfl (Row.nil _ _ _ _ _) A1 m c1 (strs ls) (by first | rfl | simp) (by rw [strs_len_, HM.out]; omega) (RD3.out.alloc _) (strs_one_ ls) (by omega) (by unfold maxLen; omega) (by omega) (by simp <;> omega) ?_))
    intro Xp xp wap rowa hga hata
    have ROWap : Hid (Row wap w3.heap.size 9 1 Xp m xp (strs ls)) := by show Row _ _ _ _ _ _ _ _; simpa using rowa
    have BAp := Lib.hid (((Below.refl w3.heap.size w3).alloc (Nat.le_refl _) (.cells #[] 9)).grown hga (by simp) (fun y hy => by simp [rb] at hy))
    have hsap : w3.heap.size ≤ wap.heap.size := BAp.out.size
    clear rowa hga hata
    go_wp2_with (at_builtin; (refine wpList_append_row _ rfl (.tmp 32) (.tmp 33) 37 rfl w3.heap.size 9 i0 (.string ByteArray.empty) 1 16 Tryz.underlying37 i0_i i0_z0 i0_z1 i0_z2 rfl Xp m xp (strs ls) (by first | rfl | simp) (ROWap.out.alloc _) (some ⟨wap.heap.size, 0, none⟩) 1 1 (strs [[112, 111, 111, 108]]) (by first | rfl | simp) rfl (Rd.litS (([[112, 111, 111, 108]] : List (List UInt8)).map bsof) wap 9) (strs_one_ _) (by omega) (by unfold maxLen; omega) (by omega) (by simp <;> omega) ?_))
    intro Yp yp wbp rowb hgb hatb
    have hltb := ROWap.out.lt
    have ROWbp : Hid (Row wbp w3.heap.size 9 1 Yp (m + 1) yp (strs (ls ++ [[112, 111, 111, 108]]))) := by show Row _ _ _ _ _ _ _ _; rw [← strs_app_]; exact rowb
    have BBp := Lib.hid ((BAp.out.alloc hsap (.cells #[.string ⟨#[112, 111, 111, 108]⟩] 9)).grown hgb (by simp <;> omega) (fun y hy => (hltb y hy).1))
    have FRbp := Lib.hid (FR3.out.trans (BBp.out.mono FR3.out.size))
    have RDbp := Lib.hid (RD3.out.below BBp.out)
    have HRp : Hid (Calls Tryz.prog 25 #[.slice Yp (m + 1) yp] wbp (fun e w' => e = .returned (.string AA) ∧ Below wbp.heap.size wbp w')) := by
      rw [HAA.out]
      exact iRun_c (ls ++ [[112, 111, 111, 108]]) Yp (m + 1) yp wbp (by rw [List.length_append, HM.out]; rfl) ROWbp.out.rd (by omega) ROWbp.out.le HLp.out (HE.out.below FRbp.out)
    clear rowb hgb hatb hltb
    go_wp2_with fail
    refine HRp.out.mono ?_
    rintro e wcp ⟨rfl, bcp⟩
    have FRcp := Lib.hid (FRbp.out.trans (bcp.mono FRbp.out.size))
    have RDcp := Lib.hid (RDbp.out.below bcp)
    clear bcp
    have HLq : Hid (∀ l ∈ ls ++ ([[104, 101, 108, 100, 32, 50], [99, 108, 111, 115, 101, 32, 48], [97, 99, 113, 117, 105, 114, 101, 32, 57], [112, 111, 111, 108]] : List (List UInt8)), l.length ≤ 1048576) := by
      intro l hl
      rcases List.mem_append.1 hl with hl | hl
      · exact HL20.out l hl
      · exact (by decide : ∀ l ∈ ([[104, 101, 108, 100, 32, 50], [99, 108, 111, 115, 101, 32, 48], [97, 99, 113, 117, 105, 114, 101, 32, 57], [112, 111, 111, 108]] : List (List UInt8)), l.length ≤ 1048576) l hl
    go_wp2_with (at_builtin; (refine wpList_append_row _ rfl (.tmp 36) (.tmp 37) 37 rfl wcp.heap.size 9 i0 (.string ByteArray.empty) 1 16 Tryz.underlying37 i0_i i0_z0 i0_z1 i0_z2 rfl (some ⟨wcp.heap.size, 0, none⟩) 0 0 [] rfl (Row.nil _ _ _ _ _) A1 m c1 (strs ls) (by first | rfl | simp) (by rw [strs_len_, HM.out]; omega) (RDcp.out.alloc _) (strs_one_ ls) (by omega) (by unfold maxLen; omega) (by omega) (by simp <;> omega) ?_))
    intro Xq xq waq rowa hga hata
    have ROWaq : Hid (Row waq wcp.heap.size 9 1 Xq m xq (strs ls)) := by show Row _ _ _ _ _ _ _ _; simpa using rowa
    have BAq := Lib.hid (((Below.refl wcp.heap.size wcp).alloc (Nat.le_refl _) (.cells #[] 9)).grown hga (by simp) (fun y hy => by simp [rb] at hy))
    have hsaq : wcp.heap.size ≤ waq.heap.size := BAq.out.size
    clear rowa hga hata
    go_wp2_with (at_builtin; (refine wpList_append_row _ rfl (.tmp 38) (.tmp 39) 37 rfl wcp.heap.size 9 i0 (.string ByteArray.empty) 1 16 Tryz.underlying37 i0_i i0_z0 i0_z1 i0_z2 rfl Xq m xq (strs ls) (by first | rfl | simp) (ROWaq.out.alloc _) (some ⟨waq.heap.size, 0, none⟩) 4 4 (strs [[104, 101, 108, 100, 32, 50], [99, 108, 111, 115, 101, 32, 48], [97, 99, 113, 117, 105, 114, 101, 32, 57], [112, 111, 111, 108]]) (by first | rfl | simp) rfl (Rd.litS (([[104, 101, 108, 100, 32, 50], [99, 108, 111, 115, 101, 32, 48], [97, 99, 113, 117, 105, 114, 101, 32, 57], [112, 111, 111, 108]] : List (List UInt8)).map bsof) waq 9) (strs_one_ _) (by omega) (by unfold maxLen; omega) (by omega) (by simp <;> omega) ?_))
    intro Yq yq wbq rowb hgb hatb
    have hltb := ROWaq.out.lt
    have ROWbq : Hid (Row wbq wcp.heap.size 9 1 Yq (m + 4) yq (strs (ls ++ [[104, 101, 108, 100, 32, 50], [99, 108, 111, 115, 101, 32, 48], [97, 99, 113, 117, 105, 114, 101, 32, 57], [112, 111, 111, 108]]))) := by show Row _ _ _ _ _ _ _ _; rw [← strs_app_]; exact rowb
    have BBq := Lib.hid ((BAq.out.alloc hsaq (.cells #[.string ⟨#[104, 101, 108, 100, 32, 50]⟩, .string ⟨#[99, 108, 111, 115, 101, 32, 48]⟩, .string ⟨#[97, 99, 113, 117, 105, 114, 101, 32, 57]⟩, .string ⟨#[112, 111, 111, 108]⟩] 9)).grown hgb (by simp <;> omega) (fun y hy => (hltb y hy).1))
    have FRbq := Lib.hid (FRcp.out.trans (BBq.out.mono FRcp.out.size))
    have RDbq := Lib.hid (RDcp.out.below BBq.out)
    have HRq : Hid (Calls Tryz.prog 25 #[.slice Yq (m + 4) yq] wbq (fun e w' => e = .returned (.string BB) ∧ Below wbq.heap.size wbq w')) := by
      rw [HBB.out]
      exact iRun_c (ls ++ [[104, 101, 108, 100, 32, 50], [99, 108, 111, 115, 101, 32, 48], [97, 99, 113, 117, 105, 114, 101, 32, 57], [112, 111, 111, 108]]) Yq (m + 4) yq wbq (by rw [List.length_append, HM.out]; rfl) ROWbq.out.rd (by omega) ROWbq.out.le HLq.out (HE.out.below FRbq.out)
    clear rowb hgb hatb hltb
    go_wp2_with fail
    refine HRq.out.mono ?_
    rintro e wcq ⟨rfl, bcq⟩
    have FRcq := Lib.hid (FRbq.out.trans (bcq.mono FRbq.out.size))
    have RDcq := Lib.hid (RDbq.out.below bcq)
    clear bcq
    go_wp2_with fail
    go_ret
    exact ⟨by first | rfl | simp, FRcq.out⟩

namespace fnSessionQuestions
open Go.ChangeShapes Go.WideShapes Go.ChangeAt
open Go.ChangeMaps (open_string shut_string)
theorem own : ownKnob Tryz.prog.godebug = none := by kernel_rfl
theorem laidOut : laidOutB Tryz.prog = true := by kernel_rfl
set_option maxRecDepth 100000 in
theorem lifted (os : Os) (started : os.Started) (H : Type) (enc : TypeId × Value → H) :
    ReturnsInHanded {} Tryz.checked os 8 .any (fun w args => (Rows.fnSessionQuestionsSpec.pre enc Tryz.prog Tryz.f8 Rows.fnSessionQuestionsRow.domain false w args ∧ laidMetH Tryz.prog Rows.fnSessionQuestionsRow.laid w) ∧ sizedMet enc Tryz.prog Tryz.f8 (OpenSpec.ofChange Rows.fnSessionQuestionsSpec) false w args)
      (Rows.fnSessionQuestionsSpec.post enc Tryz.prog Tryz.f8 false true false false) := by
  refine returnsInHanded_and_shaped (C := Tryz.checked) (X := fun w _ => laidMetH Tryz.prog Rows.fnSessionQuestionsRow.laid w) (fun _ _ _ hh h => h.of_heap hh) own started (by kernel_rfl) Tryz.func8
    (ChangeSpec.witness_shaped (enc := enc) (C := Tryz.checked) (os := os) (X := fun w _ => laidMetH Tryz.prog Rows.fnSessionQuestionsRow.laid w) false (World.laidAll Tryz.prog os Rows.fnSessionQuestionsRow.laid) #[.slice none 0 0] 8 (World.laidAll_os _ _ _)
      (World.shaped_of_ZipB (by kernel_rfl) (by kernel_rfl)) (by kernel_rfl) (by kernel_rfl) (by kernel_rfl)
      (by rw [MakeChecks.laidMetH_plain _ _ _ (by kernel_rfl)]; exact laidMet_laidAll _ (by kernel_rfl) (by kernel_rfl))) ?_
  intro W base args ds gs before hval0 hW hcnd _ hL hsh _
  have hval : ∀ (j : Nat) t v, Tryz.f8.params[j]? = some t → args[j]? = some v → Value.okWide Tryz.prog W .any base t v := hval0
  have hW' := hW
  obtain ⟨p, q, hA0, hV, rfl, hfz, hnd⟩ := hW
  have hA : DataW.TrodAll enc Tryz.prog W 0 (fun _ => true) true Tryz.f8.params.toList args.toList ds p := hA0
  rw [Tryz.params8] at hA hval
  obtain ⟨v0, vs0, d0, ds0, p0, q0, hargs, rfl, rfl, h0, r0⟩ := trodAll_cons hA
  obtain ⟨rfl, rfl, rfl⟩ := trodAll_nil r0
  obtain rfl : args = #[v0] := by cases args; simp_all
  obtain ⟨rfl, rfl⟩ := trodVars_none hV
  obtain ⟨a0, n0, c0, rfl⟩ := okWide_slice Tryz.underlying22 (hval 0 22 v0 rfl rfl)
  have k0 := h0
  have lt0 : ∀ x ∈ p0, x.block < W.heap.size := by obtain ⟨m, hm⟩ := k0; exact DataW.trod_lt m _ _ _ hm
  obtain ⟨z0, e0, lc0, cm0, rd0, wf0⟩ := open_rd_int Tryz.underlying22 Tryz.underlying5 (by kernel_rfl) h0
  clear hA0 hval0
  refine (walk_FnSessionQuestions (w := W) z0 a0 n0 c0 e0 lc0 cm0 rd0 (fun x hx => wf_u8 (wf0 x hx)) (env_of_laid hL hsh)).mono fun e W' ⟨he, bel⟩ => ?_
  subst he
  exact ⟨_, rfl, _, _, _, [], _, [], hW', trodAll_mk1 (shut_bool Tryz.underlying4 _), (trodAll_cons_mk (Below.trod laidOut (by kernel_rfl) (of_decide_eq_true (by kernel_rfl)) k0 bel lt0) trodAll_mk0), rfl, bel.frame _, fun h => by cases h⟩
theorem closed : joinedFacts Tryz.prog 8 Tryz.f8 Rows.fnSessionQuestionsSpec Rows.fnSessionQuestionsRow = true := by kernel_rfl
theorem over : Rows.fnSessionQuestionsRow.holds Tryz.pinned (OpenSpec.ofChange Rows.fnSessionQuestionsSpec) :=
  OpenClaim.holds_of_wide 8 Tryz.f8 rfl rfl rfl rfl rfl rfl rfl ⟨rfl, rfl, rfl, rfl, rfl⟩ rfl rfl rfl rfl rfl (by kernel_rfl) Tryz.func8 closed
    (of_decide_eq_true (by kernel_rfl)) (by unfold Func.isWrapper; first | (rw [if_pos (by decide +kernel)]; kernel_rfl) | (rw [if_neg (by decide +kernel)]; exact ⟨rfl, rfl⟩))
    (fun os started H enc _ => lifted os started H enc)
/-- THE STATEMENT: the tied card. -/
theorem proved : Rows.FnSessionQuestionsCardSaid :=
  Claim7.holds_tied_plain_at .later [] [.data, .data, .data, .data, .sentinel, .sentinel, .pinned] true (true, "be294eb38dac3e77696c27167f6ee1ff95c2be86aca27ec3f1751608eb7986fc") true over (fun _ h => by cases h) (by kernel_rfl) (fun _ h => by cases h) fnSessionQuestions_row_tie rfl ⟨rfl, rfl⟩ (by kernel_rfl) rfl
    (fun f fn hf hfn => by
      obtain rfl : f = 8 := Option.some.inj ((show Tryz.prog.funcNamed "loop.example/connectionpool/laws.FnSessionQuestions" = some 8 by kernel_rfl).symm.trans hf) |>.symm
      obtain rfl : fn = Tryz.f8 := (Option.some.inj (Tryz.func8.symm.trans hfn)).symm
      exact ⟨by kernel_rfl, fun j t ht => by
        rw [Tryz.params8] at ht
        have hm : t ∈ [22] := by simpa using Array.mem_of_getElem? ht
        have hall : ([22].all fun u => !Tryz.prog.wantsStandIn u) = true := by kernel_rfl
        exact (show Tryz.prog.wantsStandIn t = false by simpa using List.all_eq_true.1 hall t hm)⟩)
    (by kernel_rfl)
end fnSessionQuestions
end Go.Proofs.YtnmgnhpagnjhlaaGreatDoor
