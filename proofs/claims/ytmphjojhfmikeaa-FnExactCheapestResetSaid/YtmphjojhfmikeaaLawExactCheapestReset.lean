/- FnExactCheapestReset: for all lists of settings the law returns true, and what was there is as it was. No condition. -/
import Derived.Test.YtmphjojhfmikeaaRows
import Derived.Test.YtmphjojhfmikeaaResE
import Derived.Test.YtmphjojhfmikeaaOpenN
set_option linter.unusedVariables false
set_option linter.unusedSimpArgs false
set_option linter.unnecessarySimpa false
namespace Go.Proofs.Ytmphjojhfmikeaa
open Go.RowKit

theorem len_of_map (es fs : List El) (h : fs.map (·.2.2) = es.map (·.2.2)) (hb : ∀ e ∈ es, e.2.2.length ≤ 1048576) : ∀ e ∈ fs, e.2.2.length ≤ 1073741824 := by
  intro e he
  have h1 : e.2.2 ∈ fs.map (·.2.2) := List.mem_map.2 ⟨e, he, rfl⟩
  rw [h] at h1
  obtain ⟨y, hy, e2⟩ := List.mem_map.1 h1
  have := hb y hy
  rw [← e2]; omega
set_option maxRecDepth 100000 in
set_option maxHeartbeats 4000000 in
theorem walk_FnExactCheapestReset (es : List El) (A : Option Addr) (n c : Nat) (hN : es.length = n) (hc : n ≤ c) (hm : c ≤ maxLen) (hes : ∀ e ∈ es, e.2.2.length ≤ maxLen) (ys : List Pr) (B : Option Addr) (m d : Nat) (hM : ys.length = m) (hd : m ≤ d) (hdm : d ≤ maxLen) {w : World} (h : RdN w A es) (h' : Rd w B (sc ys)) :
    Calls Try.prog 3 #[.slice A n c, .slice B m d] w fun e w' => e = .returned (.bool true) ∧ Below w.heap.size w w' := by
  unfold maxLen at hm hdm hes
  have HSZ := Lib.hid (szSS_c es A n c w hN h (by omega) (fun e he => by have := hes e he; omega))
  have HN := Lib.hid hN; have HM := Lib.hid hM; have H := Lib.hid h; have H' := Lib.hid h'
  clear hN hM h h' hes
  go_enter Try.func3, Try.ntmps3
  go_wp2_with fail
  refine HSZ.out.mono ?_
  rintro e w0 ⟨⟨r, rfl, hr⟩, rfl⟩
  rcases hr with hr | ⟨hr0, hr1, hn, hall⟩
  · have hd1 : decide (r < 0) = true := decide_eq_true hr
    clear hr
    go_wp2_with fail
    go_ret
    exact ⟨rfl, Below.refl _ _⟩
  · have hd1 : decide (r < 0) = false := decide_eq_false (by omega)
    have HALL := Lib.hid hall
    have hsz2 := szS_c B m d r w (by omega) hr0 hr1
    clear hall HSZ
    by_cases hrm : r < (m : Int)
    · rw [if_pos hrm] at hsz2
      have HS2 := Lib.hid hsz2
      clear hsz2 hrm
      go_wp2_with fail
      refine HS2.out.mono ?_
      rintro e w0 ⟨rfl, rfl⟩
      go_wp2_with fail
      go_ret
      exact ⟨rfl, Below.refl _ _⟩
    · rw [if_neg hrm] at hsz2
      obtain ⟨u, hu⟩ : ∃ u, u = r - (m : Int) := ⟨_, rfl⟩
      rw [← hu] at hsz2
      have hu0 : decide (u < 0) = false := decide_eq_false (by omega)
      have hm20 : m ≤ 1048576 := by omega
      have HS2 := Lib.hid hsz2
      have HMAP := Lib.hid (len_of_map es es rfl HALL.out)
      obtain ⟨V, hV⟩ : ∃ V, V = chV (es.map (·.2.2)) ys := ⟨_, rfl⟩
      have hSP : ∀ (fs : List El) (A1 B1 : Option Addr) (c1 d1 : Nat) (W : World), fs.map (·.2.2) = es.map (·.2.2) → RdN W A1 fs → Rd W B1 (sc ys) → Calls Try.prog 6 #[.slice A1 n c1, .slice B1 m d1] W fun e w' => e = .returned (.int .i64 V) ∧ Below W.heap.size W w' := fun fs A1 B1 c1 d1 W hfs h1 h2 => by
        have := sCheapest_c fs ys A1 B1 n c1 m d1 W (by have := congrArg List.length hfs; rw [List.length_map, List.length_map, HN.out] at this; exact this) HM.out h1 h2 (by omega) (by omega) (len_of_map es fs hfs HALL.out)
        rw [hfs, ← hV] at this
        exact this
      have hIM : ∀ (fs : List El) (A1 B1 : Option Addr) (c1 d1 : Nat) (W : World), fs.map (·.2.2) = es.map (·.2.2) → RdN W A1 fs → Rd W B1 (sc ys) → Calls Try.prog 9 #[.slice A1 n c1, .slice B1 m d1] W fun e w' => e = .returned (.int .i64 V) ∧ Below W.heap.size W w' := fun fs A1 B1 c1 d1 W hfs h1 h2 => by
        have := cheapest_c fs ys A1 B1 n c1 m d1 W (by have := congrArg List.length hfs; rw [List.length_map, List.length_map, HN.out] at this; exact this) HM.out h1 h2 (by omega) (by omega) (len_of_map es fs hfs HALL.out)
        rw [hfs, ← hV] at this
        exact this
      have hTS : ∀ W, RdN W A es → Calls Try.prog 7 #[.slice A n c] W (fun e w' => ∃ A' c' fs, e = .returned (.slice A' n c') ∧ fs.map (·.2.2) = es.map (·.2.2) ∧ RdN w' A' fs ∧ Below W.heap.size W w') := fun W hW => (toSS_c es A n c W HN.out hW (by omega) HMAP.out).mono fun e w' ⟨A', c', fs, he, h1, h2, h3⟩ => ⟨A', c', fs, by rw [he, List.length_map, HN.out], h1, h2, h3⟩
      have hTM : ∀ W, Rd W B (sc ys) → Calls Try.prog 8 #[.slice B m d] W (fun e w' => ∃ A' c', e = .returned (.slice A' m c') ∧ Rd w' A' (sc ys) ∧ Below W.heap.size W w') := fun W hW => (toSets_c ys B m d W HM.out hW (by omega)).mono fun e w' ⟨A', c', he, h1, h2⟩ => ⟨A', c', by rw [he, HM.out], h1.rd, h2⟩
      have SP := Lib.hid hSP; have IM := Lib.hid hIM; have TS := Lib.hid hTS; have TM := Lib.hid hTM
      clear hsz2 hrm hu hV hSP hIM hTS hTM
      go_wp2_with fail
      refine HS2.out.mono ?_
      rintro e w0 ⟨rfl, rfl⟩
      go_wp2_with fail
      refine (TS.out _ H.out).mono ?_
      rintro e w1 ⟨A1, c1, f1, rfl, hf1, n1, b1⟩
      have B1 := Lib.hid b1; have N1 := Lib.hid n1; have F1 := Lib.hid hf1
      clear b1 n1 hf1
      go_wp2_with fail
      refine (TM.out _ (H'.out.below B1.out)).mono ?_
      rintro e w2 ⟨A2, c2, rfl, r2, b2⟩
      have B2 := Lib.hid (B1.out.trans (b2.mono B1.out.size)); have R2 := Lib.hid r2; have N2 := Lib.hid (N1.out.below b2)
      clear b2 r2 B1 N1
      go_wp2_with fail
      refine (SP.out f1 A1 A2 c1 c2 _ F1.out N2.out R2.out).mono ?_
      rintro e w3 ⟨rfl, b3⟩
      have B3 := Lib.hid (B2.out.trans (b3.mono B2.out.size))
      clear b3 B2 R2 N2 F1
      go_wp2_with fail
      refine (TS.out _ (H.out.below B3.out)).mono ?_
      rintro e w4 ⟨A4, c4, f4, rfl, hf4, n4, b4⟩
      have B4 := Lib.hid (B3.out.trans (b4.mono B3.out.size)); have N4 := Lib.hid n4; have F4 := Lib.hid hf4
      clear b4 n4 hf4 B3
      go_wp2_with fail
      refine (TM.out _ (H'.out.below B4.out)).mono ?_
      rintro e w5 ⟨A5, c5, rfl, r5, b5⟩
      have B5 := Lib.hid (B4.out.trans (b5.mono B4.out.size)); have R5 := Lib.hid r5; have N5 := Lib.hid (N4.out.below b5)
      clear b5 r5 B4 N4
      go_wp2_with fail
      refine (IM.out f4 A4 A5 c4 c5 _ F4.out N5.out R5.out).mono ?_
      rintro e w6 ⟨rfl, b6⟩
      have B6 := Lib.hid (B5.out.trans (b6.mono B5.out.size)); have R6 := Lib.hid (R5.out.below b6); have N6 := Lib.hid (N5.out.below b6)
      clear b6 B5 R5 N5
      go_wp2_with fail
      refine (TS.out _ (H.out.below B6.out)).mono ?_
      rintro e w7 ⟨A7, c7, f7, rfl, hf7, n7, b7⟩
      have B7 := Lib.hid (B6.out.trans (b7.mono B6.out.size)); have N7 := Lib.hid n7; have R7 := Lib.hid (R6.out.below b7); have N67 := Lib.hid (N6.out.below b7)
      have HEQ := Lib.hid (eqSS_c f4 f7 A4 A7 n c4 c7 w7 (by have := congrArg List.length F4.out; rw [List.length_map, List.length_map, HN.out] at this; exact this) (F4.out.trans hf7.symm) N67.out n7 (by omega) (len_of_map es f4 F4.out HALL.out))
      clear b7 n7 B6 R6 N6 hf7
      go_wp2_with fail
      refine HEQ.out.mono ?_
      rintro e w8 ⟨rfl, b8⟩
      have B8 := Lib.hid (B7.out.trans (b8.mono B7.out.size)); have R8 := Lib.hid (R7.out.below b8)
      clear b8 B7 R7 HEQ
      go_wp2_with fail
      refine (TM.out _ (H'.out.below B8.out)).mono ?_
      rintro e w9 ⟨A9, c9, rfl, r9, b9⟩
      have B9 := Lib.hid (B8.out.trans (b9.mono B8.out.size))
      have HEQ2 := Lib.hid (eqSets_c ys A5 A9 m c5 c9 w9 HM.out (R8.out.below b9) r9 (by omega))
      clear b9 r9 B8 R8
      go_wp2_with fail
      refine HEQ2.out.mono ?_
      rintro e w10 ⟨rfl, b10⟩
      go_wp2_with fail
      go_ret
      exact ⟨rfl, B9.out.trans (b10.mono B9.out.size)⟩

namespace fnExactCheapestReset
open Go.ChangeShapes Go.WideShapes Go.ChangeAt
open Go.ChangeMaps (open_string shut_string)
theorem own : ownKnob Try.prog.godebug = none := by kernel_rfl
theorem laidOut : laidOutB Try.prog = true := by kernel_rfl
set_option maxRecDepth 100000 in
theorem lifted (os : Os) (started : os.Started) (H : Type) (enc : TypeId × Value → H) :
    ReturnsInHanded {} Try.checked os 3 .any (Rows.fnExactCheapestResetSpec.pre6 enc Try.prog Try.f3 Rows.fnExactCheapestResetRow.domain false) (Rows.fnExactCheapestResetSpec.post enc Try.prog Try.f3 false true false false) := by
  refine returnsInHanded_of_change (C := Try.checked) own started (by kernel_rfl) Try.func3
    (ChangeSpec.witness6 (enc := enc) (C := Try.checked) false ⟨#[], #[.slice none 0 0, .slice none 0 0], []⟩ 8 (by kernel_rfl) (by kernel_rfl) (by kernel_rfl) (by kernel_rfl)) ?_
  intro W base args ds gs before hval0 hW hcnd _
  have hval : ∀ (j : Nat) t v, Try.f3.params[j]? = some t → args[j]? = some v → Value.okWide Try.prog W .any base t v := hval0
  have hW' := hW
  obtain ⟨p, q, hA0, hV, rfl, hfz, hnd⟩ := hW
  have hA : DataW.TrodAll enc Try.prog W 0 (fun _ => true) true Try.f3.params.toList args.toList ds p := hA0
  rw [Try.params3] at hA hval
  obtain ⟨v0, vs0, d0, ds0, p0, q0, hargs, rfl, rfl, h0, r0⟩ := trodAll_cons hA
  obtain ⟨v1, vs1, d1, ds1, p1, q1, rfl, rfl, rfl, h1, r1⟩ := trodAll_cons r0
  obtain ⟨rfl, rfl, rfl⟩ := trodAll_nil r1
  obtain rfl : args = #[v0, v1] := by cases args; simp_all
  obtain ⟨rfl, rfl⟩ := trodVars_none hV
  obtain ⟨a0, n0, c0, rfl⟩ := okWide_slice Try.underlying22 (hval 0 22 v0 rfl rfl)
  have k0 := h0
  have lt0 : ∀ x ∈ p0, x.block < W.heap.size := by obtain ⟨m, hm⟩ := k0; exact DataW.trod_lt m _ _ _ hm
  obtain ⟨fu0, hf0⟩ := h0
  obtain ⟨z0, e0, lc0, cm0, rd0, bd0⟩ := open_rd_lists Try.underlying22 (by kernel_rfl) Try.underlying23 Try.underlying39 (by kernel_rfl) rfl rfl (by kernel_rfl) (by kernel_rfl) Try.underlying3 Try.underlying3 hf0
  obtain ⟨a1, n1, c1, rfl⟩ := okWide_slice Try.underlying23 (hval 1 23 v1 rfl rfl)
  have k1 := h1
  have lt1 : ∀ x ∈ p1, x.block < W.heap.size := by obtain ⟨m, hm⟩ := k1; exact DataW.trod_lt m _ _ _ hm
  obtain ⟨fu1, hf1⟩ := h1
  obtain ⟨z1, e1, lc1, cm1, rd1⟩ := open_rd_pairs Try.underlying23 Try.underlying39 (by kernel_rfl) rfl rfl (by kernel_rfl) (by kernel_rfl) Try.underlying3 Try.underlying3 hf1
  clear hA0 hval0
  refine (walk_FnExactCheapestReset (w := W) z0 a0 n0 c0 e0 lc0 cm0 bd0 z1 a1 n1 c1 e1 lc1 cm1 rd0 rd1).mono fun e W' ⟨he, bel⟩ => ?_
  subst he
  exact ⟨_, rfl, _, _, _, [], _, [], hW', trodAll_mk1 (shut_bool Try.underlying4 _), (trodAll_cons_mk (Below.trod laidOut (by kernel_rfl) (of_decide_eq_true (by kernel_rfl)) k0 bel lt0) (trodAll_cons_mk (Below.trod laidOut (by kernel_rfl) (of_decide_eq_true (by kernel_rfl)) k1 bel lt1) trodAll_mk0)), rfl, bel.frame _, fun h => by cases h⟩
theorem closed : joinedFacts Try.prog 3 Try.f3 Rows.fnExactCheapestResetSpec Rows.fnExactCheapestResetRow = true :=
  facts_of mayEnter_ok liftsFinal_ok make_ok (by kernel_rfl)
theorem over : Rows.fnExactCheapestResetRow.holds Try.pinned (OpenSpec.ofChange Rows.fnExactCheapestResetSpec) :=
  OpenClaim.holds_of_wide 3 Try.f3 rfl rfl rfl rfl rfl rfl rfl ⟨rfl, rfl, rfl, rfl, rfl⟩ rfl rfl rfl rfl rfl (by kernel_rfl) Try.func3 closed
    (of_decide_eq_true (by kernel_rfl)) (by unfold Func.isWrapper; first | (rw [if_pos (by decide +kernel)]; kernel_rfl) | (rw [if_neg (by decide +kernel)]; exact ⟨rfl, rfl⟩))
    (fun os started H enc _ => lifted os started H enc)
/-- THE STATEMENT -/
theorem proved : Rows.FnExactCheapestResetSaid := over
end fnExactCheapestReset
end Go.Proofs.Ytmphjojhfmikeaa
