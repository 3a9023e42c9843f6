/- Contracts on the states of nests: validity, a command. -/
import Derived.Test.YtagmhmhhjkfhgaaClone
import Derived.Test.YtagmhmhhjkfhgaaPlainC
import Derived.Test.YtagmhmhhjkfhgaaNum
import Derived.Deep.RegionHeld3
import Derived.IntWalk
set_option linter.unusedVariables false
set_option linter.unusedSimpArgs false
set_option linter.unnecessarySimpa false
namespace Go.Proofs.Ytagmhmhhjkfhgaa
open Go.RowKit

/-- The mark before place k. -/
def before (lo : Int) (l : List Int) (k : Nat) : Int := if k = 0 then lo else l.getD (k - 1) 0
theorem before_succ (lo : Int) (l : List Int) (k : Nat) (h : k < l.length) : before lo l (k + 1) = l[k] := by simp [before, List.getD, h]
theorem markFit_take_succ (hi : Int) : ∀ (lo : Int) (l : List Int) (k : Nat) (h : k < l.length), markFit lo hi (l.take k) = true →
    markFit lo hi (l.take (k + 1)) = decide (before lo l k ≤ l[k] ∧ l[k] ≤ hi)
  | lo, x :: l, 0, h, _ => by simp [markFit, before]
  | lo, x :: l, k + 1, h, hm => by
    simp only [List.take_succ_cons, markFit, Bool.and_eq_true] at hm
    have hk : k < l.length := by simpa using h
    have ih := markFit_take_succ hi x l k hk hm.2
    rw [List.take_succ_cons, markFit, ih, hm.1, Bool.true_and]
    have e : before lo (x :: l) (k + 1) = before x l k := by
      unfold before
      cases k with
      | zero => simp [List.getD]
      | succ k => simp [List.getD]
    rw [e]
    rfl
theorem markFit_false (hi : Int) : ∀ (lo : Int) (l : List Int) (k : Nat), markFit lo hi (l.take k) = false → markFit lo hi l = false := by
  intro lo l k h
  cases hm : markFit lo hi l with
  | false => rfl
  | true => rw [markFit_take lo hi l k hm] at h; cases h

set_option maxHeartbeats 400000 in
theorem sToInt_c (b : Bool) (w : World) : Calls Try.prog 38 #[.bool b] w fun e w' => e = .returned (.int .i64 (if b then 1 else 0)) ∧ w = w' := by
  cases b
  all_goals
    go_enter Try.func38, Try.ntmps38
    go_wp2_with fail
    go_ret
    exact ⟨rfl, rfl⟩

set_option maxRecDepth 100000 in
set_option maxHeartbeats 2000000 in
theorem validNest_c (d k : Int) (ms : List Int) (b : Bool) (A : Option Addr) (n c : Nat) (w : World) (hN : ms.length = n) (h : Rd w A (ms.map (.int .i64))) (hn : n ≤ 1073741824) :
    Calls Try.prog 16 #[.agg #[.int .i64 d, .int .i64 k, .slice A n c, .bool b]] w fun e w' => e = .returned (.bool (validN d k ms b)) ∧ Below w.heap.size w w' := by
  have HN := Lib.hid hN; clear hN
  have H := Lib.hid h; clear h
  have bw : ∀ cs t, Below w.heap.size w (w.alloc (.cells cs t)) := fun cs t => (Below.refl _ _).alloc (Nat.le_refl _) _
  have BW := Lib.hid bw; clear bw
  by_cases hd : 0 ≤ d ∧ d ≤ 4
  · by_cases hk : 0 ≤ k ∧ k ≤ 12
    · by_cases hl : (n : Int) = d
      · subst hl
        have hne : ((n : Int) != (n : Int)) = false := by simp
        have hv : validN (n : Int) k ms b = (markFit 0 k ms && (firstZero ms && (decide (0 < n) || (decide (k = 0) && !b)))) := by
          unfold validN
          rw [HN.out, decide_eq_true hd, decide_eq_true hk]
          simp
        have HV := Lib.hid hv
        have HD := Lib.hid hd; have HK := Lib.hid hk
        clear hv hd hk hne
        go_enter Try.func16, Try.ntmps16
        go_wp2_with fail
        refine (in_c _ _ _ _).mono ?_
        rw [decide_eq_true HD.out]
        rintro e w1 ⟨rfl, rfl⟩
        go_wp2_with fail
        refine (in_c _ _ _ _).mono ?_
        rw [decide_eq_true HK.out]
        rintro e w1 ⟨rfl, rfl⟩
        go_wp2_with fail
        go_loop [3, 27] (fun l i => ∃ j : Nat, j ≤ n ∧ i = .int .i64 j ∧ l = .int .i64 (before 0 ms j) ∧ markFit 0 k (ms.take j) = true ∧ firstZero (ms.take j) = true) (fun _ i => n - (intOf i).toNat)
        case atStart => exact ⟨0, Nat.zero_le _, rfl, rfl, rfl, rfl⟩
        case round =>
          obtain ⟨j, hj, rfl, rfl, hm, hz⟩ := hrel
          have HM := Lib.hid hm; have HZ := Lib.hid hz
          clear hm hz
          by_cases hlt : j < n
          · have hjm : j < ms.length := by have := HN.out; omega
            obtain ⟨b0, off, hA, hc⟩ := (H.out.alloc (.cells #[.int .i64 (n : Int), .int .i64 k, .slice A n c, .bool b] 25)) (by simp; omega)
            subst hA
            obtain ⟨x, hX⟩ : ∃ x, x = ms[j] := ⟨_, rfl⟩
            have hx := hc j (.int .i64 x) (by simp [hX, hjm])
            have hst := markFit_take_succ k 0 ms j hjm HM.out
            have hbs := before_succ 0 ms j hjm
            rw [← hX] at hst hbs
            obtain ⟨l, hl⟩ : ∃ l, l = before 0 ms j := ⟨_, rfl⟩
            rw [← hl] at hst ⊢
            have HST := Lib.hid hst; have HBS := Lib.hid hbs; have HX := Lib.hid hX
            clear hst hbs hX hc hl
            by_cases hin : l ≤ x ∧ x ≤ k
            · have HIN := Lib.hid hin
              rcases Nat.eq_zero_or_pos j with h0 | h0
              · subst h0
                rw [Nat.add_zero] at hx
                by_cases hx0 : x = 0
                · subst hx0
                  clear hin
                  go_wp2_with fail
                  refine (in_c _ _ _ _).mono ?_
                  rw [decide_eq_true HIN.out]
                  rintro e w1 ⟨rfl, rfl⟩
                  go_wp2_with fail
                  go_round
                  case rel =>
                    refine ⟨1, by omega, by go_num, by rw [HBS.out], by rw [HST.out, decide_eq_true HIN.out], ?_⟩
                    obtain ⟨y, l', e⟩ : ∃ y l', ms = y :: l' := by
                      cases ms with
                      | nil => simp at hjm
                      | cons y l' => exact ⟨y, l', rfl⟩
                    subst e
                    have := HX.out
                    simp at this
                    simp [firstZero, ← this]
                  case measure => simp [intOf]; omega
                · have hx0' : (x != 0) = true := by simpa using hx0
                  have hv' : validN (n : Int) k ms b = false := by
                    rw [HV.out]
                    have : firstZero ms = false := by
                      cases ms with
                      | nil => simp at hjm
                      | cons y l' =>
                        have := HX.out
                        simp at this
                        simp [firstZero, ← this, hx0]
                    rw [this]; simp
                  have HV' := Lib.hid hv'
                  clear hv' hin hx0
                  go_wp2_with fail
                  refine (in_c _ _ _ _).mono ?_
                  rw [decide_eq_true HIN.out]
                  rintro e w1 ⟨rfl, rfl⟩
                  go_wp2_with fail
                  go_ret
                  exact ⟨ret_bool HV'.out.symm, BW.out _ _⟩
              · have hj0 : ((j : Int) == 0) = false := beq_eq_false_iff_ne.2 (by omega)
                clear hin
                go_wp2_with fail
                refine (in_c _ _ _ _).mono ?_
                rw [decide_eq_true HIN.out]
                rintro e w1 ⟨rfl, rfl⟩
                go_wp2_with fail
                go_round
                case rel =>
                  refine ⟨j + 1, by omega, by go_num, by rw [HBS.out], by rw [HST.out, decide_eq_true HIN.out], ?_⟩
                  have hz := HZ.out
                  cases ms with
                  | nil => simp at hjm
                  | cons y l' =>
                    obtain ⟨i, rfl⟩ : ∃ i, j = i + 1 := ⟨j - 1, by omega⟩
                    simpa [firstZero] using hz
                case measure => simp [intOf]; omega
            · have hv' : validN (n : Int) k ms b = false := by
                rw [HV.out, markFit_false k 0 ms (j + 1) (by rw [HST.out, decide_eq_false hin])]; rfl
              have HV' := Lib.hid hv'
              have HIN := Lib.hid hin
              clear hv' hin
              go_wp2_with fail
              refine (in_c _ _ _ _).mono ?_
              rw [decide_eq_false HIN.out]
              rintro e w1 ⟨rfl, rfl⟩
              go_wp2_with fail
              go_ret
              exact ⟨ret_bool HV'.out.symm, BW.out _ _⟩
          · obtain rfl : j = n := by omega
            have hm := HM.out
            have hz := HZ.out
            rw [List.take_of_length_le (by rw [HN.out]; exact Nat.le_refl _)] at hm hz
            have hv := HV.out
            rw [hm, hz, Bool.true_and, Bool.true_and] at hv
            have HV' := Lib.hid hv
            clear hm hz hv
            rcases Nat.eq_zero_or_pos j with h0 | h0
            · subst h0
              by_cases hk0 : k = 0
              · subst hk0
                cases b
                all_goals
                  go_wp2_with fail
                  go_ret
                  exact ⟨ret_bool (Eq.trans (by rfl) HV'.out.symm), BW.out _ _⟩
              · have hk0' : (k == 0) = false := beq_eq_false_iff_ne.2 hk0
                have hv2 : validN ((0 : Nat) : Int) k ms b = false := by rw [HV'.out]; simp [hk0]
                have HV2 := Lib.hid hv2
                clear hv2 hk0
                go_wp2_with fail
                go_ret
                exact ⟨ret_bool HV2.out.symm, BW.out _ _⟩
            · have hv2 : validN (j : Int) k ms b = true := by rw [HV'.out]; simp [h0]
              have HV2 := Lib.hid hv2
              clear hv2
              go_wp2_with fail
              go_ret
              exact ⟨ret_bool HV2.out.symm, BW.out _ _⟩
      · have hne : ((n : Int) != d) = true := by rw [bne_iff_ne]; exact hl
        have hv : validN d k ms b = false := by unfold validN; rw [HN.out, decide_eq_false hl]; simp
        have HV := Lib.hid hv
        have HD := Lib.hid hd; have HK := Lib.hid hk
        clear hl hv hd hk
        go_enter Try.func16, Try.ntmps16
        go_wp2_with fail
        refine (in_c _ _ _ _).mono ?_
        rw [decide_eq_true HD.out]
        rintro e w1 ⟨rfl, rfl⟩
        go_wp2_with fail
        refine (in_c _ _ _ _).mono ?_
        rw [decide_eq_true HK.out]
        rintro e w1 ⟨rfl, rfl⟩
        go_wp2_with fail
        go_ret
        exact ⟨ret_bool HV.out.symm, BW.out _ _⟩
    · have hv : validN d k ms b = false := by unfold validN; rw [decide_eq_false hk]; simp
      have HV := Lib.hid hv
      have HD := Lib.hid hd; have HK := Lib.hid hk
      clear hv hd hk
      go_enter Try.func16, Try.ntmps16
      go_wp2_with fail
      refine (in_c _ _ _ _).mono ?_
      rw [decide_eq_true HD.out]
      rintro e w1 ⟨rfl, rfl⟩
      go_wp2_with fail
      refine (in_c _ _ _ _).mono ?_
      rw [decide_eq_false HK.out]
      rintro e w1 ⟨rfl, rfl⟩
      go_wp2_with fail
      go_ret
      exact ⟨ret_bool HV.out.symm, BW.out _ _⟩
  · have hv : validN d k ms b = false := by unfold validN; rw [decide_eq_false hd]; simp
    have HV := Lib.hid hv
    have HD := Lib.hid hd
    clear hv hd
    go_enter Try.func16, Try.ntmps16
    go_wp2_with fail
    refine (in_c _ _ _ _).mono ?_
    rw [decide_eq_false HD.out]
    rintro e w1 ⟨rfl, rfl⟩
    go_wp2_with fail
    go_ret
    exact ⟨ret_bool HV.out.symm, BW.out _ _⟩
theorem quiet_l {P : Program} {f : FuncId} {args : Array Value} {w : World} {n : Nat} {v : Value}
    (h : Calls P f args (w.drewN n) fun e w' => e = .returned v ∧ w.drewN n = w') : Calls P f args (w.drewN n) fun e w'' => e = .returned v ∧ ∃ m, w'' = w.drewN m :=
  h.mono fun _ _ ⟨he, hm⟩ => ⟨he, n, hm.symm⟩
theorem quiet_add_l {P : Program} {f : FuncId} {args : Array Value} {w : World} {a n : Nat} {v : Value}
    (h : Calls P f args (w.drewN (a + n)) fun e w' => e = .returned v ∧ w.drewN (a + n) = w') :
    Calls P f args (w.drewN (a + n)) fun e w'' => e = .returned v ∧ ∃ m, w'' = w.drewN (a + m) :=
  h.mono fun _ _ ⟨he, hm⟩ => ⟨he, n, hm.symm⟩
theorem firstZero_get (l : List Int) (h : 0 < l.length) : firstZero l = decide (l[0] = 0) := by
  cases l with
  | nil => simp at h
  | cons x l => rfl
theorem firstZero_take_pos (l : List Int) (j : Nat) (h : 0 < j) : firstZero (l.take j) = firstZero l := by
  cases l with
  | nil => simp
  | cons x l =>
    obtain ⟨i, rfl⟩ : ∃ i, j = i + 1 := ⟨j - 1, by omega⟩
    rfl
set_option maxRecDepth 100000 in
set_option maxHeartbeats 4000000 in
theorem marksFit_c (d k : Int) (ms : List Int) (b : Bool) (A : Option Addr) (n c : Nat) (w : World) (hN : ms.length = n) (h : Rd w A (ms.map (.int .i64))) (hn : n ≤ 1073741824) :
    Calls Try.prog 47 #[.agg #[.int .i64 d, .int .i64 k, .slice A n c, .bool b]] w fun e w' => e = .returned (.bool (markFit 0 k ms && firstZero ms)) ∧ Below w.heap.size w w' := by
  have HN := Lib.hid hN; clear hN
  have hbw : ∀ q cs t, Below w.heap.size w ((w.alloc (.cells cs t)).drewN q) := fun q cs t => below_drewN ((Below.refl _ _).alloc (Nat.le_refl _) _) q
  have BW := Lib.hid hbw
  have hbw2 : ∀ cs t, Below w.heap.size w (w.alloc (.cells cs t)) := fun cs t => (Below.refl _ _).alloc (Nat.le_refl _) _
  have BW2 := Lib.hid hbw2
  have hR := h.alloc (.cells #[.int .i64 d, .int .i64 k, .slice A n c, .bool b] 25)
  have H := Lib.hid hR
  obtain ⟨r, hr⟩ : ∃ r, r = (markFit 0 k ms && firstZero ms) := ⟨_, rfl⟩
  rw [← hr]
  have HR := Lib.hid hr
  clear h hR hbw hbw2 hr
  go_enter Try.func47, Try.ntmps47
  go_wp2_with fail
  go_loopw [3] (fun i wr => ∃ j q : Nat, j ≤ n ∧ i = .int .i64 j ∧ wr = (w.alloc (.cells #[.int .i64 d, .int .i64 k, .slice A n c, .bool b] 25)).drewN q ∧ markFit 0 k (ms.take j) = true ∧ firstZero (ms.take j) = true) (fun i _ => n - (intOf i).toNat)
  case atStart => exact ⟨0, 0, Nat.zero_le _, rfl, rfl, rfl, rfl⟩
  case round =>
    obtain ⟨j, q, hj, rfl, rfl, hm, hz⟩ := hrel
    have HM := Lib.hid hm; have HZ := Lib.hid hz
    clear hm hz
    by_cases hlt : j < n
    · have hjm : j < ms.length := by have := HN.out; omega
      obtain ⟨b0, off, hA, hc⟩ := H.out (by simp; omega)
      subst hA
      obtain ⟨x, hX⟩ : ∃ x, x = ms[j] := ⟨_, rfl⟩
      obtain ⟨x0, hX0⟩ : ∃ x, x = ms[0]'(by omega) := ⟨_, rfl⟩
      have hx := hc j (.int .i64 x) (by simp [hX, hjm])
      have hx0 := hc 0 (.int .i64 x0) (by rw [List.getElem?_map, List.getElem?_eq_getElem (by omega), hX0]; rfl)
      rw [Nat.add_zero] at hx0
      have hst := markFit_take_succ k 0 ms j hjm HM.out
      have hfz := firstZero_get ms (by omega)
      rw [← hX] at hst
      rw [← hX0] at hfz
      have HST := Lib.hid hst; have HX := Lib.hid hX; have HX0 := Lib.hid hX0; have HFZ := Lib.hid hfz
      have hcall : ∀ W : World, Calls Try.prog 46 #[.int .i64 x, .int .i64 0, .int .i64 k] W fun e w' => e = .returned (.bool (decide (0 ≤ x ∧ x ≤ k))) ∧ W = w' := fun W => inRange_c x 0 k W
      by_cases hin : 0 ≤ x ∧ x ≤ k
      · rw [decide_eq_true hin] at hcall
        have HC := Lib.hid hcall
        have HIN := Lib.hid hin
        clear hcall hin hst hX hX0 hfz
        rcases Nat.eq_zero_or_pos j with h0 | h0
        · subst h0
          rw [Nat.add_zero] at hx
          obtain rfl : x = x0 := by rw [HX.out, HX0.out]
          by_cases hx00 : x = 0
          · subst hx00
            have hrel2 : markFit 0 k (ms.take 1) = true ∧ firstZero (ms.take 1) = true := by
              refine ⟨?_, ?_⟩
              · rw [HST.out]; simp only [before, if_true]; exact decide_eq_true HIN.out
              · rw [firstZero_take_pos ms 1 (by omega), HFZ.out]; rfl
            have HREL := Lib.hid hrel2
            clear hrel2 hx0 hc
            go_wp2
            go_quiet ((first | (go_at_call 46; exact quiet_add_l (HC.out _)) | (go_at_call 46; exact quiet_l (HC.out _))))
            go_wp2
            go_roundw
            case rel => exact ⟨1, _, by omega, by go_num, rfl, HREL.out⟩
            case measure => simp [intOf]; omega
          · have hne : (x != 0) = true := by simpa using hx00
            have hr' : r = false := by rw [HR.out, HFZ.out, decide_eq_false hx00]; simp
            have HR' := Lib.hid hr'
            clear hr' hx00 hx0 hc
            go_wp2
            go_quiet ((first | (go_at_call 46; exact quiet_add_l (HC.out _)) | (go_at_call 46; exact quiet_l (HC.out _))))
            go_wp2
            go_ret
            rw [HR'.out]
            exact ⟨rfl, below_drewN (BW.out _ _ _) _⟩
        · have hj0 : ((j : Int) == 0) = false := beq_eq_false_iff_ne.2 (by omega)
          have hj1 : decide ((0 : Int) < (j : Int)) = true := decide_eq_true (by omega)
          have hj2 : decide (0 < j) = true := decide_eq_true h0
          obtain ⟨y, hY⟩ : ∃ y, y = ms[j - 1]'(by omega) := ⟨_, rfl⟩
          have hy := hc (j - 1) (.int .i64 y) (by rw [List.getElem?_map, List.getElem?_eq_getElem (by omega), hY]; rfl)
          have hbf : before 0 ms j = y := by
            unfold before
            rw [if_neg (by omega), hY]
            simp [List.getD, show j - 1 < ms.length by omega]
          have hw : IntKind.i64.wrap ((j : Int) - 1) = (j : Int) - 1 := IntWalk.i64_in _ ⟨by omega, by omega⟩
          have hw1 : (0 : Int) ≤ (j : Int) - 1 := by omega
          have hw2 : ((j : Int) - 1).toNat = j - 1 := by omega
          have hw3 : (1 : Int) ≤ (j : Int) := by omega
          have HBF := Lib.hid hbf
          by_cases hlx : x < y
          · have hd : decide (x < y) = true := decide_eq_true hlx
            have hr' : r = false := by
              rw [HR.out, markFit_false k 0 ms (j + 1) (by rw [HST.out, HBF.out]; exact decide_eq_false (by omega))]; rfl
            have HR' := Lib.hid hr'
            clear hr' hx0 hc hY hbf hlx
            go_wp2
            go_quiet ((first | (go_at_call 46; exact quiet_add_l (HC.out _)) | (go_at_call 46; exact quiet_l (HC.out _))))
            go_wp2
            go_ret
            rw [HR'.out]
            exact ⟨rfl, below_drewN (BW.out _ _ _) _⟩
          · have hd : decide (x < y) = false := decide_eq_false hlx
            have hrel2 : markFit 0 k (ms.take (j + 1)) = true ∧ firstZero (ms.take (j + 1)) = true := by
              refine ⟨?_, ?_⟩
              · rw [HST.out, HBF.out]; exact decide_eq_true ⟨by omega, HIN.out.2⟩
              · rw [firstZero_take_pos ms (j + 1) (by omega), ← firstZero_take_pos ms j h0]; exact HZ.out
            have HREL := Lib.hid hrel2
            clear hrel2 hx0 hc hY hbf hlx
            go_wp2
            go_quiet ((first | (go_at_call 46; exact quiet_add_l (HC.out _)) | (go_at_call 46; exact quiet_l (HC.out _))))
            clear hw hw2
            go_wp2
            go_roundw
            case rel => exact ⟨j + 1, _, by omega, by go_num, rfl, HREL.out⟩
            case measure => simp [intOf]; omega
      · have hr' : r = false := by
          have : markFit 0 k ms = false := by
            cases hm : markFit 0 k ms with
            | false => rfl
            | true =>
              have := markFit_mem 0 k ms hm ms[j] (List.getElem_mem hjm)
              rw [← hX] at this
              exact absurd this hin
          rw [HR.out, this]; rfl
        rw [decide_eq_false hin] at hcall
        have HC := Lib.hid hcall
        have HR' := Lib.hid hr'
        clear hr' hx0 hc hcall hin hst hX hX0 hfz
        go_wp2
        go_quiet ((first | (go_at_call 46; exact quiet_add_l (HC.out _)) | (go_at_call 46; exact quiet_l (HC.out _))))
        go_wp2
        go_ret
        rw [HR'.out]
        exact ⟨rfl, below_drewN (BW.out _ _ _) _⟩
    · obtain rfl : j = n := by omega
      have hm := HM.out
      have hz := HZ.out
      rw [List.take_of_length_le (by rw [HN.out]; exact Nat.le_refl _)] at hm hz
      have hr' : r = true := by rw [HR.out, hm, hz]; rfl
      have HR' := Lib.hid hr'
      clear hm hz hr'
      go_wp2
      go_ret
      rw [HR'.out]
      exact ⟨rfl, BW.out _ _ _⟩
end Go.Proofs.Ytagmhmhhjkfhgaa
