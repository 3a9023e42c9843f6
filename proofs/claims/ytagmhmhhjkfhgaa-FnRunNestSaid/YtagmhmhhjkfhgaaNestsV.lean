/- Contracts on the states of nests: validity, by the reference. -/
import Derived.Test.YtagmhmhhjkfhgaaNests
set_option linter.unusedVariables false
set_option linter.unusedSimpArgs false
set_option linter.unnecessarySimpa false
namespace Go.Proofs.Ytagmhmhhjkfhgaa
open Go.RowKit

set_option maxRecDepth 100000 in
set_option maxHeartbeats 2000000 in
theorem validState_c (d k : Int) (ms : List Int) (b : Bool) (A : Option Addr) (n c : Nat) (w : World) (hN : ms.length = n) (h : Rd w A (ms.map (.int .i64))) (hn : n ≤ 1073741824) :
    Calls Try.prog 34 #[.agg #[.int .i64 d, .int .i64 k, .slice A n c, .bool b]] w fun e w' => e = .returned (.bool (validN d k ms b)) ∧ Below w.heap.size w w' := by
  have hbw : ∀ cs t, Below w.heap.size w (w.alloc (.cells cs t)) := fun cs t => (Below.refl _ _).alloc (Nat.le_refl _) _
  have BW := Lib.hid hbw
  obtain ⟨r, hr⟩ : ∃ r, r = validN d k ms b := ⟨_, rfl⟩
  rw [← hr]
  have HR := Lib.hid hr
  have HMF := Lib.hid (marksFit_c d k ms b A n c (w.alloc (.cells #[.int .i64 d, .int .i64 k, .slice A n c, .bool b] 25)) hN (h.alloc _) hn)
  have HN := Lib.hid hN; clear hN h hbw hr
  by_cases hd : 0 ≤ d ∧ d ≤ 4
  · by_cases hl : (n : Int) = d
    · subst hl
      have heq : ((n : Int) == (n : Int)) = true := by simp
      by_cases hk : 0 ≤ k ∧ k ≤ 12
      · have hr' : r = ((markFit 0 k ms && firstZero ms) && (decide (0 < n) || (decide (k = 0) && !b))) := by
          rw [HR.out, Bool.and_assoc]
          unfold validN
          rw [HN.out, decide_eq_true hd, decide_eq_true hk]
          simp
        have HR' := Lib.hid hr'
        obtain ⟨m, hm⟩ : ∃ m, m = (markFit 0 k ms && firstZero ms) := ⟨_, rfl⟩
        have HMF2 := HMF.out
        rw [← hm] at HMF2 hr'
        have HR' := Lib.hid hr'
        have HMF := Lib.hid HMF2
        have HD := Lib.hid hd; have HK := Lib.hid hk
        clear hr' HMF2 hm hd hk heq
        cases m
        · go_enter Try.func34, Try.ntmps34
          go_wp2_with fail
          refine (inRange_c _ _ _ _).mono ?_
          rw [decide_eq_true HD.out]
          rintro e w1 ⟨rfl, rfl⟩
          go_wp2_with fail
          refine (inRange_c _ _ _ _).mono ?_
          rw [decide_eq_true HK.out]
          rintro e w1 ⟨rfl, rfl⟩
          go_wp2_with fail
          refine HMF.out.mono ?_
          rintro e w1 ⟨rfl, b1⟩
          go_wp2_with fail
          go_ret
          exact ⟨ret_bool (by rw [HR'.out]; rfl), (BW.out _ _).trans (b1.mono (BW.out _ _).size)⟩
        · rcases Nat.eq_zero_or_pos n with h0 | h0
          · subst h0
            by_cases hk0 : k = 0
            · subst hk0
              cases b
              all_goals
                go_enter Try.func34, Try.ntmps34
                go_wp2_with fail
                refine (inRange_c _ _ _ _).mono ?_
                rw [decide_eq_true (by omega)]
                rintro e w1 ⟨rfl, rfl⟩
                go_wp2_with fail
                refine (inRange_c _ _ _ _).mono ?_
                rw [decide_eq_true (by omega)]
                rintro e w1 ⟨rfl, rfl⟩
                go_wp2_with fail
                refine HMF.out.mono ?_
                rintro e w1 ⟨rfl, b1⟩
                have hc : ∀ j, j < 4 → w1.cell? ⟨w.heap.size, j, none⟩ = (w.alloc (.cells #[.int .i64 ((0 : Nat) : Int), .int .i64 0, .slice A 0 c, .bool _] 25)).cell? ⟨w.heap.size, j, none⟩ := fun j _ => b1.cell (p := ⟨w.heap.size, j, none⟩) (by simp)
                have h0 := (hc 0 (by omega)).trans (cell_new w _ _ 0)
                have h1 := (hc 1 (by omega)).trans (cell_new w _ _ 1)
                have h3 := (hc 3 (by omega)).trans (cell_new w _ _ 3)
                clear hc
                simp at h0 h1 h3
                go_wp2_with fail
                go_ret
                exact ⟨ret_bool (by rw [HR'.out]; rfl), (BW.out _ _).trans (b1.mono (BW.out _ _).size)⟩
            · have hk0' : (k == 0) = false := beq_eq_false_iff_ne.2 hk0
              have hr2 : r = false := by rw [HR'.out]; simp [hk0]
              have HR2 := Lib.hid hr2
              clear hr2 hk0
              go_enter Try.func34, Try.ntmps34
              go_wp2_with fail
              refine (inRange_c _ _ _ _).mono ?_
              rw [decide_eq_true (by omega)]
              rintro e w1 ⟨rfl, rfl⟩
              go_wp2_with fail
              refine (inRange_c _ _ _ _).mono ?_
              rw [decide_eq_true HK.out]
              rintro e w1 ⟨rfl, rfl⟩
              go_wp2_with fail
              refine HMF.out.mono ?_
              rintro e w1 ⟨rfl, b1⟩
              have hc : ∀ j, j < 4 → w1.cell? ⟨w.heap.size, j, none⟩ = (w.alloc (.cells #[.int .i64 ((0 : Nat) : Int), .int .i64 k, .slice A 0 c, .bool _] 25)).cell? ⟨w.heap.size, j, none⟩ := fun j _ => b1.cell (p := ⟨w.heap.size, j, none⟩) (by simp)
              have h0 := (hc 0 (by omega)).trans (cell_new w _ _ 0)
              have h1 := (hc 1 (by omega)).trans (cell_new w _ _ 1)
              have h3 := (hc 3 (by omega)).trans (cell_new w _ _ 3)
              clear hc
              simp at h0 h1 h3
              go_wp2_with fail
              go_ret
              exact ⟨ret_bool HR2.out.symm, (BW.out _ _).trans (b1.mono (BW.out _ _).size)⟩
          · have hr2 : r = true := by rw [HR'.out]; simp [h0]
            have HR2 := Lib.hid hr2
            clear hr2
            go_enter Try.func34, Try.ntmps34
            go_wp2_with fail
            refine (inRange_c _ _ _ _).mono ?_
            rw [decide_eq_true HD.out]
            rintro e w1 ⟨rfl, rfl⟩
            go_wp2_with fail
            refine (inRange_c _ _ _ _).mono ?_
            rw [decide_eq_true HK.out]
            rintro e w1 ⟨rfl, rfl⟩
            go_wp2_with fail
            refine HMF.out.mono ?_
            rintro e w1 ⟨rfl, b1⟩
            have hc : ∀ j, j < 4 → w1.cell? ⟨w.heap.size, j, none⟩ = (w.alloc (.cells #[.int .i64 (n : Int), .int .i64 k, .slice A n c, .bool _] 25)).cell? ⟨w.heap.size, j, none⟩ := fun j _ => b1.cell (p := ⟨w.heap.size, j, none⟩) (by simp)
            have h0 := (hc 0 (by omega)).trans (cell_new w _ _ 0)
            have h1 := (hc 1 (by omega)).trans (cell_new w _ _ 1)
            have h3 := (hc 3 (by omega)).trans (cell_new w _ _ 3)
            clear hc
            simp at h0 h1 h3
            go_wp2_with fail
            go_ret
            exact ⟨ret_bool HR2.out.symm, (BW.out _ _).trans (b1.mono (BW.out _ _).size)⟩
      · have hr2 : r = false := by rw [HR.out]; unfold validN; rw [decide_eq_false hk]; simp
        have HR2 := Lib.hid hr2
        have HD := Lib.hid hd; have HK := Lib.hid hk
        clear hr2 hd hk heq
        go_enter Try.func34, Try.ntmps34
        go_wp2_with fail
        refine (inRange_c _ _ _ _).mono ?_
        rw [decide_eq_true HD.out]
        rintro e w1 ⟨rfl, rfl⟩
        go_wp2_with fail
        refine (inRange_c _ _ _ _).mono ?_
        rw [decide_eq_false HK.out]
        rintro e w1 ⟨rfl, rfl⟩
        go_wp2_with fail
        go_ret
        exact ⟨ret_bool HR2.out.symm, BW.out _ _⟩
    · have heq : ((n : Int) == d) = false := beq_eq_false_iff_ne.2 hl
      have hr2 : r = false := by rw [HR.out]; unfold validN; rw [HN.out, decide_eq_false hl]; simp
      have HR2 := Lib.hid hr2
      have HD := Lib.hid hd
      clear hr2 hd hl
      go_enter Try.func34, Try.ntmps34
      go_wp2_with fail
      refine (inRange_c _ _ _ _).mono ?_
      rw [decide_eq_true HD.out]
      rintro e w1 ⟨rfl, rfl⟩
      go_wp2_with fail
      go_ret
      exact ⟨ret_bool HR2.out.symm, BW.out _ _⟩
  · have hr2 : r = false := by rw [HR.out]; unfold validN; rw [decide_eq_false hd]; simp
    have HR2 := Lib.hid hr2
    have HD := Lib.hid hd
    clear hr2 hd
    go_enter Try.func34, Try.ntmps34
    go_wp2_with fail
    refine (inRange_c _ _ _ _).mono ?_
    rw [decide_eq_false HD.out]
    rintro e w1 ⟨rfl, rfl⟩
    go_wp2_with fail
    go_ret
    exact ⟨ret_bool HR2.out.symm, BW.out _ _⟩
end Go.Proofs.Ytagmhmhhjkfhgaa
